/- Walk of leaf of package proof. Conditions: how the checker, the program and the proof lie in memory; sizes; that the rows' numbers are bounded. -/
import Derived.Test.YtppfdjjhloaopaaPfL
import Derived.Test.YtppfdjjhloaopaaPw11
import Derived.Test.YtppfdjjhloaopaaBlkB
import Derived.StillTail
import Derived.Maps.Range
import Derived.StillTailTactics
namespace Go.Proofs.Ytppfdjjhloaopaa
open Go.RowKit

/-- what a leaf leaves -/
def LeafQ (bm n : Nat) (ks : List Int) (ok : Bool) (at_ : Int) (k' : Nat) (us : List Int) (w : World) (e : Ending) (w' : World) : Prop :=
  w.grownBy w' (some bm) ∧ ((ok = true ∧ e = .returned (.tuple #[]) ∧ OwnM w' bm (n + k') (ks ++ us)) ∨ (ok = false ∧ e = .panicked (wrongC at_)))

set_option maxRecDepth 20000 in
set_option maxHeartbeats 4000000 in
theorem leaf_any (rows : List RowD) (l : List StepD) (dec : List Int) (hl : dec.length ≤ 12) (hro : RowsOk rows dec.length) (hrl : rows.length ≤ 1000) (a : Nat) (ha : a < l.length) (_ : l.length ≤ 1000000)
    (bc bm n : Nat) (ks : List Int) (hn : n < 900000) (rv sv : Value) (w : World) (hC : Blk w bc [.int .i64 dec.length, rv, sv, .map (some bm)] 101) (hr : RowsAt w rv rows) (hs : StepsIn w.cell? sv l) (hm : OwnM w bm n ks) :
    Calls Try.prog 84 #[.pointer (some ⟨bc, 0, none⟩), .int .i64 a, decV (encD dec)] w (LeafQ bm n ks (leafB rows (l.getD a st0) dec) a 8 ((l.getD a st0).wts.map (·.1)) w) := by
  have hr' := hr
  obtain ⟨sa, sc, rfl, -, hsm, hsk⟩ := hs
  obtain ⟨ra, rc, rfl, -, hrm, hrk⟩ := hr'
  obtain ⟨sb, so, wv, rfl, hS⟩ := hsk a ha
  obtain ⟨s0, s1, s2, s3, hW⟩ := hS
  have hW' := hW
  obtain ⟨wa, wc, rfl, -, hwm, hwk⟩ := hW'
  have hlb : leafB rows (l.getD a st0) dec = (decide ((l.getD a st0).no = 0) && decide ((l.getD a st0).yes = 0) && isInB 1 (l.getD a st0).wts.length 8 && okWts rows.length (l.getD a st0).wts (l.getD a st0).wts.length && decide (mostW rows (l.getD a st0).wts (l.getD a st0).wts.length < minK rows (l.getD a st0).wts dec dec.length)) := by
    unfold leafB isInB
    rw [Bool.eq_iff_iff]; simp only [Bool.and_eq_true, decide_eq_true_eq]
    constructor
    · rintro ⟨⟨⟨⟨⟨h1, h2⟩, h3⟩, h4⟩, h5⟩, h6⟩; exact ⟨⟨⟨⟨h1, h2⟩, by omega, by omega⟩, h5⟩, h6⟩
    · rintro ⟨⟨⟨⟨h1, h2⟩, h3, h4⟩, h5⟩, h6⟩; exact ⟨⟨⟨⟨⟨h1, h2⟩, by omega⟩, by omega⟩, h5⟩, h6⟩
  generalize leafB rows (l.getD a st0) dec = LB at hlb ⊢
  generalize l.getD a st0 = s at *
  obtain ⟨svr, sno, sye, ws⟩ := s
  dsimp only at *
  have hwk : ∀ k, k < ws.length → ∃ b o, wa = some ⟨b, o, none⟩ ∧ w.cell? ⟨b, o + k * 2, none⟩ = some (.int .i64 (ws.getD k wt0).1) ∧ w.cell? ⟨b, o + k * 2 + 1, none⟩ = some (.int .i64 (ws.getD k wt0).2) := hwk
  have HL := hide hlb
  have c0 := hC.cell 0 rfl
  have c1 := hC.cell 1 rfl
  have c2 := hC.cell 2 rfl
  have c3 := hC.cell 3 rfl
  have hlc := hC.lt
  have hls := lt_of_cell s0
  have had : decide (a < l.length) = true := by simpa using ha
  clear hlb hsk
  show Calls _ _ #[_, _, .agg #[.int .i64 ((encD dec).getD 0 0), .int .i64 ((encD dec).getD 1 0), .int .i64 ((encD dec).getD 2 0), .int .i64 ((encD dec).getD 3 0), .int .i64 ((encD dec).getD 4 0), .int .i64 ((encD dec).getD 5 0), .int .i64 ((encD dec).getD 6 0), .int .i64 ((encD dec).getD 7 0), .int .i64 ((encD dec).getD 8 0), .int .i64 ((encD dec).getD 9 0), .int .i64 ((encD dec).getD 10 0), .int .i64 ((encD dec).getD 11 0)]] _ _
  have HD : Hid (∀ k, k < 12 → ([.int .i64 ((encD dec).getD 0 0), .int .i64 ((encD dec).getD 1 0), .int .i64 ((encD dec).getD 2 0), .int .i64 ((encD dec).getD 3 0), .int .i64 ((encD dec).getD 4 0), .int .i64 ((encD dec).getD 5 0), .int .i64 ((encD dec).getD 6 0), .int .i64 ((encD dec).getD 7 0), .int .i64 ((encD dec).getD 8 0), .int .i64 ((encD dec).getD 9 0), .int .i64 ((encD dec).getD 10 0), .int .i64 ((encD dec).getD 11 0)] : List Value)[k]? = some (.int .i64 ((encD dec).getD k 0))) := hide (fun k h => decL_get (encD dec) h)
  generalize (encD dec).getD 0 0 = d0 at HD ⊢
  generalize (encD dec).getD 1 0 = d1 at HD ⊢
  generalize (encD dec).getD 2 0 = d2 at HD ⊢
  generalize (encD dec).getD 3 0 = d3 at HD ⊢
  generalize (encD dec).getD 4 0 = d4 at HD ⊢
  generalize (encD dec).getD 5 0 = d5 at HD ⊢
  generalize (encD dec).getD 6 0 = d6 at HD ⊢
  generalize (encD dec).getD 7 0 = d7 at HD ⊢
  generalize (encD dec).getD 8 0 = d8 at HD ⊢
  generalize (encD dec).getD 9 0 = d9 at HD ⊢
  generalize (encD dec).getD 10 0 = d10 at HD ⊢
  generalize (encD dec).getD 11 0 = d11 at HD ⊢
  by_cases h1 : sno = 0
  · by_cases h2 : sye = 0
    · subst h1
      subst h2
      generalize h3 : isInB 1 ws.length 8 = ok3 at HL
      have HI := hide (fun (W : World) => isInP_eq ws.length 1 8 W)
      rw [h3] at HI
      have HB3 := hide h3
      clear h3
      cases ok3
      · go_enter Try.func84, Try.ntmps84
        go_wp2_with fail
        generalize hX1 : World.alloc w _ = X1
        have zX1 : X1.heap.size = w.heap.size + 1 := by rw [← hX1]; simp
        have bX1 : Below w.heap.size w X1 := by rw [← hX1]; exact bal w _
        have bD_1 : Blk X1 (w.heap.size) [.int .i64 d0, .int .i64 d1, .int .i64 d2, .int .i64 d3, .int .i64 d4, .int .i64 d5, .int .i64 d6, .int .i64 d7, .int .i64 d8, .int .i64 d9, .int .i64 d10, .int .i64 d11] 105 := by rw [← hX1]; exact Blk.newA w _ (by first | rfl | simp)
        generalize hX2 : World.alloc X1 _ = X2
        have zX2 : X2.heap.size = w.heap.size + 1 + 1 := by rw [← hX2]; simp [zX1]
        have bX2 : Below X1.heap.size X1 X2 := by rw [← hX2]; exact bal X1 _
        have bS : Blk X2 (w.heap.size + 1) [.int .i64 svr, .int .i64 0, .int .i64 0, .slice wa ws.length wc] 54 := by rw [← hX2, ← zX1]; exact Blk.newA X1 _ (by first | rfl | simp)
        have bD := bD_1.later bX2
        have Xb := below2 (bX1) bX2
        have Xz := zX2
        clear hX1 zX1 bX1 hX2 zX2 bX2 bD_1
        refine (HI.out _).mono ?_
        rintro e w1 ⟨rfl, hw⟩
        rw [hw]
        clear hw w1
        go_wp2_with fail
        refine (need_no _ _).mono ?_
        rintro e w1 ⟨rfl, hw⟩
        rw [hw]
        clear hw w1
        exact ⟨rfl, Grown.of Xb _, .inr ⟨by rw [HL.out]; simp, rfl⟩⟩
      · go_enter Try.func84, Try.ntmps84
        go_wp2_with fail
        generalize hX1 : World.alloc w _ = X1
        have zX1 : X1.heap.size = w.heap.size + 1 := by rw [← hX1]; simp
        have bX1 : Below w.heap.size w X1 := by rw [← hX1]; exact bal w _
        have bD_1 : Blk X1 (w.heap.size) [.int .i64 d0, .int .i64 d1, .int .i64 d2, .int .i64 d3, .int .i64 d4, .int .i64 d5, .int .i64 d6, .int .i64 d7, .int .i64 d8, .int .i64 d9, .int .i64 d10, .int .i64 d11] 105 := by rw [← hX1]; exact Blk.newA w _ (by first | rfl | simp)
        generalize hX2 : World.alloc X1 _ = X2
        have zX2 : X2.heap.size = w.heap.size + 1 + 1 := by rw [← hX2]; simp [zX1]
        have bX2 : Below X1.heap.size X1 X2 := by rw [← hX2]; exact bal X1 _
        have bS : Blk X2 (w.heap.size + 1) [.int .i64 svr, .int .i64 0, .int .i64 0, .slice wa ws.length wc] 54 := by rw [← hX2, ← zX1]; exact Blk.newA X1 _ (by first | rfl | simp)
        have bD := bD_1.later bX2
        have Xb := below2 (bX1) bX2
        have Xz := zX2
        clear hX1 zX1 bX1 hX2 zX2 bX2 bD_1
        refine (HI.out _).mono ?_
        rintro e w1 ⟨rfl, hw⟩
        rw [hw]
        clear hw w1
        go_wp2_with fail
        refine (need_yes _ _).mono ?_
        rintro e w1 ⟨rfl, hw⟩
        rw [hw]
        clear hw w1
        have q3 := bS.cell 3 rfl
        have qlt := bS.lt
        go_wp2_with fail
        generalize hY1 : World.alloc X2 _ = Y1
        have zY1 : Y1.heap.size = X2.heap.size + 1 := by rw [← hY1]; simp
        have bY1 : Below X2.heap.size X2 Y1 := by rw [← hY1]; exact bal X2 _
        have bZ : Blk Y1 (X2.heap.size) [.int .i64 0, .int .i64 0, .int .i64 0, .int .i64 0, .int .i64 0, .int .i64 0, .int .i64 0, .int .i64 0, .int .i64 0, .int .i64 0, .int .i64 0, .int .i64 0] 104 := by rw [← hY1]; exact Blk.newA X2 _ (by first | rfl | simp)
        have Yb := bY1
        have Yz := zY1
        clear hY1 zY1 bY1
        have hbY := below2 Xb Yb
        have bD1 := bD.later Yb
        have hm1 := hm.later hbY
        have bZ1 : Blk Y1 (w.heap.size + 1 + 1) (decL (sumsP rows ws dec.length 0 0)) 104 := by rw [sumsP_zero, ← Xz]; exact bZ
        have hmlt := hm.lt
        have hk8 : ws.length ≤ 8 := by have := HB3.out; simp [isInB] at this; omega
        clear bZ bD bS Xb Xz Yb Yz q3 qlt
        go_loopw [8, 9, 43] (fun s8 s9 i wr => ∃ k : Nat, k ≤ ws.length ∧ i = .int .i64 k ∧ s8 = .int .i64 (mostW rows ws k) ∧ s9 = .int .i64 (lastW ws k) ∧ Hid (okWts rows.length ws k = true) ∧ w.grownBy wr (some bm) ∧
          Blk wr (w.heap.size + 1 + 1) (decL (sumsP rows ws dec.length k 0)) 104 ∧ Blk wr w.heap.size [.int .i64 d0, .int .i64 d1, .int .i64 d2, .int .i64 d3, .int .i64 d4, .int .i64 d5, .int .i64 d6, .int .i64 d7, .int .i64 d8, .int .i64 d9, .int .i64 d10, .int .i64 d11] 105 ∧ OwnM wr bm (n + k) (ks ++ (ws.take k).map (·.1))) (fun _ _ i _ => ws.length - (intOf i).toNat)
        case atStart => exact ⟨0, by omega, rfl, rfl, rfl, rfl, Grown.of hbY _, bZ1, bD1, by simpa using hm1⟩
        case round =>
          obtain ⟨k, hk, rfl, rfl, rfl, HOK, hG, hZ, hD, hM⟩ := hrel
          by_cases hlt : k < ws.length
          · obtain ⟨wb, wo, rfl, q0, q1⟩ := hwk k hlt
            have k0 := Grown.cell hm hG q0
            have k1 := Grown.cell hm hG q1
            have hlL := lastW_bd HOK.out
            have hmb := mostW_bd hro k HOK.out
            have HOI := hide (okWt_isIn HOK.out)
            have HOS := hide (okWts_succ rows.length ws k)
            have HTK := hide (takeW hlt)
            have hkd : decide (k < ws.length) = true := by simpa using hlt
            obtain ⟨L, hL⟩ : ∃ L, lastW ws k = L := ⟨_, rfl⟩
            obtain ⟨M, hMe⟩ : ∃ M, mostW rows ws k = M := ⟨_, rfl⟩
            rw [hL] at hlL HOI ⊢
            rw [hMe] at hmb ⊢
            obtain ⟨x, t, hp⟩ : ∃ x t, ws.getD k wt0 = (x, t) := ⟨_, _, rfl⟩
            rw [hp] at k0 k1 HOI HTK
            dsimp only at k0 k1 HOI HTK
            have r1 := Grown.cell hm hG c1
            have g1 := hide hG
            generalize hi1 : isInB (L + 1) x (rows.length - 1) = p1 at HOI
            generalize hi2 : isInB 1 t 1000 = p2 at HOI
            have H1 := hide (fun (W : World) => isInP_eq x (L + 1) (rows.length - 1) W)
            have H2 := hide (fun (W : World) => isInP_eq t 1 1000 W)
            rw [hi1] at H1
            rw [hi2] at H2
            have HI1 := hide hi1
            have HI2 := hide hi2
            have HP := hide hp
            have HLe := hide hL
            have HMe := hide hMe
            have wL : IntKind.i64.wrap (L + 1) = L + 1 := IntWalk.i64_in _ ⟨by omega, by omega⟩
            have wR : IntKind.i64.wrap ((rows.length : Int) - 1) = rows.length - 1 := IntWalk.i64_in _ ⟨by omega, by omega⟩
            clear hi1 hi2 hp hL hMe q0 q1 hG
            go_wp2_with fail
            generalize hZ1 : World.alloc wr _ = Z1
            have zZ1 : Z1.heap.size = wr.heap.size + 1 := by rw [← hZ1]; simp
            have bZ1 : Below wr.heap.size wr Z1 := by rw [← hZ1]; exact bal wr _
            have bW : Blk Z1 (wr.heap.size) [.int .i64 x, .int .i64 t] 56 := by rw [← hZ1]; exact Blk.newA wr _ (by first | rfl | simp)
            have Zb := bZ1
            have Zz := zZ1
            clear hZ1 zZ1 bZ1
            have x0 := bW.cell 0 rfl
            have x1 := bW.cell 1 rfl
            have x2 := keep Zb r1
            cases p1
            · refine wp_region_still_tail 17 (by kernel_rfl) (by kernel_rfl) ?_
              simp only [List.take_succ_cons, List.take_zero, List.drop_succ_cons, List.drop_zero]
              repeat (with_reducible refine wpStill_step (fun K hK => ?_) ; go_simp ; with_reducible refine hK _ ?_ ; clear hK K)
              with_reducible refine wpStill_step (fun K hK => ?_)
              go_simp
              refine ⟨_, (H1.out _), ?_⟩
              with_reducible refine hK _ ?_
              clear hK K
              repeat (with_reducible refine wpStill_step (fun K hK => ?_) ; go_simp ; with_reducible refine hK _ ?_ ; clear hK K)
              refine wpStill_nil ?_
              go_wp2_with fail
              refine (need_no _ _).mono ?_
              rintro e w1 ⟨rfl, hw⟩
              rw [hw]
              clear hw w1
              exact ⟨rfl, Grown.trans g1.out (Grown.of Zb.drew _), .inr ⟨by rw [HL.out, okWts_no (HOI.out.trans (by simp)) hlt]; simp, rfl⟩⟩
            · cases p2
              · refine wp_region_still_tail 17 (by kernel_rfl) (by kernel_rfl) ?_
                simp only [List.take_succ_cons, List.take_zero, List.drop_succ_cons, List.drop_zero]
                repeat (with_reducible refine wpStill_step (fun K hK => ?_) ; go_simp ; with_reducible refine hK _ ?_ ; clear hK K)
                with_reducible refine wpStill_step (fun K hK => ?_)
                go_simp
                refine ⟨_, (H1.out _), ?_⟩
                with_reducible refine hK _ ?_
                clear hK K
                repeat (with_reducible refine wpStill_step (fun K hK => ?_) ; go_simp ; with_reducible refine hK _ ?_ ; clear hK K)
                with_reducible refine wpStill_step (fun K hK => ?_)
                go_simp
                refine ⟨_, (H2.out _), ?_⟩
                with_reducible refine hK _ ?_
                clear hK K
                repeat (with_reducible refine wpStill_step (fun K hK => ?_) ; go_simp ; with_reducible refine hK _ ?_ ; clear hK K)
                refine wpStill_nil ?_
                go_wp2_with fail
                refine (need_no _ _).mono ?_
                rintro e w1 ⟨rfl, hw⟩
                rw [hw]
                clear hw w1
                exact ⟨rfl, Grown.trans g1.out (Grown.of Zb.drew _), .inr ⟨by rw [HL.out, okWts_no (HOI.out.trans (by simp)) hlt]; simp, rfl⟩⟩
              · refine wp_region_still_tail 17 (by kernel_rfl) (by kernel_rfl) ?_
                simp only [List.take_succ_cons, List.take_zero, List.drop_succ_cons, List.drop_zero]
                repeat (with_reducible refine wpStill_step (fun K hK => ?_) ; go_simp ; with_reducible refine hK _ ?_ ; clear hK K)
                with_reducible refine wpStill_step (fun K hK => ?_)
                go_simp
                refine ⟨_, (H1.out _), ?_⟩
                with_reducible refine hK _ ?_
                clear hK K
                repeat (with_reducible refine wpStill_step (fun K hK => ?_) ; go_simp ; with_reducible refine hK _ ?_ ; clear hK K)
                with_reducible refine wpStill_step (fun K hK => ?_)
                go_simp
                refine ⟨_, (H2.out _), ?_⟩
                with_reducible refine hK _ ?_
                clear hK K
                repeat (with_reducible refine wpStill_step (fun K hK => ?_) ; go_simp ; with_reducible refine hK _ ?_ ; clear hK K)
                refine wpStill_nil ?_
                go_wp2_with fail
                refine (need_yes _ _).mono ?_
                rintro e w1 ⟨rfl, hw⟩
                rw [hw]
                clear hw w1
                have HOK1 : Hid (okWts rows.length ws (k + 1) = true) := hide (by rw [HOS.out, HOK.out, HOI.out]; rfl)
                have hxp := okWt_parts (HOI.out.trans (by rfl))
                rw [HP.out] at hxp
                dsimp only at hxp
                obtain ⟨hx0, hx1, ht0, ht1⟩ := hxp
                obtain ⟨xn, rfl⟩ : ∃ xn : Nat, x = (xn : Int) := ⟨x.toNat, by omega⟩
                have hxn : xn < rows.length := by omega
                obtain ⟨rb, ro, cv, rfl, hRow⟩ := hrk xn hxn
                have hrw := hro _ (getD_mem rows xn (d := row0) hxn)
                have hKe : Keeps w.cell? Z1.cell? := (Grown.keeps hm g1.out).trans (keeps_of_below Zb)
                have hRow' := RowIn.keeps hKe hRow
                have HMS : Hid (mostW rows ws (k + 1) = M + t * (rows.getD xn row0).most) := hide (by rw [← HMe.out]; simp only [mostW]; rw [HP.out]; rfl)
                have hmb1 := mostW_bd hro (k + 1) HOK1.out
                have HSB : Hid (∀ j i, i ≤ k + 1 → -8000000000000 ≤ sumW rows ws j i ∧ sumW rows ws j i ≤ 8000000000000) := hide (fun j i hi => by have := sumW_bd hro j i (okWts_le HOK1.out hi); omega)
                obtain ⟨r, hr⟩ : ∃ r, rows.getD xn row0 = r := ⟨_, rfl⟩
                rw [hr] at hrw hRow' HMS hRow
                have HRW := hide hRow.2.2.2.2.2.2
                have HR := hide hr
                clear hr hRow
                obtain ⟨-, -, -, -, R4, R5, RC⟩ := hRow'
                obtain ⟨hrl2, hrc2, hm1, hm2⟩ := hrw
                have hmm := mul_bd (M := 1000000000000) ⟨ht0, ht1⟩ ⟨hm1, hm2⟩ (by omega)
                rw [HMS.out] at hmb1
                have HC2 := hide hrc2
                obtain ⟨ca, cc, rfl, -, hcm, -⟩ := id RC
                have HRC := hide RC
                have HRL := hide hrl2
                have HCZ : Hid (∀ j, j < dec.length → ∀ b o, ca = some ⟨b, o, none⟩ → b ≠ w.heap.size + 1 + 1) := hide (fun j hj b o hca => by
                  obtain ⟨a', n', e', -, -, hcc⟩ := HRW.out
                  injection e' with e1 e2 e3
                  subst e1
                  obtain ⟨b', o', hca', hcl⟩ := hcc j (by rw [hrl2]; exact hj)
                  rw [hca] at hca'
                  cases hca'
                  have := lt_of_cell hcl
                  dsimp only at this
                  omega)
                clear RC hrc2
                rw [hrl2] at R4
                have e1 : IntKind.i64.wrap (t * r.most) = t * r.most := IntWalk.i64_in _ ⟨by omega, by omega⟩
                have e2 : IntKind.i64.wrap (M + t * r.most) = M + t * r.most := IntWalk.i64_in _ ⟨by omega, by omega⟩
                go_wp2_with fail
                go_region
                go_wp2_with fail
                go_region
                go_wp2_with fail
                obtain ⟨Z9, hZ9⟩ : ∃ Z9, Z1.drew.drew.drew = Z9 := ⟨_, rfl⟩
                rw [hZ9]
                have h19 : Below Z1.heap.size Z1 Z9 := by rw [← hZ9]; exact (((Below.refl _ _).drew).drew).drew
                have h09 := below2 Zb h19
                have bZk := hZ.later h09
                have bDk := hD.later h09
                have bWk := bW.later h19
                have hMk := hM.later h09
                have HRC9 := IntsIn.keeps (keeps_of_below h19) HRC.out
                have hmz := hm.lt
                have hbz := hZ.lt
                have g9 := Grown.trans g1.out (Grown.of h09 bm)
                have r19 := keep h09 r1
                rw [HRL.out] at HRC9
                clear hZ9 h19 Zb hZ hD hM bW r1 x0 x1 x2 R4 R5 H1 H2 HI1 HI2 HOI HOS HMe HLe HSB hmm hxn hmb hlL wL wR e1 e2
                have HSB2 : Hid (∀ j i, i ≤ k + 1 → -8000000000000 ≤ sumW rows ws j i ∧ sumW rows ws j i ≤ 8000000000000) := hide (fun j i hi => by have := sumW_bd hro j i (okWts_le HOK1.out hi); omega)
                refine leaf_in rows ws dec.length k hl xn t r HP.out HR.out HRL.out HC2.out ⟨ht0, ht1⟩ HSB2.out (w.heap.size + 1 + 1) wr.heap.size ca cc Z9 bZk bWk (by omega) HRC9 HCZ.out _ _ _ _ _ _ _ _ _ _ _ _ _ _ _ _ _ _ _ _ _ _ _ _ _ _ _ _ _ _ _ _ _ _ _ _ _ _ _ _ _ _ _ _ _ _ _ _ _ _ _ _ _ _ _ _ _ _ _ _ _ _ _ _ _ _ _ _ _ _ _ _ _ _ _ _ _ _ _ _ _ _ _ _ _ _ _ _ _ _ _ _ _ _ _ _ _ _ _ _ _ _ _ _ _ _ _ _ _ _ _ _ _ _ _ _ _ _ _ _ _ _ _ _ _ _ _ _ _ _ _ _ _ _ ?_
                intro t12 t13 t92 t93 t94 t95 t96 t97 t98 t99 t100 t101 t102 t103 t104 t105 wz bZz gZ
                have bDz : Blk wz w.heap.size _ _ := (gZ.block _ bDk.lt (by simp; omega)).trans bDk
                have bWz : Blk wz wr.heap.size _ _ := (gZ.block _ bWk.lt (by simp; omega)).trans bWk
                have hMz := hMk.kept gZ (by simp; omega)
                have gw : w.grownBy wz (some bm) := World.grownBy.andThen g9 gZ (fun j hj => .inl (by cases hj; omega))
                have c3z := Grown.cell hm gw c3
                have c0z := bWz.cell 0 rfl
                obtain ⟨wn, hput, hMn, gn⟩ := OwnM.put (w := wz.drew) hMz (x := xn) (by omega) (by omega) (by omega)
                go_wp2_with fail
                go_region
                have gw2 : w.grownBy wn (some bm) := Grown.trans (b := wz.drew) ⟨gw.os, gw.tape, gw.output, gw.size, gw.block⟩ gn
                have bZn : Blk wn (w.heap.size + 1 + 1) _ _ := (gn.block _ bZz.lt (by simp; omega)).trans bZz
                have bDn : Blk wn w.heap.size _ _ := (gn.block _ bDz.lt (by simp; omega)).trans bDz
                have HMn : Hid (OwnM wn bm (n + (k + 1)) (ks ++ (ws.take (k + 1)).map (·.1))) := hide (by rw [HTK.out, ← List.append_assoc, ← Nat.add_assoc]; exact hMn)
                have HLW : Hid (lastW ws (k + 1) = (xn : Int)) := hide (by rw [lastW_succ, HP.out])
                clear hMn gn gw g9 gZ hput hMz bZz bDz bWz c3z c0z hMk bDk bWk bZk r19 h09 HRC9 HTK HP HR HRC HRL HCZ HSB2 HRW hmb1
                go_wp2_with fail
                go_roundw
                case rel => exact ⟨k + 1, by omega, by go_num, by rw [HMS.out], by rw [HLW.out], HOK1.out, gw2, bZn, bDn, HMn.out⟩
                case measure => simp [intOf]; omega
          · obtain rfl : k = ws.length := by omega
            have HOKk := hide HOK.out
            have HPB : Hid (∀ k, k ≤ 12 → -100000000000000 ≤ addP (encD dec) (sumsP rows ws dec.length ws.length 0) k ∧ addP (encD dec) (sumsP rows ws dec.length ws.length 0) k ≤ 100000000000000) := hide (fun k hk => addP_bd rows dec.length hro ws dec hl HOK.out hk8 k hk)
            have HAM : Hid (addP (encD dec) (sumsP rows ws dec.length ws.length 0) 12 = minK rows ws dec dec.length) := hide (by rw [addP_min rows ws dec hl 12 (by omega)]; congr 1; omega)
            have hmb := mostW_bd hro ws.length HOK.out
            have HMF : Hid (OwnM wr bm (n + 8) (ks ++ ws.map (·.1))) := hide (by have := hM.mono (m := n + 8) (by omega); rwa [List.take_length] at this)
            have HSd : Hid (∀ k, k < 12 → (decL (sumsP rows ws dec.length ws.length 0))[k]? = some (.int .i64 ((sumsP rows ws dec.length ws.length 0).getD k 0))) := hide (fun k h => decL_get _ h)
            have hZ : Blk wr (w.heap.size + 1 + 1) [.int .i64 ((sumsP rows ws dec.length ws.length 0).getD 0 0), .int .i64 ((sumsP rows ws dec.length ws.length 0).getD 1 0), .int .i64 ((sumsP rows ws dec.length ws.length 0).getD 2 0), .int .i64 ((sumsP rows ws dec.length ws.length 0).getD 3 0), .int .i64 ((sumsP rows ws dec.length ws.length 0).getD 4 0), .int .i64 ((sumsP rows ws dec.length ws.length 0).getD 5 0), .int .i64 ((sumsP rows ws dec.length ws.length 0).getD 6 0), .int .i64 ((sumsP rows ws dec.length ws.length 0).getD 7 0), .int .i64 ((sumsP rows ws dec.length ws.length 0).getD 8 0), .int .i64 ((sumsP rows ws dec.length ws.length 0).getD 9 0), .int .i64 ((sumsP rows ws dec.length ws.length 0).getD 10 0), .int .i64 ((sumsP rows ws dec.length ws.length 0).getD 11 0)] 104 := hZ
            have HSd : Hid (∀ k, k < 12 → ([.int .i64 ((sumsP rows ws dec.length ws.length 0).getD 0 0), .int .i64 ((sumsP rows ws dec.length ws.length 0).getD 1 0), .int .i64 ((sumsP rows ws dec.length ws.length 0).getD 2 0), .int .i64 ((sumsP rows ws dec.length ws.length 0).getD 3 0), .int .i64 ((sumsP rows ws dec.length ws.length 0).getD 4 0), .int .i64 ((sumsP rows ws dec.length ws.length 0).getD 5 0), .int .i64 ((sumsP rows ws dec.length ws.length 0).getD 6 0), .int .i64 ((sumsP rows ws dec.length ws.length 0).getD 7 0), .int .i64 ((sumsP rows ws dec.length ws.length 0).getD 8 0), .int .i64 ((sumsP rows ws dec.length ws.length 0).getD 9 0), .int .i64 ((sumsP rows ws dec.length ws.length 0).getD 10 0), .int .i64 ((sumsP rows ws dec.length ws.length 0).getD 11 0)] : List Value)[k]? = some (.int .i64 ((sumsP rows ws dec.length ws.length 0).getD k 0))) := HSd
            generalize (sumsP rows ws dec.length ws.length 0).getD 0 0 = s0 at HSd hZ
            generalize (sumsP rows ws dec.length ws.length 0).getD 1 0 = s1 at HSd hZ
            generalize (sumsP rows ws dec.length ws.length 0).getD 2 0 = s2 at HSd hZ
            generalize (sumsP rows ws dec.length ws.length 0).getD 3 0 = s3 at HSd hZ
            generalize (sumsP rows ws dec.length ws.length 0).getD 4 0 = s4 at HSd hZ
            generalize (sumsP rows ws dec.length ws.length 0).getD 5 0 = s5 at HSd hZ
            generalize (sumsP rows ws dec.length ws.length 0).getD 6 0 = s6 at HSd hZ
            generalize (sumsP rows ws dec.length ws.length 0).getD 7 0 = s7 at HSd hZ
            generalize (sumsP rows ws dec.length ws.length 0).getD 8 0 = s8 at HSd hZ
            generalize (sumsP rows ws dec.length ws.length 0).getD 9 0 = s9 at HSd hZ
            generalize (sumsP rows ws dec.length ws.length 0).getD 10 0 = s10 at HSd hZ
            generalize (sumsP rows ws dec.length ws.length 0).getD 11 0 = s11 at HSd hZ
            obtain ⟨MM, hMM⟩ : ∃ MM, mostW rows ws ws.length = MM := ⟨_, rfl⟩
            rw [hMM] at hmb ⊢
            have HMM := hide hMM
            have gH := hide hG
            clear hM hMM HOK hG
            have z0 := hZ.cell 0 rfl
            have z1 := hZ.cell 1 rfl
            have z2 := hZ.cell 2 rfl
            have z3 := hZ.cell 3 rfl
            have z4 := hZ.cell 4 rfl
            have z5 := hZ.cell 5 rfl
            have z6 := hZ.cell 6 rfl
            have z7 := hZ.cell 7 rfl
            have z8 := hZ.cell 8 rfl
            have z9 := hZ.cell 9 rfl
            have z10 := hZ.cell 10 rfl
            have z11 := hZ.cell 11 rfl
            go_wp2_with fail
            clear z0 z1 z2 z3 z4 z5 z6 z7 z8 z9 z10 z11
            refine leaf_sum (encD dec) (sumsP rows ws dec.length ws.length 0) d0 d1 d2 d3 d4 d5 d6 d7 d8 d9 d10 d11 s0 s1 s2 s3 s4 s5 s6 s7 s8 s9 s10 s11 HD.out HSd.out HPB.out w.heap.size _ hD _ _ _ _ _ _ _ _ _ _ _ _ _ _ _ _ _ _ _ _ _ _ _ _ _ _ _ _ _ _ _ _ _ _ _ _ _ _ _ _ _ _ _ _ _ _ _ _ _ _ _ _ _ _ _ _ _ _ _ _ _ _ _ _ _ _ _ _ _ _ _ _ _ _ _ _ _ _ _ _ _ _ _ _ _ _ _ _ _ _ _ _ _ _ _ _ _ _ _ _ _ _ _ _ _ _ _ _ _ _ _ _ _ _ _ _ _ _ _ _ _ _ _ _ _ _ _ _ _ _ _ _ _ _ _ ?_
            intro t15 t16 t115 t116 t117 t118 t119 t120 t121 t122 t123 t124 t125 t126 t127 t128 t129 t130 t131 t132
            obtain ⟨AP, hAP⟩ : ∃ AP, addP (encD dec) (sumsP rows ws dec.length ws.length 0) 12 = AP := ⟨_, rfl⟩
            rw [hAP]
            rw [hAP] at HAM
            clear hAP
            by_cases hgt : MM < AP
            · go_wp2_with fail
              refine (need_yes _ _).mono ?_
              rintro e w1 ⟨rfl, hw⟩
              rw [hw]
              clear hw w1
              go_wp2_with fail
              first | go_end0 | skip
              exact ⟨gH.out, .inl ⟨by rw [HL.out, HMM.out, ← HAM.out, HOKk.out]; simp [hgt], rfl, HMF.out⟩⟩
            · go_wp2_with fail
              refine (need_no _ _).mono ?_
              rintro e w1 ⟨rfl, hw⟩
              rw [hw]
              clear hw w1
              exact ⟨rfl, gH.out, .inr ⟨by rw [HL.out, HMM.out, ← HAM.out]; simp [hgt], rfl⟩⟩
    · have h4 : (sye == 0) = false := by simpa using h2
      subst h1
      go_enter Try.func84, Try.ntmps84
      go_wp2_with fail
      generalize hX1 : World.alloc w _ = X1
      have zX1 : X1.heap.size = w.heap.size + 1 := by rw [← hX1]; simp
      have bX1 : Below w.heap.size w X1 := by rw [← hX1]; exact bal w _
      have bD_1 : Blk X1 (w.heap.size) [.int .i64 d0, .int .i64 d1, .int .i64 d2, .int .i64 d3, .int .i64 d4, .int .i64 d5, .int .i64 d6, .int .i64 d7, .int .i64 d8, .int .i64 d9, .int .i64 d10, .int .i64 d11] 105 := by rw [← hX1]; exact Blk.newA w _ (by first | rfl | simp)
      generalize hX2 : World.alloc X1 _ = X2
      have zX2 : X2.heap.size = w.heap.size + 1 + 1 := by rw [← hX2]; simp [zX1]
      have bX2 : Below X1.heap.size X1 X2 := by rw [← hX2]; exact bal X1 _
      have bS : Blk X2 (w.heap.size + 1) [.int .i64 svr, .int .i64 0, .int .i64 sye, .slice wa ws.length wc] 54 := by rw [← hX2, ← zX1]; exact Blk.newA X1 _ (by first | rfl | simp)
      have bD := bD_1.later bX2
      have Xb := below2 (bX1) bX2
      have Xz := zX2
      clear hX1 zX1 bX1 hX2 zX2 bX2 bD_1
      refine (need_no _ _).mono ?_
      rintro e w1 ⟨rfl, hw⟩
      rw [hw]
      clear hw w1
      exact ⟨rfl, Grown.of Xb _, .inr ⟨by rw [HL.out]; simp [h2], rfl⟩⟩
  · have h4 : (sno == 0) = false := by simpa using h1
    go_enter Try.func84, Try.ntmps84
    go_wp2_with fail
    generalize hX1 : World.alloc w _ = X1
    have zX1 : X1.heap.size = w.heap.size + 1 := by rw [← hX1]; simp
    have bX1 : Below w.heap.size w X1 := by rw [← hX1]; exact bal w _
    have bD_1 : Blk X1 (w.heap.size) [.int .i64 d0, .int .i64 d1, .int .i64 d2, .int .i64 d3, .int .i64 d4, .int .i64 d5, .int .i64 d6, .int .i64 d7, .int .i64 d8, .int .i64 d9, .int .i64 d10, .int .i64 d11] 105 := by rw [← hX1]; exact Blk.newA w _ (by first | rfl | simp)
    generalize hX2 : World.alloc X1 _ = X2
    have zX2 : X2.heap.size = w.heap.size + 1 + 1 := by rw [← hX2]; simp [zX1]
    have bX2 : Below X1.heap.size X1 X2 := by rw [← hX2]; exact bal X1 _
    have bS : Blk X2 (w.heap.size + 1) [.int .i64 svr, .int .i64 sno, .int .i64 sye, .slice wa ws.length wc] 54 := by rw [← hX2, ← zX1]; exact Blk.newA X1 _ (by first | rfl | simp)
    have bD := bD_1.later bX2
    have Xb := below2 (bX1) bX2
    have Xz := zX2
    clear hX1 zX1 bX1 hX2 zX2 bX2 bD_1
    refine (need_no _ _).mono ?_
    rintro e w1 ⟨rfl, hw⟩
    rw [hw]
    clear hw w1
    exact ⟨rfl, Grown.of Xb _, .inr ⟨by rw [HL.out]; simp [h1], rfl⟩⟩
end Go.Proofs.Ytppfdjjhloaopaa
