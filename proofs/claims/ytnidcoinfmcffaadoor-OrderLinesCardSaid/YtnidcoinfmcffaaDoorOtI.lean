/- chosen: a line of an order by numbers. Conditions: how the order and the numbers lie in memory; that integers are of 64 bits. -/
import Derived.Test.YtnidcoinfmcffaaDoorOtH
namespace Go.Proofs.YtnidcoinfmcffaaDoor
open Go.RowKit
attribute [local go_sem] Oper.semAt_some
def sliceN : Value → Nat
  | .slice _ k _ => k
  | _ => 0
theorem all_succ (f : Nat → Bool) (b : Nat) : (List.range (b + 1)).all f = ((List.range b).all f && f b) := by
  rw [List.range_succ, List.all_append, List.all_cons, List.all_nil, Bool.and_true]
theorem filt_succ (f : Nat → Bool) (a : Nat) : natsO ((List.range (a + 1)).filter f) = natsO ((List.range a).filter f) ++ if f a then [(a : Int)] else [] := by
  rw [List.range_succ, List.filter_append, List.filter_cons, List.filter_nil]
  unfold natsO
  rw [List.map_append]
  split <;> rfl
structure ChoG (w : World) (P n : Nat) (ps : List (Int × Int)) (xs : List Int) (pv xv : Value) (W : World) : Prop where
  bP : Blk W P [.int .i64 (n : Nat), pv] 25
  hp : PairsIn W.cell? pv ps
  hx : IntsIn W.cell? xv xs
  hb : Below w.heap.size w W
theorem ChoG.later {w : World} {P n : Nat} {ps : List (Int × Int)} {xs : List Int} {pv xv : Value} {W W' : World} (h : ChoG w P n ps xs pv xv W) (hb : Below W.heap.size W W') : ChoG w P n ps xs pv xv W' :=
  ⟨h.bP.later hb, h.hp.below hb, ints_bel h.hx hb, below2 h.hb hb⟩
set_option maxRecDepth 100000 in
set_option maxHeartbeats 4000000 in
theorem chosen_any (n : Nat) (ps : List (Int × Int)) (pv : Value) (xs : List Int) (xv : Value) (w : World) (hp : PairsIn w.cell? pv ps) (hx : IntsIn w.cell? xv xs) (h64 : ∀ x ∈ xs, i64B x) (hv : validO ⟨(n : Int), ps⟩ = true) :
    Calls Tryd.prog 21 #[orderV n pv, xv] w (fun e w' => ∃ v t, e = .returned v ∧ LineO n (beforeO ⟨(n : Int), ps⟩) t ∧ OwnI w' w.heap.size v (natsO t) ∧ Below w.heap.size w w') := by
  have hF : formedO ⟨(n : Int), ps⟩ = true := by unfold validO at hv; rw [Bool.and_eq_true] at hv; exact hv.1
  have hn8 : n ≤ 8 := by have := (formed_n hF).1; simp only at this; omega
  have HPO := hide (show PoO n (beforeO ⟨(n : Int), ps⟩) from before_po hv)
  have HBF := hide (fun pv W (b a : Nat) (h1 : b < n) (h2 : a < n) (hp : PairsIn W.cell? pv ps) => (show Calls Tryd.prog 27 #[orderV (n : Int) pv, .int .i64 (b : Int), .int .i64 (a : Int)] W (Ret (.bool (beforeO ⟨(n : Int), ps⟩ b a)) W) by
    have h := before_any ⟨(n : Int), ps⟩ pv b a W hp
    rw [show befB ⟨(n : Int), ps⟩ b a = beforeO ⟨(n : Int), ps⟩ b a by
      unfold befB
      rw [hv, decide_eq_true (by simp only; omega)]; rfl] at h
    exact h))
  generalize beforeO ⟨(n : Int), ps⟩ = R at *
  have HPI := hide (fun i (hi : i < xs.length) (m : Nat) (h1 : 0 < m) (h2 : m ≤ 1000000) W => pickl_any (xs.getD i 0) m W (h64 _ (getD_mem xs i (d := 0) hi)) h1 h2)
  obtain ⟨pa, pc, rfl, -, -, -⟩ := id hp
  obtain ⟨xa, xc, rfl, hx1, hx2, -⟩ := id hx
  have hxI : (xs.length : Int) ≤ 9223372036854775807 := by omega
  have HP := hide hp
  have HX := hide hx
  clear hv hF h64 hp hx hx1 hx2
  go_enter Tryd.func21, Tryd.ntmps21
  go_wp2_with fail
  generalize hX1 : World.alloc w _ = X1
  have zX1 : X1.heap.size = w.heap.size + 1 := by rw [← hX1]; simp
  have bX1 : Below w.heap.size w X1 := by rw [← hX1]; exact bal w _
  have bO : Blk X1 (w.heap.size) [.int .i64 (n : Nat), .slice pa ps.length pc] 25 := by rw [← hX1]; exact Blk.newA w _ (by first | rfl | simp)
  have Xb := bX1
  have Xz := zX1
  clear hX1 zX1 bX1
  have HG : Hid (ChoG w w.heap.size n ps xs (.slice pa ps.length pc) (.slice xa xs.length xc) X1) := hide ⟨bO, HP.out.below Xb, ints_bel HX.out Xb, Xb⟩
  have hsz1 := Xb.size
  obtain ⟨P, hP⟩ : ∃ P, w.heap.size = P := ⟨_, rfl⟩
  rw [hP] at HG hsz1 ⊢
  have HPE := hide hP
  clear bO Xb Xz HP HX hP
  generalize X1 = w1 at *
  go_wp2_with fail
  go_loopw [5] (fun v wr => ∃ t : List Nat, OwnI wr w1.heap.size v (natsO t) ∧ StartO n R t ∧ t.length ≤ n ∧ Below w1.heap.size w1 wr) (fun v _ => n - sliceN v)
  case atStart => exact ⟨[], OwnI.nil _ _, StartO.nil _ _, by simp, Below.refl _ _⟩
  case round =>
    obtain ⟨t, hO, hst, htn, hbr⟩ := hrel
    obtain ⟨va, vc, rfl⟩ := hO.form
    rw [natsO_len] at hO ⊢
    have HGW := hide (HG.out.later hbr)
    have HST := hide hst
    have HBR := hide hbr
    have HO := hide hO
    have c0 := HGW.out.bP.cell 0 rfl
    clear hO hst hbr
    generalize wr = w2 at *
    by_cases hlt : t.length < n
    · have hltI : (t.length : Int) < n := by omega
      have HLT := hide hlt
      have HNE : Hid (0 < ((List.range n).filter (freeO n R t)).length) := hide (by
        obtain ⟨y, hy1, hy2⟩ := HST.out.free HPO.out hlt
        exact List.length_pos_iff.2 (List.ne_nil_of_mem (List.mem_filter.2 ⟨List.mem_range.2 hy1, hy2⟩)))
      go_wp2_with fail
      clear c0
      go_loopw [6, 7] (fun f i wz => ∃ a : Nat, a ≤ n ∧ i = .int .i64 a ∧ OwnI wz w2.heap.size f (natsO ((List.range a).filter (freeO n R t))) ∧ Below w2.heap.size w2 wz) (fun _ i _ => n - (intOf i).toNat)
      case atStart => exact ⟨0, by omega, rfl, OwnI.nil _ _, Below.refl _ _⟩
      case round =>
        obtain ⟨a, ha, rfl, hO2, hbz⟩ := hrel
        obtain ⟨fa, fc, rfl⟩ := hO2.form
        have HZ := hide hbz
        have HO2 := hide hO2
        have HGZ := hide (HGW.out.later hbz)
        have HOI := hide (own_later HO.out hbz).ints
        have c0 := HGZ.out.bP.cell 0 rfl
        clear hO2 hbz
        by_cases hla : a < n
        · have hlaI : (a : Int) < n := by omega
          have HA := hide hla
          have HFS := hide (filt_succ (freeO n R t) a)
          have HFD : Hid (freeO n R t a = (!t.contains a && (List.range n).all fun b => !R b a || t.contains b)) := hide rfl
          have hfl : ((List.range a).filter (freeO n R t)).length ≤ 8 := Nat.le_trans (List.length_filter_le _ _) (by rw [List.length_range]; omega)
          rw [← natsO_len] at hfl
          generalize freeO n R t a = fr at *
          generalize natsO ((List.range a).filter (freeO n R t)) = fq at *
          go_wp2_with fail
          refine (in_any (natsO t) a _ _ HOI.out).mono ?_
          rintro e w5 ⟨rfl, hw5⟩
          obtain rfl := hw5
          rw [inI_nats]
          clear c0
          generalize t.contains a = u at *
          generalize w5 = w6 at *
          go_wp2_with fail
          go_loopw [8, 9] (fun s j wq => ∃ b : Nat, b ≤ n ∧ s = .bool (!u && (List.range b).all fun b => !R b a || t.contains b) ∧ j = .int .i64 b ∧ Below w6.heap.size w6 wq) (fun _ j _ => n - (intOf j).toNat)
          case atStart => exact ⟨0, by omega, by simp, rfl, Below.refl _ _⟩
          case round =>
            obtain ⟨b, hb, rfl, rfl, hbq⟩ := hrel
            have HQ := hide hbq
            have HGQ := hide (HGZ.out.later hbq)
            have HOQ := hide (ints_bel HOI.out hbq)
            have c0 := HGQ.out.bP.cell 0 rfl
            clear hbq
            by_cases hlb : b < n
            · have hlbI : (b : Int) < n := by omega
              have HB := hide hlb
              have HSU := hide (all_succ (fun b => !R b a || t.contains b) b)
              obtain ⟨g, hg⟩ : ∃ g, (!u && (List.range b).all fun b => !R b a || t.contains b) = g := ⟨_, rfl⟩
              have HSG : Hid ((!u && (List.range (b + 1)).all fun b => !R b a || t.contains b) = (g && (!R b a || t.contains b))) := hide (by rw [HSU.out, ← Bool.and_assoc, hg])
              rw [hg]
              clear hg HSU
              cases g
              · go_wp2_with fail
                clear c0
                go_roundw
                case rel => exact ⟨b + 1, by have := HB.out; omega, by rw [HSG.out]; rfl, by go_num, HQ.out⟩
                case measure => have := HB.out; simp [intOf]; omega
              · go_wp2_with fail
                refine (in_any (natsO t) b _ _ HOQ.out).mono ?_
                rintro e w7 ⟨rfl, hw7⟩
                obtain rfl := hw7
                rw [inI_nats]
                cases hcb : t.contains b
                · rw [hcb] at HSG
                  have c1 := HGQ.out.bP.cell 1 rfl
                  have HC := hide (HBF.out _ _ b a hlb hla HGQ.out.hp)
                  generalize R b a = r at *
                  clear hcb
                  go_wp2_with fail
                  refine HC.out.mono ?_
                  rintro e w8 ⟨rfl, hb8⟩
                  have HQ2 := hide (below2 HQ.out hb8)
                  clear hb8 c0 c1 HC
                  go_wp2_with fail
                  go_roundw
                  case rel => exact ⟨b + 1, by have := HB.out; omega, by rw [HSG.out]; simp, by go_num, HQ2.out⟩
                  case measure => have := HB.out; simp [intOf]; omega
                · rw [hcb] at HSG
                  clear hcb
                  go_wp2_with fail
                  clear c0
                  go_roundw
                  case rel => exact ⟨b + 1, by have := HB.out; omega, by rw [HSG.out]; simp, by go_num, HQ.out⟩
                  case measure => have := HB.out; simp [intOf]; omega
            · obtain rfl : n = b := by omega
              rw [← HFD.out]
              have HZ2 := hide (HZ.out.trans (HQ.out.mono HZ.out.size))
              have HOF := hide (own_later HO2.out HQ.out)
              cases fr
              · go_wp2_with fail
                clear c0
                go_roundw
                case rel => exact ⟨a + 1, by have := HA.out; omega, by go_num, by rw [HFS.out]; simpa using HOF.out, HZ2.out⟩
                case measure => have := HA.out; simp [intOf]; omega
              · have hO := HOF.out
                have hsz : w2.heap.size ≤ wr.heap.size := HZ2.out.size
                have hql : fq.length < 1000000 := by omega
                go_wp2_with (at_builtin; refine app_intE rfl _ _ rfl w2.heap.size _ fq rfl hO (a : Int) rfl hql hsz ?_; intro v3 w3 hO3 hE3 hob3; have HB3 := hide (HZ2.out.trans (hE3.below hsz (fun k e => (hO.ltB e.symm).1))); have HO3 := hide hO3; clear hO3 hE3 hob3)
                clear c0 hO hsz hql
                go_roundw
                case rel => exact ⟨a + 1, by have := HA.out; omega, by go_num, by rw [HFS.out]; exact HO3.out, HB3.out⟩
                case measure => have := HA.out; simp [intOf]; omega
        · obtain rfl : n = a := by omega
          obtain ⟨FL, hFL⟩ : ∃ FL, (List.range n).filter (freeO n R t) = FL := ⟨_, rfl⟩
          have HFM : Hid (∀ k, k < FL.length → FL.getD k 0 < n ∧ freeO n R t (FL.getD k 0) = true) := hide (fun k hk => by
            have h : FL.getD k 0 ∈ (List.range n).filter (freeO n R t) := by rw [hFL]; exact getD_mem FL k (d := 0) hk
            have h2 := List.mem_filter.1 h
            exact ⟨List.mem_range.1 h2.1, h2.2⟩)
          have hF8 : FL.length ≤ 8 := by rw [← hFL]; exact Nat.le_trans (List.length_filter_le _ _) (by rw [List.length_range]; omega)
          rw [hFL] at HO2 HNE ⊢
          rw [natsO_len] at HO2 ⊢
          have hFI := HNE.out
          have hFz : ¬ FL.length = 0 := by omega
          have hFzB : ((FL.length : Int) == 0) = false := beq_eq_false_iff_ne.2 (by omega)
          clear hFL HNE
          by_cases hxl : t.length < xs.length
          · have hxlI : (t.length : Int) < xs.length := by omega
            obtain ⟨a', m', e', -, -, hc⟩ := HGZ.out.hx
            obtain ⟨rfl, -, -⟩ := Value.slice.inj e'
            obtain ⟨xb, xo, rfl, q1⟩ := hc t.length hxl
            have HP1 := hide (HPI.out t.length hxl FL.length hFI (by omega))
            have hk := pk_lt (xs.getD t.length 0) hFI
            generalize pkO (xs.getD t.length 0) FL.length = k at *
            generalize xs.getD t.length 0 = xv0 at *
            have hkI : (k : Int) < FL.length := by omega
            obtain ⟨fb, fo, rfl, q2⟩ := ints_nat HO2.out.ints hk
            obtain ⟨hxn, hxf⟩ := HFM.out k hk
            have HSX := hide (HST.out.add HPO.out hxn hxf)
            obtain ⟨x, hx⟩ : ∃ x, FL.getD k 0 = x := ⟨_, rfl⟩
            rw [hx] at q2 HSX
            clear hc e' hx hxn hxf HFM
            go_wp2_with fail
            refine (HP1.out _).mono ?_
            rintro e w9 ⟨rfl, hw9⟩
            obtain rfl := hw9
            clear q1 c0
            have hqn : (natsO t).length = t.length := natsO_len t
            have hO := own_later HO.out HZ.out
            have hsz := Nat.le_trans HBR.out.size HZ.out.size
            have HB9 := hide (HBR.out.trans (HZ.out.mono HBR.out.size))
            have hql : (natsO t).length < 1000000 := by rw [hqn]; omega
            go_wp2_with (at_builtin; refine app_intE rfl _ _ rfl w1.heap.size _ (natsO t) rfl hO (x : Int) rfl hql hsz ?_; intro v3 w3 hO3 hE3 hob3; have HB3 := hide (HB9.out.trans (hE3.below hsz (fun k e => (hO.ltB e.symm).1))); have HO3 := hide hO3; clear hO3 hE3 hob3)
            obtain ⟨a3, c3, e3⟩ := HO3.out.form
            subst e3
            clear hO hqn hsz hql
            try clear c0
            go_roundw
            case rel => exact ⟨t ++ [x], by rw [show natsO (t ++ [x]) = natsO t ++ [(x : Int)] by unfold natsO; rw [List.map_append]; rfl]; exact HO3.out, HSX.out, by rw [List.length_append, List.length_singleton]; have := HLT.out; omega, HB3.out⟩
            case measure => have := HLT.out; simp [sliceN, natsO]; omega
          · have hxlI : ¬ (t.length : Int) < xs.length := by omega
            have hk : 0 < FL.length := hFI
            have hkI : (0 : Int) < FL.length := by omega
            obtain ⟨fb, fo, rfl, q2⟩ := ints_nat HO2.out.ints hk
            obtain ⟨hxn, hxf⟩ := HFM.out 0 hk
            have HSX := hide (HST.out.add HPO.out hxn hxf)
            obtain ⟨x, hx⟩ : ∃ x, FL.getD 0 0 = x := ⟨_, rfl⟩
            rw [hx] at q2 HSX
            rw [Nat.add_zero] at q2
            clear hx hxn hxf HFM
            have hqn : (natsO t).length = t.length := natsO_len t
            have hO := own_later HO.out HZ.out
            have hsz := Nat.le_trans HBR.out.size HZ.out.size
            have HB9 := hide (HBR.out.trans (HZ.out.mono HBR.out.size))
            have hql : (natsO t).length < 1000000 := by rw [hqn]; omega
            go_wp2_with (at_builtin; refine app_intE rfl _ _ rfl w1.heap.size _ (natsO t) rfl hO (x : Int) rfl hql hsz ?_; intro v3 w3 hO3 hE3 hob3; have HB3 := hide (HB9.out.trans (hE3.below hsz (fun k e => (hO.ltB e.symm).1))); have HO3 := hide hO3; clear hO3 hE3 hob3)
            obtain ⟨a3, c3, e3⟩ := HO3.out.form
            subst e3
            clear hO hqn hsz hql
            try clear c0
            go_roundw
            case rel => exact ⟨t ++ [x], by rw [show natsO (t ++ [x]) = natsO t ++ [(x : Int)] by unfold natsO; rw [List.map_append]; rfl]; exact HO3.out, HSX.out, by rw [List.length_append, List.length_singleton]; have := HLT.out; omega, HB3.out⟩
            case measure => have := HLT.out; simp [sliceN, natsO]; omega
    · go_wp2_with fail
      go_ret
      exact ⟨_, t, rfl, HST.out.line (by omega), own_weak HO.out (by rw [HPE.out]; exact hsz1), below2 HG.out.hb HBR.out⟩
end Go.Proofs.YtnidcoinfmcffaaDoor
