/- ProofUsed: the walk, and the row: for every input the law returns true. No condition. -/
import Derived.Test.YtppfdjjhloaopaaPiE
import Derived.Test.YtppfdjjhloaopaaPiA
import Derived.Test.YtppfdjjhloaopaaPw7
import Derived.Test.YtppfdjjhloaopaaLift
namespace Go.Proofs.Ytppfdjjhloaopaa
open Go.RowKit

/-- a box of the call's own, W0's next block, in which something is yet to be stored -/
structure QT (T : TypeId) (W0 : World) (old : List Value) (d : Bool) (W : World) : Prop where
  hb : Below W0.heap.size W0 W
  hq : d = false → Blk W W0.heap.size old T
  hs : W0.heap.size + 1 ≤ W.heap.size
theorem QT.step {T : TypeId} {W0 W W' : World} {old : List Value} {d : Bool} (h : QT T W0 old d W) (hb : Below (W0.heap.size + 1) W W') : QT T W0 old d W' :=
  ⟨h.hb.trans (hb.mono (by omega)), fun hd => (h.hq hd).below hb (by omega), Nat.le_trans h.hs hb.size⟩
theorem QT.put {T : TypeId} {W0 W : World} {old : List Value} (h : QT T W0 old false W) (j : Nat) (u : Value) (d : Bool) (hd : d = true) : QT T W0 old d (W.setCell ⟨W0.heap.size, j, none⟩ u) :=
  ⟨h.hb.setCell (p := ⟨W0.heap.size, j, none⟩) (Nat.le_refl _) u, fun e => (by rw [hd] at e; cases e), by simpa [World.setCell] using h.hs⟩
theorem own_r {W : World} {B : Nat} {v : Value} {l : List Int} : OwnI W B v l ↔ OwnR W B 3 1 v (l.map fun z => [Value.int .i64 z]) := by
  have e : (l.map fun z => [Value.int .i64 z]).flatten = l.map (Value.int .i64) := by induction l <;> simp_all
  unfold OwnI OwnR
  rw [e, List.length_map]
  exact ⟨fun h => ⟨h, fun r hr => by obtain ⟨z, -, rfl⟩ := List.mem_map.1 hr; rfl⟩, fun h => h.1⟩
theorem step_int3 {W : World} {ops : Array Oper} {o : Oper} {T : Array Value} {D : List Deferred} {K : Act → World → Prop} {Q : Exit → Act → World → Prop} {E : Prop} (hgd : o.guard = none) (s x : Operand)
    (ho : o.op = .call { callee := .builtin .append, args := #[s, x], argTypes := #[25, 25] }) (B : Nat) (v : Value) (l : List Int) (hs : Act.eval ⟨T, D⟩ s = v) (hown : OwnI W B v l)
    (b8 : Nat) (y : Int) (hx : Act.eval ⟨T, D⟩ x = .slice (some ⟨b8, 0, none⟩) 1 1) (hb8 : Blk W b8 [.int .i64 y] 3) (hl : l.length < 900000) (hB : B ≤ W.heap.size)
    (h : ∀ v' w', OwnI w' B v' (l ++ [y]) → W.grownBy w' v.ownBlock → K (Act.put ⟨T, D⟩ o.dst v') w') :
    if Region.wanted o (yielded ops T) = true then Oper.wp Try.prog o ⟨T, D⟩ W K Q else E :=
  step_app_two infoInt rfl (by decide) Try.underlying25 hgd s x ho B v _ hs (own_r.1 hown) (some ⟨b8, 0, none⟩) 1 1 [[.int .i64 y]] rfl hx (fun r hr => by simp at hr; rw [hr]; rfl) (fun u hu => by simp at hu; rw [hu]; rfl)
    (fun b hb j u hj => by
      cases hb
      have := hb8.cell j hj
      cases j <;> simpa [Addr.add] using this) (fun e => by cases e) (by rw [List.length_map]; simp; omega) (by rw [List.length_map]; simp; omega) hB
    (fun v' w' hO hg => h v' w' (own_r.2 (by simpa using hO)) hg)
theorem below_ownI {W w' : World} {B : Nat} {v : Value} {l : List Int} (h : OwnI W B v l) (hB : B ≤ W.heap.size) (hg : W.grownBy w' v.ownBlock) : Below B W w' := below_own (own_r.1 h) hB hg
theorem two_six (r r2 : RowD) (c1 c2 : Value) : ∀ x ∈ [rowCells r c1, rowCells r2 c2], x.length = 6 := by
  intro x hx; simp at hx; rcases hx with rfl | rfl <;> rfl
theorem two_one {r r2 : RowD} {a b : Option Addr} {n m c d : Nat} : ∀ u ∈ [rowCells r (.slice a n c), rowCells r2 (.slice b m d)].flatten, u.oneCell' = true := by
  intro u hu
  have hu' : u ∈ rowCells r (.slice a n c) ++ rowCells r2 (.slice b m d) := by simpa using hu
  rcases List.mem_append.1 hu' with h | h
  · exact cells6 u h
  · exact cells6 u h
theorem Blk.ne_empty {W : World} {b c : Nat} {x : Value} {vs : List Value} {t t' : TypeId} (h : Blk W b (x :: vs) t) (k : Blk W c [] t') : b ≠ c := fun e => by
  subst e
  have := (show W.heap[b]? = _ from h).symm.trans (show W.heap[b]? = _ from k)
  simp at this
theorem two_rows {w2 wr W : World} {rows : List RowD} {r r2 : RowD} {c1 c2 v : Value} {Lr : List (List Value)} (hl : Lr.length = rows.length) (hs : ∀ i, i < rows.length → ∃ cv, Lr.getD i [] = rowCells (rows.getD i row0) cv ∧ IntsAt w2 cv (rows.getD i row0).coef)
    (hO : OwnR W wr.heap.size 67 6 v (Lr ++ [rowCells r c1, rowCells r2 c2])) (hb : Below wr.heap.size wr W) (h2 : Below w2.heap.size w2 wr) (hlt : w2.heap.size < wr.heap.size) {old : List Value} (hq : Blk W w2.heap.size old 27)
    (hc1 : IntsIn (frmY 0 3 wr) c1 r.coef) (hc2 : IntsIn (frmY 0 3 wr) c2 r2.coef) (u : Value) : RowsAt (W.setCell ⟨w2.heap.size, 1, none⟩ u) v (rows ++ [r, r2]) := by
  have hO' : OwnR (W.setCell ⟨w2.heap.size, 1, none⟩ u) wr.heap.size 67 6 v _ := ⟨ownsRow_setCell_below hO.1 hlt u, hO.2⟩
  have hk : Keeps (frmY 0 3 wr) (W.setCell ⟨w2.heap.size, 1, none⟩ u).cell? := ((keeps_frmY_below hb).trans (keeps_frmY_set hq (by decide) 1 u)).trans ((keeps_frmY _ _ _).trans (keeps_frm _ _))
  have hb2 : Below w2.heap.size w2 (W.setCell ⟨w2.heap.size, 1, none⟩ u) := (below2 h2 hb).setCell (p := ⟨w2.heap.size, 1, none⟩) (Nat.le_refl _) u
  refine hO'.rows (by simp [hl]) fun i hi => ?_
  rcases Nat.lt_or_ge i rows.length with h1 | h1
  · obtain ⟨cv, e, hc⟩ := hs i h1
    rw [getD_app_left _ _ _ _ (by omega), getD_app_left _ _ _ _ h1]
    exact ⟨cv, e, hc.below hb2⟩
  · have hi' : i < rows.length + 2 := by simpa using hi
    rw [getD_app_right _ _ _ _ (by omega), getD_app_right _ _ _ _ h1, hl]
    rcases Nat.lt_or_ge i (rows.length + 1) with h3 | h3
    · have : i - rows.length = 0 := by omega
      rw [this]; exact ⟨c1, rfl, hc1.keeps hk⟩
    · have : i - rows.length = 1 := by omega
      rw [this]; exact ⟨c2, rfl, hc2.keeps hk⟩
end Go.Proofs.Ytppfdjjhloaopaa
namespace Go.Proofs.Ytppfdjjhloaopaa
open Go.RowKit

set_option maxRecDepth 100000 in
set_option maxHeartbeats 4000000 in
theorem used_any (v : Int) (x : List Tri) (xv : Value) (g : List Int) (f : List Int) (w : World) (hv : i64B v) (hx : TrisIn w.cell? xv x) (hx64 : ∀ t ∈ x, tri64 t) (hg : g.length = 8) (hg64 : ∀ y ∈ g, i64B y) (hf : f.length = 3) (hf64 : ∀ y ∈ f, i64B y) :
    Calls Try.prog 8 #[.int .i64 v, xv, .agg (g.map (Value.int .i64)).toArray, .agg (f.map (Value.int .i64)).toArray] w (Ret (.bool true) w) := by
  obtain ⟨k0, k1, k2, rfl⟩ : ∃ k0 k1 k2, f = [k0, k1, k2] := by
    match f, hf with
    | [a, b, c], _ => exact ⟨_, _, _, rfl⟩
  have HM2 := hide (fun (W : World) (b : Nat) (h : Blk W b [.int .i64 k0, .int .i64 k1, .int .i64 k2] 65) => made_own v [(k0, k1, k2)] (.slice (some ⟨b, 0, none⟩) 1 1) g W hv
    ⟨some ⟨b, 0, none⟩, 1, rfl, by simp, by decide, fun k hk => by
      match k, hk with
      | 0, _ => exact ⟨b, 0, rfl, h.cell 0 rfl, h.cell 1 rfl, h.cell 2 rfl⟩⟩
    (fun t ht => by
      have e : t = (k0, k1, k2) := by simpa using ht
      rw [e]; exact ⟨hf64 k0 (by simp), hf64 k1 (by simp), hf64 k2 (by simp)⟩) hg hg64)
  clear hf64
  obtain ⟨g0, g1, g2, g3, g4, g5, g6, g7, rfl⟩ : ∃ g0 g1 g2 g3 g4 g5 g6 g7, g = [g0, g1, g2, g3, g4, g5, g6, g7] := by
    match g, hg with
    | [a, b, c, d, e, f, g, h], _ => exact ⟨_, _, _, _, _, _, _, _, rfl⟩
  obtain ⟨xa, xn, rfl, hx1, hx2, -⟩ := id hx
  have HM := hide (fun W (h : Below w.heap.size w W) => made_any v x (.slice xa x.length xn) [g0, g1, g2, g3, g4, g5, g6, g7] W hv (TrisIn.keeps (keeps_of_below h) hx) hx64 hg hg64)
  clear hx hx64 hg hg64
  go_enter Try.func8, Try.ntmps8
  go_wp2_with fail
  generalize hI1 : World.alloc w _ = I1
  have zI1 : I1.heap.size = w.heap.size + 1 := by rw [← hI1]; simp
  have bI1 : Below w.heap.size w I1 := by rw [← hI1]; exact bal w _
  have bG_1 : Blk I1 (w.heap.size) [.int .i64 g0, .int .i64 g1, .int .i64 g2, .int .i64 g3, .int .i64 g4, .int .i64 g5, .int .i64 g6, .int .i64 g7] 23 := by rw [← hI1]; exact Blk.newA w _ (by first | rfl | simp)
  generalize hI2 : World.alloc I1 _ = I2
  have zI2 : I2.heap.size = w.heap.size + 1 + 1 := by rw [← hI2]; simp [zI1]
  have bI2 : Below I1.heap.size I1 I2 := by rw [← hI2]; exact bal I1 _
  have bF : Blk I2 (w.heap.size + 1) [.int .i64 k0, .int .i64 k1, .int .i64 k2] 65 := by rw [← hI2, ← zI1]; exact Blk.newA I1 _ (by first | rfl | simp)
  have bG := bG_1.later bI2
  have Ib := below2 (bI1) bI2
  have Iz := zI2
  clear hI1 zI1 bI1 hI2 zI2 bI2 bG_1
  have hb0 := Ib
  have W0 := I2
  refine (sane34_any _).mono ?_
  rintro e w1 ⟨rfl, hb1⟩
  have bG1 := bG.later hb1
  have bF1 := bF.later hb1
  have c0 := bG1.cell 0 rfl
  have c1 := bG1.cell 1 rfl
  have c2 := bG1.cell 2 rfl
  have c3 := bG1.cell 3 rfl
  have c4 := bG1.cell 4 rfl
  have c5 := bG1.cell 5 rfl
  have c6 := bG1.cell 6 rfl
  have c7 := bG1.cell 7 rfl
  clear bG bF Iz
  go_wp2_with fail
  refine (HM.out _ (below2 hb0 hb1)).mono ?_
  rintro e w2 ⟨pv, rfl, hpv, hb2⟩
  have bG2 := bG1.later hb2
  have bF2 := bF1.later hb2
  clear c0 c1 c2 c3 c4 c5 c6 c7 HM bG1 bF1
  obtain ⟨n, rows, gain, hmf, hn8, hr8, hV⟩ := made_form v x [g0, g1, g2, g3, g4, g5, g6, g7]
  obtain ⟨r, hmf2, hsr, hrr⟩ := made_one hmf (k0, k1, k2)
  rw [hmf] at hpv
  rw [hmf2] at HM2
  clear hmf hmf2
  obtain ⟨rv, gv, rfl, hr, hgn⟩ := hpv
  have hr2 : RowsAt w2 rv rows := hr.keeps (keeps_frm _ _)
  have hg2 : IntsAt w2 gv gain := hgn.keeps (keeps_frm _ _)
  obtain ⟨ra, rc, rfl, -, hrm, -⟩ := id hr2
  obtain ⟨ga, gc, rfl, -, hgm, -⟩ := id hg2
  have hbw2 := below2 (below2 hb0 hb1) hb2
  have HR2 := hide hr2
  have HG2 := hide hg2
  clear hr hgn hb0
  go_upto_region 5 with (fail)
  generalize hP1 : World.alloc w2 _ = P1
  have zP1 : P1.heap.size = w2.heap.size + 1 := by rw [← hP1]; simp
  have bP1 : Below w2.heap.size w2 P1 := by rw [← hP1]; exact bal w2 _
  have bP : Blk P1 (w2.heap.size) [.int .i64 n, .slice ra rows.length rc, .slice ga gain.length gc] 27 := by rw [← hP1]; exact Blk.newA w2 _ (by first | rfl | simp)
  have Pb := bP1
  have Pz := zP1
  clear hP1 zP1 bP1
  have hr3 := hr2.below Pb
  have hg3 := hg2.below Pb
  have hbw3 := below2 hbw2 Pb
  have bG3 := bG2.later Pb
  have bF3 := bF2.later Pb
  have c0 := bG3.cell 0 rfl
  have c1 := bG3.cell 1 rfl
  have c2 := bG3.cell 2 rfl
  have c3 := bG3.cell 3 rfl
  have c4 := bG3.cell 4 rfl
  have c5 := bG3.cell 5 rfl
  have c6 := bG3.cell 6 rfl
  have c7 := bG3.cell 7 rfl
  have d0 := bF3.cell 0 rfl
  have d1 := bF3.cell 1 rfl
  have d2 := bF3.cell 2 rfl
  have lG := bG3.lt
  have lF := bF3.lt
  have HP2 := hide Pb
  have HB2 := hide hbw2
  clear hr2 hg2 hbw2 bG2 bF2 Pz
  go_wp2_with fail
  generalize hJ1 : World.alloc P1 _ = J1
  have zJ1 : J1.heap.size = P1.heap.size + 1 := by rw [← hJ1]; simp
  have bJ1 : Below P1.heap.size P1 J1 := by rw [← hJ1]; exact bal P1 _
  have bJ : Blk J1 (P1.heap.size) [.int .i64 k0, .int .i64 k1, .int .i64 k2] 65 := by rw [← hJ1]; exact Blk.newA P1 _ (by first | rfl | simp)
  have Jb := bJ1
  have Jz := zJ1
  clear hJ1 zJ1 bJ1
  refine (HM2.out J1 P1.heap.size bJ).mono ?_
  rintro e w4 ⟨rv', gv', BA, rfl, hBA, hRO, hGO, hb4⟩
  have hb34 := below2 Jb hb4
  have HP4 := hide (below2 HP2.out hb34)
  obtain ⟨L1, hOR, hl1, hs1⟩ := hRO
  obtain ⟨cv, eL, hcv⟩ := hs1 0 (by simp)
  obtain ⟨ca, cc, rfl, hc1, hc2, -⟩ := id hcv
  have hl1' : L1.length = 1 := hl1
  obtain ⟨gb, gcc, rfl⟩ : ∃ gb c, rv' = .slice (some ⟨gb, 0, none⟩) 1 c := by
    rcases hOR.form with ⟨-, e2⟩ | ⟨gb, c, cur, e0, -⟩
    · rw [e2] at hl1'; cases hl1'
    · exact ⟨gb, c, by rw [e0, hl1']⟩
  have hcell : ∀ (j : Nat) (u : Value), j < 6 → (rowCells r (.slice ca r.coef.length cc))[j]? = some u → w4.cell? ⟨gb, j, none⟩ = some u := fun j u hj hu => by
    have := hOR.cell 0 j (by omega) hj (by rw [eL]; exact hu)
    simpa using this
  have e0 := hcell 0 _ (by omega) rfl
  have e1 := hcell 1 _ (by omega) rfl
  have e2 := hcell 2 _ (by omega) rfl
  have e3 := hcell 3 _ (by omega) rfl
  have e4 := hcell 4 _ (by omega) rfl
  have e5 := hcell 5 _ (by omega) rfl
  have hfr := run_field_rows (.int .i64 n) gv' (some ⟨gb, 0, none⟩) 1 gcc w4
  have hr4 := hr3.below hb34
  have hg4 := hg3.below hb34
  have hbw4 := below2 hbw3 hb34
  have bP4 := bP.later hb34
  have hcy4 := hcv.keeps (keeps_frmY_le _ _ (Nat.zero_le _))
  have hcoef : IntsAt w4 (.slice ca r.coef.length cc) r.coef := (hcv.keeps (keeps_frmY _ _ _)).keeps (keeps_frm _ _)
  have HRL : Hid (r.coef.length = n ∧ coefsB r.coef = true ∧ -4 ≤ r.most ∧ r.most ≤ 25) := hide (by
    have h1 := hrr
    simp only [rightB, lenB, Bool.and_eq_true, decide_eq_true_eq] at h1
    exact ⟨Int.ofNat.inj h1.1.1, h1.1.2, hsr.1, hsr.2.1⟩)
  have HSR := hide hsr
  have HRR := hide hrr
  clear hr3 hg3 hbw3 bP bG3 bF3 c0 c1 c2 c3 c4 c5 c6 c7 d0 d1 d2 lG lF bJ Jz Jb hOR hs1 hcell hl1 hl1' eL hcv hGO HM2 hsr hrr hb4 hb34 hb1 hb2 Ib Pb hBA hc1 hc2 hx1 hx2
  go_upto_region 6 with (fail)
  generalize hR1 : World.alloc w4 _ = R1
  have zR1 : R1.heap.size = w4.heap.size + 1 := by rw [← hR1]; simp
  have bR1 : Below w4.heap.size w4 R1 := by rw [← hR1]; exact bal w4 _
  have bR : Blk R1 (w4.heap.size) [.int .i64 r.kind, .int .i64 r.a, .int .i64 r.b, .int .i64 r.at_, .slice ca r.coef.length cc, .int .i64 r.most] 67 := by rw [← hR1]; exact Blk.newA w4 _ (by first | rfl | simp)
  have Rb := bR1
  have Rz := zR1
  clear hR1 zR1 bR1
  have hr5 := hr4.below Rb
  have hg5 := hg4.below Rb
  have hbw5 := below2 hbw4 Rb
  have bP5 := bP4.later Rb
  have hco5 := hcoef.below Rb
  have HCY5 := hide (hcy4.keeps (keeps_frmY_below Rb))
  have m5 := bR.cell 5 rfl
  have hm4 := HRL.out.2.2.1
  have hm25 := HRL.out.2.2.2
  have w1' : IntKind.i64.wrap (-r.most) = -r.most := IntWalk.i64_in _ ⟨by omega, by omega⟩
  have w2' : IntKind.i64.wrap (-r.most - 1) = -r.most - 1 := IntWalk.i64_in _ ⟨by omega, by omega⟩
  clear e0 e1 e2 e3 e4 e5 hfr hr4 hg4 hbw4 bP4 hcoef hcy4 Rz hm4 hm25
  go_upto_region 7 with (fail)
  generalize hA1 : World.alloc R1 _ = A1
  have zA1 : A1.heap.size = R1.heap.size + 1 := by rw [← hA1]; simp
  have bA1 : Below R1.heap.size R1 A1 := by rw [← hA1]; exact bal R1 _
  have bA : Blk A1 (R1.heap.size) [.int .i64 0, .int .i64 0, .int .i64 0, .int .i64 0, .slice none 0 0, .int .i64 (-r.most - 1)] 67 := by rw [← hA1]; exact Blk.newA R1 _ (by first | rfl | simp)
  have Ab := bA1
  have Az := zA1
  clear hA1 zA1 bA1
  have HAZ : Hid (R1.heap.size + 1 ≤ A1.heap.size) := hide (by omega)
  clear Az w1' w2' m5
  go_wp2_with fail
  go_loopw [13] (fun i wr => ∃ (k : Nat) (slv : Value), k ≤ n ∧ i = .int .i64 k ∧ OwnI wr (R1.heap.size + 1) slv (negs r.coef k) ∧ Blk wr R1.heap.size [.int .i64 0, .int .i64 0, .int .i64 0, .int .i64 0, slv, .int .i64 (-r.most - 1)] 67 ∧ Below R1.heap.size R1 wr ∧ R1.heap.size + 1 ≤ wr.heap.size) (fun i _ => n - (intOf i).toNat)
  case atStart => exact ⟨0, _, by omega, rfl, OwnI.nil _ _, bA, Ab, HAZ.out⟩
  case round =>
    obtain ⟨k, slv, hk, rfl, hown, hX, hbr, hzr⟩ := hrel
    have bPr := bP5.later hbr
    have q0 := bPr.cell 0 rfl
    by_cases hlt : k < n
    · have hcl := HRL.out.1
      obtain ⟨a', n', e', -, -, hcc⟩ := hco5
      injection e' with e1 e2 e3
      subst e1
      obtain ⟨cb, co, rfl, hck⟩ := hcc k (by omega)
      have HNS := hide (negs_succ (l := r.coef) (k := k) (by omega))
      have hnl : (negs r.coef k).length = k := negs_len (by omega)
      have hnl1 : (negs r.coef (k + 1)).length = k + 1 := negs_len (by omega)
      have HNL := hide hnl1
      have hbd := coefs_getD HRL.out.2.1 k
      obtain ⟨sa, sc, rfl⟩ := hown.form
      rw [hnl] at hown hX
      have s4 := bR.cell 4 rfl
      have hklt : k < r.coef.length := by omega
      have hnk : (negs r.coef k).length < 900000 := by omega
      have hcn : (r.coef.length : Int) ≤ 9223372036854775807 := by omega
      generalize r.coef.getD k 0 = c at hck HNS hbd
      have ck := hck
      have e1 : IntKind.i64.wrap (-c) = -c := IntWalk.i64_in _ ⟨by omega, by omega⟩
      have HOW := hide hown
      have HX := hide hX
      clear hcc hck hnl hnl1 hbd hcl hown hX e3 e2
      go_wp2_with fail
      refine wp_region_inv [some 51, some 52, some 53, some 54, some 55, some 56, some 57, some 58, some 59, some 60, some 61, none] (fun L vs W => match vs with | [x0, x1, x2, x3, x4, x5, x6, x7, x8, x9, x10, x11] => (QT 67 R1 [.int .i64 0, .int .i64 0, .int .i64 0, .int .i64 0, .slice sa k sc, .int .i64 (-r.most - 1)] (L 11) W ∧ (L 9 = false → OwnI W (R1.heap.size + 1) (.slice sa k sc) (negs r.coef k))) ∧ (L 0 = true → x0 = .pointer (some ⟨R1.heap.size, 4, none⟩)) ∧ (L 1 = true → x1 = .slice sa k sc) ∧ (L 2 = true → x2 = .pointer (some ⟨w4.heap.size, 4, none⟩)) ∧ (L 3 = true → x3 = .slice (some ⟨cb, co, none⟩) r.coef.length cc) ∧ (L 4 = true → x4 = .int .i64 k) ∧ (L 5 = true → x5 = .pointer (some ⟨cb, co + k, none⟩)) ∧ (L 6 = true → x6 = .int .i64 c) ∧ (L 7 = true → x7 = .int .i64 (-c)) ∧ (L 8 = true → L 9 = false → ∃ b8 : Nat, x8 = .slice (some ⟨b8, 0, none⟩) 1 1 ∧ Blk W b8 [.int .i64 (-c)] 3) ∧ (L 9 = true → (L 1 = true ∧ L 8 = true) ∧ OwnI W (R1.heap.size + 1) x9 (negs r.coef (k + 1))) ∧ (L 10 = true → x10 = .pointer (some ⟨R1.heap.size, 4, none⟩)) ∧ (L 11 = true → L 1 = true ∧ L 9 = true ∧ ∃ (a9 : Option Addr) (c9 : Nat), OwnI W (R1.heap.size + 1) (.slice a9 (k + 1) c9) (negs r.coef (k + 1)) ∧ Blk W R1.heap.size [.int .i64 0, .int .i64 0, .int .i64 0, .int .i64 0, .slice a9 (k + 1) c9, .int .i64 (-r.most - 1)] 67) | _ => False) [_, _, _, _, _, _, _, _, _, _, _, undef] (by kernel_rfl) (by kernel_rfl) rfl (by simp only [puts, Act.put, List.setIfInBounds_toArray, List.set_cons_zero, List.set_cons_succ] <;> rfl) ?_ ?_ ?_
      · exact ⟨⟨⟨hbr.drew, fun _ => HX.out, hzr⟩, fun _ => HOW.out⟩, (fun h => by cases h), (fun h => by cases h), (fun h => by cases h), (fun h => by cases h), (fun h => by cases h), (fun h => by cases h), (fun h => by cases h), (fun h => by cases h), (fun h => by cases h), (fun h => by cases h), (fun h => by cases h), (fun h => by cases h)⟩
      · refine ⟨?_, ?_, ?_, ?_, ?_, ?_, ?_, ?_, ?_, ?_, ?_, ?_, trivial⟩
        · intro L vs W hlen hL hD hI K hK
          obtain ⟨x0, x1, x2, x3, x4, x5, x6, x7, x8, x9, x10, x11, rfl⟩ := len12 hlen
          have hG := hI.1
          replace hI := hI.2
          have f0 := hide hI.1
          replace hI := hI.2
          have f1 := hide hI.1
          replace hI := hI.2
          have f2 := hide hI.1
          replace hI := hI.2
          have f3 := hide hI.1
          replace hI := hI.2
          have f4 := hide hI.1
          replace hI := hI.2
          have f5 := hide hI.1
          replace hI := hI.2
          have f6 := hide hI.1
          replace hI := hI.2
          have f7 := hide hI.1
          replace hI := hI.2
          have f8 := hide hI.1
          replace hI := hI.2
          have f9 := hide hI.1
          replace hI := hI.2
          have f10 := hide hI.1
          replace hI := hI.2
          have f11 := hide hI
          clear hI
          have hGb := hG.1.hb
          have s4 := keep hGb s4
          have ck := keep hGb ck
          try simp only [puts, Act.put, List.setIfInBounds_toArray, List.set_cons_zero, List.set_cons_succ]
          try go_simp
          exact hK.out _ _ _ (by simp only [puts, Act.put, List.setIfInBounds_toArray, List.set_cons_zero, List.set_cons_succ] <;> rfl) ⟨hG, (fun _ => rfl), (fun h => f1.out h), (fun h => f2.out h), (fun h => f3.out h), (fun h => f4.out h), (fun h => f5.out h), (fun h => f6.out h), (fun h => f7.out h), (fun h => f8.out h), (fun h => f9.out h), (fun h => f10.out h), (fun h => f11.out h)⟩
        · intro L vs W hlen hL hD hI K hK
          obtain ⟨x0, x1, x2, x3, x4, x5, x6, x7, x8, x9, x10, x11, rfl⟩ := len12 hlen
          have hG := hI.1
          replace hI := hI.2
          have f0 := hide hI.1
          replace hI := hI.2
          have f1 := hide hI.1
          replace hI := hI.2
          have f2 := hide hI.1
          replace hI := hI.2
          have f3 := hide hI.1
          replace hI := hI.2
          have f4 := hide hI.1
          replace hI := hI.2
          have f5 := hide hI.1
          replace hI := hI.2
          have f6 := hide hI.1
          replace hI := hI.2
          have f7 := hide hI.1
          replace hI := hI.2
          have f8 := hide hI.1
          replace hI := hI.2
          have f9 := hide hI.1
          replace hI := hI.2
          have f10 := hide hI.1
          replace hI := hI.2
          have f11 := hide hI
          clear hI
          have hGb := hG.1.hb
          have s4 := keep hGb s4
          have ck := keep hGb ck
          obtain rfl := f0.out (hD.on 0 (by kernel_rfl))
          try simp only [puts, Act.put, List.setIfInBounds_toArray, List.set_cons_zero, List.set_cons_succ]
          have h11 : L 11 = false := Bool.eq_false_iff.2 (fun h => absurd ((f11.out h).1.symm.trans hL) (by decide))
          have z4 := (hG.1.hq h11).cell 4 rfl
          go_simp
          exact hK.out _ _ _ (by simp only [puts, Act.put, List.setIfInBounds_toArray, List.set_cons_zero, List.set_cons_succ] <;> rfl) ⟨hG, (fun h => f0.out h), (fun _ => rfl), (fun h => f2.out h), (fun h => f3.out h), (fun h => f4.out h), (fun h => f5.out h), (fun h => f6.out h), (fun h => f7.out h), (fun h => f8.out h), (fun h => (fun h => ⟨⟨rfl, h.1.2⟩, h.2⟩) (f9.out h)), (fun h => f10.out h), (fun h => (fun h => ⟨rfl, h.2⟩) (f11.out h))⟩
        · intro L vs W hlen hL hD hI K hK
          obtain ⟨x0, x1, x2, x3, x4, x5, x6, x7, x8, x9, x10, x11, rfl⟩ := len12 hlen
          have hG := hI.1
          replace hI := hI.2
          have f0 := hide hI.1
          replace hI := hI.2
          have f1 := hide hI.1
          replace hI := hI.2
          have f2 := hide hI.1
          replace hI := hI.2
          have f3 := hide hI.1
          replace hI := hI.2
          have f4 := hide hI.1
          replace hI := hI.2
          have f5 := hide hI.1
          replace hI := hI.2
          have f6 := hide hI.1
          replace hI := hI.2
          have f7 := hide hI.1
          replace hI := hI.2
          have f8 := hide hI.1
          replace hI := hI.2
          have f9 := hide hI.1
          replace hI := hI.2
          have f10 := hide hI.1
          replace hI := hI.2
          have f11 := hide hI
          clear hI
          have hGb := hG.1.hb
          have s4 := keep hGb s4
          have ck := keep hGb ck
          try simp only [puts, Act.put, List.setIfInBounds_toArray, List.set_cons_zero, List.set_cons_succ]
          try go_simp
          exact hK.out _ _ _ (by simp only [puts, Act.put, List.setIfInBounds_toArray, List.set_cons_zero, List.set_cons_succ] <;> rfl) ⟨hG, (fun h => f0.out h), (fun h => f1.out h), (fun _ => rfl), (fun h => f3.out h), (fun h => f4.out h), (fun h => f5.out h), (fun h => f6.out h), (fun h => f7.out h), (fun h => f8.out h), (fun h => f9.out h), (fun h => f10.out h), (fun h => f11.out h)⟩
        · intro L vs W hlen hL hD hI K hK
          obtain ⟨x0, x1, x2, x3, x4, x5, x6, x7, x8, x9, x10, x11, rfl⟩ := len12 hlen
          have hG := hI.1
          replace hI := hI.2
          have f0 := hide hI.1
          replace hI := hI.2
          have f1 := hide hI.1
          replace hI := hI.2
          have f2 := hide hI.1
          replace hI := hI.2
          have f3 := hide hI.1
          replace hI := hI.2
          have f4 := hide hI.1
          replace hI := hI.2
          have f5 := hide hI.1
          replace hI := hI.2
          have f6 := hide hI.1
          replace hI := hI.2
          have f7 := hide hI.1
          replace hI := hI.2
          have f8 := hide hI.1
          replace hI := hI.2
          have f9 := hide hI.1
          replace hI := hI.2
          have f10 := hide hI.1
          replace hI := hI.2
          have f11 := hide hI
          clear hI
          have hGb := hG.1.hb
          have s4 := keep hGb s4
          have ck := keep hGb ck
          obtain rfl := f2.out (hD.on 2 (by kernel_rfl))
          try simp only [puts, Act.put, List.setIfInBounds_toArray, List.set_cons_zero, List.set_cons_succ]
          try go_simp
          exact hK.out _ _ _ (by simp only [puts, Act.put, List.setIfInBounds_toArray, List.set_cons_zero, List.set_cons_succ] <;> rfl) ⟨hG, (fun h => f0.out h), (fun h => f1.out h), (fun h => f2.out h), (fun _ => rfl), (fun h => f4.out h), (fun h => f5.out h), (fun h => f6.out h), (fun h => f7.out h), (fun h => f8.out h), (fun h => f9.out h), (fun h => f10.out h), (fun h => f11.out h)⟩
        · intro L vs W hlen hL hD hI K hK
          obtain ⟨x0, x1, x2, x3, x4, x5, x6, x7, x8, x9, x10, x11, rfl⟩ := len12 hlen
          have hG := hI.1
          replace hI := hI.2
          have f0 := hide hI.1
          replace hI := hI.2
          have f1 := hide hI.1
          replace hI := hI.2
          have f2 := hide hI.1
          replace hI := hI.2
          have f3 := hide hI.1
          replace hI := hI.2
          have f4 := hide hI.1
          replace hI := hI.2
          have f5 := hide hI.1
          replace hI := hI.2
          have f6 := hide hI.1
          replace hI := hI.2
          have f7 := hide hI.1
          replace hI := hI.2
          have f8 := hide hI.1
          replace hI := hI.2
          have f9 := hide hI.1
          replace hI := hI.2
          have f10 := hide hI.1
          replace hI := hI.2
          have f11 := hide hI
          clear hI
          have hGb := hG.1.hb
          have s4 := keep hGb s4
          have ck := keep hGb ck
          try simp only [puts, Act.put, List.setIfInBounds_toArray, List.set_cons_zero, List.set_cons_succ]
          try go_simp
          exact hK.out _ _ _ (by simp only [puts, Act.put, List.setIfInBounds_toArray, List.set_cons_zero, List.set_cons_succ] <;> rfl) ⟨hG, (fun h => f0.out h), (fun h => f1.out h), (fun h => f2.out h), (fun h => f3.out h), (fun _ => rfl), (fun h => f5.out h), (fun h => f6.out h), (fun h => f7.out h), (fun h => f8.out h), (fun h => f9.out h), (fun h => f10.out h), (fun h => f11.out h)⟩
        · intro L vs W hlen hL hD hI K hK
          obtain ⟨x0, x1, x2, x3, x4, x5, x6, x7, x8, x9, x10, x11, rfl⟩ := len12 hlen
          have hG := hI.1
          replace hI := hI.2
          have f0 := hide hI.1
          replace hI := hI.2
          have f1 := hide hI.1
          replace hI := hI.2
          have f2 := hide hI.1
          replace hI := hI.2
          have f3 := hide hI.1
          replace hI := hI.2
          have f4 := hide hI.1
          replace hI := hI.2
          have f5 := hide hI.1
          replace hI := hI.2
          have f6 := hide hI.1
          replace hI := hI.2
          have f7 := hide hI.1
          replace hI := hI.2
          have f8 := hide hI.1
          replace hI := hI.2
          have f9 := hide hI.1
          replace hI := hI.2
          have f10 := hide hI.1
          replace hI := hI.2
          have f11 := hide hI
          clear hI
          have hGb := hG.1.hb
          have s4 := keep hGb s4
          have ck := keep hGb ck
          obtain rfl := f3.out (hD.on 3 (by kernel_rfl))
          obtain rfl := f4.out (hD.on 4 (by kernel_rfl))
          try simp only [puts, Act.put, List.setIfInBounds_toArray, List.set_cons_zero, List.set_cons_succ]
          try go_simp
          exact hK.out _ _ _ (by simp only [puts, Act.put, List.setIfInBounds_toArray, List.set_cons_zero, List.set_cons_succ] <;> rfl) ⟨hG, (fun h => f0.out h), (fun h => f1.out h), (fun h => f2.out h), (fun h => f3.out h), (fun h => f4.out h), (fun _ => rfl), (fun h => f6.out h), (fun h => f7.out h), (fun h => f8.out h), (fun h => f9.out h), (fun h => f10.out h), (fun h => f11.out h)⟩
        · intro L vs W hlen hL hD hI K hK
          obtain ⟨x0, x1, x2, x3, x4, x5, x6, x7, x8, x9, x10, x11, rfl⟩ := len12 hlen
          have hG := hI.1
          replace hI := hI.2
          have f0 := hide hI.1
          replace hI := hI.2
          have f1 := hide hI.1
          replace hI := hI.2
          have f2 := hide hI.1
          replace hI := hI.2
          have f3 := hide hI.1
          replace hI := hI.2
          have f4 := hide hI.1
          replace hI := hI.2
          have f5 := hide hI.1
          replace hI := hI.2
          have f6 := hide hI.1
          replace hI := hI.2
          have f7 := hide hI.1
          replace hI := hI.2
          have f8 := hide hI.1
          replace hI := hI.2
          have f9 := hide hI.1
          replace hI := hI.2
          have f10 := hide hI.1
          replace hI := hI.2
          have f11 := hide hI
          clear hI
          have hGb := hG.1.hb
          have s4 := keep hGb s4
          have ck := keep hGb ck
          obtain rfl := f5.out (hD.on 5 (by kernel_rfl))
          try simp only [puts, Act.put, List.setIfInBounds_toArray, List.set_cons_zero, List.set_cons_succ]
          try go_simp
          exact hK.out _ _ _ (by simp only [puts, Act.put, List.setIfInBounds_toArray, List.set_cons_zero, List.set_cons_succ] <;> rfl) ⟨hG, (fun h => f0.out h), (fun h => f1.out h), (fun h => f2.out h), (fun h => f3.out h), (fun h => f4.out h), (fun h => f5.out h), (fun _ => rfl), (fun h => f7.out h), (fun h => f8.out h), (fun h => f9.out h), (fun h => f10.out h), (fun h => f11.out h)⟩
        · intro L vs W hlen hL hD hI K hK
          obtain ⟨x0, x1, x2, x3, x4, x5, x6, x7, x8, x9, x10, x11, rfl⟩ := len12 hlen
          have hG := hI.1
          replace hI := hI.2
          have f0 := hide hI.1
          replace hI := hI.2
          have f1 := hide hI.1
          replace hI := hI.2
          have f2 := hide hI.1
          replace hI := hI.2
          have f3 := hide hI.1
          replace hI := hI.2
          have f4 := hide hI.1
          replace hI := hI.2
          have f5 := hide hI.1
          replace hI := hI.2
          have f6 := hide hI.1
          replace hI := hI.2
          have f7 := hide hI.1
          replace hI := hI.2
          have f8 := hide hI.1
          replace hI := hI.2
          have f9 := hide hI.1
          replace hI := hI.2
          have f10 := hide hI.1
          replace hI := hI.2
          have f11 := hide hI
          clear hI
          have hGb := hG.1.hb
          have s4 := keep hGb s4
          have ck := keep hGb ck
          obtain rfl := f6.out (hD.on 6 (by kernel_rfl))
          try simp only [puts, Act.put, List.setIfInBounds_toArray, List.set_cons_zero, List.set_cons_succ]
          try go_simp
          exact hK.out _ _ _ (by simp only [puts, Act.put, List.setIfInBounds_toArray, List.set_cons_zero, List.set_cons_succ] <;> rfl) ⟨hG, (fun h => f0.out h), (fun h => f1.out h), (fun h => f2.out h), (fun h => f3.out h), (fun h => f4.out h), (fun h => f5.out h), (fun h => f6.out h), (fun _ => rfl), (fun h => f8.out h), (fun h => f9.out h), (fun h => f10.out h), (fun h => f11.out h)⟩
        · intro L vs W hlen hL hD hI K hK
          obtain ⟨x0, x1, x2, x3, x4, x5, x6, x7, x8, x9, x10, x11, rfl⟩ := len12 hlen
          have hG := hI.1
          replace hI := hI.2
          have f0 := hide hI.1
          replace hI := hI.2
          have f1 := hide hI.1
          replace hI := hI.2
          have f2 := hide hI.1
          replace hI := hI.2
          have f3 := hide hI.1
          replace hI := hI.2
          have f4 := hide hI.1
          replace hI := hI.2
          have f5 := hide hI.1
          replace hI := hI.2
          have f6 := hide hI.1
          replace hI := hI.2
          have f7 := hide hI.1
          replace hI := hI.2
          have f8 := hide hI.1
          replace hI := hI.2
          have f9 := hide hI.1
          replace hI := hI.2
          have f10 := hide hI.1
          replace hI := hI.2
          have f11 := hide hI
          clear hI
          have hGb := hG.1.hb
          have s4 := keep hGb s4
          have ck := keep hGb ck
          obtain rfl := f7.out (hD.on 7 (by kernel_rfl))
          try simp only [puts, Act.put, List.setIfInBounds_toArray, List.set_cons_zero, List.set_cons_succ]
          try go_simp
          generalize hW' : World.alloc W _ = W'
          have hb : Below W.heap.size W W' := by rw [← hW']; exact bal W _
          exact hK.out _ _ _ (by simp only [puts, Act.put, List.setIfInBounds_toArray, List.set_cons_zero, List.set_cons_succ] <;> rfl) ⟨⟨hG.1.step (hb.mono hG.1.hs), fun h => (hG.2 h).later hb⟩, (fun h => f0.out h), (fun h => f1.out h), (fun h => f2.out h), (fun h => f3.out h), (fun h => f4.out h), (fun h => f5.out h), (fun h => f6.out h), (fun h => f7.out h), (fun _ => fun _ => ⟨W.heap.size, rfl, by rw [← hW'] ; exact Blk.newA W _ rfl⟩), (fun h => (fun h => ⟨⟨h.1.1, rfl⟩, h.2.later hb⟩) (f9.out h)), (fun h => f10.out h), (fun h => (fun h => ⟨h.1, h.2.1, let ⟨a9, c9, o9, b9⟩ := h.2.2; ⟨a9, c9, o9.later hb, b9.later hb⟩⟩) (f11.out h))⟩
        · intro L vs W hlen hL hD hI K hK
          obtain ⟨x0, x1, x2, x3, x4, x5, x6, x7, x8, x9, x10, x11, rfl⟩ := len12 hlen
          have hG := hI.1
          replace hI := hI.2
          have f0 := hide hI.1
          replace hI := hI.2
          have f1 := hide hI.1
          replace hI := hI.2
          have f2 := hide hI.1
          replace hI := hI.2
          have f3 := hide hI.1
          replace hI := hI.2
          have f4 := hide hI.1
          replace hI := hI.2
          have f5 := hide hI.1
          replace hI := hI.2
          have f6 := hide hI.1
          replace hI := hI.2
          have f7 := hide hI.1
          replace hI := hI.2
          have f8 := hide hI.1
          replace hI := hI.2
          have f9 := hide hI.1
          replace hI := hI.2
          have f10 := hide hI.1
          replace hI := hI.2
          have f11 := hide hI
          clear hI
          have hGb := hG.1.hb
          have s4 := keep hGb s4
          have ck := keep hGb ck
          obtain rfl := f1.out (hD.on 1 (by kernel_rfl))
          have g8 := f8.out (hD.on 8 (by kernel_rfl))
          try simp only [puts, Act.put, List.setIfInBounds_toArray, List.set_cons_zero, List.set_cons_succ]
          obtain ⟨b8, rfl, hB8⟩ := g8 hL
          refine step_int3 rfl _ _ rfl (R1.heap.size + 1) _ (negs r.coef k) rfl (hG.2 hL) b8 (-c) rfl hB8 hnk hG.1.hs ?_
          intro v' W' hO hg
          have hb := below_ownI (hG.2 hL) hG.1.hs hg
          exact hK.out _ _ _ (by simp only [puts, Act.put, List.setIfInBounds_toArray, List.set_cons_zero, List.set_cons_succ] <;> rfl) ⟨⟨hG.1.step hb, fun h => absurd h (by simp)⟩, (fun h => f0.out h), (fun h => f1.out h), (fun h => f2.out h), (fun h => f3.out h), (fun h => f4.out h), (fun h => f5.out h), (fun h => f6.out h), (fun h => f7.out h), (fun h => (fun _ h9 => absurd h9 (by simp)) (f8.out h)), (fun _ => ⟨⟨hD.on 1 (by kernel_rfl), hD.on 8 (by kernel_rfl)⟩, by rw [HNS.out] ; exact hO⟩), (fun h => f10.out h), (fun h => (fun h => absurd (h.2.1.symm.trans hL) (by decide)) (f11.out h))⟩
        · intro L vs W hlen hL hD hI K hK
          obtain ⟨x0, x1, x2, x3, x4, x5, x6, x7, x8, x9, x10, x11, rfl⟩ := len12 hlen
          have hG := hI.1
          replace hI := hI.2
          have f0 := hide hI.1
          replace hI := hI.2
          have f1 := hide hI.1
          replace hI := hI.2
          have f2 := hide hI.1
          replace hI := hI.2
          have f3 := hide hI.1
          replace hI := hI.2
          have f4 := hide hI.1
          replace hI := hI.2
          have f5 := hide hI.1
          replace hI := hI.2
          have f6 := hide hI.1
          replace hI := hI.2
          have f7 := hide hI.1
          replace hI := hI.2
          have f8 := hide hI.1
          replace hI := hI.2
          have f9 := hide hI.1
          replace hI := hI.2
          have f10 := hide hI.1
          replace hI := hI.2
          have f11 := hide hI
          clear hI
          have hGb := hG.1.hb
          have s4 := keep hGb s4
          have ck := keep hGb ck
          try simp only [puts, Act.put, List.setIfInBounds_toArray, List.set_cons_zero, List.set_cons_succ]
          try go_simp
          exact hK.out _ _ _ (by simp only [puts, Act.put, List.setIfInBounds_toArray, List.set_cons_zero, List.set_cons_succ] <;> rfl) ⟨hG, (fun h => f0.out h), (fun h => f1.out h), (fun h => f2.out h), (fun h => f3.out h), (fun h => f4.out h), (fun h => f5.out h), (fun h => f6.out h), (fun h => f7.out h), (fun h => f8.out h), (fun h => f9.out h), (fun _ => rfl), (fun h => f11.out h)⟩
        · intro L vs W hlen hL hD hI K hK
          obtain ⟨x0, x1, x2, x3, x4, x5, x6, x7, x8, x9, x10, x11, rfl⟩ := len12 hlen
          have hG := hI.1
          replace hI := hI.2
          have f0 := hide hI.1
          replace hI := hI.2
          have f1 := hide hI.1
          replace hI := hI.2
          have f2 := hide hI.1
          replace hI := hI.2
          have f3 := hide hI.1
          replace hI := hI.2
          have f4 := hide hI.1
          replace hI := hI.2
          have f5 := hide hI.1
          replace hI := hI.2
          have f6 := hide hI.1
          replace hI := hI.2
          have f7 := hide hI.1
          replace hI := hI.2
          have f8 := hide hI.1
          replace hI := hI.2
          have f9 := hide hI.1
          replace hI := hI.2
          have f10 := hide hI.1
          replace hI := hI.2
          have f11 := hide hI
          clear hI
          have hGb := hG.1.hb
          have s4 := keep hGb s4
          have ck := keep hGb ck
          have g9 := f9.out (hD.on 9 (by kernel_rfl))
          obtain rfl := f10.out (hD.on 10 (by kernel_rfl))
          try simp only [puts, Act.put, List.setIfInBounds_toArray, List.set_cons_zero, List.set_cons_succ]
          obtain ⟨a9, c9, e9⟩ := g9.2.form
          rw [HNL.out] at e9
          subst e9
          have hG8 := hG
          rw [hL] at hG8
          have hq := hG8.1.hq rfl
          have z0 := hq.frozen 4
          have z1 := hq.cell 4 rfl
          go_simp
          have hb := Below.refl W.heap.size W
          exact hK.out _ undef _ (by simp only [puts, Act.put, List.setIfInBounds_toArray, List.set_cons_zero, List.set_cons_succ] <;> rfl) ⟨⟨hG8.1.put _ _ _ (by simp), fun h9 => absurd (h9.symm.trans (hD.on 9 (by kernel_rfl))) (by decide)⟩, (fun h => f0.out h), (fun h => f1.out h), (fun h => f2.out h), (fun h => f3.out h), (fun h => f4.out h), (fun h => f5.out h), (fun h => f6.out h), (fun h => f7.out h), (fun h => (fun _ h9 => absurd (h9.symm.trans (hD.on 9 (by kernel_rfl))) (by decide)) (f8.out h)), (fun h => (fun h => ⟨h.1, h.2.set (by omega) _ _⟩) (f9.out h)), (fun h => f10.out h), (fun _ => ⟨g9.1.1, hD.on 9 (by kernel_rfl), a9, c9, g9.2.set (by omega) _ _, hq.set 4 _⟩)⟩
      intro L vs W hlen hall hI
      obtain ⟨x0, x1, x2, x3, x4, x5, x6, x7, x8, x9, x10, x11, rfl⟩ := len12 hlen
      have hG := hI.1
      replace hI := hI.2
      have f0 := hide hI.1
      replace hI := hI.2
      have f1 := hide hI.1
      replace hI := hI.2
      have f2 := hide hI.1
      replace hI := hI.2
      have f3 := hide hI.1
      replace hI := hI.2
      have f4 := hide hI.1
      replace hI := hI.2
      have f5 := hide hI.1
      replace hI := hI.2
      have f6 := hide hI.1
      replace hI := hI.2
      have f7 := hide hI.1
      replace hI := hI.2
      have f8 := hide hI.1
      replace hI := hI.2
      have f9 := hide hI.1
      replace hI := hI.2
      have f10 := hide hI.1
      replace hI := hI.2
      have f11 := hide hI
      clear hI
      obtain rfl := f0.out (hall 0 (by decide))
      obtain rfl := f1.out (hall 1 (by decide))
      obtain rfl := f2.out (hall 2 (by decide))
      obtain rfl := f3.out (hall 3 (by decide))
      obtain rfl := f4.out (hall 4 (by decide))
      obtain rfl := f5.out (hall 5 (by decide))
      obtain rfl := f6.out (hall 6 (by decide))
      obtain rfl := f7.out (hall 7 (by decide))
      have g8 := f8.out (hall 8 (by decide))
      have g9 := f9.out (hall 9 (by decide))
      obtain rfl := f10.out (hall 10 (by decide))
      have g11 := f11.out (hall 11 (by decide))
      have hal := hide hall
      clear hall f0 f1 f2 f3 f4 f5 f6 f7 f8 f9 f10 f11
      try simp only [puts, Act.put, List.setIfInBounds_toArray, List.set_cons_zero, List.set_cons_succ]
      obtain ⟨-, -, a9, c9, ho9, hb9⟩ := g11
      have hbf := hG.1.hb
      have hsf := hG.1.hs
      clear g9 g8 hG HX HOW
      go_wp2_with fail
      go_roundw
      case rel => exact ⟨k + 1, _, by omega, by go_num, ho9, hb9, hbf, hsf⟩
      case measure => simp [intOf]; omega
    · obtain rfl : k = n := by omega
      have HD2 := hide (show Below w2.heap.size w2 wr from (below2 (below2 HP4.out Rb) (hbr.mono (Nat.le_refl _))))
      have HLTW : Hid (w2.heap.size < wr.heap.size) := hide bPr.lt
      have hnl : (negs r.coef k).length = k := negs_len (by have := HRL.out.1; omega)
      obtain ⟨sa, sc, rfl⟩ := hown.form
      rw [hnl] at hown hX
      have HCYr := hide (HCY5.out.keeps (keeps_frmY_below hbr))
      have HAY : Hid (IntsIn (frmY 0 3 wr) (.slice sa k sc) (agR r).coef) := hide (by
        have h1 := hown.intsY (B' := 0) (Nat.zero_le _)
        have e1 : negs r.coef k = (agR r).coef := by
          unfold negs agR; rw [List.take_of_length_le (by have := HRL.out.1; omega)]
        rwa [e1] at h1)
      have hr2' := HR2.out.below HD2.out
      obtain ⟨Lr, hLl, hL6, hLone, hLs, -, hLt⟩ := rows_from (RowsAt.to HR2.out)
      have hLt2 := hLt rows.length
      rw [List.take_of_length_le (Nat.le_of_eq hLl)] at hLt2
      have HLl := hide hLl
      have HLs := hide hLs
      have HLt := hide (And.intro (fun b hb j u hj => keep HD2.out (hLt2.1 b hb j u hj)) hLt2.2)
      have HL6 := hide hL6
      have HLone := hide hLone
      have hLr8 : Lr.length ≤ 8 := by rw [hLl]; exact hr8
      have q1 := bPr.cell 1 rfl
      have bRr := bR.later hbr
      have r0 := bRr.cell 0 rfl
      have r1 := bRr.cell 1 rfl
      have r2 := bRr.cell 2 rfl
      have r3 := bRr.cell 3 rfl
      have r4 := bRr.cell 4 rfl
      have r5 := bRr.cell 5 rfl
      have s0 := hX.cell 0 rfl
      have s1 := hX.cell 1 rfl
      have s2 := hX.cell 2 rfl
      have s3 := hX.cell 3 rfl
      have s4 := hX.cell 4 rfl
      have s5 := hX.cell 5 rfl
      clear hLl hL6 hLone hLs hLt hLt2 hr2' hnl bRr hown hco5 hr5 hg5 bP5 hrm hgm hk hzr hlt Ab bA Rb
      go_wp2_with fail
      refine wp_region_inv [some 62, some 63, some 64, some 65, some 66, some 67, some 68, some 69, some 70, none] (fun L vs W => match vs with | [x0, x1, x2, x3, x4, x5, x6, x7, x8, x9] => (L 9 = false → Below wr.heap.size wr W) ∧ (L 0 = true → L 3 = false → ∃ b0 : Nat, wr.heap.size ≤ b0 ∧ x0 = .slice (some ⟨b0, 0, none⟩) 0 0 ∧ Blk W b0 [] 67) ∧ (L 1 = true → x1 = .pointer (some ⟨w2.heap.size, 1, none⟩)) ∧ (L 2 = true → x2 = .slice ra rows.length rc) ∧ (L 3 = true → (L 0 = true ∧ L 2 = true) ∧ (L 7 = false → OwnR W wr.heap.size 67 6 x3 Lr)) ∧ (L 4 = true → x4 = rowV r (.slice ca r.coef.length cc)) ∧ (L 5 = true → x5 = rowV (agR r) (.slice sa k sc)) ∧ (L 6 = true → (L 4 = true ∧ L 5 = true) ∧ (L 7 = false → ∃ b6 : Nat, x6 = .slice (some ⟨b6, 0, none⟩) 2 2 ∧ Blk W b6 (rowCells r (.slice ca r.coef.length cc) ++ rowCells (agR r) (.slice sa k sc)) 67)) ∧ (L 7 = true → (L 0 = true ∧ L 2 = true ∧ L 3 = true ∧ L 4 = true ∧ L 5 = true ∧ L 6 = true) ∧ OwnR W wr.heap.size 67 6 x7 (Lr ++ [rowCells r (.slice ca r.coef.length cc), rowCells (agR r) (.slice sa k sc)])) ∧ (L 8 = true → x8 = .pointer (some ⟨w2.heap.size, 1, none⟩)) ∧ (L 9 = true → (L 0 = true ∧ L 2 = true ∧ L 3 = true ∧ L 4 = true ∧ L 5 = true ∧ L 6 = true ∧ L 7 = true) ∧ ∃ (a9 : Option Addr) (c9 : Nat), Blk W w2.heap.size [.int .i64 k, .slice a9 (rows.length + 2) c9, .slice ga gain.length gc] 27 ∧ RowsAt W (.slice a9 (rows.length + 2) c9) (rows ++ [r, agR r]) ∧ Below w2.heap.size w2 W) | _ => False) [_, _, _, _, _, _, _, _, _, undef] (by kernel_rfl) (by kernel_rfl) rfl (by simp only [puts, Act.put, List.setIfInBounds_toArray, List.set_cons_zero, List.set_cons_succ] <;> rfl) ?_ ?_ ?_
      · exact ⟨fun _ => (Below.refl _ _).drew, (fun h => by cases h), (fun h => by cases h), (fun h => by cases h), (fun h => by cases h), (fun h => by cases h), (fun h => by cases h), (fun h => by cases h), (fun h => by cases h), (fun h => by cases h), (fun h => by cases h)⟩
      · refine ⟨?_, ?_, ?_, ?_, ?_, ?_, ?_, ?_, ?_, ?_, trivial⟩
        · intro L vs W hlen hL hD hI K hK
          obtain ⟨x0, x1, x2, x3, x4, x5, x6, x7, x8, x9, rfl⟩ := len10 hlen
          have hG := hI.1
          replace hI := hI.2
          have f0 := hide hI.1
          replace hI := hI.2
          have f1 := hide hI.1
          replace hI := hI.2
          have f2 := hide hI.1
          replace hI := hI.2
          have f3 := hide hI.1
          replace hI := hI.2
          have f4 := hide hI.1
          replace hI := hI.2
          have f5 := hide hI.1
          replace hI := hI.2
          have f6 := hide hI.1
          replace hI := hI.2
          have f7 := hide hI.1
          replace hI := hI.2
          have f8 := hide hI.1
          replace hI := hI.2
          have f9 := hide hI
          clear hI
          try simp only [puts, Act.put, List.setIfInBounds_toArray, List.set_cons_zero, List.set_cons_succ]
          have h9 : L 9 = false := Bool.eq_false_iff.2 (fun h => absurd ((f9.out h).1.1.symm.trans hL) (by decide))
          have hW := hG h9
          go_simp
          generalize hW' : World.alloc W _ = W'
          have hb : Below W.heap.size W W' := by rw [← hW']; exact bal W _
          exact hK.out _ _ _ (by simp only [puts, Act.put, List.setIfInBounds_toArray, List.set_cons_zero, List.set_cons_succ] <;> rfl) ⟨fun _ => below2 hW hb, (fun _ => fun _ => ⟨W.heap.size, hW.size, rfl, by rw [← hW'] ; exact Blk.newA W _ rfl⟩), (fun h => f1.out h), (fun h => f2.out h), (fun h => (fun h => absurd (h.1.1.symm.trans hL) (by decide)) (f3.out h)), (fun h => f4.out h), (fun h => f5.out h), (fun h => (fun h => ⟨h.1, fun h7 => let ⟨b6, e, hB⟩ := h.2 h7; ⟨b6, e, hB.later hb⟩⟩) (f6.out h)), (fun h => (fun h => absurd (h.1.1.symm.trans hL) (by decide)) (f7.out h)), (fun h => f8.out h), (fun h => (fun h => absurd (h.1.1.symm.trans hL) (by decide)) (f9.out h))⟩
        · intro L vs W hlen hL hD hI K hK
          obtain ⟨x0, x1, x2, x3, x4, x5, x6, x7, x8, x9, rfl⟩ := len10 hlen
          have hG := hI.1
          replace hI := hI.2
          have f0 := hide hI.1
          replace hI := hI.2
          have f1 := hide hI.1
          replace hI := hI.2
          have f2 := hide hI.1
          replace hI := hI.2
          have f3 := hide hI.1
          replace hI := hI.2
          have f4 := hide hI.1
          replace hI := hI.2
          have f5 := hide hI.1
          replace hI := hI.2
          have f6 := hide hI.1
          replace hI := hI.2
          have f7 := hide hI.1
          replace hI := hI.2
          have f8 := hide hI.1
          replace hI := hI.2
          have f9 := hide hI
          clear hI
          try simp only [puts, Act.put, List.setIfInBounds_toArray, List.set_cons_zero, List.set_cons_succ]
          try go_simp
          exact hK.out _ _ _ (by simp only [puts, Act.put, List.setIfInBounds_toArray, List.set_cons_zero, List.set_cons_succ] <;> rfl) ⟨hG, (fun h => f0.out h), (fun _ => rfl), (fun h => f2.out h), (fun h => f3.out h), (fun h => f4.out h), (fun h => f5.out h), (fun h => f6.out h), (fun h => f7.out h), (fun h => f8.out h), (fun h => f9.out h)⟩
        · intro L vs W hlen hL hD hI K hK
          obtain ⟨x0, x1, x2, x3, x4, x5, x6, x7, x8, x9, rfl⟩ := len10 hlen
          have hG := hI.1
          replace hI := hI.2
          have f0 := hide hI.1
          replace hI := hI.2
          have f1 := hide hI.1
          replace hI := hI.2
          have f2 := hide hI.1
          replace hI := hI.2
          have f3 := hide hI.1
          replace hI := hI.2
          have f4 := hide hI.1
          replace hI := hI.2
          have f5 := hide hI.1
          replace hI := hI.2
          have f6 := hide hI.1
          replace hI := hI.2
          have f7 := hide hI.1
          replace hI := hI.2
          have f8 := hide hI.1
          replace hI := hI.2
          have f9 := hide hI
          clear hI
          obtain rfl := f1.out (hD.on 1 (by kernel_rfl))
          try simp only [puts, Act.put, List.setIfInBounds_toArray, List.set_cons_zero, List.set_cons_succ]
          have h9 : L 9 = false := Bool.eq_false_iff.2 (fun h => absurd ((f9.out h).1.2.1.symm.trans hL) (by decide))
          have hW := hG h9
          have z1 := keep hW q1
          go_simp
          exact hK.out _ _ _ (by simp only [puts, Act.put, List.setIfInBounds_toArray, List.set_cons_zero, List.set_cons_succ] <;> rfl) ⟨hG, (fun h => f0.out h), (fun h => f1.out h), (fun _ => rfl), (fun h => (fun h => absurd (h.1.2.symm.trans hL) (by decide)) (f3.out h)), (fun h => f4.out h), (fun h => f5.out h), (fun h => f6.out h), (fun h => (fun h => absurd (h.1.2.1.symm.trans hL) (by decide)) (f7.out h)), (fun h => f8.out h), (fun h => (fun h => absurd (h.1.2.1.symm.trans hL) (by decide)) (f9.out h))⟩
        · intro L vs W hlen hL hD hI K hK
          obtain ⟨x0, x1, x2, x3, x4, x5, x6, x7, x8, x9, rfl⟩ := len10 hlen
          have hG := hI.1
          replace hI := hI.2
          have f0 := hide hI.1
          replace hI := hI.2
          have f1 := hide hI.1
          replace hI := hI.2
          have f2 := hide hI.1
          replace hI := hI.2
          have f3 := hide hI.1
          replace hI := hI.2
          have f4 := hide hI.1
          replace hI := hI.2
          have f5 := hide hI.1
          replace hI := hI.2
          have f6 := hide hI.1
          replace hI := hI.2
          have f7 := hide hI.1
          replace hI := hI.2
          have f8 := hide hI.1
          replace hI := hI.2
          have f9 := hide hI
          clear hI
          have g0 := f0.out (hD.on 0 (by kernel_rfl))
          obtain rfl := f2.out (hD.on 2 (by kernel_rfl))
          try simp only [puts, Act.put, List.setIfInBounds_toArray, List.set_cons_zero, List.set_cons_succ]
          have h9 : L 9 = false := Bool.eq_false_iff.2 (fun h => absurd ((f9.out h).1.2.2.1.symm.trans hL) (by decide))
          have hW := hG h9
          obtain ⟨b0, hb0, rfl, hB0⟩ := g0 hL
          refine step_app_two infoRow rfl (by decide) Try.underlying24 rfl _ _ rfl wr.heap.size _ [] rfl (own_empty hB0 hb0) _ _ _ Lr HLl.out.symm rfl HL6.out HLone.out (fun b hb j u hj => keep hW (HLt.out.1 b hb j u hj)) HLt.out.2 (by simp only [List.length_nil, Nat.zero_add] ; omega) (by simp only [List.length_nil, Nat.zero_add] ; omega) hW.size ?_
          intro v' W' hO hg
          have hb := below_own2 (own_empty (k := 6) hB0 hb0) hW.size hg
          exact hK.out _ _ _ (by simp only [puts, Act.put, List.setIfInBounds_toArray, List.set_cons_zero, List.set_cons_succ] <;> rfl) ⟨fun _ => hW.trans hb, (fun h => (fun _ h3 => absurd h3 (by simp)) (f0.out h)), (fun h => f1.out h), (fun h => f2.out h), (fun _ => ⟨⟨hD.on 0 (by kernel_rfl), hD.on 2 (by kernel_rfl)⟩, fun _ => by simpa using hO⟩), (fun h => f4.out h), (fun h => f5.out h), (fun h => (fun h => ⟨h.1, fun h7 => let ⟨b6, e, hB⟩ := h.2 h7; ⟨b6, e, hB.grown hg (fun e6 => hB.ne_empty hB0 (Option.some.inj e6).symm)⟩⟩) (f6.out h)), (fun h => (fun h => absurd (h.1.2.2.1.symm.trans hL) (by decide)) (f7.out h)), (fun h => f8.out h), (fun h => (fun h => absurd (h.1.2.2.1.symm.trans hL) (by decide)) (f9.out h))⟩
        · intro L vs W hlen hL hD hI K hK
          obtain ⟨x0, x1, x2, x3, x4, x5, x6, x7, x8, x9, rfl⟩ := len10 hlen
          have hG := hI.1
          replace hI := hI.2
          have f0 := hide hI.1
          replace hI := hI.2
          have f1 := hide hI.1
          replace hI := hI.2
          have f2 := hide hI.1
          replace hI := hI.2
          have f3 := hide hI.1
          replace hI := hI.2
          have f4 := hide hI.1
          replace hI := hI.2
          have f5 := hide hI.1
          replace hI := hI.2
          have f6 := hide hI.1
          replace hI := hI.2
          have f7 := hide hI.1
          replace hI := hI.2
          have f8 := hide hI.1
          replace hI := hI.2
          have f9 := hide hI
          clear hI
          try simp only [puts, Act.put, List.setIfInBounds_toArray, List.set_cons_zero, List.set_cons_succ]
          have h9 : L 9 = false := Bool.eq_false_iff.2 (fun h => absurd ((f9.out h).1.2.2.2.1.symm.trans hL) (by decide))
          have hW := hG h9
          have z0 := keep hW r0
          have z1 := keep hW r1
          have z2 := keep hW r2
          have z3 := keep hW r3
          have z4 := keep hW r4
          have z5 := keep hW r5
          go_simp
          exact hK.out _ _ _ (by simp only [puts, Act.put, List.setIfInBounds_toArray, List.set_cons_zero, List.set_cons_succ] <;> rfl) ⟨hG, (fun h => f0.out h), (fun h => f1.out h), (fun h => f2.out h), (fun h => f3.out h), (fun _ => rfl), (fun h => f5.out h), (fun h => (fun h => absurd (h.1.1.symm.trans hL) (by decide)) (f6.out h)), (fun h => (fun h => absurd (h.1.2.2.2.1.symm.trans hL) (by decide)) (f7.out h)), (fun h => f8.out h), (fun h => (fun h => absurd (h.1.2.2.2.1.symm.trans hL) (by decide)) (f9.out h))⟩
        · intro L vs W hlen hL hD hI K hK
          obtain ⟨x0, x1, x2, x3, x4, x5, x6, x7, x8, x9, rfl⟩ := len10 hlen
          have hG := hI.1
          replace hI := hI.2
          have f0 := hide hI.1
          replace hI := hI.2
          have f1 := hide hI.1
          replace hI := hI.2
          have f2 := hide hI.1
          replace hI := hI.2
          have f3 := hide hI.1
          replace hI := hI.2
          have f4 := hide hI.1
          replace hI := hI.2
          have f5 := hide hI.1
          replace hI := hI.2
          have f6 := hide hI.1
          replace hI := hI.2
          have f7 := hide hI.1
          replace hI := hI.2
          have f8 := hide hI.1
          replace hI := hI.2
          have f9 := hide hI
          clear hI
          try simp only [puts, Act.put, List.setIfInBounds_toArray, List.set_cons_zero, List.set_cons_succ]
          have h9 : L 9 = false := Bool.eq_false_iff.2 (fun h => absurd ((f9.out h).1.2.2.2.2.1.symm.trans hL) (by decide))
          have hW := hG h9
          have z0 := keep hW s0
          have z1 := keep hW s1
          have z2 := keep hW s2
          have z3 := keep hW s3
          have z4 := keep hW s4
          have z5 := keep hW s5
          go_simp
          exact hK.out _ _ _ (by simp only [puts, Act.put, List.setIfInBounds_toArray, List.set_cons_zero, List.set_cons_succ] <;> rfl) ⟨hG, (fun h => f0.out h), (fun h => f1.out h), (fun h => f2.out h), (fun h => f3.out h), (fun h => f4.out h), (fun _ => rfl), (fun h => (fun h => absurd (h.1.2.symm.trans hL) (by decide)) (f6.out h)), (fun h => (fun h => absurd (h.1.2.2.2.2.1.symm.trans hL) (by decide)) (f7.out h)), (fun h => f8.out h), (fun h => (fun h => absurd (h.1.2.2.2.2.1.symm.trans hL) (by decide)) (f9.out h))⟩
        · intro L vs W hlen hL hD hI K hK
          obtain ⟨x0, x1, x2, x3, x4, x5, x6, x7, x8, x9, rfl⟩ := len10 hlen
          have hG := hI.1
          replace hI := hI.2
          have f0 := hide hI.1
          replace hI := hI.2
          have f1 := hide hI.1
          replace hI := hI.2
          have f2 := hide hI.1
          replace hI := hI.2
          have f3 := hide hI.1
          replace hI := hI.2
          have f4 := hide hI.1
          replace hI := hI.2
          have f5 := hide hI.1
          replace hI := hI.2
          have f6 := hide hI.1
          replace hI := hI.2
          have f7 := hide hI.1
          replace hI := hI.2
          have f8 := hide hI.1
          replace hI := hI.2
          have f9 := hide hI
          clear hI
          obtain rfl := f4.out (hD.on 4 (by kernel_rfl))
          obtain rfl := f5.out (hD.on 5 (by kernel_rfl))
          try simp only [puts, Act.put, List.setIfInBounds_toArray, List.set_cons_zero, List.set_cons_succ]
          have h9 : L 9 = false := Bool.eq_false_iff.2 (fun h => absurd ((f9.out h).1.2.2.2.2.2.1.symm.trans hL) (by decide))
          have hW := hG h9
          go_simp
          generalize hW' : World.alloc W _ = W'
          have hb : Below W.heap.size W W' := by rw [← hW']; exact bal W _
          exact hK.out _ _ _ (by simp only [puts, Act.put, List.setIfInBounds_toArray, List.set_cons_zero, List.set_cons_succ] <;> rfl) ⟨fun _ => below2 hW hb, (fun h => (fun h => fun h3 => let ⟨b0, a1, a2, a3⟩ := h h3; ⟨b0, a1, a2, a3.later hb⟩) (f0.out h)), (fun h => f1.out h), (fun h => f2.out h), (fun h => (fun h => ⟨h.1, fun h7 => (h.2 h7).later' hb⟩) (f3.out h)), (fun h => f4.out h), (fun h => f5.out h), (fun _ => ⟨⟨hD.on 4 (by kernel_rfl), hD.on 5 (by kernel_rfl)⟩, fun _ => ⟨W.heap.size, rfl, by rw [← hW'] ; exact Blk.newA W _ rfl⟩⟩), (fun h => (fun h => absurd (h.1.2.2.2.2.2.symm.trans hL) (by decide)) (f7.out h)), (fun h => f8.out h), (fun h => (fun h => absurd (h.1.2.2.2.2.2.1.symm.trans hL) (by decide)) (f9.out h))⟩
        · intro L vs W hlen hL hD hI K hK
          obtain ⟨x0, x1, x2, x3, x4, x5, x6, x7, x8, x9, rfl⟩ := len10 hlen
          have hG := hI.1
          replace hI := hI.2
          have f0 := hide hI.1
          replace hI := hI.2
          have f1 := hide hI.1
          replace hI := hI.2
          have f2 := hide hI.1
          replace hI := hI.2
          have f3 := hide hI.1
          replace hI := hI.2
          have f4 := hide hI.1
          replace hI := hI.2
          have f5 := hide hI.1
          replace hI := hI.2
          have f6 := hide hI.1
          replace hI := hI.2
          have f7 := hide hI.1
          replace hI := hI.2
          have f8 := hide hI.1
          replace hI := hI.2
          have f9 := hide hI
          clear hI
          have g3 := f3.out (hD.on 3 (by kernel_rfl))
          have g6 := f6.out (hD.on 6 (by kernel_rfl))
          try simp only [puts, Act.put, List.setIfInBounds_toArray, List.set_cons_zero, List.set_cons_succ]
          have h9 : L 9 = false := Bool.eq_false_iff.2 (fun h => absurd ((f9.out h).1.2.2.2.2.2.2.symm.trans hL) (by decide))
          have hW := hG h9
          obtain ⟨b6, rfl, hB6⟩ := g6.2 hL
          have hO3 := g3.2 hL
          refine step_app_two infoRow rfl (by decide) Try.underlying24 rfl _ _ rfl wr.heap.size _ Lr rfl hO3 (some ⟨b6, 0, none⟩) 2 2 [rowCells r (.slice ca r.coef.length cc), rowCells (agR r) (.slice sa k sc)] rfl rfl (two_six _ _ _ _) (two_one) (fun b hb j u hj => by cases hb ; have := hB6.cell j (by simpa using hj) ; cases j <;> simpa [Addr.add] using this) (fun e => by cases e) (by simp ; omega) (by simp ; omega) hW.size ?_
          intro v' W' hO hg
          have hb := below_own2 hO3 hW.size hg
          exact hK.out _ _ _ (by simp only [puts, Act.put, List.setIfInBounds_toArray, List.set_cons_zero, List.set_cons_succ] <;> rfl) ⟨fun _ => hW.trans hb, (fun h => (fun _ h3 => absurd (h3.symm.trans (hD.on 3 (by kernel_rfl))) (by decide)) (f0.out h)), (fun h => f1.out h), (fun h => f2.out h), (fun h => (fun h => ⟨h.1, fun h7 => absurd h7 (by simp)⟩) (f3.out h)), (fun h => f4.out h), (fun h => f5.out h), (fun h => (fun h => ⟨h.1, fun h7 => absurd h7 (by simp)⟩) (f6.out h)), (fun _ => ⟨⟨g3.1.1, g3.1.2, hD.on 3 (by kernel_rfl), g6.1.1, g6.1.2, hD.on 6 (by kernel_rfl)⟩, hO⟩), (fun h => f8.out h), (fun h => (fun h => absurd (h.1.2.2.2.2.2.2.symm.trans hL) (by decide)) (f9.out h))⟩
        · intro L vs W hlen hL hD hI K hK
          obtain ⟨x0, x1, x2, x3, x4, x5, x6, x7, x8, x9, rfl⟩ := len10 hlen
          have hG := hI.1
          replace hI := hI.2
          have f0 := hide hI.1
          replace hI := hI.2
          have f1 := hide hI.1
          replace hI := hI.2
          have f2 := hide hI.1
          replace hI := hI.2
          have f3 := hide hI.1
          replace hI := hI.2
          have f4 := hide hI.1
          replace hI := hI.2
          have f5 := hide hI.1
          replace hI := hI.2
          have f6 := hide hI.1
          replace hI := hI.2
          have f7 := hide hI.1
          replace hI := hI.2
          have f8 := hide hI.1
          replace hI := hI.2
          have f9 := hide hI
          clear hI
          try simp only [puts, Act.put, List.setIfInBounds_toArray, List.set_cons_zero, List.set_cons_succ]
          try go_simp
          exact hK.out _ _ _ (by simp only [puts, Act.put, List.setIfInBounds_toArray, List.set_cons_zero, List.set_cons_succ] <;> rfl) ⟨hG, (fun h => f0.out h), (fun h => f1.out h), (fun h => f2.out h), (fun h => f3.out h), (fun h => f4.out h), (fun h => f5.out h), (fun h => f6.out h), (fun h => f7.out h), (fun _ => rfl), (fun h => f9.out h)⟩
        · intro L vs W hlen hL hD hI K hK
          obtain ⟨x0, x1, x2, x3, x4, x5, x6, x7, x8, x9, rfl⟩ := len10 hlen
          have hG := hI.1
          replace hI := hI.2
          have f0 := hide hI.1
          replace hI := hI.2
          have f1 := hide hI.1
          replace hI := hI.2
          have f2 := hide hI.1
          replace hI := hI.2
          have f3 := hide hI.1
          replace hI := hI.2
          have f4 := hide hI.1
          replace hI := hI.2
          have f5 := hide hI.1
          replace hI := hI.2
          have f6 := hide hI.1
          replace hI := hI.2
          have f7 := hide hI.1
          replace hI := hI.2
          have f8 := hide hI.1
          replace hI := hI.2
          have f9 := hide hI
          clear hI
          have g7 := f7.out (hD.on 7 (by kernel_rfl))
          obtain rfl := f8.out (hD.on 8 (by kernel_rfl))
          try simp only [puts, Act.put, List.setIfInBounds_toArray, List.set_cons_zero, List.set_cons_succ]
          have hW := hG hL
          obtain ⟨a9, c9, e9⟩ := own_form g7.2 (n := rows.length + 2) (by rw [List.length_append, HLl.out] ; rfl)
          subst e9
          have hq := bPr.later hW
          have z0 := hq.frozen 1
          have z1 := hq.cell 1 rfl
          go_simp
          have hb := Below.refl W.heap.size W
          exact hK.out _ undef _ (by simp only [puts, Act.put, List.setIfInBounds_toArray, List.set_cons_zero, List.set_cons_succ] <;> rfl) ⟨fun h9 => absurd h9 (by simp), (fun h => (fun _ h3 => absurd (h3.symm.trans g7.1.2.2.1) (by decide)) (f0.out h)), (fun h => f1.out h), (fun h => f2.out h), (fun h => (fun h => ⟨h.1, fun h7 => absurd (h7.symm.trans (hD.on 7 (by kernel_rfl))) (by decide)⟩) (f3.out h)), (fun h => f4.out h), (fun h => f5.out h), (fun h => (fun h => ⟨h.1, fun h7 => absurd (h7.symm.trans (hD.on 7 (by kernel_rfl))) (by decide)⟩) (f6.out h)), (fun h => (fun h => ⟨h.1, ⟨ownsRow_setCell_below h.2.1 HLTW.out _, h.2.2⟩⟩) (f7.out h)), (fun h => f8.out h), (fun _ => ⟨⟨g7.1.1, g7.1.2.1, g7.1.2.2.1, g7.1.2.2.2.1, g7.1.2.2.2.2.1, g7.1.2.2.2.2.2, hD.on 7 (by kernel_rfl)⟩, a9, c9, hq.set 1 _, two_rows HLl.out HLs.out g7.2 hW HD2.out HLTW.out hq HCYr.out HAY.out _, (below2 HD2.out hW).setCell (p := ⟨w2.heap.size, 1, none⟩) (Nat.le_refl _) _⟩)⟩
      intro L vs W hlen hall hI
      obtain ⟨x0, x1, x2, x3, x4, x5, x6, x7, x8, x9, rfl⟩ := len10 hlen
      have hG := hI.1
      replace hI := hI.2
      have f0 := hide hI.1
      replace hI := hI.2
      have f1 := hide hI.1
      replace hI := hI.2
      have f2 := hide hI.1
      replace hI := hI.2
      have f3 := hide hI.1
      replace hI := hI.2
      have f4 := hide hI.1
      replace hI := hI.2
      have f5 := hide hI.1
      replace hI := hI.2
      have f6 := hide hI.1
      replace hI := hI.2
      have f7 := hide hI.1
      replace hI := hI.2
      have f8 := hide hI.1
      replace hI := hI.2
      have f9 := hide hI
      clear hI
      have g0 := f0.out (hall 0 (by decide))
      obtain rfl := f1.out (hall 1 (by decide))
      obtain rfl := f2.out (hall 2 (by decide))
      have g3 := f3.out (hall 3 (by decide))
      obtain rfl := f4.out (hall 4 (by decide))
      obtain rfl := f5.out (hall 5 (by decide))
      have g6 := f6.out (hall 6 (by decide))
      have g7 := f7.out (hall 7 (by decide))
      obtain rfl := f8.out (hall 8 (by decide))
      have g9 := f9.out (hall 9 (by decide))
      have hal := hide hall
      clear hall f0 f1 f2 f3 f4 f5 f6 f7 f8 f9
      try simp only [puts, Act.put, List.setIfInBounds_toArray, List.set_cons_zero, List.set_cons_succ]
      obtain ⟨-, a9, c9, bP9, hR9, hw9⟩ := g9
      obtain ⟨W6, rfl⟩ : ∃ W', W' = W := ⟨_, rfl⟩
      have hVX := us_valid hV hr8 HRR.out ⟨HRL.out.2.2.1, HRL.out.2.2.2⟩
      obtain ⟨m, hm⟩ : ∃ m, rows.length + 2 = m := ⟨_, rfl⟩
      have hXl : (usX k rows gain r).rows.length = m := by rw [← hm]; simp [usX]
      rw [hm] at bP9 hR9
      have hR9 : RowsAt W6 (.slice a9 m c9) (usX k rows gain r).rows := hR9
      have hG9 := HG2.out.below hw9
      have hw9' := below2 HB2.out hw9
      have HXL := hide hXl
      have HMR := hide hm
      have hm10 : m ≤ 10 := by omega
      have HSH := hide (us_short hVX)
      have hfo := us_found (n := k) (rows := rows) (gain := gain) (r := r)
      have HNR := hide (own_refutes hVX hfo)
      have p0 := bP9.cell 0 rfl
      have p1 := bP9.cell 1 rfl
      have p2 := bP9.cell 2 rfl
      clear hm hXl g6 g3 g7 hG bPr bR HLl HLs HLt HL6 HLone hLr8 HD2 HLTW HCYr HAY HCY5 HR2 HG2 HP2 HB2 HP4 HSR HRR HRL q1 r0 r1 r2 r3 r4 r5 s0 s1 s2 s3 s4 s5 hX hbr
      go_wp2_with fail
      refine (solve_any (usX k rows gain r) _ _ _ hR9 hG9).mono ?_
      rintro e w7 ⟨sv, u, rfl, ⟨⟨pv, rfl, hpv⟩, rfl⟩, hb7⟩
      have hp7 : StepsIn w7.cell? pv (solveF (usX k rows gain r)).proof := hpv.keeps (keeps_frm _ _)
      rw [errF_in hVX, solve_found hVX, hfo]
      obtain ⟨pa, pn, rfl, hp1, hp2, -⟩ := id hp7
      generalize (solveF (usX k rows gain r)).proof = PL at *
      generalize (solveF (usX k rows gain r)).set = bs'
      generalize (solveF (usX k rows gain r)).gain = bg'
      have hpl : (PL.length : Int) ≤ 9223372036854775807 := by omega
      obtain ⟨hU1, hU2, hU3⟩ := used_spec HNR.out.1
      have HWU := hide (without_used hVX hU1 hU2 hU3)
      have HVX := hide hVX
      replace bP9 := bP9.later hb7
      replace hR9 := hR9.below hb7
      replace hG9 := hG9.below hb7
      replace hw9' := below2 hw9' hb7
      have p0 := bP9.cell 0 rfl
      have p1 := bP9.cell 1 rfl
      have p2 := bP9.cell 2 rfl
      clear hpv hp1 hp2 hb7 hw9 hfo hVX hV hU3
      go_upto_region 13 with (fail)
      generalize hS1 : World.alloc w7 _ = S1
      have zS1 : S1.heap.size = w7.heap.size + 1 := by rw [← hS1]; simp
      have bS1 : Below w7.heap.size w7 S1 := by rw [← hS1]; exact bal w7 _
      have bS : Blk S1 (w7.heap.size) [.bool false, .int .i64 bs', .int .i64 bg', .slice pa PL.length pn] 34 := by rw [← hS1]; exact Blk.newA w7 _ (by first | rfl | simp)
      have Sb := bS1
      have Sz := zS1
      clear hS1 zS1 bS1
      replace bP9 := bP9.later Sb
      replace hR9 := hR9.below Sb
      replace hG9 := hG9.below Sb
      replace hp7 := hp7.keeps (keeps_of_below Sb)
      replace hw9' := below2 hw9' Sb
      have p0 := bP9.cell 0 rfl
      have p1 := bP9.cell 1 rfl
      have p2 := bP9.cell 2 rfl
      have x0 := bS.cell 0 rfl
      have x3 := bS.cell 3 rfl
      clear Sb Sz
      go_wp2_with fail
      refine (refutesp_any (usX k rows gain r) _ _ PL _ S1 hR9 hG9 hp7).mono ?_
      rw [HNR.out.2]
      rintro e w8 ⟨rfl, hb8⟩
      replace bP9 := bP9.later hb8
      replace bS := bS.later hb8
      replace hR9 := hR9.below hb8
      replace hG9 := hG9.below hb8
      replace hp7 := hp7.keeps (keeps_of_below hb8)
      replace hw9' := below2 hw9' hb8
      replace p0 := bP9.cell 0 rfl
      replace p1 := bP9.cell 1 rfl
      replace p2 := bP9.cell 2 rfl
      replace x3 := bS.cell 3 rfl
      clear hb8 x0
      go_wp2_with fail
      refine (rowsp_any (usX k rows gain r) _ _ PL _ w8 hR9 hG9 hp7).mono ?_
      rintro e w9 ⟨uv, rfl, huv, hb9⟩
      obtain ⟨U, hU⟩ : ∃ U, usedP (usX k rows gain r) PL = U := ⟨_, rfl⟩
      rw [hU] at huv hU1 hU2 HWU
      have hUa : IntsAt w9 uv U := huv.keeps (keeps_frm _ _)
      obtain ⟨ua, uc, rfl, hun, hum, huk⟩ := id hUa
      have hUl : (U.length : Int) ≤ 9223372036854775807 := by have : U.length ≤ uc := hun; omega
      have HU1 := hide hU1
      have HU2 : Hid (∀ u ∈ U, 0 ≤ u ∧ u < (m : Int)) := hide (by have := hU2; rwa [HXL.out] at this)
      have HUK := hide huk
      rw [HXL.out] at HWU
      replace bP9 := bP9.later hb9
      replace hR9 := hR9.below hb9
      replace hG9 := hG9.below hb9
      replace hw9' := below2 hw9' hb9
      clear hU huv hU1 hU2 hun hum huk hb9 p0 p1 p2 x3 bS hp7 hpl HNR
      go_wp2_with fail
      go_loopw [17, 18, 19] (fun s17 s18 s19 wr => ∃ (i : Nat), i ≤ m ∧ s19 = .int .i64 i ∧ s18 = .int .i64 (atF U i) ∧ OwnI wr w9.heap.size s17 (outF U i) ∧ Below w9.heap.size w9 wr) (fun _ _ s19 _ => m - (intOf s19).toNat)
      case atStart => exact ⟨0, by omega, rfl, by rw [atF_zero (fun u hu => (HU2.out u hu).1)]; rfl, OwnI.nil _ _, Below.refl _ _⟩
      case round =>
        obtain ⟨i, hi, rfl, rfl, hown, hbr⟩ := hrel
        have bPr := bP9.later hbr
        have q1 := bPr.cell 1 rfl
        by_cases hlt : i < m
        · have HSU := hide (atF_succ HU1.out i)
          have HME := hide (at_mem HU1.out i)
          have HOY := hide (outF_yes (U := U) (k := i))
          have HON := hide (outF_no (U := U) (k := i))
          have hal := atF_le U i
          have hol := outF_le U i
          have hol2 : (outF U i).length < 1000000 := by omega
          obtain ⟨A, hA⟩ : ∃ A, atF U i = A := ⟨_, rfl⟩
          rw [hA] at HSU HME hal ⊢
          have HA := hide hA
          obtain ⟨oa, oc, rfl⟩ := hown.form
          have HOW := hide hown
          clear hA hown
          cases hmb : memB U i
          · have HMN := hide hmb
            by_cases hAl : A < U.length
            · obtain ⟨ub, uo, rfl, hcu⟩ := HUK.out A hAl
              have cu := keep hbr hcu
              have hne : U.getD A 0 ≠ (i : Int) := fun e => by
                have h2 : decide (A < U.length ∧ U.getD A 0 = (i : Int)) = true := decide_eq_true ⟨hAl, e⟩
                rw [← HME.out, hmb] at h2
                cases h2
              generalize U.getD A 0 = y at cu hcu hne
              have hyi : (y == (i : Int)) = false := by simpa using hne
              have hol3 := HOW.out
              clear hmb hcu hne
              go_wp2_with (at_builtin; refine app_int rfl _ _ rfl w9.heap.size _ _ rfl hol3 (i : Int) rfl hol2 hbr.size ?_; intro v' w10 hown4 hb10 hz10)
              exact ⟨⟨i + 1, by omega, by go_num, by rw [HSU.out, HMN.out]; rfl, by rw [HON.out HMN.out]; exact hown4, hbr.trans hb10⟩, by simp [intOf]; omega⟩
            · have hol3 := HOW.out
              clear hmb
              go_wp2_with (at_builtin; refine app_int rfl _ _ rfl w9.heap.size _ _ rfl hol3 (i : Int) rfl hol2 hbr.size ?_; intro v' w10 hown4 hb10 hz10)
              exact ⟨⟨i + 1, by omega, by go_num, by rw [HSU.out, HMN.out]; rfl, by rw [HON.out HMN.out]; exact hown4, hbr.trans hb10⟩, by simp [intOf]; omega⟩
          · have HMN := hide hmb
            have hAe : A < U.length ∧ U.getD A 0 = (i : Int) := by
              have h2 := HME.out
              rw [hmb] at h2
              exact of_decide_eq_true h2.symm
            have hAl := hAe.1
            obtain ⟨ub, uo, rfl, hcu⟩ := HUK.out A hAl
            rw [hAe.2] at hcu
            have cu := keep hbr hcu
            clear hmb hcu hAe
            go_wp2_with fail
            exact ⟨⟨i + 1, by omega, by go_num, by rw [HSU.out, HMN.out]; go_num, by rw [HOY.out HMN.out]; exact HOW.out, hbr⟩, by simp [intOf]; omega⟩
        · obtain rfl : i = m := by omega
          have HAE := hide (atF_end (U := U) (n := i) (fun u hu => (HU2.out u hu).2))
          rw [HAE.out]
          obtain ⟨oa, oc, rfl⟩ := hown.form
          have hout := hown.ints
          have hw10 := below2 hw9' hbr
          have hR10 := hR9.below hbr
          have hG10 := hG9.below hbr
          have p0 := bPr.cell 0 rfl
          have p1 := bPr.cell 1 rfl
          have p2 := bPr.cell 2 rfl
          have lP := bPr.lt
          obtain ⟨hW1, rowsW, hW2, hW3, hW4, hW5⟩ := HWU.out
          have hW2' : withoutF (usX k rows gain r) (outF U i) = ⟨(k : Int), rowsW, gain⟩ := hW2
          have hW4' : allF ⟨(k : Int), rowsW, gain⟩ = [] := hW4
          have hW5' : errF ⟨(k : Int), rowsW, gain⟩ = 0 := hW5
          have HW := hide (And.intro hW1 (And.intro hW2' (And.intro hW4' hW5')))
          have HW3 := hide hW3
          clear hW1 hW2 hW3 hW4 hW5 hW2' hW4' hW5' HWU hR9 hG9 hw9' bP9 hUa HAE hbr hown q1
          go_wp2_with fail
          refine (without_any (usX k rows gain r) _ _ _ (outF U i) wr hR10 hG10 hout (by rw [HXL.out]; omega)).mono ?_
          rintro e w11 ⟨wv, u, rfl, ⟨hWI, rfl⟩, hb11⟩
          rw [HW.out.1]
          rw [HW.out.2.1] at hWI
          obtain ⟨xv', yv', rfl, hx', hy'⟩ := hWI
          obtain ⟨xa', xc', rfl, -, -, -⟩ := id hx'
          obtain ⟨ya', yc', rfl, -, -, -⟩ := id hy'
          rw [HW3.out] at hx' ⊢
          have hx11 : RowsAt w11 (.slice xa' U.length xc') rowsW := hx'.keeps (keeps_frm _ _)
          have hy11 : IntsAt w11 (.slice ya' gain.length yc') gain := hy'.keeps (keeps_frm _ _)
          replace bPr := bPr.later hb11
          replace hR10 := hR10.below hb11
          replace hG10 := hG10.below hb11
          replace hw10 := below2 hw10 hb11
          clear hx' hy' hb11 hout p0 p1 p2 lP
          go_upto_region 25 with (fail)
          generalize hQ1 : World.alloc w11 _ = Q1
          have zQ1 : Q1.heap.size = w11.heap.size + 1 := by rw [← hQ1]; simp
          have bQ1 : Below w11.heap.size w11 Q1 := by rw [← hQ1]; exact bal w11 _
          have bQ : Blk Q1 (w11.heap.size) [.int .i64 k, .slice xa' U.length xc', .slice ya' gain.length yc'] 27 := by rw [← hQ1]; exact Blk.newA w11 _ (by first | rfl | simp)
          have Qb := bQ1
          have Qz := zQ1
          clear hQ1 zQ1 bQ1
          have hx12 := hx11.below Qb
          have hy12 := hy11.below Qb
          replace bPr := bPr.later Qb
          replace hR10 := hR10.below Qb
          replace hG10 := hG10.below Qb
          replace hw10 := below2 hw10 Qb
          have q0 := bQ.cell 0 rfl
          have q1 := bQ.cell 1 rfl
          have q2 := bQ.cell 2 rfl
          clear hx11 hy11 Qb Qz
          go_wp2_with fail
          refine (all_any ⟨(k : Int), rowsW, gain⟩ _ _ Q1 hx12 hy12).mono ?_
          rintro e w12 ⟨lv, u, rfl, ⟨hlv, rfl⟩, hb12⟩
          rw [HW.out.2.2.2]
          rw [HW.out.2.2.1] at hlv
          obtain ⟨la, lc, rfl, -, -, -⟩ := id hlv
          replace bPr := bPr.later hb12
          replace hR10 := hR10.below hb12
          replace hG10 := hG10.below hb12
          replace hw10 := below2 hw10 hb12
          have bQ2 := bQ.later hb12
          have p1 := bPr.cell 1 rfl
          have HMI := HMR
          have hmi : rows.length + 2 = i := HMI.out
          have e1 : IntKind.i64.wrap ((i : Int) - 2) = (rows.length : Int) := by rw [IntWalk.i64_in _ ⟨by omega, by omega⟩]; omega
          have e2 : IntKind.i64.wrap ((i : Int) - 1) = (rows.length : Int) + 1 := by rw [IntWalk.i64_in _ ⟨by omega, by omega⟩]; omega
          clear hmi HMI hlv hx12 hy12 q0 q1 q2 hb12 bQ
          go_wp2_with fail
          generalize hV1 : World.alloc w12 _ = V1
          have zV1 : V1.heap.size = w12.heap.size + 1 := by rw [← hV1]; simp
          have bV1 : Below w12.heap.size w12 V1 := by rw [← hV1]; exact bal w12 _
          have v1 : Blk V1 (w12.heap.size) [.int .i64 rows.length, .int .i64 1, .int .i64 ((rows.length : Int) + 1), .int .i64 1] 56 := by rw [← hV1]; exact Blk.newA w12 _ (by first | rfl | simp)
          have Vb := bV1
          have Vz := zV1
          clear hV1 zV1 bV1
          refine (leafl_any _ _ _ _ V1 rfl).mono ?_
          rintro e w13 ⟨rfl, hb13⟩
          have hb1213 := below2 Vb hb13
          have v2 := v1.later hb13
          replace bPr := bPr.later hb1213
          replace hR10 := hR10.below hb1213
          replace hG10 := hG10.below hb1213
          replace hw10 := below2 hw10 hb1213
          replace bQ2 := bQ2.later hb1213
          have p0 := bPr.cell 0 rfl
          replace p1 := bPr.cell 1 rfl
          have p2 := bPr.cell 2 rfl
          have q1 := bQ2.cell 1 rfl
          have lP := bPr.lt
          have lQ := bQ2.lt
          clear e1 e2 Vb Vz hb13 v1 hb1213
          go_wp2_with fail
          generalize hT1 : World.alloc w13 _ = T1
          have zT1 : T1.heap.size = w13.heap.size + 1 := by rw [← hT1]; simp
          have bT1 : Below w13.heap.size w13 T1 := by rw [← hT1]; exact bal w13 _
          have s1 : Blk T1 (w13.heap.size) [.int .i64 (-1), .int .i64 0, .int .i64 0, .slice (some ⟨w12.heap.size, 0, none⟩) 2 2] 54 := by rw [← hT1]; exact Blk.newA w13 _ (by first | rfl | simp)
          have Tb := bT1
          have Tz := zT1
          clear hT1 zT1 bT1
          have hST : StepsIn T1.cell? (.slice (some ⟨w13.heap.size, 0, none⟩) 1 1) (shortL rows.length) := Blk.steps (l := shortL rows.length) s1 (by show 1 ≤ 9223372036854775807; omega) (fun j hj => by
            match j, hj with
            | 0, _ => exact ⟨_, rfl, rfl, rfl, rfl, (v2.later Tb).wts (l := [((rows.length : Int), 1), ((rows.length + 1 : Nat), 1)]) (by show 2 ≤ 9223372036854775807; omega) (fun j hj => by
                match j, hj with
                | 0, _ => exact ⟨rfl, rfl⟩
                | 1, _ => exact ⟨rfl, rfl⟩)⟩)
          refine (refutesp_any (usX k rows gain r) _ _ (shortL rows.length) _ T1 (hR10.below Tb) (hG10.below Tb) hST).mono ?_
          rw [HSH.out]
          rintro e w14 ⟨rfl, hb14⟩
          have hfin := below2 hw10 (below2 Tb hb14)
          go_wp2_with fail
          go_ret
          exact ⟨rfl, hfin⟩
end Go.Proofs.Ytppfdjjhloaopaa
namespace Go.Proofs.Ytppfdjjhloaopaa
open Go.ChangeShapes Go.WideShapes Go.ChangeAt Go.RowKit

set_option maxRecDepth 100000 in
theorem used_lifted (os : Os) (started : os.Started) (H : Type) (enc : TypeId × Value → H) :
    ReturnsInHanded {} Try.checked os 8 .any (Rows.proofUsedSpec.pre6 enc Try.prog Try.f8 Rows.proofUsedRow.domain false) (Rows.proofUsedSpec.post enc Try.prog Try.f8 false true false false) := by
  refine returnsInHanded_of_change (C := Try.checked) Try.own started (by kernel_rfl) Try.func8
    (ChangeSpec.witness6 (enc := enc) (C := Try.checked) false ⟨#[], #[.int .i64 0, .slice none 0 0, .agg #[.int .i64 0, .int .i64 0, .int .i64 0, .int .i64 0, .int .i64 0, .int .i64 0, .int .i64 0, .int .i64 0], .agg #[.int .i64 0, .int .i64 0, .int .i64 0]], []⟩ 8 (by kernel_rfl) (by kernel_rfl) (by kernel_rfl) (by kernel_rfl)) ?_
  intro W base args ds gs before hval0 hW hcnd _
  have hval : ∀ (j : Nat) t v, Try.f8.params[j]? = some t → args[j]? = some v → Value.okWide Try.prog W .any base t v := hval0
  have hW' := hW
  obtain ⟨p, q, hA0, hV, rfl, hfz, hnd⟩ := hW
  have hA : DataW.TrodAll enc Try.prog W 0 (fun _ => true) true Try.f8.params.toList args.toList ds p := hA0
  rw [Try.params8] at hA hval
  obtain ⟨v0, as0, d0, ds0, p0, q0, e0, rfl, rfl, h0, hA⟩ := trodAll_cons hA
  obtain ⟨v1, as1, d1, ds1, p1, q1, rfl, rfl, rfl, h1, hA⟩ := trodAll_cons hA
  obtain ⟨v2, as2, d2, ds2, p2, q2, rfl, rfl, rfl, h2, hA⟩ := trodAll_cons hA
  obtain ⟨v3, as3, d3, ds3, p3, q3, rfl, rfl, rfl, h3, hA⟩ := trodAll_cons hA
  obtain ⟨rfl, rfl, rfl⟩ := trodAll_nil hA
  obtain rfl : args = #[v0, v1, v2, v3] := by cases args; simp_all
  obtain ⟨rfl, rfl⟩ := trodVars_none hV
  obtain ⟨x0, rfl, b0⟩ := open_i64 (hval 0 3 v0 rfl rfl) h0
  obtain ⟨x1, b1, c1⟩ := open_tris (hval 1 22 v1 rfl rfl) h1
  obtain ⟨x2, b2, rfl, c2⟩ := open_gains (hval 2 23 v2 rfl rfl) h2
  obtain ⟨x3, b3, rfl, c3⟩ := open_arr64 Try.underlying65 Try.underlying3 Try.cells3 Try.cells65 (hval 3 65 v3 rfl rfl) h3
  refine (used_any x0 x1 v1 x2 x3 W b0 b1 c1 b2 c2 b3 c3).mono fun e W' ⟨he, hb⟩ => ⟨_, he, ?_⟩
  exact post_law Try.laidOut (by kernel_rfl) rfl rfl Try.underlying4 rfl hW' hb
theorem used_holds : Rows.ProofUsedSaid :=
  OpenClaim.holds_of_wide 8 Try.f8 rfl rfl rfl rfl rfl rfl rfl ⟨rfl, rfl, rfl, rfl, rfl⟩ rfl rfl rfl rfl rfl (by kernel_rfl) Try.func8 (by kernel_rfl)
    (of_decide_eq_true (by kernel_rfl)) (by unfold Func.isWrapper; first | (rw [if_pos (by decide +kernel)]; kernel_rfl) | (rw [if_neg (by decide +kernel)]; exact ⟨rfl, rfl⟩))
    (fun os started H enc _ => used_lifted os started H enc)
end Go.Proofs.Ytppfdjjhloaopaa
