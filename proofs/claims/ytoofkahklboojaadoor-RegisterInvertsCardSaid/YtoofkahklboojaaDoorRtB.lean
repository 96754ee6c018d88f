/- Register: the walk of RegisterInverts. Conditions: how the truth and the global tables lie in memory; that integers are of 64 bits. -/
import Derived.Test.YtoofkahklboojaaDoorRkZS
import Derived.Test.YtoofkahklboojaaDoorRkQ
import Derived.Test.YtoofkahklboojaaDoorRsA
import Derived.Test.YtoofkahklboojaaDoorRgU
namespace Go.Proofs.YtoofkahklboojaaDoor
open Go.RowKit

theorem BoxG.at0 {w X : World} {R : Nat} {t : TypeId} {x0 x1 x2 u : Value} {W : World} (h : BoxG w X R t [x0, x1, x2] [u, x1, x2] false W) (hR : w.heap.size ≤ R) : BoxG w X R t [x0, x1, x2] [u, x1, x2] true (World.setCell W ⟨R, 0, none⟩ u) :=
  ⟨h.hb.setCell (p := ⟨R, 0, none⟩) hR _, h.hE.trans (Eff.setCell _ _ _ _), h.box.set 0 u⟩
theorem BoxG.at1 {w X : World} {R : Nat} {t : TypeId} {x0 x1 x2 u : Value} {W : World} (h : BoxG w X R t [x0, x1, x2] [x0, u, x2] false W) (hR : w.heap.size ≤ R) : BoxG w X R t [x0, x1, x2] [x0, u, x2] true (World.setCell W ⟨R, 1, none⟩ u) :=
  ⟨h.hb.setCell (p := ⟨R, 1, none⟩) hR _, h.hE.trans (Eff.setCell _ _ _ _), h.box.set 1 u⟩
theorem BoxG.at2 {w X : World} {R : Nat} {t : TypeId} {x0 x1 x2 u : Value} {W : World} (h : BoxG w X R t [x0, x1, x2] [x0, x1, u] false W) (hR : w.heap.size ≤ R) : BoxG w X R t [x0, x1, x2] [x0, x1, u] true (World.setCell W ⟨R, 2, none⟩ u) :=
  ⟨h.hb.setCell (p := ⟨R, 2, none⟩) hR _, h.hE.trans (Eff.setCell _ _ _ _), h.box.set 2 u⟩
/-- a motion near the true one -/
def nearD (m : MotD) (a b c : Int) : MotD := ⟨(m.turn + a / 5) % 4, m.dx + b - 16, m.dy + c - 16⟩
theorem near_ok {m : MotD} (h : 0 ≤ m.turn ∧ m.turn ≤ 3 ∧ -300 ≤ m.dx ∧ m.dx ≤ 300 ∧ -300 ≤ m.dy ∧ m.dy ≤ 300) {a b c : Int} (hb : 0 ≤ b ∧ b < 33) (hc : 0 ≤ c ∧ c < 33) : motOk (nearD m a b c) = true := by
  rw [mot_iff]; unfold nearD; simp only []; omega
theorem apply_app {m : MotD} (hm : motOk m = true) {x y : Int} (hx : -5000 ≤ x ∧ x ≤ 5000) (hy : -5000 ≤ y ∧ y ≤ 5000) : applyX m x y = appX m x y ∧ applyY m x y = appY m x y := by
  have h : (motOk m && inShift x && inShift y) = true := by rw [hm]; simp [inShift, isInN]; omega
  unfold applyX applyY
  rw [if_pos h, if_pos h]; exact ⟨rfl, rfl⟩
theorem near_back {m : MotD} (h : 0 ≤ m.turn ∧ m.turn ≤ 3 ∧ -300 ≤ m.dx ∧ m.dx ≤ 300 ∧ -300 ≤ m.dy ∧ m.dy ≤ 300) {a b c p q : Int} (hb : 0 ≤ b ∧ b < 33) (hc : 0 ≤ c ∧ c < 33) (hp : -1000 ≤ p ∧ p ≤ 1000) (hq : -1000 ≤ q ∧ q ≤ 1000) :
    let M := nearD m a b c
    applyX (invD M) (applyX M p q) (applyY M p q) = p ∧ applyY (invD M) (applyX M p q) (applyY M p q) = q := by
  intro M
  have hM : motOk M = true := near_ok h hb hc
  have h1 := apply_app hM (x := p) (y := q) (by omega) (by omega)
  rw [h1.1, h1.2]
  have ht := turn_bd M.turn.toNat p q 1000 hp hq
  have hdx : M.dx = m.dx + b - 16 := rfl
  have hdy : M.dy = m.dy + c - 16 := rfl
  have h2 := apply_app (inv_ok hM) (x := appX M p q) (y := appY M p q) (by unfold appX; omega) (by unfold appY; omega)
  rw [h2.1, h2.2]
  exact inv_app hM p q

set_option maxRecDepth 100000 in
set_option maxHeartbeats 4000000 in
theorem inverts_any (t : TruthD) (mv fv tv ev : Value) (c0 c1 c2 cx cy : Int) (w : World) (ht : TruthAt w mv fv tv ev t) (h64 : Truth64 t) (k0 : i64B c0) (k1 : i64B c1) (k2 : i64B c2) (kx : i64B cx) (ky : i64B cy) (hG0 : Glob w) :
    Calls Tryd.prog 7 #[truthV mv fv tv ev t, iV c0, iV c1, iV c2, iV cx, iV cy] w (Ret (.bool true) w) := by
  have hin := way_in t
  have HSV := hide (fun (W : World) hb => surveys_any mv fv tv ev t W (ht.below hb) h64)
  have HWY := hide (fun (W : World) => way_any mv fv tv ev t W h64.mot (by obtain ⟨a, c, e, -⟩ := ht.marks; exact ⟨a, _, c, e⟩) (by obtain ⟨a, c, e, -⟩ := ht.finds; exact ⟨a, _, c, e⟩) (by obtain ⟨a, c, e, -⟩ := ht.tols; exact ⟨a, _, c, e⟩) (by obtain ⟨a, c, e, -⟩ := ht.errs; exact ⟨a, _, c, e⟩))
  have HP0 := hide (fun W => pickl_any c0 8 W k0 (by decide) (by decide))
  have HP1 := hide (fun W => pickl_any c1 33 W k1 (by decide) (by decide))
  have HP2 := hide (fun W => pickl_any c2 33 W k2 (by decide) (by decide))
  have HPX := hide (fun W => pickl_any cx 2001 W kx (by decide) (by decide))
  have HPY := hide (fun W => pickl_any cy 2001 W ky (by decide) (by decide))
  have q0 := pickR_in c0 (n := 8) (by decide)
  have q1 := pickR_in c1 (n := 33) (by decide)
  have q2 := pickR_in c2 (n := 33) (by decide)
  have qx := pickR_in cx (n := 2001) (by decide)
  have qy := pickR_in cy (n := 2001) (by decide)
  obtain ⟨ma, mc, rfl, -, -, -⟩ := id' ht.marks
  obtain ⟨fa, fc, rfl, -, -, -⟩ := id' ht.finds
  obtain ⟨ta, tc, rfl, -, -, -⟩ := id' ht.tols
  obtain ⟨ea, ec, rfl, -, -, -⟩ := id' ht.errs
  generalize survA t = A at *
  generalize survB t = B at *
  generalize wayD t = M0 at *
  generalize pickR c0 8 = s0 at *
  generalize pickR c1 33 = s1 at *
  generalize pickR c2 33 = s2 at *
  generalize pickR cx 2001 = sx at *
  generalize pickR cy 2001 = sy at *
  have hok := near_ok hin (a := s0) q1 q2
  obtain ⟨hx, hy⟩ := near_back hin (a := s0) q1 q2 (p := sx - 1000) (q := sy - 1000) (by omega) (by omega)
  have hii := inv_inv hok
  have hff := inv_fits hok A B
  obtain ⟨tu, dx, dy⟩ := M0
  dsimp only at hin
  obtain ⟨i1, i2, i3, i4, i5, i6⟩ := hin
  obtain ⟨q01, q02⟩ := q0
  obtain ⟨q11, q12⟩ := q1
  obtain ⟨q21, q22⟩ := q2
  obtain ⟨qx1, qx2⟩ := qx
  obtain ⟨qy1, qy2⟩ := qy
  have HMM : Hid (nearD ⟨tu, dx, dy⟩ s0 s1 s2 = ⟨(tu + s0 / 5) % 4, dx + s1 - 16, dy + s2 - 16⟩) := hide rfl
  generalize nearD ⟨tu, dx, dy⟩ s0 s1 s2 = M at *
  generalize hN : invD M = N at *
  generalize hU : applyX M (sx - 1000) (sy - 1000) = U at *
  generalize hV : applyY M (sx - 1000) (sy - 1000) = V at *
  have HHX := hide hx
  have HHY := hide hy
  have HII := hide hii
  have HFF := hide hff
  have HN := hide hN
  have HU := hide hU
  have HV := hide hV
  clear hx hy hii hff hok hN hU hV
  clear k0 k1 k2 kx ky
  go_enter Tryd.func7, Tryd.ntmps7
  go_wp2_with fail
  generalize hX1 : World.alloc w _ = X1
  have zX1 : X1.heap.size = w.heap.size + 1 := by rw [← hX1]; simp
  have bX1 : Below w.heap.size w X1 := by rw [← hX1]; exact bal w _
  have bT : Blk X1 (w.heap.size) [.slice ma t.marks.length mc, .slice fa t.finds.length fc, iV t.mot.1, iV t.mot.2.1, iV t.mot.2.2, .slice ta t.tols.length tc, .slice ea t.errs.length ec] 28 := by rw [← hX1]; exact Blk.newA w _ (by first | rfl | simp)
  have Xb := bX1
  have Xz := zX1
  clear hX1 zX1 bX1
  refine (sane_any _ (hG0.later Xb)).mono ?_
  rintro e w1 ⟨rfl, hb1⟩
  have bT1 := bT.later hb1
  have hbw1 := below2 Xb hb1
  have t0 := (bT1).cell 0 rfl
  have t1 := (bT1).cell 1 rfl
  have t2 := (bT1).cell 2 rfl
  have t3 := (bT1).cell 3 rfl
  have t4 := (bT1).cell 4 rfl
  have t5 := (bT1).cell 5 rfl
  have t6 := (bT1).cell 6 rfl
  go_wp2_with fail
  refine (HSV.out _ hbw1).mono ?_
  rintro e w2 ⟨va, vb, rfl, ⟨hA0, hB0⟩, hb2⟩
  have DA : DotsAt w2 va A := hA0.at
  have DB : DotsAt w2 vb B := hB0.at
  have bT2 := bT1.later hb2
  have hbw2 := below2 hbw1 hb2
  have hG2 := hG0.later hbw2
  obtain ⟨aa, ac, rfl, -, -, -⟩ := id DA
  obtain ⟨ba, bc, rfl, -, -, -⟩ := id DB
  clear hA0 hB0 t0 t1 t2 t3 t4 t5 t6
  have t0 := (bT2).cell 0 rfl
  have t1 := (bT2).cell 1 rfl
  have t2 := (bT2).cell 2 rfl
  have t3 := (bT2).cell 3 rfl
  have t4 := (bT2).cell 4 rfl
  have t5 := (bT2).cell 5 rfl
  have t6 := (bT2).cell 6 rfl
  go_wp2_with fail
  refine (HWY.out _).mono ?_
  rintro e w3 ⟨rfl, hb3⟩
  clear t0 t1 t2 t3 t4 t5 t6
  go_wp2_with fail
  generalize hXX : World.alloc w3 _ = W4
  have hb4 : Below w3.heap.size w3 W4 := by rw [← hXX]; exact bal w3 _
  have bM : Blk W4 w3.heap.size [iV tu, iV dx, iV dy] 32 := by rw [← hXX]; exact Blk.newA w3 _ rfl
  have hb24 := below2 hb3 hb4
  have hR : w2.heap.size ≤ w3.heap.size := hb3.size
  generalize w3.heap.size = R at *
  clear hXX
  have u1 : s0.tdiv 5 = s0 / 5 := Int.tdiv_eq_ediv_of_nonneg q01
  have u2 : IntKind.i64.wrap (s0 / 5) = s0 / 5 := IntWalk.i64_in _ (by omega)
  have u3 : IntKind.i64.wrap (tu + s0 / 5) = tu + s0 / 5 := IntWalk.i64_in _ (by omega)
  have u4 : (tu + s0 / 5).tmod 4 = (tu + s0 / 5) % 4 := Int.tmod_eq_emod_of_nonneg (by omega)
  have u5 : IntKind.i64.wrap ((tu + s0 / 5) % 4) = (tu + s0 / 5) % 4 := IntWalk.i64_in _ (by omega)
  have u6 : IntKind.i64.wrap (dx + s1) = dx + s1 := IntWalk.i64_in _ (by omega)
  have u7 : IntKind.i64.wrap (dx + s1 - 16) = dx + s1 - 16 := IntWalk.i64_in _ (by omega)
  have u8 : IntKind.i64.wrap (dy + s2) = dy + s2 := IntWalk.i64_in _ (by omega)
  have u9 : IntKind.i64.wrap (dy + s2 - 16) = dy + s2 - 16 := IntWalk.i64_in _ (by omega)
  have ua : IntKind.i64.wrap (sx - 1000) = sx - 1000 := IntWalk.i64_in _ (by omega)
  have ub : IntKind.i64.wrap (sy - 1000) = sy - 1000 := IntWalk.i64_in _ (by omega)
  refine wp_region_inv [some 32, some 33, some 34, some 35, some 36, some 37, some 38, some 39, none] (fun L vs W => match vs with | [x0, x1, x2, x3, x4, x5, x6, x7, x8] => (BoxG w2 W4 R 32 [iV tu, iV dx, iV dy] [iV ((tu + s0 / 5) % 4), iV dx, iV dy] (L 8) W) ∧ (L 0 = true → x0 = .pointer (some ⟨R, 0, none⟩)) ∧ (L 1 = true → x1 = iV tu) ∧ (L 2 = true → x2 = iV c0) ∧ (L 3 = true → x3 = iV s0) ∧ (L 4 = true → x4 = iV (s0 / 5)) ∧ (L 5 = true → L 1 = true ∧ x5 = iV (tu + s0 / 5)) ∧ (L 6 = true → L 1 = true ∧ x6 = iV ((tu + s0 / 5) % 4)) ∧ (L 7 = true → x7 = .pointer (some ⟨R, 0, none⟩)) ∧ (L 8 = true → L 1 = true) | _ => False) [_, _, _, _, _, _, _, _, undef] (by kernel_rfl) (by kernel_rfl) rfl (by simp only [puts, Act.put, List.setIfInBounds_toArray, List.set_cons_zero, List.set_cons_succ] <;> rfl) ?_ ?_ ?_
  · exact ⟨BoxG.first hb24 bM, (fun h => by cases h), (fun h => by cases h), (fun h => by cases h), (fun h => by cases h), (fun h => by cases h), (fun h => by cases h), (fun h => by cases h), (fun h => by cases h), (fun h => by cases h)⟩
  · refine ⟨?_, ?_, ?_, ?_, ?_, ?_, ?_, ?_, ?_, trivial⟩
    · intro L vs W hlen hL hD hI K hK
      obtain ⟨x0, x1, x2, x3, x4, x5, x6, x7, x8, rfl⟩ := len9 hlen
      have hG := hI.1
      replace hI := hI.2
      have f0 := hide hI.1
      replace hI := hI.2
      have f1 := hide hI.1
      replace hI := hI.2
      have f2 := hide hI.1
      replace hI := hI.2
      have f3 := hide hI.1
      replace hI := hI.2
      have f4 := hide hI.1
      replace hI := hI.2
      have f5 := hide hI.1
      replace hI := hI.2
      have f6 := hide hI.1
      replace hI := hI.2
      have f7 := hide hI.1
      replace hI := hI.2
      have f8 := hide hI
      clear hI
      have r0 := hG.hb
      try simp only [puts, Act.put, List.setIfInBounds_toArray, List.set_cons_zero, List.set_cons_succ]
      try go_simp
      exact hK.out _ _ _ (by simp only [puts, Act.put, List.setIfInBounds_toArray, List.set_cons_zero, List.set_cons_succ] <;> rfl) ⟨hG, (fun _ => rfl), (fun h => f1.out h), (fun h => f2.out h), (fun h => f3.out h), (fun h => f4.out h), (fun h => f5.out h), (fun h => f6.out h), (fun h => f7.out h), (fun h => f8.out h)⟩
    · intro L vs W hlen hL hD hI K hK
      obtain ⟨x0, x1, x2, x3, x4, x5, x6, x7, x8, rfl⟩ := len9 hlen
      have hG := hI.1
      replace hI := hI.2
      have f0 := hide hI.1
      replace hI := hI.2
      have f1 := hide hI.1
      replace hI := hI.2
      have f2 := hide hI.1
      replace hI := hI.2
      have f3 := hide hI.1
      replace hI := hI.2
      have f4 := hide hI.1
      replace hI := hI.2
      have f5 := hide hI.1
      replace hI := hI.2
      have f6 := hide hI.1
      replace hI := hI.2
      have f7 := hide hI.1
      replace hI := hI.2
      have f8 := hide hI
      clear hI
      have r0 := hG.hb
      obtain rfl := f0.out (hD.on 0 (by kernel_rfl))
      try simp only [puts, Act.put, List.setIfInBounds_toArray, List.set_cons_zero, List.set_cons_succ]
      have h8 : L 8 = false := Bool.eq_false_iff.2 (fun h => absurd ((f8.out h).symm.trans hL) (by decide))
      have hG8 := hG
      rw [h8] at hG8
      have r0 := hG8.box.cell 0 rfl
      go_simp
      exact hK.out _ _ _ (by simp only [puts, Act.put, List.setIfInBounds_toArray, List.set_cons_zero, List.set_cons_succ] <;> rfl) ⟨hG, (fun h => f0.out h), (fun _ => rfl), (fun h => f2.out h), (fun h => f3.out h), (fun h => f4.out h), (fun h => (fun h => ⟨rfl, h.2⟩) (f5.out h)), (fun h => (fun h => ⟨rfl, h.2⟩) (f6.out h)), (fun h => f7.out h), (fun h => (fun _ => rfl) (f8.out h))⟩
    · intro L vs W hlen hL hD hI K hK
      obtain ⟨x0, x1, x2, x3, x4, x5, x6, x7, x8, rfl⟩ := len9 hlen
      have hG := hI.1
      replace hI := hI.2
      have f0 := hide hI.1
      replace hI := hI.2
      have f1 := hide hI.1
      replace hI := hI.2
      have f2 := hide hI.1
      replace hI := hI.2
      have f3 := hide hI.1
      replace hI := hI.2
      have f4 := hide hI.1
      replace hI := hI.2
      have f5 := hide hI.1
      replace hI := hI.2
      have f6 := hide hI.1
      replace hI := hI.2
      have f7 := hide hI.1
      replace hI := hI.2
      have f8 := hide hI
      clear hI
      have r0 := hG.hb
      try simp only [puts, Act.put, List.setIfInBounds_toArray, List.set_cons_zero, List.set_cons_succ]
      try go_simp
      exact hK.out _ _ _ (by simp only [puts, Act.put, List.setIfInBounds_toArray, List.set_cons_zero, List.set_cons_succ] <;> rfl) ⟨hG, (fun h => f0.out h), (fun h => f1.out h), (fun _ => rfl), (fun h => f3.out h), (fun h => f4.out h), (fun h => f5.out h), (fun h => f6.out h), (fun h => f7.out h), (fun h => f8.out h)⟩
    · intro L vs W hlen hL hD hI K hK
      obtain ⟨x0, x1, x2, x3, x4, x5, x6, x7, x8, rfl⟩ := len9 hlen
      have hG := hI.1
      replace hI := hI.2
      have f0 := hide hI.1
      replace hI := hI.2
      have f1 := hide hI.1
      replace hI := hI.2
      have f2 := hide hI.1
      replace hI := hI.2
      have f3 := hide hI.1
      replace hI := hI.2
      have f4 := hide hI.1
      replace hI := hI.2
      have f5 := hide hI.1
      replace hI := hI.2
      have f6 := hide hI.1
      replace hI := hI.2
      have f7 := hide hI.1
      replace hI := hI.2
      have f8 := hide hI
      clear hI
      have r0 := hG.hb
      obtain rfl := f2.out (hD.on 2 (by kernel_rfl))
      try simp only [puts, Act.put, List.setIfInBounds_toArray, List.set_cons_zero, List.set_cons_succ]
      try go_simp
      refine (HP0.out _).mono ?_
      rintro e W' ⟨rfl, hb⟩
      try go_simp
      exact hK.out _ _ _ (by simp only [puts, Act.put, List.setIfInBounds_toArray, List.set_cons_zero, List.set_cons_succ] <;> rfl) ⟨hG.later hb, (fun h => f0.out h), (fun h => f1.out h), (fun h => f2.out h), (fun _ => rfl), (fun h => f4.out h), (fun h => f5.out h), (fun h => f6.out h), (fun h => f7.out h), (fun h => f8.out h)⟩
    · intro L vs W hlen hL hD hI K hK
      obtain ⟨x0, x1, x2, x3, x4, x5, x6, x7, x8, rfl⟩ := len9 hlen
      have hG := hI.1
      replace hI := hI.2
      have f0 := hide hI.1
      replace hI := hI.2
      have f1 := hide hI.1
      replace hI := hI.2
      have f2 := hide hI.1
      replace hI := hI.2
      have f3 := hide hI.1
      replace hI := hI.2
      have f4 := hide hI.1
      replace hI := hI.2
      have f5 := hide hI.1
      replace hI := hI.2
      have f6 := hide hI.1
      replace hI := hI.2
      have f7 := hide hI.1
      replace hI := hI.2
      have f8 := hide hI
      clear hI
      have r0 := hG.hb
      obtain rfl := f3.out (hD.on 3 (by kernel_rfl))
      try simp only [puts, Act.put, List.setIfInBounds_toArray, List.set_cons_zero, List.set_cons_succ]
      try go_simp
      exact hK.out _ _ _ (by simp only [puts, Act.put, List.setIfInBounds_toArray, List.set_cons_zero, List.set_cons_succ] <;> rfl) ⟨hG, (fun h => f0.out h), (fun h => f1.out h), (fun h => f2.out h), (fun h => f3.out h), (fun _ => rfl), (fun h => f5.out h), (fun h => f6.out h), (fun h => f7.out h), (fun h => f8.out h)⟩
    · intro L vs W hlen hL hD hI K hK
      obtain ⟨x0, x1, x2, x3, x4, x5, x6, x7, x8, rfl⟩ := len9 hlen
      have hG := hI.1
      replace hI := hI.2
      have f0 := hide hI.1
      replace hI := hI.2
      have f1 := hide hI.1
      replace hI := hI.2
      have f2 := hide hI.1
      replace hI := hI.2
      have f3 := hide hI.1
      replace hI := hI.2
      have f4 := hide hI.1
      replace hI := hI.2
      have f5 := hide hI.1
      replace hI := hI.2
      have f6 := hide hI.1
      replace hI := hI.2
      have f7 := hide hI.1
      replace hI := hI.2
      have f8 := hide hI
      clear hI
      have r0 := hG.hb
      obtain rfl := f1.out (hD.on 1 (by kernel_rfl))
      obtain rfl := f4.out (hD.on 4 (by kernel_rfl))
      try simp only [puts, Act.put, List.setIfInBounds_toArray, List.set_cons_zero, List.set_cons_succ]
      try go_simp
      exact hK.out _ _ _ (by simp only [puts, Act.put, List.setIfInBounds_toArray, List.set_cons_zero, List.set_cons_succ] <;> rfl) ⟨hG, (fun h => f0.out h), (fun h => f1.out h), (fun h => f2.out h), (fun h => f3.out h), (fun h => f4.out h), (fun _ => ⟨hD.on 1 (by kernel_rfl), rfl⟩), (fun h => f6.out h), (fun h => f7.out h), (fun h => f8.out h)⟩
    · intro L vs W hlen hL hD hI K hK
      obtain ⟨x0, x1, x2, x3, x4, x5, x6, x7, x8, rfl⟩ := len9 hlen
      have hG := hI.1
      replace hI := hI.2
      have f0 := hide hI.1
      replace hI := hI.2
      have f1 := hide hI.1
      replace hI := hI.2
      have f2 := hide hI.1
      replace hI := hI.2
      have f3 := hide hI.1
      replace hI := hI.2
      have f4 := hide hI.1
      replace hI := hI.2
      have f5 := hide hI.1
      replace hI := hI.2
      have f6 := hide hI.1
      replace hI := hI.2
      have f7 := hide hI.1
      replace hI := hI.2
      have f8 := hide hI
      clear hI
      have r0 := hG.hb
      have g5 := f5.out (hD.on 5 (by kernel_rfl))
      try simp only [puts, Act.put, List.setIfInBounds_toArray, List.set_cons_zero, List.set_cons_succ]
      obtain rfl := g5.2
      go_simp
      exact hK.out _ _ _ (by simp only [puts, Act.put, List.setIfInBounds_toArray, List.set_cons_zero, List.set_cons_succ] <;> rfl) ⟨hG, (fun h => f0.out h), (fun h => f1.out h), (fun h => f2.out h), (fun h => f3.out h), (fun h => f4.out h), (fun h => f5.out h), (fun _ => ⟨g5.1, rfl⟩), (fun h => f7.out h), (fun h => f8.out h)⟩
    · intro L vs W hlen hL hD hI K hK
      obtain ⟨x0, x1, x2, x3, x4, x5, x6, x7, x8, rfl⟩ := len9 hlen
      have hG := hI.1
      replace hI := hI.2
      have f0 := hide hI.1
      replace hI := hI.2
      have f1 := hide hI.1
      replace hI := hI.2
      have f2 := hide hI.1
      replace hI := hI.2
      have f3 := hide hI.1
      replace hI := hI.2
      have f4 := hide hI.1
      replace hI := hI.2
      have f5 := hide hI.1
      replace hI := hI.2
      have f6 := hide hI.1
      replace hI := hI.2
      have f7 := hide hI.1
      replace hI := hI.2
      have f8 := hide hI
      clear hI
      have r0 := hG.hb
      try simp only [puts, Act.put, List.setIfInBounds_toArray, List.set_cons_zero, List.set_cons_succ]
      try go_simp
      exact hK.out _ _ _ (by simp only [puts, Act.put, List.setIfInBounds_toArray, List.set_cons_zero, List.set_cons_succ] <;> rfl) ⟨hG, (fun h => f0.out h), (fun h => f1.out h), (fun h => f2.out h), (fun h => f3.out h), (fun h => f4.out h), (fun h => f5.out h), (fun h => f6.out h), (fun _ => rfl), (fun h => f8.out h)⟩
    · intro L vs W hlen hL hD hI K hK
      obtain ⟨x0, x1, x2, x3, x4, x5, x6, x7, x8, rfl⟩ := len9 hlen
      have hG := hI.1
      replace hI := hI.2
      have f0 := hide hI.1
      replace hI := hI.2
      have f1 := hide hI.1
      replace hI := hI.2
      have f2 := hide hI.1
      replace hI := hI.2
      have f3 := hide hI.1
      replace hI := hI.2
      have f4 := hide hI.1
      replace hI := hI.2
      have f5 := hide hI.1
      replace hI := hI.2
      have f6 := hide hI.1
      replace hI := hI.2
      have f7 := hide hI.1
      replace hI := hI.2
      have f8 := hide hI
      clear hI
      have r0 := hG.hb
      have g6 := f6.out (hD.on 6 (by kernel_rfl))
      obtain rfl := f7.out (hD.on 7 (by kernel_rfl))
      try simp only [puts, Act.put, List.setIfInBounds_toArray, List.set_cons_zero, List.set_cons_succ]
      obtain rfl := g6.2
      have hG8 := hG
      rw [hL] at hG8
      have z0 := hG8.box.frozen 0
      have z1 := hG8.box.cell 0 rfl
      go_simp
      have hb := Below.refl W.heap.size W
      exact hK.out _ undef _ (by simp only [puts, Act.put, List.setIfInBounds_toArray, List.set_cons_zero, List.set_cons_succ] <;> rfl) ⟨hG8.at0 hR, (fun h => f0.out h), (fun h => f1.out h), (fun h => f2.out h), (fun h => f3.out h), (fun h => f4.out h), (fun h => f5.out h), (fun h => f6.out h), (fun h => f7.out h), (fun _ => g6.1)⟩
  intro L vs W hlen hall hI
  obtain ⟨x0, x1, x2, x3, x4, x5, x6, x7, x8, rfl⟩ := len9 hlen
  have hG := hI.1
  replace hI := hI.2
  have f0 := hide hI.1
  replace hI := hI.2
  have f1 := hide hI.1
  replace hI := hI.2
  have f2 := hide hI.1
  replace hI := hI.2
  have f3 := hide hI.1
  replace hI := hI.2
  have f4 := hide hI.1
  replace hI := hI.2
  have f5 := hide hI.1
  replace hI := hI.2
  have f6 := hide hI.1
  replace hI := hI.2
  have f7 := hide hI.1
  replace hI := hI.2
  have f8 := hide hI
  clear hI
  obtain rfl := f0.out (hall 0 (by decide))
  obtain rfl := f1.out (hall 1 (by decide))
  obtain rfl := f2.out (hall 2 (by decide))
  obtain rfl := f3.out (hall 3 (by decide))
  obtain rfl := f4.out (hall 4 (by decide))
  have g5 := f5.out (hall 5 (by decide))
  have g6 := f6.out (hall 6 (by decide))
  obtain rfl := f7.out (hall 7 (by decide))
  have g8 := f8.out (hall 8 (by decide))
  have hal := hide hall
  clear hall f0 f1 f2 f3 f4 f5 f6 f7 f8
  try simp only [puts, Act.put, List.setIfInBounds_toArray, List.set_cons_zero, List.set_cons_succ]
  rw [hal.out 8 (by decide)] at hG
  have bM5 := hG.done
  have hb25 := hG.hb
  obtain rfl := g5.2
  obtain rfl := g6.2
  clear hG g5 g6 g8 hal bM
  obtain ⟨W5, hW5⟩ : ∃ Z, Z = W := ⟨_, rfl⟩
  subst hW5
  go_wp2_with fail
  refine wp_region_inv [some 40, some 41, some 42, some 43, some 44, some 45, some 46, none] (fun L vs W => match vs with | [x0, x1, x2, x3, x4, x5, x6, x7] => (BoxG w2 W5 R 32 [iV ((tu + s0 / 5) % 4), iV dx, iV dy] [iV ((tu + s0 / 5) % 4), iV (dx + s1 - 16), iV dy] (L 7) W) ∧ (L 0 = true → x0 = .pointer (some ⟨R, 1, none⟩)) ∧ (L 1 = true → x1 = iV dx) ∧ (L 2 = true → x2 = iV c1) ∧ (L 3 = true → x3 = iV s1) ∧ (L 4 = true → L 1 = true ∧ x4 = iV (dx + s1)) ∧ (L 5 = true → L 1 = true ∧ x5 = iV (dx + s1 - 16)) ∧ (L 6 = true → x6 = .pointer (some ⟨R, 1, none⟩)) ∧ (L 7 = true → L 1 = true) | _ => False) [_, _, _, _, _, _, _, undef] (by kernel_rfl) (by kernel_rfl) rfl (by simp only [puts, Act.put, List.setIfInBounds_toArray, List.set_cons_zero, List.set_cons_succ] <;> rfl) ?_ ?_ ?_
  · exact ⟨BoxG.first hb25 bM5, (fun h => by cases h), (fun h => by cases h), (fun h => by cases h), (fun h => by cases h), (fun h => by cases h), (fun h => by cases h), (fun h => by cases h), (fun h => by cases h)⟩
  · refine ⟨?_, ?_, ?_, ?_, ?_, ?_, ?_, ?_, trivial⟩
    · intro L vs W hlen hL hD hI K hK
      obtain ⟨x0, x1, x2, x3, x4, x5, x6, x7, rfl⟩ := len8 hlen
      have hG := hI.1
      replace hI := hI.2
      have f0 := hide hI.1
      replace hI := hI.2
      have f1 := hide hI.1
      replace hI := hI.2
      have f2 := hide hI.1
      replace hI := hI.2
      have f3 := hide hI.1
      replace hI := hI.2
      have f4 := hide hI.1
      replace hI := hI.2
      have f5 := hide hI.1
      replace hI := hI.2
      have f6 := hide hI.1
      replace hI := hI.2
      have f7 := hide hI
      clear hI
      have r0 := hG.hb
      try simp only [puts, Act.put, List.setIfInBounds_toArray, List.set_cons_zero, List.set_cons_succ]
      try go_simp
      exact hK.out _ _ _ (by simp only [puts, Act.put, List.setIfInBounds_toArray, List.set_cons_zero, List.set_cons_succ] <;> rfl) ⟨hG, (fun _ => rfl), (fun h => f1.out h), (fun h => f2.out h), (fun h => f3.out h), (fun h => f4.out h), (fun h => f5.out h), (fun h => f6.out h), (fun h => f7.out h)⟩
    · intro L vs W hlen hL hD hI K hK
      obtain ⟨x0, x1, x2, x3, x4, x5, x6, x7, rfl⟩ := len8 hlen
      have hG := hI.1
      replace hI := hI.2
      have f0 := hide hI.1
      replace hI := hI.2
      have f1 := hide hI.1
      replace hI := hI.2
      have f2 := hide hI.1
      replace hI := hI.2
      have f3 := hide hI.1
      replace hI := hI.2
      have f4 := hide hI.1
      replace hI := hI.2
      have f5 := hide hI.1
      replace hI := hI.2
      have f6 := hide hI.1
      replace hI := hI.2
      have f7 := hide hI
      clear hI
      have r0 := hG.hb
      obtain rfl := f0.out (hD.on 0 (by kernel_rfl))
      try simp only [puts, Act.put, List.setIfInBounds_toArray, List.set_cons_zero, List.set_cons_succ]
      have h7 : L 7 = false := Bool.eq_false_iff.2 (fun h => absurd ((f7.out h).symm.trans hL) (by decide))
      have hG7 := hG
      rw [h7] at hG7
      have r0 := hG7.box.cell 1 rfl
      go_simp
      exact hK.out _ _ _ (by simp only [puts, Act.put, List.setIfInBounds_toArray, List.set_cons_zero, List.set_cons_succ] <;> rfl) ⟨hG, (fun h => f0.out h), (fun _ => rfl), (fun h => f2.out h), (fun h => f3.out h), (fun h => (fun h => ⟨rfl, h.2⟩) (f4.out h)), (fun h => (fun h => ⟨rfl, h.2⟩) (f5.out h)), (fun h => f6.out h), (fun h => (fun _ => rfl) (f7.out h))⟩
    · intro L vs W hlen hL hD hI K hK
      obtain ⟨x0, x1, x2, x3, x4, x5, x6, x7, rfl⟩ := len8 hlen
      have hG := hI.1
      replace hI := hI.2
      have f0 := hide hI.1
      replace hI := hI.2
      have f1 := hide hI.1
      replace hI := hI.2
      have f2 := hide hI.1
      replace hI := hI.2
      have f3 := hide hI.1
      replace hI := hI.2
      have f4 := hide hI.1
      replace hI := hI.2
      have f5 := hide hI.1
      replace hI := hI.2
      have f6 := hide hI.1
      replace hI := hI.2
      have f7 := hide hI
      clear hI
      have r0 := hG.hb
      try simp only [puts, Act.put, List.setIfInBounds_toArray, List.set_cons_zero, List.set_cons_succ]
      try go_simp
      exact hK.out _ _ _ (by simp only [puts, Act.put, List.setIfInBounds_toArray, List.set_cons_zero, List.set_cons_succ] <;> rfl) ⟨hG, (fun h => f0.out h), (fun h => f1.out h), (fun _ => rfl), (fun h => f3.out h), (fun h => f4.out h), (fun h => f5.out h), (fun h => f6.out h), (fun h => f7.out h)⟩
    · intro L vs W hlen hL hD hI K hK
      obtain ⟨x0, x1, x2, x3, x4, x5, x6, x7, rfl⟩ := len8 hlen
      have hG := hI.1
      replace hI := hI.2
      have f0 := hide hI.1
      replace hI := hI.2
      have f1 := hide hI.1
      replace hI := hI.2
      have f2 := hide hI.1
      replace hI := hI.2
      have f3 := hide hI.1
      replace hI := hI.2
      have f4 := hide hI.1
      replace hI := hI.2
      have f5 := hide hI.1
      replace hI := hI.2
      have f6 := hide hI.1
      replace hI := hI.2
      have f7 := hide hI
      clear hI
      have r0 := hG.hb
      obtain rfl := f2.out (hD.on 2 (by kernel_rfl))
      try simp only [puts, Act.put, List.setIfInBounds_toArray, List.set_cons_zero, List.set_cons_succ]
      try go_simp
      refine (HP1.out _).mono ?_
      rintro e W' ⟨rfl, hb⟩
      try go_simp
      exact hK.out _ _ _ (by simp only [puts, Act.put, List.setIfInBounds_toArray, List.set_cons_zero, List.set_cons_succ] <;> rfl) ⟨hG.later hb, (fun h => f0.out h), (fun h => f1.out h), (fun h => f2.out h), (fun _ => rfl), (fun h => f4.out h), (fun h => f5.out h), (fun h => f6.out h), (fun h => f7.out h)⟩
    · intro L vs W hlen hL hD hI K hK
      obtain ⟨x0, x1, x2, x3, x4, x5, x6, x7, rfl⟩ := len8 hlen
      have hG := hI.1
      replace hI := hI.2
      have f0 := hide hI.1
      replace hI := hI.2
      have f1 := hide hI.1
      replace hI := hI.2
      have f2 := hide hI.1
      replace hI := hI.2
      have f3 := hide hI.1
      replace hI := hI.2
      have f4 := hide hI.1
      replace hI := hI.2
      have f5 := hide hI.1
      replace hI := hI.2
      have f6 := hide hI.1
      replace hI := hI.2
      have f7 := hide hI
      clear hI
      have r0 := hG.hb
      obtain rfl := f1.out (hD.on 1 (by kernel_rfl))
      obtain rfl := f3.out (hD.on 3 (by kernel_rfl))
      try simp only [puts, Act.put, List.setIfInBounds_toArray, List.set_cons_zero, List.set_cons_succ]
      try go_simp
      exact hK.out _ _ _ (by simp only [puts, Act.put, List.setIfInBounds_toArray, List.set_cons_zero, List.set_cons_succ] <;> rfl) ⟨hG, (fun h => f0.out h), (fun h => f1.out h), (fun h => f2.out h), (fun h => f3.out h), (fun _ => ⟨hD.on 1 (by kernel_rfl), rfl⟩), (fun h => f5.out h), (fun h => f6.out h), (fun h => f7.out h)⟩
    · intro L vs W hlen hL hD hI K hK
      obtain ⟨x0, x1, x2, x3, x4, x5, x6, x7, rfl⟩ := len8 hlen
      have hG := hI.1
      replace hI := hI.2
      have f0 := hide hI.1
      replace hI := hI.2
      have f1 := hide hI.1
      replace hI := hI.2
      have f2 := hide hI.1
      replace hI := hI.2
      have f3 := hide hI.1
      replace hI := hI.2
      have f4 := hide hI.1
      replace hI := hI.2
      have f5 := hide hI.1
      replace hI := hI.2
      have f6 := hide hI.1
      replace hI := hI.2
      have f7 := hide hI
      clear hI
      have r0 := hG.hb
      have g4 := f4.out (hD.on 4 (by kernel_rfl))
      try simp only [puts, Act.put, List.setIfInBounds_toArray, List.set_cons_zero, List.set_cons_succ]
      obtain rfl := g4.2
      go_simp
      exact hK.out _ _ _ (by simp only [puts, Act.put, List.setIfInBounds_toArray, List.set_cons_zero, List.set_cons_succ] <;> rfl) ⟨hG, (fun h => f0.out h), (fun h => f1.out h), (fun h => f2.out h), (fun h => f3.out h), (fun h => f4.out h), (fun _ => ⟨g4.1, rfl⟩), (fun h => f6.out h), (fun h => f7.out h)⟩
    · intro L vs W hlen hL hD hI K hK
      obtain ⟨x0, x1, x2, x3, x4, x5, x6, x7, rfl⟩ := len8 hlen
      have hG := hI.1
      replace hI := hI.2
      have f0 := hide hI.1
      replace hI := hI.2
      have f1 := hide hI.1
      replace hI := hI.2
      have f2 := hide hI.1
      replace hI := hI.2
      have f3 := hide hI.1
      replace hI := hI.2
      have f4 := hide hI.1
      replace hI := hI.2
      have f5 := hide hI.1
      replace hI := hI.2
      have f6 := hide hI.1
      replace hI := hI.2
      have f7 := hide hI
      clear hI
      have r0 := hG.hb
      try simp only [puts, Act.put, List.setIfInBounds_toArray, List.set_cons_zero, List.set_cons_succ]
      try go_simp
      exact hK.out _ _ _ (by simp only [puts, Act.put, List.setIfInBounds_toArray, List.set_cons_zero, List.set_cons_succ] <;> rfl) ⟨hG, (fun h => f0.out h), (fun h => f1.out h), (fun h => f2.out h), (fun h => f3.out h), (fun h => f4.out h), (fun h => f5.out h), (fun _ => rfl), (fun h => f7.out h)⟩
    · intro L vs W hlen hL hD hI K hK
      obtain ⟨x0, x1, x2, x3, x4, x5, x6, x7, rfl⟩ := len8 hlen
      have hG := hI.1
      replace hI := hI.2
      have f0 := hide hI.1
      replace hI := hI.2
      have f1 := hide hI.1
      replace hI := hI.2
      have f2 := hide hI.1
      replace hI := hI.2
      have f3 := hide hI.1
      replace hI := hI.2
      have f4 := hide hI.1
      replace hI := hI.2
      have f5 := hide hI.1
      replace hI := hI.2
      have f6 := hide hI.1
      replace hI := hI.2
      have f7 := hide hI
      clear hI
      have r0 := hG.hb
      have g5 := f5.out (hD.on 5 (by kernel_rfl))
      obtain rfl := f6.out (hD.on 6 (by kernel_rfl))
      try simp only [puts, Act.put, List.setIfInBounds_toArray, List.set_cons_zero, List.set_cons_succ]
      obtain rfl := g5.2
      have hG7 := hG
      rw [hL] at hG7
      have z0 := hG7.box.frozen 1
      have z1 := hG7.box.cell 1 rfl
      go_simp
      have hb := Below.refl W.heap.size W
      exact hK.out _ undef _ (by simp only [puts, Act.put, List.setIfInBounds_toArray, List.set_cons_zero, List.set_cons_succ] <;> rfl) ⟨hG7.at1 hR, (fun h => f0.out h), (fun h => f1.out h), (fun h => f2.out h), (fun h => f3.out h), (fun h => f4.out h), (fun h => f5.out h), (fun h => f6.out h), (fun _ => g5.1)⟩
  intro L vs W hlen hall hI
  obtain ⟨x0, x1, x2, x3, x4, x5, x6, x7, rfl⟩ := len8 hlen
  have hG := hI.1
  replace hI := hI.2
  have f0 := hide hI.1
  replace hI := hI.2
  have f1 := hide hI.1
  replace hI := hI.2
  have f2 := hide hI.1
  replace hI := hI.2
  have f3 := hide hI.1
  replace hI := hI.2
  have f4 := hide hI.1
  replace hI := hI.2
  have f5 := hide hI.1
  replace hI := hI.2
  have f6 := hide hI.1
  replace hI := hI.2
  have f7 := hide hI
  clear hI
  obtain rfl := f0.out (hall 0 (by decide))
  obtain rfl := f1.out (hall 1 (by decide))
  obtain rfl := f2.out (hall 2 (by decide))
  obtain rfl := f3.out (hall 3 (by decide))
  have g4 := f4.out (hall 4 (by decide))
  have g5 := f5.out (hall 5 (by decide))
  obtain rfl := f6.out (hall 6 (by decide))
  have g7 := f7.out (hall 7 (by decide))
  have hal := hide hall
  clear hall f0 f1 f2 f3 f4 f5 f6 f7
  try simp only [puts, Act.put, List.setIfInBounds_toArray, List.set_cons_zero, List.set_cons_succ]
  rw [hal.out 7 (by decide)] at hG
  have bM6 := hG.done
  have hb26 := hG.hb
  obtain rfl := g4.2
  obtain rfl := g5.2
  clear hG g4 g5 g7 hal bM5
  obtain ⟨W6, hW6⟩ : ∃ Z, Z = W := ⟨_, rfl⟩
  subst hW6
  go_wp2_with fail
  refine wp_region_inv [some 47, some 48, some 49, some 50, some 51, some 52, some 53, none] (fun L vs W => match vs with | [x0, x1, x2, x3, x4, x5, x6, x7] => (BoxG w2 W6 R 32 [iV ((tu + s0 / 5) % 4), iV (dx + s1 - 16), iV dy] [iV ((tu + s0 / 5) % 4), iV (dx + s1 - 16), iV (dy + s2 - 16)] (L 7) W) ∧ (L 0 = true → x0 = .pointer (some ⟨R, 2, none⟩)) ∧ (L 1 = true → x1 = iV dy) ∧ (L 2 = true → x2 = iV c2) ∧ (L 3 = true → x3 = iV s2) ∧ (L 4 = true → L 1 = true ∧ x4 = iV (dy + s2)) ∧ (L 5 = true → L 1 = true ∧ x5 = iV (dy + s2 - 16)) ∧ (L 6 = true → x6 = .pointer (some ⟨R, 2, none⟩)) ∧ (L 7 = true → L 1 = true) | _ => False) [_, _, _, _, _, _, _, undef] (by kernel_rfl) (by kernel_rfl) rfl (by simp only [puts, Act.put, List.setIfInBounds_toArray, List.set_cons_zero, List.set_cons_succ] <;> rfl) ?_ ?_ ?_
  · exact ⟨BoxG.first hb26 bM6, (fun h => by cases h), (fun h => by cases h), (fun h => by cases h), (fun h => by cases h), (fun h => by cases h), (fun h => by cases h), (fun h => by cases h), (fun h => by cases h)⟩
  · refine ⟨?_, ?_, ?_, ?_, ?_, ?_, ?_, ?_, trivial⟩
    · intro L vs W hlen hL hD hI K hK
      obtain ⟨x0, x1, x2, x3, x4, x5, x6, x7, rfl⟩ := len8 hlen
      have hG := hI.1
      replace hI := hI.2
      have f0 := hide hI.1
      replace hI := hI.2
      have f1 := hide hI.1
      replace hI := hI.2
      have f2 := hide hI.1
      replace hI := hI.2
      have f3 := hide hI.1
      replace hI := hI.2
      have f4 := hide hI.1
      replace hI := hI.2
      have f5 := hide hI.1
      replace hI := hI.2
      have f6 := hide hI.1
      replace hI := hI.2
      have f7 := hide hI
      clear hI
      have r0 := hG.hb
      try simp only [puts, Act.put, List.setIfInBounds_toArray, List.set_cons_zero, List.set_cons_succ]
      try go_simp
      exact hK.out _ _ _ (by simp only [puts, Act.put, List.setIfInBounds_toArray, List.set_cons_zero, List.set_cons_succ] <;> rfl) ⟨hG, (fun _ => rfl), (fun h => f1.out h), (fun h => f2.out h), (fun h => f3.out h), (fun h => f4.out h), (fun h => f5.out h), (fun h => f6.out h), (fun h => f7.out h)⟩
    · intro L vs W hlen hL hD hI K hK
      obtain ⟨x0, x1, x2, x3, x4, x5, x6, x7, rfl⟩ := len8 hlen
      have hG := hI.1
      replace hI := hI.2
      have f0 := hide hI.1
      replace hI := hI.2
      have f1 := hide hI.1
      replace hI := hI.2
      have f2 := hide hI.1
      replace hI := hI.2
      have f3 := hide hI.1
      replace hI := hI.2
      have f4 := hide hI.1
      replace hI := hI.2
      have f5 := hide hI.1
      replace hI := hI.2
      have f6 := hide hI.1
      replace hI := hI.2
      have f7 := hide hI
      clear hI
      have r0 := hG.hb
      obtain rfl := f0.out (hD.on 0 (by kernel_rfl))
      try simp only [puts, Act.put, List.setIfInBounds_toArray, List.set_cons_zero, List.set_cons_succ]
      have h7 : L 7 = false := Bool.eq_false_iff.2 (fun h => absurd ((f7.out h).symm.trans hL) (by decide))
      have hG7 := hG
      rw [h7] at hG7
      have r0 := hG7.box.cell 2 rfl
      go_simp
      exact hK.out _ _ _ (by simp only [puts, Act.put, List.setIfInBounds_toArray, List.set_cons_zero, List.set_cons_succ] <;> rfl) ⟨hG, (fun h => f0.out h), (fun _ => rfl), (fun h => f2.out h), (fun h => f3.out h), (fun h => (fun h => ⟨rfl, h.2⟩) (f4.out h)), (fun h => (fun h => ⟨rfl, h.2⟩) (f5.out h)), (fun h => f6.out h), (fun h => (fun _ => rfl) (f7.out h))⟩
    · intro L vs W hlen hL hD hI K hK
      obtain ⟨x0, x1, x2, x3, x4, x5, x6, x7, rfl⟩ := len8 hlen
      have hG := hI.1
      replace hI := hI.2
      have f0 := hide hI.1
      replace hI := hI.2
      have f1 := hide hI.1
      replace hI := hI.2
      have f2 := hide hI.1
      replace hI := hI.2
      have f3 := hide hI.1
      replace hI := hI.2
      have f4 := hide hI.1
      replace hI := hI.2
      have f5 := hide hI.1
      replace hI := hI.2
      have f6 := hide hI.1
      replace hI := hI.2
      have f7 := hide hI
      clear hI
      have r0 := hG.hb
      try simp only [puts, Act.put, List.setIfInBounds_toArray, List.set_cons_zero, List.set_cons_succ]
      try go_simp
      exact hK.out _ _ _ (by simp only [puts, Act.put, List.setIfInBounds_toArray, List.set_cons_zero, List.set_cons_succ] <;> rfl) ⟨hG, (fun h => f0.out h), (fun h => f1.out h), (fun _ => rfl), (fun h => f3.out h), (fun h => f4.out h), (fun h => f5.out h), (fun h => f6.out h), (fun h => f7.out h)⟩
    · intro L vs W hlen hL hD hI K hK
      obtain ⟨x0, x1, x2, x3, x4, x5, x6, x7, rfl⟩ := len8 hlen
      have hG := hI.1
      replace hI := hI.2
      have f0 := hide hI.1
      replace hI := hI.2
      have f1 := hide hI.1
      replace hI := hI.2
      have f2 := hide hI.1
      replace hI := hI.2
      have f3 := hide hI.1
      replace hI := hI.2
      have f4 := hide hI.1
      replace hI := hI.2
      have f5 := hide hI.1
      replace hI := hI.2
      have f6 := hide hI.1
      replace hI := hI.2
      have f7 := hide hI
      clear hI
      have r0 := hG.hb
      obtain rfl := f2.out (hD.on 2 (by kernel_rfl))
      try simp only [puts, Act.put, List.setIfInBounds_toArray, List.set_cons_zero, List.set_cons_succ]
      try go_simp
      refine (HP2.out _).mono ?_
      rintro e W' ⟨rfl, hb⟩
      try go_simp
      exact hK.out _ _ _ (by simp only [puts, Act.put, List.setIfInBounds_toArray, List.set_cons_zero, List.set_cons_succ] <;> rfl) ⟨hG.later hb, (fun h => f0.out h), (fun h => f1.out h), (fun h => f2.out h), (fun _ => rfl), (fun h => f4.out h), (fun h => f5.out h), (fun h => f6.out h), (fun h => f7.out h)⟩
    · intro L vs W hlen hL hD hI K hK
      obtain ⟨x0, x1, x2, x3, x4, x5, x6, x7, rfl⟩ := len8 hlen
      have hG := hI.1
      replace hI := hI.2
      have f0 := hide hI.1
      replace hI := hI.2
      have f1 := hide hI.1
      replace hI := hI.2
      have f2 := hide hI.1
      replace hI := hI.2
      have f3 := hide hI.1
      replace hI := hI.2
      have f4 := hide hI.1
      replace hI := hI.2
      have f5 := hide hI.1
      replace hI := hI.2
      have f6 := hide hI.1
      replace hI := hI.2
      have f7 := hide hI
      clear hI
      have r0 := hG.hb
      obtain rfl := f1.out (hD.on 1 (by kernel_rfl))
      obtain rfl := f3.out (hD.on 3 (by kernel_rfl))
      try simp only [puts, Act.put, List.setIfInBounds_toArray, List.set_cons_zero, List.set_cons_succ]
      try go_simp
      exact hK.out _ _ _ (by simp only [puts, Act.put, List.setIfInBounds_toArray, List.set_cons_zero, List.set_cons_succ] <;> rfl) ⟨hG, (fun h => f0.out h), (fun h => f1.out h), (fun h => f2.out h), (fun h => f3.out h), (fun _ => ⟨hD.on 1 (by kernel_rfl), rfl⟩), (fun h => f5.out h), (fun h => f6.out h), (fun h => f7.out h)⟩
    · intro L vs W hlen hL hD hI K hK
      obtain ⟨x0, x1, x2, x3, x4, x5, x6, x7, rfl⟩ := len8 hlen
      have hG := hI.1
      replace hI := hI.2
      have f0 := hide hI.1
      replace hI := hI.2
      have f1 := hide hI.1
      replace hI := hI.2
      have f2 := hide hI.1
      replace hI := hI.2
      have f3 := hide hI.1
      replace hI := hI.2
      have f4 := hide hI.1
      replace hI := hI.2
      have f5 := hide hI.1
      replace hI := hI.2
      have f6 := hide hI.1
      replace hI := hI.2
      have f7 := hide hI
      clear hI
      have r0 := hG.hb
      have g4 := f4.out (hD.on 4 (by kernel_rfl))
      try simp only [puts, Act.put, List.setIfInBounds_toArray, List.set_cons_zero, List.set_cons_succ]
      obtain rfl := g4.2
      go_simp
      exact hK.out _ _ _ (by simp only [puts, Act.put, List.setIfInBounds_toArray, List.set_cons_zero, List.set_cons_succ] <;> rfl) ⟨hG, (fun h => f0.out h), (fun h => f1.out h), (fun h => f2.out h), (fun h => f3.out h), (fun h => f4.out h), (fun _ => ⟨g4.1, rfl⟩), (fun h => f6.out h), (fun h => f7.out h)⟩
    · intro L vs W hlen hL hD hI K hK
      obtain ⟨x0, x1, x2, x3, x4, x5, x6, x7, rfl⟩ := len8 hlen
      have hG := hI.1
      replace hI := hI.2
      have f0 := hide hI.1
      replace hI := hI.2
      have f1 := hide hI.1
      replace hI := hI.2
      have f2 := hide hI.1
      replace hI := hI.2
      have f3 := hide hI.1
      replace hI := hI.2
      have f4 := hide hI.1
      replace hI := hI.2
      have f5 := hide hI.1
      replace hI := hI.2
      have f6 := hide hI.1
      replace hI := hI.2
      have f7 := hide hI
      clear hI
      have r0 := hG.hb
      try simp only [puts, Act.put, List.setIfInBounds_toArray, List.set_cons_zero, List.set_cons_succ]
      try go_simp
      exact hK.out _ _ _ (by simp only [puts, Act.put, List.setIfInBounds_toArray, List.set_cons_zero, List.set_cons_succ] <;> rfl) ⟨hG, (fun h => f0.out h), (fun h => f1.out h), (fun h => f2.out h), (fun h => f3.out h), (fun h => f4.out h), (fun h => f5.out h), (fun _ => rfl), (fun h => f7.out h)⟩
    · intro L vs W hlen hL hD hI K hK
      obtain ⟨x0, x1, x2, x3, x4, x5, x6, x7, rfl⟩ := len8 hlen
      have hG := hI.1
      replace hI := hI.2
      have f0 := hide hI.1
      replace hI := hI.2
      have f1 := hide hI.1
      replace hI := hI.2
      have f2 := hide hI.1
      replace hI := hI.2
      have f3 := hide hI.1
      replace hI := hI.2
      have f4 := hide hI.1
      replace hI := hI.2
      have f5 := hide hI.1
      replace hI := hI.2
      have f6 := hide hI.1
      replace hI := hI.2
      have f7 := hide hI
      clear hI
      have r0 := hG.hb
      have g5 := f5.out (hD.on 5 (by kernel_rfl))
      obtain rfl := f6.out (hD.on 6 (by kernel_rfl))
      try simp only [puts, Act.put, List.setIfInBounds_toArray, List.set_cons_zero, List.set_cons_succ]
      obtain rfl := g5.2
      have hG7 := hG
      rw [hL] at hG7
      have z0 := hG7.box.frozen 2
      have z1 := hG7.box.cell 2 rfl
      go_simp
      have hb := Below.refl W.heap.size W
      exact hK.out _ undef _ (by simp only [puts, Act.put, List.setIfInBounds_toArray, List.set_cons_zero, List.set_cons_succ] <;> rfl) ⟨hG7.at2 hR, (fun h => f0.out h), (fun h => f1.out h), (fun h => f2.out h), (fun h => f3.out h), (fun h => f4.out h), (fun h => f5.out h), (fun h => f6.out h), (fun _ => g5.1)⟩
  intro L vs W hlen hall hI
  obtain ⟨x0, x1, x2, x3, x4, x5, x6, x7, rfl⟩ := len8 hlen
  have hG := hI.1
  replace hI := hI.2
  have f0 := hide hI.1
  replace hI := hI.2
  have f1 := hide hI.1
  replace hI := hI.2
  have f2 := hide hI.1
  replace hI := hI.2
  have f3 := hide hI.1
  replace hI := hI.2
  have f4 := hide hI.1
  replace hI := hI.2
  have f5 := hide hI.1
  replace hI := hI.2
  have f6 := hide hI.1
  replace hI := hI.2
  have f7 := hide hI
  clear hI
  obtain rfl := f0.out (hall 0 (by decide))
  obtain rfl := f1.out (hall 1 (by decide))
  obtain rfl := f2.out (hall 2 (by decide))
  obtain rfl := f3.out (hall 3 (by decide))
  have g4 := f4.out (hall 4 (by decide))
  have g5 := f5.out (hall 5 (by decide))
  obtain rfl := f6.out (hall 6 (by decide))
  have g7 := f7.out (hall 7 (by decide))
  have hal := hide hall
  clear hall f0 f1 f2 f3 f4 f5 f6 f7
  try simp only [puts, Act.put, List.setIfInBounds_toArray, List.set_cons_zero, List.set_cons_succ]
  rw [hal.out 7 (by decide)] at hG
  have bM7 := hG.done
  have hb27 := hG.hb
  obtain rfl := g4.2
  obtain rfl := g5.2
  clear hG g4 g5 g7 hal bM6
  obtain ⟨W7, hW7⟩ : ∃ Z, Z = W := ⟨_, rfl⟩
  subst hW7
  have bM' : Blk W7 R [iV M.turn, iV M.dx, iV M.dy] 32 := by rw [HMM.out]; exact bM7
  clear bM7 HMM
  have r0 := (bM').cell 0 rfl
  have r1 := (bM').cell 1 rfl
  have r2 := (bM').cell 2 rfl
  go_wp2_with fail
  refine (invert_any M W7 (hG2.later hb27)).mono ?_
  rw [HN.out]
  rintro e w8 ⟨rfl, hb8⟩
  go_wp2_with fail
  generalize hXX : World.alloc w8 _ = W9
  have hb9 : Below w8.heap.size w8 W9 := by rw [← hXX]; exact bal w8 _
  have bN : Blk W9 w8.heap.size [iV N.turn, iV N.dx, iV N.dy] 32 := by rw [← hXX]; exact Blk.newA w8 _ rfl
  have hb89 := below2 hb8 hb9
  have bM9 := bM'.later hb89
  have hb29 := below2 hb27 hb89
  generalize w8.heap.size = RN at *
  clear hXX r0 r1 r2
  go_wp2_with fail
  refine (HPX.out _).mono ?_
  rintro e w10 ⟨rfl, hb10⟩
  go_wp2_with fail
  refine (HPY.out _).mono ?_
  rintro e w11 ⟨rfl, hb11⟩
  have hb911 := below2 hb10 hb11
  have bM11 := bM9.later hb911
  have bN11 := bN.later hb911
  have hb211 := below2 hb29 hb911
  have r0 := (bM11).cell 0 rfl
  have r1 := (bM11).cell 1 rfl
  have r2 := (bM11).cell 2 rfl
  go_wp2_with fail
  refine (apply_any M (sx - 1000) (sy - 1000) _ (hG2.later hb211)).mono ?_
  rw [HU.out, HV.out]
  rintro e w12 ⟨rfl, hb12⟩
  have bM12 := bM11.later hb12
  have bN12 := bN11.later hb12
  have hb212 := below2 hb211 hb12
  clear r0 r1 r2
  have r0 := (bN12).cell 0 rfl
  have r1 := (bN12).cell 1 rfl
  have r2 := (bN12).cell 2 rfl
  go_wp2_with fail
  refine (apply_any N U V _ (hG2.later hb212)).mono ?_
  rw [HHX.out, HHY.out]
  rintro e w13 ⟨rfl, hb13⟩
  have bM13 := bM12.later hb13
  have bN13 := bN12.later hb13
  have hb213 := below2 hb212 hb13
  clear r0 r1 r2
  have HF1 := hide (fun (W : World) hb => fitting_any A B _ _ M W (DA.below hb) (DB.below hb) (hG2.later hb))
  have HF2 := hide (fun (W : World) hb => fitting_any B A _ _ N W (DB.below hb) (DA.below hb) (hG2.later hb))
  rw [HFF.out] at HF2
  have HI2 := hide (fun (W : World) hb => invert_any N W (hG2.later hb))
  rw [HII.out] at HI2
  generalize fittingD A B M = ph at *
  have r0 := bwc (bM13.cell 0 rfl)
  have r1 := bwc (bM13.cell 1 rfl)
  have r2 := bwc (bM13.cell 2 rfl)
  have n0 := bwc (bN13.cell 0 rfl)
  have n1 := bwc (bN13.cell 1 rfl)
  have n2 := bwc (bN13.cell 2 rfl)
  go_wp2_with fail
  refine wp_region_bw (by kernel_rfl) (by kernel_rfl) ?_
  repeat (go_big_quiet_step (with_reducible first | exact quiet (HF1.out _ (below2 hb213 (Bw.h _))) | exact quiet (HF2.out _ (below2 hb213 (Bw.h _))) | exact quiet (HI2.out _ (below2 hb213 (Bw.h _)))))
  refine wpQuiet_nil ?_
  rintro _ ⟨i, rfl⟩
  go_wp2_with fail
  go_ret
  exact ⟨rfl, hbw2.trans ((below2 hb213 i.h).mono hbw2.size)⟩
end Go.Proofs.YtoofkahklboojaaDoor
