/- Register: the walk of RegisterMatchesReference. Conditions: how the arguments and the global tables lie in memory; that integers are of 64 bits. -/
import Derived.Test.YtoofkahklboojaaDoorRvH
import Derived.Test.YtoofkahklboojaaDoorRkQ
import Derived.Test.YtoofkahklboojaaDoorRvB
import Derived.Test.YtoofkahklboojaaDoorRvG
import Derived.Test.YtoofkahklboojaaDoorRvF
namespace Go.Proofs.YtoofkahklboojaaDoor
open Go.RowKit

theorem last_idK {l : List DotD} (h : validD l = true) : -9223372036854775808 ≤ (l.getD (l.length - 1) dot0).id ∧ (l.getD (l.length - 1) dot0).id < 9223372036854775807 := by
 by_cases hl : l.length = 0
 ·have : l = [] := by simpa using hl
  rw [this]; decide
 ·have hm := getD_mem l (l.length - 1) (d := dot0) (by omega)
  have := valid_ok h _ hm
  generalize l.getD (l.length - 1) dot0 = p at *
  unfold dotOk at this
  simp at this; omega
theorem RecIn.takeK {α : Type} {f : α → List Value} {d : α} {k n j : Nat} {c : Rd} {l : List α} {a : Option Addr} (h : RecIn f d k c (.slice a l.length n) l) (hj : j ≤ l.length) : RecIn f d k c (.slice a j n) (l.take j) := by
 obtain ⟨a', n', h1, h2, h3, h4⟩ := h
 cases h1
 have e : (l.take j).length = j := by rw [List.length_take, Nat.min_eq_left hj]
 refine ⟨a, n, by rw [e], by omega, h3, fun i hi => ?_⟩
 rw [e] at hi
 obtain ⟨b, o, e1, hc⟩ := h4 i (by omega)
 refine ⟨b, o, e1, fun m u hu => hc m u ?_⟩
 rwa [List.getD_eq_getElem?_getD, List.getElem?_take_of_lt hi, ← List.getD_eq_getElem?_getD] at hu
theorem bent_len (l : List DotD) (how n at_ : Int) : (bentD l how n at_).length ≤ l.length + 1 := by
 unfold bentD
 dsimp only
 split
 ·simp
 ·split
  ·simp
  ·split
   ·simp
   ·split
    ·simp
    ·split <;> simp
set_option maxRecDepth 100000 in
set_option maxHeartbeats 4000000 in
theorem refl_any (t : TruthD) (mv fv tv ev : Value) (bd : (Int × Int × Int) × (Int × Int × Int)) (raw : List DotD) (rv : Value) (id_ : Int) (m : MotD) (x y : Int) (w : World) (ht : TruthAt w mv fv tv ev t) (h64 : Truth64 t)
  (kb : (i64B bd.1.1 ∧ i64B bd.1.2.1 ∧ i64B bd.1.2.2) ∧ (i64B bd.2.1 ∧ i64B bd.2.2.1 ∧ i64B bd.2.2.2)) (hr : DotsAt w rv raw) (_kr : ∀ p ∈ raw, i64B p.id ∧ i64B p.x ∧ i64B p.y ∧ i64B p.tol) (_ki : i64B id_) (km : i64B m.turn ∧ i64B m.dx ∧ i64B m.dy) (kx : i64B x) (ky : i64B y) (hG0 : Glob w) :
  Calls Tryd.prog 3 #[truthV mv fv tv ev t, .agg #[iV bd.1.1, iV bd.1.2.1, iV bd.1.2.2, iV bd.2.1, iV bd.2.2.1, iV bd.2.2.2], rv, iV id_, motV m, iV x, iV y] w (Ret (.bool true) w) := by
 have hval := surv_valid t
 have hin := way_in t
 have hal := valid_len hval.1
 have hbl := valid_len hval.2
 have hlA := last_idK hval.1
 have hlB := last_idK hval.2
 have HSV := hide (fun (W : World) hb => surveys_any mv fv tv ev t W (ht.below hb) h64)
 have HWY := hide (fun (W : World) => way_any mv fv tv ev t W h64.mot (by obtain ⟨a, c, e, -⟩ := ht.marks; exact ⟨a, _, c, e⟩) (by obtain ⟨a, c, e, -⟩ := ht.finds; exact ⟨a, _, c, e⟩) (by obtain ⟨a, c, e, -⟩ := ht.tols; exact ⟨a, _, c, e⟩) (by obtain ⟨a, c, e, -⟩ := ht.errs; exact ⟨a, _, c, e⟩))
 have HP1 := hide (fun W => pickl_any m.dx 21 W km.2.1 (by decide) (by decide))
 have HP2 := hide (fun W => pickl_any m.dy 21 W km.2.2 (by decide) (by decide))
 have HPX := hide (fun W => pickl_any x 10001 W kx (by decide) (by decide))
 have HPY := hide (fun W => pickl_any y 10001 W ky (by decide) (by decide))
 have p1 := pickR_in m.dx (n := 21) (by decide)
 have p2 := pickR_in m.dy (n := 21) (by decide)
 have p3 := pickR_in x (n := 10001) (by decide)
 have p4 := pickR_in y (n := 10001) (by decide)
 have DR0 := hr
 obtain ⟨ma, mc, rfl, -, -, -⟩ := id' ht.marks
 obtain ⟨fa, fc, rfl, -, -, -⟩ := id' ht.finds
 obtain ⟨ta, tc, rfl, -, -, -⟩ := id' ht.tols
 obtain ⟨ea, ec, rfl, -, -, -⟩ := id' ht.errs
 obtain ⟨ra, rc, rfl, hrc1, hrc2, -⟩ := hr
 obtain ⟨⟨b0, b1, b2⟩, ⟨b3, b4, b5⟩⟩ := bd
 dsimp only at kb ⊢
 obtain ⟨⟨kb0, kb1, kb2⟩, kb3, kb4, kb5⟩ := kb
 generalize survA t = A at *
 generalize survB t = B at *
 generalize wayD t = M0 at *
 have HBA := hide (fun (v : Value) (W : World) (h : DotsAt W v A) => bent_any A b0 b1 b2 v W h kb0 kb2 (by omega) hlA)
 have HBB := hide (fun (v : Value) (W : World) (h : DotsAt W v B) => bent_any B b3 b4 b5 v W h kb3 kb5 (by omega) hlB)
 clear hlA hlB kb0 kb1 kb2 kb3 kb4 kb5 hval
 obtain ⟨mt, mx, my⟩ := m
 dsimp only at HP1 HP2 p1 p2 km
 go_enter Tryd.func3, Tryd.ntmps3
 go_wp2_with fail
 generalize hX1 : World.alloc w _ = X1
 have zX1 : X1.heap.size = w.heap.size + 1 := by rw [← hX1]; simp
 have bX1 : Below w.heap.size w X1 := by rw [← hX1]; exact bal w _
 have bT_1 : Blk X1 (w.heap.size) [.slice ma t.marks.length mc, .slice fa t.finds.length fc, iV t.mot.1, iV t.mot.2.1, iV t.mot.2.2, .slice ta t.tols.length tc, .slice ea t.errs.length ec] 28 := by rw [← hX1]; exact Blk.newA w _ (by first | rfl | simp)
 generalize hX2 : World.alloc X1 _ = X2
 have zX2 : X2.heap.size = w.heap.size + 1 + 1 := by rw [← hX2]; simp [zX1]
 have bX2 : Below X1.heap.size X1 X2 := by rw [← hX2]; exact bal X1 _
 have bB_2 : Blk X2 (w.heap.size + 1) [iV b0, iV b1, iV b2, iV b3, iV b4, iV b5] 29 := by rw [← hX2, ← zX1]; exact Blk.newA X1 _ (by first | rfl | simp)
 have bT_2 := bT_1.later bX2
 generalize hX3 : World.alloc X2 _ = X3
 have zX3 : X3.heap.size = w.heap.size + 1 + 1 + 1 := by rw [← hX3]; simp [zX2]
 have bX3 : Below X2.heap.size X2 X3 := by rw [← hX3]; exact bal X2 _
 have bM : Blk X3 (w.heap.size + 1 + 1) [iV mt, iV mx, iV my] 32 := by rw [← hX3, ← zX2]; exact Blk.newA X2 _ (by first | rfl | simp)
 have bT := bT_2.later bX3
 have bB := bB_2.later bX3
 have Xb := below2 (below2 (bX1) bX2) bX3
 have Xz := zX3
 clear hX1 zX1 bX1 hX2 zX2 bX2 hX3 zX3 bX3 bT_1 bT_2 bB_2
 refine (sane_any _ (hG0.later Xb)).mono ?_
 rintro e w1 ⟨rfl, hb1⟩
 have bT1 := bT.later hb1
 have bB1 := bB.later hb1
 have bM1 := bM.later hb1
 have hbw1 := below2 Xb hb1
 have t0 := (bT1).cell 0 rfl
 have t1 := (bT1).cell 1 rfl
 have t2 := (bT1).cell 2 rfl
 have t3 := (bT1).cell 3 rfl
 have t4 := (bT1).cell 4 rfl
 have t5 := (bT1).cell 5 rfl
 have t6 := (bT1).cell 6 rfl
 go_wp2_with fail
 refine (HSV.out _ hbw1).mono ?_
 rintro e w2 ⟨va, vb, rfl, ⟨hA0, hB0⟩, hb2⟩
 have DA : DotsAt w2 va A := hA0.at
 have DB : DotsAt w2 vb B := hB0.at
 have bT2 := bT1.later hb2
 have bB2 := bB1.later hb2
 have bM2 := bM1.later hb2
 have hbw2 := below2 hbw1 hb2
 obtain ⟨aa, ac, rfl, -, -, -⟩ := id DA
 obtain ⟨ba, bc, rfl, -, -, -⟩ := id DB
 clear hA0 hB0 t0 t1 t2 t3 t4 t5 t6
 have d0 := bB2.cell 0 rfl
 have d1 := bB2.cell 1 rfl
 have d2 := bB2.cell 2 rfl
 go_wp2_with fail
 refine (HBA.out _ _ DA).mono ?_
 rintro e w3 ⟨vc, rfl, hC0, hb3⟩
 have DC : DotsAt w3 vc (bentD A b0 b1 b2) := hC0.at
 have bB3 := bB2.later hb3
 clear d0 d1 d2
 have d3 := bB3.cell 3 rfl
 have d4 := bB3.cell 4 rfl
 have d5 := bB3.cell 5 rfl
 have hcl1 := bent_len A b0 b1 b2
 generalize bentD A b0 b1 b2 = C at *
 obtain ⟨ca, cc, rfl, -, -, -⟩ := id DC
 go_wp2_with fail
 refine (HBB.out _ _ (DB.below hb3)).mono ?_
 rintro e w4 ⟨vd, rfl, hD0, hb4⟩
 have DD : DotsAt w4 vd (bentD B b3 b4 b5) := hD0.at
 have hcl2 := bent_len B b3 b4 b5
 generalize bentD B b3 b4 b5 = D at *
 obtain ⟨da, dc, rfl, -, -, -⟩ := id DD
 have bT4 := bT2.later (below2 hb3 hb4)
 clear d3 d4 d5 hC0 hD0
 have t0 := (bT4).cell 0 rfl
 have t1 := (bT4).cell 1 rfl
 have t2 := (bT4).cell 2 rfl
 have t3 := (bT4).cell 3 rfl
 have t4 := (bT4).cell 4 rfl
 have t5 := (bT4).cell 5 rfl
 have t6 := (bT4).cell 6 rfl
 go_wp2_with fail
 obtain ⟨nr, hnr⟩ : ∃ nr : Nat, (min (raw.length : Int) 13).toNat = nr := ⟨_, rfl⟩
 have hnr1 : nr ≤ raw.length := by omega
 have hnr2 : nr ≤ 13 := by omega
 rw [hnr]
 have DR := RecIn.takeK DR0 hnr1
 have hrl : (raw.take nr).length = nr := by rw [List.length_take]; omega
 generalize raw.take nr = RW at *
 have HRL := hide hrl
 clear hnr hnr1 hrl DR0
 refine (HWY.out _).mono ?_
 rintro e w5 ⟨rfl, hb5⟩
 obtain ⟨tu, dx, dy⟩ := M0
 dsimp only at hin
 obtain ⟨i1, i2, i3, i4, i5, i6⟩ := hin
 generalize pickR mx 21 = s1 at *
 generalize pickR my 21 = s2 at *
 obtain ⟨q11, q12⟩ := p1
 obtain ⟨q21, q22⟩ := p2
 have u6 : IntKind.i64.wrap (dx + s1) = dx + s1 := IntWalk.i64_in _ (by omega)
 have u7 : IntKind.i64.wrap (dx + s1 - 10) = dx + s1 - 10 := IntWalk.i64_in _ (by omega)
 have u8 : IntKind.i64.wrap (dy + s2) = dy + s2 := IntWalk.i64_in _ (by omega)
 have u9 : IntKind.i64.wrap (dy + s2 - 10) = dy + s2 - 10 := IntWalk.i64_in _ (by omega)
 have hb25 := below2 (below2 hb3 hb4) hb5
 have bM5 := bM2.later hb25
 have lM5 := bM5.lt
 have bT5 := bT4.later hb5
 clear t0 t1 t2 t3 t4 t5 t6
 go_wp2_with fail
 generalize hXX : World.alloc w5 _ = W6
 have hb6 : Below w5.heap.size w5 W6 := by rw [← hXX]; exact bal w5 _
 have bN : Blk W6 w5.heap.size [iV tu, iV dx, iV dy] 32 := by rw [← hXX]; exact Blk.newA w5 _ rfl
 have bM6 := bM5.later hb6
 have bT6 := bT5.later hb6
 have hb26 := below2 hb25 hb6
 have hb46 := below2 hb5 hb6
 have hR : w4.heap.size ≤ w5.heap.size := hb5.size
 have hMR : w.heap.size + 1 + 1 ≠ w5.heap.size := Nat.ne_of_lt lM5
 have hTR : w.heap.size ≠ w5.heap.size := Nat.ne_of_lt bT5.lt
 generalize w5.heap.size = R at *
 generalize w.heap.size + 1 + 1 = MB at *
 clear hXX lM5
 refine wp_region_inv [some 84, some 85, some 86, some 87, some 88, some 89, some 90, some 91, none] (fun L vs W => match vs with | [x0, x1, x2, x3, x4, x5, x6, x7, x8] => (BoxG w4 W6 R 32 [iV tu, iV dx, iV dy] [iV tu, iV (dx + s1 - 10), iV dy] (L 8) W) ∧ (L 0 = true → x0 = .pointer (some ⟨R, 1, none⟩)) ∧ (L 1 = true → x1 = iV dx) ∧ (L 2 = true → x2 = .pointer (some ⟨MB, 1, none⟩)) ∧ (L 3 = true → x3 = iV mx) ∧ (L 4 = true → x4 = iV s1) ∧ (L 5 = true → L 1 = true ∧ x5 = iV (dx + s1)) ∧ (L 6 = true → L 1 = true ∧ x6 = iV (dx + s1 - 10)) ∧ (L 7 = true → x7 = .pointer (some ⟨R, 1, none⟩)) ∧ (L 8 = true → L 1 = true) | _ => False) [_, _, _, _, _, _, _, _, undef] (by kernel_rfl) (by kernel_rfl) rfl (by simp only [puts, Act.put, List.setIfInBounds_toArray, List.set_cons_zero, List.set_cons_succ] <;> rfl) ?_ ?_ ?_
 ·exact ⟨BoxG.first hb46 bN, (fun h => by cases h), (fun h => by cases h), (fun h => by cases h), (fun h => by cases h), (fun h => by cases h), (fun h => by cases h), (fun h => by cases h), (fun h => by cases h), (fun h => by cases h)⟩
 ·refine ⟨?_, ?_, ?_, ?_, ?_, ?_, ?_, ?_, ?_, trivial⟩
  ·intro L vs W hlen hL hD hI K hK
   obtain ⟨x0, x1, x2, x3, x4, x5, x6, x7, x8, rfl⟩ := len9 hlen
   have hG := hI.1
   replace hI := hI.2
   have f0 := hide hI.1
   replace hI := hI.2
   have f1 := hide hI.1
   replace hI := hI.2
   have f2 := hide hI.1
   replace hI := hI.2
   have f3 := hide hI.1
   replace hI := hI.2
   have f4 := hide hI.1
   replace hI := hI.2
   have f5 := hide hI.1
   replace hI := hI.2
   have f6 := hide hI.1
   replace hI := hI.2
   have f7 := hide hI.1
   replace hI := hI.2
   have f8 := hide hI
   clear hI
   have bM' := hG.blk bM6 hMR
   have m1 := bM'.cell 1 rfl
   try simp only [puts, Act.put, List.setIfInBounds_toArray, List.set_cons_zero, List.set_cons_succ]
   try go_simp
   exact hK.out _ _ _ (by simp only [puts, Act.put, List.setIfInBounds_toArray, List.set_cons_zero, List.set_cons_succ] <;> rfl) ⟨hG, (fun _ => rfl), (fun h => f1.out h), (fun h => f2.out h), (fun h => f3.out h), (fun h => f4.out h), (fun h => f5.out h), (fun h => f6.out h), (fun h => f7.out h), (fun h => f8.out h)⟩
  ·intro L vs W hlen hL hD hI K hK
   obtain ⟨x0, x1, x2, x3, x4, x5, x6, x7, x8, rfl⟩ := len9 hlen
   have hG := hI.1
   replace hI := hI.2
   have f0 := hide hI.1
   replace hI := hI.2
   have f1 := hide hI.1
   replace hI := hI.2
   have f2 := hide hI.1
   replace hI := hI.2
   have f3 := hide hI.1
   replace hI := hI.2
   have f4 := hide hI.1
   replace hI := hI.2
   have f5 := hide hI.1
   replace hI := hI.2
   have f6 := hide hI.1
   replace hI := hI.2
   have f7 := hide hI.1
   replace hI := hI.2
   have f8 := hide hI
   clear hI
   have bM' := hG.blk bM6 hMR
   have m1 := bM'.cell 1 rfl
   obtain rfl := f0.out (hD.on 0 (by kernel_rfl))
   try simp only [puts, Act.put, List.setIfInBounds_toArray, List.set_cons_zero, List.set_cons_succ]
   have h8 : L 8 = false := Bool.eq_false_iff.2 (fun h => absurd ((f8.out h).symm.trans hL) (by decide))
   have hG8 := hG
   rw [h8] at hG8
   have r0 := hG8.box.cell 1 rfl
   go_simp
   exact hK.out _ _ _ (by simp only [puts, Act.put, List.setIfInBounds_toArray, List.set_cons_zero, List.set_cons_succ] <;> rfl) ⟨hG, (fun h => f0.out h), (fun _ => rfl), (fun h => f2.out h), (fun h => f3.out h), (fun h => f4.out h), (fun h => (fun h => ⟨rfl, h.2⟩) (f5.out h)), (fun h => (fun h => ⟨rfl, h.2⟩) (f6.out h)), (fun h => f7.out h), (fun h => (fun _ => rfl) (f8.out h))⟩
  ·intro L vs W hlen hL hD hI K hK
   obtain ⟨x0, x1, x2, x3, x4, x5, x6, x7, x8, rfl⟩ := len9 hlen
   have hG := hI.1
   replace hI := hI.2
   have f0 := hide hI.1
   replace hI := hI.2
   have f1 := hide hI.1
   replace hI := hI.2
   have f2 := hide hI.1
   replace hI := hI.2
   have f3 := hide hI.1
   replace hI := hI.2
   have f4 := hide hI.1
   replace hI := hI.2
   have f5 := hide hI.1
   replace hI := hI.2
   have f6 := hide hI.1
   replace hI := hI.2
   have f7 := hide hI.1
   replace hI := hI.2
   have f8 := hide hI
   clear hI
   have bM' := hG.blk bM6 hMR
   have m1 := bM'.cell 1 rfl
   try simp only [puts, Act.put, List.setIfInBounds_toArray, List.set_cons_zero, List.set_cons_succ]
   try go_simp
   exact hK.out _ _ _ (by simp only [puts, Act.put, List.setIfInBounds_toArray, List.set_cons_zero, List.set_cons_succ] <;> rfl) ⟨hG, (fun h => f0.out h), (fun h => f1.out h), (fun _ => rfl), (fun h => f3.out h), (fun h => f4.out h), (fun h => f5.out h), (fun h => f6.out h), (fun h => f7.out h), (fun h => f8.out h)⟩
  ·intro L vs W hlen hL hD hI K hK
   obtain ⟨x0, x1, x2, x3, x4, x5, x6, x7, x8, rfl⟩ := len9 hlen
   have hG := hI.1
   replace hI := hI.2
   have f0 := hide hI.1
   replace hI := hI.2
   have f1 := hide hI.1
   replace hI := hI.2
   have f2 := hide hI.1
   replace hI := hI.2
   have f3 := hide hI.1
   replace hI := hI.2
   have f4 := hide hI.1
   replace hI := hI.2
   have f5 := hide hI.1
   replace hI := hI.2
   have f6 := hide hI.1
   replace hI := hI.2
   have f7 := hide hI.1
   replace hI := hI.2
   have f8 := hide hI
   clear hI
   have bM' := hG.blk bM6 hMR
   have m1 := bM'.cell 1 rfl
   obtain rfl := f2.out (hD.on 2 (by kernel_rfl))
   try simp only [puts, Act.put, List.setIfInBounds_toArray, List.set_cons_zero, List.set_cons_succ]
   try go_simp
   exact hK.out _ _ _ (by simp only [puts, Act.put, List.setIfInBounds_toArray, List.set_cons_zero, List.set_cons_succ] <;> rfl) ⟨hG, (fun h => f0.out h), (fun h => f1.out h), (fun h => f2.out h), (fun _ => rfl), (fun h => f4.out h), (fun h => f5.out h), (fun h => f6.out h), (fun h => f7.out h), (fun h => f8.out h)⟩
  ·intro L vs W hlen hL hD hI K hK
   obtain ⟨x0, x1, x2, x3, x4, x5, x6, x7, x8, rfl⟩ := len9 hlen
   have hG := hI.1
   replace hI := hI.2
   have f0 := hide hI.1
   replace hI := hI.2
   have f1 := hide hI.1
   replace hI := hI.2
   have f2 := hide hI.1
   replace hI := hI.2
   have f3 := hide hI.1
   replace hI := hI.2
   have f4 := hide hI.1
   replace hI := hI.2
   have f5 := hide hI.1
   replace hI := hI.2
   have f6 := hide hI.1
   replace hI := hI.2
   have f7 := hide hI.1
   replace hI := hI.2
   have f8 := hide hI
   clear hI
   have bM' := hG.blk bM6 hMR
   have m1 := bM'.cell 1 rfl
   obtain rfl := f3.out (hD.on 3 (by kernel_rfl))
   try simp only [puts, Act.put, List.setIfInBounds_toArray, List.set_cons_zero, List.set_cons_succ]
   try go_simp
   refine (HP1.out _).mono ?_
   rintro e W' ⟨rfl, hb⟩
   try go_simp
   exact hK.out _ _ _ (by simp only [puts, Act.put, List.setIfInBounds_toArray, List.set_cons_zero, List.set_cons_succ] <;> rfl) ⟨hG.later hb, (fun h => f0.out h), (fun h => f1.out h), (fun h => f2.out h), (fun h => f3.out h), (fun _ => rfl), (fun h => f5.out h), (fun h => f6.out h), (fun h => f7.out h), (fun h => f8.out h)⟩
  ·intro L vs W hlen hL hD hI K hK
   obtain ⟨x0, x1, x2, x3, x4, x5, x6, x7, x8, rfl⟩ := len9 hlen
   have hG := hI.1
   replace hI := hI.2
   have f0 := hide hI.1
   replace hI := hI.2
   have f1 := hide hI.1
   replace hI := hI.2
   have f2 := hide hI.1
   replace hI := hI.2
   have f3 := hide hI.1
   replace hI := hI.2
   have f4 := hide hI.1
   replace hI := hI.2
   have f5 := hide hI.1
   replace hI := hI.2
   have f6 := hide hI.1
   replace hI := hI.2
   have f7 := hide hI.1
   replace hI := hI.2
   have f8 := hide hI
   clear hI
   have bM' := hG.blk bM6 hMR
   have m1 := bM'.cell 1 rfl
   obtain rfl := f1.out (hD.on 1 (by kernel_rfl))
   obtain rfl := f4.out (hD.on 4 (by kernel_rfl))
   try simp only [puts, Act.put, List.setIfInBounds_toArray, List.set_cons_zero, List.set_cons_succ]
   try go_simp
   exact hK.out _ _ _ (by simp only [puts, Act.put, List.setIfInBounds_toArray, List.set_cons_zero, List.set_cons_succ] <;> rfl) ⟨hG, (fun h => f0.out h), (fun h => f1.out h), (fun h => f2.out h), (fun h => f3.out h), (fun h => f4.out h), (fun _ => ⟨hD.on 1 (by kernel_rfl), rfl⟩), (fun h => f6.out h), (fun h => f7.out h), (fun h => f8.out h)⟩
  ·intro L vs W hlen hL hD hI K hK
   obtain ⟨x0, x1, x2, x3, x4, x5, x6, x7, x8, rfl⟩ := len9 hlen
   have hG := hI.1
   replace hI := hI.2
   have f0 := hide hI.1
   replace hI := hI.2
   have f1 := hide hI.1
   replace hI := hI.2
   have f2 := hide hI.1
   replace hI := hI.2
   have f3 := hide hI.1
   replace hI := hI.2
   have f4 := hide hI.1
   replace hI := hI.2
   have f5 := hide hI.1
   replace hI := hI.2
   have f6 := hide hI.1
   replace hI := hI.2
   have f7 := hide hI.1
   replace hI := hI.2
   have f8 := hide hI
   clear hI
   have bM' := hG.blk bM6 hMR
   have m1 := bM'.cell 1 rfl
   have g5 := f5.out (hD.on 5 (by kernel_rfl))
   try simp only [puts, Act.put, List.setIfInBounds_toArray, List.set_cons_zero, List.set_cons_succ]
   obtain rfl := g5.2
   go_simp
   exact hK.out _ _ _ (by simp only [puts, Act.put, List.setIfInBounds_toArray, List.set_cons_zero, List.set_cons_succ] <;> rfl) ⟨hG, (fun h => f0.out h), (fun h => f1.out h), (fun h => f2.out h), (fun h => f3.out h), (fun h => f4.out h), (fun h => f5.out h), (fun _ => ⟨g5.1, rfl⟩), (fun h => f7.out h), (fun h => f8.out h)⟩
  ·intro L vs W hlen hL hD hI K hK
   obtain ⟨x0, x1, x2, x3, x4, x5, x6, x7, x8, rfl⟩ := len9 hlen
   have hG := hI.1
   replace hI := hI.2
   have f0 := hide hI.1
   replace hI := hI.2
   have f1 := hide hI.1
   replace hI := hI.2
   have f2 := hide hI.1
   replace hI := hI.2
   have f3 := hide hI.1
   replace hI := hI.2
   have f4 := hide hI.1
   replace hI := hI.2
   have f5 := hide hI.1
   replace hI := hI.2
   have f6 := hide hI.1
   replace hI := hI.2
   have f7 := hide hI.1
   replace hI := hI.2
   have f8 := hide hI
   clear hI
   have bM' := hG.blk bM6 hMR
   have m1 := bM'.cell 1 rfl
   try simp only [puts, Act.put, List.setIfInBounds_toArray, List.set_cons_zero, List.set_cons_succ]
   try go_simp
   exact hK.out _ _ _ (by simp only [puts, Act.put, List.setIfInBounds_toArray, List.set_cons_zero, List.set_cons_succ] <;> rfl) ⟨hG, (fun h => f0.out h), (fun h => f1.out h), (fun h => f2.out h), (fun h => f3.out h), (fun h => f4.out h), (fun h => f5.out h), (fun h => f6.out h), (fun _ => rfl), (fun h => f8.out h)⟩
  ·intro L vs W hlen hL hD hI K hK
   obtain ⟨x0, x1, x2, x3, x4, x5, x6, x7, x8, rfl⟩ := len9 hlen
   have hG := hI.1
   replace hI := hI.2
   have f0 := hide hI.1
   replace hI := hI.2
   have f1 := hide hI.1
   replace hI := hI.2
   have f2 := hide hI.1
   replace hI := hI.2
   have f3 := hide hI.1
   replace hI := hI.2
   have f4 := hide hI.1
   replace hI := hI.2
   have f5 := hide hI.1
   replace hI := hI.2
   have f6 := hide hI.1
   replace hI := hI.2
   have f7 := hide hI.1
   replace hI := hI.2
   have f8 := hide hI
   clear hI
   have bM' := hG.blk bM6 hMR
   have m1 := bM'.cell 1 rfl
   have g6 := f6.out (hD.on 6 (by kernel_rfl))
   obtain rfl := f7.out (hD.on 7 (by kernel_rfl))
   try simp only [puts, Act.put, List.setIfInBounds_toArray, List.set_cons_zero, List.set_cons_succ]
   obtain rfl := g6.2
   have hG8 := hG
   rw [hL] at hG8
   have z0 := hG8.box.frozen 1
   have z1 := hG8.box.cell 1 rfl
   go_simp
   have hb := Below.refl W.heap.size W
   exact hK.out _ undef _ (by simp only [puts, Act.put, List.setIfInBounds_toArray, List.set_cons_zero, List.set_cons_succ] <;> rfl) ⟨hG8.at1 hR, (fun h => f0.out h), (fun h => f1.out h), (fun h => f2.out h), (fun h => f3.out h), (fun h => f4.out h), (fun h => f5.out h), (fun h => f6.out h), (fun h => f7.out h), (fun _ => g6.1)⟩
 intro L vs W hlen hall hI
 obtain ⟨x0, x1, x2, x3, x4, x5, x6, x7, x8, rfl⟩ := len9 hlen
 have hG := hI.1
 replace hI := hI.2
 have f0 := hide hI.1
 replace hI := hI.2
 have f1 := hide hI.1
 replace hI := hI.2
 have f2 := hide hI.1
 replace hI := hI.2
 have f3 := hide hI.1
 replace hI := hI.2
 have f4 := hide hI.1
 replace hI := hI.2
 have f5 := hide hI.1
 replace hI := hI.2
 have f6 := hide hI.1
 replace hI := hI.2
 have f7 := hide hI.1
 replace hI := hI.2
 have f8 := hide hI
 clear hI
 obtain rfl := f0.out (hall 0 (by decide))
 obtain rfl := f1.out (hall 1 (by decide))
 obtain rfl := f2.out (hall 2 (by decide))
 obtain rfl := f3.out (hall 3 (by decide))
 obtain rfl := f4.out (hall 4 (by decide))
 have g5 := f5.out (hall 5 (by decide))
 have g6 := f6.out (hall 6 (by decide))
 obtain rfl := f7.out (hall 7 (by decide))
 have g8 := f8.out (hall 8 (by decide))
 have hal := hide hall
 clear hall f0 f1 f2 f3 f4 f5 f6 f7 f8
 try simp only [puts, Act.put, List.setIfInBounds_toArray, List.set_cons_zero, List.set_cons_succ]
 rw [hal.out 8 (by decide)] at hG
 have bN7 := hG.done
 have hb47 := hG.hb
 have bM7 := hG.blk bM6 hMR
 have bT7 := hG.blk bT6 hTR
 obtain rfl := g5.2
 obtain rfl := g6.2
 clear hG g5 g6 g8 hal bN bM6
 obtain ⟨W7, hW7⟩ : ∃ Z, Z = W := ⟨_, rfl⟩
 subst hW7
 go_wp2_with fail
 refine wp_region_inv [some 92, some 93, some 94, some 95, some 96, some 97, some 98, some 99, none] (fun L vs W => match vs with | [x0, x1, x2, x3, x4, x5, x6, x7, x8] => (BoxG w4 W7 R 32 [iV tu, iV (dx + s1 - 10), iV dy] [iV tu, iV (dx + s1 - 10), iV (dy + s2 - 10)] (L 8) W) ∧ (L 0 = true → x0 = .pointer (some ⟨R, 2, none⟩)) ∧ (L 1 = true → x1 = iV dy) ∧ (L 2 = true → x2 = .pointer (some ⟨MB, 2, none⟩)) ∧ (L 3 = true → x3 = iV my) ∧ (L 4 = true → x4 = iV s2) ∧ (L 5 = true → L 1 = true ∧ x5 = iV (dy + s2)) ∧ (L 6 = true → L 1 = true ∧ x6 = iV (dy + s2 - 10)) ∧ (L 7 = true → x7 = .pointer (some ⟨R, 2, none⟩)) ∧ (L 8 = true → L 1 = true) | _ => False) [_, _, _, _, _, _, _, _, undef] (by kernel_rfl) (by kernel_rfl) rfl (by simp only [puts, Act.put, List.setIfInBounds_toArray, List.set_cons_zero, List.set_cons_succ] <;> rfl) ?_ ?_ ?_
 ·exact ⟨BoxG.first hb47 bN7, (fun h => by cases h), (fun h => by cases h), (fun h => by cases h), (fun h => by cases h), (fun h => by cases h), (fun h => by cases h), (fun h => by cases h), (fun h => by cases h), (fun h => by cases h)⟩
 ·refine ⟨?_, ?_, ?_, ?_, ?_, ?_, ?_, ?_, ?_, trivial⟩
  ·intro L vs W hlen hL hD hI K hK
   obtain ⟨x0, x1, x2, x3, x4, x5, x6, x7, x8, rfl⟩ := len9 hlen
   have hG := hI.1
   replace hI := hI.2
   have f0 := hide hI.1
   replace hI := hI.2
   have f1 := hide hI.1
   replace hI := hI.2
   have f2 := hide hI.1
   replace hI := hI.2
   have f3 := hide hI.1
   replace hI := hI.2
   have f4 := hide hI.1
   replace hI := hI.2
   have f5 := hide hI.1
   replace hI := hI.2
   have f6 := hide hI.1
   replace hI := hI.2
   have f7 := hide hI.1
   replace hI := hI.2
   have f8 := hide hI
   clear hI
   have bM' := hG.blk bM7 hMR
   have m2 := bM'.cell 2 rfl
   try simp only [puts, Act.put, List.setIfInBounds_toArray, List.set_cons_zero, List.set_cons_succ]
   try go_simp
   exact hK.out _ _ _ (by simp only [puts, Act.put, List.setIfInBounds_toArray, List.set_cons_zero, List.set_cons_succ] <;> rfl) ⟨hG, (fun _ => rfl), (fun h => f1.out h), (fun h => f2.out h), (fun h => f3.out h), (fun h => f4.out h), (fun h => f5.out h), (fun h => f6.out h), (fun h => f7.out h), (fun h => f8.out h)⟩
  ·intro L vs W hlen hL hD hI K hK
   obtain ⟨x0, x1, x2, x3, x4, x5, x6, x7, x8, rfl⟩ := len9 hlen
   have hG := hI.1
   replace hI := hI.2
   have f0 := hide hI.1
   replace hI := hI.2
   have f1 := hide hI.1
   replace hI := hI.2
   have f2 := hide hI.1
   replace hI := hI.2
   have f3 := hide hI.1
   replace hI := hI.2
   have f4 := hide hI.1
   replace hI := hI.2
   have f5 := hide hI.1
   replace hI := hI.2
   have f6 := hide hI.1
   replace hI := hI.2
   have f7 := hide hI.1
   replace hI := hI.2
   have f8 := hide hI
   clear hI
   have bM' := hG.blk bM7 hMR
   have m2 := bM'.cell 2 rfl
   obtain rfl := f0.out (hD.on 0 (by kernel_rfl))
   try simp only [puts, Act.put, List.setIfInBounds_toArray, List.set_cons_zero, List.set_cons_succ]
   have h8 : L 8 = false := Bool.eq_false_iff.2 (fun h => absurd ((f8.out h).symm.trans hL) (by decide))
   have hG8 := hG
   rw [h8] at hG8
   have r0 := hG8.box.cell 2 rfl
   go_simp
   exact hK.out _ _ _ (by simp only [puts, Act.put, List.setIfInBounds_toArray, List.set_cons_zero, List.set_cons_succ] <;> rfl) ⟨hG, (fun h => f0.out h), (fun _ => rfl), (fun h => f2.out h), (fun h => f3.out h), (fun h => f4.out h), (fun h => (fun h => ⟨rfl, h.2⟩) (f5.out h)), (fun h => (fun h => ⟨rfl, h.2⟩) (f6.out h)), (fun h => f7.out h), (fun h => (fun _ => rfl) (f8.out h))⟩
  ·intro L vs W hlen hL hD hI K hK
   obtain ⟨x0, x1, x2, x3, x4, x5, x6, x7, x8, rfl⟩ := len9 hlen
   have hG := hI.1
   replace hI := hI.2
   have f0 := hide hI.1
   replace hI := hI.2
   have f1 := hide hI.1
   replace hI := hI.2
   have f2 := hide hI.1
   replace hI := hI.2
   have f3 := hide hI.1
   replace hI := hI.2
   have f4 := hide hI.1
   replace hI := hI.2
   have f5 := hide hI.1
   replace hI := hI.2
   have f6 := hide hI.1
   replace hI := hI.2
   have f7 := hide hI.1
   replace hI := hI.2
   have f8 := hide hI
   clear hI
   have bM' := hG.blk bM7 hMR
   have m2 := bM'.cell 2 rfl
   try simp only [puts, Act.put, List.setIfInBounds_toArray, List.set_cons_zero, List.set_cons_succ]
   try go_simp
   exact hK.out _ _ _ (by simp only [puts, Act.put, List.setIfInBounds_toArray, List.set_cons_zero, List.set_cons_succ] <;> rfl) ⟨hG, (fun h => f0.out h), (fun h => f1.out h), (fun _ => rfl), (fun h => f3.out h), (fun h => f4.out h), (fun h => f5.out h), (fun h => f6.out h), (fun h => f7.out h), (fun h => f8.out h)⟩
  ·intro L vs W hlen hL hD hI K hK
   obtain ⟨x0, x1, x2, x3, x4, x5, x6, x7, x8, rfl⟩ := len9 hlen
   have hG := hI.1
   replace hI := hI.2
   have f0 := hide hI.1
   replace hI := hI.2
   have f1 := hide hI.1
   replace hI := hI.2
   have f2 := hide hI.1
   replace hI := hI.2
   have f3 := hide hI.1
   replace hI := hI.2
   have f4 := hide hI.1
   replace hI := hI.2
   have f5 := hide hI.1
   replace hI := hI.2
   have f6 := hide hI.1
   replace hI := hI.2
   have f7 := hide hI.1
   replace hI := hI.2
   have f8 := hide hI
   clear hI
   have bM' := hG.blk bM7 hMR
   have m2 := bM'.cell 2 rfl
   obtain rfl := f2.out (hD.on 2 (by kernel_rfl))
   try simp only [puts, Act.put, List.setIfInBounds_toArray, List.set_cons_zero, List.set_cons_succ]
   try go_simp
   exact hK.out _ _ _ (by simp only [puts, Act.put, List.setIfInBounds_toArray, List.set_cons_zero, List.set_cons_succ] <;> rfl) ⟨hG, (fun h => f0.out h), (fun h => f1.out h), (fun h => f2.out h), (fun _ => rfl), (fun h => f4.out h), (fun h => f5.out h), (fun h => f6.out h), (fun h => f7.out h), (fun h => f8.out h)⟩
  ·intro L vs W hlen hL hD hI K hK
   obtain ⟨x0, x1, x2, x3, x4, x5, x6, x7, x8, rfl⟩ := len9 hlen
   have hG := hI.1
   replace hI := hI.2
   have f0 := hide hI.1
   replace hI := hI.2
   have f1 := hide hI.1
   replace hI := hI.2
   have f2 := hide hI.1
   replace hI := hI.2
   have f3 := hide hI.1
   replace hI := hI.2
   have f4 := hide hI.1
   replace hI := hI.2
   have f5 := hide hI.1
   replace hI := hI.2
   have f6 := hide hI.1
   replace hI := hI.2
   have f7 := hide hI.1
   replace hI := hI.2
   have f8 := hide hI
   clear hI
   have bM' := hG.blk bM7 hMR
   have m2 := bM'.cell 2 rfl
   obtain rfl := f3.out (hD.on 3 (by kernel_rfl))
   try simp only [puts, Act.put, List.setIfInBounds_toArray, List.set_cons_zero, List.set_cons_succ]
   try go_simp
   refine (HP2.out _).mono ?_
   rintro e W' ⟨rfl, hb⟩
   try go_simp
   exact hK.out _ _ _ (by simp only [puts, Act.put, List.setIfInBounds_toArray, List.set_cons_zero, List.set_cons_succ] <;> rfl) ⟨hG.later hb, (fun h => f0.out h), (fun h => f1.out h), (fun h => f2.out h), (fun h => f3.out h), (fun _ => rfl), (fun h => f5.out h), (fun h => f6.out h), (fun h => f7.out h), (fun h => f8.out h)⟩
  ·intro L vs W hlen hL hD hI K hK
   obtain ⟨x0, x1, x2, x3, x4, x5, x6, x7, x8, rfl⟩ := len9 hlen
   have hG := hI.1
   replace hI := hI.2
   have f0 := hide hI.1
   replace hI := hI.2
   have f1 := hide hI.1
   replace hI := hI.2
   have f2 := hide hI.1
   replace hI := hI.2
   have f3 := hide hI.1
   replace hI := hI.2
   have f4 := hide hI.1
   replace hI := hI.2
   have f5 := hide hI.1
   replace hI := hI.2
   have f6 := hide hI.1
   replace hI := hI.2
   have f7 := hide hI.1
   replace hI := hI.2
   have f8 := hide hI
   clear hI
   have bM' := hG.blk bM7 hMR
   have m2 := bM'.cell 2 rfl
   obtain rfl := f1.out (hD.on 1 (by kernel_rfl))
   obtain rfl := f4.out (hD.on 4 (by kernel_rfl))
   try simp only [puts, Act.put, List.setIfInBounds_toArray, List.set_cons_zero, List.set_cons_succ]
   try go_simp
   exact hK.out _ _ _ (by simp only [puts, Act.put, List.setIfInBounds_toArray, List.set_cons_zero, List.set_cons_succ] <;> rfl) ⟨hG, (fun h => f0.out h), (fun h => f1.out h), (fun h => f2.out h), (fun h => f3.out h), (fun h => f4.out h), (fun _ => ⟨hD.on 1 (by kernel_rfl), rfl⟩), (fun h => f6.out h), (fun h => f7.out h), (fun h => f8.out h)⟩
  ·intro L vs W hlen hL hD hI K hK
   obtain ⟨x0, x1, x2, x3, x4, x5, x6, x7, x8, rfl⟩ := len9 hlen
   have hG := hI.1
   replace hI := hI.2
   have f0 := hide hI.1
   replace hI := hI.2
   have f1 := hide hI.1
   replace hI := hI.2
   have f2 := hide hI.1
   replace hI := hI.2
   have f3 := hide hI.1
   replace hI := hI.2
   have f4 := hide hI.1
   replace hI := hI.2
   have f5 := hide hI.1
   replace hI := hI.2
   have f6 := hide hI.1
   replace hI := hI.2
   have f7 := hide hI.1
   replace hI := hI.2
   have f8 := hide hI
   clear hI
   have bM' := hG.blk bM7 hMR
   have m2 := bM'.cell 2 rfl
   have g5 := f5.out (hD.on 5 (by kernel_rfl))
   try simp only [puts, Act.put, List.setIfInBounds_toArray, List.set_cons_zero, List.set_cons_succ]
   obtain rfl := g5.2
   go_simp
   exact hK.out _ _ _ (by simp only [puts, Act.put, List.setIfInBounds_toArray, List.set_cons_zero, List.set_cons_succ] <;> rfl) ⟨hG, (fun h => f0.out h), (fun h => f1.out h), (fun h => f2.out h), (fun h => f3.out h), (fun h => f4.out h), (fun h => f5.out h), (fun _ => ⟨g5.1, rfl⟩), (fun h => f7.out h), (fun h => f8.out h)⟩
  ·intro L vs W hlen hL hD hI K hK
   obtain ⟨x0, x1, x2, x3, x4, x5, x6, x7, x8, rfl⟩ := len9 hlen
   have hG := hI.1
   replace hI := hI.2
   have f0 := hide hI.1
   replace hI := hI.2
   have f1 := hide hI.1
   replace hI := hI.2
   have f2 := hide hI.1
   replace hI := hI.2
   have f3 := hide hI.1
   replace hI := hI.2
   have f4 := hide hI.1
   replace hI := hI.2
   have f5 := hide hI.1
   replace hI := hI.2
   have f6 := hide hI.1
   replace hI := hI.2
   have f7 := hide hI.1
   replace hI := hI.2
   have f8 := hide hI
   clear hI
   have bM' := hG.blk bM7 hMR
   have m2 := bM'.cell 2 rfl
   try simp only [puts, Act.put, List.setIfInBounds_toArray, List.set_cons_zero, List.set_cons_succ]
   try go_simp
   exact hK.out _ _ _ (by simp only [puts, Act.put, List.setIfInBounds_toArray, List.set_cons_zero, List.set_cons_succ] <;> rfl) ⟨hG, (fun h => f0.out h), (fun h => f1.out h), (fun h => f2.out h), (fun h => f3.out h), (fun h => f4.out h), (fun h => f5.out h), (fun h => f6.out h), (fun _ => rfl), (fun h => f8.out h)⟩
  ·intro L vs W hlen hL hD hI K hK
   obtain ⟨x0, x1, x2, x3, x4, x5, x6, x7, x8, rfl⟩ := len9 hlen
   have hG := hI.1
   replace hI := hI.2
   have f0 := hide hI.1
   replace hI := hI.2
   have f1 := hide hI.1
   replace hI := hI.2
   have f2 := hide hI.1
   replace hI := hI.2
   have f3 := hide hI.1
   replace hI := hI.2
   have f4 := hide hI.1
   replace hI := hI.2
   have f5 := hide hI.1
   replace hI := hI.2
   have f6 := hide hI.1
   replace hI := hI.2
   have f7 := hide hI.1
   replace hI := hI.2
   have f8 := hide hI
   clear hI
   have bM' := hG.blk bM7 hMR
   have m2 := bM'.cell 2 rfl
   have g6 := f6.out (hD.on 6 (by kernel_rfl))
   obtain rfl := f7.out (hD.on 7 (by kernel_rfl))
   try simp only [puts, Act.put, List.setIfInBounds_toArray, List.set_cons_zero, List.set_cons_succ]
   obtain rfl := g6.2
   have hG8 := hG
   rw [hL] at hG8
   have z0 := hG8.box.frozen 2
   have z1 := hG8.box.cell 2 rfl
   go_simp
   have hb := Below.refl W.heap.size W
   exact hK.out _ undef _ (by simp only [puts, Act.put, List.setIfInBounds_toArray, List.set_cons_zero, List.set_cons_succ] <;> rfl) ⟨hG8.at2 hR, (fun h => f0.out h), (fun h => f1.out h), (fun h => f2.out h), (fun h => f3.out h), (fun h => f4.out h), (fun h => f5.out h), (fun h => f6.out h), (fun h => f7.out h), (fun _ => g6.1)⟩
 intro L vs W hlen hall hI
 obtain ⟨x0, x1, x2, x3, x4, x5, x6, x7, x8, rfl⟩ := len9 hlen
 have hG := hI.1
 replace hI := hI.2
 have f0 := hide hI.1
 replace hI := hI.2
 have f1 := hide hI.1
 replace hI := hI.2
 have f2 := hide hI.1
 replace hI := hI.2
 have f3 := hide hI.1
 replace hI := hI.2
 have f4 := hide hI.1
 replace hI := hI.2
 have f5 := hide hI.1
 replace hI := hI.2
 have f6 := hide hI.1
 replace hI := hI.2
 have f7 := hide hI.1
 replace hI := hI.2
 have f8 := hide hI
 clear hI
 obtain rfl := f0.out (hall 0 (by decide))
 obtain rfl := f1.out (hall 1 (by decide))
 obtain rfl := f2.out (hall 2 (by decide))
 obtain rfl := f3.out (hall 3 (by decide))
 obtain rfl := f4.out (hall 4 (by decide))
 have g5 := f5.out (hall 5 (by decide))
 have g6 := f6.out (hall 6 (by decide))
 obtain rfl := f7.out (hall 7 (by decide))
 have g8 := f8.out (hall 8 (by decide))
 have hal := hide hall
 clear hall f0 f1 f2 f3 f4 f5 f6 f7 f8
 try simp only [puts, Act.put, List.setIfInBounds_toArray, List.set_cons_zero, List.set_cons_succ]
 rw [hal.out 8 (by decide)] at hG
 have bN8 := hG.done
 have hb48 := hG.hb
 have bM8 := hG.blk bM7 hMR
 have bT8 := hG.blk bT7 hTR
 obtain rfl := g5.2
 obtain rfl := g6.2
 clear hG g5 g6 g8 hal bN7 bM7 u6 u7 u8 u9
 obtain ⟨W8, hW8⟩ : ∃ Z, Z = W := ⟨_, rfl⟩
 subst hW8
 have hb28 := below2 (below2 hb3 hb4) hb48
 have hbw8 := hbw2.trans (hb28.mono hbw2.size)
 have hG8 := hG0.later hbw8
 have A8 := DA.below hb28
 have B8 := DB.below hb28
 have C8 := DC.below (below2 hb4 hb48)
 have D8 := DD.below hb48
 have R8 : DotsAt W8 (.slice ra nr rc) RW := RecIn.keeps (keeps_of_below hbw8) DR
 have T8 := ht.below hbw8
 go_wp2_with fail
 generalize hXX : World.alloc W8 _ = W9
 have hb9 : Below W8.heap.size W8 W9 := by rw [← hXX]; exact bal W8 _
 have bP : Blk W9 W8.heap.size [.slice aa A.length ac, .slice ba B.length bc, .slice ca C.length cc, .slice ba B.length bc, .slice ba B.length bc, .slice da D.length dc, .slice ra nr rc, .slice aa A.length ac, .slice ra nr rc, .slice ra nr rc] 39 := by rw [← hXX]; exact Blk.newA W8 _ rfl
 have hbw9 := below2 hbw8 hb9
 have HPQ : Hid (∀ i, i < 5 → ∃ pa P pc qa Q qc, W9.cell? ⟨W8.heap.size, i * 2, none⟩ = some (.slice pa (List.length P) pc) ∧ W9.cell? ⟨W8.heap.size, i * 2 + 1, none⟩ = some (.slice qa (List.length Q) qc) ∧ DotsAt W9 (.slice pa (List.length P) pc) P ∧ DotsAt W9 (.slice qa (List.length Q) qc) Q ∧ P.length ≤ 100 ∧ Q.length ≤ 100) := hide (fun i hi => by
  have R9 := R8.below hb9
  rw [← HRL.out] at R9 bP
  match i, hi with
  | 0, _ => exact ⟨aa, A, ac, ba, B, bc, bP.cell 0 rfl, bP.cell 1 rfl, A8.below hb9, B8.below hb9, by omega, by omega⟩
  | 1, _ => exact ⟨ca, C, cc, ba, B, bc, bP.cell 2 rfl, bP.cell 3 rfl, C8.below hb9, B8.below hb9, by omega, by omega⟩
  | 2, _ => exact ⟨ba, B, bc, da, D, dc, bP.cell 4 rfl, bP.cell 5 rfl, B8.below hb9, D8.below hb9, by omega, by omega⟩
  | 3, _ => exact ⟨ra, RW, rc, aa, A, ac, bP.cell 6 rfl, bP.cell 7 rfl, R9, A8.below hb9, by have := HRL.out; omega, by omega⟩
  | 4, _ => exact ⟨ra, RW, rc, ra, RW, rc, bP.cell 8 rfl, bP.cell 9 rfl, R9, R9, by have := HRL.out; omega, by have := HRL.out; omega⟩)
 have T9 := T8.below hb9
 have hG9 := hG8.later hb9
 have bM9 := (bM8.later hb9)
 have bT9 := bT8.later hb9
 have bN9 := (bN8.later hb9)
 generalize W8.heap.size = PB at *
 clear hXX bP A8 B8 C8 D8 R8 T8 hcl1 hcl2 hb9
 go_loopw [117] (fun i wr => ∃ k : Nat, k ≤ 5 ∧ i = .int .i64 k ∧ Below W9.heap.size W9 wr) (fun i _ => 5 - (intOf i).toNat)
 case atStart => exact ⟨0, by omega, rfl, Below.refl _ _⟩
 case round =>
  obtain ⟨k, hk, rfl, hbr⟩ := hrel
  by_cases hlt : k < 5
  ·have hk5 : decide ((k : Int) < 5) = true := by simp; omega
   obtain ⟨pa, P, pc, qa, Q, qc, c0, c1, DP, DQ, hPl, hQl⟩ := HPQ.out k hlt
   replace c0 := keep hbr c0
   replace c1 := keep hbr c1
   go_wp2_with fail
   generalize hXX : World.alloc wr _ = W10
   have hb10 : Below wr.heap.size wr W10 := by rw [← hXX]; exact bal wr _
   have bX : Blk W10 wr.heap.size [.slice pa P.length pc, .slice qa Q.length qc] 39 := by rw [← hXX]; exact Blk.newA wr _ rfl
   have hb910 := below2 hbr hb10
   generalize wr.heap.size = PX at *
   clear hXX c0 c1
   have HF1 := hide (fun (W : World) (hb : Below W9.heap.size W9 W) => fits_any P Q _ _ W (DP.below hb) (DQ.below hb) (hG9.later hb))
   have HF2 := hide (fun (W : World) (hb : Below W9.heap.size W9 W) => rfits_any P Q _ _ W (DP.below hb) (DQ.below hb))
   have HB1 := hide (fun (W : World) (hb : Below W9.heap.size W9 W) => blame_any P Q _ _ W (DP.below hb) (DQ.below hb) (hG9.later hb))
   have HB2 := hide (fun (W : World) (hb : Below W9.heap.size W9 W) => rblame_any P Q _ _ W (DP.below hb) (DQ.below hb))
   have HV1 := hide (fun (W : World) (hb : Below W9.heap.size W9 W) => rvalid_any P _ W (DP.below hb))
   have HV2 := hide (fun (W : World) (hb : Below W9.heap.size W9 W) => refvalid_any P _ W (DP.below hb))
   have HG1 := hide (fun (m : MotD) (W : World) (hb : Below W9.heap.size W9 W) => fitting_any P Q _ _ m W (DP.below hb) (DQ.below hb) (hG9.later hb))
   have HG2 := hide (fun (m : MotD) (W : World) (hb : Below W9.heap.size W9 W) => rfitting_any P Q _ _ m W (DP.below hb) (DQ.below hb))
   have HJ1 := hide (fun (z : Int) (W : World) (hb : Below W9.heap.size W9 W) => judge_any P Q _ _ z W (DP.below hb) (DQ.below hb) (by omega) (by omega) (hG9.later hb))
   have HJ2 := hide (fun (z : Int) (W : World) (hb : Below W9.heap.size W9 W) => rjudge_any P Q _ _ z W (DP.below hb) (DQ.below hb) (by omega))
   refine (HF1.out _ hb910).mono ?_
   rintro e z1 ⟨v1, e1, rfl, ⟨hv1, rfl⟩, hz1⟩
   have F1 := hv1.at
   obtain ⟨f1a, f1c, rfl, -, -, -⟩ := id F1
   have hz91 := below2 hb910 hz1
   have bX1 := bX.later hz1
   have c0 := bX1.cell 0 rfl
   have c1 := bX1.cell 1 rfl
   clear hv1
   go_wp2_with fail
   refine (HF2.out _ hz91).mono ?_
   rintro e z2 ⟨v2, e2, rfl, ⟨hv2, rfl⟩, hz2⟩
   have F2 := hv2.at
   obtain ⟨f2a, f2c, rfl, -, -, -⟩ := id F2
   have hz92 := below2 hz91 hz2
   have bX2 := bX1.later hz2
   clear c0 c1 hv2
   have c0 := bX2.cell 0 rfl
   have c1 := bX2.cell 1 rfl
   go_wp2_with fail
   refine (HB1.out _ hz92).mono ?_
   rintro e z3 ⟨v3, e3, rfl, ⟨hv3, rfl⟩, hz3⟩
   have G1 := hv3.at
   obtain ⟨g1a, g1c, rfl, -, -, -⟩ := id G1
   have hz93 := below2 hz92 hz3
   have bX3 := bX2.later hz3
   clear c0 c1 hv3
   have c0 := bX3.cell 0 rfl
   have c1 := bX3.cell 1 rfl
   go_wp2_with fail
   refine (HB2.out _ hz93).mono ?_
   rintro e z4 ⟨v4, e4, rfl, ⟨hv4, rfl⟩, hz4⟩
   have G2 := hv4.at
   obtain ⟨g2a, g2c, rfl, -, -, -⟩ := id G2
   have hz94 := below2 hz93 hz4
   have bX4 := bX3.later hz4
   have F1z := F1.below (below2 hz2 (below2 hz3 hz4))
   have F2z := F2.below (below2 hz3 hz4)
   have G1z := G1.below hz4
   clear c0 c1 hv4
   have c0 := bwc (bX4.cell 0 rfl)
   have c1 := bwc (bX4.cell 1 rfl)
   have HSM := hide (fun (W : World) (hb : Below z4.heap.size z4 W) => same_any (fitsR P Q) _ _ W (F1z.below hb) (F2z.below hb))
   have HPR := hide (fun (W : World) (hb : Below z4.heap.size z4 W) => pairs_any (blameR P Q) _ _ W (G1z.below hb) (G2.below hb))
   generalize fitsR P Q = FR at *
   generalize errR P Q = ER at *
   generalize blameR P Q = BR at *
   generalize blamed P Q = BL at *
   generalize validD P = VP at *
   go_wp2_with fail
   refine wp_region_bw (by kernel_rfl) (by kernel_rfl) ?_
   repeat (go_big_quiet_step (with_reducible first | exact quiet (HSM.out _ (Bw.h _)) | exact quiet (HPR.out _ (Bw.h _)) | exact quiet (HV1.out _ (below2 hz94 (Bw.h _))) | exact quiet (HV2.out _ (below2 hz94 (Bw.h _)))))
   refine wpQuiet_nil ?_
   rintro _ ⟨i0, rfl⟩
   have hz95 := below2 hz94 i0.h
   have bX5 := bX4.later i0.h
   generalize i0.W = WI at *
   clear c0 c1 F1z F2z G1z F1 F2 G1 G2 HSM HPR HF1 HF2 HB1 HB2 HV1 HV2 bX bX1 bX2 bX3 bX4
   have bM10 := bM9.later hz95
   have bN10 := bN9.later hz95
   have bT10 := bT9.later hz95
   have m0 := bM10.cell 0 rfl
   have m1 := bM10.cell 1 rfl
   have m2 := bM10.cell 2 rfl
   have n0 := bN10.cell 0 rfl
   have n1 := bN10.cell 1 rfl
   have n2 := bN10.cell 2 rfl
   have t0 := (bT10).cell 0 rfl
   have t1 := (bT10).cell 1 rfl
   have t2 := (bT10).cell 2 rfl
   have t3 := (bT10).cell 3 rfl
   have t4 := (bT10).cell 4 rfl
   have t5 := (bT10).cell 5 rfl
   have t6 := (bT10).cell 6 rfl
   go_wp2_with fail
   refine wp_region_inv [some 182, some 183, some 184, some 185, some 186, some 187, some 188] (fun L vs W => match vs with | [x0, x1, x2, x3, x4, x5, x6] => (Below WI.heap.size WI W) ∧ (L 0 = true → x0 = .agg #[iV mt, iV mx, iV my]) ∧ (L 1 = true → x1 = .agg #[iV tu, iV (dx + s1 - 10), iV (dy + s2 - 10)]) ∧ (L 2 = true → x2 = truthV (.slice ma t.marks.length mc) (.slice fa t.finds.length fc) (.slice ta t.tols.length tc) (.slice ea t.errs.length ec) t) ∧ (L 3 = true → x3 = .agg #[iV tu, iV dx, iV dy]) ∧ (L 4 = true → ∃ b0 : Nat, WI.heap.size ≤ b0 ∧ x4 = .slice (some ⟨b0, 0, none⟩) 3 3 ∧ Blk W b0 [iV mt, iV mx, iV my, iV tu, iV (dx + s1 - 10), iV (dy + s2 - 10), iV tu, iV dx, iV dy] 32) ∧ (L 5 = true → x5 = .int .i64 3) ∧ (L 6 = true → x6 = .int .i64 0) | _ => False) [_, _, _, _, _, _, _] (by kernel_rfl) (by kernel_rfl) rfl (by simp only [puts, Act.put, List.setIfInBounds_toArray, List.set_cons_zero, List.set_cons_succ] <;> rfl) ?_ ?_ ?_
   ·exact ⟨(Below.refl _ _).drew, (fun h => by cases h), (fun h => by cases h), (fun h => by cases h), (fun h => by cases h), (fun h => by cases h), (fun h => by cases h), (fun h => by cases h)⟩
   ·refine ⟨?_, ?_, ?_, ?_, ?_, ?_, ?_, trivial⟩
    ·intro L vs W hlen hL hD hI K hK
     obtain ⟨x0, x1, x2, x3, x4, x5, x6, rfl⟩ := len7 hlen
     have hG := hI.1
     replace hI := hI.2
     have f0 := hide hI.1
     replace hI := hI.2
     have f1 := hide hI.1
     replace hI := hI.2
     have f2 := hide hI.1
     replace hI := hI.2
     have f3 := hide hI.1
     replace hI := hI.2
     have f4 := hide hI.1
     replace hI := hI.2
     have f5 := hide hI.1
     replace hI := hI.2
     have f6 := hide hI
     clear hI
     have m0 := keep hG m0
     have m1 := keep hG m1
     have m2 := keep hG m2
     have n0 := keep hG n0
     have n1 := keep hG n1
     have n2 := keep hG n2
     have t0 := keep hG t0
     have t1 := keep hG t1
     have t2 := keep hG t2
     have t3 := keep hG t3
     have t4 := keep hG t4
     have t5 := keep hG t5
     have t6 := keep hG t6
     try simp only [puts, Act.put, List.setIfInBounds_toArray, List.set_cons_zero, List.set_cons_succ]
     try go_simp
     exact hK.out _ _ _ (by simp only [puts, Act.put, List.setIfInBounds_toArray, List.set_cons_zero, List.set_cons_succ] <;> rfl) ⟨hG, (fun _ => rfl), (fun h => f1.out h), (fun h => f2.out h), (fun h => f3.out h), (fun h => f4.out h), (fun h => f5.out h), (fun h => f6.out h)⟩
    ·intro L vs W hlen hL hD hI K hK
     obtain ⟨x0, x1, x2, x3, x4, x5, x6, rfl⟩ := len7 hlen
     have hG := hI.1
     replace hI := hI.2
     have f0 := hide hI.1
     replace hI := hI.2
     have f1 := hide hI.1
     replace hI := hI.2
     have f2 := hide hI.1
     replace hI := hI.2
     have f3 := hide hI.1
     replace hI := hI.2
     have f4 := hide hI.1
     replace hI := hI.2
     have f5 := hide hI.1
     replace hI := hI.2
     have f6 := hide hI
     clear hI
     have m0 := keep hG m0
     have m1 := keep hG m1
     have m2 := keep hG m2
     have n0 := keep hG n0
     have n1 := keep hG n1
     have n2 := keep hG n2
     have t0 := keep hG t0
     have t1 := keep hG t1
     have t2 := keep hG t2
     have t3 := keep hG t3
     have t4 := keep hG t4
     have t5 := keep hG t5
     have t6 := keep hG t6
     try simp only [puts, Act.put, List.setIfInBounds_toArray, List.set_cons_zero, List.set_cons_succ]
     try go_simp
     exact hK.out _ _ _ (by simp only [puts, Act.put, List.setIfInBounds_toArray, List.set_cons_zero, List.set_cons_succ] <;> rfl) ⟨hG, (fun h => f0.out h), (fun _ => rfl), (fun h => f2.out h), (fun h => f3.out h), (fun h => f4.out h), (fun h => f5.out h), (fun h => f6.out h)⟩
    ·intro L vs W hlen hL hD hI K hK
     obtain ⟨x0, x1, x2, x3, x4, x5, x6, rfl⟩ := len7 hlen
     have hG := hI.1
     replace hI := hI.2
     have f0 := hide hI.1
     replace hI := hI.2
     have f1 := hide hI.1
     replace hI := hI.2
     have f2 := hide hI.1
     replace hI := hI.2
     have f3 := hide hI.1
     replace hI := hI.2
     have f4 := hide hI.1
     replace hI := hI.2
     have f5 := hide hI.1
     replace hI := hI.2
     have f6 := hide hI
     clear hI
     have m0 := keep hG m0
     have m1 := keep hG m1
     have m2 := keep hG m2
     have n0 := keep hG n0
     have n1 := keep hG n1
     have n2 := keep hG n2
     have t0 := keep hG t0
     have t1 := keep hG t1
     have t2 := keep hG t2
     have t3 := keep hG t3
     have t4 := keep hG t4
     have t5 := keep hG t5
     have t6 := keep hG t6
     try simp only [puts, Act.put, List.setIfInBounds_toArray, List.set_cons_zero, List.set_cons_succ]
     try go_simp
     exact hK.out _ _ _ (by simp only [puts, Act.put, List.setIfInBounds_toArray, List.set_cons_zero, List.set_cons_succ] <;> rfl) ⟨hG, (fun h => f0.out h), (fun h => f1.out h), (fun _ => rfl), (fun h => f3.out h), (fun h => f4.out h), (fun h => f5.out h), (fun h => f6.out h)⟩
    ·intro L vs W hlen hL hD hI K hK
     obtain ⟨x0, x1, x2, x3, x4, x5, x6, rfl⟩ := len7 hlen
     have hG := hI.1
     replace hI := hI.2
     have f0 := hide hI.1
     replace hI := hI.2
     have f1 := hide hI.1
     replace hI := hI.2
     have f2 := hide hI.1
     replace hI := hI.2
     have f3 := hide hI.1
     replace hI := hI.2
     have f4 := hide hI.1
     replace hI := hI.2
     have f5 := hide hI.1
     replace hI := hI.2
     have f6 := hide hI
     clear hI
     have m0 := keep hG m0
     have m1 := keep hG m1
     have m2 := keep hG m2
     have n0 := keep hG n0
     have n1 := keep hG n1
     have n2 := keep hG n2
     have t0 := keep hG t0
     have t1 := keep hG t1
     have t2 := keep hG t2
     have t3 := keep hG t3
     have t4 := keep hG t4
     have t5 := keep hG t5
     have t6 := keep hG t6
     obtain rfl := f2.out (hD.on 2 (by kernel_rfl))
     try simp only [puts, Act.put, List.setIfInBounds_toArray, List.set_cons_zero, List.set_cons_succ]
     try go_simp
     refine (HWY.out _).mono ?_
     rintro e W' ⟨rfl, hb⟩
     try go_simp
     exact hK.out _ _ _ (by simp only [puts, Act.put, List.setIfInBounds_toArray, List.set_cons_zero, List.set_cons_succ] <;> rfl) ⟨below2 hG hb, (fun h => f0.out h), (fun h => f1.out h), (fun h => f2.out h), (fun _ => rfl), (fun h => (fun h => let ⟨b0, a1, a2, a3⟩ := h; ⟨b0, a1, a2, a3.later hb⟩) (f4.out h)), (fun h => f5.out h), (fun h => f6.out h)⟩
    ·intro L vs W hlen hL hD hI K hK
     obtain ⟨x0, x1, x2, x3, x4, x5, x6, rfl⟩ := len7 hlen
     have hG := hI.1
     replace hI := hI.2
     have f0 := hide hI.1
     replace hI := hI.2
     have f1 := hide hI.1
     replace hI := hI.2
     have f2 := hide hI.1
     replace hI := hI.2
     have f3 := hide hI.1
     replace hI := hI.2
     have f4 := hide hI.1
     replace hI := hI.2
     have f5 := hide hI.1
     replace hI := hI.2
     have f6 := hide hI
     clear hI
     have m0 := keep hG m0
     have m1 := keep hG m1
     have m2 := keep hG m2
     have n0 := keep hG n0
     have n1 := keep hG n1
     have n2 := keep hG n2
     have t0 := keep hG t0
     have t1 := keep hG t1
     have t2 := keep hG t2
     have t3 := keep hG t3
     have t4 := keep hG t4
     have t5 := keep hG t5
     have t6 := keep hG t6
     obtain rfl := f0.out (hD.on 0 (by kernel_rfl))
     obtain rfl := f1.out (hD.on 1 (by kernel_rfl))
     obtain rfl := f3.out (hD.on 3 (by kernel_rfl))
     try simp only [puts, Act.put, List.setIfInBounds_toArray, List.set_cons_zero, List.set_cons_succ]
     try go_simp
     generalize hW' : World.alloc W _ = W'
     have hb : Below W.heap.size W W' := by rw [← hW']; exact bal W _
     exact hK.out _ _ _ (by simp only [puts, Act.put, List.setIfInBounds_toArray, List.set_cons_zero, List.set_cons_succ] <;> rfl) ⟨below2 hG hb, (fun h => f0.out h), (fun h => f1.out h), (fun h => f2.out h), (fun h => f3.out h), (fun _ => ⟨W.heap.size, hG.size, rfl, by rw [← hW']; exact Blk.newA W _ rfl⟩), (fun h => f5.out h), (fun h => f6.out h)⟩
    ·intro L vs W hlen hL hD hI K hK
     obtain ⟨x0, x1, x2, x3, x4, x5, x6, rfl⟩ := len7 hlen
     have hG := hI.1
     replace hI := hI.2
     have f0 := hide hI.1
     replace hI := hI.2
     have f1 := hide hI.1
     replace hI := hI.2
     have f2 := hide hI.1
     replace hI := hI.2
     have f3 := hide hI.1
     replace hI := hI.2
     have f4 := hide hI.1
     replace hI := hI.2
     have f5 := hide hI.1
     replace hI := hI.2
     have f6 := hide hI
     clear hI
     have m0 := keep hG m0
     have m1 := keep hG m1
     have m2 := keep hG m2
     have n0 := keep hG n0
     have n1 := keep hG n1
     have n2 := keep hG n2
     have t0 := keep hG t0
     have t1 := keep hG t1
     have t2 := keep hG t2
     have t3 := keep hG t3
     have t4 := keep hG t4
     have t5 := keep hG t5
     have t6 := keep hG t6
     have g4 := f4.out (hD.on 4 (by kernel_rfl))
     try simp only [puts, Act.put, List.setIfInBounds_toArray, List.set_cons_zero, List.set_cons_succ]
     obtain ⟨b0, hb0, rfl, hB0⟩ := g4
     go_simp
     exact hK.out _ _ _ (by simp only [puts, Act.put, List.setIfInBounds_toArray, List.set_cons_zero, List.set_cons_succ] <;> rfl) ⟨hG, (fun h => f0.out h), (fun h => f1.out h), (fun h => f2.out h), (fun h => f3.out h), (fun h => f4.out h), (fun _ => rfl), (fun h => f6.out h)⟩
    ·intro L vs W hlen hL hD hI K hK
     obtain ⟨x0, x1, x2, x3, x4, x5, x6, rfl⟩ := len7 hlen
     have hG := hI.1
     replace hI := hI.2
     have f0 := hide hI.1
     replace hI := hI.2
     have f1 := hide hI.1
     replace hI := hI.2
     have f2 := hide hI.1
     replace hI := hI.2
     have f3 := hide hI.1
     replace hI := hI.2
     have f4 := hide hI.1
     replace hI := hI.2
     have f5 := hide hI.1
     replace hI := hI.2
     have f6 := hide hI
     clear hI
     have m0 := keep hG m0
     have m1 := keep hG m1
     have m2 := keep hG m2
     have n0 := keep hG n0
     have n1 := keep hG n1
     have n2 := keep hG n2
     have t0 := keep hG t0
     have t1 := keep hG t1
     have t2 := keep hG t2
     have t3 := keep hG t3
     have t4 := keep hG t4
     have t5 := keep hG t5
     have t6 := keep hG t6
     try simp only [puts, Act.put, List.setIfInBounds_toArray, List.set_cons_zero, List.set_cons_succ]
     try go_simp
     exact hK.out _ _ _ (by simp only [puts, Act.put, List.setIfInBounds_toArray, List.set_cons_zero, List.set_cons_succ] <;> rfl) ⟨hG, (fun h => f0.out h), (fun h => f1.out h), (fun h => f2.out h), (fun h => f3.out h), (fun h => f4.out h), (fun h => f5.out h), (fun _ => rfl)⟩
   intro L vs W hlen hall hI
   obtain ⟨x0, x1, x2, x3, x4, x5, x6, rfl⟩ := len7 hlen
   have hG := hI.1
   replace hI := hI.2
   have f0 := hide hI.1
   replace hI := hI.2
   have f1 := hide hI.1
   replace hI := hI.2
   have f2 := hide hI.1
   replace hI := hI.2
   have f3 := hide hI.1
   replace hI := hI.2
   have f4 := hide hI.1
   replace hI := hI.2
   have f5 := hide hI.1
   replace hI := hI.2
   have f6 := hide hI
   clear hI
   obtain rfl := f0.out (hall 0 (by decide))
   obtain rfl := f1.out (hall 1 (by decide))
   obtain rfl := f2.out (hall 2 (by decide))
   obtain rfl := f3.out (hall 3 (by decide))
   have g4 := f4.out (hall 4 (by decide))
   obtain rfl := f5.out (hall 5 (by decide))
   obtain rfl := f6.out (hall 6 (by decide))
   have hal := hide hall
   clear hall f0 f1 f2 f3 f4 f5 f6
   try simp only [puts, Act.put, List.setIfInBounds_toArray, List.set_cons_zero, List.set_cons_succ]
   obtain ⟨mb, hmb, rfl, hMB⟩ := g4
   obtain ⟨WY, hWY⟩ : ∃ Z, Z = W := ⟨_, rfl⟩
   subst hWY
   have hz96 := below2 hz95 hG
   have bX6 := bX5.later hG
   have HMS : Hid (∀ i, i < 3 → ∃ q : MotD, WY.cell? ⟨mb, i * 3, none⟩ = some (iV q.turn) ∧ WY.cell? ⟨mb, i * 3 + 1, none⟩ = some (iV q.dx) ∧ WY.cell? ⟨mb, i * 3 + 2, none⟩ = some (iV q.dy)) := hide (fun i hi => by
    match i, hi with
    | 0, _ => exact ⟨⟨mt, mx, my⟩, hMB.cell 0 rfl, hMB.cell 1 rfl, hMB.cell 2 rfl⟩
    | 1, _ => exact ⟨⟨tu, dx + s1 - 10, dy + s2 - 10⟩, hMB.cell 3 rfl, hMB.cell 4 rfl, hMB.cell 5 rfl⟩
    | 2, _ => exact ⟨⟨tu, dx, dy⟩, hMB.cell 6 rfl, hMB.cell 7 rfl, hMB.cell 8 rfl⟩)
   clear hal m0 m1 m2 n0 n1 n2 t0 t1 t2 t3 t4 t5 t6 hG hMB
   go_wp2_with fail
   go_loopw [188] (fun i wr => ∃ g : Nat, g ≤ 3 ∧ i = .int .i64 g ∧ Below WY.heap.size WY wr) (fun i _ => 3 - (intOf i).toNat)
   case atStart => exact ⟨0, by omega, rfl, Below.refl _ _⟩
   case round =>
    obtain ⟨g, hg, rfl, hbg⟩ := hrel
    by_cases hltg : g < 3
    ·have hg3 : decide ((g : Int) < 3) = true := by simp; omega
     obtain ⟨q, k0, k1, k2⟩ := HMS.out g hltg
     replace k0 := keep hbg k0
     replace k1 := keep hbg k1
     replace k2 := keep hbg k2
     have HQ1 := hide (fun (W : World) hb => HG1.out q W hb)
     have HQ2 := hide (fun (W : World) hb => HG2.out q W hb)
     generalize fittingD P Q q = ph at *
     obtain ⟨q1', q2', q3'⟩ := q
     dsimp only at k0 k1 k2
     go_wp2_with fail
     generalize hXX : World.alloc wr _ = W11
     have hb11 : Below wr.heap.size wr W11 := by rw [← hXX]; exact bal wr _
     have bQ : Blk W11 wr.heap.size [iV q1', iV q2', iV q3'] 32 := by rw [← hXX]; exact Blk.newA wr _ rfl
     have hbg2 := below2 hbg hb11
     have hz97 := below2 hz96 hbg2
     have bX7 := bX6.later hbg2
     generalize wr.heap.size = QB at *
     clear hXX k0 k1 k2
     have c0 := bwc (bX7.cell 0 rfl)
     have c1 := bwc (bX7.cell 1 rfl)
     have r0 := bwc (bQ.cell 0 rfl)
     have r1 := bwc (bQ.cell 1 rfl)
     have r2 := bwc (bQ.cell 2 rfl)
     refine wp_region_bw (by kernel_rfl) (by kernel_rfl) ?_
     repeat (go_big_quiet_step (with_reducible first | exact quiet (HQ1.out _ (below2 hz97 (Bw.h _))) | exact quiet (HQ2.out _ (below2 hz97 (Bw.h _)))))
     refine wpQuiet_nil ?_
     rintro _ ⟨i0, rfl⟩
     have hbg3 := below2 hbg2 i0.h
     go_wp2_with fail
     go_roundw
     case rel => exact ⟨g + 1, by omega, by go_num, hbg3⟩
     case measure => simp [intOf]; omega
    ·obtain rfl : g = 3 := by omega
     go_wp2_with fail
     have DQc := DQ
     obtain ⟨a', n', e, hq1, hq2, hqc⟩ := DQc
     cases e
     have HQC := hide hqc
     clear hqc HG1 HG2 HMS
     have hc3 : ((3 : Nat) : Int) = 3 := rfl
     rw [hc3]
     clear hc3
     go_loopw [33] (fun i wr => ∃ g : Nat, g ≤ Q.length + 1 ∧ i = .int .i64 g ∧ Below WY.heap.size WY wr) (fun i _ => Q.length + 1 - (intOf i).toNat)
     case atStart => exact ⟨0, by omega, rfl, hbg⟩
     case round =>
      obtain ⟨g, hg, rfl, hbg⟩ := hrel
      have bXg := bX6.later hbg
      have hzg := below2 hz96 hbg
      have c0 := bXg.cell 0 rfl
      have c1 := bXg.cell 1 rfl
      by_cases hle : g ≤ Q.length
      ·have hgd : decide ((g : Int) ≤ (Q.length : Int)) = true := by simp; omega
       have hgd2 : decide (g ≤ Q.length) = true := by simpa using hle
       by_cases hlt2 : g < Q.length
       ·have hgl : decide (g < Q.length) = true := by simpa using hlt2
        obtain ⟨bl, o, heq, hck⟩ := HQC.out g hlt2
        subst heq
        have e0 : wr.cell? ⟨bl, o + g * 4, none⟩ = some (iV (Q.getD g dot0).id) := keep hbg (keep hz96 (hck 0 _ rfl))
        generalize (Q.getD g dot0).id = Z at *
        clear hck
        go_wp2_with fail
        have HK1 := hide (fun (W : World) hb => HJ1.out Z W hb)
        have HK2 := hide (fun (W : World) hb => HJ2.out Z W hb)
        generalize judV P Q Z = V at *
        generalize judE P Q Z = EV at *
        obtain ⟨vk, ⟨v1, v2, v3⟩, vp, ⟨v4, v5, v6⟩⟩ := V
        refine (HK1.out _ hzg).mono ?_
        rintro e za ⟨rfl, hza⟩
        have hzg2 := below2 hzg hza
        have bXa := bXg.later hza
        have lXa := bXa.lt
        clear c0 c1
        have c0 := bXa.cell 0 rfl
        have c1 := bXa.cell 1 rfl
        go_wp2_with fail
        generalize hXX : World.alloc za _ = ZA
        have hyA : Below za.heap.size za ZA := by rw [← hXX]; exact bal za _
        have bVA : Blk ZA za.heap.size [iV vk, iV v1, iV v2, iV v3, iV vp, iV v4, iV v5, iV v6] 55 := by rw [← hXX]; exact Blk.newA za _ rfl
        have hzg3 := below2 hzg2 hyA
        have hzaA := below2 hza hyA
        generalize za.heap.size = RVA at *
        clear hXX c0 c1 lXa
        refine (HK2.out _ hzg3).mono ?_
        rintro e zb ⟨rfl, hzb⟩
        have bVB := bVA.later hzb
        have v0 := bVB.cell 0 rfl
        have v1' := bVB.cell 1 rfl
        have v2' := bVB.cell 2 rfl
        have v3' := bVB.cell 3 rfl
        have v4' := bVB.cell 4 rfl
        have v5' := bVB.cell 5 rfl
        have v6' := bVB.cell 6 rfl
        have v7' := bVB.cell 7 rfl
        have lVB := bVB.lt
        have hfin := fun o' => below2 hbg (below2 hzaA (below2 hzb (bal zb o')))
        go_wp2_with fail
        go_roundw
        case rel => exact ⟨g + 1, by omega, by go_num, hfin _⟩
        case measure => simp [intOf]; omega
       ·have hgl : decide (g < Q.length) = false := by simpa using hlt2
        go_wp2_with fail
        have HK1 := hide (fun (W : World) hb => HJ1.out id_ W hb)
        have HK2 := hide (fun (W : World) hb => HJ2.out id_ W hb)
        generalize judV P Q id_ = V at *
        generalize judE P Q id_ = EV at *
        obtain ⟨vk, ⟨v1, v2, v3⟩, vp, ⟨v4, v5, v6⟩⟩ := V
        refine (HK1.out _ hzg).mono ?_
        rintro e za ⟨rfl, hza⟩
        have hzg2 := below2 hzg hza
        have bXa := bXg.later hza
        have lXa := bXa.lt
        clear c0 c1
        have c0 := bXa.cell 0 rfl
        have c1 := bXa.cell 1 rfl
        go_wp2_with fail
        generalize hXX : World.alloc za _ = ZA
        have hyA : Below za.heap.size za ZA := by rw [← hXX]; exact bal za _
        have bVA : Blk ZA za.heap.size [iV vk, iV v1, iV v2, iV v3, iV vp, iV v4, iV v5, iV v6] 55 := by rw [← hXX]; exact Blk.newA za _ rfl
        have hzg3 := below2 hzg2 hyA
        have hzaA := below2 hza hyA
        generalize za.heap.size = RVA at *
        clear hXX c0 c1 lXa
        refine (HK2.out _ hzg3).mono ?_
        rintro e zb ⟨rfl, hzb⟩
        have bVB := bVA.later hzb
        have v0 := bVB.cell 0 rfl
        have v1' := bVB.cell 1 rfl
        have v2' := bVB.cell 2 rfl
        have v3' := bVB.cell 3 rfl
        have v4' := bVB.cell 4 rfl
        have v5' := bVB.cell 5 rfl
        have v6' := bVB.cell 6 rfl
        have v7' := bVB.cell 7 rfl
        have lVB := bVB.lt
        have hfin := fun o' => below2 hbg (below2 hzaA (below2 hzb (bal zb o')))
        go_wp2_with fail
        go_roundw
        case rel => exact ⟨g + 1, by omega, by go_num, hfin _⟩
        case measure => simp [intOf]; omega
      ·have hgd : decide ((g : Int) ≤ (Q.length : Int)) = false := by simp; omega
       have hgd2 : decide (g ≤ Q.length) = false := by simpa using hle
       go_wp2_with fail
       go_roundw
       case rel => exact ⟨k + 1, by omega, by go_num, below2 hz96 hbg⟩
       case measure => simp [intOf]; omega
  ·obtain rfl : k = 5 := by omega
   clear HPQ
   have bM10 := bM9.later hbr
   have bN10 := bN9.later hbr
   have m0 := bM10.cell 0 rfl
   have m1 := bM10.cell 1 rfl
   have m2 := bM10.cell 2 rfl
   have n0 := bN10.cell 0 rfl
   have n1 := bN10.cell 1 rfl
   have n2 := bN10.cell 2 rfl
   go_wp2_with fail
   generalize hXX : World.alloc wr _ = V1
   have hv1 : Below wr.heap.size wr V1 := by rw [← hXX]; exact bal wr _
   have bL : Blk V1 wr.heap.size [iV mt, iV mx, iV my, iV tu, iV (dx + s1 - 10), iV (dy + s2 - 10)] 32 := by rw [← hXX]; exact Blk.newA wr _ rfl
   have h9V := below2 hbr hv1
   generalize wr.heap.size = LB at *
   have HMT : Hid (∀ i, i < 2 → ∃ q : MotD, V1.cell? ⟨LB, i * 3, none⟩ = some (iV q.turn) ∧ V1.cell? ⟨LB, i * 3 + 1, none⟩ = some (iV q.dx) ∧ V1.cell? ⟨LB, i * 3 + 2, none⟩ = some (iV q.dy)) := hide (fun i hi => by
    match i, hi with
    | 0, _ => exact ⟨⟨mt, mx, my⟩, bL.cell 0 rfl, bL.cell 1 rfl, bL.cell 2 rfl⟩
    | 1, _ => exact ⟨⟨tu, dx + s1 - 10, dy + s2 - 10⟩, bL.cell 3 rfl, bL.cell 4 rfl, bL.cell 5 rfl⟩)
   clear hXX m0 m1 m2 n0 n1 n2 bL bM9 bN9 bM10 bN10
   obtain ⟨p31, p32⟩ := p3
   obtain ⟨p41, p42⟩ := p4
   generalize pickR x 10001 = s3 at *
   generalize pickR y 10001 = s4 at *
   have e3 : IntKind.i64.wrap (s3 - 5000) = s3 - 5000 := IntWalk.i64_in _ (by omega)
   have e4 : IntKind.i64.wrap (s4 - 5000) = s4 - 5000 := IntWalk.i64_in _ (by omega)
   have hc5 : ((5 : Nat) : Int) = 5 := rfl
   rw [hc5]
   clear hc5
   go_loopw [256] (fun i wr => ∃ g : Nat, g ≤ 2 ∧ i = .int .i64 g ∧ Below V1.heap.size V1 wr) (fun i _ => 2 - (intOf i).toNat)
   case atStart => exact ⟨0, by omega, rfl, Below.refl _ _⟩
   case round =>
    obtain ⟨g, hg, rfl, hbg⟩ := hrel
    by_cases hltg : g < 2
    ·have hg3 : decide ((g : Int) < 2) = true := by simp; omega
     obtain ⟨q, k0, k1, k2⟩ := HMT.out g hltg
     replace k0 := keep hbg k0
     replace k1 := keep hbg k1
     replace k2 := keep hbg k2
     have HA1 := hide (fun (u v : Int) (W : World) (hb : Below W9.heap.size W9 W) => apply_any q u v W (hG9.later hb))
     have HA2 := hide (fun (u v : Int) (W : World) => rapply_any q u v W)
     have HI1 := hide (fun (W : World) (hb : Below W9.heap.size W9 W) => invert_any q W (hG9.later hb))
     have HI2 := hide (fun (W : World) => rinvert_any q W)
     generalize invD q = QI at *
     generalize applyX q = AX at *
     generalize applyY q = AY at *
     obtain ⟨q1', q2', q3'⟩ := q
     dsimp only at k0 k1 k2
     go_wp2_with fail
     generalize hXX : World.alloc wr _ = V2
     have hv2 : Below wr.heap.size wr V2 := by rw [← hXX]; exact bal wr _
     have bQ : Blk V2 wr.heap.size [iV q1', iV q2', iV q3'] 32 := by rw [← hXX]; exact Blk.newA wr _ rfl
     have hg2 := below2 hbg hv2
     generalize wr.heap.size = QB at *
     clear hXX k0 k1 k2
     go_wp2_with fail
     refine (HPX.out _).mono ?_
     rintro e x3 ⟨rfl, hx3⟩
     go_wp2_with fail
     refine (HPY.out _).mono ?_
     rintro e x4 ⟨rfl, hx4⟩
     have hx24 := below2 hx3 hx4
     go_wp2_with fail
     generalize hXX : World.alloc x4 _ = V3
     have hv3 : Below x4.heap.size x4 V3 := by rw [← hXX]; exact bal x4 _
     have bU : Blk V3 x4.heap.size [iV x, iV y, iV (s3 - 5000), iV (s4 - 5000)] 58 := by rw [← hXX]; exact Blk.newA x4 _ rfl
     have hx25 := below2 hx24 hv3
     have bQ3 := bQ.later hx25
     have hg3' := below2 hg2 hx25
     have h93 := below2 h9V hg3'
     generalize x4.heap.size = UB at *
     have HUT : Hid (∀ i, i < 2 → ∃ u v : Int, V3.cell? ⟨UB, i * 2, none⟩ = some (iV u) ∧ V3.cell? ⟨UB, i * 2 + 1, none⟩ = some (iV v)) := hide (fun i hi => by
      match i, hi with
      | 0, _ => exact ⟨x, y, bU.cell 0 rfl, bU.cell 1 rfl⟩
      | 1, _ => exact ⟨s3 - 5000, s4 - 5000, bU.cell 2 rfl, bU.cell 3 rfl⟩)
     clear hXX bU bQ
     go_loopw [272] (fun i wr => ∃ f : Nat, f ≤ 2 ∧ i = .int .i64 f ∧ Below V3.heap.size V3 wr) (fun i _ => 2 - (intOf i).toNat)
     case atStart => exact ⟨0, by omega, rfl, Below.refl _ _⟩
     case round =>
      obtain ⟨f, hf, rfl, hbf⟩ := hrel
      by_cases hltf : f < 2
      ·have hf3 : decide ((f : Int) < 2) = true := by simp; omega
       obtain ⟨u, v, k0, k1⟩ := HUT.out f hltf
       replace k0 := keep hbf k0
       replace k1 := keep hbf k1
       have bQw := bQ3.later hbf
       have lQ := bQw.lt
       have r0 := bQw.cell 0 rfl
       have r1 := bQw.cell 1 rfl
       have r2 := bQw.cell 2 rfl
       go_wp2_with fail
       generalize hXX : World.alloc wr _ = V4
       have hv4 : Below wr.heap.size wr V4 := by rw [← hXX]; exact bal wr _
       have bP : Blk V4 wr.heap.size [iV u, iV v] 58 := by rw [← hXX]; exact Blk.newA wr _ rfl
       have hf2 := below2 hbf hv4
       have bQ4 := bQ3.later hf2
       have h94 := below2 h93 hf2
       have HB1 := hide (fun (W : World) hb => HA1.out u v W hb)
       have HB2 := hide (fun (W : World) => HA2.out u v W)
       generalize AX u v = ax at *
       generalize AY u v = ay at *
       generalize wr.heap.size = PQB at *
       clear hXX k0 k1 lQ
       refine (HB1.out _ h94).mono ?_
       rintro e z1 ⟨rfl, hz1⟩
       clear r0 r1 r2
       have bQ5 := bQ4.later hz1
       have bP5 := bP.later hz1
       have h95 := below2 h94 hz1
       have r0 := bQ5.cell 0 rfl
       have r1 := bQ5.cell 1 rfl
       have r2 := bQ5.cell 2 rfl
       have c0 := bP5.cell 0 rfl
       have c1 := bP5.cell 1 rfl
       go_wp2_with fail
       refine (HB2.out _).mono ?_
       rintro e z2 ⟨rfl, hz2⟩
       clear r0 r1 r2 c0 c1
       have bQ6 := bQ5.later hz2
       have h96 := below2 h95 hz2
       have hz12 := below2 hz1 hz2
       have r0 := bwc (bQ6.cell 0 rfl)
       have r1 := bwc (bQ6.cell 1 rfl)
       have r2 := bwc (bQ6.cell 2 rfl)
       go_wp2_with fail
       refine wp_region_bw (by kernel_rfl) (by kernel_rfl) ?_
       repeat (go_big_quiet_step (with_reducible first | exact quiet (HI1.out _ (below2 h96 (Bw.h _))) | exact quiet (HI2.out _)))
       refine wpQuiet_nil ?_
       rintro _ ⟨i0, rfl⟩
       have hfin := below2 hf2 (below2 hz12 i0.h)
       go_wp2_with fail
       go_roundw
       case rel => exact ⟨f + 1, by omega, by go_num, hfin⟩
       case measure => simp [intOf]; omega
      ·obtain rfl : f = 2 := by omega
       have hfin := below2 hg3' hbf
       go_wp2_with fail
       go_roundw
       case rel => exact ⟨g + 1, by omega, by go_num, hfin⟩
       case measure => simp [intOf]; omega
    ·obtain rfl : g = 2 := by omega
     go_wp2_with fail
     go_ret
     exact ⟨rfl, below2 hbw9 (below2 h9V hbg)⟩
end Go.Proofs.YtoofkahklboojaaDoor
