/- Register: the walk of RegisterFits. Conditions: how the truth and the global tables lie in memory; that integers are of 64 bits. -/
import Derived.Test.YtoofkahklboojaaDoorRkZS
import Derived.Test.YtoofkahklboojaaDoorRkQ
import Derived.Test.YtoofkahklboojaaDoorRsA
import Derived.Test.YtoofkahklboojaaDoorRhB
import Derived.Test.YtoofkahklboojaaDoorRtC
namespace Go.Proofs.YtoofkahklboojaaDoor
open Go.RowKit

theorem last_id {l : List DotD} (h : validD l = true) : -9223372036854775808 ≤ (l.getD (l.length - 1) dot0).id ∧ (l.getD (l.length - 1) dot0).id < 9223372036854775807 := by
  by_cases hl : l.length = 0
  · have : l = [] := by simpa using hl
    rw [this]; decide
  · have hm := getD_mem l (l.length - 1) (d := dot0) (by omega)
    have := valid_ok h _ hm
    generalize l.getD (l.length - 1) dot0 = p at *
    unfold dotOk at this
    simp at this; omega
/-- a motion near the true one -/
def near2D (m : MotD) (a b c : Int) : MotD := ⟨(m.turn + a) % 4, m.dx + b - 20, m.dy + c - 20⟩

set_option maxRecDepth 100000 in
set_option maxHeartbeats 4000000 in
theorem fitsl_any (t : TruthD) (mv fv tv ev : Value) (bp : Int × Int × Int) (c0 c1 c2 : Int) (w : World) (ht : TruthAt w mv fv tv ev t) (h64 : Truth64 t) (kb : i64B bp.1 ∧ i64B bp.2.1 ∧ i64B bp.2.2) (k0 : i64B c0) (k1 : i64B c1) (k2 : i64B c2) (hG0 : Glob w) :
    Calls Tryd.prog 5 #[truthV mv fv tv ev t, .agg #[iV bp.1, iV bp.2.1, iV bp.2.2], iV c0, iV c1, iV c2] w (Ret (.bool true) w) := by
  have hval := surv_valid t
  have hin := way_in t
  have hlast := last_id hval.2
  have hblen := valid_len hval.2
  have HSV := hide (fun (W : World) hb => surveys_any mv fv tv ev t W (ht.below hb) h64)
  have HWY := hide (fun (W : World) => way_any mv fv tv ev t W h64.mot (by obtain ⟨a, c, e, -⟩ := ht.marks; exact ⟨a, _, c, e⟩) (by obtain ⟨a, c, e, -⟩ := ht.finds; exact ⟨a, _, c, e⟩) (by obtain ⟨a, c, e, -⟩ := ht.tols; exact ⟨a, _, c, e⟩) (by obtain ⟨a, c, e, -⟩ := ht.errs; exact ⟨a, _, c, e⟩))
  have HP0 := hide (fun W => pickl_any c0 4 W k0 (by decide) (by decide))
  have HP1 := hide (fun W => pickl_any c1 41 W k1 (by decide) (by decide))
  have HP2 := hide (fun W => pickl_any c2 41 W k2 (by decide) (by decide))
  have q0 := pickR_in c0 (n := 4) (by decide)
  have q1 := pickR_in c1 (n := 41) (by decide)
  have q2 := pickR_in c2 (n := 41) (by decide)
  obtain ⟨ma, mc, rfl, -, -, -⟩ := id' ht.marks
  obtain ⟨fa, fc, rfl, -, -, -⟩ := id' ht.finds
  obtain ⟨ta, tc, rfl, -, -, -⟩ := id' ht.tols
  obtain ⟨ea, ec, rfl, -, -, -⟩ := id' ht.errs
  obtain ⟨b0, b1, b2⟩ := bp
  obtain ⟨kb0, kb1, kb2⟩ := kb
  dsimp only at kb0 kb1 kb2 ⊢
  generalize survA t = A at *
  generalize survB t = B at *
  generalize wayD t = M0 at *
  generalize pickR c0 4 = s0 at *
  generalize pickR c1 41 = s1 at *
  generalize pickR c2 41 = s2 at *
  have HBT := hide (fun (v : Value) (W : World) (h : DotsAt W v B) => bent_any B b0 b1 b2 v W h kb0 kb2 (by omega) hlast)
  clear hlast hval k0 k1 k2 kb0 kb1 kb2
  go_enter Tryd.func5, Tryd.ntmps5
  go_wp2_with fail
  generalize hX1 : World.alloc w _ = X1
  have zX1 : X1.heap.size = w.heap.size + 1 := by rw [← hX1]; simp
  have bX1 : Below w.heap.size w X1 := by rw [← hX1]; exact bal w _
  have bT_1 : Blk X1 (w.heap.size) [.slice ma t.marks.length mc, .slice fa t.finds.length fc, iV t.mot.1, iV t.mot.2.1, iV t.mot.2.2, .slice ta t.tols.length tc, .slice ea t.errs.length ec] 28 := by rw [← hX1]; exact Blk.newA w _ (by first | rfl | simp)
  generalize hX2 : World.alloc X1 _ = X2
  have zX2 : X2.heap.size = w.heap.size + 1 + 1 := by rw [← hX2]; simp [zX1]
  have bX2 : Below X1.heap.size X1 X2 := by rw [← hX2]; exact bal X1 _
  have bP : Blk X2 (w.heap.size + 1) [iV b0, iV b1, iV b2] 24 := by rw [← hX2, ← zX1]; exact Blk.newA X1 _ (by first | rfl | simp)
  have bT := bT_1.later bX2
  have Xb := below2 (bX1) bX2
  have Xz := zX2
  clear hX1 zX1 bX1 hX2 zX2 bX2 bT_1
  refine (sane_any _ (hG0.later Xb)).mono ?_
  rintro e w1 ⟨rfl, hb1⟩
  have bT1 := bT.later hb1
  have bP1 := bP.later hb1
  have hbw1 := below2 Xb hb1
  have t0 := (bT1).cell 0 rfl
  have t1 := (bT1).cell 1 rfl
  have t2 := (bT1).cell 2 rfl
  have t3 := (bT1).cell 3 rfl
  have t4 := (bT1).cell 4 rfl
  have t5 := (bT1).cell 5 rfl
  have t6 := (bT1).cell 6 rfl
  go_wp2_with fail
  refine (HSV.out _ hbw1).mono ?_
  rintro e w2 ⟨va, vb, rfl, ⟨hA0, hB0⟩, hb2⟩
  have DA : DotsAt w2 va A := hA0.at
  have DB : DotsAt w2 vb B := hB0.at
  have bT2 := bT1.later hb2
  have bP2 := bP1.later hb2
  have hbw2 := below2 hbw1 hb2
  obtain ⟨aa, ac, rfl, -, -, -⟩ := id DA
  obtain ⟨ba, bc, rfl, -, -, -⟩ := id DB
  clear hA0 hB0 t0 t1 t2 t3 t4 t5 t6
  have p0 := bP2.cell 0 rfl
  have p1 := bP2.cell 1 rfl
  have p2 := bP2.cell 2 rfl
  go_wp2_with fail
  refine (HBT.out _ _ DB).mono ?_
  rintro e w3 ⟨vc, rfl, hC0, hb3⟩
  have DC : DotsAt w3 vc (bentD B b0 b1 b2) := hC0.at
  have DA3 := DA.below hb3
  have bT3 := bT2.later hb3
  have hbw3 := below2 hbw2 hb3
  have hG3 := hG0.later hbw3
  generalize bentD B b0 b1 b2 = C at *
  obtain ⟨ca, cc, rfl, -, -, -⟩ := id DC
  clear p0 p1 p2 hC0 DA DB HBT
  have t0 := (bT3).cell 0 rfl
  have t1 := (bT3).cell 1 rfl
  have t2 := (bT3).cell 2 rfl
  have t3 := (bT3).cell 3 rfl
  have t4 := (bT3).cell 4 rfl
  have t5 := (bT3).cell 5 rfl
  have t6 := (bT3).cell 6 rfl
  go_wp2_with fail
  refine (rvalid_any C _ _ DC).mono ?_
  rintro e w4 ⟨rfl, hb4⟩
  have bT4 := bT3.later hb4
  clear t0 t1 t2 t3 t4 t5 t6
  have t0 := (bT4).cell 0 rfl
  have t1 := (bT4).cell 1 rfl
  have t2 := (bT4).cell 2 rfl
  have t3 := (bT4).cell 3 rfl
  have t4 := (bT4).cell 4 rfl
  have t5 := (bT4).cell 5 rfl
  have t6 := (bT4).cell 6 rfl
  cases hvC : validD C
  · have HB := hide (fits_bad hvC M0 (a := A))
    go_wp2_with fail
    refine (HWY.out _).mono ?_
    rintro e w5 ⟨rfl, hb5⟩
    have hb35 := below2 hb4 hb5
    go_wp2_with fail
    refine (fitting_any A C _ _ M0 _ (DA3.below hb35) (DC.below hb35) (hG3.later hb35)).mono ?_
    rw [HB.out]
    rintro e w6 ⟨rfl, hb6⟩
    go_wp2_with fail
    go_ret
    exact ⟨rfl, hbw3.trans ((below2 hb35 hb6).mono hbw3.size)⟩
  · go_wp2_with fail
    refine (HWY.out _).mono ?_
    rintro e w5 ⟨rfl, hb5⟩
    clear t0 t1 t2 t3 t4 t5 t6
    obtain ⟨tu, dx, dy⟩ := M0
    dsimp only at hin
    obtain ⟨i1, i2, i3, i4, i5, i6⟩ := hin
    obtain ⟨q01, q02⟩ := q0
    obtain ⟨q11, q12⟩ := q1
    obtain ⟨q21, q22⟩ := q2
    go_wp2_with fail
    generalize hXX : World.alloc w5 _ = W6
    have hb6 : Below w5.heap.size w5 W6 := by rw [← hXX]; exact bal w5 _
    have bM : Blk W6 w5.heap.size [iV tu, iV dx, iV dy] 32 := by rw [← hXX]; exact Blk.newA w5 _ rfl
    have hb36 := below2 (below2 hb4 hb5) hb6
    have hR : w3.heap.size ≤ w5.heap.size := (below2 hb4 hb5).size
    generalize w5.heap.size = R at *
    clear hXX
    have u3 : IntKind.i64.wrap (tu + s0) = tu + s0 := IntWalk.i64_in _ (by omega)
    have u4 : (tu + s0).tmod 4 = (tu + s0) % 4 := Int.tmod_eq_emod_of_nonneg (by omega)
    have u5 : IntKind.i64.wrap ((tu + s0) % 4) = (tu + s0) % 4 := IntWalk.i64_in _ (by omega)
    have u6 : IntKind.i64.wrap (dx + s1) = dx + s1 := IntWalk.i64_in _ (by omega)
    have u7 : IntKind.i64.wrap (dx + s1 - 20) = dx + s1 - 20 := IntWalk.i64_in _ (by omega)
    have u8 : IntKind.i64.wrap (dy + s2) = dy + s2 := IntWalk.i64_in _ (by omega)
    have u9 : IntKind.i64.wrap (dy + s2 - 20) = dy + s2 - 20 := IntWalk.i64_in _ (by omega)
    refine wp_region_inv [some 48, some 49, some 50, some 51, some 52, some 53, some 54, none] (fun L vs W => match vs with | [x0, x1, x2, x3, x4, x5, x6, x7] => (BoxG w3 W6 R 32 [iV tu, iV dx, iV dy] [iV ((tu + s0) % 4), iV dx, iV dy] (L 7) W) ∧ (L 0 = true → x0 = .pointer (some ⟨R, 0, none⟩)) ∧ (L 1 = true → x1 = iV tu) ∧ (L 2 = true → x2 = iV c0) ∧ (L 3 = true → x3 = iV s0) ∧ (L 4 = true → L 1 = true ∧ x4 = iV (tu + s0)) ∧ (L 5 = true → L 1 = true ∧ x5 = iV ((tu + s0) % 4)) ∧ (L 6 = true → x6 = .pointer (some ⟨R, 0, none⟩)) ∧ (L 7 = true → L 1 = true) | _ => False) [_, _, _, _, _, _, _, undef] (by kernel_rfl) (by kernel_rfl) rfl (by simp only [puts, Act.put, List.setIfInBounds_toArray, List.set_cons_zero, List.set_cons_succ] <;> rfl) ?_ ?_ ?_
    · exact ⟨BoxG.first hb36 bM, (fun h => by cases h), (fun h => by cases h), (fun h => by cases h), (fun h => by cases h), (fun h => by cases h), (fun h => by cases h), (fun h => by cases h), (fun h => by cases h)⟩
    · refine ⟨?_, ?_, ?_, ?_, ?_, ?_, ?_, ?_, trivial⟩
      · intro L vs W hlen hL hD hI K hK
        obtain ⟨x0, x1, x2, x3, x4, x5, x6, x7, rfl⟩ := len8 hlen
        have hG := hI.1
        replace hI := hI.2
        have f0 := hide hI.1
        replace hI := hI.2
        have f1 := hide hI.1
        replace hI := hI.2
        have f2 := hide hI.1
        replace hI := hI.2
        have f3 := hide hI.1
        replace hI := hI.2
        have f4 := hide hI.1
        replace hI := hI.2
        have f5 := hide hI.1
        replace hI := hI.2
        have f6 := hide hI.1
        replace hI := hI.2
        have f7 := hide hI
        clear hI
        have r0 := hG.hb
        try simp only [puts, Act.put, List.setIfInBounds_toArray, List.set_cons_zero, List.set_cons_succ]
        try go_simp
        exact hK.out _ _ _ (by simp only [puts, Act.put, List.setIfInBounds_toArray, List.set_cons_zero, List.set_cons_succ] <;> rfl) ⟨hG, (fun _ => rfl), (fun h => f1.out h), (fun h => f2.out h), (fun h => f3.out h), (fun h => f4.out h), (fun h => f5.out h), (fun h => f6.out h), (fun h => f7.out h)⟩
      · intro L vs W hlen hL hD hI K hK
        obtain ⟨x0, x1, x2, x3, x4, x5, x6, x7, rfl⟩ := len8 hlen
        have hG := hI.1
        replace hI := hI.2
        have f0 := hide hI.1
        replace hI := hI.2
        have f1 := hide hI.1
        replace hI := hI.2
        have f2 := hide hI.1
        replace hI := hI.2
        have f3 := hide hI.1
        replace hI := hI.2
        have f4 := hide hI.1
        replace hI := hI.2
        have f5 := hide hI.1
        replace hI := hI.2
        have f6 := hide hI.1
        replace hI := hI.2
        have f7 := hide hI
        clear hI
        have r0 := hG.hb
        obtain rfl := f0.out (hD.on 0 (by kernel_rfl))
        try simp only [puts, Act.put, List.setIfInBounds_toArray, List.set_cons_zero, List.set_cons_succ]
        have h7 : L 7 = false := Bool.eq_false_iff.2 (fun h => absurd ((f7.out h).symm.trans hL) (by decide))
        have hG7 := hG
        rw [h7] at hG7
        have r0 := hG7.box.cell 0 rfl
        go_simp
        exact hK.out _ _ _ (by simp only [puts, Act.put, List.setIfInBounds_toArray, List.set_cons_zero, List.set_cons_succ] <;> rfl) ⟨hG, (fun h => f0.out h), (fun _ => rfl), (fun h => f2.out h), (fun h => f3.out h), (fun h => (fun h => ⟨rfl, h.2⟩) (f4.out h)), (fun h => (fun h => ⟨rfl, h.2⟩) (f5.out h)), (fun h => f6.out h), (fun h => (fun _ => rfl) (f7.out h))⟩
      · intro L vs W hlen hL hD hI K hK
        obtain ⟨x0, x1, x2, x3, x4, x5, x6, x7, rfl⟩ := len8 hlen
        have hG := hI.1
        replace hI := hI.2
        have f0 := hide hI.1
        replace hI := hI.2
        have f1 := hide hI.1
        replace hI := hI.2
        have f2 := hide hI.1
        replace hI := hI.2
        have f3 := hide hI.1
        replace hI := hI.2
        have f4 := hide hI.1
        replace hI := hI.2
        have f5 := hide hI.1
        replace hI := hI.2
        have f6 := hide hI.1
        replace hI := hI.2
        have f7 := hide hI
        clear hI
        have r0 := hG.hb
        try simp only [puts, Act.put, List.setIfInBounds_toArray, List.set_cons_zero, List.set_cons_succ]
        try go_simp
        exact hK.out _ _ _ (by simp only [puts, Act.put, List.setIfInBounds_toArray, List.set_cons_zero, List.set_cons_succ] <;> rfl) ⟨hG, (fun h => f0.out h), (fun h => f1.out h), (fun _ => rfl), (fun h => f3.out h), (fun h => f4.out h), (fun h => f5.out h), (fun h => f6.out h), (fun h => f7.out h)⟩
      · intro L vs W hlen hL hD hI K hK
        obtain ⟨x0, x1, x2, x3, x4, x5, x6, x7, rfl⟩ := len8 hlen
        have hG := hI.1
        replace hI := hI.2
        have f0 := hide hI.1
        replace hI := hI.2
        have f1 := hide hI.1
        replace hI := hI.2
        have f2 := hide hI.1
        replace hI := hI.2
        have f3 := hide hI.1
        replace hI := hI.2
        have f4 := hide hI.1
        replace hI := hI.2
        have f5 := hide hI.1
        replace hI := hI.2
        have f6 := hide hI.1
        replace hI := hI.2
        have f7 := hide hI
        clear hI
        have r0 := hG.hb
        obtain rfl := f2.out (hD.on 2 (by kernel_rfl))
        try simp only [puts, Act.put, List.setIfInBounds_toArray, List.set_cons_zero, List.set_cons_succ]
        try go_simp
        refine (HP0.out _).mono ?_
        rintro e W' ⟨rfl, hb⟩
        try go_simp
        exact hK.out _ _ _ (by simp only [puts, Act.put, List.setIfInBounds_toArray, List.set_cons_zero, List.set_cons_succ] <;> rfl) ⟨hG.later hb, (fun h => f0.out h), (fun h => f1.out h), (fun h => f2.out h), (fun _ => rfl), (fun h => f4.out h), (fun h => f5.out h), (fun h => f6.out h), (fun h => f7.out h)⟩
      · intro L vs W hlen hL hD hI K hK
        obtain ⟨x0, x1, x2, x3, x4, x5, x6, x7, rfl⟩ := len8 hlen
        have hG := hI.1
        replace hI := hI.2
        have f0 := hide hI.1
        replace hI := hI.2
        have f1 := hide hI.1
        replace hI := hI.2
        have f2 := hide hI.1
        replace hI := hI.2
        have f3 := hide hI.1
        replace hI := hI.2
        have f4 := hide hI.1
        replace hI := hI.2
        have f5 := hide hI.1
        replace hI := hI.2
        have f6 := hide hI.1
        replace hI := hI.2
        have f7 := hide hI
        clear hI
        have r0 := hG.hb
        obtain rfl := f1.out (hD.on 1 (by kernel_rfl))
        obtain rfl := f3.out (hD.on 3 (by kernel_rfl))
        try simp only [puts, Act.put, List.setIfInBounds_toArray, List.set_cons_zero, List.set_cons_succ]
        try go_simp
        exact hK.out _ _ _ (by simp only [puts, Act.put, List.setIfInBounds_toArray, List.set_cons_zero, List.set_cons_succ] <;> rfl) ⟨hG, (fun h => f0.out h), (fun h => f1.out h), (fun h => f2.out h), (fun h => f3.out h), (fun _ => ⟨hD.on 1 (by kernel_rfl), rfl⟩), (fun h => f5.out h), (fun h => f6.out h), (fun h => f7.out h)⟩
      · intro L vs W hlen hL hD hI K hK
        obtain ⟨x0, x1, x2, x3, x4, x5, x6, x7, rfl⟩ := len8 hlen
        have hG := hI.1
        replace hI := hI.2
        have f0 := hide hI.1
        replace hI := hI.2
        have f1 := hide hI.1
        replace hI := hI.2
        have f2 := hide hI.1
        replace hI := hI.2
        have f3 := hide hI.1
        replace hI := hI.2
        have f4 := hide hI.1
        replace hI := hI.2
        have f5 := hide hI.1
        replace hI := hI.2
        have f6 := hide hI.1
        replace hI := hI.2
        have f7 := hide hI
        clear hI
        have r0 := hG.hb
        have g4 := f4.out (hD.on 4 (by kernel_rfl))
        try simp only [puts, Act.put, List.setIfInBounds_toArray, List.set_cons_zero, List.set_cons_succ]
        obtain rfl := g4.2
        go_simp
        exact hK.out _ _ _ (by simp only [puts, Act.put, List.setIfInBounds_toArray, List.set_cons_zero, List.set_cons_succ] <;> rfl) ⟨hG, (fun h => f0.out h), (fun h => f1.out h), (fun h => f2.out h), (fun h => f3.out h), (fun h => f4.out h), (fun _ => ⟨g4.1, rfl⟩), (fun h => f6.out h), (fun h => f7.out h)⟩
      · intro L vs W hlen hL hD hI K hK
        obtain ⟨x0, x1, x2, x3, x4, x5, x6, x7, rfl⟩ := len8 hlen
        have hG := hI.1
        replace hI := hI.2
        have f0 := hide hI.1
        replace hI := hI.2
        have f1 := hide hI.1
        replace hI := hI.2
        have f2 := hide hI.1
        replace hI := hI.2
        have f3 := hide hI.1
        replace hI := hI.2
        have f4 := hide hI.1
        replace hI := hI.2
        have f5 := hide hI.1
        replace hI := hI.2
        have f6 := hide hI.1
        replace hI := hI.2
        have f7 := hide hI
        clear hI
        have r0 := hG.hb
        try simp only [puts, Act.put, List.setIfInBounds_toArray, List.set_cons_zero, List.set_cons_succ]
        try go_simp
        exact hK.out _ _ _ (by simp only [puts, Act.put, List.setIfInBounds_toArray, List.set_cons_zero, List.set_cons_succ] <;> rfl) ⟨hG, (fun h => f0.out h), (fun h => f1.out h), (fun h => f2.out h), (fun h => f3.out h), (fun h => f4.out h), (fun h => f5.out h), (fun _ => rfl), (fun h => f7.out h)⟩
      · intro L vs W hlen hL hD hI K hK
        obtain ⟨x0, x1, x2, x3, x4, x5, x6, x7, rfl⟩ := len8 hlen
        have hG := hI.1
        replace hI := hI.2
        have f0 := hide hI.1
        replace hI := hI.2
        have f1 := hide hI.1
        replace hI := hI.2
        have f2 := hide hI.1
        replace hI := hI.2
        have f3 := hide hI.1
        replace hI := hI.2
        have f4 := hide hI.1
        replace hI := hI.2
        have f5 := hide hI.1
        replace hI := hI.2
        have f6 := hide hI.1
        replace hI := hI.2
        have f7 := hide hI
        clear hI
        have r0 := hG.hb
        have g5 := f5.out (hD.on 5 (by kernel_rfl))
        obtain rfl := f6.out (hD.on 6 (by kernel_rfl))
        try simp only [puts, Act.put, List.setIfInBounds_toArray, List.set_cons_zero, List.set_cons_succ]
        obtain rfl := g5.2
        have hG7 := hG
        rw [hL] at hG7
        have z0 := hG7.box.frozen 0
        have z1 := hG7.box.cell 0 rfl
        go_simp
        have hb := Below.refl W.heap.size W
        exact hK.out _ undef _ (by simp only [puts, Act.put, List.setIfInBounds_toArray, List.set_cons_zero, List.set_cons_succ] <;> rfl) ⟨hG7.at0 hR, (fun h => f0.out h), (fun h => f1.out h), (fun h => f2.out h), (fun h => f3.out h), (fun h => f4.out h), (fun h => f5.out h), (fun h => f6.out h), (fun _ => g5.1)⟩
    intro L vs W hlen hall hI
    obtain ⟨x0, x1, x2, x3, x4, x5, x6, x7, rfl⟩ := len8 hlen
    have hG := hI.1
    replace hI := hI.2
    have f0 := hide hI.1
    replace hI := hI.2
    have f1 := hide hI.1
    replace hI := hI.2
    have f2 := hide hI.1
    replace hI := hI.2
    have f3 := hide hI.1
    replace hI := hI.2
    have f4 := hide hI.1
    replace hI := hI.2
    have f5 := hide hI.1
    replace hI := hI.2
    have f6 := hide hI.1
    replace hI := hI.2
    have f7 := hide hI
    clear hI
    obtain rfl := f0.out (hall 0 (by decide))
    obtain rfl := f1.out (hall 1 (by decide))
    obtain rfl := f2.out (hall 2 (by decide))
    obtain rfl := f3.out (hall 3 (by decide))
    have g4 := f4.out (hall 4 (by decide))
    have g5 := f5.out (hall 5 (by decide))
    obtain rfl := f6.out (hall 6 (by decide))
    have g7 := f7.out (hall 7 (by decide))
    have hal := hide hall
    clear hall f0 f1 f2 f3 f4 f5 f6 f7
    try simp only [puts, Act.put, List.setIfInBounds_toArray, List.set_cons_zero, List.set_cons_succ]
    rw [hal.out 7 (by decide)] at hG
    have bM7 := hG.done
    have hb37 := hG.hb
    obtain rfl := g4.2
    obtain rfl := g5.2
    clear hG g4 g5 g7 hal bM
    obtain ⟨W7, hW7⟩ : ∃ Z, Z = W := ⟨_, rfl⟩
    subst hW7
    go_wp2_with fail
    refine wp_region_inv [some 55, some 56, some 57, some 58, some 59, some 60, some 61, none] (fun L vs W => match vs with | [x0, x1, x2, x3, x4, x5, x6, x7] => (BoxG w3 W7 R 32 [iV ((tu + s0) % 4), iV dx, iV dy] [iV ((tu + s0) % 4), iV (dx + s1 - 20), iV dy] (L 7) W) ∧ (L 0 = true → x0 = .pointer (some ⟨R, 1, none⟩)) ∧ (L 1 = true → x1 = iV dx) ∧ (L 2 = true → x2 = iV c1) ∧ (L 3 = true → x3 = iV s1) ∧ (L 4 = true → L 1 = true ∧ x4 = iV (dx + s1)) ∧ (L 5 = true → L 1 = true ∧ x5 = iV (dx + s1 - 20)) ∧ (L 6 = true → x6 = .pointer (some ⟨R, 1, none⟩)) ∧ (L 7 = true → L 1 = true) | _ => False) [_, _, _, _, _, _, _, undef] (by kernel_rfl) (by kernel_rfl) rfl (by simp only [puts, Act.put, List.setIfInBounds_toArray, List.set_cons_zero, List.set_cons_succ] <;> rfl) ?_ ?_ ?_
    · exact ⟨BoxG.first hb37 bM7, (fun h => by cases h), (fun h => by cases h), (fun h => by cases h), (fun h => by cases h), (fun h => by cases h), (fun h => by cases h), (fun h => by cases h), (fun h => by cases h)⟩
    · refine ⟨?_, ?_, ?_, ?_, ?_, ?_, ?_, ?_, trivial⟩
      · intro L vs W hlen hL hD hI K hK
        obtain ⟨x0, x1, x2, x3, x4, x5, x6, x7, rfl⟩ := len8 hlen
        have hG := hI.1
        replace hI := hI.2
        have f0 := hide hI.1
        replace hI := hI.2
        have f1 := hide hI.1
        replace hI := hI.2
        have f2 := hide hI.1
        replace hI := hI.2
        have f3 := hide hI.1
        replace hI := hI.2
        have f4 := hide hI.1
        replace hI := hI.2
        have f5 := hide hI.1
        replace hI := hI.2
        have f6 := hide hI.1
        replace hI := hI.2
        have f7 := hide hI
        clear hI
        have r0 := hG.hb
        try simp only [puts, Act.put, List.setIfInBounds_toArray, List.set_cons_zero, List.set_cons_succ]
        try go_simp
        exact hK.out _ _ _ (by simp only [puts, Act.put, List.setIfInBounds_toArray, List.set_cons_zero, List.set_cons_succ] <;> rfl) ⟨hG, (fun _ => rfl), (fun h => f1.out h), (fun h => f2.out h), (fun h => f3.out h), (fun h => f4.out h), (fun h => f5.out h), (fun h => f6.out h), (fun h => f7.out h)⟩
      · intro L vs W hlen hL hD hI K hK
        obtain ⟨x0, x1, x2, x3, x4, x5, x6, x7, rfl⟩ := len8 hlen
        have hG := hI.1
        replace hI := hI.2
        have f0 := hide hI.1
        replace hI := hI.2
        have f1 := hide hI.1
        replace hI := hI.2
        have f2 := hide hI.1
        replace hI := hI.2
        have f3 := hide hI.1
        replace hI := hI.2
        have f4 := hide hI.1
        replace hI := hI.2
        have f5 := hide hI.1
        replace hI := hI.2
        have f6 := hide hI.1
        replace hI := hI.2
        have f7 := hide hI
        clear hI
        have r0 := hG.hb
        obtain rfl := f0.out (hD.on 0 (by kernel_rfl))
        try simp only [puts, Act.put, List.setIfInBounds_toArray, List.set_cons_zero, List.set_cons_succ]
        have h7 : L 7 = false := Bool.eq_false_iff.2 (fun h => absurd ((f7.out h).symm.trans hL) (by decide))
        have hG7 := hG
        rw [h7] at hG7
        have r0 := hG7.box.cell 1 rfl
        go_simp
        exact hK.out _ _ _ (by simp only [puts, Act.put, List.setIfInBounds_toArray, List.set_cons_zero, List.set_cons_succ] <;> rfl) ⟨hG, (fun h => f0.out h), (fun _ => rfl), (fun h => f2.out h), (fun h => f3.out h), (fun h => (fun h => ⟨rfl, h.2⟩) (f4.out h)), (fun h => (fun h => ⟨rfl, h.2⟩) (f5.out h)), (fun h => f6.out h), (fun h => (fun _ => rfl) (f7.out h))⟩
      · intro L vs W hlen hL hD hI K hK
        obtain ⟨x0, x1, x2, x3, x4, x5, x6, x7, rfl⟩ := len8 hlen
        have hG := hI.1
        replace hI := hI.2
        have f0 := hide hI.1
        replace hI := hI.2
        have f1 := hide hI.1
        replace hI := hI.2
        have f2 := hide hI.1
        replace hI := hI.2
        have f3 := hide hI.1
        replace hI := hI.2
        have f4 := hide hI.1
        replace hI := hI.2
        have f5 := hide hI.1
        replace hI := hI.2
        have f6 := hide hI.1
        replace hI := hI.2
        have f7 := hide hI
        clear hI
        have r0 := hG.hb
        try simp only [puts, Act.put, List.setIfInBounds_toArray, List.set_cons_zero, List.set_cons_succ]
        try go_simp
        exact hK.out _ _ _ (by simp only [puts, Act.put, List.setIfInBounds_toArray, List.set_cons_zero, List.set_cons_succ] <;> rfl) ⟨hG, (fun h => f0.out h), (fun h => f1.out h), (fun _ => rfl), (fun h => f3.out h), (fun h => f4.out h), (fun h => f5.out h), (fun h => f6.out h), (fun h => f7.out h)⟩
      · intro L vs W hlen hL hD hI K hK
        obtain ⟨x0, x1, x2, x3, x4, x5, x6, x7, rfl⟩ := len8 hlen
        have hG := hI.1
        replace hI := hI.2
        have f0 := hide hI.1
        replace hI := hI.2
        have f1 := hide hI.1
        replace hI := hI.2
        have f2 := hide hI.1
        replace hI := hI.2
        have f3 := hide hI.1
        replace hI := hI.2
        have f4 := hide hI.1
        replace hI := hI.2
        have f5 := hide hI.1
        replace hI := hI.2
        have f6 := hide hI.1
        replace hI := hI.2
        have f7 := hide hI
        clear hI
        have r0 := hG.hb
        obtain rfl := f2.out (hD.on 2 (by kernel_rfl))
        try simp only [puts, Act.put, List.setIfInBounds_toArray, List.set_cons_zero, List.set_cons_succ]
        try go_simp
        refine (HP1.out _).mono ?_
        rintro e W' ⟨rfl, hb⟩
        try go_simp
        exact hK.out _ _ _ (by simp only [puts, Act.put, List.setIfInBounds_toArray, List.set_cons_zero, List.set_cons_succ] <;> rfl) ⟨hG.later hb, (fun h => f0.out h), (fun h => f1.out h), (fun h => f2.out h), (fun _ => rfl), (fun h => f4.out h), (fun h => f5.out h), (fun h => f6.out h), (fun h => f7.out h)⟩
      · intro L vs W hlen hL hD hI K hK
        obtain ⟨x0, x1, x2, x3, x4, x5, x6, x7, rfl⟩ := len8 hlen
        have hG := hI.1
        replace hI := hI.2
        have f0 := hide hI.1
        replace hI := hI.2
        have f1 := hide hI.1
        replace hI := hI.2
        have f2 := hide hI.1
        replace hI := hI.2
        have f3 := hide hI.1
        replace hI := hI.2
        have f4 := hide hI.1
        replace hI := hI.2
        have f5 := hide hI.1
        replace hI := hI.2
        have f6 := hide hI.1
        replace hI := hI.2
        have f7 := hide hI
        clear hI
        have r0 := hG.hb
        obtain rfl := f1.out (hD.on 1 (by kernel_rfl))
        obtain rfl := f3.out (hD.on 3 (by kernel_rfl))
        try simp only [puts, Act.put, List.setIfInBounds_toArray, List.set_cons_zero, List.set_cons_succ]
        try go_simp
        exact hK.out _ _ _ (by simp only [puts, Act.put, List.setIfInBounds_toArray, List.set_cons_zero, List.set_cons_succ] <;> rfl) ⟨hG, (fun h => f0.out h), (fun h => f1.out h), (fun h => f2.out h), (fun h => f3.out h), (fun _ => ⟨hD.on 1 (by kernel_rfl), rfl⟩), (fun h => f5.out h), (fun h => f6.out h), (fun h => f7.out h)⟩
      · intro L vs W hlen hL hD hI K hK
        obtain ⟨x0, x1, x2, x3, x4, x5, x6, x7, rfl⟩ := len8 hlen
        have hG := hI.1
        replace hI := hI.2
        have f0 := hide hI.1
        replace hI := hI.2
        have f1 := hide hI.1
        replace hI := hI.2
        have f2 := hide hI.1
        replace hI := hI.2
        have f3 := hide hI.1
        replace hI := hI.2
        have f4 := hide hI.1
        replace hI := hI.2
        have f5 := hide hI.1
        replace hI := hI.2
        have f6 := hide hI.1
        replace hI := hI.2
        have f7 := hide hI
        clear hI
        have r0 := hG.hb
        have g4 := f4.out (hD.on 4 (by kernel_rfl))
        try simp only [puts, Act.put, List.setIfInBounds_toArray, List.set_cons_zero, List.set_cons_succ]
        obtain rfl := g4.2
        go_simp
        exact hK.out _ _ _ (by simp only [puts, Act.put, List.setIfInBounds_toArray, List.set_cons_zero, List.set_cons_succ] <;> rfl) ⟨hG, (fun h => f0.out h), (fun h => f1.out h), (fun h => f2.out h), (fun h => f3.out h), (fun h => f4.out h), (fun _ => ⟨g4.1, rfl⟩), (fun h => f6.out h), (fun h => f7.out h)⟩
      · intro L vs W hlen hL hD hI K hK
        obtain ⟨x0, x1, x2, x3, x4, x5, x6, x7, rfl⟩ := len8 hlen
        have hG := hI.1
        replace hI := hI.2
        have f0 := hide hI.1
        replace hI := hI.2
        have f1 := hide hI.1
        replace hI := hI.2
        have f2 := hide hI.1
        replace hI := hI.2
        have f3 := hide hI.1
        replace hI := hI.2
        have f4 := hide hI.1
        replace hI := hI.2
        have f5 := hide hI.1
        replace hI := hI.2
        have f6 := hide hI.1
        replace hI := hI.2
        have f7 := hide hI
        clear hI
        have r0 := hG.hb
        try simp only [puts, Act.put, List.setIfInBounds_toArray, List.set_cons_zero, List.set_cons_succ]
        try go_simp
        exact hK.out _ _ _ (by simp only [puts, Act.put, List.setIfInBounds_toArray, List.set_cons_zero, List.set_cons_succ] <;> rfl) ⟨hG, (fun h => f0.out h), (fun h => f1.out h), (fun h => f2.out h), (fun h => f3.out h), (fun h => f4.out h), (fun h => f5.out h), (fun _ => rfl), (fun h => f7.out h)⟩
      · intro L vs W hlen hL hD hI K hK
        obtain ⟨x0, x1, x2, x3, x4, x5, x6, x7, rfl⟩ := len8 hlen
        have hG := hI.1
        replace hI := hI.2
        have f0 := hide hI.1
        replace hI := hI.2
        have f1 := hide hI.1
        replace hI := hI.2
        have f2 := hide hI.1
        replace hI := hI.2
        have f3 := hide hI.1
        replace hI := hI.2
        have f4 := hide hI.1
        replace hI := hI.2
        have f5 := hide hI.1
        replace hI := hI.2
        have f6 := hide hI.1
        replace hI := hI.2
        have f7 := hide hI
        clear hI
        have r0 := hG.hb
        have g5 := f5.out (hD.on 5 (by kernel_rfl))
        obtain rfl := f6.out (hD.on 6 (by kernel_rfl))
        try simp only [puts, Act.put, List.setIfInBounds_toArray, List.set_cons_zero, List.set_cons_succ]
        obtain rfl := g5.2
        have hG7 := hG
        rw [hL] at hG7
        have z0 := hG7.box.frozen 1
        have z1 := hG7.box.cell 1 rfl
        go_simp
        have hb := Below.refl W.heap.size W
        exact hK.out _ undef _ (by simp only [puts, Act.put, List.setIfInBounds_toArray, List.set_cons_zero, List.set_cons_succ] <;> rfl) ⟨hG7.at1 hR, (fun h => f0.out h), (fun h => f1.out h), (fun h => f2.out h), (fun h => f3.out h), (fun h => f4.out h), (fun h => f5.out h), (fun h => f6.out h), (fun _ => g5.1)⟩
    intro L vs W hlen hall hI
    obtain ⟨x0, x1, x2, x3, x4, x5, x6, x7, rfl⟩ := len8 hlen
    have hG := hI.1
    replace hI := hI.2
    have f0 := hide hI.1
    replace hI := hI.2
    have f1 := hide hI.1
    replace hI := hI.2
    have f2 := hide hI.1
    replace hI := hI.2
    have f3 := hide hI.1
    replace hI := hI.2
    have f4 := hide hI.1
    replace hI := hI.2
    have f5 := hide hI.1
    replace hI := hI.2
    have f6 := hide hI.1
    replace hI := hI.2
    have f7 := hide hI
    clear hI
    obtain rfl := f0.out (hall 0 (by decide))
    obtain rfl := f1.out (hall 1 (by decide))
    obtain rfl := f2.out (hall 2 (by decide))
    obtain rfl := f3.out (hall 3 (by decide))
    have g4 := f4.out (hall 4 (by decide))
    have g5 := f5.out (hall 5 (by decide))
    obtain rfl := f6.out (hall 6 (by decide))
    have g7 := f7.out (hall 7 (by decide))
    have hal := hide hall
    clear hall f0 f1 f2 f3 f4 f5 f6 f7
    try simp only [puts, Act.put, List.setIfInBounds_toArray, List.set_cons_zero, List.set_cons_succ]
    rw [hal.out 7 (by decide)] at hG
    have bM8 := hG.done
    have hb38 := hG.hb
    obtain rfl := g4.2
    obtain rfl := g5.2
    clear hG g4 g5 g7 hal bM7
    obtain ⟨W8, hW8⟩ : ∃ Z, Z = W := ⟨_, rfl⟩
    subst hW8
    go_wp2_with fail
    refine wp_region_inv [some 62, some 63, some 64, some 65, some 66, some 67, some 68, none] (fun L vs W => match vs with | [x0, x1, x2, x3, x4, x5, x6, x7] => (BoxG w3 W8 R 32 [iV ((tu + s0) % 4), iV (dx + s1 - 20), iV dy] [iV ((tu + s0) % 4), iV (dx + s1 - 20), iV (dy + s2 - 20)] (L 7) W) ∧ (L 0 = true → x0 = .pointer (some ⟨R, 2, none⟩)) ∧ (L 1 = true → x1 = iV dy) ∧ (L 2 = true → x2 = iV c2) ∧ (L 3 = true → x3 = iV s2) ∧ (L 4 = true → L 1 = true ∧ x4 = iV (dy + s2)) ∧ (L 5 = true → L 1 = true ∧ x5 = iV (dy + s2 - 20)) ∧ (L 6 = true → x6 = .pointer (some ⟨R, 2, none⟩)) ∧ (L 7 = true → L 1 = true) | _ => False) [_, _, _, _, _, _, _, undef] (by kernel_rfl) (by kernel_rfl) rfl (by simp only [puts, Act.put, List.setIfInBounds_toArray, List.set_cons_zero, List.set_cons_succ] <;> rfl) ?_ ?_ ?_
    · exact ⟨BoxG.first hb38 bM8, (fun h => by cases h), (fun h => by cases h), (fun h => by cases h), (fun h => by cases h), (fun h => by cases h), (fun h => by cases h), (fun h => by cases h), (fun h => by cases h)⟩
    · refine ⟨?_, ?_, ?_, ?_, ?_, ?_, ?_, ?_, trivial⟩
      · intro L vs W hlen hL hD hI K hK
        obtain ⟨x0, x1, x2, x3, x4, x5, x6, x7, rfl⟩ := len8 hlen
        have hG := hI.1
        replace hI := hI.2
        have f0 := hide hI.1
        replace hI := hI.2
        have f1 := hide hI.1
        replace hI := hI.2
        have f2 := hide hI.1
        replace hI := hI.2
        have f3 := hide hI.1
        replace hI := hI.2
        have f4 := hide hI.1
        replace hI := hI.2
        have f5 := hide hI.1
        replace hI := hI.2
        have f6 := hide hI.1
        replace hI := hI.2
        have f7 := hide hI
        clear hI
        have r0 := hG.hb
        try simp only [puts, Act.put, List.setIfInBounds_toArray, List.set_cons_zero, List.set_cons_succ]
        try go_simp
        exact hK.out _ _ _ (by simp only [puts, Act.put, List.setIfInBounds_toArray, List.set_cons_zero, List.set_cons_succ] <;> rfl) ⟨hG, (fun _ => rfl), (fun h => f1.out h), (fun h => f2.out h), (fun h => f3.out h), (fun h => f4.out h), (fun h => f5.out h), (fun h => f6.out h), (fun h => f7.out h)⟩
      · intro L vs W hlen hL hD hI K hK
        obtain ⟨x0, x1, x2, x3, x4, x5, x6, x7, rfl⟩ := len8 hlen
        have hG := hI.1
        replace hI := hI.2
        have f0 := hide hI.1
        replace hI := hI.2
        have f1 := hide hI.1
        replace hI := hI.2
        have f2 := hide hI.1
        replace hI := hI.2
        have f3 := hide hI.1
        replace hI := hI.2
        have f4 := hide hI.1
        replace hI := hI.2
        have f5 := hide hI.1
        replace hI := hI.2
        have f6 := hide hI.1
        replace hI := hI.2
        have f7 := hide hI
        clear hI
        have r0 := hG.hb
        obtain rfl := f0.out (hD.on 0 (by kernel_rfl))
        try simp only [puts, Act.put, List.setIfInBounds_toArray, List.set_cons_zero, List.set_cons_succ]
        have h7 : L 7 = false := Bool.eq_false_iff.2 (fun h => absurd ((f7.out h).symm.trans hL) (by decide))
        have hG7 := hG
        rw [h7] at hG7
        have r0 := hG7.box.cell 2 rfl
        go_simp
        exact hK.out _ _ _ (by simp only [puts, Act.put, List.setIfInBounds_toArray, List.set_cons_zero, List.set_cons_succ] <;> rfl) ⟨hG, (fun h => f0.out h), (fun _ => rfl), (fun h => f2.out h), (fun h => f3.out h), (fun h => (fun h => ⟨rfl, h.2⟩) (f4.out h)), (fun h => (fun h => ⟨rfl, h.2⟩) (f5.out h)), (fun h => f6.out h), (fun h => (fun _ => rfl) (f7.out h))⟩
      · intro L vs W hlen hL hD hI K hK
        obtain ⟨x0, x1, x2, x3, x4, x5, x6, x7, rfl⟩ := len8 hlen
        have hG := hI.1
        replace hI := hI.2
        have f0 := hide hI.1
        replace hI := hI.2
        have f1 := hide hI.1
        replace hI := hI.2
        have f2 := hide hI.1
        replace hI := hI.2
        have f3 := hide hI.1
        replace hI := hI.2
        have f4 := hide hI.1
        replace hI := hI.2
        have f5 := hide hI.1
        replace hI := hI.2
        have f6 := hide hI.1
        replace hI := hI.2
        have f7 := hide hI
        clear hI
        have r0 := hG.hb
        try simp only [puts, Act.put, List.setIfInBounds_toArray, List.set_cons_zero, List.set_cons_succ]
        try go_simp
        exact hK.out _ _ _ (by simp only [puts, Act.put, List.setIfInBounds_toArray, List.set_cons_zero, List.set_cons_succ] <;> rfl) ⟨hG, (fun h => f0.out h), (fun h => f1.out h), (fun _ => rfl), (fun h => f3.out h), (fun h => f4.out h), (fun h => f5.out h), (fun h => f6.out h), (fun h => f7.out h)⟩
      · intro L vs W hlen hL hD hI K hK
        obtain ⟨x0, x1, x2, x3, x4, x5, x6, x7, rfl⟩ := len8 hlen
        have hG := hI.1
        replace hI := hI.2
        have f0 := hide hI.1
        replace hI := hI.2
        have f1 := hide hI.1
        replace hI := hI.2
        have f2 := hide hI.1
        replace hI := hI.2
        have f3 := hide hI.1
        replace hI := hI.2
        have f4 := hide hI.1
        replace hI := hI.2
        have f5 := hide hI.1
        replace hI := hI.2
        have f6 := hide hI.1
        replace hI := hI.2
        have f7 := hide hI
        clear hI
        have r0 := hG.hb
        obtain rfl := f2.out (hD.on 2 (by kernel_rfl))
        try simp only [puts, Act.put, List.setIfInBounds_toArray, List.set_cons_zero, List.set_cons_succ]
        try go_simp
        refine (HP2.out _).mono ?_
        rintro e W' ⟨rfl, hb⟩
        try go_simp
        exact hK.out _ _ _ (by simp only [puts, Act.put, List.setIfInBounds_toArray, List.set_cons_zero, List.set_cons_succ] <;> rfl) ⟨hG.later hb, (fun h => f0.out h), (fun h => f1.out h), (fun h => f2.out h), (fun _ => rfl), (fun h => f4.out h), (fun h => f5.out h), (fun h => f6.out h), (fun h => f7.out h)⟩
      · intro L vs W hlen hL hD hI K hK
        obtain ⟨x0, x1, x2, x3, x4, x5, x6, x7, rfl⟩ := len8 hlen
        have hG := hI.1
        replace hI := hI.2
        have f0 := hide hI.1
        replace hI := hI.2
        have f1 := hide hI.1
        replace hI := hI.2
        have f2 := hide hI.1
        replace hI := hI.2
        have f3 := hide hI.1
        replace hI := hI.2
        have f4 := hide hI.1
        replace hI := hI.2
        have f5 := hide hI.1
        replace hI := hI.2
        have f6 := hide hI.1
        replace hI := hI.2
        have f7 := hide hI
        clear hI
        have r0 := hG.hb
        obtain rfl := f1.out (hD.on 1 (by kernel_rfl))
        obtain rfl := f3.out (hD.on 3 (by kernel_rfl))
        try simp only [puts, Act.put, List.setIfInBounds_toArray, List.set_cons_zero, List.set_cons_succ]
        try go_simp
        exact hK.out _ _ _ (by simp only [puts, Act.put, List.setIfInBounds_toArray, List.set_cons_zero, List.set_cons_succ] <;> rfl) ⟨hG, (fun h => f0.out h), (fun h => f1.out h), (fun h => f2.out h), (fun h => f3.out h), (fun _ => ⟨hD.on 1 (by kernel_rfl), rfl⟩), (fun h => f5.out h), (fun h => f6.out h), (fun h => f7.out h)⟩
      · intro L vs W hlen hL hD hI K hK
        obtain ⟨x0, x1, x2, x3, x4, x5, x6, x7, rfl⟩ := len8 hlen
        have hG := hI.1
        replace hI := hI.2
        have f0 := hide hI.1
        replace hI := hI.2
        have f1 := hide hI.1
        replace hI := hI.2
        have f2 := hide hI.1
        replace hI := hI.2
        have f3 := hide hI.1
        replace hI := hI.2
        have f4 := hide hI.1
        replace hI := hI.2
        have f5 := hide hI.1
        replace hI := hI.2
        have f6 := hide hI.1
        replace hI := hI.2
        have f7 := hide hI
        clear hI
        have r0 := hG.hb
        have g4 := f4.out (hD.on 4 (by kernel_rfl))
        try simp only [puts, Act.put, List.setIfInBounds_toArray, List.set_cons_zero, List.set_cons_succ]
        obtain rfl := g4.2
        go_simp
        exact hK.out _ _ _ (by simp only [puts, Act.put, List.setIfInBounds_toArray, List.set_cons_zero, List.set_cons_succ] <;> rfl) ⟨hG, (fun h => f0.out h), (fun h => f1.out h), (fun h => f2.out h), (fun h => f3.out h), (fun h => f4.out h), (fun _ => ⟨g4.1, rfl⟩), (fun h => f6.out h), (fun h => f7.out h)⟩
      · intro L vs W hlen hL hD hI K hK
        obtain ⟨x0, x1, x2, x3, x4, x5, x6, x7, rfl⟩ := len8 hlen
        have hG := hI.1
        replace hI := hI.2
        have f0 := hide hI.1
        replace hI := hI.2
        have f1 := hide hI.1
        replace hI := hI.2
        have f2 := hide hI.1
        replace hI := hI.2
        have f3 := hide hI.1
        replace hI := hI.2
        have f4 := hide hI.1
        replace hI := hI.2
        have f5 := hide hI.1
        replace hI := hI.2
        have f6 := hide hI.1
        replace hI := hI.2
        have f7 := hide hI
        clear hI
        have r0 := hG.hb
        try simp only [puts, Act.put, List.setIfInBounds_toArray, List.set_cons_zero, List.set_cons_succ]
        try go_simp
        exact hK.out _ _ _ (by simp only [puts, Act.put, List.setIfInBounds_toArray, List.set_cons_zero, List.set_cons_succ] <;> rfl) ⟨hG, (fun h => f0.out h), (fun h => f1.out h), (fun h => f2.out h), (fun h => f3.out h), (fun h => f4.out h), (fun h => f5.out h), (fun _ => rfl), (fun h => f7.out h)⟩
      · intro L vs W hlen hL hD hI K hK
        obtain ⟨x0, x1, x2, x3, x4, x5, x6, x7, rfl⟩ := len8 hlen
        have hG := hI.1
        replace hI := hI.2
        have f0 := hide hI.1
        replace hI := hI.2
        have f1 := hide hI.1
        replace hI := hI.2
        have f2 := hide hI.1
        replace hI := hI.2
        have f3 := hide hI.1
        replace hI := hI.2
        have f4 := hide hI.1
        replace hI := hI.2
        have f5 := hide hI.1
        replace hI := hI.2
        have f6 := hide hI.1
        replace hI := hI.2
        have f7 := hide hI
        clear hI
        have r0 := hG.hb
        have g5 := f5.out (hD.on 5 (by kernel_rfl))
        obtain rfl := f6.out (hD.on 6 (by kernel_rfl))
        try simp only [puts, Act.put, List.setIfInBounds_toArray, List.set_cons_zero, List.set_cons_succ]
        obtain rfl := g5.2
        have hG7 := hG
        rw [hL] at hG7
        have z0 := hG7.box.frozen 2
        have z1 := hG7.box.cell 2 rfl
        go_simp
        have hb := Below.refl W.heap.size W
        exact hK.out _ undef _ (by simp only [puts, Act.put, List.setIfInBounds_toArray, List.set_cons_zero, List.set_cons_succ] <;> rfl) ⟨hG7.at2 hR, (fun h => f0.out h), (fun h => f1.out h), (fun h => f2.out h), (fun h => f3.out h), (fun h => f4.out h), (fun h => f5.out h), (fun h => f6.out h), (fun _ => g5.1)⟩
    intro L vs W hlen hall hI
    obtain ⟨x0, x1, x2, x3, x4, x5, x6, x7, rfl⟩ := len8 hlen
    have hG := hI.1
    replace hI := hI.2
    have f0 := hide hI.1
    replace hI := hI.2
    have f1 := hide hI.1
    replace hI := hI.2
    have f2 := hide hI.1
    replace hI := hI.2
    have f3 := hide hI.1
    replace hI := hI.2
    have f4 := hide hI.1
    replace hI := hI.2
    have f5 := hide hI.1
    replace hI := hI.2
    have f6 := hide hI.1
    replace hI := hI.2
    have f7 := hide hI
    clear hI
    obtain rfl := f0.out (hall 0 (by decide))
    obtain rfl := f1.out (hall 1 (by decide))
    obtain rfl := f2.out (hall 2 (by decide))
    obtain rfl := f3.out (hall 3 (by decide))
    have g4 := f4.out (hall 4 (by decide))
    have g5 := f5.out (hall 5 (by decide))
    obtain rfl := f6.out (hall 6 (by decide))
    have g7 := f7.out (hall 7 (by decide))
    have hal := hide hall
    clear hall f0 f1 f2 f3 f4 f5 f6 f7
    try simp only [puts, Act.put, List.setIfInBounds_toArray, List.set_cons_zero, List.set_cons_succ]
    rw [hal.out 7 (by decide)] at hG
    have bM9 := hG.done
    have hb39 := hG.hb
    obtain rfl := g4.2
    obtain rfl := g5.2
    clear hG g4 g5 g7 hal bM8
    obtain ⟨W9, hW9⟩ : ∃ Z, Z = W := ⟨_, rfl⟩
    subst hW9
    have hMt : 0 ≤ (⟨(tu + s0) % 4, dx + s1 - 20, dy + s2 - 20⟩ : MotD).turn ∧ (⟨(tu + s0) % 4, dx + s1 - 20, dy + s2 - 20⟩ : MotD).turn ≤ 3 := by dsimp only; omega
    have bM' : Blk W9 R [iV (⟨(tu + s0) % 4, dx + s1 - 20, dy + s2 - 20⟩ : MotD).turn, iV (⟨(tu + s0) % 4, dx + s1 - 20, dy + s2 - 20⟩ : MotD).dx, iV (⟨(tu + s0) % 4, dx + s1 - 20, dy + s2 - 20⟩ : MotD).dy] 32 := bM9
    clear bM9 u3 u4 u5 u6 u7 u8 u9
    generalize (⟨(tu + s0) % 4, dx + s1 - 20, dy + s2 - 20⟩ : MotD) = M at *
    go_wp2_with fail
    refine (fits_any A C _ _ W9 (DA3.below hb39) (DC.below hb39) (hG3.later hb39)).mono ?_
    rintro e w10 ⟨vl, u, rfl, ⟨hF, hu⟩, hb10⟩
    subst hu
    have hb310 := below2 hb39 hb10
    have bM10 := bM'.later hb10
    have DF := hF.at
    obtain ⟨la, lc, rfl, hle, hmx, hlc⟩ := id DF
    have HLC := hide hlc
    clear hF hlc
    by_cases he : errR A C = 0
    · rw [he]
      have HOK := hide (fun (i : Nat) hi => fit_ok he (i := i) hi)
      have HUP := hide (fun (i : Nat) h0 hi => fit_up he (i := i) h0 hi)
      have HALL := hide (inFit_all he hMt)
      clear he
      generalize fitsR A C = FL at *
      go_wp2_with fail
      go_loopw [18, 19] (fun inn i wr => ∃ k : Nat, k ≤ FL.length ∧ i = .int .i64 k ∧ inn = .bool (inFit FL M k) ∧ Below w10.heap.size w10 wr) (fun _ i _ => FL.length - (intOf i).toNat)
      case atStart => exact ⟨0, by omega, rfl, rfl, Below.refl _ _⟩
      case round =>
        obtain ⟨k, hk, rfl, rfl, hbr⟩ := hrel
        by_cases hlt : k < FL.length
        · obtain ⟨bl, o, heq, hck⟩ := HLC.out k hlt
          subst heq
          have hkl : decide (k < FL.length) = true := by simpa using hlt
          have hok := HOK.out k hlt
          have f0 : wr.cell? ⟨bl, o + k * 5, none⟩ = some (iV ((FL.getD k fit0).1 : Nat)) := keep hbr (hck 0 _ rfl)
          have f1 : wr.cell? ⟨bl, o + k * 5 + 1, none⟩ = some (iV (FL.getD k fit0).2.xl) := keep hbr (hck 1 _ rfl)
          have f2 : wr.cell? ⟨bl, o + k * 5 + 2, none⟩ = some (iV (FL.getD k fit0).2.xh) := keep hbr (hck 2 _ rfl)
          have f3 : wr.cell? ⟨bl, o + k * 5 + 3, none⟩ = some (iV (FL.getD k fit0).2.yl) := keep hbr (hck 3 _ rfl)
          have f4 : wr.cell? ⟨bl, o + k * 5 + 4, none⟩ = some (iV (FL.getD k fit0).2.yh) := keep hbr (hck 4 _ rfl)
          have hIK : Hid (inFit FL M (k + 1) = (inFit FL M k || (decide (((FL.getD k fit0).1 : Int) = M.turn) && hasB (FL.getD k fit0).2 M.dx M.dy))) := hide (inFit_succ FL M k)
          have HUPk := hide (fun h => HUP.out k h hlt)
          generalize hFK : FL.getD k fit0 = fk at *
          obtain ⟨ft, fxl, fxh, fyl, fyh⟩ := fk
          dsimp only at f0 f1 f2 f3 f4 hok HUPk
          obtain ⟨hf3, hfx, hfy, hff⟩ := hok
          have HFC := hide (fun (W : World) hb => fitting_any A C _ _ ⟨ft, fxl, fyh⟩ W (DA3.below hb) (DC.below hb) (hG3.later hb))
          rw [hff] at HFC
          have d1 : decide (fxh < fxl) = false := by simpa using hfx
          have d2 : decide (fyh < fyl) = false := by simpa using hfy
          clear hff
          go_wp2_with fail
          generalize hXX : World.alloc wr _ = Wf
          have hbf : Below wr.heap.size wr Wf := by rw [← hXX]; exact bal wr _
          have bF : Blk Wf wr.heap.size [iV (ft : Nat), iV fxl, iV fxh, iV fyl, iV fyh] 65 := by rw [← hXX]; exact Blk.newA wr _ rfl
          have hbrC := below2 hbr hbf
          have hb3C := below2 hb310 hbrC
          have bMr := bM10.later hbrC
          have w0 := bwc (bF.cell 0 rfl)
          have w1' := bwc (bF.cell 1 rfl)
          have w2' := bwc (bF.cell 2 rfl)
          have w3' := bwc (bF.cell 3 rfl)
          have w4' := bwc (bF.cell 4 rfl)
          by_cases h0 : 0 < k
          · have d3 : decide (0 < k) = true := by simpa using h0
            have hup := HUPk.out h0
            obtain ⟨bl2, o2, heq2, hcp⟩ := HLC.out (k - 1) (by omega)
            cases heq2
            have g0 : Wf.cell? ⟨bl, o + (k - 1) * 5, none⟩ = some (iV ((FL.getD (k - 1) fit0).1 : Nat)) := keep hbrC (hcp 0 _ rfl)
            generalize (FL.getD (k - 1) fit0).1 = fp at *
            have g1 := bwc g0
            have d4 : decide (ft ≤ fp) = false := by simpa using hup
            have d5 : decide (k - 1 < FL.length) = true := by simp; omega
            have u1 : IntKind.i64.wrap ((k : Int) - 1) = ((k - 1 : Nat) : Int) := by rw [IntWalk.i64_in _ (by omega)]; omega
            clear hXX
            go_wp2_with fail
            refine wp_region_bw (by kernel_rfl) (by kernel_rfl) ?_
            repeat (go_big_quiet_step (exact quiet (HFC.out _ (below2 hb3C (Bw.h _)))))
            refine wpQuiet_nil ?_
            rintro _ ⟨i1, rfl⟩
            have bF2 := bF.later i1.h
            have bM2 := bMr.later i1.h
            have hbrD := below2 hbrC i1.h
            have v0 := bF2.cell 0 rfl
            have v1 := bF2.cell 1 rfl
            have v2 := bF2.cell 2 rfl
            have v3 := bF2.cell 3 rfl
            have v4 := bF2.cell 4 rfl
            have m0 := bM2.cell 0 rfl
            have m1 := bM2.cell 1 rfl
            have m2 := bM2.cell 2 rfl
            cases hI : inFit FL M k
            · skip
              cases e0 : ((ft : Int) == M.turn)
              · skip
                go_wp2_with fail
                go_roundw
                case rel => exact ⟨k + 1, by omega, by go_num, by rw [hIK.out, hI]; first | (have e0' := e0; simp at e0'; simp [hasB, *]; done) | (simp [hasB, *]; done), hbrD⟩
                case measure => simp [intOf]; omega
              · cases e1 : decide (fxl ≤ M.dx)
                · skip
                  go_wp2_with fail
                  go_roundw
                  case rel => exact ⟨k + 1, by omega, by go_num, by rw [hIK.out, hI]; first | (have e0' := e0; simp at e0'; simp [hasB, *]; done) | (simp [hasB, *]; done), hbrD⟩
                  case measure => simp [intOf]; omega
                · cases e2 : decide (M.dx ≤ fxh)
                  · skip
                    go_wp2_with fail
                    go_roundw
                    case rel => exact ⟨k + 1, by omega, by go_num, by rw [hIK.out, hI]; first | (have e0' := e0; simp at e0'; simp [hasB, *]; done) | (simp [hasB, *]; done), hbrD⟩
                    case measure => simp [intOf]; omega
                  · cases e3 : decide (fyl ≤ M.dy)
                    · skip
                      go_wp2_with fail
                      go_roundw
                      case rel => exact ⟨k + 1, by omega, by go_num, by rw [hIK.out, hI]; first | (have e0' := e0; simp at e0'; simp [hasB, *]; done) | (simp [hasB, *]; done), hbrD⟩
                      case measure => simp [intOf]; omega
                    · cases e4 : decide (M.dy ≤ fyh)
                      · skip
                        go_wp2_with fail
                        go_roundw
                        case rel => exact ⟨k + 1, by omega, by go_num, by rw [hIK.out, hI]; first | (have e0' := e0; simp at e0'; simp [hasB, *]; done) | (simp [hasB, *]; done), hbrD⟩
                        case measure => simp [intOf]; omega
                      · skip
                        go_wp2_with fail
                        go_roundw
                        case rel => exact ⟨k + 1, by omega, by go_num, by rw [hIK.out, hI]; first | (have e0' := e0; simp at e0'; simp [hasB, *]; done) | (simp [hasB, *]; done), hbrD⟩
                        case measure => simp [intOf]; omega
            · skip
              go_wp2_with fail
              go_roundw
              case rel => exact ⟨k + 1, by omega, by go_num, by rw [hIK.out, hI]; first | (have e0' := e0; simp at e0'; simp [hasB, *]; done) | (simp [hasB, *]; done), hbrD⟩
              case measure => simp [intOf]; omega
          · have d3 : decide (0 < k) = false := by simpa using h0
            clear hXX
            go_wp2_with fail
            refine wp_region_bw (by kernel_rfl) (by kernel_rfl) ?_
            repeat (go_big_quiet_step (exact quiet (HFC.out _ (below2 hb3C (Bw.h _)))))
            refine wpQuiet_nil ?_
            rintro _ ⟨i1, rfl⟩
            have bF2 := bF.later i1.h
            have bM2 := bMr.later i1.h
            have hbrD := below2 hbrC i1.h
            have v0 := bF2.cell 0 rfl
            have v1 := bF2.cell 1 rfl
            have v2 := bF2.cell 2 rfl
            have v3 := bF2.cell 3 rfl
            have v4 := bF2.cell 4 rfl
            have m0 := bM2.cell 0 rfl
            have m1 := bM2.cell 1 rfl
            have m2 := bM2.cell 2 rfl
            cases hI : inFit FL M k
            · skip
              cases e0 : ((ft : Int) == M.turn)
              · skip
                go_wp2_with fail
                go_roundw
                case rel => exact ⟨k + 1, by omega, by go_num, by rw [hIK.out, hI]; first | (have e0' := e0; simp at e0'; simp [hasB, *]; done) | (simp [hasB, *]; done), hbrD⟩
                case measure => simp [intOf]; omega
              · cases e1 : decide (fxl ≤ M.dx)
                · skip
                  go_wp2_with fail
                  go_roundw
                  case rel => exact ⟨k + 1, by omega, by go_num, by rw [hIK.out, hI]; first | (have e0' := e0; simp at e0'; simp [hasB, *]; done) | (simp [hasB, *]; done), hbrD⟩
                  case measure => simp [intOf]; omega
                · cases e2 : decide (M.dx ≤ fxh)
                  · skip
                    go_wp2_with fail
                    go_roundw
                    case rel => exact ⟨k + 1, by omega, by go_num, by rw [hIK.out, hI]; first | (have e0' := e0; simp at e0'; simp [hasB, *]; done) | (simp [hasB, *]; done), hbrD⟩
                    case measure => simp [intOf]; omega
                  · cases e3 : decide (fyl ≤ M.dy)
                    · skip
                      go_wp2_with fail
                      go_roundw
                      case rel => exact ⟨k + 1, by omega, by go_num, by rw [hIK.out, hI]; first | (have e0' := e0; simp at e0'; simp [hasB, *]; done) | (simp [hasB, *]; done), hbrD⟩
                      case measure => simp [intOf]; omega
                    · cases e4 : decide (M.dy ≤ fyh)
                      · skip
                        go_wp2_with fail
                        go_roundw
                        case rel => exact ⟨k + 1, by omega, by go_num, by rw [hIK.out, hI]; first | (have e0' := e0; simp at e0'; simp [hasB, *]; done) | (simp [hasB, *]; done), hbrD⟩
                        case measure => simp [intOf]; omega
                      · skip
                        go_wp2_with fail
                        go_roundw
                        case rel => exact ⟨k + 1, by omega, by go_num, by rw [hIK.out, hI]; first | (have e0' := e0; simp at e0'; simp [hasB, *]; done) | (simp [hasB, *]; done), hbrD⟩
                        case measure => simp [intOf]; omega
            · skip
              go_wp2_with fail
              go_roundw
              case rel => exact ⟨k + 1, by omega, by go_num, by rw [hIK.out, hI]; first | (have e0' := e0; simp at e0'; simp [hasB, *]; done) | (simp [hasB, *]; done), hbrD⟩
              case measure => simp [intOf]; omega
        · obtain rfl : k = FL.length := by omega
          have hb3r := below2 hb310 hbr
          have bMr := bM10.later hbr
          have HFM := hide (fun (W : World) hb => fitting_any A C _ _ M W (DA3.below hb) (DC.below hb) (hG3.later hb))
          rw [← HALL.out] at HFM
          generalize inFit FL M FL.length = ph at *
          have r0 := (bMr).cell 0 rfl
          have r1 := (bMr).cell 1 rfl
          have r2 := (bMr).cell 2 rfl
          go_wp2_with fail
          refine (HFM.out _ hb3r).mono ?_
          rintro e w11 ⟨rfl, hb11⟩
          go_wp2_with fail
          go_ret
          exact ⟨rfl, hbw3.trans ((below2 hb3r hb11).mono hbw3.size)⟩
    · have HB := hide (err_no he M)
      have hez : (errR A C == 0) = false := by simpa using he
      generalize errR A C = E at *
      have r0 := (bM10).cell 0 rfl
      have r1 := (bM10).cell 1 rfl
      have r2 := (bM10).cell 2 rfl
      go_wp2_with fail
      refine (fitting_any A C _ _ M _ (DA3.below hb310) (DC.below hb310) (hG3.later hb310)).mono ?_
      rw [HB.out]
      rintro e w11 ⟨rfl, hb11⟩
      go_wp2_with fail
      go_ret
      exact ⟨rfl, hbw3.trans ((below2 hb310 hb11).mono hbw3.size)⟩
end Go.Proofs.YtoofkahklboojaaDoor
