/- Register: the walk of RegisterWitnesses. Conditions: how the truth and the global tables lie in memory; that integers are of 64 bits. -/
import Derived.Test.YtoofkahklboojaaDoorRkZS
import Derived.Test.YtoofkahklboojaaDoorRkQ
import Derived.Test.YtoofkahklboojaaDoorRhC
import Derived.Test.YtoofkahklboojaaDoorRtE
namespace Go.Proofs.YtoofkahklboojaaDoor
open Go.RowKit

theorem ltR {w W : World} {b : Nat} {vs : List Value} {t : TypeId} {B : Nat} (h : Blk w b vs t) (hb : Below B w W) : b < W.heap.size := Nat.lt_of_lt_of_le h.lt hb.size
set_option maxRecDepth 100000 in
set_option maxHeartbeats 4000000 in
theorem witl_any (t : TruthD) (mv fv tv ev : Value) (c0 c1 c2 : Int) (w : World) (ht : TruthAt w mv fv tv ev t) (h64 : Truth64 t) (k0 : i64B c0) (k1 : i64B c1) (k2 : i64B c2) (hG0 : Glob w) :
    Calls Tryd.prog 6 #[truthV mv fv tv ev t, iV c0, iV c1, iV c2] w (Ret (.bool true) w) := by
  have hval := surv_valid t
  have hin := way_in t
  have hbl := valid_len hval.2
  have hal := valid_len hval.1
  have hokA := valid_ok hval.1
  have hokB := valid_ok hval.2
  have hpos := survB_pos t
  have HSV := hide (fun (W : World) hb => surveys_any mv fv tv ev t W (ht.below hb) h64)
  have HWY := hide (fun (W : World) => way_any mv fv tv ev t W h64.mot (by obtain ⟨a, c, e, -⟩ := ht.marks; exact ⟨a, _, c, e⟩) (by obtain ⟨a, c, e, -⟩ := ht.finds; exact ⟨a, _, c, e⟩) (by obtain ⟨a, c, e, -⟩ := ht.tols; exact ⟨a, _, c, e⟩) (by obtain ⟨a, c, e, -⟩ := ht.errs; exact ⟨a, _, c, e⟩))
  have HP0 := hide (fun W => pickl_any c0 (survB t).length W k0 (by omega) (by omega))
  have HP1 := hide (fun W => pickl_any c1 33 W k1 (by decide) (by decide))
  have HP2 := hide (fun W => pickl_any c2 33 W k2 (by decide) (by decide))
  have q0 := pickR_in c0 (n := (survB t).length) (by omega)
  have q1 := pickR_in c1 (n := 33) (by decide)
  have q2 := pickR_in c2 (n := 33) (by decide)
  have HJE := hide (fun i h1 h2 => surv_err t (i := i) h1 h2)
  have HJL := hide (fun z h => surv_low (survA t) (survB t) (z := z) h)
  have HWT := hide (fun i h1 h2 => surv_wit t (i := i) h1 h2)
  obtain ⟨ma, mc, rfl, -, -, -⟩ := id' ht.marks
  obtain ⟨fa, fc, rfl, -, -, -⟩ := id' ht.finds
  obtain ⟨ta, tc, rfl, -, -, -⟩ := id' ht.tols
  obtain ⟨ea, ec, rfl, -, -, -⟩ := id' ht.errs
  generalize survA t = A at *
  generalize survB t = B at *
  generalize wayD t = M0 at *
  generalize pickR c1 33 = s1 at *
  generalize pickR c2 33 = s2 at *
  obtain ⟨n, hn⟩ : ∃ n : Nat, pickR c0 B.length = n := ⟨(pickR c0 B.length).toNat, by omega⟩
  rw [hn] at q0 HP0
  have hnl : n < B.length := by omega
  have hkl : decide (n < B.length) = true := by simpa using hnl
  have HLE : Hid (B.length < 1000000 ∧ A.length < 1000000) := hide ⟨by omega, by omega⟩
  clear hn q0 hpos hbl hal k0 k1 k2 hval
  obtain ⟨tu, dx, dy⟩ := M0
  dsimp only at hin
  obtain ⟨i1, i2, i3, i4, i5, i6⟩ := hin
  obtain ⟨q11, q12⟩ := q1
  obtain ⟨q21, q22⟩ := q2
  have u6 : IntKind.i64.wrap (dx + s1) = dx + s1 := IntWalk.i64_in _ (by omega)
  have u7 : IntKind.i64.wrap (dx + s1 - 16) = dx + s1 - 16 := IntWalk.i64_in _ (by omega)
  have u8 : IntKind.i64.wrap (dy + s2) = dy + s2 := IntWalk.i64_in _ (by omega)
  have u9 : IntKind.i64.wrap (dy + s2 - 16) = dy + s2 - 16 := IntWalk.i64_in _ (by omega)
  go_enter Tryd.func6, Tryd.ntmps6
  go_wp2_with fail
  generalize hX1 : World.alloc w _ = X1
  have zX1 : X1.heap.size = w.heap.size + 1 := by rw [← hX1]; simp
  have bX1 : Below w.heap.size w X1 := by rw [← hX1]; exact bal w _
  have bT : Blk X1 (w.heap.size) [.slice ma t.marks.length mc, .slice fa t.finds.length fc, iV t.mot.1, iV t.mot.2.1, iV t.mot.2.2, .slice ta t.tols.length tc, .slice ea t.errs.length ec] 28 := by rw [← hX1]; exact Blk.newA w _ (by first | rfl | simp)
  have Xb := bX1
  have Xz := zX1
  clear hX1 zX1 bX1
  refine (sane_any _ (hG0.later Xb)).mono ?_
  rintro e w1 ⟨rfl, hb1⟩
  have bT1 := bT.later hb1
  have hbw1 := below2 Xb hb1
  have t0 := (bT1).cell 0 rfl
  have t1 := (bT1).cell 1 rfl
  have t2 := (bT1).cell 2 rfl
  have t3 := (bT1).cell 3 rfl
  have t4 := (bT1).cell 4 rfl
  have t5 := (bT1).cell 5 rfl
  have t6 := (bT1).cell 6 rfl
  go_wp2_with fail
  refine (HSV.out _ hbw1).mono ?_
  rintro e w2 ⟨va, vb, rfl, ⟨hA0, hB0⟩, hb2⟩
  have DA : DotsAt w2 va A := hA0.at
  have DB : DotsAt w2 vb B := hB0.at
  have bT2 := bT1.later hb2
  have hbw2 := below2 hbw1 hb2
  have hG2 := hG0.later hbw2
  obtain ⟨aa, ac, rfl, -, -, -⟩ := id DA
  obtain ⟨ba, bc, rfl, -, -, hbc⟩ := id DB
  clear hA0 hB0 t0 t1 t2 t3 t4 t5 t6
  obtain ⟨bl, o, heq, hck⟩ := hbc n hnl
  subst heq
  have HJ := hide (fun (W : World) hb => judge_any A B _ _ (B.getD n dot0).id W (DA.below hb) (DB.below hb) HLE.out.1 HLE.out.2 (hG2.later hb))
  have HJEn := hide (HJE.out n hnl)
  have HWTn := hide (HWT.out n hnl)
  have hokq : dotOk (B.getD n dot0) = true := hokB _ (getD_mem B n (d := dot0) hnl)
  clear hbc HJE HWT
  generalize hQQ : B.getD n dot0 = Q at *
  have HCK := hide (fun (W : World) (hb : Below w2.heap.size w2 W) (j : Nat) (v : Value) hv => keep hb (hck j v hv))
  clear hck hQQ
  go_wp2_with fail
  refine (HP0.out _).mono ?_
  rintro e w3 ⟨rfl, hb3⟩
  have e0 : w3.cell? ⟨bl, o + n * 4, none⟩ = some (iV Q.id) := HCK.out _ hb3 0 _ rfl
  have e1 : w3.cell? ⟨bl, o + n * 4 + 1, none⟩ = some (iV Q.x) := HCK.out _ hb3 1 _ rfl
  have e2 : w3.cell? ⟨bl, o + n * 4 + 2, none⟩ = some (iV Q.y) := HCK.out _ hb3 2 _ rfl
  have e3 : w3.cell? ⟨bl, o + n * 4 + 3, none⟩ = some (iV Q.tol) := HCK.out _ hb3 3 _ rfl
  go_wp2_with fail
  generalize hXX : World.alloc w3 _ = W3
  have hb4 : Below w3.heap.size w3 W3 := by rw [← hXX]; exact bal w3 _
  have bQ : Blk W3 w3.heap.size [iV Q.id, iV Q.x, iV Q.y, iV Q.tol] 53 := by rw [← hXX]; exact Blk.newA w3 _ rfl
  have hb24 := below2 hb3 hb4
  have bT4 := bT2.later hb24
  clear hXX e0 e1 e2 e3
  refine (HJ.out _ hb24).mono ?_
  rintro e w5 ⟨rfl, hb5⟩
  by_cases h19 : Q.id ≤ 19
  · have h20 : decide (Q.id ≤ 19) = true := by simpa using h19
    have HE := hide (HJL.out _ h19)
    rw [HE.out]
    have bQ5 := bQ.later hb5
    generalize hVV : judV A B Q.id = V at *
    obtain ⟨vk, ⟨v1, v2, v3⟩, vp, v4, v5, v6⟩ := V
    have hbw5 := hbw2.trans ((below2 hb24 hb5).mono hbw2.size)
    have q0 := bQ5.cell 0 rfl
    have lq := bQ5.lt
    clear HE hVV h19
    go_wp2_with fail
    go_ret
    exact ⟨rfl, hbw5.trans ((bal w5 _).mono hbw5.size)⟩
  · have h20 : decide (Q.id ≤ 19) = false := by simpa using h19
    have HE := hide (HJEn.out (by omega))
    obtain ⟨hkd, hw1, hw2, hw3⟩ := HWTn.out (by omega)
    rw [HE.out]
    have bQ5 := bQ.later hb5
    have bT5 := bT4.later hb5
    generalize hVV : judV A B Q.id = V at *
    obtain ⟨vk, ⟨v1, v2, v3⟩, vp, v4, v5, v6⟩ := V
    dsimp only at hkd hw1 hw2 hw3
    have hW1 := hide hw1
    have hW2 := hide hw2
    have hW3 := hide hw3
    have hb25 := below2 hb24 hb5
    have q0 := bQ5.cell 0 rfl
    have lq := bQ5.lt
    clear HE hVV h19 hw1 hw2 hw3 HJEn HWTn HJL HJ
    have HF := hide (fun (W : World) hb m => fitting_any A B _ _ m W (DA.below hb) (DB.below hb) (hG2.later hb))
    have HP := hide (fun (W : World) hb m => partnerl_any A _ Q m W (DA.below hb) hokA hokq (hG2.later hb))
    rcases hkd with rfl | rfl | rfl
    · obtain ⟨f2, p2⟩ := hW2.out (by decide)
      have HFN := hide (fun W hb => HF.out W hb ⟨v4, v5, v6⟩)
      have HPN := hide (fun W hb => HP.out W hb ⟨v4, v5, v6⟩)
      rw [f2] at HFN
      generalize partnerD A Q ⟨v4, v5, v6⟩ = P2 at *
      have d2 : decide (0 ≤ P2) = false := by simpa using p2
      clear f2 p2 hW1 hW2
      go_wp2_with fail
      generalize hXX : World.alloc w5 _ = W6
      have hb6 : Below w5.heap.size w5 W6 := by rw [← hXX]; exact bal w5 _
      have bV6 : Blk W6 w5.heap.size [iV 1, iV v1, iV v2, iV v3, iV vp, iV v4, iV v5, iV v6] 55 := by rw [← hXX]; exact Blk.newA w5 _ rfl
      have bQ6 := bQ5.later hb6
      have bT6 := bT5.later hb6
      have hb26 := below2 hb25 hb6
      clear hXX q0 lq
      have v0 := bwc ((bV6).cell 0 rfl)
      have v1' := bwc ((bV6).cell 1 rfl)
      have v2' := bwc ((bV6).cell 2 rfl)
      have v3' := bwc ((bV6).cell 3 rfl)
      have v4' := bwc ((bV6).cell 4 rfl)
      have v5' := bwc ((bV6).cell 5 rfl)
      have v6' := bwc ((bV6).cell 6 rfl)
      have v7' := bwc ((bV6).cell 7 rfl)
      have q0 := bwc ((bQ6).cell 0 rfl)
      have q1 := bwc ((bQ6).cell 1 rfl)
      have q2 := bwc ((bQ6).cell 2 rfl)
      have q3 := bwc ((bQ6).cell 3 rfl)
      refine wp_region_bw (by kernel_rfl) (by kernel_rfl) ?_
      repeat (go_big_quiet_step (fail))
      refine wpQuiet_nil ?_
      rintro _ ⟨i0, rfl⟩
      have bT7 := bT6.later i0.h
      have bV7 := bV6.later i0.h
      have bQ7 := bQ6.later i0.h
      have hb27 := below2 hb26 i0.h
      generalize i0.W = WJ at *
      clear v0 v1' v2' v3' v4' v5' v6' v7' q0 q1 q2 q3
      have v0 := id ((bV7).cell 0 rfl)
      have v1' := id ((bV7).cell 1 rfl)
      have v2' := id ((bV7).cell 2 rfl)
      have v3' := id ((bV7).cell 3 rfl)
      have v4' := id ((bV7).cell 4 rfl)
      have v5' := id ((bV7).cell 5 rfl)
      have v6' := id ((bV7).cell 6 rfl)
      have v7' := id ((bV7).cell 7 rfl)
      have q0 := id ((bQ7).cell 0 rfl)
      have q1 := id ((bQ7).cell 1 rfl)
      have q2 := id ((bQ7).cell 2 rfl)
      have q3 := id ((bQ7).cell 3 rfl)
      go_wp2_with fail
      refine (HFN.out _ hb27).mono ?_
      rintro e wa ⟨rfl, hba⟩
      have bT8 := bT7.later hba
      have bV8 := bV7.later hba
      have bQ8 := bQ7.later hba
      have hb28 := below2 hb27 hba
      clear v0 v1' v2' v3' v4' v5' v6' v7' q0 q1 q2 q3
      have v0 := id ((bV8).cell 0 rfl)
      have v1' := id ((bV8).cell 1 rfl)
      have v2' := id ((bV8).cell 2 rfl)
      have v3' := id ((bV8).cell 3 rfl)
      have v4' := id ((bV8).cell 4 rfl)
      have v5' := id ((bV8).cell 5 rfl)
      have v6' := id ((bV8).cell 6 rfl)
      have v7' := id ((bV8).cell 7 rfl)
      have q0 := id ((bQ8).cell 0 rfl)
      have q1 := id ((bQ8).cell 1 rfl)
      have q2 := id ((bQ8).cell 2 rfl)
      have q3 := id ((bQ8).cell 3 rfl)
      go_wp2_with fail
      refine (HPN.out _ hb28).mono ?_
      rintro e wb ⟨rfl, hbb⟩
      replace bT7 := bT8.later hbb
      replace bV7 := bV8.later hbb
      replace bQ7 := bQ8.later hbb
      replace hb27 := below2 hb28 hbb
      clear v0 v1' v2' v3' v4' v5' v6' v7' q0 q1 q2 q3 bT8 bV8 bQ8 hb28
      have bT8 := bT7
      have bV8 := bV7
      have bQ8 := bQ7
      have hb28 := hb27
      have t0 := (bT8).cell 0 rfl
      have t1 := (bT8).cell 1 rfl
      have t2 := (bT8).cell 2 rfl
      have t3 := (bT8).cell 3 rfl
      have t4 := (bT8).cell 4 rfl
      have t5 := (bT8).cell 5 rfl
      have t6 := (bT8).cell 6 rfl
      go_wp2_with fail
      refine (HWY.out _).mono ?_
      rintro e w3 ⟨rfl, hb3⟩
      clear t0 t1 t2 t3 t4 t5 t6
      go_wp2_with fail
      generalize hXX : World.alloc w3 _ = W4
      have hb4 : Below w3.heap.size w3 W4 := by rw [← hXX]; exact bal w3 _
      have bM : Blk W4 w3.heap.size [iV tu, iV dx, iV dy] 32 := by rw [← hXX]; exact Blk.newA w3 _ rfl
      have hb84 := below2 hb3 hb4
      have bV9 := bV8.later hb84
      have bQ9 := bQ8.later hb84
      have hb24 := below2 hb28 hb84
      have hR : w2.heap.size ≤ w3.heap.size := (below2 hb28 hb3).size
      have hQR := ltR bQ8 hb3
      have hVR := ltR bV8 hb3
      generalize w3.heap.size = R at *
      clear hXX bV8 bQ8 bT8 bV7 bQ7 bT7
      refine wp_region_inv [some 104, some 105, some 106, some 107, some 108, some 109, some 110, none] (fun L vs W => match vs with | [x0, x1, x2, x3, x4, x5, x6, x7] => (BoxG w2 W4 R 32 [iV tu, iV dx, iV dy] [iV tu, iV (dx + s1 - 16), iV dy] (L 7) W) ∧ (L 0 = true → x0 = .pointer (some ⟨R, 1, none⟩)) ∧ (L 1 = true → x1 = iV dx) ∧ (L 2 = true → x2 = iV c1) ∧ (L 3 = true → x3 = iV s1) ∧ (L 4 = true → L 1 = true ∧ x4 = iV (dx + s1)) ∧ (L 5 = true → L 1 = true ∧ x5 = iV (dx + s1 - 16)) ∧ (L 6 = true → x6 = .pointer (some ⟨R, 1, none⟩)) ∧ (L 7 = true → L 1 = true) | _ => False) [_, _, _, _, _, _, _, undef] (by kernel_rfl) (by kernel_rfl) rfl (by simp only [puts, Act.put, List.setIfInBounds_toArray, List.set_cons_zero, List.set_cons_succ] <;> rfl) ?_ ?_ ?_
      · exact ⟨BoxG.first hb24 bM, (fun h => by cases h), (fun h => by cases h), (fun h => by cases h), (fun h => by cases h), (fun h => by cases h), (fun h => by cases h), (fun h => by cases h), (fun h => by cases h)⟩
      · refine ⟨?_, ?_, ?_, ?_, ?_, ?_, ?_, ?_, trivial⟩
        · intro L vs W hlen hL hD hI K hK
          obtain ⟨x0, x1, x2, x3, x4, x5, x6, x7, rfl⟩ := len8 hlen
          have hG := hI.1
          replace hI := hI.2
          have f0 := hide hI.1
          replace hI := hI.2
          have f1 := hide hI.1
          replace hI := hI.2
          have f2 := hide hI.1
          replace hI := hI.2
          have f3 := hide hI.1
          replace hI := hI.2
          have f4 := hide hI.1
          replace hI := hI.2
          have f5 := hide hI.1
          replace hI := hI.2
          have f6 := hide hI.1
          replace hI := hI.2
          have f7 := hide hI
          clear hI
          have r0 := hG.hb
          try simp only [puts, Act.put, List.setIfInBounds_toArray, List.set_cons_zero, List.set_cons_succ]
          try go_simp
          exact hK.out _ _ _ (by simp only [puts, Act.put, List.setIfInBounds_toArray, List.set_cons_zero, List.set_cons_succ] <;> rfl) ⟨hG, (fun _ => rfl), (fun h => f1.out h), (fun h => f2.out h), (fun h => f3.out h), (fun h => f4.out h), (fun h => f5.out h), (fun h => f6.out h), (fun h => f7.out h)⟩
        · intro L vs W hlen hL hD hI K hK
          obtain ⟨x0, x1, x2, x3, x4, x5, x6, x7, rfl⟩ := len8 hlen
          have hG := hI.1
          replace hI := hI.2
          have f0 := hide hI.1
          replace hI := hI.2
          have f1 := hide hI.1
          replace hI := hI.2
          have f2 := hide hI.1
          replace hI := hI.2
          have f3 := hide hI.1
          replace hI := hI.2
          have f4 := hide hI.1
          replace hI := hI.2
          have f5 := hide hI.1
          replace hI := hI.2
          have f6 := hide hI.1
          replace hI := hI.2
          have f7 := hide hI
          clear hI
          have r0 := hG.hb
          obtain rfl := f0.out (hD.on 0 (by kernel_rfl))
          try simp only [puts, Act.put, List.setIfInBounds_toArray, List.set_cons_zero, List.set_cons_succ]
          have h7 : L 7 = false := Bool.eq_false_iff.2 (fun h => absurd ((f7.out h).symm.trans hL) (by decide))
          have hG7 := hG
          rw [h7] at hG7
          have r0 := hG7.box.cell 1 rfl
          go_simp
          exact hK.out _ _ _ (by simp only [puts, Act.put, List.setIfInBounds_toArray, List.set_cons_zero, List.set_cons_succ] <;> rfl) ⟨hG, (fun h => f0.out h), (fun _ => rfl), (fun h => f2.out h), (fun h => f3.out h), (fun h => (fun h => ⟨rfl, h.2⟩) (f4.out h)), (fun h => (fun h => ⟨rfl, h.2⟩) (f5.out h)), (fun h => f6.out h), (fun h => (fun _ => rfl) (f7.out h))⟩
        · intro L vs W hlen hL hD hI K hK
          obtain ⟨x0, x1, x2, x3, x4, x5, x6, x7, rfl⟩ := len8 hlen
          have hG := hI.1
          replace hI := hI.2
          have f0 := hide hI.1
          replace hI := hI.2
          have f1 := hide hI.1
          replace hI := hI.2
          have f2 := hide hI.1
          replace hI := hI.2
          have f3 := hide hI.1
          replace hI := hI.2
          have f4 := hide hI.1
          replace hI := hI.2
          have f5 := hide hI.1
          replace hI := hI.2
          have f6 := hide hI.1
          replace hI := hI.2
          have f7 := hide hI
          clear hI
          have r0 := hG.hb
          try simp only [puts, Act.put, List.setIfInBounds_toArray, List.set_cons_zero, List.set_cons_succ]
          try go_simp
          exact hK.out _ _ _ (by simp only [puts, Act.put, List.setIfInBounds_toArray, List.set_cons_zero, List.set_cons_succ] <;> rfl) ⟨hG, (fun h => f0.out h), (fun h => f1.out h), (fun _ => rfl), (fun h => f3.out h), (fun h => f4.out h), (fun h => f5.out h), (fun h => f6.out h), (fun h => f7.out h)⟩
        · intro L vs W hlen hL hD hI K hK
          obtain ⟨x0, x1, x2, x3, x4, x5, x6, x7, rfl⟩ := len8 hlen
          have hG := hI.1
          replace hI := hI.2
          have f0 := hide hI.1
          replace hI := hI.2
          have f1 := hide hI.1
          replace hI := hI.2
          have f2 := hide hI.1
          replace hI := hI.2
          have f3 := hide hI.1
          replace hI := hI.2
          have f4 := hide hI.1
          replace hI := hI.2
          have f5 := hide hI.1
          replace hI := hI.2
          have f6 := hide hI.1
          replace hI := hI.2
          have f7 := hide hI
          clear hI
          have r0 := hG.hb
          obtain rfl := f2.out (hD.on 2 (by kernel_rfl))
          try simp only [puts, Act.put, List.setIfInBounds_toArray, List.set_cons_zero, List.set_cons_succ]
          try go_simp
          refine (HP1.out _).mono ?_
          rintro e W' ⟨rfl, hb⟩
          try go_simp
          exact hK.out _ _ _ (by simp only [puts, Act.put, List.setIfInBounds_toArray, List.set_cons_zero, List.set_cons_succ] <;> rfl) ⟨hG.later hb, (fun h => f0.out h), (fun h => f1.out h), (fun h => f2.out h), (fun _ => rfl), (fun h => f4.out h), (fun h => f5.out h), (fun h => f6.out h), (fun h => f7.out h)⟩
        · intro L vs W hlen hL hD hI K hK
          obtain ⟨x0, x1, x2, x3, x4, x5, x6, x7, rfl⟩ := len8 hlen
          have hG := hI.1
          replace hI := hI.2
          have f0 := hide hI.1
          replace hI := hI.2
          have f1 := hide hI.1
          replace hI := hI.2
          have f2 := hide hI.1
          replace hI := hI.2
          have f3 := hide hI.1
          replace hI := hI.2
          have f4 := hide hI.1
          replace hI := hI.2
          have f5 := hide hI.1
          replace hI := hI.2
          have f6 := hide hI.1
          replace hI := hI.2
          have f7 := hide hI
          clear hI
          have r0 := hG.hb
          obtain rfl := f1.out (hD.on 1 (by kernel_rfl))
          obtain rfl := f3.out (hD.on 3 (by kernel_rfl))
          try simp only [puts, Act.put, List.setIfInBounds_toArray, List.set_cons_zero, List.set_cons_succ]
          try go_simp
          exact hK.out _ _ _ (by simp only [puts, Act.put, List.setIfInBounds_toArray, List.set_cons_zero, List.set_cons_succ] <;> rfl) ⟨hG, (fun h => f0.out h), (fun h => f1.out h), (fun h => f2.out h), (fun h => f3.out h), (fun _ => ⟨hD.on 1 (by kernel_rfl), rfl⟩), (fun h => f5.out h), (fun h => f6.out h), (fun h => f7.out h)⟩
        · intro L vs W hlen hL hD hI K hK
          obtain ⟨x0, x1, x2, x3, x4, x5, x6, x7, rfl⟩ := len8 hlen
          have hG := hI.1
          replace hI := hI.2
          have f0 := hide hI.1
          replace hI := hI.2
          have f1 := hide hI.1
          replace hI := hI.2
          have f2 := hide hI.1
          replace hI := hI.2
          have f3 := hide hI.1
          replace hI := hI.2
          have f4 := hide hI.1
          replace hI := hI.2
          have f5 := hide hI.1
          replace hI := hI.2
          have f6 := hide hI.1
          replace hI := hI.2
          have f7 := hide hI
          clear hI
          have r0 := hG.hb
          have g4 := f4.out (hD.on 4 (by kernel_rfl))
          try simp only [puts, Act.put, List.setIfInBounds_toArray, List.set_cons_zero, List.set_cons_succ]
          obtain rfl := g4.2
          go_simp
          exact hK.out _ _ _ (by simp only [puts, Act.put, List.setIfInBounds_toArray, List.set_cons_zero, List.set_cons_succ] <;> rfl) ⟨hG, (fun h => f0.out h), (fun h => f1.out h), (fun h => f2.out h), (fun h => f3.out h), (fun h => f4.out h), (fun _ => ⟨g4.1, rfl⟩), (fun h => f6.out h), (fun h => f7.out h)⟩
        · intro L vs W hlen hL hD hI K hK
          obtain ⟨x0, x1, x2, x3, x4, x5, x6, x7, rfl⟩ := len8 hlen
          have hG := hI.1
          replace hI := hI.2
          have f0 := hide hI.1
          replace hI := hI.2
          have f1 := hide hI.1
          replace hI := hI.2
          have f2 := hide hI.1
          replace hI := hI.2
          have f3 := hide hI.1
          replace hI := hI.2
          have f4 := hide hI.1
          replace hI := hI.2
          have f5 := hide hI.1
          replace hI := hI.2
          have f6 := hide hI.1
          replace hI := hI.2
          have f7 := hide hI
          clear hI
          have r0 := hG.hb
          try simp only [puts, Act.put, List.setIfInBounds_toArray, List.set_cons_zero, List.set_cons_succ]
          try go_simp
          exact hK.out _ _ _ (by simp only [puts, Act.put, List.setIfInBounds_toArray, List.set_cons_zero, List.set_cons_succ] <;> rfl) ⟨hG, (fun h => f0.out h), (fun h => f1.out h), (fun h => f2.out h), (fun h => f3.out h), (fun h => f4.out h), (fun h => f5.out h), (fun _ => rfl), (fun h => f7.out h)⟩
        · intro L vs W hlen hL hD hI K hK
          obtain ⟨x0, x1, x2, x3, x4, x5, x6, x7, rfl⟩ := len8 hlen
          have hG := hI.1
          replace hI := hI.2
          have f0 := hide hI.1
          replace hI := hI.2
          have f1 := hide hI.1
          replace hI := hI.2
          have f2 := hide hI.1
          replace hI := hI.2
          have f3 := hide hI.1
          replace hI := hI.2
          have f4 := hide hI.1
          replace hI := hI.2
          have f5 := hide hI.1
          replace hI := hI.2
          have f6 := hide hI.1
          replace hI := hI.2
          have f7 := hide hI
          clear hI
          have r0 := hG.hb
          have g5 := f5.out (hD.on 5 (by kernel_rfl))
          obtain rfl := f6.out (hD.on 6 (by kernel_rfl))
          try simp only [puts, Act.put, List.setIfInBounds_toArray, List.set_cons_zero, List.set_cons_succ]
          obtain rfl := g5.2
          have hG7 := hG
          rw [hL] at hG7
          have z0 := hG7.box.frozen 1
          have z1 := hG7.box.cell 1 rfl
          go_simp
          have hb := Below.refl W.heap.size W
          exact hK.out _ undef _ (by simp only [puts, Act.put, List.setIfInBounds_toArray, List.set_cons_zero, List.set_cons_succ] <;> rfl) ⟨hG7.at1 hR, (fun h => f0.out h), (fun h => f1.out h), (fun h => f2.out h), (fun h => f3.out h), (fun h => f4.out h), (fun h => f5.out h), (fun h => f6.out h), (fun _ => g5.1)⟩
      intro L vs W hlen hall hI
      obtain ⟨x0, x1, x2, x3, x4, x5, x6, x7, rfl⟩ := len8 hlen
      have hG := hI.1
      replace hI := hI.2
      have f0 := hide hI.1
      replace hI := hI.2
      have f1 := hide hI.1
      replace hI := hI.2
      have f2 := hide hI.1
      replace hI := hI.2
      have f3 := hide hI.1
      replace hI := hI.2
      have f4 := hide hI.1
      replace hI := hI.2
      have f5 := hide hI.1
      replace hI := hI.2
      have f6 := hide hI.1
      replace hI := hI.2
      have f7 := hide hI
      clear hI
      obtain rfl := f0.out (hall 0 (by decide))
      obtain rfl := f1.out (hall 1 (by decide))
      obtain rfl := f2.out (hall 2 (by decide))
      obtain rfl := f3.out (hall 3 (by decide))
      have g4 := f4.out (hall 4 (by decide))
      have g5 := f5.out (hall 5 (by decide))
      obtain rfl := f6.out (hall 6 (by decide))
      have g7 := f7.out (hall 7 (by decide))
      have hal := hide hall
      clear hall f0 f1 f2 f3 f4 f5 f6 f7
      try simp only [puts, Act.put, List.setIfInBounds_toArray, List.set_cons_zero, List.set_cons_succ]
      rw [hal.out 7 (by decide)] at hG
      have bM6 := hG.done
      have hb26 := hG.hb
      have bV10 := hG.blk bV9 (Nat.ne_of_lt hVR)
      have bQ10 := hG.blk bQ9 (Nat.ne_of_lt hQR)
      obtain rfl := g4.2
      obtain rfl := g5.2
      clear hG g4 g5 g7 hal bM bV9 bQ9
      obtain ⟨W6, hW6⟩ : ∃ Z, Z = W := ⟨_, rfl⟩
      subst hW6
      go_wp2_with fail
      refine wp_region_inv [some 111, some 112, some 113, some 114, some 115, some 116, some 117, none] (fun L vs W => match vs with | [x0, x1, x2, x3, x4, x5, x6, x7] => (BoxG w2 W6 R 32 [iV tu, iV (dx + s1 - 16), iV dy] [iV tu, iV (dx + s1 - 16), iV (dy + s2 - 16)] (L 7) W) ∧ (L 0 = true → x0 = .pointer (some ⟨R, 2, none⟩)) ∧ (L 1 = true → x1 = iV dy) ∧ (L 2 = true → x2 = iV c2) ∧ (L 3 = true → x3 = iV s2) ∧ (L 4 = true → L 1 = true ∧ x4 = iV (dy + s2)) ∧ (L 5 = true → L 1 = true ∧ x5 = iV (dy + s2 - 16)) ∧ (L 6 = true → x6 = .pointer (some ⟨R, 2, none⟩)) ∧ (L 7 = true → L 1 = true) | _ => False) [_, _, _, _, _, _, _, undef] (by kernel_rfl) (by kernel_rfl) rfl (by simp only [puts, Act.put, List.setIfInBounds_toArray, List.set_cons_zero, List.set_cons_succ] <;> rfl) ?_ ?_ ?_
      · exact ⟨BoxG.first hb26 bM6, (fun h => by cases h), (fun h => by cases h), (fun h => by cases h), (fun h => by cases h), (fun h => by cases h), (fun h => by cases h), (fun h => by cases h), (fun h => by cases h)⟩
      · refine ⟨?_, ?_, ?_, ?_, ?_, ?_, ?_, ?_, trivial⟩
        · intro L vs W hlen hL hD hI K hK
          obtain ⟨x0, x1, x2, x3, x4, x5, x6, x7, rfl⟩ := len8 hlen
          have hG := hI.1
          replace hI := hI.2
          have f0 := hide hI.1
          replace hI := hI.2
          have f1 := hide hI.1
          replace hI := hI.2
          have f2 := hide hI.1
          replace hI := hI.2
          have f3 := hide hI.1
          replace hI := hI.2
          have f4 := hide hI.1
          replace hI := hI.2
          have f5 := hide hI.1
          replace hI := hI.2
          have f6 := hide hI.1
          replace hI := hI.2
          have f7 := hide hI
          clear hI
          have r0 := hG.hb
          try simp only [puts, Act.put, List.setIfInBounds_toArray, List.set_cons_zero, List.set_cons_succ]
          try go_simp
          exact hK.out _ _ _ (by simp only [puts, Act.put, List.setIfInBounds_toArray, List.set_cons_zero, List.set_cons_succ] <;> rfl) ⟨hG, (fun _ => rfl), (fun h => f1.out h), (fun h => f2.out h), (fun h => f3.out h), (fun h => f4.out h), (fun h => f5.out h), (fun h => f6.out h), (fun h => f7.out h)⟩
        · intro L vs W hlen hL hD hI K hK
          obtain ⟨x0, x1, x2, x3, x4, x5, x6, x7, rfl⟩ := len8 hlen
          have hG := hI.1
          replace hI := hI.2
          have f0 := hide hI.1
          replace hI := hI.2
          have f1 := hide hI.1
          replace hI := hI.2
          have f2 := hide hI.1
          replace hI := hI.2
          have f3 := hide hI.1
          replace hI := hI.2
          have f4 := hide hI.1
          replace hI := hI.2
          have f5 := hide hI.1
          replace hI := hI.2
          have f6 := hide hI.1
          replace hI := hI.2
          have f7 := hide hI
          clear hI
          have r0 := hG.hb
          obtain rfl := f0.out (hD.on 0 (by kernel_rfl))
          try simp only [puts, Act.put, List.setIfInBounds_toArray, List.set_cons_zero, List.set_cons_succ]
          have h7 : L 7 = false := Bool.eq_false_iff.2 (fun h => absurd ((f7.out h).symm.trans hL) (by decide))
          have hG7 := hG
          rw [h7] at hG7
          have r0 := hG7.box.cell 2 rfl
          go_simp
          exact hK.out _ _ _ (by simp only [puts, Act.put, List.setIfInBounds_toArray, List.set_cons_zero, List.set_cons_succ] <;> rfl) ⟨hG, (fun h => f0.out h), (fun _ => rfl), (fun h => f2.out h), (fun h => f3.out h), (fun h => (fun h => ⟨rfl, h.2⟩) (f4.out h)), (fun h => (fun h => ⟨rfl, h.2⟩) (f5.out h)), (fun h => f6.out h), (fun h => (fun _ => rfl) (f7.out h))⟩
        · intro L vs W hlen hL hD hI K hK
          obtain ⟨x0, x1, x2, x3, x4, x5, x6, x7, rfl⟩ := len8 hlen
          have hG := hI.1
          replace hI := hI.2
          have f0 := hide hI.1
          replace hI := hI.2
          have f1 := hide hI.1
          replace hI := hI.2
          have f2 := hide hI.1
          replace hI := hI.2
          have f3 := hide hI.1
          replace hI := hI.2
          have f4 := hide hI.1
          replace hI := hI.2
          have f5 := hide hI.1
          replace hI := hI.2
          have f6 := hide hI.1
          replace hI := hI.2
          have f7 := hide hI
          clear hI
          have r0 := hG.hb
          try simp only [puts, Act.put, List.setIfInBounds_toArray, List.set_cons_zero, List.set_cons_succ]
          try go_simp
          exact hK.out _ _ _ (by simp only [puts, Act.put, List.setIfInBounds_toArray, List.set_cons_zero, List.set_cons_succ] <;> rfl) ⟨hG, (fun h => f0.out h), (fun h => f1.out h), (fun _ => rfl), (fun h => f3.out h), (fun h => f4.out h), (fun h => f5.out h), (fun h => f6.out h), (fun h => f7.out h)⟩
        · intro L vs W hlen hL hD hI K hK
          obtain ⟨x0, x1, x2, x3, x4, x5, x6, x7, rfl⟩ := len8 hlen
          have hG := hI.1
          replace hI := hI.2
          have f0 := hide hI.1
          replace hI := hI.2
          have f1 := hide hI.1
          replace hI := hI.2
          have f2 := hide hI.1
          replace hI := hI.2
          have f3 := hide hI.1
          replace hI := hI.2
          have f4 := hide hI.1
          replace hI := hI.2
          have f5 := hide hI.1
          replace hI := hI.2
          have f6 := hide hI.1
          replace hI := hI.2
          have f7 := hide hI
          clear hI
          have r0 := hG.hb
          obtain rfl := f2.out (hD.on 2 (by kernel_rfl))
          try simp only [puts, Act.put, List.setIfInBounds_toArray, List.set_cons_zero, List.set_cons_succ]
          try go_simp
          refine (HP2.out _).mono ?_
          rintro e W' ⟨rfl, hb⟩
          try go_simp
          exact hK.out _ _ _ (by simp only [puts, Act.put, List.setIfInBounds_toArray, List.set_cons_zero, List.set_cons_succ] <;> rfl) ⟨hG.later hb, (fun h => f0.out h), (fun h => f1.out h), (fun h => f2.out h), (fun _ => rfl), (fun h => f4.out h), (fun h => f5.out h), (fun h => f6.out h), (fun h => f7.out h)⟩
        · intro L vs W hlen hL hD hI K hK
          obtain ⟨x0, x1, x2, x3, x4, x5, x6, x7, rfl⟩ := len8 hlen
          have hG := hI.1
          replace hI := hI.2
          have f0 := hide hI.1
          replace hI := hI.2
          have f1 := hide hI.1
          replace hI := hI.2
          have f2 := hide hI.1
          replace hI := hI.2
          have f3 := hide hI.1
          replace hI := hI.2
          have f4 := hide hI.1
          replace hI := hI.2
          have f5 := hide hI.1
          replace hI := hI.2
          have f6 := hide hI.1
          replace hI := hI.2
          have f7 := hide hI
          clear hI
          have r0 := hG.hb
          obtain rfl := f1.out (hD.on 1 (by kernel_rfl))
          obtain rfl := f3.out (hD.on 3 (by kernel_rfl))
          try simp only [puts, Act.put, List.setIfInBounds_toArray, List.set_cons_zero, List.set_cons_succ]
          try go_simp
          exact hK.out _ _ _ (by simp only [puts, Act.put, List.setIfInBounds_toArray, List.set_cons_zero, List.set_cons_succ] <;> rfl) ⟨hG, (fun h => f0.out h), (fun h => f1.out h), (fun h => f2.out h), (fun h => f3.out h), (fun _ => ⟨hD.on 1 (by kernel_rfl), rfl⟩), (fun h => f5.out h), (fun h => f6.out h), (fun h => f7.out h)⟩
        · intro L vs W hlen hL hD hI K hK
          obtain ⟨x0, x1, x2, x3, x4, x5, x6, x7, rfl⟩ := len8 hlen
          have hG := hI.1
          replace hI := hI.2
          have f0 := hide hI.1
          replace hI := hI.2
          have f1 := hide hI.1
          replace hI := hI.2
          have f2 := hide hI.1
          replace hI := hI.2
          have f3 := hide hI.1
          replace hI := hI.2
          have f4 := hide hI.1
          replace hI := hI.2
          have f5 := hide hI.1
          replace hI := hI.2
          have f6 := hide hI.1
          replace hI := hI.2
          have f7 := hide hI
          clear hI
          have r0 := hG.hb
          have g4 := f4.out (hD.on 4 (by kernel_rfl))
          try simp only [puts, Act.put, List.setIfInBounds_toArray, List.set_cons_zero, List.set_cons_succ]
          obtain rfl := g4.2
          go_simp
          exact hK.out _ _ _ (by simp only [puts, Act.put, List.setIfInBounds_toArray, List.set_cons_zero, List.set_cons_succ] <;> rfl) ⟨hG, (fun h => f0.out h), (fun h => f1.out h), (fun h => f2.out h), (fun h => f3.out h), (fun h => f4.out h), (fun _ => ⟨g4.1, rfl⟩), (fun h => f6.out h), (fun h => f7.out h)⟩
        · intro L vs W hlen hL hD hI K hK
          obtain ⟨x0, x1, x2, x3, x4, x5, x6, x7, rfl⟩ := len8 hlen
          have hG := hI.1
          replace hI := hI.2
          have f0 := hide hI.1
          replace hI := hI.2
          have f1 := hide hI.1
          replace hI := hI.2
          have f2 := hide hI.1
          replace hI := hI.2
          have f3 := hide hI.1
          replace hI := hI.2
          have f4 := hide hI.1
          replace hI := hI.2
          have f5 := hide hI.1
          replace hI := hI.2
          have f6 := hide hI.1
          replace hI := hI.2
          have f7 := hide hI
          clear hI
          have r0 := hG.hb
          try simp only [puts, Act.put, List.setIfInBounds_toArray, List.set_cons_zero, List.set_cons_succ]
          try go_simp
          exact hK.out _ _ _ (by simp only [puts, Act.put, List.setIfInBounds_toArray, List.set_cons_zero, List.set_cons_succ] <;> rfl) ⟨hG, (fun h => f0.out h), (fun h => f1.out h), (fun h => f2.out h), (fun h => f3.out h), (fun h => f4.out h), (fun h => f5.out h), (fun _ => rfl), (fun h => f7.out h)⟩
        · intro L vs W hlen hL hD hI K hK
          obtain ⟨x0, x1, x2, x3, x4, x5, x6, x7, rfl⟩ := len8 hlen
          have hG := hI.1
          replace hI := hI.2
          have f0 := hide hI.1
          replace hI := hI.2
          have f1 := hide hI.1
          replace hI := hI.2
          have f2 := hide hI.1
          replace hI := hI.2
          have f3 := hide hI.1
          replace hI := hI.2
          have f4 := hide hI.1
          replace hI := hI.2
          have f5 := hide hI.1
          replace hI := hI.2
          have f6 := hide hI.1
          replace hI := hI.2
          have f7 := hide hI
          clear hI
          have r0 := hG.hb
          have g5 := f5.out (hD.on 5 (by kernel_rfl))
          obtain rfl := f6.out (hD.on 6 (by kernel_rfl))
          try simp only [puts, Act.put, List.setIfInBounds_toArray, List.set_cons_zero, List.set_cons_succ]
          obtain rfl := g5.2
          have hG7 := hG
          rw [hL] at hG7
          have z0 := hG7.box.frozen 2
          have z1 := hG7.box.cell 2 rfl
          go_simp
          have hb := Below.refl W.heap.size W
          exact hK.out _ undef _ (by simp only [puts, Act.put, List.setIfInBounds_toArray, List.set_cons_zero, List.set_cons_succ] <;> rfl) ⟨hG7.at2 hR, (fun h => f0.out h), (fun h => f1.out h), (fun h => f2.out h), (fun h => f3.out h), (fun h => f4.out h), (fun h => f5.out h), (fun h => f6.out h), (fun _ => g5.1)⟩
      intro L vs W hlen hall hI
      obtain ⟨x0, x1, x2, x3, x4, x5, x6, x7, rfl⟩ := len8 hlen
      have hG := hI.1
      replace hI := hI.2
      have f0 := hide hI.1
      replace hI := hI.2
      have f1 := hide hI.1
      replace hI := hI.2
      have f2 := hide hI.1
      replace hI := hI.2
      have f3 := hide hI.1
      replace hI := hI.2
      have f4 := hide hI.1
      replace hI := hI.2
      have f5 := hide hI.1
      replace hI := hI.2
      have f6 := hide hI.1
      replace hI := hI.2
      have f7 := hide hI
      clear hI
      obtain rfl := f0.out (hall 0 (by decide))
      obtain rfl := f1.out (hall 1 (by decide))
      obtain rfl := f2.out (hall 2 (by decide))
      obtain rfl := f3.out (hall 3 (by decide))
      have g4 := f4.out (hall 4 (by decide))
      have g5 := f5.out (hall 5 (by decide))
      obtain rfl := f6.out (hall 6 (by decide))
      have g7 := f7.out (hall 7 (by decide))
      have hal := hide hall
      clear hall f0 f1 f2 f3 f4 f5 f6 f7
      try simp only [puts, Act.put, List.setIfInBounds_toArray, List.set_cons_zero, List.set_cons_succ]
      rw [hal.out 7 (by decide)] at hG
      have bM7 := hG.done
      have hb27' := hG.hb
      have bV11 := hG.blk bV10 (Nat.ne_of_lt hVR)
      have bQ11 := hG.blk bQ10 (Nat.ne_of_lt hQR)
      obtain rfl := g4.2
      obtain rfl := g5.2
      clear hG g4 g5 g7 hal bM6 bV10 bQ10
      obtain ⟨W7, hW7⟩ : ∃ Z, Z = W := ⟨_, rfl⟩
      subst hW7
      have r0 := (bM7).cell 0 rfl
      have r1 := (bM7).cell 1 rfl
      have r2 := (bM7).cell 2 rfl
      have HFM := hide (fitting_any A B _ _ ⟨tu, dx + s1 - 16, dy + s2 - 16⟩ W7 (DA.below hb27') (DB.below hb27') (hG2.later hb27'))
      have hW3m := hide (hW3.out ⟨tu, dx + s1 - 16, dy + s2 - 16⟩)
      generalize fittingD A B ⟨tu, dx + s1 - 16, dy + s2 - 16⟩ = ph at *
      go_wp2_with fail
      refine HFM.out.mono ?_
      rintro e w10 ⟨rfl, hb10⟩
      cases ph
      · go_wp2_with fail
        go_ret
        exact ⟨rfl, hbw2.trans ((below2 hb27' hb10).mono hbw2.size)⟩
      · have hW3n := hide (hW3m.out rfl)
        have hb210 := below2 hb27' hb10
        have bM10 := bM7.later hb10
        have bV12 := bV11.later hb10
        have bQ12 := bQ11.later hb10
        clear r0 r1 r2
        have r0 := (bM10).cell 0 rfl
        have r1 := (bM10).cell 1 rfl
        have r2 := (bM10).cell 2 rfl
        have q0 := id ((bQ12).cell 0 rfl)
        have q1 := id ((bQ12).cell 1 rfl)
        have q2 := id ((bQ12).cell 2 rfl)
        have q3 := id ((bQ12).cell 3 rfl)
        have HPM := hide (fun (W : World) hb => partnerl_any A (.slice aa A.length ac) Q ⟨tu, dx + s1 - 16, dy + s2 - 16⟩ W (DA.below hb) hokA hokq (hG2.later hb))
        generalize partnerD A Q ⟨tu, dx + s1 - 16, dy + s2 - 16⟩ = pm at *
        go_wp2_with fail
        refine (HPM.out _ hb210).mono ?_
        rintro e w11 ⟨rfl, hb11⟩
        have bV13 := bV12.later hb11
        have v0 := bV13.cell 0 rfl
        have hp2 : decide (pm < 0) = true := by have := hW3n.out.1 (by trivial); simpa using this
        clear hW3n
        clear r0 r1 r2 q0 q1 q2 q3
        go_wp2_with fail
        go_ret
        exact ⟨ret_bool (by simp [*]), hbw2.trans ((below2 hb210 hb11).mono hbw2.size)⟩
    · obtain ⟨f1, p1, o1⟩ := hW1.out (by decide)
      obtain ⟨f2, p2⟩ := hW2.out (by decide)
      have HFN := hide (fun W hb => HF.out W hb ⟨v4, v5, v6⟩)
      have HPN := hide (fun W hb => HP.out W hb ⟨v4, v5, v6⟩)
      have HFO := hide (fun W hb => HF.out W hb ⟨v1, v2, v3⟩)
      have HPO := hide (fun W hb => HP.out W hb ⟨v1, v2, v3⟩)
      rw [f2] at HFN
      rw [f1] at HFO
      rw [p1] at HPO
      generalize partnerD A Q ⟨v4, v5, v6⟩ = P2 at *
      have d2 : decide (0 ≤ P2) = false := by simpa using p2
      have d1 : decide (vp < 0) = false := by simpa using o1
      clear f2 p2 f1 p1 o1 hW1 hW2
      go_wp2_with fail
      generalize hXX : World.alloc w5 _ = W6
      have hb6 : Below w5.heap.size w5 W6 := by rw [← hXX]; exact bal w5 _
      have bV6 : Blk W6 w5.heap.size [iV 2, iV v1, iV v2, iV v3, iV vp, iV v4, iV v5, iV v6] 55 := by rw [← hXX]; exact Blk.newA w5 _ rfl
      have bQ6 := bQ5.later hb6
      have bT6 := bT5.later hb6
      have hb26 := below2 hb25 hb6
      clear hXX q0 lq
      have v0 := bwc ((bV6).cell 0 rfl)
      have v1' := bwc ((bV6).cell 1 rfl)
      have v2' := bwc ((bV6).cell 2 rfl)
      have v3' := bwc ((bV6).cell 3 rfl)
      have v4' := bwc ((bV6).cell 4 rfl)
      have v5' := bwc ((bV6).cell 5 rfl)
      have v6' := bwc ((bV6).cell 6 rfl)
      have v7' := bwc ((bV6).cell 7 rfl)
      have q0 := bwc ((bQ6).cell 0 rfl)
      have q1 := bwc ((bQ6).cell 1 rfl)
      have q2 := bwc ((bQ6).cell 2 rfl)
      have q3 := bwc ((bQ6).cell 3 rfl)
      refine wp_region_bw (by kernel_rfl) (by kernel_rfl) ?_
      repeat (go_big_quiet_step (with_reducible first | exact quiet (HFO.out _ (below2 hb26 (Bw.h _))) | exact quiet (HPO.out _ (below2 hb26 (Bw.h _)))))
      refine wpQuiet_nil ?_
      rintro _ ⟨i0, rfl⟩
      have bT7 := bT6.later i0.h
      have bV7 := bV6.later i0.h
      have bQ7 := bQ6.later i0.h
      have hb27 := below2 hb26 i0.h
      generalize i0.W = WJ at *
      clear v0 v1' v2' v3' v4' v5' v6' v7' q0 q1 q2 q3
      have v0 := id ((bV7).cell 0 rfl)
      have v1' := id ((bV7).cell 1 rfl)
      have v2' := id ((bV7).cell 2 rfl)
      have v3' := id ((bV7).cell 3 rfl)
      have v4' := id ((bV7).cell 4 rfl)
      have v5' := id ((bV7).cell 5 rfl)
      have v6' := id ((bV7).cell 6 rfl)
      have v7' := id ((bV7).cell 7 rfl)
      have q0 := id ((bQ7).cell 0 rfl)
      have q1 := id ((bQ7).cell 1 rfl)
      have q2 := id ((bQ7).cell 2 rfl)
      have q3 := id ((bQ7).cell 3 rfl)
      go_wp2_with fail
      refine (HFN.out _ hb27).mono ?_
      rintro e wa ⟨rfl, hba⟩
      have bT8 := bT7.later hba
      have bV8 := bV7.later hba
      have bQ8 := bQ7.later hba
      have hb28 := below2 hb27 hba
      clear v0 v1' v2' v3' v4' v5' v6' v7' q0 q1 q2 q3
      have v0 := id ((bV8).cell 0 rfl)
      have v1' := id ((bV8).cell 1 rfl)
      have v2' := id ((bV8).cell 2 rfl)
      have v3' := id ((bV8).cell 3 rfl)
      have v4' := id ((bV8).cell 4 rfl)
      have v5' := id ((bV8).cell 5 rfl)
      have v6' := id ((bV8).cell 6 rfl)
      have v7' := id ((bV8).cell 7 rfl)
      have q0 := id ((bQ8).cell 0 rfl)
      have q1 := id ((bQ8).cell 1 rfl)
      have q2 := id ((bQ8).cell 2 rfl)
      have q3 := id ((bQ8).cell 3 rfl)
      go_wp2_with fail
      refine (HPN.out _ hb28).mono ?_
      rintro e wb ⟨rfl, hbb⟩
      replace bT7 := bT8.later hbb
      replace bV7 := bV8.later hbb
      replace bQ7 := bQ8.later hbb
      replace hb27 := below2 hb28 hbb
      clear v0 v1' v2' v3' v4' v5' v6' v7' q0 q1 q2 q3 bT8 bV8 bQ8 hb28
      have bT8 := bT7
      have bV8 := bV7
      have bQ8 := bQ7
      have hb28 := hb27
      have t0 := (bT8).cell 0 rfl
      have t1 := (bT8).cell 1 rfl
      have t2 := (bT8).cell 2 rfl
      have t3 := (bT8).cell 3 rfl
      have t4 := (bT8).cell 4 rfl
      have t5 := (bT8).cell 5 rfl
      have t6 := (bT8).cell 6 rfl
      go_wp2_with fail
      refine (HWY.out _).mono ?_
      rintro e w3 ⟨rfl, hb3⟩
      clear t0 t1 t2 t3 t4 t5 t6
      go_wp2_with fail
      generalize hXX : World.alloc w3 _ = W4
      have hb4 : Below w3.heap.size w3 W4 := by rw [← hXX]; exact bal w3 _
      have bM : Blk W4 w3.heap.size [iV tu, iV dx, iV dy] 32 := by rw [← hXX]; exact Blk.newA w3 _ rfl
      have hb84 := below2 hb3 hb4
      have bV9 := bV8.later hb84
      have bQ9 := bQ8.later hb84
      have hb24 := below2 hb28 hb84
      have hR : w2.heap.size ≤ w3.heap.size := (below2 hb28 hb3).size
      have hQR := ltR bQ8 hb3
      have hVR := ltR bV8 hb3
      generalize w3.heap.size = R at *
      clear hXX bV8 bQ8 bT8 bV7 bQ7 bT7
      refine wp_region_inv [some 104, some 105, some 106, some 107, some 108, some 109, some 110, none] (fun L vs W => match vs with | [x0, x1, x2, x3, x4, x5, x6, x7] => (BoxG w2 W4 R 32 [iV tu, iV dx, iV dy] [iV tu, iV (dx + s1 - 16), iV dy] (L 7) W) ∧ (L 0 = true → x0 = .pointer (some ⟨R, 1, none⟩)) ∧ (L 1 = true → x1 = iV dx) ∧ (L 2 = true → x2 = iV c1) ∧ (L 3 = true → x3 = iV s1) ∧ (L 4 = true → L 1 = true ∧ x4 = iV (dx + s1)) ∧ (L 5 = true → L 1 = true ∧ x5 = iV (dx + s1 - 16)) ∧ (L 6 = true → x6 = .pointer (some ⟨R, 1, none⟩)) ∧ (L 7 = true → L 1 = true) | _ => False) [_, _, _, _, _, _, _, undef] (by kernel_rfl) (by kernel_rfl) rfl (by simp only [puts, Act.put, List.setIfInBounds_toArray, List.set_cons_zero, List.set_cons_succ] <;> rfl) ?_ ?_ ?_
      · exact ⟨BoxG.first hb24 bM, (fun h => by cases h), (fun h => by cases h), (fun h => by cases h), (fun h => by cases h), (fun h => by cases h), (fun h => by cases h), (fun h => by cases h), (fun h => by cases h)⟩
      · refine ⟨?_, ?_, ?_, ?_, ?_, ?_, ?_, ?_, trivial⟩
        · intro L vs W hlen hL hD hI K hK
          obtain ⟨x0, x1, x2, x3, x4, x5, x6, x7, rfl⟩ := len8 hlen
          have hG := hI.1
          replace hI := hI.2
          have f0 := hide hI.1
          replace hI := hI.2
          have f1 := hide hI.1
          replace hI := hI.2
          have f2 := hide hI.1
          replace hI := hI.2
          have f3 := hide hI.1
          replace hI := hI.2
          have f4 := hide hI.1
          replace hI := hI.2
          have f5 := hide hI.1
          replace hI := hI.2
          have f6 := hide hI.1
          replace hI := hI.2
          have f7 := hide hI
          clear hI
          have r0 := hG.hb
          try simp only [puts, Act.put, List.setIfInBounds_toArray, List.set_cons_zero, List.set_cons_succ]
          try go_simp
          exact hK.out _ _ _ (by simp only [puts, Act.put, List.setIfInBounds_toArray, List.set_cons_zero, List.set_cons_succ] <;> rfl) ⟨hG, (fun _ => rfl), (fun h => f1.out h), (fun h => f2.out h), (fun h => f3.out h), (fun h => f4.out h), (fun h => f5.out h), (fun h => f6.out h), (fun h => f7.out h)⟩
        · intro L vs W hlen hL hD hI K hK
          obtain ⟨x0, x1, x2, x3, x4, x5, x6, x7, rfl⟩ := len8 hlen
          have hG := hI.1
          replace hI := hI.2
          have f0 := hide hI.1
          replace hI := hI.2
          have f1 := hide hI.1
          replace hI := hI.2
          have f2 := hide hI.1
          replace hI := hI.2
          have f3 := hide hI.1
          replace hI := hI.2
          have f4 := hide hI.1
          replace hI := hI.2
          have f5 := hide hI.1
          replace hI := hI.2
          have f6 := hide hI.1
          replace hI := hI.2
          have f7 := hide hI
          clear hI
          have r0 := hG.hb
          obtain rfl := f0.out (hD.on 0 (by kernel_rfl))
          try simp only [puts, Act.put, List.setIfInBounds_toArray, List.set_cons_zero, List.set_cons_succ]
          have h7 : L 7 = false := Bool.eq_false_iff.2 (fun h => absurd ((f7.out h).symm.trans hL) (by decide))
          have hG7 := hG
          rw [h7] at hG7
          have r0 := hG7.box.cell 1 rfl
          go_simp
          exact hK.out _ _ _ (by simp only [puts, Act.put, List.setIfInBounds_toArray, List.set_cons_zero, List.set_cons_succ] <;> rfl) ⟨hG, (fun h => f0.out h), (fun _ => rfl), (fun h => f2.out h), (fun h => f3.out h), (fun h => (fun h => ⟨rfl, h.2⟩) (f4.out h)), (fun h => (fun h => ⟨rfl, h.2⟩) (f5.out h)), (fun h => f6.out h), (fun h => (fun _ => rfl) (f7.out h))⟩
        · intro L vs W hlen hL hD hI K hK
          obtain ⟨x0, x1, x2, x3, x4, x5, x6, x7, rfl⟩ := len8 hlen
          have hG := hI.1
          replace hI := hI.2
          have f0 := hide hI.1
          replace hI := hI.2
          have f1 := hide hI.1
          replace hI := hI.2
          have f2 := hide hI.1
          replace hI := hI.2
          have f3 := hide hI.1
          replace hI := hI.2
          have f4 := hide hI.1
          replace hI := hI.2
          have f5 := hide hI.1
          replace hI := hI.2
          have f6 := hide hI.1
          replace hI := hI.2
          have f7 := hide hI
          clear hI
          have r0 := hG.hb
          try simp only [puts, Act.put, List.setIfInBounds_toArray, List.set_cons_zero, List.set_cons_succ]
          try go_simp
          exact hK.out _ _ _ (by simp only [puts, Act.put, List.setIfInBounds_toArray, List.set_cons_zero, List.set_cons_succ] <;> rfl) ⟨hG, (fun h => f0.out h), (fun h => f1.out h), (fun _ => rfl), (fun h => f3.out h), (fun h => f4.out h), (fun h => f5.out h), (fun h => f6.out h), (fun h => f7.out h)⟩
        · intro L vs W hlen hL hD hI K hK
          obtain ⟨x0, x1, x2, x3, x4, x5, x6, x7, rfl⟩ := len8 hlen
          have hG := hI.1
          replace hI := hI.2
          have f0 := hide hI.1
          replace hI := hI.2
          have f1 := hide hI.1
          replace hI := hI.2
          have f2 := hide hI.1
          replace hI := hI.2
          have f3 := hide hI.1
          replace hI := hI.2
          have f4 := hide hI.1
          replace hI := hI.2
          have f5 := hide hI.1
          replace hI := hI.2
          have f6 := hide hI.1
          replace hI := hI.2
          have f7 := hide hI
          clear hI
          have r0 := hG.hb
          obtain rfl := f2.out (hD.on 2 (by kernel_rfl))
          try simp only [puts, Act.put, List.setIfInBounds_toArray, List.set_cons_zero, List.set_cons_succ]
          try go_simp
          refine (HP1.out _).mono ?_
          rintro e W' ⟨rfl, hb⟩
          try go_simp
          exact hK.out _ _ _ (by simp only [puts, Act.put, List.setIfInBounds_toArray, List.set_cons_zero, List.set_cons_succ] <;> rfl) ⟨hG.later hb, (fun h => f0.out h), (fun h => f1.out h), (fun h => f2.out h), (fun _ => rfl), (fun h => f4.out h), (fun h => f5.out h), (fun h => f6.out h), (fun h => f7.out h)⟩
        · intro L vs W hlen hL hD hI K hK
          obtain ⟨x0, x1, x2, x3, x4, x5, x6, x7, rfl⟩ := len8 hlen
          have hG := hI.1
          replace hI := hI.2
          have f0 := hide hI.1
          replace hI := hI.2
          have f1 := hide hI.1
          replace hI := hI.2
          have f2 := hide hI.1
          replace hI := hI.2
          have f3 := hide hI.1
          replace hI := hI.2
          have f4 := hide hI.1
          replace hI := hI.2
          have f5 := hide hI.1
          replace hI := hI.2
          have f6 := hide hI.1
          replace hI := hI.2
          have f7 := hide hI
          clear hI
          have r0 := hG.hb
          obtain rfl := f1.out (hD.on 1 (by kernel_rfl))
          obtain rfl := f3.out (hD.on 3 (by kernel_rfl))
          try simp only [puts, Act.put, List.setIfInBounds_toArray, List.set_cons_zero, List.set_cons_succ]
          try go_simp
          exact hK.out _ _ _ (by simp only [puts, Act.put, List.setIfInBounds_toArray, List.set_cons_zero, List.set_cons_succ] <;> rfl) ⟨hG, (fun h => f0.out h), (fun h => f1.out h), (fun h => f2.out h), (fun h => f3.out h), (fun _ => ⟨hD.on 1 (by kernel_rfl), rfl⟩), (fun h => f5.out h), (fun h => f6.out h), (fun h => f7.out h)⟩
        · intro L vs W hlen hL hD hI K hK
          obtain ⟨x0, x1, x2, x3, x4, x5, x6, x7, rfl⟩ := len8 hlen
          have hG := hI.1
          replace hI := hI.2
          have f0 := hide hI.1
          replace hI := hI.2
          have f1 := hide hI.1
          replace hI := hI.2
          have f2 := hide hI.1
          replace hI := hI.2
          have f3 := hide hI.1
          replace hI := hI.2
          have f4 := hide hI.1
          replace hI := hI.2
          have f5 := hide hI.1
          replace hI := hI.2
          have f6 := hide hI.1
          replace hI := hI.2
          have f7 := hide hI
          clear hI
          have r0 := hG.hb
          have g4 := f4.out (hD.on 4 (by kernel_rfl))
          try simp only [puts, Act.put, List.setIfInBounds_toArray, List.set_cons_zero, List.set_cons_succ]
          obtain rfl := g4.2
          go_simp
          exact hK.out _ _ _ (by simp only [puts, Act.put, List.setIfInBounds_toArray, List.set_cons_zero, List.set_cons_succ] <;> rfl) ⟨hG, (fun h => f0.out h), (fun h => f1.out h), (fun h => f2.out h), (fun h => f3.out h), (fun h => f4.out h), (fun _ => ⟨g4.1, rfl⟩), (fun h => f6.out h), (fun h => f7.out h)⟩
        · intro L vs W hlen hL hD hI K hK
          obtain ⟨x0, x1, x2, x3, x4, x5, x6, x7, rfl⟩ := len8 hlen
          have hG := hI.1
          replace hI := hI.2
          have f0 := hide hI.1
          replace hI := hI.2
          have f1 := hide hI.1
          replace hI := hI.2
          have f2 := hide hI.1
          replace hI := hI.2
          have f3 := hide hI.1
          replace hI := hI.2
          have f4 := hide hI.1
          replace hI := hI.2
          have f5 := hide hI.1
          replace hI := hI.2
          have f6 := hide hI.1
          replace hI := hI.2
          have f7 := hide hI
          clear hI
          have r0 := hG.hb
          try simp only [puts, Act.put, List.setIfInBounds_toArray, List.set_cons_zero, List.set_cons_succ]
          try go_simp
          exact hK.out _ _ _ (by simp only [puts, Act.put, List.setIfInBounds_toArray, List.set_cons_zero, List.set_cons_succ] <;> rfl) ⟨hG, (fun h => f0.out h), (fun h => f1.out h), (fun h => f2.out h), (fun h => f3.out h), (fun h => f4.out h), (fun h => f5.out h), (fun _ => rfl), (fun h => f7.out h)⟩
        · intro L vs W hlen hL hD hI K hK
          obtain ⟨x0, x1, x2, x3, x4, x5, x6, x7, rfl⟩ := len8 hlen
          have hG := hI.1
          replace hI := hI.2
          have f0 := hide hI.1
          replace hI := hI.2
          have f1 := hide hI.1
          replace hI := hI.2
          have f2 := hide hI.1
          replace hI := hI.2
          have f3 := hide hI.1
          replace hI := hI.2
          have f4 := hide hI.1
          replace hI := hI.2
          have f5 := hide hI.1
          replace hI := hI.2
          have f6 := hide hI.1
          replace hI := hI.2
          have f7 := hide hI
          clear hI
          have r0 := hG.hb
          have g5 := f5.out (hD.on 5 (by kernel_rfl))
          obtain rfl := f6.out (hD.on 6 (by kernel_rfl))
          try simp only [puts, Act.put, List.setIfInBounds_toArray, List.set_cons_zero, List.set_cons_succ]
          obtain rfl := g5.2
          have hG7 := hG
          rw [hL] at hG7
          have z0 := hG7.box.frozen 1
          have z1 := hG7.box.cell 1 rfl
          go_simp
          have hb := Below.refl W.heap.size W
          exact hK.out _ undef _ (by simp only [puts, Act.put, List.setIfInBounds_toArray, List.set_cons_zero, List.set_cons_succ] <;> rfl) ⟨hG7.at1 hR, (fun h => f0.out h), (fun h => f1.out h), (fun h => f2.out h), (fun h => f3.out h), (fun h => f4.out h), (fun h => f5.out h), (fun h => f6.out h), (fun _ => g5.1)⟩
      intro L vs W hlen hall hI
      obtain ⟨x0, x1, x2, x3, x4, x5, x6, x7, rfl⟩ := len8 hlen
      have hG := hI.1
      replace hI := hI.2
      have f0 := hide hI.1
      replace hI := hI.2
      have f1 := hide hI.1
      replace hI := hI.2
      have f2 := hide hI.1
      replace hI := hI.2
      have f3 := hide hI.1
      replace hI := hI.2
      have f4 := hide hI.1
      replace hI := hI.2
      have f5 := hide hI.1
      replace hI := hI.2
      have f6 := hide hI.1
      replace hI := hI.2
      have f7 := hide hI
      clear hI
      obtain rfl := f0.out (hall 0 (by decide))
      obtain rfl := f1.out (hall 1 (by decide))
      obtain rfl := f2.out (hall 2 (by decide))
      obtain rfl := f3.out (hall 3 (by decide))
      have g4 := f4.out (hall 4 (by decide))
      have g5 := f5.out (hall 5 (by decide))
      obtain rfl := f6.out (hall 6 (by decide))
      have g7 := f7.out (hall 7 (by decide))
      have hal := hide hall
      clear hall f0 f1 f2 f3 f4 f5 f6 f7
      try simp only [puts, Act.put, List.setIfInBounds_toArray, List.set_cons_zero, List.set_cons_succ]
      rw [hal.out 7 (by decide)] at hG
      have bM6 := hG.done
      have hb26 := hG.hb
      have bV10 := hG.blk bV9 (Nat.ne_of_lt hVR)
      have bQ10 := hG.blk bQ9 (Nat.ne_of_lt hQR)
      obtain rfl := g4.2
      obtain rfl := g5.2
      clear hG g4 g5 g7 hal bM bV9 bQ9
      obtain ⟨W6, hW6⟩ : ∃ Z, Z = W := ⟨_, rfl⟩
      subst hW6
      go_wp2_with fail
      refine wp_region_inv [some 111, some 112, some 113, some 114, some 115, some 116, some 117, none] (fun L vs W => match vs with | [x0, x1, x2, x3, x4, x5, x6, x7] => (BoxG w2 W6 R 32 [iV tu, iV (dx + s1 - 16), iV dy] [iV tu, iV (dx + s1 - 16), iV (dy + s2 - 16)] (L 7) W) ∧ (L 0 = true → x0 = .pointer (some ⟨R, 2, none⟩)) ∧ (L 1 = true → x1 = iV dy) ∧ (L 2 = true → x2 = iV c2) ∧ (L 3 = true → x3 = iV s2) ∧ (L 4 = true → L 1 = true ∧ x4 = iV (dy + s2)) ∧ (L 5 = true → L 1 = true ∧ x5 = iV (dy + s2 - 16)) ∧ (L 6 = true → x6 = .pointer (some ⟨R, 2, none⟩)) ∧ (L 7 = true → L 1 = true) | _ => False) [_, _, _, _, _, _, _, undef] (by kernel_rfl) (by kernel_rfl) rfl (by simp only [puts, Act.put, List.setIfInBounds_toArray, List.set_cons_zero, List.set_cons_succ] <;> rfl) ?_ ?_ ?_
      · exact ⟨BoxG.first hb26 bM6, (fun h => by cases h), (fun h => by cases h), (fun h => by cases h), (fun h => by cases h), (fun h => by cases h), (fun h => by cases h), (fun h => by cases h), (fun h => by cases h)⟩
      · refine ⟨?_, ?_, ?_, ?_, ?_, ?_, ?_, ?_, trivial⟩
        · intro L vs W hlen hL hD hI K hK
          obtain ⟨x0, x1, x2, x3, x4, x5, x6, x7, rfl⟩ := len8 hlen
          have hG := hI.1
          replace hI := hI.2
          have f0 := hide hI.1
          replace hI := hI.2
          have f1 := hide hI.1
          replace hI := hI.2
          have f2 := hide hI.1
          replace hI := hI.2
          have f3 := hide hI.1
          replace hI := hI.2
          have f4 := hide hI.1
          replace hI := hI.2
          have f5 := hide hI.1
          replace hI := hI.2
          have f6 := hide hI.1
          replace hI := hI.2
          have f7 := hide hI
          clear hI
          have r0 := hG.hb
          try simp only [puts, Act.put, List.setIfInBounds_toArray, List.set_cons_zero, List.set_cons_succ]
          try go_simp
          exact hK.out _ _ _ (by simp only [puts, Act.put, List.setIfInBounds_toArray, List.set_cons_zero, List.set_cons_succ] <;> rfl) ⟨hG, (fun _ => rfl), (fun h => f1.out h), (fun h => f2.out h), (fun h => f3.out h), (fun h => f4.out h), (fun h => f5.out h), (fun h => f6.out h), (fun h => f7.out h)⟩
        · intro L vs W hlen hL hD hI K hK
          obtain ⟨x0, x1, x2, x3, x4, x5, x6, x7, rfl⟩ := len8 hlen
          have hG := hI.1
          replace hI := hI.2
          have f0 := hide hI.1
          replace hI := hI.2
          have f1 := hide hI.1
          replace hI := hI.2
          have f2 := hide hI.1
          replace hI := hI.2
          have f3 := hide hI.1
          replace hI := hI.2
          have f4 := hide hI.1
          replace hI := hI.2
          have f5 := hide hI.1
          replace hI := hI.2
          have f6 := hide hI.1
          replace hI := hI.2
          have f7 := hide hI
          clear hI
          have r0 := hG.hb
          obtain rfl := f0.out (hD.on 0 (by kernel_rfl))
          try simp only [puts, Act.put, List.setIfInBounds_toArray, List.set_cons_zero, List.set_cons_succ]
          have h7 : L 7 = false := Bool.eq_false_iff.2 (fun h => absurd ((f7.out h).symm.trans hL) (by decide))
          have hG7 := hG
          rw [h7] at hG7
          have r0 := hG7.box.cell 2 rfl
          go_simp
          exact hK.out _ _ _ (by simp only [puts, Act.put, List.setIfInBounds_toArray, List.set_cons_zero, List.set_cons_succ] <;> rfl) ⟨hG, (fun h => f0.out h), (fun _ => rfl), (fun h => f2.out h), (fun h => f3.out h), (fun h => (fun h => ⟨rfl, h.2⟩) (f4.out h)), (fun h => (fun h => ⟨rfl, h.2⟩) (f5.out h)), (fun h => f6.out h), (fun h => (fun _ => rfl) (f7.out h))⟩
        · intro L vs W hlen hL hD hI K hK
          obtain ⟨x0, x1, x2, x3, x4, x5, x6, x7, rfl⟩ := len8 hlen
          have hG := hI.1
          replace hI := hI.2
          have f0 := hide hI.1
          replace hI := hI.2
          have f1 := hide hI.1
          replace hI := hI.2
          have f2 := hide hI.1
          replace hI := hI.2
          have f3 := hide hI.1
          replace hI := hI.2
          have f4 := hide hI.1
          replace hI := hI.2
          have f5 := hide hI.1
          replace hI := hI.2
          have f6 := hide hI.1
          replace hI := hI.2
          have f7 := hide hI
          clear hI
          have r0 := hG.hb
          try simp only [puts, Act.put, List.setIfInBounds_toArray, List.set_cons_zero, List.set_cons_succ]
          try go_simp
          exact hK.out _ _ _ (by simp only [puts, Act.put, List.setIfInBounds_toArray, List.set_cons_zero, List.set_cons_succ] <;> rfl) ⟨hG, (fun h => f0.out h), (fun h => f1.out h), (fun _ => rfl), (fun h => f3.out h), (fun h => f4.out h), (fun h => f5.out h), (fun h => f6.out h), (fun h => f7.out h)⟩
        · intro L vs W hlen hL hD hI K hK
          obtain ⟨x0, x1, x2, x3, x4, x5, x6, x7, rfl⟩ := len8 hlen
          have hG := hI.1
          replace hI := hI.2
          have f0 := hide hI.1
          replace hI := hI.2
          have f1 := hide hI.1
          replace hI := hI.2
          have f2 := hide hI.1
          replace hI := hI.2
          have f3 := hide hI.1
          replace hI := hI.2
          have f4 := hide hI.1
          replace hI := hI.2
          have f5 := hide hI.1
          replace hI := hI.2
          have f6 := hide hI.1
          replace hI := hI.2
          have f7 := hide hI
          clear hI
          have r0 := hG.hb
          obtain rfl := f2.out (hD.on 2 (by kernel_rfl))
          try simp only [puts, Act.put, List.setIfInBounds_toArray, List.set_cons_zero, List.set_cons_succ]
          try go_simp
          refine (HP2.out _).mono ?_
          rintro e W' ⟨rfl, hb⟩
          try go_simp
          exact hK.out _ _ _ (by simp only [puts, Act.put, List.setIfInBounds_toArray, List.set_cons_zero, List.set_cons_succ] <;> rfl) ⟨hG.later hb, (fun h => f0.out h), (fun h => f1.out h), (fun h => f2.out h), (fun _ => rfl), (fun h => f4.out h), (fun h => f5.out h), (fun h => f6.out h), (fun h => f7.out h)⟩
        · intro L vs W hlen hL hD hI K hK
          obtain ⟨x0, x1, x2, x3, x4, x5, x6, x7, rfl⟩ := len8 hlen
          have hG := hI.1
          replace hI := hI.2
          have f0 := hide hI.1
          replace hI := hI.2
          have f1 := hide hI.1
          replace hI := hI.2
          have f2 := hide hI.1
          replace hI := hI.2
          have f3 := hide hI.1
          replace hI := hI.2
          have f4 := hide hI.1
          replace hI := hI.2
          have f5 := hide hI.1
          replace hI := hI.2
          have f6 := hide hI.1
          replace hI := hI.2
          have f7 := hide hI
          clear hI
          have r0 := hG.hb
          obtain rfl := f1.out (hD.on 1 (by kernel_rfl))
          obtain rfl := f3.out (hD.on 3 (by kernel_rfl))
          try simp only [puts, Act.put, List.setIfInBounds_toArray, List.set_cons_zero, List.set_cons_succ]
          try go_simp
          exact hK.out _ _ _ (by simp only [puts, Act.put, List.setIfInBounds_toArray, List.set_cons_zero, List.set_cons_succ] <;> rfl) ⟨hG, (fun h => f0.out h), (fun h => f1.out h), (fun h => f2.out h), (fun h => f3.out h), (fun _ => ⟨hD.on 1 (by kernel_rfl), rfl⟩), (fun h => f5.out h), (fun h => f6.out h), (fun h => f7.out h)⟩
        · intro L vs W hlen hL hD hI K hK
          obtain ⟨x0, x1, x2, x3, x4, x5, x6, x7, rfl⟩ := len8 hlen
          have hG := hI.1
          replace hI := hI.2
          have f0 := hide hI.1
          replace hI := hI.2
          have f1 := hide hI.1
          replace hI := hI.2
          have f2 := hide hI.1
          replace hI := hI.2
          have f3 := hide hI.1
          replace hI := hI.2
          have f4 := hide hI.1
          replace hI := hI.2
          have f5 := hide hI.1
          replace hI := hI.2
          have f6 := hide hI.1
          replace hI := hI.2
          have f7 := hide hI
          clear hI
          have r0 := hG.hb
          have g4 := f4.out (hD.on 4 (by kernel_rfl))
          try simp only [puts, Act.put, List.setIfInBounds_toArray, List.set_cons_zero, List.set_cons_succ]
          obtain rfl := g4.2
          go_simp
          exact hK.out _ _ _ (by simp only [puts, Act.put, List.setIfInBounds_toArray, List.set_cons_zero, List.set_cons_succ] <;> rfl) ⟨hG, (fun h => f0.out h), (fun h => f1.out h), (fun h => f2.out h), (fun h => f3.out h), (fun h => f4.out h), (fun _ => ⟨g4.1, rfl⟩), (fun h => f6.out h), (fun h => f7.out h)⟩
        · intro L vs W hlen hL hD hI K hK
          obtain ⟨x0, x1, x2, x3, x4, x5, x6, x7, rfl⟩ := len8 hlen
          have hG := hI.1
          replace hI := hI.2
          have f0 := hide hI.1
          replace hI := hI.2
          have f1 := hide hI.1
          replace hI := hI.2
          have f2 := hide hI.1
          replace hI := hI.2
          have f3 := hide hI.1
          replace hI := hI.2
          have f4 := hide hI.1
          replace hI := hI.2
          have f5 := hide hI.1
          replace hI := hI.2
          have f6 := hide hI.1
          replace hI := hI.2
          have f7 := hide hI
          clear hI
          have r0 := hG.hb
          try simp only [puts, Act.put, List.setIfInBounds_toArray, List.set_cons_zero, List.set_cons_succ]
          try go_simp
          exact hK.out _ _ _ (by simp only [puts, Act.put, List.setIfInBounds_toArray, List.set_cons_zero, List.set_cons_succ] <;> rfl) ⟨hG, (fun h => f0.out h), (fun h => f1.out h), (fun h => f2.out h), (fun h => f3.out h), (fun h => f4.out h), (fun h => f5.out h), (fun _ => rfl), (fun h => f7.out h)⟩
        · intro L vs W hlen hL hD hI K hK
          obtain ⟨x0, x1, x2, x3, x4, x5, x6, x7, rfl⟩ := len8 hlen
          have hG := hI.1
          replace hI := hI.2
          have f0 := hide hI.1
          replace hI := hI.2
          have f1 := hide hI.1
          replace hI := hI.2
          have f2 := hide hI.1
          replace hI := hI.2
          have f3 := hide hI.1
          replace hI := hI.2
          have f4 := hide hI.1
          replace hI := hI.2
          have f5 := hide hI.1
          replace hI := hI.2
          have f6 := hide hI.1
          replace hI := hI.2
          have f7 := hide hI
          clear hI
          have r0 := hG.hb
          have g5 := f5.out (hD.on 5 (by kernel_rfl))
          obtain rfl := f6.out (hD.on 6 (by kernel_rfl))
          try simp only [puts, Act.put, List.setIfInBounds_toArray, List.set_cons_zero, List.set_cons_succ]
          obtain rfl := g5.2
          have hG7 := hG
          rw [hL] at hG7
          have z0 := hG7.box.frozen 2
          have z1 := hG7.box.cell 2 rfl
          go_simp
          have hb := Below.refl W.heap.size W
          exact hK.out _ undef _ (by simp only [puts, Act.put, List.setIfInBounds_toArray, List.set_cons_zero, List.set_cons_succ] <;> rfl) ⟨hG7.at2 hR, (fun h => f0.out h), (fun h => f1.out h), (fun h => f2.out h), (fun h => f3.out h), (fun h => f4.out h), (fun h => f5.out h), (fun h => f6.out h), (fun _ => g5.1)⟩
      intro L vs W hlen hall hI
      obtain ⟨x0, x1, x2, x3, x4, x5, x6, x7, rfl⟩ := len8 hlen
      have hG := hI.1
      replace hI := hI.2
      have f0 := hide hI.1
      replace hI := hI.2
      have f1 := hide hI.1
      replace hI := hI.2
      have f2 := hide hI.1
      replace hI := hI.2
      have f3 := hide hI.1
      replace hI := hI.2
      have f4 := hide hI.1
      replace hI := hI.2
      have f5 := hide hI.1
      replace hI := hI.2
      have f6 := hide hI.1
      replace hI := hI.2
      have f7 := hide hI
      clear hI
      obtain rfl := f0.out (hall 0 (by decide))
      obtain rfl := f1.out (hall 1 (by decide))
      obtain rfl := f2.out (hall 2 (by decide))
      obtain rfl := f3.out (hall 3 (by decide))
      have g4 := f4.out (hall 4 (by decide))
      have g5 := f5.out (hall 5 (by decide))
      obtain rfl := f6.out (hall 6 (by decide))
      have g7 := f7.out (hall 7 (by decide))
      have hal := hide hall
      clear hall f0 f1 f2 f3 f4 f5 f6 f7
      try simp only [puts, Act.put, List.setIfInBounds_toArray, List.set_cons_zero, List.set_cons_succ]
      rw [hal.out 7 (by decide)] at hG
      have bM7 := hG.done
      have hb27' := hG.hb
      have bV11 := hG.blk bV10 (Nat.ne_of_lt hVR)
      have bQ11 := hG.blk bQ10 (Nat.ne_of_lt hQR)
      obtain rfl := g4.2
      obtain rfl := g5.2
      clear hG g4 g5 g7 hal bM6 bV10 bQ10
      obtain ⟨W7, hW7⟩ : ∃ Z, Z = W := ⟨_, rfl⟩
      subst hW7
      have r0 := (bM7).cell 0 rfl
      have r1 := (bM7).cell 1 rfl
      have r2 := (bM7).cell 2 rfl
      have HFM := hide (fitting_any A B _ _ ⟨tu, dx + s1 - 16, dy + s2 - 16⟩ W7 (DA.below hb27') (DB.below hb27') (hG2.later hb27'))
      have hW3m := hide (hW3.out ⟨tu, dx + s1 - 16, dy + s2 - 16⟩)
      generalize fittingD A B ⟨tu, dx + s1 - 16, dy + s2 - 16⟩ = ph at *
      go_wp2_with fail
      refine HFM.out.mono ?_
      rintro e w10 ⟨rfl, hb10⟩
      cases ph
      · go_wp2_with fail
        go_ret
        exact ⟨rfl, hbw2.trans ((below2 hb27' hb10).mono hbw2.size)⟩
      · have hW3n := hide (hW3m.out rfl)
        have hb210 := below2 hb27' hb10
        have bM10 := bM7.later hb10
        have bV12 := bV11.later hb10
        have bQ12 := bQ11.later hb10
        clear r0 r1 r2
        have r0 := (bM10).cell 0 rfl
        have r1 := (bM10).cell 1 rfl
        have r2 := (bM10).cell 2 rfl
        have q0 := id ((bQ12).cell 0 rfl)
        have q1 := id ((bQ12).cell 1 rfl)
        have q2 := id ((bQ12).cell 2 rfl)
        have q3 := id ((bQ12).cell 3 rfl)
        have HPM := hide (fun (W : World) hb => partnerl_any A (.slice aa A.length ac) Q ⟨tu, dx + s1 - 16, dy + s2 - 16⟩ W (DA.below hb) hokA hokq (hG2.later hb))
        generalize partnerD A Q ⟨tu, dx + s1 - 16, dy + s2 - 16⟩ = pm at *
        go_wp2_with fail
        refine (HPM.out _ hb210).mono ?_
        rintro e w11 ⟨rfl, hb11⟩
        have bV13 := bV12.later hb11
        have v0 := bV13.cell 0 rfl
        skip
        clear hW3n
        clear r0 r1 r2 q0 q1 q2 q3
        go_wp2_with fail
        go_ret
        exact ⟨ret_bool (by simp [*]), hbw2.trans ((below2 hb210 hb11).mono hbw2.size)⟩
    · obtain ⟨f1, p1, o1⟩ := hW1.out (by decide)
      have HFO := hide (fun W hb => HF.out W hb ⟨v1, v2, v3⟩)
      have HPO := hide (fun W hb => HP.out W hb ⟨v1, v2, v3⟩)
      rw [f1] at HFO
      rw [p1] at HPO
      have d1 : decide (vp < 0) = false := by simpa using o1
      clear f1 p1 o1 hW1 hW2
      go_wp2_with fail
      generalize hXX : World.alloc w5 _ = W6
      have hb6 : Below w5.heap.size w5 W6 := by rw [← hXX]; exact bal w5 _
      have bV6 : Blk W6 w5.heap.size [iV 3, iV v1, iV v2, iV v3, iV vp, iV v4, iV v5, iV v6] 55 := by rw [← hXX]; exact Blk.newA w5 _ rfl
      have bQ6 := bQ5.later hb6
      have bT6 := bT5.later hb6
      have hb26 := below2 hb25 hb6
      clear hXX q0 lq
      have v0 := bwc ((bV6).cell 0 rfl)
      have v1' := bwc ((bV6).cell 1 rfl)
      have v2' := bwc ((bV6).cell 2 rfl)
      have v3' := bwc ((bV6).cell 3 rfl)
      have v4' := bwc ((bV6).cell 4 rfl)
      have v5' := bwc ((bV6).cell 5 rfl)
      have v6' := bwc ((bV6).cell 6 rfl)
      have v7' := bwc ((bV6).cell 7 rfl)
      have q0 := bwc ((bQ6).cell 0 rfl)
      have q1 := bwc ((bQ6).cell 1 rfl)
      have q2 := bwc ((bQ6).cell 2 rfl)
      have q3 := bwc ((bQ6).cell 3 rfl)
      refine wp_region_bw (by kernel_rfl) (by kernel_rfl) ?_
      repeat (go_big_quiet_step (with_reducible first | exact quiet (HFO.out _ (below2 hb26 (Bw.h _))) | exact quiet (HPO.out _ (below2 hb26 (Bw.h _)))))
      refine wpQuiet_nil ?_
      rintro _ ⟨i0, rfl⟩
      have bT7 := bT6.later i0.h
      have bV7 := bV6.later i0.h
      have bQ7 := bQ6.later i0.h
      have hb27 := below2 hb26 i0.h
      generalize i0.W = WJ at *
      clear v0 v1' v2' v3' v4' v5' v6' v7' q0 q1 q2 q3
      have v0 := id ((bV7).cell 0 rfl)
      have v1' := id ((bV7).cell 1 rfl)
      have v2' := id ((bV7).cell 2 rfl)
      have v3' := id ((bV7).cell 3 rfl)
      have v4' := id ((bV7).cell 4 rfl)
      have v5' := id ((bV7).cell 5 rfl)
      have v6' := id ((bV7).cell 6 rfl)
      have v7' := id ((bV7).cell 7 rfl)
      have q0 := id ((bQ7).cell 0 rfl)
      have q1 := id ((bQ7).cell 1 rfl)
      have q2 := id ((bQ7).cell 2 rfl)
      have q3 := id ((bQ7).cell 3 rfl)
      clear v0 v1' v2' v3' v4' v5' v6' v7' q0 q1 q2 q3
      have v0 := bV7.cell 0 rfl
      have bT8 := bT7
      have bV8 := bV7
      have bQ8 := bQ7
      have hb28 := hb27
      have t0 := (bT8).cell 0 rfl
      have t1 := (bT8).cell 1 rfl
      have t2 := (bT8).cell 2 rfl
      have t3 := (bT8).cell 3 rfl
      have t4 := (bT8).cell 4 rfl
      have t5 := (bT8).cell 5 rfl
      have t6 := (bT8).cell 6 rfl
      go_wp2_with fail
      refine (HWY.out _).mono ?_
      rintro e w3 ⟨rfl, hb3⟩
      clear t0 t1 t2 t3 t4 t5 t6
      go_wp2_with fail
      generalize hXX : World.alloc w3 _ = W4
      have hb4 : Below w3.heap.size w3 W4 := by rw [← hXX]; exact bal w3 _
      have bM : Blk W4 w3.heap.size [iV tu, iV dx, iV dy] 32 := by rw [← hXX]; exact Blk.newA w3 _ rfl
      have hb84 := below2 hb3 hb4
      have bV9 := bV8.later hb84
      have bQ9 := bQ8.later hb84
      have hb24 := below2 hb28 hb84
      have hR : w2.heap.size ≤ w3.heap.size := (below2 hb28 hb3).size
      have hQR := ltR bQ8 hb3
      have hVR := ltR bV8 hb3
      generalize w3.heap.size = R at *
      clear hXX bV8 bQ8 bT8 bV7 bQ7 bT7
      refine wp_region_inv [some 104, some 105, some 106, some 107, some 108, some 109, some 110, none] (fun L vs W => match vs with | [x0, x1, x2, x3, x4, x5, x6, x7] => (BoxG w2 W4 R 32 [iV tu, iV dx, iV dy] [iV tu, iV (dx + s1 - 16), iV dy] (L 7) W) ∧ (L 0 = true → x0 = .pointer (some ⟨R, 1, none⟩)) ∧ (L 1 = true → x1 = iV dx) ∧ (L 2 = true → x2 = iV c1) ∧ (L 3 = true → x3 = iV s1) ∧ (L 4 = true → L 1 = true ∧ x4 = iV (dx + s1)) ∧ (L 5 = true → L 1 = true ∧ x5 = iV (dx + s1 - 16)) ∧ (L 6 = true → x6 = .pointer (some ⟨R, 1, none⟩)) ∧ (L 7 = true → L 1 = true) | _ => False) [_, _, _, _, _, _, _, undef] (by kernel_rfl) (by kernel_rfl) rfl (by simp only [puts, Act.put, List.setIfInBounds_toArray, List.set_cons_zero, List.set_cons_succ] <;> rfl) ?_ ?_ ?_
      · exact ⟨BoxG.first hb24 bM, (fun h => by cases h), (fun h => by cases h), (fun h => by cases h), (fun h => by cases h), (fun h => by cases h), (fun h => by cases h), (fun h => by cases h), (fun h => by cases h)⟩
      · refine ⟨?_, ?_, ?_, ?_, ?_, ?_, ?_, ?_, trivial⟩
        · intro L vs W hlen hL hD hI K hK
          obtain ⟨x0, x1, x2, x3, x4, x5, x6, x7, rfl⟩ := len8 hlen
          have hG := hI.1
          replace hI := hI.2
          have f0 := hide hI.1
          replace hI := hI.2
          have f1 := hide hI.1
          replace hI := hI.2
          have f2 := hide hI.1
          replace hI := hI.2
          have f3 := hide hI.1
          replace hI := hI.2
          have f4 := hide hI.1
          replace hI := hI.2
          have f5 := hide hI.1
          replace hI := hI.2
          have f6 := hide hI.1
          replace hI := hI.2
          have f7 := hide hI
          clear hI
          have r0 := hG.hb
          try simp only [puts, Act.put, List.setIfInBounds_toArray, List.set_cons_zero, List.set_cons_succ]
          try go_simp
          exact hK.out _ _ _ (by simp only [puts, Act.put, List.setIfInBounds_toArray, List.set_cons_zero, List.set_cons_succ] <;> rfl) ⟨hG, (fun _ => rfl), (fun h => f1.out h), (fun h => f2.out h), (fun h => f3.out h), (fun h => f4.out h), (fun h => f5.out h), (fun h => f6.out h), (fun h => f7.out h)⟩
        · intro L vs W hlen hL hD hI K hK
          obtain ⟨x0, x1, x2, x3, x4, x5, x6, x7, rfl⟩ := len8 hlen
          have hG := hI.1
          replace hI := hI.2
          have f0 := hide hI.1
          replace hI := hI.2
          have f1 := hide hI.1
          replace hI := hI.2
          have f2 := hide hI.1
          replace hI := hI.2
          have f3 := hide hI.1
          replace hI := hI.2
          have f4 := hide hI.1
          replace hI := hI.2
          have f5 := hide hI.1
          replace hI := hI.2
          have f6 := hide hI.1
          replace hI := hI.2
          have f7 := hide hI
          clear hI
          have r0 := hG.hb
          obtain rfl := f0.out (hD.on 0 (by kernel_rfl))
          try simp only [puts, Act.put, List.setIfInBounds_toArray, List.set_cons_zero, List.set_cons_succ]
          have h7 : L 7 = false := Bool.eq_false_iff.2 (fun h => absurd ((f7.out h).symm.trans hL) (by decide))
          have hG7 := hG
          rw [h7] at hG7
          have r0 := hG7.box.cell 1 rfl
          go_simp
          exact hK.out _ _ _ (by simp only [puts, Act.put, List.setIfInBounds_toArray, List.set_cons_zero, List.set_cons_succ] <;> rfl) ⟨hG, (fun h => f0.out h), (fun _ => rfl), (fun h => f2.out h), (fun h => f3.out h), (fun h => (fun h => ⟨rfl, h.2⟩) (f4.out h)), (fun h => (fun h => ⟨rfl, h.2⟩) (f5.out h)), (fun h => f6.out h), (fun h => (fun _ => rfl) (f7.out h))⟩
        · intro L vs W hlen hL hD hI K hK
          obtain ⟨x0, x1, x2, x3, x4, x5, x6, x7, rfl⟩ := len8 hlen
          have hG := hI.1
          replace hI := hI.2
          have f0 := hide hI.1
          replace hI := hI.2
          have f1 := hide hI.1
          replace hI := hI.2
          have f2 := hide hI.1
          replace hI := hI.2
          have f3 := hide hI.1
          replace hI := hI.2
          have f4 := hide hI.1
          replace hI := hI.2
          have f5 := hide hI.1
          replace hI := hI.2
          have f6 := hide hI.1
          replace hI := hI.2
          have f7 := hide hI
          clear hI
          have r0 := hG.hb
          try simp only [puts, Act.put, List.setIfInBounds_toArray, List.set_cons_zero, List.set_cons_succ]
          try go_simp
          exact hK.out _ _ _ (by simp only [puts, Act.put, List.setIfInBounds_toArray, List.set_cons_zero, List.set_cons_succ] <;> rfl) ⟨hG, (fun h => f0.out h), (fun h => f1.out h), (fun _ => rfl), (fun h => f3.out h), (fun h => f4.out h), (fun h => f5.out h), (fun h => f6.out h), (fun h => f7.out h)⟩
        · intro L vs W hlen hL hD hI K hK
          obtain ⟨x0, x1, x2, x3, x4, x5, x6, x7, rfl⟩ := len8 hlen
          have hG := hI.1
          replace hI := hI.2
          have f0 := hide hI.1
          replace hI := hI.2
          have f1 := hide hI.1
          replace hI := hI.2
          have f2 := hide hI.1
          replace hI := hI.2
          have f3 := hide hI.1
          replace hI := hI.2
          have f4 := hide hI.1
          replace hI := hI.2
          have f5 := hide hI.1
          replace hI := hI.2
          have f6 := hide hI.1
          replace hI := hI.2
          have f7 := hide hI
          clear hI
          have r0 := hG.hb
          obtain rfl := f2.out (hD.on 2 (by kernel_rfl))
          try simp only [puts, Act.put, List.setIfInBounds_toArray, List.set_cons_zero, List.set_cons_succ]
          try go_simp
          refine (HP1.out _).mono ?_
          rintro e W' ⟨rfl, hb⟩
          try go_simp
          exact hK.out _ _ _ (by simp only [puts, Act.put, List.setIfInBounds_toArray, List.set_cons_zero, List.set_cons_succ] <;> rfl) ⟨hG.later hb, (fun h => f0.out h), (fun h => f1.out h), (fun h => f2.out h), (fun _ => rfl), (fun h => f4.out h), (fun h => f5.out h), (fun h => f6.out h), (fun h => f7.out h)⟩
        · intro L vs W hlen hL hD hI K hK
          obtain ⟨x0, x1, x2, x3, x4, x5, x6, x7, rfl⟩ := len8 hlen
          have hG := hI.1
          replace hI := hI.2
          have f0 := hide hI.1
          replace hI := hI.2
          have f1 := hide hI.1
          replace hI := hI.2
          have f2 := hide hI.1
          replace hI := hI.2
          have f3 := hide hI.1
          replace hI := hI.2
          have f4 := hide hI.1
          replace hI := hI.2
          have f5 := hide hI.1
          replace hI := hI.2
          have f6 := hide hI.1
          replace hI := hI.2
          have f7 := hide hI
          clear hI
          have r0 := hG.hb
          obtain rfl := f1.out (hD.on 1 (by kernel_rfl))
          obtain rfl := f3.out (hD.on 3 (by kernel_rfl))
          try simp only [puts, Act.put, List.setIfInBounds_toArray, List.set_cons_zero, List.set_cons_succ]
          try go_simp
          exact hK.out _ _ _ (by simp only [puts, Act.put, List.setIfInBounds_toArray, List.set_cons_zero, List.set_cons_succ] <;> rfl) ⟨hG, (fun h => f0.out h), (fun h => f1.out h), (fun h => f2.out h), (fun h => f3.out h), (fun _ => ⟨hD.on 1 (by kernel_rfl), rfl⟩), (fun h => f5.out h), (fun h => f6.out h), (fun h => f7.out h)⟩
        · intro L vs W hlen hL hD hI K hK
          obtain ⟨x0, x1, x2, x3, x4, x5, x6, x7, rfl⟩ := len8 hlen
          have hG := hI.1
          replace hI := hI.2
          have f0 := hide hI.1
          replace hI := hI.2
          have f1 := hide hI.1
          replace hI := hI.2
          have f2 := hide hI.1
          replace hI := hI.2
          have f3 := hide hI.1
          replace hI := hI.2
          have f4 := hide hI.1
          replace hI := hI.2
          have f5 := hide hI.1
          replace hI := hI.2
          have f6 := hide hI.1
          replace hI := hI.2
          have f7 := hide hI
          clear hI
          have r0 := hG.hb
          have g4 := f4.out (hD.on 4 (by kernel_rfl))
          try simp only [puts, Act.put, List.setIfInBounds_toArray, List.set_cons_zero, List.set_cons_succ]
          obtain rfl := g4.2
          go_simp
          exact hK.out _ _ _ (by simp only [puts, Act.put, List.setIfInBounds_toArray, List.set_cons_zero, List.set_cons_succ] <;> rfl) ⟨hG, (fun h => f0.out h), (fun h => f1.out h), (fun h => f2.out h), (fun h => f3.out h), (fun h => f4.out h), (fun _ => ⟨g4.1, rfl⟩), (fun h => f6.out h), (fun h => f7.out h)⟩
        · intro L vs W hlen hL hD hI K hK
          obtain ⟨x0, x1, x2, x3, x4, x5, x6, x7, rfl⟩ := len8 hlen
          have hG := hI.1
          replace hI := hI.2
          have f0 := hide hI.1
          replace hI := hI.2
          have f1 := hide hI.1
          replace hI := hI.2
          have f2 := hide hI.1
          replace hI := hI.2
          have f3 := hide hI.1
          replace hI := hI.2
          have f4 := hide hI.1
          replace hI := hI.2
          have f5 := hide hI.1
          replace hI := hI.2
          have f6 := hide hI.1
          replace hI := hI.2
          have f7 := hide hI
          clear hI
          have r0 := hG.hb
          try simp only [puts, Act.put, List.setIfInBounds_toArray, List.set_cons_zero, List.set_cons_succ]
          try go_simp
          exact hK.out _ _ _ (by simp only [puts, Act.put, List.setIfInBounds_toArray, List.set_cons_zero, List.set_cons_succ] <;> rfl) ⟨hG, (fun h => f0.out h), (fun h => f1.out h), (fun h => f2.out h), (fun h => f3.out h), (fun h => f4.out h), (fun h => f5.out h), (fun _ => rfl), (fun h => f7.out h)⟩
        · intro L vs W hlen hL hD hI K hK
          obtain ⟨x0, x1, x2, x3, x4, x5, x6, x7, rfl⟩ := len8 hlen
          have hG := hI.1
          replace hI := hI.2
          have f0 := hide hI.1
          replace hI := hI.2
          have f1 := hide hI.1
          replace hI := hI.2
          have f2 := hide hI.1
          replace hI := hI.2
          have f3 := hide hI.1
          replace hI := hI.2
          have f4 := hide hI.1
          replace hI := hI.2
          have f5 := hide hI.1
          replace hI := hI.2
          have f6 := hide hI.1
          replace hI := hI.2
          have f7 := hide hI
          clear hI
          have r0 := hG.hb
          have g5 := f5.out (hD.on 5 (by kernel_rfl))
          obtain rfl := f6.out (hD.on 6 (by kernel_rfl))
          try simp only [puts, Act.put, List.setIfInBounds_toArray, List.set_cons_zero, List.set_cons_succ]
          obtain rfl := g5.2
          have hG7 := hG
          rw [hL] at hG7
          have z0 := hG7.box.frozen 1
          have z1 := hG7.box.cell 1 rfl
          go_simp
          have hb := Below.refl W.heap.size W
          exact hK.out _ undef _ (by simp only [puts, Act.put, List.setIfInBounds_toArray, List.set_cons_zero, List.set_cons_succ] <;> rfl) ⟨hG7.at1 hR, (fun h => f0.out h), (fun h => f1.out h), (fun h => f2.out h), (fun h => f3.out h), (fun h => f4.out h), (fun h => f5.out h), (fun h => f6.out h), (fun _ => g5.1)⟩
      intro L vs W hlen hall hI
      obtain ⟨x0, x1, x2, x3, x4, x5, x6, x7, rfl⟩ := len8 hlen
      have hG := hI.1
      replace hI := hI.2
      have f0 := hide hI.1
      replace hI := hI.2
      have f1 := hide hI.1
      replace hI := hI.2
      have f2 := hide hI.1
      replace hI := hI.2
      have f3 := hide hI.1
      replace hI := hI.2
      have f4 := hide hI.1
      replace hI := hI.2
      have f5 := hide hI.1
      replace hI := hI.2
      have f6 := hide hI.1
      replace hI := hI.2
      have f7 := hide hI
      clear hI
      obtain rfl := f0.out (hall 0 (by decide))
      obtain rfl := f1.out (hall 1 (by decide))
      obtain rfl := f2.out (hall 2 (by decide))
      obtain rfl := f3.out (hall 3 (by decide))
      have g4 := f4.out (hall 4 (by decide))
      have g5 := f5.out (hall 5 (by decide))
      obtain rfl := f6.out (hall 6 (by decide))
      have g7 := f7.out (hall 7 (by decide))
      have hal := hide hall
      clear hall f0 f1 f2 f3 f4 f5 f6 f7
      try simp only [puts, Act.put, List.setIfInBounds_toArray, List.set_cons_zero, List.set_cons_succ]
      rw [hal.out 7 (by decide)] at hG
      have bM6 := hG.done
      have hb26 := hG.hb
      have bV10 := hG.blk bV9 (Nat.ne_of_lt hVR)
      have bQ10 := hG.blk bQ9 (Nat.ne_of_lt hQR)
      obtain rfl := g4.2
      obtain rfl := g5.2
      clear hG g4 g5 g7 hal bM bV9 bQ9
      obtain ⟨W6, hW6⟩ : ∃ Z, Z = W := ⟨_, rfl⟩
      subst hW6
      go_wp2_with fail
      refine wp_region_inv [some 111, some 112, some 113, some 114, some 115, some 116, some 117, none] (fun L vs W => match vs with | [x0, x1, x2, x3, x4, x5, x6, x7] => (BoxG w2 W6 R 32 [iV tu, iV (dx + s1 - 16), iV dy] [iV tu, iV (dx + s1 - 16), iV (dy + s2 - 16)] (L 7) W) ∧ (L 0 = true → x0 = .pointer (some ⟨R, 2, none⟩)) ∧ (L 1 = true → x1 = iV dy) ∧ (L 2 = true → x2 = iV c2) ∧ (L 3 = true → x3 = iV s2) ∧ (L 4 = true → L 1 = true ∧ x4 = iV (dy + s2)) ∧ (L 5 = true → L 1 = true ∧ x5 = iV (dy + s2 - 16)) ∧ (L 6 = true → x6 = .pointer (some ⟨R, 2, none⟩)) ∧ (L 7 = true → L 1 = true) | _ => False) [_, _, _, _, _, _, _, undef] (by kernel_rfl) (by kernel_rfl) rfl (by simp only [puts, Act.put, List.setIfInBounds_toArray, List.set_cons_zero, List.set_cons_succ] <;> rfl) ?_ ?_ ?_
      · exact ⟨BoxG.first hb26 bM6, (fun h => by cases h), (fun h => by cases h), (fun h => by cases h), (fun h => by cases h), (fun h => by cases h), (fun h => by cases h), (fun h => by cases h), (fun h => by cases h)⟩
      · refine ⟨?_, ?_, ?_, ?_, ?_, ?_, ?_, ?_, trivial⟩
        · intro L vs W hlen hL hD hI K hK
          obtain ⟨x0, x1, x2, x3, x4, x5, x6, x7, rfl⟩ := len8 hlen
          have hG := hI.1
          replace hI := hI.2
          have f0 := hide hI.1
          replace hI := hI.2
          have f1 := hide hI.1
          replace hI := hI.2
          have f2 := hide hI.1
          replace hI := hI.2
          have f3 := hide hI.1
          replace hI := hI.2
          have f4 := hide hI.1
          replace hI := hI.2
          have f5 := hide hI.1
          replace hI := hI.2
          have f6 := hide hI.1
          replace hI := hI.2
          have f7 := hide hI
          clear hI
          have r0 := hG.hb
          try simp only [puts, Act.put, List.setIfInBounds_toArray, List.set_cons_zero, List.set_cons_succ]
          try go_simp
          exact hK.out _ _ _ (by simp only [puts, Act.put, List.setIfInBounds_toArray, List.set_cons_zero, List.set_cons_succ] <;> rfl) ⟨hG, (fun _ => rfl), (fun h => f1.out h), (fun h => f2.out h), (fun h => f3.out h), (fun h => f4.out h), (fun h => f5.out h), (fun h => f6.out h), (fun h => f7.out h)⟩
        · intro L vs W hlen hL hD hI K hK
          obtain ⟨x0, x1, x2, x3, x4, x5, x6, x7, rfl⟩ := len8 hlen
          have hG := hI.1
          replace hI := hI.2
          have f0 := hide hI.1
          replace hI := hI.2
          have f1 := hide hI.1
          replace hI := hI.2
          have f2 := hide hI.1
          replace hI := hI.2
          have f3 := hide hI.1
          replace hI := hI.2
          have f4 := hide hI.1
          replace hI := hI.2
          have f5 := hide hI.1
          replace hI := hI.2
          have f6 := hide hI.1
          replace hI := hI.2
          have f7 := hide hI
          clear hI
          have r0 := hG.hb
          obtain rfl := f0.out (hD.on 0 (by kernel_rfl))
          try simp only [puts, Act.put, List.setIfInBounds_toArray, List.set_cons_zero, List.set_cons_succ]
          have h7 : L 7 = false := Bool.eq_false_iff.2 (fun h => absurd ((f7.out h).symm.trans hL) (by decide))
          have hG7 := hG
          rw [h7] at hG7
          have r0 := hG7.box.cell 2 rfl
          go_simp
          exact hK.out _ _ _ (by simp only [puts, Act.put, List.setIfInBounds_toArray, List.set_cons_zero, List.set_cons_succ] <;> rfl) ⟨hG, (fun h => f0.out h), (fun _ => rfl), (fun h => f2.out h), (fun h => f3.out h), (fun h => (fun h => ⟨rfl, h.2⟩) (f4.out h)), (fun h => (fun h => ⟨rfl, h.2⟩) (f5.out h)), (fun h => f6.out h), (fun h => (fun _ => rfl) (f7.out h))⟩
        · intro L vs W hlen hL hD hI K hK
          obtain ⟨x0, x1, x2, x3, x4, x5, x6, x7, rfl⟩ := len8 hlen
          have hG := hI.1
          replace hI := hI.2
          have f0 := hide hI.1
          replace hI := hI.2
          have f1 := hide hI.1
          replace hI := hI.2
          have f2 := hide hI.1
          replace hI := hI.2
          have f3 := hide hI.1
          replace hI := hI.2
          have f4 := hide hI.1
          replace hI := hI.2
          have f5 := hide hI.1
          replace hI := hI.2
          have f6 := hide hI.1
          replace hI := hI.2
          have f7 := hide hI
          clear hI
          have r0 := hG.hb
          try simp only [puts, Act.put, List.setIfInBounds_toArray, List.set_cons_zero, List.set_cons_succ]
          try go_simp
          exact hK.out _ _ _ (by simp only [puts, Act.put, List.setIfInBounds_toArray, List.set_cons_zero, List.set_cons_succ] <;> rfl) ⟨hG, (fun h => f0.out h), (fun h => f1.out h), (fun _ => rfl), (fun h => f3.out h), (fun h => f4.out h), (fun h => f5.out h), (fun h => f6.out h), (fun h => f7.out h)⟩
        · intro L vs W hlen hL hD hI K hK
          obtain ⟨x0, x1, x2, x3, x4, x5, x6, x7, rfl⟩ := len8 hlen
          have hG := hI.1
          replace hI := hI.2
          have f0 := hide hI.1
          replace hI := hI.2
          have f1 := hide hI.1
          replace hI := hI.2
          have f2 := hide hI.1
          replace hI := hI.2
          have f3 := hide hI.1
          replace hI := hI.2
          have f4 := hide hI.1
          replace hI := hI.2
          have f5 := hide hI.1
          replace hI := hI.2
          have f6 := hide hI.1
          replace hI := hI.2
          have f7 := hide hI
          clear hI
          have r0 := hG.hb
          obtain rfl := f2.out (hD.on 2 (by kernel_rfl))
          try simp only [puts, Act.put, List.setIfInBounds_toArray, List.set_cons_zero, List.set_cons_succ]
          try go_simp
          refine (HP2.out _).mono ?_
          rintro e W' ⟨rfl, hb⟩
          try go_simp
          exact hK.out _ _ _ (by simp only [puts, Act.put, List.setIfInBounds_toArray, List.set_cons_zero, List.set_cons_succ] <;> rfl) ⟨hG.later hb, (fun h => f0.out h), (fun h => f1.out h), (fun h => f2.out h), (fun _ => rfl), (fun h => f4.out h), (fun h => f5.out h), (fun h => f6.out h), (fun h => f7.out h)⟩
        · intro L vs W hlen hL hD hI K hK
          obtain ⟨x0, x1, x2, x3, x4, x5, x6, x7, rfl⟩ := len8 hlen
          have hG := hI.1
          replace hI := hI.2
          have f0 := hide hI.1
          replace hI := hI.2
          have f1 := hide hI.1
          replace hI := hI.2
          have f2 := hide hI.1
          replace hI := hI.2
          have f3 := hide hI.1
          replace hI := hI.2
          have f4 := hide hI.1
          replace hI := hI.2
          have f5 := hide hI.1
          replace hI := hI.2
          have f6 := hide hI.1
          replace hI := hI.2
          have f7 := hide hI
          clear hI
          have r0 := hG.hb
          obtain rfl := f1.out (hD.on 1 (by kernel_rfl))
          obtain rfl := f3.out (hD.on 3 (by kernel_rfl))
          try simp only [puts, Act.put, List.setIfInBounds_toArray, List.set_cons_zero, List.set_cons_succ]
          try go_simp
          exact hK.out _ _ _ (by simp only [puts, Act.put, List.setIfInBounds_toArray, List.set_cons_zero, List.set_cons_succ] <;> rfl) ⟨hG, (fun h => f0.out h), (fun h => f1.out h), (fun h => f2.out h), (fun h => f3.out h), (fun _ => ⟨hD.on 1 (by kernel_rfl), rfl⟩), (fun h => f5.out h), (fun h => f6.out h), (fun h => f7.out h)⟩
        · intro L vs W hlen hL hD hI K hK
          obtain ⟨x0, x1, x2, x3, x4, x5, x6, x7, rfl⟩ := len8 hlen
          have hG := hI.1
          replace hI := hI.2
          have f0 := hide hI.1
          replace hI := hI.2
          have f1 := hide hI.1
          replace hI := hI.2
          have f2 := hide hI.1
          replace hI := hI.2
          have f3 := hide hI.1
          replace hI := hI.2
          have f4 := hide hI.1
          replace hI := hI.2
          have f5 := hide hI.1
          replace hI := hI.2
          have f6 := hide hI.1
          replace hI := hI.2
          have f7 := hide hI
          clear hI
          have r0 := hG.hb
          have g4 := f4.out (hD.on 4 (by kernel_rfl))
          try simp only [puts, Act.put, List.setIfInBounds_toArray, List.set_cons_zero, List.set_cons_succ]
          obtain rfl := g4.2
          go_simp
          exact hK.out _ _ _ (by simp only [puts, Act.put, List.setIfInBounds_toArray, List.set_cons_zero, List.set_cons_succ] <;> rfl) ⟨hG, (fun h => f0.out h), (fun h => f1.out h), (fun h => f2.out h), (fun h => f3.out h), (fun h => f4.out h), (fun _ => ⟨g4.1, rfl⟩), (fun h => f6.out h), (fun h => f7.out h)⟩
        · intro L vs W hlen hL hD hI K hK
          obtain ⟨x0, x1, x2, x3, x4, x5, x6, x7, rfl⟩ := len8 hlen
          have hG := hI.1
          replace hI := hI.2
          have f0 := hide hI.1
          replace hI := hI.2
          have f1 := hide hI.1
          replace hI := hI.2
          have f2 := hide hI.1
          replace hI := hI.2
          have f3 := hide hI.1
          replace hI := hI.2
          have f4 := hide hI.1
          replace hI := hI.2
          have f5 := hide hI.1
          replace hI := hI.2
          have f6 := hide hI.1
          replace hI := hI.2
          have f7 := hide hI
          clear hI
          have r0 := hG.hb
          try simp only [puts, Act.put, List.setIfInBounds_toArray, List.set_cons_zero, List.set_cons_succ]
          try go_simp
          exact hK.out _ _ _ (by simp only [puts, Act.put, List.setIfInBounds_toArray, List.set_cons_zero, List.set_cons_succ] <;> rfl) ⟨hG, (fun h => f0.out h), (fun h => f1.out h), (fun h => f2.out h), (fun h => f3.out h), (fun h => f4.out h), (fun h => f5.out h), (fun _ => rfl), (fun h => f7.out h)⟩
        · intro L vs W hlen hL hD hI K hK
          obtain ⟨x0, x1, x2, x3, x4, x5, x6, x7, rfl⟩ := len8 hlen
          have hG := hI.1
          replace hI := hI.2
          have f0 := hide hI.1
          replace hI := hI.2
          have f1 := hide hI.1
          replace hI := hI.2
          have f2 := hide hI.1
          replace hI := hI.2
          have f3 := hide hI.1
          replace hI := hI.2
          have f4 := hide hI.1
          replace hI := hI.2
          have f5 := hide hI.1
          replace hI := hI.2
          have f6 := hide hI.1
          replace hI := hI.2
          have f7 := hide hI
          clear hI
          have r0 := hG.hb
          have g5 := f5.out (hD.on 5 (by kernel_rfl))
          obtain rfl := f6.out (hD.on 6 (by kernel_rfl))
          try simp only [puts, Act.put, List.setIfInBounds_toArray, List.set_cons_zero, List.set_cons_succ]
          obtain rfl := g5.2
          have hG7 := hG
          rw [hL] at hG7
          have z0 := hG7.box.frozen 2
          have z1 := hG7.box.cell 2 rfl
          go_simp
          have hb := Below.refl W.heap.size W
          exact hK.out _ undef _ (by simp only [puts, Act.put, List.setIfInBounds_toArray, List.set_cons_zero, List.set_cons_succ] <;> rfl) ⟨hG7.at2 hR, (fun h => f0.out h), (fun h => f1.out h), (fun h => f2.out h), (fun h => f3.out h), (fun h => f4.out h), (fun h => f5.out h), (fun h => f6.out h), (fun _ => g5.1)⟩
      intro L vs W hlen hall hI
      obtain ⟨x0, x1, x2, x3, x4, x5, x6, x7, rfl⟩ := len8 hlen
      have hG := hI.1
      replace hI := hI.2
      have f0 := hide hI.1
      replace hI := hI.2
      have f1 := hide hI.1
      replace hI := hI.2
      have f2 := hide hI.1
      replace hI := hI.2
      have f3 := hide hI.1
      replace hI := hI.2
      have f4 := hide hI.1
      replace hI := hI.2
      have f5 := hide hI.1
      replace hI := hI.2
      have f6 := hide hI.1
      replace hI := hI.2
      have f7 := hide hI
      clear hI
      obtain rfl := f0.out (hall 0 (by decide))
      obtain rfl := f1.out (hall 1 (by decide))
      obtain rfl := f2.out (hall 2 (by decide))
      obtain rfl := f3.out (hall 3 (by decide))
      have g4 := f4.out (hall 4 (by decide))
      have g5 := f5.out (hall 5 (by decide))
      obtain rfl := f6.out (hall 6 (by decide))
      have g7 := f7.out (hall 7 (by decide))
      have hal := hide hall
      clear hall f0 f1 f2 f3 f4 f5 f6 f7
      try simp only [puts, Act.put, List.setIfInBounds_toArray, List.set_cons_zero, List.set_cons_succ]
      rw [hal.out 7 (by decide)] at hG
      have bM7 := hG.done
      have hb27' := hG.hb
      have bV11 := hG.blk bV10 (Nat.ne_of_lt hVR)
      have bQ11 := hG.blk bQ10 (Nat.ne_of_lt hQR)
      obtain rfl := g4.2
      obtain rfl := g5.2
      clear hG g4 g5 g7 hal bM6 bV10 bQ10
      obtain ⟨W7, hW7⟩ : ∃ Z, Z = W := ⟨_, rfl⟩
      subst hW7
      have r0 := (bM7).cell 0 rfl
      have r1 := (bM7).cell 1 rfl
      have r2 := (bM7).cell 2 rfl
      have HFM := hide (fitting_any A B _ _ ⟨tu, dx + s1 - 16, dy + s2 - 16⟩ W7 (DA.below hb27') (DB.below hb27') (hG2.later hb27'))
      have hW3m := hide (hW3.out ⟨tu, dx + s1 - 16, dy + s2 - 16⟩)
      generalize fittingD A B ⟨tu, dx + s1 - 16, dy + s2 - 16⟩ = ph at *
      go_wp2_with fail
      refine HFM.out.mono ?_
      rintro e w10 ⟨rfl, hb10⟩
      cases ph
      · go_wp2_with fail
        go_ret
        exact ⟨rfl, hbw2.trans ((below2 hb27' hb10).mono hbw2.size)⟩
      · have hW3n := hide (hW3m.out rfl)
        have hb210 := below2 hb27' hb10
        have bM10 := bM7.later hb10
        have bV12 := bV11.later hb10
        have bQ12 := bQ11.later hb10
        clear r0 r1 r2
        have r0 := (bM10).cell 0 rfl
        have r1 := (bM10).cell 1 rfl
        have r2 := (bM10).cell 2 rfl
        have q0 := id ((bQ12).cell 0 rfl)
        have q1 := id ((bQ12).cell 1 rfl)
        have q2 := id ((bQ12).cell 2 rfl)
        have q3 := id ((bQ12).cell 3 rfl)
        have HPM := hide (fun (W : World) hb => partnerl_any A (.slice aa A.length ac) Q ⟨tu, dx + s1 - 16, dy + s2 - 16⟩ W (DA.below hb) hokA hokq (hG2.later hb))
        generalize partnerD A Q ⟨tu, dx + s1 - 16, dy + s2 - 16⟩ = pm at *
        go_wp2_with fail
        refine (HPM.out _ hb210).mono ?_
        rintro e w11 ⟨rfl, hb11⟩
        have bV13 := bV12.later hb11
        have v0 := bV13.cell 0 rfl
        have hp2 : decide (0 ≤ pm) = true := by have := hW3n.out.2 (by trivial); simpa using this
        clear hW3n
        clear r0 r1 r2 q0 q1 q2 q3
        go_wp2_with fail
        go_ret
        exact ⟨ret_bool (by simp [*]), hbw2.trans ((below2 hb210 hb11).mono hbw2.size)⟩
end Go.Proofs.YtoofkahklboojaaDoor
