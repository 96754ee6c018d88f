/- Register: walks of the reference's functions on places: pick, moves, turned, Apply. Conditions: that integers are of 64 bits; sizes. -/
import Derived.Test.YtoofkahklboojaaDoorRkL
namespace Go.Proofs.YtoofkahklboojaaDoor
open Go.RowKit

def i64B (x : Int) : Prop := -9223372036854775808 ≤ x ∧ x ≤ 9223372036854775807
theorem absR_nonneg (c : Int) : 0 ≤ absR c := by unfold absR; split <;> omega
set_option maxHeartbeats 400000 in
theorem pickr_any (c n : Int) (w : World) (h : i64B c) (hn : 0 < n) (hn2 : n ≤ 9223372036854775807) :
    Calls Tryd.prog 35 #[iV c, iV n] w (Ret (iV (pickR c n)) w) := by
  obtain ⟨h1, h2⟩ := h
  have hne : n ≠ 0 := by omega
  have HF : Hid (pickR c n = absR c % n) := hide rfl
  have HP := hide (pickR_in c hn).1
  have HL := hide (pickR_in c hn).2
  by_cases hc : c < 0
  · have HA : Hid (absR c = -(c + 1)) := hide (by unfold absR; rw [if_pos hc])
    have HT : Hid ((-(c + 1)).tmod n = pickR c n) := hide (by rw [HF.out, HA.out]; exact Int.tmod_eq_emod_of_nonneg (by omega))
    go_enter Tryd.func35, Tryd.ntmps35
    go_wp2
    go_ret
    refine ⟨ret_int ?_, Below.refl _ _⟩
    rw [← Int.neg_tmod]; exact HT.out
  · have HA : Hid (absR c = c) := hide (by unfold absR; rw [if_neg hc])
    have HT : Hid (c.tmod n = pickR c n) := hide (by rw [HF.out, HA.out]; exact Int.tmod_eq_emod_of_nonneg (by omega))
    go_enter Tryd.func35, Tryd.ntmps35
    go_wp2
    go_ret
    refine ⟨ret_int ?_, Below.refl _ _⟩
    rw [HF.out, HA.out]
set_option maxHeartbeats 400000 in
theorem pickl_any (c n : Int) (w : World) (h : i64B c) (hn : 0 < n) (hn2 : n ≤ 9223372036854775807) :
    Calls Tryd.prog 15 #[iV c, iV n] w (Ret (iV (pickR c n)) w) := by
  obtain ⟨h1, h2⟩ := h
  have hne : n ≠ 0 := by omega
  have HF : Hid (pickR c n = absR c % n) := hide rfl
  have HP := hide (pickR_in c hn).1
  have HL := hide (pickR_in c hn).2
  by_cases hc : c < 0
  · have HA : Hid (absR c = -(c + 1)) := hide (by unfold absR; rw [if_pos hc])
    have HT : Hid ((-(c + 1)).tmod n = pickR c n) := hide (by rw [HF.out, HA.out]; exact Int.tmod_eq_emod_of_nonneg (by omega))
    go_enter Tryd.func15, Tryd.ntmps15
    go_wp2
    go_ret
    refine ⟨ret_int ?_, Below.refl _ _⟩
    rw [← Int.neg_tmod]; exact HT.out
  · have HA : Hid (absR c = c) := hide (by unfold absR; rw [if_neg hc])
    have HT : Hid (c.tmod n = pickR c n) := hide (by rw [HF.out, HA.out]; exact Int.tmod_eq_emod_of_nonneg (by omega))
    go_enter Tryd.func15, Tryd.ntmps15
    go_wp2
    go_ret
    refine ⟨ret_int ?_, Below.refl _ _⟩
    rw [HF.out, HA.out]
theorem turn_next (k : Nat) (x y : Int) (hk : k < 3) : turnX (k + 1) x y = -turnY k x y ∧ turnY (k + 1) x y = turnX k x y := by
  obtain rfl | rfl | rfl : k = 0 ∨ k = 1 ∨ k = 2 := by omega
  · exact ⟨rfl, rfl⟩
  · exact ⟨rfl, rfl⟩
  · exact ⟨by simp [turnX, turnY], rfl⟩
set_option maxRecDepth 20000 in
set_option maxHeartbeats 1000000 in
theorem rturned_any (k : Nat) (x y : Int) (w : World) (hk : k ≤ 3) (hx : i64N x) (hy : i64N y) :
    Calls Tryd.prog 61 #[iV k, iV x, iV y] w (Ret (.tuple #[iV (turnX k x y), iV (turnY k x y)]) w) := by
  go_enter Tryd.func61, Tryd.ntmps61
  go_wp2_with fail
  go_loopw [1, 2, 8] (fun a b i wr => ∃ (j : Nat), j ≤ k ∧ i = .int .i64 j ∧ a = iV (turnX j x y) ∧ b = iV (turnY j x y) ∧ Below w.heap.size w wr) (fun _ _ i _ => k - (intOf i).toNat)
  case atStart => exact ⟨0, by omega, rfl, rfl, rfl, Below.refl _ _⟩
  case round =>
    obtain ⟨j, hj, rfl, rfl, rfl, hbr⟩ := hrel
    have hbd := turn_bd j x y 1000000 ⟨hx.1, hx.2⟩ ⟨hy.1, hy.2⟩
    by_cases hlt : j < k
    · have HN := hide (turn_next j x y (by omega))
      generalize turnX j x y = tx at *
      generalize turnY j x y = ty at *
      obtain ⟨⟨t1, t2⟩, t3, t4⟩ := hbd
      go_wp2_with fail
      go_roundw
      case rel => exact ⟨j + 1, by omega, by go_num, by rw [HN.out.1], by rw [HN.out.2], hbr⟩
      case measure => simp [intOf]; omega
    · obtain rfl : j = k := by omega
      go_wp2_with fail
      go_ret2
      exact ⟨rfl, hbr⟩
set_option maxRecDepth 20000 in
set_option maxHeartbeats 1000000 in
theorem moves_any (m : MotD) (w : World) : Calls Tryd.prog 47 #[motV m] w (Ret (.bool (motOk m)) w) := by
  have HF := hide (mot_parts m)
  generalize motOk m = R at *
  obtain ⟨t, x, y⟩ := m
  dsimp only at HF
  by_cases h1 : 0 ≤ t
  · by_cases h2 : t ≤ 3
    · by_cases h3 : -5000 ≤ x
      · by_cases h4 : x ≤ 5000
        · by_cases h5 : -5000 ≤ y
          · by_cases h6 : y ≤ 5000
            · go_enter Tryd.func47, Tryd.ntmps47
              go_wp2_with fail
              go_ret
              exact ⟨ret_bool (by rw [HF.out]; simp [isInN]; omega), bal w _⟩
            · go_enter Tryd.func47, Tryd.ntmps47
              go_wp2_with fail
              go_ret
              exact ⟨ret_bool (by rw [HF.out]; simp [isInN]; omega), bal w _⟩
          · go_enter Tryd.func47, Tryd.ntmps47
            go_wp2_with fail
            go_ret
            exact ⟨ret_bool (by rw [HF.out]; simp [isInN]; omega), bal w _⟩
        · go_enter Tryd.func47, Tryd.ntmps47
          go_wp2_with fail
          go_ret
          exact ⟨ret_bool (by rw [HF.out]; simp [isInN]; omega), bal w _⟩
      · go_enter Tryd.func47, Tryd.ntmps47
        go_wp2_with fail
        go_ret
        exact ⟨ret_bool (by rw [HF.out]; simp [isInN]; omega), bal w _⟩
    · go_enter Tryd.func47, Tryd.ntmps47
      go_wp2_with fail
      go_ret
      exact ⟨ret_bool (by rw [HF.out]; simp [isInN]; omega), bal w _⟩
  · go_enter Tryd.func47, Tryd.ntmps47
    go_wp2_with fail
    go_ret
    exact ⟨ret_bool (by rw [HF.out]; simp [isInN]; omega), bal w _⟩
set_option maxRecDepth 20000 in
set_option maxHeartbeats 1000000 in
theorem rapply_any (m : MotD) (x y : Int) (w : World) : Calls Tryd.prog 29 #[motV m, iV x, iV y] w (Ret (.tuple #[iV (applyX m x y), iV (applyY m x y)]) w) := by
  have HN := hide (@ap_no m x y)
  have HY := hide (@ap_yes m x y)
  cases h1 : motOk m
  · go_enter Tryd.func29, Tryd.ntmps29
    go_wp2_with fail
    refine (moves_any m _).mono ?_
    rw [h1]
    rintro e w1 ⟨rfl, hw1⟩
    go_wp2_with fail
    go_ret2
    exact ⟨HN.out (by rw [h1]; rfl), below2 (bal w _) hw1⟩
  · by_cases h2 : x < -5000
    · go_enter Tryd.func29, Tryd.ntmps29
      go_wp2_with fail
      refine (moves_any m _).mono ?_
      rw [h1]
      rintro e w1 ⟨rfl, hw1⟩
      go_wp2_with fail
      go_ret2
      exact ⟨HN.out (by rw [h1]; simp [inShift, isInN]; omega), below2 (bal w _) hw1⟩
    · by_cases h3 : 5000 < x
      · go_enter Tryd.func29, Tryd.ntmps29
        go_wp2_with fail
        refine (moves_any m _).mono ?_
        rw [h1]
        rintro e w1 ⟨rfl, hw1⟩
        go_wp2_with fail
        go_ret2
        exact ⟨HN.out (by rw [h1]; simp [inShift, isInN]; omega), below2 (bal w _) hw1⟩
      · by_cases h4 : y < -5000
        · go_enter Tryd.func29, Tryd.ntmps29
          go_wp2_with fail
          refine (moves_any m _).mono ?_
          rw [h1]
          rintro e w1 ⟨rfl, hw1⟩
          go_wp2_with fail
          go_ret2
          exact ⟨HN.out (by rw [h1]; simp [inShift, isInN]; omega), below2 (bal w _) hw1⟩
        · by_cases h5 : 5000 < y
          · go_enter Tryd.func29, Tryd.ntmps29
            go_wp2_with fail
            refine (moves_any m _).mono ?_
            rw [h1]
            rintro e w1 ⟨rfl, hw1⟩
            go_wp2_with fail
            go_ret2
            exact ⟨HN.out (by rw [h1]; simp [inShift, isInN]; omega), below2 (bal w _) hw1⟩
          · have hy := (mot_iff m).1 h1
            have HO := hide (HY.out (by rw [h1]; simp [inShift, isInN]; omega))
            have hT := hide (fun W => rturned_any m.turn.toNat x y W (by omega) ⟨by omega, by omega⟩ ⟨by omega, by omega⟩)
            have e0 : (m.turn.toNat : Int) = m.turn := by omega
            rw [e0] at hT
            have htb := turn_bd m.turn.toNat x y 5000 (by omega) (by omega)
            unfold appX appY at HO
            generalize turnX m.turn.toNat x y = tx at *
            generalize turnY m.turn.toNat x y = ty at *
            have HMV := hide (fun W => moves_any m W)
            rw [h1] at HMV
            obtain ⟨t, dx, dy⟩ := m
            dsimp only at *
            clear e0 HN HY h1
            go_enter Tryd.func29, Tryd.ntmps29
            go_wp2_with fail
            generalize hX1 : World.alloc w _ = X1
            have zX1 : X1.heap.size = w.heap.size + 1 := by rw [← hX1]; simp
            have bX1 : Below w.heap.size w X1 := by rw [← hX1]; exact bal w _
            have bA : Blk X1 (w.heap.size) [iV t, iV dx, iV dy] 32 := by rw [← hX1]; exact Blk.newA w _ (by first | rfl | simp)
            have Xb := bX1
            have Xz := zX1
            clear hX1 zX1 bX1
            refine (HMV.out _).mono ?_
            rintro e w3 ⟨rfl, b3⟩
            have bA3 := bA.later b3
            have c0 := bA3.cell 0 rfl
            go_wp2_with fail
            refine (hT.out _).mono ?_
            rintro e w4 ⟨rfl, hw4⟩
            have bA4 := bA3.later hw4
            have C1 := bwc (bA4.cell 1 rfl)
            have C2 := bwc (bA4.cell 2 rfl)
            go_wp2_with fail
            refine wp_region_bw (by kernel_rfl) (by kernel_rfl) ?_
            repeat (go_big_quiet_step (fail))
            refine wpQuiet_nil ?_
            rintro _ ⟨i, rfl⟩
            go_wp2_with fail
            go_ret2
            exact ⟨HO.out, below2 Xb (below2 b3 (below2 hw4 i.h))⟩
end Go.Proofs.YtoofkahklboojaaDoor
