/- Register: walks of Invert, and of the functions on boxes. Conditions: how the global tables lie in memory; sizes. -/
import Derived.Test.YtoofkahklboojaaDoorRkA
import Derived.Test.YtoofkahklboojaaDoorEffK
namespace Go.Proofs.YtoofkahklboojaaDoor
open Go.RowKit

theorem ret_mot {a b : MotD} (h : a = b) : Ending.returned (motV a) = .returned (motV b) := by rw [h]
theorem ret_box {a b : BoxD} (h : a = b) : Ending.returned (boxV a) = .returned (boxV b) := by rw [h]
set_option maxRecDepth 20000 in
set_option maxHeartbeats 1000000 in
theorem invert_any (m : MotD) (w : World) (hG : Glob w) : Calls Tryd.prog 30 #[motV m] w (Ret (motV (invD m)) w) := by
  have HF : Hid (invD m = if motOk m then ⟨(4 - m.turn) % 4, turnX ((4 - m.turn) % 4).toNat (-m.dx) (-m.dy), turnY ((4 - m.turn) % 4).toNat (-m.dx) (-m.dy)⟩ else ⟨0, 0, 0⟩) := hide rfl
  generalize invD m = R at *
  go_enter Tryd.func30, Tryd.ntmps30
  go_wp2_with fail
  generalize hX1 : World.alloc w _ = X1
  have zX1 : X1.heap.size = w.heap.size + 1 := by rw [← hX1]; simp
  have bX1 : Below w.heap.size w X1 := by rw [← hX1]; exact bal w _
  have bA_1 : Blk X1 (w.heap.size) [iV m.turn, iV m.dx, iV m.dy] 32 := by rw [← hX1]; exact Blk.newA w _ (by first | rfl | simp)
  generalize hX2 : World.alloc X1 _ = X2
  have zX2 : X2.heap.size = w.heap.size + 1 + 1 := by rw [← hX2]; simp [zX1]
  have bX2 : Below X1.heap.size X1 X2 := by rw [← hX2]; exact bal X1 _
  have bR : Blk X2 (w.heap.size + 1) [iV 0, iV 0, iV 0] 32 := by rw [← hX2, ← zX1]; exact Blk.newA X1 _ (by first | rfl | simp)
  have bA := bA_1.later bX2
  have Xb := below2 (bX1) bX2
  have Xz := zX2
  clear hX1 zX1 bX1 hX2 zX2 bX2 bA_1
  have hX1 := hG.later Xb
  cases h1 : motOk m
  · refine (ismot_any m _).mono ?_
    rw [h1]
    rintro e w1 ⟨rfl, hw1⟩
    have bR1 := bR.later hw1
    have hb := below2 Xb hw1
    have g0 := (bR1).frozen 0
    have g1 := (bR1).frozen 1
    have g2 := (bR1).frozen 2
    have r0 := (bR1).cell 0 rfl
    have r1 := (bR1).cell 1 rfl
    have r2 := (bR1).cell 2 rfl
    go_wp2_with fail
    have hS := set3 (bR1) (iV (0)) (iV (0)) (iV (0))
    refine bodyPost_ret (results_cell_row (p := 2) rfl _ _ (w.heap.size + 1) _ _ _ _ rfl hS.1 Tryd.underlying32 rfl (by kernel_rfl)) rfl ?_
    exact ⟨by rw [HF.out, h1]; rfl, hS.2.1 _ _ hb (by omega)⟩
  · refine (ismot_any m _).mono ?_
    rw [h1]
    rintro e w1 ⟨rfl, hw1⟩
    obtain ⟨t, dx, dy⟩ := m
    obtain ⟨⟨y1, y2⟩, y3, y4, y5, y6⟩ := (mot_iff _).1 h1
    dsimp only at *
    rw [h1, if_pos rfl] at HF
    have bA1 := bA.later hw1
    have hG1 := hX1.later hw1
    have hb := below2 Xb hw1
    have c0 := (bA1).cell 0 rfl
    have c1 := (bA1).cell 1 rfl
    have c2 := (bA1).cell 2 rfl
    have hm : 0 ≤ (4 - t) % 4 ∧ (4 - t) % 4 ≤ 3 := by omega
    have hT := turned_any ((4 - t) % 4).toNat (-dx) (-dy) w1 (by omega) ⟨by omega, by omega⟩ ⟨by omega, by omega⟩ hG1
    rw [show (((4 - t) % 4).toNat : Int) = (4 - t) % 4 by omega] at hT
    have htb := turn_bd ((4 - t) % 4).toNat (-dx) (-dy) 5000 (by omega) (by omega)
    have HT : Hid (Calls Tryd.prog 60 #[iV (-t % 4), iV (-dx), iV (-dy)] w1 (Ret (.tuple #[iV (turnX ((4 - t) % 4).toNat (-dx) (-dy)), iV (turnY ((4 - t) % 4).toNat (-dx) (-dy))]) w1)) := hide (by
      have e : -t % 4 = (4 - t) % 4 := by omega
      rw [e]; exact hT)
    clear hT
    generalize turnX ((4 - t) % 4).toNat (-dx) (-dy) = tx at *
    generalize turnY ((4 - t) % 4).toNat (-dx) (-dy) = ty at *
    clear h1 hm
    have y7 : 0 ≤ 4 - t := by omega
    have bR1 := bR.later hw1
    go_wp2_with fail
    refine HT.out.mono ?_
    rintro e w2 ⟨rfl, hw2⟩
    have bR2 := bR1.later hw2
    have g0 := (bR2).frozen 0
    have g1 := (bR2).frozen 1
    have g2 := (bR2).frozen 2
    have r0 := (bR2).cell 0 rfl
    have r1 := (bR2).cell 1 rfl
    have r2 := (bR2).cell 2 rfl
    go_wp2_with fail
    have hS := set3 (bR2) (iV (-t % 4)) (iV (tx)) (iV (ty))
    refine bodyPost_ret (results_cell_row (p := 2) rfl _ _ (w.heap.size + 1) _ _ _ _ rfl hS.1 Tryd.underlying32 rfl (by kernel_rfl)) rfl ?_
    exact ⟨by rw [HF.out, show -t % 4 = (4 - t) % 4 by omega], hS.2.1 _ _ (below2 hb hw2) (by omega)⟩
set_option maxRecDepth 20000 in
set_option maxHeartbeats 1000000 in
theorem common_any (a b c d : Int) (w : World) : Calls Tryd.prog 66 #[.agg #[iV a, iV b], .agg #[iV c, iV d]] w (Ret (.agg #[iV (max a c), iV (min b d)]) w) := by
  go_enter Tryd.func66, Tryd.ntmps66
  go_wp2_with fail
  · skip
    generalize hX1 : World.alloc w _ = X1
    have zX1 : X1.heap.size = w.heap.size + 1 := by rw [← hX1]; simp
    have bX1 : Below w.heap.size w X1 := by rw [← hX1]; exact bal w _
    have bA_1 : Blk X1 (w.heap.size) [iV a, iV b] 78 := by rw [← hX1]; exact Blk.newA w _ (by first | rfl | simp)
    generalize hX2 : World.alloc X1 _ = X2
    have zX2 : X2.heap.size = w.heap.size + 1 + 1 := by rw [← hX2]; simp [zX1]
    have bX2 : Below X1.heap.size X1 X2 := by rw [← hX2]; exact bal X1 _
    have bB_2 : Blk X2 (w.heap.size + 1) [iV c, iV d] 78 := by rw [← hX2, ← zX1]; exact Blk.newA X1 _ (by first | rfl | simp)
    have bA_2 := bA_1.later bX2
    generalize hX3 : World.alloc X2 _ = X3
    have zX3 : X3.heap.size = w.heap.size + 1 + 1 + 1 := by rw [← hX3]; simp [zX2]
    have bX3 : Below X2.heap.size X2 X3 := by rw [← hX3]; exact bal X2 _
    have bC : Blk X3 (w.heap.size + 1 + 1) [iV (c), iV (d)] 78 := by rw [← hX3, ← zX2]; exact Blk.newA X2 _ (by first | rfl | simp)
    have bA := bA_2.later bX3
    have bB := bB_2.later bX3
    have Xb := below2 (below2 (bX1) bX2) bX3
    have Xz := zX3
    clear hX1 zX1 bX1 hX2 zX2 bX2 hX3 zX3 bX3 bA_1 bA_2 bB_2
    refine bodyPost_ret (results_cell_row (p := 4) rfl _ _ (w.heap.size + 1 + 1) _ _ _ _ rfl bC Tryd.underlying78 rfl (by kernel_rfl)) rfl ?_
    refine ⟨?_, Xb⟩
    rw [show max a c = c by omega, show min b d = d by omega]
  · skip
    generalize hX1 : World.alloc w _ = X1
    have zX1 : X1.heap.size = w.heap.size + 1 := by rw [← hX1]; simp
    have bX1 : Below w.heap.size w X1 := by rw [← hX1]; exact bal w _
    have bA_1 : Blk X1 (w.heap.size) [iV a, iV b] 78 := by rw [← hX1]; exact Blk.newA w _ (by first | rfl | simp)
    generalize hX2 : World.alloc X1 _ = X2
    have zX2 : X2.heap.size = w.heap.size + 1 + 1 := by rw [← hX2]; simp [zX1]
    have bX2 : Below X1.heap.size X1 X2 := by rw [← hX2]; exact bal X1 _
    have bB_2 : Blk X2 (w.heap.size + 1) [iV c, iV d] 78 := by rw [← hX2, ← zX1]; exact Blk.newA X1 _ (by first | rfl | simp)
    have bA_2 := bA_1.later bX2
    generalize hX3 : World.alloc X2 _ = X3
    have zX3 : X3.heap.size = w.heap.size + 1 + 1 + 1 := by rw [← hX3]; simp [zX2]
    have bX3 : Below X2.heap.size X2 X3 := by rw [← hX3]; exact bal X2 _
    have bC : Blk X3 (w.heap.size + 1 + 1) [iV (c), iV (b)] 78 := by rw [← hX3, ← zX2]; exact Blk.newA X2 _ (by first | rfl | simp)
    have bA := bA_2.later bX3
    have bB := bB_2.later bX3
    have Xb := below2 (below2 (bX1) bX2) bX3
    have Xz := zX3
    clear hX1 zX1 bX1 hX2 zX2 bX2 hX3 zX3 bX3 bA_1 bA_2 bB_2
    refine bodyPost_ret (results_cell_row (p := 4) rfl _ _ (w.heap.size + 1 + 1) _ _ _ _ rfl bC Tryd.underlying78 rfl (by kernel_rfl)) rfl ?_
    refine ⟨?_, Xb⟩
    rw [show max a c = c by omega, show min b d = b by omega]
  · skip
    generalize hX1 : World.alloc w _ = X1
    have zX1 : X1.heap.size = w.heap.size + 1 := by rw [← hX1]; simp
    have bX1 : Below w.heap.size w X1 := by rw [← hX1]; exact bal w _
    have bA_1 : Blk X1 (w.heap.size) [iV a, iV b] 78 := by rw [← hX1]; exact Blk.newA w _ (by first | rfl | simp)
    generalize hX2 : World.alloc X1 _ = X2
    have zX2 : X2.heap.size = w.heap.size + 1 + 1 := by rw [← hX2]; simp [zX1]
    have bX2 : Below X1.heap.size X1 X2 := by rw [← hX2]; exact bal X1 _
    have bB_2 : Blk X2 (w.heap.size + 1) [iV c, iV d] 78 := by rw [← hX2, ← zX1]; exact Blk.newA X1 _ (by first | rfl | simp)
    have bA_2 := bA_1.later bX2
    generalize hX3 : World.alloc X2 _ = X3
    have zX3 : X3.heap.size = w.heap.size + 1 + 1 + 1 := by rw [← hX3]; simp [zX2]
    have bX3 : Below X2.heap.size X2 X3 := by rw [← hX3]; exact bal X2 _
    have bC : Blk X3 (w.heap.size + 1 + 1) [iV (a), iV (d)] 78 := by rw [← hX3, ← zX2]; exact Blk.newA X2 _ (by first | rfl | simp)
    have bA := bA_2.later bX3
    have bB := bB_2.later bX3
    have Xb := below2 (below2 (bX1) bX2) bX3
    have Xz := zX3
    clear hX1 zX1 bX1 hX2 zX2 bX2 hX3 zX3 bX3 bA_1 bA_2 bB_2
    refine bodyPost_ret (results_cell_row (p := 4) rfl _ _ (w.heap.size + 1 + 1) _ _ _ _ rfl bC Tryd.underlying78 rfl (by kernel_rfl)) rfl ?_
    refine ⟨?_, Xb⟩
    rw [show max a c = a by omega, show min b d = d by omega]
  · skip
    generalize hX1 : World.alloc w _ = X1
    have zX1 : X1.heap.size = w.heap.size + 1 := by rw [← hX1]; simp
    have bX1 : Below w.heap.size w X1 := by rw [← hX1]; exact bal w _
    have bA_1 : Blk X1 (w.heap.size) [iV a, iV b] 78 := by rw [← hX1]; exact Blk.newA w _ (by first | rfl | simp)
    generalize hX2 : World.alloc X1 _ = X2
    have zX2 : X2.heap.size = w.heap.size + 1 + 1 := by rw [← hX2]; simp [zX1]
    have bX2 : Below X1.heap.size X1 X2 := by rw [← hX2]; exact bal X1 _
    have bB_2 : Blk X2 (w.heap.size + 1) [iV c, iV d] 78 := by rw [← hX2, ← zX1]; exact Blk.newA X1 _ (by first | rfl | simp)
    have bA_2 := bA_1.later bX2
    generalize hX3 : World.alloc X2 _ = X3
    have zX3 : X3.heap.size = w.heap.size + 1 + 1 + 1 := by rw [← hX3]; simp [zX2]
    have bX3 : Below X2.heap.size X2 X3 := by rw [← hX3]; exact bal X2 _
    have bC : Blk X3 (w.heap.size + 1 + 1) [iV (a), iV (b)] 78 := by rw [← hX3, ← zX2]; exact Blk.newA X2 _ (by first | rfl | simp)
    have bA := bA_2.later bX3
    have bB := bB_2.later bX3
    have Xb := below2 (below2 (bX1) bX2) bX3
    have Xz := zX3
    clear hX1 zX1 bX1 hX2 zX2 bX2 hX3 zX3 bX3 bA_1 bA_2 bB_2
    refine bodyPost_ret (results_cell_row (p := 4) rfl _ _ (w.heap.size + 1 + 1) _ _ _ _ rfl bC Tryd.underlying78 rfl (by kernel_rfl)) rfl ?_
    refine ⟨?_, Xb⟩
    rw [show max a c = a by omega, show min b d = b by omega]
set_option maxRecDepth 20000 in
set_option maxHeartbeats 1000000 in
theorem isempty_any (b : BoxD) (w : World) : Calls Tryd.prog 38 #[boxV b] w (Ret (.bool (emptyB b)) w) := by
  have HF : Hid (emptyB b = (decide (b.xh < b.xl) || decide (b.yh < b.yl))) := hide rfl
  generalize emptyB b = R at *
  by_cases h1 : b.xh < b.xl
  · have h2 : decide (b.xh < b.xl) = true := by simpa using h1
    go_enter Tryd.func38, Tryd.ntmps38
    go_wp2_with fail
    go_ret
    exact ⟨ret_bool (by rw [HF.out, h2]; rfl), bal _ _⟩
  · have h2 : decide (b.xh < b.xl) = false := by simpa using h1
    go_enter Tryd.func38, Tryd.ntmps38
    go_wp2_with fail
    go_ret
    exact ⟨ret_bool (by rw [HF.out, h2]; rfl), bal _ _⟩
set_option maxRecDepth 20000 in
set_option maxHeartbeats 1000000 in
theorem has_any (b : BoxD) (x y : Int) (w : World) : Calls Tryd.prog 46 #[boxV b, iV x, iV y] w (Ret (.bool (hasB b x y)) w) := by
  have HF : Hid (hasB b x y = (isInN b.xl x b.xh && isInN b.yl y b.yh)) := hide (by rw [Bool.eq_iff_iff, has_iff]; simp [isInN, and_assoc])
  generalize hasB b x y = R at *
  obtain ⟨xl, xh, yl, yh⟩ := b
  dsimp only at HF
  go_enter Tryd.func46, Tryd.ntmps46
  go_wp2_with fail
  generalize hX1 : World.alloc w _ = X1
  have zX1 : X1.heap.size = w.heap.size + 1 := by rw [← hX1]; simp
  have bX1 : Below w.heap.size w X1 := by rw [← hX1]; exact bal w _
  have bA : Blk X1 (w.heap.size) [iV xl, iV xh, iV yl, iV yh] 80 := by rw [← hX1]; exact Blk.newA w _ (by first | rfl | simp)
  have Xb := bX1
  have Xz := zX1
  clear hX1 zX1 bX1
  cases h1 : isInN xl x xh
  · refine (risIn_any _ _ _ _).mono ?_
    rw [h1]
    rintro e w1 ⟨rfl, hw1⟩
    go_wp2_with fail
    go_ret
    exact ⟨ret_bool (by rw [HF.out, h1]; rfl), below2 Xb hw1⟩
  · refine (risIn_any _ _ _ _).mono ?_
    rw [h1]
    rintro e w1 ⟨rfl, hw1⟩
    have c2 := (bA.later hw1).cell 2 rfl
    have c3 := (bA.later hw1).cell 3 rfl
    go_wp2_with fail
    cases h2 : isInN yl y yh
    all_goals
      refine (risIn_any _ _ _ _).mono ?_
      rw [h2]
      rintro e w2 ⟨rfl, hw2⟩
      go_wp2_with fail
      go_ret
      exact ⟨ret_bool (by rw [HF.out, h1, h2]; rfl), below2 Xb (below2 hw1 hw2)⟩
set_option maxRecDepth 20000 in
set_option maxHeartbeats 1000000 in
theorem meet_any (a b : BoxD) (w : World) : Calls Tryd.prog 41 #[boxV a, boxV b] w (Ret (boxV (meetD a b)) w) := by
  have HF : Hid (meetD a b = ⟨max a.xl b.xl, min a.xh b.xh, max a.yl b.yl, min a.yh b.yh⟩) := hide rfl
  generalize meetD a b = R at *
  obtain ⟨xl, xh, yl, yh⟩ := a
  obtain ⟨ul, uh, vl, vh⟩ := b
  dsimp only at HF
  go_enter Tryd.func41, Tryd.ntmps41
  go_wp2_with fail
  generalize hX1 : World.alloc w _ = X1
  have zX1 : X1.heap.size = w.heap.size + 1 := by rw [← hX1]; simp
  have bX1 : Below w.heap.size w X1 := by rw [← hX1]; exact bal w _
  have bA_1 : Blk X1 (w.heap.size) [iV xl, iV xh, iV yl, iV yh] 80 := by rw [← hX1]; exact Blk.newA w _ (by first | rfl | simp)
  generalize hX2 : World.alloc X1 _ = X2
  have zX2 : X2.heap.size = w.heap.size + 1 + 1 := by rw [← hX2]; simp [zX1]
  have bX2 : Below X1.heap.size X1 X2 := by rw [← hX2]; exact bal X1 _
  have bB_2 : Blk X2 (w.heap.size + 1) [iV ul, iV uh, iV vl, iV vh] 80 := by rw [← hX2, ← zX1]; exact Blk.newA X1 _ (by first | rfl | simp)
  have bA_2 := bA_1.later bX2
  generalize hX3 : World.alloc X2 _ = X3
  have zX3 : X3.heap.size = w.heap.size + 1 + 1 + 1 := by rw [← hX3]; simp [zX2]
  have bX3 : Below X2.heap.size X2 X3 := by rw [← hX3]; exact bal X2 _
  have bR : Blk X3 (w.heap.size + 1 + 1) [iV 0, iV 0, iV 0, iV 0] 80 := by rw [← hX3, ← zX2]; exact Blk.newA X2 _ (by first | rfl | simp)
  have bA := bA_2.later bX3
  have bB := bB_2.later bX3
  have Xb := below2 (below2 (bX1) bX2) bX3
  have Xz := zX3
  clear hX1 zX1 bX1 hX2 zX2 bX2 hX3 zX3 bX3 bA_1 bA_2 bB_2
  have hne := hide (And.intro (show w.heap.size ≠ w.heap.size + 1 + 1 by omega) (show w.heap.size + 1 ≠ w.heap.size + 1 + 1 by omega))
  refine wp_region_inv [some 5, some 6, some 7, some 8, some 9, some 10, some 11, some 12, some 13, some 14, some 15, none] (fun L vs W => match vs with | [x0, x1, x2, x3, x4, x5, x6, x7, x8, x9, x10, x11] => (BoxG w X3 (w.heap.size + 1 + 1) 80 [iV 0, iV 0, iV 0, iV 0] [iV (max xl ul), iV (min xh uh), iV (max yl vl), iV (min yh vh)] (L 11) W) ∧ (L 0 = true → x0 = .pointer (some ⟨w.heap.size, 0, none⟩)) ∧ (L 1 = true → x1 = .agg #[iV xl, iV xh]) ∧ (L 2 = true → x2 = .pointer (some ⟨w.heap.size + 1, 0, none⟩)) ∧ (L 3 = true → x3 = .agg #[iV ul, iV uh]) ∧ (L 4 = true → x4 = .agg #[iV (max xl ul), iV (min xh uh)]) ∧ (L 5 = true → x5 = .pointer (some ⟨w.heap.size, 2, none⟩)) ∧ (L 6 = true → x6 = .agg #[iV yl, iV yh]) ∧ (L 7 = true → x7 = .pointer (some ⟨w.heap.size + 1, 2, none⟩)) ∧ (L 8 = true → x8 = .agg #[iV vl, iV vh]) ∧ (L 9 = true → x9 = .agg #[iV (max yl vl), iV (min yh vh)]) ∧ (L 10 = true → x10 = boxV ⟨max xl ul, min xh uh, max yl vl, min yh vh⟩) ∧ (L 11 = true → True) | _ => False) [_, _, _, _, _, _, _, _, _, _, _, undef] (by kernel_rfl) (by kernel_rfl) rfl (by simp only [puts, Act.put, List.setIfInBounds_toArray, List.set_cons_zero, List.set_cons_succ] <;> rfl) ?_ ?_ ?_
  · exact ⟨BoxG.first Xb bR, (fun h => by cases h), (fun h => by cases h), (fun h => by cases h), (fun h => by cases h), (fun h => by cases h), (fun h => by cases h), (fun h => by cases h), (fun h => by cases h), (fun h => by cases h), (fun h => by cases h), (fun h => by cases h), (fun h => by cases h)⟩
  · refine ⟨?_, ?_, ?_, ?_, ?_, ?_, ?_, ?_, ?_, ?_, ?_, ?_, trivial⟩
    · intro L vs W hlen hL hD hI K hK
      obtain ⟨x0, x1, x2, x3, x4, x5, x6, x7, x8, x9, x10, x11, rfl⟩ := len12 hlen
      have hG := hI.1
      replace hI := hI.2
      have f0 := hide hI.1
      replace hI := hI.2
      have f1 := hide hI.1
      replace hI := hI.2
      have f2 := hide hI.1
      replace hI := hI.2
      have f3 := hide hI.1
      replace hI := hI.2
      have f4 := hide hI.1
      replace hI := hI.2
      have f5 := hide hI.1
      replace hI := hI.2
      have f6 := hide hI.1
      replace hI := hI.2
      have f7 := hide hI.1
      replace hI := hI.2
      have f8 := hide hI.1
      replace hI := hI.2
      have f9 := hide hI.1
      replace hI := hI.2
      have f10 := hide hI.1
      replace hI := hI.2
      have f11 := hide hI
      clear hI
      have bA' := hG.blk bA hne.out.1
      have bB' := hG.blk bB hne.out.2
      have a0 := bA'.cell 0 rfl
      have a1 := bA'.cell 1 rfl
      have a2 := bA'.cell 2 rfl
      have a3 := bA'.cell 3 rfl
      have b0 := bB'.cell 0 rfl
      have b1 := bB'.cell 1 rfl
      have b2 := bB'.cell 2 rfl
      have b3 := bB'.cell 3 rfl
      try simp only [puts, Act.put, List.setIfInBounds_toArray, List.set_cons_zero, List.set_cons_succ]
      try go_simp
      exact hK.out _ _ _ (by simp only [puts, Act.put, List.setIfInBounds_toArray, List.set_cons_zero, List.set_cons_succ] <;> rfl) ⟨hG, (fun _ => rfl), (fun h => f1.out h), (fun h => f2.out h), (fun h => f3.out h), (fun h => f4.out h), (fun h => f5.out h), (fun h => f6.out h), (fun h => f7.out h), (fun h => f8.out h), (fun h => f9.out h), (fun h => f10.out h), (fun h => f11.out h)⟩
    · intro L vs W hlen hL hD hI K hK
      obtain ⟨x0, x1, x2, x3, x4, x5, x6, x7, x8, x9, x10, x11, rfl⟩ := len12 hlen
      have hG := hI.1
      replace hI := hI.2
      have f0 := hide hI.1
      replace hI := hI.2
      have f1 := hide hI.1
      replace hI := hI.2
      have f2 := hide hI.1
      replace hI := hI.2
      have f3 := hide hI.1
      replace hI := hI.2
      have f4 := hide hI.1
      replace hI := hI.2
      have f5 := hide hI.1
      replace hI := hI.2
      have f6 := hide hI.1
      replace hI := hI.2
      have f7 := hide hI.1
      replace hI := hI.2
      have f8 := hide hI.1
      replace hI := hI.2
      have f9 := hide hI.1
      replace hI := hI.2
      have f10 := hide hI.1
      replace hI := hI.2
      have f11 := hide hI
      clear hI
      have bA' := hG.blk bA hne.out.1
      have bB' := hG.blk bB hne.out.2
      have a0 := bA'.cell 0 rfl
      have a1 := bA'.cell 1 rfl
      have a2 := bA'.cell 2 rfl
      have a3 := bA'.cell 3 rfl
      have b0 := bB'.cell 0 rfl
      have b1 := bB'.cell 1 rfl
      have b2 := bB'.cell 2 rfl
      have b3 := bB'.cell 3 rfl
      obtain rfl := f0.out (hD.on 0 (by kernel_rfl))
      try simp only [puts, Act.put, List.setIfInBounds_toArray, List.set_cons_zero, List.set_cons_succ]
      try go_simp
      exact hK.out _ _ _ (by simp only [puts, Act.put, List.setIfInBounds_toArray, List.set_cons_zero, List.set_cons_succ] <;> rfl) ⟨hG, (fun h => f0.out h), (fun _ => rfl), (fun h => f2.out h), (fun h => f3.out h), (fun h => f4.out h), (fun h => f5.out h), (fun h => f6.out h), (fun h => f7.out h), (fun h => f8.out h), (fun h => f9.out h), (fun h => f10.out h), (fun h => f11.out h)⟩
    · intro L vs W hlen hL hD hI K hK
      obtain ⟨x0, x1, x2, x3, x4, x5, x6, x7, x8, x9, x10, x11, rfl⟩ := len12 hlen
      have hG := hI.1
      replace hI := hI.2
      have f0 := hide hI.1
      replace hI := hI.2
      have f1 := hide hI.1
      replace hI := hI.2
      have f2 := hide hI.1
      replace hI := hI.2
      have f3 := hide hI.1
      replace hI := hI.2
      have f4 := hide hI.1
      replace hI := hI.2
      have f5 := hide hI.1
      replace hI := hI.2
      have f6 := hide hI.1
      replace hI := hI.2
      have f7 := hide hI.1
      replace hI := hI.2
      have f8 := hide hI.1
      replace hI := hI.2
      have f9 := hide hI.1
      replace hI := hI.2
      have f10 := hide hI.1
      replace hI := hI.2
      have f11 := hide hI
      clear hI
      have bA' := hG.blk bA hne.out.1
      have bB' := hG.blk bB hne.out.2
      have a0 := bA'.cell 0 rfl
      have a1 := bA'.cell 1 rfl
      have a2 := bA'.cell 2 rfl
      have a3 := bA'.cell 3 rfl
      have b0 := bB'.cell 0 rfl
      have b1 := bB'.cell 1 rfl
      have b2 := bB'.cell 2 rfl
      have b3 := bB'.cell 3 rfl
      try simp only [puts, Act.put, List.setIfInBounds_toArray, List.set_cons_zero, List.set_cons_succ]
      try go_simp
      exact hK.out _ _ _ (by simp only [puts, Act.put, List.setIfInBounds_toArray, List.set_cons_zero, List.set_cons_succ] <;> rfl) ⟨hG, (fun h => f0.out h), (fun h => f1.out h), (fun _ => rfl), (fun h => f3.out h), (fun h => f4.out h), (fun h => f5.out h), (fun h => f6.out h), (fun h => f7.out h), (fun h => f8.out h), (fun h => f9.out h), (fun h => f10.out h), (fun h => f11.out h)⟩
    · intro L vs W hlen hL hD hI K hK
      obtain ⟨x0, x1, x2, x3, x4, x5, x6, x7, x8, x9, x10, x11, rfl⟩ := len12 hlen
      have hG := hI.1
      replace hI := hI.2
      have f0 := hide hI.1
      replace hI := hI.2
      have f1 := hide hI.1
      replace hI := hI.2
      have f2 := hide hI.1
      replace hI := hI.2
      have f3 := hide hI.1
      replace hI := hI.2
      have f4 := hide hI.1
      replace hI := hI.2
      have f5 := hide hI.1
      replace hI := hI.2
      have f6 := hide hI.1
      replace hI := hI.2
      have f7 := hide hI.1
      replace hI := hI.2
      have f8 := hide hI.1
      replace hI := hI.2
      have f9 := hide hI.1
      replace hI := hI.2
      have f10 := hide hI.1
      replace hI := hI.2
      have f11 := hide hI
      clear hI
      have bA' := hG.blk bA hne.out.1
      have bB' := hG.blk bB hne.out.2
      have a0 := bA'.cell 0 rfl
      have a1 := bA'.cell 1 rfl
      have a2 := bA'.cell 2 rfl
      have a3 := bA'.cell 3 rfl
      have b0 := bB'.cell 0 rfl
      have b1 := bB'.cell 1 rfl
      have b2 := bB'.cell 2 rfl
      have b3 := bB'.cell 3 rfl
      obtain rfl := f2.out (hD.on 2 (by kernel_rfl))
      try simp only [puts, Act.put, List.setIfInBounds_toArray, List.set_cons_zero, List.set_cons_succ]
      try go_simp
      exact hK.out _ _ _ (by simp only [puts, Act.put, List.setIfInBounds_toArray, List.set_cons_zero, List.set_cons_succ] <;> rfl) ⟨hG, (fun h => f0.out h), (fun h => f1.out h), (fun h => f2.out h), (fun _ => rfl), (fun h => f4.out h), (fun h => f5.out h), (fun h => f6.out h), (fun h => f7.out h), (fun h => f8.out h), (fun h => f9.out h), (fun h => f10.out h), (fun h => f11.out h)⟩
    · intro L vs W hlen hL hD hI K hK
      obtain ⟨x0, x1, x2, x3, x4, x5, x6, x7, x8, x9, x10, x11, rfl⟩ := len12 hlen
      have hG := hI.1
      replace hI := hI.2
      have f0 := hide hI.1
      replace hI := hI.2
      have f1 := hide hI.1
      replace hI := hI.2
      have f2 := hide hI.1
      replace hI := hI.2
      have f3 := hide hI.1
      replace hI := hI.2
      have f4 := hide hI.1
      replace hI := hI.2
      have f5 := hide hI.1
      replace hI := hI.2
      have f6 := hide hI.1
      replace hI := hI.2
      have f7 := hide hI.1
      replace hI := hI.2
      have f8 := hide hI.1
      replace hI := hI.2
      have f9 := hide hI.1
      replace hI := hI.2
      have f10 := hide hI.1
      replace hI := hI.2
      have f11 := hide hI
      clear hI
      have bA' := hG.blk bA hne.out.1
      have bB' := hG.blk bB hne.out.2
      have a0 := bA'.cell 0 rfl
      have a1 := bA'.cell 1 rfl
      have a2 := bA'.cell 2 rfl
      have a3 := bA'.cell 3 rfl
      have b0 := bB'.cell 0 rfl
      have b1 := bB'.cell 1 rfl
      have b2 := bB'.cell 2 rfl
      have b3 := bB'.cell 3 rfl
      obtain rfl := f1.out (hD.on 1 (by kernel_rfl))
      obtain rfl := f3.out (hD.on 3 (by kernel_rfl))
      try simp only [puts, Act.put, List.setIfInBounds_toArray, List.set_cons_zero, List.set_cons_succ]
      try go_simp
      refine (common_any _ _ _ _ _).mono ?_
      rintro e W' ⟨rfl, hb⟩
      try go_simp
      exact hK.out _ _ _ (by simp only [puts, Act.put, List.setIfInBounds_toArray, List.set_cons_zero, List.set_cons_succ] <;> rfl) ⟨hG.later hb, (fun h => f0.out h), (fun h => f1.out h), (fun h => f2.out h), (fun h => f3.out h), (fun _ => rfl), (fun h => f5.out h), (fun h => f6.out h), (fun h => f7.out h), (fun h => f8.out h), (fun h => f9.out h), (fun h => f10.out h), (fun h => f11.out h)⟩
    · intro L vs W hlen hL hD hI K hK
      obtain ⟨x0, x1, x2, x3, x4, x5, x6, x7, x8, x9, x10, x11, rfl⟩ := len12 hlen
      have hG := hI.1
      replace hI := hI.2
      have f0 := hide hI.1
      replace hI := hI.2
      have f1 := hide hI.1
      replace hI := hI.2
      have f2 := hide hI.1
      replace hI := hI.2
      have f3 := hide hI.1
      replace hI := hI.2
      have f4 := hide hI.1
      replace hI := hI.2
      have f5 := hide hI.1
      replace hI := hI.2
      have f6 := hide hI.1
      replace hI := hI.2
      have f7 := hide hI.1
      replace hI := hI.2
      have f8 := hide hI.1
      replace hI := hI.2
      have f9 := hide hI.1
      replace hI := hI.2
      have f10 := hide hI.1
      replace hI := hI.2
      have f11 := hide hI
      clear hI
      have bA' := hG.blk bA hne.out.1
      have bB' := hG.blk bB hne.out.2
      have a0 := bA'.cell 0 rfl
      have a1 := bA'.cell 1 rfl
      have a2 := bA'.cell 2 rfl
      have a3 := bA'.cell 3 rfl
      have b0 := bB'.cell 0 rfl
      have b1 := bB'.cell 1 rfl
      have b2 := bB'.cell 2 rfl
      have b3 := bB'.cell 3 rfl
      try simp only [puts, Act.put, List.setIfInBounds_toArray, List.set_cons_zero, List.set_cons_succ]
      try go_simp
      exact hK.out _ _ _ (by simp only [puts, Act.put, List.setIfInBounds_toArray, List.set_cons_zero, List.set_cons_succ] <;> rfl) ⟨hG, (fun h => f0.out h), (fun h => f1.out h), (fun h => f2.out h), (fun h => f3.out h), (fun h => f4.out h), (fun _ => rfl), (fun h => f6.out h), (fun h => f7.out h), (fun h => f8.out h), (fun h => f9.out h), (fun h => f10.out h), (fun h => f11.out h)⟩
    · intro L vs W hlen hL hD hI K hK
      obtain ⟨x0, x1, x2, x3, x4, x5, x6, x7, x8, x9, x10, x11, rfl⟩ := len12 hlen
      have hG := hI.1
      replace hI := hI.2
      have f0 := hide hI.1
      replace hI := hI.2
      have f1 := hide hI.1
      replace hI := hI.2
      have f2 := hide hI.1
      replace hI := hI.2
      have f3 := hide hI.1
      replace hI := hI.2
      have f4 := hide hI.1
      replace hI := hI.2
      have f5 := hide hI.1
      replace hI := hI.2
      have f6 := hide hI.1
      replace hI := hI.2
      have f7 := hide hI.1
      replace hI := hI.2
      have f8 := hide hI.1
      replace hI := hI.2
      have f9 := hide hI.1
      replace hI := hI.2
      have f10 := hide hI.1
      replace hI := hI.2
      have f11 := hide hI
      clear hI
      have bA' := hG.blk bA hne.out.1
      have bB' := hG.blk bB hne.out.2
      have a0 := bA'.cell 0 rfl
      have a1 := bA'.cell 1 rfl
      have a2 := bA'.cell 2 rfl
      have a3 := bA'.cell 3 rfl
      have b0 := bB'.cell 0 rfl
      have b1 := bB'.cell 1 rfl
      have b2 := bB'.cell 2 rfl
      have b3 := bB'.cell 3 rfl
      obtain rfl := f5.out (hD.on 5 (by kernel_rfl))
      try simp only [puts, Act.put, List.setIfInBounds_toArray, List.set_cons_zero, List.set_cons_succ]
      try go_simp
      exact hK.out _ _ _ (by simp only [puts, Act.put, List.setIfInBounds_toArray, List.set_cons_zero, List.set_cons_succ] <;> rfl) ⟨hG, (fun h => f0.out h), (fun h => f1.out h), (fun h => f2.out h), (fun h => f3.out h), (fun h => f4.out h), (fun h => f5.out h), (fun _ => rfl), (fun h => f7.out h), (fun h => f8.out h), (fun h => f9.out h), (fun h => f10.out h), (fun h => f11.out h)⟩
    · intro L vs W hlen hL hD hI K hK
      obtain ⟨x0, x1, x2, x3, x4, x5, x6, x7, x8, x9, x10, x11, rfl⟩ := len12 hlen
      have hG := hI.1
      replace hI := hI.2
      have f0 := hide hI.1
      replace hI := hI.2
      have f1 := hide hI.1
      replace hI := hI.2
      have f2 := hide hI.1
      replace hI := hI.2
      have f3 := hide hI.1
      replace hI := hI.2
      have f4 := hide hI.1
      replace hI := hI.2
      have f5 := hide hI.1
      replace hI := hI.2
      have f6 := hide hI.1
      replace hI := hI.2
      have f7 := hide hI.1
      replace hI := hI.2
      have f8 := hide hI.1
      replace hI := hI.2
      have f9 := hide hI.1
      replace hI := hI.2
      have f10 := hide hI.1
      replace hI := hI.2
      have f11 := hide hI
      clear hI
      have bA' := hG.blk bA hne.out.1
      have bB' := hG.blk bB hne.out.2
      have a0 := bA'.cell 0 rfl
      have a1 := bA'.cell 1 rfl
      have a2 := bA'.cell 2 rfl
      have a3 := bA'.cell 3 rfl
      have b0 := bB'.cell 0 rfl
      have b1 := bB'.cell 1 rfl
      have b2 := bB'.cell 2 rfl
      have b3 := bB'.cell 3 rfl
      try simp only [puts, Act.put, List.setIfInBounds_toArray, List.set_cons_zero, List.set_cons_succ]
      try go_simp
      exact hK.out _ _ _ (by simp only [puts, Act.put, List.setIfInBounds_toArray, List.set_cons_zero, List.set_cons_succ] <;> rfl) ⟨hG, (fun h => f0.out h), (fun h => f1.out h), (fun h => f2.out h), (fun h => f3.out h), (fun h => f4.out h), (fun h => f5.out h), (fun h => f6.out h), (fun _ => rfl), (fun h => f8.out h), (fun h => f9.out h), (fun h => f10.out h), (fun h => f11.out h)⟩
    · intro L vs W hlen hL hD hI K hK
      obtain ⟨x0, x1, x2, x3, x4, x5, x6, x7, x8, x9, x10, x11, rfl⟩ := len12 hlen
      have hG := hI.1
      replace hI := hI.2
      have f0 := hide hI.1
      replace hI := hI.2
      have f1 := hide hI.1
      replace hI := hI.2
      have f2 := hide hI.1
      replace hI := hI.2
      have f3 := hide hI.1
      replace hI := hI.2
      have f4 := hide hI.1
      replace hI := hI.2
      have f5 := hide hI.1
      replace hI := hI.2
      have f6 := hide hI.1
      replace hI := hI.2
      have f7 := hide hI.1
      replace hI := hI.2
      have f8 := hide hI.1
      replace hI := hI.2
      have f9 := hide hI.1
      replace hI := hI.2
      have f10 := hide hI.1
      replace hI := hI.2
      have f11 := hide hI
      clear hI
      have bA' := hG.blk bA hne.out.1
      have bB' := hG.blk bB hne.out.2
      have a0 := bA'.cell 0 rfl
      have a1 := bA'.cell 1 rfl
      have a2 := bA'.cell 2 rfl
      have a3 := bA'.cell 3 rfl
      have b0 := bB'.cell 0 rfl
      have b1 := bB'.cell 1 rfl
      have b2 := bB'.cell 2 rfl
      have b3 := bB'.cell 3 rfl
      obtain rfl := f7.out (hD.on 7 (by kernel_rfl))
      try simp only [puts, Act.put, List.setIfInBounds_toArray, List.set_cons_zero, List.set_cons_succ]
      try go_simp
      exact hK.out _ _ _ (by simp only [puts, Act.put, List.setIfInBounds_toArray, List.set_cons_zero, List.set_cons_succ] <;> rfl) ⟨hG, (fun h => f0.out h), (fun h => f1.out h), (fun h => f2.out h), (fun h => f3.out h), (fun h => f4.out h), (fun h => f5.out h), (fun h => f6.out h), (fun h => f7.out h), (fun _ => rfl), (fun h => f9.out h), (fun h => f10.out h), (fun h => f11.out h)⟩
    · intro L vs W hlen hL hD hI K hK
      obtain ⟨x0, x1, x2, x3, x4, x5, x6, x7, x8, x9, x10, x11, rfl⟩ := len12 hlen
      have hG := hI.1
      replace hI := hI.2
      have f0 := hide hI.1
      replace hI := hI.2
      have f1 := hide hI.1
      replace hI := hI.2
      have f2 := hide hI.1
      replace hI := hI.2
      have f3 := hide hI.1
      replace hI := hI.2
      have f4 := hide hI.1
      replace hI := hI.2
      have f5 := hide hI.1
      replace hI := hI.2
      have f6 := hide hI.1
      replace hI := hI.2
      have f7 := hide hI.1
      replace hI := hI.2
      have f8 := hide hI.1
      replace hI := hI.2
      have f9 := hide hI.1
      replace hI := hI.2
      have f10 := hide hI.1
      replace hI := hI.2
      have f11 := hide hI
      clear hI
      have bA' := hG.blk bA hne.out.1
      have bB' := hG.blk bB hne.out.2
      have a0 := bA'.cell 0 rfl
      have a1 := bA'.cell 1 rfl
      have a2 := bA'.cell 2 rfl
      have a3 := bA'.cell 3 rfl
      have b0 := bB'.cell 0 rfl
      have b1 := bB'.cell 1 rfl
      have b2 := bB'.cell 2 rfl
      have b3 := bB'.cell 3 rfl
      obtain rfl := f6.out (hD.on 6 (by kernel_rfl))
      obtain rfl := f8.out (hD.on 8 (by kernel_rfl))
      try simp only [puts, Act.put, List.setIfInBounds_toArray, List.set_cons_zero, List.set_cons_succ]
      try go_simp
      refine (common_any _ _ _ _ _).mono ?_
      rintro e W' ⟨rfl, hb⟩
      try go_simp
      exact hK.out _ _ _ (by simp only [puts, Act.put, List.setIfInBounds_toArray, List.set_cons_zero, List.set_cons_succ] <;> rfl) ⟨hG.later hb, (fun h => f0.out h), (fun h => f1.out h), (fun h => f2.out h), (fun h => f3.out h), (fun h => f4.out h), (fun h => f5.out h), (fun h => f6.out h), (fun h => f7.out h), (fun h => f8.out h), (fun _ => rfl), (fun h => f10.out h), (fun h => f11.out h)⟩
    · intro L vs W hlen hL hD hI K hK
      obtain ⟨x0, x1, x2, x3, x4, x5, x6, x7, x8, x9, x10, x11, rfl⟩ := len12 hlen
      have hG := hI.1
      replace hI := hI.2
      have f0 := hide hI.1
      replace hI := hI.2
      have f1 := hide hI.1
      replace hI := hI.2
      have f2 := hide hI.1
      replace hI := hI.2
      have f3 := hide hI.1
      replace hI := hI.2
      have f4 := hide hI.1
      replace hI := hI.2
      have f5 := hide hI.1
      replace hI := hI.2
      have f6 := hide hI.1
      replace hI := hI.2
      have f7 := hide hI.1
      replace hI := hI.2
      have f8 := hide hI.1
      replace hI := hI.2
      have f9 := hide hI.1
      replace hI := hI.2
      have f10 := hide hI.1
      replace hI := hI.2
      have f11 := hide hI
      clear hI
      have bA' := hG.blk bA hne.out.1
      have bB' := hG.blk bB hne.out.2
      have a0 := bA'.cell 0 rfl
      have a1 := bA'.cell 1 rfl
      have a2 := bA'.cell 2 rfl
      have a3 := bA'.cell 3 rfl
      have b0 := bB'.cell 0 rfl
      have b1 := bB'.cell 1 rfl
      have b2 := bB'.cell 2 rfl
      have b3 := bB'.cell 3 rfl
      obtain rfl := f4.out (hD.on 4 (by kernel_rfl))
      obtain rfl := f9.out (hD.on 9 (by kernel_rfl))
      try simp only [puts, Act.put, List.setIfInBounds_toArray, List.set_cons_zero, List.set_cons_succ]
      try go_simp
      exact hK.out _ _ _ (by simp only [puts, Act.put, List.setIfInBounds_toArray, List.set_cons_zero, List.set_cons_succ] <;> rfl) ⟨hG, (fun h => f0.out h), (fun h => f1.out h), (fun h => f2.out h), (fun h => f3.out h), (fun h => f4.out h), (fun h => f5.out h), (fun h => f6.out h), (fun h => f7.out h), (fun h => f8.out h), (fun h => f9.out h), (fun _ => rfl), (fun h => f11.out h)⟩
    · intro L vs W hlen hL hD hI K hK
      obtain ⟨x0, x1, x2, x3, x4, x5, x6, x7, x8, x9, x10, x11, rfl⟩ := len12 hlen
      have hG := hI.1
      replace hI := hI.2
      have f0 := hide hI.1
      replace hI := hI.2
      have f1 := hide hI.1
      replace hI := hI.2
      have f2 := hide hI.1
      replace hI := hI.2
      have f3 := hide hI.1
      replace hI := hI.2
      have f4 := hide hI.1
      replace hI := hI.2
      have f5 := hide hI.1
      replace hI := hI.2
      have f6 := hide hI.1
      replace hI := hI.2
      have f7 := hide hI.1
      replace hI := hI.2
      have f8 := hide hI.1
      replace hI := hI.2
      have f9 := hide hI.1
      replace hI := hI.2
      have f10 := hide hI.1
      replace hI := hI.2
      have f11 := hide hI
      clear hI
      have bA' := hG.blk bA hne.out.1
      have bB' := hG.blk bB hne.out.2
      have a0 := bA'.cell 0 rfl
      have a1 := bA'.cell 1 rfl
      have a2 := bA'.cell 2 rfl
      have a3 := bA'.cell 3 rfl
      have b0 := bB'.cell 0 rfl
      have b1 := bB'.cell 1 rfl
      have b2 := bB'.cell 2 rfl
      have b3 := bB'.cell 3 rfl
      obtain rfl := f10.out (hD.on 10 (by kernel_rfl))
      try simp only [puts, Act.put, List.setIfInBounds_toArray, List.set_cons_zero, List.set_cons_succ]
      rw [hL] at hG
      have g0 := hG.box.frozen 0
      have g1 := hG.box.frozen 1
      have g2 := hG.box.frozen 2
      have g3 := hG.box.frozen 3
      have r0 := hG.box.cell 0 rfl
      have r1 := hG.box.cell 1 rfl
      have r2 := hG.box.cell 2 rfl
      have r3 := hG.box.cell 3 rfl
      go_simp
      have hb := Below.refl W.heap.size W
      exact hK.out _ undef _ (by simp only [puts, Act.put, List.setIfInBounds_toArray, List.set_cons_zero, List.set_cons_succ] <;> rfl) ⟨hG.put4 (by omega), (fun h => f0.out h), (fun h => f1.out h), (fun h => f2.out h), (fun h => f3.out h), (fun h => f4.out h), (fun h => f5.out h), (fun h => f6.out h), (fun h => f7.out h), (fun h => f8.out h), (fun h => f9.out h), (fun h => f10.out h), (fun _ => trivial)⟩
  intro L vs W hlen hall hI
  obtain ⟨x0, x1, x2, x3, x4, x5, x6, x7, x8, x9, x10, x11, rfl⟩ := len12 hlen
  have hG := hI.1
  replace hI := hI.2
  have f0 := hide hI.1
  replace hI := hI.2
  have f1 := hide hI.1
  replace hI := hI.2
  have f2 := hide hI.1
  replace hI := hI.2
  have f3 := hide hI.1
  replace hI := hI.2
  have f4 := hide hI.1
  replace hI := hI.2
  have f5 := hide hI.1
  replace hI := hI.2
  have f6 := hide hI.1
  replace hI := hI.2
  have f7 := hide hI.1
  replace hI := hI.2
  have f8 := hide hI.1
  replace hI := hI.2
  have f9 := hide hI.1
  replace hI := hI.2
  have f10 := hide hI.1
  replace hI := hI.2
  have f11 := hide hI
  clear hI
  obtain rfl := f0.out (hall 0 (by decide))
  obtain rfl := f1.out (hall 1 (by decide))
  obtain rfl := f2.out (hall 2 (by decide))
  obtain rfl := f3.out (hall 3 (by decide))
  obtain rfl := f4.out (hall 4 (by decide))
  obtain rfl := f5.out (hall 5 (by decide))
  obtain rfl := f6.out (hall 6 (by decide))
  obtain rfl := f7.out (hall 7 (by decide))
  obtain rfl := f8.out (hall 8 (by decide))
  obtain rfl := f9.out (hall 9 (by decide))
  obtain rfl := f10.out (hall 10 (by decide))
  have hal := hide hall
  clear hall f0 f1 f2 f3 f4 f5 f6 f7 f8 f9 f10 f11
  try simp only [puts, Act.put, List.setIfInBounds_toArray, List.set_cons_zero, List.set_cons_succ]
  rw [hal.out 11 (by decide)] at hG
  have bR' := hG.done
  go_wp2_with fail
  refine bodyPost_ret (results_cell_row (p := 4) rfl _ _ (w.heap.size + 1 + 1) _ _ _ _ rfl bR' Tryd.underlying80 rfl (by kernel_rfl)) rfl ?_
  exact ⟨by rw [HF.out], hG.hb⟩
set_option maxRecDepth 20000 in
set_option maxHeartbeats 1000000 in
theorem shifts_any (k : Nat) (p q : DotD) (w : World) (hk : k ≤ 3) (hp : dotOk p = true) (hq : dotOk q = true) (hG : Glob w) : Calls Tryd.prog 42 #[iV k, dotV p, dotV q] w (Ret (boxV (shiftD k p q)) w) := by
  have HF : Hid (shiftD k p q = ⟨q.x - turnX k p.x p.y - (p.tol + q.tol), q.x - turnX k p.x p.y + (p.tol + q.tol), q.y - turnY k p.x p.y - (p.tol + q.tol), q.y - turnY k p.x p.y + (p.tol + q.tol)⟩) := hide rfl
  generalize shiftD k p q = R at *
  obtain ⟨pi, px, py, pt⟩ := p
  obtain ⟨qi, qx, qy, qt⟩ := q
  simp only [dotOk, decide_eq_true_eq] at hp hq
  obtain ⟨p1, p2, p3, p4, p5, p6, p7, p8⟩ := hp
  obtain ⟨q1, q2, q3, q4, q5, q6, q7, q8⟩ := hq
  dsimp only at HF
  go_enter Tryd.func42, Tryd.ntmps42
  go_wp2_with fail
  generalize hX1 : World.alloc w _ = X1
  have zX1 : X1.heap.size = w.heap.size + 1 := by rw [← hX1]; simp
  have bX1 : Below w.heap.size w X1 := by rw [← hX1]; exact bal w _
  have bA_1 : Blk X1 (w.heap.size) [iV pi, iV px, iV py, iV pt] 53 := by rw [← hX1]; exact Blk.newA w _ (by first | rfl | simp)
  generalize hX2 : World.alloc X1 _ = X2
  have zX2 : X2.heap.size = w.heap.size + 1 + 1 := by rw [← hX2]; simp [zX1]
  have bX2 : Below X1.heap.size X1 X2 := by rw [← hX2]; exact bal X1 _
  have bB_2 : Blk X2 (w.heap.size + 1) [iV qi, iV qx, iV qy, iV qt] 53 := by rw [← hX2, ← zX1]; exact Blk.newA X1 _ (by first | rfl | simp)
  have bA_2 := bA_1.later bX2
  generalize hX3 : World.alloc X2 _ = X3
  have zX3 : X3.heap.size = w.heap.size + 1 + 1 + 1 := by rw [← hX3]; simp [zX2]
  have bX3 : Below X2.heap.size X2 X3 := by rw [← hX3]; exact bal X2 _
  have bR : Blk X3 (w.heap.size + 1 + 1) [iV 0, iV 0, iV 0, iV 0] 80 := by rw [← hX3, ← zX2]; exact Blk.newA X2 _ (by first | rfl | simp)
  have bA := bA_2.later bX3
  have bB := bB_2.later bX3
  have Xb := below2 (below2 (bX1) bX2) bX3
  have Xz := zX3
  clear hX1 zX1 bX1 hX2 zX2 bX2 hX3 zX3 bX3 bA_1 bA_2 bB_2
  have hT := turned_any k px py X3 hk ⟨by omega, by omega⟩ ⟨by omega, by omega⟩ (hG.later Xb)
  have htb := turn_bd k px py 1000 ⟨p3, p4⟩ ⟨p5, p6⟩
  generalize turnX k px py = tx at *
  generalize turnY k px py = ty at *
  obtain ⟨⟨t1, t2⟩, t3, t4⟩ := htb
  refine hT.mono ?_
  rintro e w1 ⟨rfl, hw1⟩
  have bA1 := bA.later hw1
  have bB1 := bB.later hw1
  have bR1 := bR.later hw1
  clear hT bA bB bR
  have a3 := bA1.cell 3 rfl
  have b3 := bB1.cell 3 rfl
  have b1 := bB1.cell 1 rfl
  have b2 := bB1.cell 2 rfl
  have g0 := (bR1).frozen 0
  have g1 := (bR1).frozen 1
  have g2 := (bR1).frozen 2
  have g3 := (bR1).frozen 3
  have r0 := (bR1).cell 0 rfl
  have r1 := (bR1).cell 1 rfl
  have r2 := (bR1).cell 2 rfl
  have r3 := (bR1).cell 3 rfl
  go_wp2_with fail
  have hS := set4 (bR1) (iV (qx - tx - (pt + qt))) (iV (qx - tx + (pt + qt))) (iV (qy - ty - (pt + qt))) (iV (qy - ty + (pt + qt)))
  refine bodyPost_ret (results_cell_row (p := 6) rfl _ _ (w.heap.size + 1 + 1) _ _ _ _ rfl hS.1 Tryd.underlying80 rfl (by kernel_rfl)) rfl ?_
  exact ⟨by rw [HF.out], hS.2.1 _ _ (below2 Xb hw1) (by omega)⟩
end Go.Proofs.YtoofkahklboojaaDoor
