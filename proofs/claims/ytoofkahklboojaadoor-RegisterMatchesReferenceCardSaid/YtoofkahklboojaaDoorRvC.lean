/- Register: walks of the reference's Invert, shifts, within and meet. Conditions: that the points are valid. Register: walks of the reference's Partners, before and edges. Conditions: how the arguments lie in memory; sizes. -/
import Derived.Test.YtoofkahklboojaaDoorRkM
import Derived.Test.YtoofkahklboojaaDoorRkJ
import Derived.Test.YtoofkahklboojaaDoorRvA
import Derived.Test.YtoofkahklboojaaDoorRkH
namespace Go.Proofs.YtoofkahklboojaaDoor
open Go.RowKit

theorem set5 {w : World} {b : Nat} {x0 x1 x2 x3 x4 : Value} {t : TypeId} (h : Blk w b [x0, x1, x2, x3, x4] t) (u0 u1 u2 u3 u4 : Value) :
    Blk (World.setCell (World.setCell (World.setCell (World.setCell (World.setCell w ⟨b, 0, none⟩ u0) ⟨b, 1, none⟩ u1) ⟨b, 2, none⟩ u2) ⟨b, 3, none⟩ u3) ⟨b, 4, none⟩ u4) b [u0, u1, u2, u3, u4] t ∧ (∀ B w0, Below B w0 w → B ≤ b → Below B w0 (World.setCell (World.setCell (World.setCell (World.setCell (World.setCell w ⟨b, 0, none⟩ u0) ⟨b, 1, none⟩ u1) ⟨b, 2, none⟩ u2) ⟨b, 3, none⟩ u3) ⟨b, 4, none⟩ u4)) :=
  ⟨((((h.set 0 u0).set 1 u1).set 2 u2).set 3 u3).set 4 u4, fun _ _ hb hB => (Below.setCell (Below.setCell (Below.setCell (Below.setCell (Below.setCell hb (p := ⟨b, 0, none⟩) hB u0) (p := ⟨b, 1, none⟩) hB u1) (p := ⟨b, 2, none⟩) hB u2) (p := ⟨b, 3, none⟩) hB u3) (p := ⟨b, 4, none⟩) hB u4)⟩
abbrev fitV (k : Nat) (b : BoxD) : Value := .agg #[iV k, iV b.xl, iV b.xh, iV b.yl, iV b.yh]
set_option maxRecDepth 20000 in
set_option maxHeartbeats 1000000 in
theorem rinvert_any (m : MotD) (w : World) : Calls Tryd.prog 31 #[motV m] w (Ret (motV (invD m)) w) := by
  have HF : Hid (invD m = if motOk m then ⟨(4 - m.turn) % 4, -turnX ((4 - m.turn) % 4).toNat m.dx m.dy, -turnY ((4 - m.turn) % 4).toNat m.dx m.dy⟩ else ⟨0, 0, 0⟩) := hide (by
    unfold invD
    rw [(turn_neg _ _ _).1, (turn_neg _ _ _).2])
  generalize invD m = R at *
  go_enter Tryd.func31, Tryd.ntmps31
  go_wp2_with fail
  generalize hX1 : World.alloc w _ = X1
  have zX1 : X1.heap.size = w.heap.size + 1 := by rw [← hX1]; simp
  have bX1 : Below w.heap.size w X1 := by rw [← hX1]; exact bal w _
  have bA_1 : Blk X1 (w.heap.size) [iV m.turn, iV m.dx, iV m.dy] 32 := by rw [← hX1]; exact Blk.newA w _ (by first | rfl | simp)
  generalize hX2 : World.alloc X1 _ = X2
  have zX2 : X2.heap.size = w.heap.size + 1 + 1 := by rw [← hX2]; simp [zX1]
  have bX2 : Below X1.heap.size X1 X2 := by rw [← hX2]; exact bal X1 _
  have bR : Blk X2 (w.heap.size + 1) [iV 0, iV 0, iV 0] 32 := by rw [← hX2, ← zX1]; exact Blk.newA X1 _ (by first | rfl | simp)
  have bA := bA_1.later bX2
  have Xb := below2 (bX1) bX2
  have Xz := zX2
  clear hX1 zX1 bX1 hX2 zX2 bX2 bA_1
  cases h1 : motOk m
  · refine (moves_any m _).mono ?_
    rw [h1]
    rintro e w1 ⟨rfl, hw1⟩
    have bR1 := bR.later hw1
    have hb := below2 Xb hw1
    have g0 := (bR1).frozen 0
    have g1 := (bR1).frozen 1
    have g2 := (bR1).frozen 2
    have r0 := (bR1).cell 0 rfl
    have r1 := (bR1).cell 1 rfl
    have r2 := (bR1).cell 2 rfl
    go_wp2_with fail
    have hS := set3 bR1 (iV 0) (iV 0) (iV 0)
    refine bodyPost_ret (results_cell_row (p := 2) rfl _ _ (w.heap.size + 1) _ _ _ _ rfl hS.1 Tryd.underlying32 rfl (by kernel_rfl)) rfl ?_
    exact ⟨by rw [HF.out, h1]; rfl, hS.2.1 _ _ hb (by omega)⟩
  · refine (moves_any m _).mono ?_
    rw [h1]
    rintro e w1 ⟨rfl, hw1⟩
    obtain ⟨t, dx, dy⟩ := m
    obtain ⟨⟨y1, y2⟩, y3, y4, y5, y6⟩ := (mot_iff _).1 h1
    dsimp only at *
    rw [h1, if_pos rfl] at HF
    have bA1 := bA.later hw1
    have hb := below2 Xb hw1
    have c0 := bA1.cell 0 rfl
    have c1 := bA1.cell 1 rfl
    have c2 := bA1.cell 2 rfl
    have u1 : IntKind.i64.wrap (4 - t) = 4 - t := IntWalk.i64_in _ (by omega)
    have u2 : (4 - t).tmod 4 = (4 - t) % 4 := Int.tmod_eq_emod_of_nonneg (by omega)
    have u3 : IntKind.i64.wrap ((4 - t) % 4) = (4 - t) % 4 := IntWalk.i64_in _ (by omega)
    have hm : 0 ≤ (4 - t) % 4 ∧ (4 - t) % 4 ≤ 3 := by omega
    have e0 : (((4 - t) % 4).toNat : Int) = (4 - t) % 4 := by omega
    have hT := hide (fun W => rturned_any ((4 - t) % 4).toNat dx dy W (by omega) ⟨by omega, by omega⟩ ⟨by omega, by omega⟩)
    rw [e0] at hT
    have htb := turn_bd ((4 - t) % 4).toNat dx dy 5000 ⟨y3, y4⟩ ⟨y5, y6⟩
    generalize turnX ((4 - t) % 4).toNat dx dy = tx at *
    generalize turnY ((4 - t) % 4).toNat dx dy = ty at *
    generalize (4 - t) % 4 = kk at *
    obtain ⟨⟨t1, t2⟩, t3, t4⟩ := htb
    have u4 : IntKind.i64.wrap (-tx) = -tx := IntWalk.i64_in _ (by omega)
    have u5 : IntKind.i64.wrap (-ty) = -ty := IntWalk.i64_in _ (by omega)
    clear e0 hm
    go_wp2_with fail
    refine (hT.out _).mono ?_
    rintro e w2 ⟨rfl, hw2⟩
    have bR2 := bR.later (below2 hw1 hw2)
    have hb2 := below2 hb hw2
    have g0 := (bR2).frozen 0
    have g1 := (bR2).frozen 1
    have g2 := (bR2).frozen 2
    have r0 := (bR2).cell 0 rfl
    have r1 := (bR2).cell 1 rfl
    have r2 := (bR2).cell 2 rfl
    go_wp2_with fail
    have hS := set3 bR2 (iV kk) (iV (-tx)) (iV (-ty))
    refine bodyPost_ret (results_cell_row (p := 2) rfl _ _ (w.heap.size + 1) _ _ _ _ rfl hS.1 Tryd.underlying32 rfl (by kernel_rfl)) rfl ?_
    exact ⟨by rw [HF.out], hS.2.1 _ _ hb2 (by omega)⟩
set_option maxRecDepth 20000 in
set_option maxHeartbeats 1000000 in
theorem rshifts_any (k : Nat) (p q : DotD) (w : World) (hk : k ≤ 3) (hp : dotOk p = true) (hq : dotOk q = true) : Calls Tryd.prog 50 #[iV k, dotV p, dotV q] w (Ret (fitV k (shiftD k p q)) w) := by
  have HF : Hid (shiftD k p q = ⟨q.x - turnX k p.x p.y - (p.tol + q.tol), q.x - turnX k p.x p.y + (p.tol + q.tol), q.y - turnY k p.x p.y - (p.tol + q.tol), q.y - turnY k p.x p.y + (p.tol + q.tol)⟩) := hide rfl
  generalize shiftD k p q = R at *
  obtain ⟨pi, px, py, pt⟩ := p
  obtain ⟨qi, qx, qy, qt⟩ := q
  simp only [dotOk, decide_eq_true_eq] at hp hq
  obtain ⟨p1, p2, p3, p4, p5, p6, p7, p8⟩ := hp
  obtain ⟨q1, q2, q3, q4, q5, q6, q7, q8⟩ := hq
  dsimp only at HF
  go_enter Tryd.func50, Tryd.ntmps50
  go_wp2_with fail
  generalize hX1 : World.alloc w _ = X1
  have zX1 : X1.heap.size = w.heap.size + 1 := by rw [← hX1]; simp
  have bX1 : Below w.heap.size w X1 := by rw [← hX1]; exact bal w _
  have bA_1 : Blk X1 (w.heap.size) [iV pi, iV px, iV py, iV pt] 53 := by rw [← hX1]; exact Blk.newA w _ (by first | rfl | simp)
  generalize hX2 : World.alloc X1 _ = X2
  have zX2 : X2.heap.size = w.heap.size + 1 + 1 := by rw [← hX2]; simp [zX1]
  have bX2 : Below X1.heap.size X1 X2 := by rw [← hX2]; exact bal X1 _
  have bB_2 : Blk X2 (w.heap.size + 1) [iV qi, iV qx, iV qy, iV qt] 53 := by rw [← hX2, ← zX1]; exact Blk.newA X1 _ (by first | rfl | simp)
  have bA_2 := bA_1.later bX2
  generalize hX3 : World.alloc X2 _ = X3
  have zX3 : X3.heap.size = w.heap.size + 1 + 1 + 1 := by rw [← hX3]; simp [zX2]
  have bX3 : Below X2.heap.size X2 X3 := by rw [← hX3]; exact bal X2 _
  have bR : Blk X3 (w.heap.size + 1 + 1) [iV 0, iV 0, iV 0, iV 0, iV 0] 65 := by rw [← hX3, ← zX2]; exact Blk.newA X2 _ (by first | rfl | simp)
  have bA := bA_2.later bX3
  have bB := bB_2.later bX3
  have Xb := below2 (below2 (bX1) bX2) bX3
  have Xz := zX3
  clear hX1 zX1 bX1 hX2 zX2 bX2 hX3 zX3 bX3 bA_1 bA_2 bB_2
  have hT := rturned_any k px py X3 hk ⟨by omega, by omega⟩ ⟨by omega, by omega⟩
  have htb := turn_bd k px py 1000 ⟨p3, p4⟩ ⟨p5, p6⟩
  generalize turnX k px py = tx at *
  generalize turnY k px py = ty at *
  obtain ⟨⟨t1, t2⟩, t3, t4⟩ := htb
  have a1 := bA.cell 1 rfl
  have a2 := bA.cell 2 rfl
  go_wp2_with fail
  refine hT.mono ?_
  rintro e w1 ⟨rfl, hw1⟩
  have bA1 := bA.later hw1
  have bB1 := bB.later hw1
  have bR1 := bR.later hw1
  clear hT bA bB bR a1 a2
  have a3 := bA1.cell 3 rfl
  have b3 := bB1.cell 3 rfl
  have b1 := bB1.cell 1 rfl
  have b2 := bB1.cell 2 rfl
  have g0 := (bR1).frozen 0
  have g1 := (bR1).frozen 1
  have g2 := (bR1).frozen 2
  have g3 := (bR1).frozen 3
  have g4 := (bR1).frozen 4
  have r0 := (bR1).cell 0 rfl
  have r1 := (bR1).cell 1 rfl
  have r2 := (bR1).cell 2 rfl
  have r3 := (bR1).cell 3 rfl
  have r4 := (bR1).cell 4 rfl
  go_wp2_with fail
  have hS := set5 bR1 (iV k) (iV (qx - tx - (pt + qt))) (iV (qx - tx + (pt + qt))) (iV (qy - ty - (pt + qt))) (iV (qy - ty + (pt + qt)))
  refine bodyPost_ret (results_cell_row (p := 6) rfl _ _ (w.heap.size + 1 + 1) _ _ _ _ rfl hS.1 Tryd.underlying65 rfl (by kernel_rfl)) rfl ?_
  exact ⟨by rw [HF.out], hS.2 _ _ (below2 Xb hw1) (by omega)⟩
set_option maxRecDepth 20000 in
set_option maxHeartbeats 1000000 in
theorem rwithin_any (k : Nat) (b : BoxD) (m : MotD) (w : World) : Calls Tryd.prog 49 #[fitV k b, motV m] w (Ret (.bool ((m.turn == (k : Int)) && hasB b m.dx m.dy)) w) := by
  have HF : Hid (((m.turn == (k : Int)) && hasB b m.dx m.dy) = ((m.turn == (k : Int)) && (decide (b.xl ≤ m.dx) && decide (m.dx ≤ b.xh) && (decide (b.yl ≤ m.dy) && decide (m.dy ≤ b.yh))))) := hide rfl
  generalize ((m.turn == (k : Int)) && hasB b m.dx m.dy) = R at *
  obtain ⟨xl, xh, yl, yh⟩ := b
  obtain ⟨mt, mx, my⟩ := m
  dsimp only at HF
  cases e0 : (mt == (k : Int))
  · go_enter Tryd.func49, Tryd.ntmps49
    go_wp2_with fail
    generalize hX1 : World.alloc w _ = X1
    have zX1 : X1.heap.size = w.heap.size + 1 := by rw [← hX1]; simp
    have bX1 : Below w.heap.size w X1 := by rw [← hX1]; exact bal w _
    have bF_1 : Blk X1 (w.heap.size) [iV k, iV xl, iV xh, iV yl, iV yh] 65 := by rw [← hX1]; exact Blk.newA w _ (by first | rfl | simp)
    generalize hX2 : World.alloc X1 _ = X2
    have zX2 : X2.heap.size = w.heap.size + 1 + 1 := by rw [← hX2]; simp [zX1]
    have bX2 : Below X1.heap.size X1 X2 := by rw [← hX2]; exact bal X1 _
    have bM : Blk X2 (w.heap.size + 1) [iV mt, iV mx, iV my] 32 := by rw [← hX2, ← zX1]; exact Blk.newA X1 _ (by first | rfl | simp)
    have bF := bF_1.later bX2
    have Xb := below2 (bX1) bX2
    have Xz := zX2
    clear hX1 zX1 bX1 hX2 zX2 bX2 bF_1
    have f0 := bF.cell 0 rfl
    have f1 := bF.cell 1 rfl
    have f2 := bF.cell 2 rfl
    have f3 := bF.cell 3 rfl
    have f4 := bF.cell 4 rfl
    have m0 := bM.cell 0 rfl
    have m1 := bM.cell 1 rfl
    have m2 := bM.cell 2 rfl
    go_wp2_with fail
    go_ret
    exact ⟨ret_bool (by rw [HF.out]; simp [*]), Xb⟩
  · cases e1 : decide (xl ≤ mx)
    · go_enter Tryd.func49, Tryd.ntmps49
      go_wp2_with fail
      generalize hX1 : World.alloc w _ = X1
      have zX1 : X1.heap.size = w.heap.size + 1 := by rw [← hX1]; simp
      have bX1 : Below w.heap.size w X1 := by rw [← hX1]; exact bal w _
      have bF_1 : Blk X1 (w.heap.size) [iV k, iV xl, iV xh, iV yl, iV yh] 65 := by rw [← hX1]; exact Blk.newA w _ (by first | rfl | simp)
      generalize hX2 : World.alloc X1 _ = X2
      have zX2 : X2.heap.size = w.heap.size + 1 + 1 := by rw [← hX2]; simp [zX1]
      have bX2 : Below X1.heap.size X1 X2 := by rw [← hX2]; exact bal X1 _
      have bM : Blk X2 (w.heap.size + 1) [iV mt, iV mx, iV my] 32 := by rw [← hX2, ← zX1]; exact Blk.newA X1 _ (by first | rfl | simp)
      have bF := bF_1.later bX2
      have Xb := below2 (bX1) bX2
      have Xz := zX2
      clear hX1 zX1 bX1 hX2 zX2 bX2 bF_1
      have f0 := bF.cell 0 rfl
      have f1 := bF.cell 1 rfl
      have f2 := bF.cell 2 rfl
      have f3 := bF.cell 3 rfl
      have f4 := bF.cell 4 rfl
      have m0 := bM.cell 0 rfl
      have m1 := bM.cell 1 rfl
      have m2 := bM.cell 2 rfl
      go_wp2_with fail
      go_ret
      exact ⟨ret_bool (by rw [HF.out]; simp [*]), Xb⟩
    · cases e2 : decide (mx ≤ xh)
      · go_enter Tryd.func49, Tryd.ntmps49
        go_wp2_with fail
        generalize hX1 : World.alloc w _ = X1
        have zX1 : X1.heap.size = w.heap.size + 1 := by rw [← hX1]; simp
        have bX1 : Below w.heap.size w X1 := by rw [← hX1]; exact bal w _
        have bF_1 : Blk X1 (w.heap.size) [iV k, iV xl, iV xh, iV yl, iV yh] 65 := by rw [← hX1]; exact Blk.newA w _ (by first | rfl | simp)
        generalize hX2 : World.alloc X1 _ = X2
        have zX2 : X2.heap.size = w.heap.size + 1 + 1 := by rw [← hX2]; simp [zX1]
        have bX2 : Below X1.heap.size X1 X2 := by rw [← hX2]; exact bal X1 _
        have bM : Blk X2 (w.heap.size + 1) [iV mt, iV mx, iV my] 32 := by rw [← hX2, ← zX1]; exact Blk.newA X1 _ (by first | rfl | simp)
        have bF := bF_1.later bX2
        have Xb := below2 (bX1) bX2
        have Xz := zX2
        clear hX1 zX1 bX1 hX2 zX2 bX2 bF_1
        have f0 := bF.cell 0 rfl
        have f1 := bF.cell 1 rfl
        have f2 := bF.cell 2 rfl
        have f3 := bF.cell 3 rfl
        have f4 := bF.cell 4 rfl
        have m0 := bM.cell 0 rfl
        have m1 := bM.cell 1 rfl
        have m2 := bM.cell 2 rfl
        go_wp2_with fail
        go_ret
        exact ⟨ret_bool (by rw [HF.out]; simp [*]), Xb⟩
      · cases e3 : decide (yl ≤ my)
        · go_enter Tryd.func49, Tryd.ntmps49
          go_wp2_with fail
          generalize hX1 : World.alloc w _ = X1
          have zX1 : X1.heap.size = w.heap.size + 1 := by rw [← hX1]; simp
          have bX1 : Below w.heap.size w X1 := by rw [← hX1]; exact bal w _
          have bF_1 : Blk X1 (w.heap.size) [iV k, iV xl, iV xh, iV yl, iV yh] 65 := by rw [← hX1]; exact Blk.newA w _ (by first | rfl | simp)
          generalize hX2 : World.alloc X1 _ = X2
          have zX2 : X2.heap.size = w.heap.size + 1 + 1 := by rw [← hX2]; simp [zX1]
          have bX2 : Below X1.heap.size X1 X2 := by rw [← hX2]; exact bal X1 _
          have bM : Blk X2 (w.heap.size + 1) [iV mt, iV mx, iV my] 32 := by rw [← hX2, ← zX1]; exact Blk.newA X1 _ (by first | rfl | simp)
          have bF := bF_1.later bX2
          have Xb := below2 (bX1) bX2
          have Xz := zX2
          clear hX1 zX1 bX1 hX2 zX2 bX2 bF_1
          have f0 := bF.cell 0 rfl
          have f1 := bF.cell 1 rfl
          have f2 := bF.cell 2 rfl
          have f3 := bF.cell 3 rfl
          have f4 := bF.cell 4 rfl
          have m0 := bM.cell 0 rfl
          have m1 := bM.cell 1 rfl
          have m2 := bM.cell 2 rfl
          go_wp2_with fail
          go_ret
          exact ⟨ret_bool (by rw [HF.out]; simp [*]), Xb⟩
        · cases e4 : decide (my ≤ yh)
          · go_enter Tryd.func49, Tryd.ntmps49
            go_wp2_with fail
            generalize hX1 : World.alloc w _ = X1
            have zX1 : X1.heap.size = w.heap.size + 1 := by rw [← hX1]; simp
            have bX1 : Below w.heap.size w X1 := by rw [← hX1]; exact bal w _
            have bF_1 : Blk X1 (w.heap.size) [iV k, iV xl, iV xh, iV yl, iV yh] 65 := by rw [← hX1]; exact Blk.newA w _ (by first | rfl | simp)
            generalize hX2 : World.alloc X1 _ = X2
            have zX2 : X2.heap.size = w.heap.size + 1 + 1 := by rw [← hX2]; simp [zX1]
            have bX2 : Below X1.heap.size X1 X2 := by rw [← hX2]; exact bal X1 _
            have bM : Blk X2 (w.heap.size + 1) [iV mt, iV mx, iV my] 32 := by rw [← hX2, ← zX1]; exact Blk.newA X1 _ (by first | rfl | simp)
            have bF := bF_1.later bX2
            have Xb := below2 (bX1) bX2
            have Xz := zX2
            clear hX1 zX1 bX1 hX2 zX2 bX2 bF_1
            have f0 := bF.cell 0 rfl
            have f1 := bF.cell 1 rfl
            have f2 := bF.cell 2 rfl
            have f3 := bF.cell 3 rfl
            have f4 := bF.cell 4 rfl
            have m0 := bM.cell 0 rfl
            have m1 := bM.cell 1 rfl
            have m2 := bM.cell 2 rfl
            go_wp2_with fail
            go_ret
            exact ⟨ret_bool (by rw [HF.out]; simp [*]), Xb⟩
          · go_enter Tryd.func49, Tryd.ntmps49
            go_wp2_with fail
            generalize hX1 : World.alloc w _ = X1
            have zX1 : X1.heap.size = w.heap.size + 1 := by rw [← hX1]; simp
            have bX1 : Below w.heap.size w X1 := by rw [← hX1]; exact bal w _
            have bF_1 : Blk X1 (w.heap.size) [iV k, iV xl, iV xh, iV yl, iV yh] 65 := by rw [← hX1]; exact Blk.newA w _ (by first | rfl | simp)
            generalize hX2 : World.alloc X1 _ = X2
            have zX2 : X2.heap.size = w.heap.size + 1 + 1 := by rw [← hX2]; simp [zX1]
            have bX2 : Below X1.heap.size X1 X2 := by rw [← hX2]; exact bal X1 _
            have bM : Blk X2 (w.heap.size + 1) [iV mt, iV mx, iV my] 32 := by rw [← hX2, ← zX1]; exact Blk.newA X1 _ (by first | rfl | simp)
            have bF := bF_1.later bX2
            have Xb := below2 (bX1) bX2
            have Xz := zX2
            clear hX1 zX1 bX1 hX2 zX2 bX2 bF_1
            have f0 := bF.cell 0 rfl
            have f1 := bF.cell 1 rfl
            have f2 := bF.cell 2 rfl
            have f3 := bF.cell 3 rfl
            have f4 := bF.cell 4 rfl
            have m0 := bM.cell 0 rfl
            have m1 := bM.cell 1 rfl
            have m2 := bM.cell 2 rfl
            go_wp2_with fail
            go_ret
            exact ⟨ret_bool (by rw [HF.out]; simp [*]), Xb⟩
set_option maxRecDepth 20000 in
set_option maxHeartbeats 1000000 in
theorem rmeet_any (k j : Nat) (a b : BoxD) (w : World) : Calls Tryd.prog 65 #[fitV k a, fitV j b] w (Ret (.tuple #[fitV k (meetD a b), .bool (!emptyB (meetD a b))]) w) := by
  have HF : Hid (meetD a b = ⟨max a.xl b.xl, min a.xh b.xh, max a.yl b.yl, min a.yh b.yh⟩) := hide rfl
  obtain ⟨xl, xh, yl, yh⟩ := a
  obtain ⟨ul, uh, vl, vh⟩ := b
  dsimp only at HF
  rw [HF.out]
  have HE : Hid ((!emptyB ⟨max xl ul, min xh uh, max yl vl, min yh vh⟩) = (decide (max xl ul ≤ min xh uh) && decide (max yl vl ≤ min yh vh))) := hide (by
    unfold emptyB
    rw [Bool.eq_iff_iff]; simp)
  generalize (!emptyB ⟨max xl ul, min xh uh, max yl vl, min yh vh⟩) = R at *
  clear HF
  generalize hm1 : max xl ul = m1 at *
  generalize hm2 : min xh uh = m2 at *
  generalize hm3 : max yl vl = m3 at *
  generalize hm4 : min yh vh = m4 at *
  cases e1 : decide (m1 ≤ m2)
  · go_enter Tryd.func65, Tryd.ntmps65
    go_wp2_with fail
    generalize hX1 : World.alloc w _ = X1
    have zX1 : X1.heap.size = w.heap.size + 1 := by rw [← hX1]; simp
    have bX1 : Below w.heap.size w X1 := by rw [← hX1]; exact bal w _
    have bA_1 : Blk X1 (w.heap.size) [iV k, iV xl, iV xh, iV yl, iV yh] 65 := by rw [← hX1]; exact Blk.newA w _ (by first | rfl | simp)
    generalize hX2 : World.alloc X1 _ = X2
    have zX2 : X2.heap.size = w.heap.size + 1 + 1 := by rw [← hX2]; simp [zX1]
    have bX2 : Below X1.heap.size X1 X2 := by rw [← hX2]; exact bal X1 _
    have bB_2 : Blk X2 (w.heap.size + 1) [iV j, iV ul, iV uh, iV vl, iV vh] 65 := by rw [← hX2, ← zX1]; exact Blk.newA X1 _ (by first | rfl | simp)
    have bA_2 := bA_1.later bX2
    generalize hX3 : World.alloc X2 _ = X3
    have zX3 : X3.heap.size = w.heap.size + 1 + 1 + 1 := by rw [← hX3]; simp [zX2]
    have bX3 : Below X2.heap.size X2 X3 := by rw [← hX3]; exact bal X2 _
    have bR : Blk X3 (w.heap.size + 1 + 1) [iV 0, iV 0, iV 0, iV 0, iV 0] 65 := by rw [← hX3, ← zX2]; exact Blk.newA X2 _ (by first | rfl | simp)
    have bA := bA_2.later bX3
    have bB := bB_2.later bX3
    have Xb := below2 (below2 (bX1) bX2) bX3
    have Xz := zX3
    clear hX1 zX1 bX1 hX2 zX2 bX2 hX3 zX3 bX3 bA_1 bA_2 bB_2
    have a0 := bA.cell 0 rfl
    have a1 := bA.cell 1 rfl
    have a2 := bA.cell 2 rfl
    have a3 := bA.cell 3 rfl
    have a4 := bA.cell 4 rfl
    have b1 := bB.cell 1 rfl
    have b2 := bB.cell 2 rfl
    have b3 := bB.cell 3 rfl
    have b4 := bB.cell 4 rfl
    go_wp2_with fail
    generalize hXX : World.alloc X3 _ = W4
    have hb4 : Below X3.heap.size X3 W4 := by rw [← hXX]; exact bal X3 _
    have bL : Blk W4 X3.heap.size [iV k, iV m1, iV m2, iV m3, iV m4] 65 := by rw [← hXX]; exact Blk.newA X3 _ rfl
    have bR4 := bR.later hb4
    have hb := below2 Xb hb4
    have hRw : w.heap.size ≤ w.heap.size + 1 + 1 := by omega
    have hne : w.heap.size + 1 + 1 ≠ w.heap.size + 1 + 1 + 1 := by omega
    rw [Xz] at bL
    generalize hRB : w.heap.size + 1 + 1 = RB at *
    generalize hLB : RB + 1 = LB at *
    clear hRB hLB Xz
    have hne2 := hne.symm
    clear hXX a0 a1 a2 a3 a4 b1 b2 b3 b4 bA bB bR
    have g0 := (bR4).frozen 0
    have g1 := (bR4).frozen 1
    have g2 := (bR4).frozen 2
    have g3 := (bR4).frozen 3
    have g4 := (bR4).frozen 4
    have r0 := (bR4).cell 0 rfl
    have r1 := (bR4).cell 1 rfl
    have r2 := (bR4).cell 2 rfl
    have r3 := (bR4).cell 3 rfl
    have r4 := (bR4).cell 4 rfl
    have l0 := bL.cell 0 rfl
    have l1 := bL.cell 1 rfl
    have l2 := bL.cell 2 rfl
    have l3 := bL.cell 3 rfl
    have l4 := bL.cell 4 rfl
    go_region
    all_goals
      have hS := set5 bR4 (iV k) (iV m1) (iV m2) (iV m3) (iV m4)
      go_wp2_with fail
      refine bodyPost_ret (results_cell_tmp_row (p := 4) (u := 5) rfl _ _ RB _ _ _ _ _ rfl (hS.1.later (Below.refl _ _).drew) Tryd.underlying65 rfl (by kernel_rfl) rfl) rfl ?_
      exact ⟨by rw [HE.out]; simp [*], (hS.2 _ _ hb hRw).drew⟩
  · cases e2 : decide (m3 ≤ m4)
    · go_enter Tryd.func65, Tryd.ntmps65
      go_wp2_with fail
      generalize hX1 : World.alloc w _ = X1
      have zX1 : X1.heap.size = w.heap.size + 1 := by rw [← hX1]; simp
      have bX1 : Below w.heap.size w X1 := by rw [← hX1]; exact bal w _
      have bA_1 : Blk X1 (w.heap.size) [iV k, iV xl, iV xh, iV yl, iV yh] 65 := by rw [← hX1]; exact Blk.newA w _ (by first | rfl | simp)
      generalize hX2 : World.alloc X1 _ = X2
      have zX2 : X2.heap.size = w.heap.size + 1 + 1 := by rw [← hX2]; simp [zX1]
      have bX2 : Below X1.heap.size X1 X2 := by rw [← hX2]; exact bal X1 _
      have bB_2 : Blk X2 (w.heap.size + 1) [iV j, iV ul, iV uh, iV vl, iV vh] 65 := by rw [← hX2, ← zX1]; exact Blk.newA X1 _ (by first | rfl | simp)
      have bA_2 := bA_1.later bX2
      generalize hX3 : World.alloc X2 _ = X3
      have zX3 : X3.heap.size = w.heap.size + 1 + 1 + 1 := by rw [← hX3]; simp [zX2]
      have bX3 : Below X2.heap.size X2 X3 := by rw [← hX3]; exact bal X2 _
      have bR : Blk X3 (w.heap.size + 1 + 1) [iV 0, iV 0, iV 0, iV 0, iV 0] 65 := by rw [← hX3, ← zX2]; exact Blk.newA X2 _ (by first | rfl | simp)
      have bA := bA_2.later bX3
      have bB := bB_2.later bX3
      have Xb := below2 (below2 (bX1) bX2) bX3
      have Xz := zX3
      clear hX1 zX1 bX1 hX2 zX2 bX2 hX3 zX3 bX3 bA_1 bA_2 bB_2
      have a0 := bA.cell 0 rfl
      have a1 := bA.cell 1 rfl
      have a2 := bA.cell 2 rfl
      have a3 := bA.cell 3 rfl
      have a4 := bA.cell 4 rfl
      have b1 := bB.cell 1 rfl
      have b2 := bB.cell 2 rfl
      have b3 := bB.cell 3 rfl
      have b4 := bB.cell 4 rfl
      go_wp2_with fail
      generalize hXX : World.alloc X3 _ = W4
      have hb4 : Below X3.heap.size X3 W4 := by rw [← hXX]; exact bal X3 _
      have bL : Blk W4 X3.heap.size [iV k, iV m1, iV m2, iV m3, iV m4] 65 := by rw [← hXX]; exact Blk.newA X3 _ rfl
      have bR4 := bR.later hb4
      have hb := below2 Xb hb4
      have hRw : w.heap.size ≤ w.heap.size + 1 + 1 := by omega
      have hne : w.heap.size + 1 + 1 ≠ w.heap.size + 1 + 1 + 1 := by omega
      rw [Xz] at bL
      generalize hRB : w.heap.size + 1 + 1 = RB at *
      generalize hLB : RB + 1 = LB at *
      clear hRB hLB Xz
      have hne2 := hne.symm
      clear hXX a0 a1 a2 a3 a4 b1 b2 b3 b4 bA bB bR
      have g0 := (bR4).frozen 0
      have g1 := (bR4).frozen 1
      have g2 := (bR4).frozen 2
      have g3 := (bR4).frozen 3
      have g4 := (bR4).frozen 4
      have r0 := (bR4).cell 0 rfl
      have r1 := (bR4).cell 1 rfl
      have r2 := (bR4).cell 2 rfl
      have r3 := (bR4).cell 3 rfl
      have r4 := (bR4).cell 4 rfl
      have l0 := bL.cell 0 rfl
      have l1 := bL.cell 1 rfl
      have l2 := bL.cell 2 rfl
      have l3 := bL.cell 3 rfl
      have l4 := bL.cell 4 rfl
      go_region
      all_goals
        have hS := set5 bR4 (iV k) (iV m1) (iV m2) (iV m3) (iV m4)
        go_wp2_with fail
        refine bodyPost_ret (results_cell_tmp_row (p := 4) (u := 5) rfl _ _ RB _ _ _ _ _ rfl (hS.1.later (Below.refl _ _).drew) Tryd.underlying65 rfl (by kernel_rfl) rfl) rfl ?_
        exact ⟨by rw [HE.out]; simp [*], (hS.2 _ _ hb hRw).drew⟩
    · go_enter Tryd.func65, Tryd.ntmps65
      go_wp2_with fail
      generalize hX1 : World.alloc w _ = X1
      have zX1 : X1.heap.size = w.heap.size + 1 := by rw [← hX1]; simp
      have bX1 : Below w.heap.size w X1 := by rw [← hX1]; exact bal w _
      have bA_1 : Blk X1 (w.heap.size) [iV k, iV xl, iV xh, iV yl, iV yh] 65 := by rw [← hX1]; exact Blk.newA w _ (by first | rfl | simp)
      generalize hX2 : World.alloc X1 _ = X2
      have zX2 : X2.heap.size = w.heap.size + 1 + 1 := by rw [← hX2]; simp [zX1]
      have bX2 : Below X1.heap.size X1 X2 := by rw [← hX2]; exact bal X1 _
      have bB_2 : Blk X2 (w.heap.size + 1) [iV j, iV ul, iV uh, iV vl, iV vh] 65 := by rw [← hX2, ← zX1]; exact Blk.newA X1 _ (by first | rfl | simp)
      have bA_2 := bA_1.later bX2
      generalize hX3 : World.alloc X2 _ = X3
      have zX3 : X3.heap.size = w.heap.size + 1 + 1 + 1 := by rw [← hX3]; simp [zX2]
      have bX3 : Below X2.heap.size X2 X3 := by rw [← hX3]; exact bal X2 _
      have bR : Blk X3 (w.heap.size + 1 + 1) [iV 0, iV 0, iV 0, iV 0, iV 0] 65 := by rw [← hX3, ← zX2]; exact Blk.newA X2 _ (by first | rfl | simp)
      have bA := bA_2.later bX3
      have bB := bB_2.later bX3
      have Xb := below2 (below2 (bX1) bX2) bX3
      have Xz := zX3
      clear hX1 zX1 bX1 hX2 zX2 bX2 hX3 zX3 bX3 bA_1 bA_2 bB_2
      have a0 := bA.cell 0 rfl
      have a1 := bA.cell 1 rfl
      have a2 := bA.cell 2 rfl
      have a3 := bA.cell 3 rfl
      have a4 := bA.cell 4 rfl
      have b1 := bB.cell 1 rfl
      have b2 := bB.cell 2 rfl
      have b3 := bB.cell 3 rfl
      have b4 := bB.cell 4 rfl
      go_wp2_with fail
      generalize hXX : World.alloc X3 _ = W4
      have hb4 : Below X3.heap.size X3 W4 := by rw [← hXX]; exact bal X3 _
      have bL : Blk W4 X3.heap.size [iV k, iV m1, iV m2, iV m3, iV m4] 65 := by rw [← hXX]; exact Blk.newA X3 _ rfl
      have bR4 := bR.later hb4
      have hb := below2 Xb hb4
      have hRw : w.heap.size ≤ w.heap.size + 1 + 1 := by omega
      have hne : w.heap.size + 1 + 1 ≠ w.heap.size + 1 + 1 + 1 := by omega
      rw [Xz] at bL
      generalize hRB : w.heap.size + 1 + 1 = RB at *
      generalize hLB : RB + 1 = LB at *
      clear hRB hLB Xz
      have hne2 := hne.symm
      clear hXX a0 a1 a2 a3 a4 b1 b2 b3 b4 bA bB bR
      have g0 := (bR4).frozen 0
      have g1 := (bR4).frozen 1
      have g2 := (bR4).frozen 2
      have g3 := (bR4).frozen 3
      have g4 := (bR4).frozen 4
      have r0 := (bR4).cell 0 rfl
      have r1 := (bR4).cell 1 rfl
      have r2 := (bR4).cell 2 rfl
      have r3 := (bR4).cell 3 rfl
      have r4 := (bR4).cell 4 rfl
      have l0 := bL.cell 0 rfl
      have l1 := bL.cell 1 rfl
      have l2 := bL.cell 2 rfl
      have l3 := bL.cell 3 rfl
      have l4 := bL.cell 4 rfl
      go_region
      all_goals
        have hS := set5 bR4 (iV k) (iV m1) (iV m2) (iV m3) (iV m4)
        go_wp2_with fail
        refine bodyPost_ret (results_cell_tmp_row (p := 4) (u := 5) rfl _ _ RB _ _ _ _ _ rfl (hS.1.later (Below.refl _ _).drew) Tryd.underlying65 rfl (by kernel_rfl) rfl) rfl ?_
        exact ⟨by rw [HE.out]; simp [*], (hS.2 _ _ hb hRw).drew⟩
end Go.Proofs.YtoofkahklboojaaDoor
namespace Go.Proofs.YtoofkahklboojaaDoor
open Go.RowKit

theorem filt_succ3 {l : List DotD} {k : Nat} {h : DotD → Bool} (hk : k < l.length) : (l.take (k + 1)).filter h = (l.take k).filter h ++ if h (l.getD k dot0) = true then [l.getD k dot0] else [] := by
  rw [take_succ' l k dot0 hk, List.filter_append]
  congr 1
  cases hh : h (l.getD k dot0) <;> simp [hh, -List.getD_eq_getElem?_getD]
theorem par_succ {l : List DotD} {k : Nat} {h : DotD → Bool} (hk : k < l.length) : ((l.take (k + 1)).filter h).map (·.id) = ((l.take k).filter h).map (·.id) ++ if h (l.getD k dot0) = true then [(l.getD k dot0).id] else [] := by
  rw [filt_succ3 hk, List.map_append]
  congr 1
  split <;> rfl
def befD (a b : MotD) : Bool := if (a.turn != b.turn) = true then decide (a.turn < b.turn) else if (a.dx != b.dx) = true then decide (a.dx < b.dx) else decide (a.dy < b.dy)
set_option maxRecDepth 20000 in
set_option maxHeartbeats 1000000 in
theorem before_any (a b : MotD) (w : World) : Calls Tryd.prog 59 #[motV a, motV b] w (Ret (.bool (befD a b)) w) := by
  have HF : Hid (befD a b = if (a.turn != b.turn) = true then decide (a.turn < b.turn) else if (a.dx != b.dx) = true then decide (a.dx < b.dx) else decide (a.dy < b.dy)) := hide rfl
  generalize befD a b = R at *
  obtain ⟨at_, ax, ay⟩ := a
  obtain ⟨bt, bx, by_⟩ := b
  dsimp only at HF
  cases e0 : (at_ != bt)
  · cases e1 : (ax != bx)
    · rw [e0, e1, if_neg (by decide), if_neg (by decide)] at HF
      go_enter Tryd.func59, Tryd.ntmps59
      go_wp2_with fail
      generalize hX1 : World.alloc w _ = X1
      have zX1 : X1.heap.size = w.heap.size + 1 := by rw [← hX1]; simp
      have bX1 : Below w.heap.size w X1 := by rw [← hX1]; exact bal w _
      have bA_1 : Blk X1 (w.heap.size) [iV at_, iV ax, iV ay] 32 := by rw [← hX1]; exact Blk.newA w _ (by first | rfl | simp)
      generalize hX2 : World.alloc X1 _ = X2
      have zX2 : X2.heap.size = w.heap.size + 1 + 1 := by rw [← hX2]; simp [zX1]
      have bX2 : Below X1.heap.size X1 X2 := by rw [← hX2]; exact bal X1 _
      have bB : Blk X2 (w.heap.size + 1) [iV bt, iV bx, iV by_] 32 := by rw [← hX2, ← zX1]; exact Blk.newA X1 _ (by first | rfl | simp)
      have bA := bA_1.later bX2
      have Xb := below2 (bX1) bX2
      have Xz := zX2
      clear hX1 zX1 bX1 hX2 zX2 bX2 bA_1
      have a0 := bA.cell 0 rfl
      have a1 := bA.cell 1 rfl
      have a2 := bA.cell 2 rfl
      have b0 := bB.cell 0 rfl
      have b1 := bB.cell 1 rfl
      have b2 := bB.cell 2 rfl
      go_wp2_with fail
      go_ret
      exact ⟨ret_bool (by rw [HF.out]), Xb⟩
    · rw [e0, e1, if_neg (by decide), if_pos rfl] at HF
      go_enter Tryd.func59, Tryd.ntmps59
      go_wp2_with fail
      generalize hX1 : World.alloc w _ = X1
      have zX1 : X1.heap.size = w.heap.size + 1 := by rw [← hX1]; simp
      have bX1 : Below w.heap.size w X1 := by rw [← hX1]; exact bal w _
      have bA_1 : Blk X1 (w.heap.size) [iV at_, iV ax, iV ay] 32 := by rw [← hX1]; exact Blk.newA w _ (by first | rfl | simp)
      generalize hX2 : World.alloc X1 _ = X2
      have zX2 : X2.heap.size = w.heap.size + 1 + 1 := by rw [← hX2]; simp [zX1]
      have bX2 : Below X1.heap.size X1 X2 := by rw [← hX2]; exact bal X1 _
      have bB : Blk X2 (w.heap.size + 1) [iV bt, iV bx, iV by_] 32 := by rw [← hX2, ← zX1]; exact Blk.newA X1 _ (by first | rfl | simp)
      have bA := bA_1.later bX2
      have Xb := below2 (bX1) bX2
      have Xz := zX2
      clear hX1 zX1 bX1 hX2 zX2 bX2 bA_1
      have a0 := bA.cell 0 rfl
      have a1 := bA.cell 1 rfl
      have a2 := bA.cell 2 rfl
      have b0 := bB.cell 0 rfl
      have b1 := bB.cell 1 rfl
      have b2 := bB.cell 2 rfl
      go_wp2_with fail
      go_ret
      exact ⟨ret_bool (by rw [HF.out]), Xb⟩
  · rw [e0, if_pos rfl] at HF
    go_enter Tryd.func59, Tryd.ntmps59
    go_wp2_with fail
    generalize hX1 : World.alloc w _ = X1
    have zX1 : X1.heap.size = w.heap.size + 1 := by rw [← hX1]; simp
    have bX1 : Below w.heap.size w X1 := by rw [← hX1]; exact bal w _
    have bA_1 : Blk X1 (w.heap.size) [iV at_, iV ax, iV ay] 32 := by rw [← hX1]; exact Blk.newA w _ (by first | rfl | simp)
    generalize hX2 : World.alloc X1 _ = X2
    have zX2 : X2.heap.size = w.heap.size + 1 + 1 := by rw [← hX2]; simp [zX1]
    have bX2 : Below X1.heap.size X1 X2 := by rw [← hX2]; exact bal X1 _
    have bB : Blk X2 (w.heap.size + 1) [iV bt, iV bx, iV by_] 32 := by rw [← hX2, ← zX1]; exact Blk.newA X1 _ (by first | rfl | simp)
    have bA := bA_1.later bX2
    have Xb := below2 (bX1) bX2
    have Xz := zX2
    clear hX1 zX1 bX1 hX2 zX2 bX2 bA_1
    have a0 := bA.cell 0 rfl
    have a1 := bA.cell 1 rfl
    have a2 := bA.cell 2 rfl
    have b0 := bB.cell 0 rfl
    have b1 := bB.cell 1 rfl
    have b2 := bB.cell 2 rfl
    go_wp2_with fail
    go_ret
    exact ⟨ret_bool (by rw [HF.out]), Xb⟩
set_option maxRecDepth 20000 in
set_option maxHeartbeats 2000000 in
theorem partners_any (a : List DotD) (va : Value) (q : DotD) (m : MotD) (w : World) (ha : DotsAt w va a) (hok : ∀ p ∈ a, dotOk p = true) (hla : a.length ≤ 12) (hq : dotOk q = true) (hm : 0 ≤ m.turn ∧ m.turn ≤ 3) : Calls Tryd.prog 58 #[va, dotV q, motV m] w (RetM (fun c v => IntsIn c v (parD a q m)) w) := by
  obtain ⟨kk, hkk⟩ : ∃ kk : Nat, m.turn = kk := ⟨m.turn.toNat, by omega⟩
  have HSH := hide (fun (p : DotD) (h : p ∈ a) (W : World) => rshifts_any kk p q W (by omega) (hok p h) hq)
  have HWI := hide (fun (f : BoxD) (W : World) => rwithin_any kk f m W)
  have HP : Hid (∀ p, parB q m p = (decide (19 < p.id) && hasB (shiftD kk p q) m.dx m.dy)) := hide fun p => by unfold parB; rw [hkk]; rfl
  have HS := hide (fun (k : Nat) (hk : k < a.length) => par_succ (h := parB q m) hk)
  have HE : Hid (((a.take a.length).filter (parB q m)).map (·.id) = parD a q m) := hide (by rw [List.take_length]; rfl)
  have HL : Hid (∀ k, k ≤ a.length → (((a.take k).filter (parB q m)).map (·.id)).length < 1000000) := hide fun k hk => by
    rw [List.length_map]
    have h1 := List.length_filter_le (parB q m) (a.take k)
    rw [List.length_take, Nat.min_eq_left hk] at h1
    omega
  have HGM := hide (fun (k : Nat) (hk : k < a.length) => getD_mem a k (d := dot0) hk)
  obtain ⟨aa, ac, rfl, -, -, hac⟩ := ha
  have HAC := hide hac
  obtain ⟨qi, qx, qy, qt⟩ := q
  obtain ⟨mt, mx, my⟩ := m
  dsimp only at hkk
  subst hkk
  generalize parD a ⟨qi, qx, qy, qt⟩ ⟨kk, mx, my⟩ = R at *
  generalize parB ⟨qi, qx, qy, qt⟩ ⟨kk, mx, my⟩ = PB at *
  have htt : ((kk : Int) == (kk : Int)) = true := by simp
  dsimp only at HWI HP
  rw [htt] at HWI
  clear hac htt hm
  go_enter Tryd.func58, Tryd.ntmps58
  go_wp2_with fail
  generalize hX1 : World.alloc w _ = X1
  have zX1 : X1.heap.size = w.heap.size + 1 := by rw [← hX1]; simp
  have bX1 : Below w.heap.size w X1 := by rw [← hX1]; exact bal w _
  have bQ_1 : Blk X1 (w.heap.size) [iV qi, iV qx, iV qy, iV qt] 53 := by rw [← hX1]; exact Blk.newA w _ (by first | rfl | simp)
  generalize hX2 : World.alloc X1 _ = X2
  have zX2 : X2.heap.size = w.heap.size + 1 + 1 := by rw [← hX2]; simp [zX1]
  have bX2 : Below X1.heap.size X1 X2 := by rw [← hX2]; exact bal X1 _
  have bM : Blk X2 (w.heap.size + 1) [iV kk, iV mx, iV my] 32 := by rw [← hX2, ← zX1]; exact Blk.newA X1 _ (by first | rfl | simp)
  have bQ := bQ_1.later bX2
  have Xb := below2 (bX1) bX2
  have Xz := zX2
  clear hX1 zX1 bX1 hX2 zX2 bX2 bQ_1
  go_loopw [7, 8] (fun v i wr => ∃ k : Nat, k ≤ a.length ∧ i = .int .i64 k ∧ OwnI wr w.heap.size v (((a.take k).filter PB).map (·.id)) ∧ Blk wr w.heap.size [iV qi, iV qx, iV qy, iV qt] 53 ∧ Blk wr (w.heap.size + 1) [iV kk, iV mx, iV my] 32 ∧ Below w.heap.size w wr) (fun _ i _ => a.length - (intOf i).toNat)
  case atStart => exact ⟨0, by omega, rfl, OwnI.nil _ _, bQ, bM, Xb⟩
  case round =>
    obtain ⟨k, hk, rfl, hown, bQ, bM, hbr⟩ := hrel
    by_cases hlt : k < a.length
    · obtain ⟨bl, o, heq, hck⟩ := HAC.out k hlt
      subst heq
      have hkl : decide (k < a.length) = true := by simpa using hlt
      have HSk := hide (HS.out k hlt)
      have HSHk := hide (HSH.out _ (HGM.out k hlt))
      have HPk := hide (HP.out (a.getD k dot0))
      have HLk := hide (HL.out k hk)
      generalize a.getD k dot0 = x at *
      generalize ((a.take k).filter PB).map (·.id) = L at *
      have HWk := hide (HWI.out (shiftD kk x ⟨qi, qx, qy, qt⟩))
      generalize hasB (shiftD kk x ⟨qi, qx, qy, qt⟩) mx my = hz at *
      generalize shiftD kk x ⟨qi, qx, qy, qt⟩ = F at *
      obtain ⟨f1, f2, f3, f4⟩ := F
      obtain ⟨xi, xx, xy, xt⟩ := x
      dsimp only at HPk
      have e0 := bwc (show wr.cell? ⟨bl, o + k * 4, none⟩ = some (iV xi) from keep hbr (hck 0 _ rfl))
      have e1 := bwc (show wr.cell? ⟨bl, o + k * 4 + 1, none⟩ = some (iV xx) from keep hbr (hck 1 _ rfl))
      have e2 := bwc (show wr.cell? ⟨bl, o + k * 4 + 2, none⟩ = some (iV xy) from keep hbr (hck 2 _ rfl))
      have e3 := bwc (show wr.cell? ⟨bl, o + k * 4 + 3, none⟩ = some (iV xt) from keep hbr (hck 3 _ rfl))
      have g0 := bwc (bQ.cell 0 rfl)
      have g1 := bwc (bQ.cell 1 rfl)
      have g2 := bwc (bQ.cell 2 rfl)
      have g3 := bwc (bQ.cell 3 rfl)
      have n0 := bwc (bM.cell 0 rfl)
      have n1 := bwc (bM.cell 1 rfl)
      have n2 := bwc (bM.cell 2 rfl)
      cases h1 : decide (19 < xi)
      · rw [h1, Bool.false_and] at HPk
        rw [HPk.out, if_neg (by decide), List.append_nil] at HSk
        go_wp2_with fail
        refine wp_region_bw (by kernel_rfl) (by kernel_rfl) ?_
        repeat (go_big_quiet_step (fail))
        refine wpQuiet_nil ?_
        rintro _ ⟨i, rfl⟩
        have hown2 := hown.later i.h
        have bQ2 := bQ.later i.h
        have bM2 := bM.later i.h
        have hbr2 := below2 hbr i.h
        go_wp2_with fail
        go_roundw
        case rel => exact ⟨k + 1, by omega, by go_num, by rw [HSk.out]; exact hown2, bQ2, bM2, hbr2⟩
        case measure => simp [intOf]; omega
      · rw [h1, Bool.true_and] at HPk
        cases hz
        · rw [HPk.out, if_neg (by decide), List.append_nil] at HSk
          go_wp2_with fail
          refine wp_region_bw (by kernel_rfl) (by kernel_rfl) ?_
          repeat (go_big_quiet_step (with_reducible first | exact quiet (HSHk.out _) | exact quiet (HWk.out _)))
          refine wpQuiet_nil ?_
          rintro _ ⟨i, rfl⟩
          have hown2 := hown.later i.h
          have bQ2 := bQ.later i.h
          have bM2 := bM.later i.h
          have hbr2 := below2 hbr i.h
          go_wp2_with fail
          go_roundw
          case rel => exact ⟨k + 1, by omega, by go_num, by rw [HSk.out]; exact hown2, bQ2, bM2, hbr2⟩
          case measure => simp [intOf]; omega
        · rw [HPk.out, if_pos rfl] at HSk
          go_wp2_with fail
          refine wp_region_bw (by kernel_rfl) (by kernel_rfl) ?_
          repeat (go_big_quiet_step (with_reducible first | exact quiet (HSHk.out _) | exact quiet (HWk.out _)))
          refine wpQuiet_nil ?_
          rintro _ ⟨i, rfl⟩
          have hown2 := hown.later i.h
          have bQ2 := bQ.later i.h
          have bM2 := bM.later i.h
          have hbr2 := below2 hbr i.h
          have e0' : i.W.cell? ⟨bl, o + k * 4, none⟩ = some (iV xi) := keep hbr2 (hck 0 _ rfl)
          generalize i.W = WI at *
          clear e0 e1 e2 e3 g0 g1 g2 g3 n0 n1 n2
          go_wp2_with (at_builtin; refine app_intE rfl _ _ rfl w.heap.size _ _ rfl hown2 xi rfl HLk.out hbr2.size ?_; intro v' w6 hown6 hE6 hob6; have bQ6 := bQ2.eff hE6 (fun e => hown2.neT bQ2 (by decide) e.symm); have bM6 := bM2.eff hE6 (fun e => hown2.neT bM2 (by decide) e.symm); have hbr6 := hbr2.trans (hE6.below hbr2.size (fun k hk => (hown2.heap hk.symm).1)))
          go_roundw
          case rel => exact ⟨k + 1, by omega, by go_num, by rw [HSk.out]; exact hown6, bQ6, bM6, hbr6⟩
          case measure => simp [intOf]; omega
    · obtain rfl : k = a.length := by omega
      rw [HE.out] at hown
      go_wp2_with fail
      go_ret
      exact ⟨_, rfl, OwnI.intsF hown (Nat.le_refl _), hbr⟩
def inL (lo hi n : Int) : List Int := if (decide (lo < n) && decide (n ≤ hi)) = true then [n] else []
theorem edg_succ (lo hi : Int) (l : List (Int × Int)) (k : Nat) (hk : k < l.length) : edgR lo hi (l.take (k + 1)) = edgR lo hi (l.take k) ++ inL lo hi (l.getD k (0, 0)).1 ++ inL lo hi ((l.getD k (0, 0)).2 + 1) := by
  unfold edgR
  rw [take_succ' l k (0, 0) hk, List.flatMap_append]
  simp only [List.flatMap_cons, List.flatMap_nil, List.append_nil, List.cons_append, List.append_assoc]
  congr 2
  unfold inL
  generalize (l.getD k (0, 0)).1 = x
  generalize (l.getD k (0, 0)).2 = y
  cases h1 : (decide (lo < x) && decide (x ≤ hi)) <;> cases h2 : (decide (lo < y + 1) && decide (y + 1 ≤ hi)) <;> simp [h1, h2]
theorem edg_len (lo hi : Int) : ∀ l : List (Int × Int), (edgR lo hi l).length ≤ 2 * l.length + 1 := by
  intro l
  unfold edgR
  rw [List.length_cons]
  have : ∀ l : List (Int × Int), (l.flatMap fun s => [s.1, s.2 + 1].filter fun n => decide (lo < n) && decide (n ≤ hi)).length ≤ 2 * l.length := by
    intro l
    induction l with
    | nil => simp
    | cons s t ih =>
      rw [List.flatMap_cons, List.length_append, List.length_cons]
      have := List.length_filter_le (fun n => decide (lo < n) && decide (n ≤ hi)) [s.1, s.2 + 1]
      simp only [List.length_cons, List.length_nil] at this
      omega
  have := this l
  omega
theorem inL_len (lo hi n : Int) : (inL lo hi n).length ≤ 1 := by unfold inL; split <;> simp
theorem own_ne {w : World} {B b0 : Nat} {v : Value} {l : List Int} (h : OwnI w B v l) (hb : w.heap.size ≤ b0) : ∀ g, v.ownBlock = some g → g ≠ b0 := by
  intro g hg e
  obtain ⟨-, cur, hc⟩ := h.heap hg
  have : g < w.heap.size := by
    rcases Array.getElem?_eq_some_iff.1 hc with ⟨h1, -⟩
    exact h1
  omega
theorem own_ne2 {W : World} {b0 : Nat} {v v' : Value} (h : ∀ g, v.ownBlock = some g → g ≠ b0) (hb : b0 < W.heap.size) (ho : v'.ownBlock = v.ownBlock ∨ ∀ g, v'.ownBlock = some g → W.heap.size ≤ g) : ∀ g, v'.ownBlock = some g → g ≠ b0 := by
  intro g hg
  rcases ho with e | e
  · exact h g (by rw [← e]; exact hg)
  · have := e g hg; omega
set_option maxRecDepth 20000 in
set_option maxHeartbeats 4000000 in
theorem edges_any (lo hi : Int) (l : List (Int × Int)) (v : Value) (w : World) (hv : IdsIn w.cell? v l) (hl : l.length ≤ 100) (hb : ∀ p ∈ l, i64N p.1 ∧ i64N p.2) : Calls Tryd.prog 57 #[iV lo, iV hi, v] w (RetM (fun c u => IntsIn c u (edgR lo hi l)) w) := by
  obtain ⟨a, c, rfl, -, -, hc⟩ := hv
  have HC := hide hc
  have HB := hide (fun k hk => hb _ (getD_mem l k (d := (0, 0)) hk))
  have HS := hide (fun k hk => edg_succ lo hi l k hk)
  have HE : Hid (edgR lo hi (l.take l.length) = edgR lo hi l) := hide (by rw [List.take_length])
  have HL := hide (fun k (hk : k ≤ l.length) => (show (edgR lo hi (l.take k)).length ≤ 2 * k + 1 by have := edg_len lo hi (l.take k); rwa [List.length_take, Nat.min_eq_left hk] at this))
  clear hc hb
  go_enter Tryd.func57, Tryd.ntmps57
  go_wp2_with fail
  have hO : OwnI (World.alloc w (.cells #[iV lo] 3)) w.heap.size (.slice (some ⟨w.heap.size, 0, none⟩) 1 1) [lo] :=
    ⟨rfl, .inr ⟨w.heap.size, 1, _, rfl, Nat.le_refl _, Blk.newA w _ rfl, Nat.le_refl _, by decide, rfl, rfl⟩⟩
  have hb0 := bal w (.cells #[iV lo] 3)
  go_loopw [7, 8] (fun v i wr => ∃ k : Nat, k ≤ l.length ∧ i = .int .i64 k ∧ OwnI wr w.heap.size v (edgR lo hi (l.take k)) ∧ Below w.heap.size w wr) (fun _ i _ => l.length - (intOf i).toNat)
  case atStart => exact ⟨0, by omega, rfl, hO, hb0⟩
  case round =>
    obtain ⟨k, hk, rfl, hown, hbr⟩ := hrel
    by_cases hlt : k < l.length
    · obtain ⟨bl, o, heq, hck⟩ := HC.out k hlt
      subst heq
      have hkd : decide (k < l.length) = true := by simpa using hlt
      have HSk := hide (HS.out k hlt)
      have hsz := HB.out k hlt
      have hel := HL.out k hk
      generalize l.getD k (0, 0) = p at *
      obtain ⟨sl, sh⟩ := p
      obtain ⟨⟨s1, s2⟩, s3, s4⟩ := hsz
      dsimp only at s1 s2 s3 s4 HSk
      have u1 : IntKind.i64.wrap (sh + 1) = sh + 1 := IntWalk.i64_in _ (by omega)
      have e0 : wr.cell? ⟨bl, o + k * 2, none⟩ = some (iV sl) := keep hbr (hck 0 _ rfl)
      have e1 : wr.cell? ⟨bl, o + k * 2 + 1, none⟩ = some (iV sh) := keep hbr (hck 1 _ rfl)
      generalize edgR lo hi (l.take k) = E at *
      clear hck s1 s2 s3 s4
      go_wp2_with fail
      refine wp_region_inv [some 19, some 20, some 21, some 22, some 23, some 24, some 25, some 26, some 27, some 28, some 29, some 30, some 31, some 32] (fun L vs W => match vs with | [x0, x1, x2, x3, x4, x5, x6, x7, x8, x9, x10, x11, x12, x13] => (Below wr.heap.size wr W) ∧ (L 0 = true → x0 = .slice (some ⟨bl, o, none⟩) l.length c) ∧ (L 1 = true → x1 = .int .i64 k) ∧ (L 2 = true → x2 = .pointer (some ⟨bl, o + k * 2, none⟩)) ∧ (L 3 = true → x3 = .pointer (some ⟨bl, o + k * 2, none⟩)) ∧ (L 4 = true → x4 = iV sl) ∧ (L 5 = true → x5 = .slice (some ⟨bl, o, none⟩) l.length c) ∧ (L 6 = true → x6 = .int .i64 k) ∧ (L 7 = true → x7 = .pointer (some ⟨bl, o + k * 2, none⟩)) ∧ (L 8 = true → x8 = .pointer (some ⟨bl, o + k * 2 + 1, none⟩)) ∧ (L 9 = true → x9 = iV sh) ∧ (L 10 = true → x10 = iV (sh + 1)) ∧ (L 11 = true → ∃ b0 : Nat, wr.heap.size ≤ b0 ∧ x11 = .slice (some ⟨b0, 0, none⟩) 2 2 ∧ Blk W b0 [iV sl, iV (sh + 1)] 3) ∧ (L 12 = true → x12 = .int .i64 2) ∧ (L 13 = true → x13 = .int .i64 0) | _ => False) [_, _, _, _, _, _, _, _, _, _, _, _, _, _] (by kernel_rfl) (by kernel_rfl) rfl (by simp only [puts, Act.put, List.setIfInBounds_toArray, List.set_cons_zero, List.set_cons_succ] <;> rfl) ?_ ?_ ?_
      · exact ⟨(Below.refl _ _).drew, (fun h => by cases h), (fun h => by cases h), (fun h => by cases h), (fun h => by cases h), (fun h => by cases h), (fun h => by cases h), (fun h => by cases h), (fun h => by cases h), (fun h => by cases h), (fun h => by cases h), (fun h => by cases h), (fun h => by cases h), (fun h => by cases h), (fun h => by cases h)⟩
      · refine ⟨?_, ?_, ?_, ?_, ?_, ?_, ?_, ?_, ?_, ?_, ?_, ?_, ?_, ?_, trivial⟩
        · intro L vs W hlen hL hD hI K hK
          obtain ⟨x0, x1, x2, x3, x4, x5, x6, x7, x8, x9, x10, x11, x12, x13, rfl⟩ := len14 hlen
          have hG := hI.1
          replace hI := hI.2
          have f0 := hide hI.1
          replace hI := hI.2
          have f1 := hide hI.1
          replace hI := hI.2
          have f2 := hide hI.1
          replace hI := hI.2
          have f3 := hide hI.1
          replace hI := hI.2
          have f4 := hide hI.1
          replace hI := hI.2
          have f5 := hide hI.1
          replace hI := hI.2
          have f6 := hide hI.1
          replace hI := hI.2
          have f7 := hide hI.1
          replace hI := hI.2
          have f8 := hide hI.1
          replace hI := hI.2
          have f9 := hide hI.1
          replace hI := hI.2
          have f10 := hide hI.1
          replace hI := hI.2
          have f11 := hide hI.1
          replace hI := hI.2
          have f12 := hide hI.1
          replace hI := hI.2
          have f13 := hide hI
          clear hI
          have e0 := keep hG e0
          have e1 := keep hG e1
          try simp only [puts, Act.put, List.setIfInBounds_toArray, List.set_cons_zero, List.set_cons_succ]
          try go_simp
          exact hK.out _ _ _ (by simp only [puts, Act.put, List.setIfInBounds_toArray, List.set_cons_zero, List.set_cons_succ] <;> rfl) ⟨hG, (fun _ => rfl), (fun h => f1.out h), (fun h => f2.out h), (fun h => f3.out h), (fun h => f4.out h), (fun h => f5.out h), (fun h => f6.out h), (fun h => f7.out h), (fun h => f8.out h), (fun h => f9.out h), (fun h => f10.out h), (fun h => f11.out h), (fun h => f12.out h), (fun h => f13.out h)⟩
        · intro L vs W hlen hL hD hI K hK
          obtain ⟨x0, x1, x2, x3, x4, x5, x6, x7, x8, x9, x10, x11, x12, x13, rfl⟩ := len14 hlen
          have hG := hI.1
          replace hI := hI.2
          have f0 := hide hI.1
          replace hI := hI.2
          have f1 := hide hI.1
          replace hI := hI.2
          have f2 := hide hI.1
          replace hI := hI.2
          have f3 := hide hI.1
          replace hI := hI.2
          have f4 := hide hI.1
          replace hI := hI.2
          have f5 := hide hI.1
          replace hI := hI.2
          have f6 := hide hI.1
          replace hI := hI.2
          have f7 := hide hI.1
          replace hI := hI.2
          have f8 := hide hI.1
          replace hI := hI.2
          have f9 := hide hI.1
          replace hI := hI.2
          have f10 := hide hI.1
          replace hI := hI.2
          have f11 := hide hI.1
          replace hI := hI.2
          have f12 := hide hI.1
          replace hI := hI.2
          have f13 := hide hI
          clear hI
          have e0 := keep hG e0
          have e1 := keep hG e1
          try simp only [puts, Act.put, List.setIfInBounds_toArray, List.set_cons_zero, List.set_cons_succ]
          try go_simp
          exact hK.out _ _ _ (by simp only [puts, Act.put, List.setIfInBounds_toArray, List.set_cons_zero, List.set_cons_succ] <;> rfl) ⟨hG, (fun h => f0.out h), (fun _ => rfl), (fun h => f2.out h), (fun h => f3.out h), (fun h => f4.out h), (fun h => f5.out h), (fun h => f6.out h), (fun h => f7.out h), (fun h => f8.out h), (fun h => f9.out h), (fun h => f10.out h), (fun h => f11.out h), (fun h => f12.out h), (fun h => f13.out h)⟩
        · intro L vs W hlen hL hD hI K hK
          obtain ⟨x0, x1, x2, x3, x4, x5, x6, x7, x8, x9, x10, x11, x12, x13, rfl⟩ := len14 hlen
          have hG := hI.1
          replace hI := hI.2
          have f0 := hide hI.1
          replace hI := hI.2
          have f1 := hide hI.1
          replace hI := hI.2
          have f2 := hide hI.1
          replace hI := hI.2
          have f3 := hide hI.1
          replace hI := hI.2
          have f4 := hide hI.1
          replace hI := hI.2
          have f5 := hide hI.1
          replace hI := hI.2
          have f6 := hide hI.1
          replace hI := hI.2
          have f7 := hide hI.1
          replace hI := hI.2
          have f8 := hide hI.1
          replace hI := hI.2
          have f9 := hide hI.1
          replace hI := hI.2
          have f10 := hide hI.1
          replace hI := hI.2
          have f11 := hide hI.1
          replace hI := hI.2
          have f12 := hide hI.1
          replace hI := hI.2
          have f13 := hide hI
          clear hI
          have e0 := keep hG e0
          have e1 := keep hG e1
          obtain rfl := f0.out (hD.on 0 (by kernel_rfl))
          obtain rfl := f1.out (hD.on 1 (by kernel_rfl))
          try simp only [puts, Act.put, List.setIfInBounds_toArray, List.set_cons_zero, List.set_cons_succ]
          try go_simp
          exact hK.out _ _ _ (by simp only [puts, Act.put, List.setIfInBounds_toArray, List.set_cons_zero, List.set_cons_succ] <;> rfl) ⟨hG, (fun h => f0.out h), (fun h => f1.out h), (fun _ => rfl), (fun h => f3.out h), (fun h => f4.out h), (fun h => f5.out h), (fun h => f6.out h), (fun h => f7.out h), (fun h => f8.out h), (fun h => f9.out h), (fun h => f10.out h), (fun h => f11.out h), (fun h => f12.out h), (fun h => f13.out h)⟩
        · intro L vs W hlen hL hD hI K hK
          obtain ⟨x0, x1, x2, x3, x4, x5, x6, x7, x8, x9, x10, x11, x12, x13, rfl⟩ := len14 hlen
          have hG := hI.1
          replace hI := hI.2
          have f0 := hide hI.1
          replace hI := hI.2
          have f1 := hide hI.1
          replace hI := hI.2
          have f2 := hide hI.1
          replace hI := hI.2
          have f3 := hide hI.1
          replace hI := hI.2
          have f4 := hide hI.1
          replace hI := hI.2
          have f5 := hide hI.1
          replace hI := hI.2
          have f6 := hide hI.1
          replace hI := hI.2
          have f7 := hide hI.1
          replace hI := hI.2
          have f8 := hide hI.1
          replace hI := hI.2
          have f9 := hide hI.1
          replace hI := hI.2
          have f10 := hide hI.1
          replace hI := hI.2
          have f11 := hide hI.1
          replace hI := hI.2
          have f12 := hide hI.1
          replace hI := hI.2
          have f13 := hide hI
          clear hI
          have e0 := keep hG e0
          have e1 := keep hG e1
          obtain rfl := f2.out (hD.on 2 (by kernel_rfl))
          try simp only [puts, Act.put, List.setIfInBounds_toArray, List.set_cons_zero, List.set_cons_succ]
          try go_simp
          exact hK.out _ _ _ (by simp only [puts, Act.put, List.setIfInBounds_toArray, List.set_cons_zero, List.set_cons_succ] <;> rfl) ⟨hG, (fun h => f0.out h), (fun h => f1.out h), (fun h => f2.out h), (fun _ => rfl), (fun h => f4.out h), (fun h => f5.out h), (fun h => f6.out h), (fun h => f7.out h), (fun h => f8.out h), (fun h => f9.out h), (fun h => f10.out h), (fun h => f11.out h), (fun h => f12.out h), (fun h => f13.out h)⟩
        · intro L vs W hlen hL hD hI K hK
          obtain ⟨x0, x1, x2, x3, x4, x5, x6, x7, x8, x9, x10, x11, x12, x13, rfl⟩ := len14 hlen
          have hG := hI.1
          replace hI := hI.2
          have f0 := hide hI.1
          replace hI := hI.2
          have f1 := hide hI.1
          replace hI := hI.2
          have f2 := hide hI.1
          replace hI := hI.2
          have f3 := hide hI.1
          replace hI := hI.2
          have f4 := hide hI.1
          replace hI := hI.2
          have f5 := hide hI.1
          replace hI := hI.2
          have f6 := hide hI.1
          replace hI := hI.2
          have f7 := hide hI.1
          replace hI := hI.2
          have f8 := hide hI.1
          replace hI := hI.2
          have f9 := hide hI.1
          replace hI := hI.2
          have f10 := hide hI.1
          replace hI := hI.2
          have f11 := hide hI.1
          replace hI := hI.2
          have f12 := hide hI.1
          replace hI := hI.2
          have f13 := hide hI
          clear hI
          have e0 := keep hG e0
          have e1 := keep hG e1
          obtain rfl := f3.out (hD.on 3 (by kernel_rfl))
          try simp only [puts, Act.put, List.setIfInBounds_toArray, List.set_cons_zero, List.set_cons_succ]
          try go_simp
          exact hK.out _ _ _ (by simp only [puts, Act.put, List.setIfInBounds_toArray, List.set_cons_zero, List.set_cons_succ] <;> rfl) ⟨hG, (fun h => f0.out h), (fun h => f1.out h), (fun h => f2.out h), (fun h => f3.out h), (fun _ => rfl), (fun h => f5.out h), (fun h => f6.out h), (fun h => f7.out h), (fun h => f8.out h), (fun h => f9.out h), (fun h => f10.out h), (fun h => f11.out h), (fun h => f12.out h), (fun h => f13.out h)⟩
        · intro L vs W hlen hL hD hI K hK
          obtain ⟨x0, x1, x2, x3, x4, x5, x6, x7, x8, x9, x10, x11, x12, x13, rfl⟩ := len14 hlen
          have hG := hI.1
          replace hI := hI.2
          have f0 := hide hI.1
          replace hI := hI.2
          have f1 := hide hI.1
          replace hI := hI.2
          have f2 := hide hI.1
          replace hI := hI.2
          have f3 := hide hI.1
          replace hI := hI.2
          have f4 := hide hI.1
          replace hI := hI.2
          have f5 := hide hI.1
          replace hI := hI.2
          have f6 := hide hI.1
          replace hI := hI.2
          have f7 := hide hI.1
          replace hI := hI.2
          have f8 := hide hI.1
          replace hI := hI.2
          have f9 := hide hI.1
          replace hI := hI.2
          have f10 := hide hI.1
          replace hI := hI.2
          have f11 := hide hI.1
          replace hI := hI.2
          have f12 := hide hI.1
          replace hI := hI.2
          have f13 := hide hI
          clear hI
          have e0 := keep hG e0
          have e1 := keep hG e1
          try simp only [puts, Act.put, List.setIfInBounds_toArray, List.set_cons_zero, List.set_cons_succ]
          try go_simp
          exact hK.out _ _ _ (by simp only [puts, Act.put, List.setIfInBounds_toArray, List.set_cons_zero, List.set_cons_succ] <;> rfl) ⟨hG, (fun h => f0.out h), (fun h => f1.out h), (fun h => f2.out h), (fun h => f3.out h), (fun h => f4.out h), (fun _ => rfl), (fun h => f6.out h), (fun h => f7.out h), (fun h => f8.out h), (fun h => f9.out h), (fun h => f10.out h), (fun h => f11.out h), (fun h => f12.out h), (fun h => f13.out h)⟩
        · intro L vs W hlen hL hD hI K hK
          obtain ⟨x0, x1, x2, x3, x4, x5, x6, x7, x8, x9, x10, x11, x12, x13, rfl⟩ := len14 hlen
          have hG := hI.1
          replace hI := hI.2
          have f0 := hide hI.1
          replace hI := hI.2
          have f1 := hide hI.1
          replace hI := hI.2
          have f2 := hide hI.1
          replace hI := hI.2
          have f3 := hide hI.1
          replace hI := hI.2
          have f4 := hide hI.1
          replace hI := hI.2
          have f5 := hide hI.1
          replace hI := hI.2
          have f6 := hide hI.1
          replace hI := hI.2
          have f7 := hide hI.1
          replace hI := hI.2
          have f8 := hide hI.1
          replace hI := hI.2
          have f9 := hide hI.1
          replace hI := hI.2
          have f10 := hide hI.1
          replace hI := hI.2
          have f11 := hide hI.1
          replace hI := hI.2
          have f12 := hide hI.1
          replace hI := hI.2
          have f13 := hide hI
          clear hI
          have e0 := keep hG e0
          have e1 := keep hG e1
          try simp only [puts, Act.put, List.setIfInBounds_toArray, List.set_cons_zero, List.set_cons_succ]
          try go_simp
          exact hK.out _ _ _ (by simp only [puts, Act.put, List.setIfInBounds_toArray, List.set_cons_zero, List.set_cons_succ] <;> rfl) ⟨hG, (fun h => f0.out h), (fun h => f1.out h), (fun h => f2.out h), (fun h => f3.out h), (fun h => f4.out h), (fun h => f5.out h), (fun _ => rfl), (fun h => f7.out h), (fun h => f8.out h), (fun h => f9.out h), (fun h => f10.out h), (fun h => f11.out h), (fun h => f12.out h), (fun h => f13.out h)⟩
        · intro L vs W hlen hL hD hI K hK
          obtain ⟨x0, x1, x2, x3, x4, x5, x6, x7, x8, x9, x10, x11, x12, x13, rfl⟩ := len14 hlen
          have hG := hI.1
          replace hI := hI.2
          have f0 := hide hI.1
          replace hI := hI.2
          have f1 := hide hI.1
          replace hI := hI.2
          have f2 := hide hI.1
          replace hI := hI.2
          have f3 := hide hI.1
          replace hI := hI.2
          have f4 := hide hI.1
          replace hI := hI.2
          have f5 := hide hI.1
          replace hI := hI.2
          have f6 := hide hI.1
          replace hI := hI.2
          have f7 := hide hI.1
          replace hI := hI.2
          have f8 := hide hI.1
          replace hI := hI.2
          have f9 := hide hI.1
          replace hI := hI.2
          have f10 := hide hI.1
          replace hI := hI.2
          have f11 := hide hI.1
          replace hI := hI.2
          have f12 := hide hI.1
          replace hI := hI.2
          have f13 := hide hI
          clear hI
          have e0 := keep hG e0
          have e1 := keep hG e1
          obtain rfl := f5.out (hD.on 5 (by kernel_rfl))
          obtain rfl := f6.out (hD.on 6 (by kernel_rfl))
          try simp only [puts, Act.put, List.setIfInBounds_toArray, List.set_cons_zero, List.set_cons_succ]
          try go_simp
          exact hK.out _ _ _ (by simp only [puts, Act.put, List.setIfInBounds_toArray, List.set_cons_zero, List.set_cons_succ] <;> rfl) ⟨hG, (fun h => f0.out h), (fun h => f1.out h), (fun h => f2.out h), (fun h => f3.out h), (fun h => f4.out h), (fun h => f5.out h), (fun h => f6.out h), (fun _ => rfl), (fun h => f8.out h), (fun h => f9.out h), (fun h => f10.out h), (fun h => f11.out h), (fun h => f12.out h), (fun h => f13.out h)⟩
        · intro L vs W hlen hL hD hI K hK
          obtain ⟨x0, x1, x2, x3, x4, x5, x6, x7, x8, x9, x10, x11, x12, x13, rfl⟩ := len14 hlen
          have hG := hI.1
          replace hI := hI.2
          have f0 := hide hI.1
          replace hI := hI.2
          have f1 := hide hI.1
          replace hI := hI.2
          have f2 := hide hI.1
          replace hI := hI.2
          have f3 := hide hI.1
          replace hI := hI.2
          have f4 := hide hI.1
          replace hI := hI.2
          have f5 := hide hI.1
          replace hI := hI.2
          have f6 := hide hI.1
          replace hI := hI.2
          have f7 := hide hI.1
          replace hI := hI.2
          have f8 := hide hI.1
          replace hI := hI.2
          have f9 := hide hI.1
          replace hI := hI.2
          have f10 := hide hI.1
          replace hI := hI.2
          have f11 := hide hI.1
          replace hI := hI.2
          have f12 := hide hI.1
          replace hI := hI.2
          have f13 := hide hI
          clear hI
          have e0 := keep hG e0
          have e1 := keep hG e1
          obtain rfl := f7.out (hD.on 7 (by kernel_rfl))
          try simp only [puts, Act.put, List.setIfInBounds_toArray, List.set_cons_zero, List.set_cons_succ]
          try go_simp
          exact hK.out _ _ _ (by simp only [puts, Act.put, List.setIfInBounds_toArray, List.set_cons_zero, List.set_cons_succ] <;> rfl) ⟨hG, (fun h => f0.out h), (fun h => f1.out h), (fun h => f2.out h), (fun h => f3.out h), (fun h => f4.out h), (fun h => f5.out h), (fun h => f6.out h), (fun h => f7.out h), (fun _ => rfl), (fun h => f9.out h), (fun h => f10.out h), (fun h => f11.out h), (fun h => f12.out h), (fun h => f13.out h)⟩
        · intro L vs W hlen hL hD hI K hK
          obtain ⟨x0, x1, x2, x3, x4, x5, x6, x7, x8, x9, x10, x11, x12, x13, rfl⟩ := len14 hlen
          have hG := hI.1
          replace hI := hI.2
          have f0 := hide hI.1
          replace hI := hI.2
          have f1 := hide hI.1
          replace hI := hI.2
          have f2 := hide hI.1
          replace hI := hI.2
          have f3 := hide hI.1
          replace hI := hI.2
          have f4 := hide hI.1
          replace hI := hI.2
          have f5 := hide hI.1
          replace hI := hI.2
          have f6 := hide hI.1
          replace hI := hI.2
          have f7 := hide hI.1
          replace hI := hI.2
          have f8 := hide hI.1
          replace hI := hI.2
          have f9 := hide hI.1
          replace hI := hI.2
          have f10 := hide hI.1
          replace hI := hI.2
          have f11 := hide hI.1
          replace hI := hI.2
          have f12 := hide hI.1
          replace hI := hI.2
          have f13 := hide hI
          clear hI
          have e0 := keep hG e0
          have e1 := keep hG e1
          obtain rfl := f8.out (hD.on 8 (by kernel_rfl))
          try simp only [puts, Act.put, List.setIfInBounds_toArray, List.set_cons_zero, List.set_cons_succ]
          try go_simp
          exact hK.out _ _ _ (by simp only [puts, Act.put, List.setIfInBounds_toArray, List.set_cons_zero, List.set_cons_succ] <;> rfl) ⟨hG, (fun h => f0.out h), (fun h => f1.out h), (fun h => f2.out h), (fun h => f3.out h), (fun h => f4.out h), (fun h => f5.out h), (fun h => f6.out h), (fun h => f7.out h), (fun h => f8.out h), (fun _ => rfl), (fun h => f10.out h), (fun h => f11.out h), (fun h => f12.out h), (fun h => f13.out h)⟩
        · intro L vs W hlen hL hD hI K hK
          obtain ⟨x0, x1, x2, x3, x4, x5, x6, x7, x8, x9, x10, x11, x12, x13, rfl⟩ := len14 hlen
          have hG := hI.1
          replace hI := hI.2
          have f0 := hide hI.1
          replace hI := hI.2
          have f1 := hide hI.1
          replace hI := hI.2
          have f2 := hide hI.1
          replace hI := hI.2
          have f3 := hide hI.1
          replace hI := hI.2
          have f4 := hide hI.1
          replace hI := hI.2
          have f5 := hide hI.1
          replace hI := hI.2
          have f6 := hide hI.1
          replace hI := hI.2
          have f7 := hide hI.1
          replace hI := hI.2
          have f8 := hide hI.1
          replace hI := hI.2
          have f9 := hide hI.1
          replace hI := hI.2
          have f10 := hide hI.1
          replace hI := hI.2
          have f11 := hide hI.1
          replace hI := hI.2
          have f12 := hide hI.1
          replace hI := hI.2
          have f13 := hide hI
          clear hI
          have e0 := keep hG e0
          have e1 := keep hG e1
          obtain rfl := f9.out (hD.on 9 (by kernel_rfl))
          try simp only [puts, Act.put, List.setIfInBounds_toArray, List.set_cons_zero, List.set_cons_succ]
          try go_simp
          exact hK.out _ _ _ (by simp only [puts, Act.put, List.setIfInBounds_toArray, List.set_cons_zero, List.set_cons_succ] <;> rfl) ⟨hG, (fun h => f0.out h), (fun h => f1.out h), (fun h => f2.out h), (fun h => f3.out h), (fun h => f4.out h), (fun h => f5.out h), (fun h => f6.out h), (fun h => f7.out h), (fun h => f8.out h), (fun h => f9.out h), (fun _ => rfl), (fun h => f11.out h), (fun h => f12.out h), (fun h => f13.out h)⟩
        · intro L vs W hlen hL hD hI K hK
          obtain ⟨x0, x1, x2, x3, x4, x5, x6, x7, x8, x9, x10, x11, x12, x13, rfl⟩ := len14 hlen
          have hG := hI.1
          replace hI := hI.2
          have f0 := hide hI.1
          replace hI := hI.2
          have f1 := hide hI.1
          replace hI := hI.2
          have f2 := hide hI.1
          replace hI := hI.2
          have f3 := hide hI.1
          replace hI := hI.2
          have f4 := hide hI.1
          replace hI := hI.2
          have f5 := hide hI.1
          replace hI := hI.2
          have f6 := hide hI.1
          replace hI := hI.2
          have f7 := hide hI.1
          replace hI := hI.2
          have f8 := hide hI.1
          replace hI := hI.2
          have f9 := hide hI.1
          replace hI := hI.2
          have f10 := hide hI.1
          replace hI := hI.2
          have f11 := hide hI.1
          replace hI := hI.2
          have f12 := hide hI.1
          replace hI := hI.2
          have f13 := hide hI
          clear hI
          have e0 := keep hG e0
          have e1 := keep hG e1
          obtain rfl := f4.out (hD.on 4 (by kernel_rfl))
          obtain rfl := f10.out (hD.on 10 (by kernel_rfl))
          try simp only [puts, Act.put, List.setIfInBounds_toArray, List.set_cons_zero, List.set_cons_succ]
          try go_simp
          generalize hW' : World.alloc W _ = W'
          have hb : Below W.heap.size W W' := by rw [← hW']; exact bal W _
          exact hK.out _ _ _ (by simp only [puts, Act.put, List.setIfInBounds_toArray, List.set_cons_zero, List.set_cons_succ] <;> rfl) ⟨below2 hG hb, (fun h => f0.out h), (fun h => f1.out h), (fun h => f2.out h), (fun h => f3.out h), (fun h => f4.out h), (fun h => f5.out h), (fun h => f6.out h), (fun h => f7.out h), (fun h => f8.out h), (fun h => f9.out h), (fun h => f10.out h), (fun _ => ⟨W.heap.size, hG.size, rfl, by rw [← hW']; exact Blk.newA W _ rfl⟩), (fun h => f12.out h), (fun h => f13.out h)⟩
        · intro L vs W hlen hL hD hI K hK
          obtain ⟨x0, x1, x2, x3, x4, x5, x6, x7, x8, x9, x10, x11, x12, x13, rfl⟩ := len14 hlen
          have hG := hI.1
          replace hI := hI.2
          have f0 := hide hI.1
          replace hI := hI.2
          have f1 := hide hI.1
          replace hI := hI.2
          have f2 := hide hI.1
          replace hI := hI.2
          have f3 := hide hI.1
          replace hI := hI.2
          have f4 := hide hI.1
          replace hI := hI.2
          have f5 := hide hI.1
          replace hI := hI.2
          have f6 := hide hI.1
          replace hI := hI.2
          have f7 := hide hI.1
          replace hI := hI.2
          have f8 := hide hI.1
          replace hI := hI.2
          have f9 := hide hI.1
          replace hI := hI.2
          have f10 := hide hI.1
          replace hI := hI.2
          have f11 := hide hI.1
          replace hI := hI.2
          have f12 := hide hI.1
          replace hI := hI.2
          have f13 := hide hI
          clear hI
          have e0 := keep hG e0
          have e1 := keep hG e1
          have g11 := f11.out (hD.on 11 (by kernel_rfl))
          try simp only [puts, Act.put, List.setIfInBounds_toArray, List.set_cons_zero, List.set_cons_succ]
          obtain ⟨b0, hb0, rfl, hB0⟩ := g11
          go_simp
          exact hK.out _ _ _ (by simp only [puts, Act.put, List.setIfInBounds_toArray, List.set_cons_zero, List.set_cons_succ] <;> rfl) ⟨hG, (fun h => f0.out h), (fun h => f1.out h), (fun h => f2.out h), (fun h => f3.out h), (fun h => f4.out h), (fun h => f5.out h), (fun h => f6.out h), (fun h => f7.out h), (fun h => f8.out h), (fun h => f9.out h), (fun h => f10.out h), (fun h => f11.out h), (fun _ => rfl), (fun h => f13.out h)⟩
        · intro L vs W hlen hL hD hI K hK
          obtain ⟨x0, x1, x2, x3, x4, x5, x6, x7, x8, x9, x10, x11, x12, x13, rfl⟩ := len14 hlen
          have hG := hI.1
          replace hI := hI.2
          have f0 := hide hI.1
          replace hI := hI.2
          have f1 := hide hI.1
          replace hI := hI.2
          have f2 := hide hI.1
          replace hI := hI.2
          have f3 := hide hI.1
          replace hI := hI.2
          have f4 := hide hI.1
          replace hI := hI.2
          have f5 := hide hI.1
          replace hI := hI.2
          have f6 := hide hI.1
          replace hI := hI.2
          have f7 := hide hI.1
          replace hI := hI.2
          have f8 := hide hI.1
          replace hI := hI.2
          have f9 := hide hI.1
          replace hI := hI.2
          have f10 := hide hI.1
          replace hI := hI.2
          have f11 := hide hI.1
          replace hI := hI.2
          have f12 := hide hI.1
          replace hI := hI.2
          have f13 := hide hI
          clear hI
          have e0 := keep hG e0
          have e1 := keep hG e1
          try simp only [puts, Act.put, List.setIfInBounds_toArray, List.set_cons_zero, List.set_cons_succ]
          try go_simp
          exact hK.out _ _ _ (by simp only [puts, Act.put, List.setIfInBounds_toArray, List.set_cons_zero, List.set_cons_succ] <;> rfl) ⟨hG, (fun h => f0.out h), (fun h => f1.out h), (fun h => f2.out h), (fun h => f3.out h), (fun h => f4.out h), (fun h => f5.out h), (fun h => f6.out h), (fun h => f7.out h), (fun h => f8.out h), (fun h => f9.out h), (fun h => f10.out h), (fun h => f11.out h), (fun h => f12.out h), (fun _ => rfl)⟩
      intro L vs W hlen hall hI
      obtain ⟨x0, x1, x2, x3, x4, x5, x6, x7, x8, x9, x10, x11, x12, x13, rfl⟩ := len14 hlen
      have hG := hI.1
      replace hI := hI.2
      have f0 := hide hI.1
      replace hI := hI.2
      have f1 := hide hI.1
      replace hI := hI.2
      have f2 := hide hI.1
      replace hI := hI.2
      have f3 := hide hI.1
      replace hI := hI.2
      have f4 := hide hI.1
      replace hI := hI.2
      have f5 := hide hI.1
      replace hI := hI.2
      have f6 := hide hI.1
      replace hI := hI.2
      have f7 := hide hI.1
      replace hI := hI.2
      have f8 := hide hI.1
      replace hI := hI.2
      have f9 := hide hI.1
      replace hI := hI.2
      have f10 := hide hI.1
      replace hI := hI.2
      have f11 := hide hI.1
      replace hI := hI.2
      have f12 := hide hI.1
      replace hI := hI.2
      have f13 := hide hI
      clear hI
      obtain rfl := f0.out (hall 0 (by decide))
      obtain rfl := f1.out (hall 1 (by decide))
      obtain rfl := f2.out (hall 2 (by decide))
      obtain rfl := f3.out (hall 3 (by decide))
      obtain rfl := f4.out (hall 4 (by decide))
      obtain rfl := f5.out (hall 5 (by decide))
      obtain rfl := f6.out (hall 6 (by decide))
      obtain rfl := f7.out (hall 7 (by decide))
      obtain rfl := f8.out (hall 8 (by decide))
      obtain rfl := f9.out (hall 9 (by decide))
      obtain rfl := f10.out (hall 10 (by decide))
      have g11 := f11.out (hall 11 (by decide))
      obtain rfl := f12.out (hall 12 (by decide))
      obtain rfl := f13.out (hall 13 (by decide))
      have hal := hide hall
      clear hall f0 f1 f2 f3 f4 f5 f6 f7 f8 f9 f10 f11 f12 f13
      try simp only [puts, Act.put, List.setIfInBounds_toArray, List.set_cons_zero, List.set_cons_succ]
      obtain ⟨b0, hb0', rfl, hB0⟩ := g11
      have hown1 := hown.later hG
      have HN1 := hide (own_ne hown hb0')
      have hbr1 := below2 hbr hG
      clear hal e0 e1 hG u1
      go_wp2_with fail
      go_loopw [7, 32] (fun v i wr => ∃ (j : Nat), j ≤ 2 ∧ i = .int .i64 j ∧ OwnI wr w.heap.size v (E ++ (if 1 ≤ j then inL lo hi sl else []) ++ (if 2 ≤ j then inL lo hi (sh + 1) else [])) ∧ Hid (∀ g, v.ownBlock = some g → g ≠ b0) ∧ Blk wr b0 [iV sl, iV (sh + 1)] 3 ∧ Below w.heap.size w wr) (fun _ i _ => 2 - (intOf i).toNat)
      case atStart => exact ⟨0, by omega, rfl, by simpa using hown1, HN1, hB0, hbr1⟩
      case round =>
        obtain ⟨j, hj, rfl, hown, HN, bL, hbr⟩ := hrel
        have c0 := bL.cell 0 rfl
        have c1 := bL.cell 1 rfl
        obtain rfl | rfl | rfl : j = 0 ∨ j = 1 ∨ j = 2 := by omega
        · rw [if_neg (by omega), if_neg (by omega), List.append_nil, List.append_nil] at hown
          cases t1 : decide (lo < sl)
          · have hE : Hid (inL lo hi (sl) = []) := hide (by unfold inL; rw [t1]; rfl)
            go_wp2_with fail
            go_roundw
            case rel => exact ⟨1, by omega, by rfl, by rw [if_pos (by omega), if_neg (by omega), List.append_nil]; rw [hE.out, List.append_nil]; exact hown, HN, bL, hbr⟩
            case measure => simp [intOf]
          · cases t2 : decide (sl ≤ hi)
            · have hE : Hid (inL lo hi (sl) = []) := hide (by unfold inL; rw [t1, t2]; rfl)
              go_wp2_with fail
              go_roundw
              case rel => exact ⟨1, by omega, by rfl, by rw [if_pos (by omega), if_neg (by omega), List.append_nil]; rw [hE.out, List.append_nil]; exact hown, HN, bL, hbr⟩
              case measure => simp [intOf]
            · have hE : Hid (inL lo hi (sl) = [sl]) := hide (by unfold inL; rw [t1, t2]; rfl)
              have hlE : Hid ((E).length < 1000000) := hide (by have := inL_len lo hi sl; (try simp only [List.length_append]); omega)
              have lL := bL.lt
              go_wp2_with (at_builtin; refine app_intE rfl _ _ rfl w.heap.size _ _ rfl hown (sl) rfl hlE.out hbr.size ?_; intro v' w6 hown6 hE6 hob6; have bL6 := bL.eff hE6 (fun e => HN.out b0 e.symm rfl); have HN6 := hide (own_ne2 HN.out lL hob6); have hbr6 := hbr.trans (hE6.below hbr.size (fun k hk => (hown.heap hk.symm).1)))
              go_roundw
              case rel => exact ⟨1, by omega, by rfl, by rw [if_pos (by omega), if_neg (by omega), List.append_nil]; rw [hE.out]; exact hown6, HN6, bL6, hbr6⟩
              case measure => simp [intOf]
        · rw [if_pos (by omega), if_neg (by omega), List.append_nil] at hown
          cases t1 : decide (lo < sh + 1)
          · have hE : Hid (inL lo hi (sh + 1) = []) := hide (by unfold inL; rw [t1]; rfl)
            go_wp2_with fail
            go_roundw
            case rel => exact ⟨2, by omega, by rfl, by rw [if_pos (by omega), if_pos (by omega)]; rw [hE.out, List.append_nil]; exact hown, HN, bL, hbr⟩
            case measure => simp [intOf]
          · cases t2 : decide (sh + 1 ≤ hi)
            · have hE : Hid (inL lo hi (sh + 1) = []) := hide (by unfold inL; rw [t1, t2]; rfl)
              go_wp2_with fail
              go_roundw
              case rel => exact ⟨2, by omega, by rfl, by rw [if_pos (by omega), if_pos (by omega)]; rw [hE.out, List.append_nil]; exact hown, HN, bL, hbr⟩
              case measure => simp [intOf]
            · have hE : Hid (inL lo hi (sh + 1) = [sh + 1]) := hide (by unfold inL; rw [t1, t2]; rfl)
              have hlE : Hid ((E ++ inL lo hi sl).length < 1000000) := hide (by have := inL_len lo hi sl; (try simp only [List.length_append]); omega)
              have lL := bL.lt
              go_wp2_with (at_builtin; refine app_intE rfl _ _ rfl w.heap.size _ _ rfl hown (sh + 1) rfl hlE.out hbr.size ?_; intro v' w6 hown6 hE6 hob6; have bL6 := bL.eff hE6 (fun e => HN.out b0 e.symm rfl); have HN6 := hide (own_ne2 HN.out lL hob6); have hbr6 := hbr.trans (hE6.below hbr.size (fun k hk => (hown.heap hk.symm).1)))
              go_roundw
              case rel => exact ⟨2, by omega, by rfl, by rw [if_pos (by omega), if_pos (by omega)]; rw [hE.out]; exact hown6, HN6, bL6, hbr6⟩
              case measure => simp [intOf]
        · rw [if_pos (by omega), if_pos (by omega)] at hown
          go_wp2_with fail
          go_roundw
          case rel => exact ⟨k + 1, by omega, by go_num, by rw [HSk.out]; exact hown, hbr⟩
          case measure => simp [intOf]; omega
    · obtain rfl : k = l.length := by omega
      rw [HE.out] at hown
      go_wp2_with fail
      go_ret
      exact ⟨_, rfl, OwnI.intsF hown (Nat.le_refl _), hbr⟩
end Go.Proofs.YtoofkahklboojaaDoor
