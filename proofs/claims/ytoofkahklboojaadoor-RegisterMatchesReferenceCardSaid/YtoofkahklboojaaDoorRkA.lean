/- Register: how its data lie in memory; walks of the functions on places and boxes. Conditions: how the global tables lie in memory; sizes. -/
import Derived.Test.YtoofkahklboojaaDoorOwnR
import Derived.Test.YtoofkahklboojaaDoorBlkB
import Derived.Test.YtoofkahklboojaaDoorRegM
import Derived.Test.YtoofkahklboojaaDoorRgV
import Derived.Deep.DeepCutAuto
import Derived.Laws.Rows
namespace Go.Proofs.YtoofkahklboojaaDoor
open Go.RowKit

abbrev iV (x : Int) : Value := .int .i64 x
abbrev dotV (p : DotD) : Value := .agg #[iV p.id, iV p.x, iV p.y, iV p.tol]
abbrev motV (m : MotD) : Value := .agg #[iV m.turn, iV m.dx, iV m.dy]
abbrev boxV (b : BoxD) : Value := .agg #[iV b.xl, iV b.xh, iV b.yl, iV b.yh]
/-- block g holds the cells vs -/
def GBlk (w : World) (g : Nat) (vs : List Value) : Prop := ∃ t m, w.heap[g]? = some (.cells vs.toArray t m)
theorem GBlk.lt {w : World} {g : Nat} {vs : List Value} (h : GBlk w g vs) : g < w.heap.size := by
  obtain ⟨t, m, h⟩ := h; exact (Array.getElem?_eq_some_iff.1 h).1
theorem GBlk.cell {w : World} {g : Nat} {vs : List Value} (h : GBlk w g vs) (j : Nat) {v : Value} (hv : vs[j]? = some v) : w.cell? ⟨g, j, none⟩ = some v := by
  obtain ⟨t, m, h⟩ := h; simp [World.cell?, h, hv]
theorem GBlk.later {w w' : World} {g : Nat} {vs : List Value} (h : GBlk w g vs) (hb : Below w.heap.size w w') : GBlk w' g vs := by
  have hl := h.lt
  obtain ⟨t, m, h⟩ := h; exact ⟨t, m, (hb.block g hl).trans h⟩
/-- the tables of the program, in memory -/
structure Glob (w : World) : Prop where
  ev : GBlk w 0 [iV (-5000), iV 5000, iV (-5000), iV 5000]
  tu : GBlk w 1 [iV 1, iV 0, iV 0, iV 1, iV 0, iV (-1), iV 1, iV 0, iV (-1), iV 0, iV 0, iV (-1), iV 0, iV 1, iV (-1), iV 0]
theorem Glob.later {w w' : World} (h : Glob w) (hb : Below w.heap.size w w') : Glob w' := ⟨h.ev.later hb, h.tu.later hb⟩
def i64N (x : Int) : Prop := -1000000 ≤ x ∧ x ≤ 1000000
def isInN (lo n hi : Int) : Bool := decide (lo ≤ n ∧ n ≤ hi)
set_option maxHeartbeats 400000 in
theorem risIn_any (n lo hi : Int) (w : World) :
    Calls Tryd.prog 44 #[iV n, iV lo, iV hi] w (Ret (.bool (isInN lo n hi)) w) := by
  by_cases h1 : lo ≤ n
  · by_cases h2 : n ≤ hi
    all_goals
      have h3 := h1
      have h4 := h2
      go_enter Tryd.func44, Tryd.ntmps44
      go_wp2
      go_ret
      exact ⟨ret_bool (by simp [isInN]; omega), Below.refl _ _⟩
  · have h3 := h1
    go_enter Tryd.func44, Tryd.ntmps44
    go_wp2
    go_ret
    exact ⟨ret_bool (by simp [isInN]; omega), Below.refl _ _⟩
set_option maxRecDepth 20000 in
set_option maxHeartbeats 1000000 in
theorem turned_any (k : Nat) (x y : Int) (w : World) (hk : k ≤ 3) (hx : i64N x) (hy : i64N y) (hG : Glob w) :
    Calls Tryd.prog 60 #[iV k, iV x, iV y] w (Ret (.tuple #[iV (turnX k x y), iV (turnY k x y)]) w) := by
  obtain ⟨hx1, hx2⟩ := hx
  obtain ⟨hy1, hy2⟩ := hy
  obtain rfl | rfl | rfl | rfl : k = 0 ∨ k = 1 ∨ k = 2 ∨ k = 3 := by omega
  · skip
    have c0 := hG.tu.cell (0) rfl
    have c1 := hG.tu.cell (0 + 1) rfl
    have c2 := hG.tu.cell (0 + 2) rfl
    have c3 := hG.tu.cell (0 + 3) rfl
    go_enter Tryd.func60, Tryd.ntmps60
    go_wp2_with fail
    generalize hW : World.alloc w _ = W
    have hb : Below w.heap.size w W := by rw [← hW]; exact bal w _
    have bW : Blk W w.heap.size [iV (1), iV (0), iV (0), iV (1)] 120 := by rw [← hW]; exact Blk.newA w _ rfl
    have d0 := bW.cell 0 rfl
    have d1 := bW.cell 1 rfl
    have d2 := bW.cell 2 rfl
    have d3 := bW.cell 3 rfl
    have D0 := bwc d0
    have D1 := bwc d1
    have D2 := bwc d2
    have D3 := bwc d3
    clear hW c0 c1 c2 c3 d0 d1 d2 d3
    refine wp_region_bw (by kernel_rfl) (by kernel_rfl) ?_
    repeat (go_big_quiet_step (fail))
    refine wpQuiet_nil ?_
    rintro _ ⟨i, rfl⟩
    go_wp2_with fail
    go_ret2
    exact ⟨by simp [turnX, turnY], below2 hb i.h⟩
  · skip
    have c0 := hG.tu.cell (4) rfl
    have c1 := hG.tu.cell (4 + 1) rfl
    have c2 := hG.tu.cell (4 + 2) rfl
    have c3 := hG.tu.cell (4 + 3) rfl
    go_enter Tryd.func60, Tryd.ntmps60
    go_wp2_with fail
    generalize hW : World.alloc w _ = W
    have hb : Below w.heap.size w W := by rw [← hW]; exact bal w _
    have bW : Blk W w.heap.size [iV (0), iV (-1), iV (1), iV (0)] 120 := by rw [← hW]; exact Blk.newA w _ rfl
    have d0 := bW.cell 0 rfl
    have d1 := bW.cell 1 rfl
    have d2 := bW.cell 2 rfl
    have d3 := bW.cell 3 rfl
    have D0 := bwc d0
    have D1 := bwc d1
    have D2 := bwc d2
    have D3 := bwc d3
    clear hW c0 c1 c2 c3 d0 d1 d2 d3
    refine wp_region_bw (by kernel_rfl) (by kernel_rfl) ?_
    repeat (go_big_quiet_step (fail))
    refine wpQuiet_nil ?_
    rintro _ ⟨i, rfl⟩
    go_wp2_with fail
    go_ret2
    exact ⟨by simp [turnX, turnY], below2 hb i.h⟩
  · skip
    have c0 := hG.tu.cell (8) rfl
    have c1 := hG.tu.cell (8 + 1) rfl
    have c2 := hG.tu.cell (8 + 2) rfl
    have c3 := hG.tu.cell (8 + 3) rfl
    go_enter Tryd.func60, Tryd.ntmps60
    go_wp2_with fail
    generalize hW : World.alloc w _ = W
    have hb : Below w.heap.size w W := by rw [← hW]; exact bal w _
    have bW : Blk W w.heap.size [iV (-1), iV (0), iV (0), iV (-1)] 120 := by rw [← hW]; exact Blk.newA w _ rfl
    have d0 := bW.cell 0 rfl
    have d1 := bW.cell 1 rfl
    have d2 := bW.cell 2 rfl
    have d3 := bW.cell 3 rfl
    have D0 := bwc d0
    have D1 := bwc d1
    have D2 := bwc d2
    have D3 := bwc d3
    clear hW c0 c1 c2 c3 d0 d1 d2 d3
    refine wp_region_bw (by kernel_rfl) (by kernel_rfl) ?_
    repeat (go_big_quiet_step (fail))
    refine wpQuiet_nil ?_
    rintro _ ⟨i, rfl⟩
    go_wp2_with fail
    go_ret2
    exact ⟨by simp [turnX, turnY], below2 hb i.h⟩
  · skip
    have c0 := hG.tu.cell (12) rfl
    have c1 := hG.tu.cell (12 + 1) rfl
    have c2 := hG.tu.cell (12 + 2) rfl
    have c3 := hG.tu.cell (12 + 3) rfl
    go_enter Tryd.func60, Tryd.ntmps60
    go_wp2_with fail
    generalize hW : World.alloc w _ = W
    have hb : Below w.heap.size w W := by rw [← hW]; exact bal w _
    have bW : Blk W w.heap.size [iV (0), iV (1), iV (-1), iV (0)] 120 := by rw [← hW]; exact Blk.newA w _ rfl
    have d0 := bW.cell 0 rfl
    have d1 := bW.cell 1 rfl
    have d2 := bW.cell 2 rfl
    have d3 := bW.cell 3 rfl
    have D0 := bwc d0
    have D1 := bwc d1
    have D2 := bwc d2
    have D3 := bwc d3
    clear hW c0 c1 c2 c3 d0 d1 d2 d3
    refine wp_region_bw (by kernel_rfl) (by kernel_rfl) ?_
    repeat (go_big_quiet_step (fail))
    refine wpQuiet_nil ?_
    rintro _ ⟨i, rfl⟩
    go_wp2_with fail
    go_ret2
    exact ⟨by simp [turnX, turnY], below2 hb i.h⟩
theorem mot_parts (m : MotD) : motOk m = (isInN 0 m.turn 3 && isInN (-5000) m.dx 5000 && isInN (-5000) m.dy 5000) := by
  rw [Bool.eq_iff_iff, mot_iff]; simp [isInN, and_assoc]
set_option maxRecDepth 20000 in
set_option maxHeartbeats 1000000 in
theorem ismot_any (m : MotD) (w : World) : Calls Tryd.prog 45 #[motV m] w (Ret (.bool (motOk m)) w) := by
  have HF := hide (mot_parts m)
  obtain ⟨t, x, y⟩ := m
  dsimp only at HF
  go_enter Tryd.func45, Tryd.ntmps45
  go_wp2_with fail
  generalize hX1 : World.alloc w _ = X1
  have zX1 : X1.heap.size = w.heap.size + 1 := by rw [← hX1]; simp
  have bX1 : Below w.heap.size w X1 := by rw [← hX1]; exact bal w _
  have bA : Blk X1 (w.heap.size) [iV t, iV x, iV y] 32 := by rw [← hX1]; exact Blk.newA w _ (by first | rfl | simp)
  have Xb := bX1
  have Xz := zX1
  clear hX1 zX1 bX1
  cases h1 : isInN 0 t 3
  · refine (risIn_any _ _ _ _).mono ?_
    rw [h1]
    rintro e w1 ⟨rfl, hw1⟩
    go_wp2_with fail
    go_ret
    exact ⟨ret_bool (by rw [HF.out, h1]; rfl), below2 Xb hw1⟩
  · refine (risIn_any _ _ _ _).mono ?_
    rw [h1]
    rintro e w1 ⟨rfl, hw1⟩
    have c1 := (bA.later hw1).cell 1 rfl
    go_wp2_with fail
    cases h2 : isInN (-5000) x 5000
    · refine (risIn_any _ _ _ _).mono ?_
      rw [h2]
      rintro e w2 ⟨rfl, hw2⟩
      go_wp2_with fail
      go_ret
      exact ⟨ret_bool (by rw [HF.out, h1, h2]; rfl), below2 Xb (below2 hw1 hw2)⟩
    · refine (risIn_any _ _ _ _).mono ?_
      rw [h2]
      rintro e w2 ⟨rfl, hw2⟩
      have c2 := (bA.later (below2 hw1 hw2)).cell 2 rfl
      go_wp2_with fail
      cases h3 : isInN (-5000) y 5000
      all_goals
        refine (risIn_any _ _ _ _).mono ?_
        rw [h3]
        rintro e w3 ⟨rfl, hw3⟩
        go_wp2_with fail
        go_ret
        exact ⟨ret_bool (by rw [HF.out, h1, h2, h3]; rfl), below2 Xb (below2 hw1 (below2 hw2 hw3))⟩
def inShift (x : Int) : Bool := isInN (-5000) x 5000
def applyX (m : MotD) (x y : Int) : Int := if motOk m && inShift x && inShift y then appX m x y else 0
def applyY (m : MotD) (x y : Int) : Int := if motOk m && inShift x && inShift y then appY m x y else 0
theorem ap_no {m : MotD} {x y : Int} (h : (motOk m && inShift x && inShift y) = false) : Ending.returned (.tuple #[iV 0, iV 0]) = .returned (.tuple #[iV (applyX m x y), iV (applyY m x y)]) := by
  unfold applyX applyY; rw [h]; rfl
theorem ap_yes {m : MotD} {x y : Int} (h : (motOk m && inShift x && inShift y) = true) : Ending.returned (.tuple #[iV (appX m x y), iV (appY m x y)]) = .returned (.tuple #[iV (applyX m x y), iV (applyY m x y)]) := by
  unfold applyX applyY; rw [h]; rfl
set_option maxRecDepth 20000 in
set_option maxHeartbeats 1000000 in
theorem apply_any (m : MotD) (x y : Int) (w : World) (hG : Glob w) : Calls Tryd.prog 28 #[motV m, iV x, iV y] w (Ret (.tuple #[iV (applyX m x y), iV (applyY m x y)]) w) := by
  have HN := hide (@ap_no m x y)
  have HY := hide (@ap_yes m x y)
  go_enter Tryd.func28, Tryd.ntmps28
  go_wp2_with fail
  generalize hX1 : World.alloc w _ = X1
  have zX1 : X1.heap.size = w.heap.size + 1 := by rw [← hX1]; simp
  have bX1 : Below w.heap.size w X1 := by rw [← hX1]; exact bal w _
  have bA : Blk X1 (w.heap.size) [iV m.turn, iV m.dx, iV m.dy] 32 := by rw [← hX1]; exact Blk.newA w _ (by first | rfl | simp)
  have Xb := bX1
  have Xz := zX1
  clear hX1 zX1 bX1
  have hX1 := hG.later Xb
  cases h1 : motOk m
  · refine (ismot_any m _).mono ?_
    rw [h1]
    rintro e w1 ⟨rfl, hw1⟩
    go_wp2_with fail
    go_ret2
    exact ⟨HN.out (by rw [h1]; rfl), below2 Xb hw1⟩
  · refine (ismot_any m _).mono ?_
    rw [h1]
    rintro e w1 ⟨rfl, hw1⟩
    go_wp2_with fail
    cases h2 : isInN (-5000) x 5000
    · refine (risIn_any _ _ _ _).mono ?_
      rw [h2]
      rintro e w2 ⟨rfl, hw2⟩
      go_wp2_with fail
      go_ret2
      exact ⟨HN.out (by rw [h1, inShift, h2]; rfl), below2 Xb (below2 hw1 hw2)⟩
    · refine (risIn_any _ _ _ _).mono ?_
      rw [h2]
      rintro e w2 ⟨rfl, hw2⟩
      go_wp2_with fail
      cases h3 : isInN (-5000) y 5000
      · refine (risIn_any _ _ _ _).mono ?_
        rw [h3]
        rintro e w3 ⟨rfl, hw3⟩
        go_wp2_with fail
        go_ret2
        exact ⟨HN.out (by rw [h1, inShift, h2, inShift, h3]; rfl), below2 Xb (below2 hw1 (below2 hw2 hw3))⟩
      · refine (risIn_any _ _ _ _).mono ?_
        rw [h3]
        rintro e w3 ⟨rfl, hw3⟩
        have b3 := below2 hw1 (below2 hw2 hw3)
        have bA3 := bA.later b3
        have c0 := bA3.cell 0 rfl
        have hy := (mot_iff m).1 h1
        have hx2 : -5000 ≤ x ∧ x ≤ 5000 := by simpa [isInN] using h2
        have hy2 : -5000 ≤ y ∧ y ≤ 5000 := by simpa [isInN] using h3
        have HO := hide (HY.out (by rw [h1, inShift, h2, inShift, h3]; rfl))
        have hT := turned_any m.turn.toNat x y w3 (by omega) ⟨by omega, by omega⟩ ⟨by omega, by omega⟩ (hX1.later b3)
        have e0 : (m.turn.toNat : Int) = m.turn := by omega
        rw [e0] at hT
        have htb := turn_bd m.turn.toNat x y 5000 hx2 hy2
        unfold appX appY at HO
        generalize turnX m.turn.toNat x y = tx at *
        generalize turnY m.turn.toNat x y = ty at *
        obtain ⟨t, dx, dy⟩ := m
        dsimp only at *
        have HT := hide hT
        clear hT e0 HN HY h1 h2 h3
        go_wp2_with fail
        refine HT.out.mono ?_
        rintro e w4 ⟨rfl, hw4⟩
        have bA4 := bA3.later hw4
        have c1 := bA4.cell 1 rfl
        have c2 := bA4.cell 2 rfl
        have C1 := bwc c1
        have C2 := bwc c2
        go_wp2_with fail
        refine wp_region_bw (by kernel_rfl) (by kernel_rfl) ?_
        repeat (go_big_quiet_step (fail))
        refine wpQuiet_nil ?_
        rintro _ ⟨i, rfl⟩
        go_wp2_with fail
        go_ret2
        exact ⟨HO.out, below2 Xb (below2 b3 (below2 hw4 i.h))⟩
end Go.Proofs.YtoofkahklboojaaDoor
