/- Register: walks of fit and of what it folds. Conditions: how the arguments and the global tables lie in memory; that the points are valid. -/
import Derived.Test.YtoofkahklboojaaDoorRkD
namespace Go.Proofs.YtoofkahklboojaaDoor
open Go.RowKit

theorem BoxG.gblk {w X : World} {R : Nat} {t : TypeId} {l0 l1 : List Value} {d : Bool} {W : World} (h : BoxG w X R t l0 l1 d W) {b : Nat} {vs : List Value} (hB : GBlk X b vs) (hn : b ≠ R) : GBlk W b vs := by
  have hl := hB.lt
  obtain ⟨t', m, hB⟩ := hB
  exact ⟨t', m, (h.hE.block b hl hn).trans hB⟩
abbrev pairV (r : DotD × DotD) : Value := .agg #[iV r.1.id, iV r.1.x, iV r.1.y, iV r.1.tol, iV r.2.id, iV r.2.x, iV r.2.y, iV r.2.tol]
def boxC (b : BoxD) : List Value := [iV b.xl, iV b.xh, iV b.yl, iV b.yh]
set_option maxRecDepth 20000 in
set_option maxHeartbeats 1000000 in
theorem fit1_any (b : BoxD) (r : DotD × DotD) (k Kb : Nat) (w : World) (hk : k ≤ 3) (hp : dotOk r.1 = true) (hq : dotOk r.2 = true) (hG0 : Glob w) (hK : w.cell? ⟨Kb, 0, none⟩ = some (iV k)) :
    Calls Tryd.prog 64 #[boxV b, pairV r, .pointer (some ⟨Kb, 0, none⟩)] w (Ret (boxV (meetD b (shiftD k r.1 r.2))) w) := by
  have HS := hide (fun W (hG : Glob W) => shifts_any k r.1 r.2 W hk hp hq hG)
  have HM := hide (fun W => meet_any b (shiftD k r.1 r.2) W)
  generalize meetD b (shiftD k r.1 r.2) = R at *
  generalize shiftD k r.1 r.2 = S at *
  obtain ⟨xl, xh, yl, yh⟩ := b
  obtain ⟨⟨pi, px, py, pt⟩, qi, qx, qy, qt⟩ := r
  obtain ⟨sl, sh, tl, th⟩ := S
  obtain ⟨ul, uh, vl, vh⟩ := R
  dsimp only at HS HM
  clear hp hq
  go_enter Tryd.func64, Tryd.ntmps64
  go_wp2_with fail
  generalize hX1 : World.alloc w _ = X1
  have zX1 : X1.heap.size = w.heap.size + 1 := by rw [← hX1]; simp
  have bX1 : Below w.heap.size w X1 := by rw [← hX1]; exact bal w _
  have bA_1 : Blk X1 (w.heap.size) [iV xl, iV xh, iV yl, iV yh] 80 := by rw [← hX1]; exact Blk.newA w _ (by first | rfl | simp)
  generalize hX2 : World.alloc X1 _ = X2
  have zX2 : X2.heap.size = w.heap.size + 1 + 1 := by rw [← hX2]; simp [zX1]
  have bX2 : Below X1.heap.size X1 X2 := by rw [← hX2]; exact bal X1 _
  have bB_2 : Blk X2 (w.heap.size + 1) [iV pi, iV px, iV py, iV pt, iV qi, iV qx, iV qy, iV qt] 86 := by rw [← hX2, ← zX1]; exact Blk.newA X1 _ (by first | rfl | simp)
  have bA_2 := bA_1.later bX2
  generalize hX3 : World.alloc X2 _ = X3
  have zX3 : X3.heap.size = w.heap.size + 1 + 1 + 1 := by rw [← hX3]; simp [zX2]
  have bX3 : Below X2.heap.size X2 X3 := by rw [← hX3]; exact bal X2 _
  have bR : Blk X3 (w.heap.size + 1 + 1) [iV 0, iV 0, iV 0, iV 0] 80 := by rw [← hX3, ← zX2]; exact Blk.newA X2 _ (by first | rfl | simp)
  have bA := bA_2.later bX3
  have bB := bB_2.later bX3
  have Xb := below2 (below2 (bX1) bX2) bX3
  have Xz := zX3
  clear hX1 zX1 bX1 hX2 zX2 bX2 hX3 zX3 bX3 bA_1 bA_2 bB_2
  have hK3 := keep Xb hK
  have hlK := lt_of_cell hK
  have hG3 := hG0.later Xb
  have hne := hide (And.intro (show w.heap.size ≠ w.heap.size + 1 + 1 by omega) (And.intro (show w.heap.size + 1 ≠ w.heap.size + 1 + 1 by omega) (show Kb ≠ w.heap.size + 1 + 1 by have := lt_of_cell hK; dsimp only at this; omega)))
  have hGE : Hid (1 ≠ w.heap.size + 1 + 1 ∧ 0 ≠ w.heap.size + 1 + 1) := hide ⟨by have := hG0.tu.lt; omega, by have := hG0.ev.lt; omega⟩
  clear hK
  refine wp_region_inv [some 6, some 7, some 8, some 9, some 10, some 11, some 12, some 13, none] (fun L vs W => match vs with | [x0, x1, x2, x3, x4, x5, x6, x7, x8] => (BoxG w X3 (w.heap.size + 1 + 1) 80 [iV 0, iV 0, iV 0, iV 0] [iV ul, iV uh, iV vl, iV vh] (L 8) W) ∧ (L 0 = true → x0 = boxV ⟨xl, xh, yl, yh⟩) ∧ (L 1 = true → x1 = iV k) ∧ (L 2 = true → x2 = .pointer (some ⟨w.heap.size + 1, 0, none⟩)) ∧ (L 3 = true → x3 = dotV ⟨pi, px, py, pt⟩) ∧ (L 4 = true → x4 = .pointer (some ⟨w.heap.size + 1, 4, none⟩)) ∧ (L 5 = true → x5 = dotV ⟨qi, qx, qy, qt⟩) ∧ (L 6 = true → x6 = boxV ⟨sl, sh, tl, th⟩) ∧ (L 7 = true → x7 = boxV ⟨ul, uh, vl, vh⟩) ∧ (L 8 = true → True) | _ => False) [_, _, _, _, _, _, _, _, undef] (by kernel_rfl) (by kernel_rfl) rfl (by simp only [puts, Act.put, List.setIfInBounds_toArray, List.set_cons_zero, List.set_cons_succ] <;> rfl) ?_ ?_ ?_
  · exact ⟨BoxG.first Xb bR, (fun h => by cases h), (fun h => by cases h), (fun h => by cases h), (fun h => by cases h), (fun h => by cases h), (fun h => by cases h), (fun h => by cases h), (fun h => by cases h), (fun h => by cases h)⟩
  · refine ⟨?_, ?_, ?_, ?_, ?_, ?_, ?_, ?_, ?_, trivial⟩
    · intro L vs W hlen hL hD hI K hK
      obtain ⟨x0, x1, x2, x3, x4, x5, x6, x7, x8, rfl⟩ := len9 hlen
      have hG := hI.1
      replace hI := hI.2
      have f0 := hide hI.1
      replace hI := hI.2
      have f1 := hide hI.1
      replace hI := hI.2
      have f2 := hide hI.1
      replace hI := hI.2
      have f3 := hide hI.1
      replace hI := hI.2
      have f4 := hide hI.1
      replace hI := hI.2
      have f5 := hide hI.1
      replace hI := hI.2
      have f6 := hide hI.1
      replace hI := hI.2
      have f7 := hide hI.1
      replace hI := hI.2
      have f8 := hide hI
      clear hI
      have bA' := hG.blk bA hne.out.1
      have bB' := hG.blk bB hne.out.2.1
      have k0 := hG.cell (a := ⟨Kb, 0, none⟩) hne.out.2.2 hK3
      have a0 := bA'.cell 0 rfl
      have a1 := bA'.cell 1 rfl
      have a2 := bA'.cell 2 rfl
      have a3 := bA'.cell 3 rfl
      have b0 := bB'.cell 0 rfl
      have b1 := bB'.cell 1 rfl
      have b2 := bB'.cell 2 rfl
      have b3 := bB'.cell 3 rfl
      have b4 := bB'.cell 4 rfl
      have b5 := bB'.cell 5 rfl
      have b6 := bB'.cell 6 rfl
      have b7 := bB'.cell 7 rfl
      try simp only [puts, Act.put, List.setIfInBounds_toArray, List.set_cons_zero, List.set_cons_succ]
      try go_simp
      exact hK.out _ _ _ (by simp only [puts, Act.put, List.setIfInBounds_toArray, List.set_cons_zero, List.set_cons_succ] <;> rfl) ⟨hG, (fun _ => rfl), (fun h => f1.out h), (fun h => f2.out h), (fun h => f3.out h), (fun h => f4.out h), (fun h => f5.out h), (fun h => f6.out h), (fun h => f7.out h), (fun h => f8.out h)⟩
    · intro L vs W hlen hL hD hI K hK
      obtain ⟨x0, x1, x2, x3, x4, x5, x6, x7, x8, rfl⟩ := len9 hlen
      have hG := hI.1
      replace hI := hI.2
      have f0 := hide hI.1
      replace hI := hI.2
      have f1 := hide hI.1
      replace hI := hI.2
      have f2 := hide hI.1
      replace hI := hI.2
      have f3 := hide hI.1
      replace hI := hI.2
      have f4 := hide hI.1
      replace hI := hI.2
      have f5 := hide hI.1
      replace hI := hI.2
      have f6 := hide hI.1
      replace hI := hI.2
      have f7 := hide hI.1
      replace hI := hI.2
      have f8 := hide hI
      clear hI
      have bA' := hG.blk bA hne.out.1
      have bB' := hG.blk bB hne.out.2.1
      have k0 := hG.cell (a := ⟨Kb, 0, none⟩) hne.out.2.2 hK3
      have a0 := bA'.cell 0 rfl
      have a1 := bA'.cell 1 rfl
      have a2 := bA'.cell 2 rfl
      have a3 := bA'.cell 3 rfl
      have b0 := bB'.cell 0 rfl
      have b1 := bB'.cell 1 rfl
      have b2 := bB'.cell 2 rfl
      have b3 := bB'.cell 3 rfl
      have b4 := bB'.cell 4 rfl
      have b5 := bB'.cell 5 rfl
      have b6 := bB'.cell 6 rfl
      have b7 := bB'.cell 7 rfl
      try simp only [puts, Act.put, List.setIfInBounds_toArray, List.set_cons_zero, List.set_cons_succ]
      try go_simp
      exact hK.out _ _ _ (by simp only [puts, Act.put, List.setIfInBounds_toArray, List.set_cons_zero, List.set_cons_succ] <;> rfl) ⟨hG, (fun h => f0.out h), (fun _ => rfl), (fun h => f2.out h), (fun h => f3.out h), (fun h => f4.out h), (fun h => f5.out h), (fun h => f6.out h), (fun h => f7.out h), (fun h => f8.out h)⟩
    · intro L vs W hlen hL hD hI K hK
      obtain ⟨x0, x1, x2, x3, x4, x5, x6, x7, x8, rfl⟩ := len9 hlen
      have hG := hI.1
      replace hI := hI.2
      have f0 := hide hI.1
      replace hI := hI.2
      have f1 := hide hI.1
      replace hI := hI.2
      have f2 := hide hI.1
      replace hI := hI.2
      have f3 := hide hI.1
      replace hI := hI.2
      have f4 := hide hI.1
      replace hI := hI.2
      have f5 := hide hI.1
      replace hI := hI.2
      have f6 := hide hI.1
      replace hI := hI.2
      have f7 := hide hI.1
      replace hI := hI.2
      have f8 := hide hI
      clear hI
      have bA' := hG.blk bA hne.out.1
      have bB' := hG.blk bB hne.out.2.1
      have k0 := hG.cell (a := ⟨Kb, 0, none⟩) hne.out.2.2 hK3
      have a0 := bA'.cell 0 rfl
      have a1 := bA'.cell 1 rfl
      have a2 := bA'.cell 2 rfl
      have a3 := bA'.cell 3 rfl
      have b0 := bB'.cell 0 rfl
      have b1 := bB'.cell 1 rfl
      have b2 := bB'.cell 2 rfl
      have b3 := bB'.cell 3 rfl
      have b4 := bB'.cell 4 rfl
      have b5 := bB'.cell 5 rfl
      have b6 := bB'.cell 6 rfl
      have b7 := bB'.cell 7 rfl
      try simp only [puts, Act.put, List.setIfInBounds_toArray, List.set_cons_zero, List.set_cons_succ]
      try go_simp
      exact hK.out _ _ _ (by simp only [puts, Act.put, List.setIfInBounds_toArray, List.set_cons_zero, List.set_cons_succ] <;> rfl) ⟨hG, (fun h => f0.out h), (fun h => f1.out h), (fun _ => rfl), (fun h => f3.out h), (fun h => f4.out h), (fun h => f5.out h), (fun h => f6.out h), (fun h => f7.out h), (fun h => f8.out h)⟩
    · intro L vs W hlen hL hD hI K hK
      obtain ⟨x0, x1, x2, x3, x4, x5, x6, x7, x8, rfl⟩ := len9 hlen
      have hG := hI.1
      replace hI := hI.2
      have f0 := hide hI.1
      replace hI := hI.2
      have f1 := hide hI.1
      replace hI := hI.2
      have f2 := hide hI.1
      replace hI := hI.2
      have f3 := hide hI.1
      replace hI := hI.2
      have f4 := hide hI.1
      replace hI := hI.2
      have f5 := hide hI.1
      replace hI := hI.2
      have f6 := hide hI.1
      replace hI := hI.2
      have f7 := hide hI.1
      replace hI := hI.2
      have f8 := hide hI
      clear hI
      have bA' := hG.blk bA hne.out.1
      have bB' := hG.blk bB hne.out.2.1
      have k0 := hG.cell (a := ⟨Kb, 0, none⟩) hne.out.2.2 hK3
      have a0 := bA'.cell 0 rfl
      have a1 := bA'.cell 1 rfl
      have a2 := bA'.cell 2 rfl
      have a3 := bA'.cell 3 rfl
      have b0 := bB'.cell 0 rfl
      have b1 := bB'.cell 1 rfl
      have b2 := bB'.cell 2 rfl
      have b3 := bB'.cell 3 rfl
      have b4 := bB'.cell 4 rfl
      have b5 := bB'.cell 5 rfl
      have b6 := bB'.cell 6 rfl
      have b7 := bB'.cell 7 rfl
      obtain rfl := f2.out (hD.on 2 (by kernel_rfl))
      try simp only [puts, Act.put, List.setIfInBounds_toArray, List.set_cons_zero, List.set_cons_succ]
      try go_simp
      exact hK.out _ _ _ (by simp only [puts, Act.put, List.setIfInBounds_toArray, List.set_cons_zero, List.set_cons_succ] <;> rfl) ⟨hG, (fun h => f0.out h), (fun h => f1.out h), (fun h => f2.out h), (fun _ => rfl), (fun h => f4.out h), (fun h => f5.out h), (fun h => f6.out h), (fun h => f7.out h), (fun h => f8.out h)⟩
    · intro L vs W hlen hL hD hI K hK
      obtain ⟨x0, x1, x2, x3, x4, x5, x6, x7, x8, rfl⟩ := len9 hlen
      have hG := hI.1
      replace hI := hI.2
      have f0 := hide hI.1
      replace hI := hI.2
      have f1 := hide hI.1
      replace hI := hI.2
      have f2 := hide hI.1
      replace hI := hI.2
      have f3 := hide hI.1
      replace hI := hI.2
      have f4 := hide hI.1
      replace hI := hI.2
      have f5 := hide hI.1
      replace hI := hI.2
      have f6 := hide hI.1
      replace hI := hI.2
      have f7 := hide hI.1
      replace hI := hI.2
      have f8 := hide hI
      clear hI
      have bA' := hG.blk bA hne.out.1
      have bB' := hG.blk bB hne.out.2.1
      have k0 := hG.cell (a := ⟨Kb, 0, none⟩) hne.out.2.2 hK3
      have a0 := bA'.cell 0 rfl
      have a1 := bA'.cell 1 rfl
      have a2 := bA'.cell 2 rfl
      have a3 := bA'.cell 3 rfl
      have b0 := bB'.cell 0 rfl
      have b1 := bB'.cell 1 rfl
      have b2 := bB'.cell 2 rfl
      have b3 := bB'.cell 3 rfl
      have b4 := bB'.cell 4 rfl
      have b5 := bB'.cell 5 rfl
      have b6 := bB'.cell 6 rfl
      have b7 := bB'.cell 7 rfl
      try simp only [puts, Act.put, List.setIfInBounds_toArray, List.set_cons_zero, List.set_cons_succ]
      try go_simp
      exact hK.out _ _ _ (by simp only [puts, Act.put, List.setIfInBounds_toArray, List.set_cons_zero, List.set_cons_succ] <;> rfl) ⟨hG, (fun h => f0.out h), (fun h => f1.out h), (fun h => f2.out h), (fun h => f3.out h), (fun _ => rfl), (fun h => f5.out h), (fun h => f6.out h), (fun h => f7.out h), (fun h => f8.out h)⟩
    · intro L vs W hlen hL hD hI K hK
      obtain ⟨x0, x1, x2, x3, x4, x5, x6, x7, x8, rfl⟩ := len9 hlen
      have hG := hI.1
      replace hI := hI.2
      have f0 := hide hI.1
      replace hI := hI.2
      have f1 := hide hI.1
      replace hI := hI.2
      have f2 := hide hI.1
      replace hI := hI.2
      have f3 := hide hI.1
      replace hI := hI.2
      have f4 := hide hI.1
      replace hI := hI.2
      have f5 := hide hI.1
      replace hI := hI.2
      have f6 := hide hI.1
      replace hI := hI.2
      have f7 := hide hI.1
      replace hI := hI.2
      have f8 := hide hI
      clear hI
      have bA' := hG.blk bA hne.out.1
      have bB' := hG.blk bB hne.out.2.1
      have k0 := hG.cell (a := ⟨Kb, 0, none⟩) hne.out.2.2 hK3
      have a0 := bA'.cell 0 rfl
      have a1 := bA'.cell 1 rfl
      have a2 := bA'.cell 2 rfl
      have a3 := bA'.cell 3 rfl
      have b0 := bB'.cell 0 rfl
      have b1 := bB'.cell 1 rfl
      have b2 := bB'.cell 2 rfl
      have b3 := bB'.cell 3 rfl
      have b4 := bB'.cell 4 rfl
      have b5 := bB'.cell 5 rfl
      have b6 := bB'.cell 6 rfl
      have b7 := bB'.cell 7 rfl
      obtain rfl := f4.out (hD.on 4 (by kernel_rfl))
      try simp only [puts, Act.put, List.setIfInBounds_toArray, List.set_cons_zero, List.set_cons_succ]
      try go_simp
      exact hK.out _ _ _ (by simp only [puts, Act.put, List.setIfInBounds_toArray, List.set_cons_zero, List.set_cons_succ] <;> rfl) ⟨hG, (fun h => f0.out h), (fun h => f1.out h), (fun h => f2.out h), (fun h => f3.out h), (fun h => f4.out h), (fun _ => rfl), (fun h => f6.out h), (fun h => f7.out h), (fun h => f8.out h)⟩
    · intro L vs W hlen hL hD hI K hK
      obtain ⟨x0, x1, x2, x3, x4, x5, x6, x7, x8, rfl⟩ := len9 hlen
      have hG := hI.1
      replace hI := hI.2
      have f0 := hide hI.1
      replace hI := hI.2
      have f1 := hide hI.1
      replace hI := hI.2
      have f2 := hide hI.1
      replace hI := hI.2
      have f3 := hide hI.1
      replace hI := hI.2
      have f4 := hide hI.1
      replace hI := hI.2
      have f5 := hide hI.1
      replace hI := hI.2
      have f6 := hide hI.1
      replace hI := hI.2
      have f7 := hide hI.1
      replace hI := hI.2
      have f8 := hide hI
      clear hI
      have bA' := hG.blk bA hne.out.1
      have bB' := hG.blk bB hne.out.2.1
      have k0 := hG.cell (a := ⟨Kb, 0, none⟩) hne.out.2.2 hK3
      have a0 := bA'.cell 0 rfl
      have a1 := bA'.cell 1 rfl
      have a2 := bA'.cell 2 rfl
      have a3 := bA'.cell 3 rfl
      have b0 := bB'.cell 0 rfl
      have b1 := bB'.cell 1 rfl
      have b2 := bB'.cell 2 rfl
      have b3 := bB'.cell 3 rfl
      have b4 := bB'.cell 4 rfl
      have b5 := bB'.cell 5 rfl
      have b6 := bB'.cell 6 rfl
      have b7 := bB'.cell 7 rfl
      obtain rfl := f1.out (hD.on 1 (by kernel_rfl))
      obtain rfl := f3.out (hD.on 3 (by kernel_rfl))
      obtain rfl := f5.out (hD.on 5 (by kernel_rfl))
      try simp only [puts, Act.put, List.setIfInBounds_toArray, List.set_cons_zero, List.set_cons_succ]
      try go_simp
      refine (HS.out _ ⟨hG.gblk hG3.ev hGE.out.2, hG.gblk hG3.tu hGE.out.1⟩).mono ?_
      rintro e W' ⟨rfl, hb⟩
      try go_simp
      exact hK.out _ _ _ (by simp only [puts, Act.put, List.setIfInBounds_toArray, List.set_cons_zero, List.set_cons_succ] <;> rfl) ⟨hG.later hb, (fun h => f0.out h), (fun h => f1.out h), (fun h => f2.out h), (fun h => f3.out h), (fun h => f4.out h), (fun h => f5.out h), (fun _ => rfl), (fun h => f7.out h), (fun h => f8.out h)⟩
    · intro L vs W hlen hL hD hI K hK
      obtain ⟨x0, x1, x2, x3, x4, x5, x6, x7, x8, rfl⟩ := len9 hlen
      have hG := hI.1
      replace hI := hI.2
      have f0 := hide hI.1
      replace hI := hI.2
      have f1 := hide hI.1
      replace hI := hI.2
      have f2 := hide hI.1
      replace hI := hI.2
      have f3 := hide hI.1
      replace hI := hI.2
      have f4 := hide hI.1
      replace hI := hI.2
      have f5 := hide hI.1
      replace hI := hI.2
      have f6 := hide hI.1
      replace hI := hI.2
      have f7 := hide hI.1
      replace hI := hI.2
      have f8 := hide hI
      clear hI
      have bA' := hG.blk bA hne.out.1
      have bB' := hG.blk bB hne.out.2.1
      have k0 := hG.cell (a := ⟨Kb, 0, none⟩) hne.out.2.2 hK3
      have a0 := bA'.cell 0 rfl
      have a1 := bA'.cell 1 rfl
      have a2 := bA'.cell 2 rfl
      have a3 := bA'.cell 3 rfl
      have b0 := bB'.cell 0 rfl
      have b1 := bB'.cell 1 rfl
      have b2 := bB'.cell 2 rfl
      have b3 := bB'.cell 3 rfl
      have b4 := bB'.cell 4 rfl
      have b5 := bB'.cell 5 rfl
      have b6 := bB'.cell 6 rfl
      have b7 := bB'.cell 7 rfl
      obtain rfl := f0.out (hD.on 0 (by kernel_rfl))
      obtain rfl := f6.out (hD.on 6 (by kernel_rfl))
      try simp only [puts, Act.put, List.setIfInBounds_toArray, List.set_cons_zero, List.set_cons_succ]
      try go_simp
      refine (HM.out _).mono ?_
      rintro e W' ⟨rfl, hb⟩
      try go_simp
      exact hK.out _ _ _ (by simp only [puts, Act.put, List.setIfInBounds_toArray, List.set_cons_zero, List.set_cons_succ] <;> rfl) ⟨hG.later hb, (fun h => f0.out h), (fun h => f1.out h), (fun h => f2.out h), (fun h => f3.out h), (fun h => f4.out h), (fun h => f5.out h), (fun h => f6.out h), (fun _ => rfl), (fun h => f8.out h)⟩
    · intro L vs W hlen hL hD hI K hK
      obtain ⟨x0, x1, x2, x3, x4, x5, x6, x7, x8, rfl⟩ := len9 hlen
      have hG := hI.1
      replace hI := hI.2
      have f0 := hide hI.1
      replace hI := hI.2
      have f1 := hide hI.1
      replace hI := hI.2
      have f2 := hide hI.1
      replace hI := hI.2
      have f3 := hide hI.1
      replace hI := hI.2
      have f4 := hide hI.1
      replace hI := hI.2
      have f5 := hide hI.1
      replace hI := hI.2
      have f6 := hide hI.1
      replace hI := hI.2
      have f7 := hide hI.1
      replace hI := hI.2
      have f8 := hide hI
      clear hI
      have bA' := hG.blk bA hne.out.1
      have bB' := hG.blk bB hne.out.2.1
      have k0 := hG.cell (a := ⟨Kb, 0, none⟩) hne.out.2.2 hK3
      have a0 := bA'.cell 0 rfl
      have a1 := bA'.cell 1 rfl
      have a2 := bA'.cell 2 rfl
      have a3 := bA'.cell 3 rfl
      have b0 := bB'.cell 0 rfl
      have b1 := bB'.cell 1 rfl
      have b2 := bB'.cell 2 rfl
      have b3 := bB'.cell 3 rfl
      have b4 := bB'.cell 4 rfl
      have b5 := bB'.cell 5 rfl
      have b6 := bB'.cell 6 rfl
      have b7 := bB'.cell 7 rfl
      obtain rfl := f7.out (hD.on 7 (by kernel_rfl))
      try simp only [puts, Act.put, List.setIfInBounds_toArray, List.set_cons_zero, List.set_cons_succ]
      rw [hL] at hG
      have g0 := hG.box.frozen 0
      have g1 := hG.box.frozen 1
      have g2 := hG.box.frozen 2
      have g3 := hG.box.frozen 3
      have r0 := hG.box.cell 0 rfl
      have r1 := hG.box.cell 1 rfl
      have r2 := hG.box.cell 2 rfl
      have r3 := hG.box.cell 3 rfl
      go_simp
      have hb := Below.refl W.heap.size W
      exact hK.out _ undef _ (by simp only [puts, Act.put, List.setIfInBounds_toArray, List.set_cons_zero, List.set_cons_succ] <;> rfl) ⟨hG.put4 (by omega), (fun h => f0.out h), (fun h => f1.out h), (fun h => f2.out h), (fun h => f3.out h), (fun h => f4.out h), (fun h => f5.out h), (fun h => f6.out h), (fun h => f7.out h), (fun _ => trivial)⟩
  intro L vs W hlen hall hI
  obtain ⟨x0, x1, x2, x3, x4, x5, x6, x7, x8, rfl⟩ := len9 hlen
  have hG := hI.1
  replace hI := hI.2
  have f0 := hide hI.1
  replace hI := hI.2
  have f1 := hide hI.1
  replace hI := hI.2
  have f2 := hide hI.1
  replace hI := hI.2
  have f3 := hide hI.1
  replace hI := hI.2
  have f4 := hide hI.1
  replace hI := hI.2
  have f5 := hide hI.1
  replace hI := hI.2
  have f6 := hide hI.1
  replace hI := hI.2
  have f7 := hide hI.1
  replace hI := hI.2
  have f8 := hide hI
  clear hI
  obtain rfl := f0.out (hall 0 (by decide))
  obtain rfl := f1.out (hall 1 (by decide))
  obtain rfl := f2.out (hall 2 (by decide))
  obtain rfl := f3.out (hall 3 (by decide))
  obtain rfl := f4.out (hall 4 (by decide))
  obtain rfl := f5.out (hall 5 (by decide))
  obtain rfl := f6.out (hall 6 (by decide))
  obtain rfl := f7.out (hall 7 (by decide))
  have hal := hide hall
  clear hall f0 f1 f2 f3 f4 f5 f6 f7 f8
  try simp only [puts, Act.put, List.setIfInBounds_toArray, List.set_cons_zero, List.set_cons_succ]
  rw [hal.out 8 (by decide)] at hG
  have bR' := hG.done
  go_wp2_with fail
  refine bodyPost_ret (results_cell_row (p := 5) rfl _ _ (w.heap.size + 1 + 1) _ _ _ _ rfl bR' Tryd.underlying80 rfl (by kernel_rfl)) rfl ?_
  exact ⟨rfl, hG.hb⟩
def foldK (l : List (DotD × DotD)) (k : Nat) (b : BoxD) : BoxD := l.foldl (fun b r => meetD b (shiftD k r.1 r.2)) b
theorem foldK_succ (l : List (DotD × DotD)) (k : Nat) (b : BoxD) (j : Nat) (hj : j < l.length) : foldK (l.take (j + 1)) k b = meetD (foldK (l.take j) k b) (shiftD k (l.getD j pair0).1 (l.getD j pair0).2) := by
  unfold foldK
  rw [take_succ' l j pair0 hj, List.foldl_append]; rfl
def DotsOk (l : List (DotD × DotD)) : Prop := ∀ r ∈ l, dotOk r.1 = true ∧ dotOk r.2 = true
set_option maxRecDepth 20000 in
set_option maxHeartbeats 2000000 in
theorem folded_any (b : BoxD) (l : List (DotD × DotD)) (v : Value) (k Kb : Nat) (w : World) (hv : PairsAt w v l) (hk : k ≤ 3) (hl : DotsOk l) (hG0 : Glob w) (hK : w.cell? ⟨Kb, 0, none⟩ = some (iV k)) :
    Calls Tryd.prog 63 #[boxV b, v, .func (.func 64) #[] #[.pointer (some ⟨Kb, 0, none⟩)]] w (Ret (boxV (foldK l k b)) w) := by
  obtain ⟨a, c, rfl, hlc, hcm, hc⟩ := hv
  have HC := hide hc
  have HL := hide hl
  clear hc hl
  obtain ⟨xl, xh, yl, yh⟩ := b
  go_enter Tryd.func63, Tryd.ntmps63
  go_wp2_with fail
  generalize hX1 : World.alloc w _ = X1
  have zX1 : X1.heap.size = w.heap.size + 1 := by rw [← hX1]; simp
  have bX1 : Below w.heap.size w X1 := by rw [← hX1]; exact bal w _
  have bA_1 : Blk X1 (w.heap.size) [iV xl, iV xh, iV yl, iV yh] 80 := by rw [← hX1]; exact Blk.newA w _ (by first | rfl | simp)
  generalize hX2 : World.alloc X1 _ = X2
  have zX2 : X2.heap.size = w.heap.size + 1 + 1 := by rw [← hX2]; simp [zX1]
  have bX2 : Below X1.heap.size X1 X2 := by rw [← hX2]; exact bal X1 _
  have bR : Blk X2 (w.heap.size + 1) [iV 0, iV 0, iV 0, iV 0] 80 := by rw [← hX2, ← zX1]; exact Blk.newA X1 _ (by first | rfl | simp)
  have bA := bA_1.later bX2
  have Xb := below2 (bX1) bX2
  have Xz := zX2
  clear hX1 zX1 bX1 hX2 zX2 bX2 bA_1
  have hlK := lt_of_cell hK
  go_loopw [11] (fun i wr => ∃ (j : Nat), j ≤ l.length ∧ i = .int .i64 j ∧ Blk wr w.heap.size (boxC (foldK (l.take j) k ⟨xl, xh, yl, yh⟩)) 80 ∧ Blk wr (w.heap.size + 1) [iV 0, iV 0, iV 0, iV 0] 80 ∧ Below w.heap.size w wr) (fun i _ => l.length - (intOf i).toNat)
  case atStart => exact ⟨0, by omega, rfl, bA, bR, Xb⟩
  case round =>
    obtain ⟨j, hj, rfl, bAj, bRj, hbr⟩ := hrel
    by_cases hlt : j < l.length
    · obtain ⟨bl, o, rfl, hck⟩ := HC.out j hlt
      have hr := HL.out _ (getD_mem l j (d := pair0) hlt)
      have HS := hide (foldK_succ l k ⟨xl, xh, yl, yh⟩ j hlt)
      generalize foldK (l.take j) k ⟨xl, xh, yl, yh⟩ = F at HS bAj
      have hf1 := hide (fun (W : World) hG hK => fit1_any F (l.getD j pair0) k Kb W hk hr.1 hr.2 hG hK)
      generalize l.getD j pair0 = p at hf1 HS hck
      generalize meetD F (shiftD k p.1 p.2) = F' at HS hf1
      obtain ⟨⟨pi, px, py, pt⟩, qi, qx, qy, qt⟩ := p
      obtain ⟨fl, fh, gl, gh⟩ := F
      obtain ⟨fl', fh', gl', gh'⟩ := F'
      have e0 : wr.cell? ⟨bl, o + j * 8, none⟩ = some (iV pi) := keep hbr (hck 0 _ rfl)
      have e1 : wr.cell? ⟨bl, o + j * 8 + 1, none⟩ = some (iV px) := keep hbr (hck 1 _ rfl)
      have e2 : wr.cell? ⟨bl, o + j * 8 + 2, none⟩ = some (iV py) := keep hbr (hck 2 _ rfl)
      have e3 : wr.cell? ⟨bl, o + j * 8 + 3, none⟩ = some (iV pt) := keep hbr (hck 3 _ rfl)
      have e4 : wr.cell? ⟨bl, o + j * 8 + 4, none⟩ = some (iV qi) := keep hbr (hck 4 _ rfl)
      have e5 : wr.cell? ⟨bl, o + j * 8 + 5, none⟩ = some (iV qx) := keep hbr (hck 5 _ rfl)
      have e6 : wr.cell? ⟨bl, o + j * 8 + 6, none⟩ = some (iV qy) := keep hbr (hck 6 _ rfl)
      have e7 : wr.cell? ⟨bl, o + j * 8 + 7, none⟩ = some (iV qt) := keep hbr (hck 7 _ rfl)
      have a0 := bAj.cell 0 rfl
      have a1 := bAj.cell 1 rfl
      have a2 := bAj.cell 2 rfl
      have a3 := bAj.cell 3 rfl
      have lA := bAj.lt
      try dsimp only at hf1
      clear hr hck
      go_wp2_with fail
      have hbX := bal wr (.cells #[iV pi, iV px, iV py, iV pt, iV qi, iV qx, iV qy, iV qt] 86)
      refine (hf1.out _ ((hG0.later hbr).later hbX) (keep hbX (keep hbr hK))).mono ?_
      rintro e w4 ⟨rfl, hb4⟩
      have hb5 := below2 hbX hb4
      have bA4 := bAj.later hb5
      have bR4 := bRj.later hb5
      clear a0 a1 a2 a3
      have g0 := bA4.frozen 0
      have g1 := bA4.frozen 1
      have g2 := bA4.frozen 2
      have g3 := bA4.frozen 3
      have a0 := bA4.cell 0 rfl
      have a1 := bA4.cell 1 rfl
      have a2 := bA4.cell 2 rfl
      have a3 := bA4.cell 3 rfl
      have hS := set4 bA4 (iV fl') (iV fh') (iV gl') (iV gh')
      have hO := (((bR4.other (c := w.heap.size) (by omega) 0 (iV fl')).other (c := w.heap.size) (by omega) 1 (iV fh')).other (c := w.heap.size) (by omega) 2 (iV gl')).other (c := w.heap.size) (by omega) 3 (iV gh')
      have HSet := hide (And.intro hS.1 (And.intro hO (hS.2.1 _ _ (below2 hbr hb5) (Nat.le_refl _))))
      clear hS hO
      go_wp2_with fail
      go_roundw
      case rel => exact ⟨j + 1, by omega, by go_num, by rw [HS.out]; exact HSet.out.1, HSet.out.2.1, HSet.out.2.2⟩
      case measure => simp [intOf]; omega
    · obtain rfl : j = l.length := by omega
      rw [List.take_length] at bAj
      generalize foldK l k ⟨xl, xh, yl, yh⟩ = F at *
      obtain ⟨fl, fh, gl, gh⟩ := F
      have g0 := bRj.frozen 0
      have g1 := bRj.frozen 1
      have g2 := bRj.frozen 2
      have g3 := bRj.frozen 3
      have r0 := bRj.cell 0 rfl
      have r1 := bRj.cell 1 rfl
      have r2 := bRj.cell 2 rfl
      have r3 := bRj.cell 3 rfl
      have a0 := bAj.cell 0 rfl
      have a1 := bAj.cell 1 rfl
      have a2 := bAj.cell 2 rfl
      have a3 := bAj.cell 3 rfl
      go_wp2_with fail
      have hS := set4 bRj (iV fl) (iV fh) (iV gl) (iV gh)
      refine bodyPost_ret (results_cell_row (p := 6) rfl _ _ (w.heap.size + 1) _ _ _ _ rfl hS.1 Tryd.underlying80 rfl (by kernel_rfl)) rfl ?_
      exact ⟨rfl, hS.2.1 _ _ hbr (by omega)⟩
set_option maxRecDepth 20000 in
set_option maxHeartbeats 1000000 in
theorem fit_any (l : List (DotD × DotD)) (v : Value) (k : Nat) (w : World) (hv : PairsAt w v l) (hk : k ≤ 3) (hl : DotsOk l) (hG : Glob w) :
    Calls Tryd.prog 37 #[v, iV k] w (Ret (boxV (fitD l k)) w) := by
  obtain ⟨a, c, rfl, -, -, -⟩ := id hv
  have hF := hide (fun (W : World) Kb hb hK => folded_any everyD l _ k Kb W (hv.below hb) hk hl (hG.later hb) hK)
  have e : foldK l k everyD = fitD l k := rfl
  rw [e] at hF
  generalize fitD l k = F at *
  obtain ⟨fl, fh, gl, gh⟩ := F
  clear e hl
  go_enter Tryd.func37, Tryd.ntmps37
  have g0 := hG.ev.cell 0 rfl
  have g1 := hG.ev.cell 1 rfl
  have g2 := hG.ev.cell 2 rfl
  have g3 := hG.ev.cell 3 rfl
  have lg := hG.ev.lt
  go_wp2_with fail
  generalize hX1 : World.alloc w _ = X1
  have zX1 : X1.heap.size = w.heap.size + 1 := by rw [← hX1]; simp
  have bX1 : Below w.heap.size w X1 := by rw [← hX1]; exact bal w _
  have bA_1 : Blk X1 (w.heap.size) [iV k] 3 := by rw [← hX1]; exact Blk.newA w _ (by first | rfl | simp)
  generalize hX2 : World.alloc X1 _ = X2
  have zX2 : X2.heap.size = w.heap.size + 1 + 1 := by rw [← hX2]; simp [zX1]
  have bX2 : Below X1.heap.size X1 X2 := by rw [← hX2]; exact bal X1 _
  have bR : Blk X2 (w.heap.size + 1) [iV 0, iV 0, iV 0, iV 0] 80 := by rw [← hX2, ← zX1]; exact Blk.newA X1 _ (by first | rfl | simp)
  have bA := bA_1.later bX2
  have Xb := below2 (bX1) bX2
  have Xz := zX2
  clear hX1 zX1 bX1 hX2 zX2 bX2 bA_1
  refine (hF.out _ _ Xb (bA.cell 0 rfl)).mono ?_
  rintro e w1 ⟨rfl, hb1⟩
  have bR1 := bR.later hb1
  clear g0 g1 g2 g3
  have g0 := bR1.frozen 0
  have g1 := bR1.frozen 1
  have g2 := bR1.frozen 2
  have g3 := bR1.frozen 3
  have r0 := bR1.cell 0 rfl
  have r1 := bR1.cell 1 rfl
  have r2 := bR1.cell 2 rfl
  have r3 := bR1.cell 3 rfl
  go_wp2_with fail
  have hS := set4 bR1 (iV fl) (iV fh) (iV gl) (iV gh)
  refine bodyPost_ret (results_cell_row (p := 4) rfl _ _ (w.heap.size + 1) _ _ _ _ rfl hS.1 Tryd.underlying80 rfl (by kernel_rfl)) rfl ?_
  exact ⟨rfl, hS.2.1 _ _ (below2 Xb hb1) (by omega)⟩
end Go.Proofs.YtoofkahklboojaaDoor
