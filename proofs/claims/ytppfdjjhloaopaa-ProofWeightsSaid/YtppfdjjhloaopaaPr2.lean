/- Walks of Undecided and Goal of the reference. Conditions: how the arguments lie in memory; sizes. -/
import Derived.Test.YtppfdjjhloaopaaPw11
import Derived.Test.YtppfdjjhloaopaaPmodJ
import Derived.RegionTactic
import Derived.ChangeAlike
import Derived.Laws.NewBlocks
import Derived.Test.YtppfdjjhloaopaaBlkB
import Derived.Test.YtppfdjjhloaopaaPw16
namespace Go.Proofs.Ytppfdjjhloaopaa
open Go.RowKit

set_option maxHeartbeats 1000000 in
theorem undecided_any (n : Nat) (rv gv : Value) (w : World) (hn : n ≤ 12) :
    Calls Try.prog 41 #[.agg #[.int .i64 n, rv, gv]] w (RetM (fun c v => IntsIn c v (List.replicate n (-1))) w) := by
  go_enter Try.func41, Try.ntmps41
  go_wp2_with fail
  generalize hW : World.alloc w _ = W0
  have hsz : W0.heap.size = w.heap.size + 1 := by rw [← hW]; simp
  have hb0 : Below w.heap.size w W0 := by rw [← hW]; exact bal w _
  have hP : Blk W0 w.heap.size [.int .i64 n, rv, gv] 27 := by rw [← hW]; exact Blk.new w _ _
  have hz1 : w.heap.size < W0.heap.size := by omega
  clear hW hsz
  go_loopw [3, 4] (fun s i wr => ∃ (k : Nat), k ≤ n ∧ i = .int .i64 k ∧ OwnI wr W0.heap.size s (List.replicate k (-1)) ∧ Below W0.heap.size W0 wr) (fun _ i _ => n - (intOf i).toNat)
  case atStart => exact ⟨0, by omega, rfl, OwnI.nil _ _, Below.refl _ _⟩
  case round =>
    obtain ⟨k, hk, rfl, hown, hbr⟩ := hrel
    have p0 := (hP.later hbr).cell 0 rfl
    by_cases hlt : k < n
    · go_wp2_with (at_builtin; refine app_int rfl _ _ rfl W0.heap.size _ _ rfl hown (-1) rfl (by simp; omega) hbr.size ?_; intro v' w4 hown4 hb4 hz4; rw [← List.replicate_succ'] at hown4)
      go_roundw
      case rel => exact ⟨k + 1, by omega, by go_num, hown4, hbr.trans hb4⟩
      case measure => simp [intOf]; omega
    · obtain rfl : k = n := by omega
      go_wp2_with fail
      go_ret
      exact ⟨_, rfl, hown.intsF hb0.size, below2 hb0 hbr⟩
/-- the first k numbers, negative, and noughts -/
def negs0 (l : List Int) (k : Nat) : List Int := negs l k ++ List.replicate (l.length - k) 0
theorem negs0_set {l : List Int} {k : Nat} (h : k < l.length) : (negs0 l k).set k (-(l.getD k 0)) = negs0 l (k + 1) := by
  have h1 := negs_len (l := l) (k := k) (by omega)
  unfold negs0
  rw [negs_succ h, show l.length - k = (l.length - (k + 1)) + 1 by omega, List.replicate_succ, List.set_append_right _ _ (by omega), h1]
  simp
theorem negs0_full (l : List Int) : negs0 l l.length = l.map fun x => -x := by simp [negs0, negs]
theorem negs0_nil (l : List Int) : negs0 l 0 = List.replicate l.length 0 := by simp [negs0, negs]
theorem negs0_len {l : List Int} {k : Nat} (h : k ≤ l.length) : (negs0 l k).length = l.length := by
  unfold negs0; rw [List.length_append, negs_len h, List.length_replicate]; omega
/-- the call returns the goal's row, its numbers in a new block -/
def GoalQ (gl : List Int) (g : Int) (w : World) (e : Ending) (w' : World) : Prop :=
  ∃ b : Nat, w.heap.size ≤ b ∧ e = .returned (rowV (goalF gl g) (.slice (some ⟨b, 0, none⟩) gl.length gl.length)) ∧ Blk w' b ((goalF gl g).coef.map (Value.int .i64)) 3 ∧ Below w.heap.size w w'
set_option maxHeartbeats 1000000 in
theorem goalr_any (n : Nat) (gl : List Int) (rv gv : Value) (g : Int) (w : World) (hg : IntsAt w gv gl) (hgl : gl.length ≤ 13) (hgc : coefsB gl = true) (hg1 : -100000000000 ≤ g) (hg2 : g ≤ 100000000000) :
    Calls Try.prog 35 #[.agg #[.int .i64 n, rv, gv], .int .i64 g] w (GoalQ gl g w) := by
  obtain ⟨a, c, rfl, hlc, hcm, hc⟩ := id hg
  have HB := hide hgc
  clear hgc
  have hmk := @mkInts gl.length (by omega)
  go_enter Try.func35, Try.ntmps35
  go_wp2_with fail
  generalize hX1 : World.alloc w _ = X1
  have zX1 : X1.heap.size = w.heap.size + 1 := by rw [← hX1]; simp
  have bX1 : Below w.heap.size w X1 := by rw [← hX1]; exact bal w _
  have kP_1 : Blk X1 (w.heap.size) [.int .i64 n, rv, .slice a gl.length c] 27 := by rw [← hX1]; exact Blk.newA w _ (by first | rfl | simp [negs0_nil])
  generalize hX2 : World.alloc X1 _ = X2
  have zX2 : X2.heap.size = w.heap.size + 1 + 1 := by rw [← hX2]; simp [zX1]
  have bX2 : Below X1.heap.size X1 X2 := by rw [← hX2]; exact bal X1 _
  have kR_2 : Blk X2 (w.heap.size + 1) [.int .i64 0, .int .i64 0, .int .i64 0, .int .i64 0, .slice none 0 0, .int .i64 0] 67 := by rw [← hX2, ← zX1]; exact Blk.newA X1 _ (by first | rfl | simp [negs0_nil])
  have kP_2 := kP_1.later bX2
  generalize hX3 : World.alloc X2 _ = X3
  have zX3 : X3.heap.size = w.heap.size + 1 + 1 + 1 := by rw [← hX3]; simp [zX2]
  have bX3 : Below X2.heap.size X2 X3 := by rw [← hX3]; exact bal X2 _
  have kC_3 : Blk X3 (w.heap.size + 1 + 1) ((negs0 gl 0).map (Value.int .i64)) 3 := by rw [← hX3, ← zX2]; exact Blk.newA X2 _ (by first | rfl | simp [negs0_nil])
  have kP_3 := kP_2.later bX3
  have kR_3 := kR_2.later bX3
  generalize hX4 : World.alloc X3 _ = X4
  have zX4 : X4.heap.size = w.heap.size + 1 + 1 + 1 + 1 := by rw [← hX4]; simp [zX3]
  have bX4 : Below X3.heap.size X3 X4 := by rw [← hX4]; exact bal X3 _
  have kG : Blk X4 (w.heap.size + 1 + 1 + 1) [.int .i64 0, .int .i64 0, .int .i64 0, .int .i64 0, .slice (some ⟨w.heap.size + 1 + 1, 0, none⟩) gl.length gl.length, .int .i64 (-g - 1)] 67 := by rw [← hX4, ← zX3]; exact Blk.newA X3 _ (by first | rfl | simp [negs0_nil])
  have kP := kP_3.later bX4
  have kR := kR_3.later bX4
  have kC := kC_3.later bX4
  have Xb := below2 (below2 (below2 (bX1) bX2) bX3) bX4
  have Xz := zX4
  clear hX1 zX1 bX1 hX2 zX2 bX2 hX3 zX3 bX3 hX4 zX4 bX4 kP_1 kP_2 kP_3 kR_2 kR_3 kC_3
  have hP0 := kP
  have hzz : w.heap.size + 1 + 1 + 1 < X4.heap.size := by omega
  have HZ := hide Xz
  clear Xz
  go_loopw [6] (fun i wr => ∃ k : Nat, k ≤ gl.length ∧ i = .int .i64 k ∧ Blk wr (w.heap.size + 1 + 1) ((negs0 gl k).map (Value.int .i64)) 3 ∧ Blk wr (w.heap.size + 1) [.int .i64 0, .int .i64 0, .int .i64 0, .int .i64 0, .slice none 0 0, .int .i64 0] 67 ∧
      Blk wr (w.heap.size + 1 + 1 + 1) [.int .i64 0, .int .i64 0, .int .i64 0, .int .i64 0, .slice (some ⟨w.heap.size + 1 + 1, 0, none⟩) gl.length gl.length, .int .i64 (-g - 1)] 67 ∧ Below (w.heap.size + 1) X4 wr) (fun i _ => gl.length - (intOf i).toNat)
  case atStart => exact ⟨0, by omega, rfl, kC, kR, kG, Below.refl _ _⟩
  case round =>
    obtain ⟨k, hk, rfl, hC, hR, hG, hbr⟩ := hrel
    have p2 := (hP0.below hbr (by omega)).cell 2 rfl
    have hbw := Xb.trans (hbr.mono (by omega))
    by_cases hlt : k < gl.length
    · obtain ⟨b, o, rfl, hck⟩ := hc k hlt
      have hbk := all_at (d := 0) HB.out hlt
      simp only [bndB, decide_eq_true_eq] at hbk
      have HN := hide (negs0_set (l := gl) hlt)
      have hC' := hC.set k (.int .i64 (-(gl.getD k 0)))
      rw [← List.map_set, HN.out] at hC'
      have f4 := hC.frozen k
      have hnl := negs0_len (l := gl) (k := k) hk
      obtain ⟨u, hu⟩ : ∃ u, wr.cell? ⟨w.heap.size + 1 + 1, k, none⟩ = some u := ⟨_, hC.cell k (by rw [List.getElem?_map, List.getElem?_eq_getElem (by omega)]; rfl)⟩
      have ck := keep hbw hck
      have g4 := hG.cell 4 rfl
      generalize gl.getD k 0 = x at hck hbk hC' ck
      have hkn : ((k : Nat) : Int) ≤ 9223372036854775807 := by omega
      clear hc hnl HN
      go_wp2_with fail
      go_region
      all_goals
        go_wp2_with fail
        go_roundw
        case rel =>
          refine ⟨k + 1, by omega, by go_num, hC'.later (Below.refl _ _).drew, (hR.other (by omega) _ _).later (Below.refl _ _).drew, (hG.other (by omega) _ _).later (Below.refl _ _).drew, ?_⟩
          exact (hbr.setCell (p := ⟨w.heap.size + 1 + 1, k, none⟩) (Nat.le_succ _) _).drew
        case measure => simp [intOf]; omega
    · obtain rfl : k = gl.length := by omega
      have x0 := hG.cell 0 rfl
      have x1 := hG.cell 1 rfl
      have x2 := hG.cell 2 rfl
      have x3 := hG.cell 3 rfl
      have x4 := hG.cell 4 rfl
      have x5 := hG.cell 5 rfl
      have y0 := hR.cell 0 rfl
      have y1 := hR.cell 1 rfl
      have y2 := hR.cell 2 rfl
      have y3 := hR.cell 3 rfl
      have y4 := hR.cell 4 rfl
      have y5 := hR.cell 5 rfl
      have g0 := hR.frozen 0
      have g1 := hR.frozen 1
      have g2 := hR.frozen 2
      have g3 := hR.frozen 3
      have g4 := hR.frozen 4
      have g5 := hR.frozen 5
      go_wp2_with fail
      obtain ⟨hF1, hF2, hF3⟩ := set6 hR (.int .i64 0) (.int .i64 0) (.int .i64 0) (.int .i64 0) (.slice (some ⟨w.heap.size + 1 + 1, 0, none⟩) gl.length gl.length) (.int .i64 (-g - 1))
      have hC2 := Blk.other (Blk.other (Blk.other (Blk.other (Blk.other (Blk.other hC (show w.heap.size + 1 + 1 ≠ w.heap.size + 1 by omega) 0 (.int .i64 0)) (show w.heap.size + 1 + 1 ≠ w.heap.size + 1 by omega) 1 (.int .i64 0)) (show w.heap.size + 1 + 1 ≠ w.heap.size + 1 by omega) 2 (.int .i64 0)) (show w.heap.size + 1 + 1 ≠ w.heap.size + 1 by omega) 3 (.int .i64 0)) (show w.heap.size + 1 + 1 ≠ w.heap.size + 1 by omega) 4 (.slice (some ⟨w.heap.size + 1 + 1, 0, none⟩) gl.length gl.length)) (show w.heap.size + 1 + 1 ≠ w.heap.size + 1 by omega) 5 (.int .i64 (-g - 1))
      generalize hwf : World.setCell _ ⟨w.heap.size + 1, 5, none⟩ _ = wf at hF1 hF2 hF3 hC2 ⊢
      have r0 := hF1.cell 0 rfl
      have r1 := hF1.cell 1 rfl
      have r2 := hF1.cell 2 rfl
      have r3 := hF1.cell 3 rfl
      have r4 := hF1.cell 4 rfl
      have r5 := hF1.cell 5 rfl
      refine bodyPost_ret (v := rowV ⟨0, 0, 0, 0, gl.map fun x => -x, -(g + 1)⟩ (.slice (some ⟨w.heap.size + 1 + 1, 0, none⟩) gl.length gl.length)) (by simp [results, Try.results35, go_sem, r0, r1, r2, r3, r4, r5]; omega) rfl ?_
      rw [negs0_full] at hC2
      exact ⟨w.heap.size + 1 + 1, by omega, rfl, hC2, hF2 _ _ hbw (by omega)⟩
end Go.Proofs.Ytppfdjjhloaopaa
