/- Register: walks of examples, Same and Pairs. Conditions: how the arguments lie in memory. -/
import Derived.Test.YtoofkahklboojaaDoorRkX
import Derived.Laws.StructEq
namespace Go.Proofs.YtoofkahklboojaaDoor
open Go.RowKit

set_option maxRecDepth 20000 in
set_option maxHeartbeats 1000000 in
theorem examples_any (w : World) : Calls Tryd.prog 34 #[] w (fun e w' => ∃ n m, e = .returned (.tuple #[.slice (some ⟨n, 0, none⟩) 4 4, .slice (some ⟨m, 0, none⟩) 5 5]) ∧ Blk w' n ((exA.map dotC).flatten) 53 ∧ Blk w' m ((exB.map dotC).flatten) 53 ∧ w.heap.size ≤ n ∧ w.heap.size ≤ m ∧ n ≠ m ∧ Below w.heap.size w w') := by
  go_enter Tryd.func34, Tryd.ntmps34
  go_wp2_with fail
  generalize hX1 : World.alloc w _ = X1
  have zX1 : X1.heap.size = w.heap.size + 1 := by rw [← hX1]; simp
  have bX1 : Below w.heap.size w X1 := by rw [← hX1]; exact bal w _
  have bA_1 : Blk X1 (w.heap.size) [iV 1, iV 0, iV 0, iV 1, iV 2, iV 10, iV 0, iV 1, iV 30, iV 5, iV 5, iV 1, iV 31, iV 9, iV 5, iV 1] 53 := by rw [← hX1]; exact Blk.newA w _ (by first | rfl | simp)
  generalize hX2 : World.alloc X1 _ = X2
  have zX2 : X2.heap.size = w.heap.size + 1 + 1 := by rw [← hX2]; simp [zX1]
  have bX2 : Below X1.heap.size X1 X2 := by rw [← hX2]; exact bal X1 _
  have bB : Blk X2 (w.heap.size + 1) [iV 1, iV 100, iV 50, iV 0, iV 2, iV 100, iV 61, iV 0, iV 40, iV 95, iV 55, iV 1, iV 41, iV 97, iV 60, iV 1, iV 42, iV 80, iV 50, iV 1] 53 := by rw [← hX2, ← zX1]; exact Blk.newA X1 _ (by first | rfl | simp)
  have bA := bA_1.later bX2
  have Xb := below2 (bX1) bX2
  have Xz := zX2
  clear hX1 zX1 bX1 hX2 zX2 bX2 bA_1
  go_ret2
  exact ⟨w.heap.size, w.heap.size + 1, rfl, bA, bB, by omega, by omega, by omega, Xb⟩
theorem dots_of_blk {w : World} {n : Nat} {l : List DotD} (h : Blk w n ((l.map dotC).flatten) 53) (c : Nat) (hc : l.length ≤ c) (hc2 : c ≤ 9223372036854775807) : DotsAt w (.slice (some ⟨n, 0, none⟩) l.length c) l := by
  refine ⟨some ⟨n, 0, none⟩, c, rfl, hc, hc2, fun i hi => ⟨n, 0, rfl, fun j u hu => ?_⟩⟩
  have hj : j < 4 := (List.getElem?_eq_some_iff.1 hu).1
  rw [Nat.zero_add]
  refine h.cell _ ?_
  rw [flat_get (k := 4) (fun r hr => by obtain ⟨x, -, rfl⟩ := List.mem_map.1 hr; rfl) i j hj, List.getD_eq_getElem?_getD, List.getElem?_map, List.getElem?_eq_getElem hi]
  rw [List.getD_eq_getElem?_getD, List.getElem?_eq_getElem hi] at hu
  exact hu
theorem eq_ids (a b c d : Int) (w : World) : (Op.equalIn 10000 58 (.agg #[iV a, iV b]) (.agg #[iV c, iV d])).run Tryd.prog w = .ok (a == c && b == d) w := by
  have u3 := Tryd.underlying3
  have a3 := Tryd.isAgg3
  have z3 := Tryd.sizeOf3
  rw [show (10000 : Nat) = 9999 + 1 from rfl, Op.equalIn]
  simp only [Sem.run_bind, run_underlying Tryd.underlying58, Result.andThen_ok]
  simp only [Std.Legacy.Range.forIn_eq_forIn_range', Std.Legacy.Range.size, Nat.sub_zero, Nat.add_sub_cancel, Nat.div_one, List.range'_succ, List.range'_zero, List.forIn_cons, List.forIn_nil]
  go_simp
  by_cases h1 : a = c <;> by_cases h2 : b = d <;> simp [h1, h2]
set_option maxRecDepth 20000 in
set_option maxHeartbeats 1000000 in
theorem same_any (l : List (Nat × BoxD)) (v u : Value) (w : World) (hv : RecIn fitC fit0 5 w.cell? v l) (hu : RecIn fitC fit0 5 w.cell? u l) : Calls Tryd.prog 20 #[v, u] w (Ret (.bool true) w) := by
  obtain ⟨a, c, rfl, hl1, hl2, hc⟩ := hv
  obtain ⟨a', c', rfl, -, -, hc'⟩ := hu
  have HC := hide hc
  have HC' := hide hc'
  have hm : (l.length : Int) ≤ 9223372036854775807 := by omega
  have hle : ((l.length : Int) != (l.length : Int)) = false := by simp
  clear hc hc'
  go_enter Tryd.func20, Tryd.ntmps20
  go_wp2_with fail
  go_loopw [5] (fun i wr => ∃ k : Nat, k ≤ l.length ∧ i = .int .i64 k ∧ Below w.heap.size w wr) (fun i _ => l.length - (intOf i).toNat)
  case atStart => exact ⟨0, by omega, rfl, Below.refl _ _⟩
  case round =>
    obtain ⟨k, hk, rfl, hbr⟩ := hrel
    by_cases hlt : k < l.length
    · obtain ⟨b1, o1, e1, h1⟩ := HC.out k hlt
      obtain ⟨b2, o2, e2, h2⟩ := HC'.out k hlt
      subst e1 e2
      generalize l.getD k fit0 = x at h1 h2
      have hkl : decide (k < l.length) = true := by simpa using hlt
      obtain ⟨xk, xl, xh, yl, yh⟩ := x
      have p0 : ∀ i : Bw wr.heap.size wr, i.W.cell? ⟨b1, o1 + k * 5, none⟩ = some (iV xk) := bwc (keep hbr (h1 0 _ rfl))
      have p1 : ∀ i : Bw wr.heap.size wr, i.W.cell? ⟨b1, o1 + k * 5 + 1, none⟩ = some (iV xl) := bwc (keep hbr (h1 1 _ rfl))
      have p2 : ∀ i : Bw wr.heap.size wr, i.W.cell? ⟨b1, o1 + k * 5 + 2, none⟩ = some (iV xh) := bwc (keep hbr (h1 2 _ rfl))
      have p3 : ∀ i : Bw wr.heap.size wr, i.W.cell? ⟨b1, o1 + k * 5 + 3, none⟩ = some (iV yl) := bwc (keep hbr (h1 3 _ rfl))
      have p4 : ∀ i : Bw wr.heap.size wr, i.W.cell? ⟨b1, o1 + k * 5 + 4, none⟩ = some (iV yh) := bwc (keep hbr (h1 4 _ rfl))
      have q0 : ∀ i : Bw wr.heap.size wr, i.W.cell? ⟨b2, o2 + k * 5, none⟩ = some (iV xk) := bwc (keep hbr (h2 0 _ rfl))
      have q1 : ∀ i : Bw wr.heap.size wr, i.W.cell? ⟨b2, o2 + k * 5 + 1, none⟩ = some (iV xl) := bwc (keep hbr (h2 1 _ rfl))
      have q2 : ∀ i : Bw wr.heap.size wr, i.W.cell? ⟨b2, o2 + k * 5 + 2, none⟩ = some (iV xh) := bwc (keep hbr (h2 2 _ rfl))
      have q3 : ∀ i : Bw wr.heap.size wr, i.W.cell? ⟨b2, o2 + k * 5 + 3, none⟩ = some (iV yl) := bwc (keep hbr (h2 3 _ rfl))
      have q4 : ∀ i : Bw wr.heap.size wr, i.W.cell? ⟨b2, o2 + k * 5 + 4, none⟩ = some (iV yh) := bwc (keep hbr (h2 4 _ rfl))
      clear h1 h2
      go_wp2_with fail
      refine wp_region_bw (by kernel_rfl) (by kernel_rfl) ?_
      repeat (go_big_quiet_step (fail))
      refine wpQuiet_nil ?_
      rintro _ ⟨i, rfl⟩
      have hbi := below2 hbr i.h
      go_wp2_with fail
      go_roundw
      case rel => exact ⟨k + 1, by omega, by go_num, hbi⟩
      case measure => simp [intOf]; omega
    · obtain rfl : k = l.length := by omega
      go_wp2_with fail
      go_ret
      exact ⟨rfl, hbr⟩
set_option maxRecDepth 20000 in
set_option maxHeartbeats 1000000 in
theorem pairs_any (l : List (Int × Int)) (v u : Value) (w : World) (hv : RecIn idsC (0, 0) 2 w.cell? v l) (hu : RecIn idsC (0, 0) 2 w.cell? u l) : Calls Tryd.prog 21 #[v, u] w (Ret (.bool true) w) := by
  obtain ⟨a, c, rfl, hl1, hl2, hc⟩ := hv
  obtain ⟨a', c', rfl, -, -, hc'⟩ := hu
  have HC := hide hc
  have HC' := hide hc'
  have hm : (l.length : Int) ≤ 9223372036854775807 := by omega
  have hle : ((l.length : Int) != (l.length : Int)) = false := by simp
  clear hc hc'
  go_enter Tryd.func21, Tryd.ntmps21
  go_wp2_with fail
  go_loopw [5] (fun i wr => ∃ k : Nat, k ≤ l.length ∧ i = .int .i64 k ∧ Below w.heap.size w wr) (fun i _ => l.length - (intOf i).toNat)
  case atStart => exact ⟨0, by omega, rfl, Below.refl _ _⟩
  case round =>
    obtain ⟨k, hk, rfl, hbr⟩ := hrel
    by_cases hlt : k < l.length
    · obtain ⟨b1, o1, e1, h1⟩ := HC.out k hlt
      obtain ⟨b2, o2, e2, h2⟩ := HC'.out k hlt
      subst e1 e2
      generalize l.getD k (0, 0) = x at h1 h2
      have hkl : decide (k < l.length) = true := by simpa using hlt
      obtain ⟨x1, x2⟩ := x
      have EQ := fun W => eq_ids x1 x2 x1 x2 W
      have EB : (x1 == x1 && x2 == x2) = true := by simp
      have p0 : ∀ i : Bw wr.heap.size wr, i.W.cell? ⟨b1, o1 + k * 2, none⟩ = some (iV x1) := bwc (keep hbr (h1 0 _ rfl))
      have p1 : ∀ i : Bw wr.heap.size wr, i.W.cell? ⟨b1, o1 + k * 2 + 1, none⟩ = some (iV x2) := bwc (keep hbr (h1 1 _ rfl))
      have q0 : ∀ i : Bw wr.heap.size wr, i.W.cell? ⟨b2, o2 + k * 2, none⟩ = some (iV x1) := bwc (keep hbr (h2 0 _ rfl))
      have q1 : ∀ i : Bw wr.heap.size wr, i.W.cell? ⟨b2, o2 + k * 2 + 1, none⟩ = some (iV x2) := bwc (keep hbr (h2 1 _ rfl))
      clear h1 h2
      go_wp2_with fail
      refine wp_region_bw (by kernel_rfl) (by kernel_rfl) ?_
      repeat (go_big_quiet_step (fail))
      refine wpQuiet_nil ?_
      rintro _ ⟨i, rfl⟩
      have hbi := below2 hbr i.h
      go_wp2_with fail
      go_roundw
      case rel => exact ⟨k + 1, by omega, by go_num, hbi⟩
      case measure => simp [intOf]; omega
    · obtain rfl : k = l.length := by omega
      go_wp2_with fail
      go_ret
      exact ⟨rfl, hbr⟩
end Go.Proofs.YtoofkahklboojaaDoor
