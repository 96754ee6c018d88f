/- Plain words: the least sum of a row, number by number; the plain proof's two cases; a program cut to a few rows. No condition. -/
import Derived.Test.YtcaklldmcbpbfaaPmodL
namespace Go.Proofs.Ytcaklldmcbpbfaa

/-- the least sum of the first k numbers, where the first d things are decided -/
def leastK (l : List Int) (d s : Nat) : Nat → Int
  | 0 => 0
  | k + 1 => leastK l d s k + (if k < d then (if s / 2 ^ k % 2 = 1 then l.getD k 0 else 0) else if l.getD k 0 < 0 then l.getD k 0 else 0)
theorem leastK_low (l : List Int) (d s : Nat) : ∀ k, k ≤ d → leastK l d s k = chosK (l.take d) s k
  | 0, _ => rfl
  | k + 1, h => by
    simp only [leastK, chosK]
    rw [leastK_low l d s k (by omega), if_pos (by omega), getD_take (by omega)]
theorem leastK_high (l : List Int) (d s : Nat) : ∀ j, leastK l d s (d + j) = chosK (l.take d) s d + negK (l.drop d) j
  | 0 => by
    show leastK l d s d = _
    rw [leastK_low l d s d (Nat.le_refl _)]; simp [negK]
  | j + 1 => by
    show leastK l d s (d + j + 1) = _
    simp only [leastK, negK]
    rw [leastK_high l d s j, if_neg (by omega), getD_drop]; omega
theorem leastK_eq {l : List Int} {d s : Nat} (h : d ≤ l.length) : leastK l d s l.length = leastF l d s := by
  have h1 := leastK_high l d s (l.length - d)
  rw [show d + (l.length - d) = l.length by omega] at h1
  rw [h1]
  unfold leastF chosenF
  rw [List.length_take, List.length_drop, Nat.min_eq_left h]
theorem leastK_bound (l : List Int) (d s : Nat) (hl : coefsB l = true) : ∀ k, k ≤ l.length → -(1000000000 * k : Int) ≤ leastK l d s k ∧ leastK l d s k ≤ 1000000000 * k
  | 0, _ => by simp [leastK]
  | k + 1, h => by
    have ih := leastK_bound l d s hl k (by omega)
    have hb := all_at (d := 0) hl (k := k) (by omega)
    simp only [bndB, decide_eq_true_eq] at hb
    simp only [leastK]
    split
    · split <;> omega
    · split <;> omega
theorem growF_leaf {rows : List RowD} {d s : Nat} (h : rows.any (badB d s) = true) : ∀ (f k : Nat), growF rows f d s k = [leafF (idxF (badB d s) rows)]
  | 0, _ => rfl
  | f + 1, k => by simp only [growF]; rw [if_pos h]
theorem growF_node {rows : List RowD} {f d s k : Nat} (h : rows.any (badB d s) = false) : growF rows (f + 1) d s k =
    nodeF d (k + 1 : Nat) (k + 1 + (growF rows f (d + 1) s (k + 1)).length : Nat) :: (growF rows f (d + 1) s (k + 1) ++ growF rows f (d + 1) (s + 2 ^ d) (k + 1 + (growF rows f (d + 1) s (k + 1)).length)) := by
  simp only [growF]; rw [if_neg (by rw [h]; simp)]
/-- a row with at most 13 numbers -/
def cutR (r : RowD) : RowD := ⟨r.kind, r.a, r.b, r.at_, r.coef.take 13, r.most⟩
/-- the first k rows, with at most 13 numbers each -/
def cutUp (l : List RowD) (k : Nat) : List RowD := (l.take k).map cutR
def fewF (p : ProgD) : ProgD := ⟨p.vars, cutUp p.rows (min p.rows.length 20), p.gain.take 13⟩
theorem cutUp_succ {l : List RowD} {k : Nat} (h : k < l.length) : cutUp l (k + 1) = cutUp l k ++ [cutR (l.getD k row0)] := by
  unfold cutUp; rw [take_succ' l k row0 h, List.map_append]; rfl
theorem cutUp_len {l : List RowD} {k : Nat} (h : k ≤ l.length) : (cutUp l k).length = k := by
  unfold cutUp; rw [List.length_map, List.length_take]; omega
end Go.Proofs.Ytcaklldmcbpbfaa
