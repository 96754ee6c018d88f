/- Register, in plain words: what the search finds; the surveys that integers determine. No program in sight. No condition. -/
import Derived.Test.YtoofkahklboojaaDoorRgP
namespace Go.Proofs.YtoofkahklboojaaDoor

/-- the search with so many turns; os sorts, and leaves out what is twice -/
def searchK (os : List Int → List Int) (l : List (DotD × DotD)) (finds : List DotD) (q : DotD) (can : Bool) (k : Nat) : Option MotD :=
  if emptyB (fitD l k) then none else searchAt (boxesD finds q k) can (os (xsD (fitD l k) (boxesD finds q k))) (os (ysD (fitD l k) (boxesD finds q k))) k
def searchD (os : List Int → List Int) (l : List (DotD × DotD)) (finds : List DotD) (q : DotD) (can : Bool) : Option MotD := [0, 1, 2, 3].findSome? (searchK os l finds q can)
theorem searchAt_some {bs : List BoxD} {can : Bool} {xs ys : List Int} {k : Nat} {m : MotD} (h : searchAt bs can xs ys k = some m) : m.turn = k ∧ m.dx ∈ xs ∧ m.dy ∈ ys ∧ anyB bs m.dx m.dy = can := by
  unfold searchAt at h
  obtain ⟨p, hp, hm⟩ := List.exists_of_findSome?_eq_some h
  split at hm
  · rename_i hc
    cases hm
    obtain ⟨x, hx, hy⟩ := List.mem_flatMap.1 hp
    obtain ⟨y, hy', rfl⟩ := List.mem_map.1 hy
    exact ⟨rfl, hx, hy', by simpa using hc⟩
  · cases hm
theorem searchAt_none {bs : List BoxD} {can : Bool} {xs ys : List Int} {k : Nat} (h : searchAt bs can xs ys k = none) : ∀ x ∈ xs, ∀ y ∈ ys, anyB bs x y ≠ can := by
  intro x hx y hy hc
  unfold searchAt at h
  rw [List.findSome?_eq_none_iff] at h
  have := h (x, y) (List.mem_flatMap.2 ⟨x, hx, List.mem_map.2 ⟨y, hy, rfl⟩⟩)
  rw [if_pos (by simpa using hc)] at this
  cases this
section
variable {os : List Int → List Int} (ho : ∀ l x, x ∈ os l ↔ x ∈ l) {l : List (DotD × DotD)} {finds : List DotD} {q : DotD} {can : Bool}
include ho
theorem searchK_some {k : Nat} {m : MotD} (h : searchK os l finds q can k = some m) : m.turn = k ∧ hasB (fitD l k) m.dx m.dy = true ∧ anyB (boxesD finds q k) m.dx m.dy = can := by
  unfold searchK at h
  split at h
  · cases h
  · rename_i he
    obtain ⟨h1, h2, h3, h4⟩ := searchAt_some h
    have hne := has_of_not_empty (b := fitD l k) (by simpa using he)
    rw [has_iff] at hne
    have g1 := edges_in (show (fitD l k).xl ≤ (fitD l k).xh by omega) _ ((ho _ _).1 h2)
    have g2 := edges_in (show (fitD l k).yl ≤ (fitD l k).yh by omega) _ ((ho _ _).1 h3)
    exact ⟨h1, by rw [has_iff]; omega, h4⟩
theorem searchK_none {k : Nat} (h : searchK os l finds q can k = none) : ∀ x y, hasB (fitD l k) x y = true → anyB (boxesD finds q k) x y ≠ can := by
  intro x y hxy hc
  unfold searchK at h
  split at h
  · rename_i he
    rw [empty_iff] at he
    rw [he x y] at hxy; cases hxy
  · obtain ⟨u, hu, v, hv, -, hb⟩ := edge_box (bs := boxesD finds q k) hxy
    refine searchAt_none h u ((ho _ _).2 hu) v ((ho _ _).2 hv) ?_
    rw [← hc]
    unfold anyB
    rw [Bool.eq_iff_iff, List.any_eq_true, List.any_eq_true]
    constructor
    · rintro ⟨b, hbm, h1⟩; exact ⟨b, hbm, by rw [← hb b hbm]; exact h1⟩
    · rintro ⟨b, hbm, h1⟩; exact ⟨b, hbm, by rw [hb b hbm]; exact h1⟩
theorem search_some {m : MotD} (h : searchD os l finds q can = some m) : ∃ k : Nat, k ≤ 3 ∧ m.turn = k ∧ hasB (fitD l k) m.dx m.dy = true ∧ anyB (boxesD finds q k) m.dx m.dy = can := by
  unfold searchD at h
  obtain ⟨k, hk, hm⟩ := List.exists_of_findSome?_eq_some h
  have := searchK_some ho hm
  refine ⟨k, ?_, this⟩
  simp at hk; omega
theorem search_none (h : searchD os l finds q can = none) : ∀ k : Nat, k ≤ 3 → ∀ x y, hasB (fitD l k) x y = true → anyB (boxesD finds q k) x y ≠ can := by
  unfold searchD at h
  rw [List.findSome?_eq_none_iff] at h
  intro k hk
  exact searchK_none ho (h k (by simp; omega))
end
end Go.Proofs.YtoofkahklboojaaDoor
