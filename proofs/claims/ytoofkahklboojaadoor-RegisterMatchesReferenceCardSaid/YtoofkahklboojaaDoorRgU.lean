/- Register, in plain words: what Invert, a further mark and a greater tolerance do. No program in sight. No condition. -/
import Derived.Test.YtoofkahklboojaaDoorRgQ
import Derived.Test.YtoofkahklboojaaDoorRgS
namespace Go.Proofs.YtoofkahklboojaaDoor

def invD (m : MotD) : MotD := if motOk m then ⟨(4 - m.turn) % 4, turnX ((4 - m.turn) % 4).toNat (-m.dx) (-m.dy), turnY ((4 - m.turn) % 4).toNat (-m.dx) (-m.dy)⟩ else ⟨0, 0, 0⟩
/-- the four turns, one by one -/
theorem turn_cases {n : Int} (h : 0 ≤ n ∧ n ≤ 3) : n = 0 ∨ n = 1 ∨ n = 2 ∨ n = 3 := by omega
theorem mot_iff (m : MotD) : motOk m = true ↔ (0 ≤ m.turn ∧ m.turn ≤ 3) ∧ -5000 ≤ m.dx ∧ m.dx ≤ 5000 ∧ -5000 ≤ m.dy ∧ m.dy ≤ 5000 := by
  unfold motOk everyD
  rw [Bool.and_eq_true, decide_eq_true_eq, has_iff]
theorem inv_ok {m : MotD} (h : motOk m = true) : motOk (invD m) = true := by
  obtain ⟨tu, dx, dy⟩ := m
  unfold invD
  rw [if_pos h]
  rw [mot_iff] at h ⊢
  obtain ⟨h1, h2⟩ := h
  simp only [] at h1 h2
  rcases turn_cases h1 with rfl | rfl | rfl | rfl <;> simp [turnX, turnY] <;> omega
theorem inv_inv {m : MotD} (h : motOk m = true) : invD (invD m) = m := by
  have h2 := inv_ok h
  obtain ⟨tu, dx, dy⟩ := m
  unfold invD at h2
  rw [if_pos h] at h2
  have e : invD ⟨tu, dx, dy⟩ = ⟨(4 - tu) % 4, turnX ((4 - tu) % 4).toNat (-dx) (-dy), turnY ((4 - tu) % 4).toNat (-dx) (-dy)⟩ := if_pos h
  rw [e]
  unfold invD
  rw [if_pos h2]
  rw [mot_iff] at h
  rcases turn_cases h.1 with rfl | rfl | rfl | rfl <;> simp [turnX, turnY]
theorem inv_app {m : MotD} (h : motOk m = true) (x y : Int) : appX (invD m) (appX m x y) (appY m x y) = x ∧ appY (invD m) (appX m x y) (appY m x y) = y := by
  obtain ⟨tu, dx, dy⟩ := m
  have e : invD ⟨tu, dx, dy⟩ = ⟨(4 - tu) % 4, turnX ((4 - tu) % 4).toNat (-dx) (-dy), turnY ((4 - tu) % 4).toNat (-dx) (-dy)⟩ := if_pos h
  rw [e]
  rw [mot_iff] at h
  unfold appX appY
  rcases turn_cases h.1 with rfl | rfl | rfl | rfl <;> simp [turnX, turnY] <;> omega
theorem inv_shift {m : MotD} (h : motOk m = true) (p q : DotD) : hasB (shiftD (invD m).turn.toNat q p) (invD m).dx (invD m).dy = hasB (shiftD m.turn.toNat p q) m.dx m.dy := by
  obtain ⟨tu, dx, dy⟩ := m
  have e : invD ⟨tu, dx, dy⟩ = ⟨(4 - tu) % 4, turnX ((4 - tu) % 4).toNat (-dx) (-dy), turnY ((4 - tu) % 4).toNat (-dx) (-dy)⟩ := if_pos h
  rw [e]
  rw [mot_iff] at h
  rw [Bool.eq_iff_iff, has_iff, has_iff]
  unfold shiftD
  rcases turn_cases h.1 with rfl | rfl | rfl | rfl <;> simp [turnX, turnY] <;> omega
theorem marks_swap (a b : List DotD) (p q : DotD) : (p, q) ∈ marksD b a ↔ (q, p) ∈ marksD a b := by
  unfold marksD
  cases ha : validD a <;> cases hb : validD b <;> simp
  rw [marksRaw_mem, marksRaw_mem]
  simp only []
  constructor
  · rintro ⟨h1, h2, h3, h4⟩; exact ⟨h2, h1, h3.symm, by omega⟩
  · rintro ⟨h1, h2, h3, h4⟩; exact ⟨h2, h1, h3.symm, by omega⟩
theorem marks_swap_ne (a b : List DotD) : marksD b a ≠ [] ↔ marksD a b ≠ [] := by
  have key : ∀ a b : List DotD, marksD b a ≠ [] → marksD a b ≠ [] := fun a b h e => by
    cases hb : marksD b a with
    | nil => exact h hb
    | cons r t =>
      have : (r.2, r.1) ∈ marksD a b := (marks_swap a b r.1 r.2).1 (by rw [hb]; simp)
      rw [e] at this; cases this
  exact ⟨key a b, key b a⟩
/-- a motion fits exactly if Invert of it fits the other way round -/
theorem inv_fits {m : MotD} (h : motOk m = true) (a b : List DotD) : fittingD b a (invD m) = fittingD a b m := by
  rw [Bool.eq_iff_iff, fitting_iff, fitting_iff, marks_swap_ne]
  constructor
  · rintro ⟨h1, -, h3⟩
    exact ⟨h1, h, fun r hr => by rw [← inv_shift h]; exact h3 (r.2, r.1) ((marks_swap a b r.2 r.1).2 hr)⟩
  · rintro ⟨h1, -, h3⟩
    exact ⟨h1, inv_ok h, fun r hr => by rw [inv_shift h]; exact h3 (r.2, r.1) ((marks_swap a b r.1 r.2).1 hr)⟩
end Go.Proofs.YtoofkahklboojaaDoor
