/- Register, in plain words: the true motion fits; what follows for Sound. No program in sight. No condition. -/
import Derived.Test.YtoofkahklboojaaDoorRgQ
import Derived.Test.YtoofkahklboojaaDoorRgS
namespace Go.Proofs.YtoofkahklboojaaDoor

theorem marks_of (t : TruthD) {r : DotD × DotD} (h : r ∈ marksD (survA t) (survB t)) : ∃ i, i < nMarks t ∧ r = (markA t i, markB t i) := by
  unfold marksD at h
  rw [(surv_valid t).1, (surv_valid t).2, Bool.and_self, if_pos rfl, marksRaw_mem] at h
  obtain ⟨ha, hb, hid, hle⟩ := h
  obtain ⟨p, q⟩ := r
  simp only [] at ha hb hid hle
  rcases List.mem_append.1 ha with ha | ha
  · obtain ⟨i, hi, rfl⟩ := List.mem_map.1 ha
    rcases List.mem_append.1 hb with hb | hb
    · obtain ⟨j, hj, rfl⟩ := List.mem_map.1 hb
      have e : (3 * (i : Int)) = 3 * j := hid
      obtain rfl : i = j := by omega
      exact ⟨i, List.mem_range.1 hi, rfl⟩
    · obtain ⟨j, -, rfl⟩ := List.mem_map.1 hb
      have e : (3 * (i : Int)) = 60 + 3 * j := hid
      have h4 := nMarks_in t
      have := List.mem_range.1 hi
      omega
  · obtain ⟨i, -, rfl⟩ := List.mem_map.1 ha
    have e : (20 + 2 * (i : Int)) ≤ 19 := hle
    omega
theorem marks_ne (t : TruthD) : marksD (survA t) (survB t) ≠ [] := by
  have hn := nMarks_in t
  have h : (markA t 0, markB t 0) ∈ marksD (survA t) (survB t) := by
    unfold marksD
    rw [(surv_valid t).1, (surv_valid t).2, Bool.and_self, if_pos rfl, marksRaw_mem]
    refine ⟨List.mem_append.2 (.inl (List.mem_map.2 ⟨0, List.mem_range.2 (by omega), rfl⟩)), List.mem_append.2 (.inl (List.mem_map.2 ⟨0, List.mem_range.2 (by omega), rfl⟩)), rfl, ?_⟩
    show (3 * ((0 : Nat) : Int)) ≤ 19
    omega
  intro e; rw [e] at h; cases h
theorem way_ok (t : TruthD) : motOk (wayD t) = true := by
  have := way_in t
  unfold motOk
  rw [Bool.and_eq_true, decide_eq_true_eq, has_iff]
  unfold everyD
  simp only []
  omega
/-- the true motion fits -/
theorem way_fits (t : TruthD) : fittingD (survA t) (survB t) (wayD t) = true := by
  rw [fitting_iff]
  refine ⟨marks_ne t, way_ok t, fun r hr => ?_⟩
  obtain ⟨i, -, rfl⟩ := marks_of t hr
  exact way_shift t _ _ i _ _
/-- with the true motion a find of both surveys is one -/
theorem way_find (t : TruthD) (i : Nat) : hasB (shiftD (wayD t).turn.toNat (findA t i) (findB t i)) (wayD t).dx (wayD t).dy = true := way_shift t _ _ (4 + i) _ _
theorem fit_way (t : TruthD) : hasB (fitD (marksD (survA t) (survB t)) (wayD t).turn.toNat) (wayD t).dx (wayD t).dy = true := by
  have h := way_fits t
  unfold fittingD at h
  rw [Bool.and_eq_true] at h
  exact h.2
/-- a find that both have is not judged to be new -/
theorem sound_some {os : List Int → List Int} (ho : ∀ l x, x ∈ os l ↔ x ∈ l) (t : TruthD) (i : Nat) {finds : List DotD} (h : findA t i ∈ finds) : searchD os (marksD (survA t) (survB t)) finds (findB t i) true ≠ none := by
  intro hn
  have hw := way_in t
  have hk : (wayD t).turn.toNat ≤ 3 := by omega
  have h1 := search_none ho hn _ hk _ _ (fit_way t)
  apply h1
  unfold anyB boxesD
  rw [List.any_eq_true]
  exact ⟨_, List.mem_map.2 ⟨_, h, rfl⟩, way_find t i⟩
end Go.Proofs.YtoofkahklboojaaDoor
