/- Register: what RegisterSound needs of verdicts, in plain words. No condition. -/
import Derived.Test.YtoofkahklboojaaDoorRkL
namespace Go.Proofs.YtoofkahklboojaaDoor
open Go.RowKit

theorem surv_fits (t : TruthD) : (fitsR (survA t) (survB t)).isEmpty = false := by
  have h1 := way_fits t
  have hne := marks_ne t
  have hw := way_in t
  obtain ⟨f, hf, -, -⟩ := (fits_iff hne (m := wayD t) ⟨hw.1, hw.2.1⟩).1 h1
  unfold fitsR
  rw [if_neg (by simp [hne])]
  cases h : fitsD (survA t) (survB t) with
  | nil => rw [h] at hf; cases hf
  | cons => rfl
theorem survB_cases (t : TruthD) {q : DotD} (h : q ∈ survB t) : (∃ i, i < 4 ∧ q = markB t i) ∨ ∃ j, j < 6 ∧ q = findB t j := by
  unfold survB at h
  rcases List.mem_append.1 h with h | h
  · obtain ⟨i, hi, rfl⟩ := List.mem_map.1 h
    exact .inl ⟨i, by have := List.mem_range.1 hi; have := (nMarks_in t).2; omega, rfl⟩
  · obtain ⟨j, hj, rfl⟩ := List.mem_map.1 h
    exact .inr ⟨j, by have := List.mem_range.1 (List.mem_filter.1 hj).1; have := nFinds_le t; omega, rfl⟩
theorem survA_cases (t : TruthD) {q : DotD} (h : q ∈ survA t) : (∃ i, i < 4 ∧ q = markA t i) ∨ ∃ j, j < 6 ∧ q = findA t j := by
  unfold survA at h
  rcases List.mem_append.1 h with h | h
  · obtain ⟨i, hi, rfl⟩ := List.mem_map.1 h
    exact .inl ⟨i, by have := List.mem_range.1 hi; have := (nMarks_in t).2; omega, rfl⟩
  · obtain ⟨j, hj, rfl⟩ := List.mem_map.1 h
    exact .inr ⟨j, by have := List.mem_range.1 (List.mem_filter.1 hj).1; have := nFinds_le t; omega, rfl⟩
theorem surv_judge (t : TruthD) {i : Nat} (hi : i < (survB t).length) (hz : 19 < ((survB t).getD i dot0).id) : judgeD (survA t) (survB t) ((survB t).getD i dot0).id = some ((survB t).getD i dot0) := by
  unfold judgeD
  rw [surv_fits, if_neg (by decide), if_neg (by omega), find_uniq (asc_getD (surv_valid t).2) hi rfl]
theorem surv_err (t : TruthD) {i : Nat} (hi : i < (survB t).length) (hz : 19 < ((survB t).getD i dot0).id) : judE (survA t) (survB t) ((survB t).getD i dot0).id = 0 := by
  unfold judE; rw [surv_judge t hi hz]; rfl
theorem surv_id (t : TruthD) {i : Nat} (hi : i < (survB t).length) (hz : 19 < ((survB t).getD i dot0).id) : ∃ j, j < 6 ∧ (survB t).getD i dot0 = findB t j := by
  rcases survB_cases t (getD_mem (survB t) i (d := dot0) hi) with ⟨k, hk, e⟩ | h
  · rw [e] at hz
    have : (markB t k).id = 3 * k := rfl
    omega
  · exact h
theorem surv_range (t : TruthD) {i : Nat} (hi : i < (survB t).length) (hz : 19 < ((survB t).getD i dot0).id) : 60 ≤ ((survB t).getD i dot0).id ∧ ((survB t).getD i dot0).id ≤ 99 := by
  obtain ⟨j, hj, e⟩ := surv_id t hi hz
  rw [e]
  have : (findB t j).id = 60 + 3 * j := rfl
  omega
theorem sound_kind (t : TruthD) {i k : Nat} (hi : i < (survB t).length) (hz : 19 < ((survB t).getD i dot0).id) (hk : k < (survA t).length) (h : ((survA t).getD k dot0).id = 20 + 2 * ((((survB t).getD i dot0).id - 60) / 3)) :
    (judV (survA t) (survB t) ((survB t).getD i dot0).id).kind ≠ 1 := by
  obtain ⟨j, hj, e⟩ := surv_id t hi hz
  have hj1 := surv_judge t hi hz
  unfold judV
  rw [hj1]
  show (verD (survA t) (survB t) ((survB t).getD i dot0)).kind ≠ 1
  rw [e] at h ⊢
  have hid : (findB t j).id = 60 + 3 * j := rfl
  rw [hid, show (60 + 3 * (j : Int) - 60) / 3 = j by omega] at h
  have hA : findA t j ∈ findsD (survA t) := by
    have hm := getD_mem (survA t) k (d := dot0) hk
    rcases survA_cases t hm with ⟨l, hl, e2⟩ | ⟨l, hl, e2⟩
    · rw [e2] at h
      have : (markA t l).id = 3 * l := rfl
      omega
    · have hl2 : l = j := by
        rw [e2] at h
        have : (findA t l).id = 20 + 2 * l := rfl
        omega
      subst hl2
      rw [e2] at hm
      refine List.mem_filter.2 ⟨hm, ?_⟩
      have : (findA t l).id = 20 + 2 * l := rfl
      simp [this]; omega
  have hs := sound_some osF_mem t j hA
  have hs2 : (srch (survA t) (survB t) (findB t j) true).isSome = true := by
    unfold srch
    cases hh : searchD osF (marksD (survA t) (survB t)) (findsD (survA t)) (findB t j) true with
    | none => exact absurd hh hs
    | some => rfl
  unfold verD
  simp only [hs2, if_true]
  split <;> decide
end Go.Proofs.YtoofkahklboojaaDoor
