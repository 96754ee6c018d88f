/- Register: what RegisterFits needs, in plain words. No condition. -/
import Derived.Test.YtoofkahklboojaaDoorRkL
import Derived.Test.YtoofkahklboojaaDoorRhA
namespace Go.Proofs.YtoofkahklboojaaDoor

theorem fits_bad {a c : List DotD} (h : validD c = false) (m : MotD) : fittingD a c m = false := no_marks (by unfold marksD; rw [h]; simp) m
theorem err_no {a c : List DotD} (h : errR a c ≠ 0) (m : MotD) : fittingD a c m = false := by
  refine no_marks ?_ m
  unfold errR at h
  split at h
  · rename_i h1; simpa using h1
  · exact absurd rfl h
theorem err_ok {a c : List DotD} (h : errR a c = 0) : marksD a c ≠ [] ∧ fitsR a c = fitsD a c := by
  unfold errR at h
  unfold fitsR
  split at h
  · cases h
  · rename_i h1
    rw [if_neg h1]
    exact ⟨by simpa using h1, rfl⟩
/-- a fit: not empty, its corner fits -/
theorem fit_ok {a c : List DotD} (h : errR a c = 0) {i : Nat} (hi : i < (fitsR a c).length) :
    let f := (fitsR a c).getD i fit0
    f.1 ≤ 3 ∧ f.2.xl ≤ f.2.xh ∧ f.2.yl ≤ f.2.yh ∧ fittingD a c ⟨f.1, f.2.xl, f.2.yh⟩ = true := by
  obtain ⟨hne, he⟩ := err_ok h
  intro f
  have hm : f ∈ fitsD a c := by
    rw [← he]; show (fitsR a c).getD i fit0 ∈ _
    rw [List.getD_eq_getElem?_getD, List.getElem?_eq_getElem hi]; exact List.getElem_mem hi
  obtain ⟨h1, h2, h3⟩ := fits_mem.1 hm
  have hx : f.2.xl ≤ f.2.xh ∧ f.2.yl ≤ f.2.yh := by unfold emptyB at h3; simp at h3; omega
  refine ⟨h1, hx.1, hx.2, fit_corner hne hm ?_⟩
  rw [has_iff]; omega
theorem fit_up {a c : List DotD} (h : errR a c = 0) {i : Nat} (h0 : 0 < i) (hi : i < (fitsR a c).length) : ((fitsR a c).getD (i - 1) fit0).1 < ((fitsR a c).getD i fit0).1 := by
  obtain ⟨hne, he⟩ := err_ok h
  rw [he] at hi ⊢
  have := List.pairwise_iff_getElem.1 (fits_asc a c) (i - 1) i (by omega) hi (by omega)
  simpa [List.getD_eq_getElem?_getD, List.getElem?_eq_getElem hi, List.getElem?_eq_getElem (show i - 1 < (fitsD a c).length by omega)] using this
/-- what the loop reckons: whether one of the first k fits holds the motion -/
def inFit (l : List (Nat × BoxD)) (m : MotD) (k : Nat) : Bool := (List.range k).any fun i => decide (((l.getD i fit0).1 : Int) = m.turn) && hasB (l.getD i fit0).2 m.dx m.dy
theorem inFit_succ (l : List (Nat × BoxD)) (m : MotD) (k : Nat) : inFit l m (k + 1) = (inFit l m k || (decide (((l.getD k fit0).1 : Int) = m.turn) && hasB (l.getD k fit0).2 m.dx m.dy)) := by
  unfold inFit; rw [List.range_succ, List.any_append]; simp
theorem inFit_all {a c : List DotD} (h : errR a c = 0) {m : MotD} (ht : 0 ≤ m.turn ∧ m.turn ≤ 3) : inFit (fitsR a c) m (fitsR a c).length = fittingD a c m := by
  obtain ⟨hne, he⟩ := err_ok h
  rw [Bool.eq_iff_iff, fits_iff hne ht, he]
  unfold inFit
  rw [List.any_eq_true]
  constructor
  · rintro ⟨i, hi, h1⟩
    rw [List.mem_range] at hi
    rw [Bool.and_eq_true, decide_eq_true_eq] at h1
    refine ⟨(fitsD a c).getD i fit0, ?_, h1.1, h1.2⟩
    rw [List.getD_eq_getElem?_getD, List.getElem?_eq_getElem hi]; exact List.getElem_mem hi
  · rintro ⟨f, hf, h1, h2⟩
    obtain ⟨i, hi, rfl⟩ := List.getElem_of_mem hf
    refine ⟨i, List.mem_range.2 hi, ?_⟩
    rw [List.getD_eq_getElem?_getD, List.getElem?_eq_getElem hi]
    simp [h1, h2]
end Go.Proofs.YtoofkahklboojaaDoor
