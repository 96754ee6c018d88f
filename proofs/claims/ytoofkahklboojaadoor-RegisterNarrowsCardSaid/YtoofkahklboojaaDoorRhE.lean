/- Register, in plain words: what RegisterNarrows needs. No condition. -/
import Derived.Test.YtoofkahklboojaaDoorRsA
import Derived.Test.YtoofkahklboojaaDoorRgY
namespace Go.Proofs.YtoofkahklboojaaDoor

theorem survA_at (t : TruthD) {k : Nat} (hk : k < nMarks t) : (survA t).getD k dot0 = markA t k := by
  unfold survA
  rw [List.getD_eq_getElem?_getD, List.getElem?_append_left (by simpa using hk), List.getElem?_map, List.getElem?_range hk]; rfl
theorem survA_len (t : TruthD) : nMarks t ≤ (survA t).length ∧ (survA t).length ≤ 12 := by
  refine ⟨by unfold survA; simp, valid_len (surv_valid t).1⟩
def lowB (p : DotD) : Bool := decide (p.id ≤ 19)
theorem low_count (t : TruthD) : ((survA t).filter lowB).length = nMarks t := by
  have hn := nMarks_in t
  unfold survA
  rw [List.filter_append, List.filter_eq_self.2, List.filter_eq_nil_iff.2]
  · simp
  · intro p hp
    obtain ⟨i, hi, rfl⟩ := List.mem_map.1 hp
    have : (findA t i).id = 20 + 2 * i := rfl
    unfold lowB; rw [this]; simp; omega
  · intro p hp
    obtain ⟨i, hi, rfl⟩ := List.mem_map.1 hp
    have := List.mem_range.1 hi
    have e : (markA t i).id = 3 * i := rfl
    unfold lowB; rw [e]; simp; omega
theorem mark_facts (t : TruthD) {k : Nat} (hk : k < nMarks t) : ((survA t).getD k dot0).id ≤ 19 ∧ 0 ≤ ((survA t).getD k dot0).tol ∧ ((survA t).getD k dot0).tol ≤ 8 := by
  have hn := nMarks_in t
  rw [survA_at t hk]
  have h1 : (markA t k).id = 3 * k := rfl
  have h2 : (markA t k).tol = tolD t k 0 := rfl
  have := tol_in t k 0
  omega
theorem mem_less {l : List DotD} {j k : Nat} (hj : j < l.length) (h : j ≠ k) : l.getD j dot0 ∈ lessD l k := by
  unfold lessD
  rw [List.mem_append]
  have e : l.getD j dot0 = l[j] := by rw [List.getD_eq_getElem?_getD, List.getElem?_eq_getElem hj]; rfl
  rw [e]
  rcases Nat.lt_or_gt_of_ne h with h | h
  · exact .inl (List.mem_take_iff_getElem.2 ⟨j, by omega, rfl⟩)
  · refine .inr ?_
    rw [List.mem_drop_iff_getElem]
    exact ⟨j - (k + 1), by omega, by congr 1; omega⟩
theorem survB_mem (t : TruthD) {i : Nat} (hi : i < nMarks t) : markB t i ∈ survB t := List.mem_append.2 (.inl (List.mem_map.2 ⟨i, List.mem_range.2 hi, rfl⟩))
/-- without a mark there are marks left exactly if there were several -/
theorem less_ne (t : TruthD) {k : Nat} (hk : k < nMarks t) : marksD (lessD (survA t) k) (survB t) ≠ [] ↔ 1 < nMarks t := by
  have hn := nMarks_in t
  have hl := survA_len t
  have hv := surv_valid t
  have hlv := less_valid hv.1 k
  constructor
  · intro h
    refine Decidable.byContradiction fun h1 => h ?_
    cases hm : marksD (lessD (survA t) k) (survB t) with
    | nil => rfl
    | cons r t' =>
      have hr : r ∈ marksD (lessD (survA t) k) (survB t) := by rw [hm]; simp
      unfold marksD at hr
      rw [hlv, hv.2, Bool.and_self, if_pos rfl, marksRaw_mem] at hr
      obtain ⟨h2, -, -, h3⟩ := hr
      have hk0 : k = 0 := by omega
      have hn1 : nMarks t = 1 := by omega
      unfold lessD survA at h2
      rw [hk0, hn1] at h2
      simp only [List.take_zero, List.nil_append, List.range_one, List.map_cons, List.map_nil, List.singleton_append, List.drop_succ_cons, List.drop_zero] at h2
      obtain ⟨i, hi, e⟩ := List.mem_map.1 h2
      rw [← e] at h3
      have : (findA t i).id = 20 + 2 * i := rfl
      omega
  · intro h1 he
    have hj : ∃ j, j < nMarks t ∧ j ≠ k := by
      by_cases h0 : k = 0
      · exact ⟨1, h1, by omega⟩
      · exact ⟨0, by omega, by omega⟩
    obtain ⟨j, hj, hjk⟩ := hj
    have hm := mem_less (l := survA t) (j := j) (k := k) (by omega) hjk
    rw [survA_at t hj] at hm
    have : (markA t j, markB t j) ∈ marksD (lessD (survA t) k) (survB t) := by
      unfold marksD
      rw [hlv, hv.2, Bool.and_self, if_pos rfl, marksRaw_mem]
      refine ⟨hm, survB_mem t hj, rfl, ?_⟩
      show (3 * (j : Int)) ≤ 19
      omega
    rw [he] at this; cases this
theorem wideOK (t : TruthD) {k : Nat} (hk : k < nMarks t) {d : Int} (hd : 0 ≤ d ∧ d < 20) : validD (wideD (survA t) k d) = true := by
  have := mark_facts t hk
  exact wide_valid (surv_valid t).1 hd.1 (show ((survA t).getD k dot0).tol + d ≤ 50 by omega)
theorem fits_some {a b : List DotD} {m : MotD} (h : fittingD a b m = true) : (fitsR a b).isEmpty = false := by
  have h' := (fitting_iff a b m).1 h
  obtain ⟨f, hf, -, -⟩ := (fits_iff h'.1 (m := m) ((mot_iff m).1 h'.2.1).1).1 h
  unfold fitsR
  rw [if_neg (by simp [h'.1])]
  cases h : fitsD a b with
  | nil => rw [h] at hf; cases hf
  | cons => rfl
theorem judge_of {a : List DotD} (t : TruthD) {m : MotD} (h : fittingD a (survB t) m = true) {i : Nat} (hi : i < (survB t).length) (hz : 19 < ((survB t).getD i dot0).id) : judgeD a (survB t) ((survB t).getD i dot0).id = some ((survB t).getD i dot0) := by
  unfold judgeD
  rw [fits_some h, if_neg (by decide), if_neg (by omega), find_uniq (asc_getD (surv_valid t).2) hi rfl]
theorem ver_kind (a b : List DotD) (q : DotD) : (verD a b q).kind = kindD (srch a b q true).isSome (srch a b q false).isSome := by
  unfold verD kindD
  cases (srch a b q true).isSome <;> cases (srch a b q false).isSome <;> rfl
/-- more motions: a verdict that is sure was so -/
theorem kind_mono {a a' b : List DotD} {q : DotD} {m : MotD} (hm : fittingD a b m = true) (hne : marksD a' b ≠ []) (hf : findsD a' = findsD a) (h : ∀ m, fittingD a b m = true → fittingD a' b m = true) (hk : (verD a' b q).kind ≠ 2) : (verD a b q).kind = (verD a' b q).kind := by
  have hne0 := ((fitting_iff a b m).1 hm).1
  rw [ver_kind, ver_kind]
  rw [ver_kind] at hk
  have key : ∀ c, (srch a b q c).isSome = true → (srch a' b q c).isSome = true := fun c hc =>
    (search_canBe osF_mem hne q c).2 (can_mono hf h ((search_canBe osF_mem hne0 q c).1 hc))
  refine kind_stays (key true) (key false) ?_ hk
  cases hc : anyB (boxesD (findsD a) q m.turn.toNat) m.dx m.dy
  · exact .inr ((search_canBe osF_mem hne0 q false).2 ⟨m, hm, hc⟩)
  · exact .inl ((search_canBe osF_mem hne0 q true).2 ⟨m, hm, hc⟩)
theorem narrow_fits (t : TruthD) {k : Nat} (hk : k < nMarks t) {d : Int} (hd : 0 ≤ d ∧ d < 20) (m : MotD) (h : fittingD (survA t) (survB t) m = true) : fittingD (wideD (survA t) k d) (survB t) m = true ∧ (1 < nMarks t → fittingD (lessD (survA t) k) (survB t) m = true) :=
  ⟨wide_fits (surv_valid t).1 hd.1 (wideOK t hk hd) m h, fun h1 => less_fits (surv_valid t).1 ((less_ne t hk).2 h1) h⟩
theorem narrow_judge (t : TruthD) {k : Nat} (hk : k < nMarks t) {d : Int} (hd : 0 ≤ d ∧ d < 20) {i : Nat} (hi : i < (survB t).length) (hz : 19 < ((survB t).getD i dot0).id) :
    let A := survA t; let B := survB t; let z := (B.getD i dot0).id
    judE A B z = 0 ∧ judE (wideD A k d) B z = 0 ∧ judE (lessD A k) B z = (if 1 < nMarks t then 0 else 110) ∧ ((judV (wideD A k d) B z).kind ≠ 2 → (judV A B z).kind = (judV (wideD A k d) B z).kind) ∧ (1 < nMarks t → (judV (lessD A k) B z).kind ≠ 2 → (judV A B z).kind = (judV (lessD A k) B z).kind) := by
  intro A B z
  have hf := mark_facts t hk
  have hw := way_fits t
  have hN := fun m h => narrow_fits t hk hd m h
  have j1 := judge_of t hw hi hz
  have j2 := judge_of t (hN _ hw).1 hi hz
  have hz' : ∀ {a}, judgeD a B z = some (B.getD i dot0) → judV a B z = verD a B (B.getD i dot0) := fun h => by unfold judV; rw [h]; rfl
  refine ⟨by unfold judE; rw [j1]; rfl, by unfold judE; rw [j2]; rfl, ?_, ?_, ?_⟩
  · by_cases h1 : 1 < nMarks t
    · rw [if_pos h1]
      have j3 := judge_of t ((hN _ hw).2 h1) hi hz
      unfold judE; rw [j3]; rfl
    · rw [if_neg h1]
      have : marksD (lessD A k) B = [] := by
        cases hm : marksD (lessD A k) B with
        | nil => rfl
        | cons r l => exact absurd ((less_ne t hk).1 (by show marksD (lessD A k) B ≠ []; rw [hm]; simp)) h1
      have h2 : (fitsR (lessD A k) B).isEmpty = true := by unfold fitsR; rw [this]; rfl
      unfold judE judgeD; rw [h2]; rfl
  · rw [hz' j1, hz' j2]
    refine kind_mono hw ?_ (wide_finds hf.1) fun m h => (hN m h).1
    exact ((fitting_iff _ _ _).1 (hN _ hw).1).1
  · intro h1
    have j3 := judge_of t ((hN _ hw).2 h1) hi hz
    rw [hz' j1, hz' j3]
    exact kind_mono hw ((less_ne t hk).2 h1) (less_finds hf.1) fun m h => (hN m h).2 h1
end Go.Proofs.YtoofkahklboojaaDoor
