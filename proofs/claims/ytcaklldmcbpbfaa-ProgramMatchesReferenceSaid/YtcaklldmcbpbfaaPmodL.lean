/- Plain words for the reference of programs: its own ways lead to the same answers. No condition. -/
import Derived.Test.YtcaklldmcbpbfaaPmodC
namespace Go.Proofs.Ytcaklldmcbpbfaa

theorem broken_none (l : List RowD) (s : Nat) : decide ((brokenUp l s l.length).length = 0) = l.all fun r => decide (chosenF r.coef s ≤ r.most) := by
  rw [Bool.eq_iff_iff, decide_eq_true_eq, List.all_eq_true]
  unfold brokenUp
  rw [List.length_map, List.length_eq_zero_iff, List.filter_eq_nil_iff]
  constructor
  · intro h r hr
    obtain ⟨i, hi, rfl⟩ := List.getElem_of_mem hr
    have := h i (List.mem_range.2 hi)
    rw [List.getD_eq_getElem?_getD, List.getElem?_eq_getElem hi] at this
    simpa [keptB] using this
  · intro h i hi
    have hi := List.mem_range.1 hi
    have := h _ (List.getElem_mem hi)
    rw [List.getD_eq_getElem?_getD, List.getElem?_eq_getElem hi]
    simpa [keptB] using this
theorem keeps_broken (p : ProgD) (s : Int) : keepsB p s = (choiceB p s && decide ((brokenF p s).length = 0)) := by
  unfold keepsB brokenF
  cases h : choiceB p s
  · rfl
  · rw [if_pos rfl, broken_none]
/-- the first of the best of a list, from its end -/
def downStep (g : List Int) (s : Nat) (b : BestD) : BestD := if b.found && decide (chosenF g s < b.gain) then b else ⟨true, s, chosenF g s⟩
def bestDown (g : List Int) (l : List Nat) : BestD := l.foldr (downStep g) best0
theorem foldl_best (g : List Int) : ∀ (l : List Nat) (b : BestD), b.found = true → l.foldl (bestStep g) b = if (bestUp g l).found && decide (b.gain < (bestUp g l).gain) then bestUp g l else b
  | [], b, _ => by simp [bestUp, best0]
  | x :: l, b, hb => by
    have i1 := foldl_best g l ⟨true, x, chosenF g x⟩ rfl
    have i2 := foldl_best g l b hb
    have e0 : bestStep g best0 x = ⟨true, x, chosenF g x⟩ := by simp [bestStep, best0]
    have hU : bestUp g (x :: l) = List.foldl (bestStep g) ⟨true, x, chosenF g x⟩ l := by
      show List.foldl (bestStep g) (bestStep g best0 x) l = _
      rw [e0]
    rw [hU, i1]
    have hs : bestStep g b x = if chosenF g x ≤ b.gain then b else ⟨true, x, chosenF g x⟩ := by unfold bestStep; simp [hb]
    show List.foldl (bestStep g) (bestStep g b x) l = _
    rw [hs]
    generalize bestUp g l = U at *
    generalize chosenF g x = c at *
    obtain ⟨uf, us, ug⟩ := U
    obtain ⟨bf, bs, bg⟩ := b
    have hb : bf = true := hb
    subst hb
    clear hs hU e0
    by_cases hc : c ≤ bg
    · rw [if_pos hc, i2]
      cases uf
      · simp; omega
      · by_cases h1 : bg < ug
        · have h2 : c < ug := by omega
          simp [h1, h2]
        · by_cases h2 : c < ug
          · simp [h1, h2]
          · simp [h1, h2]; omega
    · rw [if_neg hc, i1]
      cases uf
      · simp; omega
      · by_cases h2 : c < ug
        · have h1 : bg < ug := by omega
          simp [h1, h2]
        · have h3 : bg < c := by omega
          simp [h2, h3]
theorem bestDown_eq (g : List Int) : ∀ l : List Nat, bestDown g l = bestUp g l
  | [] => rfl
  | x :: l => by
    have e0 : bestStep g best0 x = ⟨true, x, chosenF g x⟩ := by simp [bestStep, best0]
    show downStep g x (bestDown g l) = List.foldl (bestStep g) (bestStep g best0 x) l
    rw [bestDown_eq g l, e0, foldl_best g l _ rfl]
    unfold downStep
    generalize bestUp g l = U
    cases h : U.found && decide (chosenF g x < U.gain) <;> simp
theorem bestDown_step {g : List Int} {l : List Nat} {i : Nat} (h : i < l.length) : bestDown g (l.drop i) = downStep g (l.getD i 0) (bestDown g (l.drop (i + 1))) := by
  rw [List.drop_eq_getElem_cons h, List.getD_eq_getElem?_getD, List.getElem?_eq_getElem h]; rfl
/-- how many of an ascending list of indices are met among the first k -/
def atK (rows : List Int) : Nat → Nat
  | 0 => 0
  | k + 1 => if decide (atK rows k < rows.length) && decide (rows.getD (atK rows k) 0 = (k : Int)) then atK rows k + 1 else atK rows k
def hitK (rows : List Int) (k : Nat) : Bool := decide (atK rows k < rows.length) && decide (rows.getD (atK rows k) 0 = (k : Int))
def outK (l : List RowD) (rows : List Int) (k : Nat) : List RowD := ((List.range k).filter fun (i : Nat) => !hitK rows i).map fun i => l.getD i row0
theorem atK_yes {rows : List Int} {k : Nat} (h : hitK rows k = true) : atK rows (k + 1) = atK rows k + 1 := by
  unfold hitK at h; simp only [atK]; rw [if_pos h]
theorem atK_no {rows : List Int} {k : Nat} (h : hitK rows k = false) : atK rows (k + 1) = atK rows k := by
  unfold hitK at h; simp only [atK]; rw [if_neg (by rw [h]; simp)]
theorem outK_no {l : List RowD} {rows : List Int} {k : Nat} (h : hitK rows k = false) : outK l rows (k + 1) = outK l rows k ++ [l.getD k row0] := by
  simp only [outK, List.range_succ, List.filter_append, List.map_append, List.filter_cons, h]; simp
theorem outK_yes {l : List RowD} {rows : List Int} {k : Nat} (h : hitK rows k = true) : outK l rows (k + 1) = outK l rows k := by
  simp only [outK, List.range_succ, List.filter_append, List.map_append, List.filter_cons, h]; simp
theorem outK_le (l : List RowD) (rows : List Int) (k : Nat) : (outK l rows k).length ≤ k := by
  have := List.length_filter_le (fun (i : Nat) => !hitK rows i) (List.range k)
  simpa [outK] using this
theorem atK_le (rows : List Int) : ∀ k, atK rows k ≤ rows.length ∧ atK rows k ≤ k
  | 0 => by simp [atK]
  | k + 1 => by
    have ih := atK_le rows k
    cases h : hitK rows k
    · rw [atK_no h]; omega
    · rw [atK_yes h]
      simp only [hitK, Bool.and_eq_true, decide_eq_true_eq] at h
      omega
theorem atK_mono (rows : List Int) {a : Nat} : ∀ {b : Nat}, a ≤ b → atK rows a ≤ atK rows b
  | 0, h => by obtain rfl : a = 0 := by omega
               exact Nat.le_refl _
  | b + 1, h => by
    rcases Nat.lt_or_ge b a with h1 | h1
    · obtain rfl : a = b + 1 := by omega
      exact Nat.le_refl _
    · have ih := atK_mono rows h1
      cases hh : hitK rows b
      · rw [atK_no hh]; exact ih
      · rw [atK_yes hh]; omega
theorem atK_met (rows : List Int) : ∀ k j, j < atK rows k → ∃ m, m < k ∧ rows.getD j 0 = (m : Int) ∧ atK rows m = j
  | 0, j, h => by simp [atK] at h
  | k + 1, j, h => by
    cases hh : hitK rows k
    · rw [atK_no hh] at h
      obtain ⟨m, h1, h2, h3⟩ := atK_met rows k j h
      exact ⟨m, by omega, h2, h3⟩
    · rw [atK_yes hh] at h
      rcases Nat.lt_or_ge j (atK rows k) with h4 | h4
      · obtain ⟨m, h1, h2, h3⟩ := atK_met rows k j h4
        exact ⟨m, by omega, h2, h3⟩
      · obtain rfl : j = atK rows k := by omega
        simp only [hitK, Bool.and_eq_true, decide_eq_true_eq] at hh
        exact ⟨k, by omega, hh.2, rfl⟩
theorem atK_ok {rows : List Int} {n : Nat} (h : atK rows n = rows.length) : okUp rows n rows.length = true := by
  refine List.all_eq_true.2 fun i hi => ?_
  have hi := List.mem_range.1 hi
  obtain ⟨m, h1, h2, h3⟩ := atK_met rows n i (by omega)
  simp only [okAt, isInB, Bool.and_eq_true, Bool.or_eq_true, decide_eq_true_eq]
  refine ⟨by omega, ?_⟩
  rcases Nat.eq_zero_or_pos i with h0 | h0
  · exact .inl h0
  · right
    obtain ⟨m', h1', h2', h3'⟩ := atK_met rows n (i - 1) (by omega)
    rw [h2, h2']
    rcases Nat.lt_or_ge m' m with h4 | h4
    · omega
    · have := atK_mono rows h4
      omega
theorem ok_atK {rows : List Int} {n : Nat} (h : okUp rows n rows.length = true) : atK rows n = rows.length := by
  have ha := okUp_asc h
  have hr : ∀ j, j < rows.length → 0 ≤ rows.getD j 0 ∧ rows.getD j 0 < n := fun j hj => by
    have := List.all_eq_true.1 h j (List.mem_range.2 hj)
    simp only [okAt, isInB, Bool.and_eq_true, decide_eq_true_eq] at this
    omega
  have key : ∀ k, ∀ j, atK rows k ≤ j → j < rows.length → (k : Int) ≤ rows.getD j 0 := by
    intro k
    induction k with
    | zero => intro j _ hj; exact (hr j hj).1
    | succ k ih =>
      intro j h1 hj
      cases hh : hitK rows k
      · rw [atK_no hh] at h1
        have h2 := ih (atK rows k) (Nat.le_refl _) (by omega)
        have h3 : rows.getD (atK rows k) 0 ≤ rows.getD j 0 := by
          rcases Nat.lt_or_ge (atK rows k) j with h4 | h4
          · exact Int.le_of_lt (ha _ _ h4 hj)
          · obtain rfl : j = atK rows k := by omega
            exact Int.le_refl _
        have h5 : rows.getD (atK rows k) 0 ≠ (k : Int) := fun he => by
          simp only [hitK, Bool.and_eq_false_iff, decide_eq_false_iff_not] at hh
          rcases hh with h6 | h6
          · omega
          · exact h6 he
        omega
      · rw [atK_yes hh] at h1
        simp only [hitK, Bool.and_eq_true, decide_eq_true_eq] at hh
        have := ha (atK rows k) j (by omega) hj
        omega
  have hle := atK_le rows n
  rcases Nat.lt_or_ge (atK rows n) rows.length with h1 | h1
  · have h2 := key n _ (Nat.le_refl _) h1
    have h3 := hr _ h1
    omega
  · omega
theorem hit_mem {rows : List Int} {n : Nat} (h : atK rows n = rows.length) {k : Nat} : hitK rows k = memB rows k := by
  rw [Bool.eq_iff_iff]
  simp only [hitK, memB, Bool.and_eq_true, decide_eq_true_eq, List.any_eq_true]
  constructor
  · rintro ⟨h1, h2⟩
    exact ⟨_, getD_mem rows _ h1, by rw [h2]; simp⟩
  · rintro ⟨x, hx, he⟩
    obtain ⟨j, hj, rfl⟩ := List.getElem_of_mem hx
    have he : rows[j] = (k : Int) := by simpa using he
    obtain ⟨m, h1, h2, h3⟩ := atK_met rows n j (by omega)
    rw [List.getD_eq_getElem?_getD, List.getElem?_eq_getElem hj] at h2
    have h2 : rows[j] = (m : Int) := h2
    obtain rfl : m = k := by omega
    rw [h3]
    exact ⟨hj, by rw [List.getD_eq_getElem?_getD, List.getElem?_eq_getElem hj]; exact h2⟩
theorem outK_eq {l : List RowD} {rows : List Int} {n : Nat} (h : atK rows n = rows.length) : outK l rows n = keptUp l rows n := by
  unfold outK keptUp
  congr 1
  exact List.filter_congr fun i _ => by rw [hit_mem h]
theorem okW_at (p : ProgD) (l : List Int) : okW p l = (validB p && decide (l.length ≤ p.rows.length) && decide (atK l p.rows.length = l.length)) := by
  unfold okW
  cases hV : validB p
  · simp
  · cases h : okUp l p.rows.length l.length
    · have : ¬ atK l p.rows.length = l.length := fun he => by have := atK_ok he; rw [h] at this; cases this
      simp [this]
    · have h1 := okUp_len h
      have h2 := ok_atK h
      simp [h1, h2]
end Go.Proofs.Ytcaklldmcbpbfaa
