/- Plain laws: a further row, rows left out. No condition. -/
import Derived.Test.YtppfdjjhloaopaaPmodF
namespace Go.Proofs.Ytppfdjjhloaopaa
open Go.RowKit

theorem good_more (vars : Int) (l : List RowD) (x : RowD) (g : List Int) : goodF ⟨vars, l ++ [x], g⟩ = (goodF ⟨vars, l, g⟩).filter (keptB x) := by
  unfold goodF goodUp
  rw [List.filter_filter]
  refine congrArg (fun f => List.filter f _) (funext fun s => ?_)
  simp [keptAll, Bool.and_comm]
theorem more_valid {vars : Int} {l : List RowD} {x : RowD} {g : List Int} (h : validB ⟨vars, l, g⟩ = true) (hx : rightB x vars = true) (hl : l.length ≤ 8) : validB ⟨vars, l ++ [x], g⟩ = true := by
  simp only [validB, Bool.and_eq_true] at h ⊢
  obtain ⟨⟨⟨⟨h1, h2⟩, h3⟩, h4⟩, h5⟩ := h
  refine ⟨⟨⟨⟨h1, ?_⟩, ?_⟩, h4⟩, h5⟩
  · simp [fewB]; omega
  · simp only [rowsB, List.all_append, Bool.and_eq_true]; exact ⟨h3, by simp [hx]⟩
/-- the indices below k whose bit is set -/
def bitsUp (b k : Nat) : List Int := ((List.range k).filter fun i => decide (b / 2 ^ i % 2 = 1)).map fun (i : Nat) => (i : Int)
theorem bitsUp_yes {b k : Nat} (h : b / 2 ^ k % 2 = 1) : bitsUp b (k + 1) = bitsUp b k ++ [(k : Int)] := by
  simp only [bitsUp, List.range_succ, List.filter_append, List.map_append, List.filter_cons, h]; simp
theorem bitsUp_no {b k : Nat} (h : ¬ b / 2 ^ k % 2 = 1) : bitsUp b (k + 1) = bitsUp b k := by
  simp only [bitsUp, List.range_succ, List.filter_append, List.map_append, List.filter_cons, h]; simp
theorem bitsUp_le (b k : Nat) : (bitsUp b k).length ≤ k := by
  have := List.length_filter_le (fun i => decide (b / 2 ^ i % 2 = 1)) (List.range k)
  simpa [bitsUp] using this
theorem mem_bitsUp (b k : Nat) (i : Nat) : memB (bitsUp b k) i = (decide (i < k) && decide (b / 2 ^ i % 2 = 1)) := by
  rw [Bool.eq_iff_iff]
  simp only [memB, List.any_eq_true, bitsUp, List.mem_map, List.mem_filter, List.mem_range, Bool.and_eq_true, decide_eq_true_eq, beq_iff_eq]
  constructor
  · rintro ⟨x, ⟨j, ⟨h1, h2⟩, rfl⟩, h3⟩
    have : j = i := by omega
    subst this; exact ⟨h1, h2⟩
  · rintro ⟨h1, h2⟩
    exact ⟨_, ⟨i, ⟨h1, h2⟩, rfl⟩, rfl⟩
theorem bitsUp_sorted (b k : Nat) : (bitsUp b k).Pairwise (· < ·) := by
  unfold bitsUp
  rw [List.pairwise_map]
  exact (List.Pairwise.filter _ List.pairwise_lt_range).imp fun h => by omega
theorem pairwise_getD {l : List Int} (h : l.Pairwise (· < ·)) {i j : Nat} (hij : i < j) (hj : j < l.length) : l.getD i 0 < l.getD j 0 := by
  have := List.pairwise_iff_getElem.1 h i j (by omega) hj hij
  rwa [List.getD_eq_getElem?_getD, List.getD_eq_getElem?_getD, List.getElem?_eq_getElem (by omega), List.getElem?_eq_getElem hj]
theorem bitsUp_ok (b n : Nat) : okUp (bitsUp b n) n (bitsUp b n).length = true := by
  refine List.all_eq_true.2 fun i hi => ?_
  rw [List.mem_range] at hi
  have hm := getD_mem (bitsUp b n) i (d := 0) hi
  obtain ⟨j, hj, e⟩ := List.mem_map.1 hm
  have hj2 := List.mem_range.1 (List.mem_filter.1 hj).1
  simp only [okAt, Bool.and_eq_true, Bool.or_eq_true, isInB, decide_eq_true_eq]
  refine ⟨by rw [← e]; omega, ?_⟩
  rcases Nat.eq_zero_or_pos i with h0 | h0
  · exact .inl h0
  · exact .inr (pairwise_getD (bitsUp_sorted b n) (by omega) hi)
theorem kept_len (l : List RowD) (b : Nat) : ∀ k, k ≤ l.length → (keptUp l (bitsUp b l.length) k).length + (bitsUp b k).length = k
  | 0, _ => rfl
  | k + 1, h => by
    have ih := kept_len l b k (by omega)
    have hm := mem_bitsUp b l.length k
    rw [decide_eq_true (by omega : k < l.length), Bool.true_and] at hm
    by_cases hb : b / 2 ^ k % 2 = 1
    · rw [keptUp_no (by rw [hm]; exact decide_eq_true hb), bitsUp_yes hb, List.length_append]
      simp; omega
    · rw [keptUp_yes (by rw [hm]; exact decide_eq_false hb), bitsUp_no hb, List.length_append]
      simp; omega
theorem keptUp_mem {l : List RowD} {rows : List Int} {k : Nat} (hk : k ≤ l.length) {r : RowD} (h : r ∈ keptUp l rows k) : r ∈ l := by
  obtain ⟨i, hi, rfl⟩ := List.mem_map.1 h
  have := List.mem_range.1 (List.mem_filter.1 hi).1
  exact getD_mem l i (by omega)
theorem without_form {vars : Int} {l : List RowD} {g : List Int} (hv : validB ⟨vars, l, g⟩ = true) (b : Nat) :
    withoutF ⟨vars, l, g⟩ (bitsUp b l.length) = ⟨vars, keptUp l (bitsUp b l.length) l.length, g⟩ ∧ errW ⟨vars, l, g⟩ (bitsUp b l.length) = 0 := by
  have h : okW ⟨vars, l, g⟩ (bitsUp b l.length) = true := by
    have h1 : okUp (bitsUp b l.length) l.length (bitsUp b l.length).length = true := bitsUp_ok b l.length
    unfold okW; rw [hv]; simpa using h1
  unfold withoutF errW
  rw [h]; exact ⟨rfl, rfl⟩
theorem without_valid {vars : Int} {l : List RowD} {g : List Int} (hv : validB ⟨vars, l, g⟩ = true) (b : Nat) : validB ⟨vars, keptUp l (bitsUp b l.length) l.length, g⟩ = true := by
  have hle := keptUp_le l (bitsUp b l.length) l.length
  have hr : ∀ r ∈ keptUp l (bitsUp b l.length) l.length, rightB r vars = true := fun r hr => valid_right hv (keptUp_mem (Nat.le_refl _) hr)
  simp only [validB, Bool.and_eq_true] at hv ⊢
  obtain ⟨⟨⟨⟨h1, h2⟩, h3⟩, h4⟩, h5⟩ := hv
  refine ⟨⟨⟨⟨h1, ?_⟩, List.all_eq_true.2 hr⟩, h4⟩, h5⟩
  simp [fewB] at h2 ⊢; omega
theorem good_less {vars : Int} {l : List RowD} {g : List Int} (b : Nat) {s : Nat} (h : s ∈ goodF ⟨vars, l, g⟩) : s ∈ goodF ⟨vars, keptUp l (bitsUp b l.length) l.length, g⟩ := by
  unfold goodF at h ⊢
  obtain ⟨h1, h2⟩ := mem_goodUp.1 h
  refine mem_goodUp.2 ⟨h1, List.all_eq_true.2 fun r hr => List.all_eq_true.1 h2 r (keptUp_mem (Nat.le_refl _) hr)⟩
/-- where an element stands in a greater list -/
theorem place_of {A C : List Nat} (hs : ∀ s ∈ A, s ∈ C) {k : Nat} (hk : k < A.length) : ∃ m, m < C.length ∧ C.getD m 0 = A.getD k 0 := by
  obtain ⟨m, hm, e⟩ := List.getElem_of_mem (hs _ (getD_mem A k (d := 0) hk))
  exact ⟨m, hm, by rw [List.getD_eq_getElem?_getD, List.getElem?_eq_getElem hm]; exact e⟩
theorem sorted_lt {C : List Nat} (hC : C.Pairwise (· < ·)) {i j : Nat} (hij : i < j) (hj : j < C.length) : C.getD i 0 < C.getD j 0 := by
  have := List.pairwise_iff_getElem.1 hC i j (by omega) hj hij
  rwa [List.getD_eq_getElem?_getD, List.getD_eq_getElem?_getD, List.getElem?_eq_getElem (by omega), List.getElem?_eq_getElem hj]
theorem sorted_place {C : List Nat} (hC : C.Pairwise (· < ·)) {i j : Nat} (hi : i < C.length) (h : C.getD i 0 < C.getD j 0) (hj : j < C.length) : i < j := by
  rcases Nat.lt_or_ge i j with h1 | h1
  · exact h1
  · rcases Nat.lt_or_ge j i with h2 | h2
    · have := sorted_lt hC h2 hi; omega
    · obtain rfl : i = j := by omega
      omega
theorem filter_at {A : List Nat} {f : Nat → Bool} {k : Nat} (hk : k < A.length) (h : f (A.getD k 0) = true) :
    ((A.take k).filter f).length < (A.filter f).length ∧ (A.filter f).getD ((A.take k).filter f).length 0 = A.getD k 0 ∧ ((A.take (k + 1)).filter f).length = ((A.take k).filter f).length + 1 := by
  have e : A.filter f = (A.take k).filter f ++ (A.getD k 0 :: (A.drop (k + 1)).filter f) := by
    have h1 : A = A.take k ++ (A.getD k 0 :: A.drop (k + 1)) := by
      rw [List.getD_eq_getElem?_getD, List.getElem?_eq_getElem hk]
      simp
    rw [List.getD_eq_getElem?_getD, List.getElem?_eq_getElem hk] at h
    conv => lhs; rw [h1, List.filter_append, List.filter_cons, List.getD_eq_getElem?_getD, List.getElem?_eq_getElem hk]
    rw [List.getD_eq_getElem?_getD, List.getElem?_eq_getElem hk]
    simp at h
    simp [h]
  refine ⟨by rw [e]; simp, ?_, ?_⟩
  · rw [e, getD_app_right _ _ _ _ (Nat.le_refl _)]; simp
  · rw [take_succ' A k 0 hk, List.filter_append, List.length_append, List.filter_cons, h]; simp
theorem filter_no {A : List Nat} {f : Nat → Bool} {k : Nat} (hk : k < A.length) (h : f (A.getD k 0) = false) : ((A.take (k + 1)).filter f).length = ((A.take k).filter f).length := by
  rw [take_succ' A k 0 hk, List.filter_append, List.length_append, List.filter_cons, h]; simp
theorem map_getD (l : List Nat) (k : Nat) : (l.map fun (s : Nat) => (s : Int)).getD k 0 = ((l.getD k 0 : Nat) : Int) := by
  rw [List.getD_eq_getElem?_getD, List.getElem?_map, List.getD_eq_getElem?_getD]
  cases l[k]? <;> simp
/-- the gain does not grow -/
theorem best_more {n : Nat} {l : List RowD} {x : RowD} {g : List Int} (h : (bestF ⟨n, l ++ [x], g⟩).found = true) : (bestF ⟨n, l, g⟩).found = true ∧ (bestF ⟨n, l ++ [x], g⟩).gain ≤ (bestF ⟨n, l, g⟩).gain := by
  obtain ⟨-, h1⟩ := bestF_spec (p := ⟨n, l ++ [x], g⟩) rfl
  obtain ⟨h2, h3⟩ := bestF_spec (p := ⟨n, l, g⟩) rfl
  obtain ⟨a1, a2, a3, -⟩ := h1 h
  have a4 : keptAll l (bestF ⟨n, l ++ [x], g⟩).set = true := by
    have a2 : keptAll (l ++ [x]) (bestF ⟨n, l ++ [x], g⟩).set = true := a2
    simp only [keptAll, List.all_append, Bool.and_eq_true] at a2; exact a2.1
  cases hf : (bestF ⟨n, l, g⟩).found
  · have := (h2 hf).2.2 _ a1
    have h5 : keptAll l (bestF ⟨n, l ++ [x], g⟩).set = false := this
    rw [a4] at h5; cases h5
  · refine ⟨rfl, ?_⟩
    have := ((h3 hf).2.2.2 _ a1 a4).1
    have a5 : (bestF ⟨n, l ++ [x], g⟩).gain = chosenF g (bestF ⟨n, l ++ [x], g⟩).set := a3
    rw [a5]; exact this
end Go.Proofs.Ytppfdjjhloaopaa
