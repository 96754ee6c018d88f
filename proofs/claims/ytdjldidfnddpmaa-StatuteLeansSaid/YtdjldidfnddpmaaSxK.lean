/- Plain: what is left of laws when only what a proof leans on stays. No condition. -/
import Derived.Test.YtdjldidfnddpmaaSvB
namespace Go.Proofs.Ytdjldidfnddpmaa
theorem uses_in {c : CodeD} {q : QueryD} {n : Int} {h : Bool} {l : List FindD} (hp : provesB c (factsF c q) (clausesF c q) n h l = true) :
    (∀ i ∈ usesF l, 0 ≤ i ∧ i.toNat ∈ factsF c q) ∧ ∀ i ∈ usesC c (clausesF c q) l, 0 ≤ i ∧ i.toNat ∈ clausesF c q := by
  obtain ⟨-, a2, -⟩ := proves_iff.1 hp
  obtain ⟨-, hU⟩ := usesF_spec l
  obtain ⟨-, hV⟩ := usesC_spec c (clausesF c q) l
  refine ⟨fun i hi => ?_, fun i hi => ?_⟩
  · obtain ⟨y, hy, hm⟩ := (hU i).1 hi
    unfold leanF at hm
    split at hm
    · rename_i h0
      rw [List.mem_singleton] at hm
      subst hm
      have := (a2 y hy).2
      unfold rightB at this
      split at this
      · rw [List.any_eq_true] at this
        obtain ⟨k, hk, h3⟩ := this
        simp only [Bool.and_eq_true, decide_eq_true_eq] at h3
        exact ⟨h0, by rw [h3.1]; simpa using hk⟩
      · split at this <;> simp only [Bool.and_eq_true, decide_eq_true_eq] at this
        · omega
        · omega
    · cases hm
  · obtain ⟨y, hy, hm⟩ := (hV i).1 hi
    unfold leanC at hm
    split at hm
    · cases hm
    · split at hm
      · rename_i h0 h1
        rw [List.mem_singleton] at hm
        subst hm
        have := (a2 y hy).2
        unfold rightB at this
        split at this
        · rename_i h2
          simp only [Bool.and_eq_true, decide_eq_true_eq] at h2
          omega
        · split at this
          · simp only [Bool.and_eq_true, List.any_eq_true, decide_eq_true_eq] at this
            obtain ⟨-, k, hk, ⟨⟨h3, -⟩, -⟩, -⟩ := this
            exact ⟨h1, by rw [h3]; simpa using hk⟩
          · simp only [Bool.and_eq_true, decide_eq_true_eq] at this
            omega
      · obtain ⟨k, hk, rfl⟩ := List.mem_map.1 hm
        exact ⟨by omega, by simpa using (List.mem_filter.1 hk).1⟩
/-- the law of what a proof leans on -/
theorem leans_law {c : CodeD} {q : QueryD} (hV : validC c = true) (hq : asksB q = true) :
    let U := usesF (decideP c q)
    let V := usesC c (clausesF c q) (decideP c q)
    validC (lessC c U V) = true ∧ answerB (lessC c U V) q = answerB c q ∧ checkB (lessC c U V) q (answerB c q) ((decideP c q).map (movedF U V)) = true ∧ AscI U ∧ AscI V ∧
    (∀ i ∈ U, 0 ≤ i ∧ i < (c.facts.length : Int)) ∧ (∀ i ∈ V, 0 ≤ i ∧ i < (c.clauses.length : Int)) ∧ (decideP c q).length ≤ 20 := by
  intro U V
  have hd := decide_proves hV hq
  simp only [checkB, Bool.and_eq_true] at hd
  obtain ⟨hUi, hVi⟩ := uses_in hd.2
  have hU := (usesF_spec (decideP c q)).1
  have hVV := (usesC_spec c (clausesF c q) (decideP c q)).1
  have hUb : ∀ i ∈ U, 0 ≤ i ∧ i < (c.facts.length : Int) := fun i hi => ⟨(hUi i hi).1, by have := (factsF_lt (hUi i hi).2).1; omega⟩
  have hVb : ∀ i ∈ V, 0 ≤ i ∧ i < (c.clauses.length : Int) := fun i hi => ⟨(hVi i hi).1, by have := (clausesF_lt (hVi i hi).2).1; omega⟩
  have hv := less_valid hV hU hVV hUb hVb
  have hck : checkB (lessC c U V) q (answerB c q) ((decideP c q).map (movedF U V)) = true := by
    simp only [checkB, Bool.and_eq_true]
    refine ⟨⟨hv, hq⟩, ?_⟩
    rw [less_facts hUi, less_clauses hVi]
    exact leans_proves hd.2
  exact ⟨hv, (check_one hck).symm, hck, hU, hVV, hUb, hVb, proves_len hd.2⟩
theorem idxI_first {n : Int} : ∀ {l : List Int} {k : Nat}, k < l.length → n ∉ l.take k → l.getD k 0 = n → idxI l n = k
  | [], _, h, _, _ => by simp at h
  | x :: l, 0, _, _, h => by
    have : x = n := by simpa using h
    simp [idxI, this]
  | x :: l, k + 1, h0, h1, h2 => by
    have hx : x ≠ n := fun e => h1 (by simp [e])
    have ih := idxI_first (l := l) (k := k) (n := n) (by simpa using h0) (fun h => h1 (by simp [h])) (by simpa [List.getD_eq_getElem?_getD] using h2)
    simp only [idxI]
    rw [if_neg hx, ih, if_neg (by omega)]; simp
theorem asc_at {l : List Int} (h : AscI l) {i : Nat} (h0 : 0 < i) (hi : i < l.length) : l.getD (i - 1) 0 < l.getD i 0 := by
  unfold AscI at h
  rw [List.pairwise_iff_getElem] at h
  have := h (i - 1) i (by omega) hi (by omega)
  simp only [List.getD_eq_getElem?_getD, List.getElem?_eq_getElem hi, List.getElem?_eq_getElem (show i - 1 < l.length by omega)]
  exact this
/-- the repeals that stay, of the first k -/
def lessR (c : CodeD) (V : List Int) (k : Nat) : List RepealD := (((c.repeals.take k).filter fun r => decide (0 ≤ idxI V r.clause)).map fun r => ⟨idxI V r.clause, r.pub, r.from_⟩)
theorem lessR_succ (c : CodeD) (V : List Int) {k : Nat} (h : k < c.repeals.length) : lessR c V (k + 1) = if 0 ≤ idxI V (c.repeals.getD k repeal0).clause then lessR c V k ++ [⟨idxI V (c.repeals.getD k repeal0).clause, (c.repeals.getD k repeal0).pub, (c.repeals.getD k repeal0).from_⟩] else lessR c V k := by
  unfold lessR
  have e : c.repeals.take (k + 1) = c.repeals.take k ++ [c.repeals.getD k repeal0] := by
    rw [List.take_add_one, List.getElem?_eq_getElem h, List.getD_eq_getElem?_getD, List.getElem?_eq_getElem h]; rfl
  rw [e, List.filter_append, List.map_append]
  generalize c.repeals.getD k repeal0 = r
  by_cases h1 : 0 ≤ idxI V r.clause
  · rw [if_pos h1]; simp [h1]
  · rw [if_neg h1]; simp [h1]
theorem lessR_len (c : CodeD) (V : List Int) (k : Nat) : (lessR c V k).length ≤ k := by
  unfold lessR
  rw [List.length_map]
  exact Nat.le_trans (List.length_filter_le _ _) (by rw [List.length_take]; omega)
theorem lessR_all (c : CodeD) (U V : List Int) : lessR c V c.repeals.length = (lessC c U V).repeals := by
  unfold lessR lessC; rw [List.take_length]
end Go.Proofs.Ytdjldidfnddpmaa
