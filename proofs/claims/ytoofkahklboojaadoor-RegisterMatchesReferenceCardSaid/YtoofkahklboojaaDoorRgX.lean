/- Register, in plain words: without a mark, or with a greater tolerance; two motions one after the other. No program in sight. No condition. -/
import Derived.Test.YtoofkahklboojaaDoorRgV
import Derived.Test.YtoofkahklboojaaDoorRgW
namespace Go.Proofs.YtoofkahklboojaaDoor

/-- a survey with weaker marks: whatever fitted still fits -/
theorem fits_mono {a a' b : List DotD} (hne : marksD a' b ≠ []) (h : ∀ r ∈ marksD a' b, ∃ s ∈ marksD a b, ∀ k x y, hasB (shiftD k s.1 s.2) x y = true → hasB (shiftD k r.1 r.2) x y = true) {m : MotD} (hf : fittingD a b m = true) : fittingD a' b m = true := by
  rw [fitting_iff] at hf ⊢
  refine ⟨hne, hf.2.1, fun r hr => ?_⟩
  obtain ⟨s, hs, hh⟩ := h r hr
  exact hh _ _ _ (hf.2.2 s hs)
theorem can_mono {a a' b : List DotD} (hfi : findsD a' = findsD a) (h : ∀ m, fittingD a b m = true → fittingD a' b m = true) {q : DotD} {c : Bool} (hc : canBe a b q c) : canBe a' b q c := by
  obtain ⟨m, hm, ha⟩ := hc
  exact ⟨m, h m hm, by rw [hfi]; exact ha⟩
/-- a greater tolerance -/
def widen (p : DotD) (d : Int) : DotD := ⟨p.id, p.x, p.y, p.tol + d⟩
theorem widen_shift {p q : DotD} {d : Int} (hd : 0 ≤ d) (k : Nat) (x y : Int) (h : hasB (shiftD k p q) x y = true) : hasB (shiftD k (widen p d) q) x y = true := by
  rw [has_iff] at h ⊢
  unfold shiftD widen at *
  simp only [] at h ⊢
  omega
theorem set_mem {α : Type} {l : List α} {k : Nat} {v x : α} (h : x ∈ l.set k v) : x = v ∨ x ∈ l := (List.mem_or_eq_of_mem_set h).symm
/-- one of the marks, with a greater tolerance -/
def wideD (a : List DotD) (k : Nat) (d : Int) : List DotD := a.set k (widen (a.getD k ⟨0, 0, 0, 0⟩) d)
theorem wide_ids (a : List DotD) (k : Nat) (d : Int) : (wideD a k d).map (·.id) = a.map (·.id) := by
  unfold wideD
  rw [List.map_set]
  apply List.ext_getElem?
  intro i
  rw [List.getElem?_set]
  split
  · rename_i h
    subst h
    split
    · rename_i hl
      rw [List.length_map] at hl
      rw [List.getElem?_map, List.getElem?_eq_getElem hl, List.getD_eq_getElem?_getD, List.getElem?_eq_getElem hl]; rfl
    · rename_i hl
      rw [List.getElem?_eq_none (by omega)]
  · rfl
theorem asc_ids : ∀ {l : List DotD}, ascB l = true ↔ (l.map (·.id)).Pairwise (· < ·)
  | [] => by simp [ascB]
  | [p] => by simp [ascB]
  | p :: q :: t => by
    have ih := asc_ids (l := q :: t)
    rw [ascB, Bool.and_eq_true, decide_eq_true_eq, ih]
    simp only [List.map_cons, List.pairwise_cons]
    constructor
    · rintro ⟨h, h1, h2⟩
      refine ⟨fun x hx => ?_, h1, h2⟩
      rcases List.mem_cons.1 hx with rfl | hx
      · exact h
      · have := h1 x hx; omega
    · rintro ⟨h, h1, h2⟩
      exact ⟨h _ (by simp), h1, h2⟩
theorem wide_valid {a : List DotD} (h : validD a = true) {k : Nat} {d : Int} (hd : 0 ≤ d) (ht : (a.getD k ⟨0, 0, 0, 0⟩).tol + d ≤ 50) : validD (wideD a k d) = true := by
  unfold validD at h ⊢
  rw [Bool.and_eq_true, Bool.and_eq_true, decide_eq_true_eq] at h ⊢
  obtain ⟨⟨h1, h2⟩, h3⟩ := h
  refine ⟨⟨?_, ?_⟩, ?_⟩
  · rw [asc_ids, wide_ids, ← asc_ids]; exact h1
  · rw [List.all_eq_true] at h2 ⊢
    intro x hx
    by_cases hk : k < a.length
    · rcases set_mem hx with rfl | hx
      · have hm : a.getD k ⟨0, 0, 0, 0⟩ ∈ a := by rw [List.getD_eq_getElem?_getD, List.getElem?_eq_getElem hk]; exact List.getElem_mem hk
        have := h2 _ hm
        unfold dotOk widen at *
        rw [decide_eq_true_eq] at this ⊢
        simp only [] at this ⊢
        omega
      · exact h2 x hx
    · have e : wideD a k d = a := by unfold wideD; exact List.set_eq_of_length_le (by omega)
      rw [e] at hx; exact h2 x hx
  · unfold wideD; rw [List.length_set]; exact h3
theorem wide_finds {a : List DotD} {k : Nat} {d : Int} (h : (a.getD k ⟨0, 0, 0, 0⟩).id ≤ 19) : findsD (wideD a k d) = findsD a := by
  have key : ∀ (l : List DotD) (k : Nat) (v : DotD), v.id ≤ 19 → (l.getD k ⟨0, 0, 0, 0⟩).id ≤ 19 → findsD (l.set k v) = findsD l := by
    intro l
    induction l with
    | nil => intro k v _ _; rfl
    | cons p t ih =>
      intro k v hv hk
      cases k with
      | zero =>
        have hp : p.id ≤ 19 := hk
        unfold findsD
        rw [List.set_cons_zero, List.filter_cons, List.filter_cons, decide_eq_false (by omega), decide_eq_false (by omega)]
        rfl
      | succ k =>
        have := ih k v hv hk
        unfold findsD at this ⊢
        rw [List.set_cons_succ, List.filter_cons, List.filter_cons, this]
  exact key a k _ h h
theorem wide_fits {a b : List DotD} (ha : validD a = true) {k : Nat} {d : Int} (hd : 0 ≤ d) (hv : validD (wideD a k d) = true) (m : MotD) (hf : fittingD a b m = true) : fittingD (wideD a k d) b m = true := by
  have hb : validD b = true := by
    cases hb : validD b with
    | true => rfl
    | false =>
      rw [no_marks (by unfold marksD; rw [hb, Bool.and_false]; rfl)] at hf; cases hf
  have mem : ∀ r, r ∈ marksD (wideD a k d) b ↔ r ∈ marksRaw (wideD a k d) b := fun r => by unfold marksD; rw [hv, hb]; rfl
  have mem' : ∀ r, r ∈ marksD a b ↔ r ∈ marksRaw a b := fun r => by unfold marksD; rw [ha, hb]; rfl
  have hk' : ∀ p ∈ a, ∃ p' ∈ wideD a k d, p'.id = p.id := fun p hp => by
    have h1 : p.id ∈ a.map (·.id) := List.mem_map.2 ⟨p, hp, rfl⟩
    rw [← wide_ids a k d] at h1
    obtain ⟨p', h2, h3⟩ := List.mem_map.1 h1
    exact ⟨p', h2, h3⟩
  refine fits_mono ?_ ?_ hf
  · intro he
    have hne := ((fitting_iff a b m).1 hf).1
    cases hq : marksD a b with
    | nil => exact hne hq
    | cons r t =>
      have hr : r ∈ marksD a b := by rw [hq]; simp
      rw [mem', marksRaw_mem] at hr
      obtain ⟨p', h2, h3⟩ := hk' r.1 hr.1
      have : (p', r.2) ∈ marksD (wideD a k d) b := (mem _).2 (marksRaw_mem.2 ⟨h2, hr.2.1, by show p'.id = r.2.id; rw [h3]; exact hr.2.2.1, by show p'.id ≤ 19; rw [h3]; exact hr.2.2.2⟩)
      rw [he] at this; cases this
  · intro r hr
    rw [mem, marksRaw_mem] at hr
    obtain ⟨h1, h2, h3, h4⟩ := hr
    by_cases hk : k < a.length
    · rcases set_mem h1 with e | h1
      · have hm : a.getD k ⟨0, 0, 0, 0⟩ ∈ a := by rw [List.getD_eq_getElem?_getD, List.getElem?_eq_getElem hk]; exact List.getElem_mem hk
        have e1 : r.1.id = (a.getD k ⟨0, 0, 0, 0⟩).id := by rw [e]; rfl
        refine ⟨(a.getD k ⟨0, 0, 0, 0⟩, r.2), (mem' _).2 (marksRaw_mem.2 ⟨hm, h2, by show _ = r.2.id; rw [← e1]; exact h3, by show _ ≤ (19 : Int); rw [← e1]; exact h4⟩), fun k' x y hh => ?_⟩
        rw [e]; exact widen_shift hd k' x y hh
      · exact ⟨r, (mem' _).2 (marksRaw_mem.2 ⟨h1, h2, h3, h4⟩), fun _ _ _ hh => hh⟩
    · have e : wideD a k d = a := by unfold wideD; exact List.set_eq_of_length_le (by omega)
      rw [e] at h1
      exact ⟨r, (mem' _).2 (marksRaw_mem.2 ⟨h1, h2, h3, h4⟩), fun _ _ _ hh => hh⟩
end Go.Proofs.YtoofkahklboojaaDoor
