/- Register, in plain words: all fits; verdicts, and what fewer motions do to them. No program in sight. No condition. -/
import Derived.Test.YtoofkahklboojaaDoorRgU
import Derived.Test.YtoofkahklboojaaDoorRgT
namespace Go.Proofs.YtoofkahklboojaaDoor

/-- the fits: turns whose box is not empty -/
def fitsD (a b : List DotD) : List (Nat × BoxD) := ([0, 1, 2, 3].map fun k => (k, fitD (marksD a b) k)).filter fun f => !emptyB f.2
theorem fits_mem {a b : List DotD} {f : Nat × BoxD} : f ∈ fitsD a b ↔ f.1 ≤ 3 ∧ f.2 = fitD (marksD a b) f.1 ∧ emptyB f.2 = false := by
  unfold fitsD
  rw [List.mem_filter, List.mem_map]
  constructor
  · rintro ⟨⟨k, hk, rfl⟩, h⟩
    refine ⟨?_, rfl, by simpa using h⟩
    simp at hk
    show k ≤ 3
    omega
  · rintro ⟨h1, h2, h3⟩
    refine ⟨⟨f.1, ?_, by rw [← h2]⟩, by rw [h3]; rfl⟩
    simp; omega
theorem fits_asc (a b : List DotD) : (fitsD a b).Pairwise fun f g => f.1 < g.1 := by
  unfold fitsD
  refine List.Pairwise.filter _ ?_
  rw [List.pairwise_map]
  simp
/-- a motion fits exactly if a fit has it -/
theorem fits_iff {a b : List DotD} (hne : marksD a b ≠ []) {m : MotD} (ht : 0 ≤ m.turn ∧ m.turn ≤ 3) : fittingD a b m = true ↔ ∃ f ∈ fitsD a b, (f.1 : Int) = m.turn ∧ hasB f.2 m.dx m.dy = true := by
  constructor
  · intro h
    unfold fittingD at h
    rw [Bool.and_eq_true, Bool.and_eq_true] at h
    refine ⟨(m.turn.toNat, fitD (marksD a b) m.turn.toNat), fits_mem.2 ⟨by show m.turn.toNat ≤ 3; omega, rfl, ?_⟩, by show ((m.turn.toNat : Nat) : Int) = m.turn; omega, h.2⟩
    rw [← Bool.not_eq_true, empty_iff]
    intro he
    have := he m.dx m.dy
    rw [h.2] at this; cases this
  · rintro ⟨f, hf, h1, h2⟩
    obtain ⟨h3, h4, -⟩ := fits_mem.1 hf
    have e : m.turn.toNat = f.1 := by omega
    unfold fittingD
    rw [e, ← h4, h2]
    rw [h4, has_fit, Bool.and_eq_true] at h2
    have hm : motOk m = true := by unfold motOk; rw [Bool.and_eq_true, decide_eq_true_eq]; exact ⟨ht, h2.1⟩
    rw [hm]
    cases hq : marksD a b with
    | nil => exact absurd hq hne
    | cons r t => rfl
theorem no_marks {a b : List DotD} (h : marksD a b = []) (m : MotD) : fittingD a b m = false := by unfold fittingD; rw [h]; rfl
/-- a motion of a fit fits -/
theorem fit_corner {a b : List DotD} (hne : marksD a b ≠ []) {f : Nat × BoxD} (hf : f ∈ fitsD a b) {x y : Int} (h : hasB f.2 x y = true) : fittingD a b ⟨f.1, x, y⟩ = true := by
  have h1 := (fits_mem.1 hf).1
  exact (fits_iff hne (m := ⟨f.1, x, y⟩) (by show (0 : Int) ≤ f.1 ∧ (f.1 : Int) ≤ 3; omega)).2 ⟨f, hf, rfl, h⟩
def findsD (a : List DotD) : List DotD := a.filter fun p => decide (19 < p.id)
/-- is there a motion that fits, under which q can be (or cannot be) one of the finds? -/
def canBe (a b : List DotD) (q : DotD) (can : Bool) : Prop := ∃ m, fittingD a b m = true ∧ anyB (boxesD (findsD a) q m.turn.toNat) m.dx m.dy = can
theorem search_canBe {os : List Int → List Int} (ho : ∀ l x, x ∈ os l ↔ x ∈ l) {a b : List DotD} (hne : marksD a b ≠ []) (q : DotD) (can : Bool) : (searchD os (marksD a b) (findsD a) q can).isSome = true ↔ canBe a b q can := by
  constructor
  · intro h
    obtain ⟨m, hm⟩ := Option.isSome_iff_exists.1 h
    obtain ⟨k, hk, ht, hb, hc⟩ := search_some ho hm
    have e : m.turn.toNat = k := by omega
    refine ⟨m, ?_, by rw [e]; exact hc⟩
    rw [fits_iff hne (by omega)]
    refine ⟨(k, fitD (marksD a b) k), fits_mem.2 ⟨hk, rfl, ?_⟩, ht.symm, hb⟩
    rw [← Bool.not_eq_true, empty_iff]
    intro he
    have := he m.dx m.dy
    rw [hb] at this; cases this
  · rintro ⟨m, hf, hc⟩
    have hf' := hf
    unfold fittingD at hf'
    rw [Bool.and_eq_true, Bool.and_eq_true, mot_iff] at hf'
    cases hs : searchD os (marksD a b) (findsD a) q can with
    | some m => rfl
    | none => exact absurd hc (search_none ho hs m.turn.toNat (by omega) _ _ hf'.2)
theorem search_fits {os : List Int → List Int} (ho : ∀ l x, x ∈ os l ↔ x ∈ l) {a b : List DotD} (hne : marksD a b ≠ []) {q : DotD} {can : Bool} {m : MotD} (h : searchD os (marksD a b) (findsD a) q can = some m) : fittingD a b m = true ∧ anyB (boxesD (findsD a) q m.turn.toNat) m.dx m.dy = can := by
  obtain ⟨k, hk, ht, hb, hc⟩ := search_some ho h
  have e : m.turn.toNat = k := by omega
  refine ⟨?_, by rw [e]; exact hc⟩
  rw [fits_iff hne (by omega)]
  refine ⟨(k, fitD (marksD a b) k), fits_mem.2 ⟨hk, rfl, ?_⟩, ht.symm, hb⟩
  rw [← Bool.not_eq_true, empty_iff]
  intro he
  have := he m.dx m.dy
  rw [hb] at this; cases this
/-- the kind of a verdict -/
def kindD (some_ none_ : Bool) : Int := if !some_ then 1 else if !none_ then 3 else 2
/-- with fewer motions a verdict that is sure stays -/
theorem kind_stays {s n s' n' : Bool} (hs : s = true → s' = true) (hn : n = true → n' = true) (h1 : s = true ∨ n = true) (h : kindD s' n' ≠ 2) : kindD s n = kindD s' n' := by
  cases s <;> cases n <;> cases s' <;> cases n' <;> simp_all [kindD]
end Go.Proofs.YtoofkahklboojaaDoor
