/- Register: same and partner, in plain words; what RegisterWitnesses needs. No condition. -/
import Derived.Test.YtoofkahklboojaaDoorRhB
import Derived.Test.YtoofkahklboojaaDoorRhG
import Derived.Test.YtoofkahklboojaaDoorRsA
namespace Go.Proofs.YtoofkahklboojaaDoor

/-- under a motion that is one, two points can be the same exactly if it lies in their shift -/
theorem same_shift {p q : DotD} {m : MotD} (hm : motOk m = true) (hp : dotOk p = true) : sameD p q m = hasB (shiftD m.turn.toNat p q) m.dx m.dy := by
  obtain ⟨-, hx, hy, -⟩ := dot_in hp
  have h : (motOk m && inShift p.x && inShift p.y) = true := by rw [hm]; simp [inShift, isInN]; omega
  rw [Bool.eq_iff_iff, has_iff]
  unfold sameD applyX applyY
  rw [if_pos h, if_pos h]
  unfold appX appY shiftD
  simp
  omega
/-- the partner that the law finds is the first of the finds that can be the same -/
theorem partner_any {a : List DotD} {q : DotD} {m : MotD} (hm : motOk m = true) (ha : ∀ p ∈ a, dotOk p = true) : (0 ≤ partnerD a q m ↔ anyB (boxesD (findsD a) q m.turn.toNat) m.dx m.dy = true) := by
  unfold partnerD anyB boxesD findsD
  rw [List.any_map, List.any_filter]
  constructor
  · intro h
    cases hf : a.find? fun p => decide (19 < p.id) && sameD p q m with
    | none => rw [hf] at h; simp at h
    | some p =>
      have h1 := List.find?_some hf
      have h2 := List.mem_of_find?_eq_some hf
      rw [List.any_eq_true]
      exact ⟨p, h2, by rw [same_shift hm (ha p h2)] at h1; simpa using h1⟩
  · intro h
    rw [List.any_eq_true] at h
    obtain ⟨p, hp, h1⟩ := h
    cases hf : a.find? fun p => decide (19 < p.id) && sameD p q m with
    | none =>
      have := List.find?_eq_none.1 hf p hp
      rw [same_shift hm (ha p hp)] at this
      exact absurd (by simpa using h1) this
    | some p' =>
      have h2 := List.find?_some hf
      simp at h2
      simp; omega
theorem findC {α : Type} {p q : α → Bool} : ∀ l : List α, (∀ x ∈ l, p x = q x) → l.find? p = l.find? q
  | [], _ => rfl
  | x :: t, h => by rw [List.find?_cons, List.find?_cons, h x (by simp), findC t fun y hy => h y (by simp [hy])]
theorem idxF_find {α : Type} (p : α → Bool) (d : α) : ∀ l : List α, l.any p = true → l.find? p = some (l.getD (idxF p l).toNat d)
  | [], h => by cases h
  | x :: t, h => by
    by_cases hx : p x = true
    · simp [idxF, hx]
    · have ht : t.any p = true := by simpa [hx] using h
      have ih := idxF_find p d t ht
      have h0 := idxF_any p t
      rw [ht] at h0
      have h1 : 0 ≤ idxF p t := by simpa using h0
      have e : (idxF p (x :: t)).toNat = (idxF p t).toNat + 1 := by simp only [idxF, if_neg hx, if_neg (show ¬ idxF p t < 0 by omega)]; omega
      rw [e, List.find?_cons_of_neg hx, ih]; simp
theorem partner_part {a : List DotD} {q : DotD} {m : MotD} (hm : motOk m = true) (ha : ∀ p ∈ a, dotOk p = true) (h : anyB (boxesD (findsD a) q m.turn.toNat) m.dx m.dy = true) : partnerD a q m = partD a q m := by
  unfold anyB boxesD at h
  rw [List.any_map] at h
  have h1 := idxF_find (fun p => hasB (shiftD m.turn.toNat p q) m.dx m.dy) dot0 (findsD a) h
  unfold partnerD partD
  have e : (a.find? fun p => decide (19 < p.id) && sameD p q m) = (findsD a).find? fun p => hasB (shiftD m.turn.toNat p q) m.dx m.dy := by
    unfold findsD
    rw [List.find?_filter]
    refine findC a fun p hp => ?_
    rw [same_shift hm (ha p hp)]
    simp
  rw [e, h1]; rfl
theorem wit_of (t : TruthD) {q : DotD} : let A := survA t; let B := survB t; let V := verD A B q
    (V.kind = 1 ∨ V.kind = 2 ∨ V.kind = 3) ∧ (V.kind ≠ 1 → fittingD A B V.w = true ∧ partnerD A q V.w = V.par ∧ 0 ≤ V.par) ∧ (V.kind ≠ 3 → fittingD A B V.wo = true ∧ partnerD A q V.wo < 0) ∧ ∀ m, fittingD A B m = true → (V.kind = 1 → partnerD A q m < 0) ∧ (V.kind = 3 → 0 ≤ partnerD A q m) := by
  intro A B V
  have hne : marksD A B ≠ [] := marks_ne t
  have hok : ∀ p ∈ A, dotOk p = true := valid_ok (surv_valid t).1
  have hmo : ∀ m, fittingD A B m = true → motOk m = true := fun m h => ((fitting_iff A B m).1 h).2.1
  have hall : ∀ m, fittingD A B m = true → ∀ c, anyB (boxesD (findsD A) q m.turn.toNat) m.dx m.dy = c → (srch A B q c).isSome = true := fun m h c hc => (search_canBe osF_mem hne q c).2 ⟨m, h, hc⟩
  have hs : ∀ c m, srch A B q c = some m → fittingD A B m = true ∧ anyB (boxesD (findsD A) q m.turn.toNat) m.dx m.dy = c := fun c m h => search_fits osF_mem hne h
  have hneg : ∀ m, fittingD A B m = true → anyB (boxesD (findsD A) q m.turn.toNat) m.dx m.dy = false → partnerD A q m < 0 := fun m h hc => by
    have h1 := partner_any (q := q) (hmo m h) hok
    rw [hc] at h1
    have h2 : ¬ 0 ≤ partnerD A q m := fun h => by cases h1.1 h
    omega
  have hw := hall (wayD t) (way_fits t)
  show ((verD A B q).kind = 1 ∨ (verD A B q).kind = 2 ∨ (verD A B q).kind = 3) ∧ _
  cases h1 : srch A B q true with
  | none =>
    cases h2 : srch A B q false with
    | none =>
      cases hc : anyB (boxesD (findsD A) q (wayD t).turn.toNat) (wayD t).dx (wayD t).dy
      · have := hw false hc; rw [h2] at this; cases this
      · have := hw true hc; rw [h1] at this; cases this
    | some m2 =>
      obtain ⟨f2, c2⟩ := hs _ _ h2
      have hk : V.kind = 1 := by show (verD A B q).kind = 1; unfold verD; rw [h1]; rfl
      have hwo : V.wo = m2 := by show (verD A B q).wo = m2; unfold verD; rw [h2]; rfl
      refine ⟨.inl hk, fun h => absurd hk h, fun _ => by rw [hwo]; exact ⟨f2, hneg _ f2 c2⟩, fun m hm => ⟨fun _ => ?_, fun h => by rw [hk] at h; cases h⟩⟩
      refine hneg m hm ?_
      cases hc : anyB (boxesD (findsD A) q m.turn.toNat) m.dx m.dy
      · rfl
      · have := hall m hm true hc; rw [h1] at this; cases this
  | some m1 =>
    obtain ⟨f1, c1⟩ := hs _ _ h1
    have hw1 : V.w = m1 := by show (verD A B q).w = m1; unfold verD; rw [h1]; rfl
    have hp1 : V.par = partD A q m1 := by show (verD A B q).par = _; unfold verD; rw [h1]; rfl
    have hpp := partner_part (q := q) (hmo _ f1) hok c1
    have hp0 := (partner_any (q := q) (hmo _ f1) hok).2 c1
    have hW : fittingD A B V.w = true ∧ partnerD A q V.w = V.par ∧ 0 ≤ V.par := by rw [hw1, hp1, ← hpp]; exact ⟨f1, rfl, hp0⟩
    cases h2 : srch A B q false with
    | none =>
      have hk : V.kind = 3 := by show (verD A B q).kind = 3; unfold verD; rw [h1, h2]; rfl
      refine ⟨.inr (.inr hk), fun _ => hW, fun h => absurd hk h, fun m hm => ⟨fun h => (by rw [hk] at h; cases h), fun _ => ?_⟩⟩
      refine (partner_any (q := q) (hmo _ hm) hok).2 ?_
      cases hc : anyB (boxesD (findsD A) q m.turn.toNat) m.dx m.dy
      · have := hall m hm false hc; rw [h2] at this; cases this
      · rfl
    | some m2 =>
      obtain ⟨f2, c2⟩ := hs _ _ h2
      have hk : V.kind = 2 := by show (verD A B q).kind = 2; unfold verD; rw [h1, h2]; rfl
      have hwo : V.wo = m2 := by show (verD A B q).wo = m2; unfold verD; rw [h2]; rfl
      exact ⟨.inr (.inl hk), fun _ => hW, fun _ => by rw [hwo]; exact ⟨f2, hneg _ f2 c2⟩, fun m hm => ⟨fun h => (by rw [hk] at h; cases h), fun h => by rw [hk] at h; cases h⟩⟩
theorem surv_wit (t : TruthD) {i : Nat} (hi : i < (survB t).length) (hz : 19 < ((survB t).getD i dot0).id) : let A := survA t; let B := survB t; let q := B.getD i dot0; let V := judV A B q.id
    (V.kind = 1 ∨ V.kind = 2 ∨ V.kind = 3) ∧ (V.kind ≠ 1 → fittingD A B V.w = true ∧ partnerD A q V.w = V.par ∧ 0 ≤ V.par) ∧ (V.kind ≠ 3 → fittingD A B V.wo = true ∧ partnerD A q V.wo < 0) ∧ ∀ m, fittingD A B m = true → (V.kind = 1 → partnerD A q m < 0) ∧ (V.kind = 3 → 0 ≤ partnerD A q m) := by
  intro A B q V
  have hV : V = verD A B q := by show judV A B q.id = _; unfold judV; rw [surv_judge t hi hz]; rfl
  rw [hV]
  exact wit_of t
theorem survB_pos (t : TruthD) : 0 < (survB t).length := by
  have := nMarks_in t
  unfold survB; simp; omega
theorem surv_low (a b : List DotD) {z : Int} (hz : z ≤ 19) : judE a b z = 110 := by
  unfold judE judgeD
  rw [if_pos hz]
  split <;> rfl
end Go.Proofs.YtoofkahklboojaaDoor
