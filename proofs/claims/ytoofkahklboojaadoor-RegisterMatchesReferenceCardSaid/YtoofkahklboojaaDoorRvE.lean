/- Register: what RegisterFits needs, in plain words. No condition. Register, in plain words: same and partner. No condition. Register: same and partner, in plain words; what RegisterWitnesses needs. No condition. Register, in plain words: what RegisterNarrows needs. No condition. Register, in plain words: the reference's Judge finds what the program's Judge finds. No condition. Register, in plain words: what the reference's Judge returns is what the program's Judge returns. No condition. -/
import Derived.Test.YtoofkahklboojaaDoorRkL
import Derived.Test.YtoofkahklboojaaDoorRvB
import Derived.Test.YtoofkahklboojaaDoorRkC
import Derived.Test.YtoofkahklboojaaDoorRvA
import Derived.Test.YtoofkahklboojaaDoorRgY
import Derived.Test.YtoofkahklboojaaDoorRvC
import Derived.Test.YtoofkahklboojaaDoorRgZ
namespace Go.Proofs.YtoofkahklboojaaDoor

theorem fits_bad {a c : List DotD} (h : validD c = false) (m : MotD) : fittingD a c m = false := no_marks (by unfold marksD; rw [h]; simp) m
theorem err_no {a c : List DotD} (h : errR a c ≠ 0) (m : MotD) : fittingD a c m = false := by
  refine no_marks ?_ m
  unfold errR at h
  split at h
  · rename_i h1; simpa using h1
  · exact absurd rfl h
theorem err_ok {a c : List DotD} (h : errR a c = 0) : marksD a c ≠ [] ∧ fitsR a c = fitsD a c := by
  unfold errR at h
  unfold fitsR
  split at h
  · cases h
  · rename_i h1
    rw [if_neg h1]
    exact ⟨by simpa using h1, rfl⟩
/-- a fit: not empty, its corner fits -/
theorem fit_ok {a c : List DotD} (h : errR a c = 0) {i : Nat} (hi : i < (fitsR a c).length) :
    let f := (fitsR a c).getD i fit0
    f.1 ≤ 3 ∧ f.2.xl ≤ f.2.xh ∧ f.2.yl ≤ f.2.yh ∧ fittingD a c ⟨f.1, f.2.xl, f.2.yh⟩ = true := by
  obtain ⟨hne, he⟩ := err_ok h
  intro f
  have hm : f ∈ fitsD a c := by
    rw [← he]; show (fitsR a c).getD i fit0 ∈ _
    rw [List.getD_eq_getElem?_getD, List.getElem?_eq_getElem hi]; exact List.getElem_mem hi
  obtain ⟨h1, h2, h3⟩ := fits_mem.1 hm
  have hx : f.2.xl ≤ f.2.xh ∧ f.2.yl ≤ f.2.yh := by unfold emptyB at h3; simp at h3; omega
  refine ⟨h1, hx.1, hx.2, fit_corner hne hm ?_⟩
  rw [has_iff]; omega
theorem fit_up {a c : List DotD} (h : errR a c = 0) {i : Nat} (h0 : 0 < i) (hi : i < (fitsR a c).length) : ((fitsR a c).getD (i - 1) fit0).1 < ((fitsR a c).getD i fit0).1 := by
  obtain ⟨hne, he⟩ := err_ok h
  rw [he] at hi ⊢
  have := List.pairwise_iff_getElem.1 (fits_asc a c) (i - 1) i (by omega) hi (by omega)
  simpa [List.getD_eq_getElem?_getD, List.getElem?_eq_getElem hi, List.getElem?_eq_getElem (show i - 1 < (fitsD a c).length by omega)] using this
/-- what the loop reckons: whether one of the first k fits holds the motion -/
def inFit (l : List (Nat × BoxD)) (m : MotD) (k : Nat) : Bool := (List.range k).any fun i => decide (((l.getD i fit0).1 : Int) = m.turn) && hasB (l.getD i fit0).2 m.dx m.dy
theorem inFit_succ (l : List (Nat × BoxD)) (m : MotD) (k : Nat) : inFit l m (k + 1) = (inFit l m k || (decide (((l.getD k fit0).1 : Int) = m.turn) && hasB (l.getD k fit0).2 m.dx m.dy)) := by
  unfold inFit; rw [List.range_succ, List.any_append]; simp
theorem inFit_all {a c : List DotD} (h : errR a c = 0) {m : MotD} (ht : 0 ≤ m.turn ∧ m.turn ≤ 3) : inFit (fitsR a c) m (fitsR a c).length = fittingD a c m := by
  obtain ⟨hne, he⟩ := err_ok h
  rw [Bool.eq_iff_iff, fits_iff hne ht, he]
  unfold inFit
  rw [List.any_eq_true]
  constructor
  · rintro ⟨i, hi, h1⟩
    rw [List.mem_range] at hi
    rw [Bool.and_eq_true, decide_eq_true_eq] at h1
    refine ⟨(fitsD a c).getD i fit0, ?_, h1.1, h1.2⟩
    rw [List.getD_eq_getElem?_getD, List.getElem?_eq_getElem hi]; exact List.getElem_mem hi
  · rintro ⟨f, hf, h1, h2⟩
    obtain ⟨i, hi, rfl⟩ := List.getElem_of_mem hf
    refine ⟨i, List.mem_range.2 hi, ?_⟩
    rw [List.getD_eq_getElem?_getD, List.getElem?_eq_getElem hi]
    simp [h1, h2]
end Go.Proofs.YtoofkahklboojaaDoor
namespace Go.Proofs.YtoofkahklboojaaDoor

def sameD (p q : DotD) (m : MotD) : Bool :=
  decide (applyX m p.x p.y - q.x ≤ p.tol + q.tol) && decide (q.x - applyX m p.x p.y ≤ p.tol + q.tol) && decide (applyY m p.x p.y - q.y ≤ p.tol + q.tol) && decide (q.y - applyY m p.x p.y ≤ p.tol + q.tol)
def partnerD (a : List DotD) (q : DotD) (m : MotD) : Int := ((a.find? fun p => decide (19 < p.id) && sameD p q m).map (·.id)).getD (-1)
theorem dot_in {p : DotD} (h : dotOk p = true) : (0 ≤ p.id ∧ p.id ≤ 99) ∧ (-1000 ≤ p.x ∧ p.x ≤ 1000) ∧ (-1000 ≤ p.y ∧ p.y ≤ 1000) ∧ 0 ≤ p.tol ∧ p.tol ≤ 50 := by
  unfold dotOk at h; simp at h; omega
theorem applyX_in {m : MotD} {x y : Int} (hx : -1000 ≤ x ∧ x ≤ 1000) (hy : -1000 ≤ y ∧ y ≤ 1000) : (-6000 ≤ applyX m x y ∧ applyX m x y ≤ 6000) ∧ (-6000 ≤ applyY m x y ∧ applyY m x y ≤ 6000) := by
  unfold applyX applyY
  cases h : (motOk m && inShift x && inShift y)
  · simp
  · rw [if_pos rfl, if_pos rfl]
    rw [Bool.and_eq_true, Bool.and_eq_true, mot_iff] at h
    have ht := turn_bd m.turn.toNat x y 1000 hx hy
    unfold appX appY
    omega
end Go.Proofs.YtoofkahklboojaaDoor
namespace Go.Proofs.YtoofkahklboojaaDoor

/-- under a motion that is one, two points can be the same exactly if it lies in their shift -/
theorem same_shift {p q : DotD} {m : MotD} (hm : motOk m = true) (hp : dotOk p = true) : sameD p q m = hasB (shiftD m.turn.toNat p q) m.dx m.dy := by
  obtain ⟨-, hx, hy, -⟩ := dot_in hp
  have h : (motOk m && inShift p.x && inShift p.y) = true := by rw [hm]; simp [inShift, isInN]; omega
  rw [Bool.eq_iff_iff, has_iff]
  unfold sameD applyX applyY
  rw [if_pos h, if_pos h]
  unfold appX appY shiftD
  simp
  omega
/-- the partner that the law finds is the first of the finds that can be the same -/
theorem partner_any {a : List DotD} {q : DotD} {m : MotD} (hm : motOk m = true) (ha : ∀ p ∈ a, dotOk p = true) : (0 ≤ partnerD a q m ↔ anyB (boxesD (findsD a) q m.turn.toNat) m.dx m.dy = true) := by
  unfold partnerD anyB boxesD findsD
  rw [List.any_map, List.any_filter]
  constructor
  · intro h
    cases hf : a.find? fun p => decide (19 < p.id) && sameD p q m with
    | none => rw [hf] at h; simp at h
    | some p =>
      have h1 := List.find?_some hf
      have h2 := List.mem_of_find?_eq_some hf
      rw [List.any_eq_true]
      exact ⟨p, h2, by rw [same_shift hm (ha p h2)] at h1; simpa using h1⟩
  · intro h
    rw [List.any_eq_true] at h
    obtain ⟨p, hp, h1⟩ := h
    cases hf : a.find? fun p => decide (19 < p.id) && sameD p q m with
    | none =>
      have := List.find?_eq_none.1 hf p hp
      rw [same_shift hm (ha p hp)] at this
      exact absurd (by simpa using h1) this
    | some p' =>
      have h2 := List.find?_some hf
      simp at h2
      simp; omega
theorem findC {α : Type} {p q : α → Bool} : ∀ l : List α, (∀ x ∈ l, p x = q x) → l.find? p = l.find? q
  | [], _ => rfl
  | x :: t, h => by rw [List.find?_cons, List.find?_cons, h x (by simp), findC t fun y hy => h y (by simp [hy])]
theorem idxF_find {α : Type} (p : α → Bool) (d : α) : ∀ l : List α, l.any p = true → l.find? p = some (l.getD (idxF p l).toNat d)
  | [], h => by cases h
  | x :: t, h => by
    by_cases hx : p x = true
    · simp [idxF, hx]
    · have ht : t.any p = true := by simpa [hx] using h
      have ih := idxF_find p d t ht
      have h0 := idxF_any p t
      rw [ht] at h0
      have h1 : 0 ≤ idxF p t := by simpa using h0
      have e : (idxF p (x :: t)).toNat = (idxF p t).toNat + 1 := by simp only [idxF, if_neg hx, if_neg (show ¬ idxF p t < 0 by omega)]; omega
      rw [e, List.find?_cons_of_neg hx, ih]; simp
theorem partner_part {a : List DotD} {q : DotD} {m : MotD} (hm : motOk m = true) (ha : ∀ p ∈ a, dotOk p = true) (h : anyB (boxesD (findsD a) q m.turn.toNat) m.dx m.dy = true) : partnerD a q m = partD a q m := by
  unfold anyB boxesD at h
  rw [List.any_map] at h
  have h1 := idxF_find (fun p => hasB (shiftD m.turn.toNat p q) m.dx m.dy) dot0 (findsD a) h
  unfold partnerD partD
  have e : (a.find? fun p => decide (19 < p.id) && sameD p q m) = (findsD a).find? fun p => hasB (shiftD m.turn.toNat p q) m.dx m.dy := by
    unfold findsD
    rw [List.find?_filter]
    refine findC a fun p hp => ?_
    rw [same_shift hm (ha p hp)]
    simp
  rw [e, h1]; rfl
theorem wit_of (t : TruthD) {q : DotD} : let A := survA t; let B := survB t; let V := verD A B q
    (V.kind = 1 ∨ V.kind = 2 ∨ V.kind = 3) ∧ (V.kind ≠ 1 → fittingD A B V.w = true ∧ partnerD A q V.w = V.par ∧ 0 ≤ V.par) ∧ (V.kind ≠ 3 → fittingD A B V.wo = true ∧ partnerD A q V.wo < 0) ∧ ∀ m, fittingD A B m = true → (V.kind = 1 → partnerD A q m < 0) ∧ (V.kind = 3 → 0 ≤ partnerD A q m) := by
  intro A B V
  have hne : marksD A B ≠ [] := marks_ne t
  have hok : ∀ p ∈ A, dotOk p = true := valid_ok (surv_valid t).1
  have hmo : ∀ m, fittingD A B m = true → motOk m = true := fun m h => ((fitting_iff A B m).1 h).2.1
  have hall : ∀ m, fittingD A B m = true → ∀ c, anyB (boxesD (findsD A) q m.turn.toNat) m.dx m.dy = c → (srch A B q c).isSome = true := fun m h c hc => (search_canBe osF_mem hne q c).2 ⟨m, h, hc⟩
  have hs : ∀ c m, srch A B q c = some m → fittingD A B m = true ∧ anyB (boxesD (findsD A) q m.turn.toNat) m.dx m.dy = c := fun c m h => search_fits osF_mem hne h
  have hneg : ∀ m, fittingD A B m = true → anyB (boxesD (findsD A) q m.turn.toNat) m.dx m.dy = false → partnerD A q m < 0 := fun m h hc => by
    have h1 := partner_any (q := q) (hmo m h) hok
    rw [hc] at h1
    have h2 : ¬ 0 ≤ partnerD A q m := fun h => by cases h1.1 h
    omega
  have hw := hall (wayD t) (way_fits t)
  show ((verD A B q).kind = 1 ∨ (verD A B q).kind = 2 ∨ (verD A B q).kind = 3) ∧ _
  cases h1 : srch A B q true with
  | none =>
    cases h2 : srch A B q false with
    | none =>
      cases hc : anyB (boxesD (findsD A) q (wayD t).turn.toNat) (wayD t).dx (wayD t).dy
      · have := hw false hc; rw [h2] at this; cases this
      · have := hw true hc; rw [h1] at this; cases this
    | some m2 =>
      obtain ⟨f2, c2⟩ := hs _ _ h2
      have hk : V.kind = 1 := by show (verD A B q).kind = 1; unfold verD; rw [h1]; rfl
      have hwo : V.wo = m2 := by show (verD A B q).wo = m2; unfold verD; rw [h2]; rfl
      refine ⟨.inl hk, fun h => absurd hk h, fun _ => by rw [hwo]; exact ⟨f2, hneg _ f2 c2⟩, fun m hm => ⟨fun _ => ?_, fun h => by rw [hk] at h; cases h⟩⟩
      refine hneg m hm ?_
      cases hc : anyB (boxesD (findsD A) q m.turn.toNat) m.dx m.dy
      · rfl
      · have := hall m hm true hc; rw [h1] at this; cases this
  | some m1 =>
    obtain ⟨f1, c1⟩ := hs _ _ h1
    have hw1 : V.w = m1 := by show (verD A B q).w = m1; unfold verD; rw [h1]; rfl
    have hp1 : V.par = partD A q m1 := by show (verD A B q).par = _; unfold verD; rw [h1]; rfl
    have hpp := partner_part (q := q) (hmo _ f1) hok c1
    have hp0 := (partner_any (q := q) (hmo _ f1) hok).2 c1
    have hW : fittingD A B V.w = true ∧ partnerD A q V.w = V.par ∧ 0 ≤ V.par := by rw [hw1, hp1, ← hpp]; exact ⟨f1, rfl, hp0⟩
    cases h2 : srch A B q false with
    | none =>
      have hk : V.kind = 3 := by show (verD A B q).kind = 3; unfold verD; rw [h1, h2]; rfl
      refine ⟨.inr (.inr hk), fun _ => hW, fun h => absurd hk h, fun m hm => ⟨fun h => (by rw [hk] at h; cases h), fun _ => ?_⟩⟩
      refine (partner_any (q := q) (hmo _ hm) hok).2 ?_
      cases hc : anyB (boxesD (findsD A) q m.turn.toNat) m.dx m.dy
      · have := hall m hm false hc; rw [h2] at this; cases this
      · rfl
    | some m2 =>
      obtain ⟨f2, c2⟩ := hs _ _ h2
      have hk : V.kind = 2 := by show (verD A B q).kind = 2; unfold verD; rw [h1, h2]; rfl
      have hwo : V.wo = m2 := by show (verD A B q).wo = m2; unfold verD; rw [h2]; rfl
      exact ⟨.inr (.inl hk), fun _ => hW, fun _ => by rw [hwo]; exact ⟨f2, hneg _ f2 c2⟩, fun m hm => ⟨fun h => (by rw [hk] at h; cases h), fun h => by rw [hk] at h; cases h⟩⟩
theorem surv_wit (t : TruthD) {i : Nat} (hi : i < (survB t).length) (hz : 19 < ((survB t).getD i dot0).id) : let A := survA t; let B := survB t; let q := B.getD i dot0; let V := judV A B q.id
    (V.kind = 1 ∨ V.kind = 2 ∨ V.kind = 3) ∧ (V.kind ≠ 1 → fittingD A B V.w = true ∧ partnerD A q V.w = V.par ∧ 0 ≤ V.par) ∧ (V.kind ≠ 3 → fittingD A B V.wo = true ∧ partnerD A q V.wo < 0) ∧ ∀ m, fittingD A B m = true → (V.kind = 1 → partnerD A q m < 0) ∧ (V.kind = 3 → 0 ≤ partnerD A q m) := by
  intro A B q V
  have hV : V = verD A B q := by show judV A B q.id = _; unfold judV; rw [surv_judge t hi hz]; rfl
  rw [hV]
  exact wit_of t
theorem survB_pos (t : TruthD) : 0 < (survB t).length := by
  have := nMarks_in t
  unfold survB; simp; omega
theorem surv_low (a b : List DotD) {z : Int} (hz : z ≤ 19) : judE a b z = 110 := by
  unfold judE judgeD
  rw [if_pos hz]
  split <;> rfl
end Go.Proofs.YtoofkahklboojaaDoor
namespace Go.Proofs.YtoofkahklboojaaDoor

theorem survA_at (t : TruthD) {k : Nat} (hk : k < nMarks t) : (survA t).getD k dot0 = markA t k := by
  unfold survA
  rw [List.getD_eq_getElem?_getD, List.getElem?_append_left (by simpa using hk), List.getElem?_map, List.getElem?_range hk]; rfl
theorem survA_len (t : TruthD) : nMarks t ≤ (survA t).length ∧ (survA t).length ≤ 12 := by
  refine ⟨by unfold survA; simp, valid_len (surv_valid t).1⟩
def lowB (p : DotD) : Bool := decide (p.id ≤ 19)
theorem low_count (t : TruthD) : ((survA t).filter lowB).length = nMarks t := by
  have hn := nMarks_in t
  unfold survA
  rw [List.filter_append, List.filter_eq_self.2, List.filter_eq_nil_iff.2]
  · simp
  · intro p hp
    obtain ⟨i, hi, rfl⟩ := List.mem_map.1 hp
    have : (findA t i).id = 20 + 2 * i := rfl
    unfold lowB; rw [this]; simp; omega
  · intro p hp
    obtain ⟨i, hi, rfl⟩ := List.mem_map.1 hp
    have := List.mem_range.1 hi
    have e : (markA t i).id = 3 * i := rfl
    unfold lowB; rw [e]; simp; omega
theorem mark_facts (t : TruthD) {k : Nat} (hk : k < nMarks t) : ((survA t).getD k dot0).id ≤ 19 ∧ 0 ≤ ((survA t).getD k dot0).tol ∧ ((survA t).getD k dot0).tol ≤ 8 := by
  have hn := nMarks_in t
  rw [survA_at t hk]
  have h1 : (markA t k).id = 3 * k := rfl
  have h2 : (markA t k).tol = tolD t k 0 := rfl
  have := tol_in t k 0
  omega
theorem mem_less {l : List DotD} {j k : Nat} (hj : j < l.length) (h : j ≠ k) : l.getD j dot0 ∈ lessD l k := by
  unfold lessD
  rw [List.mem_append]
  have e : l.getD j dot0 = l[j] := by rw [List.getD_eq_getElem?_getD, List.getElem?_eq_getElem hj]; rfl
  rw [e]
  rcases Nat.lt_or_gt_of_ne h with h | h
  · exact .inl (List.mem_take_iff_getElem.2 ⟨j, by omega, rfl⟩)
  · refine .inr ?_
    rw [List.mem_drop_iff_getElem]
    exact ⟨j - (k + 1), by omega, by congr 1; omega⟩
theorem survB_mem (t : TruthD) {i : Nat} (hi : i < nMarks t) : markB t i ∈ survB t := List.mem_append.2 (.inl (List.mem_map.2 ⟨i, List.mem_range.2 hi, rfl⟩))
/-- without a mark there are marks left exactly if there were several -/
theorem less_ne (t : TruthD) {k : Nat} (hk : k < nMarks t) : marksD (lessD (survA t) k) (survB t) ≠ [] ↔ 1 < nMarks t := by
  have hn := nMarks_in t
  have hl := survA_len t
  have hv := surv_valid t
  have hlv := less_valid hv.1 k
  constructor
  · intro h
    refine Decidable.byContradiction fun h1 => h ?_
    cases hm : marksD (lessD (survA t) k) (survB t) with
    | nil => rfl
    | cons r t' =>
      have hr : r ∈ marksD (lessD (survA t) k) (survB t) := by rw [hm]; simp
      unfold marksD at hr
      rw [hlv, hv.2, Bool.and_self, if_pos rfl, marksRaw_mem] at hr
      obtain ⟨h2, -, -, h3⟩ := hr
      have hk0 : k = 0 := by omega
      have hn1 : nMarks t = 1 := by omega
      unfold lessD survA at h2
      rw [hk0, hn1] at h2
      simp only [List.take_zero, List.nil_append, List.range_one, List.map_cons, List.map_nil, List.singleton_append, List.drop_succ_cons, List.drop_zero] at h2
      obtain ⟨i, hi, e⟩ := List.mem_map.1 h2
      rw [← e] at h3
      have : (findA t i).id = 20 + 2 * i := rfl
      omega
  · intro h1 he
    have hj : ∃ j, j < nMarks t ∧ j ≠ k := by
      by_cases h0 : k = 0
      · exact ⟨1, h1, by omega⟩
      · exact ⟨0, by omega, by omega⟩
    obtain ⟨j, hj, hjk⟩ := hj
    have hm := mem_less (l := survA t) (j := j) (k := k) (by omega) hjk
    rw [survA_at t hj] at hm
    have : (markA t j, markB t j) ∈ marksD (lessD (survA t) k) (survB t) := by
      unfold marksD
      rw [hlv, hv.2, Bool.and_self, if_pos rfl, marksRaw_mem]
      refine ⟨hm, survB_mem t hj, rfl, ?_⟩
      show (3 * (j : Int)) ≤ 19
      omega
    rw [he] at this; cases this
theorem wideOK (t : TruthD) {k : Nat} (hk : k < nMarks t) {d : Int} (hd : 0 ≤ d ∧ d < 20) : validD (wideD (survA t) k d) = true := by
  have := mark_facts t hk
  exact wide_valid (surv_valid t).1 hd.1 (show ((survA t).getD k dot0).tol + d ≤ 50 by omega)
theorem fits_some {a b : List DotD} {m : MotD} (h : fittingD a b m = true) : (fitsR a b).isEmpty = false := by
  have h' := (fitting_iff a b m).1 h
  obtain ⟨f, hf, -, -⟩ := (fits_iff h'.1 (m := m) ((mot_iff m).1 h'.2.1).1).1 h
  unfold fitsR
  rw [if_neg (by simp [h'.1])]
  cases h : fitsD a b with
  | nil => rw [h] at hf; cases hf
  | cons => rfl
theorem judge_of {a : List DotD} (t : TruthD) {m : MotD} (h : fittingD a (survB t) m = true) {i : Nat} (hi : i < (survB t).length) (hz : 19 < ((survB t).getD i dot0).id) : judgeD a (survB t) ((survB t).getD i dot0).id = some ((survB t).getD i dot0) := by
  unfold judgeD
  rw [fits_some h, if_neg (by decide), if_neg (by omega), find_uniq (asc_getD (surv_valid t).2) hi rfl]
theorem ver_kind (a b : List DotD) (q : DotD) : (verD a b q).kind = kindD (srch a b q true).isSome (srch a b q false).isSome := by
  unfold verD kindD
  cases (srch a b q true).isSome <;> cases (srch a b q false).isSome <;> rfl
/-- more motions: a verdict that is sure was so -/
theorem kind_mono {a a' b : List DotD} {q : DotD} {m : MotD} (hm : fittingD a b m = true) (hne : marksD a' b ≠ []) (hf : findsD a' = findsD a) (h : ∀ m, fittingD a b m = true → fittingD a' b m = true) (hk : (verD a' b q).kind ≠ 2) : (verD a b q).kind = (verD a' b q).kind := by
  have hne0 := ((fitting_iff a b m).1 hm).1
  rw [ver_kind, ver_kind]
  rw [ver_kind] at hk
  have key : ∀ c, (srch a b q c).isSome = true → (srch a' b q c).isSome = true := fun c hc =>
    (search_canBe osF_mem hne q c).2 (can_mono hf h ((search_canBe osF_mem hne0 q c).1 hc))
  refine kind_stays (key true) (key false) ?_ hk
  cases hc : anyB (boxesD (findsD a) q m.turn.toNat) m.dx m.dy
  · exact .inr ((search_canBe osF_mem hne0 q false).2 ⟨m, hm, hc⟩)
  · exact .inl ((search_canBe osF_mem hne0 q true).2 ⟨m, hm, hc⟩)
theorem narrow_fits (t : TruthD) {k : Nat} (hk : k < nMarks t) {d : Int} (hd : 0 ≤ d ∧ d < 20) (m : MotD) (h : fittingD (survA t) (survB t) m = true) : fittingD (wideD (survA t) k d) (survB t) m = true ∧ (1 < nMarks t → fittingD (lessD (survA t) k) (survB t) m = true) :=
  ⟨wide_fits (surv_valid t).1 hd.1 (wideOK t hk hd) m h, fun h1 => less_fits (surv_valid t).1 ((less_ne t hk).2 h1) h⟩
theorem narrow_judge (t : TruthD) {k : Nat} (hk : k < nMarks t) {d : Int} (hd : 0 ≤ d ∧ d < 20) {i : Nat} (hi : i < (survB t).length) (hz : 19 < ((survB t).getD i dot0).id) :
    let A := survA t; let B := survB t; let z := (B.getD i dot0).id
    judE A B z = 0 ∧ judE (wideD A k d) B z = 0 ∧ judE (lessD A k) B z = (if 1 < nMarks t then 0 else 110) ∧ ((judV (wideD A k d) B z).kind ≠ 2 → (judV A B z).kind = (judV (wideD A k d) B z).kind) ∧ (1 < nMarks t → (judV (lessD A k) B z).kind ≠ 2 → (judV A B z).kind = (judV (lessD A k) B z).kind) := by
  intro A B z
  have hf := mark_facts t hk
  have hw := way_fits t
  have hN := fun m h => narrow_fits t hk hd m h
  have j1 := judge_of t hw hi hz
  have j2 := judge_of t (hN _ hw).1 hi hz
  have hz' : ∀ {a}, judgeD a B z = some (B.getD i dot0) → judV a B z = verD a B (B.getD i dot0) := fun h => by unfold judV; rw [h]; rfl
  refine ⟨by unfold judE; rw [j1]; rfl, by unfold judE; rw [j2]; rfl, ?_, ?_, ?_⟩
  · by_cases h1 : 1 < nMarks t
    · rw [if_pos h1]
      have j3 := judge_of t ((hN _ hw).2 h1) hi hz
      unfold judE; rw [j3]; rfl
    · rw [if_neg h1]
      have : marksD (lessD A k) B = [] := by
        cases hm : marksD (lessD A k) B with
        | nil => rfl
        | cons r l => exact absurd ((less_ne t hk).1 (by show marksD (lessD A k) B ≠ []; rw [hm]; simp)) h1
      have h2 : (fitsR (lessD A k) B).isEmpty = true := by unfold fitsR; rw [this]; rfl
      unfold judE judgeD; rw [h2]; rfl
  · rw [hz' j1, hz' j2]
    refine kind_mono hw ?_ (wide_finds hf.1) fun m h => (hN m h).1
    exact ((fitting_iff _ _ _).1 (hN _ hw).1).1
  · intro h1
    have j3 := judge_of t ((hN _ hw).2 h1) hi hz
    rw [hz' j1, hz' j3]
    exact kind_mono hw ((less_ne t hk).2 h1) (less_finds hf.1) fun m h => (hN m h).2 h1
end Go.Proofs.YtoofkahklboojaaDoor
namespace Go.Proofs.YtoofkahklboojaaDoor

/-- what Judge has found so far -/
structure StJ where
  w : Bool
  wm : MotD
  par : Int
  n : Bool
  nm : MotD
def stJ0 : StJ := ⟨false, ⟨0, 0, 0⟩, -1, false, ⟨0, 0, 0⟩⟩
def stepW (p : List Int) (m : MotD) (s : StJ) : StJ := if (!p.isEmpty && (!s.w || befD m s.wm)) = true then ⟨true, m, p.getD 0 0, s.n, s.nm⟩ else s
def stepN (p : List Int) (m : MotD) (s : StJ) : StJ := if (p.isEmpty && (!s.n || befD m s.nm)) = true then ⟨s.w, s.wm, s.par, true, m⟩ else s
def stepJ (a : List DotD) (q : DotD) (s : StJ) (m : MotD) : StJ := stepN (parD a q m) m (stepW (parD a q m) m s)
/-- the motions that are looked at, for one fit -/
def xsR (a : List DotD) (q : DotD) (k : Nat) : List (Int × Int) := a.map fun p => ((shiftD k p q).xl, (shiftD k p q).xh)
def ysR (a : List DotD) (q : DotD) (k : Nat) : List (Int × Int) := a.map fun p => ((shiftD k p q).yl, (shiftD k p q).yh)
def visF (a : List DotD) (q : DotD) (f : Nat × BoxD) : List MotD := (edgR f.2.xl f.2.xh (xsR a q f.1)).flatMap fun x => (edgR f.2.yl f.2.yh (ysR a q f.1)).map fun y => ⟨f.1, x, y⟩
def allJ (a : List DotD) (q : DotD) (F : List (Nat × BoxD)) : List MotD := F.flatMap (visF a q)
theorem bef_irr (m : MotD) : befD m m = false := by unfold befD; simp
theorem bef_trans {a b c : MotD} (h1 : befD a b = true) (h2 : befD b c = true) : befD a c = true := by
  unfold befD at *
  by_cases e1 : a.turn = b.turn <;> by_cases e2 : b.turn = c.turn <;> by_cases e3 : a.dx = b.dx <;> by_cases e4 : b.dx = c.dx <;> by_cases e5 : a.turn = c.turn <;> by_cases e6 : a.dx = c.dx <;> simp_all <;> omega
theorem bef_total {a b : MotD} (h1 : befD a b = false) (h2 : befD b a = false) : a = b := by
  obtain ⟨a1, a2, a3⟩ := a
  obtain ⟨b1, b2, b3⟩ := b
  unfold befD at *
  dsimp only at *
  by_cases e1 : a1 = b1
  · by_cases e2 : a2 = b2
    · subst e1; subst e2
      simp at h1 h2
      have : a3 = b3 := by omega
      rw [this]
    · have e2' : ¬ b2 = a2 := fun e => e2 e.symm
      subst e1
      simp [e2, e2'] at h1 h2
      omega
  · have e1' : ¬ b1 = a1 := fun e => e1 e.symm
    simp [e1, e1'] at h1 h2
    omega
/-- what is so behind all motions that have been looked at -/
structure InvJ (a : List DotD) (q : DotD) (V : List MotD) (s : StJ) : Prop where
  w0 : s.w = false → (∀ v ∈ V, parD a q v = []) ∧ s.wm = ⟨0, 0, 0⟩ ∧ s.par = -1
  w1 : s.w = true → s.wm ∈ V ∧ parD a q s.wm ≠ [] ∧ s.par = (parD a q s.wm).getD 0 0 ∧ ∀ v ∈ V, parD a q v ≠ [] → befD v s.wm = false
  n0 : s.n = false → (∀ v ∈ V, parD a q v ≠ []) ∧ s.nm = ⟨0, 0, 0⟩
  n1 : s.n = true → s.nm ∈ V ∧ parD a q s.nm = [] ∧ ∀ v ∈ V, parD a q v = [] → befD v s.nm = false
theorem inv_nil (a : List DotD) (q : DotD) : InvJ a q [] stJ0 :=
  ⟨fun _ => ⟨fun v h => (by cases h), rfl, rfl⟩, fun h => (by cases h), fun _ => ⟨fun v h => (by cases h), rfl⟩, fun h => by cases h⟩
theorem inv_step {a : List DotD} {q : DotD} {V : List MotD} {s : StJ} (h : InvJ a q V s) (m : MotD) : InvJ a q (V ++ [m]) (stepJ a q s m) := by
  obtain ⟨w0, w1, n0, n1⟩ := h
  obtain ⟨sw, swm, sp, sn, snm⟩ := s
  dsimp only at w0 w1 n0 n1
  unfold stepJ
  cases hp : parD a q m with
  | nil =>
    have e1 : stepW [] m ⟨sw, swm, sp, sn, snm⟩ = ⟨sw, swm, sp, sn, snm⟩ := by unfold stepW; rw [if_neg (by simp)]
    rw [e1]
    have hw0 : sw = false → (∀ v ∈ V ++ [m], parD a q v = []) ∧ swm = ⟨0, 0, 0⟩ ∧ sp = -1 := fun h => by
      obtain ⟨g1, g2⟩ := w0 h
      refine ⟨fun v hv => ?_, g2⟩
      rcases List.mem_append.1 hv with hv | hv
      · exact g1 v hv
      · rw [List.mem_singleton.1 hv]; exact hp
    have hw1 : sw = true → swm ∈ V ++ [m] ∧ parD a q swm ≠ [] ∧ sp = (parD a q swm).getD 0 0 ∧ ∀ v ∈ V ++ [m], parD a q v ≠ [] → befD v swm = false := fun h => by
      obtain ⟨g1, g2, g3, g4⟩ := w1 h
      refine ⟨List.mem_append.2 (.inl g1), g2, g3, fun v hv hne => ?_⟩
      rcases List.mem_append.1 hv with hv | hv
      · exact g4 v hv hne
      · rw [List.mem_singleton.1 hv] at hne; exact absurd hp hne
    unfold stepN
    by_cases hc : (!sn || befD m snm) = true
    · rw [if_pos (by simpa using hc)]
      refine ⟨hw0, hw1, fun h => (by cases h), fun _ => ⟨by simp, hp, fun v hv he => ?_⟩⟩
      show befD v m = false
      rcases List.mem_append.1 hv with hv | hv
      · cases hsn : sn
        · exact absurd he ((n0 hsn).1 v hv)
        · have g := (n1 hsn).2.2 v hv he
          rw [hsn] at hc
          have hms : befD m snm = true := by simpa using hc
          cases hb : befD v m
          · rfl
          · rw [bef_trans hb hms] at g; cases g
      · rw [List.mem_singleton.1 hv]; exact bef_irr m
    · rw [if_neg (by simpa using hc)]
      have hsn : sn = true := by cases sn <;> simp_all
      have hbm : befD m snm = false := by rw [hsn] at hc; simpa using hc
      refine ⟨hw0, hw1, fun h => absurd (hsn.symm.trans h) (by decide), fun _ => ?_⟩
      obtain ⟨g1, g2, g3⟩ := n1 hsn
      refine ⟨List.mem_append.2 (.inl g1), g2, fun v hv he => ?_⟩
      rcases List.mem_append.1 hv with hv | hv
      · exact g3 v hv he
      · rw [List.mem_singleton.1 hv]; exact hbm
  | cons x t =>
    have hne : parD a q m ≠ [] := by rw [hp]; simp
    have e2 : ∀ s, stepN (x :: t) m s = s := fun s => by unfold stepN; rw [if_neg (by simp)]
    rw [e2]
    have hn0 : sn = false → (∀ v ∈ V ++ [m], parD a q v ≠ []) ∧ snm = ⟨0, 0, 0⟩ := fun h => by
      obtain ⟨g1, g2⟩ := n0 h
      refine ⟨fun v hv => ?_, g2⟩
      rcases List.mem_append.1 hv with hv | hv
      · exact g1 v hv
      · rw [List.mem_singleton.1 hv]; exact hne
    have hn1 : sn = true → snm ∈ V ++ [m] ∧ parD a q snm = [] ∧ ∀ v ∈ V ++ [m], parD a q v = [] → befD v snm = false := fun h => by
      obtain ⟨g1, g2, g4⟩ := n1 h
      refine ⟨List.mem_append.2 (.inl g1), g2, fun v hv he => ?_⟩
      rcases List.mem_append.1 hv with hv | hv
      · exact g4 v hv he
      · rw [List.mem_singleton.1 hv] at he; exact absurd he hne
    unfold stepW
    by_cases hc : (!sw || befD m swm) = true
    · rw [if_pos (by simpa using hc)]
      refine ⟨fun h => (by cases h), fun _ => ⟨by simp, hne, by rw [hp], fun v hv he => ?_⟩, hn0, hn1⟩
      show befD v m = false
      rcases List.mem_append.1 hv with hv | hv
      · cases hsn : sw
        · exact absurd ((w0 hsn).1 v hv) he
        · have g := (w1 hsn).2.2.2 v hv he
          rw [hsn] at hc
          have hms : befD m swm = true := by simpa using hc
          cases hb : befD v m
          · rfl
          · rw [bef_trans hb hms] at g; cases g
      · rw [List.mem_singleton.1 hv]; exact bef_irr m
    · rw [if_neg (by simpa using hc)]
      have hsn : sw = true := by cases sw <;> simp_all
      have hbm : befD m swm = false := by rw [hsn] at hc; simpa using hc
      refine ⟨fun h => absurd (hsn.symm.trans h) (by decide), fun _ => ?_, hn0, hn1⟩
      obtain ⟨g1, g2, g3, g4⟩ := w1 hsn
      refine ⟨List.mem_append.2 (.inl g1), g2, g3, fun v hv he => ?_⟩
      rcases List.mem_append.1 hv with hv | hv
      · exact g4 v hv he
      · rw [List.mem_singleton.1 hv]; exact hbm
theorem inv_all (a : List DotD) (q : DotD) : ∀ (V W : List MotD) (s : StJ), InvJ a q V s → InvJ a q (V ++ W) (W.foldl (stepJ a q) s)
  | V, [], s, h => by simpa using h
  | V, m :: W, s, h => by
    have := inv_all a q (V ++ [m]) W (stepJ a q s m) (inv_step h m)
    rw [List.append_assoc] at this
    exact this
theorem par_any {a : List DotD} {q : DotD} {m : MotD} : parD a q m ≠ [] ↔ anyB (boxesD (findsD a) q m.turn.toNat) m.dx m.dy = true := by
  unfold parD anyB boxesD findsD
  rw [List.any_map, List.any_filter, List.any_eq_true]
  constructor
  · intro h
    cases hf : a.filter (parB q m) with
    | nil => rw [hf] at h; exact absurd rfl h
    | cons p t =>
      have hp : p ∈ a.filter (parB q m) := by rw [hf]; simp
      obtain ⟨h1, h2⟩ := List.mem_filter.1 hp
      exact ⟨p, h1, h2⟩
  · rintro ⟨p, hp, h1⟩ he
    have : p ∈ a.filter (parB q m) := List.mem_filter.2 ⟨hp, h1⟩
    rw [List.map_eq_nil_iff.1 he] at this
    cases this
theorem par_first {a : List DotD} {q : DotD} {m : MotD} (h : anyB (boxesD (findsD a) q m.turn.toNat) m.dx m.dy = true) : (parD a q m).getD 0 0 = partD a q m := by
  have h0 := h
  unfold anyB boxesD at h
  rw [List.any_map] at h
  have h1 := idxF_find (fun p => hasB (shiftD m.turn.toNat p q) m.dx m.dy) dot0 (findsD a) h
  have e : a.filter (parB q m) = (findsD a).filter fun p => hasB (shiftD m.turn.toNat p q) m.dx m.dy := by
    unfold findsD
    rw [List.filter_filter]
    refine List.filter_congr fun p _ => ?_
    unfold parB
    rw [Bool.and_comm]
  unfold parD partD
  rw [e]
  rw [← List.head?_filter] at h1
  generalize (findsD a).filter (fun p => hasB (shiftD m.turn.toNat p q) m.dx m.dy) = L at *
  cases L with
  | nil => cases h1
  | cons x t =>
    have := Option.some.inj h1
    rw [← this]; rfl
end Go.Proofs.YtoofkahklboojaaDoor
namespace Go.Proofs.YtoofkahklboojaaDoor

theorem edgR_in {lo hi n : Int} {l : List (Int × Int)} (h : n ∈ edgR lo hi l) (hl : lo ≤ hi) : lo ≤ n ∧ n ≤ hi := by
  unfold edgR at h
  rcases List.mem_cons.1 h with rfl | h
  · omega
  · obtain ⟨s, -, h⟩ := List.mem_flatMap.1 h
    have := (List.mem_filter.1 h).2
    simp at this
    omega
theorem edg_sub {lo hi x : Int} {l l' : List (Int × Int)} (h : x ∈ edgesD lo hi l) (hs : ∀ s ∈ l, s ∈ l') : x ∈ edgR lo hi l' := by
  unfold edgesD at h
  unfold edgR
  rcases List.mem_cons.1 h with rfl | h
  · simp
  · obtain ⟨h1, h2⟩ := List.mem_filter.1 h
    obtain ⟨s, hs1, hs2⟩ := List.mem_flatMap.1 h1
    rw [decide_eq_true_iff] at h2
    by_cases he : x = lo
    · rw [he]; simp
    · exact List.mem_cons_of_mem _ (List.mem_flatMap.2 ⟨s, hs s hs1, List.mem_filter.2 ⟨hs2, by simp; omega⟩⟩)
theorem vis_mem {a : List DotD} {q : DotD} {F : List (Nat × BoxD)} {m : MotD} : m ∈ allJ a q F ↔ ∃ f ∈ F, m.turn = f.1 ∧ m.dx ∈ edgR f.2.xl f.2.xh (xsR a q f.1) ∧ m.dy ∈ edgR f.2.yl f.2.yh (ysR a q f.1) := by
  unfold allJ visF
  rw [List.mem_flatMap]
  constructor
  · rintro ⟨f, hf, h⟩
    obtain ⟨x, hx, h⟩ := List.mem_flatMap.1 h
    obtain ⟨y, hy, rfl⟩ := List.mem_map.1 h
    exact ⟨f, hf, rfl, hx, hy⟩
  · rintro ⟨f, hf, h1, h2, h3⟩
    refine ⟨f, hf, List.mem_flatMap.2 ⟨m.dx, h2, List.mem_map.2 ⟨m.dy, h3, ?_⟩⟩⟩
    obtain ⟨mt, mx, my⟩ := m
    dsimp only at h1
    rw [h1]
theorem search_first {q : DotD} {os : List Int → List Int} {l : List (DotD × DotD)} {finds : List DotD} {can : Bool} {m : MotD} (h : searchD os l finds q can = some m) : ∃ k : Nat, k ≤ 3 ∧ searchK os l finds q can k = some m ∧ ∀ j, j < k → searchK os l finds q can j = none := by
  unfold searchD at h
  cases h0 : searchK os l finds q can 0 with
  | some m0 =>
    rw [List.findSome?_cons, h0] at h
    exact ⟨0, by omega, by rw [h0]; exact h, fun j hj => absurd hj (by omega)⟩
  | none =>
    rw [List.findSome?_cons, h0] at h
    dsimp only at h
    cases h1 : searchK os l finds q can 1 with
    | some m0 =>
      rw [List.findSome?_cons, h1] at h
      exact ⟨1, by omega, by rw [h1]; exact h, fun j hj => by rw [show j = 0 by omega]; exact h0⟩
    | none =>
      rw [List.findSome?_cons, h1] at h
      dsimp only at h
      cases h2 : searchK os l finds q can 2 with
      | some m0 =>
        rw [List.findSome?_cons, h2] at h
        exact ⟨2, by omega, by rw [h2]; exact h, fun j hj => by rcases (by omega : j = 0 ∨ j = 1) with rfl | rfl <;> assumption⟩
      | none =>
        rw [List.findSome?_cons, h2] at h
        dsimp only at h
        cases h3 : searchK os l finds q can 3 with
        | some m0 =>
          rw [List.findSome?_cons, h3] at h
          exact ⟨3, by omega, by rw [h3]; exact h, fun j hj => by rcases (by omega : j = 0 ∨ j = 1 ∨ j = 2) with rfl | rfl | rfl <;> assumption⟩
        | none => rw [List.findSome?_cons, h3] at h; cases h
section
variable {a b : List DotD} {q : DotD} (hne : marksD a b ≠ [])
include hne
theorem fitsR_fitsD : fitsR a b = fitsD a b := by unfold fitsR; rw [if_neg (by simpa using hne)]
theorem vis_fit {m : MotD} (h : m ∈ allJ a q (fitsR a b)) : ∃ k : Nat, k ≤ 3 ∧ m.turn = k ∧ hasB (fitD (marksD a b) k) m.dx m.dy = true := by
  obtain ⟨f, hf, h1, h2, h3⟩ := vis_mem.1 h
  rw [fitsR_fitsD hne] at hf
  obtain ⟨g1, g2, g3⟩ := fits_mem.1 hf
  have hh : f.2.xl ≤ f.2.xh ∧ f.2.yl ≤ f.2.yh := by unfold emptyB at g3; simp at g3; omega
  have k1 := edgR_in h2 hh.1
  have k2 := edgR_in h3 hh.2
  refine ⟨f.1, g1, h1, ?_⟩
  rw [← g2, has_iff]
  omega
/-- what the search finds is looked at -/
theorem srch_vis {c : Bool} {m : MotD} (h : srch a b q c = some m) : m ∈ allJ a q (fitsR a b) ∧ anyB (boxesD (findsD a) q m.turn.toNat) m.dx m.dy = c ∧ ∀ v ∈ allJ a q (fitsR a b), anyB (boxesD (findsD a) q v.turn.toNat) v.dx v.dy = c → befD v m = false := by
  obtain ⟨k, hk, hK, hlt⟩ := search_first h
  obtain ⟨h1, h2, h3⟩ := searchK_some osF_mem hK
  have ht : m.turn.toNat = k := by omega
  have hsub : ∀ s ∈ (boxesD (findsD a) q k).map (fun b => (b.xl, b.xh)), s ∈ xsR a q k := by
    intro s hs
    unfold boxesD at hs
    rw [List.map_map] at hs
    obtain ⟨p, hp, rfl⟩ := List.mem_map.1 hs
    exact List.mem_map.2 ⟨p, (List.mem_filter.1 hp).1, rfl⟩
  have hsub2 : ∀ s ∈ (boxesD (findsD a) q k).map (fun b => (b.yl, b.yh)), s ∈ ysR a q k := by
    intro s hs
    unfold boxesD at hs
    rw [List.map_map] at hs
    obtain ⟨p, hp, rfl⟩ := List.mem_map.1 hs
    exact List.mem_map.2 ⟨p, (List.mem_filter.1 hp).1, rfl⟩
  refine ⟨?_, by rw [ht]; exact h3, fun v hv hc => ?_⟩
  · have hK' := hK
    unfold searchK at hK'
    split at hK'
    · cases hK'
    · rename_i he
      obtain ⟨-, g2, g3, -⟩ := searchAt_some hK'
      refine vis_mem.2 ⟨(k, fitD (marksD a b) k), ?_, h1, edg_sub ((osF_mem _ _).1 g2) hsub, edg_sub ((osF_mem _ _).1 g3) hsub2⟩
      rw [fitsR_fitsD hne]
      exact fits_mem.2 ⟨hk, rfl, by simpa using he⟩
  · obtain ⟨j, hj, hjt, hjb⟩ := vis_fit hne hv
    have hvt : v.turn.toNat = j := by omega
    rw [hvt] at hc
    rcases Nat.lt_trichotomy j k with hlt' | rfl | hgt
    · exact absurd hc (searchK_none osF_mem (hlt j hlt') _ _ hjb)
    · have hl := search_least osF_mem osF_lt hK v.dx v.dy hjb hc
      unfold lexLe at hl
      dsimp only at hl
      unfold befD
      have e0 : (v.turn != m.turn) = false := by simp; omega
      rw [e0, if_neg (by decide)]
      by_cases e1 : v.dx = m.dx
      · have e2 : (v.dx != m.dx) = false := by simpa using e1
        rw [e2, if_neg (by decide)]
        simp; omega
      · have e2 : (v.dx != m.dx) = true := by simpa using e1
        rw [e2, if_pos rfl]
        simp; omega
    · unfold befD
      have e0 : (v.turn != m.turn) = true := by simp; omega
      rw [e0, if_pos rfl]
      simp; omega
theorem srch_no {c : Bool} (h : srch a b q c = none) : ∀ v ∈ allJ a q (fitsR a b), anyB (boxesD (findsD a) q v.turn.toNat) v.dx v.dy ≠ c := by
  intro v hv
  obtain ⟨j, hj, hjt, hjb⟩ := vis_fit hne hv
  have hvt : v.turn.toNat = j := by omega
  rw [hvt]
  exact search_none osF_mem h j hj _ _ hjb
/-- the whole of it -/
theorem judge_final (hF : (fitsR a b).isEmpty = false) : let s := (allJ a q (fitsR a b)).foldl (stepJ a q) stJ0
    verD a b q = ⟨if s.n = false then 3 else if s.w = false then 1 else 2, s.wm, s.par, s.nm⟩ ∧ (s.n = false → s.w = true) := by
  intro s
  have hI : InvJ a q (allJ a q (fitsR a b)) s := by
    have := inv_all a q [] (allJ a q (fitsR a b)) stJ0 (inv_nil a q)
    simpa using this
  obtain ⟨w0, w1, n0, n1⟩ := hI
  have hw : s.w = (srch a b q true).isSome ∧ s.wm = resM (srch a b q true) ∧ s.par = if (srch a b q true).isSome then partD a q (resM (srch a b q true)) else -1 := by
    cases h : srch a b q true with
    | none =>
      have hno := srch_no hne h
      cases hs : s.w
      · exact ⟨rfl, (w0 hs).2.1, (w0 hs).2.2⟩
      · obtain ⟨g1, g2, -⟩ := w1 hs
        exact absurd (par_any.1 g2) (hno _ g1)
    | some m =>
      obtain ⟨g1, g2, g3⟩ := srch_vis hne h
      cases hs : s.w
      · exact absurd ((w0 hs).1 m g1) (par_any.2 g2)
      · obtain ⟨k1, k2, k3, k4⟩ := w1 hs
        have e : s.wm = m := bef_total (g3 _ k1 (par_any.1 k2)) (k4 m g1 (par_any.2 g2))
        refine ⟨rfl, e, ?_⟩
        rw [k3, e]
        exact par_first g2
  have hn : s.n = (srch a b q false).isSome ∧ s.nm = resM (srch a b q false) := by
    have hno' : ∀ v, parD a q v = [] ↔ anyB (boxesD (findsD a) q v.turn.toNat) v.dx v.dy = false := fun v => by
      have := par_any (a := a) (q := q) (m := v)
      constructor
      · intro h
        cases hb : anyB (boxesD (findsD a) q v.turn.toNat) v.dx v.dy
        · rfl
        · exact absurd h (this.2 hb)
      · intro h
        cases hp : parD a q v with
        | nil => rfl
        | cons x t => have := this.1 (by rw [hp]; simp); rw [h] at this; cases this
    cases h : srch a b q false with
    | none =>
      have hno := srch_no hne h
      cases hs : s.n
      · exact ⟨rfl, (n0 hs).2⟩
      · obtain ⟨g1, g2, -⟩ := n1 hs
        exact absurd ((hno' _).1 g2) (hno _ g1)
    | some m =>
      obtain ⟨g1, g2, g3⟩ := srch_vis hne h
      cases hs : s.n
      · exact absurd ((hno' _).2 g2) ((n0 hs).1 m g1)
      · obtain ⟨k1, k2, k4⟩ := n1 hs
        exact ⟨rfl, bef_total (g3 _ k1 ((hno' _).1 k2)) (k4 m g1 ((hno' _).2 g2))⟩
  have hor : s.n = false → s.w = true := by
    intro hsn
    have hV : ∃ v, v ∈ allJ a q (fitsR a b) := by
      cases hf : fitsR a b with
      | nil => rw [hf] at hF; cases hF
      | cons f t => exact ⟨⟨f.1, f.2.xl, f.2.yl⟩, vis_mem.2 ⟨f, by simp, rfl, by simp [edgR], by simp [edgR]⟩⟩
    obtain ⟨v, hv⟩ := hV
    cases hs : s.w
    · exact absurd ((w0 hs).1 v hv) ((n0 hsn).1 v hv)
    · rfl
  refine ⟨?_, hor⟩
  unfold verD
  rw [← hw.1, ← hw.2.1, ← hn.1, ← hn.2]
  rw [← hw.1, ← hw.2.1] at hw
  rw [← hw.2.2]
  cases h1 : s.w
  · cases h2 : s.n
    · have := hor h2; rw [h1] at this; cases this
    · rfl
  · cases h2 : s.n <;> rfl
end
end Go.Proofs.YtoofkahklboojaaDoor
