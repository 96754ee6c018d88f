/- Register: what RegisterSound needs of verdicts, in plain words. No condition. Register, in plain words: what RegisterBlames needs. No condition. Register, in plain words: what the reference computes is what the program computes. No condition. -/
import Derived.Test.YtoofkahklboojaaDoorRkL
import Derived.Test.YtoofkahklboojaaDoorRkG
import Derived.Test.YtoofkahklboojaaDoorRkB
namespace Go.Proofs.YtoofkahklboojaaDoor
open Go.RowKit

theorem surv_fits (t : TruthD) : (fitsR (survA t) (survB t)).isEmpty = false := by
  have h1 := way_fits t
  have hne := marks_ne t
  have hw := way_in t
  obtain ⟨f, hf, -, -⟩ := (fits_iff hne (m := wayD t) ⟨hw.1, hw.2.1⟩).1 h1
  unfold fitsR
  rw [if_neg (by simp [hne])]
  cases h : fitsD (survA t) (survB t) with
  | nil => rw [h] at hf; cases hf
  | cons => rfl
theorem survB_cases (t : TruthD) {q : DotD} (h : q ∈ survB t) : (∃ i, i < 4 ∧ q = markB t i) ∨ ∃ j, j < 6 ∧ q = findB t j := by
  unfold survB at h
  rcases List.mem_append.1 h with h | h
  · obtain ⟨i, hi, rfl⟩ := List.mem_map.1 h
    exact .inl ⟨i, by have := List.mem_range.1 hi; have := (nMarks_in t).2; omega, rfl⟩
  · obtain ⟨j, hj, rfl⟩ := List.mem_map.1 h
    exact .inr ⟨j, by have := List.mem_range.1 (List.mem_filter.1 hj).1; have := nFinds_le t; omega, rfl⟩
theorem survA_cases (t : TruthD) {q : DotD} (h : q ∈ survA t) : (∃ i, i < 4 ∧ q = markA t i) ∨ ∃ j, j < 6 ∧ q = findA t j := by
  unfold survA at h
  rcases List.mem_append.1 h with h | h
  · obtain ⟨i, hi, rfl⟩ := List.mem_map.1 h
    exact .inl ⟨i, by have := List.mem_range.1 hi; have := (nMarks_in t).2; omega, rfl⟩
  · obtain ⟨j, hj, rfl⟩ := List.mem_map.1 h
    exact .inr ⟨j, by have := List.mem_range.1 (List.mem_filter.1 hj).1; have := nFinds_le t; omega, rfl⟩
theorem surv_judge (t : TruthD) {i : Nat} (hi : i < (survB t).length) (hz : 19 < ((survB t).getD i dot0).id) : judgeD (survA t) (survB t) ((survB t).getD i dot0).id = some ((survB t).getD i dot0) := by
  unfold judgeD
  rw [surv_fits, if_neg (by decide), if_neg (by omega), find_uniq (asc_getD (surv_valid t).2) hi rfl]
theorem surv_err (t : TruthD) {i : Nat} (hi : i < (survB t).length) (hz : 19 < ((survB t).getD i dot0).id) : judE (survA t) (survB t) ((survB t).getD i dot0).id = 0 := by
  unfold judE; rw [surv_judge t hi hz]; rfl
theorem surv_id (t : TruthD) {i : Nat} (hi : i < (survB t).length) (hz : 19 < ((survB t).getD i dot0).id) : ∃ j, j < 6 ∧ (survB t).getD i dot0 = findB t j := by
  rcases survB_cases t (getD_mem (survB t) i (d := dot0) hi) with ⟨k, hk, e⟩ | h
  · rw [e] at hz
    have : (markB t k).id = 3 * k := rfl
    omega
  · exact h
theorem surv_range (t : TruthD) {i : Nat} (hi : i < (survB t).length) (hz : 19 < ((survB t).getD i dot0).id) : 60 ≤ ((survB t).getD i dot0).id ∧ ((survB t).getD i dot0).id ≤ 99 := by
  obtain ⟨j, hj, e⟩ := surv_id t hi hz
  rw [e]
  have : (findB t j).id = 60 + 3 * j := rfl
  omega
theorem sound_kind (t : TruthD) {i k : Nat} (hi : i < (survB t).length) (hz : 19 < ((survB t).getD i dot0).id) (hk : k < (survA t).length) (h : ((survA t).getD k dot0).id = 20 + 2 * ((((survB t).getD i dot0).id - 60) / 3)) :
    (judV (survA t) (survB t) ((survB t).getD i dot0).id).kind ≠ 1 := by
  obtain ⟨j, hj, e⟩ := surv_id t hi hz
  have hj1 := surv_judge t hi hz
  unfold judV
  rw [hj1]
  show (verD (survA t) (survB t) ((survB t).getD i dot0)).kind ≠ 1
  rw [e] at h ⊢
  have hid : (findB t j).id = 60 + 3 * j := rfl
  rw [hid, show (60 + 3 * (j : Int) - 60) / 3 = j by omega] at h
  have hA : findA t j ∈ findsD (survA t) := by
    have hm := getD_mem (survA t) k (d := dot0) hk
    rcases survA_cases t hm with ⟨l, hl, e2⟩ | ⟨l, hl, e2⟩
    · rw [e2] at h
      have : (markA t l).id = 3 * l := rfl
      omega
    · have hl2 : l = j := by
        rw [e2] at h
        have : (findA t l).id = 20 + 2 * l := rfl
        omega
      subst hl2
      rw [e2] at hm
      refine List.mem_filter.2 ⟨hm, ?_⟩
      have : (findA t l).id = 20 + 2 * l := rfl
      simp [this]; omega
  have hs := sound_some osF_mem t j hA
  have hs2 : (srch (survA t) (survB t) (findB t j) true).isSome = true := by
    unfold srch
    cases hh : searchD osF (marksD (survA t) (survB t)) (findsD (survA t)) (findB t j) true with
    | none => exact absurd hh hs
    | some => rfl
  unfold verD
  simp only [hs2, if_true]
  split <;> decide
end Go.Proofs.YtoofkahklboojaaDoor
namespace Go.Proofs.YtoofkahklboojaaDoor

theorem asc_pair {l : List DotD} (h : validD l = true) : l.Pairwise fun p q => p.id < q.id := by
  have h1 : ascB l = true := by unfold validD at h; simp at h; exact h.1.1
  have h2 := asc_ids.1 h1
  rwa [List.pairwise_map] at h2
/-- the one element with a number -/
theorem filt_one : ∀ {l : List DotD}, l.Pairwise (fun p q => p.id < q.id) → ∀ {x : DotD}, x ∈ l → (l.filter fun p => decide (p.id = x.id)) = [x]
  | [], _, x, h => by cases h
  | a :: t, hp, x, h => by
    obtain ⟨h1, h2⟩ := List.pairwise_cons.1 hp
    rcases List.mem_cons.1 h with rfl | h
    · rw [List.filter_cons_of_pos (by simp)]
      congr 1
      rw [List.filter_eq_nil_iff]
      intro p hp'
      have := h1 p hp'
      simp; omega
    · have := h1 x h
      rw [List.filter_cons_of_neg (by simp; omega)]
      exact filt_one h2 h
def hitD (u v : Int) (p : DotD) : Bool := decide (p.id = u) || decide (p.id = v)
/-- the two elements with two numbers -/
theorem filt_two : ∀ {l : List DotD}, l.Pairwise (fun p q => p.id < q.id) → ∀ {x y : DotD}, x ∈ l → y ∈ l → x.id < y.id → l.filter (hitD x.id y.id) = [x, y]
  | [], _, x, _, h, _, _ => by cases h
  | a :: t, hp, x, y, hx, hy, hxy => by
    obtain ⟨h1, h2⟩ := List.pairwise_cons.1 hp
    rcases List.mem_cons.1 hx with rfl | hx
    · have hy' : y ∈ t := by
        rcases List.mem_cons.1 hy with rfl | hy
        · omega
        · exact hy
      rw [List.filter_cons_of_pos (by simp [hitD])]
      congr 1
      rw [← filt_one h2 hy']
      refine List.filter_congr fun p hp' => ?_
      have := h1 p hp'
      unfold hitD
      rw [decide_eq_false (show ¬ p.id = x.id by omega), Bool.false_or]
    · have h3 := h1 x hx
      have hy' : y ∈ t := by
        rcases List.mem_cons.1 hy with rfl | hy
        · omega
        · exact hy
      have h4 := h1 y hy'
      rw [List.filter_cons_of_neg (by unfold hitD; simp; omega)]
      exact filt_two h2 hx hy' hxy
theorem row_one {b : List DotD} (hb : validD b = true) {p q : DotD} (hq : q ∈ b) (he : p.id = q.id) (h19 : p.id ≤ 19) : rowOf p b = [(p, q)] := by
  unfold rowOf
  have : (b.filter fun q => decide (p.id = q.id) && decide (p.id ≤ 19)) = b.filter fun r => decide (r.id = q.id) := by
    refine List.filter_congr fun r _ => ?_
    rw [he, decide_eq_true (show q.id ≤ 19 by omega), Bool.and_true]
    exact decide_eq_decide.2 eq_comm
  rw [this, filt_one (asc_pair hb) hq]; rfl
theorem marks_pair {a b : List DotD} : (marksD a b).Pairwise fun r s => r.1.id < s.1.id := by
  unfold marksD
  split
  · rename_i h
    rw [Bool.and_eq_true] at h
    have h2 := asc_pair h.2
    have key : ∀ l : List DotD, l.Pairwise (fun p q => p.id < q.id) → (marksRaw l b).Pairwise fun r s => r.1.id < s.1.id := by
      intro l
      induction l with
      | nil => intro _; exact List.Pairwise.nil
      | cons p t ih =>
        intro hp
        obtain ⟨g1, g2⟩ := List.pairwise_cons.1 hp
        show (rowOf p b ++ marksRaw t b).Pairwise _
        rw [List.pairwise_append]
        refine ⟨?_, ih g2, ?_⟩
        · unfold rowOf
          rw [List.pairwise_map]
          refine List.Pairwise.imp_of_mem (R := fun q r => q.id < r.id) ?_ (h2.filter _)
          intro q r hq hr hlt
          have e1 := (List.mem_filter.1 hq).2
          have e2 := (List.mem_filter.1 hr).2
          simp at e1 e2
          omega
        · intro r hr s hs
          unfold rowOf at hr
          obtain ⟨q, -, rfl⟩ := List.mem_map.1 hr
          exact g1 _ (marksRaw_mem.1 hs).1
    exact key a (asc_pair h.1)
  · exact List.Pairwise.nil
theorem one_valid {p : DotD} (h : dotOk p = true) : validD [p] = true := by unfold validD ascB; simp [h]
theorem two_valid {p q : DotD} (h : dotOk p = true) (k : dotOk q = true) (hl : p.id < q.id) : validD [p, q] = true := by unfold validD; simp [ascB, h, k, hl]
theorem marks_one {b : List DotD} (hb : validD b = true) {p q : DotD} (hp : dotOk p = true) (hq : q ∈ b) (he : p.id = q.id) (h19 : p.id ≤ 19) : marksD [p] b = [(p, q)] := by
  unfold marksD
  rw [one_valid hp, hb]
  show marksRaw [p] b = _
  have : marksRaw [p] b = rowOf p b ++ [] := rfl
  rw [this, row_one hb hq he h19]; rfl
theorem marks_two {b : List DotD} (hb : validD b = true) {p q r s : DotD} (hp : dotOk p = true) (hr : dotOk r = true) (hl : p.id < r.id) (hq : q ∈ b) (hs : s ∈ b) (he : p.id = q.id) (hf : r.id = s.id) (h19 : p.id ≤ 19) (k19 : r.id ≤ 19) : marksD [p, r] b = [(p, q), (r, s)] := by
  unfold marksD
  rw [two_valid hp hr hl, hb]
  show marksRaw [p, r] b = _
  have : marksRaw [p, r] b = rowOf p b ++ (rowOf r b ++ []) := rfl
  rw [this, row_one hb hq he h19, row_one hb hs hf k19]; rfl
/-- one mark alone: each turn has a fit -/
theorem fits_one {b : List DotD} {p q : DotD} (h : marksD [p] b = [(p, q)]) (hp : dotOk p = true) (hq : dotOk q = true) : errR [p] b = 0 ∧ (fitsR [p] b).length = 4 := by
  have hbox : ∀ k, emptyB (fitD (marksD [p] b) k) = false := fun k => by
    obtain ⟨h1, h2⟩ := shift_in hp hq k
    have h3 := has_of_not_empty h1
    rw [← Bool.not_eq_true, empty_iff]
    intro he
    have := he (shiftD k p q).xl (shiftD k p q).yl
    rw [h, has_fit] at this
    simp [h3, h2 _ _ h3] at this
  refine ⟨by unfold errR; rw [h]; rfl, ?_⟩
  unfold fitsR
  rw [if_neg (by rw [h]; simp)]
  unfold fitsD
  rw [List.filter_eq_self.2 ?_]
  · simp
  · intro f hf
    obtain ⟨k, -, rfl⟩ := List.mem_map.1 hf
    simp [hbox]
/-- two marks that contradict each other: no fit with this turn -/
theorem fits_two {b : List DotD} {p q r s : DotD} (h : marksD [p, r] b = [(p, q), (r, s)]) {k : Nat} (ha : apartB (shiftD k p q) (shiftD k r s) = true) : errR [p, r] b = 0 ∧ ∀ f ∈ fitsR [p, r] b, f.1 ≠ k := by
  refine ⟨by unfold errR; rw [h]; rfl, fun f hf he => ?_⟩
  unfold fitsR at hf
  rw [if_neg (by rw [h]; simp)] at hf
  obtain ⟨h1, h2, h3⟩ := fits_mem.1 hf
  have h4 := has_of_not_empty h3
  rw [h2, h, he, has_fit] at h4
  simp only [List.all_cons, List.all_nil, Bool.and_true, Bool.and_eq_true] at h4
  unfold apartB at ha
  rw [empty_iff] at ha
  have := ha (fitD [(p, q), (r, s)] k).xl (fitD [(p, q), (r, s)] k).yl
  rw [has_meet, h4.2.1, h4.2.2] at this
  cases this
theorem blamed_iff (a c : List DotD) : blamed a c = true ↔ errR a c = 0 ∧ fitsR a c = [] := by
  unfold blamed; simp
theorem blame_no {a c : List DotD} (h : blamed a c = false) : blameR a c = [] := by unfold blameR; rw [h]; rfl
/-- what is blamed for each turn -/
theorem blame_all {a c : List DotD} (h : blamed a c = true) : ∃ f : Nat → Int × Int, (∀ k, k < 4 → blameD (marksD a c) k = some (f k)) ∧ blameR a c = [f 0, f 1, f 2, f 3] := by
  obtain ⟨h1, h2⟩ := (blamed_iff a c).1 h
  have hne : marksD a c ≠ [] := by
    intro e
    unfold errR at h1; rw [e] at h1; cases h1
  have hF : fitsD a c = [] := by
    unfold fitsR at h2
    rwa [if_neg (by simpa using hne)] at h2
  have key : ∀ k, k < 4 → ∃ p, blameD (marksD a c) k = some p := fun k hk => by
    have he : emptyB (fitD (marksD a c) k) = true := by
      cases hb : emptyB (fitD (marksD a c) k)
      · have : (k, fitD (marksD a c) k) ∈ fitsD a c := fits_mem.2 ⟨by show k ≤ 3; omega, rfl, hb⟩
        rw [hF] at this; cases this
      · rfl
    cases hd : blameD (marksD a c) k with
    | some p => exact ⟨p, rfl⟩
    | none =>
      obtain ⟨r, hr, s, hs, hap⟩ := blame_pair hne he
      have := blame_none (fun r hr => (shift_in (marks_ok hr).1 (marks_ok hr).2.1 k).1) hd r hr s hs
      rw [hap] at this; cases this
  obtain ⟨p0, e0⟩ := key 0 (by decide)
  obtain ⟨p1, e1⟩ := key 1 (by decide)
  obtain ⟨p2, e2⟩ := key 2 (by decide)
  obtain ⟨p3, e3⟩ := key 3 (by decide)
  refine ⟨fun k => match k with | 0 => p0 | 1 => p1 | 2 => p2 | _ => p3, fun k hk => ?_, ?_⟩
  · match k, hk with
    | 0, _ => exact e0
    | 1, _ => exact e1
    | 2, _ => exact e2
    | 3, _ => exact e3
  · unfold blameR
    rw [h, if_pos rfl]
    unfold blameUp
    have : List.range 4 = [0, 1, 2, 3] := rfl
    rw [this]
    simp [e0, e1, e2, e3]
/-- the whole of what the law asks of a turn -/
theorem blame_turn {a c : List DotD} {k : Nat} {u v : Int} (h : blameD (marksD a c) k = some (u, v)) : u < v ∧ ∃ x y, a.filter (hitD u v) = [x, y] ∧ (∀ p ∈ a, hitD u v p = true → errR [p] c = 0 ∧ (fitsR [p] c).length = 4) ∧ errR [x, y] c = 0 ∧ ∀ f ∈ fitsR [x, y] c, f.1 ≠ k := by
  obtain ⟨⟨p, q⟩, ⟨r, s⟩, hsub, rfl, rfl, hap⟩ := blame_some h
  have hpw := List.Pairwise.sublist hsub marks_pair
  have hlt : p.id < r.id := by simpa using hpw
  have hr1 := hsub.subset (show (p, q) ∈ [(p, q), (r, s)] by simp)
  have hr2 := hsub.subset (show (r, s) ∈ [(p, q), (r, s)] by simp)
  have hne : (marksD a c).isEmpty = false := by cases hm : marksD a c with | nil => rw [hm] at hr1; cases hr1 | cons => rfl
  obtain ⟨hva, hvc⟩ := marks_valid hne
  obtain ⟨k1, k2, k3, k4, k5, k6⟩ := marks_ok hr1
  obtain ⟨l1, l2, l3, l4, l5, l6⟩ := marks_ok hr2
  dsimp only at *
  have hm2 := marks_two hvc k1 l1 hlt k4 l4 k5 l5 k6 l6
  have hm1 := marks_one hvc k1 k4 k5 k6
  have hm3 := marks_one hvc l1 l4 l5 l6
  have hf2 := fits_two hm2 hap
  refine ⟨hlt, p, r, filt_two (asc_pair hva) k3 l3 hlt, fun d hd hh => ?_, hf2.1, hf2.2⟩
  have hd2 : d = p ∨ d = r := by
    have : d ∈ a.filter (hitD p.id r.id) := List.mem_filter.2 ⟨hd, hh⟩
    rw [filt_two (asc_pair hva) k3 l3 hlt] at this
    simpa using this
  rcases hd2 with rfl | rfl
  · exact fits_one hm1 k1 k2
  · exact fits_one hm3 l1 l2
end Go.Proofs.YtoofkahklboojaaDoor
namespace Go.Proofs.YtoofkahklboojaaDoor

theorem list_range {α : Type} (d : α) (l : List α) : l = (List.range l.length).map fun i => l.getD i d := by
  apply List.ext_getElem
  · simp
  · intro i h1 h2
    simp [List.getD_eq_getElem?_getD, List.getElem?_eq_getElem h1]
/-- the pairs of indices of one row, up to a column -/
def comRow (a b : List DotD) (i j : Nat) : List (Nat × Nat) := ((List.range j).filter fun k => isMark (a.getD i dot0) (b.getD k dot0)).map fun k => (i, k)
def comD (a b : List DotD) (i : Nat) : List (Nat × Nat) := (List.range i).flatMap fun i => comRow a b i b.length
theorem comRow_succ (a b : List DotD) (i j : Nat) : comRow a b i (j + 1) = comRow a b i j ++ if isMark (a.getD i dot0) (b.getD j dot0) then [(i, j)] else [] := by
  unfold comRow
  rw [List.range_succ, List.filter_append, List.map_append]
  congr 1
  cases h : isMark (a.getD i dot0) (b.getD j dot0) <;> simp [h, -List.getD_eq_getElem?_getD]
theorem comD_succ (a b : List DotD) (i : Nat) : comD a b (i + 1) = comD a b i ++ comRow a b i b.length := by
  unfold comD
  rw [List.range_succ, List.flatMap_append]
  simp
theorem comRow_len (a b : List DotD) (i j : Nat) : (comRow a b i j).length ≤ j := by
  unfold comRow
  rw [List.length_map]
  have := List.length_filter_le (fun k => isMark (a.getD i dot0) (b.getD k dot0)) (List.range j)
  rwa [List.length_range] at this
theorem comD_len (a b : List DotD) : ∀ i, (comD a b i).length ≤ i * b.length
  | 0 => by simp [comD]
  | i + 1 => by
    rw [comD_succ, List.length_append, Nat.succ_mul]
    have := comD_len a b i
    have := comRow_len a b i b.length
    omega
theorem comD_mem {a b : List DotD} {i : Nat} {r : Nat × Nat} (h : r ∈ comD a b i) : r.1 < i ∧ r.2 < b.length := by
  unfold comD comRow at h
  obtain ⟨j, hj, h⟩ := List.mem_flatMap.1 h
  obtain ⟨k, hk, rfl⟩ := List.mem_map.1 h
  exact ⟨List.mem_range.1 hj, List.mem_range.1 (List.mem_filter.1 hk).1⟩
/-- the pairs of indices are the common marks -/
theorem comD_marks (a b : List DotD) : (comD a b a.length).map (fun r => (a.getD r.1 dot0, b.getD r.2 dot0)) = marksRaw a b := by
  have h1 : ∀ i, (comRow a b i b.length).map (fun r => (a.getD r.1 dot0, b.getD r.2 dot0)) = rowOf (a.getD i dot0) b := fun i => by
    unfold comRow rowOf
    rw [List.map_map]
    have e : (b.filter fun q => decide ((a.getD i dot0).id = q.id) && decide ((a.getD i dot0).id ≤ 19)) = ((List.range b.length).filter fun k => isMark (a.getD i dot0) (b.getD k dot0)).map fun k => b.getD k dot0 := by
      conv => lhs; rw [list_range dot0 b]
      rw [List.filter_map]
      rfl
    rw [e, List.map_map]
    rfl
  unfold comD
  rw [List.map_flatMap]
  have h2 : marksRaw a b = a.flatMap fun p => rowOf p b := rfl
  rw [h2]
  conv => rhs; rw [list_range dot0 a]
  rw [List.flatMap_map]
  congr 1
  funext i
  exact h1 i
/-- the i-th pair of indices names the i-th mark -/
theorem com_at {a b : List DotD} (hv : validD a = true) (hw : validD b = true) {i : Nat} (hi : i < (marksD a b).length) : i < (comD a b a.length).length ∧ ((comD a b a.length).getD i (0, 0)).1 < a.length ∧ ((comD a b a.length).getD i (0, 0)).2 < b.length ∧ (marksD a b).getD i pair0 = (a.getD ((comD a b a.length).getD i (0, 0)).1 dot0, b.getD ((comD a b a.length).getD i (0, 0)).2 dot0) := by
  have e : marksD a b = (comD a b a.length).map (fun r => (a.getD r.1 dot0, b.getD r.2 dot0)) := by
    rw [comD_marks]; unfold marksD; rw [hv, hw]; rfl
  have hl : i < (comD a b a.length).length := by rw [e, List.length_map] at hi; exact hi
  have hm : (comD a b a.length).getD i (0, 0) ∈ comD a b a.length := by rw [List.getD_eq_getElem?_getD, List.getElem?_eq_getElem hl]; exact List.getElem_mem hl
  refine ⟨hl, (comD_mem hm).1, (comD_mem hm).2, ?_⟩
  have e2 : (comD a b a.length).getD i (0, 0) = (comD a b a.length)[i] := by rw [List.getD_eq_getElem?_getD, List.getElem?_eq_getElem hl]; rfl
  rw [e2, e, List.getD_eq_getElem?_getD, List.getElem?_map, List.getElem?_eq_getElem hl]
  rfl
theorem com_len {a b : List DotD} (hv : validD a = true) (hw : validD b = true) : (comD a b a.length).length = (marksD a b).length := by
  have e : marksD a b = (comD a b a.length).map (fun r => (a.getD r.1 dot0, b.getD r.2 dot0)) := by
    rw [comD_marks]; unfold marksD; rw [hv, hw]; rfl
  rw [e, List.length_map]
def cmpD (a b : List DotD) : Bool := !(marksD a b).isEmpty
theorem cmp_valid {a b : List DotD} (h : cmpD a b = true) : validD a = true ∧ validD b = true := marks_valid (by unfold cmpD at h; simpa using h)
theorem fitting_all (a b : List DotD) (m : MotD) : fittingD a b m = (cmpD a b && motOk m && (marksD a b).all fun r => hasB (shiftD m.turn.toNat r.1 r.2) m.dx m.dy) := by
  rw [Bool.eq_iff_iff, fitting_iff]
  unfold cmpD
  simp only [Bool.and_eq_true, Bool.not_eq_true', List.isEmpty_eq_false_iff, List.all_eq_true, and_assoc]
/-- what is empty stays so -/
theorem empty_meet {a b : BoxD} (h : emptyB a = true) : emptyB (meetD a b) = true := by
  rw [empty_iff] at h ⊢
  intro x y
  rw [has_meet, h]; rfl
theorem empty_fold (k : Nat) : ∀ (l : List (DotD × DotD)) (b : BoxD), emptyB b = true → emptyB (foldK l k b) = true
  | [], _, h => h
  | _ :: t, _, h => empty_fold k t _ (empty_meet h)
theorem foldK_app (l r : List (DotD × DotD)) (k : Nat) (b : BoxD) : foldK (l ++ r) k b = foldK r k (foldK l k b) := by unfold foldK; rw [List.foldl_append]
theorem fit_break {l : List (DotD × DotD)} {k i : Nat} (h : emptyB (foldK (l.take i) k everyD) = true) : emptyB (fitD l k) = true := by
  have e : fitD l k = foldK (l.drop i) k (foldK (l.take i) k everyD) := by
    rw [← foldK_app, List.take_append_drop]; rfl
  rw [e]; exact empty_fold k _ _ h
/-- what fit returns -/
def fitRB (l : List (DotD × DotD)) (k : Nat) : Nat × BoxD := if emptyB (fitD l k) then (0, ⟨0, 0, 0, 0⟩) else (k, fitD l k)
/-- what apart returns -/
def apartD (l : List (DotD × DotD)) (k : Nat) : Int × Int := (blameD l k).getD (0, 0)
theorem apart_blame {a c : List DotD} (h : blamed a c = true) {k : Nat} (hk : k < 4) : blameUp (marksD a c) (k + 1) = blameUp (marksD a c) k ++ [apartD (marksD a c) k] := by
  obtain ⟨f, hf, -⟩ := blame_all h
  rw [blameUp_succ]
  unfold apartD
  rw [hf k hk]; rfl
theorem turn_neg (k : Nat) (x y : Int) : turnX k (-x) (-y) = -turnX k x y ∧ turnY k (-x) (-y) = -turnY k x y := by
  unfold turnX turnY
  match k with
  | 0 => simp
  | 1 => simp
  | 2 => simp
  | _ + 3 => simp
/-- the partners -/
def parB (q : DotD) (m : MotD) (p : DotD) : Bool := decide (19 < p.id) && hasB (shiftD m.turn.toNat p q) m.dx m.dy
def parD (a : List DotD) (q : DotD) (m : MotD) : List Int := (a.filter (parB q m)).map (·.id)
/-- the reference's edges -/
def edgR (lo hi : Int) (l : List (Int × Int)) : List Int := lo :: l.flatMap fun s => [s.1, s.2 + 1].filter fun n => decide (lo < n) && decide (n ≤ hi)
end Go.Proofs.YtoofkahklboojaaDoor
