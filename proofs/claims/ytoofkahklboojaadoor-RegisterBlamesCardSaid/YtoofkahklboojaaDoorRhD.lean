/- Register, in plain words: what RegisterBlames needs. No condition. -/
import Derived.Test.YtoofkahklboojaaDoorRkG
import Derived.Test.YtoofkahklboojaaDoorRsA
namespace Go.Proofs.YtoofkahklboojaaDoor

theorem asc_pair {l : List DotD} (h : validD l = true) : l.Pairwise fun p q => p.id < q.id := by
  have h1 : ascB l = true := by unfold validD at h; simp at h; exact h.1.1
  have h2 := asc_ids.1 h1
  rwa [List.pairwise_map] at h2
/-- the one element with a number -/
theorem filt_one : ∀ {l : List DotD}, l.Pairwise (fun p q => p.id < q.id) → ∀ {x : DotD}, x ∈ l → (l.filter fun p => decide (p.id = x.id)) = [x]
  | [], _, x, h => by cases h
  | a :: t, hp, x, h => by
    obtain ⟨h1, h2⟩ := List.pairwise_cons.1 hp
    rcases List.mem_cons.1 h with rfl | h
    · rw [List.filter_cons_of_pos (by simp)]
      congr 1
      rw [List.filter_eq_nil_iff]
      intro p hp'
      have := h1 p hp'
      simp; omega
    · have := h1 x h
      rw [List.filter_cons_of_neg (by simp; omega)]
      exact filt_one h2 h
def hitD (u v : Int) (p : DotD) : Bool := decide (p.id = u) || decide (p.id = v)
/-- the two elements with two numbers -/
theorem filt_two : ∀ {l : List DotD}, l.Pairwise (fun p q => p.id < q.id) → ∀ {x y : DotD}, x ∈ l → y ∈ l → x.id < y.id → l.filter (hitD x.id y.id) = [x, y]
  | [], _, x, _, h, _, _ => by cases h
  | a :: t, hp, x, y, hx, hy, hxy => by
    obtain ⟨h1, h2⟩ := List.pairwise_cons.1 hp
    rcases List.mem_cons.1 hx with rfl | hx
    · have hy' : y ∈ t := by
        rcases List.mem_cons.1 hy with rfl | hy
        · omega
        · exact hy
      rw [List.filter_cons_of_pos (by simp [hitD])]
      congr 1
      rw [← filt_one h2 hy']
      refine List.filter_congr fun p hp' => ?_
      have := h1 p hp'
      unfold hitD
      rw [decide_eq_false (show ¬ p.id = x.id by omega), Bool.false_or]
    · have h3 := h1 x hx
      have hy' : y ∈ t := by
        rcases List.mem_cons.1 hy with rfl | hy
        · omega
        · exact hy
      have h4 := h1 y hy'
      rw [List.filter_cons_of_neg (by unfold hitD; simp; omega)]
      exact filt_two h2 hx hy' hxy
theorem row_one {b : List DotD} (hb : validD b = true) {p q : DotD} (hq : q ∈ b) (he : p.id = q.id) (h19 : p.id ≤ 19) : rowOf p b = [(p, q)] := by
  unfold rowOf
  have : (b.filter fun q => decide (p.id = q.id) && decide (p.id ≤ 19)) = b.filter fun r => decide (r.id = q.id) := by
    refine List.filter_congr fun r _ => ?_
    rw [he, decide_eq_true (show q.id ≤ 19 by omega), Bool.and_true]
    exact decide_eq_decide.2 eq_comm
  rw [this, filt_one (asc_pair hb) hq]; rfl
theorem marks_pair {a b : List DotD} : (marksD a b).Pairwise fun r s => r.1.id < s.1.id := by
  unfold marksD
  split
  · rename_i h
    rw [Bool.and_eq_true] at h
    have h2 := asc_pair h.2
    have key : ∀ l : List DotD, l.Pairwise (fun p q => p.id < q.id) → (marksRaw l b).Pairwise fun r s => r.1.id < s.1.id := by
      intro l
      induction l with
      | nil => intro _; exact List.Pairwise.nil
      | cons p t ih =>
        intro hp
        obtain ⟨g1, g2⟩ := List.pairwise_cons.1 hp
        show (rowOf p b ++ marksRaw t b).Pairwise _
        rw [List.pairwise_append]
        refine ⟨?_, ih g2, ?_⟩
        · unfold rowOf
          rw [List.pairwise_map]
          refine List.Pairwise.imp_of_mem (R := fun q r => q.id < r.id) ?_ (h2.filter _)
          intro q r hq hr hlt
          have e1 := (List.mem_filter.1 hq).2
          have e2 := (List.mem_filter.1 hr).2
          simp at e1 e2
          omega
        · intro r hr s hs
          unfold rowOf at hr
          obtain ⟨q, -, rfl⟩ := List.mem_map.1 hr
          exact g1 _ (marksRaw_mem.1 hs).1
    exact key a (asc_pair h.1)
  · exact List.Pairwise.nil
theorem one_valid {p : DotD} (h : dotOk p = true) : validD [p] = true := by unfold validD ascB; simp [h]
theorem two_valid {p q : DotD} (h : dotOk p = true) (k : dotOk q = true) (hl : p.id < q.id) : validD [p, q] = true := by unfold validD; simp [ascB, h, k, hl]
theorem marks_one {b : List DotD} (hb : validD b = true) {p q : DotD} (hp : dotOk p = true) (hq : q ∈ b) (he : p.id = q.id) (h19 : p.id ≤ 19) : marksD [p] b = [(p, q)] := by
  unfold marksD
  rw [one_valid hp, hb]
  show marksRaw [p] b = _
  have : marksRaw [p] b = rowOf p b ++ [] := rfl
  rw [this, row_one hb hq he h19]; rfl
theorem marks_two {b : List DotD} (hb : validD b = true) {p q r s : DotD} (hp : dotOk p = true) (hr : dotOk r = true) (hl : p.id < r.id) (hq : q ∈ b) (hs : s ∈ b) (he : p.id = q.id) (hf : r.id = s.id) (h19 : p.id ≤ 19) (k19 : r.id ≤ 19) : marksD [p, r] b = [(p, q), (r, s)] := by
  unfold marksD
  rw [two_valid hp hr hl, hb]
  show marksRaw [p, r] b = _
  have : marksRaw [p, r] b = rowOf p b ++ (rowOf r b ++ []) := rfl
  rw [this, row_one hb hq he h19, row_one hb hs hf k19]; rfl
/-- one mark alone: each turn has a fit -/
theorem fits_one {b : List DotD} {p q : DotD} (h : marksD [p] b = [(p, q)]) (hp : dotOk p = true) (hq : dotOk q = true) : errR [p] b = 0 ∧ (fitsR [p] b).length = 4 := by
  have hbox : ∀ k, emptyB (fitD (marksD [p] b) k) = false := fun k => by
    obtain ⟨h1, h2⟩ := shift_in hp hq k
    have h3 := has_of_not_empty h1
    rw [← Bool.not_eq_true, empty_iff]
    intro he
    have := he (shiftD k p q).xl (shiftD k p q).yl
    rw [h, has_fit] at this
    simp [h3, h2 _ _ h3] at this
  refine ⟨by unfold errR; rw [h]; rfl, ?_⟩
  unfold fitsR
  rw [if_neg (by rw [h]; simp)]
  unfold fitsD
  rw [List.filter_eq_self.2 ?_]
  · simp
  · intro f hf
    obtain ⟨k, -, rfl⟩ := List.mem_map.1 hf
    simp [hbox]
/-- two marks that contradict each other: no fit with this turn -/
theorem fits_two {b : List DotD} {p q r s : DotD} (h : marksD [p, r] b = [(p, q), (r, s)]) {k : Nat} (ha : apartB (shiftD k p q) (shiftD k r s) = true) : errR [p, r] b = 0 ∧ ∀ f ∈ fitsR [p, r] b, f.1 ≠ k := by
  refine ⟨by unfold errR; rw [h]; rfl, fun f hf he => ?_⟩
  unfold fitsR at hf
  rw [if_neg (by rw [h]; simp)] at hf
  obtain ⟨h1, h2, h3⟩ := fits_mem.1 hf
  have h4 := has_of_not_empty h3
  rw [h2, h, he, has_fit] at h4
  simp only [List.all_cons, List.all_nil, Bool.and_true, Bool.and_eq_true] at h4
  unfold apartB at ha
  rw [empty_iff] at ha
  have := ha (fitD [(p, q), (r, s)] k).xl (fitD [(p, q), (r, s)] k).yl
  rw [has_meet, h4.2.1, h4.2.2] at this
  cases this
theorem blamed_iff (a c : List DotD) : blamed a c = true ↔ errR a c = 0 ∧ fitsR a c = [] := by
  unfold blamed; simp
theorem blame_no {a c : List DotD} (h : blamed a c = false) : blameR a c = [] := by unfold blameR; rw [h]; rfl
/-- what is blamed for each turn -/
theorem blame_all {a c : List DotD} (h : blamed a c = true) : ∃ f : Nat → Int × Int, (∀ k, k < 4 → blameD (marksD a c) k = some (f k)) ∧ blameR a c = [f 0, f 1, f 2, f 3] := by
  obtain ⟨h1, h2⟩ := (blamed_iff a c).1 h
  have hne : marksD a c ≠ [] := by
    intro e
    unfold errR at h1; rw [e] at h1; cases h1
  have hF : fitsD a c = [] := by
    unfold fitsR at h2
    rwa [if_neg (by simpa using hne)] at h2
  have key : ∀ k, k < 4 → ∃ p, blameD (marksD a c) k = some p := fun k hk => by
    have he : emptyB (fitD (marksD a c) k) = true := by
      cases hb : emptyB (fitD (marksD a c) k)
      · have : (k, fitD (marksD a c) k) ∈ fitsD a c := fits_mem.2 ⟨by show k ≤ 3; omega, rfl, hb⟩
        rw [hF] at this; cases this
      · rfl
    cases hd : blameD (marksD a c) k with
    | some p => exact ⟨p, rfl⟩
    | none =>
      obtain ⟨r, hr, s, hs, hap⟩ := blame_pair hne he
      have := blame_none (fun r hr => (shift_in (marks_ok hr).1 (marks_ok hr).2.1 k).1) hd r hr s hs
      rw [hap] at this; cases this
  obtain ⟨p0, e0⟩ := key 0 (by decide)
  obtain ⟨p1, e1⟩ := key 1 (by decide)
  obtain ⟨p2, e2⟩ := key 2 (by decide)
  obtain ⟨p3, e3⟩ := key 3 (by decide)
  refine ⟨fun k => match k with | 0 => p0 | 1 => p1 | 2 => p2 | _ => p3, fun k hk => ?_, ?_⟩
  · match k, hk with
    | 0, _ => exact e0
    | 1, _ => exact e1
    | 2, _ => exact e2
    | 3, _ => exact e3
  · unfold blameR
    rw [h, if_pos rfl]
    unfold blameUp
    have : List.range 4 = [0, 1, 2, 3] := rfl
    rw [this]
    simp [e0, e1, e2, e3]
/-- the whole of what the law asks of a turn -/
theorem blame_turn {a c : List DotD} {k : Nat} {u v : Int} (h : blameD (marksD a c) k = some (u, v)) : u < v ∧ ∃ x y, a.filter (hitD u v) = [x, y] ∧ (∀ p ∈ a, hitD u v p = true → errR [p] c = 0 ∧ (fitsR [p] c).length = 4) ∧ errR [x, y] c = 0 ∧ ∀ f ∈ fitsR [x, y] c, f.1 ≠ k := by
  obtain ⟨⟨p, q⟩, ⟨r, s⟩, hsub, rfl, rfl, hap⟩ := blame_some h
  have hpw := List.Pairwise.sublist hsub marks_pair
  have hlt : p.id < r.id := by simpa using hpw
  have hr1 := hsub.subset (show (p, q) ∈ [(p, q), (r, s)] by simp)
  have hr2 := hsub.subset (show (r, s) ∈ [(p, q), (r, s)] by simp)
  have hne : (marksD a c).isEmpty = false := by cases hm : marksD a c with | nil => rw [hm] at hr1; cases hr1 | cons => rfl
  obtain ⟨hva, hvc⟩ := marks_valid hne
  obtain ⟨k1, k2, k3, k4, k5, k6⟩ := marks_ok hr1
  obtain ⟨l1, l2, l3, l4, l5, l6⟩ := marks_ok hr2
  dsimp only at *
  have hm2 := marks_two hvc k1 l1 hlt k4 l4 k5 l5 k6 l6
  have hm1 := marks_one hvc k1 k4 k5 k6
  have hm3 := marks_one hvc l1 l4 l5 l6
  have hf2 := fits_two hm2 hap
  refine ⟨hlt, p, r, filt_two (asc_pair hva) k3 l3 hlt, fun d hd hh => ?_, hf2.1, hf2.2⟩
  have hd2 : d = p ∨ d = r := by
    have : d ∈ a.filter (hitD p.id r.id) := List.mem_filter.2 ⟨hd, hh⟩
    rw [filt_two (asc_pair hva) k3 l3 hlt] at this
    simpa using this
  rcases hd2 with rfl | rfl
  · exact fits_one hm1 k1 k2
  · exact fits_one hm3 l1 l2
end Go.Proofs.YtoofkahklboojaaDoor
