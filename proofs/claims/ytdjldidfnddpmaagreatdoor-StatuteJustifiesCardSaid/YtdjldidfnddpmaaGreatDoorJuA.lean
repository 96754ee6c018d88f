/- Plain words and laws of chapter 23, as far as the statutes ask for them: what follows by rules; and what is so in laws without exceptions is what follows. No condition. -/
import Derived.Test.YtdjldidfnddpmaaGreatDoorSpA
namespace Go.Proofs.YtdjldidfnddpmaaGreatDoor
structure RuleD where
  needs : List Nat
  gives : Nat
def rule0 : RuleD := ⟨[], 0⟩
/-- a valid theory with so many observations and so many conclusions -/
structure OkT (seen drawn : Nat) (rs : List RuleD) : Prop where
  s : seen ≤ 12
  d : drawn ≤ 20
  len : rs.length ≤ 40
  rule : ∀ r ∈ rs, r.needs.length ≤ 6 ∧ r.needs.Pairwise (· < ·) ∧ (∀ m ∈ r.needs, m < seen + drawn) ∧ seen ≤ r.gives ∧ r.gives < seen + drawn
/-- a rule by which something more is found -/
def meetB (r : RuleD) (S : Nat) : Bool := r.needs.all S.testBit
def newB (rs : List RuleD) (S i : Nat) : Bool := !S.testBit (rs.getD i rule0).gives && meetB (rs.getD i rule0) S
/-- what has been found so far, and by which rules -/
structure HeldI (rs : List RuleD) (N S0 S : Nat) (l : List Nat) : Prop where
  more : ∀ n, S0.testBit n = true → S.testBit n = true
  least : ∀ P : Nat → Prop, (∀ n, S0.testBit n = true → P n) → (∀ r ∈ rs, (∀ m ∈ r.needs, P m) → P r.gives) → ∀ n, S.testBit n = true → P n
  by_ : ∀ n, S.testBit n = true → S0.testBit n = true ∨ ∃ i ∈ l, (rs.getD i rule0).gives = n
  low : ∀ i ∈ l, i < rs.length
  bd : S < 2 ^ N
  len : l.length + (rs.filter fun r => !S.testBit r.gives).length ≤ rs.length
structure HeldP (rs : List RuleD) (N S0 S : Nat) (l : List Nat) : Prop where
  i : HeldI rs N S0 S l
  closed : ∀ r ∈ rs, (∀ m ∈ r.needs, S.testBit m = true) → S.testBit r.gives = true
theorem held_start {rs : List RuleD} {N S0 : Nat} (h : S0 < 2 ^ N) : HeldI rs N S0 S0 [] :=
  ⟨fun _ h => h, fun _ h _ n hn => h n hn, fun n h => Or.inl h, fun _ h => (by cases h), h, by simpa using List.length_filter_le _ _⟩
theorem bit_put (S g n : Nat) : (S ||| 2 ^ g).testBit n = (S.testBit n || decide (n = g)) := by
  rw [Nat.testBit_or, Nat.testBit_two_pow]
  congr 1
  exact decide_eq_decide.2 ⟨fun h => h.symm, fun h => h.symm⟩
theorem filter_less {α : Type} {p q : α → Bool} : ∀ {l : List α}, (∀ x ∈ l, q x = true → p x = true) → (l.filter q).length ≤ (l.filter p).length
  | [], _ => Nat.le_refl _
  | x :: l, h => by
    have ih := filter_less (l := l) fun y hy => h y (List.mem_cons_of_mem _ hy)
    have hx := h x (by simp)
    cases hq : q x <;> cases hp : p x <;> simp [hq, hp] <;> simp_all <;> omega
theorem filter_lt1 {α : Type} {p q : α → Bool} : ∀ {l : List α} {z : α}, (∀ x ∈ l, q x = true → p x = true) → z ∈ l → p z = true → q z = false → (l.filter q).length < (l.filter p).length
  | x :: l, z, h, hz, hp, hq => by
    have h' : ∀ y ∈ l, q y = true → p y = true := fun y hy => h y (List.mem_cons_of_mem _ hy)
    rcases List.mem_cons.1 hz with rfl | hz
    · have := filter_less h'
      simp [hp, hq]; omega
    · have ih := filter_lt1 h' hz hp hq
      have hx := h x (by simp)
      cases hq : q x <;> cases hp : p x <;> simp [hq, hp] <;> simp_all <;> omega
theorem getD_in {rs : List RuleD} {i : Nat} (h : i < rs.length) : rs.getD i rule0 ∈ rs := getD_mem rs i h
theorem held_step {rs : List RuleD} {N S0 S : Nat} {l : List Nat} (h : HeldI rs N S0 S l) {i : Nat} (hi : i < rs.length) (hn : newB rs S i = true) (hg : (rs.getD i rule0).gives < N) :
    HeldI rs N S0 (S ||| 2 ^ (rs.getD i rule0).gives) (l ++ [i]) ∧ (rs.filter fun r => !(S ||| 2 ^ (rs.getD i rule0).gives).testBit r.gives).length < (rs.filter fun r => !S.testBit r.gives).length := by
  simp only [newB, meetB, Bool.and_eq_true, List.all_eq_true, Bool.not_eq_true'] at hn
  obtain ⟨hn1, hn2⟩ := hn
  have hm := getD_in hi
  have hlt : (rs.filter fun r => !(S ||| 2 ^ (rs.getD i rule0).gives).testBit r.gives).length < (rs.filter fun r => !S.testBit r.gives).length := by
    refine filter_lt1 (z := rs.getD i rule0) (fun r _ hr => ?_) hm (by rw [hn1]; rfl) (by rw [bit_put]; simp)
    rw [bit_put, Bool.not_eq_true', Bool.or_eq_false_iff] at hr
    rw [hr.1]; rfl
  refine ⟨⟨fun n h1 => by rw [bit_put, h.more n h1]; rfl, fun P p0 p1 n h1 => ?_, fun n h1 => ?_, fun k hk => ?_, ?_, ?_⟩, hlt⟩
  · rw [bit_put, Bool.or_eq_true, decide_eq_true_eq] at h1
    rcases h1 with h1 | rfl
    · exact h.least P p0 p1 n h1
    · exact p1 _ hm fun m hmm => h.least P p0 p1 m (hn2 m hmm)
  · rw [bit_put, Bool.or_eq_true, decide_eq_true_eq] at h1
    rcases h1 with h1 | rfl
    · rcases h.by_ n h1 with h2 | ⟨k, hk, e⟩
      · exact Or.inl h2
      · exact Or.inr ⟨k, List.mem_append_left _ hk, e⟩
    · exact Or.inr ⟨i, by simp, rfl⟩
  · rcases List.mem_append.1 hk with h1 | h1
    · exact h.low k h1
    · rw [List.mem_singleton] at h1; omega
  · exact Nat.or_lt_two_pow h.bd (Nat.pow_lt_pow_right (by omega) hg)
  · have := h.len; rw [List.length_append, List.length_singleton]; omega
theorem held_end {rs : List RuleD} {N S0 S : Nat} {l : List Nat} (h : HeldI rs N S0 S l) (hn : ∀ i, i < rs.length → newB rs S i = false) : HeldP rs N S0 S l := by
  refine ⟨h, fun r hr hm => ?_⟩
  obtain ⟨i, hi, e⟩ := List.getElem_of_mem hr
  have := hn i hi
  have e' : rs.getD i rule0 = r := by rw [← e]; exact (List.getElem_eq_getD rule0).symm
  unfold newB meetB at this
  rw [e'] at this
  cases hg : S.testBit r.gives with
  | true => rfl
  | false =>
    rw [hg, Bool.not_false, Bool.true_and, List.all_eq_false] at this
    obtain ⟨m, h1, h2⟩ := this
    exact absurd (hm m h1) h2
/-- the theory of what applies -/
def ruleF (seen : Nat) (c : CodeD) (k i : Nat) : RuleD := ⟨[k], seen + (c.facts.getD i fact0).says.toNat⟩
def ruleC (seen : Nat) (c : CodeD) (i : Nat) : RuleD := ⟨(c.clauses.getD i clause0).needs.map fun m => seen + m.toNat, seen + (c.clauses.getD i clause0).gives.toNat⟩
def theoF (c : CodeD) (F C : List Nat) : List RuleD := (List.range F.length).map (fun k => ruleF F.length c k (F.getD k 0)) ++ C.map (ruleC F.length c)
theorem theo_len (c : CodeD) (F C : List Nat) : (theoF c F C).length = F.length + C.length := by simp [theoF]
theorem bits_low (s n : Nat) : (2 ^ s - 1).testBit n = decide (n < s) := Nat.testBit_two_pow_sub_one s n
theorem soN_eq {c : CodeD} {F C : List Nat} (hV : validC c = true) (hC : ∀ i ∈ C, i < c.clauses.length) (n : Nat) : soN c F C n = (F.any (saysB c n) || C.any (firesB c (soN c F C) n)) := by
  unfold soN; rw [Int.toNat_natCast, findN_eq hV hC n, findT_holds]; rfl
/-- what is so in laws without exceptions is what follows in the theory -/
theorem held_so {c : CodeD} {F C : List Nat} (hV : validC c = true) (hC : ∀ i ∈ C, i < c.clauses.length) (hF : ∀ i ∈ F, i < c.facts.length) (hbar : ∀ i ∈ C, (c.clauses.getD i clause0).bars = [])
    {N S : Nat} {l : List Nat} (h : HeldP (theoF c F C) N (2 ^ F.length - 1) S l) (n : Nat) : S.testBit (F.length + n) = soN c F C n := by
  have hfs : ∀ i ∈ F, 0 ≤ (c.facts.getD i fact0).says := fun i hi => by
    simp only [validC, Bool.and_eq_true, List.all_eq_true] at hV
    have h := hV.2 _ (getD_mem c.facts i (d := fact0) (hF i hi))
    simp only [factB, inB, Bool.and_eq_true, decide_eq_true_eq] at h
    exact h.1.1.2.1
  have forth : ∀ n : Nat, S.testBit (F.length + n) = true → soN c F C n = true := fun n hn => by
    have key := h.i.least (fun k => k < F.length ∨ soN c F C ((k - F.length : Nat) : Int) = true) (fun k hk => by rw [bits_low, decide_eq_true_eq] at hk; exact Or.inl hk) ?_ _ hn
    · rcases key with hk | hk
      · omega
      · rwa [show F.length + n - F.length = n by omega] at hk
    · intro r hr hm
      rcases List.mem_append.1 hr with hr | hr
      · obtain ⟨k, hk, rfl⟩ := List.mem_map.1 hr
        rw [List.mem_range] at hk
        right
        have hmem := getD_mem F k (d := 0) hk
        show soN c F C ((F.length + (c.facts.getD (F.getD k 0) fact0).says.toNat - F.length : Nat) : Int) = true
        rw [show F.length + (c.facts.getD (F.getD k 0) fact0).says.toNat - F.length = (c.facts.getD (F.getD k 0) fact0).says.toNat by omega, soN_eq hV hC, Bool.or_eq_true]
        left
        refine List.any_eq_true.2 ⟨_, hmem, ?_⟩
        unfold saysB
        have := hfs _ hmem
        exact decide_eq_true (by omega)
      · obtain ⟨i, hi, rfl⟩ := List.mem_map.1 hr
        right
        obtain ⟨t0, t1, -⟩ := valid_terms hV (hC i hi)
        show soN c F C ((F.length + (c.clauses.getD i clause0).gives.toNat - F.length : Nat) : Int) = true
        rw [show F.length + (c.clauses.getD i clause0).gives.toNat - F.length = (c.clauses.getD i clause0).gives.toNat by omega, soN_eq hV hC, Bool.or_eq_true]
        right
        refine List.any_eq_true.2 ⟨i, hi, ?_⟩
        simp only [firesB, hbar i hi, List.all_nil, Bool.and_true, Bool.and_eq_true, decide_eq_true_eq, List.all_eq_true]
        refine ⟨by omega, fun m hmm => ?_⟩
        have := t1 m hmm
        rcases hm (F.length + m.toNat) (List.mem_map.2 ⟨m, hmm, rfl⟩) with h1 | h1
        · omega
        · rwa [show ((F.length + m.toNat - F.length : Nat) : Int) = m by omega] at h1
  have back : ∀ n : Nat, soN c F C n = true → S.testBit (F.length + n) = true := fun n => by
    induction n using Nat.strongRecOn with
    | _ n ih =>
      intro hn
      rw [soN_eq hV hC, Bool.or_eq_true] at hn
      rcases hn with hn | hn
      · obtain ⟨i, hi, e⟩ := List.any_eq_true.1 hn
        obtain ⟨k, hk, e2⟩ := List.getElem_of_mem hi
        have e3 : F.getD k 0 = i := by rw [← e2]; exact (List.getElem_eq_getD 0).symm
        unfold saysB at e
        rw [decide_eq_true_eq] at e
        have := h.closed (ruleF F.length c k i) (List.mem_append_left _ (List.mem_map.2 ⟨k, List.mem_range.2 hk, by rw [e3]⟩)) (fun m hm => by
          obtain rfl : m = k := by simpa [ruleF] using hm
          exact h.i.more _ (by rw [bits_low]; exact decide_eq_true hk))
        simp only [ruleF, e, Int.toNat_natCast] at this
        exact this
      · obtain ⟨i, hi, e⟩ := List.any_eq_true.1 hn
        simp only [firesB, Bool.and_eq_true, decide_eq_true_eq, List.all_eq_true] at e
        obtain ⟨⟨e1, e2⟩, -⟩ := e
        obtain ⟨t0, t1, -⟩ := valid_terms hV (hC i hi)
        have := h.closed (ruleC F.length c i) (List.mem_append_right _ (List.mem_map.2 ⟨i, hi, rfl⟩)) (fun m hm => by
          obtain ⟨k, hk, rfl⟩ := List.mem_map.1 hm
          have t := t1 k hk
          refine ih k.toNat (by omega) ?_
          rw [show ((k.toNat : Nat) : Int) = k by omega]
          exact e2 k hk)
        simp only [ruleC, e1, Int.toNat_natCast] at this
        exact this
  cases hb : soN c F C n with
  | true => exact back n hb
  | false => 
    cases ha : S.testBit (F.length + n) with
    | false => rfl
    | true => rw [forth n ha] at hb; cases hb
theorem asc_pair : ∀ {l : List Int} {last below : Int}, ascF last l below = true → l.Pairwise (· < ·)
  | [], _, _, _ => List.Pairwise.nil
  | n :: l, last, below, h => by
    simp only [ascF, Bool.and_eq_true] at h
    exact List.pairwise_cons.2 ⟨fun m hm => (ascF_mem h.2 m hm).1, asc_pair h.2⟩
/-- the theory is valid -/
theorem theo_ok {c : CodeD} {F C : List Nat} (hV : validC c = true) (hC : ∀ i ∈ C, i < c.clauses.length) (hF : ∀ i ∈ F, i < c.facts.length) (hFl : F.length ≤ 12) (hl : F.length + C.length ≤ 40) : OkT F.length 20 (theoF c F C) := by
  refine ⟨hFl, Nat.le_refl _, by rw [theo_len]; exact hl, fun r hr => ?_⟩
  rcases List.mem_append.1 hr with hr | hr
  · obtain ⟨k, hk, rfl⟩ := List.mem_map.1 hr
    rw [List.mem_range] at hk
    have hmem := getD_mem F k (d := 0) hk
    simp only [validC, Bool.and_eq_true, List.all_eq_true] at hV
    have h := hV.2 _ (getD_mem c.facts _ (d := fact0) (hF _ hmem))
    simp only [factB, inB, Bool.and_eq_true, decide_eq_true_eq] at h
    have h1 := h.1.1.2
    simp only [ruleF]
    refine ⟨by simp, by simp, fun m hm => ?_, by omega, by omega⟩
    rw [List.mem_singleton] at hm; omega
  · obtain ⟨i, hi, rfl⟩ := List.mem_map.1 hr
    obtain ⟨t0, t1, -⟩ := valid_terms hV (hC i hi)
    simp only [validC, Bool.and_eq_true, List.all_eq_true] at hV
    have h := hV.1.1.2 _ (getD_mem c.clauses i (d := clause0) (hC i hi))
    simp only [clauseB, termsB, Bool.and_eq_true, decide_eq_true_eq] at h
    obtain ⟨h2, h3⟩ := h.1.2
    simp only [ruleC]
    refine ⟨by rw [List.length_map]; omega, ?_, fun m hm => ?_, by omega, by omega⟩
    · have hp : (c.clauses.getD i clause0).needs.Pairwise (· < ·) := asc_pair h3
      refine List.pairwise_map.2 (hp.imp_of_mem fun {a b} ha hb hab => ?_)
      have ta := t1 a ha
      omega
    · obtain ⟨k, hk, rfl⟩ := List.mem_map.1 hm
      have := t1 k hk
      omega
end Go.Proofs.YtdjldidfnddpmaaGreatDoor
