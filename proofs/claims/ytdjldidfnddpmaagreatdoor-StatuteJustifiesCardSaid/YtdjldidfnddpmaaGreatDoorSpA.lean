/- Plain words and laws of chapter 31: what applies, what is so, what a proof is; the statements about them. No condition. -/
import Derived.Test.YtdjldidfnddpmaaGreatDoorLists
namespace Go.Proofs.YtdjldidfnddpmaaGreatDoor
structure ClauseD where
  pub : Int
  sf : Int
  st : Int
  needs : List Int
  bars : List Int
  gives : Int
structure RepealD where
  clause : Int
  pub : Int
  from_ : Int
structure FactD where
  thing : Int
  says : Int
  sf : Int
  st : Int
  kf : Int
  kt : Int
structure CodeD where
  clauses : List ClauseD
  repeals : List RepealD
  facts : List FactD
structure QueryD where
  thing : Int
  says : Int
  day : Int
  known : Int
structure FindD where
  says : Int
  holds : Bool
  fact : Int
  clause : Int
deriving DecidableEq
def clause0 : ClauseD := ⟨0, 0, 0, [], [], 0⟩
def repeal0 : RepealD := ⟨0, 0, 0⟩
def fact0 : FactD := ⟨0, 0, 0, 0, 0, 0⟩
def find0 : FindD := ⟨0, false, 0, 0⟩
def inB (n lo hi : Int) : Bool := decide (lo ≤ n ∧ n ≤ hi)
def dayB (n : Int) : Bool := inB n 0 799999
def spellB (f t : Int) : Bool := dayB f && inB t (f + 1) 800000
def hasD (f t d : Int) : Bool := inB d f (t - 1)
/-- strictly ascending from one number on, below another one -/
def ascF : Int → List Int → Int → Bool
  | _, [], _ => true
  | last, n :: l, below => inB n (last + 1) (below - 1) && ascF n l below
def termsB (l : List Int) (below : Int) : Bool := decide (l.length ≤ 4) && ascF (-1) l below
def clauseB (x : ClauseD) : Bool := dayB x.pub && spellB x.sf x.st && inB x.gives 0 19 && termsB x.needs x.gives && termsB x.bars x.gives
def repealB (m : Nat) (x : RepealD) : Bool := inB x.clause 0 (m - 1) && dayB x.pub && dayB x.from_
def factB (x : FactD) : Bool := inB x.thing 0 99 && inB x.says 0 19 && spellB x.sf x.st && spellB x.kf x.kt
def validC (c : CodeD) : Bool :=
  decide (c.clauses.length ≤ 20) && decide (c.repeals.length ≤ 10) && decide (c.facts.length ≤ 20) && c.clauses.all clauseB && c.repeals.all (repealB c.clauses.length) && c.facts.all factB
def asksB (q : QueryD) : Bool := inB q.thing 0 99 && inB q.says 0 19 && dayB q.day && dayB q.known
def statesB (x : FactD) (q : QueryD) : Bool := decide (x.thing = q.thing) && hasD x.sf x.st q.day && hasD x.kf x.kt q.known
def repealsB (i : Int) (q : QueryD) (r : RepealD) : Bool := decide (r.clause = i) && decide (r.pub ≤ q.known) && decide (r.from_ ≤ q.day)
def rulesB (c : CodeD) (i : Nat) (q : QueryD) : Bool :=
  decide ((c.clauses.getD i clause0).pub ≤ q.known) && hasD (c.clauses.getD i clause0).sf (c.clauses.getD i clause0).st q.day && !c.repeals.any (repealsB i q)
/-- the facts, the clauses that apply: their indices -/
def factsF (c : CodeD) (q : QueryD) : List Nat := (List.range c.facts.length).filter fun i => statesB (c.facts.getD i fact0) q
def clausesF (c : CodeD) (q : QueryD) : List Nat := (List.range c.clauses.length).filter fun i => rulesB c i q
/-- a clause gives something, its needs are so, and none of its bars is -/
def firesB (c : CodeD) (so : Int → Bool) (n : Int) (i : Nat) : Bool :=
  decide ((c.clauses.getD i clause0).gives = n) && (c.clauses.getD i clause0).needs.all so && (c.clauses.getD i clause0).bars.all fun m => !so m
def saysB (c : CodeD) (n : Int) (i : Nat) : Bool := decide ((c.facts.getD i fact0).says = n)
/-- the finding about a number, by what is so of lesser ones -/
def findT (c : CodeD) (F C : List Nat) (so : Int → Bool) (n : Int) : FindD :=
  match F.find? (saysB c n) with
  | some i => ⟨n, true, i, -1⟩
  | none => match C.find? (firesB c so n) with
    | some i => ⟨n, true, -1, i⟩
    | none => ⟨n, false, -1, -1⟩
/-- the findings about the first numbers -/
def tabF (c : CodeD) (F C : List Nat) : Nat → List FindD
  | 0 => []
  | k + 1 => tabF c F C k ++ [findT c F C (fun m => ((tabF c F C k).getD m.toNat find0).holds) k]
def findN (c : CodeD) (F C : List Nat) (n : Nat) : FindD := (tabF c F C (n + 1)).getD n find0
def soN (c : CodeD) (F C : List Nat) (n : Int) : Bool := (findN c F C n.toNat).holds
theorem tabF_len (c : CodeD) (F C : List Nat) : ∀ k, (tabF c F C k).length = k
  | 0 => rfl
  | k + 1 => by simp [tabF, tabF_len c F C k]
theorem tabF_get (c : CodeD) (F C : List Nat) : ∀ {k n : Nat}, n < k → (tabF c F C k).getD n find0 = findN c F C n
  | 0, n, h => by omega
  | k + 1, n, h => by
    by_cases e : n = k
    · subst e; rfl
    · have h1 : n < k := by omega
      have := tabF_get c F C (k := k) h1
      rw [← this]
      simp only [tabF]
      rw [getD_app_left _ _ _ _ (by rw [tabF_len]; exact h1)]
theorem all_congr {α : Type} {f g : α → Bool} : ∀ {l : List α}, (∀ x ∈ l, f x = g x) → l.all f = l.all g
  | [], _ => rfl
  | x :: l, h => by simp only [List.all_cons]; rw [h x (by simp), all_congr (fun y hy => h y (by simp [hy]))]
theorem find_congr {α : Type} {f g : α → Bool} : ∀ {l : List α}, (∀ x ∈ l, f x = g x) → l.find? f = l.find? g
  | [], _ => rfl
  | x :: l, h => by simp only [List.find?_cons]; rw [h x (by simp), find_congr (fun y hy => h y (by simp [hy]))]
/-- a finding hangs on the lesser numbers that clauses name alone -/
theorem findT_congr {c : CodeD} {F C : List Nat} {so so' : Int → Bool} {n : Int} (h : ∀ i ∈ C, (c.clauses.getD i clause0).gives = n → (∀ m ∈ (c.clauses.getD i clause0).needs, so m = so' m) ∧ ∀ m ∈ (c.clauses.getD i clause0).bars, so m = so' m) :
    findT c F C so n = findT c F C so' n := by
  have key : C.find? (firesB c so n) = C.find? (firesB c so' n) := find_congr fun i hi => by
    unfold firesB
    by_cases e : (c.clauses.getD i clause0).gives = n
    · obtain ⟨h1, h2⟩ := h i hi e
      rw [all_congr h1, all_congr (f := fun m => !so m) (g := fun m => !so' m) (fun m hm => by rw [h2 m hm])]
    · rw [decide_eq_false e]; rfl
  unfold findT
  rw [key]
theorem ascF_mem : ∀ {l : List Int} {last below : Int}, ascF last l below = true → ∀ m ∈ l, last < m ∧ m < below
  | [], _, _, _, _, hm => by cases hm
  | n :: l, last, below, h, m, hm => by
    simp only [ascF, inB, Bool.and_eq_true, decide_eq_true_eq] at h
    rcases List.mem_cons.1 hm with rfl | h1
    · omega
    · have := ascF_mem h.2 m h1; omega
/-- the needs and bars of valid laws' clauses are less than what they give -/
theorem valid_terms {c : CodeD} (hV : validC c = true) {i : Nat} (hi : i < c.clauses.length) : (0 ≤ (c.clauses.getD i clause0).gives ∧ (c.clauses.getD i clause0).gives ≤ 19) ∧
    (∀ m ∈ (c.clauses.getD i clause0).needs, 0 ≤ m ∧ m < (c.clauses.getD i clause0).gives) ∧ ∀ m ∈ (c.clauses.getD i clause0).bars, 0 ≤ m ∧ m < (c.clauses.getD i clause0).gives := by
  simp only [validC, Bool.and_eq_true, List.all_eq_true] at hV
  have h := hV.1.1.2 _ (getD_mem c.clauses i (d := clause0) hi)
  generalize c.clauses.getD i clause0 = x at h
  simp only [clauseB, termsB, inB, Bool.and_eq_true, decide_eq_true_eq] at h
  obtain ⟨⟨⟨⟨-, -⟩, h1⟩, -, h2⟩, -, h3⟩ := h
  exact ⟨h1, fun m hm => by have := ascF_mem h2 m hm; omega, fun m hm => by have := ascF_mem h3 m hm; omega⟩
theorem clausesF_lt {c : CodeD} {q : QueryD} {i : Nat} (h : i ∈ clausesF c q) : i < c.clauses.length ∧ rulesB c i q = true := by
  unfold clausesF at h
  rw [List.mem_filter, List.mem_range] at h; exact h
theorem factsF_lt {c : CodeD} {q : QueryD} {i : Nat} (h : i ∈ factsF c q) : i < c.facts.length ∧ statesB (c.facts.getD i fact0) q = true := by
  unfold factsF at h
  rw [List.mem_filter, List.mem_range] at h; exact h
/-- what is so, said of itself -/
theorem findN_eq {c : CodeD} {F C : List Nat} (hV : validC c = true) (hC : ∀ i ∈ C, i < c.clauses.length) (n : Nat) : findN c F C n = findT c F C (soN c F C) n := by
  have e : findN c F C n = findT c F C (fun m => ((tabF c F C n).getD m.toNat find0).holds) n := by
    unfold findN
    simp only [tabF]
    rw [getD_app_right _ _ _ _ (by rw [tabF_len]; exact Nat.le_refl _), tabF_len, Nat.sub_self]; rfl
  rw [e]
  refine findT_congr fun i hi hg => ?_
  obtain ⟨-, h2, h3⟩ := valid_terms hV (hC i hi)
  have key : ∀ m : Int, 0 ≤ m ∧ m < (c.clauses.getD i clause0).gives → ((tabF c F C n).getD m.toNat find0).holds = soN c F C m := fun m hm => by
    unfold soN
    rw [tabF_get c F C (by omega)]
  exact ⟨fun m hm => key m (h2 m hm), fun m hm => key m (h3 m hm)⟩
/-- a list has a finding about a number, with an answer -/
def findsB (l : List FindD) (n : Int) (holds : Bool) : Bool := l.any fun y => decide (y.says = n) && (y.holds == holds)
def barredB (c : CodeD) (l : List FindD) (i : Nat) : Bool := ((c.clauses.getD i clause0).needs.any fun n => findsB l n false) || (c.clauses.getD i clause0).bars.any fun n => findsB l n true
/-- a finding of a list is right -/
def rightB (c : CodeD) (F C : List Nat) (x : FindD) (l : List FindD) : Bool :=
  if x.holds && decide (x.clause = -1) then F.any fun i => decide (x.fact = i) && saysB c x.says i
  else if x.holds then decide (x.fact = -1) && C.any fun i => decide (x.clause = i) && decide ((c.clauses.getD i clause0).gives = x.says) && ((c.clauses.getD i clause0).needs.all fun n => findsB l n true) && (c.clauses.getD i clause0).bars.all fun n => findsB l n false
  else decide (x.fact = -1) && decide (x.clause = -1) && !F.any (saysB c x.says) && C.all fun i => !(decide ((c.clauses.getD i clause0).gives = x.says)) || barredB c l i
/-- ascending numbers, and right findings -/
def stepsB (c : CodeD) (F C : List Nat) (l : List FindD) : Int → List FindD → Bool
  | _, [] => true
  | last, x :: t => inB x.says (last + 1) 19 && rightB c F C x l && stepsB c F C l x.says t
def provesB (c : CodeD) (F C : List Nat) (n : Int) (holds : Bool) (l : List FindD) : Bool :=
  stepsB c F C l (-1) l && decide (0 < l.length) && decide ((l.getLast?.getD find0).says = n) && ((l.getLast?.getD find0).holds == holds)
theorem findsB_mono {l l' : List FindD} {n : Int} {h : Bool} (hs : ∀ x ∈ l, x ∈ l') (hf : findsB l n h = true) : findsB l' n h = true := by
  unfold findsB at hf ⊢
  rw [List.any_eq_true] at hf ⊢
  obtain ⟨x, hx, he⟩ := hf
  exact ⟨x, hs x hx, he⟩
theorem rightB_mono {c : CodeD} {F C : List Nat} {x : FindD} {l l' : List FindD} (hs : ∀ y ∈ l, y ∈ l') (h : rightB c F C x l = true) : rightB c F C x l' = true := by
  unfold rightB at h ⊢
  split at h
  · rename_i h1; rw [if_pos h1]; exact h
  · rename_i h1
    rw [if_neg h1]
    split at h
    · rename_i h2
      rw [if_pos h2]
      simp only [Bool.and_eq_true, List.any_eq_true, List.all_eq_true] at h ⊢
      obtain ⟨h3, i, hi, ⟨h4, h5⟩, h6⟩ := h
      exact ⟨h3, i, hi, ⟨h4, fun n hn => findsB_mono hs (h5 n hn)⟩, fun n hn => findsB_mono hs (h6 n hn)⟩
    · rename_i h2
      rw [if_neg h2]
      simp only [Bool.and_eq_true, List.all_eq_true] at h ⊢
      refine ⟨h.1, fun i hi => ?_⟩
      have h3 := h.2 i hi
      rw [Bool.or_eq_true] at h3 ⊢
      refine h3.imp id fun h4 => ?_
      unfold barredB at h4 ⊢
      rw [Bool.or_eq_true, List.any_eq_true, List.any_eq_true] at h4 ⊢
      exact h4.imp (fun ⟨n, hn, h5⟩ => ⟨n, hn, findsB_mono hs h5⟩) (fun ⟨n, hn, h5⟩ => ⟨n, hn, findsB_mono hs h5⟩)
theorem stepsB_right {c : CodeD} {F C : List Nat} {l : List FindD} : ∀ {t : List FindD} {last : Int}, stepsB c F C l last t = true → ∀ x ∈ t, rightB c F C x l = true ∧ last < x.says ∧ x.says ≤ 19
  | [], _, _, _, hx => by cases hx
  | y :: t, last, h, x, hx => by
    simp only [stepsB, inB, Bool.and_eq_true, decide_eq_true_eq] at h
    obtain ⟨⟨⟨h1, h2⟩, h3⟩, h4⟩ := h
    rcases List.mem_cons.1 hx with rfl | hx'
    · exact ⟨h3, by omega, h2⟩
    · have := stepsB_right h4 x hx'
      exact ⟨this.1, by omega, this.2.2⟩
/-- a finding of a list that proves says what is so -/
theorem right_so {c : CodeD} {F C : List Nat} (hV : validC c = true) (hC : ∀ i ∈ C, i < c.clauses.length) {l : List FindD} (hr : ∀ x ∈ l, rightB c F C x l = true) (_hp : ∀ x ∈ l, 0 ≤ x.says) :
    ∀ (n : Nat), ∀ x ∈ l, x.says = n → x.holds = soN c F C n := by
  intro n
  induction n using Nat.strongRecOn with
  | ind n ih =>
    intro x hx hn
    have hf : ∀ (m : Int) (b : Bool), 0 ≤ m → m < n → findsB l m b = true → soN c F C m = b := fun m b h0 h1 hf => by
      unfold findsB at hf
      rw [List.any_eq_true] at hf
      obtain ⟨y, hy, he⟩ := hf
      simp only [Bool.and_eq_true, decide_eq_true_eq, beq_iff_eq] at he
      have := ih m.toNat (by omega) y hy (by omega)
      rw [he.2, show ((m.toNat : Nat) : Int) = m by omega] at this
      exact this.symm
    have hR := hr x hx
    have e := findN_eq (F := F) hV hC n
    have hso : soN c F C n = (findT c F C (soN c F C) n).holds := by unfold soN; rw [Int.toNat_natCast, e]; rfl
    rw [hso]
    unfold rightB at hR
    unfold findT
    split at hR
    · rename_i h1
      simp only [Bool.and_eq_true, decide_eq_true_eq] at h1
      rw [List.any_eq_true] at hR
      obtain ⟨i, hi, h2⟩ := hR
      simp only [Bool.and_eq_true] at h2
      rw [hn] at h2
      cases h3 : F.find? (saysB c n) with
      | some j => exact h1.1
      | none =>
        have := List.find?_eq_none.1 h3 i hi
        exact absurd h2.2 this
    · rename_i h1
      split at hR
      · rename_i h2
        simp only [Bool.and_eq_true, List.any_eq_true, List.all_eq_true, decide_eq_true_eq] at hR
        obtain ⟨h3, i, hi, ⟨⟨h4, h5⟩, h6⟩, h7⟩ := hR
        obtain ⟨-, t1, t2⟩ := valid_terms hV (hC i hi)
        have hfire : firesB c (soN c F C) n i = true := by
          unfold firesB
          simp only [Bool.and_eq_true, decide_eq_true_eq, List.all_eq_true]
          refine ⟨⟨by rw [h5, hn], fun m hm => ?_⟩, fun m hm => ?_⟩
          · have := t1 m hm; exact hf m true (by omega) (by omega) (h6 m hm)
          · have := t2 m hm; rw [hf m false (by omega) (by omega) (h7 m hm)]; rfl
        cases h8 : F.find? (saysB c n) with
        | some j => exact h2
        | none =>
          cases h9 : C.find? (firesB c (soN c F C) n) with
          | some j => exact h2
          | none => exact absurd hfire (List.find?_eq_none.1 h9 i hi)
      · rename_i h2
        have hxh : x.holds = false := by simpa using h2
        rw [hxh]
        simp only [Bool.and_eq_true, List.all_eq_true, Bool.not_eq_true', decide_eq_true_eq] at hR
        obtain ⟨⟨-, h3⟩, h4⟩ := hR
        rw [hn] at h3
        have h5 : F.find? (saysB c n) = none := List.find?_eq_none.2 fun i hi hs => by
          rw [List.any_eq_false] at h3; exact h3 i hi hs
        rw [h5]
        have h6 : C.find? (firesB c (soN c F C) n) = none := List.find?_eq_none.2 fun i hi hs => by
          unfold firesB at hs
          simp only [Bool.and_eq_true, decide_eq_true_eq, List.all_eq_true] at hs
          obtain ⟨-, t1, t2⟩ := valid_terms hV (hC i hi)
          have h7 := h4 i hi
          rw [hn] at h7
          simp only [hs.1.1, decide_true, Bool.not_true, Bool.false_or] at h7
          unfold barredB at h7
          rw [Bool.or_eq_true, List.any_eq_true, List.any_eq_true] at h7
          rcases h7 with ⟨m, hm, h8⟩ | ⟨m, hm, h8⟩
          · have := t1 m hm
            have h9 := hf m false (by omega) (by omega) h8
            rw [hs.1.2 m hm] at h9; cases h9
          · have := t2 m hm
            have h9 := hf m true (by omega) (by omega) h8
            have h10 := hs.2 m hm
            rw [h9] at h10; cases h10
        rw [h6]
/-- no list proves the other answer -/
theorem proves_so {c : CodeD} {F C : List Nat} (hV : validC c = true) (hC : ∀ i ∈ C, i < c.clauses.length) {n : Int} (hn : 0 ≤ n) {b : Bool} {l : List FindD} (h : provesB c F C n b l = true) : b = soN c F C n := by
  simp only [provesB, Bool.and_eq_true, decide_eq_true_eq, beq_iff_eq] at h
  obtain ⟨⟨⟨h1, h2⟩, h3⟩, h4⟩ := h
  have hr := stepsB_right h1
  have hm : l.getLast?.getD find0 ∈ l := by
    cases hl : l.getLast? with
    | none => rw [List.getLast?_eq_none_iff] at hl; rw [hl] at h2; simp at h2
    | some x => exact List.mem_of_getLast? hl
  have := right_so hV hC (fun x hx => (hr x hx).1) (fun x hx => by have := (hr x hx).2.1; omega) n.toNat _ hm (by omega)
  rw [h4, show ((n.toNat : Nat) : Int) = n by omega] at this
  exact this
theorem stepsB_iff {c : CodeD} {F C : List Nat} {l : List FindD} : ∀ {t : List FindD} {last : Int}, stepsB c F C l last t = true ↔ t.Pairwise (fun x y => x.says < y.says) ∧ ∀ x ∈ t, (last < x.says ∧ x.says ≤ 19) ∧ rightB c F C x l = true
  | [], _ => by simp [stepsB]
  | y :: t, last => by
    simp only [stepsB, inB, Bool.and_eq_true, decide_eq_true_eq, stepsB_iff (t := t), List.pairwise_cons]
    constructor
    · rintro ⟨⟨⟨h1, h2⟩, h3⟩, h4, h5⟩
      refine ⟨⟨fun z hz => (h5 z hz).1.1, h4⟩, fun x hx => ?_⟩
      rcases List.mem_cons.1 hx with rfl | hx'
      · exact ⟨⟨by omega, h2⟩, h3⟩
      · have := h5 x hx'; exact ⟨⟨by omega, this.1.2⟩, this.2⟩
    · rintro ⟨⟨h1, h2⟩, h3⟩
      have h4 := h3 y (by simp)
      exact ⟨⟨⟨by omega, h4.1.2⟩, h4.2⟩, h2, fun x hx => ⟨⟨h1 x hx, (h3 x (by simp [hx])).1.2⟩, (h3 x (by simp [hx])).2⟩⟩
/-- a list that proves, in plain words -/
theorem proves_iff {c : CodeD} {F C : List Nat} {n : Int} {h : Bool} {l : List FindD} : provesB c F C n h l = true ↔
    l.Pairwise (fun x y => x.says < y.says) ∧ (∀ x ∈ l, (0 ≤ x.says ∧ x.says ≤ 19) ∧ rightB c F C x l = true) ∧ ∃ z, l.getLast? = some z ∧ z.says = n ∧ z.holds = h := by
  unfold provesB
  rw [Bool.and_eq_true, Bool.and_eq_true, Bool.and_eq_true, stepsB_iff]
  simp only [decide_eq_true_eq, beq_iff_eq]
  constructor
  · rintro ⟨⟨⟨⟨h1, h2⟩, h3⟩, h4⟩, h5⟩
    refine ⟨h1, fun x hx => ⟨⟨by have := (h2 x hx).1.1; omega, (h2 x hx).1.2⟩, (h2 x hx).2⟩, ?_⟩
    cases hl : l.getLast? with
    | none => rw [List.getLast?_eq_none_iff] at hl; rw [hl] at h3; simp at h3
    | some z => rw [hl] at h4 h5; exact ⟨z, rfl, h4, h5⟩
  · rintro ⟨h1, h2, z, h3, h4, h5⟩
    refine ⟨⟨⟨⟨h1, fun x hx => ⟨⟨by have := (h2 x hx).1.1; omega, (h2 x hx).1.2⟩, (h2 x hx).2⟩⟩, ?_⟩, ?_⟩, ?_⟩
    · cases l with
      | nil => simp at h3
      | cons a t => simp
    · rw [h3]; exact h4
    · rw [h3]; exact h5
theorem findT_says (c : CodeD) (F C : List Nat) (so : Int → Bool) (n : Int) : (findT c F C so n).says = n := by
  unfold findT; split
  · rfl
  · split <;> rfl
theorem findN_says (c : CodeD) (F C : List Nat) (n : Nat) : (findN c F C n).says = n := by
  unfold findN
  simp only [tabF]
  rw [getD_app_right _ _ _ _ (by rw [tabF_len]; exact Nat.le_refl _), tabF_len, Nat.sub_self]
  exact findT_says _ _ _ _ _
theorem not_and_or' {p q : Prop} : ¬ (p ∧ q) ↔ ¬ p ∨ ¬ q := by
  constructor
  · intro h
    by_cases hp : p
    · exact .inr fun hq => h ⟨hp, hq⟩
    · exact .inl hp
  · rintro (h | h) ⟨hp, hq⟩
    · exact h hp
    · exact h hq
theorem exists_of_not_all {α : Type} {P : α → Prop} {l : List α} (h : ¬ ∀ x ∈ l, P x) : ∃ x, x ∈ l ∧ ¬ P x := by
  refine Classical.byContradiction fun hn => h fun x hx => Classical.byContradiction fun hp => hn ⟨x, hx, hp⟩
/-- a finding is right in a list that has what is so of all lesser numbers -/
theorem findN_right {c : CodeD} {F C : List Nat} (hV : validC c = true) (hC : ∀ i ∈ C, i < c.clauses.length) (n : Nat) {l : List FindD} (hl : ∀ m : Int, 0 ≤ m → m < n → findsB l m (soN c F C m) = true) : rightB c F C (findN c F C n) l = true := by
  rw [findN_eq hV hC n]
  unfold findT
  split
  · rename_i i h1
    unfold rightB
    rw [if_pos (by simp), List.any_eq_true]
    exact ⟨i, List.mem_of_find?_eq_some h1, by simp only [decide_true, Bool.true_and]; exact List.find?_some h1⟩
  · rename_i h1
    split
    · rename_i i h2
      have hi := List.mem_of_find?_eq_some h2
      have hf := List.find?_some h2
      obtain ⟨-, t1, t2⟩ := valid_terms hV (hC i hi)
      simp only [firesB, Bool.and_eq_true, decide_eq_true_eq, List.all_eq_true] at hf
      unfold rightB
      rw [if_neg (by simp), if_pos rfl]
      simp only [decide_true, Bool.true_and]
      rw [List.any_eq_true]
      refine ⟨i, hi, ?_⟩
      simp only [Bool.and_eq_true, decide_eq_true_eq, List.all_eq_true]
      refine ⟨⟨⟨trivial, hf.1.1⟩, fun m hm => ?_⟩, fun m hm => ?_⟩
      · have h3 := t1 m hm
        have := hl m (by omega) (by omega)
        rwa [hf.1.2 m hm] at this
      · have h3 := t2 m hm
        have := hl m (by omega) (by omega)
        have h4 := hf.2 m hm
        rw [Bool.not_eq_true'] at h4
        rwa [h4] at this
    · rename_i h2
      unfold rightB
      rw [if_neg (by simp), if_neg (by simp)]
      simp only [decide_true, Bool.true_and, Bool.and_eq_true, Bool.not_eq_true', List.all_eq_true]
      refine ⟨List.any_eq_false.2 (List.find?_eq_none.1 h1), fun i hi => ?_⟩
      rw [Bool.or_eq_true]
      by_cases hg : (c.clauses.getD i clause0).gives = n
      · right
        obtain ⟨-, t1, t2⟩ := valid_terms hV (hC i hi)
        have h3 := List.find?_eq_none.1 h2 i hi
        unfold firesB at h3
        rw [decide_eq_true hg, Bool.true_and, Bool.and_eq_true, not_and_or', List.all_eq_true, List.all_eq_true] at h3
        unfold barredB
        rw [Bool.or_eq_true, List.any_eq_true, List.any_eq_true]
        refine h3.imp (fun h4 => ?_) (fun h4 => ?_)
        · obtain ⟨m, hm, h5⟩ := exists_of_not_all h4
          have h6 := t1 m hm
          have := hl m (by omega) (by omega)
          rw [Bool.not_eq_true] at h5
          rw [h5] at this
          exact ⟨m, hm, this⟩
        · obtain ⟨m, hm, h5⟩ := exists_of_not_all h4
          have h6 := t2 m hm
          have := hl m (by omega) (by omega)
          rw [Bool.not_eq_true, Bool.not_eq_false'] at h5
          rw [h5] at this
          exact ⟨m, hm, this⟩
      · left; rw [decide_eq_false hg]; rfl
theorem tabF_mem {c : CodeD} {F C : List Nat} {k n : Nat} (h : n < k) : findN c F C n ∈ tabF c F C k := by
  rw [← tabF_get c F C h]; exact getD_mem _ _ (by rw [tabF_len]; exact h)
theorem tabF_finds {c : CodeD} {F C : List Nat} {k : Nat} (m : Int) (h0 : 0 ≤ m) (h : m < k) : findsB (tabF c F C k) m (soN c F C m) = true := by
  unfold findsB
  rw [List.any_eq_true]
  refine ⟨findN c F C m.toNat, tabF_mem (by omega), ?_⟩
  rw [findN_says, decide_eq_true (by omega)]
  unfold soN; simp
theorem tabF_asc (c : CodeD) (F C : List Nat) : ∀ k, (tabF c F C k).Pairwise (fun x y => x.says < y.says) ∧ ∀ x ∈ tabF c F C k, ∃ n, n < k ∧ x = findN c F C n
  | 0 => by simp [tabF]
  | k + 1 => by
    obtain ⟨h1, h2⟩ := tabF_asc c F C k
    have e : tabF c F C (k + 1) = tabF c F C k ++ [findN c F C k] := by
      unfold findN
      simp only [tabF]
      rw [getD_app_right _ _ _ _ (by rw [tabF_len]; exact Nat.le_refl _), tabF_len, Nat.sub_self]; rfl
    rw [e]
    refine ⟨List.pairwise_append.2 ⟨h1, by simp, fun x hx y hy => ?_⟩, fun x hx => ?_⟩
    · rw [List.mem_singleton] at hy
      subst hy
      obtain ⟨n, hn, rfl⟩ := h2 x hx
      rw [findN_says, findN_says]; omega
    · rcases List.mem_append.1 hx with h3 | h3
      · obtain ⟨n, hn, rfl⟩ := h2 x h3; exact ⟨n, by omega, rfl⟩
      · rw [List.mem_singleton] at h3; exact ⟨k, by omega, h3⟩
/-- the whole table proves -/
theorem table_proves {c : CodeD} {F C : List Nat} (hV : validC c = true) (hC : ∀ i ∈ C, i < c.clauses.length) {N : Nat} (hN : N ≤ 19) : provesB c F C N (soN c F C N) (tabF c F C (N + 1)) = true := by
  obtain ⟨h1, h2⟩ := tabF_asc c F C (N + 1)
  refine proves_iff.2 ⟨h1, fun x hx => ?_, findN c F C N, ?_, findN_says _ _ _ _, ?_⟩
  · obtain ⟨n, hn, rfl⟩ := h2 x hx
    refine ⟨by rw [findN_says]; omega, findN_right hV hC n fun m h0 hm => tabF_finds m h0 (by omega)⟩
  · have e : tabF c F C (N + 1) = tabF c F C N ++ [findN c F C N] := by
      unfold findN
      simp only [tabF]
      rw [getD_app_right _ _ _ _ (by rw [tabF_len]; exact Nat.le_refl _), tabF_len, Nat.sub_self]; rfl
    rw [e, List.getLast?_append]; rfl
  · unfold soN; rw [Int.toNat_natCast]
/-- what is left of a proof where each finding behind the first ones that can be left out is left out -/
def pruneF (c : CodeD) (F C : List Nat) (n : Int) (h : Bool) : Nat → List FindD → List FindD
  | 0, l => l
  | k + 1, l => pruneF c F C n h k (if provesB c F C n h (l.eraseIdx k) then l.eraseIdx k else l)
theorem prune_proves {c : CodeD} {F C : List Nat} {n : Int} {h : Bool} : ∀ {k : Nat} {l : List FindD}, provesB c F C n h l = true → provesB c F C n h (pruneF c F C n h k l) = true
  | 0, _, hl => hl
  | k + 1, l, hl => by
    simp only [pruneF]
    refine prune_proves ?_
    split
    · assumption
    · exact hl
theorem erase_filter : ∀ {l : List FindD} {k : Nat}, l.Pairwise (fun x y => x.says < y.says) → k < l.length → l.eraseIdx k = l.filter fun y => decide (y.says ≠ (l.getD k find0).says)
  | [], _, _, h => by simp at h
  | x :: l, 0, hp, _ => by
    rw [List.pairwise_cons] at hp
    have e : ∀ y ∈ l, decide (y.says ≠ x.says) = true := fun y hy => by have := hp.1 y hy; simp; omega
    show l = _
    rw [show (x :: l).getD 0 find0 = x from rfl, List.filter_cons_of_neg (by simp), List.filter_eq_self.2 e]
  | x :: l, k + 1, hp, h => by
    rw [List.pairwise_cons] at hp
    have hk : k < l.length := by simpa using h
    have h1 : x.says < (l.getD k find0).says := hp.1 _ (getD_mem l k hk)
    show x :: l.eraseIdx k = _
    rw [show (x :: l).getD (k + 1) find0 = l.getD k find0 by simp [List.getD_eq_getElem?_getD], List.filter_cons, if_pos (decide_eq_true (by omega)), erase_filter hp.2 hk]
theorem last_filter {l : List FindD} {z : FindD} (h : l.getLast? = some z) (P : FindD → Bool) (hz : P z = true) : (l.filter P).getLast? = some z := by
  obtain ⟨t, rfl⟩ : ∃ t, l = t ++ [z] := by
    rw [List.getLast?_eq_some_iff] at h; exact h
  rw [List.filter_append, List.filter_cons_of_pos hz]
  simp
/-- what makes a finding right are findings about lesser numbers -/
theorem rightB_low {c : CodeD} {F C : List Nat} (hV : validC c = true) (hC : ∀ i ∈ C, i < c.clauses.length) {x : FindD} {l l' : List FindD} (h : rightB c F C x l = true) (hs : ∀ y ∈ l, y.says < x.says → y ∈ l') : rightB c F C x l' = true := by
  have hf : ∀ (m : Int) (b : Bool), m < x.says → findsB l m b = true → findsB l' m b = true := fun m b hm hf => by
    unfold findsB at hf ⊢
    rw [List.any_eq_true] at hf ⊢
    obtain ⟨y, hy, he⟩ := hf
    have he' := he
    simp only [Bool.and_eq_true, decide_eq_true_eq] at he'
    exact ⟨y, hs y hy (by omega), he⟩
  unfold rightB at h ⊢
  split at h
  · rename_i h1; rw [if_pos h1]; exact h
  · rename_i h1
    rw [if_neg h1]
    split at h
    · rename_i h2
      rw [if_pos h2]
      simp only [Bool.and_eq_true, List.any_eq_true, List.all_eq_true, decide_eq_true_eq] at h ⊢
      obtain ⟨h3, i, hi, ⟨⟨h4, h5⟩, h6⟩, h7⟩ := h
      obtain ⟨-, t1, t2⟩ := valid_terms hV (hC i hi)
      exact ⟨h3, i, hi, ⟨⟨h4, h5⟩, fun m hm => hf m true (by have := t1 m hm; omega) (h6 m hm)⟩, fun m hm => hf m false (by have := t2 m hm; omega) (h7 m hm)⟩
    · rename_i h2
      rw [if_neg h2]
      simp only [Bool.and_eq_true, List.all_eq_true] at h ⊢
      refine ⟨h.1, fun i hi => ?_⟩
      have h3 := h.2 i hi
      obtain ⟨-, t1, t2⟩ := valid_terms hV (hC i hi)
      by_cases hg : (c.clauses.getD i clause0).gives = x.says
      · rw [decide_eq_true hg, Bool.not_true, Bool.false_or] at h3 ⊢
        unfold barredB at h3 ⊢
        rw [Bool.or_eq_true, List.any_eq_true, List.any_eq_true] at h3 ⊢
        exact h3.imp (fun ⟨m, hm, h5⟩ => ⟨m, hm, hf m false (by have := t1 m hm; omega) h5⟩) (fun ⟨m, hm, h5⟩ => ⟨m, hm, hf m true (by have := t2 m hm; omega) h5⟩)
      · rw [decide_eq_false hg]; rfl
/-- a finding that was left out can be put back -/
theorem add_back {c : CodeD} {F C : List Nat} (hV : validC c = true) (hC : ∀ i ∈ C, i < c.clauses.length) {n : Int} {h : Bool} {l : List FindD} (hl : provesB c F C n h l = true) {s t : Int} (hst : s < t) (htn : t ≠ n)
    (h2 : provesB c F C n h ((l.filter fun y => decide (y.says ≠ s)).filter fun y => decide (y.says ≠ t)) = true) : provesB c F C n h (l.filter fun y => decide (y.says ≠ t)) = true := by
  obtain ⟨a1, a2, z, a3, a4, a5⟩ := proves_iff.1 hl
  obtain ⟨-, b2, -⟩ := proves_iff.1 h2
  refine proves_iff.2 ⟨a1.filter _, fun x hx => ?_, z, last_filter a3 _ (by simp; omega), a4, a5⟩
  obtain ⟨hx1, hx2⟩ := List.mem_filter.1 hx
  refine ⟨(a2 x hx1).1, ?_⟩
  by_cases e : x.says = s
  · refine rightB_low hV hC (a2 x hx1).2 fun y hy hlt => List.mem_filter.2 ⟨hy, ?_⟩
    simp; omega
  · have hm : x ∈ (l.filter fun y => decide (y.says ≠ s)).filter fun y => decide (y.says ≠ t) := List.mem_filter.2 ⟨List.mem_filter.2 ⟨hx1, by simpa using e⟩, hx2⟩
    exact rightB_mono (fun y hy => (List.mem_filter.2 ⟨(List.mem_filter.1 (List.mem_filter.1 hy).1).1, (List.mem_filter.1 hy).2⟩)) (b2 x hm).2
theorem getD_erase_ge {l : List FindD} {k p : Nat} (h : k ≤ p) : (l.eraseIdx k).getD p find0 = l.getD (p + 1) find0 := by
  rw [List.getD_eq_getElem?_getD, List.getD_eq_getElem?_getD, List.getElem?_eraseIdx, if_neg (by omega)]
theorem last_says {c : CodeD} {F C : List Nat} {n : Int} {h : Bool} {l : List FindD} (hl : provesB c F C n h l = true) {p : Nat} (hp : p + 1 < l.length) : (l.getD p find0).says < n := by
  obtain ⟨a1, a2, z, a3, a4, a5⟩ := proves_iff.1 hl
  obtain ⟨t, rfl⟩ : ∃ t, l = t ++ [z] := by rw [List.getLast?_eq_some_iff] at a3; exact a3
  have ht : p < t.length := by simpa using hp
  rw [getD_app_left _ _ _ _ ht, ← a4]
  exact (List.pairwise_append.1 a1).2.2 _ (getD_mem t p ht) z (by simp)
/-- behind the pruning no finding but the last one can be left out -/
theorem prune_spare {c : CodeD} {F C : List Nat} (hV : validC c = true) (hC : ∀ i ∈ C, i < c.clauses.length) {n : Int} {h : Bool} : ∀ {k : Nat} {l : List FindD}, provesB c F C n h l = true → k + 1 ≤ l.length →
    (∀ p, k ≤ p → p + 1 < l.length → provesB c F C n h (l.eraseIdx p) = false) → ∀ p, p + 1 < (pruneF c F C n h k l).length → provesB c F C n h ((pruneF c F C n h k l).eraseIdx p) = false
  | 0, _, _, _, hi, p, hp => hi p (Nat.zero_le _) hp
  | k + 1, l, hl, hk, hi, p, hp => by
    have hs := (proves_iff.1 hl).1
    simp only [pruneF] at hp ⊢
    cases hb : provesB c F C n h (l.eraseIdx k)
    · rw [hb] at hp
      simp only [Bool.false_eq_true, if_false] at hp ⊢
      refine prune_spare hV hC hl (by omega) (fun p' h1 h2 => ?_) p hp
      rcases Nat.eq_or_lt_of_le h1 with e | e
      · subst e; exact hb
      · exact hi p' e h2
    · rw [hb] at hp
      simp only [if_true] at hp ⊢
      have hlen : (l.eraseIdx k).length = l.length - 1 := by rw [List.length_eraseIdx, if_pos (by omega)]
      refine prune_spare hV hC hb (by omega) (fun p' h1 h2 => ?_) p hp
      rw [hlen] at h2
      rw [← Bool.not_eq_true]
      intro hc
      have h3 := hi (p' + 1) (by omega) (by omega)
      have hs2 := (proves_iff.1 hb).1
      rw [erase_filter hs2 (by omega), getD_erase_ge h1, erase_filter hs (by omega)] at hc
      rw [erase_filter hs (by omega)] at h3
      have hlt : (l.getD k find0).says < (l.getD (p' + 1) find0).says := by
        have := List.pairwise_iff_getElem.1 hs k (p' + 1) (by omega) (by omega) (by omega)
        rw [List.getD_eq_getElem?_getD, List.getD_eq_getElem?_getD, List.getElem?_eq_getElem (by omega), List.getElem?_eq_getElem (by omega)]
        exact this
      have htn := last_says hl (p := p' + 1) (by omega)
      rw [add_back hV hC hl hlt (by omega) hc] at h3
      cases h3
/-- the last finding can't be left out -/
theorem erase_last {c : CodeD} {F C : List Nat} {n : Int} {h : Bool} {l : List FindD} (hl : provesB c F C n h l = true) {p : Nat} (hp : p + 1 = l.length) : provesB c F C n h (l.eraseIdx p) = false := by
  rw [← Bool.not_eq_true]
  intro h2
  obtain ⟨a1, a2, z, a3, a4, a5⟩ := proves_iff.1 hl
  obtain ⟨b1, b2, y, b3, b4, b5⟩ := proves_iff.1 h2
  have hy : y ∈ l.eraseIdx p := List.mem_of_getLast? b3
  obtain ⟨t, rfl⟩ : ∃ t, l = t ++ [z] := by rw [List.getLast?_eq_some_iff] at a3; exact a3
  have ht : p = t.length := by simpa using hp
  rw [ht, List.eraseIdx_append_of_length_le (Nat.le_refl _), Nat.sub_self] at hy
  simp at hy
  have := (List.pairwise_append.1 a1).2.2 y hy z (by simp)
  omega
/-- what Decide returns: the answer, and what is left of the table -/
def decideP (c : CodeD) (q : QueryD) : List FindD := pruneF c (factsF c q) (clausesF c q) q.says (soN c (factsF c q) (clausesF c q) q.says) q.says.toNat (tabF c (factsF c q) (clausesF c q) (q.says.toNat + 1))
def answerB (c : CodeD) (q : QueryD) : Bool := soN c (factsF c q) (clausesF c q) q.says
def checkB (c : CodeD) (q : QueryD) (h : Bool) (l : List FindD) : Bool := validC c && asksB q && provesB c (factsF c q) (clausesF c q) q.says h l
theorem asks_says {q : QueryD} (h : asksB q = true) : 0 ≤ q.says ∧ q.says ≤ 19 := by
  simp only [asksB, inB, Bool.and_eq_true, decide_eq_true_eq] at h; exact h.1.1.2
theorem clauses_lt (c : CodeD) (q : QueryD) : ∀ i ∈ clausesF c q, i < c.clauses.length := fun _ hi => (clausesF_lt hi).1
theorem decide_proves {c : CodeD} {q : QueryD} (hV : validC c = true) (hq : asksB q = true) : checkB c q (answerB c q) (decideP c q) = true := by
  have h := asks_says hq
  unfold checkB
  rw [hV, hq, Bool.true_and, Bool.true_and]
  refine prune_proves ?_
  have := table_proves (F := factsF c q) hV (clauses_lt c q) (N := q.says.toNat) (by omega)
  rwa [show ((q.says.toNat : Nat) : Int) = q.says by omega] at this
theorem check_one {c : CodeD} {q : QueryD} {b : Bool} {l : List FindD} (h : checkB c q b l = true) : b = answerB c q := by
  simp only [checkB, Bool.and_eq_true] at h
  exact proves_so h.1.1 (clauses_lt c q) (asks_says h.1.2).1 h.2
theorem decide_spare {c : CodeD} {q : QueryD} (hV : validC c = true) (hq : asksB q = true) (p : Nat) (hp : p < (decideP c q).length) : checkB c q (answerB c q) ((decideP c q).eraseIdx p) = false := by
  have h := asks_says hq
  have h1 := decide_proves hV hq
  unfold checkB at h1 ⊢
  rw [hV, hq, Bool.true_and, Bool.true_and] at h1 ⊢
  rcases Nat.lt_or_ge (p + 1) (decideP c q).length with h2 | h2
  · have h3 := table_proves (F := factsF c q) hV (clauses_lt c q) (N := q.says.toNat) (by omega)
    rw [show ((q.says.toNat : Nat) : Int) = q.says by omega] at h3
    exact prune_spare hV (clauses_lt c q) h3 (by rw [tabF_len]; exact Nat.le_refl _) (fun p' h4 h5 => by rw [tabF_len] at h5; omega) p h2
  · exact erase_last h1 (by omega)
/-- two laws agree about the facts and clauses with some indices -/
def AgreeC (c c' : CodeD) (F C : List Nat) : Prop := (∀ i ∈ F, c.facts.getD i fact0 = c'.facts.getD i fact0) ∧ ∀ i ∈ C, c.clauses.getD i clause0 = c'.clauses.getD i clause0
theorem findT_agree {c c' : CodeD} {F C : List Nat} (h : AgreeC c c' F C) (so : Int → Bool) (n : Int) : findT c F C so n = findT c' F C so n := by
  have e1 : F.find? (saysB c n) = F.find? (saysB c' n) := find_congr fun i hi => by unfold saysB; rw [h.1 i hi]
  have e2 : C.find? (firesB c so n) = C.find? (firesB c' so n) := find_congr fun i hi => by unfold firesB; rw [h.2 i hi]
  unfold findT
  rw [e1, e2]
theorem tabF_agree {c c' : CodeD} {F C : List Nat} (h : AgreeC c c' F C) : ∀ k, tabF c F C k = tabF c' F C k
  | 0 => rfl
  | k + 1 => by simp only [tabF]; rw [tabF_agree h k, findT_agree h]
theorem soN_agree {c c' : CodeD} {F C : List Nat} (h : AgreeC c c' F C) (n : Int) : soN c F C n = soN c' F C n := by
  unfold soN findN; rw [tabF_agree h]
theorem any_congr {α : Type} {f g : α → Bool} : ∀ {l : List α}, (∀ x ∈ l, f x = g x) → l.any f = l.any g
  | [], _ => rfl
  | x :: l, h => by simp only [List.any_cons]; rw [h x (by simp), any_congr (fun y hy => h y (by simp [hy]))]
theorem rightB_agree {c c' : CodeD} {F C : List Nat} (h : AgreeC c c' F C) (x : FindD) (l : List FindD) : rightB c F C x l = rightB c' F C x l := by
  unfold rightB
  rw [any_congr (l := F) (f := fun (i : Nat) => decide (x.fact = i) && saysB c x.says i) (g := fun (i : Nat) => decide (x.fact = i) && saysB c' x.says i) (fun i hi => by unfold saysB; rw [h.1 i hi]),
    any_congr (l := F) (f := saysB c x.says) (g := saysB c' x.says) (fun i hi => by unfold saysB; rw [h.1 i hi]),
    any_congr (l := C) (f := fun (i : Nat) => decide (x.clause = i) && decide ((c.clauses.getD i clause0).gives = x.says) && ((c.clauses.getD i clause0).needs.all fun n => findsB l n true) && (c.clauses.getD i clause0).bars.all fun n => findsB l n false)
      (g := fun (i : Nat) => decide (x.clause = i) && decide ((c'.clauses.getD i clause0).gives = x.says) && ((c'.clauses.getD i clause0).needs.all fun n => findsB l n true) && (c'.clauses.getD i clause0).bars.all fun n => findsB l n false) (fun i hi => by rw [h.2 i hi]),
    all_congr (l := C) (f := fun i => !(decide ((c.clauses.getD i clause0).gives = x.says)) || barredB c l i) (g := fun i => !(decide ((c'.clauses.getD i clause0).gives = x.says)) || barredB c' l i) (fun i hi => by unfold barredB; rw [h.2 i hi])]
theorem stepsB_agree {c c' : CodeD} {F C : List Nat} (h : AgreeC c c' F C) (l : List FindD) : ∀ (t : List FindD) (last : Int), stepsB c F C l last t = stepsB c' F C l last t
  | [], _ => rfl
  | x :: t, last => by simp only [stepsB]; rw [rightB_agree h, stepsB_agree h l t]
theorem provesB_agree {c c' : CodeD} {F C : List Nat} (h : AgreeC c c' F C) (n : Int) (b : Bool) (l : List FindD) : provesB c F C n b l = provesB c' F C n b l := by
  unfold provesB; rw [stepsB_agree h]
theorem pruneF_agree {c c' : CodeD} {F C : List Nat} (h : AgreeC c c' F C) (n : Int) (b : Bool) : ∀ (k : Nat) (l : List FindD), pruneF c F C n b k l = pruneF c' F C n b k l
  | 0, _ => rfl
  | k + 1, l => by simp only [pruneF]; rw [provesB_agree h, pruneF_agree h n b k]
theorem filter_range_more {p p' : Nat → Bool} {n : Nat} (h : ∀ i, i < n → p i = p' i) : ∀ m, (∀ i, n ≤ i → i < n + m → p' i = false) → (List.range (n + m)).filter p' = (List.range n).filter p
  | 0, _ => List.filter_congr fun i hi => (h i (List.mem_range.1 hi)).symm
  | m + 1, h2 => by
    rw [← Nat.add_assoc, List.range_succ, List.filter_append, filter_range_more h m (fun i h3 h4 => h2 i h3 (by omega)), List.filter_cons_of_neg (by rw [h2 (n + m) (by omega) (by omega)]; simp)]
    simp
def rulesX (x : ClauseD) (q : QueryD) : Bool := decide (x.pub ≤ q.known) && hasD x.sf x.st q.day
theorem rulesB_eq (c : CodeD) (i : Nat) (q : QueryD) : rulesB c i q = (rulesX (c.clauses.getD i clause0) q && !c.repeals.any (repealsB i q)) := rfl
/-- laws with more behind, that does not apply -/
theorem applies_more {c : CodeD} {q : QueryD} {xs : List ClauseD} {rs : List RepealD} {fs : List FactD} (hx : ∀ x ∈ xs, rulesX x q = false) (hr : ∀ r ∈ rs, (decide (r.pub ≤ q.known) && decide (r.from_ ≤ q.day)) = false) (hf : ∀ x ∈ fs, statesB x q = false) :
    factsF ⟨c.clauses ++ xs, c.repeals ++ rs, c.facts ++ fs⟩ q = factsF c q ∧ clausesF ⟨c.clauses ++ xs, c.repeals ++ rs, c.facts ++ fs⟩ q = clausesF c q := by
  constructor
  · unfold factsF
    rw [List.length_append]
    refine filter_range_more (fun i hi => by rw [getD_app_left _ _ _ _ hi]) _ fun i h1 h2 => ?_
    rw [getD_app_right _ _ _ _ h1]
    exact hf _ (getD_mem _ _ (by omega))
  · unfold clausesF
    rw [List.length_append]
    have hrs : ∀ i : Int, (c.repeals ++ rs).any (repealsB i q) = c.repeals.any (repealsB i q) := fun i => by
      rw [List.any_append]
      have : rs.any (repealsB i q) = false := List.any_eq_false.2 fun r h => by
        have := hr r h
        unfold repealsB
        rw [Bool.and_assoc, this]; simp
      rw [this, Bool.or_false]
    refine filter_range_more (fun i hi => ?_) _ fun i h1 h2 => ?_
    · rw [rulesB_eq, rulesB_eq]
      show _ = (rulesX ((c.clauses ++ xs).getD i clause0) q && !(c.repeals ++ rs).any (repealsB i q))
      rw [getD_app_left _ _ _ _ hi, hrs]
    · rw [rulesB_eq]
      show (rulesX ((c.clauses ++ xs).getD i clause0) q && _) = false
      rw [getD_app_right _ _ _ _ h1, hx _ (getD_mem _ _ (by omega)), Bool.false_and]
theorem agree_more (c : CodeD) (q : QueryD) (xs : List ClauseD) (rs : List RepealD) (fs : List FactD) : AgreeC c ⟨c.clauses ++ xs, c.repeals ++ rs, c.facts ++ fs⟩ (factsF c q) (clausesF c q) :=
  ⟨fun i hi => by show _ = (c.facts ++ fs).getD i fact0; rw [getD_app_left _ _ _ _ (factsF_lt hi).1], fun i hi => by show _ = (c.clauses ++ xs).getD i clause0; rw [getD_app_left _ _ _ _ (clausesF_lt hi).1]⟩
/-- what does not apply changes nothing -/
theorem past_same {c : CodeD} {q : QueryD} {xs : List ClauseD} {rs : List RepealD} {fs : List FactD} (hx : ∀ x ∈ xs, rulesX x q = false) (hr : ∀ r ∈ rs, (decide (r.pub ≤ q.known) && decide (r.from_ ≤ q.day)) = false) (hf : ∀ x ∈ fs, statesB x q = false)
    (hV : validC c = true) (hV' : validC ⟨c.clauses ++ xs, c.repeals ++ rs, c.facts ++ fs⟩ = true) :
    answerB ⟨c.clauses ++ xs, c.repeals ++ rs, c.facts ++ fs⟩ q = answerB c q ∧ decideP ⟨c.clauses ++ xs, c.repeals ++ rs, c.facts ++ fs⟩ q = decideP c q ∧ ∀ b l, checkB ⟨c.clauses ++ xs, c.repeals ++ rs, c.facts ++ fs⟩ q b l = checkB c q b l := by
  obtain ⟨e1, e2⟩ := applies_more (c := c) hx hr hf
  have hA := agree_more c q xs rs fs
  refine ⟨?_, ?_, fun b l => ?_⟩
  · unfold answerB; rw [e1, e2, soN_agree hA]
  · unfold decideP; rw [e1, e2, soN_agree hA, tabF_agree hA, pruneF_agree hA]
  · unfold checkB; rw [e1, e2, provesB_agree hA, hV, hV']
/-- a number put into an ascending list -/
def insA (n : Int) : List Int → List Int
  | [] => [n]
  | x :: t => if n < x then n :: x :: t else x :: insA n t
def insertedF (l : List Int) (n : Int) : List Int := if n ∈ l then l else insA n l
theorem mem_insA {n m : Int} : ∀ {l : List Int}, m ∈ insA n l ↔ m = n ∨ m ∈ l
  | [] => by simp [insA]
  | x :: t => by
    simp only [insA]
    split
    · simp
    · rw [List.mem_cons, mem_insA (l := t), List.mem_cons]
      constructor
      · rintro (h | h | h) <;> simp [h]
      · rintro (h | h | h) <;> simp [h]
theorem mem_inserted {n m : Int} {l : List Int} : m ∈ insertedF l n ↔ m = n ∨ m ∈ l := by
  unfold insertedF
  split
  · rename_i h
    exact ⟨.inr, fun h2 => h2.elim (fun e => e ▸ h) id⟩
  · exact mem_insA
theorem insA_len (n : Int) : ∀ l : List Int, (insA n l).length = l.length + 1
  | [] => rfl
  | x :: t => by
    simp only [insA]
    split
    · rfl
    · simp [insA_len n t]
theorem insA_asc {n below : Int} : ∀ {l : List Int} {last : Int}, ascF last l below = true → last < n → n < below → n ∉ l → ascF last (insA n l) below = true
  | [], last, _, h1, h2, _ => by simp [insA, ascF, inB]; omega
  | x :: t, last, h, h1, h2, h3 => by
    simp only [ascF, inB, Bool.and_eq_true, decide_eq_true_eq] at h
    simp only [insA]
    split
    · simp only [ascF, inB, Bool.and_eq_true, decide_eq_true_eq]
      exact ⟨by omega, by omega, h.2⟩
    · have hx : x ≠ n := fun e => h3 (by simp [e])
      simp only [ascF, inB, Bool.and_eq_true, decide_eq_true_eq]
      exact ⟨h.1, insA_asc h.2 (by omega) h2 (fun h4 => h3 (by simp [h4]))⟩
theorem inserted_terms {n below : Int} {l : List Int} (h : termsB l below = true) (hl : l.length ≤ 3) (h0 : 0 ≤ n) (h1 : n < below) : termsB (insertedF l n) below = true := by
  unfold insertedF
  split
  · exact h
  · rename_i h2
    simp only [termsB, Bool.and_eq_true, decide_eq_true_eq] at h ⊢
    exact ⟨by rw [insA_len]; omega, insA_asc h.2 (by omega) h1 h2⟩
theorem inserted_all {n : Int} {l : List Int} {f : Int → Bool} (h : f n = true) : (insertedF l n).all f = l.all f := by
  rw [Bool.eq_iff_iff, List.all_eq_true, List.all_eq_true]
  exact ⟨fun h2 m hm => h2 m (mem_inserted.2 (.inr hm)), fun h2 m hm => (mem_inserted.1 hm).elim (fun e => e ▸ h) (h2 m)⟩
theorem setC_eq {α : Type} {l : List α} {k : Nat} (h : k < l.length) (x d : α) : (l.set k x).getD k d = x := by
  rw [List.getD_eq_getElem?_getD, List.getElem?_set_self h]; rfl
theorem setC_ne {α : Type} (l : List α) {k i : Nat} (h : i ≠ k) (x d : α) : (l.set k x).getD i d = l.getD i d := by
  rw [List.getD_eq_getElem?_getD, List.getElem?_set_ne (Ne.symm h), List.getD_eq_getElem?_getD]
/-- laws of which one clause has other needs and bars, such that it fires just where it did -/
theorem so_same {c : CodeD} {q : QueryD} {k : Nat} {x : ClauseD} (hk : k < c.clauses.length) (hx : x.pub = (c.clauses.getD k clause0).pub ∧ x.sf = (c.clauses.getD k clause0).sf ∧ x.st = (c.clauses.getD k clause0).st ∧ x.gives = (c.clauses.getD k clause0).gives)
    (hV : validC c = true) (hV' : validC ⟨c.clauses.set k x, c.repeals, c.facts⟩ = true)
    (hf : ∀ so : Int → Bool, (∀ m : Int, 0 ≤ m → m < x.gives → so m = soN c (factsF c q) (clausesF c q) m) → (x.needs.all so && x.bars.all fun m => !so m) = ((c.clauses.getD k clause0).needs.all so && (c.clauses.getD k clause0).bars.all fun m => !so m)) :
    answerB ⟨c.clauses.set k x, c.repeals, c.facts⟩ q = answerB c q := by
  have hget : ∀ i, (c.clauses.set k x).getD i clause0 = if i = k then x else c.clauses.getD i clause0 := fun i => by
    by_cases e : i = k
    · subst e; rw [if_pos rfl, setC_eq hk]
    · rw [if_neg e, setC_ne _ e]
  have eC : clausesF ⟨c.clauses.set k x, c.repeals, c.facts⟩ q = clausesF c q := by
    unfold clausesF
    rw [List.length_set]
    refine List.filter_congr fun i hi => ?_
    rw [rulesB_eq, rulesB_eq]
    show (rulesX ((c.clauses.set k x).getD i clause0) q && _) = _
    rw [hget]
    by_cases e : i = k
    · subst e
      rw [if_pos rfl]
      unfold rulesX
      rw [hx.1, hx.2.1, hx.2.2.1]
    · rw [if_neg e]
  have eF : factsF ⟨c.clauses.set k x, c.repeals, c.facts⟩ q = factsF c q := rfl
  have key : ∀ n : Nat, soN ⟨c.clauses.set k x, c.repeals, c.facts⟩ (factsF c q) (clausesF c q) n = soN c (factsF c q) (clausesF c q) n := by
    intro n
    induction n using Nat.strongRecOn with
    | ind n ih =>
      have hCl := clauses_lt c q
      have e1 := findN_eq (F := factsF c q) hV hCl n
      have e2 := findN_eq (c := ⟨c.clauses.set k x, c.repeals, c.facts⟩) (F := factsF c q) (C := clausesF c q) hV' (fun i hi => by show i < (c.clauses.set k x).length; rw [List.length_set]; exact hCl i hi) n
      have h1 : ∀ c', soN c' (factsF c q) (clausesF c q) n = (findN c' (factsF c q) (clausesF c q) n).holds := fun c' => by unfold soN; rw [Int.toNat_natCast]
      rw [h1, h1, e1, e2]
      have e3 : (clausesF c q).find? (firesB ⟨c.clauses.set k x, c.repeals, c.facts⟩ (soN ⟨c.clauses.set k x, c.repeals, c.facts⟩ (factsF c q) (clausesF c q)) n) = (clausesF c q).find? (firesB c (soN c (factsF c q) (clausesF c q)) n) := by
        refine find_congr fun i hi => ?_
        have hso : ∀ m : Int, 0 ≤ m → m < n → soN ⟨c.clauses.set k x, c.repeals, c.facts⟩ (factsF c q) (clausesF c q) m = soN c (factsF c q) (clausesF c q) m := fun m h0 hm => by
          have := ih m.toNat (by omega)
          rwa [show ((m.toNat : Nat) : Int) = m by omega] at this
        generalize soN ⟨c.clauses.set k x, c.repeals, c.facts⟩ (factsF c q) (clausesF c q) = so' at hso
        unfold firesB
        show (decide (((c.clauses.set k x).getD i clause0).gives = n) && ((c.clauses.set k x).getD i clause0).needs.all so' && ((c.clauses.set k x).getD i clause0).bars.all fun m => !so' m) = _
        obtain ⟨-, t1, t2⟩ := valid_terms hV (hCl i hi)
        have hsame : (c.clauses.getD i clause0).gives = n → ((c.clauses.getD i clause0).needs.all so' && (c.clauses.getD i clause0).bars.all fun m => !so' m) = ((c.clauses.getD i clause0).needs.all (soN c (factsF c q) (clausesF c q)) && (c.clauses.getD i clause0).bars.all fun m => !soN c (factsF c q) (clausesF c q) m) := fun hg => by
          rw [all_congr (g := soN c (factsF c q) (clausesF c q)) (fun m hm => by have := t1 m hm; exact hso m (by omega) (by omega)), all_congr (f := fun m => !so' m) (g := fun m => !soN c (factsF c q) (clausesF c q) m) (fun m hm => by have := t2 m hm; rw [hso m (by omega) (by omega)])]
        rw [hget, Bool.and_assoc, Bool.and_assoc]
        by_cases e : i = k
        · subst e
          rw [if_pos rfl, hx.2.2.2]
          by_cases hg : (c.clauses.getD i clause0).gives = n
          · rw [hf so' (fun m h0 hm => hso m h0 (by rw [hx.2.2.2, hg] at hm; exact hm)), hsame hg]
          · rw [decide_eq_false hg, Bool.false_and, Bool.false_and]
        · rw [if_neg e]
          by_cases hg : (c.clauses.getD i clause0).gives = n
          · rw [hsame hg]
          · rw [decide_eq_false hg, Bool.false_and, Bool.false_and]
      unfold findT
      rw [e3]
      have e4 : (factsF c q).find? (saysB ⟨c.clauses.set k x, c.repeals, c.facts⟩ n) = (factsF c q).find? (saysB c n) := rfl
      rw [e4]
  unfold answerB
  rw [eC, eF]
  by_cases h0 : 0 ≤ q.says
  · have := key q.says.toNat
    rwa [show ((q.says.toNat : Nat) : Int) = q.says by omega] at this
  · have := key 0
    unfold soN at this ⊢
    rw [show q.says.toNat = 0 by omega]
    exact this
/-- a further need that is so, or a further exception that is not, changes no answer -/
theorem exceptions_same {c : CodeD} {q : QueryD} {k : Nat} {n : Int} (hk : k < c.clauses.length) (hV : validC c = true) (hn : 0 ≤ n) (hng : n < (c.clauses.getD k clause0).gives) (x : ClauseD)
    (hx : x = if soN c (factsF c q) (clausesF c q) n then { c.clauses.getD k clause0 with needs := insertedF (c.clauses.getD k clause0).needs n } else { c.clauses.getD k clause0 with bars := insertedF (c.clauses.getD k clause0).bars n })
    (hV' : validC ⟨c.clauses.set k x, c.repeals, c.facts⟩ = true) : answerB ⟨c.clauses.set k x, c.repeals, c.facts⟩ q = answerB c q := by
  cases hb : soN c (factsF c q) (clausesF c q) n
  · rw [hb] at hx
    simp only [Bool.false_eq_true, if_false] at hx
    subst hx
    refine so_same hk ⟨rfl, rfl, rfl, rfl⟩ hV hV' fun so hs => ?_
    have h1 := hs n hn hng
    show ((c.clauses.getD k clause0).needs.all so && (insertedF (c.clauses.getD k clause0).bars n).all fun m => !so m) = _
    rw [inserted_all (f := fun m => !so m) (by rw [h1, hb]; rfl)]
  · rw [hb] at hx
    simp only [if_true] at hx
    subst hx
    refine so_same hk ⟨rfl, rfl, rfl, rfl⟩ hV hV' fun so hs => ?_
    have h1 := hs n hn hng
    show ((insertedF (c.clauses.getD k clause0).needs n).all so && (c.clauses.getD k clause0).bars.all fun m => !so m) = _
    rw [inserted_all (f := so) (by rw [h1, hb])]
def AscI (l : List Int) : Prop := l.Pairwise (· < ·)
theorem insA_pair {n : Int} : ∀ {l : List Int}, AscI l → n ∉ l → AscI (insA n l)
  | [], _, _ => by simp [AscI, insA]
  | x :: t, h, hn => by
    unfold AscI at h ⊢
    rw [List.pairwise_cons] at h
    simp only [insA]
    split
    · rename_i h1
      rw [List.pairwise_cons, List.pairwise_cons]
      exact ⟨fun y hy => by rcases List.mem_cons.1 hy with rfl | hy; exact h1; have := h.1 y hy; omega, h⟩
    · rw [List.pairwise_cons]
      have hx : x ≠ n := fun e => hn (by simp [e])
      refine ⟨fun y hy => ?_, insA_pair h.2 (fun h2 => hn (by simp [h2]))⟩
      rcases mem_insA.1 hy with rfl | hy
      · omega
      · exact h.1 y hy
theorem inserted_pair {n : Int} {l : List Int} (h : AscI l) : AscI (insertedF l n) := by
  unfold insertedF; split
  · exact h
  · rename_i h1; exact insA_pair h h1
/-- numbers put in, one behind the other -/
def putAll (l : List Int) (xs : List Int) : List Int := xs.foldl insertedF l
theorem putAll_spec : ∀ {xs l : List Int}, AscI l → AscI (putAll l xs) ∧ ∀ m, m ∈ putAll l xs ↔ m ∈ l ∨ m ∈ xs
  | [], l, h => ⟨h, fun m => by simp [putAll]⟩
  | x :: xs, l, h => by
    have := putAll_spec (xs := xs) (inserted_pair (n := x) h)
    refine ⟨this.1, fun m => ?_⟩
    have e : putAll l (x :: xs) = putAll (insertedF l x) xs := rfl
    rw [e, this.2 m, mem_inserted, List.mem_cons]
    constructor
    · rintro ((h | h) | h) <;> simp [h]
    · rintro (h | h | h) <;> simp [h]
/-- the facts, the clauses that a finding leans on -/
def leanF (x : FindD) : List Int := if 0 ≤ x.fact then [x.fact] else []
def leanC (c : CodeD) (C : List Nat) (x : FindD) : List Int := if 0 ≤ x.fact then [] else if 0 ≤ x.clause then [x.clause] else (C.filter fun i => decide ((c.clauses.getD i clause0).gives = x.says)).map fun (i : Nat) => (i : Int)
def usesF (l : List FindD) : List Int := l.foldl (fun a x => putAll a (leanF x)) []
def usesC (c : CodeD) (C : List Nat) (l : List FindD) : List Int := l.foldl (fun a x => putAll a (leanC c C x)) []
theorem fold_put {f : FindD → List Int} : ∀ {l : List FindD} {a : List Int}, AscI a → AscI (l.foldl (fun a x => putAll a (f x)) a) ∧ ∀ m, m ∈ l.foldl (fun a x => putAll a (f x)) a ↔ m ∈ a ∨ ∃ x ∈ l, m ∈ f x
  | [], a, h => ⟨h, fun m => by simp⟩
  | x :: l, a, h => by
    obtain ⟨h1, h2⟩ := putAll_spec (xs := f x) h
    obtain ⟨h3, h4⟩ := fold_put (f := f) (l := l) h1
    refine ⟨h3, fun m => ?_⟩
    rw [List.foldl_cons, h4 m, h2 m]
    constructor
    · rintro ((h | h) | ⟨y, hy, h⟩)
      · exact .inl h
      · exact .inr ⟨x, by simp, h⟩
      · exact .inr ⟨y, by simp [hy], h⟩
    · rintro (h | ⟨y, hy, h⟩)
      · exact .inl (.inl h)
      · rcases List.mem_cons.1 hy with rfl | hy
        · exact .inl (.inr h)
        · exact .inr ⟨y, hy, h⟩
theorem usesF_spec (l : List FindD) : AscI (usesF l) ∧ ∀ m, m ∈ usesF l ↔ ∃ x ∈ l, m ∈ leanF x := by
  obtain ⟨h1, h2⟩ := fold_put (f := leanF) (l := l) (a := []) List.Pairwise.nil
  exact ⟨h1, fun m => by have := h2 m; simpa [usesF] using this⟩
theorem usesC_spec (c : CodeD) (C : List Nat) (l : List FindD) : AscI (usesC c C l) ∧ ∀ m, m ∈ usesC c C l ↔ ∃ x ∈ l, m ∈ leanC c C x := by
  obtain ⟨h1, h2⟩ := fold_put (f := leanC c C) (l := l) (a := []) List.Pairwise.nil
  exact ⟨h1, fun m => by have := h2 m; simpa [usesC] using this⟩
/-- the index of a number in a list; -1 if it is not there -/
def idxI : List Int → Int → Int
  | [], _ => -1
  | x :: l, n => if x = n then 0 else if idxI l n < 0 then -1 else idxI l n + 1
theorem idxI_not {n : Int} : ∀ {l : List Int}, n ∉ l → idxI l n = -1
  | [], _ => rfl
  | x :: l, h => by
    have hx : x ≠ n := fun e => h (by simp [e])
    simp only [idxI]
    rw [if_neg hx, idxI_not (fun h2 => h (by simp [h2])), if_pos (by omega)]
theorem idxI_mem {n : Int} : ∀ {l : List Int}, n ∈ l → ∃ j : Nat, j < l.length ∧ idxI l n = j ∧ l.getD j 0 = n
  | [], h => by cases h
  | x :: l, h => by
    simp only [idxI]
    by_cases hx : x = n
    · rw [if_pos hx]; exact ⟨0, by simp, rfl, by simp [hx]⟩
    · rw [if_neg hx]
      rcases List.mem_cons.1 h with e | h
      · exact absurd e.symm hx
      · obtain ⟨j, h1, h2, h3⟩ := idxI_mem h
        refine ⟨j + 1, by simp; omega, ?_, by simpa [List.getD_eq_getElem?_getD] using h3⟩
        rw [h2, if_neg (by omega)]; simp
theorem idxI_inj {l : List Int} {n : Int} {j : Nat} (h : idxI l n = j) : l.getD j 0 = n ∧ j < l.length := by
  by_cases hm : n ∈ l
  · obtain ⟨i, h1, h2, h3⟩ := idxI_mem hm
    rw [h2] at h
    obtain rfl : i = j := by omega
    exact ⟨h3, h1⟩
  · rw [idxI_not hm] at h; omega
/-- the laws of which only some facts and clauses are left -/
def lessC (c : CodeD) (U V : List Int) : CodeD :=
  ⟨V.map fun i => c.clauses.getD i.toNat clause0, (c.repeals.filter fun r => decide (0 ≤ idxI V r.clause)).map fun r => ⟨idxI V r.clause, r.pub, r.from_⟩, U.map fun i => c.facts.getD i.toNat fact0⟩
def movedF (U V : List Int) (x : FindD) : FindD := ⟨x.says, x.holds, idxI U x.fact, idxI V x.clause⟩
theorem getD_map' {α β : Type} (f : α → β) (l : List α) {i : Nat} (h : i < l.length) (d : α) (e : β) : (l.map f).getD i e = f (l.getD i d) := by
  simp [List.getD_eq_getElem?_getD, h]
theorem range_filter_all {n : Nat} {p : Nat → Bool} (h : ∀ i, i < n → p i = true) : (List.range n).filter p = List.range n := List.filter_eq_self.2 fun i hi => h i (List.mem_range.1 hi)
theorem less_facts {c : CodeD} {q : QueryD} {U V : List Int} (hU : ∀ i ∈ U, 0 ≤ i ∧ i.toNat ∈ factsF c q) : factsF (lessC c U V) q = List.range U.length := by
  unfold factsF lessC
  rw [List.length_map]
  refine range_filter_all fun i hi => ?_
  rw [getD_map' _ _ hi 0]
  exact (factsF_lt (hU _ (getD_mem U i hi)).2).2
theorem less_clauses {c : CodeD} {q : QueryD} {U V : List Int} (hV : ∀ i ∈ V, 0 ≤ i ∧ i.toNat ∈ clausesF c q) : clausesF (lessC c U V) q = List.range V.length := by
  have h0 : (lessC c U V).clauses.length = V.length := by simp [lessC]
  unfold clausesF
  rw [h0]
  refine range_filter_all fun i hi => ?_
  rw [rulesB_eq]
  have hi2 := hV _ (getD_mem V i (d := 0) hi)
  have h1 := (clausesF_lt hi2.2).2
  rw [rulesB_eq, Bool.and_eq_true] at h1
  have e : (lessC c U V).clauses.getD i clause0 = c.clauses.getD (V.getD i 0).toNat clause0 := getD_map' _ _ hi 0 _
  rw [e, h1.1, Bool.true_and, Bool.not_eq_true', List.any_eq_false]
  intro r hr
  obtain ⟨s, hs, rfl⟩ := List.mem_map.1 hr
  have h2 := h1.2
  rw [Bool.not_eq_true', List.any_eq_false] at h2
  have h3 := h2 s (List.mem_filter.1 hs).1
  intro h4
  apply h3
  simp only [repealsB, Bool.and_eq_true, decide_eq_true_eq] at h4 ⊢
  have := (idxI_inj h4.1.1).1
  exact ⟨⟨by omega, h4.1.2⟩, h4.2⟩
theorem asc_len' {m : Int} : ∀ {l : List Int} {a : Int}, AscI l → (∀ i ∈ l, a ≤ i ∧ i < m) → l.length ≤ (m - a).toNat
  | [], _, _, _ => Nat.zero_le _
  | x :: t, a, h, hb => by
    unfold AscI at h
    rw [List.pairwise_cons] at h
    have h1 := hb x (by simp)
    have h2 := asc_len' (m := m) (a := x + 1) h.2 (fun i hi => ⟨by have := h.1 i hi; omega, (hb i (by simp [hi])).2⟩)
    rw [List.length_cons]; omega
theorem asc_len {l : List Int} {m : Nat} (h : AscI l) (hb : ∀ i ∈ l, 0 ≤ i ∧ i < (m : Int)) : l.length ≤ m := by
  have := asc_len' (m := m) (a := 0) h hb
  omega
theorem less_valid {c : CodeD} {U V : List Int} (hc : validC c = true) (hU : AscI U) (hV : AscI V) (hUb : ∀ i ∈ U, 0 ≤ i ∧ i < (c.facts.length : Int)) (hVb : ∀ i ∈ V, 0 ≤ i ∧ i < (c.clauses.length : Int)) : validC (lessC c U V) = true := by
  have h1 := asc_len hU hUb
  have h2 := asc_len hV hVb
  simp only [validC, Bool.and_eq_true, decide_eq_true_eq, List.all_eq_true] at hc ⊢
  obtain ⟨⟨⟨⟨⟨a1, a2⟩, a3⟩, a4⟩, a5⟩, a6⟩ := hc
  have e1 : (lessC c U V).clauses.length = V.length := by simp [lessC]
  have e2 : (lessC c U V).facts.length = U.length := by simp [lessC]
  refine ⟨⟨⟨⟨⟨by omega, ?_⟩, by omega⟩, fun x hx => ?_⟩, fun x hx => ?_⟩, fun x hx => ?_⟩
  · show ((c.repeals.filter _).map _).length ≤ 10
    rw [List.length_map]
    exact Nat.le_trans (List.length_filter_le _ _) a2
  · obtain ⟨i, hi, rfl⟩ := List.mem_map.1 hx
    have := hVb i hi
    exact a4 _ (getD_mem _ _ (by omega))
  · obtain ⟨r, hr, rfl⟩ := List.mem_map.1 hx
    obtain ⟨hr1, hr2⟩ := List.mem_filter.1 hr
    have h3 := a5 r hr1
    simp only [repealB, inB, Bool.and_eq_true, decide_eq_true_eq] at h3 hr2 ⊢
    have h4 := (idxI_inj (l := V) (n := r.clause) (j := (idxI V r.clause).toNat) (by omega)).2
    rw [e1]
    exact ⟨⟨by omega, h3.1.2⟩, h3.2⟩
  · obtain ⟨i, hi, rfl⟩ := List.mem_map.1 hx
    have := hUb i hi
    exact a6 _ (getD_mem _ _ (by omega))
theorem moved_finds (U V : List Int) (l : List FindD) (n : Int) (b : Bool) : findsB (l.map (movedF U V)) n b = findsB l n b := by
  unfold findsB
  rw [List.any_map]; rfl
/-- a proof whose findings are moved is one of the laws of which only what it leans on is left -/
theorem leans_proves {c : CodeD} {q : QueryD} {n : Int} {h : Bool} {l : List FindD} (hp : provesB c (factsF c q) (clausesF c q) n h l = true) :
    provesB (lessC c (usesF l) (usesC c (clausesF c q) l)) (List.range (usesF l).length) (List.range (usesC c (clausesF c q) l).length) n h (l.map (movedF (usesF l) (usesC c (clausesF c q) l))) = true := by
  obtain ⟨a1, a2, z, a3, a4, a5⟩ := proves_iff.1 hp
  obtain ⟨-, hU⟩ := usesF_spec l
  obtain ⟨-, hV⟩ := usesC_spec c (clausesF c q) l
  generalize usesF l = U at hU ⊢
  generalize usesC c (clausesF c q) l = V at hV ⊢
  refine proves_iff.2 ⟨List.pairwise_map.2 a1, fun x0 hx0 => ?_, movedF U V z, by rw [List.getLast?_map, a3]; rfl, a4, a5⟩
  obtain ⟨x, hx, rfl⟩ := List.mem_map.1 hx0
  obtain ⟨b1, b2⟩ := a2 x hx
  refine ⟨b1, ?_⟩
  have hnU : (-1 : Int) ∉ U := fun hm => by
    obtain ⟨y, -, hy⟩ := (hU _).1 hm
    unfold leanF at hy
    split at hy
    · rw [List.mem_singleton] at hy; omega
    · cases hy
  have hnV : (-1 : Int) ∉ V := fun hm => by
    obtain ⟨y, -, hy⟩ := (hV _).1 hm
    unfold leanC at hy
    split at hy
    · cases hy
    · split at hy
      · rw [List.mem_singleton] at hy; omega
      · obtain ⟨i, -, hi⟩ := List.mem_map.1 hy; omega
  have hcl : ∀ j, j < V.length → (lessC c U V).clauses.getD j clause0 = c.clauses.getD (V.getD j 0).toNat clause0 := fun j hj => getD_map' _ _ hj 0 _
  have hfl : ∀ j, j < U.length → (lessC c U V).facts.getD j fact0 = c.facts.getD (U.getD j 0).toNat fact0 := fun j hj => getD_map' _ _ hj 0 _
  have hUF : ∀ i ∈ U, 0 ≤ i ∧ i.toNat ∈ factsF c q := fun i hi => by
    obtain ⟨y, hy, hm⟩ := (hU i).1 hi
    unfold leanF at hm
    split at hm
    · rename_i h0
      rw [List.mem_singleton] at hm
      subst hm
      have := (a2 y hy).2
      unfold rightB at this
      split at this
      · rw [List.any_eq_true] at this
        obtain ⟨k, hk, h3⟩ := this
        simp only [Bool.and_eq_true, decide_eq_true_eq] at h3
        exact ⟨h0, by rw [h3.1]; simpa using hk⟩
      · split at this <;> simp only [Bool.and_eq_true, decide_eq_true_eq] at this
        · omega
        · omega
    · cases hm
  have hVC : ∀ i ∈ V, 0 ≤ i ∧ i.toNat ∈ clausesF c q := fun i hi => by
    obtain ⟨y, hy, hm⟩ := (hV i).1 hi
    unfold leanC at hm
    split at hm
    · cases hm
    · split at hm
      · rename_i h0 h1
        rw [List.mem_singleton] at hm
        subst hm
        have := (a2 y hy).2
        unfold rightB at this
        split at this
        · rename_i h2
          simp only [Bool.and_eq_true, decide_eq_true_eq] at h2
          omega
        · split at this
          · simp only [Bool.and_eq_true, List.any_eq_true, decide_eq_true_eq] at this
            obtain ⟨-, k, hk, ⟨⟨h3, -⟩, -⟩, -⟩ := this
            exact ⟨h1, by rw [h3]; simpa using hk⟩
          · simp only [Bool.and_eq_true, decide_eq_true_eq] at this
            omega
      · obtain ⟨k, hk, rfl⟩ := List.mem_map.1 hm
        exact ⟨by omega, by simpa using (List.mem_filter.1 hk).1⟩
  unfold rightB at b2 ⊢
  show (if x.holds && decide (idxI V x.clause = -1) then _ else if x.holds then _ else _) = true
  cases hh : x.holds
  · rw [hh] at b2
    simp only [Bool.false_and, Bool.false_eq_true, if_false, Bool.and_eq_true, decide_eq_true_eq, Bool.not_eq_true', List.all_eq_true] at b2 ⊢
    obtain ⟨⟨⟨c1, c2⟩, c3⟩, c4⟩ := b2
    rw [List.any_eq_false] at c3
    refine ⟨⟨⟨by show idxI U x.fact = -1; rw [c1, idxI_not hnU], by show idxI V x.clause = -1; rw [c2, idxI_not hnV]⟩, List.any_eq_false.2 fun j hj hs => ?_⟩, fun j hj => ?_⟩
    · rw [List.mem_range] at hj
      have h2 := hUF _ (getD_mem U j (d := 0) hj)
      refine c3 _ h2.2 ?_
      unfold saysB at hs ⊢
      rw [hfl j hj] at hs
      exact hs
    · rw [List.mem_range] at hj
      have h2 := hVC _ (getD_mem V j (d := 0) hj)
      have h3 := c4 _ h2.2
      unfold barredB at h3 ⊢
      rw [hcl j hj]
      simp only [moved_finds]
      exact h3
  · rw [hh] at b2
    simp only [Bool.true_and, if_true] at b2 ⊢
    by_cases hcl1 : x.clause = -1
    · rw [if_pos (by simpa using hcl1), List.any_eq_true] at b2
      obtain ⟨i, hi, h3⟩ := b2
      simp only [Bool.and_eq_true, decide_eq_true_eq] at h3
      rw [hcl1, idxI_not hnV, if_pos (by simp), List.any_eq_true]
      have hm : x.fact ∈ U := (hU _).2 ⟨x, hx, by unfold leanF; rw [if_pos (by omega)]; simp⟩
      obtain ⟨j, j1, j2, j3⟩ := idxI_mem hm
      refine ⟨j, List.mem_range.2 j1, ?_⟩
      simp only [Bool.and_eq_true, decide_eq_true_eq]
      refine ⟨j2, ?_⟩
      have h4 := h3.2
      unfold saysB at h4 ⊢
      rw [hfl j j1, j3, h3.1, Int.toNat_natCast]
      exact h4
    · rw [if_neg (by simpa using hcl1)] at b2
      simp only [Bool.and_eq_true, List.any_eq_true, decide_eq_true_eq] at b2
      obtain ⟨h2, i, hi, ⟨⟨h3, h4⟩, h5⟩, h6⟩ := b2
      have hm : x.clause ∈ V := (hV _).2 ⟨x, hx, by unfold leanC; rw [if_neg (by omega), if_pos (by omega)]; simp⟩
      obtain ⟨j, j1, j2, j3⟩ := idxI_mem hm
      rw [j2, if_neg (by simp)]
      simp only [Bool.and_eq_true, List.any_eq_true, decide_eq_true_eq]
      refine ⟨by show idxI U x.fact = -1; rw [h2, idxI_not hnU], j, List.mem_range.2 j1, ⟨⟨j2, ?_⟩, ?_⟩, ?_⟩
      · rw [hcl j j1, j3, h3, Int.toNat_natCast]; exact h4
      · rw [hcl j j1, j3, h3, Int.toNat_natCast]; simp only [moved_finds]; exact h5
      · rw [hcl j j1, j3, h3, Int.toNat_natCast]; simp only [moved_finds]; exact h6
/-- an index of a list of terms that is right, as the reference says it -/
def termR (l : List Int) (below : Int) (i : Nat) : Bool := inB (l.getD i 0) 0 (below - 1) && (decide (i = 0) || decide (l.getD (i - 1) 0 < l.getD i 0))
theorem ascF_iff : ∀ {l : List Int} {last below : Int}, ascF last l below = true ↔ ∀ i, i < l.length → inB (l.getD i 0) ((if i = 0 then last else l.getD (i - 1) 0) + 1) (below - 1) = true
  | [], _, _ => by simp [ascF]
  | n :: l, last, below => by
    simp only [ascF, Bool.and_eq_true, ascF_iff (l := l)]
    constructor
    · rintro ⟨h1, h2⟩ i hi
      cases i with
      | zero => exact h1
      | succ i =>
        have := h2 i (by simpa using hi)
        cases i with
        | zero => simpa using this
        | succ i => simpa using this
    · intro h
      refine ⟨by simpa using h 0 (by simp), fun i hi => ?_⟩
      have := h (i + 1) (by simpa using hi)
      cases i with
      | zero => simpa using this
      | succ i => simpa using this
theorem terms_same (l : List Int) (below : Int) : ((List.range l.length).all (termR l below) && decide (l.length ≤ 4)) = termsB l below := by
  rw [Bool.eq_iff_iff]
  simp only [termsB, Bool.and_eq_true, List.all_eq_true, List.mem_range, decide_eq_true_eq, ascF_iff]
  constructor
  · rintro ⟨h1, h2⟩
    refine ⟨h2, fun i hi => ?_⟩
    have h3 := h1 i hi
    simp only [termR, inB, Bool.and_eq_true, Bool.or_eq_true, decide_eq_true_eq] at h3 ⊢
    by_cases e : i = 0
    · rw [if_pos e]; omega
    · rw [if_neg e]
      rcases h3.2 with h4 | h4
      · exact absurd h4 e
      · omega
  · rintro ⟨h1, h2⟩
    refine ⟨fun i => ?_, h1⟩
    induction i with
    | zero =>
      intro hi
      have := h2 0 hi
      simp only [termR, inB, Bool.and_eq_true, Bool.or_eq_true, decide_eq_true_eq, if_true] at this ⊢
      exact ⟨by omega, .inl trivial⟩
    | succ i ih =>
      intro hi
      have h3 := ih (by omega)
      have h4 := h2 (i + 1) hi
      simp only [termR, inB, Bool.and_eq_true, Bool.or_eq_true, decide_eq_true_eq] at h3 h4 ⊢
      rw [if_neg (by omega), Nat.add_sub_cancel] at h4
      rw [Nat.add_sub_cancel]
      exact ⟨by omega, .inr (by omega)⟩
def spellR (f t : Int) : Bool := decide (0 ≤ f) && decide (f < t) && decide (t ≤ 800000)
theorem spell_same (f t : Int) : spellR f t = spellB f t := by
  rw [Bool.eq_iff_iff]
  simp only [spellR, spellB, dayB, inB, Bool.and_eq_true, decide_eq_true_eq]
  omega
def hasR (f t d : Int) : Bool := decide (f ≤ d) && decide (d < t)
theorem has_same (f t d : Int) : hasR f t d = hasD f t d := by
  rw [Bool.eq_iff_iff]
  simp only [hasR, hasD, inB, Bool.and_eq_true, decide_eq_true_eq]
  omega
/-- what is so, as the reference finds it: number by number -/
def soR (c : CodeD) (q : QueryD) : Nat → List Bool
  | 0 => []
  | k + 1 => soR c q k ++ [(List.range c.facts.length).any (fun i => statesB (c.facts.getD i fact0) q && saysB c k i) ||
      (List.range c.clauses.length).any fun i => rulesB c i q && firesB c (fun m => (soR c q k).getD m.toNat false) k i]
theorem soR_len (c : CodeD) (q : QueryD) : ∀ k, (soR c q k).length = k
  | 0 => rfl
  | k + 1 => by simp [soR, soR_len c q k]
theorem any_filter {p f : Nat → Bool} : ∀ {l : List Nat}, (l.filter p).any f = l.any fun i => p i && f i
  | [] => rfl
  | x :: l => by
    rw [List.filter_cons, List.any_cons, ← any_filter (l := l)]
    cases h : p x <;> simp
theorem findT_holds (c : CodeD) (F C : List Nat) (so : Int → Bool) (n : Int) : (findT c F C so n).holds = (F.any (saysB c n) || C.any (firesB c so n)) := by
  unfold findT
  cases h1 : F.find? (saysB c n) with
  | some i => 
    have : F.any (saysB c n) = true := List.any_eq_true.2 ⟨i, List.mem_of_find?_eq_some h1, List.find?_some h1⟩
    simp [this]
  | none =>
    have e1 : F.any (saysB c n) = false := List.any_eq_false.2 (List.find?_eq_none.1 h1)
    rw [e1, Bool.false_or]
    cases h2 : C.find? (firesB c so n) with
    | some i =>
      have : C.any (firesB c so n) = true := List.any_eq_true.2 ⟨i, List.mem_of_find?_eq_some h2, List.find?_some h2⟩
      simp [this]
    | none =>
      have e2 : C.any (firesB c so n) = false := List.any_eq_false.2 (List.find?_eq_none.1 h2)
      simp [e2]
theorem soR_get {c : CodeD} {q : QueryD} (hV : validC c = true) : ∀ {k n : Nat}, n < k → (soR c q k).getD n false = soN c (factsF c q) (clausesF c q) n
  | 0, n, h => by omega
  | k + 1, n, h => by
    simp only [soR]
    by_cases e : n < k
    · rw [getD_app_left _ _ _ _ (by rw [soR_len]; exact e)]
      exact soR_get hV e
    · obtain rfl : n = k := by omega
      rw [getD_app_right _ _ _ _ (by rw [soR_len]; exact Nat.le_refl _), soR_len, Nat.sub_self]
      have hso : soN c (factsF c q) (clausesF c q) n = (findT c (factsF c q) (clausesF c q) (soN c (factsF c q) (clausesF c q)) n).holds := by
        unfold soN; rw [Int.toNat_natCast, findN_eq hV (clauses_lt c q) n]; rfl
      rw [hso, findT_holds]
      unfold factsF clausesF
      rw [any_filter, any_filter]
      show (_ || _) = (_ || _)
      congr 1
      refine any_congr fun i hi => ?_
      rw [List.mem_range] at hi
      congr 1
      unfold firesB
      obtain ⟨-, t1, t2⟩ := valid_terms hV hi
      by_cases hg : (c.clauses.getD i clause0).gives = (n : Int)
      · have key : ∀ m : Int, 0 ≤ m → m < n → (soR c q n).getD m.toNat false = soN c (factsF c q) (clausesF c q) m := fun m h0 hm => by
          have := soR_get (q := q) hV (k := n) (n := m.toNat) (by omega)
          rwa [show ((m.toNat : Nat) : Int) = m by omega] at this
        rw [all_congr (f := fun m : Int => (soR c q n).getD m.toNat false) (g := soN c (factsF c q) (clausesF c q)) (fun m hm => by have := t1 m hm; exact key m (by omega) (by omega)),
          all_congr (f := fun m : Int => !(soR c q n).getD m.toNat false) (g := fun m => !soN c (factsF c q) (clausesF c q) m) (fun m hm => by have := t2 m hm; rw [key m (by omega) (by omega)])]
        rfl
      · rw [decide_eq_false hg]; simp
/-- a finding is right, as the reference says it -/
def rightR (c : CodeD) (q : QueryD) (x : FindD) (l : List FindD) : Bool :=
  if x.holds && decide (x.clause = -1) then inB x.fact 0 (c.facts.length - 1) && statesB (c.facts.getD x.fact.toNat fact0) q && saysB c x.says x.fact.toNat
  else if x.holds then decide (x.fact = -1) && inB x.clause 0 (c.clauses.length - 1) && rulesB c x.clause.toNat q && decide ((c.clauses.getD x.clause.toNat clause0).gives = x.says) &&
    ((c.clauses.getD x.clause.toNat clause0).needs.all fun n => findsB l n true) && (c.clauses.getD x.clause.toNat clause0).bars.all fun n => findsB l n false
  else decide (x.fact = -1) && decide (x.clause = -1) && ((List.range c.facts.length).all fun i => !(statesB (c.facts.getD i fact0) q && saysB c x.says i)) &&
    (List.range c.clauses.length).all fun i => !(decide ((c.clauses.getD i clause0).gives = x.says) && rulesB c i q) || barredB c l i
theorem right_same (c : CodeD) (q : QueryD) (x : FindD) (l : List FindD) : rightR c q x l = rightB c (factsF c q) (clausesF c q) x l := by
  unfold rightR rightB
  split
  · rw [Bool.eq_iff_iff]
    unfold factsF
    simp only [inB, Bool.and_eq_true, decide_eq_true_eq, List.any_eq_true, List.mem_filter, List.mem_range]
    constructor
    · rintro ⟨⟨h1, h2⟩, h3⟩
      exact ⟨x.fact.toNat, ⟨by omega, h2⟩, by omega, h3⟩
    · rintro ⟨i, ⟨h1, h2⟩, h3, h4⟩
      rw [h3, Int.toNat_natCast]
      exact ⟨⟨by omega, h2⟩, h4⟩
  · split
    · rw [Bool.eq_iff_iff]
      unfold clausesF
      simp only [inB, Bool.and_eq_true, decide_eq_true_eq, List.any_eq_true, List.mem_filter, List.mem_range, List.all_eq_true]
      constructor
      · rintro ⟨⟨⟨⟨⟨h1, h2⟩, h3⟩, h4⟩, h5⟩, h6⟩
        exact ⟨h1, x.clause.toNat, ⟨by omega, h3⟩, ⟨⟨by omega, h4⟩, h5⟩, h6⟩
      · rintro ⟨h1, i, ⟨h2, h3⟩, ⟨⟨h4, h5⟩, h6⟩, h7⟩
        rw [h4, Int.toNat_natCast]
        exact ⟨⟨⟨⟨⟨h1, by omega⟩, h3⟩, h5⟩, h6⟩, h7⟩
    · rw [Bool.eq_iff_iff]
      unfold factsF clausesF
      simp only [Bool.and_eq_true, decide_eq_true_eq, List.any_eq_false, List.mem_filter, List.mem_range, List.all_eq_true, Bool.not_eq_true', Bool.or_eq_true, Bool.and_eq_false_iff, decide_eq_false_iff_not, Bool.not_eq_true]
      constructor
      · rintro ⟨⟨h1, h2⟩, h3⟩
        refine ⟨⟨h1, fun i hi => ?_⟩, fun i hi => ?_⟩
        · rcases h2 i hi.1 with h4 | h4
          · rw [hi.2] at h4; cases h4
          · exact h4
        · rcases h3 i hi.1 with (h4 | h4) | h4
          · exact .inl h4
          · rw [hi.2] at h4; cases h4
          · exact .inr h4
      · rintro ⟨⟨h1, h2⟩, h3⟩
        refine ⟨⟨h1, fun i hi => ?_⟩, fun i hi => ?_⟩
        · cases h4 : statesB (c.facts.getD i fact0) q
          · exact .inl rfl
          · exact .inr (h2 i ⟨hi, h4⟩)
        · cases h4 : rulesB c i q
          · exact .inl (.inr rfl)
          · rcases h3 i ⟨hi, h4⟩ with h5 | h5
            · exact .inl (.inl h5)
            · exact .inr h5
/-- a list proves, as the reference says it -/
def checkR (c : CodeD) (q : QueryD) (h : Bool) (l : List FindD) : Bool :=
  validC c && asksB q && decide (0 < l.length) && decide (l.length ≤ 20) && ((List.range l.length).all fun i => inB (l.getD i find0).says 0 19 && (decide (i = 0) || decide ((l.getD (i - 1) find0).says < (l.getD i find0).says))) &&
    (l.all fun x => rightR c q x l) && decide ((l.getLast?.getD find0).says = q.says) && ((l.getLast?.getD find0).holds == h)
theorem asc_get {l : List FindD} : (∀ i, i < l.length → i = 0 ∨ (l.getD (i - 1) find0).says < (l.getD i find0).says) ↔ l.Pairwise fun x y => x.says < y.says := by
  rw [List.pairwise_iff_getElem]
  constructor
  · intro h i j hi hj hij
    have key : ∀ d : Nat, i + 1 + d < l.length → (l.getD i find0).says < (l.getD (i + 1 + d) find0).says := by
      intro d
      induction d with
      | zero =>
        intro h1
        rcases h (i + 1) h1 with h2 | h2
        · omega
        · simpa using h2
      | succ d ih =>
        intro h1
        have h3 := ih (by omega)
        rcases h (i + 1 + (d + 1)) h1 with h2 | h2
        · omega
        · rw [show i + 1 + (d + 1) - 1 = i + 1 + d by omega] at h2
          omega
    have := key (j - (i + 1)) (by omega)
    rw [show i + 1 + (j - (i + 1)) = j by omega, List.getD_eq_getElem?_getD, List.getD_eq_getElem?_getD, List.getElem?_eq_getElem hi, List.getElem?_eq_getElem hj] at this
    exact this
  · intro h i hi
    by_cases e : i = 0
    · exact .inl e
    · right
      have := h (i - 1) i (by omega) hi (by omega)
      rw [List.getD_eq_getElem?_getD, List.getD_eq_getElem?_getD, List.getElem?_eq_getElem hi, List.getElem?_eq_getElem (by omega)]
      exact this
theorem check_same (c : CodeD) (q : QueryD) (h : Bool) (l : List FindD) : checkR c q h l = checkB c q h l := by
  rw [Bool.eq_iff_iff]
  unfold checkR checkB
  simp only [Bool.and_eq_true, proves_iff, decide_eq_true_eq, List.all_eq_true, List.mem_range, inB, Bool.or_eq_true, beq_iff_eq, right_same]
  constructor
  · rintro ⟨⟨⟨⟨⟨⟨h1, h2⟩, -⟩, h3⟩, h4⟩, h5⟩, h6⟩
    refine ⟨h1, asc_get.1 fun i hi => (h3 i hi).2, fun x hx => ⟨?_, h4 x hx⟩, ?_⟩
    · obtain ⟨i, hi, rfl⟩ := List.getElem_of_mem hx
      have := (h3 i hi).1
      rwa [List.getD_eq_getElem?_getD, List.getElem?_eq_getElem hi] at this
    · cases hl : l.getLast? with
      | none => rw [List.getLast?_eq_none_iff] at hl; rw [hl] at h2; simp at h2
      | some z => rw [hl] at h5 h6; exact ⟨z, rfl, h5, h6⟩
  · rintro ⟨h1, h2, h3, z, h4, h5, h6⟩
    have hlen : l.length ≤ 20 := by
      have ha : AscI (l.map (·.says)) := List.pairwise_map.2 h2
      have := asc_len (m := 20) ha (fun i hi => by
        obtain ⟨x, hx, rfl⟩ := List.mem_map.1 hi
        have := (h3 x hx).1; omega)
      simpa using this
    refine ⟨⟨⟨⟨⟨⟨h1, ?_⟩, hlen⟩, fun i hi => ⟨?_, asc_get.2 h2 i hi⟩⟩, fun x hx => (h3 x hx).2⟩, by rw [h4]; exact h5⟩, by rw [h4]; exact h6⟩
    · cases l with
      | nil => simp at h4
      | cons a t => simp
    · exact (h3 _ (getD_mem l i hi)).1
theorem inB_iff {n lo hi : Int} : inB n lo hi = true ↔ lo ≤ n ∧ n ≤ hi := decide_eq_true_iff
/-- an arbitrary integer as an index below n -/
def pkF (c n : Int) : Int := (if c < 0 then -(c + 1) else c) % n
theorem pkF_bd {n : Int} (h : 0 < n) (c : Int) : 0 ≤ pkF c n ∧ pkF c n < n := ⟨Int.emod_nonneg _ (by omega), Int.emod_lt_of_pos _ h⟩
structure SixD where
  a : Int
  b : Int
  c : Int
  d : Int
  e : Int
  f : Int
def six0 : SixD := ⟨0, 0, 0, 0, 0, 0⟩
structure NumsD where
  clauses : List SixD
  repeals : List (Int × Int × Int)
  facts : List SixD
def bitB (c : Int) (n : Nat) : Bool := decide (pkF c 4096 / 2 ^ n % 2 = 1)
/-- the first k numbers that are bits, at most 3 -/
def bitsK (c : Int) : Nat → List Int
  | 0 => []
  | k + 1 => if (bitsK c k).length < 3 ∧ bitB c k = true then bitsK c k ++ [(k : Int)] else bitsK c k
theorem bitsK_len (c : Int) : ∀ k, (bitsK c k).length ≤ 3
  | 0 => by simp [bitsK]
  | k + 1 => by
    have := bitsK_len c k
    simp only [bitsK]
    split
    · rw [List.length_append, List.length_singleton]; omega
    · exact this
theorem bitsK_asc (c : Int) : ∀ k, AscI (bitsK c k) ∧ ∀ m ∈ bitsK c k, 0 ≤ m ∧ m < k
  | 0 => ⟨List.Pairwise.nil, fun m hm => by cases hm⟩
  | k + 1 => by
    obtain ⟨h1, h2⟩ := bitsK_asc c k
    simp only [bitsK]
    split
    · refine ⟨List.pairwise_append.2 ⟨h1, by simp, fun x hx y hy => ?_⟩, fun m hm => ?_⟩
      · rw [List.mem_singleton] at hy; subst hy; exact (h2 x hx).2
      · rcases List.mem_append.1 hm with h | h
        · have := h2 m h; omega
        · rw [List.mem_singleton] at h; omega
    · exact ⟨h1, fun m hm => by have := h2 m hm; omega⟩
theorem ascF_of : ∀ {l : List Int} {last below : Int}, AscI l → (∀ m ∈ l, last < m ∧ m < below) → ascF last l below = true
  | [], _, _, _, _ => rfl
  | x :: t, last, below, h, hb => by
    unfold AscI at h
    rw [List.pairwise_cons] at h
    have hx := hb x (by simp)
    simp only [ascF, inB, Bool.and_eq_true, decide_eq_true_eq]
    exact ⟨by omega, ascF_of h.2 fun m hm => ⟨h.1 m hm, (hb m (by simp [hm])).2⟩⟩
theorem bits_terms (c : Int) (k : Nat) : termsB (bitsK c k) k = true := by
  have h1 := bitsK_len c k
  obtain ⟨h2, h3⟩ := bitsK_asc c k
  simp only [termsB, Bool.and_eq_true, decide_eq_true_eq]
  exact ⟨by omega, ascF_of h2 fun m hm => by have := h3 m hm; omega⟩
def partL (f long : Int) : Int := pkF f 50 + 1 + pkF long 50
def madeClause (y : SixD) : ClauseD := ⟨pkF y.a 80, pkF y.b 50, partL y.b y.c, bitsK y.e (pkF y.d 8).toNat, bitsK y.f (pkF y.d 8).toNat, pkF y.d 8⟩
def madeRepeal (m : Nat) (y : Int × Int × Int) : RepealD := ⟨pkF y.1 m, pkF y.2.1 100, pkF y.2.2 100⟩
def madeFact (y : SixD) : FactD := ⟨pkF y.a 3, pkF y.b 6, pkF y.c 50, partL y.c y.d, pkF y.e 50, partL y.e y.f⟩
def madeC (x : NumsD) : CodeD :=
  ⟨(x.clauses.take 8).map madeClause, if (x.clauses.take 8).length = 0 then [] else (x.repeals.take 3).map (madeRepeal (x.clauses.take 8).length), (x.facts.take 8).map madeFact⟩
def askF (a b c d : Int) : QueryD := ⟨pkF a 3, pkF b 8, pkF c 100, pkF d 100⟩
theorem part_spell (f long : Int) : spellB (pkF f 50) (partL f long) = true := by
  have h1 := pkF_bd (n := 50) (by decide) f
  have h2 := pkF_bd (n := 50) (by decide) long
  simp only [spellB, dayB, partL, Bool.and_eq_true, inB_iff]
  omega
theorem madeClause_ok (y : SixD) : clauseB (madeClause y) = true := by
  have h1 := pkF_bd (n := 80) (by decide) y.a
  have h2 := pkF_bd (n := 8) (by decide) y.d
  have e : (((pkF y.d 8).toNat : Nat) : Int) = pkF y.d 8 := by omega
  have t1 := bits_terms y.e (pkF y.d 8).toNat
  have t2 := bits_terms y.f (pkF y.d 8).toNat
  rw [e] at t1 t2
  simp only [clauseB, madeClause, part_spell, t1, t2, Bool.and_true, Bool.and_eq_true]
  simp only [dayB, inB, decide_eq_true_eq]
  omega
theorem madeFact_ok (y : SixD) : factB (madeFact y) = true := by
  have h1 := pkF_bd (n := 3) (by decide) y.a
  have h2 := pkF_bd (n := 6) (by decide) y.b
  simp only [factB, madeFact, part_spell, Bool.and_true, Bool.and_eq_true, inB_iff]
  omega
theorem madeRepeal_ok {m : Nat} (hm : 0 < m) (y : Int × Int × Int) : repealB m (madeRepeal m y) = true := by
  have h1 := pkF_bd (n := (m : Int)) (by omega) y.1
  have h2 := pkF_bd (n := 100) (by decide) y.2.1
  have h3 := pkF_bd (n := 100) (by decide) y.2.2
  simp only [repealB, madeRepeal, dayB, Bool.and_eq_true, inB_iff]
  omega
theorem made_lens (x : NumsD) : (madeC x).clauses.length ≤ 8 ∧ (madeC x).repeals.length ≤ 3 ∧ (madeC x).facts.length ≤ 8 := by
  refine ⟨by simp [madeC]; omega, ?_, by simp [madeC]; omega⟩
  show (if _ then [] else _ : List RepealD).length ≤ 3
  split
  · simp
  · rw [List.length_map, List.length_take]; omega
/-- the laws that integers determine are valid -/
theorem madeC_valid (x : NumsD) : validC (madeC x) = true := by
  obtain ⟨h1, h2, h3⟩ := made_lens x
  simp only [validC, Bool.and_eq_true, decide_eq_true_eq, List.all_eq_true]
  refine ⟨⟨⟨⟨⟨by omega, by omega⟩, by omega⟩, fun y hy => ?_⟩, fun y hy => ?_⟩, fun y hy => ?_⟩
  · obtain ⟨z, -, rfl⟩ := List.mem_map.1 hy; exact madeClause_ok z
  · have e : (madeC x).clauses.length = (x.clauses.take 8).length := by simp [madeC]
    rw [e]
    have hy' : y ∈ (if (x.clauses.take 8).length = 0 then [] else (x.repeals.take 3).map (madeRepeal (x.clauses.take 8).length)) := hy
    split at hy'
    · cases hy'
    · obtain ⟨z, -, rfl⟩ := List.mem_map.1 hy'
      exact madeRepeal_ok (by omega) z
  · obtain ⟨z, -, rfl⟩ := List.mem_map.1 hy; exact madeFact_ok z
theorem askF_ok (a b c d : Int) : asksB (askF a b c d) = true := by
  have h1 := pkF_bd (n := 3) (by decide) a
  have h2 := pkF_bd (n := 8) (by decide) b
  have h3 := pkF_bd (n := 100) (by decide) c
  have h4 := pkF_bd (n := 100) (by decide) d
  simp only [asksB, askF, dayB, Bool.and_eq_true, inB_iff]
  omega
def pastClause (how n : Int) (q : QueryD) (y : ClauseD) : ClauseD :=
  if pkF how 2 = 0 then { y with pub := q.known + 1 + pkF n 50 } else if hasR y.sf y.st q.day then { y with sf := q.day + 1, st := q.day + 2 + pkF n 50 } else y
def pastRepeal (how n at_ : Int) (m : Nat) (q : QueryD) (y : RepealD) : RepealD :=
  if pkF how 2 = 0 then ⟨pkF at_ m, q.known + 1 + pkF n 50, y.from_⟩ else ⟨pkF at_ m, y.pub, q.day + 1 + pkF n 50⟩
def pastFact (how n : Int) (q : QueryD) (y : FactD) : FactD :=
  if pkF how 3 = 0 then { y with thing := 3 } else if pkF how 3 = 1 then { y with kf := q.known + 1, kt := q.known + 2 + pkF n 50 } else { y with sf := q.day + 1, st := q.day + 2 + pkF n 50 }
def pastC (how n at_ : Int) (q : QueryD) (c e : CodeD) : CodeD :=
  ⟨c.clauses ++ e.clauses.map (pastClause how n q), c.repeals ++ (if c.clauses.length = 0 then [] else e.repeals.map (pastRepeal how n at_ c.clauses.length q)), c.facts ++ e.facts.map (pastFact how n q)⟩
/-- queries that integers determine are small -/
theorem askF_bd (a b c d : Int) : (0 ≤ (askF a b c d).thing ∧ (askF a b c d).thing ≤ 2) ∧ (0 ≤ (askF a b c d).says ∧ (askF a b c d).says ≤ 7) ∧ (0 ≤ (askF a b c d).day ∧ (askF a b c d).day ≤ 99) ∧ 0 ≤ (askF a b c d).known ∧ (askF a b c d).known ≤ 99 := by
  have h1 := pkF_bd (n := 3) (by decide) a
  have h2 := pkF_bd (n := 8) (by decide) b
  have h3 := pkF_bd (n := 100) (by decide) c
  have h4 := pkF_bd (n := 100) (by decide) d
  unfold askF; dsimp only; omega
theorem hasD_iff {f t d : Int} : hasD f t d = true ↔ f ≤ d ∧ d ≤ t - 1 := inB_iff
theorem pastClause_not {how n : Int} {q : QueryD} {y : ClauseD} : rulesX (pastClause how n q y) q = false := by
  have h2 := pkF_bd (n := 50) (by decide) n
  rw [← Bool.not_eq_true]
  intro h
  unfold rulesX at h
  rw [Bool.and_eq_true, decide_eq_true_eq, hasD_iff] at h
  unfold pastClause at h
  split at h
  · dsimp only at h; omega
  · split at h
    · dsimp only at h; omega
    · rename_i h3
      rw [has_same, hasD_iff] at h3
      exact h3 h.2
theorem pastFact_not {how n : Int} {q : QueryD} {y : FactD} (hq : q.thing ≤ 2) : statesB (pastFact how n q y) q = false := by
  have h2 := pkF_bd (n := 50) (by decide) n
  rw [← Bool.not_eq_true]
  intro h
  unfold statesB at h
  rw [Bool.and_eq_true, Bool.and_eq_true, decide_eq_true_eq, hasD_iff, hasD_iff] at h
  unfold pastFact at h
  split at h
  · dsimp only at h; omega
  · split at h
    · dsimp only at h; omega
    · dsimp only at h; omega
theorem pastRepeal_not {how n at_ : Int} {m : Nat} {q : QueryD} {y : RepealD} : (decide ((pastRepeal how n at_ m q y).pub ≤ q.known) && decide ((pastRepeal how n at_ m q y).from_ ≤ q.day)) = false := by
  have h2 := pkF_bd (n := 50) (by decide) n
  rw [← Bool.not_eq_true]
  intro h
  rw [Bool.and_eq_true, decide_eq_true_eq, decide_eq_true_eq] at h
  unfold pastRepeal at h
  split at h
  · dsimp only at h; omega
  · dsimp only at h; omega
theorem pastC_valid {how n at_ : Int} {q : QueryD} {c e : CodeD} (hc : validC c = true) (he : validC e = true) (l1 : c.clauses.length ≤ 8 ∧ c.repeals.length ≤ 3 ∧ c.facts.length ≤ 8) (l2 : e.clauses.length ≤ 8 ∧ e.repeals.length ≤ 3 ∧ e.facts.length ≤ 8)
    (hq : (0 ≤ q.day ∧ q.day ≤ 99) ∧ 0 ≤ q.known ∧ q.known ≤ 99) : validC (pastC how n at_ q c e) = true := by
  have h2 := pkF_bd (n := 50) (by decide) n
  simp only [validC, Bool.and_eq_true, decide_eq_true_eq, List.all_eq_true] at hc he ⊢
  obtain ⟨⟨⟨-, a4⟩, a5⟩, a6⟩ := hc
  obtain ⟨⟨⟨-, b4⟩, b5⟩, b6⟩ := he
  have e1 : (pastC how n at_ q c e).clauses.length = c.clauses.length + e.clauses.length := by simp [pastC]
  refine ⟨⟨⟨⟨⟨by omega, ?_⟩, by simp [pastC]; omega⟩, fun x hx => ?_⟩, fun x hx => ?_⟩, fun x hx => ?_⟩
  · show (c.repeals ++ if _ then _ else _).length ≤ 10
    rw [List.length_append]
    split
    · simp; omega
    · rw [List.length_map]; omega
  · rcases List.mem_append.1 hx with h | h
    · exact a4 x h
    · obtain ⟨y, hy, rfl⟩ := List.mem_map.1 h
      have h3 := b4 y hy
      unfold pastClause
      split
      · simp only [clauseB, dayB, Bool.and_eq_true, inB_iff] at h3 ⊢
        exact ⟨⟨⟨⟨by omega, h3.1.1.1.2⟩, h3.1.1.2⟩, h3.1.2⟩, h3.2⟩
      · split
        · simp only [clauseB, spellB, dayB, Bool.and_eq_true, inB_iff] at h3 ⊢
          exact ⟨⟨⟨⟨h3.1.1.1.1, by omega⟩, h3.1.1.2⟩, h3.1.2⟩, h3.2⟩
        · exact h3
  · rw [e1]
    rcases List.mem_append.1 hx with h | h
    · have h3 := a5 x h
      simp only [repealB, dayB, Bool.and_eq_true, inB_iff] at h3 ⊢
      omega
    · split at h
      · cases h
      · rename_i h0
        obtain ⟨y, hy, rfl⟩ := List.mem_map.1 h
        have h3 := b5 y hy
        have h4 := pkF_bd (n := (c.clauses.length : Int)) (by omega) at_
        unfold pastRepeal
        split
        · simp only [repealB, dayB, Bool.and_eq_true, inB_iff] at h3 ⊢; omega
        · simp only [repealB, dayB, Bool.and_eq_true, inB_iff] at h3 ⊢; omega
  · rcases List.mem_append.1 hx with h | h
    · exact a6 x h
    · obtain ⟨y, hy, rfl⟩ := List.mem_map.1 h
      have h3 := b6 y hy
      unfold pastFact
      split
      · simp only [factB, spellB, dayB, Bool.and_eq_true, inB_iff] at h3 ⊢
        exact ⟨⟨⟨by omega, h3.1.1.2⟩, h3.1.2⟩, h3.2⟩
      · split
        · simp only [factB, spellB, dayB, Bool.and_eq_true, inB_iff] at h3 ⊢
          exact ⟨⟨h3.1.1, h3.1.2⟩, by omega⟩
        · simp only [factB, spellB, dayB, Bool.and_eq_true, inB_iff] at h3 ⊢
          exact ⟨⟨h3.1.1, by omega⟩, h3.2⟩
/-- what was not published, believed or in force changes nothing -/
theorem past_law (how n at_ : Int) (x y : NumsD) (a b c d : Int) : validC (pastC how n at_ (askF a b c d) (madeC x) (madeC y)) = true ∧
    answerB (pastC how n at_ (askF a b c d) (madeC x) (madeC y)) (askF a b c d) = answerB (madeC x) (askF a b c d) ∧ decideP (pastC how n at_ (askF a b c d) (madeC x) (madeC y)) (askF a b c d) = decideP (madeC x) (askF a b c d) ∧
    ∀ h l, checkB (pastC how n at_ (askF a b c d) (madeC x) (madeC y)) (askF a b c d) h l = checkB (madeC x) (askF a b c d) h l := by
  have hq := askF_bd a b c d
  have hv := pastC_valid (how := how) (n := n) (at_ := at_) (q := askF a b c d) (madeC_valid x) (madeC_valid y) (made_lens x) (made_lens y) ⟨hq.2.2.1, hq.2.2.2⟩
  refine ⟨hv, ?_⟩
  refine past_same (fun z hz => ?_) (fun z hz => ?_) (fun z hz => ?_) (madeC_valid x) hv
  · obtain ⟨u, -, rfl⟩ := List.mem_map.1 hz; exact pastClause_not
  · split at hz
    · cases hz
    · obtain ⟨u, -, rfl⟩ := List.mem_map.1 hz; exact pastRepeal_not
  · obtain ⟨u, -, rfl⟩ := List.mem_map.1 hz; exact pastFact_not hq.1.2
/-- a repeal from a later day on -/
def lateC (c : CodeD) (q : QueryD) (k : Nat) (r0 r1 : Int) : CodeD := ⟨c.clauses, c.repeals ++ [⟨k, pkF r0 100, q.day + 1 + pkF r1 50⟩], c.facts⟩
theorem late_law (x : NumsD) (a b c d r0 r1 : Int) (k : Nat) (hk : k < (madeC x).clauses.length) : validC (lateC (madeC x) (askF a b c d) k r0 r1) = true ∧ answerB (lateC (madeC x) (askF a b c d) k r0 r1) (askF a b c d) = answerB (madeC x) (askF a b c d) := by
  have hq := askF_bd a b c d
  have hl := made_lens x
  have h2 := pkF_bd (n := 50) (by decide) r1
  have h3 := pkF_bd (n := 100) (by decide) r0
  have hV := madeC_valid x
  have hv : validC (lateC (madeC x) (askF a b c d) k r0 r1) = true := by
    have hV' := hV
    simp only [validC, Bool.and_eq_true, decide_eq_true_eq, List.all_eq_true] at hV' ⊢
    obtain ⟨⟨⟨⟨⟨a1, a2⟩, a3⟩, a4⟩, a5⟩, a6⟩ := hV'
    refine ⟨⟨⟨⟨⟨a1, ?_⟩, a3⟩, a4⟩, fun y hy => ?_⟩, a6⟩
    · show ((madeC x).repeals ++ [_]).length ≤ 10
      rw [List.length_append, List.length_singleton]; omega
    · rcases List.mem_append.1 hy with h | h
      · exact a5 y h
      · rw [List.mem_singleton] at h
        subst h
        show repealB (madeC x).clauses.length _ = true
        simp only [repealB, dayB, Bool.and_eq_true, inB_iff]
        omega
  refine ⟨hv, ?_⟩
  have e : lateC (madeC x) (askF a b c d) k r0 r1 = ⟨(madeC x).clauses ++ [], (madeC x).repeals ++ [⟨k, pkF r0 100, (askF a b c d).day + 1 + pkF r1 50⟩], (madeC x).facts ++ []⟩ := by simp [lateC]
  rw [e] at hv ⊢
  refine (past_same (fun z hz => by cases hz) (fun z hz => ?_) (fun z hz => by cases hz) hV hv).1
  rw [List.mem_singleton] at hz
  subst hz
  rw [← Bool.not_eq_true]
  intro h
  rw [Bool.and_eq_true, decide_eq_true_eq, decide_eq_true_eq] at h
  dsimp only at h; omega
/-- a clause with a further need that is so, or a further exception that is not -/
def moreX (x : ClauseD) (is : Bool) (n : Int) : ClauseD := if is then { x with needs := insertedF x.needs n } else { x with bars := insertedF x.bars n }
theorem more_law (x : NumsD) (a b c d : Int) (k : Nat) (n : Int) (hk : k < (madeC x).clauses.length) (h0 : 0 ≤ n) (h1 : n < ((madeC x).clauses.getD k clause0).gives) :
    validC ⟨(madeC x).clauses.set k (moreX ((madeC x).clauses.getD k clause0) (answerB (madeC x) ⟨(askF a b c d).thing, n, (askF a b c d).day, (askF a b c d).known⟩) n), (madeC x).repeals, (madeC x).facts⟩ = true ∧
    answerB ⟨(madeC x).clauses.set k (moreX ((madeC x).clauses.getD k clause0) (answerB (madeC x) ⟨(askF a b c d).thing, n, (askF a b c d).day, (askF a b c d).known⟩) n), (madeC x).repeals, (madeC x).facts⟩ (askF a b c d) = answerB (madeC x) (askF a b c d) := by
  have hV := madeC_valid x
  have hso : answerB (madeC x) ⟨(askF a b c d).thing, n, (askF a b c d).day, (askF a b c d).known⟩ = soN (madeC x) (factsF (madeC x) (askF a b c d)) (clausesF (madeC x) (askF a b c d)) n := rfl
  rw [hso]
  generalize hb : soN (madeC x) (factsF (madeC x) (askF a b c d)) (clausesF (madeC x) (askF a b c d)) n = is
  have hx : (madeC x).clauses.getD k clause0 ∈ (madeC x).clauses := getD_mem _ _ hk
  have hlens : ((madeC x).clauses.getD k clause0).needs.length ≤ 3 ∧ ((madeC x).clauses.getD k clause0).bars.length ≤ 3 := by
    obtain ⟨z, -, hz⟩ := List.mem_map.1 hx
    rw [← hz]; exact ⟨bitsK_len _ _, bitsK_len _ _⟩
  have hv : validC ⟨(madeC x).clauses.set k (moreX ((madeC x).clauses.getD k clause0) is n), (madeC x).repeals, (madeC x).facts⟩ = true := by
    have hV' := hV
    simp only [validC, Bool.and_eq_true, decide_eq_true_eq, List.all_eq_true, List.length_set] at hV' ⊢
    obtain ⟨⟨⟨⟨⟨a1, a2⟩, a3⟩, a4⟩, a5⟩, a6⟩ := hV'
    refine ⟨⟨⟨⟨⟨a1, a2⟩, a3⟩, fun y hy => ?_⟩, a5⟩, a6⟩
    rcases List.mem_or_eq_of_mem_set hy with h | rfl
    · exact a4 y h
    · have h3 := a4 _ hx
      unfold moreX
      cases is
      · simp only [Bool.false_eq_true, if_false]
        simp only [clauseB, Bool.and_eq_true] at h3 ⊢
        exact ⟨h3.1, inserted_terms h3.2 hlens.2 h0 h1⟩
      · simp only [if_true]
        simp only [clauseB, Bool.and_eq_true] at h3 ⊢
        exact ⟨⟨h3.1.1, inserted_terms h3.1.2 hlens.1 h0 h1⟩, h3.2⟩
  refine ⟨hv, ?_⟩
  refine exceptions_same hk hV h0 h1 _ ?_ hv
  rw [hb]
  rfl
end Go.Proofs.YtdjldidfnddpmaaGreatDoor
