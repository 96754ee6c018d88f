/- Plain words and laws of chapter 15: orders as pairs, their closure, sets as bits; lines, reductions, levels, chains, matchings, covers, cycles; the orders that integers determine. No condition. -/
import Derived.Test.YtnidcoinfmcffaaDoorLists
namespace Go.Proofs.YtnidcoinfmcffaaDoor

structure OrderD where
 n : Int
 pairs : List (Int × Int)
abbrev RelO := Nat → Nat → Bool
def pairOkO (n : Int) (p : Int × Int) : Bool := decide (0 ≤ p.1 ∧ p.1 < n ∧ 0 ≤ p.2 ∧ p.2 < n ∧ p.1 ≠ p.2)
def formedO (o : OrderD) : Bool := decide (0 ≤ o.n ∧ o.n ≤ 8) && decide (o.pairs.length ≤ 28) && o.pairs.all (pairOkO o.n)
/-- the pairs as a relation -/
def relP (ps : List (Int × Int)) : RelO := fun a b => ps.any fun p => decide (p = ((a : Int), (b : Int)))
/-- the closure, by the first k things between -/
def relK (r : RelO) : Nat → RelO
 | 0 => r
 | k + 1 => fun a b => relK r k a b || (relK r k a k && relK r k k b)
def beforeO (o : OrderD) : RelO := relK (relP o.pairs) o.n.toNat
def acycO (n : Nat) (r : RelO) : Bool := (List.range n).all fun a => !r a a
def validO (o : OrderD) : Bool := formedO o && acycO o.n.toNat (beforeO o)

theorem relK_trans {r : RelO} : ∀ (k : Nat) {a b c : Nat}, c < k → relK r k a c = true → relK r k c b = true → relK r k a b = true
 | 0, _, _, _, h, _, _ => by omega
 | k + 1, a, b, c, h, h1, h2 => by
  simp only [relK, Bool.or_eq_true, Bool.and_eq_true] at h1 h2 ⊢
  by_cases e : c = k
  ·subst e
   have h1' : relK r c a c = true := h1.elim id And.left
   have h2' : relK r c c b = true := h2.elim id And.right
   exact .inr ⟨h1', h2'⟩
  ·have hc : c < k := by omega
   rcases h1 with h1 | ⟨h1, h3⟩ <;> rcases h2 with h2 | ⟨h2, h4⟩
   ·exact .inl (relK_trans k hc h1 h2)
   ·exact .inr ⟨relK_trans k hc h1 h2, h4⟩
   ·exact .inr ⟨h1, relK_trans k hc h3 h2⟩
   ·exact .inr ⟨h1, h4⟩
theorem relK_least {r s : RelO} (hs : ∀ a b, r a b = true → s a b = true) (ht : ∀ a b c, s a c = true → s c b = true → s a b = true) : ∀ (k : Nat) {a b : Nat}, relK r k a b = true → s a b = true
 | 0, _, _, h => hs _ _ h
 | k + 1, a, b, h => by
  simp only [relK, Bool.or_eq_true, Bool.and_eq_true] at h
  rcases h with h | ⟨h1, h2⟩
  ·exact relK_least hs ht k h
  ·exact ht _ _ _ (relK_least hs ht k h1) (relK_least hs ht k h2)
theorem relK_dom {r : RelO} {n : Nat} (hd : ∀ a b, r a b = true → a < n ∧ b < n) : ∀ (k : Nat) {a b : Nat}, relK r k a b = true → a < n ∧ b < n
 | 0, _, _, h => hd _ _ h
 | k + 1, a, b, h => by
  simp only [relK, Bool.or_eq_true, Bool.and_eq_true] at h
  rcases h with h | ⟨h1, h2⟩
  ·exact relK_dom hd k h
  ·exact ⟨(relK_dom hd k h1).1, (relK_dom hd k h2).2⟩
theorem relP_iff {ps : List (Int × Int)} {a b : Nat} : relP ps a b = true ↔ ((a : Int), (b : Int)) ∈ ps := by
 unfold relP
 rw [List.any_eq_true]
 constructor
 ·rintro ⟨p, hp, h⟩
  rw [decide_eq_true_eq] at h
  exact h ▸ hp
 ·exact fun h => ⟨_, h, decide_eq_true rfl⟩
theorem formed_n {o : OrderD} (h : formedO o = true) : (0 ≤ o.n ∧ o.n ≤ 8) ∧ o.pairs.length ≤ 28 ∧ ∀ p ∈ o.pairs, 0 ≤ p.1 ∧ p.1 < o.n ∧ 0 ≤ p.2 ∧ p.2 < o.n ∧ p.1 ≠ p.2 := by
 simp only [formedO, Bool.and_eq_true, decide_eq_true_eq, List.all_eq_true] at h
 exact ⟨h.1.1, h.1.2, fun p hp => of_decide_eq_true (h.2 p hp)⟩
theorem relP_dom {o : OrderD} (h : formedO o = true) (a b : Nat) (hr : relP o.pairs a b = true) : a < o.n.toNat ∧ b < o.n.toNat := by
 have := (formed_n h).2.2 _ (relP_iff.1 hr)
 simp only at this
 omega
/-- a strict order of the first n things -/
structure PoO (n : Nat) (R : RelO) : Prop where
 dom : ∀ a b, R a b = true → a < n ∧ b < n
 irr : ∀ a, R a a = false
 tr : ∀ a b c, R a b = true → R b c = true → R a c = true
theorem before_dom {o : OrderD} (h : formedO o = true) {a b : Nat} (hr : beforeO o a b = true) : a < o.n.toNat ∧ b < o.n.toNat := relK_dom (relP_dom h) _ hr
theorem before_tr {o : OrderD} (h : formedO o = true) {a b c : Nat} (h1 : beforeO o a b = true) (h2 : beforeO o b c = true) : beforeO o a c = true :=
 relK_trans _ (before_dom h h1).2 h1 h2
theorem before_po {o : OrderD} (h : validO o = true) : PoO o.n.toNat (beforeO o) := by
 unfold validO at h
 rw [Bool.and_eq_true] at h
 refine ⟨fun a b => before_dom h.1, fun a => ?_, fun a b c => before_tr h.1⟩
 cases e : beforeO o a a with
 | false => rfl
 | true =>
  have ha := (before_dom h.1 e).1
  have := List.all_eq_true.1 h.2 a (List.mem_range.2 ha)
  rw [e] at this; cases this
/-- the closure is the least transitive relation with the pairs -/
theorem before_least {o : OrderD} {s : RelO} (hs : ∀ a b, relP o.pairs a b = true → s a b = true) (ht : ∀ a b c, s a c = true → s c b = true → s a b = true) {a b : Nat} (h : beforeO o a b = true) : s a b = true :=
 relK_least hs ht _ h
/-- an order with a strict order above its pairs is valid -/
theorem valid_of {o : OrderD} (h : formedO o = true) {s : RelO} (hs : ∀ a b, relP o.pairs a b = true → s a b = true) (ht : ∀ a b c, s a c = true → s c b = true → s a b = true) (hi : ∀ a, s a a = false) : validO o = true := by
 unfold validO acycO
 rw [h, Bool.true_and, List.all_eq_true]
 intro a _
 cases e : beforeO o a a with
 | false => rfl
 | true => have := before_least hs ht e; rw [hi] at this; cases this

/-- a set of the first 8 things as bits -/
def bitsO (p : Nat → Bool) : Nat := (List.range 8).foldl (fun s a => if p a then s ||| 2 ^ a else s) 0
theorem bits_fold (p : Nat → Bool) : ∀ (l : List Nat) (s a : Nat), (l.foldl (fun s a => if p a then s ||| 2 ^ a else s) s).testBit a = (s.testBit a || (decide (a ∈ l) && p a))
 | [], s, a => by simp
 | x :: l, s, a => by
  rw [List.foldl_cons, bits_fold p l]
  by_cases hx : p x = true
  ·rw [if_pos hx, Nat.testBit_or, Nat.testBit_two_pow]
   by_cases e : x = a
   ·subst e; simp [hx]
   ·have e' : ¬ a = x := fun h => e h.symm
    simp [e, e']
  ·rw [if_neg hx]
   by_cases e : a = x
   ·subst e; simp [hx]
   ·simp [e]
theorem bits_test (p : Nat → Bool) (a : Nat) : (bitsO p).testBit a = (decide (a < 8) && p a) := by
 unfold bitsO
 rw [bits_fold, Nat.zero_testBit, Bool.false_or]
 simp only [List.mem_range]
theorem bits_lt (p : Nat → Bool) : bitsO p < 256 := by
 have : bitsO p < 2 ^ 8 := Nat.lt_pow_two_of_testBit _ fun i hi => by
  rw [bits_test, decide_eq_false (by omega)]; rfl
 exact this
theorem bits_eq {p : Nat → Bool} {x : Nat} (h : ∀ a, x.testBit a = (decide (a < 8) && p a)) : x = bitsO p := Nat.eq_of_testBit_eq fun a => by rw [h, bits_test]
theorem bits_congr {p q : Nat → Bool} (h : ∀ a, a < 8 → p a = q a) : bitsO p = bitsO q := Nat.eq_of_testBit_eq fun a => by
 rw [bits_test, bits_test]
 by_cases ha : a < 8
 ·rw [h a ha]
 ·rw [decide_eq_false ha]; rfl
theorem bits_one (p : Nat → Bool) {k : Nat} (hk : k < 8) : bitsO p ||| 2 ^ k = bitsO (fun a => p a || decide (a = k)) := bits_eq fun a => by
 rw [Nat.testBit_or, bits_test, Nat.testBit_two_pow]
 by_cases e : a = k
 ·subst e; simp [hk]
 ·have e' : ¬ k = a := fun h => e h.symm
  simp [e, e']
theorem bits_or (p q : Nat → Bool) : bitsO p ||| bitsO q = bitsO (fun a => p a || q a) := bits_eq fun a => by
 rw [Nat.testBit_or, bits_test, bits_test, Bool.and_or_distrib_left]
end Go.Proofs.YtnidcoinfmcffaaDoor
namespace Go.Proofs.YtnidcoinfmcffaaDoor

theorem filter_le' {α : Type} {p q : α → Bool} : ∀ {l : List α}, (∀ x ∈ l, p x = true → q x = true) → (l.filter p).length ≤ (l.filter q).length
 | [], _ => by simp
 | y :: l, h => by
  have ih := filter_le' (l := l) fun x hx => h x (by simp [hx])
  have hy := h y (by simp)
  cases hp : p y
  ·rw [List.filter_cons_of_neg (by rw [hp]; simp)]
   cases hq : q y
   ·rw [List.filter_cons_of_neg (by rw [hq]; simp)]; exact ih
   ·rw [List.filter_cons_of_pos hq, List.length_cons]; omega
  ·rw [List.filter_cons_of_pos hp, List.filter_cons_of_pos (hy hp), List.length_cons, List.length_cons]; omega
theorem filterO_lt {α : Type} {p q : α → Bool} : ∀ {l : List α}, (∀ x ∈ l, p x = true → q x = true) → ∀ {x : α}, x ∈ l → q x = true → p x = false → (l.filter p).length < (l.filter q).length
 | [], _, x, hx, _, _ => by cases hx
 | y :: l, h, x, hx, hq, hp => by
  have le := filter_le' (l := l) fun x hx => h x (by simp [hx])
  have hy := h y (by simp)
  rcases List.mem_cons.1 hx with rfl | hx'
  ·rw [List.filter_cons_of_neg (by rw [hp]; simp), List.filter_cons_of_pos hq, List.length_cons]; omega
  ·have ih := filterO_lt (l := l) (fun x hx => h x (by simp [hx])) hx' hq hp
   cases hpy : p y
   ·rw [List.filter_cons_of_neg (by rw [hpy]; simp)]
    cases hqy : q y
    ·rw [List.filter_cons_of_neg (by rw [hqy]; simp)]; exact ih
    ·rw [List.filter_cons_of_pos hqy, List.length_cons]; omega
   ·rw [List.filter_cons_of_pos hpy, List.filter_cons_of_pos (hy hpy), List.length_cons, List.length_cons]; omega
/-- a least thing below another one -/
theorem min_thing {n : Nat} {R : RelO} (h : PoO n R) {P : Nat → Bool} : ∀ (m x : Nat), ((List.range n).filter fun z => P z && R z x).length ≤ m → P x = true → ∃ y, P y = true ∧ (y = x ∨ R y x = true) ∧ ∀ z, P z = true → R z y = false
 | m, x, hm, hx => by
  by_cases e : ∃ z, P z = true ∧ R z x = true
  ·obtain ⟨z, hz, hzx⟩ := e
   have hlt : ((List.range n).filter fun t => P t && R t z).length < ((List.range n).filter fun t => P t && R t x).length :=
    filterO_lt (x := z) (fun t _ ht => by
     rw [Bool.and_eq_true] at ht ⊢
     exact ⟨ht.1, h.tr _ _ _ ht.2 hzx⟩) (List.mem_range.2 (h.dom _ _ hzx).1) (by rw [hz, hzx]; rfl) (by rw [h.irr]; simp)
   match m, hm with
   | 0, hm => omega
   | m + 1, hm =>
    obtain ⟨y, h1, h2, h3⟩ := min_thing h m z (by omega) hz
    refine ⟨y, h1, .inr ?_, h3⟩
    rcases h2 with rfl | h2
    ·exact hzx
    ·exact h.tr _ _ _ h2 hzx
  ·refine ⟨x, hx, .inl rfl, fun z hz => ?_⟩
   cases hzx : R z x with
   | false => rfl
   | true => exact absurd ⟨z, hz, hzx⟩ e
theorem min_any {n : Nat} {R : RelO} (h : PoO n R) {P : Nat → Bool} {x : Nat} (hx : P x = true) : ∃ y, P y = true ∧ (y = x ∨ R y x = true) ∧ ∀ z, P z = true → R z y = false := min_thing h _ x (Nat.le_refl _) hx
theorem PoO.flip {n : Nat} {R : RelO} (h : PoO n R) : PoO n fun a b => R b a := ⟨fun _ _ h1 => (h.dom _ _ h1).symm, h.irr, fun _ _ _ h1 h2 => h.tr _ _ _ h2 h1⟩
theorem range_le : ∀ (n : Nat) {l : List Nat}, (∀ x, x < n → x ∈ l) → n ≤ l.length
 | 0, _, _ => Nat.zero_le _
 | n + 1, l, h => by
  have h1 := h n (Nat.lt_succ_self _)
  have ih := range_le n (l := l.erase n) fun x hx => (List.mem_erase_of_ne (by omega)).2 (h x (by omega))
  rw [List.length_erase_of_mem h1] at ih
  have := List.length_pos_of_mem h1
  omega
theorem nodup_le : ∀ (n : Nat) {l : List Nat}, l.Nodup → (∀ x ∈ l, x < n) → l.length ≤ n
 | 0, l, _, h => by
  cases l with
  | nil => simp
  | cons x t => have := h x (by simp); omega
 | n + 1, l, hn, h => by
  have ih := nodup_le n (l := l.erase n) (hn.erase _) fun x hx => by
   obtain ⟨h1, h2⟩ := (List.Nodup.mem_erase_iff hn).1 hx
   have := h x h2; omega
  by_cases e : n ∈ l
  ·rw [List.length_erase_of_mem e] at ih; omega
  ·rw [List.erase_of_not_mem e] at ih; omega
/-- different things, as many as there are: all of them -/
theorem nodup_all {n : Nat} {l : List Nat} (hn : l.Nodup) (h : ∀ x ∈ l, x < n) (hl : l.length = n) : ∀ x, x < n → x ∈ l := fun x hx => by
 refine Decidable.byContradiction fun hm => ?_
 have h1 : (x :: l).Nodup := List.nodup_cons.2 ⟨hm, hn⟩
 have := nodup_le n h1 fun y hy => by
  rcases List.mem_cons.1 hy with rfl | hy
  ·exact hx
  ·exact h y hy
 rw [List.length_cons] at this; omega
/-- a line of an order -/
structure LineO (n : Nat) (R : RelO) (l : List Nat) : Prop where
 nod : l.Nodup
 mem : ∀ x, x ∈ l ↔ x < n
 asc : l.Pairwise fun a b => R b a = false
theorem LineO.len {n : Nat} {R : RelO} {l : List Nat} (h : LineO n R l) : l.length = n :=
 Nat.le_antisymm (nodup_le n h.nod fun x hx => (h.mem x).1 hx) (range_le n fun x hx => (h.mem x).2 hx)
/-- a thing that is not in a list, and before which nothing comes that is not -/
def freeO (n : Nat) (R : RelO) (out : List Nat) (x : Nat) : Bool := !out.contains x && (List.range n).all fun a => !R a x || out.contains a
def lineK (n : Nat) (R : RelO) : Nat → List Nat
 | 0 => []
 | k + 1 => lineK n R k ++ ((List.range n).find? (freeO n R (lineK n R k))).toList
def lineO (n : Nat) (R : RelO) : List Nat := lineK n R n
theorem free_iff {n : Nat} {R : RelO} {out : List Nat} {x : Nat} (h : PoO n R) : freeO n R out x = true ↔ x ∉ out ∧ ∀ a, R a x = true → a ∈ out := by
 unfold freeO
 rw [Bool.and_eq_true, Bool.not_eq_true', List.all_eq_true]
 simp only [List.contains_eq_mem, decide_eq_false_iff_not, Bool.or_eq_true, Bool.not_eq_true', decide_eq_true_eq, List.mem_range]
 refine and_congr Iff.rfl ⟨fun h1 a ha => ?_, fun h1 a _ => ?_⟩
 ·rcases h1 a (h.dom _ _ ha).1 with h2 | h2
  ·rw [ha] at h2; cases h2
  ·exact h2
 ·cases e : R a x with
  | false => exact .inl rfl
  | true => exact .inr (h1 a e)
/-- the first things of a line: different, each behind what comes before it -/
structure StartO (n : Nat) (R : RelO) (l : List Nat) : Prop where
 nod : l.Nodup
 lt : ∀ x ∈ l, x < n
 asc : l.Pairwise fun a b => R b a = false
 down : ∀ x ∈ l, ∀ a, R a x = true → a ∈ l
theorem StartO.nil (n : Nat) (R : RelO) : StartO n R [] := ⟨List.nodup_nil, fun _ h => by (cases h), List.Pairwise.nil, fun _ h => by (cases h)⟩
theorem StartO.add {n : Nat} {R : RelO} {l : List Nat} {x : Nat} (h : PoO n R) (hs : StartO n R l) (hx : x < n) (hf : freeO n R l x = true) : StartO n R (l ++ [x]) := by
 obtain ⟨h1, h2⟩ := (free_iff h).1 hf
 refine ⟨?_, fun y hy => ?_, ?_, fun y hy a ha => ?_⟩
 ·rw [List.nodup_append]
  exact ⟨hs.nod, by simp, fun a ha b hb => by simp at hb; subst hb; exact fun e => h1 (e ▸ ha)⟩
 ·rcases List.mem_append.1 hy with hy | hy
  ·exact hs.lt y hy
  ·rw [List.mem_singleton.1 hy]; exact hx
 ·rw [List.pairwise_append]
  refine ⟨hs.asc, List.pairwise_singleton _ _, fun a ha b hb => ?_⟩
  rw [List.mem_singleton.1 hb]
  cases e : R x a with
  | false => rfl
  | true => exact absurd (hs.down a ha x e) h1
 ·rcases List.mem_append.1 hy with hy | hy
  ·exact List.mem_append_left _ (hs.down y hy a ha)
  ·rw [List.mem_singleton.1 hy] at ha
   exact List.mem_append_left _ (h2 a ha)
theorem StartO.free {n : Nat} {R : RelO} {l : List Nat} (h : PoO n R) (_hs : StartO n R l) (hl : l.length < n) : ∃ x, x < n ∧ freeO n R l x = true := by
 have hx : ∃ x, x < n ∧ x ∉ l := by
  refine Decidable.byContradiction fun hn => ?_
  have := range_le n (l := l) fun x hx => Decidable.byContradiction fun hm => hn ⟨x, hx, hm⟩
  omega
 obtain ⟨x, hx, hm⟩ := hx
 obtain ⟨y, h1, -, h3⟩ := min_any h (P := fun z => decide (z < n) && !l.contains z) (x := x) (by simp [hx, hm])
 simp only [Bool.and_eq_true, decide_eq_true_eq, Bool.not_eq_true', List.contains_eq_mem, decide_eq_false_iff_not] at h1 h3
 refine ⟨y, h1.1, (free_iff h).2 ⟨h1.2, fun a ha => Decidable.byContradiction fun hna => ?_⟩⟩
 have := h3 a ⟨(h.dom _ _ ha).1, hna⟩
 rw [ha] at this; cases this
theorem lineK_start {n : Nat} {R : RelO} (h : PoO n R) : ∀ k, k ≤ n → StartO n R (lineK n R k) ∧ (lineK n R k).length = k
 | 0, _ => ⟨StartO.nil n R, rfl⟩
 | k + 1, hk => by
  obtain ⟨h1, h2⟩ := lineK_start h k (by omega)
  obtain ⟨x, hx, hf⟩ := h1.free h (by omega)
  cases e : (List.range n).find? (freeO n R (lineK n R k)) with
  | none => exact absurd hf (by rw [List.find?_eq_none] at e; exact e x (List.mem_range.2 hx))
  | some y =>
   have hy := List.find?_some e
   have hm := List.mem_range.1 (List.mem_of_find?_eq_some e)
   simp only [lineK, e, Option.toList]
   exact ⟨h1.add h hm hy, by simp [h2]⟩
theorem StartO.line {n : Nat} {R : RelO} {l : List Nat} (hs : StartO n R l) (hl : l.length = n) : LineO n R l :=
 ⟨hs.nod, fun x => ⟨hs.lt x, nodup_all hs.nod hs.lt hl x⟩, hs.asc⟩
theorem line_is {n : Nat} {R : RelO} (h : PoO n R) : LineO n R (lineO n R) := by
 obtain ⟨h1, h2⟩ := lineK_start h n (Nat.le_refl _)
 exact h1.line h2
/-- the line test: each thing is new, and all before it has been -/
def scanO (n : Nat) (R : RelO) : List Nat → List Int → Bool
 | _, [] => true
 | out, x :: t => decide (0 ≤ x ∧ x < n) && freeO n R out x.toNat && scanO n R (out ++ [x.toNat]) t
def isLineB (n : Nat) (R : RelO) (l : List Int) : Bool := decide (l.length = n) && scanO n R [] l
def natsO (l : List Nat) : List Int := l.map fun (i : Nat) => (i : Int)
theorem scan_iff {n : Nat} {R : RelO} (h : PoO n R) : ∀ {l : List Int} {out : List Nat}, StartO n R out → (scanO n R out l = true ↔ ∃ t, l = natsO t ∧ StartO n R (out ++ t))
 | [], out, hs => by
  refine ⟨fun _ => ⟨[], rfl, by simpa using hs⟩, fun _ => rfl⟩
 | x :: l, out, hs => by
  simp only [scanO, Bool.and_eq_true, decide_eq_true_eq]
  constructor
  ·rintro ⟨⟨h1, h2⟩, h3⟩
   have hs' := hs.add h (by omega) h2
   obtain ⟨t, rfl, h4⟩ := (scan_iff h hs').1 h3
   refine ⟨x.toNat :: t, ?_, by simpa using h4⟩
   show x :: natsO t = ((x.toNat : Nat) : Int) :: natsO t
   rw [show ((x.toNat : Nat) : Int) = x by omega]
  ·rintro ⟨t, e, h4⟩
   cases t with
   | nil => cases e
   | cons y t =>
    have e1 : x = (y : Int) := (List.cons.inj e).1
    have e2 : l = natsO t := (List.cons.inj e).2
    subst e1 e2
    have hy : y ∈ out ++ y :: t := by simp
    have hlt := h4.lt y hy
    have hnd := h4.nod
    rw [List.nodup_append] at hnd
    have hpw := h4.asc
    rw [List.pairwise_append] at hpw
    have hf : freeO n R out y = true := (free_iff h).2 ⟨fun hm => hnd.2.2 y hm y (by simp) rfl, fun a ha => by
     have hm := h4.down y hy a ha
     rcases List.mem_append.1 hm with hm | hm
     ·exact hm
     ·rcases List.mem_cons.1 hm with rfl | hm
      ·rw [h.irr] at ha; cases ha
      ·have := (List.pairwise_cons.1 hpw.2.1).1 a hm
       rw [ha] at this; cases this⟩
    simp only [Int.toNat_natCast]
    refine ⟨⟨⟨by omega, by omega⟩, hf⟩, (scan_iff h (hs.add h hlt hf)).2 ⟨t, rfl, by simpa using h4⟩⟩
theorem LineO.start {n : Nat} {R : RelO} {l : List Nat} (h : PoO n R) (hl : LineO n R l) : StartO n R l :=
 ⟨hl.nod, fun x hx => (hl.mem x).1 hx, hl.asc, fun _ _ a ha => (hl.mem a).2 (h.dom _ _ ha).1⟩
theorem isLine_iff {n : Nat} {R : RelO} (h : PoO n R) {l : List Int} : isLineB n R l = true ↔ ∃ t, l = natsO t ∧ LineO n R t := by
 unfold isLineB
 rw [Bool.and_eq_true, decide_eq_true_eq, scan_iff h (StartO.nil n R)]
 constructor
 ·rintro ⟨h1, t, rfl, h2⟩
  exact ⟨t, rfl, StartO.line (by simpa using h2) (by simpa [natsO] using h1)⟩
 ·rintro ⟨t, rfl, h2⟩
  exact ⟨by simpa [natsO] using h2.len, t, rfl, by simpa using h2.start h⟩
/-- a prefix: what comes before its things belongs to it -/
def prefO (n : Nat) (R : RelO) (s : Nat → Bool) : Bool := (List.range n).all fun x => !s x || (List.range n).all fun a => !R a x || s a
def prefixesO (n : Nat) (R : RelO) : List Nat := (List.range (2 ^ n)).filter fun S => prefO n R S.testBit
theorem pref_iff {n : Nat} {R : RelO} (h : PoO n R) {s : Nat → Bool} : prefO n R s = true ↔ ∀ a x, R a x = true → s x = true → s a = true := by
 unfold prefO
 simp only [List.all_eq_true, List.mem_range, Bool.or_eq_true, Bool.not_eq_true']
 constructor
 ·intro h1 a x ha hx
  rcases h1 x (h.dom _ _ ha).2 with h2 | h2
  ·rw [hx] at h2; cases h2
  ·rcases h2 a (h.dom _ _ ha).1 with h3 | h3
   ·rw [ha] at h3; cases h3
   ·exact h3
 ·intro h1 x _
  cases hx : s x with
  | false => exact .inl rfl
  | true =>
   refine .inr fun a _ => ?_
   cases ha : R a x with
   | false => exact .inl rfl
   | true => exact .inr (h1 a x ha hx)
end Go.Proofs.YtnidcoinfmcffaaDoor
namespace Go.Proofs.YtnidcoinfmcffaaDoor

/-- the pairs of a relation, in order -/
def listO (n : Nat) (R : RelO) : List (Int × Int) := (List.range n).flatMap fun a => ((List.range n).filter (R a)).map fun (b : Nat) => ((a : Int), (b : Int))
theorem nodup_flatMap' {α β : Type} {f : α → List β} : ∀ {l : List α}, l.Nodup → (∀ a ∈ l, (f a).Nodup) → (∀ a ∈ l, ∀ b ∈ l, ∀ x, x ∈ f a → x ∈ f b → a = b) → (l.flatMap f).Nodup
 | [], _, _, _ => by simp
 | a :: l, h, h1, h2 => by
  rw [List.flatMap_cons, List.nodup_append]
  rw [List.nodup_cons] at h
  refine ⟨h1 a (by simp), nodup_flatMap' h.2 (fun b hb => h1 b (by simp [hb])) (fun b hb c hc => h2 b (by simp [hb]) c (by simp [hc])), fun x hx y hy => ?_⟩
  rintro rfl
  obtain ⟨b, hb, hxb⟩ := List.mem_flatMap.1 hy
  have := h2 a (by simp) b (by simp [hb]) x hx hxb
  subst this
  exact h.1 hb
theorem nodup_map' {α β : Type} {f : α → β} (hf : ∀ a b, f a = f b → a = b) : ∀ {l : List α}, l.Nodup → (l.map f).Nodup
 | [], _ => by simp
 | a :: l, h => by
  rw [List.nodup_cons] at h
  rw [List.map_cons, List.nodup_cons]
  refine ⟨fun hm => ?_, nodup_map' hf h.2⟩
  obtain ⟨b, hb, e⟩ := List.mem_map.1 hm
  exact h.1 (hf _ _ e ▸ hb)
/-- a list of different things of another one is not longer -/
theorem nodup_sub {α : Type} [DecidableEq α] : ∀ {l m : List α}, l.Nodup → (∀ x ∈ l, x ∈ m) → l.length ≤ m.length
 | [], _, _, _ => by simp
 | a :: l, m, h, hs => by
  rw [List.nodup_cons] at h
  have h1 := hs a (by simp)
  have ih := nodup_sub (m := m.erase a) h.2 fun x hx => (List.mem_erase_of_ne (fun (e : x = a) => h.1 (e ▸ hx))).2 (hs x (by simp [hx]))
  rw [List.length_erase_of_mem h1] at ih
  have := List.length_pos_of_mem h1
  rw [List.length_cons]; omega
/-- the reduction: what comes before with nothing between -/
def redO (n : Nat) (R : RelO) : RelO := fun a b => R a b && !(List.range n).any fun k => R a k && R k b
theorem red_iff {n : Nat} {R : RelO} (h : PoO n R) {a b : Nat} : redO n R a b = true ↔ R a b = true ∧ ∀ k, R a k = true → R k b = false := by
 unfold redO
 rw [Bool.and_eq_true, Bool.not_eq_true', List.any_eq_false]
 simp only [List.mem_range, Bool.not_eq_true, Bool.and_eq_false_iff]
 refine and_congr Iff.rfl ⟨fun h1 k hk => ?_, fun h1 k _ => ?_⟩
 ·rcases h1 k (h.dom _ _ hk).2 with h2 | h2
  ·rw [hk] at h2; cases h2
  ·exact h2
 ·cases e : R a k with
  | false => exact .inl rfl
  | true => exact .inr (h1 k e)
theorem red_sub {n : Nat} {R : RelO} (h : PoO n R) {a b : Nat} (hr : redO n R a b = true) : R a b = true := ((red_iff h).1 hr).1
def redL (n : Nat) (R : RelO) : List (Int × Int) := listO n (redO n R)
end Go.Proofs.YtnidcoinfmcffaaDoor
namespace Go.Proofs.YtnidcoinfmcffaaDoor

end Go.Proofs.YtnidcoinfmcffaaDoor
namespace Go.Proofs.YtnidcoinfmcffaaDoor

theorem bits8_out : ∀ S : Fin 256, ∀ x : Fin 8, S.val.testBit x.val = true → (S.val - 2 ^ x.val < S.val) ∧ ∀ i : Fin 8, (S.val - 2 ^ x.val).testBit i.val = (S.val.testBit i.val && decide (i.val ≠ x.val)) := by decide +kernel
theorem bits8_in : ∀ S : Fin 256, ∀ x : Fin 8, S.val.testBit x.val = false → (S.val + 2 ^ x.val < 256) ∧ ∀ i : Fin 8, (S.val + 2 ^ x.val).testBit i.val = (S.val.testBit i.val || decide (i.val = x.val)) := by decide +kernel
theorem bit_hi {S i : Nat} (hS : S < 256) (hi : 8 ≤ i) : S.testBit i = false :=
 Nat.testBit_lt_two_pow (Nat.lt_of_lt_of_le hS (by have : 2 ^ 8 ≤ 2 ^ i := Nat.pow_le_pow_right (by omega) hi; exact this))
theorem bit_lo {S i : Nat} (hS : S < 256) (h : S.testBit i = true) : i < 8 := by
 refine Decidable.byContradiction fun hn => ?_
 rw [bit_hi hS (by omega)] at h; cases h
theorem set_out {S x : Nat} (hS : S < 256) (hx : S.testBit x = true) : S - 2 ^ x < S ∧ ∀ i, (S - 2 ^ x).testBit i = (S.testBit i && decide (i ≠ x)) := by
 have hx8 := bit_lo hS hx
 obtain ⟨h1, h2⟩ := bits8_out ⟨S, hS⟩ ⟨x, hx8⟩ hx
 refine ⟨h1, fun i => ?_⟩
 rcases Nat.lt_or_ge i 8 with hi | hi
 ·exact h2 ⟨i, hi⟩
 ·have h1' : S - 2 ^ x < S := h1
  rw [bit_hi (S := S - 2 ^ x) (by omega) hi, bit_hi hS hi]; rfl
theorem set_in {S x : Nat} (hS : S < 256) (hx8 : x < 8) (hx : S.testBit x = false) : S + 2 ^ x < 256 ∧ ∀ i, (S + 2 ^ x).testBit i = (S.testBit i || decide (i = x)) := by
 obtain ⟨h1, h2⟩ := bits8_in ⟨S, hS⟩ ⟨x, hx8⟩ hx
 have h1' : S + 2 ^ x < 256 := h1
 refine ⟨h1, fun i => ?_⟩
 rcases Nat.lt_or_ge i 8 with hi | hi
 ·exact h2 ⟨i, hi⟩
 ·rw [bit_hi h1' hi, bit_hi hS hi, decide_eq_false (by omega)]; rfl
theorem pow_256 {n : Nat} (h : n ≤ 8) : 2 ^ n ≤ 256 := by
 have h2 : 2 ^ n ≤ 2 ^ 8 := Nat.pow_le_pow_right (by omega) h
 exact h2
theorem bit_n {n S i : Nat} (hS : S < 2 ^ n) (h : S.testBit i = true) : i < n := by
 refine Decidable.byContradiction fun hn => ?_
 have : 2 ^ n ≤ 2 ^ i := Nat.pow_le_pow_right (by omega) (by omega)
 rw [Nat.testBit_lt_two_pow (Nat.lt_of_lt_of_le hS this)] at h; cases h
theorem set_in_n {n S x : Nat} (h8 : n ≤ 8) (hS : S < 2 ^ n) (hx : x < n) (h : S.testBit x = false) : S + 2 ^ x < 2 ^ n ∧ ∀ i, (S + 2 ^ x).testBit i = (S.testBit i || decide (i = x)) := by
 have h256 := pow_256 h8
 obtain ⟨h1, h2⟩ := set_in (S := S) (x := x) (by omega) (by omega) h
 refine ⟨Nat.lt_pow_two_of_testBit _ fun i hi => ?_, h2⟩
 rw [h2]
 cases e : S.testBit i with
 | true => have := bit_n hS e; omega
 | false => rw [decide_eq_false (by omega)]; rfl

/-- the lines of a set, from the last thing on -/
def backE (n : Nat) (R : RelO) : Nat → Nat → List (List Nat)
 | 0, S => if S = 0 then [[]] else []
 | k + 1, S => if S = 0 then [[]] else if prefO n R S.testBit then (List.range n).flatMap fun x => if S.testBit x then (backE n R k (S - 2 ^ x)).map (· ++ [x]) else [] else []
/-- the ends of lines, behind a set -/
def fwdE (n : Nat) (R : RelO) : Nat → Nat → List (List Nat)
 | 0, S => if S = 2 ^ n - 1 then [[]] else []
 | k + 1, S => if S = 2 ^ n - 1 then [[]] else (List.range n).flatMap fun x => if !S.testBit x && (List.range n).all (fun a => !R a x || S.testBit a) then (fwdE n R k (S + 2 ^ x)).map (x :: ·) else []
structure LineS (n : Nat) (R : RelO) (S : Nat) (l : List Nat) : Prop where
 nod : l.Nodup
 mem : ∀ x, x ∈ l ↔ S.testBit x = true
 asc : l.Pairwise fun a b => R b a = false
 pre : prefO n R S.testBit = true
theorem zero_of_bits {S : Nat} (h : ∀ i, S.testBit i = false) : S = 0 := Nat.eq_of_testBit_eq fun i => by rw [h, Nat.zero_testBit]
theorem back_mem {n : Nat} {R : RelO} (h : PoO n R) (h8 : n ≤ 8) : ∀ (k S : Nat), S ≤ k → S < 2 ^ n → ∀ l, l ∈ backE n R k S ↔ LineS n R S l
 | 0, S, hk, _, l => by
  obtain rfl : S = 0 := by omega
  simp only [backE, if_pos, List.mem_singleton]
  constructor
  ·rintro rfl
   exact ⟨List.nodup_nil, fun x => by simp, List.Pairwise.nil, (pref_iff h).2 fun a x _ hx => by rw [Nat.zero_testBit] at hx; cases hx⟩
  ·intro hl
   cases l with
   | nil => rfl
   | cons y t => have := (hl.mem y).1 (by simp); rw [Nat.zero_testBit] at this; cases this
 | k + 1, S, hk, hS, l => by
  have h256 := pow_256 h8
  by_cases e : S = 0
  ·subst e
   exact (by simp only [backE, if_pos] : l ∈ backE n R (k + 1) 0 ↔ l ∈ backE n R 0 0).trans (back_mem h h8 0 0 (Nat.le_refl _) hS l)
  ·simp only [backE, if_neg e]
   by_cases hp : prefO n R S.testBit = true
   ·rw [if_pos hp, List.mem_flatMap]
    constructor
    ·rintro ⟨x, hx, hm⟩
     by_cases hb : S.testBit x = true
     ·rw [if_pos hb] at hm
      obtain ⟨l', hl', rfl⟩ := List.mem_map.1 hm
      obtain ⟨hlt, hbits⟩ := set_out (by omega) hb
      have hL := (back_mem h h8 k (S - 2 ^ x) (by omega) (by omega) l').1 hl'
      have hxl : x ∉ l' := fun hm => by have := (hL.mem x).1 hm; rw [hbits] at this; simp at this
      refine ⟨?_, fun y => ?_, ?_, hp⟩
      ·rw [List.nodup_append]
       exact ⟨hL.nod, by simp, fun a ha b hb e => by rw [List.mem_singleton.1 hb] at e; exact hxl (e ▸ ha)⟩
      ·rw [List.mem_append, hL.mem, hbits, List.mem_singleton, Bool.and_eq_true, decide_eq_true_eq]
       constructor
       ·rintro (h1 | rfl)
        ·exact h1.1
        ·exact hb
       ·intro h1
        by_cases e : y = x
        ·exact .inr e
        ·exact .inl ⟨h1, e⟩
      ·rw [List.pairwise_append]
       refine ⟨hL.asc, List.pairwise_singleton _ _, fun a ha b hb2 => ?_⟩
       rw [List.mem_singleton.1 hb2]
       cases e : R x a with
       | false => rfl
       | true =>
        have := (pref_iff h).1 hL.pre x a e ((hL.mem a).1 ha)
        rw [hbits] at this; simp at this
     ·rw [if_neg hb] at hm; cases hm
    ·intro hL
     have hne : l ≠ [] := by
      rintro rfl
      refine e (zero_of_bits fun i => ?_)
      cases hi : S.testBit i with
      | false => rfl
      | true => cases (hL.mem i).2 hi
     obtain ⟨l', x, rfl⟩ : ∃ l' x, l = l' ++ [x] := ⟨l.dropLast, l.getLast hne, (List.dropLast_concat_getLast hne).symm⟩
     have hb : S.testBit x = true := (hL.mem x).1 (by simp)
     obtain ⟨hlt, hbits⟩ := set_out (by omega) hb
     refine ⟨x, List.mem_range.2 (bit_n hS hb), ?_⟩
     rw [if_pos hb]
     refine List.mem_map.2 ⟨l', (back_mem h h8 k (S - 2 ^ x) (by omega) (by omega) l').2 ?_, rfl⟩
     have hnd := hL.nod
     rw [List.nodup_append] at hnd
     have hpw := hL.asc
     rw [List.pairwise_append] at hpw
     have hxl : x ∉ l' := fun hm => hnd.2.2 x hm x (by simp) rfl
     have hmem : ∀ y, y ∈ l' ↔ (S - 2 ^ x).testBit y = true := fun y => by
      rw [hbits, Bool.and_eq_true, decide_eq_true_eq, ← hL.mem, List.mem_append, List.mem_singleton]
      constructor
      ·exact fun hy => ⟨.inl hy, fun e => hxl (e ▸ hy)⟩
      ·rintro ⟨h1 | h1, h2⟩
       ·exact h1
       ·exact absurd h1 h2
     refine ⟨hnd.1, hmem, hpw.1, (pref_iff h).2 fun a y hay hy => ?_⟩
     rw [← hmem] at hy ⊢
     have h1 := (pref_iff h).1 hp a y hay ((hL.mem y).1 (by simp [hy]))
     have h2 := (hL.mem a).2 h1
     rcases List.mem_append.1 h2 with h3 | h3
     ·exact h3
     ·rw [List.mem_singleton.1 h3] at hay
      have := hpw.2.2 y hy x (by simp)
      rw [hay] at this; cases this
   ·rw [if_neg hp]
    exact ⟨fun hm => (by cases hm), fun hL => absurd hL.pre hp⟩
theorem ite_nodup {α : Type} {b : Bool} {l : List α} (h : b = true → l.Nodup) : (if b = true then l else []).Nodup := by
 cases b
 ·simp
 ·rw [if_pos rfl]; exact h rfl
theorem mem_ite {α : Type} {b : Bool} {l : List α} {x : α} (h : x ∈ (if b = true then l else [])) : b = true ∧ x ∈ l := by
 cases b
 ·simp at h
 ·rw [if_pos rfl] at h; exact ⟨rfl, h⟩
theorem back_nodup {n : Nat} {R : RelO} : ∀ (k S : Nat), (backE n R k S).Nodup
 | 0, S => by
  unfold backE; split <;> simp
 | k + 1, S => by
  unfold backE
  split
  ·simp
  ·split
   ·refine nodup_flatMap' List.nodup_range (fun x _ => ite_nodup fun _ => nodup_map' (fun a b e => List.append_cancel_right e) (back_nodup k _)) fun a _ b _ l h1 h2 => ?_
    obtain ⟨-, h1⟩ := mem_ite h1
    obtain ⟨-, h2⟩ := mem_ite h2
    obtain ⟨u, -, rfl⟩ := List.mem_map.1 h1
    obtain ⟨v, -, e⟩ := List.mem_map.1 h2
    have := congrArg List.getLast? e
    simpa using this.symm
   ·simp
theorem fwd_mem {n : Nat} {R : RelO} (h : PoO n R) (h8 : n ≤ 8) : ∀ (k S : Nat), 2 ^ n - 1 - S ≤ k → S < 2 ^ n → prefO n R S.testBit = true → ∀ l, l ∈ fwdE n R k S ↔ (l.Nodup ∧ (∀ x, x ∈ l ↔ x < n ∧ S.testBit x = false) ∧ l.Pairwise fun a b => R b a = false)
 | k, S, hk, hS, hp, l => by
  by_cases e : S = 2 ^ n - 1
  ·have e1 : fwdE n R k S = [[]] := by cases k <;> simp [fwdE, e]
   rw [e1, List.mem_singleton]
   have hfull : ∀ x, x < n → S.testBit x = true := fun x hx => by rw [e, Nat.testBit_two_pow_sub_one]; exact decide_eq_true hx
   constructor
   ·rintro rfl
    refine ⟨List.nodup_nil, fun x => ⟨fun hm => (by cases hm), ?_⟩, List.Pairwise.nil⟩
    rintro ⟨h1, h2⟩
    rw [hfull x h1] at h2; cases h2
   ·rintro ⟨-, hm, -⟩
    cases l with
    | nil => rfl
    | cons y t => have := (hm y).1 (by simp); rw [hfull y this.1] at this; cases this.2
  ·match k, hk with
   | 0, hk => omega
   | k + 1, hk =>
    simp only [fwdE, if_neg e]
    rw [List.mem_flatMap]
    constructor
    ·rintro ⟨x, hx, hm⟩
     obtain ⟨hf, hm⟩ := mem_ite hm
     obtain ⟨l', hl', rfl⟩ := List.mem_map.1 hm
     rw [Bool.and_eq_true, Bool.not_eq_true', List.all_eq_true] at hf
     have hxn := List.mem_range.1 hx
     obtain ⟨h1, hbits⟩ := set_in_n h8 hS hxn hf.1
     have hfree : ∀ a, R a x = true → S.testBit a = true := fun a ha => by
      have := hf.2 a (List.mem_range.2 (h.dom _ _ ha).1)
      rw [ha] at this; simpa using this
     have hp' : prefO n R (S + 2 ^ x).testBit = true := (pref_iff h).2 fun a y hay hy => by
      rw [hbits, Bool.or_eq_true, decide_eq_true_eq] at hy ⊢
      rcases hy with hy | rfl
      ·exact .inl ((pref_iff h).1 hp a y hay hy)
      ·exact .inl (hfree a hay)
     have hpow : 0 < 2 ^ x := Nat.two_pow_pos x
     obtain ⟨g1, g2, g3⟩ := (fwd_mem h h8 k (S + 2 ^ x) (by omega) h1 hp' l').1 hl'
     refine ⟨?_, fun y => ?_, ?_⟩
     ·rw [List.nodup_cons]
      refine ⟨fun hm => ?_, g1⟩
      have := ((g2 x).1 hm).2
      rw [hbits] at this; simp at this
     ·rw [List.mem_cons, g2, hbits]
      constructor
      ·rintro (rfl | ⟨h2, h3⟩)
       ·exact ⟨hxn, hf.1⟩
       ·rw [Bool.or_eq_false_iff] at h3; exact ⟨h2, h3.1⟩
      ·rintro ⟨h2, h3⟩
       by_cases e : y = x
       ·exact .inl e
       ·exact .inr ⟨h2, by rw [h3, decide_eq_false e]; rfl⟩
     ·rw [List.pairwise_cons]
      refine ⟨fun y hy => ?_, g3⟩
      cases e : R y x with
      | false => rfl
      | true =>
       have h4 := ((g2 y).1 hy).2
       rw [hbits, hfree y e] at h4; cases h4
    ·rintro ⟨g1, g2, g3⟩
     cases l with
     | nil =>
      exfalso
      refine e (Nat.eq_of_testBit_eq fun i => ?_)
      rw [Nat.testBit_two_pow_sub_one]
      by_cases hi : i < n
      ·rw [decide_eq_true hi]
       cases hb : S.testBit i with
       | true => rfl
       | false => cases (g2 i).2 ⟨hi, hb⟩
      ·rw [decide_eq_false hi]
       cases hb : S.testBit i with
       | true => exact absurd (bit_n hS hb) hi
       | false => rfl
     | cons x l' =>
      obtain ⟨hxn, hxS⟩ := (g2 x).1 (by simp)
      obtain ⟨h1, hbits⟩ := set_in_n h8 hS hxn hxS
      rw [List.nodup_cons] at g1
      rw [List.pairwise_cons] at g3
      have hfree : ∀ a, R a x = true → S.testBit a = true := fun a ha => by
       cases hb : S.testBit a with
       | true => rfl
       | false =>
        have hm := (g2 a).2 ⟨(h.dom _ _ ha).1, hb⟩
        rcases List.mem_cons.1 hm with rfl | hm
        ·rw [h.irr] at ha; cases ha
        ·have := g3.1 a hm; rw [ha] at this; cases this
      have hp' : prefO n R (S + 2 ^ x).testBit = true := (pref_iff h).2 fun a y hay hy => by
       rw [hbits, Bool.or_eq_true, decide_eq_true_eq] at hy ⊢
       rcases hy with hy | rfl
       ·exact .inl ((pref_iff h).1 hp a y hay hy)
       ·exact .inl (hfree a hay)
      have hpow : 0 < 2 ^ x := Nat.two_pow_pos x
      refine ⟨x, List.mem_range.2 hxn, ?_⟩
      rw [if_pos (by
       rw [Bool.and_eq_true, Bool.not_eq_true', List.all_eq_true]
       refine ⟨hxS, fun a _ => ?_⟩
       cases ha : R a x with
       | false => rfl
       | true => rw [hfree a ha]; rfl)]
      refine List.mem_map.2 ⟨l', (fwd_mem h h8 k (S + 2 ^ x) (by omega) h1 hp' l').2 ⟨g1.2, fun y => ?_, g3.2⟩, rfl⟩
      rw [hbits]
      constructor
      ·intro hy
       have := (g2 y).1 (by simp [hy])
       have hne : y ≠ x := fun e => g1.1 (e ▸ hy)
       exact ⟨this.1, by rw [this.2, decide_eq_false hne]; rfl⟩
      ·rintro ⟨h2, h3⟩
       rw [Bool.or_eq_false_iff, decide_eq_false_iff_not] at h3
       rcases List.mem_cons.1 ((g2 y).2 ⟨h2, h3.1⟩) with h4 | h4
       ·exact absurd h4 h3.2
       ·exact h4
theorem fwd_nodup {n : Nat} {R : RelO} : ∀ (k S : Nat), (fwdE n R k S).Nodup
 | 0, S => by
  unfold fwdE; split <;> simp
 | k + 1, S => by
  unfold fwdE
  split
  ·simp
  ·refine nodup_flatMap' List.nodup_range (fun x _ => ite_nodup fun _ => nodup_map' (fun a b e => (List.cons.inj e).2) (fwd_nodup k _)) fun a _ b _ l h1 h2 => ?_
   obtain ⟨-, h1⟩ := mem_ite h1
   obtain ⟨-, h2⟩ := mem_ite h2
   obtain ⟨u, -, rfl⟩ := List.mem_map.1 h1
   obtain ⟨v, -, e⟩ := List.mem_map.1 h2
   exact (List.cons.inj e).1.symm
theorem len_eq_of_mem {α : Type} [DecidableEq α] {l m : List α} (hl : l.Nodup) (hm : m.Nodup) (h : ∀ x, x ∈ l ↔ x ∈ m) : l.length = m.length :=
 Nat.le_antisymm (nodup_sub hl fun x hx => (h x).1 hx) (nodup_sub hm fun x hx => (h x).2 hx)
/-- all lines -/
def linesO (n : Nat) (R : RelO) : List (List Nat) := backE n R (2 ^ n - 1) (2 ^ n - 1)
theorem lines_mem {n : Nat} {R : RelO} (h : PoO n R) (h8 : n ≤ 8) (l : List Nat) : l ∈ linesO n R ↔ LineO n R l := by
 have hp : 0 < 2 ^ n := Nat.two_pow_pos n
 unfold linesO
 rw [back_mem h h8 _ _ (Nat.le_refl _) (by omega)]
 have hb : ∀ x, (2 ^ n - 1).testBit x = true ↔ x < n := fun x => by rw [Nat.testBit_two_pow_sub_one, decide_eq_true_eq]
 constructor
 ·exact fun hL => ⟨hL.nod, fun x => (hL.mem x).trans (hb x), hL.asc⟩
 ·exact fun hL => ⟨hL.nod, fun x => (hL.mem x).trans (hb x).symm, hL.asc, (pref_iff h).2 fun a x hax _ => (hb a).2 (h.dom _ _ hax).1⟩
/-- as many from their beginnings -/
theorem fwd_count {n : Nat} {R : RelO} (h : PoO n R) (h8 : n ≤ 8) {k : Nat} (hk : 2 ^ n - 1 ≤ k) : (fwdE n R k 0).length = (linesO n R).length := by
 refine len_eq_of_mem (fwd_nodup _ _) (back_nodup _ _) fun l => ?_
 have hp : 0 < 2 ^ n := Nat.two_pow_pos n
 rw [lines_mem h h8, fwd_mem h h8 k 0 (by omega) (by omega) ((pref_iff h).2 fun a x _ hx => by rw [Nat.zero_testBit] at hx; cases hx)]
 constructor
 ·exact fun ⟨h1, h2, h3⟩ => ⟨h1, fun x => by rw [h2, Nat.zero_testBit]; simp, h3⟩
 ·exact fun hL => ⟨hL.nod, fun x => by rw [hL.mem, Nat.zero_testBit]; simp, hL.asc⟩
end Go.Proofs.YtnidcoinfmcffaaDoor
namespace Go.Proofs.YtnidcoinfmcffaaDoor
end Go.Proofs.YtnidcoinfmcffaaDoor
namespace Go.Proofs.YtnidcoinfmcffaaDoor
/-- one more than the greatest of what comes before a thing -/
def supF (R : RelO) (f : Nat → Nat) (x : Nat) (l : List Nat) (m : Nat) : Nat := l.foldl (fun m a => if R a x then max m (f a + 1) else m) m
def supO (n : Nat) (R : RelO) (f : Nat → Nat) (x : Nat) : Nat := supF R f x (List.range n) 0
def levE (n : Nat) (R : RelO) : Nat → Nat → Nat
 | 0 => fun _ => 0
 | k + 1 => supO n R (levE n R k)
def levO (n : Nat) (R : RelO) : Nat → Nat := levE n R n
theorem supF_mono {R : RelO} {f : Nat → Nat} {x : Nat} : ∀ (l : List Nat) (m : Nat), m ≤ supF R f x l m ∧ ∀ a ∈ l, R a x = true → f a + 1 ≤ supF R f x l m
 | [], m => ⟨Nat.le_refl _, fun _ h => by cases h⟩
 | b :: l, m => by
  have e : supF R f x (b :: l) m = supF R f x l (if R b x then max m (f b + 1) else m) := rfl
  rw [e]
  obtain ⟨h1, h2⟩ := supF_mono (R := R) (f := f) (x := x) l (if R b x then max m (f b + 1) else m)
  refine ⟨Nat.le_trans ?_ h1, fun a ha hr => ?_⟩
  ·split <;> omega
  ·rcases List.mem_cons.1 ha with rfl | ha
   ·rw [if_pos hr] at h1 ⊢; omega
   ·exact h2 a ha hr
theorem supF_att {R : RelO} {f : Nat → Nat} {x : Nat} : ∀ (l : List Nat) (m : Nat), supF R f x l m = m ∨ ∃ a ∈ l, R a x = true ∧ supF R f x l m = f a + 1
 | [], m => .inl rfl
 | b :: l, m => by
  have e : supF R f x (b :: l) m = supF R f x l (if R b x then max m (f b + 1) else m) := rfl
  rw [e]
  rcases supF_att (R := R) (f := f) (x := x) l (if R b x then max m (f b + 1) else m) with h | ⟨a, ha, hr, h⟩
  ·by_cases hb : R b x = true
   ·rw [if_pos hb] at h ⊢
    rcases Nat.le_total m (f b + 1) with h1 | h1
    ·exact .inr ⟨b, by simp, hb, by omega⟩
    ·exact .inl (by omega)
   ·rw [if_neg hb] at h ⊢; exact .inl h
  ·exact .inr ⟨a, by simp [ha], hr, h⟩
theorem supF_congr {R : RelO} {f g : Nat → Nat} {x : Nat} : ∀ (l : List Nat) (m : Nat), (∀ a ∈ l, R a x = true → f a = g a) → supF R f x l m = supF R g x l m
 | [], _, _ => rfl
 | b :: l, m, h => by
  have e : ∀ f, supF R f x (b :: l) m = supF R f x l (if R b x then max m (f b + 1) else m) := fun _ => rfl
  rw [e, e, supF_congr l _ fun a ha hr => h a (by simp [ha]) hr]
  by_cases hb : R b x = true
  ·rw [if_pos hb, if_pos hb, h b (by simp) hb]
  ·rw [if_neg hb, if_neg hb]
def predN (n : Nat) (R : RelO) (x : Nat) : Nat := ((List.range n).filter fun a => R a x).length
theorem pred_lt {n : Nat} {R : RelO} (h : PoO n R) {a x : Nat} (hr : R a x = true) : predN n R a < predN n R x :=
 filterO_lt (fun _ _ hy => h.tr _ _ _ hy hr) (List.mem_range.2 (h.dom _ _ hr).1) hr (h.irr a)
theorem pred_le (n : Nat) (R : RelO) (x : Nat) : predN n R x ≤ n := Nat.le_trans (List.length_filter_le _ _) (by simp)
theorem lev_stable {n : Nat} {R : RelO} (h : PoO n R) : ∀ (k k' x : Nat), predN n R x ≤ k → predN n R x ≤ k' → levE n R k x = levE n R k' x
 | 0, 0, _, _, _ => rfl
 | 0, k' + 1, x, h1, _ => by
  have h0 : ∀ a ∈ List.range n, R a x = true → False := fun a _ hr => by have := pred_lt h hr; omega
  show 0 = supF R _ x (List.range n) 0
  rcases supF_att (R := R) (f := levE n R k') (x := x) (List.range n) 0 with e | ⟨a, ha, hr, -⟩
  ·exact e.symm
  ·exact (h0 a ha hr).elim
 | k + 1, 0, x, _, h1 => by
  have h0 : ∀ a ∈ List.range n, R a x = true → False := fun a _ hr => by have := pred_lt h hr; omega
  show supF R _ x (List.range n) 0 = 0
  rcases supF_att (R := R) (f := levE n R k) (x := x) (List.range n) 0 with e | ⟨a, ha, hr, -⟩
  ·exact e
  ·exact (h0 a ha hr).elim
 | k + 1, k' + 1, x, h1, h2 => supF_congr _ _ fun a _ hr => lev_stable h k k' a (by have := pred_lt h hr; omega) (by have := pred_lt h hr; omega)
/-- a level is one more than the greatest level of what comes before -/
theorem lev_eq {n : Nat} {R : RelO} (h : PoO n R) (x : Nat) : levO n R x = supO n R (levO n R) x := lev_stable h n (n + 1) x (pred_le _ _ _) (Nat.le_succ_of_le (pred_le _ _ _))
theorem lev_below {n : Nat} {R : RelO} (h : PoO n R) (x : Nat) : levO n R x = 0 ∨ ∃ a, a < n ∧ R a x = true ∧ levO n R x = levO n R a + 1 := by
 rcases supF_att (R := R) (f := levO n R) (x := x) (List.range n) 0 with e | ⟨a, ha, hr, e⟩
 ·exact .inl ((lev_eq h x).trans e)
 ·exact .inr ⟨a, List.mem_range.1 ha, hr, (lev_eq h x).trans e⟩
/-- the first one of the longest lists -/
def bestF (f : Nat → List Nat) (p : Nat → Bool) (l : List Nat) (r : List Nat) : List Nat := l.foldl (fun r b => if p b && decide (r.length < (f b).length) then f b else r) r
def fromE (n : Nat) (R : RelO) : Nat → Nat → List Nat
 | 0 => fun a => [a]
 | k + 1 => fun a => a :: bestF (fromE n R k) (R a) (List.range n) []
def fromO (n : Nat) (R : RelO) : Nat → List Nat := fromE n R n
def chainO (n : Nat) (R : RelO) : List Nat := bestF (fromO n R) (fun _ => true) (List.range n) []
theorem best_ge {f : Nat → List Nat} {p : Nat → Bool} : ∀ (l : List Nat) (r : List Nat), r.length ≤ (bestF f p l r).length ∧ ∀ b ∈ l, p b = true → (f b).length ≤ (bestF f p l r).length
 | [], _ => ⟨Nat.le_refl _, fun _ h => by cases h⟩
 | c :: l, r => by
  have e : bestF f p (c :: l) r = bestF f p l (if p c && decide (r.length < (f c).length) then f c else r) := rfl
  rw [e]
  obtain ⟨h1, h2⟩ := best_ge (f := f) (p := p) l (if p c && decide (r.length < (f c).length) then f c else r)
  refine ⟨Nat.le_trans ?_ h1, fun b hb hp => ?_⟩
  ·split
   ·rename_i h; simp at h; omega
   ·exact Nat.le_refl _
  ·rcases List.mem_cons.1 hb with rfl | hb
   ·refine Nat.le_trans ?_ h1
    split
    ·exact Nat.le_refl _
    ·rename_i h; simp [hp] at h; omega
   ·exact h2 b hb hp
theorem best_is {f : Nat → List Nat} {p : Nat → Bool} : ∀ (l : List Nat) (r : List Nat), bestF f p l r = r ∨ ∃ b ∈ l, p b = true ∧ bestF f p l r = f b
 | [], _ => .inl rfl
 | c :: l, r => by
  have e : bestF f p (c :: l) r = bestF f p l (if p c && decide (r.length < (f c).length) then f c else r) := rfl
  rw [e]
  rcases best_is (f := f) (p := p) l (if p c && decide (r.length < (f c).length) then f c else r) with h | ⟨b, hb, hp, h⟩
  ·by_cases hc : (p c && decide (r.length < (f c).length)) = true
   ·rw [if_pos hc] at h ⊢
    simp at hc
    exact .inr ⟨c, by simp, hc.1, h⟩
   ·rw [if_neg hc] at h ⊢; exact .inl h
  ·exact .inr ⟨b, by simp [hb], hp, h⟩
theorem best_congr {f g : Nat → List Nat} {p : Nat → Bool} : ∀ (l : List Nat) (r : List Nat), (∀ b ∈ l, p b = true → f b = g b) → bestF f p l r = bestF g p l r
 | [], _, _ => rfl
 | c :: l, r, h => by
  have e : ∀ f, bestF f p (c :: l) r = bestF f p l (if p c && decide (r.length < (f c).length) then f c else r) := fun _ => rfl
  rw [e, e, best_congr l _ fun b hb hp => h b (by simp [hb]) hp]
  cases hc : p c
  ·rfl
  ·rw [h c (by simp) hc]
def succN (n : Nat) (R : RelO) (x : Nat) : Nat := predN n (fun a b => R b a) x
theorem succ_lt {n : Nat} {R : RelO} (h : PoO n R) {a x : Nat} (hr : R x a = true) : succN n R a < succN n R x := pred_lt h.flip hr
theorem from_stable {n : Nat} {R : RelO} (h : PoO n R) : ∀ (k k' x : Nat), succN n R x ≤ k → succN n R x ≤ k' → fromE n R k x = fromE n R k' x
 | 0, 0, _, _, _ => rfl
 | 0, k' + 1, x, h1, _ => by
  have h0 : ∀ a ∈ List.range n, R x a = true → False := fun a _ hr => by have := succ_lt h hr; omega
  show [x] = x :: bestF _ (R x) (List.range n) []
  rcases best_is (f := fromE n R k') (p := R x) (List.range n) [] with e | ⟨a, ha, hr, -⟩
  ·rw [e]
  ·exact (h0 a ha hr).elim
 | k + 1, 0, x, _, h1 => by
  have h0 : ∀ a ∈ List.range n, R x a = true → False := fun a _ hr => by have := succ_lt h hr; omega
  show x :: bestF _ (R x) (List.range n) [] = [x]
  rcases best_is (f := fromE n R k) (p := R x) (List.range n) [] with e | ⟨a, ha, hr, -⟩
  ·rw [e]
  ·exact (h0 a ha hr).elim
 | k + 1, k' + 1, x, h1, h2 => by
  show x :: _ = x :: _
  rw [best_congr _ _ fun a _ hr => from_stable h k k' a (by have := succ_lt h hr; omega) (by have := succ_lt h hr; omega)]
theorem from_eq {n : Nat} {R : RelO} (h : PoO n R) (a : Nat) : fromO n R a = a :: bestF (fromO n R) (R a) (List.range n) [] :=
 from_stable h n (n + 1) a (pred_le _ _ _) (Nat.le_succ_of_le (pred_le _ _ _))
theorem from_head {n : Nat} {R : RelO} (h : PoO n R) (a : Nat) : ∃ t, fromO n R a = a :: t := ⟨_, from_eq h a⟩
def ChainL (R : RelO) (l : List Nat) : Prop := l.Pairwise fun a b => R a b = true
theorem chain_cons {n : Nat} {R : RelO} (h : PoO n R) {a b : Nat} {t : List Nat} (hr : R a b = true) (hc : ChainL R (b :: t)) : ChainL R (a :: b :: t) := by
 have hc' := List.pairwise_cons.1 hc
 refine List.pairwise_cons.2 ⟨fun y hy => ?_, hc⟩
 rcases List.mem_cons.1 hy with rfl | hy
 ·exact hr
 ·exact h.tr _ _ _ hr (hc'.1 y hy)
theorem from_chain {n : Nat} {R : RelO} (h : PoO n R) : ∀ (k a : Nat), succN n R a ≤ k → ChainL R (fromO n R a)
 | k, a, hk => by
  rw [from_eq h a]
  rcases best_is (f := fromO n R) (p := R a) (List.range n) [] with e | ⟨b, hb, hr, e⟩
  ·rw [e]; exact List.pairwise_singleton _ _
  ·rw [e]
   have h1 := succ_lt h hr
   match k, hk with
   | 0, hk => omega
   | k + 1, hk =>
    have h2 := from_chain h k b (by omega)
    obtain ⟨t, ht⟩ := from_head h b
    rw [ht] at h2 ⊢
    exact chain_cons h hr h2
theorem chain_is {n : Nat} {R : RelO} (h : PoO n R) : ChainL R (chainO n R) := by
 rcases best_is (f := fromO n R) (p := fun _ => true) (List.range n) [] with e | ⟨b, hb, -, e⟩
 ·show ChainL R (bestF _ _ _ _); rw [e]; exact List.Pairwise.nil
 ·show ChainL R (bestF _ _ _ _); rw [e]; exact from_chain h _ _ (Nat.le_refl _)
theorem chain_dom {n : Nat} {R : RelO} (h : PoO n R) : ∀ x ∈ chainO n R, x < n := by
 intro x hx
 rcases best_is (f := fromO n R) (p := fun _ => true) (List.range n) [] with e | ⟨b, hb, -, e⟩
 ·have e : chainO n R = [] := e
  rw [e] at hx; cases hx
 ·have e : chainO n R = fromO n R b := e
  have hc := from_chain h _ b (Nat.le_refl _)
  obtain ⟨t, ht⟩ := from_head h b
  rw [e, ht] at hx
  rw [ht] at hc
  rcases List.mem_cons.1 hx with rfl | hx
  ·exact List.mem_range.1 hb
  ·exact (h.dom _ _ ((List.pairwise_cons.1 hc).1 x hx)).2
theorem lev_chain {n : Nat} {R : RelO} (h : PoO n R) : ∀ (k x : Nat), levO n R x = k → x < n → ∃ l, ChainL R (l ++ [x]) ∧ l.length = k ∧ ∀ y ∈ l, y < n
 | 0, x, _, _ => ⟨[], List.pairwise_singleton _ _, rfl, fun _ h => by cases h⟩
 | k + 1, x, hk, hx => by
  rcases lev_below h x with e | ⟨a, ha, hr, e⟩
  ·omega
  ·obtain ⟨l, h1, h2, h3⟩ := lev_chain h k a (by omega) ha
   refine ⟨l ++ [a], ?_, by simp [h2], fun y hy => ?_⟩
   ·refine List.pairwise_append.2 ⟨h1, List.pairwise_singleton _ _, fun y hy z hz => ?_⟩
    rw [List.mem_singleton] at hz
    subst hz
    rcases List.mem_append.1 hy with hy | hy
    ·exact h.tr _ _ _ ((List.pairwise_append.1 h1).2.2 y hy a (by simp)) hr
    ·rw [List.mem_singleton] at hy; subst hy; exact hr
   ·rcases List.mem_append.1 hy with hy | hy
    ·exact h3 y hy
    ·rw [List.mem_singleton] at hy; subst hy; exact ha
theorem chain_at {R : RelO} {l : List Nat} (h : ChainL R l) {i : Nat} (hi : i + 1 < l.length) : R (l.getD i 0) (l.getD (i + 1) 0) = true := by
 have := (List.pairwise_iff_getElem.1 h) i (i + 1) (by omega) hi (by omega)
 simp only [List.getD_eq_getElem?_getD, List.getElem?_eq_getElem hi, List.getElem?_eq_getElem (show i < l.length by omega)]
 exact this
end Go.Proofs.YtnidcoinfmcffaaDoor
namespace Go.Proofs.YtnidcoinfmcffaaDoor
/-- the levels of the first things of a line -/
def levL (n : Nat) (R : RelO) (l : List Nat) : List Nat := (List.range n).map fun x => if x ∈ l then levO n R x else 0
theorem levL_len (n : Nat) (R : RelO) (l : List Nat) : (levL n R l).length = n := by simp [levL]
theorem levL_get {n : Nat} {R : RelO} {l : List Nat} {x : Nat} (hx : x < n) : (levL n R l).getD x 0 = if x ∈ l then levO n R x else 0 := by
 simp [levL, List.getD_eq_getElem?_getD, List.getElem?_map, List.getElem?_range hx]
theorem supF_succ (R : RelO) (f : Nat → Nat) (x k : Nat) : supF R f x (List.range (k + 1)) 0 = if R k x then max (supF R f x (List.range k) 0) (f k + 1) else supF R f x (List.range k) 0 := by
 unfold supF
 rw [List.range_succ, List.foldl_append]; rfl
/-- the next thing of a line gets its level -/
theorem levL_next {n : Nat} {R : RelO} (h : PoO n R) {l : List Nat} {b : Nat} (hs : StartO n R (l ++ [b])) : levL n R (l ++ [b]) = (levL n R l).set b (supF R (fun a => (levL n R l).getD a 0) b (List.range n) 0) := by
 have hb : b < n := hs.lt b (by simp)
 have hbl : b ∉ l := fun hm => by
  have := List.nodup_append.1 hs.nod
  exact this.2.2 b hm b (by simp) rfl
 have e : supF R (fun a => (levL n R l).getD a 0) b (List.range n) 0 = levO n R b := by
  rw [lev_eq h b]
  refine supF_congr _ _ fun a ha hr => ?_
  rw [levL_get (List.mem_range.1 ha), if_pos]
  have := hs.down b (by simp) a hr
  rcases List.mem_append.1 this with h1 | h1
  ·exact h1
  ·rw [List.mem_singleton] at h1; subst h1; rw [h.irr] at hr; cases hr
 rw [e]
 refine List.ext_getElem (by rw [List.length_set, levL_len, levL_len]) fun i h1 h2 => ?_
 rw [levL_len] at h1
 rw [List.getElem_set]
 simp only [levL, List.getElem_map, List.getElem_range]
 by_cases e2 : b = i
 ·subst e2; simp
 ·rw [if_neg e2]
  have e3 : ¬ i = b := fun h => e2 h.symm
  simp [e3]
theorem levL_line {n : Nat} {R : RelO} {l : List Nat} (hl : LineO n R l) : levL n R l = (List.range n).map (levO n R) := by
 unfold levL
 refine List.map_congr_left fun x hx => ?_
 rw [if_pos ((hl.mem x).2 (List.mem_range.1 hx))]
theorem levL_nil (n : Nat) (R : RelO) : levL n R [] = List.replicate n 0 := by
 refine List.ext_getElem (by simp [levL]) fun i h1 h2 => ?_
 simp [levL]

/-! ## Kuhn's matching -/
/-- what follows whom: 1 more than what stands before a thing; and what has been seen -/
structure KuhnO where
 last : Nat → Nat
 seen : Nat → Bool
def seeO (s : KuhnO) (b : Nat) : KuhnO := ⟨s.last, fun x => s.seen x || decide (x = b)⟩
def putO (s : KuhnO) (b v : Nat) : KuhnO := ⟨fun x => if x = b then v else s.last x, s.seen⟩
/-- the loop over the things that may follow; 'go' follows further -/
def loopO (R : RelO) (go : Nat → KuhnO → Bool × KuhnO) (a : Nat) : List Nat → KuhnO → Bool × KuhnO
 | [], s => (false, s)
 | b :: l, s =>
  if !R a b || s.seen b then loopO R go a l s
  else if (seeO s b).last b = 0 then (true, putO (seeO s b) b (a + 1))
  else
   let r := go ((seeO s b).last b - 1) (seeO s b)
   if r.1 then (true, putO r.2 b (a + 1)) else loopO R go a l r.2
def followO (n : Nat) (R : RelO) : Nat → Nat → KuhnO → Bool × KuhnO
 | 0 => fun _ s => (false, s)
 | k + 1 => fun a s => loopO R (followO n R k) a (List.range n) s
/-- how many things stand behind x -/
def cntO (n : Nat) (last : Nat → Nat) (x : Nat) : Nat := ((List.range n).filter fun b => decide (last b = x + 1)).length
def unseenO (n : Nat) (s : KuhnO) : Nat := ((List.range n).filter fun b => !s.seen b).length
/-- a set of things that stand behind others, such that whatever may follow those is in it -/
def ClosedO (n : Nat) (R : RelO) (last : Nat → Nat) (S : Nat → Bool) : Prop := ∀ b, S b = true → b < n ∧ last b ≠ 0 ∧ ∀ c, R (last b - 1) c = true → S c = true
/-- what a call that follows a thing leaves -/
structure FollowQ (n : Nat) (R : RelO) (a : Nat) (s : KuhnO) (r : Bool × KuhnO) : Prop where
 keep : ∀ b, s.seen b = true → r.2.last b = s.last b
 mono : ∀ b, s.seen b = true → r.2.seen b = true
 ok : ∀ b, r.2.last b ≠ 0 → b < n ∧ R (r.2.last b - 1) b = true
 cnt : r.1 = true → ∀ x, cntO n r.2.last x = cntO n s.last x + if x = a then 1 else 0
 no : r.1 = false → r.2.last = s.last ∧ (∀ b, R a b = true → r.2.seen b = true) ∧ ∀ b, r.2.seen b = true → s.seen b = false → b < n ∧ s.last b ≠ 0 ∧ ∀ c, R (s.last b - 1) c = true → r.2.seen c = true
 shut : ∀ S, ClosedO n R s.last S → ((∀ b, R a b = true → S b = true) → r.1 = false) ∧ ∀ b, S b = true → r.2.last b = s.last b
theorem cnt_put {n : Nat} {last : Nat → Nat} {b a : Nat} (hb : b < n) (x : Nat) : cntO n (fun y => if y = b then a + 1 else last y) x + (if last b = x + 1 then 1 else 0) = cntO n last x + if x = a then 1 else 0 := by
 unfold cntO
 have key : ∀ l : List Nat, l.Nodup → (l.filter fun y => decide ((if y = b then a + 1 else last y) = x + 1)).length + (if b ∈ l ∧ last b = x + 1 then 1 else 0) = (l.filter fun y => decide (last y = x + 1)).length + if b ∈ l ∧ x = a then 1 else 0 := by
  intro l
  induction l with
  | nil => intro _; simp
  | cons y t ih =>
   intro hn
   rw [List.nodup_cons] at hn
   have ih := ih hn.2
   rw [List.filter_cons, List.filter_cons]
   by_cases e : y = b
   ·subst e
    have h1 : (t.filter fun z => decide ((if z = y then a + 1 else last z) = x + 1)) = t.filter fun z => decide (last z = x + 1) := List.filter_congr fun z hz => by
     rw [if_neg]
     rintro rfl
     exact hn.1 hz
    rw [h1]
    by_cases e1 : x = a <;> by_cases e2 : last y = x + 1 <;> simp [e1, e2] <;> (try (subst e1; simp [e2])) <;> (try omega)
    all_goals (have : ¬ a = x := fun h => e1 h.symm; simp [this])
   ·have e' : ¬ b = y := fun h => e h.symm
    simp only [List.mem_cons, e', false_or, if_neg e]
    by_cases e2 : last y = x + 1
    ·simp only [e2, decide_true, if_true, List.length_cons]; omega
    ·simp only [e2, decide_false, Bool.false_eq_true, if_false]; omega
 have := key (List.range n) List.nodup_range
 have hm : b ∈ List.range n := List.mem_range.2 hb
 simpa [hm] using this
end Go.Proofs.YtnidcoinfmcffaaDoor
namespace Go.Proofs.YtnidcoinfmcffaaDoor
def OkO (n : Nat) (R : RelO) (last : Nat → Nat) : Prop := ∀ b, last b ≠ 0 → b < n ∧ R (last b - 1) b = true
theorem unseen_mono {n : Nat} {s t : KuhnO} (h : ∀ b, s.seen b = true → t.seen b = true) : unseenO n t ≤ unseenO n s := filter_le' fun x _ hx => by
 cases e : s.seen x with
 | false => rfl
 | true => rw [h x e] at hx; cases hx
theorem unseen_see {n : Nat} {s : KuhnO} {b : Nat} (hb : b < n) (hs : s.seen b = false) : unseenO n (seeO s b) < unseenO n s :=
 filterO_lt (fun x _ hx => by
  simp only [seeO, Bool.not_or, Bool.and_eq_true] at hx
  exact hx.1) (List.mem_range.2 hb) (by rw [hs]; rfl) (by simp [seeO])
theorem see_seen {s : KuhnO} {b x : Nat} : (seeO s b).seen x = true ↔ s.seen x = true ∨ x = b := by simp [seeO]
theorem loop_spec {n : Nat} {R : RelO} (hd : ∀ a b, R a b = true → a < n ∧ b < n) (k : Nat) (ih : ∀ a s, OkO n R s.last → unseenO n s < k → FollowQ n R a s (followO n R k a s)) (a : Nat) (s0 : KuhnO) (hok : OkO n R s0.last) :
  ∀ (l : List Nat) (s : KuhnO), s.last = s0.last → (∀ b, s0.seen b = true → s.seen b = true) → (∀ b, s.seen b = true → s0.seen b = false → b < n ∧ s0.last b ≠ 0 ∧ ∀ c, R (s0.last b - 1) c = true → s.seen c = true) →
  (∀ b, R a b = true → b ∈ l ∨ s.seen b = true) → unseenO n s ≤ k → FollowQ n R a s0 (loopO R (followO n R k) a l s)
 | [], s, h1, h2, h3, h4, _ => by
  refine ⟨fun b _ => by show s.last b = _; rw [h1], h2, fun b hb => (by have hb' : s.last b ≠ 0 := hb; show b < n ∧ R (s.last b - 1) b = true; rw [h1] at hb' ⊢; exact hok b hb'), (fun h => by cases h), fun _ => ⟨h1, fun b hb => (h4 b hb).elim (fun h => (by cases h)) id, h3⟩, fun S _ => ⟨fun _ => rfl, fun b _ => by show s.last b = _; rw [h1]⟩⟩
 | b :: l, s, h1, h2, h3, h4, h5 => by
  unfold loopO
  by_cases hsk : (!R a b || s.seen b) = true
  ·rw [if_pos hsk]
   refine loop_spec hd k ih a s0 hok l s h1 h2 h3 (fun c hc => ?_) h5
   rcases h4 c hc with h6 | h6
   ·rcases List.mem_cons.1 h6 with rfl | h6
    ·rw [hc] at hsk; exact .inr (by simpa using hsk)
    ·exact .inl h6
   ·exact .inr h6
  ·rw [if_neg hsk]
   have hR : R a b = true := by cases e : R a b with | true => rfl | false => rw [e] at hsk; simp at hsk
   have hun : s.seen b = false := by cases e : s.seen b with | false => rfl | true => rw [e] at hsk; simp at hsk
   have hbn : b < n := (hd _ _ hR).2
   have hne : ∀ c, s0.seen c = true → c ≠ b := fun c hc e => by subst e; rw [h2 c hc] at hun; cases hun
   have hl : (seeO s b).last = s0.last := h1
   by_cases h0 : (seeO s b).last b = 0
   ·rw [if_pos h0]
    rw [hl] at h0
    have hlast : (putO (seeO s b) b (a + 1)).last = fun x => if x = b then a + 1 else s0.last x := by
     show (fun x => if x = b then a + 1 else (seeO s b).last x) = _
     rw [hl]
    refine ⟨fun c hc => ?_, fun c hc => see_seen.2 (.inl (h2 c hc)), fun c hc => ?_, fun _ x => ?_, (fun h => by cases h), fun S hS => ⟨fun h => ?_, fun c hc => ?_⟩⟩
    ·show (putO (seeO s b) b (a + 1)).last c = _
     rw [hlast]; exact if_neg (hne c hc)
    ·have hc' : (putO (seeO s b) b (a + 1)).last c ≠ 0 := hc
     show c < n ∧ R ((putO (seeO s b) b (a + 1)).last c - 1) c = true
     rw [hlast] at hc' ⊢
     by_cases e : c = b
     ·subst e; simp [hbn, hR]
     ·simp only [if_neg e] at hc' ⊢; exact hok c hc'
    ·show cntO n (putO (seeO s b) b (a + 1)).last x = _
     rw [hlast]
     have := cnt_put (last := s0.last) (b := b) (a := a) hbn x
     rw [h0, if_neg (by omega)] at this
     exact this
    ·exact absurd h0 (hS b (h b hR)).2.1
    ·show (putO (seeO s b) b (a + 1)).last c = _
     rw [hlast]
     exact if_neg fun e => by subst e; exact (hS c hc).2.1 h0
   ·rw [if_neg h0]
    have hq := ih ((seeO s b).last b - 1) (seeO s b) (by rw [hl]; exact hok) (Nat.lt_of_lt_of_le (unseen_see hbn hun) h5)
    rw [hl] at h0
    have hbl : (seeO s b).last b = s0.last b := by rw [hl]
    generalize hr : followO n R k ((seeO s b).last b - 1) (seeO s b) = r at hq
    simp only
    have hsb : (seeO s b).seen b = true := see_seen.2 (.inr rfl)
    have hrb : r.2.last b = s0.last b := by rw [hq.keep b hsb, hbl]
    have hmono : ∀ c, s0.seen c = true → r.2.seen c = true := fun c hc => hq.mono c (see_seen.2 (.inl (h2 c hc)))
    cases e1 : r.1
    ·simp only [Bool.false_eq_true, if_false]
     obtain ⟨n1, n2, n3⟩ := hq.no e1
     rw [hl] at n1 n3
     rw [hbl] at n2
     refine loop_spec hd k ih a s0 hok l r.2 n1 hmono (fun c hc hc0 => ?_) (fun c hc => ?_) (Nat.le_trans (unseen_mono fun c hc => hq.mono c (see_seen.2 (.inl hc))) h5)
     ·cases e2 : (seeO s b).seen c
      ·obtain ⟨m1, m2, m3⟩ := n3 c hc e2
       exact ⟨m1, m2, m3⟩
      ·rcases see_seen.1 e2 with e3 | rfl
       ·obtain ⟨m1, m2, m3⟩ := h3 c e3 hc0
        exact ⟨m1, m2, fun d hd' => hq.mono d (see_seen.2 (.inl (m3 d hd')))⟩
       ·exact ⟨hbn, h0, n2⟩
     ·rcases h4 c hc with h6 | h6
      ·rcases List.mem_cons.1 h6 with rfl | h6
       ·exact .inr (hq.mono c hsb)
       ·exact .inl h6
      ·exact .inr (hq.mono c (see_seen.2 (.inl h6)))
    ·simp only [if_true]
     have hc0 := hq.cnt e1
     rw [hl] at hc0
     refine ⟨fun c hc => ?_, fun c hc => hmono c hc, fun c hc => ?_, fun _ x => ?_, (fun h => by cases h), fun S hS => ?_⟩
     ·show (if c = b then a + 1 else r.2.last c) = _
      rw [if_neg (hne c hc), hq.keep c (see_seen.2 (.inl (h2 c hc))), hl]
     ·have hc' : (if c = b then a + 1 else r.2.last c) ≠ 0 := hc
      show c < n ∧ R ((if c = b then a + 1 else r.2.last c) - 1) c = true
      by_cases e : c = b
      ·subst e; simp [hbn, hR]
      ·simp only [if_neg e] at hc' ⊢; exact hq.ok c hc'
     ·show cntO n (fun y => if y = b then a + 1 else r.2.last y) x = _
      have := cnt_put (last := r.2.last) (b := b) (a := a) hbn x
      rw [hrb, hc0 x] at this
      have e5 : (s0.last b = x + 1) = (x = s0.last b - 1) := by
       apply propext; omega
      simp only [e5] at this
      omega
     ·have hin := hq.shut S (by rw [hl]; exact hS)
      rw [hl] at hin
      have hnb : S b = false := by
       cases e6 : S b with
       | false => rfl
       | true => have := hin.1 (hS b e6).2.2; rw [e1] at this; cases this
      refine ⟨fun h => ?_, fun c hc => ?_⟩
      ·rw [h b hR] at hnb; cases hnb
      ·show (if c = b then a + 1 else r.2.last c) = _
       rw [if_neg (fun e => by subst e; rw [hc] at hnb; cases hnb), hin.2 c hc]
theorem follow_spec {n : Nat} {R : RelO} (hd : ∀ a b, R a b = true → a < n ∧ b < n) : ∀ (k a : Nat) (s : KuhnO), OkO n R s.last → unseenO n s < k → FollowQ n R a s (followO n R k a s)
 | 0, _, _, _, h => by omega
 | k + 1, a, s, hok, h => loop_spec hd k (fun a s => follow_spec hd k a s) a s hok (List.range n) s rfl (fun _ h => h) (fun b h1 h2 => by rw [h1] at h2; cases h2) (fun b hb => .inl (List.mem_range.2 (hd _ _ hb).2)) (by omega)
/-! ## all things, one behind the other -/
def kuhnO (n : Nat) (R : RelO) : Nat → Nat → Nat
 | 0 => fun _ => 0
 | a + 1 => (followO n R (n + 1) a ⟨kuhnO n R a, fun _ => false⟩).2.last
/-- after the first k things -/
structure KuhnK (n : Nat) (R : RelO) (k : Nat) (last : Nat → Nat) : Prop where
 ok : OkO n R last
 one : ∀ x, cntO n last x ≤ 1
 later : ∀ x, k ≤ x → cntO n last x = 0
 fail : ∀ x, x < k → cntO n last x = 0 → ∃ S, ClosedO n R last S ∧ ∀ b, R x b = true → S b = true
theorem unseen_le (n : Nat) (s : KuhnO) : unseenO n s ≤ n := Nat.le_trans (List.length_filter_le _ _) (by simp)
theorem kuhn_spec {n : Nat} {R : RelO} (hd : ∀ a b, R a b = true → a < n ∧ b < n) : ∀ k, KuhnK n R k (kuhnO n R k)
 | 0 => ⟨fun b h => absurd rfl h, fun x => (by show ((List.range n).filter fun _ => decide (0 = x + 1)).length ≤ 1; rw [List.filter_eq_nil_iff.2 (fun _ _ => by simp)]; exact Nat.zero_le _), fun x _ => (by simp [cntO, kuhnO]), fun x h => (by omega)⟩
 | k + 1 => by
  have ih := kuhn_spec hd k
  have hq := follow_spec hd (n + 1) k ⟨kuhnO n R k, fun _ => false⟩ ih.ok (by have := unseen_le n ⟨kuhnO n R k, fun _ => false⟩; omega)
  show KuhnK n R (k + 1) (followO n R (n + 1) k ⟨kuhnO n R k, fun _ => false⟩).2.last
  generalize followO n R (n + 1) k ⟨kuhnO n R k, fun _ => false⟩ = r at hq
  generalize kuhnO n R k = last at hq ih
  have hshut : ∀ S, ClosedO n R last S → ClosedO n R r.2.last S := fun S hS b hb => by
   have := (hq.shut S hS).2 b hb
   have e : r.2.last b = last b := this
   rw [e]; exact hS b hb
  cases e1 : r.1
  ·obtain ⟨n1, n2, n3⟩ := hq.no e1
   have n1 : r.2.last = last := n1
   rw [n1] at hshut ⊢
   refine ⟨ih.ok, ih.one, fun x hx => ih.later x (by omega), fun x hx h0 => ?_⟩
   by_cases e : x = k
   ·subst e
    exact ⟨r.2.seen, fun b hb => n3 b hb rfl, n2⟩
   ·exact ih.fail x (by omega) h0
  ·have hc : ∀ x, cntO n r.2.last x = cntO n last x + if x = k then 1 else 0 := hq.cnt e1
   refine ⟨hq.ok, fun x => ?_, fun x hx => ?_, fun x hx h0 => ?_⟩
   ·rw [hc]
    split
    ·rename_i e; rw [ih.later x (by omega)]; omega
    ·have := ih.one x; omega
   ·rw [hc, ih.later x (by omega), if_neg (by omega)]
   ·rw [hc] at h0
    have hx' : x ≠ k := fun e => by rw [if_pos e] at h0; omega
    obtain ⟨S, h1, h2⟩ := ih.fail x (by omega) (by omega)
    exact ⟨S, hshut S h1, h2⟩
end Go.Proofs.YtnidcoinfmcffaaDoor
namespace Go.Proofs.YtnidcoinfmcffaaDoor
/-- how many things stand behind none -/
def headsO (n : Nat) (last : Nat → Nat) : Nat := ((List.range n).filter fun b => decide (last b = 0)).length
theorem filter_split {α : Type} (p : α → Bool) : ∀ l : List α, (l.filter p).length + (l.filter fun x => !p x).length = l.length
 | [] => rfl
 | x :: l => by
  have ih := filter_split p l
  rw [List.filter_cons, List.filter_cons]
  cases e : p x
  ·simp; omega
  ·simp; omega
theorem nodup_mapOn {α β : Type} {f : α → β} : ∀ {l : List α}, l.Nodup → (∀ a ∈ l, ∀ b ∈ l, f a = f b → a = b) → (l.map f).Nodup
 | [], _, _ => List.nodup_nil
 | x :: l, h, hi => by
  rw [List.nodup_cons] at h
  rw [List.map_cons, List.nodup_cons]
  refine ⟨fun hm => ?_, nodup_mapOn h.2 fun a ha b hb => hi a (by simp [ha]) b (by simp [hb])⟩
  obtain ⟨y, hy, e⟩ := List.mem_map.1 hm
  have := hi y (by simp [hy]) x (by simp) e
  subst this
  exact h.1 hy
theorem cnt_inj {n : Nat} {last : Nat → Nat} (h1 : ∀ x, cntO n last x ≤ 1) {b c : Nat} (hb : b < n) (hc : c < n) (h0 : last b ≠ 0) (e : last b = last c) : b = c := by
 rcases Nat.lt_or_ge 1 2 with _ | h
 ·refine Classical.byContradiction fun hne => ?_
  have h2 := nodup_sub (l := [b, c]) (m := (List.range n).filter fun y => decide (last y = last b - 1 + 1)) (by simp [hne]) fun x hx => by
   rw [List.mem_filter, List.mem_range]
   rcases List.mem_cons.1 hx with rfl | hx
   ·exact ⟨hb, by simp; omega⟩
   ·rw [List.mem_singleton] at hx; subst hx
    exact ⟨hc, by simp; omega⟩
  have h3 := h1 (last b - 1)
  unfold cntO at h3
  simp only [List.length_cons, List.length_nil] at h2
  omega
 ·omega
theorem cnt_pos {n : Nat} {last : Nat → Nat} {b : Nat} (hb : b < n) (h0 : last b ≠ 0) : cntO n last (last b - 1) ≠ 0 := by
 intro h
 have h1 := List.eq_nil_of_length_eq_zero h
 have h2 : b ∈ (List.range n).filter fun y => decide (last y = last b - 1 + 1) := List.mem_filter.2 ⟨List.mem_range.2 hb, by simp; omega⟩
 rw [h1] at h2; cases h2
theorem cnt_some {n : Nat} {last : Nat → Nat} {x : Nat} (h : cntO n last x ≠ 0) : ∃ b, b < n ∧ last b = x + 1 := by
 obtain ⟨b, hb⟩ := List.exists_mem_of_length_pos (Nat.pos_of_ne_zero h)
 rw [List.mem_filter, List.mem_range] at hb
 exact ⟨b, hb.1, by simpa using hb.2⟩
/-- as many things stand behind none as before none -/
theorem heads_tails {n : Nat} {R : RelO} (hd : ∀ a b, R a b = true → a < n ∧ b < n) {last : Nat → Nat} (hok : OkO n R last) (h1 : ∀ x, cntO n last x ≤ 1) : headsO n last = ((List.range n).filter fun x => decide (cntO n last x = 0)).length := by
 have s1 := filter_split (fun b => decide (last b = 0)) (List.range n)
 have s2 := filter_split (fun x => decide (cntO n last x = 0)) (List.range n)
 have hM : (((List.range n).filter fun b => !decide (last b = 0)).map fun b => last b - 1).Nodup := nodup_mapOn (List.Nodup.sublist List.filter_sublist List.nodup_range) fun a ha b hb e => by
  rw [List.mem_filter, List.mem_range] at ha hb
  have ha2 : last a ≠ 0 := by simpa using ha.2
  have hb2 : last b ≠ 0 := by simpa using hb.2
  exact cnt_inj h1 ha.1 hb.1 ha2 (by omega)
 have l1 := nodup_sub (m := (List.range n).filter fun x => !decide (cntO n last x = 0)) hM fun x hx => by
  obtain ⟨b, hb, rfl⟩ := List.mem_map.1 hx
  rw [List.mem_filter, List.mem_range] at hb
  have hb2 : last b ≠ 0 := by simpa using hb.2
  rw [List.mem_filter, List.mem_range]
  exact ⟨(hd _ _ (hok b hb2).2).1, by simpa using cnt_pos hb.1 hb2⟩
 have l2 := nodup_sub (l := (List.range n).filter fun x => !decide (cntO n last x = 0)) (m := ((List.range n).filter fun b => !decide (last b = 0)).map fun b => last b - 1) (List.Nodup.sublist List.filter_sublist List.nodup_range) fun x hx => by
  rw [List.mem_filter, List.mem_range] at hx
  obtain ⟨b, hb, e⟩ := cnt_some (by simpa using hx.2)
  exact List.mem_map.2 ⟨b, List.mem_filter.2 ⟨List.mem_range.2 hb, by simp [e]⟩, by omega⟩
 rw [List.length_map] at l1 l2
 unfold headsO
 omega
/-- an antichain -/
structure AntiO (n : Nat) (R : RelO) (A : List Nat) : Prop where
 nod : A.Nodup
 lt : ∀ a ∈ A, a < n
 no : ∀ a ∈ A, ∀ b ∈ A, R a b = false
/-- there is an antichain with as many things as things stand behind none -/
theorem dil_low {n : Nat} {R : RelO} (hd : ∀ a b, R a b = true → a < n ∧ b < n) {last : Nat → Nat} (K : KuhnK n R n last) : ∃ A, AntiO n R A ∧ headsO n last ≤ A.length := by
 have hS : ∃ S : Nat → Bool, ∀ b, S b = true ↔ ∃ x, x < n ∧ cntO n last x = 0 ∧ ∃ T, ClosedO n R last T ∧ (∀ b, R x b = true → T b = true) ∧ T b = true :=
  ⟨fun b => @decide _ (Classical.propDecidable (∃ x, x < n ∧ cntO n last x = 0 ∧ ∃ T, ClosedO n R last T ∧ (∀ b, R x b = true → T b = true) ∧ T b = true)), fun b => by simp⟩
 obtain ⟨S, hS⟩ := hS
 have hC : ClosedO n R last S := fun b hb => by
  obtain ⟨x, hx, h0, T, hT, h2, h3⟩ := (hS b).1 hb
  obtain ⟨c1, c2, c3⟩ := hT b h3
  exact ⟨c1, c2, fun c hc => (hS c).2 ⟨x, hx, h0, T, hT, h2, c3 c hc⟩⟩
 have hF : ∀ x, x < n → cntO n last x = 0 → ∀ b, R x b = true → S b = true := fun x hx h0 b hb => by
  obtain ⟨T, hT, h2⟩ := K.fail x hx h0
  exact (hS b).2 ⟨x, hx, h0, T, hT, h2, h2 b hb⟩
 have hSn : ∀ b, S b = true → b < n := fun b hb => (hC b hb).1
 have nF : ((List.range n).filter fun x => decide (cntO n last x = 0)).Nodup := List.Nodup.sublist List.filter_sublist List.nodup_range
 have nS : ((List.range n).filter S).Nodup := List.Nodup.sublist List.filter_sublist List.nodup_range
 have mF : ∀ x, x ∈ ((List.range n).filter fun x => decide (cntO n last x = 0)) ↔ x < n ∧ cntO n last x = 0 := fun x => by
  rw [List.mem_filter, List.mem_range]; simp
 have mS : ∀ x, x ∈ (List.range n).filter S ↔ S x = true := fun x => by
  rw [List.mem_filter, List.mem_range]; exact ⟨fun h => h.2, fun h => ⟨hSn x h, h⟩⟩
 rw [heads_tails hd K.ok K.one]
 generalize ((List.range n).filter fun x => decide (cntO n last x = 0)) = F at nF mF ⊢
 generalize (List.range n).filter S = L at nS mS
 have nP : (L.map fun b => last b - 1).Nodup := nodup_mapOn nS fun a ha b hb e => by
  have h1 := hC a ((mS a).1 ha)
  have h2 := hC b ((mS b).1 hb)
  exact cnt_inj K.one h1.1 h2.1 h1.2.1 (by have := h1.2.1; have := h2.2.1; omega)
 have mP : ∀ x, x ∈ (L.map fun b => last b - 1) → x < n ∧ cntO n last x ≠ 0 ∧ ∀ c, R x c = true → S c = true := fun x hx => by
  obtain ⟨b, hb, rfl⟩ := List.mem_map.1 hx
  obtain ⟨c1, c2, c3⟩ := hC b ((mS b).1 hb)
  exact ⟨(hd _ _ (K.ok b c2).2).1, cnt_pos c1 c2, c3⟩
 have nU : (F ++ L.map fun b => last b - 1).Nodup := List.nodup_append.2 ⟨nF, nP, fun x hx y hy e => by
  subst e
  exact (mP x hy).2.1 ((mF x).1 hx).2⟩
 have mU : ∀ x, x ∈ (F ++ L.map fun b => last b - 1) → x < n ∧ ∀ c, R x c = true → S c = true := fun x hx => by
  rcases List.mem_append.1 hx with h | h
  ·obtain ⟨h1, h2⟩ := (mF x).1 h
   exact ⟨h1, hF x h1 h2⟩
  ·obtain ⟨h1, -, h2⟩ := mP x h
   exact ⟨h1, h2⟩
 have hlen : (F ++ L.map fun b => last b - 1).length = F.length + L.length := by simp
 generalize (F ++ L.map fun b => last b - 1) = U at nU mU hlen
 have s := filter_split S U
 have l1 := nodup_sub (l := U.filter S) (m := L) (List.Nodup.sublist List.filter_sublist nU) fun x hx => (mS x).2 (List.mem_filter.1 hx).2
 refine ⟨U.filter fun x => !S x, ⟨List.Nodup.sublist List.filter_sublist nU, fun a ha => (mU a (List.mem_filter.1 ha).1).1, fun a ha b hb => ?_⟩, by omega⟩
 cases e : R a b with
 | false => rfl
 | true =>
  have h1 := (mU a (List.mem_filter.1 ha).1).2 b e
  have h2 := (List.mem_filter.1 hb).2
  rw [h1] at h2; cases h2
/-! ## no antichain has more -/
end Go.Proofs.YtnidcoinfmcffaaDoor
namespace Go.Proofs.YtnidcoinfmcffaaDoor
/-- a thing of the line goes behind the one before it in its chain, or begins a chain -/
def covStep (last : Nat → Nat) (s : List (List Nat) × (Nat → Option Nat)) (x : Nat) : List (List Nat) × (Nat → Option Nat) :=
 match (if last x = 0 then none else s.2 (last x - 1)) with
 | some k => (s.1.set k (s.1.getD k [] ++ [x]), fun y => if y = x then some k else s.2 y)
 | none => (s.1 ++ [[x]], fun y => if y = x then some s.1.length else s.2 y)
def covO (last : Nat → Nat) (l : List Nat) : List (List Nat) × (Nat → Option Nat) := l.foldl (covStep last) ([], fun _ => none)
theorem cov_snoc (last : Nat → Nat) (l : List Nat) (x : Nat) : covO last (l ++ [x]) = covStep last (covO last l) x := by
 unfold covO; rw [List.foldl_append]; rfl
structure CovK (R : RelO) (last : Nat → Nat) (l : List Nat) (s : List (List Nat) × (Nat → Option Nat)) : Prop where
 perm : s.1.flatten.Perm l
 ne : ∀ c ∈ s.1, c ≠ []
 asc : ∀ c ∈ s.1, ChainL R c
 dom : ∀ x, x ∉ l → s.2 x = none
 place : ∀ x, x ∈ l → ∃ k, s.2 x = some k ∧ k < s.1.length ∧ ((∃ t, s.1.getD k [] = t ++ [x]) ∨ ∃ y ∈ l, last y = x + 1)
 len : s.1.length = (l.filter fun x => decide (last x = 0)).length
theorem flatten_set {α : Type} {x : α} : ∀ {L : List (List α)} {k : Nat}, k < L.length → (L.set k (L.getD k [] ++ [x])).flatten.Perm (x :: L.flatten)
 | [], _, h => by simp at h
 | a :: L, 0, _ => by
  show ((a ++ [x]) ++ L.flatten).Perm (x :: (a ++ L.flatten))
  rw [List.append_assoc]
  exact List.perm_middle
 | a :: L, k + 1, h => by
  have ih := flatten_set (x := x) (L := L) (k := k) (by simpa using h)
  show (a ++ (L.set k (L.getD k [] ++ [x])).flatten).Perm (x :: (a ++ L.flatten))
  exact (List.Perm.append_left a ih).trans List.perm_middle
theorem cov_step {n : Nat} {R : RelO} (h : PoO n R) {last : Nat → Nat} (hok : OkO n R last) (h1 : ∀ x, cntO n last x ≤ 1) {l : List Nat} {x : Nat} {s : List (List Nat) × (Nat → Option Nat)} (hs : StartO n R (l ++ [x])) (hc : CovK R last l s) : CovK R last (l ++ [x]) (covStep last s x) := by
 have hnx : x ∉ l := fun hm => (List.nodup_append.1 hs.nod).2.2 x hm x (by simp) rfl
 have hxn : x < n := hs.lt x (by simp)
 have hln : ∀ y ∈ l, y < n := fun y hy => hs.lt y (by simp [hy])
 by_cases h0 : last x = 0
 ·have e : covStep last s x = (s.1 ++ [[x]], fun y => if y = x then some s.1.length else s.2 y) := by
   unfold covStep; rw [if_pos h0]
  rw [e]
  refine ⟨?_, fun c hc' => ?_, fun c hc' => ?_, fun y hy => ?_, fun y hy => ?_, ?_⟩
  ·show (s.1 ++ [[x]]).flatten.Perm _
   rw [List.flatten_append]
   exact List.Perm.append hc.perm (by simp)
  ·rcases List.mem_append.1 hc' with h2 | h2
   ·exact hc.ne c h2
   ·rw [List.mem_singleton.1 h2]; simp
  ·rcases List.mem_append.1 hc' with h2 | h2
   ·exact hc.asc c h2
   ·rw [List.mem_singleton.1 h2]; exact List.pairwise_singleton _ _
  ·have h2 : y ≠ x := fun e => hy (by simp [e])
   show (if y = x then _ else _) = _
   rw [if_neg h2]; exact hc.dom y fun hm => hy (by simp [hm])
  ·by_cases h2 : y = x
   ·subst h2
    refine ⟨s.1.length, if_pos rfl, by simp, .inl ⟨[], ?_⟩⟩
    show (s.1 ++ [[y]]).getD s.1.length [] = _
    rw [getD_app_right _ _ _ _ (Nat.le_refl _), Nat.sub_self]; rfl
   ·have hy' : y ∈ l := by
     rcases List.mem_append.1 hy with h3 | h3
     ·exact h3
     ·exact absurd (List.mem_singleton.1 h3) h2
    obtain ⟨k, k1, k2, k3⟩ := hc.place y hy'
    refine ⟨k, (if_neg h2).trans k1, by simp; omega, ?_⟩
    rw [show (s.1 ++ [[x]]).getD k [] = s.1.getD k [] from getD_app_left _ _ _ _ k2]
    exact k3.imp id fun ⟨z, hz, e⟩ => ⟨z, by simp [hz], e⟩
  ·simp [h0, hc.len]
 ·obtain ⟨hb, hr⟩ := hok x h0
  have hp : last x - 1 ∈ l := by
   rcases List.mem_append.1 (hs.down x (by simp) _ hr) with h3 | h3
   ·exact h3
   ·rw [List.mem_singleton.1 h3, h.irr] at hr; cases hr
  obtain ⟨k, k1, k2, k3⟩ := hc.place _ hp
  obtain ⟨t, ht⟩ : ∃ t, s.1.getD k [] = t ++ [last x - 1] := by
   rcases k3 with k3 | ⟨y, hy, e⟩
   ·exact k3
   ·have : y = x := cnt_inj h1 (hln y hy) hxn (by omega) (by omega)
    subst this; exact absurd hy hnx
  have e : covStep last s x = (s.1.set k (s.1.getD k [] ++ [x]), fun y => if y = x then some k else s.2 y) := by
   unfold covStep; rw [if_neg h0, k1]
  rw [e]
  have hmem : s.1.getD k [] ∈ s.1 := getD_mem s.1 k (d := []) k2
  refine ⟨?_, fun c hc' => ?_, fun c hc' => ?_, fun y hy => ?_, fun y hy => ?_, ?_⟩
  ·refine (flatten_set k2).trans ((List.Perm.cons x hc.perm).trans ?_)
   exact (List.perm_append_singleton x l).symm
  ·rcases List.mem_or_eq_of_mem_set hc' with h2 | h2
   ·exact hc.ne c h2
   ·rw [h2]; simp
  ·rcases List.mem_or_eq_of_mem_set hc' with h2 | h2
   ·exact hc.asc c h2
   ·rw [h2]
    have ha := hc.asc _ hmem
    refine List.pairwise_append.2 ⟨ha, List.pairwise_singleton _ _, fun a haa b hb => ?_⟩
    rw [List.mem_singleton.1 hb]
    rw [ht] at haa ha
    rcases List.mem_append.1 haa with h3 | h3
    ·exact h.tr _ _ _ ((List.pairwise_append.1 ha).2.2 a h3 _ (by simp)) hr
    ·rw [List.mem_singleton.1 h3]; exact hr
  ·have h2 : y ≠ x := fun e => hy (by simp [e])
   show (if y = x then _ else _) = _
   rw [if_neg h2]; exact hc.dom y fun hm => hy (by simp [hm])
  ·by_cases h2 : y = x
   ·subst h2
    refine ⟨k, if_pos rfl, by simpa using k2, .inl ⟨s.1.getD k [], ?_⟩⟩
    show (s.1.set k _).getD k [] = _
    rw [List.getD_eq_getElem?_getD, List.getElem?_set_self k2]; rfl
   ·have hy' : y ∈ l := by
     rcases List.mem_append.1 hy with h3 | h3
     ·exact h3
     ·exact absurd (List.mem_singleton.1 h3) h2
    obtain ⟨k', g1, g2, g3⟩ := hc.place y hy'
    refine ⟨k', (if_neg h2).trans g1, by simpa using g2, ?_⟩
    show (∃ t, (s.1.set k _).getD k' [] = t ++ [y]) ∨ _
    by_cases h4 : k' = k
    ·subst h4
     right
     rcases g3 with ⟨t', e'⟩ | ⟨z, hz, e'⟩
     ·rw [ht] at e'
      have : last x - 1 = y := (List.append_inj_right' e' rfl |> List.cons.inj).1
      exact ⟨x, by simp, by omega⟩
     ·exact ⟨z, by simp [hz], e'⟩
    ·rw [List.getD_eq_getElem?_getD, List.getElem?_set_ne (fun e => h4 e.symm), ← List.getD_eq_getElem?_getD]
     exact g3.imp id fun ⟨z, hz, e⟩ => ⟨z, by simp [hz], e⟩
  ·simp [h0, hc.len]
theorem StartO.front {n : Nat} {R : RelO} {l : List Nat} {x : Nat} (hs : StartO n R (l ++ [x])) : StartO n R l := by
 have hp := List.pairwise_append.1 hs.asc
 refine ⟨(List.nodup_append.1 hs.nod).1, fun y hy => hs.lt y (by simp [hy]), hp.1, fun y hy a ha => ?_⟩
 rcases List.mem_append.1 (hs.down y (by simp [hy]) a ha) with h1 | h1
 ·exact h1
 ·rw [List.mem_singleton] at h1; subst h1
  have := hp.2.2 y hy a (by simp)
  rw [ha] at this; cases this
theorem cov_all {n : Nat} {R : RelO} (h : PoO n R) {last : Nat → Nat} (hok : OkO n R last) (h1 : ∀ x, cntO n last x ≤ 1) : ∀ (k : Nat) (l : List Nat), l.length = k → StartO n R l → CovK R last l (covO last l)
 | 0, l, hl, _ => by
  obtain rfl := List.eq_nil_of_length_eq_zero hl
  exact ⟨List.Perm.refl _, fun _ h => (by cases h), fun _ h => (by cases h), fun _ _ => rfl, fun _ h => (by cases h), rfl⟩
 | k + 1, l, hl, hs => by
  rcases List.eq_nil_or_concat l with rfl | ⟨t, x, e⟩
  ·cases hl
  ·rw [List.concat_eq_append] at e
   subst e
   rw [cov_snoc]
   exact cov_step h hok h1 hs (cov_all h hok h1 k t (by simpa using hl) hs.front)
theorem perm_range {n : Nat} {R : RelO} {l : List Nat} (hl : LineO n R l) : l.Perm (List.range n) := by
 rw [List.perm_ext_iff_of_nodup hl.nod List.nodup_range]
 intro x
 rw [hl.mem x, List.mem_range]
/-- the cover of an order -/
def coverO (n : Nat) (R : RelO) : List (List Nat) := (covO (kuhnO n R n) (lineO n R)).1
structure CoverQ (n : Nat) (R : RelO) (out : List (List Nat)) : Prop where
 perm : out.flatten.Perm (List.range n)
 ne : ∀ c ∈ out, c ≠ []
 asc : ∀ c ∈ out, ChainL R c
theorem cover_is {n : Nat} {R : RelO} (h : PoO n R) : CoverQ n R (coverO n R) ∧ (coverO n R).length = headsO n (kuhnO n R n) := by
 have K := kuhn_spec (n := n) (R := R) (fun a b hr => h.dom a b hr) n
 have hl := line_is (n := n) (R := R) h
 have hc := cov_all h K.ok K.one _ (lineO n R) rfl (hl.start h)
 refine ⟨⟨hc.perm.trans (perm_range hl), hc.ne, hc.asc⟩, hc.len.trans ?_⟩
 exact ((perm_range hl).filter _).length_eq
/-- Dilworth: an antichain with as many things as the cover has chains; none has more -/
theorem cover_low {n : Nat} {R : RelO} (h : PoO n R) : ∃ A, AntiO n R A ∧ (coverO n R).length ≤ A.length := by
 rw [(cover_is h).2]
 exact dil_low (fun a b hr => h.dom a b hr) (kuhn_spec (fun a b hr => h.dom a b hr) n)
end Go.Proofs.YtnidcoinfmcffaaDoor
namespace Go.Proofs.YtnidcoinfmcffaaDoor
/-- the lines of a set -/
def waysO (n : Nat) (R : RelO) (S : Nat) : Nat := (backE n R S S).length
theorem back_stable {n : Nat} {R : RelO} (h : PoO n R) (h8 : n ≤ 8) {k k' S : Nat} (hk : S ≤ k) (hk' : S ≤ k') (hS : S < 2 ^ n) : (backE n R k S).length = (backE n R k' S).length :=
 len_eq_of_mem (back_nodup _ _) (back_nodup _ _) fun x => by rw [back_mem h h8 k S hk hS, back_mem h h8 k' S hk' hS]
theorem ways_zero (n : Nat) (R : RelO) : waysO n R 0 = 1 := rfl
/-- the part of the first things -/
def wayK (n : Nat) (R : RelO) (S k : Nat) : Nat := (((List.range k).filter S.testBit).map fun x => waysO n R (S - 2 ^ x)).sum
theorem wayK_succ (n : Nat) (R : RelO) (S k : Nat) : wayK n R S (k + 1) = wayK n R S k + if S.testBit k then waysO n R (S - 2 ^ k) else 0 := by
 unfold wayK
 rw [List.range_succ, List.filter_append]
 cases e : S.testBit k <;> simp [e]
theorem sum_flat {α β : Type} {f : α → List β} {p : α → Bool} {g : α → Nat} : ∀ {l : List α}, (∀ x ∈ l, (f x).length = if p x then g x else 0) → (l.flatMap f).length = ((l.filter p).map g).sum
 | [], _ => rfl
 | x :: l, h => by
  have ih := sum_flat (l := l) fun y hy => h y (by simp [hy])
  rw [List.flatMap_cons, List.length_append, ih, h x (by simp), List.filter_cons]
  cases e : p x <;> simp
theorem ways_pref {n : Nat} {R : RelO} (h : PoO n R) (h8 : n ≤ 8) {S : Nat} (hS : S < 2 ^ n) (h0 : S ≠ 0) (hp : prefO n R S.testBit = true) : waysO n R S = wayK n R S n := by
 obtain ⟨k, rfl⟩ : ∃ k, S = k + 1 := ⟨S - 1, by omega⟩
 have e : backE n R (k + 1) (k + 1) = (List.range n).flatMap fun x => if (k + 1).testBit x then (backE n R k (k + 1 - 2 ^ x)).map (· ++ [x]) else [] := by
  conv => lhs; unfold backE
  rw [if_neg h0, if_pos hp]
 unfold waysO wayK
 rw [e]
 refine sum_flat fun x _ => ?_
 cases e2 : (k + 1).testBit x
 ·simp
 ·simp only [if_true, List.length_map]
  have h256 : k + 1 < 256 := Nat.lt_of_lt_of_le hS (pow_256 h8)
  have hlt := (set_out h256 e2).1
  exact back_stable h h8 (by omega) (Nat.le_refl _) (by omega)
theorem ways_not {n : Nat} {R : RelO} {S : Nat} (h0 : S ≠ 0) (hp : prefO n R S.testBit = false) : waysO n R S = 0 := by
 obtain ⟨k, rfl⟩ : ∃ k, S = k + 1 := ⟨S - 1, by omega⟩
 unfold waysO
 have e : backE n R (k + 1) (k + 1) = [] := by
  conv => lhs; unfold backE
  rw [if_neg h0, if_neg (by rw [hp]; exact Bool.noConfusion)]
 rw [e]; rfl
theorem ways_all (n : Nat) (R : RelO) : waysO n R (2 ^ n - 1) = (linesO n R).length := rfl
def cardO (n S : Nat) : Nat := ((List.range n).filter S.testBit).length
theorem sum_le {g : Nat → Nat} {m : Nat} : ∀ {l : List Nat}, (∀ x ∈ l, g x ≤ m) → (l.map g).sum ≤ l.length * m
 | [], _ => by simp
 | x :: l, h => by
  have ih := sum_le (l := l) fun y hy => h y (by simp [hy])
  have hx := h x (by simp)
  rw [List.map_cons, List.sum_cons, List.length_cons, Nat.succ_mul]; omega
theorem ways_bd {n : Nat} {R : RelO} (h : PoO n R) (h8 : n ≤ 8) : ∀ (c S : Nat), cardO n S ≤ c → S < 2 ^ n → waysO n R S ≤ 8 ^ c
 | c, S, hc, hS => by
  by_cases h0 : S = 0
  ·subst h0; rw [ways_zero]; exact Nat.pos_of_ne_zero (by simp)
  ·cases hp : prefO n R S.testBit with
   | false => rw [ways_not h0 hp]; exact Nat.zero_le _
   | true =>
    rw [ways_pref h h8 hS h0 hp]
    have hc1 : 0 < cardO n S := by
     refine Nat.pos_of_ne_zero fun e => h0 (zero_of_bits fun i => ?_)
     cases e2 : S.testBit i with
     | false => rfl
     | true =>
      have h1 := List.eq_nil_of_length_eq_zero e
      have h2 : i ∈ (List.range n).filter S.testBit := List.mem_filter.2 ⟨List.mem_range.2 (bit_n hS e2), e2⟩
      rw [h1] at h2; cases h2
    obtain ⟨d, rfl⟩ : ∃ d, c = d + 1 := ⟨c - 1, by omega⟩
    have hle : wayK n R S n ≤ ((List.range n).filter S.testBit).length * 8 ^ d := sum_le fun x hx => by
     obtain ⟨hxn, hx⟩ := List.mem_filter.1 hx
     have h256 : S < 256 := Nat.lt_of_lt_of_le hS (pow_256 h8)
     obtain ⟨g1, g2⟩ := set_out h256 hx
     refine ways_bd h h8 d (S - 2 ^ x) ?_ (by omega)
     have : cardO n (S - 2 ^ x) < cardO n S := filterO_lt (fun i _ hi => by
      rw [g2 i, Bool.and_eq_true] at hi; exact hi.1) hxn hx (by rw [g2 x]; simp)
     omega
    have h9 : ((List.range n).filter S.testBit).length ≤ 8 := Nat.le_trans (List.length_filter_le _ _) (by simpa using h8)
    calc wayK n R S n ≤ ((List.range n).filter S.testBit).length * 8 ^ d := hle
     _ ≤ 8 * 8 ^ d := Nat.mul_le_mul_right _ h9
     _ = 8 ^ (d + 1) := by rw [Nat.pow_succ, Nat.mul_comm]
theorem ways_small {n : Nat} {R : RelO} (h : PoO n R) (h8 : n ≤ 8) {S : Nat} (hS : S < 2 ^ n) : waysO n R S ≤ 16777216 :=
 Nat.le_trans (ways_bd h h8 8 S (Nat.le_trans (List.length_filter_le _ _) (by simpa using h8)) hS) (by decide)
theorem wayK_mono (n : Nat) (R : RelO) (S : Nat) : ∀ (k m : Nat), k ≤ m → wayK n R S k ≤ wayK n R S m
 | k, 0, h => by
  obtain rfl : k = 0 := by omega
  exact Nat.le_refl _
 | k, m + 1, h => by
  by_cases e : k = m + 1
  ·subst e; exact Nat.le_refl _
  ·rw [wayK_succ]
   have := wayK_mono n R S k m (by omega)
   omega
end Go.Proofs.YtnidcoinfmcffaaDoor
namespace Go.Proofs.YtnidcoinfmcffaaDoor
def firstO {α : Type} (f : Nat → Option α) : Nat → Option α
 | 0 => none
 | k + 1 => match firstO f k with
  | some c => some c
  | none => f k
theorem first_none {α : Type} {f : Nat → Option α} : ∀ {k : Nat}, firstO f k = none ↔ ∀ x, x < k → f x = none
 | 0 => by simp [firstO]
 | k + 1 => by
  have ih := first_none (f := f) (k := k)
  unfold firstO
  cases e : firstO f k with
  | none =>
   refine ⟨fun h x hx => ?_, fun h => h k (by omega)⟩
   rcases Nat.lt_or_ge x k with h1 | h1
   ·exact ih.1 e x h1
   ·obtain rfl : x = k := by omega
    exact h
  | some c =>
   refine ⟨fun h => (by cases h), fun h => ?_⟩
   have := ih.2 fun x hx => h x (by omega)
   rw [e] at this; cases this
theorem first_some {α : Type} {f : Nat → Option α} {c : α} : ∀ {k : Nat}, firstO f k = some c → ∃ x, x < k ∧ f x = some c ∧ ∀ y, y < x → f y = none
 | 0, h => by cases h
 | k + 1, h => by
  unfold firstO at h
  cases e : firstO f k with
  | none =>
   rw [e] at h
   exact ⟨k, by omega, h, first_none.1 e⟩
  | some d =>
   rw [e] at h
   cases h
   obtain ⟨x, h1, h2, h3⟩ := first_some e
   exact ⟨x, by omega, h2, h3⟩
theorem first_hit {α : Type} {f : Nat → Option α} {c : α} {x : Nat} (h1 : firstO f x = none) (h2 : f x = some c) : ∀ {k : Nat}, x < k → firstO f k = some c
 | 0, h => by omega
 | k + 1, h => by
  unfold firstO
  rcases Nat.lt_or_ge x k with h3 | h3
  ·rw [first_hit h1 h2 h3]
  ·obtain rfl : x = k := by omega
   rw [h1]; exact h2
def lastO (p : List Nat) : Nat := p.getD (p.length - 1) 0
/-- what a path becomes: the first cycle of a length that begins with it -/
def extC (n : Nat) (A : RelO) (len : Nat) : Nat → List Nat → Option (List Nat)
 | 0, p => if p.length = len then (if A (lastO p) (p.getD 0 0) then some p else none) else none
 | f + 1, p => if p.length = len then (if A (lastO p) (p.getD 0 0) then some p else none) else firstO (fun x => if A (lastO p) x && !p.contains x then extC n A len f (p ++ [x]) else none) n
def cycO (n : Nat) (A : RelO) : Option (List Nat) := firstO (fun i => firstO (fun x => extC n A (i + 2) (i + 1) [x]) n) (n - 1)
def PathO (A : RelO) (l : List Nat) : Prop := ∀ i, i + 1 < l.length → A (l.getD i 0) (l.getD (i + 1) 0) = true
theorem path_snoc {A : RelO} {p : List Nat} {x : Nat} (hp : PathO A p) (h0 : p ≠ []) (ha : A (lastO p) x = true) : PathO A (p ++ [x]) := fun i hi => by
 rw [List.length_append, List.length_singleton] at hi
 rcases Nat.lt_or_ge (i + 1) p.length with h1 | h1
 ·rw [getD_app_left _ _ _ _ h1, getD_app_left _ _ _ _ (by omega)]; exact hp i h1
 ·have hl : 0 < p.length := List.length_pos_iff.2 h0
  obtain rfl : i = p.length - 1 := by omega
  rw [getD_app_left _ _ _ _ (by omega), getD_app_right _ _ _ _ h1, show p.length - 1 + 1 - p.length = 0 by omega]
  exact ha
/-- a cycle of a length that does not meet itself -/
structure CycS (n : Nat) (A : RelO) (len : Nat) (c : List Nat) : Prop where
 len : c.length = len
 nod : c.Nodup
 path : PathO A c
 shut : A (lastO c) (c.getD 0 0) = true
theorem ext_some {n : Nat} {A : RelO} {len : Nat} : ∀ (f : Nat) (p c : List Nat), p ≠ [] → p.Nodup → PathO A p → extC n A len f p = some c → CycS n A len c ∧ ∃ t, c = p ++ t
 | f, p, c, h0, hn, hp, h => by
  by_cases hl : p.length = len
  ·have h' : (if A (lastO p) (p.getD 0 0) then some p else none) = some c := by
    cases f with
    | zero => unfold extC at h; rw [if_pos hl] at h; exact h
    | succ f => unfold extC at h; rw [if_pos hl] at h; exact h
   split at h'
   ·cases h'
    rename_i ha
    exact ⟨⟨hl, hn, hp, ha⟩, [], by simp⟩
   ·cases h'
  ·cases f with
   | zero => unfold extC at h; rw [if_neg hl] at h; cases h
   | succ f =>
    unfold extC at h
    rw [if_neg hl] at h
    obtain ⟨x, -, hx, -⟩ := first_some h
    split at hx
    ·rename_i ha
     rw [Bool.and_eq_true] at ha
     have hnx : x ∉ p := by simpa using ha.2
     obtain ⟨h1, t, h2⟩ := ext_some f (p ++ [x]) c (by simp) (List.nodup_append.2 ⟨hn, by simp, fun a ham b hb e => by rw [List.mem_singleton] at hb; subst hb; subst e; exact hnx ham⟩) (path_snoc hp h0 ha.1) hx
     exact ⟨h1, x :: t, by rw [h2]; simp⟩
    ·cases hx
/-! ## cycles and the closure -/
end Go.Proofs.YtnidcoinfmcffaaDoor
namespace Go.Proofs.YtnidcoinfmcffaaDoor
def pkO (c : Int) (n : Nat) : Nat := ((if c < 0 then -(c + 1) else c) % (n : Int)).toNat
theorem pk_lt (c : Int) {n : Nat} (hn : 0 < n) : pkO c n < n := by
 unfold pkO
 have h1 := Int.emod_nonneg (if c < 0 then -(c + 1) else c) (show (n : Int) ≠ 0 by omega)
 have h2 := Int.emod_lt_of_pos (if c < 0 then -(c + 1) else c) (show (0 : Int) < n by omega)
 omega
theorem pk_int (c : Int) {n : Nat} (hn : 0 < n) : (if c < 0 then -(c + 1) else c) % (n : Int) = (pkO c n : Int) := by
 unfold pkO
 have h1 := Int.emod_nonneg (if c < 0 then -(c + 1) else c) (show (n : Int) ≠ 0 by omega)
 omega
def looseN (n : Int) : Nat := pkO n 9
theorem looseN_le (n : Int) : looseN n ≤ 8 := Nat.le_of_lt_succ (pk_lt n (by decide))
def looseP (N : Nat) (p : Int × Int) : Int × Int := ((pkO p.1 N : Nat), ((pkO p.1 N + 1 + pkO p.2 (N - 1)) % N : Nat))
def looseL (N : Nat) (x : List (Int × Int)) : List (Int × Int) := if 1 < N then (x.take 20).map (looseP N) else []
theorem loose_len (N : Nat) (x : List (Int × Int)) : (looseL N x).length ≤ 20 := by
 unfold looseL
 split
 ·rw [List.length_map, List.length_take]; omega
 ·simp
theorem loose_ok {N : Nat} (h1 : 1 < N) (p : Int × Int) : pairOkO N (looseP N p) = true := by
 unfold pairOkO looseP
 have ha := pk_lt p.1 (n := N) (by omega)
 have hb := pk_lt p.2 (n := N - 1) (by omega)
 have hm := Nat.mod_lt (pkO p.1 N + 1 + pkO p.2 (N - 1)) (show 0 < N by omega)
 have hne : pkO p.1 N ≠ (pkO p.1 N + 1 + pkO p.2 (N - 1)) % N := by
  generalize pkO p.1 N = a at *
  generalize pkO p.2 (N - 1) = b at *
  rcases Nat.lt_or_ge (a + 1 + b) N with h | h
  ·rw [Nat.mod_eq_of_lt h]; omega
  ·rw [Nat.mod_eq_sub_mod h, Nat.mod_eq_of_lt (by omega)]; omega
 simp only
 exact decide_eq_true (by omega)
theorem loose_all (N : Nat) (x : List (Int × Int)) : ∀ p ∈ looseL N x, pairOkO N p = true := by
 unfold looseL
 split
 ·rename_i h
  intro p hp
  obtain ⟨q, -, rfl⟩ := List.mem_map.1 hp
  exact loose_ok h q
 ·intro p hp; cases hp
/-- the places in a hidden line -/
def drawO : Nat → Nat → List Nat → List Nat
 | 0, _, _ => []
 | f + 1, m, l => if l = [] then [] else l.getD (m % l.length) 0 :: drawO f (m / l.length) (l.take (m % l.length) ++ l.drop (m % l.length + 1))
theorem drop_getD' {l : List Nat} {k : Nat} (h : k < l.length) : l.drop k = l.getD k 0 :: l.drop (k + 1) := by
 rw [List.getD_eq_getElem?_getD, List.getElem?_eq_getElem h, List.drop_eq_getElem_cons h]; rfl
theorem draw_nil : ∀ (f m : Nat), drawO f m [] = []
 | 0, _ => rfl
 | f + 1, m => by unfold drawO; rw [if_pos rfl]
theorem draw_cut {l : List Nat} {k : Nat} (hk : k < l.length) : (l.take k ++ l.drop (k + 1)).length + 1 = l.length := by
 rw [List.length_append, List.length_take, List.length_drop]; omega
theorem draw_perm : ∀ (f m : Nat) (l : List Nat), l.length ≤ f → (drawO f m l).Perm l
 | 0, m, l, h => by
  rw [List.eq_nil_of_length_eq_zero (Nat.le_zero.1 h)]; exact List.Perm.refl _
 | f + 1, m, l, h => by
  unfold drawO
  split
  ·rename_i e; rw [e]
  ·rename_i e
   have hl : 0 < l.length := List.length_pos_iff.2 e
   have hk := Nat.mod_lt m hl
   have hc := draw_cut hk
   refine (List.Perm.cons _ (draw_perm f _ _ (by omega))).trans ?_
   have e2 : l = l.take (m % l.length) ++ (l.getD (m % l.length) 0 :: l.drop (m % l.length + 1)) := by
    rw [← drop_getD' hk, List.take_append_drop]
   generalize l.getD (m % l.length) 0 = y at e2 ⊢
   generalize l.take (m % l.length) = t at e2 ⊢
   generalize l.drop (m % l.length + 1) = d at e2 ⊢
   rw [e2]
   exact List.perm_middle.symm
def placeO (N : Nat) (line : Int) : List Nat := drawO N (pkO line 40320) (List.range N)
theorem place_perm (N : Nat) (line : Int) : (placeO N line).Perm (List.range N) := draw_perm N _ _ (by simp)
theorem place_len (N : Nat) (line : Int) : (placeO N line).length = N := by rw [(place_perm N line).length_eq, List.length_range]
theorem place_inj {N : Nat} {line : Int} {a b : Nat} (ha : a < N) (hb : b < N) (h : (placeO N line).getD a 0 = (placeO N line).getD b 0) : a = b := by
 have hn : (placeO N line).Nodup := (place_perm N line).nodup_iff.2 List.nodup_range
 have hl := place_len N line
 rw [List.getD_eq_getElem?_getD, List.getD_eq_getElem?_getD, List.getElem?_eq_getElem (by omega), List.getElem?_eq_getElem (by omega)] at h
 exact (List.getElem_inj hn).1 (Option.some.inj (congrArg some h))
def madeF (place : List Nat) (p : Int × Int) : Int × Int := if place.getD p.2.toNat 0 < place.getD p.1.toNat 0 then (p.2, p.1) else p
def madeO (n : Int) (x : List (Int × Int)) (line : Int) : OrderD := ⟨looseN n, (looseL (looseN n) x).map (madeF (placeO (looseN n) line))⟩
theorem made_ok {N : Nat} {p : Int × Int} (h : pairOkO N p = true) (place : List Nat) : pairOkO N (madeF place p) = true := by
 unfold pairOkO at *
 have h := of_decide_eq_true h
 unfold madeF
 split
 ·exact decide_eq_true (by simp only; omega)
 ·exact decide_eq_true h
theorem made_formed (n : Int) (x : List (Int × Int)) (line : Int) : formedO (madeO n x line) = true := by
 have h1 := looseN_le n
 have h2 := loose_len (looseN n) x
 unfold formedO madeO
 simp only [Bool.and_eq_true, decide_eq_true_eq, List.all_eq_true, List.length_map]
 refine ⟨⟨by omega, by omega⟩, fun p hp => ?_⟩
 obtain ⟨q, hq, rfl⟩ := List.mem_map.1 hp
 exact made_ok (loose_all _ _ q hq) _
theorem made_len (n : Int) (x : List (Int × Int)) (line : Int) : (madeO n x line).pairs.length ≤ 20 := by
 unfold madeO; rw [List.length_map]; exact loose_len _ _
theorem made_valid (n : Int) (x : List (Int × Int)) (line : Int) : validO (madeO n x line) = true := by
 refine valid_of (made_formed n x line) (s := fun a b => decide ((placeO (looseN n) line).getD a 0 < (placeO (looseN n) line).getD b 0)) (fun a b h => ?_) (fun a b c h1 h2 => ?_) (fun a => decide_eq_false (Nat.lt_irrefl _))
 ·obtain ⟨q, hq, e⟩ := List.mem_map.1 (relP_iff.1 h)
  have hok := loose_all _ _ q hq
  unfold pairOkO at hok
  have hok := of_decide_eq_true hok
  obtain ⟨u, v⟩ := q
  simp only at hok
  have hinj : (placeO (looseN n) line).getD u.toNat 0 ≠ (placeO (looseN n) line).getD v.toNat 0 := fun h => by
   have := place_inj (by omega) (by omega) h
   omega
  unfold madeF at e
  simp only at e
  refine decide_eq_true ?_
  split at e
  ·cases e; simpa using ‹_›
  ·cases e; simp at *; omega
 ·have h1 := of_decide_eq_true h1
  have h2 := of_decide_eq_true h2
  exact decide_eq_true (by omega)
end Go.Proofs.YtnidcoinfmcffaaDoor
namespace Go.Proofs.YtnidcoinfmcffaaDoor
end Go.Proofs.YtnidcoinfmcffaaDoor
