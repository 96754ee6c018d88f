/- Plain words for OrderLines: a line begun by a prefix, and how the ways of the prefixes are counted. Conditions: none. -/
import Derived.Test.YtnidcoinfmcffaaDoorOpA
namespace Go.Proofs.YtnidcoinfmcffaaDoor
open Go.RowKit
theorem line_pref {n : Nat} {R : RelO} {t : List Nat} (h : PoO n R) (hl : LineO n R t) {s : Nat → Bool} (hp : prefO n R s = true) : LineO n R (t.filter s ++ t.filter fun x => !s x) := by
  refine ⟨?_, fun x => ?_, ?_⟩
  · rw [List.nodup_append]
    refine ⟨hl.nod.sublist List.filter_sublist, hl.nod.sublist List.filter_sublist, fun a ha b hb e => ?_⟩
    subst e
    have h1 := (List.mem_filter.1 ha).2
    have h2 := (List.mem_filter.1 hb).2
    rw [h1] at h2; cases h2
  · rw [List.mem_append, List.mem_filter, List.mem_filter, ← hl.mem x]
    cases s x <;> simp
  · rw [List.pairwise_append]
    refine ⟨hl.asc.sublist List.filter_sublist, hl.asc.sublist List.filter_sublist, fun a ha b hb => ?_⟩
    have h1 := (List.mem_filter.1 ha).2
    have h2 := (List.mem_filter.1 hb).2
    cases e : R b a with
    | false => rfl
    | true =>
      have := (pref_iff h).1 hp b a e h1
      rw [this] at h2; cases h2
theorem pref_asc (n : Nat) (R : RelO) : (prefixesO n R).Pairwise (· < ·) := List.pairwise_lt_range.sublist List.filter_sublist
theorem take_asc {l : List Nat} (h : l.Pairwise (· < ·)) {k x : Nat} (hk : k < l.length) : x ∈ l.take k ↔ x ∈ l ∧ x < l.getD k 0 := by
  have e : l.getD k 0 = l[k] := by rw [List.getD_eq_getElem?_getD, List.getElem?_eq_getElem hk]; rfl
  rw [e]
  constructor
  · intro hx
    refine ⟨List.mem_of_mem_take hx, ?_⟩
    obtain ⟨i, hi, rfl⟩ := List.mem_iff_getElem.1 hx
    rw [List.length_take] at hi
    rw [List.getElem_take]
    exact List.pairwise_iff_getElem.1 h i k (by omega) hk (by omega)
  · rintro ⟨hx, hlt⟩
    obtain ⟨i, hi, rfl⟩ := List.mem_iff_getElem.1 hx
    have hik : i < k := by
      refine Nat.lt_of_not_le fun hki => ?_
      rcases Nat.lt_or_eq_of_le hki with h1 | h1
      · have := List.pairwise_iff_getElem.1 h k i hk hi h1
        omega
      · subst h1; omega
    exact List.mem_iff_getElem.2 ⟨i, by rw [List.length_take]; omega, by rw [List.getElem_take]⟩
/-- what is in the table when the first k prefixes have been looked at -/
def wayT (n : Nat) (R : RelO) (P : List Nat) (S : Nat) : Nat := if P.contains S then waysO n R S else 0
/-- and while the things of a further one are looked at -/
def wayP (n : Nat) (R : RelO) (P : List Nat) (p a S : Nat) : Nat := if S = p then (if p = 0 then 1 else 0) + wayK n R p a else wayT n R P S
theorem wayP_zero (n : Nat) (R : RelO) (P : List Nat) {p : Nat} (h0 : p ≠ 0) (hp : P.contains p = false) : wayP n R P p 0 = wayT n R P := by
  funext S
  unfold wayP
  by_cases e : S = p
  · subst e
    rw [if_pos rfl, if_neg h0, wayK_zero]
    unfold wayT
    rw [hp]; rfl
  · rw [if_neg e]
theorem wayP_one (n : Nat) (R : RelO) (P : List Nat) : (fun y => if y = 0 then 1 else wayT n R P y) = wayP n R P 0 0 := by
  funext S
  unfold wayP
  by_cases e : S = 0
  · subst e; rw [if_pos rfl, if_pos rfl, if_pos rfl, wayK_zero]
  · rw [if_neg e, if_neg e]
theorem wayP_skip (n : Nat) (R : RelO) (P : List Nat) {p a : Nat} (h : p.testBit a = false) : wayP n R P p (a + 1) = wayP n R P p a := by
  funext S
  unfold wayP
  rw [wayK_succ, h]; simp
theorem wayP_none {n : Nat} {R : RelO} (P : List Nat) {p a : Nat} (hp : p < 2 ^ n) (h : p.testBit a = true) (hn : (prefixesO n R).contains (p - 2 ^ a) = false) : wayP n R P p (a + 1) = wayP n R P p a := by
  have hz : waysO n R (p - 2 ^ a) = 0 := by
    have h0 : (0 : Nat) ∈ prefixesO n R := by
      unfold prefixesO
      rw [List.mem_filter, List.mem_range]
      refine ⟨Nat.pow_pos (by decide), ?_⟩
      unfold prefO
      rw [List.all_eq_true]
      intro x _
      rw [Nat.zero_testBit]; rfl
    refine ways_not (fun e => ?_) ?_
    · rw [e] at hn
      simp only [List.contains_eq_mem, decide_eq_false_iff_not] at hn
      exact hn h0
    · cases e : prefO n R (p - 2 ^ a).testBit with
      | false => rfl
      | true =>
        simp only [List.contains_eq_mem, decide_eq_false_iff_not] at hn
        exact absurd (List.mem_filter.2 ⟨List.mem_range.2 (Nat.lt_of_le_of_lt (Nat.sub_le _ _) hp), e⟩) hn
  funext S
  unfold wayP
  rw [wayK_succ, h, hz]; simp
theorem wayP_add {n : Nat} {R : RelO} {k a : Nat} (hk : k < (prefixesO n R).length) (hp : (prefixesO n R).getD k 0 < 256) (h : ((prefixesO n R).getD k 0).testBit a = true) (hn : (prefixesO n R).contains ((prefixesO n R).getD k 0 - 2 ^ a) = true) :
    wayP n R ((prefixesO n R).take k) ((prefixesO n R).getD k 0) a ((prefixesO n R).getD k 0 - 2 ^ a) = waysO n R ((prefixesO n R).getD k 0 - 2 ^ a) := by
  have hlt := (set_out hp h).1
  unfold wayP
  rw [if_neg (by omega)]
  unfold wayT
  have hm : (prefixesO n R).getD k 0 - 2 ^ a ∈ (prefixesO n R).take k := (take_asc (pref_asc n R) hk).2 ⟨by simpa using hn, hlt⟩
  rw [if_pos (by simpa using hm)]
theorem wayP_put (n : Nat) (R : RelO) (P : List Nat) {p a : Nat} (h : p.testBit a = true) : (fun y => if y = p then wayP n R P p a p + waysO n R (p - 2 ^ a) else wayP n R P p a y) = wayP n R P p (a + 1) := by
  funext S
  by_cases e : S = p
  · subst e
    rw [if_pos rfl]
    unfold wayP
    rw [if_pos rfl, if_pos rfl, wayK_succ, h]
    simp only [if_true]; omega
  · rw [if_neg e]
    unfold wayP
    rw [if_neg e, if_neg e]
theorem wayP_end {n : Nat} {R : RelO} (hR : PoO n R) (h8 : n ≤ 8) {k : Nat} (hk : k < (prefixesO n R).length) : wayP n R ((prefixesO n R).take k) ((prefixesO n R).getD k 0) n = wayT n R ((prefixesO n R).take (k + 1)) := by
  funext S
  have hm : (prefixesO n R).getD k 0 ∈ prefixesO n R := by
    rw [List.getD_eq_getElem?_getD, List.getElem?_eq_getElem hk]; exact List.getElem_mem hk
  have hm2 := List.mem_filter.1 hm
  have hc : ((prefixesO n R).take (k + 1)).contains S = (decide (S = (prefixesO n R).getD k 0) || ((prefixesO n R).take k).contains S) := by
    rw [List.take_add_one, List.getD_eq_getElem?_getD, List.getElem?_eq_getElem hk]
    simp only [List.contains_eq_mem, Option.toList_some, List.mem_append, List.mem_singleton, Bool.decide_or, Option.getD_some]
    rw [Bool.or_comm]
  unfold wayP wayT
  rw [hc]
  by_cases e : S = (prefixesO n R).getD k 0
  · rw [if_pos e, decide_eq_true e, Bool.true_or, if_pos rfl, e]
    by_cases e0 : (prefixesO n R).getD k 0 = 0
    · rw [e0, if_pos rfl, ways_zero]
      have : wayK n R 0 n = 0 := by
        unfold wayK
        rw [List.filter_eq_nil_iff.2 (fun x _ => by rw [Nat.zero_testBit]; decide)]; rfl
      rw [this]
    · rw [if_neg e0, ways_pref hR h8 (List.mem_range.1 hm2.1) e0 hm2.2]; omega
  · rw [if_neg e, decide_eq_false e, Bool.false_or]
theorem wayT_nil (n : Nat) (R : RelO) : wayT n R [] = fun _ => 0 := rfl
theorem wayT_last {n : Nat} {R : RelO} (hR : PoO n R) : wayT n R (prefixesO n R) (2 ^ n - 1) = (linesO n R).length := by
  unfold wayT
  have hm : 2 ^ n - 1 ∈ prefixesO n R := by
    refine List.mem_filter.2 ⟨List.mem_range.2 (by have := Nat.pow_pos (n := n) (show 0 < 2 by decide); omega), ?_⟩
    refine (pref_iff hR).2 fun a x hr _ => ?_
    rw [Nat.testBit_two_pow_sub_one]
    exact decide_eq_true (hR.dom a x hr).1
  rw [if_pos (by simpa using hm), ways_all]
theorem wayP_small {n : Nat} {R : RelO} (hR : PoO n R) (h8 : n ≤ 8) (P : List Nat) {p a : Nat} (hp : p < 2 ^ n) (ha : a ≤ n) (hpr : prefO n R p.testBit = true) : wayP n R P p a p ≤ 16777217 := by
  unfold wayP
  rw [if_pos rfl]
  have h1 := wayK_mono n R p a n ha
  have h2 : wayK n R p n ≤ 16777216 := by
    by_cases e0 : p = 0
    · subst e0
      have : wayK n R 0 n = 0 := by
        unfold wayK
        rw [List.filter_eq_nil_iff.2 (fun x _ => by rw [Nat.zero_testBit]; decide)]; rfl
      omega
    · rw [← ways_pref hR h8 hp e0 hpr]; exact ways_small hR h8 hp
  split <;> omega
end Go.Proofs.YtnidcoinfmcffaaDoor
