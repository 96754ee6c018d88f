/- Plain words for OrderMatchesReference: what the reference of chapter 15 computes is what package order computes. Conditions: none. -/
import Derived.Test.YtnidcoinfmcffaaDoorOpA
namespace Go.Proofs.YtnidcoinfmcffaaDoor
open Go.RowKit
theorem natsO_toNat : ∀ {l : List Int}, (∀ x ∈ l, 0 ≤ x) → natsO (l.map Int.toNat) = l
 | [], _ => rfl
 | x :: l, h => by
  have h1 := h x List.mem_cons_self
  have h2 := natsO_toNat (l := l) fun y hy => h y (List.mem_cons_of_mem _ hy)
  unfold natsO at h2 ⊢
  rw [List.map_cons, List.map_cons, h2, Int.toNat_of_nonneg h1]
theorem natsO_getD (t : List Nat) (i : Nat) : (natsO t).getD i 0 = ((t.getD i 0 : Nat) : Int) := by
 unfold natsO
 rw [List.getD_eq_getElem?_getD, List.getD_eq_getElem?_getD, List.getElem?_map]
 cases t[i]? <;> rfl
/-- one round of the reference's IsLine -/
def rlineS (n : Nat) (R : RelO) (l : List Int) (i : Nat) : Bool := decide (0 ≤ l.getD i 0 ∧ l.getD i 0 < n) && (List.range i).all fun k => !decide (l.getD k 0 = l.getD i 0) && !R (l.getD i 0).toNat (l.getD k 0).toNat
def rlineB (n : Nat) (R : RelO) (l : List Int) : Bool := decide (l.length = n) && (List.range l.length).all (rlineS n R l)
theorem rline_eq {n : Nat} {R : RelO} (h : PoO n R) (l : List Int) : rlineB n R l = isLineB n R l := by
 rw [Bool.eq_iff_iff, isLine_iff h]
 unfold rlineB
 rw [Bool.and_eq_true, decide_eq_true_eq, List.all_eq_true]
 constructor
 ·rintro ⟨hl, hs⟩
  have hat : ∀ i, i < l.length → (0 ≤ l.getD i 0 ∧ l.getD i 0 < n) ∧ ∀ k, k < i → l.getD k 0 ≠ l.getD i 0 ∧ R (l.getD i 0).toNat (l.getD k 0).toNat = false := fun i hi => by
   have := hs i (List.mem_range.2 hi)
   unfold rlineS at this
   rw [Bool.and_eq_true, decide_eq_true_eq, List.all_eq_true] at this
   refine ⟨this.1, fun k hk => ?_⟩
   have h2 := this.2 k (List.mem_range.2 hk)
   simp only [Bool.and_eq_true, Bool.not_eq_true', decide_eq_false_iff_not] at h2
   exact h2
  have h0 : ∀ x ∈ l, 0 ≤ x ∧ x < n := fun x hx => by
   obtain ⟨i, hi, rfl⟩ := List.mem_iff_getElem.1 hx
   have := (hat i hi).1
   rw [List.getD_eq_getElem?_getD, List.getElem?_eq_getElem hi] at this
   exact this
  have e : natsO (l.map Int.toNat) = l := natsO_toNat fun x hx => (h0 x hx).1
  refine ⟨l.map Int.toNat, e.symm, ?_, fun x => ?_, ?_⟩
  ·rw [List.Nodup, List.pairwise_iff_getElem]
   intro k i hk hi hki
   rw [List.length_map] at hk hi
   have h1 := ((hat i hi).2 k hki).1
   have h2 := (hat i hi).1
   have h3 := (hat k hk).1
   rw [List.getD_eq_getElem?_getD, List.getElem?_eq_getElem hk, List.getD_eq_getElem?_getD, List.getElem?_eq_getElem hi] at h1
   rw [List.getD_eq_getElem?_getD, List.getElem?_eq_getElem hi] at h2
   rw [List.getD_eq_getElem?_getD, List.getElem?_eq_getElem hk] at h3
   simp only [Option.getD_some] at h1 h2 h3
   rw [List.getElem_map, List.getElem_map]; omega
  ·have hnd : (l.map Int.toNat).Nodup := by
    rw [List.Nodup, List.pairwise_iff_getElem]
    intro k i hk hi hki
    rw [List.length_map] at hk hi
    have h1 := ((hat i hi).2 k hki).1
    have h2 := (hat i hi).1
    have h3 := (hat k hk).1
    rw [List.getD_eq_getElem?_getD, List.getElem?_eq_getElem hk, List.getD_eq_getElem?_getD, List.getElem?_eq_getElem hi] at h1
    rw [List.getD_eq_getElem?_getD, List.getElem?_eq_getElem hi] at h2
    rw [List.getD_eq_getElem?_getD, List.getElem?_eq_getElem hk] at h3
    simp only [Option.getD_some] at h1 h2 h3
    rw [List.getElem_map, List.getElem_map]; omega
   have hlt : ∀ x ∈ l.map Int.toNat, x < n := fun x hx => by
    obtain ⟨y, hy, rfl⟩ := List.mem_map.1 hx
    have := h0 y hy; omega
   exact ⟨hlt x, nodup_all hnd hlt (by rw [List.length_map]; exact hl) x⟩
  ·rw [List.pairwise_iff_getElem]
   intro k i hk hi hki
   rw [List.length_map] at hk hi
   have h1 := ((hat i hi).2 k hki).2
   have ek : l.getD k 0 = l[k] := by rw [List.getD_eq_getElem?_getD, List.getElem?_eq_getElem hk]; rfl
   have ei : l.getD i 0 = l[i] := by rw [List.getD_eq_getElem?_getD, List.getElem?_eq_getElem hi]; rfl
   rw [ek, ei] at h1
   rw [List.getElem_map, List.getElem_map]; exact h1
 ·rintro ⟨t, rfl, ht⟩
  have hln : (natsO t).length = t.length := by unfold natsO; rw [List.length_map]
  refine ⟨by rw [hln]; exact ht.len, fun i hi => ?_⟩
  rw [List.mem_range, hln] at hi
  unfold rlineS
  rw [Bool.and_eq_true, decide_eq_true_eq, List.all_eq_true]
  have hti : t.getD i 0 = t[i] := by rw [List.getD_eq_getElem?_getD, List.getElem?_eq_getElem hi]; rfl
  refine ⟨?_, fun k hk => ?_⟩
  ·rw [natsO_getD, hti]
   have := (ht.mem t[i]).1 (List.getElem_mem hi)
   omega
  ·rw [List.mem_range] at hk
   have htk : t.getD k 0 = t[k] := by rw [List.getD_eq_getElem?_getD, List.getElem?_eq_getElem (by omega)]; rfl
   rw [natsO_getD, natsO_getD, hti, htk, Int.toNat_natCast, Int.toNat_natCast]
   have h1 := List.pairwise_iff_getElem.1 ht.nod k i (by omega) hi hk
   have h2 := List.pairwise_iff_getElem.1 ht.asc k i (by omega) hi hk
   rw [h2]
   simp only [Bool.and_eq_true, Bool.not_eq_true', decide_eq_false_iff_not, Bool.not_false, and_true]
   omega
/-- the number of lines that begin with the things of a set -/
def sumN (f : Nat → Nat) : Nat → Nat
 | 0 => 0
 | k + 1 => sumN f k + f k
def freeS (n : Nat) (R : RelO) (S x : Nat) : Bool := !S.testBit x && (List.range n).all fun a => !R a x || S.testBit a
def fwdN (n : Nat) (R : RelO) : Nat → Nat → Nat
 | 0, S => if S = 2 ^ n - 1 then 1 else 0
 | c + 1, S => if S = 2 ^ n - 1 then 1 else sumN (fun x => if freeS n R S x then fwdN n R c (S + 2 ^ x) else 0) n
def zeroN (n S : Nat) : Nat := ((List.range n).filter fun x => !S.testBit x).length
theorem sum_map (f : Nat → Nat) : ∀ n, ((List.range n).map f).sum = sumN f n
 | 0 => rfl
 | n + 1 => by
  rw [List.range_succ, List.map_append, List.sum_append_nat, sum_map f n]
  simp [sumN]
theorem sum_bd {f : Nat → Nat} {b : Nat} (h : ∀ x, f x ≤ b) : ∀ n, sumN f n ≤ n * b
 | 0 => Nat.zero_le _
 | n + 1 => by
  have := sum_bd h n
  have := h n
  show sumN f n + f n ≤ _
  rw [Nat.succ_mul]; omega
theorem sum_congr {f g : Nat → Nat} : ∀ {n : Nat}, (∀ x, x < n → f x = g x) → sumN f n = sumN g n
 | 0, _ => rfl
 | n + 1, h => by
  show sumN f n + f n = sumN g n + g n
  rw [sum_congr (n := n) fun x hx => h x (by omega), h n (by omega)]
theorem fwdN_bd {n : Nat} {R : RelO} (h8 : n ≤ 8) : ∀ (c S : Nat), fwdN n R c S ≤ 8 ^ c
 | 0, S => by unfold fwdN; split <;> simp
 | c + 1, S => by
  have h1 : 1 ≤ 8 ^ c := Nat.pow_pos (by decide)
  unfold fwdN
  split
  ·rw [Nat.pow_succ]; omega
  ·have h2 : sumN (fun x => if freeS n R S x then fwdN n R c (S + 2 ^ x) else 0) n ≤ n * 8 ^ c := sum_bd (fun x => by
    show (if _ then _ else _) ≤ _
    split
    ·exact fwdN_bd h8 c _
    ·exact Nat.zero_le _) n
   have h3 : n * 8 ^ c ≤ 8 * 8 ^ c := Nat.mul_le_mul_right _ h8
   rw [Nat.pow_succ]; omega
theorem flat_len' {α β : Type} (f : α → List β) : ∀ l : List α, (l.flatMap f).length = (l.map fun x => (f x).length).sum
 | [] => rfl
 | x :: l => by rw [List.flatMap_cons, List.length_append, flat_len' f l]; rfl
theorem zero_lt {n S x : Nat} (h8 : n ≤ 8) (hS : S < 2 ^ n) (hx : x < n) (h : S.testBit x = false) : zeroN n (S + 2 ^ x) < zeroN n S := by
 unfold zeroN
 refine filterO_lt (x := x) (fun y _ hy => ?_) (List.mem_range.2 hx) (by rw [h]; rfl) ?_
 ·rw [(set_in_n h8 hS hx h).2] at hy
  cases e : S.testBit y with
  | false => rfl
  | true => rw [e] at hy; cases hy
 ·rw [(set_in_n h8 hS hx h).2]; simp
theorem zero_full {n S : Nat} (hS : S < 2 ^ n) (h : zeroN n S = 0) : S = 2 ^ n - 1 := by
 have h2 := List.filter_eq_nil_iff.1 (List.eq_nil_of_length_eq_zero h)
 refine Nat.eq_of_testBit_eq fun i => ?_
 rw [Nat.testBit_two_pow_sub_one]
 by_cases hi : i < n
 ·have := h2 i (List.mem_range.2 hi)
  rw [decide_eq_true hi]
  cases e : S.testBit i with
  | true => rfl
  | false => rw [e] at this; exact absurd rfl this
 ·rw [decide_eq_false hi]
  cases e : S.testBit i with
  | false => rfl
  | true => exact absurd (bit_n hS e) hi
theorem fwdN_eq {n : Nat} {R : RelO} (h8 : n ≤ 8) : ∀ (c k S : Nat), S < 2 ^ n → zeroN n S ≤ c → 2 ^ n - 1 - S ≤ k → (fwdE n R k S).length = fwdN n R c S
 | 0, k, S, hS, hz, hk => by
  have e := zero_full hS (by omega)
  unfold fwdN
  rw [if_pos e]
  cases k <;> (unfold fwdE; rw [if_pos e]; rfl)
 | c + 1, 0, S, hS, hz, hk => by
  have e : S = 2 ^ n - 1 := by omega
  unfold fwdN fwdE
  rw [if_pos e, if_pos e]; rfl
 | c + 1, k + 1, S, hS, hz, hk => by
  unfold fwdN fwdE
  by_cases e : S = 2 ^ n - 1
  ·rw [if_pos e, if_pos e]; rfl
  ·rw [if_neg e, if_neg e, flat_len', sum_map]
   refine sum_congr fun x hx => ?_
   unfold freeS
   by_cases hf : (!S.testBit x && (List.range n).all fun a => !R a x || S.testBit a) = true
   ·have hb : S.testBit x = false := by
     rw [Bool.and_eq_true] at hf
     simpa using hf.1
    rw [if_pos hf, if_pos hf, List.length_map]
    have h1 := (set_in_n h8 hS hx hb).1
    have h2 := zero_lt h8 hS hx hb
    have h3 : 1 ≤ 2 ^ x := Nat.pow_pos (by decide)
    exact fwdN_eq h8 c k (S + 2 ^ x) h1 (by omega) (by omega)
   ·rw [if_neg hf, if_neg hf]; rfl
theorem lines_eq {n : Nat} {R : RelO} (h : PoO n R) (h8 : n ≤ 8) : fwdN n R n 0 = (linesO n R).length := by
 rw [← fwd_count h h8 (Nat.le_refl _)]
 refine (fwdN_eq h8 n _ 0 (Nat.pow_pos (by decide)) ?_ (by omega)).symm
 refine Nat.le_trans (List.length_filter_le _ _) (by simp)
/-- the least of the first numbers -/
def bestM (f : Nat → Option Nat) : Nat → Option Nat
 | 0 => none
 | k + 1 => match f k with
  | none => bestM f k
  | some v => match bestM f k with
   | none => some v
   | some b => some (if v < b then v else b)
theorem bestM_le {f : Nat → Option Nat} : ∀ {k i v : Nat}, i < k → f i = some v → ∃ b, bestM f k = some b ∧ b ≤ v
 | k + 1, i, v, hi, hv => by
  unfold bestM
  by_cases e : i = k
  ·subst e
   rw [hv]
   cases e2 : bestM f i with
   | none => exact ⟨v, rfl, Nat.le_refl _⟩
   | some b =>
    refine ⟨_, rfl, ?_⟩
    split <;> omega
  ·obtain ⟨b, h1, h2⟩ := bestM_le (k := k) (by omega) hv
   rw [h1]
   cases e2 : f k with
   | none => exact ⟨b, rfl, h2⟩
   | some u =>
    refine ⟨_, rfl, ?_⟩
    split <;> omega
theorem bestM_is {f : Nat → Option Nat} : ∀ {k b : Nat}, bestM f k = some b → ∃ i, i < k ∧ f i = some b
 | k + 1, b, h => by
  unfold bestM at h
  cases e : f k with
  | none =>
   rw [e] at h
   obtain ⟨i, h1, h2⟩ := bestM_is h
   exact ⟨i, by omega, h2⟩
  | some v =>
   rw [e] at h
   cases e2 : bestM f k with
   | none =>
    rw [e2] at h
    cases h
    exact ⟨k, by omega, e⟩
   | some c =>
    rw [e2] at h
    have h := Option.some.inj h
    by_cases hv : v < c
    ·rw [if_pos hv] at h; subst h; exact ⟨k, by omega, e⟩
    ·rw [if_neg hv] at h; subst h
     obtain ⟨i, h1, h2⟩ := bestM_is e2
     exact ⟨i, by omega, h2⟩
/-- the fewest chains into which the rest of a line is divided, in the reference -/
def rcovN (R : RelO) : List Nat → List (List Nat) → Nat
 | [], s => s.length
 | x :: t, s => (bestM (fun i => if i = s.length then some (rcovN R t (s ++ [[x]])) else if R (lastO (s.getD i [])) x then some (rcovN R t (s.set i (s.getD i [] ++ [x]))) else none) (s.length + 1)).getD 0
structure ChP (R : RelO) (l : List Nat) (s : List (List Nat)) : Prop where
 perm : s.flatten.Perm l
 ne : ∀ c ∈ s, c ≠ []
 asc : ∀ c ∈ s, ChainL R c
theorem lastO_snoc (c : List Nat) (x : Nat) : lastO (c ++ [x]) = x := by
 unfold lastO
 rw [List.length_append, List.length_singleton, Nat.add_sub_cancel, List.getD_eq_getElem?_getD, List.getElem?_append_right (Nat.le_refl _)]
 simp
theorem chain_snoc {n : Nat} {R : RelO} (h : PoO n R) {c : List Nat} {x : Nat} (hc : ChainL R c) (h0 : c ≠ []) : ChainL R (c ++ [x]) ↔ R (lastO c) x = true := by
 rcases List.eq_nil_or_concat c with rfl | ⟨t, y, e⟩
 ·exact absurd rfl h0
 ·rw [List.concat_eq_append] at e
  subst e
  rw [lastO_snoc]
  unfold ChainL at hc ⊢
  constructor
  ·intro h1
   exact (List.pairwise_append.1 h1).2.2 y (by simp) x (by simp)
  ·intro h1
   refine List.pairwise_append.2 ⟨hc, by simp, fun a ha b hb => ?_⟩
   rw [List.mem_singleton.1 hb]
   rcases List.mem_append.1 ha with h2 | h2
   ·exact h.tr _ _ _ ((List.pairwise_append.1 hc).2.2 a h2 y (by simp)) h1
   ·rw [List.mem_singleton.1 h2]; exact h1
theorem ChP.new {R : RelO} {l : List Nat} {s : List (List Nat)} (h : ChP R l s) (x : Nat) : ChP R (l ++ [x]) (s ++ [[x]]) := by
 refine ⟨?_, fun c hc => ?_, fun c hc => ?_⟩
 ·rw [List.flatten_append]
  exact h.perm.append (by simp)
 ·rcases List.mem_append.1 hc with h1 | h1
  ·exact h.ne c h1
  ·rw [List.mem_singleton.1 h1]; simp
 ·rcases List.mem_append.1 hc with h1 | h1
  ·exact h.asc c h1
  ·rw [List.mem_singleton.1 h1]; exact List.pairwise_singleton _ _
theorem ChP.put {n : Nat} {R : RelO} (hR : PoO n R) {l : List Nat} {s : List (List Nat)} (h : ChP R l s) {i x : Nat} (hi : i < s.length) (hr : R (lastO (s.getD i [])) x = true) : ChP R (l ++ [x]) (s.set i (s.getD i [] ++ [x])) := by
 have hm : s.getD i [] ∈ s := by rw [List.getD_eq_getElem?_getD, List.getElem?_eq_getElem hi]; exact List.getElem_mem hi
 refine ⟨?_, fun c hc => ?_, fun c hc => ?_⟩
 ·refine (flatten_set hi).trans ?_
  refine (List.Perm.cons x h.perm).trans ?_
  exact (List.perm_append_singleton x l).symm
 ·rcases List.mem_or_eq_of_mem_set hc with h1 | h1
  ·exact h.ne c h1
  ·rw [h1]; simp
 ·rcases List.mem_or_eq_of_mem_set hc with h1 | h1
  ·exact h.asc c h1
  ·rw [h1]; exact (chain_snoc hR (h.asc _ hm) (h.ne _ hm)).2 hr
theorem rcov_is {n : Nat} {R : RelO} (hR : PoO n R) : ∀ (t l : List Nat) (s : List (List Nat)), ChP R l s → ∃ s', ChP R (l ++ t) s' ∧ rcovN R t s = s'.length
 | [], l, s, h => ⟨s, by rw [List.append_nil]; exact h, rfl⟩
 | x :: t, l, s, h => by
  obtain ⟨b, hb, -⟩ := bestM_le (f := fun i => if i = s.length then some (rcovN R t (s ++ [[x]])) else if R (lastO (s.getD i [])) x then some (rcovN R t (s.set i (s.getD i [] ++ [x]))) else none) (k := s.length + 1) (i := s.length) (v := rcovN R t (s ++ [[x]])) (by omega) (by rw [if_pos rfl])
  obtain ⟨i, hi, he⟩ := bestM_is hb
  have e0 : rcovN R (x :: t) s = b := by
   show (bestM _ _).getD 0 = b
   rw [hb]; rfl
  rw [e0]
  by_cases e : i = s.length
  ·rw [if_pos e] at he
   obtain ⟨s', h1, h2⟩ := rcov_is hR t (l ++ [x]) (s ++ [[x]]) (h.new x)
   refine ⟨s', by rw [List.append_assoc] at h1; exact h1, ?_⟩
   rw [← h2]; exact (Option.some.inj he).symm
  ·rw [if_neg e] at he
   cases hr : R (lastO (s.getD i [])) x with
   | false => rw [hr] at he; cases he
   | true =>
    rw [hr, if_pos rfl] at he
    obtain ⟨s', h1, h2⟩ := rcov_is hR t (l ++ [x]) _ (h.put hR (i := i) (x := x) (by omega) hr)
    refine ⟨s', by rw [List.append_assoc] at h1; exact h1, ?_⟩
    rw [← h2]; exact (Option.some.inj he).symm
theorem rcov_new (R : RelO) (x : Nat) (t : List Nat) (s : List (List Nat)) : rcovN R (x :: t) s ≤ rcovN R t (s ++ [[x]]) := by
 obtain ⟨b, hb, hle⟩ := bestM_le (f := fun i => if i = s.length then some (rcovN R t (s ++ [[x]])) else if R (lastO (s.getD i [])) x then some (rcovN R t (s.set i (s.getD i [] ++ [x]))) else none) (k := s.length + 1) (i := s.length) (v := rcovN R t (s ++ [[x]])) (by omega) (by rw [if_pos rfl])
 show (bestM _ _).getD 0 ≤ _
 rw [hb]; exact hle
theorem rcov_put {R : RelO} {x : Nat} (t : List Nat) {s : List (List Nat)} {i : Nat} (hi : i < s.length) (hr : R (lastO (s.getD i [])) x = true) : rcovN R (x :: t) s ≤ rcovN R t (s.set i (s.getD i [] ++ [x])) := by
 obtain ⟨b, hb, hle⟩ := bestM_le (f := fun i => if i = s.length then some (rcovN R t (s ++ [[x]])) else if R (lastO (s.getD i [])) x then some (rcovN R t (s.set i (s.getD i [] ++ [x]))) else none) (k := s.length + 1) (i := i) (v := rcovN R t (s.set i (s.getD i [] ++ [x]))) (by omega) (by rw [if_neg (by omega), hr, if_pos rfl])
 show (bestM _ _).getD 0 ≤ _
 rw [hb]; exact hle
theorem start_front {n : Nat} {R : RelO} : ∀ (k : Nat) (t l : List Nat), t.length = k → StartO n R (l ++ t) → StartO n R l
 | 0, t, l, hk, h => by
  obtain rfl := List.eq_nil_of_length_eq_zero hk
  rwa [List.append_nil] at h
 | k + 1, t, l, hk, h => by
  rcases List.eq_nil_or_concat t with rfl | ⟨u, y, e⟩
  ·cases hk
  ·rw [List.concat_eq_append] at e
   subst e
   rw [← List.append_assoc] at h
   exact start_front k u l (by simpa using hk) h.front
theorem rcov_up {n : Nat} {R : RelO} (h : PoO n R) {last : Nat → Nat} (hok : OkO n R last) (h1 : ∀ x, cntO n last x ≤ 1) : ∀ (t l : List Nat), StartO n R (l ++ t) → rcovN R t (covO last l).1 ≤ (covO last (l ++ t)).1.length
 | [], l, _ => by rw [List.append_nil]; exact Nat.le_refl _
 | x :: t, l, hs => by
  have e1 : l ++ x :: t = (l ++ [x]) ++ t := by simp
  have hsx : StartO n R (l ++ [x]) := by
   rw [e1] at hs
   exact start_front _ t _ rfl hs
  have hc := cov_all h hok h1 _ l rfl hsx.front
  have hc2 := cov_all h hok h1 _ (l ++ [x]) rfl hsx
  have ih := rcov_up h hok h1 t (l ++ [x]) (by rw [← e1]; exact hs)
  rw [e1]
  refine Nat.le_trans ?_ ih
  rw [cov_snoc] at hc2 ⊢
  generalize covO last l = S at *
  unfold covStep at hc2 ⊢
  cases e : (if last x = 0 then none else S.2 (last x - 1)) with
  | none => exact rcov_new R x t S.1
  | some k =>
   rw [e] at hc2
   have hk : k < S.1.length := by
    refine Decidable.byContradiction fun hn => ?_
    have h2 := hc2.perm.length_eq
    have h3 := hc.perm.length_eq
    have e4 : (S.1.set k (S.1.getD k [] ++ [x])) = S.1 := List.set_eq_of_length_le (by omega)
    simp only [e4] at h2
    rw [List.length_append, List.length_singleton] at h2
    omega
   have hm : S.1.getD k [] ∈ S.1 := by rw [List.getD_eq_getElem?_getD, List.getElem?_eq_getElem hk]; exact List.getElem_mem hk
   have hch : ChainL R (S.1.getD k [] ++ [x]) := hc2.asc _ (List.mem_set hk _)
   exact rcov_put t hk ((chain_snoc h (hc.asc _ hm) (hc.ne _ hm)).1 hch)
theorem anti_le {n : Nat} {R : RelO} {l : List Nat} {s : List (List Nat)} (h : ChP R l s) {A : List Nat} (hA : AntiO n R A) (hl : ∀ a ∈ A, a ∈ l) : A.length ≤ s.length := by
 have hex : ∀ a ∈ A, ∃ i, i < s.length ∧ a ∈ s.getD i [] := fun a ha => by
  have := h.perm.mem_iff.2 (hl a ha)
  obtain ⟨c, hc, hac⟩ := List.mem_flatten.1 this
  obtain ⟨i, hi, rfl⟩ := List.mem_iff_getElem.1 hc
  exact ⟨i, hi, by rw [List.getD_eq_getElem?_getD, List.getElem?_eq_getElem hi]; exact hac⟩
 obtain ⟨f, hf⟩ : ∃ f : Nat → Nat, ∀ a ∈ A, f a < s.length ∧ a ∈ s.getD (f a) [] := by
  refine ⟨fun a => if h : ∃ i, i < s.length ∧ a ∈ s.getD i [] then Classical.choose h else 0, fun a ha => ?_⟩
  simp only [dif_pos (hex a ha)]
  exact Classical.choose_spec (hex a ha)
 have hn : (A.map f).Nodup := nodup_mapOn hA.nod fun a ha b hb e => by
  obtain ⟨h1, h2⟩ := hf a ha
  obtain ⟨-, h4⟩ := hf b hb
  rw [← e] at h4
  have hch : ChainL R (s.getD (f a) []) := h.asc _ (by rw [List.getD_eq_getElem?_getD, List.getElem?_eq_getElem h1]; exact List.getElem_mem h1)
  refine Decidable.byContradiction fun hne => ?_
  obtain ⟨i, hi, ea⟩ := List.mem_iff_getElem.1 h2
  obtain ⟨k, hk, eb⟩ := List.mem_iff_getElem.1 h4
  rcases Nat.lt_trichotomy i k with g | g | g
  ·have := List.pairwise_iff_getElem.1 hch i k hi hk g
   rw [ea, eb, hA.no a ha b hb] at this; cases this
  ·subst g; exact hne (ea.symm.trans eb)
  ·have := List.pairwise_iff_getElem.1 hch k i hk hi g
   rw [ea, eb, hA.no b hb a ha] at this; cases this
 have := nodup_le s.length hn fun x hx => by
  obtain ⟨a, ha, rfl⟩ := List.mem_map.1 hx
  exact (hf a ha).1
 rwa [List.length_map] at this
/-- the reference's cover has as many chains as the program's -/
theorem rcov_eq {n : Nat} {R : RelO} (h : PoO n R) : rcovN R (lineO n R) [] = (coverO n R).length := by
 have K := kuhn_spec (n := n) (R := R) (fun a b hr => h.dom a b hr) n
 have hl := line_is (n := n) (R := R) h
 refine Nat.le_antisymm (rcov_up h K.ok K.one (lineO n R) [] (by rw [List.nil_append]; exact hl.start h)) ?_
 obtain ⟨s', h1, h2⟩ := rcov_is h (lineO n R) [] [] ⟨List.Perm.refl _, fun _ h => (by cases h), fun _ h => (by cases h)⟩
 rw [h2]
 obtain ⟨A, hA, hle⟩ := cover_low h
 refine Nat.le_trans hle (anti_le h1 hA fun a ha => ?_)
 rw [List.nil_append]
 exact (hl.mem a).2 (hA.lt a ha)
end Go.Proofs.YtnidcoinfmcffaaDoor
