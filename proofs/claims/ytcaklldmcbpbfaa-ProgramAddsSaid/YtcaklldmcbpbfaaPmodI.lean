/- Plain laws: rows added and multiplied. No condition. -/
import Derived.Test.YtcaklldmcbpbfaaPmodH
import Derived.Test.YtcaklldmcbpbfaaPmodD
namespace Go.Proofs.Ytcaklldmcbpbfaa
open Go.RowKit

def smallR (r : RowD) : Prop := -4 ≤ r.most ∧ r.most ≤ 25 ∧ ∀ c ∈ r.coef, -4 ≤ c ∧ c ≤ 11
theorem made_small (v : Int) (x : List Tri) (g : List Int) : ∀ r ∈ (madeF v x g).rows, smallR r := by
  intro r hr
  obtain ⟨i, -, rfl⟩ := List.mem_map.1 hr
  have hp : ∀ (c : Int) {n : Int}, 0 < n → 0 ≤ pickF c n ∧ pickF c n < n := fun c n h => ⟨pickF_nonneg c h, pickF_lt c h⟩
  have h2 := hp (x.getD i tri0).2.2 (n := 30) (by decide)
  refine ⟨by show _ ≤ pickF _ 30 - 4; omega, by show pickF _ 30 - 4 ≤ _; omega, fun c hc => ?_⟩
  obtain ⟨k, -, rfl⟩ := List.mem_map.1 hc
  have h3 := hp ((x.getD i tri0).1.tdiv (1 + 3 * k)) (n := 12) (by decide)
  have h4 := hp ((x.getD i tri0).2.1.tdiv (1 + 5 * k)) (n := 5) (by decide)
  unfold mco; omega
/-- the first k coefficients of the sum -/
def addUp (m n : Int) (a b : RowD) (k : Nat) : List Int := (List.range k).map fun i => m * a.coef.getD i 0 + n * b.coef.getD i 0
def greatUp (m : Int) (a : RowD) (k : Nat) : List Int := (List.range k).map fun i => (m + 1) * a.coef.getD i 0
theorem addUp_succ (m n : Int) (a b : RowD) (k : Nat) : addUp m n a b (k + 1) = addUp m n a b k ++ [m * a.coef.getD k 0 + n * b.coef.getD k 0] := by simp [addUp, List.range_succ]
theorem greatUp_succ (m : Int) (a : RowD) (k : Nat) : greatUp m a (k + 1) = greatUp m a k ++ [(m + 1) * a.coef.getD k 0] := by simp [greatUp, List.range_succ]
theorem addUp_len (m n : Int) (a b : RowD) (k : Nat) : (addUp m n a b k).length = k := by simp [addUp]
theorem greatUp_len (m : Int) (a : RowD) (k : Nat) : (greatUp m a k).length = k := by simp [greatUp]
def addR (m n : Int) (a b : RowD) (k : Nat) : RowD := ⟨0, 0, 0, 0, addUp m n a b k, m * a.most + n * b.most⟩
def greatR (m : Int) (a : RowD) (k : Nat) : RowD := ⟨0, 0, 0, 0, greatUp m a k, (m + 1) * a.most⟩
theorem rangemap_get {f : Nat → Int} {k i : Nat} (h : i < k) : ((List.range k).map f).getD i 0 = f i := by
  rw [List.getD_eq_getElem?_getD, List.getElem?_map, List.getElem?_range h]; rfl
theorem chosK_add (m n : Int) (a b : RowD) (N s : Nat) : ∀ k, k ≤ N → chosK (addUp m n a b N) s k = m * chosK a.coef s k + n * chosK b.coef s k
  | 0, _ => by simp [chosK]
  | k + 1, h => by
    have e : (addUp m n a b N).getD k 0 = m * a.coef.getD k 0 + n * b.coef.getD k 0 := rangemap_get (by omega)
    simp only [chosK, chosK_add m n a b N s k (by omega), e]
    split
    · rw [Int.mul_add, Int.mul_add]; omega
    · simp
theorem chosK_great (m : Int) (a : RowD) (N s : Nat) : ∀ k, k ≤ N → chosK (greatUp m a N) s k = (m + 1) * chosK a.coef s k
  | 0, _ => by simp [chosK]
  | k + 1, h => by
    have e : (greatUp m a N).getD k 0 = (m + 1) * a.coef.getD k 0 := rangemap_get (by omega)
    simp only [chosK, chosK_great m a N s k (by omega), e]
    split
    · rw [Int.mul_add]
    · simp
theorem kept_add {m n : Int} (hm : 0 ≤ m) (hn : 0 ≤ n) {a b : RowD} {N : Nat} (ha : a.coef.length = N) (hb : b.coef.length = N) {s : Nat} (h1 : keptB a s = true) (h2 : keptB b s = true) : keptB (addR m n a b N) s = true := by
  simp only [keptB, decide_eq_true_eq] at h1 h2 ⊢
  have e : chosenF (addR m n a b N).coef s = m * chosenF a.coef s + n * chosenF b.coef s := by
    unfold chosenF
    show chosK (addUp m n a b N) s (addUp m n a b N).length = _
    rw [addUp_len, ha, hb]; exact chosK_add m n a b N s N (Nat.le_refl _)
  rw [e]
  show _ ≤ m * a.most + n * b.most
  exact Int.add_le_add (Int.mul_le_mul_of_nonneg_left h1 hm) (Int.mul_le_mul_of_nonneg_left h2 hn)
theorem kept_great {m : Int} (hm : 0 ≤ m) {a : RowD} {N : Nat} (ha : a.coef.length = N) (s : Nat) : keptB (greatR m a N) s = keptB a s := by
  have e : chosenF (greatR m a N).coef s = (m + 1) * chosenF a.coef s := by
    unfold chosenF
    show chosK (greatUp m a N) s (greatUp m a N).length = _
    rw [greatUp_len, ha]; exact chosK_great m a N s N (Nat.le_refl _)
  simp only [keptB, e]
  rw [decide_eq_decide]
  show (m + 1) * _ ≤ (m + 1) * _ ↔ _
  exact ⟨fun h => Int.le_of_mul_le_mul_left h (by omega), fun h => Int.mul_le_mul_of_nonneg_left h (by omega)⟩
theorem mul_small {m c : Int} (h0 : 0 ≤ m) (h1 : m ≤ 51) (h2 : -4 ≤ c) (h3 : c ≤ 25) : -1000 ≤ m * c ∧ m * c ≤ 2000 := by
  have a1 : m * (-4) ≤ m * c := Int.mul_le_mul_of_nonneg_left h2 h0
  have a2 : m * c ≤ m * 25 := Int.mul_le_mul_of_nonneg_left h3 h0
  omega
theorem getD_small {l : List Int} (h : ∀ c ∈ l, -4 ≤ c ∧ c ≤ 11) (k : Nat) : -4 ≤ l.getD k 0 ∧ l.getD k 0 ≤ 25 := by
  rcases Nat.lt_or_ge k l.length with h1 | h1
  · have := h _ (getD_mem l k (d := 0) h1); omega
  · rw [List.getD_eq_getElem?_getD, List.getElem?_eq_none h1]; simp
theorem addR_right {m n : Int} (hm : 0 ≤ m ∧ m ≤ 50) (hn : 0 ≤ n ∧ n ≤ 50) {a b : RowD} (ha : smallR a) (hb : smallR b) (N : Nat) : rightB (addR m n a b N) N = true := by
  have h1 := mul_small hm.1 (by omega) ha.1 ha.2.1
  have h2 := mul_small hn.1 (by omega) hb.1 hb.2.1
  refine Bool.and_eq_true_iff.2 ⟨Bool.and_eq_true_iff.2 ⟨decide_eq_true (by simp [addR, addUp_len]), List.all_eq_true.2 fun x hx => ?_⟩, decide_eq_true (by show _ ≤ m * a.most + n * b.most ∧ m * a.most + n * b.most ≤ _; omega)⟩
  obtain ⟨i, -, rfl⟩ := List.mem_map.1 hx
  have h3 := getD_small ha.2.2 i
  have h4 := getD_small hb.2.2 i
  have h5 := mul_small hm.1 (by omega) h3.1 h3.2
  have h6 := mul_small hn.1 (by omega) h4.1 h4.2
  show bndB _ = true
  simp only [bndB, decide_eq_true_eq]
  omega
theorem greatR_right {m : Int} (hm : 0 ≤ m ∧ m ≤ 50) {a : RowD} (ha : smallR a) (N : Nat) : rightB (greatR m a N) N = true := by
  have h1 := mul_small (m := m + 1) (by omega) (by omega) ha.1 ha.2.1
  refine Bool.and_eq_true_iff.2 ⟨Bool.and_eq_true_iff.2 ⟨decide_eq_true (by simp [greatR, greatUp_len]), List.all_eq_true.2 fun x hx => ?_⟩, decide_eq_true (by show _ ≤ (m + 1) * a.most ∧ (m + 1) * a.most ≤ _; omega)⟩
  obtain ⟨i, -, rfl⟩ := List.mem_map.1 hx
  have h3 := getD_small ha.2.2 i
  have h5 := mul_small (m := m + 1) (by omega) (by omega) h3.1 h3.2
  show bndB _ = true
  simp only [bndB, decide_eq_true_eq]
  omega
theorem four_valid {vars : Int} {l : List RowD} {g : List Int} (h : validB ⟨vars, l, g⟩ = true) {a b c d : RowD} (ha : rightB a vars = true) (hb : rightB b vars = true) (hc : rightB c vars = true) (hd : rightB d vars = true) : validB ⟨vars, [a, b, c, d], g⟩ = true := by
  simp only [validB, Bool.and_eq_true] at h ⊢
  obtain ⟨⟨⟨⟨h1, -⟩, -⟩, h4⟩, h5⟩ := h
  exact ⟨⟨⟨⟨h1, decide_eq_true (by simp)⟩, by simp [rowsB, ha, hb, hc, hd]⟩, h4⟩, h5⟩
theorem broken_mem (l : List RowD) (s k : Nat) (i : Nat) : memB (brokenUp l s k) i = (decide (i < k) && !keptB (l.getD i row0) s) := by
  rw [Bool.eq_iff_iff]
  simp only [memB, List.any_eq_true, brokenUp, List.mem_map, List.mem_filter, List.mem_range, Bool.and_eq_true, decide_eq_true_eq, beq_iff_eq, Bool.not_eq_true']
  constructor
  · rintro ⟨x, ⟨j, ⟨h1, h2⟩, rfl⟩, h3⟩
    have : j = i := by omega
    subst this; exact ⟨h1, h2⟩
  · rintro ⟨h1, h2⟩
    exact ⟨_, ⟨i, ⟨h1, h2⟩, rfl⟩, rfl⟩
theorem broken_low {l : List RowD} {s k q : Nat} (hq : q < (brokenUp l s k).length) : ∃ t : Nat, t < k ∧ (brokenUp l s k).getD q 0 = t := by
  obtain ⟨j, hj, e⟩ := List.mem_map.1 (getD_mem (brokenUp l s k) q (d := 0) hq)
  exact ⟨j, List.mem_range.1 (List.mem_filter.1 hj).1, e.symm⟩
theorem memB_take {l : List Int} {q : Nat} (hq : q < l.length) (x : Int) : memB (l.take (q + 1)) x = (memB (l.take q) x || (l.getD q 0 == x)) := by
  rw [take_succ' l q 0 hq]; simp [memB]
end Go.Proofs.Ytcaklldmcbpbfaa
