/- The things of a set of at most 32 bits: its lowest bit, and the others. No condition. -/
import Derived.Test.YtdjldidfnddpmaaGreatDoorLists
namespace Go.Proofs.YtdjldidfnddpmaaGreatDoor
def bitsOf (S : Nat) : List Nat := (List.range 32).filter S.testBit
theorem odd_form : ∀ S : Nat, S ≠ 0 → ∃ k m, S = 2 ^ k * (2 * m + 1) := fun S => by
  induction S using Nat.strongRecOn with
  | _ S ih =>
    intro h0
    by_cases h : S % 2 = 1
    · exact ⟨0, S / 2, by omega⟩
    · obtain ⟨k, m, e⟩ := ih (S / 2) (by omega) (by omega)
      refine ⟨k + 1, m, ?_⟩
      rw [Nat.pow_succ, Nat.mul_comm (2 ^ k) 2, Nat.mul_assoc, ← e]
      omega
theorem odd_bit (k m n : Nat) : (2 ^ k * (2 * m + 1)).testBit n = (decide (k ≤ n) && (decide (n = k) || m.testBit (n - k - 1))) := by
  rw [Nat.testBit_two_pow_mul]
  by_cases h : k ≤ n
  · rw [decide_eq_true h, Bool.true_and, Bool.true_and]
    by_cases e : n = k
    · subst e; simp
    · rw [decide_eq_false e, Bool.false_or]
      obtain ⟨j, hj⟩ : ∃ j, n - k = j + 1 := ⟨n - k - 1, by omega⟩
      rw [hj, Nat.testBit_succ, show (2 * m + 1) / 2 = m by omega]; rfl
  · simp [h]
theorem pred_bit (k m n : Nat) : (2 ^ k * (2 * m + 1) - 1).testBit n = (decide (n < k) || (decide (k < n) && m.testBit (n - k - 1))) := by
  have hp : 0 < 2 ^ k := Nat.two_pow_pos k
  have e : 2 ^ k * (2 * m + 1) - 1 = 2 ^ k * (2 * m) + (2 ^ k - 1) := by rw [Nat.mul_succ]; omega
  rw [e, Nat.testBit_two_pow_mul_add _ (by omega)]
  by_cases h : n < k
  · rw [if_pos h, Nat.testBit_two_pow_sub_one]; simp [h]
  · rw [if_neg h, decide_eq_false h, Bool.false_or]
    by_cases e : n = k
    · subst e; simp
    · obtain ⟨j, hj⟩ : ∃ j, n - k = j + 1 := ⟨n - k - 1, by omega⟩
      rw [hj, Nat.testBit_succ, show (2 * m) / 2 = m by omega, decide_eq_true (show k < n by omega)]; rfl
/-- taking off the lowest bit -/
theorem and_pred (k m : Nat) : 2 ^ k * (2 * m + 1) &&& (2 ^ k * (2 * m + 1) - 1) = 2 ^ k * (2 * m) := by
  refine Nat.eq_of_testBit_eq fun n => ?_
  rw [Nat.testBit_and, odd_bit, pred_bit, Nat.testBit_two_pow_mul]
  by_cases h : k ≤ n
  · by_cases e : n = k
    · subst e; simp
    · obtain ⟨j, hj⟩ : ∃ j, n - k = j + 1 := ⟨n - k - 1, by omega⟩
      rw [hj, Nat.testBit_succ, show (2 * m) / 2 = m by omega]
      simp [h, e, show ¬ n < k by omega, show k < n by omega]
  · simp [h]
/-- the lowest bit alone, from the set and its negation -/
theorem and_neg {k m : Nat} (hb : 2 ^ k * (2 * m + 1) < 2 ^ 64) : 2 ^ k * (2 * m + 1) &&& (2 ^ 64 - 2 ^ k * (2 * m + 1)) = 2 ^ k := by
  have hp : 0 < 2 ^ k * (2 * m + 1) := Nat.mul_pos (Nat.two_pow_pos k) (by omega)
  refine Nat.eq_of_testBit_eq fun n => ?_
  rw [show 2 ^ 64 - 2 ^ k * (2 * m + 1) = 2 ^ 64 - ((2 ^ k * (2 * m + 1) - 1) + 1) by omega, Nat.testBit_and, Nat.testBit_two_pow_sub_succ (by omega), Nat.testBit_two_pow]
  by_cases e : n = k
  · subst e
    have hk : n < 64 := by
      refine Nat.lt_of_not_le fun h => ?_
      have h1 := Nat.pow_le_pow_right (n := 2) (by omega) h
      have h2 : 2 ^ n ≤ 2 ^ n * (2 * m + 1) := Nat.le_mul_of_pos_right _ (by omega)
      omega
    rw [odd_bit, pred_bit]; simp [hk]
  · rw [odd_bit, pred_bit]
    by_cases h : k ≤ n
    · have : k < n := by omega
      cases hm : m.testBit (n - k - 1) <;> simp [h, e, this, show ¬ n < k by omega, show ¬ k = n by omega]
    · simp [h, show ¬ k = n by omega]
/-- the lowest bit, and the multiplied word of math/bits at it -/
def lowB (S : Nat) : Nat := ((List.range 32).find? S.testBit).getD 0
def dbJ (k : Nat) : Nat := (2 ^ k * 285870213051353865) % 2 ^ 64 / 288230376151711744
theorem find_low {p : Nat → Bool} : ∀ {n k : Nat}, k < n → (∀ i, i < k → p i = false) → p k = true → (List.range n).find? p = some k := fun {n k} hk h0 h1 => by
  rw [List.find?_eq_some_iff_getElem]
  refine ⟨h1, k, by simpa using hk, by simp, fun j hj => by simpa using h0 j hj⟩
theorem filter_low {p : Nat → Bool} {n k : Nat} (hk : k < n) (h0 : ∀ i, i < k → p i = false) (h1 : p k = true) : (List.range n).filter p = k :: (List.range n).filter (fun i => p i && decide (i ≠ k)) := by
  have e : List.range n = List.range k ++ (k :: List.range' (k + 1) (n - k - 1)) := by
    rw [List.range_eq_range', List.range_eq_range']
    have := List.range'_append (s := 0) (m := k) (n := n - k) (step := 1)
    rw [show 0 + 1 * k = k by omega, show k + (n - k) = n by omega] at this
    rw [← this, show n - k = (n - k - 1) + 1 by omega, List.range'_succ]; rfl
  rw [e, List.filter_append, List.filter_append]
  have z1 : (List.range k).filter p = [] := List.filter_eq_nil_iff.2 fun i hi => by rw [h0 i (List.mem_range.1 hi)]; simp
  have z2 : (List.range k).filter (fun i => p i && decide (i ≠ k)) = [] := List.filter_eq_nil_iff.2 fun i hi => by rw [h0 i (List.mem_range.1 hi)]; simp
  rw [z1, z2, List.nil_append, List.nil_append, List.filter_cons_of_pos h1, List.filter_cons_of_neg (by simp)]
  congr 1
  refine List.filter_congr fun i hi => ?_
  have := List.mem_range'_1.1 hi
  simp [show i ≠ k by omega]
theorem low_spec {S : Nat} (h : S < 2 ^ 32) (h0 : S ≠ 0) : lowB S < 32 ∧ S.testBit (lowB S) = true ∧ S &&& (2 ^ 64 - S) = 2 ^ lowB S ∧ bitsOf S = lowB S :: bitsOf (S &&& (S - 1)) ∧ S &&& (S - 1) < S := by
  obtain ⟨k, m, rfl⟩ := odd_form S h0
  have hk : k < 32 := by
    refine Nat.lt_of_not_le fun h' => ?_
    have h1 := Nat.pow_le_pow_right (n := 2) (by omega) h'
    have h2 : 2 ^ k ≤ 2 ^ k * (2 * m + 1) := Nat.le_mul_of_pos_right _ (by omega)
    omega
  have b0 : ∀ i, i < k → (2 ^ k * (2 * m + 1)).testBit i = false := fun i hi => by rw [odd_bit]; simp; omega
  have b1 : (2 ^ k * (2 * m + 1)).testBit k = true := by rw [odd_bit]; simp
  have e : lowB (2 ^ k * (2 * m + 1)) = k := by unfold lowB; rw [find_low hk b0 b1]; rfl
  rw [e]
  refine ⟨hk, b1, and_neg (by omega), ?_, ?_⟩
  · unfold bitsOf
    rw [filter_low hk b0 b1, and_pred]
    congr 1
    refine List.filter_congr fun i _ => ?_
    rw [odd_bit, Nat.testBit_two_pow_mul]
    by_cases h1 : k ≤ i
    · by_cases e : i = k
      · subst e; simp
      · obtain ⟨j, hj⟩ : ∃ j, i - k = j + 1 := ⟨i - k - 1, by omega⟩
        rw [hj, Nat.testBit_succ, show (2 * m) / 2 = m by omega]; simp [e, h1]
    · simp [h1]
  · rw [and_pred, Nat.mul_succ]
    have := Nat.two_pow_pos k
    omega
theorem bits_mem {S n : Nat} (h : S < 2 ^ 32) : n ∈ bitsOf S ↔ S.testBit n = true := by
  unfold bitsOf
  rw [List.mem_filter, List.mem_range]
  refine ⟨fun h => h.2, fun hb => ⟨?_, hb⟩⟩
  refine Nat.lt_of_not_le fun h' => ?_
  have := Nat.testBit_lt_two_pow (x := S) (i := n) (Nat.lt_of_lt_of_le h (Nat.pow_le_pow_right (by omega) h'))
  rw [this] at hb; cases hb
theorem bits_len (S : Nat) : (bitsOf S).length ≤ 32 := Nat.le_trans (List.length_filter_le _ _) (by simp)
theorem db_tab : ∀ k : Fin 32, dbJ k.val < 64 := by decide +kernel
end Go.Proofs.YtdjldidfnddpmaaGreatDoor
