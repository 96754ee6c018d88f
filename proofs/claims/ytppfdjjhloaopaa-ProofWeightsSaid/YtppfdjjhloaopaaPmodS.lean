/- Plain words: rows that a proof may speak of; bounds of sums. No condition. -/
import Derived.Test.YtppfdjjhloaopaaPmodJ
namespace Go.Proofs.Ytppfdjjhloaopaa
open Go.RowKit

/-- rows that a proof may speak of -/
def RowsOk (rows : List RowD) (n : Nat) : Prop := ∀ r ∈ rows, r.coef.length = n ∧ coefsB r.coef = true ∧ -1000000000000 ≤ r.most ∧ r.most ≤ 1000000000000
theorem mul_bd {a b M : Int} (ha : 1 ≤ a ∧ a ≤ 1000) (hb : -M ≤ b ∧ b ≤ M) (hM : 0 ≤ M) : -(1000 * M) ≤ a * b ∧ a * b ≤ 1000 * M := by
  have h1 : a * (-M) ≤ a * b := Int.mul_le_mul_of_nonneg_left hb.1 (by omega)
  have h2 : a * b ≤ a * M := Int.mul_le_mul_of_nonneg_left hb.2 (by omega)
  have h3 : a * M ≤ 1000 * M := Int.mul_le_mul_of_nonneg_right ha.2 hM
  have h4 : a * (-M) = -(a * M) := by rw [Int.mul_neg]
  omega
theorem okWts_le {m : Nat} {ws : List (Int × Int)} {i k : Nat} (h : okWts m ws k = true) (hi : i ≤ k) : okWts m ws i = true :=
  List.all_eq_true.2 fun x hx => List.all_eq_true.1 h x (List.mem_range.2 (by have := List.mem_range.1 hx; omega))
theorem okWts_succ (m : Nat) (ws : List (Int × Int)) (k : Nat) : okWts m ws (k + 1) = (okWts m ws k && okWt m ws k) := by
  simp [okWts, List.range_succ]
theorem okWts_no {m : Nat} {ws : List (Int × Int)} {i k : Nat} (h : okWt m ws i = false) (hi : i < k) : okWts m ws k = false := by
  rw [← Bool.not_eq_true]; intro hm
  have := List.all_eq_true.1 hm i (List.mem_range.2 hi)
  rw [h] at this; cases this
theorem okWt_parts {m : Nat} {ws : List (Int × Int)} {i : Nat} (h : okWt m ws i = true) : 0 ≤ (ws.getD i wt0).1 ∧ (ws.getD i wt0).1 < m ∧ 1 ≤ (ws.getD i wt0).2 ∧ (ws.getD i wt0).2 ≤ 1000 := by
  simp only [okWt, Bool.and_eq_true, decide_eq_true_eq] at h
  exact ⟨h.1.1.1.1, h.1.1.1.2, h.1.1.2, h.1.2⟩
theorem mostW_bd {rows : List RowD} {n : Nat} (hr : RowsOk rows n) {ws : List (Int × Int)} : ∀ i, okWts rows.length ws i = true → -(1000000000000000 * i : Int) ≤ mostW rows ws i ∧ mostW rows ws i ≤ 1000000000000000 * i
  | 0, _ => by simp [mostW]
  | i + 1, h => by
    rw [okWts_succ, Bool.and_eq_true] at h
    have ih := mostW_bd hr i h.1
    obtain ⟨h1, h2, h3, h4⟩ := okWt_parts h.2
    have h5 := hr _ (getD_mem rows (ws.getD i wt0).1.toNat (d := row0) (by omega))
    have h6 := mul_bd ⟨h3, h4⟩ (M := 1000000000000) ⟨h5.2.2.1, h5.2.2.2⟩ (by omega)
    simp only [mostW]; omega
theorem coefs_getD {l : List Int} (h : coefsB l = true) (k : Nat) : -1000000000 ≤ l.getD k 0 ∧ l.getD k 0 ≤ 1000000000 := by
  rcases Nat.lt_or_ge k l.length with h1 | h1
  · have := all_at (d := 0) h h1
    simpa [bndB] using this
  · rw [List.getD_eq_getElem?_getD, List.getElem?_eq_none h1]; simp
theorem sumW_bd {rows : List RowD} {n : Nat} (hr : RowsOk rows n) {ws : List (Int × Int)} (k : Nat) : ∀ i, okWts rows.length ws i = true → -(1000000000000 * i : Int) ≤ sumW rows ws k i ∧ sumW rows ws k i ≤ 1000000000000 * i
  | 0, _ => by simp [sumW]
  | i + 1, h => by
    rw [okWts_succ, Bool.and_eq_true] at h
    have ih := sumW_bd hr k i h.1
    obtain ⟨h1, h2, h3, h4⟩ := okWt_parts h.2
    have h5 := hr _ (getD_mem rows (ws.getD i wt0).1.toNat (d := row0) (by omega))
    have h6 := mul_bd ⟨h3, h4⟩ (M := 1000000000) (coefs_getD h5.2.1 k) (by omega)
    simp only [sumW]; omega
/-- the sums behind i weights, of which the first k have the next one, too -/
def sumsUp (rows : List RowD) (ws : List (Int × Int)) (n i k : Nat) : List Int := (List.range n).map fun j => sumW rows ws j (if j < k then i + 1 else i)
theorem sumsUp_len (rows : List RowD) (ws : List (Int × Int)) (n i k : Nat) : (sumsUp rows ws n i k).length = n := by simp [sumsUp]
theorem sumsUp_zero (rows : List RowD) (ws : List (Int × Int)) (n : Nat) : sumsUp rows ws n 0 0 = List.replicate n 0 := by
  refine List.ext_getElem (by simp [sumsUp]) fun k h1 h2 => ?_
  simp [sumsUp, sumW]
theorem sumsUp_full (rows : List RowD) (ws : List (Int × Int)) (n i : Nat) : sumsUp rows ws n i n = sumsUp rows ws n (i + 1) 0 := by
  refine List.ext_getElem (by simp [sumsUp]) fun k h1 h2 => ?_
  simp [sumsUp] at h1 ⊢
  rw [if_pos h1]
theorem sumsUp_get {rows : List RowD} {ws : List (Int × Int)} {n i k j : Nat} (h : j < n) : (sumsUp rows ws n i k)[j]? = some (sumW rows ws j (if j < k then i + 1 else i)) := by
  simp [sumsUp, List.getElem?_map, List.getElem?_range h]
theorem sumsUp_set {rows : List RowD} {ws : List (Int × Int)} {n i k : Nat} : (sumsUp rows ws n i k).set k (sumW rows ws k (i + 1)) = sumsUp rows ws n i (k + 1) := by
  refine List.ext_getElem? fun j => ?_
  by_cases hj : j < n
  · by_cases e : k = j
    · subst e; rw [List.getElem?_set_self (by rw [sumsUp_len]; exact hj), sumsUp_get hj, if_pos (by omega)]
    · rw [List.getElem?_set_ne e, sumsUp_get hj, sumsUp_get hj]
      by_cases h1 : j < k
      · rw [if_pos h1, if_pos (by omega)]
      · rw [if_neg h1, if_neg (by omega)]
  · rw [List.getElem?_eq_none (by simp [sumsUp_len]; omega), List.getElem?_eq_none (by simp [sumsUp_len]; omega)]
theorem minK_bd {rows : List RowD} {n : Nat} (hr : RowsOk rows n) {ws : List (Int × Int)} {dec : List Int} (ho : okWts rows.length ws ws.length = true) : ∀ k : Nat, -(1000000000000 * ws.length * k : Int) ≤ minK rows ws dec k ∧ minK rows ws dec k ≤ 1000000000000 * ws.length * k
  | 0 => by simp [minK]
  | k + 1 => by
    have ih := minK_bd (dec := dec) hr ho k
    have h1 := sumW_bd hr k ws.length ho
    have e : (1000000000000 * ws.length * ((k + 1 : Nat) : Int) : Int) = 1000000000000 * ws.length * k + 1000000000000 * ws.length := by rw [Int.natCast_add, Int.mul_add]; simp
    rw [e]
    simp only [minK]
    generalize (1000000000000 * (ws.length : Int) * (k : Int)) = A at ih
    split <;> omega
theorem small_bd {a b : Nat} {x : Int} (h : -(1000000000000 * a * b : Int) ≤ x ∧ x ≤ 1000000000000 * a * b) (ha : a ≤ 8) (hb : b ≤ 12) : -100000000000000 ≤ x ∧ x ≤ 100000000000000 := by
  have h1 : a * b ≤ 8 * 12 := Nat.mul_le_mul ha hb
  have h2 : (1000000000000 * (a : Int) * b : Int) = 1000000000000 * ((a * b : Nat) : Int) := by rw [Int.natCast_mul, Int.mul_assoc]
  omega
end Go.Proofs.Ytppfdjjhloaopaa
