/- Plain lemmas on lists and on the wrap of integers. No condition. -/
import Derived.WalkKit
namespace Go.Proofs.YtdjldidfnddpmaaGreatDoor
open Go.RowKit

theorem getD_mem {α : Type} (l : List α) (k : Nat) {d : α} (h : k < l.length) : l.getD k d ∈ l := by
  rw [List.getD_eq_getElem?_getD, List.getElem?_eq_getElem h]; exact List.getElem_mem h
theorem all_at {α : Type} {l : List α} {p : α → Bool} (hl : l.all p = true) {k : Nat} {d : α} (h : k < l.length) : p (l.getD k d) = true :=
  List.all_eq_true.1 hl _ (getD_mem l k h)
theorem all_no {α : Type} {l : List α} {p : α → Bool} {k : Nat} {d : α} (h : k < l.length) (hx : p (l.getD k d) = false) : l.all p = false := by
  rw [← Bool.not_eq_true]; intro hl; rw [all_at hl h] at hx; cases hx
theorem take_succ' {α : Type} (l : List α) (k : Nat) (d : α) (h : k < l.length) : l.take (k + 1) = l.take k ++ [l.getD k d] := by
  rw [List.take_succ_eq_append_getElem h, List.getD_eq_getElem?_getD, List.getElem?_eq_getElem h]; rfl
theorem all_take_succ {α : Type} {l : List α} {p : α → Bool} {k : Nat} {d : α} (h : k < l.length) (h1 : (l.take k).all p = true) (h2 : p (l.getD k d) = true) : (l.take (k + 1)).all p = true := by
  rw [take_succ' l k d h, List.all_append, h1, List.all_cons, h2, List.all_nil]; rfl
theorem all_take_end {α : Type} {l : List α} {p : α → Bool} {k : Nat} (h : l.length ≤ k) (h1 : (l.take k).all p = true) : l.all p = true := by
  rw [List.take_of_length_le h] at h1; exact h1
theorem wrap_id {x : Int} (h1 : -9223372036854775808 ≤ x) (h2 : x ≤ 9223372036854775807) : wrap64 x = x := IntWalk.wrap64_in x ⟨h1, h2⟩
theorem shr_cast (s k : Nat) : (s : Int) / 2 ^ k = ((s / 2 ^ k : Nat) : Int) := by
  rw [Int.natCast_ediv]; simp
theorem tmod_cast (n : Nat) : ((n : Nat) : Int).tmod 2 = ((n % 2 : Nat) : Int) := by
  rw [Int.tmod_eq_emod_of_nonneg (by omega)]; omega
theorem any_take_succ {α : Type} {l : List α} {p : α → Bool} {k : Nat} {d : α} (h : k < l.length) (h1 : (l.take k).any p = false) (h2 : p (l.getD k d) = false) : (l.take (k + 1)).any p = false := by
  rw [take_succ' l k d h, List.any_append, h1, List.any_cons, h2, List.any_nil]; rfl
theorem any_take_end {α : Type} {l : List α} {p : α → Bool} {k : Nat} (h : l.length ≤ k) (h1 : (l.take k).any p = false) : l.any p = false := by
  rw [List.take_of_length_le h] at h1; exact h1
/-- the index of the first element of which p holds, or -1 -/
def idxF {α : Type} (p : α → Bool) : List α → Int
  | [] => -1
  | x :: t => if p x then 0 else (let i := idxF p t; if i < 0 then -1 else i + 1)
theorem idxF_none {α : Type} (p : α → Bool) : ∀ l : List α, l.any p = false → idxF p l = -1
  | [], _ => rfl
  | x :: t, h => by
    simp only [List.any_cons, Bool.or_eq_false_iff] at h
    simp [idxF, h.1, idxF_none p t h.2]
theorem idxF_found {α : Type} (p : α → Bool) {d : α} : ∀ (l : List α) (k : Nat), k < l.length → (l.take k).any p = false → p (l.getD k d) = true → idxF p l = k
  | [], k, h, _, _ => by simp at h
  | x :: t, 0, _, _, h2 => by simp at h2; simp [idxF, h2]
  | x :: t, k + 1, h, h1, h2 => by
    simp only [List.take_succ_cons, List.any_cons, Bool.or_eq_false_iff] at h1
    have ih := idxF_found p (d := d) t k (by simpa using h) h1.2 (by simpa using h2)
    simp only [idxF, h1.1, ih]
    rw [if_neg (by simp), if_neg (by omega)]; simp
theorem idxF_any {α : Type} (p : α → Bool) : ∀ l : List α, decide (0 ≤ idxF p l) = l.any p
  | [] => rfl
  | x :: t => by
    have ih := idxF_any p t
    cases h : p x
    · simp only [idxF, h, List.any_cons, Bool.false_or, ← ih]
      rw [if_neg (by simp)]
      by_cases h0 : idxF p t < 0
      · rw [if_pos h0]; simp; omega
      · rw [if_neg h0]; simp; omega
    · simp [idxF, h]
theorem i64_and1 (n : Int) : bits .and .i64 n 1 = n % 2 := by
  have h1 : (BitVec.ofInt 64 1).toNat = 2 ^ 1 - 1 := by decide
  have key : (BitVec.ofInt 64 n &&& BitVec.ofInt 64 1).toNat = (n % ((2 ^ 64 : Nat) : Int)).toNat % 2 ^ 1 := by
    rw [BitVec.toNat_and, BitVec.toNat_ofInt, h1, Nat.and_two_pow_sub_one_eq_mod]
  show IntKind.i64.wrap ((BitVec.ofInt 64 n &&& BitVec.ofInt 64 1).toNat : Nat) = n % 2
  rw [key, IntKind.wrap_i64]
  omega
theorem bit_yes {s k : Nat} (h : s / 2 ^ k % 2 = 1) : (bits BinOp.and IntKind.i64 ((s : Int) / 2 ^ k) 1 == 1) = true := by
  rw [shr_cast, i64_and1, beq_iff_eq]; omega
theorem bit_no {s k : Nat} (h : ¬ s / 2 ^ k % 2 = 1) : (bits BinOp.and IntKind.i64 ((s : Int) / 2 ^ k) 1 == 1) = false := by
  rw [shr_cast, i64_and1, beq_eq_false_iff_ne]; omega
theorem pow_bd {n : Nat} (h : n ≤ 13) : 1 ≤ (2 : Int) ^ n ∧ (2 : Int) ^ n ≤ 8192 := by
  have h1 : 2 ^ n ≤ 2 ^ 13 := Nat.pow_le_pow_right (by omega) h
  have h2 : 1 ≤ 2 ^ n := Nat.one_le_two_pow
  have h3 : (2 : Int) ^ n = ((2 ^ n : Nat) : Int) := by simp
  rw [h3]; omega
theorem pow_wrap {n : Nat} (h : n ≤ 13) : wrap64 (wrap64 (2 ^ n) - 1) = 2 ^ n - 1 := by
  have := pow_bd h
  rw [wrap_id (x := 2 ^ n) (by omega) (by omega), wrap_id (by omega) (by omega)]
theorem getD_app_left {α : Type} (l m : List α) (d : α) (i : Nat) (h : i < l.length) : (l ++ m).getD i d = l.getD i d := by
  rw [List.getD_eq_getElem?_getD, List.getD_eq_getElem?_getD, List.getElem?_append_left h]
theorem getD_app_right {α : Type} (l m : List α) (d : α) (i : Nat) (h : l.length ≤ i) : (l ++ m).getD i d = m.getD (i - l.length) d := by
  rw [List.getD_eq_getElem?_getD, List.getD_eq_getElem?_getD, List.getElem?_append_right h]
end Go.Proofs.YtdjldidfnddpmaaGreatDoor
