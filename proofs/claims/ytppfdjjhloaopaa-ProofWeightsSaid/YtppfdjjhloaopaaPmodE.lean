/- Plain laws: sums over choices without a common thing. No condition. -/
import Derived.Test.YtppfdjjhloaopaaPmodC
namespace Go.Proofs.Ytppfdjjhloaopaa
open Go.RowKit

theorem bits_or_nat {a b : Nat} (ha : a < 2 ^ 62) (hb : b < 2 ^ 62) : bits BinOp.or IntKind.i64 (a : Int) (b : Int) = ((a ||| b : Nat) : Int) := by
  have h := Nat.or_lt_two_pow ha hb
  show IntKind.i64.wrap ((BitVec.ofInt 64 (a : Int) ||| BitVec.ofInt 64 (b : Int)).toNat : Int) = _
  rw [BitVec.toNat_or, BitVec.ofInt_natCast, BitVec.ofInt_natCast, BitVec.toNat_ofNat, BitVec.toNat_ofNat, Nat.mod_eq_of_lt (by omega), Nat.mod_eq_of_lt (by omega), IntKind.wrap_i64]
  omega
/-- a without the bits of b -/
def notIn (a b : Nat) : Nat := (BitVec.ofNat 64 a &&& ~~~(BitVec.ofNat 64 b)).toNat
theorem notIn_le (a b : Nat) (ha : a < 2 ^ 62) : notIn a b ≤ a := by
  unfold notIn
  rw [BitVec.toNat_and, BitVec.toNat_ofNat, Nat.mod_eq_of_lt (by omega)]
  exact Nat.and_le_left
theorem notIn_bit {a b k : Nat} (h : (notIn a b).testBit k = true) : b.testBit k = false := by
  unfold notIn at h
  rw [BitVec.toNat_and, Nat.testBit_and, Bool.and_eq_true, BitVec.testBit_toNat, BitVec.testBit_toNat] at h
  have h2 := h.2
  rw [BitVec.getLsbD_not, Bool.and_eq_true, BitVec.getLsbD_ofNat] at h2
  cases hk : b.testBit k
  · rfl
  · obtain ⟨h3, h4⟩ := h2
    rw [hk, Bool.and_true, h3] at h4; cases h4
theorem bits_andNot_nat {a b : Nat} (ha : a < 2 ^ 62) : bits BinOp.andNot IntKind.i64 (a : Int) (b : Int) = ((notIn a b : Nat) : Int) := by
  have h := notIn_le a b ha
  show IntKind.i64.wrap ((BitVec.ofInt 64 (a : Int) &&& ~~~(BitVec.ofInt 64 (b : Int))).toNat : Int) = _
  rw [BitVec.ofInt_natCast, BitVec.ofInt_natCast]
  show IntKind.i64.wrap ((notIn a b : Nat) : Int) = _
  rw [IntKind.wrap_i64]
  omega
theorem bit_of (s k : Nat) : (s / 2 ^ k % 2 = 1) ↔ s.testBit k = true := by
  rw [Nat.testBit_eq_decide_div_mod_eq, decide_eq_true_eq]
theorem chosK_or {a b : Nat} (h : ∀ k, b.testBit k = true → a.testBit k = false) (l : List Int) : ∀ k, chosK l (a ||| b) k = chosK l a k + chosK l b k
  | 0 => rfl
  | k + 1 => by
    simp only [chosK, chosK_or h l k, bit_of, Nat.testBit_or]
    cases h1 : a.testBit k <;> cases h2 : b.testBit k
    · simp
    · simp; omega
    · simp; omega
    · rw [h k h2] at h1; cases h1
theorem chosenF_or {a b : Nat} (h : ∀ k, b.testBit k = true → a.testBit k = false) (l : List Int) : chosenF l (a ||| b) = chosenF l a + chosenF l b := chosK_or h l _
/-- the sum of a right row for a choice -/
theorem sumF_in {r : RowD} {n : Nat} (hn : n ≤ 12) (hr : rightB r n = true) {s : Nat} (hs : s < 2 ^ n) : sumF r s = chosenF r.coef s := by
  have h1 : r.coef.length = n := by
    simp only [rightB, Bool.and_eq_true, lenB, decide_eq_true_eq] at hr
    exact Int.ofNat.inj hr.1.1
  have h2 : isInB 0 (s : Int) (2 ^ r.coef.length - 1) = true := by
    have e : (2 : Int) ^ n = ((2 ^ n : Nat) : Int) := by simp
    rw [h1, e]
    simp only [isInB, decide_eq_true_eq]
    omega
  have h3 : decide (r.coef.length ≤ 12) = true := by simpa [h1] using hn
  unfold sumF
  rw [h2, h3, h1, hr]
  simp
theorem choiceB_in {p : ProgD} (hv : validB p = true) {n : Nat} (hn : p.vars = n) {s : Nat} (hs : s < 2 ^ n) : choiceB p s = true := by
  have e : (2 : Int) ^ n = ((2 ^ n : Nat) : Int) := by simp
  unfold choiceB
  rw [hv, hn]
  simp only [isInB, Int.toNat_natCast, Bool.true_and, decide_eq_true_eq, e]
  omega
theorem gainF_in {p : ProgD} (hv : validB p = true) {n : Nat} (hn : p.vars = n) {s : Nat} (hs : s < 2 ^ n) : gainF p s = chosenF p.gain s := by
  unfold gainF; rw [choiceB_in hv hn hs]; simp
theorem keepsB_in {p : ProgD} (hv : validB p = true) {n : Nat} (hn : p.vars = n) {s : Nat} (hs : s < 2 ^ n) : keepsB p s = keptAll p.rows s := by
  unfold keepsB; rw [choiceB_in hv hn hs]; simp [keptAll, keptB]
theorem brokenF_in {p : ProgD} (hv : validB p = true) {n : Nat} (hn : p.vars = n) {s : Nat} (hs : s < 2 ^ n) : brokenF p s = brokenUp p.rows s p.rows.length := by
  unfold brokenF; rw [choiceB_in hv hn hs]; simp
theorem brokenUp_pre (l : List RowD) (s : Nat) {k : Nat} : ∀ {m : Nat}, k ≤ m → brokenUp l s k <+: brokenUp l s m
  | 0, h => by obtain rfl : k = 0 := by omega
               exact List.prefix_refl _
  | m + 1, h => by
    rcases Nat.lt_or_ge m k with h1 | h1
    · obtain rfl : k = m + 1 := by omega
      exact List.prefix_refl _
    · have ih := brokenUp_pre l s h1
      cases hg : keptB (l.getD m row0) s
      · rw [brokenUp_no hg]; exact ih.trans (List.prefix_append _ _)
      · rw [brokenUp_yes hg]; exact ih
theorem brokenUp_empty (l : List RowD) (s : Nat) : decide ((brokenUp l s l.length).length = 0) = keptAll l s := by
  rw [Bool.eq_iff_iff, decide_eq_true_eq, keptAll, List.all_eq_true, List.length_eq_zero_iff]
  constructor
  · intro h r hr
    obtain ⟨i, hi, rfl⟩ := List.getElem_of_mem hr
    cases hk : keptB l[i] s
    · have : ((i : Nat) : Int) ∈ brokenUp l s l.length := List.mem_map.2 ⟨i, List.mem_filter.2 ⟨List.mem_range.2 hi, by rw [List.getD_eq_getElem?_getD, List.getElem?_eq_getElem hi]; simp [hk]⟩, rfl⟩
      rw [h] at this; cases this
    · rfl
  · intro h
    refine List.eq_nil_iff_forall_not_mem.2 fun x hx => ?_
    obtain ⟨i, hi, rfl⟩ := List.mem_map.1 hx
    obtain ⟨h1, h2⟩ := List.mem_filter.1 hi
    rw [h _ (getD_mem l i (List.mem_range.1 h1))] at h2
    cases h2
/-- the next broken row in the list -/
theorem broken_at {l : List RowD} {s k : Nat} (hk : k < l.length) (h : keptB (l.getD k row0) s = false) :
    (brokenUp l s k).length < (brokenUp l s l.length).length ∧ (brokenUp l s l.length).getD (brokenUp l s k).length 0 = k := by
  obtain ⟨t, ht⟩ := brokenUp_pre l s (show k + 1 ≤ l.length from hk)
  rw [brokenUp_no h, List.append_assoc] at ht
  rw [← ht]
  refine ⟨by simp, ?_⟩
  rw [getD_app_right _ _ _ _ (Nat.le_refl _)]
  simp
theorem valid_right {p : ProgD} (h : validB p = true) {r : RowD} (hr : r ∈ p.rows) : rightB r p.vars = true := by
  simp only [validB, Bool.and_eq_true] at h
  exact List.all_eq_true.1 h.1.1.2 r hr
end Go.Proofs.Ytppfdjjhloaopaa
