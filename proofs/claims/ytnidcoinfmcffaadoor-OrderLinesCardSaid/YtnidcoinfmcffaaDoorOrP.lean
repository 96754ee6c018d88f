/- Plain: the best antichain has as many things as the cover has chains. No condition. -/
import Derived.Test.YtnidcoinfmcffaaDoorOsY
import Derived.Test.YtnidcoinfmcffaaDoorOqB
namespace Go.Proofs.YtnidcoinfmcffaaDoor
theorem things_mem {S x : Nat} (hS : S < 256) : x ∈ thingsO S ↔ S.testBit x = true := by
  unfold thingsO
  rw [List.mem_filter, List.mem_range]
  exact ⟨fun h => h.2, fun h => ⟨bit_lo hS h, h⟩⟩
theorem things_nodup (S : Nat) : (thingsO S).Nodup := List.Nodup.sublist List.filter_sublist List.nodup_range
theorem things_asc (S : Nat) : (thingsO S).Pairwise fun a b => a < b := List.Pairwise.filter _ List.pairwise_lt_range
theorem belO_bit (R : RelO) (a : Nat) : ∀ l : List Nat, (belO R l).testBit a = (decide (a < 8) && l.any fun x => R a x)
  | [] => by simp [belO]
  | x :: l => by
    show (bitsO (fun a => R a x) ||| belO R l).testBit a = _
    rw [Nat.testBit_or, bits_test, belO_bit R a l, List.any_cons]
    cases decide (a < 8) <;> simp
def indO (R : RelO) (S : Nat) : Prop := ∀ a b, S.testBit a = true → S.testBit b = true → R a b = false
theorem anti_test {R : RelO} {S : Nat} (hS : S < 256) : (belO R (thingsO S) &&& S == 0) = true ↔ indO R S := by
  rw [beq_iff_eq]
  constructor
  · intro h a b ha hb
    cases e : R a b with
    | false => rfl
    | true =>
      have h1 : (belO R (thingsO S) &&& S).testBit a = false := by rw [h, Nat.zero_testBit]
      rw [Nat.testBit_and, belO_bit, ha, Bool.and_true, decide_eq_true (bit_lo hS ha), Bool.true_and, List.any_eq_false] at h1
      exact absurd e (h1 b ((things_mem hS).2 hb))
  · intro h
    refine Nat.eq_of_testBit_eq fun a => ?_
    rw [Nat.testBit_and, belO_bit, Nat.zero_testBit]
    cases e : S.testBit a with
    | false => simp
    | true =>
      have : ((thingsO S).any fun x => R a x) = false := by
        rw [List.any_eq_false]
        intro x hx
        rw [h a x e ((things_mem hS).1 hx)]; exact Bool.false_ne_true
      rw [this]; simp
theorem cmpI_neg {x y : Int} : cmpI x y < 0 → x ≤ y := by
  unfold cmpI
  split
  · intro _; omega
  · split
    · intro h; omega
    · intro _; omega
theorem better_len {b l : List Int} (h : betterO b l = true) : b.length ≤ l.length := by
  unfold betterO at h
  have h := of_decide_eq_true h
  unfold orL at h
  split at h
  · rename_i e
    unfold cmpI at e
    split at e
    · cases e
    · split at e
      · cases e
      · omega
  · have := cmpI_neg h; omega
theorem better_more {b l : List Int} (h : b.length < l.length) : betterO b l = true := by
  unfold betterO
  have e : cmpI b.length l.length = -1 := by unfold cmpI; rw [if_pos (by omega)]
  rw [e]; rfl
theorem natsO_len (l : List Nat) : (natsO l).length = l.length := by unfold natsO; rw [List.length_map]
theorem antiK_spec (R : RelO) : ∀ k, k ≤ 256 → (∃ S, (S < k ∨ S = 0) ∧ antiK R k = thingsO S ∧ indO R S) ∧ ∀ S, S < k → indO R S → (thingsO S).length ≤ (antiK R k).length
  | 0, _ => ⟨⟨0, .inr rfl, rfl, fun a b h => by rw [Nat.zero_testBit] at h; cases h⟩, fun S h => absurd h (Nat.not_lt_zero _)⟩
  | k + 1, hk => by
    obtain ⟨⟨T, hT, eT, iT⟩, h2⟩ := antiK_spec R k (by omega)
    unfold antiK
    split
    · rename_i e
      rw [Bool.and_eq_true] at e
      have hi := (anti_test (by omega)).1 e.1
      have hb := better_len e.2
      rw [natsO_len, natsO_len] at hb
      refine ⟨⟨k, .inl (by omega), rfl, hi⟩, fun S hS hiS => ?_⟩
      rcases Nat.lt_or_ge S k with h | h
      · exact Nat.le_trans (h2 S h hiS) hb
      · obtain rfl : S = k := by omega
        exact Nat.le_refl _
    · rename_i e
      refine ⟨⟨T, hT.imp (fun h => by omega) id, eT, iT⟩, fun S hS hiS => ?_⟩
      rcases Nat.lt_or_ge S k with h | h
      · exact h2 S h hiS
      · obtain rfl : S = k := by omega
        rw [Bool.and_eq_true, not_and] at e
        refine Classical.byContradiction fun hl => e ((anti_test (by omega)).2 hiS) (better_more ?_)
        rw [natsO_len, natsO_len]
        omega
theorem anti_is {n : Nat} {R : RelO} (hn : n ≤ 8) : AntiO n R (antiO n R) ∧ (antiO n R).Pairwise (fun a b => a < b) ∧ ∀ A, AntiO n R A → A.length ≤ (antiO n R).length := by
  obtain ⟨⟨S, hS, e, hi⟩, h2⟩ := antiK_spec R (2 ^ n) (pow_256 hn)
  have hp : 0 < 2 ^ n := Nat.pow_pos (by decide)
  have hSn : S < 2 ^ n := by omega
  have h256 := pow_256 hn
  have e' : antiO n R = thingsO S := e
  rw [e']
  refine ⟨⟨things_nodup S, fun a ha => bit_n hSn ((things_mem (by omega)).1 ha), fun a ha b hb => hi a b ((things_mem (by omega)).1 ha) ((things_mem (by omega)).1 hb)⟩, things_asc S, fun A hA => ?_⟩
  have hb : ∀ a, (bitsO fun a => A.contains a).testBit a = A.contains a := fun a => by
    rw [bits_test]
    cases h : A.contains a with
    | false => simp
    | true =>
      have := hA.lt a (by simpa using h)
      rw [decide_eq_true (by omega)]; rfl
  have hlt : (bitsO fun a => A.contains a) < 2 ^ n := Nat.lt_pow_two_of_testBit _ fun i hi => by
    rw [hb]
    cases h : A.contains i with
    | false => rfl
    | true => have := hA.lt i (by simpa using h); omega
  have := h2 _ hlt fun a b ha hb' => by
    rw [hb] at ha hb'
    exact hA.no a (by simpa using ha) b (by simpa using hb')
  rw [show antiK R (2 ^ n) = antiO n R from rfl, e'] at this
  refine Nat.le_trans (nodup_sub hA.nod fun a ha => ?_) this
  rw [things_mem (by omega), hb]
  simpa using ha
theorem dilworth {n : Nat} {R : RelO} (h : PoO n R) (hn : n ≤ 8) : (antiO n R).length = (coverO n R).length := by
  obtain ⟨h1, -, h3⟩ := anti_is (R := R) hn
  obtain ⟨A, hA, hl⟩ := cover_low h
  have := h3 A hA
  have := cover_up h h1
  omega
end Go.Proofs.YtnidcoinfmcffaaDoor
