/- The walks of pick and of DiskNewMatches. Conditions: that integers are of 64 bits. -/
import Derived.Test.YtednelejpkchbaaLkA
namespace Go.Proofs.Ytednelejpkchbaa
open Go.RowKit

def absF (c : Int) : Int := if c < 0 then -(c + 1) else c
def pickF (c n : Int) : Int := absF c % n
theorem absF_nonneg (c : Int) : 0 ≤ absF c := by unfold absF; split <;> omega
theorem pickF_nonneg (c : Int) {n : Int} (h : 0 < n) : 0 ≤ pickF c n := Int.emod_nonneg _ (by omega)
theorem pickF_lt (c : Int) {n : Int} (h : 0 < n) : pickF c n < n := Int.emod_lt_of_pos _ h
set_option maxHeartbeats 400000 in
theorem pick_any (c n : Int) (w : World) (h1 : -9223372036854775808 ≤ c) (h2 : c ≤ 9223372036854775807) (hn : 0 < n) (hn2 : n ≤ 9223372036854775807) :
    Calls Try.prog 15 #[.int .i64 c, .int .i64 n] w (fun e w' => e = .returned (.int .i64 (pickF c n)) ∧ w' = w) := by
  have hne : n ≠ 0 := by omega
  have HF : Hid (pickF c n = absF c % n) := hide rfl
  have HP := hide (pickF_nonneg c hn)
  have HL := hide (pickF_lt c hn)
  by_cases hc : c < 0
  · have HA : Hid (absF c = -(c + 1)) := hide (by unfold absF; rw [if_pos hc])
    have HT : Hid ((-(c + 1)).tmod n = pickF c n) := hide (by rw [HF.out, HA.out]; exact Int.tmod_eq_emod_of_nonneg (by omega))
    go_enter Try.func15, Try.ntmps15
    go_wp2
    go_ret
    refine ⟨ret_int ?_, rfl⟩
    rw [← Int.neg_tmod]; exact HT.out
  · have HA : Hid (absF c = c) := hide (by unfold absF; rw [if_neg hc])
    have HT : Hid (c.tmod n = pickF c n) := hide (by rw [HF.out, HA.out]; exact Int.tmod_eq_emod_of_nonneg (by omega))
    go_enter Try.func15, Try.ntmps15
    go_wp2
    go_ret
    refine ⟨ret_int ?_, rfl⟩
    rw [HF.out, HA.out]
def i64B (x : Int) : Prop := -9223372036854775808 ≤ x ∧ x ≤ 9223372036854775807
theorem zero_read {n k : Nat} (h : k + 1 ≤ n) : (((disk0 n).vis.drop k).take 1) = [0] := by
  have e : (List.replicate n (0 : UInt8)).drop k = List.replicate (n - k) 0 := by simp
  show ((List.replicate n (0 : UInt8)).drop k).take 1 = [0]
  rw [e, List.take_replicate, Nat.min_eq_left (by omega)]; rfl
set_option maxRecDepth 20000 in
set_option maxHeartbeats 1000000 in
theorem newm_any (size at_ : Int) (w : World) (h1 : i64B size) (h2 : i64B at_) : Calls Try.prog 3 #[.int .i64 size, .int .i64 at_] w (Ret (.bool true) w) := by
  go_enter Try.func3, Try.ntmps3
  go_wp2_with fail
  refine (sane_any w).mono ?_
  rintro e w1 ⟨rfl, hb1⟩
  go_wp2_with fail
  refine (new_any size w1).mono ?_
  rintro e w2 (⟨hn, rfl, hw2⟩ | ⟨m, D, U, V, hm, hm1, hm2, rfl, hDB, hUB, hVB, hA, hL⟩)
  · obtain rfl := hw2
    by_cases hs : size < 1
    · clear hn
      go_wp2_with fail
      go_ret
      exact ⟨rfl, hb1⟩
    · have hs2 : 4194304 < size := by omega
      have hs3 : decide (size < 1) = false := decide_eq_false hs
      clear hn hs
      go_wp2_with fail
      go_ret
      exact ⟨rfl, hb1⟩
  · obtain rfl := hm
    have e1 : decide ((m : Int) < 1) = false := decide_eq_false (by omega)
    have e2 : decide (4194304 < (m : Int)) = false := decide_eq_false (by omega)
    obtain ⟨k, hk, hkm⟩ : ∃ k : Nat, pickF at_ m = k ∧ k < m := ⟨(pickF at_ m).toNat, by have := pickF_nonneg at_ (n := m) (by omega); omega, by have := pickF_lt at_ (n := m) (by omega); omega⟩
    have hp := pick_any at_ m w2 h2.1 h2.2 (by omega) (by omega)
    rw [hk] at hp
    have hr := read_in D U V _ (disk0 m) k 1 w2 hA rfl (by simp [disk0]; omega) rfl (by simp [disk0]; omega)
    rw [zero_read (by omega)] at hr
    have hz : Calls Try.prog 16 #[.pointer (some ⟨D, 0, none⟩)] w2 (NumQ m w2) := size_any D w2 _ m _ (by simpa [disk0] using hA.hD.cell 2 rfl)
    have hq : Calls Try.prog 17 #[.pointer (some ⟨D, 0, none⟩)] w2 (NumQ 0 w2) := pending_any D w2 none 0 0 (hA.hD.cell 4 rfl)
    have HP := hide hp
    have HR := hide hr
    have HZ := hide hz
    have HQ := hide hq
    have hmm : ((m : Int) == (m : Int)) = true := by simp
    clear hk hp hr hz hq hA
    go_wp2_with fail
    refine HP.out.mono ?_
    rintro e w3 ⟨rfl, hw3⟩
    obtain rfl := hw3.symm
    go_wp2_with fail
    refine HR.out.mono ?_
    rintro e w3 ⟨rfl, hw3⟩
    obtain rfl := hw3
    go_wp2_with (first | (go_at_call 16; refine HZ.out.mono ?_; rintro e w3 ⟨rfl, rfl⟩) | (go_at_call 17; refine HQ.out.mono ?_; rintro e w3 ⟨rfl, rfl⟩))
    go_ret
    exact ⟨rfl, below2 hb1 hL⟩
end Go.Proofs.Ytednelejpkchbaa
