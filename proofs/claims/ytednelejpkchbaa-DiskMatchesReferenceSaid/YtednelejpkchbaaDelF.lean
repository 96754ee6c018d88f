/- slices.DeleteFunc and slices.IndexFunc with the closure of Crash. Conditions: how the arguments lie in memory. -/
import Derived.Test.YtednelejpkchbaaSorted
import Derived.Test.YtednelejpkchbaaDkI
import Derived.Test.YtednelejpkchbaaLists
namespace Go.Proofs.Ytednelejpkchbaa
open Go.RowKit

def outB (m : Nat) (i : Int) : Bool := decide (i < 0) || decide ((m : Int) ≤ i)
/-- the closure reads the number of pending writes -/
def Reads (Bx D m : Nat) (w : World) : Prop := w.cell? ⟨Bx, 0, none⟩ = some (.pointer (some ⟨D, 0, none⟩)) ∧ ∃ p c, w.cell? ⟨D, 4, none⟩ = some (.slice p m c)
theorem crash1_any (i : Int) (Bx D m : Nat) (w : World) (h : Reads Bx D m w) : Calls Try.prog 42 #[.int .i64 i, .pointer (some ⟨Bx, 0, none⟩)] w (BoolQ (outB m i) w) := by
  obtain ⟨c0, p, c, c1⟩ := h
  have HF : Hid (outB m i = (decide (i < 0) || decide ((m : Int) ≤ i))) := hide rfl
  by_cases h1 : i < 0
  · go_enter Try.func42, Try.ntmps42
    go_wp2
    go_ret
    exact ⟨ret_bool (by rw [HF.out]; simp [h1]), rfl⟩
  · by_cases h2 : (m : Int) ≤ i
    · go_enter Try.func42, Try.ntmps42
      go_wp2
      go_ret
      exact ⟨ret_bool (by rw [HF.out]; simp [h2]), rfl⟩
    · go_enter Try.func42, Try.ntmps42
      go_wp2
      go_ret
      exact ⟨ret_bool (by rw [HF.out]; simp; omega), rfl⟩
theorem take_any_succ {l : List Int} {p : Int → Bool} {k : Nat} (h : k < l.length) (h1 : (l.take k).any p = false) (h2 : p (l.getD k 0) = false) : (l.take (k + 1)).any p = false := by
  rw [take_snocI l k h, List.any_append, h1]; simpa using h2
set_option maxHeartbeats 1000000 in
theorem idx_any (l : List Int) (v : Value) (Bx D m : Nat) (w : World) (hv : IntsAt w v l) (h : Reads Bx D m w) :
    Calls Try.prog 48 #[v, .func (.func 42) #[] #[.pointer (some ⟨Bx, 0, none⟩)]] w (NumQ (idxF (outB m) l) w) := by
  obtain ⟨a, c, rfl, h1, h2, hc⟩ := hv
  have HR := hide h
  have hll : (l.length : Int) ≤ 9223372036854775807 := by omega
  clear h
  go_enter Try.func48, Try.ntmps48
  go_wp2_with fail
  go_loop [8] (fun i => ∃ k : Nat, k ≤ l.length ∧ i = .int .i64 k ∧ Hid ((l.take k).any (outB m) = false)) (fun i => l.length - (intOf i).toNat)
  case atStart => exact ⟨0, by omega, rfl, hide (by simp)⟩
  case round =>
    obtain ⟨k, hk, rfl, HK⟩ := hrel
    by_cases hlt : k < l.length
    · obtain ⟨b, o, rfl, hck⟩ := hc k hlt
      have HF := hide (idxF_found (outB m) (d := 0) l k hlt HK.out)
      have HN := hide (take_any_succ (p := outB m) hlt HK.out)
      generalize l.getD k 0 = x at hck HF HN
      clear hc
      cases hx : outB m x
      · have HX := hide hx
        clear hx
        go_wp2_with (go_at_call 42; refine (crash1_any x Bx D m _ HR.out).mono ?_; rw [HX.out]; rintro e w1 ⟨rfl, rfl⟩)
        go_round
        case rel => exact ⟨k + 1, by omega, by go_num, hide (HN.out HX.out)⟩
        case measure => simp [intOf]; omega
      · have HX := hide hx
        clear hx
        go_wp2_with (go_at_call 42; refine (crash1_any x Bx D m _ HR.out).mono ?_; rw [HX.out]; rintro e w1 ⟨rfl, rfl⟩)
        go_ret
        exact ⟨ret_int (HF.out HX.out).symm, rfl⟩
    · obtain rfl : k = l.length := by omega
      have HN := hide (idxF_none (outB m) l (by have := HK.out; rwa [List.take_length] at this))
      go_wp2
      go_ret
      exact ⟨ret_int HN.out.symm, rfl⟩
end Go.Proofs.Ytednelejpkchbaa
