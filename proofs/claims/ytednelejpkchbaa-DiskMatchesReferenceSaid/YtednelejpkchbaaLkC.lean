/- The walks of cut and of DiskNil. Conditions: that integers are of 64 bits; how the list lies in memory. -/
import Derived.Test.YtednelejpkchbaaLkB
namespace Go.Proofs.Ytednelejpkchbaa
open Go.RowKit

def cutS (s : ByteArray) (n : Nat) : ByteArray := s.extract 0 (min s.size n)
/-- the call returns a string and turns nothing -/
def Str1Q (s : ByteArray) (w : World) (e : Ending) (w' : World) : Prop := e = .returned (.string s) ∧ w = w'
set_option maxRecDepth 20000 in
theorem cut_any (s : ByteArray) (n : Nat) (w : World) (h : (s.size : Int) ≤ 9223372036854775807) (hn : (n : Int) ≤ 9223372036854775807) : Calls Try.prog 22 #[.string s, .int .i64 n] w (Str1Q (cutS s n) w) := by
  have HE : Hid (s.extract 0 (min (s.size : Int) (n : Int)).toNat = cutS s n) := hide (by unfold cutS; congr 1; omega)
  go_enter Try.func22, Try.ntmps22
  go_wp2
  go_ret
  exact ⟨by simp; exact HE.out, rfl⟩
set_option maxRecDepth 20000 in
set_option maxHeartbeats 1000000 in
theorem nil_any (off n : Int) (s : ByteArray) (a : Option Addr) (l c : Nat) (w : World) (h1 : i64B off) (h2 : i64B n) (hs : (s.size : Int) ≤ 9223372036854775807) (hl : l ≤ c) (hc : (c : Int) ≤ 9223372036854775807) :
    Calls Try.prog 5 #[.int .i64 off, .int .i64 n, .string s, .slice a l c] w (Ret (.bool true) w) := by
  have HC := hide (fun W => cut_any s 100 W hs (by omega))
  go_enter Try.func5, Try.ntmps5
  go_wp2_with fail
  refine (sane_any w).mono ?_
  rintro e w1 ⟨rfl, hb1⟩
  go_wp2_with fail
  refine (read_nil off n w1).mono ?_
  rintro e w2 ⟨rfl, hw2⟩
  obtain rfl := hw2
  go_wp2_with fail
  refine (HC.out w1).mono ?_
  rintro e w2 ⟨rfl, hw2⟩
  obtain rfl := hw2
  go_wp2_with fail
  refine (write_nil off _ w1).mono ?_
  rintro e w2 ⟨rfl, hw2⟩
  obtain rfl := hw2
  go_wp2_with fail
  refine (sync_nil w1).mono ?_
  rintro e w2 ⟨rfl, hw2⟩
  obtain rfl := hw2
  go_wp2_with fail
  refine (cut_nil n w1).mono ?_
  rintro e w2 ⟨rfl, hw2⟩
  obtain rfl := hw2
  go_wp2_with fail
  refine (crash_nil _ n w1).mono ?_
  rintro e w3 ⟨rfl, hb3⟩
  go_wp2_with fail
  refine (pending_nil w3).mono ?_
  rintro e w2 ⟨rfl, hw2⟩
  obtain rfl := hw2
  go_wp2_with fail
  refine (size_nil w3).mono ?_
  rintro e w2 ⟨rfl, hw2⟩
  obtain rfl := hw2
  go_wp2_with fail
  go_ret
  exact ⟨rfl, below2 hb1 hb3⟩
end Go.Proofs.Ytednelejpkchbaa
