/- More arguments of the laws on disks opened. No condition. -/
import Derived.Test.YtednelejpkchbaaLiftD
import Derived.Test.YtednelejpkchbaaLkC
import Derived.ChangeMaps5
namespace Go.Proofs.Ytednelejpkchbaa
open Go.ChangeShapes Go.WideShapes Go.ChangeAt Go.RowKit Go.ChangeMaps

theorem Try.cells3 : Try.prog.cellsOf 3 = 1 := by kernel_rfl
/-- one cell as an integer -/
def IntR (cs : List Value) (x : Int) : Prop := cs = [.int .i64 x] ∧ i64B x
section
variable {H : Type} {enc : TypeId × Value → H} {w : World} {base : Nat} {sp : Nat → Bool} {held : Bool}
set_option maxRecDepth 100000 in
theorem open_intsD {r : Reach} {b0 : Nat} {v : Value} {d : DataW H} {ps : List MemPlace} (hv : Value.okWide Try.prog w r b0 37 v) (h : DataW.Trod enc Try.prog w base sp held 37 v d ps) :
    ∃ (a : Option Addr) (l c : Nat), v = .slice a l c ∧ l ≤ c ∧ (c : Int) ≤ 9223372036854775807 := by
  obtain ⟨l, a, n, h1, h2, h3, h4⟩ := open_sliceR (R := IntR) (0 : Int) (by decide) Try.underlying37 Try.cells3 (fun n y cs hc hy => by
    obtain ⟨x, h1, h2⟩ := trod_i64 Try.underlying3 hy
    exact ⟨x, h1, h2⟩) hv h
  exact ⟨a, _, n, h1, h2, by omega⟩
set_option maxRecDepth 100000 in
theorem open_strD {r : Reach} {b0 : Nat} {v : Value} {d : DataW H} {ps : List MemPlace} (hv : Value.okWide Try.prog w r b0 9 v) (h : DataW.Trod enc Try.prog w base sp held 9 v d ps) :
    ∃ s : ByteArray, v = .string s ∧ (s.size : Int) ≤ 9223372036854775807 := by
  obtain ⟨s, h1, -, -, h4⟩ := open_string Try.underlying9 hv h
  exact ⟨s, h1, by unfold maxLen at h4; omega⟩
end
end Go.Proofs.Ytednelejpkchbaa
