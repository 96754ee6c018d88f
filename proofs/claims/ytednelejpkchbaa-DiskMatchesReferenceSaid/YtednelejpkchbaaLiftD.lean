/- The arguments of the laws on disks opened. No condition. -/
import Derived.Test.YtednelejpkchbaaWrap
import Derived.Test.YtednelejpkchbaaLkB
namespace Go.Proofs.Ytednelejpkchbaa
open Go.ChangeShapes Go.WideShapes Go.ChangeAt Go.RowKit

theorem Try.own : ownKnob Try.prog.godebug = none := by kernel_rfl
theorem Try.laidOut : laidOutB Try.prog = true := by kernel_rfl
section
variable {H : Type} {enc : TypeId × Value → H} {w : World} {base : Nat} {sp : Nat → Bool} {held : Bool}
set_option maxRecDepth 100000 in
theorem open_i64 {r : Reach} {b0 : Nat} {v : Value} {d : DataW H} {ps : List MemPlace} (hv : Value.okWide Try.prog w r b0 3 v) (h : DataW.Trod enc Try.prog w base sp held 3 v d ps) :
    ∃ x : Int, v = .int .i64 x ∧ i64B x := by
  obtain ⟨n, h1, -, -, h4⟩ := open_int Try.underlying3 hv h
  exact ⟨n, h1, bounds_i64 h4⟩
end
end Go.Proofs.Ytednelejpkchbaa
