/- More arrays opened. No condition. -/
import Derived.Test.YtcaklldmcbpbfaaLift
namespace Go.Proofs.Ytcaklldmcbpbfaa
open Go.ChangeShapes Go.WideShapes Go.ChangeAt Go.RowKit

theorem Try.cells61 : Try.prog.cellsOf 61 = 4 := by kernel_rfl
theorem Try.cells64 : Try.prog.cellsOf 64 = 2 := by kernel_rfl
section
variable {H : Type} {enc : TypeId × Value → H} {w : World} {base : Nat} {sp : Nat → Bool} {held : Bool}
theorem open_four {r : Reach} {b0 : Nat} {v : Value} {d : DataW H} {ps : List MemPlace} (hv : Value.okWide Try.prog w r b0 61 v) (h : DataW.Trod enc Try.prog w base sp held 61 v d ps) :
    ∃ l : List Int, l.length = 4 ∧ v = .agg (l.map (Value.int .i64)).toArray ∧ ∀ x ∈ l, i64B x :=
  open_arr64 Try.underlying61 Try.underlying3 Try.cells3 Try.cells61 hv h
theorem open_three {r : Reach} {b0 : Nat} {v : Value} {d : DataW H} {ps : List MemPlace} (hv : Value.okWide Try.prog w r b0 59 v) (h : DataW.Trod enc Try.prog w base sp held 59 v d ps) :
    ∃ l : List Int, l.length = 3 ∧ v = .agg (l.map (Value.int .i64)).toArray ∧ ∀ x ∈ l, i64B x :=
  open_arr64 Try.underlying59 Try.underlying3 Try.cells3 Try.cells59 hv h
theorem open_two {r : Reach} {b0 : Nat} {v : Value} {d : DataW H} {ps : List MemPlace} (hv : Value.okWide Try.prog w r b0 64 v) (h : DataW.Trod enc Try.prog w base sp held 64 v d ps) :
    ∃ l : List Int, l.length = 2 ∧ v = .agg (l.map (Value.int .i64)).toArray ∧ ∀ x ∈ l, i64B x :=
  open_arr64 Try.underlying64 Try.underlying3 Try.cells3 Try.cells64 hv h
end
end Go.Proofs.Ytcaklldmcbpbfaa
