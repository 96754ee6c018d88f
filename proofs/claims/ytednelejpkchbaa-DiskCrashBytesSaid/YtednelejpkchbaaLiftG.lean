/- A list of truth values as an argument, opened. No condition. -/
import Derived.Test.YtednelejpkchbaaLiftF
import Derived.Test.YtednelejpkchbaaLkM
namespace Go.Proofs.Ytednelejpkchbaa
open Go.ChangeShapes Go.WideShapes Go.ChangeAt Go.RowKit Go.ChangeMaps

def BoolR (cs : List Value) (b : Bool) : Prop := cs = [.bool b]
section
variable {H : Type} {enc : TypeId × Value → H} {w : World} {base : Nat} {sp : Nat → Bool} {held : Bool}
set_option maxRecDepth 100000 in
theorem open_bools {r : Reach} {b0 : Nat} {v : Value} {d : DataW H} {ps : List MemPlace} (hv : Value.okWide Try.prog w r b0 58 v) (h : DataW.Trod enc Try.prog w base sp held 58 v d ps) :
    ∃ l, BoolsIn w.cell? v l := by
  obtain ⟨l, a, n, h1, h2, h3, h4⟩ := open_sliceR (R := BoolR) false (by decide) Try.underlying58 Try.cells4 (fun n y cs hc hy => by
    obtain ⟨b, e, -⟩ := DataW.trod_bool Try.underlying4 hy
    exact ⟨b, e⟩) hv h
  refine ⟨l, a, n, h1, h2, h3, fun k hk => ?_⟩
  obtain ⟨b, o, cs, e, -, rfl, hc⟩ := h4 k hk
  refine ⟨b, o, e, ?_⟩
  have := hc 0 (by omega)
  rw [Nat.mul_one, Nat.add_zero] at this
  exact this
end
end Go.Proofs.Ytednelejpkchbaa
