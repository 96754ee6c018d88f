/- A list of writes as an argument, opened. No condition. -/
import Derived.Test.YtednelejpkchbaaLiftE
import Derived.Test.YtednelejpkchbaaLkD
namespace Go.Proofs.Ytednelejpkchbaa
open Go.ChangeShapes Go.WideShapes Go.ChangeAt Go.RowKit Go.ChangeMaps

theorem Try.cells4 : Try.prog.cellsOf 4 = 1 := by kernel_rfl
theorem Try.cells9 : Try.prog.cellsOf 9 = 1 := by kernel_rfl
theorem Try.cells53 : Try.prog.cellsOf 53 = 3 := by kernel_rfl
section
variable {H : Type} {enc : TypeId × Value → H} {P : Program} {w : World} {base : Nat} {sp : Nat → Bool} {held : Bool}
/-- a field of a struct is read by itself -/
theorem trod_fld {fs : Array Field} {t : TypeId} {fuel : Nat} {cs : List Value} {x : DataW H × List MemPlace} (ht : P.underlying t = some (.struct fs)) (h : DataW.trod enc P w base sp held fuel t cs = some x) (i : Nat) (f : Field) (hf : fs[i]? = some f) :
    ∃ n y, DataW.trod enc P w base sp held n f.type ((cs.drop f.offset).take (P.cellsOf f.type)) = some y := by
  obtain ⟨xs, n, -, -, -, hlen, h1⟩ := DataW.trod_struct ht h
  have hi : i < fs.size := by
    rcases Array.getElem?_eq_some_iff.1 hf with ⟨hi, -⟩; exact hi
  exact ⟨n, xs[i], by rw [h1 i f hf, List.getElem?_eq_getElem (by omega)]⟩
theorem take1 {cs : List Value} {k : Nat} {v : Value} (h : (cs.drop k).take 1 = [v]) : cs[k]? = some v := by
  have : ((cs.drop k).take 1)[0]? = some v := by rw [h]; rfl
  rwa [List.getElem?_take_of_lt (by omega), List.getElem?_drop, Nat.add_zero] at this
end
def WParR (cs : List Value) (p : WPar) : Prop := cs = wparV p ∧ i64B p.off ∧ (p.s.size : Int) ≤ 9223372036854775807
section
variable {H : Type} {enc : TypeId × Value → H} {w : World} {base : Nat} {sp : Nat → Bool} {held : Bool}
set_option maxRecDepth 100000 in
theorem trod_wpar {n : Nat} {y : DataW H × List MemPlace} {cs : List Value} (hl : cs.length = 3) (h : DataW.trod enc Try.prog w base sp held n 53 cs = some y) : ∃ p, WParR cs p := by
  obtain ⟨n0, y0, h0⟩ := trod_fld Try.underlying53 h 0 _ rfl
  obtain ⟨n1, y1, h1⟩ := trod_fld Try.underlying53 h 1 _ rfl
  obtain ⟨n2, y2, h2⟩ := trod_fld Try.underlying53 h 2 _ rfl
  obtain ⟨o, e0, hb⟩ := trod_i64 Try.underlying3 h0
  obtain ⟨s, e1, -, hs⟩ := DataW.trod_string Try.underlying9 h1
  obtain ⟨b, e2, -⟩ := DataW.trod_bool Try.underlying4 h2
  have g0 := take1 (by rw [← Try.cells3]; exact e0)
  have g1 := take1 (by rw [← Try.cells9]; exact e1)
  have g2 := take1 (by rw [← Try.cells4]; exact e2)
  match cs, hl with
  | [a, c, d], _ =>
    simp at g0 g1 g2
    subst g0 g1 g2
    exact ⟨⟨o, s, b⟩, rfl, hb, by simp only [maxLen] at hs; show (s.size : Int) ≤ _; omega⟩
set_option maxRecDepth 100000 in
theorem open_wpars {r : Reach} {b0 : Nat} {v : Value} {d : DataW H} {ps : List MemPlace} (hv : Value.okWide Try.prog w r b0 51 v) (h : DataW.Trod enc Try.prog w base sp held 51 v d ps) :
    ∃ l, WParsIn w.cell? v l := by
  obtain ⟨l, a, n, h1, h2, h3, h4⟩ := open_sliceR (R := WParR) wp0 (by decide) Try.underlying51 Try.cells53 (fun n y cs hc hy => trod_wpar hc hy) hv h
  refine ⟨l, a, n, h1, h2, h3, fun k hk => ?_⟩
  obtain ⟨b, o, cs, e, -, ⟨rfl, i1, i2⟩, hc⟩ := h4 k hk
  exact ⟨i1, i2, b, o, e, hc 0 (by omega), hc 1 (by omega), hc 2 (by omega)⟩
end
end Go.Proofs.Ytednelejpkchbaa
