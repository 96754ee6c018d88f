/- The laws' arguments opened: what the laws of this seat share. No condition. -/
import Derived.Test.YtppfdjjhloaopaaWrap
import Derived.Test.YtppfdjjhloaopaaPw18
namespace Go.Proofs.Ytppfdjjhloaopaa
open Go.ChangeShapes Go.WideShapes Go.ChangeAt Go.RowKit

theorem Try.own : ownKnob Try.prog.godebug = none := by kernel_rfl
theorem Try.laidOut : laidOutB Try.prog = true := by kernel_rfl
theorem Try.cells3 : Try.prog.cellsOf 3 = 1 := by kernel_rfl
theorem Try.cells65 : Try.prog.cellsOf 65 = 3 := by kernel_rfl
theorem Try.cells23 : Try.prog.cellsOf 23 = 8 := by kernel_rfl
/-- three cells as a triple -/
def TriR (cs : List Value) (t : Tri) : Prop := cs = [.int .i64 t.1, .int .i64 t.2.1, .int .i64 t.2.2] ∧ tri64 t
theorem tris_of {c : Addr → Option Value} {v : Value} {l : List Tri} (h : SliceR 3 TriR tri0 c v l) : TrisIn c v l ∧ ∀ t ∈ l, tri64 t := by
  obtain ⟨a, n, h1, h2, h3, h4⟩ := h
  refine ⟨⟨a, n, h1, h2, h3, fun k hk => ?_⟩, fun t ht => ?_⟩
  · obtain ⟨b, o, cs, e, -, ⟨rfl, -⟩, hc⟩ := h4 k hk
    exact ⟨b, o, e, hc 0 (by omega), hc 1 (by omega), hc 2 (by omega)⟩
  · obtain ⟨k, hk, rfl⟩ := List.getElem_of_mem ht
    obtain ⟨b, o, cs, e, -, ⟨-, h5⟩, -⟩ := h4 k hk
    rwa [List.getD_eq_getElem?_getD, List.getElem?_eq_getElem hk] at h5
section
variable {H : Type} {enc : TypeId × Value → H} {w : World} {base : Nat} {sp : Nat → Bool} {held : Bool}
set_option maxRecDepth 100000 in
theorem open_tris {r : Reach} {b0 : Nat} {v : Value} {d : DataW H} {ps : List MemPlace} (hv : Value.okWide Try.prog w r b0 22 v) (h : DataW.Trod enc Try.prog w base sp held 22 v d ps) :
    ∃ l, TrisIn w.cell? v l ∧ ∀ t ∈ l, tri64 t := by
  obtain ⟨l, hl⟩ := open_sliceR (R := TriR) tri0 (by decide) Try.underlying22 Try.cells65 (fun n y cs hc hy => by
    obtain ⟨l, h1, rfl, h3⟩ := trod_arr Try.underlying65 Try.underlying3 Try.cells3 Try.cells65 hy
    match l, h1 with
    | [a, b, c], _ => exact ⟨(a, b, c), rfl, h3 a (by simp), h3 b (by simp), h3 c (by simp)⟩) hv h
  exact ⟨l, tris_of hl⟩
set_option maxRecDepth 100000 in
theorem open_gains {r : Reach} {b0 : Nat} {v : Value} {d : DataW H} {ps : List MemPlace} (hv : Value.okWide Try.prog w r b0 23 v) (h : DataW.Trod enc Try.prog w base sp held 23 v d ps) :
    ∃ l : List Int, l.length = 8 ∧ v = .agg (l.map (Value.int .i64)).toArray ∧ ∀ x ∈ l, i64B x :=
  open_arr64 Try.underlying23 Try.underlying3 Try.cells3 Try.cells23 hv h
set_option maxRecDepth 100000 in
theorem open_i64 {r : Reach} {b0 : Nat} {v : Value} {d : DataW H} {ps : List MemPlace} (hv : Value.okWide Try.prog w r b0 3 v) (h : DataW.Trod enc Try.prog w base sp held 3 v d ps) :
    ∃ x : Int, v = .int .i64 x ∧ i64B x := by
  obtain ⟨n, h1, -, -, h4⟩ := open_int Try.underlying3 hv h
  exact ⟨n, h1, bounds_i64 h4⟩
end
end Go.Proofs.Ytppfdjjhloaopaa
