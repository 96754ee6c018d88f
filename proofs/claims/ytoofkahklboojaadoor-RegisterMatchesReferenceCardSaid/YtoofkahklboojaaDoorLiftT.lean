/- What the tied rows' condition gives: the program's tables, in memory. No condition. -/
import Derived.Test.YtoofkahklboojaaDoorWrap
import Derived.Test.YtoofkahklboojaaDoorRkA
import Derived.LaidLaws
import Derived.LaidMore
import Derived.LaidHandle
import Derived.Handed
import Derived.Test.YtoofkahklboojaaDoorTie
namespace Go.Proofs.YtoofkahklboojaaDoor
open Go.ChangeShapes Go.WideShapes Go.ChangeAt Go.RowKit

theorem Tryd.own : ownKnob Tryd.prog.godebug = none := by kernel_rfl
theorem Tryd.laidOut : laidOutB Tryd.prog = true := by kernel_rfl
theorem Tryd.cells3 : Tryd.prog.cellsOf 3 = 1 := by kernel_rfl
theorem Tryd.cells58 : Tryd.prog.cellsOf 58 = 2 := by kernel_rfl
theorem Tryd.cells120 : Tryd.prog.cellsOf 120 = 4 := by kernel_rfl
theorem Tryd.cells121 : Tryd.prog.cellsOf 121 = 16 := by kernel_rfl
theorem Tryd.cells78 : Tryd.prog.cellsOf 78 = 2 := by kernel_rfl
theorem Tryd.cells80 : Tryd.prog.cellsOf 80 = 4 := by kernel_rfl
def laidL : List (String × DataW Unit) := [("putlog/register.turns", Rows.laid_putlog_register_turns), ("putlog/register.everywhere", Rows.laid_putlog_register_everywhere)]
theorem door_met (os : Os) (args : Array Value) : laidMet Tryd.prog laidL ((World.doorLaid Tryd.prog 33 os).forCall (fun _ _ => 0) ⟨#[], args, []⟩).memory :=
  laidMet_of_run' 8 (by kernel_rfl) (by kernel_rfl)
section
variable {H : Type} {enc : TypeId × Value → H} {w : World} {base : Nat} {sp : Nat → Bool} {held : Bool}
abbrev litD (x : Int) : DataW H := .lit (.int .i64 x)
theorem one_int {n : Nat} {cs : List Value} {x : DataW H × List MemPlace} {a : Int} (h : DataW.trod enc Tryd.prog w base sp held n 3 cs = some x) (hx : x.1 = litD a) : cs = [iV a] := by
  obtain ⟨k, rfl, e, -⟩ := DataW.trod_int Tryd.underlying3 h
  rw [e] at hx
  have : k = a := by simpa using hx
  rw [this]
set_option maxRecDepth 100000 in
theorem two_ints {n : Nat} {cs : List Value} {x : DataW H × List MemPlace} {a b : Int} (h : DataW.trod enc Tryd.prog w base sp held n 58 cs = some x) (hx : x.1 = .agg [litD a, litD b]) : cs = [iV a, iV b] := by
  obtain ⟨xs, m, -, e, hl, hn, hel⟩ := DataW.trod_array Tryd.underlying58 h
  rw [Tryd.cells58] at hl
  rw [e] at hx
  match xs, hn, cs, hl with
  | [u, v], _, [c0, c1], _ =>
    simp only [List.map_cons, List.map_nil, DataW.agg.injEq, List.cons.injEq] at hx
    have h0 := hel 0 (by omega)
    have h1 := hel 1 (by omega)
    rw [Tryd.cells3] at h0 h1
    have e0 := one_int h0 hx.1
    have e1 := one_int h1 hx.2.1
    simp at e0 e1
    rw [e0, e1]
set_option maxRecDepth 100000 in
theorem four_ints {n : Nat} {cs : List Value} {x : DataW H × List MemPlace} {a b c d : Int} (h : DataW.trod enc Tryd.prog w base sp held n 120 cs = some x) (hx : x.1 = .agg [.agg [litD a, litD b], .agg [litD c, litD d]]) : cs = [iV a, iV b, iV c, iV d] := by
  obtain ⟨xs, m, -, e, hl, hn, hel⟩ := DataW.trod_array Tryd.underlying120 h
  rw [Tryd.cells120] at hl
  rw [e] at hx
  match xs, hn, cs, hl with
  | [u, v], _, [c0, c1, c2, c3], _ =>
    simp only [List.map_cons, List.map_nil, DataW.agg.injEq, List.cons.injEq] at hx
    have h0 := hel 0 (by omega)
    have h1 := hel 1 (by omega)
    rw [Tryd.cells58] at h0 h1
    have e0 := two_ints h0 hx.1
    have e1 := two_ints h1 hx.2.1
    simp at e0 e1
    rw [e0.1, e0.2, e1.1, e1.2]
set_option maxRecDepth 100000 in
theorem spell_ints {n : Nat} {cs : List Value} {x : DataW H × List MemPlace} {a b : Int} (h : DataW.trod enc Tryd.prog w base sp held n 78 cs = some x) (hx : x.1 = .agg [litD a, litD b]) : cs = [iV a, iV b] := by
  obtain ⟨xs, m, -, e, hl, hn, hel⟩ := DataW.trod_struct Tryd.underlying78 h
  rw [Tryd.cells78] at hl
  rw [e] at hx
  match xs, hn, cs, hl with
  | [u, v], _, [c0, c1], _ =>
    simp only [List.map_cons, List.map_nil, DataW.agg.injEq, List.cons.injEq] at hx
    have h0 : DataW.trod enc Tryd.prog w base sp held m 3 (([c0, c1].drop 0).take (Tryd.prog.cellsOf 3)) = some u := hel 0 _ rfl
    have h1 : DataW.trod enc Tryd.prog w base sp held m 3 (([c0, c1].drop 1).take (Tryd.prog.cellsOf 3)) = some v := hel 1 _ rfl
    rw [Tryd.cells3] at h0 h1
    have e0 := one_int h0 hx.1
    have e1 := one_int h1 hx.2.1
    simp at e0 e1
    rw [e0, e1]
set_option maxRecDepth 100000 in
theorem box_ints {n : Nat} {cs : List Value} {x : DataW H × List MemPlace} {a b c d : Int} (h : DataW.trod enc Tryd.prog w base sp held n 80 cs = some x) (hx : x.1 = .agg [.agg [litD a, litD b], .agg [litD c, litD d]]) : cs = [iV a, iV b, iV c, iV d] := by
  obtain ⟨xs, m, -, e, hl, hn, hel⟩ := DataW.trod_struct Tryd.underlying80 h
  rw [Tryd.cells80] at hl
  rw [e] at hx
  match xs, hn, cs, hl with
  | [u, v], _, [c0, c1, c2, c3], _ =>
    simp only [List.map_cons, List.map_nil, DataW.agg.injEq, List.cons.injEq] at hx
    have h0 : DataW.trod enc Tryd.prog w base sp held m 78 (([c0, c1, c2, c3].drop 0).take (Tryd.prog.cellsOf 78)) = some u := hel 0 _ rfl
    have h1 : DataW.trod enc Tryd.prog w base sp held m 78 (([c0, c1, c2, c3].drop 2).take (Tryd.prog.cellsOf 78)) = some v := hel 1 _ rfl
    rw [Tryd.cells78] at h0 h1
    have e0 := spell_ints h0 hx.1
    have e1 := spell_ints h1 hx.2.1
    simp at e0 e1
    rw [e0.1, e0.2, e1.1, e1.2]
set_option maxRecDepth 100000 in
theorem turns_ints {n : Nat} {cs : List Value} {x : DataW H × List MemPlace} (h : DataW.trod enc Tryd.prog w base sp held n 121 cs = some x) (hx : x.1 = Rows.laid_putlog_register_turns) :
    cs = [iV 1, iV 0, iV 0, iV 1, iV 0, iV (-1), iV 1, iV 0, iV (-1), iV 0, iV 0, iV (-1), iV 0, iV 1, iV (-1), iV 0] := by
  obtain ⟨xs, m, -, e, hl, hn, hel⟩ := DataW.trod_array Tryd.underlying121 h
  rw [Tryd.cells121] at hl
  rw [e] at hx
  match xs, hn, cs, hl with
  | [u0, u1, u2, u3], _, [c0, c1, c2, c3, c4, c5, c6, c7, c8, c9, c10, c11, c12, c13, c14, c15], _ =>
    unfold Rows.laid_putlog_register_turns at hx
    simp only [List.map_cons, List.map_nil, DataW.agg.injEq, List.cons.injEq] at hx
    have h0 := hel 0 (by omega)
    have h1 := hel 1 (by omega)
    have h2 := hel 2 (by omega)
    have h3 := hel 3 (by omega)
    rw [Tryd.cells120] at h0 h1 h2 h3
    have e0 := four_ints h0 hx.1
    have e1 := four_ints h1 hx.2.1
    have e2 := four_ints h2 hx.2.2.1
    have e3 := four_ints h3 hx.2.2.2.1
    simp at e0 e1 e2 e3
    simp [e0, e1, e2, e3]
end
theorem gTurns : Tryd.prog.globalNamed "putlog/register.turns" = some 1 := by kernel_rfl
theorem gEvery : Tryd.prog.globalNamed "putlog/register.everywhere" = some 0 := by kernel_rfl
theorem tTurns : (Tryd.prog.globals[1]?).map (·.type) = some 121 := by kernel_rfl
theorem tEvery : (Tryd.prog.globals[0]?).map (·.type) = some 80 := by kernel_rfl
theorem gblk_of {W : World} {n : String} {g : Nat} {cs : Array Value} {vs : List Value} (hg : Tryd.prog.globalNamed n = some g) (h : W.var? Tryd.prog n = some cs) (hc : cs.toList = vs) : GBlk W g vs := by
  have hc' : cs = vs.toArray := by rw [← hc]
  subst hc'
  simp only [World.var?, hg, Option.bind_some] at h
  split at h
  · rename_i cs' t m hh
    cases h
    exact ⟨t, m, hh⟩
  · cases h
theorem glob_of_laid {W : World} (h : laidMet Tryd.prog laidL W) : Glob W := by
  obtain ⟨ps, ⟨g0, t0, cs0, f0, p0, q0, hg0, ht0, hv0, hd0, ⟨g1, t1, cs1, f1, p1, q1, hg1, ht1, hv1, hd1, -, -⟩, -⟩, -, -⟩ := h
  obtain rfl := Option.some.inj (gTurns.symm.trans hg0)
  obtain rfl := Option.some.inj (gEvery.symm.trans hg1)
  obtain rfl := Option.some.inj (tTurns.symm.trans ht0)
  obtain rfl := Option.some.inj (tEvery.symm.trans ht1)
  exact ⟨gblk_of gEvery hv1 (box_ints hd1 rfl), gblk_of gTurns hv0 (turns_ints hd0 rfl)⟩
end Go.Proofs.YtoofkahklboojaaDoor
