/- A row and a program as arguments, opened. No condition. -/
import Derived.Test.YtcaklldmcbpbfaaLift
import Derived.Test.YtcaklldmcbpbfaaPw12
namespace Go.Proofs.Ytcaklldmcbpbfaa
open Go.ChangeShapes Go.WideShapes Go.ChangeAt Go.RowKit

theorem Try.cells26 : Try.prog.cellsOf 26 = 6 := by kernel_rfl
theorem Try.cells29 : Try.prog.cellsOf 29 = 3 := by kernel_rfl
theorem Try.cells24 : Try.prog.cellsOf 24 = 1 := by kernel_rfl
theorem Try.cells27 : Try.prog.cellsOf 27 = 1 := by kernel_rfl
def IntR (cs : List Value) (x : Int) : Prop := cs = [.int .i64 x]
theorem ints_slice {c : Addr → Option Value} {v : Value} {l : List Int} (h : SliceR 1 IntR 0 c v l) : IntsIn c v l := by
  obtain ⟨a, n, h1, h2, h3, h4⟩ := h
  refine ⟨a, n, h1, h2, h3, fun k hk => ?_⟩
  obtain ⟨b, o, cs, e, -, rfl, hc⟩ := h4 k hk
  have := hc 0 (by omega)
  rw [Nat.mul_one, Nat.add_zero] at this
  exact ⟨b, o, e, this⟩
section
variable {H : Type} {enc : TypeId × Value → H} {w : World} {base : Nat} {sp : Nat → Bool} {held : Bool}
theorem trod_fldP {P : Program} {fs : Array Field} {t : TypeId} {fuel : Nat} {cs : List Value} {x : DataW H × List MemPlace} (ht : P.underlying t = some (.struct fs)) (h : DataW.trod enc P w base sp held fuel t cs = some x) (i : Nat) (f : Field) (hf : fs[i]? = some f) :
    ∃ n y, DataW.trod enc P w base sp held n f.type ((cs.drop f.offset).take (P.cellsOf f.type)) = some y := by
  obtain ⟨xs, n, -, -, -, hlen, h1⟩ := DataW.trod_struct ht h
  have hi : i < fs.size := by
    rcases Array.getElem?_eq_some_iff.1 hf with ⟨hi, -⟩; exact hi
  exact ⟨n, xs[i], by rw [h1 i f hf, List.getElem?_eq_getElem (by omega)]⟩
theorem takeP {cs : List Value} {k : Nat} {v : Value} (h : (cs.drop k).take 1 = [v]) : cs[k]? = some v := by
  have : ((cs.drop k).take 1)[0]? = some v := by rw [h]; rfl
  rwa [List.getElem?_take_of_lt (by omega), List.getElem?_drop, Nat.add_zero] at this
theorem trod_ints {n : Nat} {y : DataW H × List MemPlace} {cs : List Value} (h : DataW.trod enc Try.prog w base sp held n 24 cs = some y) : ∃ v l, cs = [v] ∧ IntsAt w v l := by
  obtain ⟨v, l, e, hs⟩ := trod_sliceR (R := IntR) 0 (by decide) Try.underlying24 Try.cells3 (fun n y cs _ hy => by
    obtain ⟨x, h1, -⟩ := trod_i64 Try.underlying3 hy
    exact ⟨x, h1⟩) h
  exact ⟨v, l, e, ints_slice hs⟩
theorem open_ints {r : Reach} {b0 : Nat} {v : Value} {d : DataW H} {ps : List MemPlace} (hv : Value.okWide Try.prog w r b0 24 v) (h : DataW.Trod enc Try.prog w base sp held 24 v d ps) : ∃ l, IntsAt w v l := by
  obtain ⟨l, hs⟩ := open_sliceR (R := IntR) 0 (by decide) Try.underlying24 Try.cells3 (fun n y cs _ hy => by
    obtain ⟨x, h1, -⟩ := trod_i64 Try.underlying3 hy
    exact ⟨x, h1⟩) hv h
  exact ⟨l, ints_slice hs⟩
set_option maxRecDepth 100000 in
theorem trod_row {n : Nat} {y : DataW H × List MemPlace} {cs : List Value} (hl : cs.length = 6) (h : DataW.trod enc Try.prog w base sp held n 26 cs = some y) : ∃ r cv, cs = rowCells r cv ∧ IntsAt w cv r.coef := by
  obtain ⟨n0, y0, h0⟩ := trod_fldP Try.underlying26 h 0 _ rfl
  obtain ⟨n1, y1, h1⟩ := trod_fldP Try.underlying26 h 1 _ rfl
  obtain ⟨n2, y2, h2⟩ := trod_fldP Try.underlying26 h 2 _ rfl
  obtain ⟨n3, y3, h3⟩ := trod_fldP Try.underlying26 h 3 _ rfl
  obtain ⟨n4, y4, h4⟩ := trod_fldP Try.underlying26 h 4 _ rfl
  obtain ⟨n5, y5, h5⟩ := trod_fldP Try.underlying26 h 5 _ rfl
  obtain ⟨a0, e0, -⟩ := trod_i64 Try.underlying3 h0
  obtain ⟨a1, e1, -⟩ := trod_i64 Try.underlying3 h1
  obtain ⟨a2, e2, -⟩ := trod_i64 Try.underlying3 h2
  obtain ⟨a3, e3, -⟩ := trod_i64 Try.underlying3 h3
  obtain ⟨cv, l, e4, hi⟩ := trod_ints h4
  obtain ⟨a5, e5, -⟩ := trod_i64 Try.underlying3 h5
  have g0 := takeP (by rw [← Try.cells3]; exact e0)
  have g1 := takeP (by rw [← Try.cells3]; exact e1)
  have g2 := takeP (by rw [← Try.cells3]; exact e2)
  have g3 := takeP (by rw [← Try.cells3]; exact e3)
  have g4 := takeP (by rw [← Try.cells24]; exact e4)
  have g5 := takeP (by rw [← Try.cells3]; exact e5)
  match cs, hl with
  | [b0, b1, b2, b3, b4, b5], _ =>
    simp at g0 g1 g2 g3 g4 g5
    subst g0 g1 g2 g3 g4 g5
    exact ⟨⟨a0, a1, a2, a3, l, a5⟩, _, rfl, hi⟩
def RowR (w : World) (cs : List Value) (r : RowD) : Prop := ∃ cv, cs = rowCells r cv ∧ IntsAt w cv r.coef
theorem rows_slice {v : Value} {l : List RowD} (h : SliceR 6 (RowR w) row0 w.cell? v l) : RowsAt w v l := by
  obtain ⟨a, n, h1, h2, h3, h4⟩ := h
  refine ⟨a, n, h1, h2, h3, fun k hk => ?_⟩
  obtain ⟨b, o, cs, e, -, ⟨cv, rfl, hi⟩, hc⟩ := h4 k hk
  have c0 := hc 0 (by omega)
  rw [Nat.add_zero] at c0
  exact ⟨b, o, cv, e, c0, hc 1 (by omega), hc 2 (by omega), hc 3 (by omega), hc 4 (by omega), hc 5 (by omega), hi⟩
set_option maxRecDepth 100000 in
theorem open_row {r : Reach} {b0 : Nat} {v : Value} {d : DataW H} {ps : List MemPlace} (hv : Value.okWide Try.prog w r b0 26 v) (h : DataW.Trod enc Try.prog w base sp held 26 v d ps) :
    ∃ (q : RowD) (cv : Value), v = rowV q cv ∧ IntsAt w cv q.coef := by
  obtain ⟨cs, rfl, hsz⟩ : ∃ cs, v = .agg cs ∧ cs.size = Try.prog.cellsOf 26 := by
    simp only [Value.okWide, Try.underlying26] at hv
    obtain ⟨cs, h1, h2, -⟩ := hv
    exact ⟨cs, h1, h2⟩
  obtain ⟨m, hm⟩ := h
  rw [Try.cells26] at hsz
  obtain ⟨q, cv, e, hi⟩ := trod_row (by simpa [Value.cells] using hsz) hm
  refine ⟨q, cv, ?_, hi⟩
  show Value.agg cs = _
  congr 1
  exact Array.ext' (by simpa [Value.cells, rowCells] using e)
set_option maxRecDepth 100000 in
theorem open_prog {r : Reach} {b0 : Nat} {v : Value} {d : DataW H} {ps : List MemPlace} (hv : Value.okWide Try.prog w r b0 29 v) (h : DataW.Trod enc Try.prog w base sp held 29 v d ps) :
    ∃ (q : ProgD) (rv gv : Value), v = progV q rv gv ∧ RowsAt w rv q.rows ∧ IntsAt w gv q.gain := by
  obtain ⟨cs, rfl, hsz⟩ : ∃ cs, v = .agg cs ∧ cs.size = Try.prog.cellsOf 29 := by
    simp only [Value.okWide, Try.underlying29] at hv
    obtain ⟨cs, h1, h2, -⟩ := hv
    exact ⟨cs, h1, h2⟩
  obtain ⟨m, hm⟩ := h
  rw [Try.cells29] at hsz
  obtain ⟨n0, y0, h0⟩ := trod_fldP Try.underlying29 hm 0 _ rfl
  obtain ⟨n1, y1, h1⟩ := trod_fldP Try.underlying29 hm 1 _ rfl
  obtain ⟨n2, y2, h2⟩ := trod_fldP Try.underlying29 hm 2 _ rfl
  obtain ⟨a, e0, -⟩ := trod_i64 Try.underlying3 h0
  obtain ⟨rv, rl, e1, hrs⟩ := trod_sliceR (R := RowR w) row0 (by decide) Try.underlying27 Try.cells26 (fun n y cs hc hy => trod_row hc hy) h1
  obtain ⟨gv, gl, e2, hgs⟩ := trod_ints h2
  have g0 := takeP (by rw [← Try.cells3]; exact e0)
  have g1 := takeP (by rw [← Try.cells27]; exact e1)
  have g2 := takeP (by rw [← Try.cells24]; exact e2)
  obtain ⟨b0, b1, b2, hcs⟩ : ∃ b0 b1 b2, cs.toList = [b0, b1, b2] := by
    match hh : cs.toList, (show cs.toList.length = 3 by simpa using hsz) with
    | [x, y, z], _ => exact ⟨_, _, _, rfl⟩
  simp only [Value.cells, hcs] at g0 g1 g2
  simp at g0 g1 g2
  subst g0 g1 g2
  refine ⟨⟨a, rl, gl⟩, _, _, ?_, rows_slice hrs, hgs⟩
  show Value.agg cs = _
  congr 1
  exact Array.ext' hcs
end
end Go.Proofs.Ytcaklldmcbpbfaa
