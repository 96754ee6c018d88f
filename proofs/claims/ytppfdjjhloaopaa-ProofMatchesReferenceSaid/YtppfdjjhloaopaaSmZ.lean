/- ProofMatchesReference: for every input the law returns true. No condition. -/
import Derived.Test.YtppfdjjhloaopaaWrap
import Derived.Test.YtppfdjjhloaopaaPw18
import Derived.Test.YtppfdjjhloaopaaPw12
import Derived.Test.YtppfdjjhloaopaaPw11
import Derived.Test.YtppfdjjhloaopaaSmD
/- The laws' arguments opened: what the laws of this seat share. No condition. -/
namespace Go.Proofs.Ytppfdjjhloaopaa
open Go.ChangeShapes Go.WideShapes Go.ChangeAt Go.RowKit

theorem Try.own : ownKnob Try.prog.godebug = none := by kernel_rfl
theorem Try.laidOut : laidOutB Try.prog = true := by kernel_rfl
theorem Try.cells3 : Try.prog.cellsOf 3 = 1 := by kernel_rfl
theorem Try.cells65 : Try.prog.cellsOf 65 = 3 := by kernel_rfl
theorem Try.cells23 : Try.prog.cellsOf 23 = 8 := by kernel_rfl
/-- three cells as a triple -/
def TriR (cs : List Value) (t : Tri) : Prop := cs = [.int .i64 t.1, .int .i64 t.2.1, .int .i64 t.2.2] ∧ tri64 t
theorem tris_of {c : Addr → Option Value} {v : Value} {l : List Tri} (h : SliceR 3 TriR tri0 c v l) : TrisIn c v l ∧ ∀ t ∈ l, tri64 t := by
  obtain ⟨a, n, h1, h2, h3, h4⟩ := h
  refine ⟨⟨a, n, h1, h2, h3, fun k hk => ?_⟩, fun t ht => ?_⟩
  · obtain ⟨b, o, cs, e, -, ⟨rfl, -⟩, hc⟩ := h4 k hk
    exact ⟨b, o, e, hc 0 (by omega), hc 1 (by omega), hc 2 (by omega)⟩
  · obtain ⟨k, hk, rfl⟩ := List.getElem_of_mem ht
    obtain ⟨b, o, cs, e, -, ⟨-, h5⟩, -⟩ := h4 k hk
    rwa [List.getD_eq_getElem?_getD, List.getElem?_eq_getElem hk] at h5
section
variable {H : Type} {enc : TypeId × Value → H} {w : World} {base : Nat} {sp : Nat → Bool} {held : Bool}
set_option maxRecDepth 100000 in
theorem open_tris {r : Reach} {b0 : Nat} {v : Value} {d : DataW H} {ps : List MemPlace} (hv : Value.okWide Try.prog w r b0 22 v) (h : DataW.Trod enc Try.prog w base sp held 22 v d ps) :
    ∃ l, TrisIn w.cell? v l ∧ ∀ t ∈ l, tri64 t := by
  obtain ⟨l, hl⟩ := open_sliceR (R := TriR) tri0 (by decide) Try.underlying22 Try.cells65 (fun n y cs hc hy => by
    obtain ⟨l, h1, rfl, h3⟩ := trod_arr Try.underlying65 Try.underlying3 Try.cells3 Try.cells65 hy
    match l, h1 with
    | [a, b, c], _ => exact ⟨(a, b, c), rfl, h3 a (by simp), h3 b (by simp), h3 c (by simp)⟩) hv h
  exact ⟨l, tris_of hl⟩
set_option maxRecDepth 100000 in
theorem open_gains {r : Reach} {b0 : Nat} {v : Value} {d : DataW H} {ps : List MemPlace} (hv : Value.okWide Try.prog w r b0 23 v) (h : DataW.Trod enc Try.prog w base sp held 23 v d ps) :
    ∃ l : List Int, l.length = 8 ∧ v = .agg (l.map (Value.int .i64)).toArray ∧ ∀ x ∈ l, i64B x :=
  open_arr64 Try.underlying23 Try.underlying3 Try.cells3 Try.cells23 hv h
set_option maxRecDepth 100000 in
theorem open_i64 {r : Reach} {b0 : Nat} {v : Value} {d : DataW H} {ps : List MemPlace} (hv : Value.okWide Try.prog w r b0 3 v) (h : DataW.Trod enc Try.prog w base sp held 3 v d ps) :
    ∃ x : Int, v = .int .i64 x ∧ i64B x := by
  obtain ⟨n, h1, -, -, h4⟩ := open_int Try.underlying3 hv h
  exact ⟨n, h1, bounds_i64 h4⟩
end
end Go.Proofs.Ytppfdjjhloaopaa
/- A row and a program as arguments, opened. No condition. -/
namespace Go.Proofs.Ytppfdjjhloaopaa
open Go.ChangeShapes Go.WideShapes Go.ChangeAt Go.RowKit

set_option maxRecDepth 100000 in
theorem Try.cells67 : Try.prog.cellsOf 67 = 6 := by kernel_rfl
set_option maxRecDepth 100000 in
theorem Try.cells27 : Try.prog.cellsOf 27 = 3 := by kernel_rfl
set_option maxRecDepth 100000 in
theorem Try.cells25 : Try.prog.cellsOf 25 = 1 := by kernel_rfl
set_option maxRecDepth 100000 in
theorem Try.cells24 : Try.prog.cellsOf 24 = 1 := by kernel_rfl
def IntR (cs : List Value) (x : Int) : Prop := cs = [.int .i64 x]
set_option maxRecDepth 100000 in
theorem ints_slice {c : Addr → Option Value} {v : Value} {l : List Int} (h : SliceR 1 IntR 0 c v l) : IntsIn c v l := by
  obtain ⟨a, n, h1, h2, h3, h4⟩ := h
  refine ⟨a, n, h1, h2, h3, fun k hk => ?_⟩
  obtain ⟨b, o, cs, e, -, rfl, hc⟩ := h4 k hk
  have := hc 0 (by omega)
  rw [Nat.mul_one, Nat.add_zero] at this
  exact ⟨b, o, e, this⟩
section
variable {H : Type} {enc : TypeId × Value → H} {w : World} {base : Nat} {sp : Nat → Bool} {held : Bool}
set_option maxRecDepth 100000 in
theorem trod_fldP {P : Program} {fs : Array Field} {t : TypeId} {fuel : Nat} {cs : List Value} {x : DataW H × List MemPlace} (ht : P.underlying t = some (.struct fs)) (h : DataW.trod enc P w base sp held fuel t cs = some x) (i : Nat) (f : Field) (hf : fs[i]? = some f) :
    ∃ n y, DataW.trod enc P w base sp held n f.type ((cs.drop f.offset).take (P.cellsOf f.type)) = some y := by
  obtain ⟨xs, n, -, -, -, hlen, h1⟩ := DataW.trod_struct ht h
  have hi : i < fs.size := by
    rcases Array.getElem?_eq_some_iff.1 hf with ⟨hi, -⟩; exact hi
  exact ⟨n, xs[i], by rw [h1 i f hf, List.getElem?_eq_getElem (by omega)]⟩
set_option maxRecDepth 100000 in
theorem takeP {cs : List Value} {k : Nat} {v : Value} (h : (cs.drop k).take 1 = [v]) : cs[k]? = some v := by
  have : ((cs.drop k).take 1)[0]? = some v := by rw [h]; rfl
  rwa [List.getElem?_take_of_lt (by omega), List.getElem?_drop, Nat.add_zero] at this
set_option maxRecDepth 100000 in
theorem trod_ints {n : Nat} {y : DataW H × List MemPlace} {cs : List Value} (h : DataW.trod enc Try.prog w base sp held n 25 cs = some y) : ∃ v l, cs = [v] ∧ IntsAt w v l := by
  obtain ⟨v, l, e, hs⟩ := trod_sliceR (R := IntR) 0 (by decide) Try.underlying25 Try.cells3 (fun n y cs _ hy => by
    obtain ⟨x, h1, -⟩ := trod_i64 Try.underlying3 hy
    exact ⟨x, h1⟩) h
  exact ⟨v, l, e, ints_slice hs⟩
set_option maxRecDepth 100000 in
theorem open_ints {r : Reach} {b0 : Nat} {v : Value} {d : DataW H} {ps : List MemPlace} (hv : Value.okWide Try.prog w r b0 25 v) (h : DataW.Trod enc Try.prog w base sp held 25 v d ps) : ∃ l, IntsAt w v l := by
  obtain ⟨l, hs⟩ := open_sliceR (R := IntR) 0 (by decide) Try.underlying25 Try.cells3 (fun n y cs _ hy => by
    obtain ⟨x, h1, -⟩ := trod_i64 Try.underlying3 hy
    exact ⟨x, h1⟩) hv h
  exact ⟨l, ints_slice hs⟩
set_option maxRecDepth 100000 in
theorem trod_row {n : Nat} {y : DataW H × List MemPlace} {cs : List Value} (hl : cs.length = 6) (h : DataW.trod enc Try.prog w base sp held n 67 cs = some y) : ∃ r cv, cs = rowCells r cv ∧ IntsAt w cv r.coef := by
  obtain ⟨n0, y0, h0⟩ := trod_fldP Try.underlying67 h 0 _ rfl
  obtain ⟨n1, y1, h1⟩ := trod_fldP Try.underlying67 h 1 _ rfl
  obtain ⟨n2, y2, h2⟩ := trod_fldP Try.underlying67 h 2 _ rfl
  obtain ⟨n3, y3, h3⟩ := trod_fldP Try.underlying67 h 3 _ rfl
  obtain ⟨n4, y4, h4⟩ := trod_fldP Try.underlying67 h 4 _ rfl
  obtain ⟨n5, y5, h5⟩ := trod_fldP Try.underlying67 h 5 _ rfl
  obtain ⟨a0, e0, -⟩ := trod_i64 Try.underlying3 h0
  obtain ⟨a1, e1, -⟩ := trod_i64 Try.underlying3 h1
  obtain ⟨a2, e2, -⟩ := trod_i64 Try.underlying3 h2
  obtain ⟨a3, e3, -⟩ := trod_i64 Try.underlying3 h3
  obtain ⟨cv, l, e4, hi⟩ := trod_ints h4
  obtain ⟨a5, e5, -⟩ := trod_i64 Try.underlying3 h5
  have g0 := takeP (by rw [← Try.cells3]; exact e0)
  have g1 := takeP (by rw [← Try.cells3]; exact e1)
  have g2 := takeP (by rw [← Try.cells3]; exact e2)
  have g3 := takeP (by rw [← Try.cells3]; exact e3)
  have g4 := takeP (by rw [← Try.cells25]; exact e4)
  have g5 := takeP (by rw [← Try.cells3]; exact e5)
  match cs, hl with
  | [b0, b1, b2, b3, b4, b5], _ =>
    simp at g0 g1 g2 g3 g4 g5
    subst g0 g1 g2 g3 g4 g5
    exact ⟨⟨a0, a1, a2, a3, l, a5⟩, _, rfl, hi⟩
def RowR (w : World) (cs : List Value) (r : RowD) : Prop := ∃ cv, cs = rowCells r cv ∧ IntsAt w cv r.coef
set_option maxRecDepth 100000 in
theorem rows_slice {v : Value} {l : List RowD} (h : SliceR 6 (RowR w) row0 w.cell? v l) : RowsAt w v l := by
  obtain ⟨a, n, h1, h2, h3, h4⟩ := h
  refine ⟨a, n, h1, h2, h3, fun k hk => ?_⟩
  obtain ⟨b, o, cs, e, -, ⟨cv, rfl, hi⟩, hc⟩ := h4 k hk
  have c0 := hc 0 (by omega)
  rw [Nat.add_zero] at c0
  exact ⟨b, o, cv, e, c0, hc 1 (by omega), hc 2 (by omega), hc 3 (by omega), hc 4 (by omega), hc 5 (by omega), hi⟩
set_option maxRecDepth 100000 in
theorem open_row {r : Reach} {b0 : Nat} {v : Value} {d : DataW H} {ps : List MemPlace} (hv : Value.okWide Try.prog w r b0 67 v) (h : DataW.Trod enc Try.prog w base sp held 67 v d ps) :
    ∃ (q : RowD) (cv : Value), v = rowV q cv ∧ IntsAt w cv q.coef := by
  obtain ⟨cs, rfl, hsz⟩ : ∃ cs, v = .agg cs ∧ cs.size = Try.prog.cellsOf 67 := by
    simp only [Value.okWide, Try.underlying67] at hv
    obtain ⟨cs, h1, h2, -⟩ := hv
    exact ⟨cs, h1, h2⟩
  obtain ⟨m, hm⟩ := h
  rw [Try.cells67] at hsz
  obtain ⟨q, cv, e, hi⟩ := trod_row (by simpa [Value.cells] using hsz) hm
  refine ⟨q, cv, ?_, hi⟩
  show Value.agg cs = _
  congr 1
  exact Array.ext' (by simpa [Value.cells, rowCells] using e)
set_option maxRecDepth 100000 in
theorem open_prog {r : Reach} {b0 : Nat} {v : Value} {d : DataW H} {ps : List MemPlace} (hv : Value.okWide Try.prog w r b0 27 v) (h : DataW.Trod enc Try.prog w base sp held 27 v d ps) :
    ∃ (q : ProgD) (rv gv : Value), v = progV q rv gv ∧ RowsAt w rv q.rows ∧ IntsAt w gv q.gain := by
  obtain ⟨cs, rfl, hsz⟩ : ∃ cs, v = .agg cs ∧ cs.size = Try.prog.cellsOf 27 := by
    simp only [Value.okWide, Try.underlying27] at hv
    obtain ⟨cs, h1, h2, -⟩ := hv
    exact ⟨cs, h1, h2⟩
  obtain ⟨m, hm⟩ := h
  rw [Try.cells27] at hsz
  obtain ⟨n0, y0, h0⟩ := trod_fldP Try.underlying27 hm 0 _ rfl
  obtain ⟨n1, y1, h1⟩ := trod_fldP Try.underlying27 hm 1 _ rfl
  obtain ⟨n2, y2, h2⟩ := trod_fldP Try.underlying27 hm 2 _ rfl
  obtain ⟨a, e0, -⟩ := trod_i64 Try.underlying3 h0
  obtain ⟨rv, rl, e1, hrs⟩ := trod_sliceR (R := RowR w) row0 (by decide) Try.underlying24 Try.cells67 (fun n y cs hc hy => trod_row hc hy) h1
  obtain ⟨gv, gl, e2, hgs⟩ := trod_ints h2
  have g0 := takeP (by rw [← Try.cells3]; exact e0)
  have g1 := takeP (by rw [← Try.cells24]; exact e1)
  have g2 := takeP (by rw [← Try.cells25]; exact e2)
  obtain ⟨b0, b1, b2, hcs⟩ : ∃ b0 b1 b2, cs.toList = [b0, b1, b2] := by
    match hh : cs.toList, (show cs.toList.length = 3 by simpa using hsz) with
    | [x, y, z], _ => exact ⟨_, _, _, rfl⟩
  simp only [Value.cells, hcs] at g0 g1 g2
  simp at g0 g1 g2
  subst g0 g1 g2
  refine ⟨⟨a, rl, gl⟩, _, _, ?_, rows_slice hrs, hgs⟩
  show Value.agg cs = _
  congr 1
  exact Array.ext' hcs
end
end Go.Proofs.Ytppfdjjhloaopaa
/- Steps of a proof and pairs of changes as arguments, opened. No condition. -/
namespace Go.Proofs.Ytppfdjjhloaopaa
open Go.ChangeShapes Go.WideShapes Go.ChangeAt Go.RowKit

set_option maxRecDepth 100000 in
theorem Try.cells56 : Try.prog.cellsOf 56 = 2 := by kernel_rfl
set_option maxRecDepth 100000 in
theorem Try.cells54 : Try.prog.cellsOf 54 = 4 := by kernel_rfl
set_option maxRecDepth 100000 in
theorem Try.cells52 : Try.prog.cellsOf 52 = 1 := by kernel_rfl
set_option maxRecDepth 100000 in
theorem Try.cells28 : Try.prog.cellsOf 28 = 4 := by kernel_rfl
set_option maxRecDepth 100000 in
theorem Try.cells29 : Try.prog.cellsOf 29 = 8 := by kernel_rfl
def WtR (cs : List Value) (p : Int × Int) : Prop := cs = [.int .i64 p.1, .int .i64 p.2]
def StR (w : World) (cs : List Value) (s : StepD) : Prop := ∃ wv, cs = [.int .i64 s.var, .int .i64 s.no, .int .i64 s.yes, wv] ∧ WtsIn w.cell? wv s.wts
set_option maxRecDepth 100000 in
theorem wts_slice {c : Addr → Option Value} {v : Value} {l : List (Int × Int)} (h : SliceR 2 WtR (0, 0) c v l) : WtsIn c v l := by
  obtain ⟨a, n, h1, h2, h3, h4⟩ := h
  refine ⟨a, n, h1, h2, h3, fun k hk => ?_⟩
  obtain ⟨b, o, cs, e, -, rfl, hc⟩ := h4 k hk
  have c0 := hc 0 (by omega)
  rw [Nat.add_zero] at c0
  exact ⟨b, o, e, c0, hc 1 (by omega)⟩
set_option maxRecDepth 100000 in
theorem steps_slice {w : World} {v : Value} {l : List StepD} (h : SliceR 4 (StR w) st0 w.cell? v l) : StepsIn w.cell? v l := by
  obtain ⟨a, n, h1, h2, h3, h4⟩ := h
  refine ⟨a, n, h1, h2, h3, fun k hk => ?_⟩
  obtain ⟨b, o, cs, e, -, ⟨wv, rfl, hw⟩, hc⟩ := h4 k hk
  have c0 := hc 0 (by omega)
  rw [Nat.add_zero] at c0
  exact ⟨b, o, wv, e, c0, hc 1 (by omega), hc 2 (by omega), hc 3 (by omega), hw⟩
section
variable {H : Type} {enc : TypeId × Value → H} {w : World} {base : Nat} {sp : Nat → Bool} {held : Bool}
set_option maxRecDepth 100000 in
theorem trod_wt {n : Nat} {y : DataW H × List MemPlace} {cs : List Value} (hl : cs.length = 2) (h : DataW.trod enc Try.prog w base sp held n 56 cs = some y) : ∃ p, WtR cs p := by
  obtain ⟨n0, y0, h0⟩ := trod_fldP Try.underlying56 h 0 _ rfl
  obtain ⟨n1, y1, h1⟩ := trod_fldP Try.underlying56 h 1 _ rfl
  obtain ⟨a0, e0, -⟩ := trod_i64 Try.underlying3 h0
  obtain ⟨a1, e1, -⟩ := trod_i64 Try.underlying3 h1
  have g0 := takeP (by rw [← Try.cells3]; exact e0)
  have g1 := takeP (by rw [← Try.cells3]; exact e1)
  match cs, hl with
  | [b0, b1], _ =>
    simp at g0 g1
    subst g0 g1
    exact ⟨(a0, a1), rfl⟩
set_option maxRecDepth 100000 in
theorem trod_wts {n : Nat} {y : DataW H × List MemPlace} {cs : List Value} (h : DataW.trod enc Try.prog w base sp held n 52 cs = some y) : ∃ v l, cs = [v] ∧ WtsIn w.cell? v l := by
  obtain ⟨v, l, e, hs⟩ := trod_sliceR (R := WtR) (0, 0) (by decide) Try.underlying52 Try.cells56 (fun n y cs hc hy => trod_wt hc hy) h
  exact ⟨v, l, e, wts_slice hs⟩
set_option maxRecDepth 100000 in
theorem trod_step {n : Nat} {y : DataW H × List MemPlace} {cs : List Value} (hl : cs.length = 4) (h : DataW.trod enc Try.prog w base sp held n 54 cs = some y) : ∃ s, StR w cs s := by
  obtain ⟨n0, y0, h0⟩ := trod_fldP Try.underlying54 h 0 _ rfl
  obtain ⟨n1, y1, h1⟩ := trod_fldP Try.underlying54 h 1 _ rfl
  obtain ⟨n2, y2, h2⟩ := trod_fldP Try.underlying54 h 2 _ rfl
  obtain ⟨n3, y3, h3⟩ := trod_fldP Try.underlying54 h 3 _ rfl
  obtain ⟨a0, e0, -⟩ := trod_i64 Try.underlying3 h0
  obtain ⟨a1, e1, -⟩ := trod_i64 Try.underlying3 h1
  obtain ⟨a2, e2, -⟩ := trod_i64 Try.underlying3 h2
  obtain ⟨wv, l, e3, hi⟩ := trod_wts h3
  have g0 := takeP (by rw [← Try.cells3]; exact e0)
  have g1 := takeP (by rw [← Try.cells3]; exact e1)
  have g2 := takeP (by rw [← Try.cells3]; exact e2)
  have g3 := takeP (by rw [← Try.cells52]; exact e3)
  match cs, hl with
  | [b0, b1, b2, b3], _ =>
    simp at g0 g1 g2 g3
    subst g0 g1 g2 g3
    exact ⟨⟨a0, a1, a2, l⟩, _, rfl, hi⟩
set_option maxRecDepth 100000 in
theorem open_steps {r : Reach} {b0 : Nat} {v : Value} {d : DataW H} {ps : List MemPlace} (hv : Value.okWide Try.prog w r b0 30 v) (h : DataW.Trod enc Try.prog w base sp held 30 v d ps) : ∃ l, StepsIn w.cell? v l := by
  obtain ⟨l, hs⟩ := open_sliceR (R := StR w) st0 (by decide) Try.underlying30 Try.cells54 (fun n y cs hc hy => trod_step hc hy) hv h
  exact ⟨l, steps_slice hs⟩
set_option maxRecDepth 100000 in
theorem open_step {r : Reach} {b0 : Nat} {v : Value} {d : DataW H} {ps : List MemPlace} (hv : Value.okWide Try.prog w r b0 54 v) (h : DataW.Trod enc Try.prog w base sp held 54 v d ps) :
    ∃ (s : StepD) (wv : Value), v = .agg #[.int .i64 s.var, .int .i64 s.no, .int .i64 s.yes, wv] ∧ WtsIn w.cell? wv s.wts := by
  obtain ⟨cs, rfl, hsz⟩ : ∃ cs, v = .agg cs ∧ cs.size = Try.prog.cellsOf 54 := by
    simp only [Value.okWide, Try.underlying54] at hv
    obtain ⟨cs, h1, h2, -⟩ := hv
    exact ⟨cs, h1, h2⟩
  obtain ⟨m, hm⟩ := h
  rw [Try.cells54] at hsz
  obtain ⟨s, wv, e, hi⟩ := trod_step (by simpa [Value.cells] using hsz) hm
  refine ⟨s, wv, ?_, hi⟩
  show Value.agg cs = _
  congr 1
  exact Array.ext' (by simpa [Value.cells] using e)
set_option maxRecDepth 100000 in
theorem open_four {r : Reach} {b0 : Nat} {v : Value} {d : DataW H} {ps : List MemPlace} (hv : Value.okWide Try.prog w r b0 28 v) (h : DataW.Trod enc Try.prog w base sp held 28 v d ps) :
    ∃ l : List Int, l.length = 4 ∧ v = .agg (l.map (Value.int .i64)).toArray ∧ ∀ x ∈ l, i64B x :=
  open_arr64 Try.underlying28 Try.underlying3 Try.cells3 Try.cells28 hv h
set_option maxRecDepth 100000 in
theorem open_bend2 {r : Reach} {b0 : Nat} {v : Value} {d : DataW H} {ps : List MemPlace} (hv : Value.okWide Try.prog w r b0 29 v) (h : DataW.Trod enc Try.prog w base sp held 29 v d ps) :
    ∃ z1 z2 : List Int, v = .agg ((z1 ++ z2).map (Value.int .i64)).toArray ∧ z1.length = 4 ∧ (∀ y ∈ z1, i64B y) ∧ z2.length = 4 ∧ ∀ y ∈ z2, i64B y := by
  obtain ⟨cs, rfl, hsz⟩ : ∃ cs, v = .agg cs ∧ cs.size = Try.prog.cellsOf 29 := by
    simp only [Value.okWide, Try.underlying29] at hv
    obtain ⟨cs, h1, h2, -⟩ := hv
    exact ⟨cs, h1, h2⟩
  obtain ⟨m, hm⟩ := h
  rw [Try.cells29] at hsz
  obtain ⟨xs, n, -, -, -, hn, hel⟩ := DataW.trod_array Try.underlying29 hm
  have h0 := hel 0 (by omega)
  have h1 := hel 1 (by omega)
  rw [Try.cells28] at h0 h1
  obtain ⟨u0, u1, rfl⟩ : ∃ u0 u1, xs = [u0, u1] := by
    match xs, hn with
    | [x, y], _ => exact ⟨_, _, rfl⟩
  obtain ⟨l1, k1, e1, f1⟩ := trod_arr Try.underlying28 Try.underlying3 Try.cells3 Try.cells28 h0
  obtain ⟨l2, k2, e2, f2⟩ := trod_arr Try.underlying28 Try.underlying3 Try.cells3 Try.cells28 h1
  refine ⟨l1, l2, ?_, k1, f1, k2, f2⟩
  show Value.agg cs = _
  congr 1
  refine Array.ext' ?_
  show cs.toList = (l1 ++ l2).map (Value.int .i64)
  rw [List.map_append, ← e1, ← e2]
  have h8 : cs.toList.length = 8 := by simpa using hsz
  simp only [Value.cells]
  generalize cs.toList = L at h8
  match L, h8 with
  | [a, b, c, d, e, f, g, h], _ => rfl
end
end Go.Proofs.Ytppfdjjhloaopaa
namespace Go.Proofs.Ytppfdjjhloaopaa
open Go.ChangeShapes Go.WideShapes Go.ChangeAt Go.RowKit

set_option maxRecDepth 100000 in
theorem refl34_lifted (os : Os) (started : os.Started) (H : Type) (enc : TypeId × Value → H) :
    ReturnsInHanded {} Try.checked os 3 .any (Rows.proofMatchesReferenceSpec.pre6 enc Try.prog Try.f3 Rows.proofMatchesReferenceRow.domain false) (Rows.proofMatchesReferenceSpec.post enc Try.prog Try.f3 false true false false) := by
  refine returnsInHanded_of_change (C := Try.checked) Try.own started (by kernel_rfl) Try.func3
    (ChangeSpec.witness6 (enc := enc) (C := Try.checked) false ⟨#[], #[.int .i64 0, .slice none 0 0, .agg #[.int .i64 0, .int .i64 0, .int .i64 0, .int .i64 0, .int .i64 0, .int .i64 0, .int .i64 0, .int .i64 0], .agg #[.int .i64 0, .slice none 0 0, .slice none 0 0], .agg #[.int .i64 0, .int .i64 0, .int .i64 0, .int .i64 0, .int .i64 0, .int .i64 0, .int .i64 0, .int .i64 0], .slice none 0 0, .int .i64 0], []⟩ 8 (by kernel_rfl) (by kernel_rfl) (by kernel_rfl) (by kernel_rfl)) ?_
  intro W base args ds gs before hval0 hW hcnd _
  have hval : ∀ (j : Nat) t v, Try.f3.params[j]? = some t → args[j]? = some v → Value.okWide Try.prog W .any base t v := hval0
  have hW' := hW
  obtain ⟨p, q, hA0, hV, rfl, hfz, hnd⟩ := hW
  have hA : DataW.TrodAll enc Try.prog W 0 (fun _ => true) true Try.f3.params.toList args.toList ds p := hA0
  rw [Try.params3] at hA hval
  obtain ⟨v0, as0, d0, ds0, p0, q0, e0, rfl, rfl, h0, hA⟩ := trodAll_cons hA
  obtain ⟨v1, as1, d1, ds1, p1, q1, rfl, rfl, rfl, h1, hA⟩ := trodAll_cons hA
  obtain ⟨v2, as2, d2, ds2, p2, q2, rfl, rfl, rfl, h2, hA⟩ := trodAll_cons hA
  obtain ⟨v3, as3, d3, ds3, p3, q3, rfl, rfl, rfl, h3, hA⟩ := trodAll_cons hA
  obtain ⟨v4, as4, d4, ds4, p4, q4, rfl, rfl, rfl, h4, hA⟩ := trodAll_cons hA
  obtain ⟨v5, as5, d5, ds5, p5, q5, rfl, rfl, rfl, h5, hA⟩ := trodAll_cons hA
  obtain ⟨v6, as6, d6, ds6, p6, q6, rfl, rfl, rfl, h6, hA⟩ := trodAll_cons hA
  obtain ⟨rfl, rfl, rfl⟩ := trodAll_nil hA
  obtain rfl : args = #[v0, v1, v2, v3, v4, v5, v6] := by cases args; simp_all
  obtain ⟨rfl, rfl⟩ := trodVars_none hV
  obtain ⟨x0, rfl, b0⟩ := open_i64 (hval 0 3 v0 rfl rfl) h0
  obtain ⟨x1, b1, c1⟩ := open_tris (hval 1 22 v1 rfl rfl) h1
  obtain ⟨x2, b2, rfl, c2⟩ := open_gains (hval 2 23 v2 rfl rfl) h2
  obtain ⟨x3, r3, s3, rfl, b3, c3⟩ := open_prog (hval 3 27 v3 rfl rfl) h3
  obtain ⟨y4, z4, rfl, b4, c4, d4, e4⟩ := open_bend2 (hval 4 29 v4 rfl rfl) h4
  obtain ⟨x5, b5⟩ := open_steps (hval 5 30 v5 rfl rfl) h5
  obtain ⟨x6, rfl, b6⟩ := open_i64 (hval 6 3 v6 rfl rfl) h6
  refine (refl34_any x0 x1 v1 x2 x3 r3 s3 y4 z4 x5 v5 x6 W b0 b1 c1 b2 c2 b3 c3 b4 c4 d4 e4 b5 b6).mono fun e W' ⟨he, hb⟩ => ⟨_, he, ?_⟩
  exact post_law Try.laidOut (by kernel_rfl) rfl rfl Try.underlying4 rfl hW' hb
theorem refl34_holds : Rows.ProofMatchesReferenceSaid :=
  OpenClaim.holds_of_wide 3 Try.f3 rfl rfl rfl rfl rfl rfl rfl ⟨rfl, rfl, rfl, rfl, rfl⟩ rfl rfl rfl rfl rfl (by kernel_rfl) Try.func3 (by kernel_rfl)
    (of_decide_eq_true (by kernel_rfl)) (by unfold Func.isWrapper; first | (rw [if_pos (by decide +kernel)]; kernel_rfl) | (rw [if_neg (by decide +kernel)]; exact ⟨rfl, rfl⟩))
    (fun os started H enc _ => refl34_lifted os started H enc)
end Go.Proofs.Ytppfdjjhloaopaa
