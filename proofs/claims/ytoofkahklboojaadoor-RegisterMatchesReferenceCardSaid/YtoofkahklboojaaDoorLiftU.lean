/- The laws' arguments opened: a truth, points, a motion, integers. No condition. -/
import Derived.Test.YtoofkahklboojaaDoorLiftT
import Derived.Test.YtoofkahklboojaaDoorRkN
namespace Go.Proofs.YtoofkahklboojaaDoor
open Go.ChangeShapes Go.WideShapes Go.ChangeAt Go.RowKit

theorem Tryd.cells24 : Tryd.prog.cellsOf 24 = 3 := by kernel_rfl
theorem Tryd.cells108 : Tryd.prog.cellsOf 108 = 4 := by kernel_rfl
theorem Tryd.cells53 : Tryd.prog.cellsOf 53 = 4 := by kernel_rfl
theorem Tryd.cells32 : Tryd.prog.cellsOf 32 = 3 := by kernel_rfl
theorem Tryd.cells28 : Tryd.prog.cellsOf 28 = 7 := by kernel_rfl
theorem Tryd.cells22 : Tryd.prog.cellsOf 22 = 1 := by kernel_rfl
theorem Tryd.cells23 : Tryd.prog.cellsOf 23 = 1 := by kernel_rfl
theorem Tryd.cells25 : Tryd.prog.cellsOf 25 = 1 := by kernel_rfl
theorem Tryd.cells26 : Tryd.prog.cellsOf 26 = 1 := by kernel_rfl
theorem recIn_of {α : Type} {f : α → List Value} {Q : α → Prop} {d : α} {k : Nat} {c : Addr → Option Value} {v : Value} {l : List α} (h : SliceR k (fun cs x => cs = f x ∧ Q x) d c v l) (hk : ∀ x, (f x).length = k) : RecIn f d k c v l ∧ ∀ x ∈ l, Q x := by
  obtain ⟨a, n, h1, h2, h3, h4⟩ := h
  refine ⟨⟨a, n, h1, h2, h3, fun i hi => ?_⟩, fun x hx => ?_⟩
  · obtain ⟨b, o, cs, e, -, ⟨rfl, -⟩, hc⟩ := h4 i hi
    refine ⟨b, o, e, fun j u hu => ?_⟩
    have hj : j < k := by rw [← hk (l.getD i d)]; exact (List.getElem?_eq_some_iff.1 hu).1
    rw [hc j hj]; exact hu
  · obtain ⟨i, hi, rfl⟩ := List.getElem_of_mem hx
    obtain ⟨b, o, cs, e, -, ⟨-, h5⟩, -⟩ := h4 i hi
    rwa [List.getD_eq_getElem?_getD, List.getElem?_eq_getElem hi] at h5
theorem ints_of {c : Addr → Option Value} {v : Value} {l : List Int} (h : RecIn (fun x : Int => [iV x]) 0 1 c v l) : IntsIn c v l := by
  obtain ⟨a, n, h1, h2, h3, h4⟩ := h
  refine ⟨a, n, h1, h2, h3, fun i hi => ?_⟩
  obtain ⟨b, o, e, hc⟩ := h4 i hi
  refine ⟨b, o, e, ?_⟩
  have := hc 0 _ rfl
  rwa [Nat.mul_one, Nat.add_zero] at this
section
variable {H : Type} {enc : TypeId × Value → H} {w : World} {base : Nat} {sp : Nat → Bool} {held : Bool}
theorem trod_fldU {P : Program} {fs : Array Field} {t : TypeId} {fuel : Nat} {cs : List Value} {x : DataW H × List MemPlace} (ht : P.underlying t = some (.struct fs)) (h : DataW.trod enc P w base sp held fuel t cs = some x) (i : Nat) (f : Field) (hf : fs[i]? = some f) :
    ∃ n y, DataW.trod enc P w base sp held n f.type ((cs.drop f.offset).take (P.cellsOf f.type)) = some y := by
  obtain ⟨xs, n, -, -, -, hlen, h1⟩ := DataW.trod_struct ht h
  have hi : i < fs.size := by
    rcases Array.getElem?_eq_some_iff.1 hf with ⟨hi, -⟩; exact hi
  exact ⟨n, xs[i], by rw [h1 i f hf, List.getElem?_eq_getElem (by omega)]⟩
theorem b64 {x : Int} (h : -9223372036854775808 ≤ x ∧ x ≤ 9223372036854775807) : i64B x := h
def pairQ (p : Int × Int) : Prop := i64B p.1 ∧ i64B p.2
def triQ (p : Int × Int × Int) : Prop := i64B p.1 ∧ i64B p.2.1 ∧ i64B p.2.2
def quadQ (p : Int × Int × Int × Int) : Prop := i64B p.1 ∧ i64B p.2.1 ∧ i64B p.2.2.1 ∧ i64B p.2.2.2
theorem trod_pair {n : Nat} {y : DataW H × List MemPlace} {cs : List Value} (hy : DataW.trod enc Tryd.prog w base sp held n 58 cs = some y) : ∃ p, cs = idsC p ∧ pairQ p := by
  obtain ⟨l, h1, rfl, h3⟩ := trod_arr Tryd.underlying58 Tryd.underlying3 Tryd.cells3 Tryd.cells58 hy
  match l, h1 with
  | [a, b], _ => exact ⟨(a, b), rfl, h3 a (by simp), h3 b (by simp)⟩
theorem trod_tri {n : Nat} {y : DataW H × List MemPlace} {cs : List Value} (hy : DataW.trod enc Tryd.prog w base sp held n 24 cs = some y) : ∃ p, cs = triC p ∧ triQ p := by
  obtain ⟨l, h1, rfl, h3⟩ := trod_arr Tryd.underlying24 Tryd.underlying3 Tryd.cells3 Tryd.cells24 hy
  match l, h1 with
  | [a, b, c], _ => exact ⟨(a, b, c), rfl, h3 a (by simp), h3 b (by simp), h3 c (by simp)⟩
theorem trod_quad {n : Nat} {y : DataW H × List MemPlace} {cs : List Value} (hy : DataW.trod enc Tryd.prog w base sp held n 108 cs = some y) : ∃ p, cs = quadC p ∧ quadQ p := by
  obtain ⟨l, h1, rfl, h3⟩ := trod_arr Tryd.underlying108 Tryd.underlying3 Tryd.cells3 Tryd.cells108 hy
  match l, h1 with
  | [a, b, c, d], _ => exact ⟨(a, b, c, d), rfl, h3 a (by simp), h3 b (by simp), h3 c (by simp), h3 d (by simp)⟩
theorem trod_ints {n : Nat} {x : DataW H × List MemPlace} {cs : List Value} (h : DataW.trod enc Tryd.prog w base sp held n 25 cs = some x) : ∃ v l, cs = [v] ∧ IntsIn w.cell? v l ∧ ∀ x ∈ l, i64B x := by
  obtain ⟨v, l, e, hs⟩ := trod_sliceR (R := fun cs x => cs = [iV x] ∧ i64B x) 0 (by decide) Tryd.underlying25 Tryd.cells3 (fun n y cs hc hy => by
    obtain ⟨x, h1, h2⟩ := trod_i64 Tryd.underlying3 hy
    exact ⟨x, h1, h2⟩) h
  obtain ⟨h1, h2⟩ := recIn_of hs (fun _ => rfl)
  exact ⟨v, l, e, ints_of h1, h2⟩
theorem trod_quads {n : Nat} {x : DataW H × List MemPlace} {cs : List Value} (h : DataW.trod enc Tryd.prog w base sp held n 26 cs = some x) : ∃ v l, cs = [v] ∧ RecIn quadC (0, 0, 0, 0) 4 w.cell? v l ∧ ∀ x ∈ l, quadQ x := by
  obtain ⟨v, l, e, hs⟩ := trod_sliceR (R := fun cs x => cs = quadC x ∧ quadQ x) (0, 0, 0, 0) (by decide) Tryd.underlying26 Tryd.cells108 (fun n y cs hc hy => trod_quad hy) h
  exact ⟨v, l, e, recIn_of hs (fun _ => rfl)⟩
theorem trod_pairs {n : Nat} {x : DataW H × List MemPlace} {cs : List Value} (h : DataW.trod enc Tryd.prog w base sp held n 22 cs = some x) : ∃ v l, cs = [v] ∧ RecIn idsC (0, 0) 2 w.cell? v l ∧ ∀ x ∈ l, pairQ x := by
  obtain ⟨v, l, e, hs⟩ := trod_sliceR (R := fun cs x => cs = idsC x ∧ pairQ x) (0, 0) (by decide) Tryd.underlying22 Tryd.cells58 (fun n y cs hc hy => trod_pair hy) h
  exact ⟨v, l, e, recIn_of hs (fun _ => rfl)⟩
theorem trod_tris {n : Nat} {x : DataW H × List MemPlace} {cs : List Value} (h : DataW.trod enc Tryd.prog w base sp held n 23 cs = some x) : ∃ v l, cs = [v] ∧ RecIn triC (0, 0, 0) 3 w.cell? v l ∧ ∀ x ∈ l, triQ x := by
  obtain ⟨v, l, e, hs⟩ := trod_sliceR (R := fun cs x => cs = triC x ∧ triQ x) (0, 0, 0) (by decide) Tryd.underlying23 Tryd.cells24 (fun n y cs hc hy => trod_tri hy) h
  exact ⟨v, l, e, recIn_of hs (fun _ => rfl)⟩
set_option maxRecDepth 100000 in
theorem trod_truth {n : Nat} {x : DataW H × List MemPlace} {cs : List Value} (hl : cs.length = 7) (h : DataW.trod enc Tryd.prog w base sp held n 28 cs = some x) :
    ∃ t mv fv tv ev, cs = truthC mv fv tv ev t ∧ TruthAt w mv fv tv ev t ∧ Truth64 t := by
  obtain ⟨n0, y0, h0⟩ := trod_fldU Tryd.underlying28 h 0 _ rfl
  obtain ⟨n1, y1, h1⟩ := trod_fldU Tryd.underlying28 h 1 _ rfl
  obtain ⟨n2, y2, h2⟩ := trod_fldU Tryd.underlying28 h 2 _ rfl
  obtain ⟨n3, y3, h3⟩ := trod_fldU Tryd.underlying28 h 3 _ rfl
  obtain ⟨n4, y4, h4⟩ := trod_fldU Tryd.underlying28 h 4 _ rfl
  obtain ⟨mv, ml, e0, hm, hm2⟩ := trod_pairs h0
  obtain ⟨fv, fl, e1, hf, hf2⟩ := trod_tris h1
  obtain ⟨mo, e2, hmo⟩ := trod_tri h2
  obtain ⟨tv, tl, e3, ht, ht2⟩ := trod_ints h3
  obtain ⟨ev, el, e4, he, he2⟩ := trod_quads h4
  have f0 : (cs.drop 0).take 1 = [mv] := by rw [← Tryd.cells22]; exact e0
  have f1 : (cs.drop 1).take 1 = [fv] := by rw [← Tryd.cells23]; exact e1
  have f2 : (cs.drop 2).take 3 = triC mo := by rw [← Tryd.cells24]; exact e2
  have f3 : (cs.drop 5).take 1 = [tv] := by rw [← Tryd.cells25]; exact e3
  have f4 : (cs.drop 6).take 1 = [ev] := by rw [← Tryd.cells26]; exact e4
  obtain ⟨c0, c1, c2, c3, c4, c5, c6, rfl⟩ := len7 hl
  simp only [List.drop_succ_cons, List.drop_zero, List.take_succ_cons, List.take_zero, List.cons.injEq, and_true, triC] at f0 f1 f2 f3 f4
  obtain ⟨e20, e21, e22⟩ := f2
  clear e0 e1 e2 e3 e4 h0 h1 h2 h3 h4
  subst f0 f1 e20 e21 e22 f3 f4
  exact ⟨⟨ml, fl, mo, tl, el⟩, _, _, _, _, rfl, ⟨hm, hf, ht, he⟩, ⟨hm2, hf2, hmo, ht2, he2⟩⟩
set_option maxRecDepth 100000 in
theorem open_truth {r : Reach} {b0 : Nat} {v : Value} {d : DataW H} {ps : List MemPlace} (hv : Value.okWide Tryd.prog w r b0 28 v) (h : DataW.Trod enc Tryd.prog w base sp held 28 v d ps) :
    ∃ t mv fv tv ev, v = truthV mv fv tv ev t ∧ TruthAt w mv fv tv ev t ∧ Truth64 t := by
  obtain ⟨cs, rfl, hsz⟩ : ∃ cs, v = .agg cs ∧ cs.size = Tryd.prog.cellsOf 28 := by
    simp only [Value.okWide, Tryd.underlying28] at hv
    obtain ⟨cs, h1, h2, -⟩ := hv
    exact ⟨cs, h1, h2⟩
  obtain ⟨m, hm⟩ := h
  rw [Tryd.cells28] at hsz
  obtain ⟨t, mv, fv, tv, ev, e, h1, h2⟩ := trod_truth (cs := (Value.agg cs).cells.toList) (by simpa [Value.cells] using hsz) hm
  refine ⟨t, mv, fv, tv, ev, ?_, h1, h2⟩
  have : cs.toList = truthC mv fv tv ev t := by simpa [Value.cells] using e
  show Value.agg cs = _
  congr 1
  exact Array.ext' this
set_option maxRecDepth 100000 in
theorem open_i64 {r : Reach} {b0 : Nat} {v : Value} {d : DataW H} {ps : List MemPlace} (hv : Value.okWide Tryd.prog w r b0 3 v) (h : DataW.Trod enc Tryd.prog w base sp held 3 v d ps) :
    ∃ x : Int, v = .int .i64 x ∧ i64B x := by
  obtain ⟨n, h1, -, -, h4⟩ := open_int Tryd.underlying3 hv h
  exact ⟨n, h1, bounds_i64 h4⟩
set_option maxRecDepth 100000 in
theorem open_three {r : Reach} {b0 : Nat} {v : Value} {d : DataW H} {ps : List MemPlace} (hv : Value.okWide Tryd.prog w r b0 24 v) (h : DataW.Trod enc Tryd.prog w base sp held 24 v d ps) :
    ∃ p : Int × Int × Int, v = .agg #[iV p.1, iV p.2.1, iV p.2.2] ∧ triQ p := by
  obtain ⟨l, h1, h2, h3⟩ := open_arr64 Tryd.underlying24 Tryd.underlying3 Tryd.cells3 Tryd.cells24 hv h
  match l, h1 with
  | [a, b, c], _ => exact ⟨(a, b, c), h2, h3 a (by simp), h3 b (by simp), h3 c (by simp)⟩
set_option maxRecDepth 100000 in
theorem open_ints {r : Reach} {b0 : Nat} {v : Value} {d : DataW H} {ps : List MemPlace} (hv : Value.okWide Tryd.prog w r b0 25 v) (h : DataW.Trod enc Tryd.prog w base sp held 25 v d ps) :
    ∃ l, IntsIn w.cell? v l ∧ ∀ x ∈ l, i64B x := by
  obtain ⟨l, hs⟩ := open_sliceR (R := fun cs x => cs = [iV x] ∧ i64B x) 0 (by decide) Tryd.underlying25 Tryd.cells3 (fun n y cs hc hy => by
    obtain ⟨x, h1, h2⟩ := trod_i64 Tryd.underlying3 hy
    exact ⟨x, h1, h2⟩) hv h
  obtain ⟨h1, h2⟩ := recIn_of hs (fun _ => rfl)
  exact ⟨l, ints_of h1, h2⟩
set_option maxRecDepth 100000 in
theorem open_quads {r : Reach} {b0 : Nat} {v : Value} {d : DataW H} {ps : List MemPlace} (hv : Value.okWide Tryd.prog w r b0 26 v) (h : DataW.Trod enc Tryd.prog w base sp held 26 v d ps) :
    ∃ l, RecIn quadC (0, 0, 0, 0) 4 w.cell? v l ∧ ∀ x ∈ l, quadQ x := by
  obtain ⟨l, hs⟩ := open_sliceR (R := fun cs x => cs = quadC x ∧ quadQ x) (0, 0, 0, 0) (by decide) Tryd.underlying26 Tryd.cells108 (fun n y cs hc hy => trod_quad hy) hv h
  exact ⟨l, recIn_of hs (fun _ => rfl)⟩
end
end Go.Proofs.YtoofkahklboojaaDoor
