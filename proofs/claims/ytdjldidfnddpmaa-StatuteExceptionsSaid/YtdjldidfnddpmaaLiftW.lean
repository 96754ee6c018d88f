/- Arguments of the laws of chapter 31, opened. No condition. -/
import Derived.Test.YtdjldidfnddpmaaWrap
import Derived.Test.YtdjldidfnddpmaaSwF
namespace Go.Proofs.Ytdjldidfnddpmaa
open Go.ChangeShapes Go.WideShapes Go.ChangeAt Go.RowKit

theorem Try.own : ownKnob Try.prog.godebug = none := by kernel_rfl
theorem Try.laidOut : laidOutB Try.prog = true := by kernel_rfl
theorem Try.cells3 : Try.prog.cellsOf 3 = 1 := by kernel_rfl
theorem Try.cells4 : Try.prog.cellsOf 4 = 1 := by kernel_rfl
theorem Try.cells73 : Try.prog.cellsOf 73 = 6 := by kernel_rfl
theorem Try.cells26 : Try.prog.cellsOf 26 = 4 := by kernel_rfl
theorem Try.cells76 : Try.prog.cellsOf 76 = 3 := by kernel_rfl
theorem Try.cells27 : Try.prog.cellsOf 27 = 2 := by kernel_rfl
set_option maxRecDepth 100000 in
theorem Try.cells25 : Try.prog.cellsOf 25 = 3 := by kernel_rfl
set_option maxRecDepth 100000 in
theorem Try.cells63 : Try.prog.cellsOf 63 = 4 := by kernel_rfl
theorem Try.cells22 : Try.prog.cellsOf 22 = 1 := by kernel_rfl
theorem Try.cells23 : Try.prog.cellsOf 23 = 1 := by kernel_rfl
theorem rec_slice {α : Type} {f : α → List Value} {d : α} {k : Nat} {Q : α → Prop} {c : Addr → Option Value} {v : Value} {l : List α} (h : SliceR k (fun cs x => cs = f x ∧ Q x) d c v l) : RecIn f d k c v l ∧ ∀ x ∈ l, Q x := by
  obtain ⟨a, n, h1, h2, h3, h4⟩ := h
  refine ⟨⟨a, n, h1, h2, h3, fun i hi => ?_⟩, fun x hx => ?_⟩
  · obtain ⟨b, o, cs, e, hl, ⟨rfl, -⟩, hc⟩ := h4 i hi
    refine ⟨b, o, e, fun j u hu => ?_⟩
    have hj : j < k := by rw [← hl]; exact (List.getElem?_eq_some_iff.1 hu).1
    rw [hc j hj]; exact hu
  · obtain ⟨i, hi, rfl⟩ := List.getElem_of_mem hx
    obtain ⟨b, o, cs, e, -, ⟨-, h5⟩, -⟩ := h4 i hi
    rwa [List.getD_eq_getElem?_getD, List.getElem?_eq_getElem hi] at h5
theorem trod_fldW {H : Type} {enc : TypeId × Value → H} {w : World} {base : Nat} {sp : Nat → Bool} {held : Bool} {P : Program} {fs : Array Field} {t : TypeId} {fuel : Nat} {cs : List Value} {x : DataW H × List MemPlace} (ht : P.underlying t = some (.struct fs)) (h : DataW.trod enc P w base sp held fuel t cs = some x) (i : Nat) (f : Field) (hf : fs[i]? = some f) :
    ∃ n y, DataW.trod enc P w base sp held n f.type ((cs.drop f.offset).take (P.cellsOf f.type)) = some y := by
  obtain ⟨xs, n, -, -, -, hlen, h1⟩ := DataW.trod_struct ht h
  have hi : i < fs.size := by
    rcases Array.getElem?_eq_some_iff.1 hf with ⟨hi, -⟩; exact hi
  exact ⟨n, xs[i], by rw [h1 i f hf, List.getElem?_eq_getElem (by omega)]⟩
theorem takeW {cs : List Value} {k : Nat} {v : Value} (h : (cs.drop k).take 1 = [v]) : cs[k]? = some v := by
  have : ((cs.drop k).take 1)[0]? = some v := by rw [h]; rfl
  rwa [List.getElem?_take_of_lt (by omega), List.getElem?_drop, Nat.add_zero] at this
section
variable {H : Type} {enc : TypeId × Value → H} {w : World} {base : Nat} {sp : Nat → Bool} {held : Bool}
set_option maxRecDepth 100000 in
theorem open_i64 {r : Reach} {b0 : Nat} {v : Value} {d : DataW H} {ps : List MemPlace} (hv : Value.okWide Try.prog w r b0 3 v) (h : DataW.Trod enc Try.prog w base sp held 3 v d ps) :
    ∃ x : Int, v = .int .i64 x ∧ i64B x := by
  obtain ⟨n, h1, -, -, h4⟩ := open_int Try.underlying3 hv h
  exact ⟨n, h1, bounds_i64 h4⟩
set_option maxRecDepth 100000 in
theorem open_four {r : Reach} {b0 : Nat} {v : Value} {d : DataW H} {ps : List MemPlace} (hv : Value.okWide Try.prog w r b0 26 v) (h : DataW.Trod enc Try.prog w base sp held 26 v d ps) :
    ∃ a b c e : Int, v = .agg #[.int .i64 a, .int .i64 b, .int .i64 c, .int .i64 e] ∧ i64B a ∧ i64B b ∧ i64B c ∧ i64B e := by
  obtain ⟨l, h1, rfl, h3⟩ := open_arr64 Try.underlying26 Try.underlying3 Try.cells3 Try.cells26 hv h
  match l, h1 with
  | [a, b, c, e], _ => exact ⟨a, b, c, e, rfl, h3 a (by simp), h3 b (by simp), h3 c (by simp), h3 e (by simp)⟩
set_option maxRecDepth 100000 in
theorem open_two {r : Reach} {b0 : Nat} {v : Value} {d : DataW H} {ps : List MemPlace} (hv : Value.okWide Try.prog w r b0 27 v) (h : DataW.Trod enc Try.prog w base sp held 27 v d ps) :
    ∃ a b : Int, v = .agg #[.int .i64 a, .int .i64 b] ∧ i64B a ∧ i64B b := by
  obtain ⟨l, h1, rfl, h3⟩ := open_arr64 Try.underlying27 Try.underlying3 Try.cells3 Try.cells27 hv h
  match l, h1 with
  | [a, b], _ => exact ⟨a, b, rfl, h3 a (by simp), h3 b (by simp)⟩
set_option maxRecDepth 100000 in
theorem trod_six {n : Nat} {y : DataW H × List MemPlace} {cs : List Value} (h : DataW.trod enc Try.prog w base sp held n 73 cs = some y) : ∃ x, cs = sixC x ∧ six64 x := by
  obtain ⟨l, h1, rfl, h3⟩ := trod_arr Try.underlying73 Try.underlying3 Try.cells3 Try.cells73 h
  match l, h1 with
  | [a, b, c, d, e, f], _ => exact ⟨⟨a, b, c, d, e, f⟩, rfl, h3 a (by simp), h3 b (by simp), h3 c (by simp), h3 d (by simp), h3 e (by simp), h3 f (by simp)⟩
set_option maxRecDepth 100000 in
theorem trod_tri {n : Nat} {y : DataW H × List MemPlace} {cs : List Value} (h : DataW.trod enc Try.prog w base sp held n 76 cs = some y) : ∃ x, cs = triC x ∧ tri64 x := by
  obtain ⟨l, h1, rfl, h3⟩ := trod_arr Try.underlying76 Try.underlying3 Try.cells3 Try.cells76 h
  match l, h1 with
  | [a, b, c], _ => exact ⟨(a, b, c), rfl, h3 a (by simp), h3 b (by simp), h3 c (by simp)⟩
set_option maxRecDepth 100000 in
theorem open_nums {r : Reach} {b0 : Nat} {v : Value} {d : DataW H} {ps : List MemPlace} (hv : Value.okWide Try.prog w r b0 25 v) (h : DataW.Trod enc Try.prog w base sp held 25 v d ps) :
    ∃ (x : NumsD) (xc xr xf : Value), v = .agg #[xc, xr, xf] ∧ NumsIn w.cell? xc xr xf x ∧ Nums64 x := by
  obtain ⟨cs, rfl, hsz⟩ : ∃ cs, v = .agg cs ∧ cs.size = Try.prog.cellsOf 25 := by
    simp only [Value.okWide, Try.underlying25] at hv
    obtain ⟨cs, h1, h2, -⟩ := hv
    exact ⟨cs, h1, h2⟩
  obtain ⟨m, hm⟩ := h
  rw [Try.cells25] at hsz
  obtain ⟨n0, y0, h0⟩ := trod_fldW Try.underlying25 hm 0 _ rfl
  obtain ⟨n1, y1, h1⟩ := trod_fldW Try.underlying25 hm 1 _ rfl
  obtain ⟨n2, y2, h2⟩ := trod_fldW Try.underlying25 hm 2 _ rfl
  obtain ⟨cv, cl, e0, hcs⟩ := trod_sliceR (R := fun cs x => cs = sixC x ∧ six64 x) six0 (by decide) Try.underlying22 Try.cells73 (fun n y cs hc hy => trod_six hy) h0
  obtain ⟨rv, rl, e1, hrs⟩ := trod_sliceR (R := fun cs x => cs = triC x ∧ tri64 x) (0, 0, 0) (by decide) Try.underlying23 Try.cells76 (fun n y cs hc hy => trod_tri hy) h1
  obtain ⟨fv, fl, e2, hfs⟩ := trod_sliceR (R := fun cs x => cs = sixC x ∧ six64 x) six0 (by decide) Try.underlying22 Try.cells73 (fun n y cs hc hy => trod_six hy) h2
  have g0 := takeW (by rw [← Try.cells22]; exact e0)
  have g1 := takeW (by rw [← Try.cells23]; exact e1)
  have g2 := takeW (by rw [← Try.cells22]; exact e2)
  obtain ⟨b0, b1, b2, hcs'⟩ : ∃ b0 b1 b2, cs.toList = [b0, b1, b2] := by
    match hh : cs.toList, (show cs.toList.length = 3 by simpa using hsz) with
    | [x, y, z], _ => exact ⟨_, _, _, rfl⟩
  simp only [Value.cells, hcs'] at g0 g1 g2
  simp at g0 g1 g2
  subst g0 g1 g2
  have k0 := rec_slice hcs
  have k1 := rec_slice hrs
  have k2 := rec_slice hfs
  refine ⟨⟨cl, rl, fl⟩, _, _, _, ?_, ⟨k0.1, k1.1, k2.1⟩, ⟨k0.2, k1.2, k2.2⟩⟩
  congr 1
  exact Array.ext' (by simpa using hcs')
set_option maxRecDepth 100000 in
theorem trod_find {n : Nat} {y : DataW H × List MemPlace} {cs : List Value} (hl : cs.length = 4) (h : DataW.trod enc Try.prog w base sp held n 63 cs = some y) : ∃ x, cs = findC x ∧ True := by
  obtain ⟨n0, y0, h0⟩ := trod_fldW Try.underlying63 h 0 _ rfl
  obtain ⟨n1, y1, h1⟩ := trod_fldW Try.underlying63 h 1 _ rfl
  obtain ⟨n2, y2, h2⟩ := trod_fldW Try.underlying63 h 2 _ rfl
  obtain ⟨n3, y3, h3⟩ := trod_fldW Try.underlying63 h 3 _ rfl
  obtain ⟨a0, e0, -⟩ := trod_i64 Try.underlying3 h0
  obtain ⟨a1, e1, -⟩ := DataW.trod_bool Try.underlying4 h1
  obtain ⟨a2, e2, -⟩ := trod_i64 Try.underlying3 h2
  obtain ⟨a3, e3, -⟩ := trod_i64 Try.underlying3 h3
  have g0 := takeW (by rw [← Try.cells3]; exact e0)
  have g1 := takeW (by rw [← Try.cells4]; exact e1)
  have g2 := takeW (by rw [← Try.cells3]; exact e2)
  have g3 := takeW (by rw [← Try.cells3]; exact e3)
  match cs, hl with
  | [b0, b1, b2, b3], _ =>
    simp at g0 g1 g2 g3
    subst g0 g1 g2 g3
    exact ⟨⟨a0, a1, a2, a3⟩, rfl, trivial⟩
set_option maxRecDepth 100000 in
theorem open_finds {r : Reach} {b0 : Nat} {v : Value} {d : DataW H} {ps : List MemPlace} (hv : Value.okWide Try.prog w r b0 28 v) (h : DataW.Trod enc Try.prog w base sp held 28 v d ps) : ∃ l, FindsIn w.cell? v l := by
  obtain ⟨l, hs⟩ := open_sliceR (R := fun cs x => cs = findC x ∧ True) find0 (by decide) Try.underlying28 Try.cells63 (fun n y cs hc hy => trod_find hc hy) hv h
  exact ⟨l, (rec_slice hs).1⟩
end
end Go.Proofs.Ytdjldidfnddpmaa
