/- The arguments of RegisterMatchesReference opened: a motion, points, two bends. No condition. -/
import Derived.Test.YtoofkahklboojaaDoorLiftU
import Derived.Test.YtoofkahklboojaaDoorRkC
namespace Go.Proofs.YtoofkahklboojaaDoor
open Go.ChangeShapes Go.WideShapes Go.ChangeAt Go.RowKit

theorem Tryd.cells29 : Tryd.prog.cellsOf 29 = 6 := by kernel_rfl
def dotQ (p : DotD) : Prop := i64B p.id ∧ i64B p.x ∧ i64B p.y ∧ i64B p.tol
def motQ (m : MotD) : Prop := i64B m.turn ∧ i64B m.dx ∧ i64B m.dy
section
variable {H : Type} {enc : TypeId × Value → H} {w : World} {base : Nat} {sp : Nat → Bool} {held : Bool}
set_option maxRecDepth 100000 in
theorem trod_dot {n : Nat} {x : DataW H × List MemPlace} {cs : List Value} (hl : cs.length = 4) (h : DataW.trod enc Tryd.prog w base sp held n 53 cs = some x) : ∃ p, cs = dotC p ∧ dotQ p := by
  obtain ⟨n0, y0, h0⟩ := trod_fldU Tryd.underlying53 h 0 _ rfl
  obtain ⟨n1, y1, h1⟩ := trod_fldU Tryd.underlying53 h 1 _ rfl
  obtain ⟨n2, y2, h2⟩ := trod_fldU Tryd.underlying53 h 2 _ rfl
  obtain ⟨n3, y3, h3⟩ := trod_fldU Tryd.underlying53 h 3 _ rfl
  obtain ⟨a, e0, k0⟩ := trod_i64 Tryd.underlying3 h0
  obtain ⟨b, e1, k1⟩ := trod_i64 Tryd.underlying3 h1
  obtain ⟨c, e2, k2⟩ := trod_i64 Tryd.underlying3 h2
  obtain ⟨d, e3, k3⟩ := trod_i64 Tryd.underlying3 h3
  have f0 : (cs.drop 0).take 1 = [iV a] := by rw [← Tryd.cells3]; exact e0
  have f1 : (cs.drop 1).take 1 = [iV b] := by rw [← Tryd.cells3]; exact e1
  have f2 : (cs.drop 2).take 1 = [iV c] := by rw [← Tryd.cells3]; exact e2
  have f3 : (cs.drop 3).take 1 = [iV d] := by rw [← Tryd.cells3]; exact e3
  obtain ⟨c0, c1, c2, c3, rfl⟩ := len4 hl
  simp only [List.drop_succ_cons, List.drop_zero, List.take_succ_cons, List.take_zero, List.cons.injEq, and_true] at f0 f1 f2 f3
  subst f0 f1 f2 f3
  exact ⟨⟨a, b, c, d⟩, rfl, k0, k1, k2, k3⟩
set_option maxRecDepth 100000 in
theorem open_motion {r : Reach} {b0 : Nat} {v : Value} {d : DataW H} {ps : List MemPlace} (hv : Value.okWide Tryd.prog w r b0 32 v) (h : DataW.Trod enc Tryd.prog w base sp held 32 v d ps) :
    ∃ m : MotD, v = motV m ∧ motQ m := by
  obtain ⟨cs, rfl, hsz⟩ : ∃ cs, v = .agg cs ∧ cs.size = Tryd.prog.cellsOf 32 := by
    simp only [Value.okWide, Tryd.underlying32] at hv
    obtain ⟨cs, h1, h2, -⟩ := hv
    exact ⟨cs, h1, h2⟩
  obtain ⟨m, hm⟩ := h
  rw [Tryd.cells32] at hsz
  obtain ⟨n0, y0, h0⟩ := trod_fldU Tryd.underlying32 hm 0 _ rfl
  obtain ⟨n1, y1, h1⟩ := trod_fldU Tryd.underlying32 hm 1 _ rfl
  obtain ⟨n2, y2, h2⟩ := trod_fldU Tryd.underlying32 hm 2 _ rfl
  obtain ⟨a, e0, k0⟩ := trod_i64 Tryd.underlying3 h0
  obtain ⟨b, e1, k1⟩ := trod_i64 Tryd.underlying3 h1
  obtain ⟨c, e2, k2⟩ := trod_i64 Tryd.underlying3 h2
  have f0 : ((Value.agg cs).cells.toList.drop 0).take 1 = [iV a] := by rw [← Tryd.cells3]; exact e0
  have f1 : ((Value.agg cs).cells.toList.drop 1).take 1 = [iV b] := by rw [← Tryd.cells3]; exact e1
  have f2 : ((Value.agg cs).cells.toList.drop 2).take 1 = [iV c] := by rw [← Tryd.cells3]; exact e2
  obtain ⟨c0, c1, c2, hcs⟩ := len3 (vs := cs.toList) (by simpa using hsz)
  simp only [Value.cells, hcs, List.drop_succ_cons, List.drop_zero, List.take_succ_cons, List.take_zero, List.cons.injEq, and_true] at f0 f1 f2
  subst f0 f1 f2
  refine ⟨⟨a, b, c⟩, ?_, k0, k1, k2⟩
  show Value.agg cs = _
  congr 1
  exact Array.ext' hcs
set_option maxRecDepth 100000 in
theorem open_dots {r : Reach} {b0 : Nat} {v : Value} {d : DataW H} {ps : List MemPlace} (hv : Value.okWide Tryd.prog w r b0 30 v) (h : DataW.Trod enc Tryd.prog w base sp held 30 v d ps) :
    ∃ l, DotsAt w v l ∧ ∀ p ∈ l, dotQ p := by
  obtain ⟨l, hs⟩ := open_sliceR (R := fun cs x => cs = dotC x ∧ dotQ x) dot0 (by decide) Tryd.underlying30 Tryd.cells53 (fun n y cs hc hy => trod_dot hc hy) hv h
  exact ⟨l, recIn_of hs (fun _ => rfl)⟩
set_option maxRecDepth 100000 in
theorem open_bends {r : Reach} {b0 : Nat} {v : Value} {d : DataW H} {ps : List MemPlace} (hv : Value.okWide Tryd.prog w r b0 29 v) (h : DataW.Trod enc Tryd.prog w base sp held 29 v d ps) :
    ∃ p : (Int × Int × Int) × (Int × Int × Int), v = .agg #[iV p.1.1, iV p.1.2.1, iV p.1.2.2, iV p.2.1, iV p.2.2.1, iV p.2.2.2] ∧ triQ p.1 ∧ triQ p.2 := by
  obtain ⟨cs, rfl, hsz⟩ : ∃ cs, v = .agg cs ∧ cs.size = Tryd.prog.cellsOf 29 := by
    simp only [Value.okWide, Tryd.underlying29] at hv
    obtain ⟨cs, h1, h2, -⟩ := hv
    exact ⟨cs, h1, h2⟩
  obtain ⟨m, hm⟩ := h
  rw [Tryd.cells29] at hsz
  obtain ⟨xs, n, -, -, -, hn, hel⟩ := DataW.trod_array Tryd.underlying29 hm
  have h0 := hel 0 (by omega)
  have h1 := hel 1 (by omega)
  rw [Tryd.cells24] at h0 h1
  obtain ⟨c0, c1, c2, c3, c4, c5, hcs⟩ := len6 (vs := cs.toList) (by simpa using hsz)
  obtain ⟨u0, u1, rfl⟩ := len2 hn
  obtain ⟨p, e0, k0⟩ := trod_tri h0
  obtain ⟨q, e1, k1⟩ := trod_tri h1
  simp only [Value.cells, hcs, triC] at e0 e1
  simp at e0 e1
  obtain ⟨rfl, rfl, rfl⟩ := e0
  obtain ⟨rfl, rfl, rfl⟩ := e1
  refine ⟨(p, q), ?_, k0, k1⟩
  show Value.agg cs = _
  congr 1
  exact Array.ext' hcs
end
end Go.Proofs.YtoofkahklboojaaDoor
