/- What the tied rows' condition gives (the tables of math/bits, in memory), and the laws' arguments opened. No condition. -/
import Derived.Test.YtnidcoinfmcffaaDoorWrap
import Derived.Test.YtnidcoinfmcffaaDoorOtB
import Derived.LaidLaws
import Derived.LaidMore
import Derived.LaidHandle
import Derived.Handed
import Derived.Lib.LaidTab
import Derived.Test.YtnidcoinfmcffaaDoorTie
namespace Go.Proofs.YtnidcoinfmcffaaDoor
open Go.ChangeShapes Go.WideShapes Go.ChangeAt Go.RowKit

theorem Tryd.own : ownKnob Tryd.prog.godebug = none := by kernel_rfl
theorem Tryd.laidOut : laidOutB Tryd.prog = true := by kernel_rfl
theorem Tryd.cells3 : Tryd.prog.cellsOf 3 = 1 := by kernel_rfl
theorem Tryd.cells46 : Tryd.prog.cellsOf 46 = 2 := by kernel_rfl
theorem Tryd.cells99 : Tryd.prog.cellsOf 99 = 32 := by kernel_rfl
theorem Tryd.cells100 : Tryd.prog.cellsOf 100 = 64 := by kernel_rfl
theorem Tryd.cells5 : Tryd.prog.cellsOf 5 = 1 := by kernel_rfl
def laidL : List (String × DataW Unit) := [("math/bits.deBruijn32tab", Rows.laid_math_bits_deBruijn32tab), ("math/bits.deBruijn64tab", Rows.laid_math_bits_deBruijn64tab)]
theorem door_met (os : Os) (args : Array Value) : laidMet Tryd.prog laidL ((World.doorLaid Tryd.prog 33 os).forCall (fun _ _ => 0) ⟨#[], args, []⟩).memory :=
  laidMet_of_run' 8 (by kernel_rfl) (by kernel_rfl)
theorem g32 : Tryd.prog.globalNamed "math/bits.deBruijn32tab" = some 0 := by kernel_rfl
theorem g64 : Tryd.prog.globalNamed "math/bits.deBruijn64tab" = some 1 := by kernel_rfl
theorem t32g : (Tryd.prog.globals[0]?).map (·.type) = some 99 := by kernel_rfl
theorem t64g : (Tryd.prog.globals[1]?).map (·.type) = some 100 := by kernel_rfl
theorem gblk_of {W : World} {n : String} {g : Nat} {cs : Array Value} {vs : List Value} (hg : Tryd.prog.globalNamed n = some g) (h : W.var? Tryd.prog n = some cs) (hc : cs.toList = vs) : GBlk W g vs := by
  have hc' : cs = vs.toArray := by rw [← hc]
  subst hc'
  simp only [World.var?, hg, Option.bind_some] at h
  split at h
  · rename_i cs' t m hh
    cases h
    exact ⟨t, m, hh⟩
  · cases h
theorem glob_of_laid {W : World} (h : laidMet Tryd.prog laidL W) : Glob W := by
  obtain ⟨ps, ⟨g0, t0, cs0, f0, p0, q0, hg0, ht0, hv0, hd0, ⟨g1, t1, cs1, f1, p1, q1, hg1, ht1, hv1, hd1, -, -⟩, -⟩, -, -⟩ := h
  obtain rfl := Option.some.inj (g32.symm.trans hg0)
  obtain rfl := Option.some.inj (g64.symm.trans hg1)
  obtain rfl := Option.some.inj (t32g.symm.trans ht0)
  obtain rfl := Option.some.inj (t64g.symm.trans ht1)
  exact ⟨gblk_of g32 hv0 (Lib.cells_of_tab Tryd.underlying99 Tryd.underlying5 Tryd.cells5 Tryd.cells99 hd0), gblk_of g64 hv1 (Lib.cells_of_tab Tryd.underlying100 Tryd.underlying5 Tryd.cells5 Tryd.cells100 hd1)⟩
theorem recIn_of {α : Type} {f : α → List Value} {Q : α → Prop} {d : α} {k : Nat} {c : Addr → Option Value} {v : Value} {l : List α} (h : SliceR k (fun cs x => cs = f x ∧ Q x) d c v l) (hk : ∀ x, (f x).length = k) : RecIn f d k c v l ∧ ∀ x ∈ l, Q x := by
  obtain ⟨a, n, h1, h2, h3, h4⟩ := h
  refine ⟨⟨a, n, h1, h2, h3, fun i hi => ?_⟩, fun x hx => ?_⟩
  · obtain ⟨b, o, cs, e, -, ⟨rfl, -⟩, hc⟩ := h4 i hi
    refine ⟨b, o, e, fun j u hu => ?_⟩
    have hj : j < k := by rw [← hk (l.getD i d)]; exact (List.getElem?_eq_some_iff.1 hu).1
    rw [hc j hj]; exact hu
  · obtain ⟨i, hi, rfl⟩ := List.getElem_of_mem hx
    obtain ⟨b, o, cs, e, -, ⟨-, h5⟩, -⟩ := h4 i hi
    rwa [List.getD_eq_getElem?_getD, List.getElem?_eq_getElem hi] at h5
theorem ints_of {c : Addr → Option Value} {v : Value} {l : List Int} (h : RecIn (fun x : Int => [Value.int .i64 x]) 0 1 c v l) : IntsIn c v l := by
  obtain ⟨a, n, h1, h2, h3, h4⟩ := h
  refine ⟨a, n, h1, h2, h3, fun i hi => ?_⟩
  obtain ⟨b, o, e, hc⟩ := h4 i hi
  refine ⟨b, o, e, ?_⟩
  have := hc 0 _ rfl
  rwa [Nat.mul_one, Nat.add_zero] at this
section
variable {H : Type} {enc : TypeId × Value → H} {w : World} {base : Nat} {sp : Nat → Bool} {held : Bool}
def pairQ (p : Int × Int) : Prop := i64B p.1 ∧ i64B p.2
theorem trod_pair {n : Nat} {y : DataW H × List MemPlace} {cs : List Value} (hy : DataW.trod enc Tryd.prog w base sp held n 46 cs = some y) : ∃ p, cs = pairC p ∧ pairQ p := by
  obtain ⟨l, h1, rfl, h3⟩ := trod_arr Tryd.underlying46 Tryd.underlying3 Tryd.cells3 Tryd.cells46 hy
  match l, h1 with
  | [a, b], _ => exact ⟨(a, b), rfl, h3 a (by simp), h3 b (by simp)⟩
set_option maxRecDepth 100000 in
theorem open_i64 {r : Reach} {b0 : Nat} {v : Value} {d : DataW H} {ps : List MemPlace} (hv : Value.okWide Tryd.prog w r b0 3 v) (h : DataW.Trod enc Tryd.prog w base sp held 3 v d ps) :
    ∃ x : Int, v = .int .i64 x ∧ i64B x := by
  obtain ⟨n, h1, -, -, h4⟩ := open_int Tryd.underlying3 hv h
  exact ⟨n, h1, bounds_i64 h4⟩
set_option maxRecDepth 100000 in
theorem open_ints {r : Reach} {b0 : Nat} {v : Value} {d : DataW H} {ps : List MemPlace} (hv : Value.okWide Tryd.prog w r b0 26 v) (h : DataW.Trod enc Tryd.prog w base sp held 26 v d ps) :
    ∃ l, IntsIn w.cell? v l ∧ ∀ x ∈ l, i64B x := by
  obtain ⟨l, hs⟩ := open_sliceR (R := fun cs x => cs = [Value.int .i64 x] ∧ i64B x) 0 (by decide) Tryd.underlying26 Tryd.cells3 (fun n y cs hc hy => by
    obtain ⟨x, h1, h2⟩ := trod_i64 Tryd.underlying3 hy
    exact ⟨x, h1, h2⟩) hv h
  obtain ⟨h1, h2⟩ := recIn_of hs (fun _ => rfl)
  exact ⟨l, ints_of h1, h2⟩
set_option maxRecDepth 100000 in
theorem open_pairs {r : Reach} {b0 : Nat} {v : Value} {d : DataW H} {ps : List MemPlace} (hv : Value.okWide Tryd.prog w r b0 22 v) (h : DataW.Trod enc Tryd.prog w base sp held 22 v d ps) :
    ∃ l, PairsIn w.cell? v l ∧ ∀ x ∈ l, pairQ x := by
  obtain ⟨l, hs⟩ := open_sliceR (R := fun cs x => cs = pairC x ∧ pairQ x) (0, 0) (by decide) Tryd.underlying22 Tryd.cells46 (fun n y cs hc hy => trod_pair hy) hv h
  exact ⟨l, recIn_of hs (fun _ => rfl)⟩
end
end Go.Proofs.YtnidcoinfmcffaaDoor
