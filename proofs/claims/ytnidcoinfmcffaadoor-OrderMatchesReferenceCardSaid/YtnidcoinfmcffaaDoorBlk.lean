/- Blocks of cells that are known whole; slices of records that a call itself makes. No condition. -/
import Derived.Test.YtnidcoinfmcffaaDoorOwn
import Derived.RangeFuncBox
namespace Go.Proofs.YtnidcoinfmcffaaDoor
open Go.RowKit

/-- block b holds the cells vs, of type t -/
def Blk (w : World) (b : Nat) (vs : List Value) (t : TypeId) : Prop := w.heap[b]? = some (.cells vs.toArray t (0, 0))
theorem Blk.lt {w : World} {b : Nat} {vs : List Value} {t : TypeId} (h : Blk w b vs t) : b < w.heap.size := (Array.getElem?_eq_some_iff.1 h).1
theorem Blk.cell {w : World} {b : Nat} {vs : List Value} {t : TypeId} (h : Blk w b vs t) (j : Nat) {v : Value} (hv : vs[j]? = some v) : w.cell? ⟨b, j, none⟩ = some v := by
 simp [World.cell?, show w.heap[b]? = _ from h, hv]
theorem Blk.frozen {w : World} {b : Nat} {vs : List Value} {t : TypeId} (h : Blk w b vs t) (j : Nat) : w.frozen? ⟨b, j, none⟩ = false := by
 simp [World.frozen?, show w.heap[b]? = _ from h]
theorem Blk.new (w : World) (vs : List Value) (t : TypeId) : Blk (w.alloc (.cells vs.toArray t)) w.heap.size vs t := World.alloc_heap_new w _
theorem Blk.old {w : World} {b : Nat} {vs : List Value} {t : TypeId} (h : Blk w b vs t) (o : Obj) : Blk (w.alloc o) b vs t :=
 (Below.heap_alloc w o b h.lt).trans h
theorem Blk.below {w w' : World} {b : Nat} {vs : List Value} {t : TypeId} (h : Blk w b vs t) {B : Nat} (hb : Below B w w') (hB : b < B) : Blk w' b vs t := (hb.block b hB).trans h
theorem Blk.later {w w' : World} {b : Nat} {vs : List Value} {t : TypeId} (h : Blk w b vs t) (hb : Below w.heap.size w w') : Blk w' b vs t := h.below hb h.lt
theorem Blk.set {w : World} {b : Nat} {vs : List Value} {t : TypeId} (h : Blk w b vs t) (j : Nat) (u : Value) : Blk (w.setCell ⟨b, j, none⟩ u) b (vs.set j u) t := by
 have h' : w.heap[b]? = some (.cells vs.toArray t (0, 0)) := h
 show (w.setCell ⟨b, j, none⟩ u).heap[b]? = _
 simp only [World.setCell, Array.getElem?_modify]
 rw [if_pos trivial, h']
 simp
theorem Blk.other {w : World} {b : Nat} {vs : List Value} {t : TypeId} (h : Blk w b vs t) {c : Nat} (hc : b ≠ c) (j : Nat) (u : Value) : Blk (w.setCell ⟨c, j, none⟩ u) b vs t :=
 (Below.heap_setCell w ⟨c, j, none⟩ u b hc).trans h
theorem OwnI.succ {w : World} {B : Nat} {v : Value} {l : List Int} {y : Int} (h : OwnI w B v (l ++ [y])) : ∃ g c, v = .slice (some ⟨g, 0, none⟩) (l.length + 1) c := by
 have h' : w.ownsRow B 3 1 v (l.length + 1) ((l ++ [y]).map (Value.int .i64)) := by simpa [OwnI] using h
 exact ownsRow_succ h'
theorem OwnI.form {w : World} {B : Nat} {v : Value} {l : List Int} (h : OwnI w B v l) : ∃ a c, v = .slice a l.length c := by
 obtain ⟨a, c, e, -⟩ := h.ints; exact ⟨a, c, e⟩
theorem OwnI.set {w : World} {B : Nat} {v : Value} {l : List Int} (h : OwnI w B v l) {b : Nat} (hb : b < B) (j : Nat) (u : Value) : OwnI (w.setCell ⟨b, j, none⟩ u) B v l := by
 obtain ⟨h1, h2⟩ := h
 refine ⟨h1, h2.imp id ?_⟩
 rintro ⟨g, cap, cur, e1, e2, e3, e4⟩
 exact ⟨g, cap, cur, e1, e2, (Below.heap_setCell w ⟨b, j, none⟩ u g (by show g ≠ b; omega)).trans e3, e4⟩
end Go.Proofs.YtnidcoinfmcffaaDoor
