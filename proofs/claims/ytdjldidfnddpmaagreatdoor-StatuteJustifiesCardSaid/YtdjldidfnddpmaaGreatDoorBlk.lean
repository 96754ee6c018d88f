/- Blocks of cells that are known whole; slices of records that a call itself makes. No condition. -/
import Derived.Test.YtdjldidfnddpmaaGreatDoorOwn
import Derived.RangeFuncBox
namespace Go.Proofs.YtdjldidfnddpmaaGreatDoor
open Go.RowKit

/-- block b holds the cells vs, of type t -/
def Blk (w : World) (b : Nat) (vs : List Value) (t : TypeId) : Prop := w.heap[b]? = some (.cells vs.toArray t (0, 0))
theorem Blk.lt {w : World} {b : Nat} {vs : List Value} {t : TypeId} (h : Blk w b vs t) : b < w.heap.size := (Array.getElem?_eq_some_iff.1 h).1
theorem Blk.cell {w : World} {b : Nat} {vs : List Value} {t : TypeId} (h : Blk w b vs t) (j : Nat) {v : Value} (hv : vs[j]? = some v) : w.cell? ⟨b, j, none⟩ = some v := by
  simp [World.cell?, show w.heap[b]? = _ from h, hv]
theorem Blk.frozen {w : World} {b : Nat} {vs : List Value} {t : TypeId} (h : Blk w b vs t) (j : Nat) : w.frozen? ⟨b, j, none⟩ = false := by
  simp [World.frozen?, show w.heap[b]? = _ from h]
theorem Blk.new (w : World) (vs : List Value) (t : TypeId) : Blk (w.alloc (.cells vs.toArray t)) w.heap.size vs t := World.alloc_heap_new w _
theorem Blk.old {w : World} {b : Nat} {vs : List Value} {t : TypeId} (h : Blk w b vs t) (o : Obj) : Blk (w.alloc o) b vs t :=
  (Below.heap_alloc w o b h.lt).trans h
theorem Blk.below {w w' : World} {b : Nat} {vs : List Value} {t : TypeId} (h : Blk w b vs t) {B : Nat} (hb : Below B w w') (hB : b < B) : Blk w' b vs t := (hb.block b hB).trans h
theorem Blk.later {w w' : World} {b : Nat} {vs : List Value} {t : TypeId} (h : Blk w b vs t) (hb : Below w.heap.size w w') : Blk w' b vs t := h.below hb h.lt
theorem Blk.set {w : World} {b : Nat} {vs : List Value} {t : TypeId} (h : Blk w b vs t) (j : Nat) (u : Value) : Blk (w.setCell ⟨b, j, none⟩ u) b (vs.set j u) t := by
  have h' : w.heap[b]? = some (.cells vs.toArray t (0, 0)) := h
  show (w.setCell ⟨b, j, none⟩ u).heap[b]? = _
  simp only [World.setCell, Array.getElem?_modify]
  rw [if_pos trivial, h']
  simp
theorem Blk.other {w : World} {b : Nat} {vs : List Value} {t : TypeId} (h : Blk w b vs t) {c : Nat} (hc : b ≠ c) (j : Nat) (u : Value) : Blk (w.setCell ⟨c, j, none⟩ u) b vs t :=
  (Below.heap_setCell w ⟨c, j, none⟩ u b hc).trans h
theorem Blk.typ {w : World} {b : Nat} {vs : List Value} {t t' : TypeId} (h : Blk w b vs t) (ht : t ≠ t') : typ t' w b = false := by
  unfold Go.Proofs.YtdjldidfnddpmaaGreatDoor.typ; rw [show w.heap[b]? = _ from h]; simpa using ht
theorem keeps_frmY_set {B b : Nat} {t t' : TypeId} {w : World} {vs : List Value} (h : Blk w b vs t) (ht : t ≠ t') (j : Nat) (u : Value) : Keeps (frmY B t' w) (frmY B t' (w.setCell ⟨b, j, none⟩ u)) :=
  keeps_frmY_later fun k _ _ hk => Below.heap_setCell _ _ _ _ (by
    show k ≠ b
    rintro rfl
    rw [h.typ ht] at hk; cases hk)
theorem OwnI.succ {w : World} {B : Nat} {v : Value} {l : List Int} {y : Int} (h : OwnI w B v (l ++ [y])) : ∃ g c, v = .slice (some ⟨g, 0, none⟩) (l.length + 1) c := by
  have h' : w.ownsRow B 3 1 v (l.length + 1) ((l ++ [y]).map (Value.int .i64)) := by simpa [OwnI] using h
  exact ownsRow_succ h'
theorem OwnI.form {w : World} {B : Nat} {v : Value} {l : List Int} (h : OwnI w B v l) : ∃ a c, v = .slice a l.length c := by
  obtain ⟨a, c, e, -⟩ := h.ints; exact ⟨a, c, e⟩
theorem OwnI.set {w : World} {B : Nat} {v : Value} {l : List Int} (h : OwnI w B v l) {b : Nat} (hb : b < B) (j : Nat) (u : Value) : OwnI (w.setCell ⟨b, j, none⟩ u) B v l := by
  obtain ⟨h1, h2⟩ := h
  refine ⟨h1, h2.imp id ?_⟩
  rintro ⟨g, cap, cur, e1, e2, e3, e4⟩
  exact ⟨g, cap, cur, e1, e2, (Below.heap_setCell w ⟨b, j, none⟩ u g (by show g ≠ b; omega)).trans e3, e4⟩
theorem set3 {w : World} {b : Nat} {x0 x1 x2 : Value} {t : TypeId} (h : Blk w b [x0, x1, x2] t) (u0 u1 u2 : Value) :
    Blk (World.setCell (World.setCell (World.setCell w ⟨b, 0, none⟩ u0) ⟨b, 1, none⟩ u1) ⟨b, 2, none⟩ u2) b [u0, u1, u2] t ∧ (∀ B w0, Below B w0 w → B ≤ b → Below B w0 (World.setCell (World.setCell (World.setCell w ⟨b, 0, none⟩ u0) ⟨b, 1, none⟩ u1) ⟨b, 2, none⟩ u2)) ∧ (∀ B v l, OwnI w B v l → b < B → OwnI (World.setCell (World.setCell (World.setCell w ⟨b, 0, none⟩ u0) ⟨b, 1, none⟩ u1) ⟨b, 2, none⟩ u2) B v l) :=
  ⟨(Blk.set (Blk.set (Blk.set h 0 u0) 1 u1) 2 u2), fun _ _ hb hB => (Below.setCell (Below.setCell (Below.setCell hb (p := ⟨b, 0, none⟩) hB u0) (p := ⟨b, 1, none⟩) hB u1) (p := ⟨b, 2, none⟩) hB u2), fun _ _ _ ho hB => (OwnI.set (OwnI.set (OwnI.set ho hB 0 u0) hB 1 u1) hB 2 u2)⟩
theorem set4 {w : World} {b : Nat} {x0 x1 x2 x3 : Value} {t : TypeId} (h : Blk w b [x0, x1, x2, x3] t) (u0 u1 u2 u3 : Value) :
    Blk (World.setCell (World.setCell (World.setCell (World.setCell w ⟨b, 0, none⟩ u0) ⟨b, 1, none⟩ u1) ⟨b, 2, none⟩ u2) ⟨b, 3, none⟩ u3) b [u0, u1, u2, u3] t ∧ (∀ B w0, Below B w0 w → B ≤ b → Below B w0 (World.setCell (World.setCell (World.setCell (World.setCell w ⟨b, 0, none⟩ u0) ⟨b, 1, none⟩ u1) ⟨b, 2, none⟩ u2) ⟨b, 3, none⟩ u3)) ∧ (∀ B v l, OwnI w B v l → b < B → OwnI (World.setCell (World.setCell (World.setCell (World.setCell w ⟨b, 0, none⟩ u0) ⟨b, 1, none⟩ u1) ⟨b, 2, none⟩ u2) ⟨b, 3, none⟩ u3) B v l) :=
  ⟨(Blk.set (Blk.set (Blk.set (Blk.set h 0 u0) 1 u1) 2 u2) 3 u3), fun _ _ hb hB => (Below.setCell (Below.setCell (Below.setCell (Below.setCell hb (p := ⟨b, 0, none⟩) hB u0) (p := ⟨b, 1, none⟩) hB u1) (p := ⟨b, 2, none⟩) hB u2) (p := ⟨b, 3, none⟩) hB u3), fun _ _ _ ho hB => (OwnI.set (OwnI.set (OwnI.set (OwnI.set ho hB 0 u0) hB 1 u1) hB 2 u2) hB 3 u3)⟩
theorem set6 {w : World} {b : Nat} {x0 x1 x2 x3 x4 x5 : Value} {t : TypeId} (h : Blk w b [x0, x1, x2, x3, x4, x5] t) (u0 u1 u2 u3 u4 u5 : Value) :
    Blk (World.setCell (World.setCell (World.setCell (World.setCell (World.setCell (World.setCell w ⟨b, 0, none⟩ u0) ⟨b, 1, none⟩ u1) ⟨b, 2, none⟩ u2) ⟨b, 3, none⟩ u3) ⟨b, 4, none⟩ u4) ⟨b, 5, none⟩ u5) b [u0, u1, u2, u3, u4, u5] t ∧ (∀ B w0, Below B w0 w → B ≤ b → Below B w0 (World.setCell (World.setCell (World.setCell (World.setCell (World.setCell (World.setCell w ⟨b, 0, none⟩ u0) ⟨b, 1, none⟩ u1) ⟨b, 2, none⟩ u2) ⟨b, 3, none⟩ u3) ⟨b, 4, none⟩ u4) ⟨b, 5, none⟩ u5)) ∧ (∀ B v l, OwnI w B v l → b < B → OwnI (World.setCell (World.setCell (World.setCell (World.setCell (World.setCell (World.setCell w ⟨b, 0, none⟩ u0) ⟨b, 1, none⟩ u1) ⟨b, 2, none⟩ u2) ⟨b, 3, none⟩ u3) ⟨b, 4, none⟩ u4) ⟨b, 5, none⟩ u5) B v l) :=
  ⟨(Blk.set (Blk.set (Blk.set (Blk.set (Blk.set (Blk.set h 0 u0) 1 u1) 2 u2) 3 u3) 4 u4) 5 u5), fun _ _ hb hB => (Below.setCell (Below.setCell (Below.setCell (Below.setCell (Below.setCell (Below.setCell hb (p := ⟨b, 0, none⟩) hB u0) (p := ⟨b, 1, none⟩) hB u1) (p := ⟨b, 2, none⟩) hB u2) (p := ⟨b, 3, none⟩) hB u3) (p := ⟨b, 4, none⟩) hB u4) (p := ⟨b, 5, none⟩) hB u5), fun _ _ _ ho hB => (OwnI.set (OwnI.set (OwnI.set (OwnI.set (OwnI.set (OwnI.set ho hB 0 u0) hB 1 u1) hB 2 u2) hB 3 u3) hB 4 u4) hB 5 u5)⟩
end Go.Proofs.YtdjldidfnddpmaaGreatDoor
