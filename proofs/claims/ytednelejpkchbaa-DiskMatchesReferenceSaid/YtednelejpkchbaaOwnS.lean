/- Stores into an own slice of integers. No condition. -/
import Derived.Test.YtednelejpkchbaaBlk
namespace Go.Proofs.Ytednelejpkchbaa
open Go.RowKit

theorem OwnI.stored {w : World} {B g n c : Nat} {l : List Int} (h : OwnI w B (.slice (some ⟨g, 0, none⟩) n c) l) (j : Nat) (x : Int) : OwnI (w.setCell ⟨g, j, none⟩ (.int .i64 x)) B (.slice (some ⟨g, 0, none⟩) n c) (l.set j x) := by
  have hn : n = l.length := by obtain ⟨a, c', e⟩ := h.form; cases e; rfl
  subst hn
  have h1 := World.ownsRow.stored h j (.int .i64 x)
  unfold OwnI
  rw [List.map_set, List.length_set]; exact h1.1
theorem OwnI.cellAt {w : World} {B g n c : Nat} {l : List Int} (h : OwnI w B (.slice (some ⟨g, 0, none⟩) n c) l) {j : Nat} (hj : j < l.length) : w.cell? ⟨g, j, none⟩ = some (.int .i64 (l.getD j 0)) := by
  have hn : n = l.length := by obtain ⟨a, c', e⟩ := h.form; cases e; rfl
  subst hn
  have := World.ownsRow.cellAt h j (by omega)
  rw [this, List.getElem?_map, List.getD_eq_getElem?_getD, List.getElem?_eq_getElem hj]; rfl
theorem OwnI.frozenAt {w : World} {B g n c : Nat} {l : List Int} (h : OwnI w B (.slice (some ⟨g, 0, none⟩) n c) l) (j : Nat) : w.frozen? ⟨g, j, none⟩ = false := by
  have hn : n = l.length := by obtain ⟨a, c', e⟩ := h.form; cases e; rfl
  subst hn
  exact World.ownsRow.frozenAt h j
end Go.Proofs.Ytednelejpkchbaa
