/- Walks of the law's example and of its sane. No condition. -/
import Derived.Test.YtcaklldmcbpbfaaPw14
import Derived.Test.YtcaklldmcbpbfaaPw15
namespace Go.Proofs.Ytcaklldmcbpbfaa
open Go.RowKit

theorem Blk.ints {w : World} {b B : Nat} {l : List Int} {t : TypeId} (h : Blk w b (l.map (Value.int .i64)) t) (hB : B ≤ b) (hl : l.length ≤ 9223372036854775807) : IntsIn (frm B w) (.slice (some ⟨b, 0, none⟩) l.length l.length) l :=
  ⟨some ⟨b, 0, none⟩, l.length, rfl, Nat.le_refl _, hl, fun k hk => ⟨b, 0, rfl, frm_pos hB (h.cell (0 + k) (by
    rw [Nat.zero_add, List.getElem?_map, List.getElem?_eq_getElem hk, List.getD_eq_getElem?_getD, List.getElem?_eq_getElem hk]; rfl))⟩⟩
theorem Blk.rows {w : World} {b B : Nat} {l : List RowD} {L : List (List Value)} {t : TypeId} (h : Blk w b L.flatten t) (hB : B ≤ b) (hl : l.length ≤ 9223372036854775807) (h6 : ∀ r ∈ L, r.length = 6) (_hL : L.length = l.length)
    (hs : ∀ i, i < l.length → ∃ cv, L.getD i [] = rowCells (l.getD i row0) cv ∧ IntsIn (frm B w) cv (l.getD i row0).coef) : RowsIn (frm B w) (.slice (some ⟨b, 0, none⟩) l.length l.length) l := by
  refine ⟨some ⟨b, 0, none⟩, l.length, rfl, Nat.le_refl _, hl, fun k hk => ?_⟩
  obtain ⟨cv, e, hw⟩ := hs k hk
  have cc : ∀ (j : Nat) (u : Value), j < 6 → (rowCells (l.getD k row0) cv)[j]? = some u → frm B w ⟨b, 0 + k * 6 + j, none⟩ = some u := fun j u hj hu => by
    rw [Nat.zero_add]; exact frm_pos hB (h.cell _ (by rw [flat_get h6 k j hj, e, hu]))
  exact ⟨b, 0, cv, rfl, cc 0 _ (by omega) rfl, cc 1 _ (by omega) rfl, cc 2 _ (by omega) rfl, cc 3 _ (by omega) rfl, cc 4 _ (by omega) rfl, cc 5 _ (by omega) rfl, hw⟩
def exP : ProgD := ⟨3, [⟨0, 0, 0, 0, [2, 3, 1], 5⟩, ⟨0, 0, 0, 0, [1, 0, 1], 1⟩], [5, 4, 3]⟩
def ExQ (w : World) (e : Ending) (w' : World) : Prop :=
  ∃ b c, e = .returned (.agg #[.int .i64 3, .slice (some ⟨b, 0, none⟩) 2 2, .slice (some ⟨c, 0, none⟩) 3 3]) ∧ RowsIn (frm w.heap.size w') (.slice (some ⟨b, 0, none⟩) 2 2) exP.rows ∧ IntsIn (frm w.heap.size w') (.slice (some ⟨c, 0, none⟩) 3 3) exP.gain ∧ Below w.heap.size w w'
set_option maxHeartbeats 1000000 in
theorem example_any (w : World) : Calls Try.prog 36 #[] w (ExQ w) := by
  go_enter Try.func36, Try.ntmps36
  go_wp2
  generalize h1 : World.alloc w _ = A1
  generalize h2 : World.alloc A1 _ = A2
  generalize h3 : World.alloc A2 _ = A3
  generalize h4 : World.alloc A3 _ = A4
  generalize h5 : World.alloc A4 _ = A5
  have z1 : A1.heap.size = w.heap.size + 1 := by rw [← h1]; simp
  have z2 : A2.heap.size = w.heap.size + 1 + 1 := by rw [← h2, ← z1]; simp
  have z3 : A3.heap.size = w.heap.size + 1 + 1 + 1 := by rw [← h3, ← z2]; simp
  have z4 : A4.heap.size = w.heap.size + 1 + 1 + 1 + 1 := by rw [← h4, ← z3]; simp
  have b0 : Blk A5 w.heap.size [.int .i64 3, .slice (some ⟨w.heap.size + 1 + 1 + 1, 0, none⟩) 2 2, .slice (some ⟨w.heap.size + 1 + 1 + 1 + 1, 0, none⟩) 3 3] 29 := by
    rw [← h5, ← h4, ← h3, ← h2, ← h1]; exact ((((Blk.new w _ _).old _).old _).old _).old _
  have b1 : Blk A5 (w.heap.size + 1) ([2, 3, 1].map (Value.int .i64)) 3 := by
    rw [← h5, ← h4, ← h3, ← h2, ← z1]; exact (((Blk.new A1 _ _).old _).old _).old _
  have b2 : Blk A5 (w.heap.size + 1 + 1) ([1, 0, 1].map (Value.int .i64)) 3 := by
    rw [← h5, ← h4, ← h3, ← z2]; exact ((Blk.new A2 _ _).old _).old _
  have b3 : Blk A5 (w.heap.size + 1 + 1 + 1) (List.flatten [rowCells ⟨0, 0, 0, 0, [2, 3, 1], 5⟩ (.slice (some ⟨w.heap.size + 1, 0, none⟩) 3 3), rowCells ⟨0, 0, 0, 0, [1, 0, 1], 1⟩ (.slice (some ⟨w.heap.size + 1 + 1, 0, none⟩) 3 3)]) 26 := by
    rw [← h5, ← h4, ← z3]; exact (Blk.new A3 _ _).old _
  have b4 : Blk A5 (w.heap.size + 1 + 1 + 1 + 1) ([5, 4, 3].map (Value.int .i64)) 3 := by
    rw [← h5, ← z4]; exact Blk.new A4 _ _
  have hb : Below w.heap.size w A5 := by
    rw [← h5, ← h4, ← h3, ← h2, ← h1]; exact ((((((Below.refl _ w).alloc (Nat.le_refl _) _).alloc (by simp) _).alloc (by simp; omega) _).alloc (by simp; omega) _).alloc (by simp; omega) _)
  have i1 := b1.ints (B := w.heap.size) (by omega) (by decide)
  have i2 := b2.ints (B := w.heap.size) (by omega) (by decide)
  have i4 := b4.ints (B := w.heap.size) (by omega) (by decide)
  have x0 := b0.cell 0 rfl
  have x1 := b0.cell 1 rfl
  have x2 := b0.cell 2 rfl
  clear h1 h2 h3 h4 h5 z1 z2 z3 z4
  refine bodyPost_ret (v := .agg #[.int .i64 3, .slice (some ⟨w.heap.size + 1 + 1 + 1, 0, none⟩) 2 2, .slice (some ⟨w.heap.size + 1 + 1 + 1 + 1, 0, none⟩) 3 3]) (by simp [results, Try.results36, go_sem, x0, x1, x2]) rfl ?_
  refine ⟨_, _, rfl, b3.rows (l := exP.rows) (by omega) (by decide) (by intro r hr; simp at hr; rcases hr with rfl | rfl <;> rfl) rfl ?_, i4, hb⟩
  intro i hi
  match i, hi with
  | 0, _ => exact ⟨_, rfl, i1⟩
  | 1, _ => exact ⟨_, rfl, i2⟩
end Go.Proofs.Ytcaklldmcbpbfaa
