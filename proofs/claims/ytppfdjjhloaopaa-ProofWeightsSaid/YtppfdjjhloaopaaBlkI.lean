/- Lists of integers and of rows in blocks of a call's own. No condition. -/
import Derived.Test.YtppfdjjhloaopaaProw
namespace Go.Proofs.Ytppfdjjhloaopaa
open Go.RowKit

theorem Blk.ints {w : World} {b B : Nat} {l : List Int} {t : TypeId} (h : Blk w b (l.map (Value.int .i64)) t) (hB : B ≤ b) (hl : l.length ≤ 9223372036854775807) : IntsIn (frm B w) (.slice (some ⟨b, 0, none⟩) l.length l.length) l :=
  ⟨some ⟨b, 0, none⟩, l.length, rfl, Nat.le_refl _, hl, fun k hk => ⟨b, 0, rfl, frm_pos hB (h.cell (0 + k) (by
    rw [Nat.zero_add, List.getElem?_map, List.getElem?_eq_getElem hk, List.getD_eq_getElem?_getD, List.getElem?_eq_getElem hk]; rfl))⟩⟩
theorem Blk.rows {w : World} {b B : Nat} {l : List RowD} {L : List (List Value)} {t : TypeId} (h : Blk w b L.flatten t) (hB : B ≤ b) (hl : l.length ≤ 9223372036854775807) (h6 : ∀ r ∈ L, r.length = 6) (_hL : L.length = l.length)
    (hs : ∀ i, i < l.length → ∃ cv, L.getD i [] = rowCells (l.getD i row0) cv ∧ IntsIn (frm B w) cv (l.getD i row0).coef) : RowsIn (frm B w) (.slice (some ⟨b, 0, none⟩) l.length l.length) l := by
  refine ⟨some ⟨b, 0, none⟩, l.length, rfl, Nat.le_refl _, hl, fun k hk => ?_⟩
  obtain ⟨cv, e, hw⟩ := hs k hk
  have cc : ∀ (j : Nat) (u : Value), j < 6 → (rowCells (l.getD k row0) cv)[j]? = some u → frm B w ⟨b, 0 + k * 6 + j, none⟩ = some u := fun j u hj hu => by
    rw [Nat.zero_add]; exact frm_pos hB (h.cell _ (by rw [flat_get h6 k j hj, e, hu]))
  exact ⟨b, 0, cv, rfl, cc 0 _ (by omega) rfl, cc 1 _ (by omega) rfl, cc 2 _ (by omega) rfl, cc 3 _ (by omega) rfl, cc 4 _ (by omega) rfl, cc 5 _ (by omega) rfl, hw⟩
/-- a program as a value, its rows and gains in memory -/
def ProgIn (c : Rd) (v : Value) (p : ProgD) : Prop := ∃ rv gv, v = progV p rv gv ∧ RowsIn c rv p.rows ∧ IntsIn c gv p.gain
theorem ProgIn.keeps {c c' : Rd} {v : Value} {p : ProgD} (hk : Keeps c c') (h : ProgIn c v p) : ProgIn c' v p := let ⟨a, b, e, h1, h2⟩ := h; ⟨a, b, e, h1.keeps hk, h2.keeps hk⟩
end Go.Proofs.Ytppfdjjhloaopaa
