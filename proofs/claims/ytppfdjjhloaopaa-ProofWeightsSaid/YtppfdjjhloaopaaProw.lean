/- Slices of rows that a call itself makes, with slices of integers of its own. No condition. -/
import Derived.Test.YtppfdjjhloaopaaPw12
import Derived.Below
namespace Go.Proofs.Ytppfdjjhloaopaa
open Go.RowKit

/-- the slice v (of the call's own, from block B on) holds the rows l, their coefficients from block A on -/
def RowsOwn (w : World) (A B : Nat) (v : Value) (l : List RowD) : Prop :=
  ∃ L, OwnR w B 67 6 v L ∧ L.length = l.length ∧ ∀ i, i < l.length → ∃ cv, L.getD i [] = rowCells (l.getD i row0) cv ∧ IntsIn (frmY A 3 w) cv (l.getD i row0).coef
theorem OwnR.later' {w w' : World} {B : Nat} {e : TypeId} {k : Nat} {v : Value} {L : List (List Value)} (h : OwnR w B e k v L) (hb : Below w.heap.size w w') : OwnR w' B e k v L := by
  obtain ⟨⟨h1, h2⟩, h3⟩ := h
  refine ⟨⟨h1, h2.imp id ?_⟩, h3⟩
  rintro ⟨g, cap, cur, e1, e2, e3, e4⟩
  refine ⟨g, cap, cur, e1, e2, ?_, e4⟩
  have hlt : g < w.heap.size := by
    refine Decidable.byContradiction fun hn => ?_
    rw [Array.getElem?_eq_none (by omega)] at e3; cases e3
  exact (hb.block g hlt).trans e3
theorem RowsOwn.nil (w : World) (A B : Nat) : RowsOwn w A B (.slice none 0 0) [] := ⟨[], OwnR.nil _ _ _ _, rfl, fun i hi => by simp at hi⟩
theorem RowsOwn.later {w w' : World} {A B : Nat} {v : Value} {l : List RowD} (h : RowsOwn w A B v l) (hb : Below w.heap.size w w') : RowsOwn w' A B v l := by
  obtain ⟨L, h1, h2, h3⟩ := h
  exact ⟨L, h1.later' hb, h2, fun i hi => let ⟨cv, e, hc⟩ := h3 i hi; ⟨cv, e, hc.keeps (keeps_frmY_below hb)⟩⟩
theorem RowsOwn.set {w : World} {A B : Nat} {v : Value} {l : List RowD} (h : RowsOwn w A B v l) {b : Nat} {vs : List Value} {t : TypeId} (hb : Blk w b vs t) (hbB : b < B) (ht : t ≠ 3) (j : Nat) (u : Value) : RowsOwn (w.setCell ⟨b, j, none⟩ u) A B v l := by
  obtain ⟨L, h1, h2, h3⟩ := h
  exact ⟨L, ⟨ownsRow_setCell_below h1.1 hbB u, h1.2⟩, h2, fun i hi => let ⟨cv, e, hc⟩ := h3 i hi; ⟨cv, e, hc.keeps (keeps_frmY_set hb ht j u)⟩⟩
theorem RowsOwn.app {w w' : World} {A B : Nat} {v' : Value} {l : List RowD} {L : List (List Value)} {x : RowD} {cv : Value} (hL : L.length = l.length)
    (h3 : ∀ i, i < l.length → ∃ cv, L.getD i [] = rowCells (l.getD i row0) cv ∧ IntsIn (frmY A 3 w) cv (l.getD i row0).coef) (hx : IntsIn (frmY A 3 w) cv x.coef)
    (h' : OwnR w' B 67 6 v' (L ++ [rowCells x cv])) (hE : EffE B 67 w w') : RowsOwn w' A B v' (l ++ [x]) := by
  have hk := keeps_frmY_eff (B' := A) (t := 3) hE (by decide)
  refine ⟨_, h', by simp [hL], fun i hi => ?_⟩
  rcases Nat.lt_or_ge i l.length with h1 | h1
  · obtain ⟨cv, e, hc⟩ := h3 i h1
    refine ⟨cv, ?_, ?_⟩
    · rw [getD_app_left _ _ _ _ (by rw [hL]; exact h1), getD_app_left _ _ _ _ h1]; exact e
    · rw [getD_app_left _ _ _ _ h1]; exact hc.keeps hk
  · have hi' : i = l.length := by simp at hi; omega
    subst hi'
    refine ⟨cv, ?_, ?_⟩
    · rw [getD_app_right _ _ _ _ (by rw [hL]; exact Nat.le_refl _), getD_app_right _ _ _ _ (Nat.le_refl _), hL]; simp
    · rw [getD_app_right _ _ _ _ (Nat.le_refl _)]
      simp only [Nat.sub_self, List.getD_cons_zero]
      exact hx.keeps hk
theorem RowsOwn.at {w : World} {A B C : Nat} {v : Value} {l : List RowD} (h : RowsOwn w A B v l) (hA : C ≤ A) (hB : C ≤ B) : RowsIn (frm C w) v l := by
  obtain ⟨L, hOR, hl, hs⟩ := h
  rcases hOR.form with ⟨rfl, e2⟩ | ⟨g, c, cur, rfl, e1, e2, e3, e4⟩
  · rw [e2] at hl
    exact ⟨none, 0, by rw [← hl]; rfl, by rw [← hl]; simp, by omega, fun k hk => by rw [← hl] at hk; simp at hk⟩
  · refine ⟨some ⟨g, 0, none⟩, c, by rw [hl], by omega, by simpa [maxLen] using e4, fun k hk => ?_⟩
    obtain ⟨cv, e, hw⟩ := hs k hk
    have cc : ∀ (j : Nat) (u : Value), j < 6 → (rowCells (l.getD k row0) cv)[j]? = some u → frm C w ⟨g, 0 + k * 6 + j, none⟩ = some u := fun j u hj hu => by
      rw [Nat.zero_add]; exact frm_pos (by omega) (hOR.cell k j (by omega) hj (by rw [e]; exact hu))
    exact ⟨g, 0, cv, rfl, cc 0 _ (by omega) rfl, cc 1 _ (by omega) rfl, cc 2 _ (by omega) rfl, cc 3 _ (by omega) rfl, cc 4 _ (by omega) rfl, cc 5 _ (by omega) rfl, (hw.keeps (keeps_frmY _ _ _)).keeps (keeps_frm_le _ hA)⟩
theorem RowsOwn.form {w : World} {A B : Nat} {v : Value} {l : List RowD} (h : RowsOwn w A B v l) : ∃ a c, v = .slice a l.length c := by
  obtain ⟨L, hOR, hl, -⟩ := h
  rcases hOR.form with ⟨rfl, e2⟩ | ⟨g, c, cur, rfl, -⟩
  · exact ⟨none, 0, by rw [← hl, e2]; rfl⟩
  · exact ⟨_, c, by rw [hl]⟩
theorem cells6 {a b c d f : Int} {p : Option Addr} {n m : Nat} : ∀ u ∈ [Value.int .i64 a, .int .i64 b, .int .i64 c, .int .i64 d, .slice p n m, .int .i64 f], u.oneCell' = true := by
  intro u hu; simp at hu; rcases hu with rfl | rfl | rfl | rfl | rfl | rfl <;> rfl
end Go.Proofs.Ytppfdjjhloaopaa
