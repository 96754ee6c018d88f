/- Decide of valid laws; a clause of own laws that gets another list. Conditions: how the laws lie in memory. -/
import Derived.Test.YtdjldidfnddpmaaSxH
namespace Go.Proofs.Ytdjldidfnddpmaa
open Go.RowKit
/-- Decide answers -/
def DecV (a : Bool) (P : List FindD) (w : World) (e : Ending) (w' : World) : Prop :=
  ∃ la ln, e = .returned (.tuple #[.bool a, .slice la P.length ln, .int .i64 0]) ∧ FindsIn w'.cell? (.slice la P.length ln) P ∧ Below w.heap.size w w'
theorem decide_ok (c : CodeD) (q : QueryD) (cv rv fv : Value) (w : World) (h : CodeIn w.cell? cv rv fv c) (hV : validC c = true) (hQ : asksB q = true) : Calls Try.prog 11 #[codeV cv rv fv, queryV q] w (DecV (answerB c q) (decideP c q) w) := by
  refine (decideS_any c q cv rv fv w h).mono ?_
  rintro e w4 ⟨lv, rfl, hl, hb4⟩
  rw [hV, hQ] at hl ⊢
  have he0 : errS c q = 0 := by unfold errS; rw [hV, hQ]; rfl
  rw [he0]
  simp only [Bool.and_self, Bool.true_and, if_true] at hl ⊢
  obtain ⟨la, ln, rfl, -⟩ := id hl
  exact ⟨la, ln, rfl, hl.at, hb4⟩
/-- a cell that holds a slice is no number's -/
theorem ints_setS {w : World} {p : Addr} {a : Option Addr} {n m : Nat} (hp : w.cell? p = some (.slice a n m)) (u : Value) {v : Value} {l : List Int} (h : IntsIn w.cell? v l) : IntsIn (w.setCell p u).cell? v l := by
  obtain ⟨a', c', e, h1, h2, h3⟩ := h
  refine ⟨a', c', e, h1, h2, fun i hi => ?_⟩
  obtain ⟨b, o, e2, h4⟩ := h3 i hi
  refine ⟨b, o, e2, ?_⟩
  rw [World.cell?_setCell_other _ _ _ _ (fun e3 => by rw [← e3, hp] at h4; cases h4)]
  exact h4
theorem clauses_put {w : World} {A B g n : Nat} {l : List ClauseD} (h : ClausesOwn w A B (.slice (some ⟨g, 0, none⟩) l.length n) l) {k : Nat} (hk : k < l.length) (b : Bool) {nv : Value} {ns : List Int} (hn : IntsIn w.cell? nv ns) :
    ClausesIn (w.setCell ⟨g, k * 6 + (if b then 3 else 4), none⟩ nv).cell? (.slice (some ⟨g, 0, none⟩) l.length n) (l.set k (if b then { l.getD k clause0 with needs := ns } else { l.getD k clause0 with bars := ns })) := by
  obtain ⟨L, hOR, hl, hs⟩ := h
  have hOR0 := hOR
  rw [← hl] at hOR
  have hj : (if b then 3 else 4) < 6 := by cases b <;> decide
  have hOR2 := hOR.set k _ (by rw [hl]; exact hk) hj nv
  obtain ⟨nv0, bv0, e0, hn0, hb0⟩ := hs k hk
  have hp : ∃ a n m, w.cell? ⟨g, k * 6 + (if b then 3 else 4), none⟩ = some (.slice a n m) := by
    obtain ⟨a1, c1, rfl, -⟩ := id hn0
    obtain ⟨a2, c2, rfl, -⟩ := id hb0
    cases b
    · exact ⟨_, _, _, hOR.cell k 4 (by rw [hl]; exact hk) (by decide) (by rw [e0]; rfl)⟩
    · exact ⟨_, _, _, hOR.cell k 3 (by rw [hl]; exact hk) (by decide) (by rw [e0]; rfl)⟩
  obtain ⟨pa, pn, pm, hp⟩ := hp
  have K : ∀ {v : Value} {l : List Int}, IntsIn w.cell? v l → IntsIn (w.setCell ⟨g, k * 6 + (if b then 3 else 4), none⟩ nv).cell? v l := fun h => ints_setS hp nv h
  have hcc : l.length ≤ n ∧ n ≤ 9223372036854775807 := by
    rcases hOR.form with ⟨e1, -⟩ | ⟨g', c', cur, e1, e2, e3, e4, e5⟩
    · cases e1
    · cases e1; rw [hl] at e4; exact ⟨by omega, by simpa [maxLen] using e5⟩
  have hlen : (l.set k (if b then { l.getD k clause0 with needs := ns } else { l.getD k clause0 with bars := ns })).length = l.length := List.length_set
  have hlL : (L.set k ((L.getD k []).set (if b then 3 else 4) nv)).length = l.length := by rw [List.length_set, hl]
  refine ⟨_, n, by rw [hlen], by rw [hlen]; exact hcc.1, hcc.2, fun i hi => ?_⟩
  rw [hlen] at hi
  by_cases e : i = k
  · subst e
    rw [setC_eq hi]
    have hg : (L.set i ((L.getD i []).set (if b then 3 else 4) nv)).getD i [] = (L.getD i []).set (if b then 3 else 4) nv := by
      rw [List.getD_eq_getElem?_getD, List.getElem?_set_self (by rw [hl]; exact hi)]; rfl
    cases b
    · have cc : ∀ (j : Nat) (u : Value), j < 6 → (clauseC { l.getD i clause0 with bars := ns } nv0 nv)[j]? = some u → (w.setCell ⟨g, i * 6 + 4, none⟩ nv).cell? ⟨g, 0 + i * 6 + j, none⟩ = some u := fun j u hj hu => by
        rw [Nat.zero_add]; exact hOR2.cell i j (by rw [hlL]; exact hi) hj (by rw [hg, e0]; exact hu)
      exact ⟨g, 0, nv0, nv, rfl, cc 0 _ (by omega) rfl, cc 1 _ (by omega) rfl, cc 2 _ (by omega) rfl, cc 3 _ (by omega) rfl, cc 4 _ (by omega) rfl, cc 5 _ (by omega) rfl, K (hn0.keeps (keeps_frmY _ _ _)).at, K hn⟩
    · have cc : ∀ (j : Nat) (u : Value), j < 6 → (clauseC { l.getD i clause0 with needs := ns } nv bv0)[j]? = some u → (w.setCell ⟨g, i * 6 + 3, none⟩ nv).cell? ⟨g, 0 + i * 6 + j, none⟩ = some u := fun j u hj hu => by
        rw [Nat.zero_add]; exact hOR2.cell i j (by rw [hlL]; exact hi) hj (by rw [hg, e0]; exact hu)
      exact ⟨g, 0, nv, bv0, rfl, cc 0 _ (by omega) rfl, cc 1 _ (by omega) rfl, cc 2 _ (by omega) rfl, cc 3 _ (by omega) rfl, cc 4 _ (by omega) rfl, cc 5 _ (by omega) rfl, K hn, K (hb0.keeps (keeps_frmY _ _ _)).at⟩
  · rw [setC_ne _ e]
    obtain ⟨nv1, bv1, e1, hn1, hb1⟩ := hs i hi
    have hg : (L.set k ((L.getD k []).set (if b then 3 else 4) nv)).getD i [] = L.getD i [] := by
      rw [List.getD_eq_getElem?_getD, List.getElem?_set_ne (Ne.symm e), List.getD_eq_getElem?_getD]
    have cc : ∀ (j : Nat) (u : Value), j < 6 → (clauseC (l.getD i clause0) nv1 bv1)[j]? = some u → (w.setCell ⟨g, k * 6 + (if b then 3 else 4), none⟩ nv).cell? ⟨g, 0 + i * 6 + j, none⟩ = some u := fun j u hj hu => by
      rw [Nat.zero_add]; exact hOR2.cell i j (by rw [hlL]; exact hi) hj (by rw [hg, e1]; exact hu)
    exact ⟨g, 0, nv1, bv1, rfl, cc 0 _ (by omega) rfl, cc 1 _ (by omega) rfl, cc 2 _ (by omega) rfl, cc 3 _ (by omega) rfl, cc 4 _ (by omega) rfl, cc 5 _ (by omega) rfl, K (hn1.keeps (keeps_frmY _ _ _)).at, K (hb1.keeps (keeps_frmY _ _ _)).at⟩
/-- own laws of which one clause has got another list, in memory -/
theorem code_put {w : World} {A B g n : Nat} {rv fv : Value} {c : CodeD} (h : CodeOwn w A B (.slice (some ⟨g, 0, none⟩) c.clauses.length n) rv fv c) {k : Nat} (hk : k < c.clauses.length) (b : Bool) {nv : Value} {ns : List Int} (hn : IntsIn w.cell? nv ns) :
    CodeIn (w.setCell ⟨g, k * 6 + (if b then 3 else 4), none⟩ nv).cell? (.slice (some ⟨g, 0, none⟩) c.clauses.length n) rv fv ⟨c.clauses.set k (if b then { c.clauses.getD k clause0 with needs := ns } else { c.clauses.getD k clause0 with bars := ns }), c.repeals, c.facts⟩ := by
  obtain ⟨L, hOR, hl, -⟩ := id h.cl
  rw [← hl] at hOR
  have hg : ∀ b' : Nat, ∀ (t : TypeId) (kk : Nat) (v : Value) (L' : List (List Value)), t ≠ 51 → OwnR w b' t kk v L' → OwnR (w.setCell ⟨g, k * 6 + (if b then 3 else 4), none⟩ nv) b' t kk v L' := fun b' t kk v L' ht h' => by
    obtain ⟨⟨k1, k2⟩, k3⟩ := h'
    refine ⟨⟨k1, k2.imp id ?_⟩, k3⟩
    rintro ⟨g', cap, cur, e1, e2, e3, e4⟩
    refine ⟨g', cap, cur, e1, e2, ?_, e4⟩
    refine (Below.heap_setCell _ _ _ g' ?_).trans e3
    show g' ≠ g
    rintro rfl
    rcases hOR.form with ⟨e1, -⟩ | ⟨g2, c2, cur2, e5, e6, e7, -⟩
    · cases e1
    · cases e5
      rw [e3] at e7
      simp at e7; exact ht e7.2
  refine ⟨?_, RecIn.at (RecIn.of_own (hg _ _ _ _ _ (by decide) h.re) (fun _ => rfl) (Nat.le_refl _)), RecIn.at (RecIn.of_own (hg _ _ _ _ _ (by decide) h.fa) (fun _ => rfl) (Nat.le_refl _))⟩
  have := clauses_put h.cl hk b hn
  exact this
theorem clause_gives {c : CodeD} (hV : validC c = true) {k : Nat} (hk : k < c.clauses.length) : 0 ≤ (c.clauses.getD k clause0).gives ∧ (c.clauses.getD k clause0).gives ≤ 19 := by
  have h := valid_clause hV hk
  simp only [clauseB, Bool.and_eq_true, inB_iff] at h
  exact h.1.1.2
/-- where a clause of own laws lies -/
theorem clauses_at {w : World} {A B n : Nat} {a : Option Addr} {l : List ClauseD} (h : ClausesOwn w A B (.slice a l.length n) l) {k : Nat} (hk : k < l.length) :
    ∃ g, a = some ⟨g, 0, none⟩ ∧ B ≤ g ∧ g < w.heap.size ∧ (∀ j, w.frozen? ⟨g, j, none⟩ = false) ∧ ∃ nv bv, IntsIn (frmY A 3 w) nv (l.getD k clause0).needs ∧ IntsIn (frmY A 3 w) bv (l.getD k clause0).bars ∧ w.cell? ⟨g, k * 6 + 3, none⟩ = some nv ∧ w.cell? ⟨g, k * 6 + 4, none⟩ = some bv := by
  obtain ⟨L, hOR, hl, hs⟩ := h
  obtain ⟨nv, bv, e0, hn, hb⟩ := hs k hk
  rw [← hl] at hOR
  rcases hOR.form with ⟨e1, e2⟩ | ⟨g, c, cur, e1, e2, e3, -⟩
  · rw [e2] at hl; simp at hl; omega
  · cases e1
    exact ⟨g, rfl, e2, (Array.getElem?_eq_some_iff.1 e3).1, fun j => hOR.frozen j, nv, bv, hn, hb, hOR.cell k 3 (by rw [hl]; exact hk) (by decide) (by rw [e0]; rfl), hOR.cell k 4 (by rw [hl]; exact hk) (by decide) (by rw [e0]; rfl)⟩
/-- a clause of own laws, cell by cell -/
theorem clauses_rec {w : World} {A B n : Nat} {a : Option Addr} {l : List ClauseD} (h : ClausesOwn w A B (.slice a l.length n) l) {k : Nat} (hk : k < l.length) :
    ∃ g na nn ba bn, a = some ⟨g, 0, none⟩ ∧ IntsIn (frmY A 3 w) (.slice na (l.getD k clause0).needs.length nn) (l.getD k clause0).needs ∧ IntsIn (frmY A 3 w) (.slice ba (l.getD k clause0).bars.length bn) (l.getD k clause0).bars ∧
      ∀ j u, (clauseC (l.getD k clause0) (.slice na (l.getD k clause0).needs.length nn) (.slice ba (l.getD k clause0).bars.length bn))[j]? = some u → w.cell? ⟨g, k * 6 + j, none⟩ = some u := by
  obtain ⟨L, hOR, hl, hs⟩ := h
  obtain ⟨nv, bv, e0, hn, hb⟩ := hs k hk
  rw [← hl] at hOR
  rcases hOR.form with ⟨e1, e2⟩ | ⟨g, c, cur, e1, e2, e3, -⟩
  · rw [e2] at hl; simp at hl; omega
  · cases e1
    obtain ⟨na, nn, rfl, -⟩ := id hn
    obtain ⟨ba, bn, rfl, -⟩ := id hb
    refine ⟨g, na, nn, ba, bn, rfl, hn, hb, fun j u hu => ?_⟩
    have hj : j < 6 := (List.getElem?_eq_some_iff.1 hu).1
    exact hOR.cell k j (by rw [hl]; exact hk) hj (by rw [e0]; exact hu)
end Go.Proofs.Ytdjldidfnddpmaa
