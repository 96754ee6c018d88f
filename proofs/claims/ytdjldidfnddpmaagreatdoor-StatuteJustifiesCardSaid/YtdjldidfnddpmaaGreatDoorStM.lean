/- Memory of chapter 31: laws, queries and findings. No condition. -/
import Derived.Test.YtdjldidfnddpmaaGreatDoorSpA
import Derived.Test.YtdjldidfnddpmaaGreatDoorOwnR
import Derived.Test.YtdjldidfnddpmaaGreatDoorOwn
namespace Go.Proofs.YtdjldidfnddpmaaGreatDoor
open Go.RowKit

/-- a slice of records of k cells each -/
def RecIn {α : Type} (f : α → List Value) (d : α) (k : Nat) (c : Rd) (v : Value) (l : List α) : Prop :=
  ∃ a n, v = .slice a l.length n ∧ l.length ≤ n ∧ n ≤ 9223372036854775807 ∧ ∀ i, i < l.length → ∃ b o, a = some ⟨b, o, none⟩ ∧ ∀ j u, (f (l.getD i d))[j]? = some u → c ⟨b, o + i * k + j, none⟩ = some u
section
variable {α : Type} {f : α → List Value} {d : α} {k : Nat}
theorem RecIn.keeps {c c' : Rd} {v : Value} {l : List α} (hk : Keeps c c') (h : RecIn f d k c v l) : RecIn f d k c' v l := by
  obtain ⟨a, n, h1, h2, h3, h4⟩ := h
  exact ⟨a, n, h1, h2, h3, fun i hi => let ⟨b, o, e, hc⟩ := h4 i hi; ⟨b, o, e, fun j u hu => hk _ _ (hc j u hu)⟩⟩
theorem RecIn.below {w W : World} {v : Value} {l : List α} (hb : Below w.heap.size w W) (h : RecIn f d k w.cell? v l) : RecIn f d k W.cell? v l := h.keeps (keeps_of_below hb)
theorem RecIn.nil (c : Rd) : RecIn f d k c (.slice none 0 0) [] := ⟨none, 0, rfl, Nat.le_refl _, by omega, fun i hi => by simp at hi⟩
theorem RecIn.of_own {w : World} {B B' : Nat} {e : TypeId} {v : Value} {l : List α} (h : OwnR w B e k v (l.map f)) (hk : ∀ x, (f x).length = k) (hB : B' ≤ B) : RecIn f d k (frm B' w) v l := by
  rcases h.form with ⟨rfl, e2⟩ | ⟨g, c, cur, rfl, e1, e2, e3, e4⟩
  · obtain rfl : l = [] := by cases l with | nil => rfl | cons => simp at e2
    exact RecIn.nil _
  · rw [List.length_map] at e3
    refine ⟨some ⟨g, 0, none⟩, c, by rw [List.length_map], e3, by simpa [maxLen] using e4, fun i hi => ⟨g, 0, rfl, fun j u hu => ?_⟩⟩
    rw [Nat.zero_add]
    have hi' : (l.map f).getD i [] = f (l.getD i d) := by
      rw [List.getD_eq_getElem?_getD, List.getElem?_map, List.getElem?_eq_getElem hi, List.getD_eq_getElem?_getD, List.getElem?_eq_getElem hi]; rfl
    have hj : j < k := by rw [← hk (l.getD i d)]; exact (List.getElem?_eq_some_iff.1 hu).1
    exact frm_pos (by omega) (h.cell i j (by rw [List.length_map]; exact hi) hj (by rw [hi']; exact hu))
theorem RecIn.at {B : Nat} {w : World} {v : Value} {l : List α} (h : RecIn f d k (frm B w) v l) : RecIn f d k w.cell? v l := h.keeps (keeps_frm B w)
end

theorem RecIn.cell {α : Type} {f : α → List Value} {d : α} {k : Nat} {c : Rd} {a : Option Addr} {m n : Nat} {l : List α} (h : RecIn f d k c (.slice a m n) l) {i : Nat} (hi : i < l.length) : ∃ b o, a = some ⟨b, o, none⟩ ∧ ∀ j u, (f (l.getD i d))[j]? = some u → c ⟨b, o + i * k + j, none⟩ = some u := by
  obtain ⟨a', n', e, -, -, h4⟩ := h
  cases e
  exact h4 i hi
def factC (x : FactD) : List Value := [.int .i64 x.thing, .int .i64 x.says, .int .i64 x.sf, .int .i64 x.st, .int .i64 x.kf, .int .i64 x.kt]
def repealC (x : RepealD) : List Value := [.int .i64 x.clause, .int .i64 x.pub, .int .i64 x.from_]
def findC (x : FindD) : List Value := [.int .i64 x.says, .bool x.holds, .int .i64 x.fact, .int .i64 x.clause]
def queryC (q : QueryD) : List Value := [.int .i64 q.thing, .int .i64 q.says, .int .i64 q.day, .int .i64 q.known]
def clauseC (x : ClauseD) (nv bv : Value) : List Value := [.int .i64 x.pub, .int .i64 x.sf, .int .i64 x.st, nv, bv, .int .i64 x.gives]
abbrev factV (x : FactD) : Value := .agg #[.int .i64 x.thing, .int .i64 x.says, .int .i64 x.sf, .int .i64 x.st, .int .i64 x.kf, .int .i64 x.kt]
abbrev repealV (x : RepealD) : Value := .agg #[.int .i64 x.clause, .int .i64 x.pub, .int .i64 x.from_]
abbrev findV (x : FindD) : Value := .agg #[.int .i64 x.says, .bool x.holds, .int .i64 x.fact, .int .i64 x.clause]
abbrev queryV (q : QueryD) : Value := .agg #[.int .i64 q.thing, .int .i64 q.says, .int .i64 q.day, .int .i64 q.known]
abbrev clauseV (x : ClauseD) (nv bv : Value) : Value := .agg #[.int .i64 x.pub, .int .i64 x.sf, .int .i64 x.st, nv, bv, .int .i64 x.gives]
/-- a clause in memory -/
def ClauseIn (c : Rd) (b o : Nat) (nv bv : Value) (x : ClauseD) : Prop :=
  c ⟨b, o, none⟩ = some (.int .i64 x.pub) ∧ c ⟨b, o + 1, none⟩ = some (.int .i64 x.sf) ∧ c ⟨b, o + 2, none⟩ = some (.int .i64 x.st) ∧ c ⟨b, o + 3, none⟩ = some nv ∧ c ⟨b, o + 4, none⟩ = some bv ∧ c ⟨b, o + 5, none⟩ = some (.int .i64 x.gives) ∧ IntsIn c nv x.needs ∧ IntsIn c bv x.bars
theorem ClauseIn.keeps {c c' : Rd} {b o : Nat} {nv bv : Value} {x : ClauseD} (hk : Keeps c c') (h : ClauseIn c b o nv bv x) : ClauseIn c' b o nv bv x :=
  ⟨hk _ _ h.1, hk _ _ h.2.1, hk _ _ h.2.2.1, hk _ _ h.2.2.2.1, hk _ _ h.2.2.2.2.1, hk _ _ h.2.2.2.2.2.1, h.2.2.2.2.2.2.1.keeps hk, h.2.2.2.2.2.2.2.keeps hk⟩
def ClausesIn (c : Rd) (v : Value) (l : List ClauseD) : Prop :=
  ∃ a n, v = .slice a l.length n ∧ l.length ≤ n ∧ n ≤ 9223372036854775807 ∧ ∀ i, i < l.length → ∃ b o nv bv, a = some ⟨b, o, none⟩ ∧ ClauseIn c b (o + i * 6) nv bv (l.getD i clause0)
theorem ClausesIn.keeps {c c' : Rd} {v : Value} {l : List ClauseD} (hk : Keeps c c') (h : ClausesIn c v l) : ClausesIn c' v l := by
  obtain ⟨a, n, h1, h2, h3, h4⟩ := h
  exact ⟨a, n, h1, h2, h3, fun i hi => let ⟨b, o, nv, bv, e, hc⟩ := h4 i hi; ⟨b, o, nv, bv, e, hc.keeps hk⟩⟩
theorem ClausesIn.nil (c : Rd) : ClausesIn c (.slice none 0 0) [] := ⟨none, 0, rfl, Nat.le_refl _, by omega, fun i hi => by simp at hi⟩
abbrev FactsIn (c : Rd) (v : Value) (l : List FactD) : Prop := RecIn factC fact0 6 c v l
abbrev RepealsIn (c : Rd) (v : Value) (l : List RepealD) : Prop := RecIn repealC repeal0 3 c v l
abbrev FindsIn (c : Rd) (v : Value) (l : List FindD) : Prop := RecIn findC find0 4 c v l
/-- laws in memory -/
structure CodeIn (c : Rd) (cv rv fv : Value) (x : CodeD) : Prop where
  cl : ClausesIn c cv x.clauses
  re : RepealsIn c rv x.repeals
  fa : FactsIn c fv x.facts
theorem CodeIn.keeps {c c' : Rd} {cv rv fv : Value} {x : CodeD} (hk : Keeps c c') (h : CodeIn c cv rv fv x) : CodeIn c' cv rv fv x := ⟨h.cl.keeps hk, h.re.keeps hk, h.fa.keeps hk⟩
theorem CodeIn.below {w W : World} {cv rv fv : Value} {x : CodeD} (h : CodeIn w.cell? cv rv fv x) (hb : Below w.heap.size w W) : CodeIn W.cell? cv rv fv x := h.keeps (keeps_of_below hb)
abbrev codeV (cv rv fv : Value) : Value := .agg #[cv, rv, fv]
end Go.Proofs.YtdjldidfnddpmaaGreatDoor
