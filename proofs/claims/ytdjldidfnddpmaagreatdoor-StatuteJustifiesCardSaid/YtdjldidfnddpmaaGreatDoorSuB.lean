/- Walks of package statute: so and find, by induction over the number. Conditions: valid laws; the indices are in range; who answers lies in memory. -/
import Derived.Test.YtdjldidfnddpmaaGreatDoorSuA
namespace Go.Proofs.YtdjldidfnddpmaaGreatDoor
open Go.RowKit Go.Maps
theorem soS_nat (J M : Nat) (cv rv fv Fv Cv : Value) (c : CodeD) (F C : List Nat) (hV : validC c = true) (hFl : ∀ i ∈ F, i < c.facts.length) (hCl : ∀ i ∈ C, i < c.clauses.length) :
    ∀ (n : Nat), n ≤ 20 → SoAt J M cv rv fv Fv Cv c F C n
  | 0, _ => fun y h0 h1 => by omega
  | n + 1, hn => fun y h0 h1 w ks h => by
    have ih := soS_nat J M cv rv fv Fv Cv c F C hV hFl hCl n (by omega)
    by_cases e : y < n
    · exact ih y h0 e w ks h
    · obtain rfl : y = n := by omega
      exact soS_of J M cv rv fv Fv Cv c F C n h0 (by omega) (fun w ks h => findS_of J M cv rv fv Fv Cv c F C hV hFl hCl n h0 (by omega) ih w ks h) w ks h
/-- so answers -/
theorem soS_any (J M : Nat) (cv rv fv Fv Cv : Value) (c : CodeD) (F C : List Nat) (hV : validC c = true) (hFl : ∀ i ∈ F, i < c.facts.length) (hCl : ∀ i ∈ C, i < c.clauses.length) (y : Int) (h0 : 0 ≤ y) (h1 : y ≤ 19) (w : World) (ks : List Int) (h : JudgeAt w J M cv rv fv Fv Cv c F C ks) :
    Calls Tryz.prog 26 #[.pointer (some ⟨J, 0, none⟩), .int .i64 y] w (SoQ J M cv rv fv Fv Cv c F C ks y w) :=
  soS_nat J M cv rv fv Fv Cv c F C hV hFl hCl 20 (Nat.le_refl _) y h0 (by omega) w ks h
end Go.Proofs.YtdjldidfnddpmaaGreatDoor
