/- The plain words of the chapter on programs: no program in sight. No condition. -/
import Derived.Test.YtppfdjjhloaopaaLists
namespace Go.Proofs.Ytppfdjjhloaopaa

structure RowD where
  kind : Int
  a : Int
  b : Int
  at_ : Int
  coef : List Int
  most : Int
structure ProgD where
  vars : Int
  rows : List RowD
  gain : List Int

/-- the sum of the first k numbers whose bit is set -/
def chosK (l : List Int) (s : Nat) : Nat → Int
  | 0 => 0
  | k + 1 => chosK l s k + (if s / 2 ^ k % 2 = 1 then l.getD k 0 else 0)
def chosenF (l : List Int) (s : Nat) : Int := chosK l s l.length
def bndB (x : Int) : Bool := decide (-1000000000 ≤ x ∧ x ≤ 1000000000)
def coefsB (l : List Int) : Bool := l.all bndB
def isInB (lo n hi : Int) : Bool := decide (lo ≤ n ∧ n ≤ hi)
def lenB (n : Nat) (vars : Int) : Bool := decide ((n : Int) = vars)
def rightB (r : RowD) (vars : Int) : Bool := lenB r.coef.length vars && coefsB r.coef && isInB (-1000000000000) r.most 1000000000000
def rowsB (l : List RowD) (vars : Int) : Bool := l.all (rightB · vars)
def fewB (n : Nat) : Bool := decide ((n : Int) ≤ 300)
def validB (p : ProgD) : Bool := isInB 0 p.vars 12 && fewB p.rows.length && rowsB p.rows p.vars && lenB p.gain.length p.vars && coefsB p.gain
def choiceB (p : ProgD) (s : Int) : Bool := validB p && isInB 0 s (2 ^ p.vars.toNat - 1)
def sumF (r : RowD) (s : Int) : Int := if decide (r.coef.length ≤ 12) && rightB r r.coef.length && isInB 0 s (2 ^ r.coef.length - 1) then chosenF r.coef s.toNat else 0
def gainF (p : ProgD) (s : Int) : Int := if choiceB p s then chosenF p.gain s.toNat else 0
def keepsB (p : ProgD) (s : Int) : Bool := choiceB p s && p.rows.all fun r => decide (chosenF r.coef s.toNat ≤ r.most)
def keptB (r : RowD) (s : Nat) : Bool := decide (chosenF r.coef s ≤ r.most)
def keptAll (l : List RowD) (s : Nat) : Bool := l.all (keptB · s)
/-- the choices below k that keep all rows -/
def goodUp (l : List RowD) (k : Nat) : List Nat := (List.range k).filter fun s => keptAll l s
def goodF (p : ProgD) : List Nat := goodUp p.rows (2 ^ p.vars.toNat)
theorem goodUp_yes {l : List RowD} {k : Nat} (h : keptAll l k = true) : goodUp l (k + 1) = goodUp l k ++ [k] := by
  simp only [goodUp, List.range_succ, List.filter_append, List.filter_cons, h]; simp
theorem goodUp_no {l : List RowD} {k : Nat} (h : keptAll l k = false) : goodUp l (k + 1) = goodUp l k := by
  simp only [goodUp, List.range_succ, List.filter_append, List.filter_cons, h]; simp
theorem goodUp_le (l : List RowD) (k : Nat) : (goodUp l k).length ≤ k := by
  have := List.length_filter_le (fun s => keptAll l s) (List.range k)
  simpa [goodUp] using this
theorem goodUp_pre (l : List RowD) {k : Nat} : ∀ {T : Nat}, k ≤ T → goodUp l k <+: goodUp l T
  | 0, h => by obtain rfl : k = 0 := by omega
               exact List.prefix_refl _
  | T + 1, h => by
    rcases Nat.lt_or_ge T k with h1 | h1
    · obtain rfl : k = T + 1 := by omega
      exact List.prefix_refl _
    · have ih := goodUp_pre l h1
      cases hg : keptAll l T
      · rw [goodUp_no hg]; exact ih
      · rw [goodUp_yes hg]; exact ih.trans (List.prefix_append _ _)
def errF (p : ProgD) : Int := if validB p then 0 else 330
def allF (p : ProgD) : List Int := if validB p then (goodF p).map fun (s : Nat) => (s : Int) else []
def row0 : RowD := ⟨0, 0, 0, 0, [], 0⟩
/-- the indices of the rows among the first k that are not kept -/
def brokenUp (l : List RowD) (s : Nat) (k : Nat) : List Int := ((List.range k).filter fun i => !keptB (l.getD i row0) s).map fun (i : Nat) => (i : Int)
def brokenF (p : ProgD) (s : Int) : List Int := if choiceB p s then brokenUp p.rows s.toNat p.rows.length else []
theorem brokenUp_yes {l : List RowD} {s k : Nat} (h : keptB (l.getD k row0) s = true) : brokenUp l s (k + 1) = brokenUp l s k := by
  simp only [brokenUp, List.range_succ, List.filter_append, List.map_append, List.filter_cons, h]; simp
theorem brokenUp_no {l : List RowD} {s k : Nat} (h : keptB (l.getD k row0) s = false) : brokenUp l s (k + 1) = brokenUp l s k ++ [(k : Int)] := by
  simp only [brokenUp, List.range_succ, List.filter_append, List.map_append, List.filter_cons, h]; simp
theorem brokenUp_le (l : List RowD) (s k : Nat) : (brokenUp l s k).length ≤ k := by
  have := List.length_filter_le (fun i => !keptB (l.getD i row0) s) (List.range k)
  simpa [brokenUp] using this

theorem bit01 (s k : Nat) : s / 2 ^ k % 2 = 0 ∨ s / 2 ^ k % 2 = 1 := by omega

theorem chosK_bound (l : List Int) (s : Nat) (hl : l.all bndB = true) : ∀ k, k ≤ l.length → -(1000000000 * k : Int) ≤ chosK l s k ∧ chosK l s k ≤ 1000000000 * k
  | 0, _ => by simp [chosK]
  | k + 1, h => by
    have ih := chosK_bound l s hl k (by omega)
    have hb : bndB (l.getD k 0) = true := all_at hl (by omega)
    simp only [bndB, decide_eq_true_eq] at hb
    simp only [chosK]
    split <;> omega
theorem tot_step (s k : Nat) (x t : Int) (hx : -1000000000 ≤ x ∧ x ≤ 1000000000) (ht : -(1000000000 * k : Int) ≤ t ∧ t ≤ 1000000000 * k) (hk : k ≤ 20) :
    RowKit.wrap64 (t + RowKit.wrap64 (x * ((s : Int) / 2 ^ k).tmod 2)) = t + x * ((s / 2 ^ k % 2 : Nat) : Int) := by
  rw [shr_cast, tmod_cast]
  rcases bit01 s k with h | h <;> rw [h]
  · rw [wrap_id (x := x * ((0 : Nat) : Int)) (by simp) (by simp), wrap_id (by simp; omega) (by simp; omega)]
  · rw [wrap_id (x := x * ((1 : Nat) : Int)) (by simp; omega) (by simp; omega), wrap_id (by simp; omega) (by simp; omega)]
theorem valid_parts {p : ProgD} (h : validB p = true) : 0 ≤ p.vars ∧ p.vars ≤ 12 ∧ p.rows.length ≤ 300 ∧ (∀ r ∈ p.rows, (r.coef.length : Int) = p.vars ∧ coefsB r.coef = true ∧ -1000000000000 ≤ r.most ∧ r.most ≤ 1000000000000) ∧ (p.gain.length : Int) = p.vars ∧ coefsB p.gain = true := by
  simp only [validB, Bool.and_eq_true, isInB, fewB, lenB, decide_eq_true_eq] at h
  obtain ⟨⟨⟨⟨h1, h2⟩, h3⟩, h4⟩, h5⟩ := h
  refine ⟨h1.1, h1.2, by omega, fun r hr => ?_, h4, h5⟩
  have := List.all_eq_true.1 h3 r hr
  simp only [rightB, Bool.and_eq_true, isInB, lenB, decide_eq_true_eq] at this
  exact ⟨this.1.1, this.1.2, this.2.1, this.2.2⟩
theorem choice_parts {p : ProgD} {s : Int} (h : choiceB p s = true) : validB p = true ∧ 0 ≤ s ∧ s < 2 ^ p.vars.toNat := by
  simp only [choiceB, Bool.and_eq_true, isInB, decide_eq_true_eq] at h
  exact ⟨h.1, h.2.1, by omega⟩
end Go.Proofs.Ytppfdjjhloaopaa
