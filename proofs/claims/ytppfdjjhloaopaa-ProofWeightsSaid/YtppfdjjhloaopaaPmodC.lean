/- Plain words: a program without some rows. No condition. -/
import Derived.Test.YtppfdjjhloaopaaPmodB
namespace Go.Proofs.Ytppfdjjhloaopaa
def memB (l : List Int) (x : Int) : Bool := l.any (· == x)
/-- is the index at place i one of n rows, and greater than the one before? -/
def okAt (l : List Int) (n : Nat) (i : Nat) : Bool := isInB 0 (l.getD i 0) ((n : Int) - 1) && (decide (i = 0) || decide (l.getD (i - 1) 0 < l.getD i 0))
def okUp (l : List Int) (n k : Nat) : Bool := (List.range k).all (okAt l n)
def keptUp (l : List RowD) (rows : List Int) (k : Nat) : List RowD := ((List.range k).filter fun (i : Nat) => !memB rows i).map fun i => l.getD i row0
def okW (p : ProgD) (l : List Int) : Bool := okUp l p.rows.length l.length && validB p
def withoutF (p : ProgD) (l : List Int) : ProgD := if okW p l then ⟨p.vars, keptUp p.rows l p.rows.length, p.gain⟩ else ⟨0, [], []⟩
def errW (p : ProgD) (l : List Int) : Int := if okW p l then 0 else 330
theorem okUp_succ {l : List Int} {n k : Nat} : okUp l n (k + 1) = (okUp l n k && okAt l n k) := by
  simp [okUp, List.range_succ]
theorem okUp_no {l : List Int} {n k m : Nat} (h : okAt l n k = false) (hk : k < m) : okUp l n m = false := by
  rw [← Bool.not_eq_true]; intro hm
  have := List.all_eq_true.1 hm k (List.mem_range.2 hk)
  rw [h] at this; cases this
theorem keptUp_yes {l : List RowD} {rows : List Int} {k : Nat} (h : memB rows k = false) : keptUp l rows (k + 1) = keptUp l rows k ++ [l.getD k row0] := by
  simp only [keptUp, List.range_succ, List.filter_append, List.map_append, List.filter_cons, h]; simp
theorem keptUp_no {l : List RowD} {rows : List Int} {k : Nat} (h : memB rows k = true) : keptUp l rows (k + 1) = keptUp l rows k := by
  simp only [keptUp, List.range_succ, List.filter_append, List.map_append, List.filter_cons, h]; simp
theorem keptUp_le (l : List RowD) (rows : List Int) (k : Nat) : (keptUp l rows k).length ≤ k := by
  have := List.length_filter_le (fun (i : Nat) => !memB rows i) (List.range k)
  simpa [keptUp] using this
/-- strictly ascending -/
def AscL (l : List Int) : Prop := ∀ i j, i < j → j < l.length → l.getD i 0 < l.getD j 0
theorem okUp_asc {l : List Int} {n : Nat} (h : okUp l n l.length = true) : AscL l := by
  have key : ∀ d i, i + d + 1 < l.length → l.getD i 0 < l.getD (i + d + 1) 0 := by
    intro d
    induction d with
    | zero =>
      intro i hi
      have := List.all_eq_true.1 h (i + 1) (List.mem_range.2 hi)
      simp only [okAt, Bool.and_eq_true, Bool.or_eq_true, decide_eq_true_eq] at this
      rcases this.2 with h1 | h1
      · omega
      · simpa using h1
    | succ d ih =>
      intro i hi
      have h1 := ih i (by omega)
      have := List.all_eq_true.1 h (i + d + 1 + 1) (List.mem_range.2 (by omega))
      simp only [okAt, Bool.and_eq_true, Bool.or_eq_true, decide_eq_true_eq] at this
      rcases this.2 with h2 | h2
      · omega
      · have e : i + d + 1 + 1 - 1 = i + d + 1 := by omega
        rw [e] at h2
        exact Int.lt_trans h1 h2
  intro i j hij hj
  have := key (j - i - 1) i (by omega)
  rwa [show i + (j - i - 1) + 1 = j from by omega] at this
theorem okUp_len {l : List Int} {n : Nat} (h : okUp l n l.length = true) : l.length ≤ n := by
  have ha := okUp_asc h
  have key : ∀ k, k < l.length → (k : Int) ≤ l.getD k 0 := by
    intro k
    induction k with
    | zero => intro hk
              have := List.all_eq_true.1 h 0 (List.mem_range.2 hk)
              simp only [okAt, Bool.and_eq_true, isInB, decide_eq_true_eq] at this
              exact this.1.1
    | succ k ih => intro hk
                   have h1 := ih (by omega)
                   have h2 := ha k (k + 1) (by omega) hk
                   omega
  rcases Nat.eq_zero_or_pos l.length with h0 | h0
  · omega
  · have h1 := key (l.length - 1) (by omega)
    have := List.all_eq_true.1 h (l.length - 1) (List.mem_range.2 (by omega))
    simp only [okAt, Bool.and_eq_true, isInB, decide_eq_true_eq] at this
    have := this.1.2
    omega
end Go.Proofs.Ytppfdjjhloaopaa
