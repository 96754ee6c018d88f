/- Plain words: the program that integers determine. No condition. -/
import Derived.Test.YtppfdjjhloaopaaPmodC
import Derived.Test.YtppfdjjhloaopaaPw15
namespace Go.Proofs.Ytppfdjjhloaopaa

def i64B (x : Int) : Prop := -9223372036854775808 ≤ x ∧ x ≤ 9223372036854775807
abbrev Tri := Int × Int × Int
def tri0 : Tri := (0, 0, 0)
def tri64 (t : Tri) : Prop := i64B t.1 ∧ i64B t.2.1 ∧ i64B t.2.2
def mgain (g : List Int) (n : Nat) : List Int := (List.range n).map fun i => pickF (g.getD i 0) 40 - 8
def mco (t : Tri) (k : Nat) : Int := pickF (t.1.tdiv (1 + 3 * k)) 12 - pickF (t.2.1.tdiv (1 + 5 * k)) 5
def mcoef (t : Tri) (n : Nat) : List Int := (List.range n).map (mco t)
def mrow (t : Tri) (n : Nat) (i : Nat) : RowD := ⟨1 + i, pickF t.1 9, 0, 0, mcoef t n, pickF t.2.2 30 - 4⟩
def mrows (x : List Tri) (n k : Nat) : List RowD := (List.range k).map fun i => mrow (x.getD i tri0) n i
def mvars (v : Int) : Nat := (pickF v 9).toNat
def madeF (v : Int) (x : List Tri) (g : List Int) : ProgD := ⟨mvars v, mrows x (mvars v) (min x.length 8), mgain g (mvars v)⟩
theorem mvars_le (v : Int) : mvars v ≤ 8 := by have := pickF_lt v (n := 9) (by decide); unfold mvars; omega
theorem mvars_eq (v : Int) : pickF v 9 = mvars v := by have := pickF_nonneg v (n := 9) (by decide); unfold mvars; omega
theorem mgain_succ (g : List Int) (n : Nat) : mgain g (n + 1) = mgain g n ++ [pickF (g.getD n 0) 40 - 8] := by simp [mgain, List.range_succ]
theorem mgain_len (g : List Int) (n : Nat) : (mgain g n).length = n := by simp [mgain]
theorem mcoef_succ (t : Tri) (n : Nat) : mcoef t (n + 1) = mcoef t n ++ [mco t n] := by simp [mcoef, List.range_succ]
theorem mcoef_len (t : Tri) (n : Nat) : (mcoef t n).length = n := by simp [mcoef]
theorem mrows_succ (x : List Tri) (n k : Nat) : mrows x n (k + 1) = mrows x n k ++ [mrow (x.getD k tri0) n k] := by simp [mrows, List.range_succ]
theorem mrows_len (x : List Tri) (n k : Nat) : (mrows x n k).length = k := by simp [mrows]
theorem made_valid (v : Int) (x : List Tri) (g : List Int) : validB (madeF v x g) = true := by
  have hv := mvars_le v
  have hp : ∀ (c : Int) {n : Int}, 0 < n → 0 ≤ pickF c n ∧ pickF c n < n := fun c n h => ⟨pickF_nonneg c h, pickF_lt c h⟩
  have hg : coefsB (mgain g (mvars v)) = true := by
    simp only [coefsB, mgain, List.all_eq_true, List.mem_map]
    rintro _ ⟨i, -, rfl⟩
    have := hp (g.getD i 0) (n := 40) (by decide)
    simp only [bndB, decide_eq_true_eq]; omega
  have hr : ∀ (i : Nat) (t : Tri), rightB (mrow t (mvars v) i) (mvars v) = true := fun i t => by
    have h1 : coefsB (mcoef t (mvars v)) = true := by
      simp only [coefsB, mcoef, List.all_eq_true, List.mem_map]
      rintro _ ⟨k, -, rfl⟩
      have h1 := hp (t.1.tdiv (1 + 3 * k)) (n := 12) (by decide)
      have h2 := hp (t.2.1.tdiv (1 + 5 * k)) (n := 5) (by decide)
      exact decide_eq_true (by unfold mco; omega)
    have h2 := hp t.2.2 (n := 30) (by decide)
    refine Bool.and_eq_true_iff.2 ⟨Bool.and_eq_true_iff.2 ⟨decide_eq_true (by simp [mrow, mcoef_len]), h1⟩, decide_eq_true (by simp only [mrow]; omega)⟩
  refine Bool.and_eq_true_iff.2 ⟨Bool.and_eq_true_iff.2 ⟨Bool.and_eq_true_iff.2 ⟨Bool.and_eq_true_iff.2 ⟨decide_eq_true (by simp only [madeF]; omega), decide_eq_true (by simp only [madeF, mrows_len]; omega)⟩, List.all_eq_true.2 fun r hr' => ?_⟩, decide_eq_true (by simp only [madeF, mgain_len])⟩, hg⟩
  obtain ⟨i, -, rfl⟩ := List.mem_map.1 hr'
  exact hr i _
end Go.Proofs.Ytppfdjjhloaopaa
