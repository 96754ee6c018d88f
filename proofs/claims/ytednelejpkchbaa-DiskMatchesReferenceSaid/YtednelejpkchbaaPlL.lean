/- Plain lemmas for DiskCrashBytes: what the survivors leave. No program in sight. No condition. -/
import Derived.Test.YtednelejpkchbaaLkI
namespace Go.Proofs.Ytednelejpkchbaa
open Go.RowKit

/-- the kept ones among the first k -/
def keptL (kp : List Bool) (k : Nat) : List Nat := (List.range k).filter fun i => kp.getD i false
theorem keptL_succ (kp : List Bool) (k : Nat) : keptL kp (k + 1) = keptL kp k ++ (if kp.getD k false then [k] else []) := by
  unfold keptL
  rw [List.range_succ, List.filter_append]
  congr 1
  cases h : kp.getD k false
  · simp only [List.filter_cons, h]; rfl
  · simp only [List.filter_cons, h]; rfl
theorem keptL_lt (kp : List Bool) (k : Nat) : ∀ x ∈ keptL kp k, x < k := fun _ hx => List.mem_range.1 (List.mem_filter.1 hx).1
theorem keptL_len (kp : List Bool) (k : Nat) : (keptL kp k).length ≤ k := by
  have := List.length_filter_le (fun i => kp.getD i false) (List.range k)
  simpa [keptL] using this
theorem keptL_pair (kp : List Bool) (k : Nat) : (keptL kp k).Pairwise (· < ·) := List.Pairwise.filter _ List.pairwise_lt_range
def toI (l : List Nat) : List Int := l.map fun i : Nat => (i : Int)
theorem toI_pair {l : List Nat} (h : l.Pairwise (· < ·)) : (toI l).Pairwise (· < ·) := by
  unfold toI; rw [List.pairwise_map]; exact h.imp (fun h => by omega)
/-- the last one of the kept ones, or -1 -/
def lastF (kp : List Bool) : Nat → Int
  | 0 => -1
  | k + 1 => if kp.getD k false then k else lastF kp k
theorem lastF_lt (kp : List Bool) : ∀ k, lastF kp k < k
  | 0 => by simp [lastF]
  | k + 1 => by
    have := lastF_lt kp k
    unfold lastF; split <;> omega
theorem lastF_ge (kp : List Bool) : ∀ k, -1 ≤ lastF kp k
  | 0 => by simp [lastF]
  | k + 1 => by
    have := lastF_ge kp k
    unfold lastF; split <;> omega
/-- the survivors' list ends with the last one -/
theorem lastF_spec (kp : List Bool) (N : Nat) : ∀ i, i < N → kp.getD i false = true → ((i : Int) = lastF kp N ↔ ∀ j, i < j → j < N → kp.getD j false = false) := by
  induction N with
  | zero => intro i hi; omega
  | succ N ih =>
    intro i hi hk
    unfold lastF
    cases hN : kp.getD N false
    · simp only [Bool.false_eq_true, if_false]
      by_cases hiN : i = N
      · subst hiN; rw [hk] at hN; cases hN
      · rw [ih i (by omega) hk]
        constructor
        · intro h j h1 h2
          by_cases e : j = N
          · subst e; exact hN
          · exact h j h1 (by omega)
        · intro h j h1 h2; exact h j h1 (by omega)
    · simp only [if_true]
      constructor
      · intro h j h1 h2; omega
      · intro h
        by_cases hiN : i = N
        · omega
        · have := h N (by omega) (by omega); rw [hN] at this; cases this
def tornT (torn : Int) (s : List UInt8) : List UInt8 := s.take (min torn.toNat s.length)
/-- what the law expects behind k writes: ws k is where and what the k-th one writes -/
def wantF (ws : Nat → Nat × List UInt8) (kp : List Bool) (la torn : Int) (b : List UInt8) : Nat → List UInt8
  | 0 => b
  | k + 1 => if kp.getD k false then splice (wantF ws kp la torn b k) (ws k).1 (if (k : Int) = la ∧ 0 ≤ torn then tornT torn (ws k).2 else (ws k).2) else wantF ws kp la torn b k
theorem getD_split {α : Type} {l a b : List α} {x d : α} (h : l = a ++ x :: b) : l.getD a.length d = x := by
  subst h; simp
theorem want_crash (ws : Nat → Nat × List UInt8) (kp : List Bool) (torn : Int) (b : List UInt8) (N : Nat) (pend : List (Int × List UInt8)) (hp : ∀ i, i < N → pend.getD i pend0 = (((ws i).1 : Int), (ws i).2)) :
    ∀ k, k ≤ N → crashUp pend (toI (keptL kp N)) torn b (keptL kp k).length = wantF ws kp (lastF kp N) torn b k
  | 0, _ => rfl
  | k + 1, h => by
    have ih := want_crash ws kp torn b N pend hp k (by omega)
    rw [keptL_succ, wantF]
    cases hk : kp.getD k false
    · simpa using ih
    · simp only [if_true, List.length_append, List.length_cons, List.length_nil]
      rw [crashUp, ih]
      have hs : ∃ t, keptL kp N = keptL kp k ++ k :: t ∧ (t = [] ↔ ∀ j, k < j → j < N → kp.getD j false = false) := by
        obtain ⟨r, hr⟩ : ∃ r, N = (k + 1) + r := ⟨N - (k + 1), by omega⟩
        refine ⟨((List.range r).map (k + 1 + ·)).filter fun i => kp.getD i false, ?_, ?_⟩
        · have e : List.range N = List.range (k + 1) ++ (List.range r).map (k + 1 + ·) := by rw [hr, List.range_add]
          have e2 : keptL kp N = keptL kp (k + 1) ++ ((List.range r).map (k + 1 + ·)).filter fun i => kp.getD i false := by
            unfold keptL; rw [e, List.filter_append]
          rw [e2, keptL_succ, hk]; simp
        · rw [List.filter_eq_nil_iff]
          constructor
          · intro h j h1 h2
            have := h j (List.mem_map.2 ⟨j - (k + 1), List.mem_range.2 (by omega), by omega⟩)
            simpa using this
          · intro h x hx
            obtain ⟨q, hq, rfl⟩ := List.mem_map.1 hx
            have hq := List.mem_range.1 hq
            rw [h (k + 1 + q) (by omega) (by omega)]; simp
      obtain ⟨t, ht, ht2⟩ := hs
      have hlen : (toI (keptL kp k)).length = (keptL kp k).length := by simp [toI]
      have hx : (toI (keptL kp N)).getD (keptL kp k).length 0 = (k : Int) := by
        rw [← hlen]
        exact getD_split (l := toI (keptL kp N)) (a := toI (keptL kp k)) (b := toI t) (by rw [ht]; simp [toI])
      rw [hx, Int.toNat_natCast, hp k (by omega), Int.toNat_natCast]
      congr 1
      have hl := lastF_spec kp N k (by omega) hk
      have hc : (keptL kp k).length + 1 = (toI (keptL kp N)).length ↔ (k : Int) = lastF kp N := by
        rw [hl, ← ht2]
        have e : (toI (keptL kp N)).length = (keptL kp k).length + 1 + t.length := by rw [ht]; simp [toI]; omega
        rw [e]
        constructor
        · intro h; exact List.eq_nil_of_length_eq_zero (by omega)
        · intro h; rw [h]; rfl
      unfold tornS
      by_cases hh : (k : Int) = lastF kp N ∧ 0 ≤ torn
      · rw [if_pos hh, if_pos ⟨hc.2 hh.1, hh.2⟩]; rfl
      · rw [if_neg hh, if_neg (fun h => hh ⟨hc.1 h.1, h.2⟩)]
/-- numbers in the order in which the law lists them: the latest first -/
theorem ord_rev (kp : List Bool) (N : Nat) : ordF N (toI (keptL kp N)).reverse = toI (keptL kp N) :=
  ordF_perm (List.reverse_perm _) (toI_pair (keptL_pair kp N)) (fun x hx => by
    obtain ⟨i, hi, rfl⟩ := List.mem_map.1 hx
    have := keptL_lt kp N i hi
    omega)
theorem crash_want (ws : Nat → Nat × List UInt8) (kp : List Bool) (torn : Int) (N : Nat) (d : DiskD) (hl : d.pend.length = N) (hp : ∀ i, i < N → d.pend.getD i pend0 = (((ws i).1 : Int), (ws i).2)) :
    crashF d (toI (keptL kp N)).reverse torn = wantF ws kp (lastF kp N) torn d.dur N := by
  unfold crashF
  rw [hl, ord_rev]
  have := want_crash ws kp torn d.dur N d.pend hp N (Nat.le_refl _)
  rw [← this]; simp [toI]
end Go.Proofs.Ytednelejpkchbaa
