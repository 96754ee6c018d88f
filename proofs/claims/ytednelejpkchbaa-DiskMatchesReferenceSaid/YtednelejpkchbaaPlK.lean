/- Plain lemmas on disks: what survives. No program in sight. No condition. -/
import Derived.Test.YtednelejpkchbaaLkE
namespace Go.Proofs.Ytednelejpkchbaa
open Go.RowKit

theorem ordF_perm {m : Nat} {K A : List Int} (hp : K.Perm A) (ha : A.Pairwise (· < ·)) (hin : ∀ x ∈ A, 0 ≤ x ∧ x < m) : ordF m K = A := by
  have hs : sortF K = A := by
    refine List.Perm.eq_of_pairwise (le := fun x y : Int => x ≤ y) (fun a b _ _ h1 h2 => Int.le_antisymm h1 h2) ?_ ?_ ((List.mergeSort_perm _ _).trans hp)
    · have := List.pairwise_mergeSort (le := fun x y : Int => decide (x ≤ y)) (fun a b c h1 h2 => by simp at *; omega) (fun a b => by simp; omega) K
      exact this.imp (fun h => by simpa using h)
    · exact ha.imp (fun h => Int.le_of_lt h)
  have hc : Lib.compact A = A := by
    refine Lib.compact_all A fun j hj => ?_
    unfold Lib.keeps
    by_cases h0 : j = 0
    · simp [h0]
    · simp only [decide_eq_true_eq]
      right
      have h1 : A.toArray[j]! = A[j] := by simp [hj]
      have h2 : A.toArray[j - 1]! = A[j - 1] := by simp [show j - 1 < A.length by omega]
      rw [h1, h2]
      have := List.pairwise_iff_getElem.1 ha (j - 1) j (by omega) hj (by omega)
      omega
  have hk : keepI m A = A := keepI_all (by
    rw [← Bool.not_eq_true, List.any_eq_true]
    rintro ⟨x, hx, hb⟩
    have := hin x hx
    simp [outB] at hb; omega)
  unfold ordF; rw [hs, hc, hk]
/-- writes, applied one after the other -/
def replay (b : List UInt8) (p : List (Int × List UInt8)) : List UInt8 := p.foldl (fun b q => splice b q.1.toNat q.2) b
theorem replay_snoc (b : List UInt8) (p : List (Int × List UInt8)) (q : Int × List UInt8) : replay b (p ++ [q]) = splice (replay b p) q.1.toNat q.2 := by
  unfold replay; rw [List.foldl_append]; rfl
def rangeI (n : Nat) : List Int := (List.range n).map (fun i : Nat => (i : Int))
theorem rangeI_succ (n : Nat) : rangeI (n + 1) = rangeI n ++ [(n : Int)] := by simp [rangeI, List.range_succ]
theorem rangeI_len (n : Nat) : (rangeI n).length = n := by simp [rangeI]
theorem rangeI_getD {n k : Nat} (h : k < n) : (rangeI n).getD k 0 = k := by
  rw [List.getD_eq_getElem?_getD, rangeI, List.getElem?_map, List.getElem?_range h]; rfl
theorem rangeI_lt (n : Nat) : (rangeI n).Pairwise (· < ·) := by
  unfold rangeI
  rw [List.pairwise_map]
  exact List.pairwise_lt_range.imp (fun h => by omega)
theorem rangeI_in {n : Nat} : ∀ x ∈ rangeI n, 0 ≤ x ∧ x < (n : Int) := by
  intro x hx
  obtain ⟨k, hk, rfl⟩ := List.mem_map.1 hx
  have := List.mem_range.1 hk
  omega
theorem crashUp_all (pend : List (Int × List UInt8)) (dur : List UInt8) : ∀ k, k ≤ pend.length → crashUp pend (rangeI pend.length) (-1) dur k = replay dur (pend.take k)
  | 0, _ => rfl
  | k + 1, h => by
    have ih := crashUp_all pend dur k (by omega)
    rw [crashUp, ih, rangeI_getD (show k < pend.length by omega), Int.toNat_natCast, take_succ' pend k pend0 (by omega), replay_snoc]
    have e : tornS (rangeI pend.length).length (-1) k (pend.getD k pend0).2 = (pend.getD k pend0).2 := by unfold tornS; rw [if_neg (by omega)]
    rw [e]
theorem crash_all (d : DiskD) : crashF d (rangeI d.pend.length) (-1) = replay d.dur d.pend := by
  have e : ordF d.pend.length (rangeI d.pend.length) = rangeI d.pend.length := ordF_perm (List.Perm.refl _) (rangeI_lt _) rangeI_in
  unfold crashF
  rw [e, rangeI_len, crashUp_all _ _ _ (Nat.le_refl _), List.take_length]
theorem runW_vis (n : Nat) (l : List WPar) : ∀ k, (runW n l k).vis = replay (runW n l k).dur (runW n l k).pend
  | 0 => rfl
  | k + 1 => by
    have ih := runW_vis n l k
    simp only [runW, stepW]
    have e : (putD (runW n l k) (offN n (l.getD k wp0)) (strN n (l.getD k wp0)).data.toList).vis = replay (runW n l k).dur ((runW n l k).pend ++ [((offN n (l.getD k wp0) : Int), (strN n (l.getD k wp0)).data.toList)]) := by
      rw [replay_snoc, ← ih]; rfl
    split
    · rfl
    · exact e
end Go.Proofs.Ytednelejpkchbaa
