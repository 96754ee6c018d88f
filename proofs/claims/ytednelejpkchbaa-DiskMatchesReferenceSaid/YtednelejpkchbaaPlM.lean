/- Plain lemmas for DiskMatchesReference: which writes survive. No program in sight. No condition. -/
import Derived.Test.YtednelejpkchbaaPlL
namespace Go.Proofs.Ytednelejpkchbaa
open Go.RowKit

theorem sortF_le (K : List Int) : (sortF K).Pairwise (· ≤ ·) := by
  have := List.pairwise_mergeSort (le := fun x y : Int => decide (x ≤ y)) (fun a b c h1 h2 => by simp at *; omega) (fun a b => by simp; omega) K
  exact this.imp (fun h => by simpa using h)
theorem sortF_mem (K : List Int) (x : Int) : x ∈ sortF K ↔ x ∈ K := (List.mergeSort_perm _ _).mem_iff
theorem compact_mem (z : List Int) (x : Int) : x ∈ Lib.compact z ↔ x ∈ z := by
  unfold Lib.compact Lib.compactUpTo
  constructor
  · intro h
    obtain ⟨i, hi, rfl⟩ := List.mem_map.1 h
    have hi := List.mem_range.1 (List.mem_filter.1 hi).1
    have : z.toArray[i]! = z[i] := by simp [hi]
    rw [this]; exact List.getElem_mem hi
  · intro h
    obtain ⟨j, hj, rfl⟩ := List.getElem_of_mem h
    -- the least place with this value
    have key : ∀ j (hj : j < z.length), ∃ i, i ≤ j ∧ ∃ hi : i < z.length, z[i] = z[j] ∧ Lib.keeps z.toArray i = true := by
      intro j
      induction j with
      | zero => intro hj; exact ⟨0, Nat.le_refl _, hj, rfl, by simp [Lib.keeps]⟩
      | succ j ih =>
        intro hj
        by_cases e : z[j + 1] = z[j]
        · obtain ⟨i, h1, h2, h3, h4⟩ := ih (by omega)
          exact ⟨i, by omega, h2, by rw [h3, e], h4⟩
        · refine ⟨j + 1, Nat.le_refl _, hj, rfl, ?_⟩
          unfold Lib.keeps
          have h1 : z.toArray[j + 1]! = z[j + 1] := by simp [hj]
          have h2 : z.toArray[j + 1 - 1]! = z[j] := by simp [show j < z.length by omega]
          rw [h1, h2]; simp [e]
    obtain ⟨i, h1, h2, h3, h4⟩ := key j hj
    refine List.mem_map.2 ⟨i, List.mem_filter.2 ⟨List.mem_range.2 h2, h4⟩, ?_⟩
    have : z.toArray[i]! = z[i] := by simp [h2]
    rw [this, h3]
theorem compact_lt (z : List Int) (hz : z.Pairwise (· ≤ ·)) : (Lib.compact z).Pairwise (· < ·) := by
  unfold Lib.compact Lib.compactUpTo
  rw [List.pairwise_map]
  refine List.Pairwise.imp_of_mem ?_ (List.Pairwise.filter _ (List.pairwise_lt_range (n := z.length)))
  intro a b ha hb hab
  have ha := List.mem_filter.1 ha
  have hb := List.mem_filter.1 hb
  have hal := List.mem_range.1 ha.1
  have hbl := List.mem_range.1 hb.1
  have e1 : z.toArray[a]! = z[a] := by simp [hal]
  have e2 : z.toArray[b]! = z[b] := by simp [hbl]
  have e3 : z.toArray[b - 1]! = z[b - 1] := by simp [show b - 1 < z.length by omega]
  rw [e1, e2]
  have hk := hb.2
  unfold Lib.keeps at hk
  rw [e2, e3] at hk
  have hne : z[b] ≠ z[b - 1] := by
    rcases of_decide_eq_true hk with h | h
    · omega
    · exact h
  have h1 : z[a] ≤ z[b - 1] := by
    by_cases e : a = b - 1
    · simp [e]
    · exact List.pairwise_iff_getElem.1 hz a (b - 1) hal (by omega) (by omega)
  have h2 := List.pairwise_iff_getElem.1 hz (b - 1) b (by omega) hbl (by omega)
  omega
/-- the indices below k that a list names -/
def survL (K : List Int) (k : Nat) : List Nat := (List.range k).filter fun i => K.contains (i : Int)
theorem survL_succ (K : List Int) (k : Nat) : survL K (k + 1) = survL K k ++ (if K.contains (k : Int) then [k] else []) := by
  unfold survL
  rw [List.range_succ, List.filter_append]
  congr 1
  cases h : K.contains (k : Int)
  · simp only [List.filter_cons, h]; rfl
  · simp only [List.filter_cons, h]; rfl
theorem survL_lt (K : List Int) (k : Nat) : ∀ i ∈ survL K k, i < k := fun _ hi => List.mem_range.1 (List.mem_filter.1 hi).1
theorem survL_len (K : List Int) (k : Nat) : (survL K k).length ≤ k := by
  have := List.length_filter_le (fun i : Nat => K.contains (i : Int)) (List.range k)
  simpa [survL] using this
theorem ordF_surv (m : Nat) (K : List Int) : ordF m K = toI (survL K m) := by
  have h1 : (ordF m K).Pairwise (· < ·) := List.Pairwise.filter _ (compact_lt _ (sortF_le K))
  have h2 : (toI (survL K m)).Pairwise (· < ·) := toI_pair (List.Pairwise.filter _ List.pairwise_lt_range)
  have hm : ∀ x, x ∈ ordF m K ↔ x ∈ toI (survL K m) := by
    intro x
    unfold ordF keepI
    rw [List.mem_filter, compact_mem, sortF_mem]
    constructor
    · rintro ⟨ha, hb⟩
      simp [outB] at hb
      refine List.mem_map.2 ⟨x.toNat, List.mem_filter.2 ⟨List.mem_range.2 (by omega), ?_⟩, by omega⟩
      have e : ((x.toNat : Nat) : Int) = x := by omega
      rw [e]; simpa using ha
    · intro h
      obtain ⟨i, hi, rfl⟩ := List.mem_map.1 h
      have hi := List.mem_filter.1 hi
      have hl := List.mem_range.1 hi.1
      refine ⟨by simpa using hi.2, ?_⟩
      simp [outB]; omega
  refine List.Perm.eq_of_pairwise (le := fun x y : Int => x < y) (fun a b _ _ h3 h4 => by omega) h1 h2 ?_
  refine (List.perm_ext_iff_of_nodup (h1.imp (fun h => by omega)) (h2.imp (fun h => by omega))).2 hm
/-- the writes that survive, as the reference lists them -/
def survP (pend : List (Int × List UInt8)) (K : List Int) (k : Nat) : List (Int × List UInt8) := (survL K k).map fun i => pend.getD i pend0
theorem survP_succ (pend : List (Int × List UInt8)) (K : List Int) (k : Nat) : survP pend K (k + 1) = survP pend K k ++ (if K.contains (k : Int) then [pend.getD k pend0] else []) := by
  unfold survP
  rw [survL_succ, List.map_append]
  congr 1
  cases K.contains (k : Int) <;> rfl
theorem survP_len (pend : List (Int × List UInt8)) (K : List Int) (k : Nat) : (survP pend K k).length ≤ k := by unfold survP; rw [List.length_map]; exact survL_len K k
/-- what they leave -/
def applyUp (P : List (Int × List UInt8)) (torn : Int) (b : List UInt8) : Nat → List UInt8
  | 0 => b
  | k + 1 => splice (applyUp P torn b k) (P.getD k pend0).1.toNat (tornS P.length torn k (P.getD k pend0).2)
theorem crash_apply (d : DiskD) (K : List Int) (torn : Int) : crashF d K torn = applyUp (survP d.pend K d.pend.length) torn d.dur (survP d.pend K d.pend.length).length := by
  unfold crashF
  rw [ordF_surv]
  have hl : (toI (survL K d.pend.length)).length = (survP d.pend K d.pend.length).length := by simp [toI, survP]
  have key : ∀ k, k ≤ (survP d.pend K d.pend.length).length → crashUp d.pend (toI (survL K d.pend.length)) torn d.dur k = applyUp (survP d.pend K d.pend.length) torn d.dur k := by
    intro k
    induction k with
    | zero => intro _; rfl
    | succ k ih =>
      intro hk
      rw [crashUp, applyUp, ih (by omega), hl]
      have hk' : k < (survL K d.pend.length).length := by have := hk; simp only [survP, List.length_map] at this; omega
      have e : d.pend.getD ((toI (survL K d.pend.length)).getD k 0).toNat pend0 = (survP d.pend K d.pend.length).getD k pend0 := by
        have e1 : (toI (survL K d.pend.length)).getD k 0 = (((survL K d.pend.length)[k] : Nat) : Int) := by
          rw [List.getD_eq_getElem?_getD, toI, List.getElem?_map, List.getElem?_eq_getElem hk']; rfl
        rw [e1, Int.toNat_natCast]
        have e2 : (survP d.pend K d.pend.length).getD k pend0 = d.pend.getD (survL K d.pend.length)[k] pend0 := by
          rw [List.getD_eq_getElem?_getD (l := survP d.pend K d.pend.length), survP, List.getElem?_map, List.getElem?_eq_getElem hk']; rfl
        rw [e2]
      rw [e]
  rw [hl]; exact key _ (Nat.le_refl _)
theorem survP_ok {n : Nat} {pend : List (Int × List UInt8)} (h : ∀ p ∈ pend, 0 ≤ p.1 ∧ p.1 + p.2.length ≤ n) (K : List Int) (k : Nat) (hk : k ≤ pend.length) : ∀ p ∈ survP pend K k, 0 ≤ p.1 ∧ p.1 + p.2.length ≤ n := by
  intro p hp
  obtain ⟨i, hi, rfl⟩ := List.mem_map.1 hp
  have := survL_lt K k i hi
  exact h _ (getD_mem pend i (by omega))
theorem tornS_len (n : Nat) (torn : Int) (k : Nat) (s : List UInt8) : (tornS n torn k s).length ≤ s.length := by
  unfold tornS; split
  · rw [List.length_take]; exact Nat.min_le_right _ _
  · exact Nat.le_refl _
theorem applyUp_len {n : Nat} {P : List (Int × List UInt8)} {torn : Int} {b : List UInt8} (hb : b.length = n) (hP : ∀ p ∈ P, 0 ≤ p.1 ∧ p.1 + p.2.length ≤ n) : ∀ k, k ≤ P.length → (applyUp P torn b k).length = n
  | 0, _ => hb
  | k + 1, h => by
    have ih := applyUp_len (torn := torn) hb hP k (by omega)
    have hp := hP _ (getD_mem P k (d := pend0) (by omega))
    have ht := tornS_len P.length torn k (P.getD k pend0).2
    rw [applyUp, length_splice _ _ _ (by omega), ih]
end Go.Proofs.Ytednelejpkchbaa
