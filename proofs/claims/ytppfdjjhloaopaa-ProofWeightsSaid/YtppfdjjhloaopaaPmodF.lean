/- Plain laws: the best choice. No condition. -/
import Derived.Test.YtppfdjjhloaopaaPmodE
namespace Go.Proofs.Ytppfdjjhloaopaa
open Go.RowKit

theorem goodUp_sorted (l : List RowD) (k : Nat) : (goodUp l k).Pairwise (· < ·) :=
  List.Pairwise.filter _ (List.pairwise_lt_range)
/-- what is found is the least of those with its gain -/
theorem bestUp_least (g : List Int) : ∀ (n : Nat) (l : List Nat), l.length = n → l.Pairwise (· < ·) → (bestUp g l).found = true → ∀ s ∈ l, chosenF g s = (bestUp g l).gain → (bestUp g l).set ≤ s
  | 0, l, h, _, hf, s, hs, _ => by
    obtain rfl := List.length_eq_zero_iff.1 h
    cases hs
  | n + 1, l, h, hp, hf, s, hs, he => by
    rcases List.eq_nil_or_concat l with rfl | ⟨m, x, rfl⟩
    · cases hs
    rw [List.concat_eq_append] at h hp hs hf he ⊢
    obtain ⟨hp1, -, hp2⟩ := List.pairwise_append.1 hp
    have ih := bestUp_least g n m (by simpa using h) hp1
    obtain ⟨i1, i2⟩ := bestUp_spec g _ m rfl
    rw [bestUp_snoc] at hf he ⊢
    unfold bestStep at hf he ⊢
    cases hf' : (bestUp g m).found
    · rw [hf'] at he
      rw [if_neg (by simp)] at he ⊢
      obtain ⟨rfl, -⟩ := i1 hf'
      simp at hs
      rw [hs]; exact Nat.le_refl _
    · rw [hf'] at he
      obtain ⟨j1, j2, j3⟩ := i2 hf'
      by_cases hc : chosenF g x ≤ (bestUp g m).gain
      · rw [if_pos (by simp [hc])] at he ⊢
        rcases List.mem_append.1 hs with h1 | h1
        · exact ih hf' s h1 he
        · simp at h1
          subst h1
          exact Nat.le_of_lt (hp2 _ j1 _ (List.mem_cons_self ..))
      · rw [if_neg (by simp [hc])] at he ⊢
        rcases List.mem_append.1 hs with h1 | h1
        · have := j3 s h1
          have he : chosenF g s = chosenF g x := he
          omega
        · simp at h1; rw [h1]; exact Nat.le_refl _
/-- all that the law asks of what is found -/
theorem bestF_spec {p : ProgD} {n : Nat} (hn : p.vars = n) : ((bestF p).found = false → (bestF p).set = 0 ∧ (bestF p).gain = 0 ∧ ∀ s, s < 2 ^ n → keptAll p.rows s = false) ∧
    ((bestF p).found = true → (bestF p).set < 2 ^ n ∧ keptAll p.rows (bestF p).set = true ∧ (bestF p).gain = chosenF p.gain (bestF p).set ∧
      ∀ s, s < 2 ^ n → keptAll p.rows s = true → chosenF p.gain s ≤ (bestF p).gain ∧ (chosenF p.gain s = (bestF p).gain → (bestF p).set ≤ s)) := by
  obtain ⟨h1, h2⟩ := bestUp_spec p.gain _ (goodF p) rfl
  have hm : ∀ s, s ∈ goodF p ↔ s < 2 ^ n ∧ keptAll p.rows s = true := fun s => by
    unfold goodF; rw [mem_goodUp, hn, Int.toNat_natCast]
  refine ⟨fun hf => ?_, fun hf => ?_⟩
  · obtain ⟨h3, h4⟩ := h1 hf
    have h5 : bestF p = best0 := h4
    rw [h5]
    refine ⟨rfl, rfl, fun s hs => ?_⟩
    cases hk : keptAll p.rows s
    · rfl
    · have := (hm s).2 ⟨hs, hk⟩
      rw [h3] at this; cases this
  · obtain ⟨h3, h4, h5⟩ := h2 hf
    obtain ⟨h6, h7⟩ := (hm _).1 h3
    exact ⟨h6, h7, h4, fun s hs hk => ⟨h5 s ((hm s).2 ⟨hs, hk⟩), bestUp_least p.gain _ (goodF p) rfl (goodUp_sorted _ _) hf s ((hm s).2 ⟨hs, hk⟩)⟩⟩
theorem solveF_in {p : ProgD} (hv : validB p = true) : (solveF p).found = (bestF p).found ∧ (solveF p).set = (bestF p).set ∧ (solveF p).gain = (bestF p).gain ∧ (solveF p).proof = growF (rowsF p) p.vars.toNat 0 0 0 := by
  unfold solveF; rw [hv]; exact ⟨rfl, rfl, rfl, rfl⟩
theorem errF_in {p : ProgD} (hv : validB p = true) : errF p = 0 := by unfold errF; rw [hv]; rfl
/-- the first k rows are kept -/
def keptTo (l : List RowD) (s k : Nat) : Bool := keptAll (l.take k) s
theorem keptTo_succ {l : List RowD} {s k : Nat} (h : k < l.length) : keptTo l s (k + 1) = (keptTo l s k && keptB (l.getD k row0) s) := by
  unfold keptTo; rw [take_succ' l k row0 h]; simp [keptAll]
theorem keptTo_end (l : List RowD) (s : Nat) : keptTo l s l.length = keptAll l s := by unfold keptTo; rw [List.take_length]
end Go.Proofs.Ytppfdjjhloaopaa
