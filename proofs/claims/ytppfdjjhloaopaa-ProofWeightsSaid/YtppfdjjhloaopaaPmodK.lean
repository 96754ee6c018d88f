/- Plain laws: the proof of the solution refutes, and not about a lesser gain. No condition. -/
import Derived.Test.YtppfdjjhloaopaaPmodJ
import Derived.Test.YtppfdjjhloaopaaPmodS
namespace Go.Proofs.Ytppfdjjhloaopaa
open Go.RowKit

theorem decF_open (n : Nat) : decF n 0 0 = List.replicate n (-1) := by
  refine List.ext_getElem (by simp [decF]) fun k h1 h2 => ?_
  simp [decF]
theorem solve_proof {p : ProgD} (hV : validB p = true) : (solveF p).proof = growF (rowsF p) p.vars.toNat 0 0 0 := by unfold solveF; rw [if_pos hV]
theorem solve_found {p : ProgD} (hV : validB p = true) : (solveF p).found = (bestF p).found := by unfold solveF; rw [if_pos hV]
theorem solve_gain {p : ProgD} (hV : validB p = true) : (solveF p).gain = (bestF p).gain := by unfold solveF; rw [if_pos hV]
theorem rows_len {p : ProgD} (hV : validB p = true) : ∀ r ∈ p.rows, r.coef.length = p.vars.toNat := fun r hr => by
  obtain ⟨v0, -, -, hrs, -, -⟩ := valid_parts hV
  have := hrs r hr; omega
theorem goal_len {p : ProgD} (hV : validB p = true) (g : Int) : (goalF p.gain g).coef.length = p.vars.toNat := by
  obtain ⟨v0, -, -, -, hgl, -⟩ := valid_parts hV
  simp [goalF]; omega
theorem with_len {p : ProgD} (hV : validB p = true) (g : Int) : ∀ r ∈ p.rows ++ [goalF p.gain g], r.coef.length = p.vars.toNat := fun r hr => by
  rcases List.mem_append.1 hr with h | h
  · exact rows_len hV r h
  · simp at h; rw [h]; exact goal_len hV g
theorem best_bd {p : ProgD} (hV : validB p = true) : -12000000000 ≤ (bestF p).gain ∧ (bestF p).gain ≤ 12000000000 := by
  obtain ⟨v0, v12, -, -, hgl, hgc⟩ := valid_parts hV
  obtain ⟨b1, b2⟩ := bestUp_spec p.gain _ (goodF p) rfl
  cases hf : (bestF p).found
  · have := (b1 hf).2
    show _ ≤ (bestUp p.gain (goodF p)).gain ∧ (bestUp p.gain (goodF p)).gain ≤ _
    rw [this]; simp [best0]
  · obtain ⟨-, c2, -⟩ := b2 hf
    show _ ≤ (bestUp p.gain (goodF p)).gain ∧ (bestUp p.gain (goodF p)).gain ≤ _
    rw [c2]
    have := chosenF_bound p.gain (bestUp p.gain (goodF p)).set hgc
    omega
theorem rows_ok {p : ProgD} (hV : validB p = true) : RowsOk p.rows p.vars.toNat := fun r hr => by
  obtain ⟨v0, -, -, hrs, -, -⟩ := valid_parts hV
  have := hrs r hr
  exact ⟨by omega, this.2.1, this.2.2.1, this.2.2.2⟩
theorem with_ok {p : ProgD} (hV : validB p = true) (g : Int) (h1 : -100000000000 ≤ g) (h2 : g ≤ 100000000000) : RowsOk (p.rows ++ [goalF p.gain g]) p.vars.toNat := fun r hr => by
  rcases List.mem_append.1 hr with h | h
  · exact rows_ok hV r h
  · simp at h; rw [h]
    exact ⟨goal_len hV g, coefsB_neg (valid_parts hV).2.2.2.2.2, by show _ ≤ -(g + 1); omega, by show -(g + 1) ≤ _; omega⟩
theorem rowsF_found {p : ProgD} (h : (bestF p).found = true) : rowsF p = p.rows ++ [goalF p.gain (bestF p).gain] := by unfold rowsF; rw [if_pos h]
theorem rowsF_none {p : ProgD} (h : (bestF p).found = false) : rowsF p = p.rows := by unfold rowsF; rw [if_neg (by simp [h])]
theorem proof_refutes {p : ProgD} (hV : validB p = true) (F : Nat) (hF : p.vars.toNat < F) : refutesF (rowsF p) (growF (rowsF p) p.vars.toNat 0 0 0) F 0 (decF p.vars.toNat 0 0) = true := by
  refine grow_refutes (rowsF p) p.vars.toNat ?_ (refuted p hV) _ p.vars.toNat 0 0 0 F (by omega) (by simp) hF ⟨[], [], by simp, rfl⟩
  intro r hr
  cases h : (bestF p).found
  · rw [rowsF_none h] at hr; exact rows_len hV r hr
  · rw [rowsF_found h] at hr; exact with_len hV _ r hr
theorem less_not {p : ProgD} (hV : validB p = true) (hf : (bestF p).found = true) (l : List StepD) (F : Nat) : refutesF (p.rows ++ [goalF p.gain ((bestF p).gain - 1)]) l F 0 (decF p.vars.toNat 0 0) = false := by
  obtain ⟨b1, b2⟩ := bestUp_spec p.gain _ (goodF p) rfl
  obtain ⟨c1, c2, c3⟩ := b2 hf
  have hm := mem_goodUp.1 c1
  refine refutes_sound _ l p.vars.toNat (bestF p).set (fun r hr => ⟨with_len hV _ r hr, ?_⟩) F 0 _ (decF_len _ _ _) (fun k hk => ?_)
  · rcases List.mem_append.1 hr with h | h
    · exact List.all_eq_true.1 hm.2 r h
    · simp at h; rw [h]
      simp only [keptB, decide_eq_true_eq]
      show chosenF (p.gain.map fun x => -x) _ ≤ -((bestF p).gain - 1 + 1)
      rw [chosenF_neg]
      show -(chosenF p.gain (bestUp p.gain (goodF p)).set) ≤ -((bestUp p.gain (goodF p)).gain - 1 + 1)
      omega
  · rw [decF_len] at hk
    rw [decF_get hk, if_neg (by omega)]; exact Or.inl (by decide)
theorem proof_short {p : ProgD} (hV : validB p = true) : (growF (rowsF p) p.vars.toNat 0 0 0).length ≤ 8192 := by
  have h := growF_len (rowsF p) p.vars.toNat 0 0 0
  have h2 : 2 ^ (p.vars.toNat + 1) ≤ 2 ^ 13 := Nat.pow_le_pow_right (by omega) (by have := valid_parts hV; omega)
  omega
end Go.Proofs.Ytppfdjjhloaopaa
