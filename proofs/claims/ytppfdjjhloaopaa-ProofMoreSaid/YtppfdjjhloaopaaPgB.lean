/- Plain laws on what check finds: it is -1 just where the proof refutes; what that says of all choices. No condition. -/
import Derived.Test.YtppfdjjhloaopaaPfF
import Derived.Test.YtppfdjjhloaopaaPmodF
namespace Go.Proofs.Ytppfdjjhloaopaa
open Go.RowKit

theorem check_iff {p : ProgD} {rows : List RowD} {l : List StepD} (hV : validB p = true) (hl : l.length ≤ 8192) (h0 : 0 < l.length) {F : Nat} (hF : l.length ≤ F) :
    decide (checkF p rows l = -1) = refutesF rows l F 0 (decF p.vars.toNat 0 0) := by
  have e : checkF p rows l = wrongF rows l l.length 0 (List.replicate p.vars.toNat (-1)) := by
    unfold checkF; rw [hV, if_pos (by simp [hl]), if_neg (by omega)]
  rw [e, wrongF_fuel rows l l.length F 0 _ h0 (by omega) (by omega), ← decF_open]
  have := wrong_refutes rows l F 0 (decF p.vars.toNat 0 0) h0
  rw [show ((0 : Nat) : Int) = 0 from rfl] at this
  rw [this]
theorem check_parts {p : ProgD} {rows : List RowD} {l : List StepD} (h : checkF p rows l = -1) : validB p = true ∧ l.length ≤ 8192 ∧ 0 < l.length := by
  unfold checkF at h
  cases hV : validB p
  · rw [hV] at h; simp at h
  · rw [hV] at h
    by_cases hl : l.length ≤ 8192
    · refine ⟨rfl, hl, ?_⟩
      simp only [hl, decide_true, Bool.and_self, if_true] at h
      by_cases h0 : l.length = 0
      · rw [if_pos h0] at h; omega
      · omega
    · simp [hl] at h
theorem fits_none (n s : Nat) : Fits (decF n 0 0) s := fun k hk => by
  rw [decF_len] at hk
  rw [decF_get hk, if_neg (by omega)]; exact Or.inl (by decide)
theorem check_sound {p : ProgD} {rows : List RowD} {l : List StepD} (h : checkF p rows l = -1) (hr : ∀ r ∈ rows, r.coef.length = p.vars.toNat) (s : Nat) : ¬ (∀ r ∈ rows, keptB r s = true) := fun hk => by
  obtain ⟨hV, hl, h0⟩ := check_parts h
  have h1 := check_iff (rows := rows) hV hl h0 (Nat.le_refl _)
  rw [h, refutes_sound rows l p.vars.toNat s (fun r hr' => ⟨hr r hr', hk r hr'⟩) _ 0 _ (decF_len _ _ _) (fits_none _ _)] at h1
  simp at h1
theorem ref_sound {p : ProgD} {l : List StepD} (h : refB p l = true) (s : Nat) : keptAll p.rows s = false := by
  have h1 : wrongP p l = -1 := by unfold refB at h; simpa using h
  rw [← Bool.not_eq_true]
  intro hk
  exact check_sound h1 (rows_len (check_parts h1).1) s (fun r hr => List.all_eq_true.1 hk r hr)
theorem bounds_sound {p : ProgD} {l : List StepD} {g : Int} (h : boundsB p l g = true) (s : Nat) (hk : keptAll p.rows s = true) : chosenF p.gain s ≤ g := by
  unfold boundsB at h
  simp only [Bool.and_eq_true, decide_eq_true_eq] at h
  refine Decidable.byContradiction fun hn => ?_
  refine check_sound h.2 (with_len (check_parts h.2).1 g) s (fun r hr => ?_)
  rcases List.mem_append.1 hr with h1 | h1
  · exact List.all_eq_true.1 hk r h1
  · simp at h1; rw [h1]
    simp only [keptB, decide_eq_true_eq]
    show chosenF (p.gain.map fun x => -x) _ ≤ -(g + 1)
    rw [chosenF_neg]; omega
theorem proof_some (p : ProgD) : 0 < (growF (rowsF p) p.vars.toNat 0 0 0).length := by have := (growF_len (rowsF p) p.vars.toNat 0 0 0).1; omega
/-- the plain proof of a program holds -/
theorem own_check {p : ProgD} (hV : validB p = true) : checkF p (rowsF p) (solveF p).proof = -1 := by
  rw [solve_proof hV]
  have h := check_iff (rows := rowsF p) hV (proof_short hV) (proof_some p) (F := (growF (rowsF p) p.vars.toNat 0 0 0).length + p.vars.toNat + 1) (by omega)
  rw [proof_refutes hV _ (by omega)] at h
  simpa using h
theorem own_refutes {p : ProgD} (hV : validB p = true) (hf : (bestF p).found = false) : wrongP p (solveF p).proof = -1 ∧ refB p (solveF p).proof = true := by
  have h := own_check hV
  rw [rowsF_none hf] at h
  exact ⟨h, by unfold refB wrongP; rw [h]; rfl⟩
theorem own_bounds {p : ProgD} (hV : validB p = true) (hf : (bestF p).found = true) : boundsB p (solveF p).proof (bestF p).gain = true := by
  have h := own_check hV
  rw [rowsF_found hf] at h
  have hb := best_bd hV
  unfold boundsB
  rw [h]; simp [isInB, hb]
theorem best_kept {p : ProgD} (hV : validB p = true) (hf : (bestF p).found = true) : keptAll p.rows (bestF p).set = true ∧ (bestF p).gain = chosenF p.gain (bestF p).set := by
  obtain ⟨v0, -⟩ := valid_parts hV
  obtain ⟨-, h, h2, -⟩ := (bestF_spec (p := p) (n := p.vars.toNat) (by omega)).2 hf
  exact ⟨h, h2⟩
theorem lesser_not {p : ProgD} (hV : validB p = true) (hf : (bestF p).found = true) (l : List StepD) {g : Int} (hg : g < (bestF p).gain) : boundsB p l g = false := by
  rw [← Bool.not_eq_true]
  intro h
  obtain ⟨h1, h2⟩ := best_kept hV hf
  have := bounds_sound h _ h1
  omega
theorem found_not {p : ProgD} (hV : validB p = true) (hf : (bestF p).found = true) (l : List StepD) : refB p l = false := by
  rw [← Bool.not_eq_true]
  intro h
  have := ref_sound h (bestF p).set
  rw [(best_kept hV hf).1] at this; cases this
end Go.Proofs.Ytppfdjjhloaopaa
