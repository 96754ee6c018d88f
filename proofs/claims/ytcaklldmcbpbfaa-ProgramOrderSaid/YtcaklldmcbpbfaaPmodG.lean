/- Plain laws: the order of rows and their names play no part. No condition. -/
import Derived.Test.YtcaklldmcbpbfaaPmodF
namespace Go.Proofs.Ytcaklldmcbpbfaa
open Go.RowKit

/-- as far as coefficients and bounds go, the two lists say the same -/
def sameRows (l m : List RowD) : Prop := l.length = m.length ∧ ∀ f : List Int → Int → Bool, (l.all fun r => f r.coef r.most) = (m.all fun r => f r.coef r.most)
theorem same_valid {vars : Int} {l m : List RowD} {g : List Int} (h : sameRows l m) : validB ⟨vars, l, g⟩ = validB ⟨vars, m, g⟩ := by
  have h1 := h.2 (fun c b => lenB c.length vars && coefsB c && isInB (-1000000000000) b 1000000000000)
  have h2 : rowsB l vars = rowsB m vars := h1
  simp only [validB, h2, h.1]
theorem same_kept {l m : List RowD} (h : sameRows l m) (s : Nat) : keptAll l s = keptAll m s := h.2 (fun c b => decide (chosenF c s ≤ b))
theorem same_good {vars : Int} {l m : List RowD} {g : List Int} (h : sameRows l m) : goodF ⟨vars, l, g⟩ = goodF ⟨vars, m, g⟩ := by
  unfold goodF goodUp
  exact congrArg (fun f => List.filter f _) (funext fun s => same_kept h s)
theorem same_best {vars : Int} {l m : List RowD} {g : List Int} (h : sameRows l m) : bestF ⟨vars, l, g⟩ = bestF ⟨vars, m, g⟩ := by
  unfold bestF; rw [same_good h]
theorem same_all {vars : Int} {l m : List RowD} {g : List Int} (h : sameRows l m) : allF ⟨vars, l, g⟩ = allF ⟨vars, m, g⟩ := by
  unfold allF; rw [same_valid h, same_good h]
/-- rows turned around by k, the first i of them named anew -/
def turnF (l : List RowD) (k : Nat) : List RowD := l.drop k ++ l.take k
def nameR (a b c d : Int) (r : RowD) : RowD := ⟨a, b, c, d, r.coef, r.most⟩
def namedF (a b c d : Int) (l : List RowD) (i : Nat) : List RowD := (l.take i).map (nameR a b c d) ++ l.drop i
theorem turnF_len (l : List RowD) (k : Nat) : (turnF l k).length = l.length := by unfold turnF; simp; omega
theorem namedF_len (a b c d : Int) (l : List RowD) (i : Nat) : (namedF a b c d l i).length = l.length := by unfold namedF; simp; omega
theorem named_same (a b c d : Int) (l : List RowD) (k i : Nat) : sameRows (namedF a b c d (turnF l k) i) l := by
  refine ⟨by rw [namedF_len, turnF_len], fun f => ?_⟩
  have e : ∀ m : List RowD, ((m.map (nameR a b c d)).all fun r => f r.coef r.most) = m.all fun r => f r.coef r.most := fun m => by rw [List.all_map]; rfl
  unfold namedF
  rw [List.all_append, e, ← List.all_append, List.take_append_drop]
  unfold turnF
  rw [List.all_append, Bool.and_comm, ← List.all_append, List.take_append_drop]
theorem namedF_zero (a b c d : Int) (l : List RowD) : namedF a b c d l 0 = l := by simp [namedF]
theorem namedF_get (a b c d : Int) (l : List RowD) {i j : Nat} (hj : j < l.length) : (namedF a b c d l i).getD j row0 = if j < i then nameR a b c d (l.getD j row0) else l.getD j row0 := by
  unfold namedF
  by_cases h : j < i
  · rw [if_pos h, getD_app_left _ _ _ _ (by simp; omega), List.getD_eq_getElem?_getD, List.getElem?_map, List.getElem?_take_of_lt h, List.getElem?_eq_getElem hj, List.getD_eq_getElem?_getD, List.getElem?_eq_getElem hj]; rfl
  · rw [if_neg h, getD_app_right _ _ _ _ (by simp; omega), List.getD_eq_getElem?_getD, List.getElem?_drop, List.getD_eq_getElem?_getD]
    congr 2
    simp; omega
theorem turn_get {α : Type} (d : α) (l : List α) {k j : Nat} (hk : k ≤ l.length) (hj : j < l.length) : (l.drop k ++ l.take k).getD j d = if j < l.length - k then l.getD (k + j) d else l.getD (j - (l.length - k)) d := by
  by_cases h : j < l.length - k
  · rw [if_pos h, getD_app_left _ _ _ _ (by simp; omega), List.getD_eq_getElem?_getD, List.getElem?_drop, List.getD_eq_getElem?_getD]
  · rw [if_neg h, getD_app_right _ _ _ _ (by simp; omega), List.getD_eq_getElem?_getD, List.getElem?_take_of_lt (by simp; omega), List.getD_eq_getElem?_getD]
    congr 2
    simp
theorem namedF_succ (a b c d : Int) {l : List RowD} {i : Nat} (hi : i < l.length) : namedF a b c d l (i + 1) = (namedF a b c d l i).set i (nameR a b c d (l.getD i row0)) := by
  have h1 : (namedF a b c d l i) = (l.take i).map (nameR a b c d) ++ (l.getD i row0 :: l.drop (i + 1)) := by
    unfold namedF
    rw [List.drop_eq_getElem_cons hi, List.getD_eq_getElem?_getD, List.getElem?_eq_getElem hi]; rfl
  have h2 : ((l.take i).map (nameR a b c d)).length = i := by simp; omega
  rw [h1, List.set_append_right _ _ (by omega), h2, Nat.sub_self, List.set_cons_zero]
  unfold namedF
  rw [take_succ' l i row0 hi, List.map_append, List.append_assoc]; rfl
end Go.Proofs.Ytcaklldmcbpbfaa
