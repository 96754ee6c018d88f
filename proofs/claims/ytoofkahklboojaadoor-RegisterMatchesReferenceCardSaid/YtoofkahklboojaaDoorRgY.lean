/- Register, in plain words: without a mark; two motions one after the other. No program in sight. No condition. -/
import Derived.Test.YtoofkahklboojaaDoorRgX
namespace Go.Proofs.YtoofkahklboojaaDoor

/-- without the k-th one -/
def lessD (a : List DotD) (k : Nat) : List DotD := a.take k ++ a.drop (k + 1)
theorem less_sub (a : List DotD) (k : Nat) : (lessD a k).Sublist a := by
  unfold lessD
  have h : a = a.take k ++ a.drop k := (List.take_append_drop k a).symm
  have h2 : (a.drop (k + 1)).Sublist (a.drop k) := by
    rw [← List.drop_drop]
    exact List.drop_sublist 1 (a.drop k)
  have h3 := List.Sublist.append (List.Sublist.refl (a.take k)) h2
  rw [← h] at h3
  exact h3
theorem less_valid {a : List DotD} (h : validD a = true) (k : Nat) : validD (lessD a k) = true := by
  have hs := less_sub a k
  unfold validD at h ⊢
  rw [Bool.and_eq_true, Bool.and_eq_true, decide_eq_true_eq] at h ⊢
  obtain ⟨⟨h1, h2⟩, h3⟩ := h
  refine ⟨⟨?_, ?_⟩, ?_⟩
  · rw [asc_ids] at h1 ⊢
    exact h1.sublist (hs.map _)
  · rw [List.all_eq_true] at h2 ⊢
    exact fun x hx => h2 x (hs.subset hx)
  · have := hs.length_le; omega
theorem less_finds {a : List DotD} {k : Nat} (h : (a.getD k ⟨0, 0, 0, 0⟩).id ≤ 19) : findsD (lessD a k) = findsD a := by
  unfold findsD lessD
  by_cases hk : k < a.length
  · have e : a = a.take k ++ a.getD k ⟨0, 0, 0, 0⟩ :: a.drop (k + 1) := by
      have h1 : a.drop k = a[k] :: a.drop (k + 1) := List.drop_eq_getElem_cons hk
      have h2 : a.getD k ⟨0, 0, 0, 0⟩ = a[k] := by rw [List.getD_eq_getElem?_getD, List.getElem?_eq_getElem hk]; rfl
      rw [h2, ← h1, List.take_append_drop]
    have h5 : ∀ (u v : List DotD) (p : DotD), p.id ≤ 19 → (u ++ v).filter (fun p => decide (19 < p.id)) = (u ++ p :: v).filter (fun p => decide (19 < p.id)) := fun u v p hp => by
      rw [List.filter_append, List.filter_append, List.filter_cons, decide_eq_false (by omega)]; rfl
    have := h5 (a.take k) (a.drop (k + 1)) _ h
    rw [← e] at this
    exact this
  · rw [List.take_of_length_le (by omega), List.drop_eq_nil_of_le (by omega), List.append_nil]
theorem less_marks {a b : List DotD} (ha : validD a = true) (k : Nat) {r : DotD × DotD} (h : r ∈ marksD (lessD a k) b) : r ∈ marksD a b := by
  unfold marksD at h ⊢
  split at h
  · rename_i hv
    rw [Bool.and_eq_true] at hv
    rw [ha, hv.2, Bool.and_self, if_pos rfl]
    rw [marksRaw_mem] at h ⊢
    exact ⟨(less_sub a k).subset h.1, h.2⟩
  · cases h
theorem less_fits {a b : List DotD} (ha : validD a = true) {k : Nat} (hne : marksD (lessD a k) b ≠ []) {m : MotD} (hf : fittingD a b m = true) : fittingD (lessD a k) b m = true :=
  fits_mono hne (fun r hr => ⟨r, less_marks ha k hr, fun _ _ _ h => h⟩) hf
/-- one motion behind the other -/
def thenD (m n : MotD) : MotD := ⟨(m.turn + n.turn) % 4, appX n (appX m 0 0) (appY m 0 0), appY n (appX m 0 0) (appY m 0 0)⟩
theorem then_app {m n : MotD} (hm : 0 ≤ m.turn ∧ m.turn ≤ 3) (hn : 0 ≤ n.turn ∧ n.turn ≤ 3) (x y : Int) : appX (thenD m n) x y = appX n (appX m x y) (appY m x y) ∧ appY (thenD m n) x y = appY n (appX m x y) (appY m x y) := by
  obtain ⟨mt, mx, my⟩ := m
  obtain ⟨nt, nx, ny⟩ := n
  unfold thenD appX appY
  rcases turn_cases hm with h | h | h | h <;> rcases turn_cases hn with g | g | g | g <;> (simp only [] at h g; subst h; subst g; simp [turnX, turnY]; try omega)
/-- whatever a point is measured as, twice, within its tolerances, the motion between the true places fits -/
theorem shift_of {m : MotD} {x y : Int} {p q : DotD} (hp : (x - p.tol ≤ p.x ∧ p.x ≤ x + p.tol) ∧ (y - p.tol ≤ p.y ∧ p.y ≤ y + p.tol)) (hq : (appX m x y - q.tol ≤ q.x ∧ q.x ≤ appX m x y + q.tol) ∧ (appY m x y - q.tol ≤ q.y ∧ q.y ≤ appY m x y + q.tol)) : hasB (shiftD m.turn.toNat p q) m.dx m.dy = true := by
  have h := turn_err m.turn.toNat x y (p.x - x) (p.y - y) p.tol (by omega) (by omega)
  have e1 : x + (p.x - x) = p.x := by omega
  have e2 : y + (p.y - y) = p.y := by omega
  rw [e1, e2] at h
  rw [has_iff]
  unfold shiftD
  unfold appX appY at hq
  simp only []
  omega
end Go.Proofs.YtoofkahklboojaaDoor
