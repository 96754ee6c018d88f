/- Register, in plain words: same and partner. No condition. -/
import Derived.Test.YtoofkahklboojaaDoorRkC
namespace Go.Proofs.YtoofkahklboojaaDoor

def sameD (p q : DotD) (m : MotD) : Bool :=
  decide (applyX m p.x p.y - q.x ≤ p.tol + q.tol) && decide (q.x - applyX m p.x p.y ≤ p.tol + q.tol) && decide (applyY m p.x p.y - q.y ≤ p.tol + q.tol) && decide (q.y - applyY m p.x p.y ≤ p.tol + q.tol)
def partnerD (a : List DotD) (q : DotD) (m : MotD) : Int := ((a.find? fun p => decide (19 < p.id) && sameD p q m).map (·.id)).getD (-1)
theorem dot_in {p : DotD} (h : dotOk p = true) : (0 ≤ p.id ∧ p.id ≤ 99) ∧ (-1000 ≤ p.x ∧ p.x ≤ 1000) ∧ (-1000 ≤ p.y ∧ p.y ≤ 1000) ∧ 0 ≤ p.tol ∧ p.tol ≤ 50 := by
  unfold dotOk at h; simp at h; omega
theorem applyX_in {m : MotD} {x y : Int} (hx : -1000 ≤ x ∧ x ≤ 1000) (hy : -1000 ≤ y ∧ y ≤ 1000) : (-6000 ≤ applyX m x y ∧ applyX m x y ≤ 6000) ∧ (-6000 ≤ applyY m x y ∧ applyY m x y ≤ 6000) := by
  unfold applyX applyY
  cases h : (motOk m && inShift x && inShift y)
  · simp
  · rw [if_pos rfl, if_pos rfl]
    rw [Bool.and_eq_true, Bool.and_eq_true, mot_iff] at h
    have ht := turn_bd m.turn.toNat x y 1000 hx hy
    unfold appX appY
    omega
end Go.Proofs.YtoofkahklboojaaDoor
