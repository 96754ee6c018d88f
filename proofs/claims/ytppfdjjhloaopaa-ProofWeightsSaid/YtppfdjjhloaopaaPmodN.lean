/- Plain words: the first wrong step of a proof; it is as what refutes says. No condition. -/
import Derived.Test.YtppfdjjhloaopaaPmodJ
namespace Go.Proofs.Ytppfdjjhloaopaa
open Go.RowKit

def partsB (st : StepD) (a m : Int) (dec : List Int) : Bool :=
  decide (0 ≤ st.var) && decide (st.var < dec.length) && decide (st.wts.length = 0) && (decide (a < st.no) && decide (st.no < m)) && (decide (a < st.yes) && decide (st.yes < m)) && decide (dec.getD st.var.toNat 0 < 0)
/-- the first wrong step from step a on; -1 if there is none -/
def wrongF (rows : List RowD) (l : List StepD) : Nat → Nat → List Int → Int
  | 0, _, _ => 0
  | f + 1, a, dec =>
    if (l.getD a st0).var = -1 then (if leafB rows (l.getD a st0) dec then -1 else a) else
    if partsB (l.getD a st0) a l.length dec then
      (if 0 ≤ wrongF rows l f (l.getD a st0).no.toNat (dec.set (l.getD a st0).var.toNat 0) then wrongF rows l f (l.getD a st0).no.toNat (dec.set (l.getD a st0).var.toNat 0)
        else wrongF rows l f (l.getD a st0).yes.toNat (dec.set (l.getD a st0).var.toNat 1))
    else a
theorem wrongF_range (rows : List RowD) (l : List StepD) : ∀ (f a : Nat) (dec : List Int), -1 ≤ wrongF rows l f a dec
  | 0, _, _ => by simp [wrongF]
  | f + 1, a, dec => by
    simp only [wrongF]
    split
    · split <;> omega
    · split
      · split
        · omega
        · exact wrongF_range rows l f _ _
      · omega
theorem nodeB_parts {st : StepD} {a m : Int} {dec : List Int} : partsB st a m dec = (nodeB st a dec && decide (st.no < m) && decide (st.yes < m)) := by
  unfold partsB nodeB
  rw [Bool.eq_iff_iff]; simp only [Bool.and_eq_true, decide_eq_true_eq]
  constructor
  · rintro ⟨⟨⟨⟨⟨h1, h2⟩, h3⟩, h4, h5⟩, h6, h7⟩, h8⟩; exact ⟨⟨⟨⟨⟨⟨⟨h1, h2⟩, h3⟩, h4⟩, h6⟩, h8⟩, h5⟩, h7⟩
  · rintro ⟨⟨⟨⟨⟨⟨⟨h1, h2⟩, h3⟩, h4⟩, h6⟩, h8⟩, h5⟩, h7⟩; exact ⟨⟨⟨⟨⟨h1, h2⟩, h3⟩, h4, h5⟩, h6, h7⟩, h8⟩
theorem refutes_out (rows : List RowD) (l : List StepD) (f : Nat) (a : Int) (dec : List Int) (h : (l.length : Int) ≤ a) : refutesF rows l f a dec = false := by
  cases f
  · rfl
  · simp only [refutesF]; rw [if_neg (by omega)]
theorem wrong_iff (rows : List RowD) (l : List StepD) : ∀ (f a : Nat) (dec : List Int), a < l.length → (refutesF rows l f a dec = true ↔ wrongF rows l f a dec = -1)
  | 0, _, _, _ => by simp [refutesF, wrongF]
  | f + 1, a, dec, ha => by
    simp only [refutesF, wrongF, Int.toNat_natCast]
    rw [if_pos ⟨by omega, by omega⟩]
    generalize l.getD a st0 = s
    by_cases hv : s.var = -1
    · rw [if_pos hv, if_pos hv]
      cases leafB rows s dec
      · simp
      · simp
    · rw [if_neg hv, if_neg hv, nodeB_parts]
      cases hn : nodeB s a dec
      · simp
      · have hn' := hn
        simp only [nodeB, Bool.and_eq_true, decide_eq_true_eq] at hn'
        obtain ⟨⟨⟨-, h4⟩, h6⟩, -⟩ := hn'
        by_cases h5 : s.no < (l.length : Int)
        · have e1 := wrong_iff rows l f s.no.toNat (dec.set s.var.toNat 0) (by omega)
          rw [show ((s.no.toNat : Nat) : Int) = s.no by omega] at e1
          have r1 := wrongF_range rows l f s.no.toNat (dec.set s.var.toNat 0)
          by_cases h7 : s.yes < (l.length : Int)
          · have e2 := wrong_iff rows l f s.yes.toNat (dec.set s.var.toNat 1) (by omega)
            rw [show ((s.yes.toNat : Nat) : Int) = s.yes by omega] at e2
            rw [Bool.true_and, Bool.and_eq_true, e1, e2]
            generalize wrongF rows l f s.no.toNat (dec.set s.var.toNat 0) = x at r1
            generalize wrongF rows l f s.yes.toNat (dec.set s.var.toNat 1) = y
            rw [if_pos (by simp [h5, h7])]
            by_cases hx : x = -1
            · subst hx; simp
            · have h0 : 0 ≤ x := by omega
              rw [if_pos h0]
              exact ⟨fun h => absurd h.1 hx, fun h => absurd h hx⟩
          · have e2 := refutes_out rows l f s.yes (dec.set s.var.toNat 1) (by omega)
            rw [e2]; simp [h7]
        · have e1 := refutes_out rows l f s.no (dec.set s.var.toNat 0) (by omega)
          rw [e1]; simp [h5]
theorem wrong_refutes (rows : List RowD) (l : List StepD) (f a : Nat) (dec : List Int) (ha : a < l.length) : refutesF rows l f a dec = decide (wrongF rows l f a dec = -1) := by
  rw [Bool.eq_iff_iff, decide_eq_true_eq]; exact wrong_iff rows l f a dec ha
/-- the first wrong step does not hang on the fuel -/
theorem wrongF_fuel (rows : List RowD) (l : List StepD) : ∀ (f g a : Nat) (dec : List Int), a < l.length → l.length ≤ a + f → l.length ≤ a + g → wrongF rows l f a dec = wrongF rows l g a dec
  | 0, _, a, _, h1, h2, _ => by omega
  | _, 0, a, _, h1, _, h3 => by omega
  | f + 1, g + 1, a, dec, h1, h2, h3 => by
    simp only [wrongF]
    generalize l.getD a st0 = s
    by_cases hv : s.var = -1
    · rw [if_pos hv, if_pos hv]
    · rw [if_neg hv, if_neg hv]
      cases hp : partsB s a l.length dec
      · rfl
      · simp only [partsB, Bool.and_eq_true, decide_eq_true_eq] at hp
        obtain ⟨⟨⟨-, h4, h5⟩, h6, h7⟩, -⟩ := hp
        rw [wrongF_fuel rows l f g s.no.toNat _ (by omega) (by omega) (by omega), wrongF_fuel rows l f g s.yes.toNat _ (by omega) (by omega) (by omega)]
end Go.Proofs.Ytppfdjjhloaopaa
