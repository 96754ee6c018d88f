/- Register, in plain words: what RegisterChains needs. No condition. -/
import Derived.Test.YtoofkahklboojaaDoorRkG
import Derived.Test.YtoofkahklboojaaDoorRgY
namespace Go.Proofs.YtoofkahklboojaaDoor

/-- the true place of a mark in the third system -/
def thirdX (m n : MotD) (x y : Int) : Int := appX n (appX m x y) (appY m x y)
def thirdY (m n : MotD) (x y : Int) : Int := appY n (appX m x y) (appY m x y)
def markC (t u : TruthD) (n : MotD) (i : Nat) : DotD := measD u (3 * i) i 1 (thirdX (wayD t) n (markX t i) (markY t i)) (thirdY (wayD t) n (markX t i) (markY t i))
def survC (t u : TruthD) (n : MotD) : List DotD := (List.range (nMarks t)).map (markC t u n)
def motIn (n : MotD) : Prop := 0 ≤ n.turn ∧ n.turn ≤ 3 ∧ -300 ≤ n.dx ∧ n.dx ≤ 300 ∧ -300 ≤ n.dy ∧ n.dy ≤ 300
theorem third_in (t : TruthD) {n : MotD} (hn : motIn n) (x y : Int) (hx : -200 ≤ x ∧ x ≤ 200) (hy : -200 ≤ y ∧ y ≤ 200) : (-800 ≤ thirdX (wayD t) n x y ∧ thirdX (wayD t) n x y ≤ 800) ∧ (-800 ≤ thirdY (wayD t) n x y ∧ thirdY (wayD t) n x y ≤ 800) := by
  have h := app_in t x y hx hy
  have g := turn_bd n.turn.toNat _ _ 500 h.1 h.2
  unfold motIn at hn
  unfold thirdX thirdY
  generalize appX (wayD t) x y = a at *
  generalize appY (wayD t) x y = b at *
  unfold appX appY
  omega
theorem survC_valid (t u : TruthD) {n : MotD} (hn : motIn n) : validD (survC t u n) = true := by
  have h4 := nMarks_in t
  unfold validD
  rw [asc_of_pair, Bool.true_and, Bool.and_eq_true, List.all_eq_true, decide_eq_true_eq]
  · refine ⟨fun x hx => ?_, by unfold survC; simp; omega⟩
    obtain ⟨i, hi, rfl⟩ := List.mem_map.1 hx
    have := List.mem_range.1 hi
    have h := mark_in t i
    have := third_in t hn _ _ h.1 h.2
    exact meas_ok u _ _ _ _ _ (by omega) (by omega) (by omega)
  · unfold survC
    rw [List.pairwise_map]
    refine List.pairwise_lt_range.imp fun {i j} h => ?_
    show (3 * (i : Int)) < 3 * j
    omega
theorem meas_near (t : TruthD) (id : Int) (n which : Nat) (x y : Int) : let p := measD t id n which x y; (x - p.tol ≤ p.x ∧ p.x ≤ x + p.tol) ∧ (y - p.tol ≤ p.y ∧ p.y ≤ y + p.tol) := by
  intro p
  have h1 := errX_in t n which
  have h2 := errY_in t n which
  have e1 : p.x = x + errX t n which := rfl
  have e2 : p.y = y + errY t n which := rfl
  have e3 : p.tol = tolD t n which := rfl
  omega
theorem then_ok (t : TruthD) {n : MotD} (hn : motIn n) : motOk (thenD (wayD t) n) = true := by
  have hw := way_in t
  have h := third_in t hn 0 0 (by decide) (by decide)
  rw [mot_iff]
  unfold thirdX thirdY at h
  unfold motIn at hn
  unfold thenD
  simp only []
  omega
theorem survB_low (t : TruthD) {q : DotD} (h : q ∈ survB t) (h19 : q.id ≤ 19) : ∃ i, i < nMarks t ∧ q = markB t i := by
  unfold survB at h
  rcases List.mem_append.1 h with h | h
  · obtain ⟨i, hi, rfl⟩ := List.mem_map.1 h
    exact ⟨i, List.mem_range.1 hi, rfl⟩
  · obtain ⟨j, hj, rfl⟩ := List.mem_map.1 h
    have : (findB t j).id = 60 + 3 * j := rfl
    omega
theorem survA_low (t : TruthD) {q : DotD} (h : q ∈ survA t) (h19 : q.id ≤ 19) : ∃ i, i < nMarks t ∧ q = markA t i := by
  unfold survA at h
  rcases List.mem_append.1 h with h | h
  · obtain ⟨i, hi, rfl⟩ := List.mem_map.1 h
    exact ⟨i, List.mem_range.1 hi, rfl⟩
  · obtain ⟨j, hj, rfl⟩ := List.mem_map.1 h
    have : (findA t j).id = 20 + 2 * j := rfl
    omega
theorem chain_bc (t u : TruthD) {n : MotD} (hn : motIn n) : fittingD (survB t) (survC t u n) n = true := by
  have h4 := nMarks_in t
  have hv := (surv_valid t).2
  have hc := survC_valid t u hn
  rw [fitting_iff]
  unfold marksD
  rw [hv, hc, Bool.and_self, if_pos rfl]
  refine ⟨fun he => ?_, ?_, fun r hr => ?_⟩
  · have : (markB t 0, markC t u n 0) ∈ marksRaw (survB t) (survC t u n) := marksRaw_mem.2 ⟨List.mem_append.2 (.inl (List.mem_map.2 ⟨0, List.mem_range.2 (by omega), rfl⟩)), List.mem_map.2 ⟨0, List.mem_range.2 (by omega), rfl⟩, rfl, show (3 * ((0 : Nat) : Int)) ≤ 19 by decide⟩
    rw [he] at this; cases this
  · unfold motIn at hn
    rw [mot_iff]; omega
  · obtain ⟨h1, h2, h3, h5⟩ := marksRaw_mem.1 hr
    obtain ⟨p, q⟩ := r
    dsimp only at *
    obtain ⟨i, hi, rfl⟩ := survB_low t h1 h5
    obtain ⟨j, hj, rfl⟩ := List.mem_map.1 h2
    have e : (3 * (i : Int)) = 3 * j := h3
    obtain rfl : i = j := by omega
    exact shift_of (meas_near t _ i 1 (appX (wayD t) (markX t i) (markY t i)) (appY (wayD t) (markX t i) (markY t i))) (meas_near u _ i 1 _ _)
theorem chain_ac (t u : TruthD) {n : MotD} (hn : motIn n) : fittingD (survA t) (survC t u n) (thenD (wayD t) n) = true := by
  have h4 := nMarks_in t
  have hv := (surv_valid t).1
  have hc := survC_valid t u hn
  have hw := way_in t
  rw [fitting_iff]
  unfold marksD
  rw [hv, hc, Bool.and_self, if_pos rfl]
  refine ⟨fun he => ?_, then_ok t hn, fun r hr => ?_⟩
  · have : (markA t 0, markC t u n 0) ∈ marksRaw (survA t) (survC t u n) := marksRaw_mem.2 ⟨List.mem_append.2 (.inl (List.mem_map.2 ⟨0, List.mem_range.2 (by omega), rfl⟩)), List.mem_map.2 ⟨0, List.mem_range.2 (by omega), rfl⟩, rfl, show (3 * ((0 : Nat) : Int)) ≤ 19 by decide⟩
    rw [he] at this; cases this
  · obtain ⟨h1, h2, h3, h5⟩ := marksRaw_mem.1 hr
    obtain ⟨p, q⟩ := r
    dsimp only at *
    obtain ⟨i, hi, rfl⟩ := survA_low t h1 h5
    obtain ⟨j, hj, rfl⟩ := List.mem_map.1 h2
    have e : (3 * (i : Int)) = 3 * j := h3
    obtain rfl : i = j := by omega
    have ha := then_app (m := wayD t) (n := n) ⟨hw.1, hw.2.1⟩ ⟨hn.1, hn.2.1⟩ (markX t i) (markY t i)
    refine shift_of (x := markX t i) (y := markY t i) (meas_near t _ i 0 _ _) ?_
    rw [ha.1, ha.2]
    exact meas_near u _ i 1 _ _
/-- the marks of the second survey come first -/
theorem survB_at (t : TruthD) {k : Nat} (hk : k < nMarks t) : (survB t).getD k dot0 = markB t k := by
  unfold survB
  rw [List.getD_eq_getElem?_getD, List.getElem?_append_left (by simpa using hk), List.getElem?_map, List.getElem?_range hk]; rfl
theorem survB_more (t : TruthD) {k : Nat} (hl : k < (survB t).length) : ((survB t).getD k dot0).id ≤ 19 ↔ k < nMarks t := by
  have h4 := nMarks_in t
  constructor
  · intro h
    refine Decidable.byContradiction fun hk => ?_
    have hm : (survB t).getD k dot0 ∈ ((List.range (nFinds t)).filter fun i => decide (findK t i ≠ 2)).map (findB t) := by
      unfold survB at hl ⊢
      rw [List.getD_eq_getElem?_getD, List.getElem?_append_right (by simp; omega)]
      simp only [List.length_append, List.length_map, List.length_range] at hl ⊢
      rw [List.getElem?_eq_getElem (by simp only [List.length_map]; omega)]
      exact List.getElem_mem _
    obtain ⟨j, hj, e⟩ := List.mem_map.1 hm
    rw [← e] at h
    have : (findB t j).id = 60 + 3 * j := rfl
    omega
  · intro hk
    rw [survB_at t hk]
    show (3 * (k : Int)) ≤ 19
    omega
theorem survB_nlen (t : TruthD) : nMarks t ≤ (survB t).length := by unfold survB; simp
end Go.Proofs.YtoofkahklboojaaDoor
