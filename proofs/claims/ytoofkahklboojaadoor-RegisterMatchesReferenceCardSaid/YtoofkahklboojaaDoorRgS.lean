/- Register, in plain words: the surveys that integers determine; the true motion fits them. No program in sight. No condition. -/
import Derived.Test.YtoofkahklboojaaDoorRgP
namespace Go.Proofs.YtoofkahklboojaaDoor

structure TruthD where
  marks : List (Int × Int)
  finds : List (Int × Int × Int)
  mot : Int × Int × Int
  tols : List Int
  errs : List (Int × Int × Int × Int)
def absR (c : Int) : Int := if c < 0 then -(c + 1) else c
def pickR (c n : Int) : Int := absR c % n
theorem pickR_in (c : Int) {n : Int} (h : 0 < n) : 0 ≤ pickR c n ∧ pickR c n < n := ⟨Int.emod_nonneg _ (by omega), Int.emod_lt_of_pos _ h⟩
def wayD (t : TruthD) : MotD := ⟨pickR t.mot.1 4, pickR t.mot.2.1 601 - 300, pickR t.mot.2.2 601 - 300⟩
theorem way_in (t : TruthD) : 0 ≤ (wayD t).turn ∧ (wayD t).turn ≤ 3 ∧ -300 ≤ (wayD t).dx ∧ (wayD t).dx ≤ 300 ∧ -300 ≤ (wayD t).dy ∧ (wayD t).dy ≤ 300 := by
  have h1 := pickR_in t.mot.1 (n := 4) (by decide)
  have h2 := pickR_in t.mot.2.1 (n := 601) (by decide)
  have h3 := pickR_in t.mot.2.2 (n := 601) (by decide)
  unfold wayD
  simp only []
  omega
/-- the tolerance of a point, and its errors -/
def tolD (t : TruthD) (n which : Nat) : Int := if 2 * n + which < t.tols.length then pickR (t.tols.getD (2 * n + which) 0) 9 else 0
def errX (t : TruthD) (n which : Nat) : Int := if n < t.errs.length then pickR (if which = 0 then (t.errs.getD n (0, 0, 0, 0)).1 else (t.errs.getD n (0, 0, 0, 0)).2.2.1) (2 * tolD t n which + 1) - tolD t n which else 0
def errY (t : TruthD) (n which : Nat) : Int := if n < t.errs.length then pickR (if which = 0 then (t.errs.getD n (0, 0, 0, 0)).2.1 else (t.errs.getD n (0, 0, 0, 0)).2.2.2) (2 * tolD t n which + 1) - tolD t n which else 0
def measD (t : TruthD) (id : Int) (n which : Nat) (x y : Int) : DotD := ⟨id, x + errX t n which, y + errY t n which, tolD t n which⟩
theorem tol_in (t : TruthD) (n which : Nat) : 0 ≤ tolD t n which ∧ tolD t n which ≤ 8 := by
  unfold tolD; split
  · have := pickR_in (t.tols.getD (2 * n + which) 0) (n := 9) (by decide); omega
  · omega
theorem errX_in (t : TruthD) (n which : Nat) : -tolD t n which ≤ errX t n which ∧ errX t n which ≤ tolD t n which := by
  have h := tol_in t n which
  unfold errX; split
  · have := pickR_in (if which = 0 then (t.errs.getD n (0, 0, 0, 0)).1 else (t.errs.getD n (0, 0, 0, 0)).2.2.1) (n := 2 * tolD t n which + 1) (by omega); omega
  · omega
theorem errY_in (t : TruthD) (n which : Nat) : -tolD t n which ≤ errY t n which ∧ errY t n which ≤ tolD t n which := by
  have h := tol_in t n which
  unfold errY; split
  · have := pickR_in (if which = 0 then (t.errs.getD n (0, 0, 0, 0)).2.1 else (t.errs.getD n (0, 0, 0, 0)).2.2.2) (n := 2 * tolD t n which + 1) (by omega); omega
  · omega
def appX (m : MotD) (x y : Int) : Int := turnX m.turn.toNat x y + m.dx
def appY (m : MotD) (x y : Int) : Int := turnY m.turn.toNat x y + m.dy
theorem turn_bd (k : Nat) (x y B : Int) (hx : -B ≤ x ∧ x ≤ B) (hy : -B ≤ y ∧ y ≤ B) : (-B ≤ turnX k x y ∧ turnX k x y ≤ B) ∧ (-B ≤ turnY k x y ∧ turnY k x y ≤ B) := by
  unfold turnX turnY
  match k with
  | 0 => simp only []; omega
  | 1 => simp only []; omega
  | 2 => simp only []; omega
  | _ + 3 => simp only []; omega
/-- turning is additive, and does not make an error greater than the greater one of both -/
theorem turn_err (k : Nat) (x y ex ey B : Int) (hx : -B ≤ ex ∧ ex ≤ B) (hy : -B ≤ ey ∧ ey ≤ B) :
    (turnX k x y - B ≤ turnX k (x + ex) (y + ey) ∧ turnX k (x + ex) (y + ey) ≤ turnX k x y + B) ∧ (turnY k x y - B ≤ turnY k (x + ex) (y + ey) ∧ turnY k (x + ex) (y + ey) ≤ turnY k x y + B) := by
  unfold turnX turnY
  match k with
  | 0 => simp only []; omega
  | 1 => simp only []; omega
  | 2 => simp only []; omega
  | _ + 3 => simp only []; omega
/-- the true places -/
def markX (t : TruthD) (i : Nat) : Int := if i < t.marks.length then pickR (t.marks.getD i (0, 0)).1 401 - 200 else 0
def markY (t : TruthD) (i : Nat) : Int := if i < t.marks.length then pickR (t.marks.getD i (0, 0)).2 401 - 200 else 0
def findX (t : TruthD) (i : Nat) : Int := pickR (t.finds.getD i (0, 0, 0)).1 401 - 200
def findY (t : TruthD) (i : Nat) : Int := pickR (t.finds.getD i (0, 0, 0)).2.1 401 - 200
def findK (t : TruthD) (i : Nat) : Int := pickR (t.finds.getD i (0, 0, 0)).2.2 4
theorem mark_in (t : TruthD) (i : Nat) : (-200 ≤ markX t i ∧ markX t i ≤ 200) ∧ (-200 ≤ markY t i ∧ markY t i ≤ 200) := by
  unfold markX markY
  have h1 := pickR_in (t.marks.getD i (0, 0)).1 (n := 401) (by decide)
  have h2 := pickR_in (t.marks.getD i (0, 0)).2 (n := 401) (by decide)
  split <;> omega
theorem find_in (t : TruthD) (i : Nat) : (-200 ≤ findX t i ∧ findX t i ≤ 200) ∧ (-200 ≤ findY t i ∧ findY t i ≤ 200) := by
  unfold findX findY
  have h1 := pickR_in (t.finds.getD i (0, 0, 0)).1 (n := 401) (by decide)
  have h2 := pickR_in (t.finds.getD i (0, 0, 0)).2.1 (n := 401) (by decide)
  omega
def markA (t : TruthD) (i : Nat) : DotD := measD t (3 * i) i 0 (markX t i) (markY t i)
def markB (t : TruthD) (i : Nat) : DotD := measD t (3 * i) i 1 (appX (wayD t) (markX t i) (markY t i)) (appY (wayD t) (markX t i) (markY t i))
def findA (t : TruthD) (i : Nat) : DotD := measD t (20 + 2 * i) (4 + i) 0 (findX t i) (findY t i)
def findB (t : TruthD) (i : Nat) : DotD := measD t (60 + 3 * i) (4 + i) 1 (appX (wayD t) (findX t i) (findY t i)) (appY (wayD t) (findX t i) (findY t i))
def nMarks (t : TruthD) : Nat := max 1 (min t.marks.length 4)
def nFinds (t : TruthD) : Nat := min t.finds.length 6
def survA (t : TruthD) : List DotD := (List.range (nMarks t)).map (markA t) ++ ((List.range (nFinds t)).filter fun i => decide (findK t i ≠ 1)).map (findA t)
def survB (t : TruthD) : List DotD := (List.range (nMarks t)).map (markB t) ++ ((List.range (nFinds t)).filter fun i => decide (findK t i ≠ 2)).map (findB t)
/-- a point measured twice: the true motion fits it -/
theorem way_shift (t : TruthD) (ia ib : Int) (n : Nat) (x y : Int) : hasB (shiftD (wayD t).turn.toNat (measD t ia n 0 x y) (measD t ib n 1 (appX (wayD t) x y) (appY (wayD t) x y))) (wayD t).dx (wayD t).dy = true := by
  rw [has_iff]
  have a1 := errX_in t n 0
  have a2 := errY_in t n 0
  have b1 := errX_in t n 1
  have b2 := errY_in t n 1
  have h := turn_err (wayD t).turn.toNat x y (errX t n 0) (errY t n 0) (tolD t n 0) a1 a2
  unfold shiftD measD appX appY
  simp only []
  omega
theorem asc_of_pair {l : List DotD} (h : l.Pairwise fun p q => p.id < q.id) : ascB l = true := by
  induction l with
  | nil => rfl
  | cons p t ih =>
    cases t with
    | nil => rfl
    | cons q t =>
      have h1 := List.pairwise_cons.1 h
      rw [ascB, Bool.and_eq_true, decide_eq_true_eq]
      exact ⟨h1.1 q (by simp), ih h1.2⟩
theorem nMarks_in (t : TruthD) : 1 ≤ nMarks t ∧ nMarks t ≤ 4 := by unfold nMarks; omega
theorem nFinds_le (t : TruthD) : nFinds t ≤ 6 := by unfold nFinds; omega
theorem meas_ok (t : TruthD) (id : Int) (n which : Nat) (x y : Int) (h1 : 0 ≤ id ∧ id ≤ 99) (hx : -900 ≤ x ∧ x ≤ 900) (hy : -900 ≤ y ∧ y ≤ 900) : dotOk (measD t id n which x y) = true := by
  have a1 := errX_in t n which
  have a2 := errY_in t n which
  have a3 := tol_in t n which
  unfold dotOk measD
  simp only [decide_eq_true_eq]
  omega
theorem app_in (t : TruthD) (x y : Int) (hx : -200 ≤ x ∧ x ≤ 200) (hy : -200 ≤ y ∧ y ≤ 200) : (-500 ≤ appX (wayD t) x y ∧ appX (wayD t) x y ≤ 500) ∧ (-500 ≤ appY (wayD t) x y ∧ appY (wayD t) x y ≤ 500) := by
  have h := turn_bd (wayD t).turn.toNat x y 200 hx hy
  have w := way_in t
  unfold appX appY
  omega
theorem pair_ids {f g : Nat → DotD} {n m : Nat} {p : Nat → Bool} {a c b d : Nat} (hf : ∀ i, (f i).id = a * i + c) (hg : ∀ i, (g i).id = b * i + d) (ha : 0 < a) (hb : 0 < b) (h : a * n + c ≤ d) :
    ((List.range n).map f ++ ((List.range m).filter p).map g).Pairwise fun p q => p.id < q.id := by
  have mono : ∀ {a c i j : Nat}, 0 < a → i < j → ((a : Int) * i + c) < a * j + c := fun {a c i j} ha hij => by
    have : (a : Int) * i < a * j := Int.mul_lt_mul_of_pos_left (by omega) (by omega)
    omega
  rw [List.pairwise_append]
  refine ⟨?_, ?_, ?_⟩
  · rw [List.pairwise_map]
    exact List.pairwise_lt_range.imp (fun hij => by rw [hf, hf]; exact mono ha hij)
  · rw [List.pairwise_map]
    exact (List.Pairwise.filter _ List.pairwise_lt_range).imp (fun hij => by rw [hg, hg]; exact mono hb hij)
  · intro x hx y hy
    obtain ⟨i, hi, rfl⟩ := List.mem_map.1 hx
    obtain ⟨j, -, rfl⟩ := List.mem_map.1 hy
    have hi := List.mem_range.1 hi
    rw [hf, hg]
    have h1 : (a : Int) * i < a * n := Int.mul_lt_mul_of_pos_left (by omega) (by omega)
    have h2 : (0 : Int) ≤ b * j := Int.mul_nonneg (by omega) (by omega)
    have h3 : ((a * n + c : Nat) : Int) ≤ d := by omega
    rw [Int.natCast_add, Int.natCast_mul] at h3
    omega
theorem surv_valid (t : TruthD) : validD (survA t) = true ∧ validD (survB t) = true := by
  have hn := nMarks_in t
  have hf := nFinds_le t
  have key : ∀ (f g : Nat → DotD) (p : Nat → Bool), (∀ i, i < 4 → dotOk (f i) = true) → (∀ i, i < 6 → dotOk (g i) = true) → ((List.range (nMarks t)).map f ++ ((List.range (nFinds t)).filter p).map g).Pairwise (fun p q => p.id < q.id) → validD ((List.range (nMarks t)).map f ++ ((List.range (nFinds t)).filter p).map g) = true := by
    intro f g p h1 h2 h3
    unfold validD
    rw [asc_of_pair h3, Bool.true_and, Bool.and_eq_true, List.all_eq_true, decide_eq_true_eq]
    refine ⟨fun x hx => ?_, ?_⟩
    · rcases List.mem_append.1 hx with hx | hx
      · obtain ⟨i, hi, rfl⟩ := List.mem_map.1 hx
        exact h1 i (by have := List.mem_range.1 hi; omega)
      · obtain ⟨i, hi, rfl⟩ := List.mem_map.1 hx
        exact h2 i (by have := List.mem_range.1 (List.mem_filter.1 hi).1; omega)
    · have := List.length_filter_le p (List.range (nFinds t))
      simp only [List.length_append, List.length_map, List.length_range] at *
      omega
  constructor
  · refine key _ _ _ (fun i hi => ?_) (fun i hi => ?_) (pair_ids (a := 3) (c := 0) (b := 2) (d := 20) (fun i => by simp [markA, measD]) (fun i => by simp [findA, measD]; omega) (by decide) (by decide) (by omega))
    · have := mark_in t i; exact meas_ok t _ _ _ _ _ (by omega) (by omega) (by omega)
    · have := find_in t i; exact meas_ok t _ _ _ _ _ (by omega) (by omega) (by omega)
  · refine key _ _ _ (fun i hi => ?_) (fun i hi => ?_) (pair_ids (a := 3) (c := 0) (b := 3) (d := 60) (fun i => by simp [markB, measD]) (fun i => by simp [findB, measD]; omega) (by decide) (by decide) (by omega))
    · have h := mark_in t i
      have := app_in t _ _ h.1 h.2; exact meas_ok t _ _ _ _ _ (by omega) (by omega) (by omega)
    · have h := find_in t i
      have := app_in t _ _ h.1 h.2; exact meas_ok t _ _ _ _ _ (by omega) (by omega) (by omega)
end Go.Proofs.YtoofkahklboojaaDoor
