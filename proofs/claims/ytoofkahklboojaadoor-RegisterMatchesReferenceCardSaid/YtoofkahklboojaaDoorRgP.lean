/- Register, in plain words: no program in sight. No condition. -/
namespace Go.Proofs.YtoofkahklboojaaDoor

structure DotD where
  id : Int
  x : Int
  y : Int
  tol : Int
structure MotD where
  turn : Int
  dx : Int
  dy : Int
structure BoxD where
  xl : Int
  xh : Int
  yl : Int
  yh : Int
def dotOk (p : DotD) : Bool := decide (0 ≤ p.id ∧ p.id ≤ 99 ∧ -1000 ≤ p.x ∧ p.x ≤ 1000 ∧ -1000 ≤ p.y ∧ p.y ≤ 1000 ∧ 0 ≤ p.tol ∧ p.tol ≤ 50)
/-- ascending numbers -/
def ascB : List DotD → Bool
  | [] => true
  | [_] => true
  | p :: q :: t => decide (p.id < q.id) && ascB (q :: t)
def validD (l : List DotD) : Bool := ascB l && l.all dotOk && decide (l.length ≤ 12)
def turnX (k : Nat) (x y : Int) : Int := match k with
  | 0 => x
  | 1 => -y
  | 2 => -x
  | _ => y
def turnY (k : Nat) (x y : Int) : Int := match k with
  | 0 => y
  | 1 => x
  | 2 => -y
  | _ => -x
def shiftD (k : Nat) (p q : DotD) : BoxD :=
  ⟨q.x - turnX k p.x p.y - (p.tol + q.tol), q.x - turnX k p.x p.y + (p.tol + q.tol), q.y - turnY k p.x p.y - (p.tol + q.tol), q.y - turnY k p.x p.y + (p.tol + q.tol)⟩
def meetD (a b : BoxD) : BoxD := ⟨max a.xl b.xl, min a.xh b.xh, max a.yl b.yl, min a.yh b.yh⟩
def hasB (b : BoxD) (x y : Int) : Bool := decide (b.xl ≤ x) && decide (x ≤ b.xh) && (decide (b.yl ≤ y) && decide (y ≤ b.yh))
def emptyB (b : BoxD) : Bool := decide (b.xh < b.xl) || decide (b.yh < b.yl)
def everyD : BoxD := ⟨-5000, 5000, -5000, 5000⟩
theorem has_iff (b : BoxD) (x y : Int) : hasB b x y = true ↔ b.xl ≤ x ∧ x ≤ b.xh ∧ b.yl ≤ y ∧ y ≤ b.yh := by
  unfold hasB; simp [and_assoc]
theorem has_meet (a b : BoxD) (x y : Int) : hasB (meetD a b) x y = (hasB a x y && hasB b x y) := by
  rw [Bool.eq_iff_iff, Bool.and_eq_true, has_iff, has_iff, has_iff]
  unfold meetD
  simp only []
  omega
theorem empty_iff (b : BoxD) : emptyB b = true ↔ ∀ x y, hasB b x y = false := by
  unfold emptyB
  constructor
  · intro h x y
    rw [← Bool.not_eq_true, has_iff]
    simp at h; omega
  · intro h
    refine Decidable.byContradiction fun hn => ?_
    simp at hn
    have := h b.xl b.yl
    rw [← Bool.not_eq_true, has_iff] at this
    omega
theorem has_of_not_empty {b : BoxD} (h : emptyB b = false) : hasB b b.xl b.yl = true := by
  unfold emptyB at h; simp at h
  rw [has_iff]; omega
/-- the common marks -/
def marksRaw (a b : List DotD) : List (DotD × DotD) := a.flatMap fun p => (b.filter fun q => decide (p.id = q.id) && decide (p.id ≤ 19)).map fun q => (p, q)
def marksD (a b : List DotD) : List (DotD × DotD) := if validD a && validD b then marksRaw a b else []
theorem marksRaw_mem {a b : List DotD} {r : DotD × DotD} : r ∈ marksRaw a b ↔ r.1 ∈ a ∧ r.2 ∈ b ∧ r.1.id = r.2.id ∧ r.1.id ≤ 19 := by
  obtain ⟨p, q⟩ := r
  unfold marksRaw
  simp only [List.mem_flatMap, List.mem_map, List.mem_filter, Bool.and_eq_true, decide_eq_true_eq, Prod.mk.injEq]
  constructor
  · rintro ⟨p', hp, q', ⟨hq, h1, h2⟩, rfl, rfl⟩; exact ⟨hp, hq, h1, h2⟩
  · rintro ⟨hp, hq, h1, h2⟩; exact ⟨p, hp, q, ⟨hq, h1, h2⟩, rfl, rfl⟩
def fitD (l : List (DotD × DotD)) (k : Nat) : BoxD := l.foldl (fun b r => meetD b (shiftD k r.1 r.2)) everyD
theorem has_fold (k : Nat) (x y : Int) : ∀ (l : List (DotD × DotD)) (b : BoxD), hasB (l.foldl (fun b r => meetD b (shiftD k r.1 r.2)) b) x y = (hasB b x y && l.all fun r => hasB (shiftD k r.1 r.2) x y)
  | [], b => by simp
  | r :: t, b => by
    rw [List.foldl_cons, has_fold k x y t, has_meet, List.all_cons, Bool.and_assoc]
theorem has_fit (l : List (DotD × DotD)) (k : Nat) (x y : Int) : hasB (fitD l k) x y = (hasB everyD x y && l.all fun r => hasB (shiftD k r.1 r.2) x y) := has_fold k x y l everyD
def motOk (m : MotD) : Bool := decide (0 ≤ m.turn ∧ m.turn ≤ 3) && hasB everyD m.dx m.dy
/-- a motion fits -/
def fittingD (a b : List DotD) (m : MotD) : Bool := !(marksD a b).isEmpty && motOk m && hasB (fitD (marksD a b) m.turn.toNat) m.dx m.dy
theorem fitting_iff (a b : List DotD) (m : MotD) : fittingD a b m = true ↔ marksD a b ≠ [] ∧ motOk m = true ∧ ∀ r ∈ marksD a b, hasB (shiftD m.turn.toNat r.1 r.2) m.dx m.dy = true := by
  unfold fittingD
  rw [has_fit]
  simp only [Bool.and_eq_true, Bool.not_eq_true', List.isEmpty_eq_false_iff, List.all_eq_true, motOk]
  constructor
  · rintro ⟨⟨h1, h2⟩, h3, h4⟩; exact ⟨h1, h2, fun r hr => h4 r hr⟩
  · rintro ⟨h1, h2, h3⟩; exact ⟨⟨h1, h2⟩, h2.2, fun r hr => h3 r hr⟩
/-- the greatest element that is not greater than x -/
theorem greatest {l : List Int} {x : Int} : (∃ c ∈ l, c ≤ x) → ∃ c ∈ l, c ≤ x ∧ ∀ d ∈ l, d ≤ x → d ≤ c := by
  induction l with
  | nil => rintro ⟨c, hc, -⟩; cases hc
  | cons a t ih =>
    intro h
    by_cases ht : ∃ c ∈ t, c ≤ x
    · obtain ⟨c, hc, hx, hm⟩ := ih ht
      by_cases ha : a ≤ x ∧ c < a
      · refine ⟨a, by simp, ha.1, fun d hd hdx => ?_⟩
        rcases List.mem_cons.1 hd with rfl | hd
        · exact Int.le_refl _
        · have := hm d hd hdx; omega
      · refine ⟨c, by simp [hc], hx, fun d hd hdx => ?_⟩
        rcases List.mem_cons.1 hd with rfl | hd
        · omega
        · exact hm d hd hdx
    · obtain ⟨c, hc, hx⟩ := h
      rcases List.mem_cons.1 hc with rfl | hc
      · refine ⟨c, by simp, hx, fun d hd hdx => ?_⟩
        rcases List.mem_cons.1 hd with rfl | hd
        · exact Int.le_refl _
        · exact absurd ⟨d, hd, hdx⟩ ht
      · exact absurd ⟨c, hc, hx⟩ ht
/-- where something can change between two bounds -/
def edgesD (lo hi : Int) (l : List (Int × Int)) : List Int := lo :: (l.flatMap fun s => [s.1, s.2 + 1]).filter fun n => decide (lo ≤ n ∧ n ≤ hi)
theorem edges_in {lo hi : Int} {l : List (Int × Int)} (h : lo ≤ hi) : ∀ n ∈ edgesD lo hi l, lo ≤ n ∧ n ≤ hi := by
  intro n hn
  rcases List.mem_cons.1 hn with rfl | hn
  · omega
  · simpa using (List.mem_filter.1 hn).2
/-- whatever is so at x is so at one of the edges -/
theorem edge_of {lo hi : Int} {l : List (Int × Int)} {x : Int} (h1 : lo ≤ x) (h2 : x ≤ hi) : ∃ c ∈ edgesD lo hi l, c ≤ x ∧ ∀ s ∈ l, (s.1 ≤ x ∧ x ≤ s.2) ↔ (s.1 ≤ c ∧ c ≤ s.2) := by
  obtain ⟨c, hc, hx, hm⟩ := greatest (l := edgesD lo hi l) (x := x) ⟨lo, by simp [edgesD], h1⟩
  have hlo : lo ≤ c := hm lo (by simp [edgesD]) h1
  refine ⟨c, hc, hx, fun s hs => ⟨fun h => ?_, fun h => ?_⟩⟩
  · refine ⟨?_, by omega⟩
    by_cases hl : lo ≤ s.1
    · exact hm s.1 (List.mem_cons_of_mem _ (List.mem_filter.2 ⟨List.mem_flatMap.2 ⟨s, hs, by simp⟩, by simp; omega⟩)) h.1
    · omega
  · refine ⟨by omega, ?_⟩
    refine Decidable.byContradiction fun hn => ?_
    have := hm (s.2 + 1) (List.mem_cons_of_mem _ (List.mem_filter.2 ⟨List.mem_flatMap.2 ⟨s, hs, by simp⟩, by simp; omega⟩)) (by omega)
    omega
/-- the boxes of the finds -/
def boxesD (finds : List DotD) (q : DotD) (k : Nat) : List BoxD := finds.map fun p => shiftD k p q
def anyB (bs : List BoxD) (x y : Int) : Bool := bs.any fun b => hasB b x y
def xsD (b : BoxD) (bs : List BoxD) : List Int := edgesD b.xl b.xh (bs.map fun b => (b.xl, b.xh))
def ysD (b : BoxD) (bs : List BoxD) : List Int := edgesD b.yl b.yh (bs.map fun b => (b.yl, b.yh))
/-- if a shift of a box is in one of others, or in none, so is one of the edges -/
theorem edge_box {f : BoxD} {bs : List BoxD} {x y : Int} (h : hasB f x y = true) : ∃ u ∈ xsD f bs, ∃ v ∈ ysD f bs, hasB f u v = true ∧ ∀ b ∈ bs, hasB b u v = hasB b x y := by
  rw [has_iff] at h
  obtain ⟨u, hu, hux, hue⟩ := edge_of (l := bs.map fun b => (b.xl, b.xh)) h.1 h.2.1
  obtain ⟨v, hv, hvy, hve⟩ := edge_of (l := bs.map fun b => (b.yl, b.yh)) h.2.2.1 h.2.2.2
  have h1 := edges_in (l := bs.map fun b => (b.xl, b.xh)) (show f.xl ≤ f.xh by omega) u hu
  have h2 := edges_in (l := bs.map fun b => (b.yl, b.yh)) (show f.yl ≤ f.yh by omega) v hv
  refine ⟨u, hu, v, hv, by rw [has_iff]; omega, fun b hb => ?_⟩
  have e1 := hue (b.xl, b.xh) (List.mem_map.2 ⟨b, hb, rfl⟩)
  have e2 := hve (b.yl, b.yh) (List.mem_map.2 ⟨b, hb, rfl⟩)
  simp only [] at e1 e2
  rw [Bool.eq_iff_iff, has_iff, has_iff]
  constructor
  · rintro ⟨g1, g2, g3, g4⟩
    have := e1.2 ⟨g1, g2⟩; have := e2.2 ⟨g3, g4⟩; omega
  · rintro ⟨g1, g2, g3, g4⟩
    have := e1.1 ⟨g1, g2⟩; have := e2.1 ⟨g3, g4⟩; omega
/-- the first of the edges at which something is so; turn by turn -/
def searchAt (bs : List BoxD) (can : Bool) (xs ys : List Int) (k : Nat) : Option MotD :=
  (xs.flatMap fun x => ys.map fun y => (x, y)).findSome? fun p => if anyB bs p.1 p.2 == can then some ⟨k, p.1, p.2⟩ else none
end Go.Proofs.YtoofkahklboojaaDoor
