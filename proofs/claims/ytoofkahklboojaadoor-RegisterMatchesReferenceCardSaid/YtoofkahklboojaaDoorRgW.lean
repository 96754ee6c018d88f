/- Register, in plain words: marks that contradict each other. No program in sight. No condition. -/
import Derived.Test.YtoofkahklboojaaDoorRgU
namespace Go.Proofs.YtoofkahklboojaaDoor

/-- two boxes have nothing in common -/
def apartB (a b : BoxD) : Bool := emptyB (meetD a b)
/-- the box of many is empty only if two of them have nothing in common, or one of them is empty itself: in one dimension -/
theorem max_low {α : Type} (f : α → Int) : ∀ (l : List α), l ≠ [] → ∃ r ∈ l, ∀ s ∈ l, f s ≤ f r
  | [], h => absurd rfl h
  | [r], _ => ⟨r, by simp, fun s hs => by simp at hs; rw [hs]; exact Int.le_refl _⟩
  | r :: q :: t, _ => by
    obtain ⟨u, hu, hm⟩ := max_low f (q :: t) (by simp)
    by_cases h : f u ≤ f r
    · refine ⟨r, by simp, fun s hs => ?_⟩
      rcases List.mem_cons.1 hs with rfl | hs
      · exact Int.le_refl _
      · have := hm s hs; omega
    · refine ⟨u, List.mem_cons_of_mem _ hu, fun s hs => ?_⟩
      rcases List.mem_cons.1 hs with rfl | hs
      · omega
      · exact hm s hs
theorem helly {l : List BoxD} (hne : l ≠ []) (h2 : ∀ x y, ∃ b ∈ l, hasB b x y = false) : ∃ a ∈ l, ∃ b ∈ l, apartB a b = true := by
  obtain ⟨a, ha, hma⟩ := max_low (fun b : BoxD => b.xl) l hne
  obtain ⟨b, hb, hmb⟩ := max_low (fun b : BoxD => -b.xh) l hne
  obtain ⟨c, hc, hmc⟩ := max_low (fun b : BoxD => b.yl) l hne
  obtain ⟨d, hd, hmd⟩ := max_low (fun b : BoxD => -b.yh) l hne
  by_cases hx : b.xh < a.xl
  · exact ⟨a, ha, b, hb, by unfold apartB emptyB meetD; simp; omega⟩
  · by_cases hy : d.yh < c.yl
    · exact ⟨c, hc, d, hd, by unfold apartB emptyB meetD; simp; omega⟩
    · obtain ⟨r, hr, hf⟩ := h2 a.xl c.yl
      exfalso
      rw [← Bool.not_eq_true, has_iff] at hf
      have g1 : r.xl ≤ a.xl := hma r hr
      have g2 : -r.xh ≤ -b.xh := hmb r hr
      have g3 : r.yl ≤ c.yl := hmc r hr
      have g4 : -r.yh ≤ -d.yh := hmd r hr
      omega
/-- a box of two valid points is not empty, and lies within the bounds of all shifts -/
theorem shift_in {p q : DotD} (hp : dotOk p = true) (hq : dotOk q = true) (k : Nat) : emptyB (shiftD k p q) = false ∧ ∀ x y, hasB (shiftD k p q) x y = true → hasB everyD x y = true := by
  unfold dotOk at hp hq
  rw [decide_eq_true_eq] at hp hq
  have ht : (-1000 ≤ turnX k p.x p.y ∧ turnX k p.x p.y ≤ 1000) ∧ (-1000 ≤ turnY k p.x p.y ∧ turnY k p.x p.y ≤ 1000) := turn_bd k p.x p.y 1000 (by omega) (by omega)
  constructor
  · unfold emptyB shiftD; simp; omega
  · intro x y h
    rw [has_iff] at h ⊢
    unfold shiftD at h
    unfold everyD
    simp only [] at h ⊢
    omega
theorem valid_ok {l : List DotD} (h : validD l = true) : ∀ p ∈ l, dotOk p = true := by
  unfold validD at h
  rw [Bool.and_eq_true, Bool.and_eq_true] at h
  exact List.all_eq_true.1 h.1.2
theorem marks_ok {a b : List DotD} {r : DotD × DotD} (h : r ∈ marksD a b) : dotOk r.1 = true ∧ dotOk r.2 = true ∧ r.1 ∈ a ∧ r.2 ∈ b ∧ r.1.id = r.2.id ∧ r.1.id ≤ 19 := by
  unfold marksD at h
  split at h
  · rename_i hv
    rw [Bool.and_eq_true] at hv
    obtain ⟨h1, h2, h3, h4⟩ := marksRaw_mem.1 h
    exact ⟨valid_ok hv.1 _ h1, valid_ok hv.2 _ h2, h1, h2, h3, h4⟩
  · cases h
/-- if nothing fits with so many turns, two marks contradict each other -/
theorem blame_pair {a b : List DotD} (hne : marksD a b ≠ []) {k : Nat} (h : emptyB (fitD (marksD a b) k) = true) : ∃ r ∈ marksD a b, ∃ s ∈ marksD a b, apartB (shiftD k r.1 r.2) (shiftD k s.1 s.2) = true := by
  rw [empty_iff] at h
  have hne' : (marksD a b).map (fun r => shiftD k r.1 r.2) ≠ [] := by simpa using hne
  obtain ⟨c, hc, d, hd, he⟩ := helly hne' (fun x y => by
    refine Classical.byContradiction fun hn => ?_
    have hall : ∀ r ∈ marksD a b, hasB (shiftD k r.1 r.2) x y = true := fun r hr => by
      cases hb : hasB (shiftD k r.1 r.2) x y with
      | true => rfl
      | false => exact absurd ⟨_, List.mem_map.2 ⟨r, hr, rfl⟩, hb⟩ hn
    have h0 := h x y
    rw [has_fit] at h0
    have hev : hasB everyD x y = true := by
      cases hq : marksD a b with
      | nil => exact absurd hq hne
      | cons r t =>
        have hr : r ∈ marksD a b := by rw [hq]; simp
        obtain ⟨h1, h2, -⟩ := marks_ok hr
        exact (shift_in h1 h2 k).2 x y (hall r hr)
    rw [hev, Bool.true_and, ← Bool.not_eq_true, List.all_eq_true] at h0
    exact h0 (fun r hr => hall r hr))
  obtain ⟨r, hr, rfl⟩ := List.mem_map.1 hc
  obtain ⟨s, hs, rfl⟩ := List.mem_map.1 hd
  exact ⟨r, hr, s, hs, he⟩
theorem apart_comm (a b : BoxD) : apartB a b = apartB b a := by
  unfold apartB emptyB meetD
  simp only []
  rw [Int.max_comm a.xl, Int.min_comm a.xh, Int.max_comm a.yl, Int.min_comm a.yh]
theorem apart_self {b : BoxD} (h : emptyB b = false) : apartB b b = false := by
  unfold apartB emptyB meetD at *
  simp at *
  omega
/-- the first pair that contradicts each other, as the program looks for it -/
def blameD (l : List (DotD × DotD)) (k : Nat) : Option (Int × Int) := match l with
  | [] => none
  | r :: t => match t.find? (fun s => apartB (shiftD k r.1 r.2) (shiftD k s.1 s.2)) with
    | some s => some (r.1.id, s.1.id)
    | none => blameD t k
theorem blame_some {k : Nat} : ∀ {l : List (DotD × DotD)} {u v : Int}, blameD l k = some (u, v) → ∃ r s, [r, s].Sublist l ∧ u = r.1.id ∧ v = s.1.id ∧ apartB (shiftD k r.1 r.2) (shiftD k s.1 s.2) = true
  | [], _, _, h => by cases h
  | r :: t, u, v, h => by
    rw [blameD] at h
    split at h
    · rename_i s hs
      cases h
      have hm := List.mem_of_find?_eq_some hs
      exact ⟨r, s, List.Sublist.cons_cons _ (List.singleton_sublist.2 hm), rfl, rfl, by simpa using List.find?_some hs⟩
    · obtain ⟨r', s', h1, h2⟩ := blame_some h
      exact ⟨r', s', h1.cons _, h2⟩
theorem blame_none {k : Nat} : ∀ {l : List (DotD × DotD)}, (∀ r ∈ l, emptyB (shiftD k r.1 r.2) = false) → blameD l k = none → ∀ r ∈ l, ∀ s ∈ l, apartB (shiftD k r.1 r.2) (shiftD k s.1 s.2) = false
  | [], _, _ => fun r hr => by cases hr
  | q :: t, he, h => by
    rw [blameD] at h
    split at h
    · cases h
    · rename_i hn
      rw [List.find?_eq_none] at hn
      have ih := blame_none (fun r hr => he r (List.mem_cons_of_mem _ hr)) h
      have hq : ∀ s ∈ t, apartB (shiftD k q.1 q.2) (shiftD k s.1 s.2) = false := fun s hs => by simpa using hn s hs
      intro r hr s hs
      rcases List.mem_cons.1 hr with er | hr'
      · rcases List.mem_cons.1 hs with es | hs'
        · rw [er, es]; exact apart_self (he _ (by simp))
        · rw [er]; exact hq s hs'
      · rcases List.mem_cons.1 hs with es | hs'
        · rw [es, apart_comm]; exact hq r hr'
        · exact ih r hr' s hs'
end Go.Proofs.YtoofkahklboojaaDoor
