/- Register, in plain words: the motion that is found is the first one of all. No program in sight. No condition. -/
import Derived.Test.YtoofkahklboojaaDoorRgQ
namespace Go.Proofs.YtoofkahklboojaaDoor

def lexLe (a b : Int × Int) : Prop := a.1 < b.1 ∨ (a.1 = b.1 ∧ a.2 ≤ b.2)
theorem lex_anti {a b : Int × Int} (h : lexLe a b) (k : lexLe b a) : a = b := by
  obtain ⟨x, y⟩ := a
  obtain ⟨u, v⟩ := b
  unfold lexLe at h k
  simp only [] at h k
  have h1 : x = u := by omega
  have h2 : y = v := by omega
  rw [h1, h2]
theorem pairs_lex {xs ys : List Int} (hx : xs.Pairwise (· < ·)) (hy : ys.Pairwise (· < ·)) : (xs.flatMap fun x => ys.map fun y => (x, y)).Pairwise lexLe := by
  induction xs with
  | nil => exact List.Pairwise.nil
  | cons x t ih =>
    have h1 := List.pairwise_cons.1 hx
    rw [List.flatMap_cons, List.pairwise_append]
    refine ⟨?_, ih h1.2, ?_⟩
    · rw [List.pairwise_map]
      exact hy.imp fun h => .inr ⟨rfl, Int.le_of_lt h⟩
    · intro a ha b hb
      obtain ⟨y, -, rfl⟩ := List.mem_map.1 ha
      obtain ⟨u, hu, hb⟩ := List.mem_flatMap.1 hb
      obtain ⟨v, -, rfl⟩ := List.mem_map.1 hb
      exact .inl (h1.1 u hu)
/-- the first one that is found comes before all others -/
theorem searchAt_first {bs : List BoxD} {can : Bool} {xs ys : List Int} (hx : xs.Pairwise (· < ·)) (hy : ys.Pairwise (· < ·)) {k : Nat} {m : MotD} (h : searchAt bs can xs ys k = some m) :
    ∀ x ∈ xs, ∀ y ∈ ys, anyB bs x y = can → lexLe (m.dx, m.dy) (x, y) := by
  intro x hxm y hym hc
  unfold searchAt at h
  have hp := pairs_lex hx hy
  have hmem : (x, y) ∈ xs.flatMap fun x => ys.map fun y => (x, y) := List.mem_flatMap.2 ⟨x, hxm, List.mem_map.2 ⟨y, hym, rfl⟩⟩
  obtain ⟨l1, a, l2, e, ha, hn⟩ := List.findSome?_eq_some_iff.1 h
  rw [e] at hp hmem
  have ea : a = (m.dx, m.dy) := by
    split at ha
    · cases ha; rfl
    · cases ha
  rw [← ea]
  rcases List.mem_append.1 hmem with hm | hm
  · have := hn _ hm
    rw [if_pos (by simpa using hc)] at this
    cases this
  · rcases List.mem_cons.1 hm with hm | hm
    · rw [← hm]; exact .inr ⟨rfl, Int.le_refl _⟩
    · have h2 := (List.pairwise_append.1 hp).2.1
      exact (List.pairwise_cons.1 h2).1 _ hm
/-- as edge_box; and the edges do not lie behind -/
theorem edge_box' {f : BoxD} {bs : List BoxD} {x y : Int} (h : hasB f x y = true) : ∃ u ∈ xsD f bs, ∃ v ∈ ysD f bs, u ≤ x ∧ v ≤ y ∧ hasB f u v = true ∧ ∀ b ∈ bs, hasB b u v = hasB b x y := by
  rw [has_iff] at h
  obtain ⟨u, hu, hux, hue⟩ := edge_of (l := bs.map fun b => (b.xl, b.xh)) h.1 h.2.1
  obtain ⟨v, hv, hvy, hve⟩ := edge_of (l := bs.map fun b => (b.yl, b.yh)) h.2.2.1 h.2.2.2
  have h1 := edges_in (l := bs.map fun b => (b.xl, b.xh)) (show f.xl ≤ f.xh by omega) u hu
  have h2 := edges_in (l := bs.map fun b => (b.yl, b.yh)) (show f.yl ≤ f.yh by omega) v hv
  refine ⟨u, hu, v, hv, hux, hvy, by rw [has_iff]; omega, fun b hb => ?_⟩
  have e1 := hue (b.xl, b.xh) (List.mem_map.2 ⟨b, hb, rfl⟩)
  have e2 := hve (b.yl, b.yh) (List.mem_map.2 ⟨b, hb, rfl⟩)
  simp only [] at e1 e2
  rw [Bool.eq_iff_iff, has_iff, has_iff]
  constructor
  · rintro ⟨g1, g2, g3, g4⟩
    have := e1.2 ⟨g1, g2⟩; have := e2.2 ⟨g3, g4⟩; omega
  · rintro ⟨g1, g2, g3, g4⟩
    have := e1.1 ⟨g1, g2⟩; have := e2.1 ⟨g3, g4⟩; omega
theorem any_same {bs : List BoxD} {x y u v : Int} (h : ∀ b ∈ bs, hasB b u v = hasB b x y) : anyB bs u v = anyB bs x y := by
  unfold anyB
  rw [Bool.eq_iff_iff, List.any_eq_true, List.any_eq_true]
  constructor
  · rintro ⟨b, hb, h1⟩; exact ⟨b, hb, by rw [← h b hb]; exact h1⟩
  · rintro ⟨b, hb, h1⟩; exact ⟨b, hb, by rw [h b hb]; exact h1⟩
/-- the motion that the program finds with so many turns is the first one of ALL shifts of the box with what is asked -/
theorem search_least {os : List Int → List Int} (ho : ∀ l x, x ∈ os l ↔ x ∈ l) (hs : ∀ l, (os l).Pairwise (· < ·)) {l : List (DotD × DotD)} {finds : List DotD} {q : DotD} {can : Bool} {k : Nat} {m : MotD} (h : searchK os l finds q can k = some m) :
    ∀ x y, hasB (fitD l k) x y = true → anyB (boxesD finds q k) x y = can → lexLe (m.dx, m.dy) (x, y) := by
  intro x y hxy hc
  unfold searchK at h
  split at h
  · cases h
  · obtain ⟨u, hu, v, hv, hux, hvy, -, hb⟩ := edge_box' (bs := boxesD finds q k) hxy
    have h1 := searchAt_first (hs _) (hs _) h u ((ho _ _).2 hu) v ((ho _ _).2 hv) (by rw [any_same hb]; exact hc)
    unfold lexLe at h1 ⊢
    simp only [] at h1 ⊢
    omega
end Go.Proofs.YtoofkahklboojaaDoor
