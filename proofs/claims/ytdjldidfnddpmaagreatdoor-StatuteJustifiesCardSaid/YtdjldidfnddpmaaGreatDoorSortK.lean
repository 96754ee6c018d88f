/- slices.Sort and slices.Compact at []int, over a slice of one's own. Conditions: how the argument lies in memory; its length. (Not beside Sorted, PlM: the same names.) -/
import Derived.Test.YtdjldidfnddpmaaGreatDoorShelf
import Derived.Sort.OwnSortedInts
import Derived.Test.YtdjldidfnddpmaaGreatDoorEffK
namespace Go.Proofs.YtdjldidfnddpmaaGreatDoor
open Go.RowKit Go.Shelf Go.Sort

theorem OwnI.heap {w : World} {B : Nat} {v : Value} {l : List Int} (h : OwnI w B v l) {g : Nat} (hg : v.ownBlock = some g) : B ≤ g ∧ ∃ cur, w.heap[g]? = some (.cells cur 3 (0, 0)) := by
  rcases h.2 with ⟨rfl, -⟩ | ⟨g', cap, cur, rfl, e2, e3, -⟩
  · cases hg
  · have hg : some g' = some g := hg
    cases hg
    exact ⟨e2, cur, e3⟩
def sortF (l : List Int) : List Int := l.mergeSort fun x y => decide (x ≤ y)
theorem sortF_len (l : List Int) : (sortF l).length = l.length := by simp [sortF]
theorem own_put {w : World} {B g c n : Nat} {l ts us : List Int} {os : Array Obj} (h : OwnI w B (.slice (some ⟨g, 0, none⟩) l.length c) l) (hl : (ts ++ us).length = l.length) :
    OwnI (grow (putRow (Value.int .i64) (Sort.ahead w n) g 0 (ts ++ us).toArray) os) B (.slice (some ⟨g, 0, none⟩) ts.length c) ts ∧ Eff (· = g) w (grow (putRow (Value.int .i64) (Sort.ahead w n) g 0 (ts ++ us).toArray) os) := by
  refine ⟨?_, Eff.of_grown (grownBy_sortedI _)⟩
  obtain ⟨h1, h2⟩ := h
  rcases h2 with ⟨e, -⟩ | ⟨g', cap, cur, e1, e2, e3, e4, e5, e6, e7⟩
  · cases e
  · cases e1
    refine ⟨by simp, .inr ⟨g, c, _, rfl, e2, heap_sortedI _ e3, by simp at hl; omega, e5, by simp [putCells, e6], ?_⟩⟩
    have h8 := take_putCellsI cur (ts ++ us) (by rw [hl]; omega)
    have h9 := congrArg (List.take ts.length) h8
    rw [List.take_take, Nat.min_eq_left (by simp)] at h9
    rw [Nat.mul_one, h9]; simp
theorem own_holds {w : World} {B g c : Nat} {l : List Int} (h : OwnI w B (.slice (some ⟨g, 0, none⟩) l.length c) l) : Holds (Value.int .i64) w g 0 l.toArray ∧ g < w.heap.size ∧ B ≤ g ∧ l.length ≤ c := by
  obtain ⟨h1, h2⟩ := h
  rcases h2 with ⟨e, -⟩ | ⟨g', cap, cur, e1, e2, e3, e4, e5, e6, e7⟩
  · cases e
  · cases e1
    exact ⟨holds_of_blockI e3 (by rw [Nat.mul_one] at e7; exact e7), (Array.getElem?_eq_some_iff.1 e3).1, e2, e4⟩
def OwnTo (B : Nat) (l : List Int) (w : World) (e : Ending) (w' : World) : Prop := ∃ v, e = .returned v ∧ OwnI w' B v l ∧ Below B w w'
theorem compact_len_le (l : List Int) : (Lib.compact l).length ≤ l.length := by
  unfold Lib.compact Lib.compactUpTo
  rw [List.length_map]
  exact Nat.le_trans (List.length_filter_le _ _) (by simp)
theorem compact_any (ls : List Int) (v : Value) (B : Nat) (w : World) (hv : OwnI w B v ls) (hB : B ≤ w.heap.size) (hl : ls.length < 1000000) : Calls Tryz.prog 51 #[v] w (OwnTo B (Lib.compact ls) w) := by
  by_cases h0 : ls = []
  · subst h0
    obtain ⟨p, c, rfl⟩ := hv.form
    refine (Go.Proofs.Tryz.slices_Compact_int_empty p c w).mono ?_
    rintro e w2 ⟨rfl, hw2⟩
    obtain rfl := hw2
    exact ⟨_, rfl, hv, Below.refl _ _⟩
  · obtain ⟨g, c, rfl⟩ : ∃ g c, v = .slice (some ⟨g, 0, none⟩) ls.length c := by
      rcases hv.2 with ⟨-, e⟩ | ⟨g', cap, cur, e1, -⟩
      · exact absurd (List.eq_nil_of_length_eq_zero e) h0
      · exact ⟨g', cap, e1⟩
    obtain ⟨k1, k2, k3, k4⟩ := own_holds hv
    refine (Go.Proofs.Tryz.slices_Compact_int g 0 c ls w k1 (by omega) k4).mono ?_
    rintro e w2 ⟨rfl, q, hw2⟩
    have h2 := own_put (ts := Lib.compact ls) (us := List.replicate (ls.length - (Lib.compact ls).length) 0) (n := q) (os := #[]) hv (by have := compact_len_le ls; simp; omega)
    rw [grow_empty, ← show w2 = _ from hw2] at h2
    exact ⟨_, rfl, h2.1, h2.2.below hB fun k hk => by rw [hk]; exact k3⟩
theorem sortF_le (K : List Int) : (sortF K).Pairwise (· ≤ ·) := by
  have := List.pairwise_mergeSort (le := fun x y : Int => decide (x ≤ y)) (fun a b c h1 h2 => by simp at *; omega) (fun a b => by simp; omega) K
  exact this.imp (fun h => by simpa using h)
theorem sortF_mem (K : List Int) (x : Int) : x ∈ sortF K ↔ x ∈ K := (List.mergeSort_perm _ _).mem_iff
theorem compact_mem (z : List Int) (x : Int) : x ∈ Lib.compact z ↔ x ∈ z := by
  unfold Lib.compact Lib.compactUpTo
  constructor
  · intro h
    obtain ⟨i, hi, rfl⟩ := List.mem_map.1 h
    have hi := List.mem_range.1 (List.mem_filter.1 hi).1
    have : z.toArray[i]! = z[i] := by simp [hi]
    rw [this]; exact List.getElem_mem hi
  · intro h
    obtain ⟨j, hj, rfl⟩ := List.getElem_of_mem h
    -- the least place with this value
    have key : ∀ j (hj : j < z.length), ∃ i, i ≤ j ∧ ∃ hi : i < z.length, z[i] = z[j] ∧ Lib.keeps z.toArray i = true := by
      intro j
      induction j with
      | zero => intro hj; exact ⟨0, Nat.le_refl _, hj, rfl, by simp [Lib.keeps]⟩
      | succ j ih =>
        intro hj
        by_cases e : z[j + 1] = z[j]
        · obtain ⟨i, h1, h2, h3, h4⟩ := ih (by omega)
          exact ⟨i, by omega, h2, by rw [h3, e], h4⟩
        · refine ⟨j + 1, Nat.le_refl _, hj, rfl, ?_⟩
          unfold Lib.keeps
          have h1 : z.toArray[j + 1]! = z[j + 1] := by simp [hj]
          have h2 : z.toArray[j + 1 - 1]! = z[j] := by simp [show j < z.length by omega]
          rw [h1, h2]; simp [e]
    obtain ⟨i, h1, h2, h3, h4⟩ := key j hj
    refine List.mem_map.2 ⟨i, List.mem_filter.2 ⟨List.mem_range.2 h2, h4⟩, ?_⟩
    have : z.toArray[i]! = z[i] := by simp [h2]
    rw [this, h3]
theorem compact_lt (z : List Int) (hz : z.Pairwise (· ≤ ·)) : (Lib.compact z).Pairwise (· < ·) := by
  unfold Lib.compact Lib.compactUpTo
  rw [List.pairwise_map]
  refine List.Pairwise.imp_of_mem ?_ (List.Pairwise.filter _ (List.pairwise_lt_range (n := z.length)))
  intro a b ha hb hab
  have ha := List.mem_filter.1 ha
  have hb := List.mem_filter.1 hb
  have hal := List.mem_range.1 ha.1
  have hbl := List.mem_range.1 hb.1
  have e1 : z.toArray[a]! = z[a] := by simp [hal]
  have e2 : z.toArray[b]! = z[b] := by simp [hbl]
  have e3 : z.toArray[b - 1]! = z[b - 1] := by simp [show b - 1 < z.length by omega]
  rw [e1, e2]
  have hk := hb.2
  unfold Lib.keeps at hk
  rw [e2, e3] at hk
  have hne : z[b] ≠ z[b - 1] := by
    rcases of_decide_eq_true hk with h | h
    · omega
    · exact h
  have h1 : z[a] ≤ z[b - 1] := by
    by_cases e : a = b - 1
    · simp [e]
    · exact List.pairwise_iff_getElem.1 hz a (b - 1) hal (by omega) (by omega)
  have h2 := List.pairwise_iff_getElem.1 hz (b - 1) b (by omega) hbl (by omega)
  omega
/-- Sort, over a slice of one's own with at least one element -/
theorem sort_in {ls : List Int} {g n c B : Nat} {w : World} (hv : OwnI w B (.slice (some ⟨g, 0, none⟩) n c) ls) (hn : n = ls.length) (hl : ls.length < 1000000) (hB : B ≤ w.heap.size) :
    Calls Tryz.prog 50 #[.slice (some ⟨g, 0, none⟩) n c] w (fun e w' => e = .returned (.tuple #[]) ∧ OwnI w' B (.slice (some ⟨g, 0, none⟩) n c) (sortF ls) ∧ Below B w w') := by
  subst hn
  obtain ⟨k1, k2, k3, k4⟩ := own_holds hv
  refine (Go.Proofs.Tryz.slices_Sort_int g 0 c ls w k1 k2 (by omega)).mono ?_
  rintro e w2 ⟨rfl, n, os, hw2⟩
  have h2 := own_put (ts := sortF ls) (us := []) (n := n) (os := os) hv (by simp [sortF_len])
  have hw3 : w2 = grow (putRow (Value.int .i64) (Sort.ahead w n) g 0 (sortF ls).toArray) os := hw2
  rw [List.append_nil, ← hw3, sortF_len] at h2
  exact ⟨rfl, h2.1, h2.2.below hB fun k hk => by rw [hk]; exact k3⟩
end Go.Proofs.YtdjldidfnddpmaaGreatDoor
