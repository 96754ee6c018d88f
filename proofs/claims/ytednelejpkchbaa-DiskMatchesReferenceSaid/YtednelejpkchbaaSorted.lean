/- slices.Sorted over slices.Values, and slices.Compact, at []int: what they hand back. Conditions: how the argument lies in memory; its length. -/
import Derived.Test.YtednelejpkchbaaColl
import Derived.Test.YtednelejpkchbaaShelf
import Derived.Sort.OwnSortedInts
import Derived.Test.YtednelejpkchbaaDk0
import Derived.Test.YtednelejpkchbaaBlk
namespace Go.Proofs.Ytednelejpkchbaa
open Go.RowKit Go.Shelf Go.Sort

def sortF (l : List Int) : List Int := l.mergeSort fun x y => decide (x ≤ y)
theorem sortF_len (l : List Int) : (sortF l).length = l.length := by simp [sortF]
theorem own_put {w : World} {B g c n : Nat} {l ts us : List Int} {os : Array Obj} (h : OwnI w B (.slice (some ⟨g, 0, none⟩) l.length c) l) (hl : (ts ++ us).length = l.length) :
    OwnI (grow (putRow (Value.int .i64) (Sort.ahead w n) g 0 (ts ++ us).toArray) os) B (.slice (some ⟨g, 0, none⟩) ts.length c) ts ∧ Eff (· = g) w (grow (putRow (Value.int .i64) (Sort.ahead w n) g 0 (ts ++ us).toArray) os) := by
  refine ⟨?_, Eff.of_grown (grownBy_sortedI _)⟩
  obtain ⟨h1, h2⟩ := h
  rcases h2 with ⟨e, -⟩ | ⟨g', cap, cur, e1, e2, e3, e4, e5, e6, e7⟩
  · cases e
  · cases e1
    refine ⟨by simp, .inr ⟨g, c, _, rfl, e2, heap_sortedI _ e3, by simp at hl; omega, e5, by simp [putCells, e6], ?_⟩⟩
    have h8 := take_putCellsI cur (ts ++ us) (by rw [hl]; omega)
    have h9 := congrArg (List.take ts.length) h8
    rw [List.take_take, Nat.min_eq_left (by simp)] at h9
    rw [Nat.mul_one, h9]; simp
theorem own_holds {w : World} {B g c : Nat} {l : List Int} (h : OwnI w B (.slice (some ⟨g, 0, none⟩) l.length c) l) : Holds (Value.int .i64) w g 0 l.toArray ∧ g < w.heap.size ∧ B ≤ g ∧ l.length ≤ c := by
  obtain ⟨h1, h2⟩ := h
  rcases h2 with ⟨e, -⟩ | ⟨g', cap, cur, e1, e2, e3, e4, e5, e6, e7⟩
  · cases e
  · cases e1
    exact ⟨holds_of_blockI e3 (by rw [Nat.mul_one] at e7; exact e7), (Array.getElem?_eq_some_iff.1 e3).1, e2, e4⟩
/-- the call turns a slice of one's own to another one, in the same block if there is one, and nothing else below -/
def OwnTo (B : Nat) (l : List Int) (w : World) (e : Ending) (w' : World) : Prop := ∃ v, e = .returned v ∧ OwnI w' B v l ∧ Below B w w'
theorem sorted_any (ls : List Int) (sv : Value) (Bs : Nat) (w : World) (hv : IntsLow w.heap.size w sv ls) (c0 : w.cell? ⟨Bs, 0, none⟩ = some sv) (hl : ls.length < 1000000) :
    Calls Try.prog 39 #[.func (.func 47) #[] #[.pointer (some ⟨Bs, 0, none⟩)]] w (OwnTo w.heap.size (sortF ls) w) := by
  have hBs := lt_of_cell c0
  have hseq : SeqStopsK Fence.wide 9 Try.prog 47 #[.pointer (some ⟨Bs, 0, none⟩)] (fun x : Int => #[.int .i64 (id x)]) (Below w.heap.size) (fun ys => ys = ls) (fun pre => pre <+: ls) ls.length (w.alloc (.cells #[.slice none 0 0] 37)) := by
    intro l J Jx W hW hJ _ hY hJ0
    have hb := bal w (.cells #[.slice none 0 0] 37)
    refine values1_in ls sv 9 l Bs w.heap.size _ W J Jx hW (by simp) hBs ?_ (keep hb c0) hY hJ0
    obtain ⟨a, n, h1, h2, h3, h4⟩ := hv
    exact ⟨a, n, h1, h2, h3, fun k hk => let ⟨b, o, e, hbm, hc⟩ := h4 k hk; ⟨b, o, e, hbm, keep hb hc⟩⟩
  have HS := hide hseq
  clear hseq hv c0
  go_enter Try.func39, Try.ntmps39
  go_wp2_with fail
  refine (collect_any (f := (id : Int → Int)) _ _ (Go.Proofs.enters_of Try.func47 (by kernel_rfl) rfl) ls _ _ (by omega) HS.out).mono ?_
  rintro e w1 ⟨v, rfl, hv, hb1⟩
  rw [List.map_id] at hv
  by_cases h0 : ls = []
  · subst h0
    obtain ⟨p, c, rfl⟩ := hv.form
    go_wp2_with fail
    refine (Go.Proofs.Try.slices_Sort_int_none p c w1).mono ?_
    rintro e w2 ⟨rfl, hw2⟩
    obtain rfl := hw2
    have hs0 : OwnI w2 w.heap.size (.slice p 0 c) (sortF []) := by rw [show sortF [] = [] by simp [sortF]]; exact hv
    go_wp2_with fail
    go_ret
    exact ⟨_, rfl, hs0, hb1⟩
  · obtain ⟨g, c, rfl⟩ : ∃ g c, v = .slice (some ⟨g, 0, none⟩) ls.length c := by
      rcases hv.2 with ⟨-, e⟩ | ⟨g', cap, cur, e1, -⟩
      · exact absurd (List.eq_nil_of_length_eq_zero e) h0
      · exact ⟨g', cap, e1⟩
    obtain ⟨k1, k2, k3, k4⟩ := own_holds hv
    have HV := hide hv
    clear h0 hv
    go_wp2_with fail
    refine (Go.Proofs.Try.slices_Sort_int g 0 c ls w1 k1 k2 (by omega)).mono ?_
    rintro e w2 ⟨rfl, n, os, hw2⟩
    have h2 := own_put (ts := sortF ls) (us := []) (n := n) (os := os) HV.out (by simp [sortF_len])
    have hw3 : w2 = grow (putRow (Value.int .i64) (Sort.ahead w1 n) g 0 (sortF ls).toArray) os := hw2
    rw [List.append_nil, ← hw3, sortF_len] at h2
    clear hw3
    clear hw2
    go_wp2_with fail
    go_ret
    exact ⟨_, rfl, h2.1, hb1.trans (h2.2.below hb1.size fun k hk => by rw [hk]; exact k3)⟩
theorem compact_len_le (l : List Int) : (Lib.compact l).length ≤ l.length := by
  unfold Lib.compact Lib.compactUpTo
  rw [List.length_map]
  exact Nat.le_trans (List.length_filter_le _ _) (by simp)
theorem compact_any (ls : List Int) (v : Value) (B : Nat) (w : World) (hv : OwnI w B v ls) (hB : B ≤ w.heap.size) (hl : ls.length < 1000000) : Calls Try.prog 38 #[v] w (OwnTo B (Lib.compact ls) w) := by
  by_cases h0 : ls = []
  · subst h0
    obtain ⟨p, c, rfl⟩ := hv.form
    refine (Go.Proofs.Try.slices_Compact_int_empty p c w).mono ?_
    rintro e w2 ⟨rfl, hw2⟩
    obtain rfl := hw2
    exact ⟨_, rfl, hv, Below.refl _ _⟩
  · obtain ⟨g, c, rfl⟩ : ∃ g c, v = .slice (some ⟨g, 0, none⟩) ls.length c := by
      rcases hv.2 with ⟨-, e⟩ | ⟨g', cap, cur, e1, -⟩
      · exact absurd (List.eq_nil_of_length_eq_zero e) h0
      · exact ⟨g', cap, e1⟩
    obtain ⟨k1, k2, k3, k4⟩ := own_holds hv
    refine (Go.Proofs.Try.slices_Compact_int g 0 c ls w k1 (by omega) k4).mono ?_
    rintro e w2 ⟨rfl, q, hw2⟩
    have h2 := own_put (ts := Lib.compact ls) (us := List.replicate (ls.length - (Lib.compact ls).length) 0) (n := q) (os := #[]) hv (by have := compact_len_le ls; simp; omega)
    rw [grow_empty, ← show w2 = _ from hw2] at h2
    exact ⟨_, rfl, h2.1, h2.2.below hB fun k hk => by rw [hk]; exact k3⟩
end Go.Proofs.Ytednelejpkchbaa
