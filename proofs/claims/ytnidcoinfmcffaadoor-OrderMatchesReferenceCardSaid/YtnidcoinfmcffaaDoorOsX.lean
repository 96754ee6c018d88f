/- A path that shares its array with a longer one: an append of one integer that may write behind it. Conditions: how the path lies in memory. -/
import Derived.Test.YtnidcoinfmcffaaDoorOqB
namespace Go.Proofs.YtnidcoinfmcffaaDoor
open Go.RowKit
theorem own_front {w : World} {B g c : Nat} {l : List Int} {x : Int} (h : OwnI w B (.slice (some ⟨g, 0, none⟩) (l.length + 1) c) (l ++ [x])) : OwnI w B (.slice (some ⟨g, 0, none⟩) l.length c) l := by
 obtain ⟨h1, h2 | ⟨g', cap, cur, e1, e2, e3, e4, e5, e6, e7⟩⟩ := h
 ·obtain ⟨e, -⟩ := h2; cases e
 ·obtain ⟨ea, -, ec⟩ := Value.slice.inj e1
  obtain rfl : g = g' := congrArg Addr.block (Option.some.inj ea)
  subst ec
  simp only [List.length_append, List.length_singleton] at e4 e7
  refine ⟨by simp, .inr ⟨g, c, cur, rfl, e2, e3, by omega, e5, e6, ?_⟩⟩
  have e8 := congrArg (fun l' => l'.take l.length) e7
  simp only [Nat.mul_one] at e8
  rw [List.take_take, Nat.min_eq_left (by omega), List.map_append, List.take_append_of_le_length (by simp)] at e8
  rw [Nat.mul_one, e8]
  exact List.take_of_length_le (by simp)
theorem run_app_path {w : World} {B g c nb : Nat} {x : Int} {l : List Int} (ty : TypeId) (h : OwnI w B (.slice (some ⟨g, 0, none⟩) l.length c) l) (hr : Blk w nb [.int .i64 x] 3) (hl : l.length < 1000) (hB : B ≤ w.heap.size) :
  ∃ g' c' w', (Builtin.append_ #[26, 26] ty #[.slice (some ⟨g, 0, none⟩) l.length c, .slice (some ⟨nb, 0, none⟩) 1 1]).run Tryd.prog w = .ok (.slice (some ⟨g', 0, none⟩) (l.length + 1) c') w' ∧ OwnI w' B (.slice (some ⟨g', 0, none⟩) (l.length + 1) c') (l ++ [x]) ∧
   OwnI w' B (.slice (some ⟨g, 0, none⟩) l.length c) l ∧ Eff (fun k => k = g) w w' ∧ ((g' = g ∧ c' = c) ∨ w.heap.size ≤ g') := by
 obtain ⟨i0, hi, hz0, hz1, hz2⟩ := info_parts infoInt
 have hnews : ∀ j u, [Value.int .i64 x][j]? = some u → w.cell? ((⟨nb, 0, none⟩ : Addr).add j) = some u := fun j u hj => by
  have := hr.cell j hj
  cases j <;> simpa [Addr.add] using this
 obtain ⟨h1, h2 | ⟨g', cap, cur, e1, e2, e3, e4, e5, e6, e7⟩⟩ := id h
 ·obtain ⟨e, -⟩ := h2; cases e
 ·cases e1
  rw [Nat.mul_one] at e6 e7
  by_cases hroom : l.length + 1 ≤ c
  ·have hrun := run_append_room (P := Tryd.prog) w 26 ty 3 i0 Tryd.underlying26 hi g l.length c cur e3 ⟨nb, 0, none⟩ 1 1 [.int .i64 x] (by rw [hz1]; rfl) hnews (by intro u hu; simp at hu; subst hu; rfl) hroom (by rw [hz1]; simp; omega)
   rw [hz1] at hrun
   simp only [Nat.mul_one, List.length_singleton] at hrun
   have e9 : (l ++ [x]).length = l.length + 1 := by simp
   have hown : OwnI (w.setRow g (cur.toList.take l.length ++ [Value.int .i64 x] ++ cur.toList.drop (l.length + 1)).toArray) B (.slice (some ⟨g, 0, none⟩) (l.length + 1) c) (l ++ [x]) := by
    refine ⟨by simp, .inr ⟨g, c, _, by rw [e9], e2, setRow_heap w g cur _ 3 _ e3, by omega, e5, ?_, ?_⟩⟩
    ·simp; omega
    ·rw [e7, e9, Nat.mul_one, List.map_append]
     exact List.take_left' (by simp)
   exact ⟨g, c, _, hrun, hown, own_front hown, ⟨rfl, rfl, rfl, by simp, fun k _ hk => setRow_other w g k _ hk⟩, .inl ⟨rfl, rfl⟩⟩
  ·obtain ⟨v', w', hrun, k2, k3, -, k5⟩ := run_append_own_at (P := Tryd.prog) w B 26 ty 3 i0 (.int .i64 0) 1 8 Tryd.underlying26 hi hz0 hz1 hz2 rfl (by decide) _ l.length (l.map (Value.int .i64)) h ⟨nb, 0, none⟩ 1 1 [.int .i64 x] rfl hnews (by intro u hu; simp at hu; subst hu; rfl) (by unfold maxLen; omega) (by omega) hB
   have hr2 := run_append_grow (P := Tryd.prog) w 26 ty 3 i0 (.int .i64 0) Tryd.underlying26 hi hz0 ⟨g, 0, none⟩ l.length c (l.map (Value.int .i64)) (by rw [hz1]; simp) (fun j u hj => (show World.ownsRow w B 3 1 _ l.length (l.map (Value.int .i64)) from h).cells (g := g) rfl j u hj) ⟨nb, 0, none⟩ 1 1 [.int .i64 x] (by rw [hz1]; rfl) hnews (by omega) (by omega) (growslice_fits (by omega) (by rw [hz2]; omega))
   rw [hr2] at hrun
   obtain ⟨rfl, rfl⟩ := Result.ok.inj hrun
   refine ⟨_, _, _, hr2, by simpa [OwnI] using k2, ?_, ⟨k3.os, k3.tape, k3.output, k3.size, fun k hk hn => k3.block k hk (by intro e; exact hn (Option.some.inj e))⟩, .inr (Nat.le_refl _)⟩
   exact ⟨h1, .inr ⟨g, c, cur, rfl, e2, (show (World.alloc w.drew _).heap[g]? = _ from (by exact Below.heap_alloc w.drew _ g (Array.getElem?_eq_some_iff.1 e3).1)).trans e3, e4, e5, by rw [e6, Nat.mul_one], by rw [Nat.mul_one]; exact e7⟩⟩
end Go.Proofs.YtnidcoinfmcffaaDoor
