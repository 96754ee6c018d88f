/- A map of findings of a call's own: looking up, storing. Conditions: how it lies in memory; its clock. -/
import Derived.Test.YtdjldidfnddpmaaGreatDoorStO
import Derived.Maps.Own
import Derived.Maps.Keyed
namespace Go.Proofs.YtdjldidfnddpmaaGreatDoor
open Go.RowKit Go.Maps
def OwnF (f : Int → Value) (w : World) (b n : Nat) (ks : List Int) : Prop := w.ownsMap Tryz.prog 3 readH b n (foundD f ks)
theorem lawIntF : Maps.Keyed Tryz.prog 3 := Maps.int_keyed Tryz.underlying3
theorem OwnF.made (f : Int → Value) (w : World) : OwnF f (w.alloc (.map #[] 0)) w.heap.size 0 [] := World.ownsMap_made _ _ _ _
theorem OwnF.kept {f : Int → Value} {w w' : World} {b n : Nat} {ks : List Int} {row : Option Nat} (h : OwnF f w b n ks) (hg : w.grownBy w' row) (hne : some b ≠ row) : OwnF f w' b n ks := World.ownsMap.kept h hg hne
theorem OwnF.mono {f : Int → Value} {w : World} {b n m : Nat} {ks : List Int} (h : OwnF f w b n ks) (hn : n ≤ m) : OwnF f w b m ks := World.ownsMap.mono h hn
theorem OwnF.lt {f : Int → Value} {w : World} {b n : Nat} {ks : List Int} (h : OwnF f w b n ks) : b < w.heap.size := World.ownsMap.lt h
theorem OwnF.later {f : Int → Value} {w w' : World} {b n : Nat} {ks : List Int} (h : OwnF f w b n ks) (hb : Below w.heap.size w w') : OwnF f w' b n ks :=
  h.kept (row := none) ⟨hb.os, hb.tape, hb.output, hb.size, fun k hk _ => hb.block k hk⟩ (by simp)
theorem OwnF.no_cell {f : Int → Value} {w : World} {b n : Nat} {ks : List Int} (h : OwnF f w b n ks) {a : Addr} {v : Value} (hc : w.cell? a = some v) : a.block ≠ b := by
  rintro rfl
  obtain ⟨es, clock, hb, -⟩ := h
  simp [World.cell?, hb] at hc
theorem OwnF.no_blk {f : Int → Value} {w : World} {b n : Nat} {ks : List Int} (h : OwnF f w b n ks) {c : Nat} {vs : List Value} {t : TypeId} (hc : Blk w c vs t) : c ≠ b := by
  rintro rfl
  obtain ⟨es, clock, hb, -⟩ := h
  rw [show w.heap[c]? = _ from hc] at hb; cases hb
theorem readH_inv {v : Value} {z : DataW Value} {ps : List MemPlace} {u : Value} (h : readH v = some (z, ps)) (hz : z = .held u) : v = u := by
  unfold readH at h
  cases h
  cases hz; rfl
abbrev find0V : Value := findV find0
theorem zeroF (w : World) : (zeroValue 66).run Tryz.prog w = .ok find0V w := by
  kernel_rfl
/-- 'v, ok := m[k]' -/
theorem OwnF.look {f : Int → Value} {w : World} {b n : Nat} {ks : List Int} (h : OwnF f w b n ks) {x : Int} (h1 : -9223372036854775808 ≤ x) (h2 : x ≤ 9223372036854775807) :
    (Instr.lookup 84 (.map (some b)) (.int .i64 x) true).run Tryz.prog w = .ok (.tuple #[if x ∈ ks then f x else find0V, .bool (decide (x ∈ ks))]) w := by
  have hw : (Lit.int .i64 x).wf = true := by simp [Lit.wf]; exact ⟨h1, h2⟩
  obtain ⟨v, ps, hrun, hv⟩ := World.ownsMap.look_ok h lawIntF Tryz.underlying84 (zeroF w) (zd := .held find0V) (zp := []) rfl (Maps.keyOf_int_mk Tryz.underlying3 hw)
  rw [hrun, foundD_has]
  rw [foundD_at] at hv
  have : v = if x ∈ ks then f x else find0V := by
    by_cases e : x ∈ ks
    · rw [if_pos e] at hv ⊢; exact readH_inv hv rfl
    · rw [if_neg e] at hv ⊢; exact readH_inv hv rfl
  rw [this]
/-- 'm[k]' -/
theorem OwnF.at {f : Int → Value} {w : World} {b n : Nat} {ks : List Int} (h : OwnF f w b n ks) {x : Int} (h1 : -9223372036854775808 ≤ x) (h2 : x ≤ 9223372036854775807) (hx : x ∈ ks) :
    (Instr.lookup 84 (.map (some b)) (.int .i64 x) false).run Tryz.prog w = .ok (f x) w := by
  have hw : (Lit.int .i64 x).wf = true := by simp [Lit.wf]; exact ⟨h1, h2⟩
  obtain ⟨v, ps, hrun, hv⟩ := World.ownsMap.lookup h lawIntF Tryz.underlying84 (zeroF w) (zd := .held find0V) (zp := []) rfl (Maps.keyOf_int_mk Tryz.underlying3 hw)
  rw [foundD_at, if_pos hx] at hv
  rw [hrun, readH_inv hv rfl]
/-- 'm[k] = v' -/
theorem OwnF.put {f : Int → Value} {w : World} {b n : Nat} {ks : List Int} (h : OwnF f w b n ks) (hn : n < 1000000) {x : Int} (h1 : -9223372036854775808 ≤ x) (h2 : x ≤ 9223372036854775807) :
    ∃ w', (Instr.mapUpdate 84 (.map (some b)) (.int .i64 x) (f x)).run Tryz.prog w = .ok () w' ∧ OwnF f w' b (n + 1) (ks ++ [x]) ∧ w.grownBy w' (some b) := by
  have hw : (Lit.int .i64 x).wf = true := by simp [Lit.wf]; exact ⟨h1, h2⟩
  obtain ⟨w', h3, h4, h5⟩ := World.ownsMap.update h lawIntF Tryz.underlying84 (by unfold maxLen; omega) (Maps.keyOf_int_mk Tryz.underlying3 hw) (val := f x) (d := .held (f x)) (ps := []) rfl
  refine ⟨w', h3, ?_, h5⟩
  unfold OwnF; rw [foundD_snoc]; exact h4
end Go.Proofs.YtdjldidfnddpmaaGreatDoor
