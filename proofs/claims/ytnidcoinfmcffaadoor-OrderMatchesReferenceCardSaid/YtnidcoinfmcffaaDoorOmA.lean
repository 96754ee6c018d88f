/- A map from integers to values of a call's own: looking up, storing. Conditions: how it lies in memory; its clock. -/
import Derived.Test.YtnidcoinfmcffaaDoorOsI
import Derived.Maps.OwnSet
import Derived.Maps.Views
import Derived.Maps.Keyed
import Derived.Maps.Own
namespace Go.Proofs.YtnidcoinfmcffaaDoor
open Go.RowKit Go.Maps
/-- what the reader of an element says: the value itself -/
def readH (v : Value) : Option (DataW Value × List MemPlace) := some (.held v, [])
theorem key_int (k : Int) : WideAt.IsKeyLit (.int .i64 k) := by simp [WideAt.IsKeyLit]
theorem readH_inv {v : Value} {z : DataW Value} {ps : List MemPlace} {u : Value} (h : readH v = some (z, ps)) (hz : z = .held u) : v = u := by
 unfold readH at h
 cases h
 cases hz; rfl
theorem lawIntO : Maps.Keyed Tryd.prog 3 := Maps.int_keyed Tryd.underlying3
/-- a map of a call's own, in block b: at x it has g x -/
def OwnMap (g : Int → Option Value) (w : World) (b n : Nat) : Prop :=
 ∃ D : DataW Value, IsMap D ∧ (∀ k, has D (.int .i64 k) = (g k).isSome) ∧ (∀ k v, g k = some v → ∀ z, D.atKey (.int .i64 k) z = .held v) ∧ (∀ k, g k = none → ∀ z, D.atKey (.int .i64 k) z = z) ∧ w.ownsMap Tryd.prog 3 readH b n D
theorem OwnMap.made (w : World) : OwnMap (fun _ => none) (w.alloc (.map #[] 0)) w.heap.size 0 :=
 ⟨.map [], isMap_empty, fun k => by simp [has], fun k v h => (by cases h), fun k _ z => by simp [DataW.atKey], World.ownsMap_made _ _ _ _⟩
theorem OwnMap.kept {g : Int → Option Value} {w w' : World} {b n : Nat} {row : Option Nat} (h : OwnMap g w b n) (hg : w.grownBy w' row) (hne : some b ≠ row) : OwnMap g w' b n :=
 let ⟨D, h1, h2, h3, h4, h5⟩ := h
 ⟨D, h1, h2, h3, h4, World.ownsMap.kept h5 hg hne⟩
theorem OwnMap.mono {g : Int → Option Value} {w : World} {b n m : Nat} (h : OwnMap g w b n) (hn : n ≤ m) : OwnMap g w b m :=
 let ⟨D, h1, h2, h3, h4, h5⟩ := h
 ⟨D, h1, h2, h3, h4, World.ownsMap.mono h5 hn⟩
theorem OwnMap.lt {g : Int → Option Value} {w : World} {b n : Nat} (h : OwnMap g w b n) : b < w.heap.size :=
 let ⟨_, _, _, _, _, h5⟩ := h
 World.ownsMap.lt h5
theorem OwnMap.later {g : Int → Option Value} {w w' : World} {b n : Nat} (h : OwnMap g w b n) (hb : Below w.heap.size w w') : OwnMap g w' b n :=
 h.kept (row := none) (below_grown hb) (by simp)
theorem OwnMap.no_cell {g : Int → Option Value} {w : World} {b n : Nat} (h : OwnMap g w b n) {a : Addr} {v : Value} (hc : w.cell? a = some v) : a.block ≠ b := by
 rintro rfl
 obtain ⟨_, _, _, _, _, es, clock, hb, -⟩ := h
 simp [World.cell?, hb] at hc
theorem OwnMap.no_blk {g : Int → Option Value} {w : World} {b n : Nat} (h : OwnMap g w b n) {c : Nat} {vs : List Value} {t : TypeId} (hc : Blk w c vs t) : c ≠ b := by
 rintro rfl
 obtain ⟨_, _, _, _, _, es, clock, hb, -⟩ := h
 rw [show w.heap[c]? = _ from hc] at hb; cases hb
section
variable {t e : TypeId} (ht : Tryd.prog.underlying t = some (.map 3 e)) {z : Value} (hz : ∀ w, (zeroValue e).run Tryd.prog w = .ok z w)
include ht hz
/-- 'v, ok := m[k]' -/
theorem OwnMap.look {g : Int → Option Value} {w : World} {b n : Nat} (h : OwnMap g w b n) {x : Int} (h1 : -9223372036854775808 ≤ x) (h2 : x ≤ 9223372036854775807) :
  (Instr.lookup t (.map (some b)) (.int .i64 x) true).run Tryd.prog w = .ok (.tuple #[(g x).getD z, .bool (g x).isSome]) w := by
 have hw : (Lit.int .i64 x).wf = true := by simp [Lit.wf]; exact ⟨h1, h2⟩
 obtain ⟨D, k1, k2, k3, k4, k5⟩ := h
 obtain ⟨v, ps, hrun, hv⟩ := World.ownsMap.look_ok k5 lawIntO ht (hz w) (zd := .held z) (zp := []) rfl (Maps.keyOf_int_mk Tryd.underlying3 hw)
 rw [hrun, k2]
 have e0 : v = (g x).getD z := by
  cases e1 : g x with
  | none => rw [k4 x e1] at hv; exact readH_inv hv rfl
  | some u => rw [k3 x u e1] at hv; exact readH_inv hv rfl
 rw [e0]
/-- 'm[k]' -/
theorem OwnMap.at {g : Int → Option Value} {w : World} {b n : Nat} (h : OwnMap g w b n) {x : Int} (h1 : -9223372036854775808 ≤ x) (h2 : x ≤ 9223372036854775807) :
  (Instr.lookup t (.map (some b)) (.int .i64 x) false).run Tryd.prog w = .ok ((g x).getD z) w := by
 have hw : (Lit.int .i64 x).wf = true := by simp [Lit.wf]; exact ⟨h1, h2⟩
 obtain ⟨D, k1, k2, k3, k4, k5⟩ := h
 obtain ⟨v, ps, hrun, hv⟩ := World.ownsMap.lookup k5 lawIntO ht (hz w) (zd := .held z) (zp := []) rfl (Maps.keyOf_int_mk Tryd.underlying3 hw)
 rw [hrun]
 have e0 : v = (g x).getD z := by
  cases e1 : g x with
  | none => rw [k4 x e1] at hv; exact readH_inv hv rfl
  | some u => rw [k3 x u e1] at hv; exact readH_inv hv rfl
 rw [e0]
end
def putO' (g : Int → Option Value) (x : Int) (v : Value) : Int → Option Value := fun y => if y = x then some v else g y
/-- 'm[k] = v' -/
theorem OwnMap.put {t e : TypeId} (ht : Tryd.prog.underlying t = some (.map 3 e)) {g : Int → Option Value} {w : World} {b n : Nat} (h : OwnMap g w b n) (hn : n < 1000000) {x : Int} (h1 : -9223372036854775808 ≤ x) (h2 : x ≤ 9223372036854775807) (v : Value) :
  ∃ w', (Instr.mapUpdate t (.map (some b)) (.int .i64 x) v).run Tryd.prog w = .ok () w' ∧ OwnMap (putO' g x v) w' b (n + 1) ∧ w.grownBy w' (some b) := by
 have hw : (Lit.int .i64 x).wf = true := by simp [Lit.wf]; exact ⟨h1, h2⟩
 obtain ⟨D, k1, k2, k3, k4, k5⟩ := h
 obtain ⟨w', h3, h4, h5⟩ := World.ownsMap.update k5 lawIntO ht (by unfold maxLen; omega) (Maps.keyOf_int_mk Tryd.underlying3 hw) (val := v) (d := .held v) (ps := []) rfl
 refine ⟨w', h3, ⟨_, ?_, fun k => ?_, fun k u hk z => ?_, fun k hk z => ?_, h4⟩, h5⟩
 ·obtain ⟨es, e1⟩ := k1
  rw [e1]; exact ⟨_, rfl⟩
 ·unfold putO'
  by_cases e1 : k = x
  ·subst e1; rw [has_put_same k1 (key_int k), if_pos rfl]; rfl
  ·rw [has_put_other (by intro h; cases h; exact e1 rfl), if_neg e1, k2]
 ·unfold putO' at hk
  by_cases e1 : k = x
  ·subst e1; rw [if_pos rfl] at hk; cases hk; rw [atKey_put_same k1 (key_int k)]
  ·rw [if_neg e1] at hk
   rw [atKey_put_other (by intro h; cases h; exact e1 rfl), k3 k u hk]
 ·unfold putO' at hk
  by_cases e1 : k = x
  ·subst e1; rw [if_pos rfl] at hk; cases hk
  ·rw [if_neg e1] at hk
   rw [atKey_put_other (by intro h; cases h; exact e1 rfl), k4 k hk]
theorem mapcell {g : Int → Option Value} {w w' : World} {b n : Nat} (hm : OwnMap g w b n) (hg : w.grownBy w' (some b)) {a : Addr} {v : Value} (hc : w.cell? a = some v) : w'.cell? a = some v := by
 have h1 := hm.no_cell hc
 rw [World.cell?_of_block (hg.block a.block (lt_of_cell hc) (by simp; exact h1))]; exact hc
theorem mapblk {g : Int → Option Value} {w w' : World} {b n : Nat} (hm : OwnMap g w b n) (hg : w.grownBy w' (some b)) {c : Nat} {vs : List Value} {t : TypeId} (hc : Blk w c vs t) : Blk w' c vs t :=
 (hg.block c hc.lt (by simp; exact hm.no_blk hc)).trans hc
end Go.Proofs.YtnidcoinfmcffaaDoor
