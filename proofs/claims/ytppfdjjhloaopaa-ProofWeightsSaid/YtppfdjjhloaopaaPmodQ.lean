/- Plain words: the map of the rows that are used, as package proof fills it; when a weight is in order; twelve numbers in cells. No condition. -/
import Derived.Test.YtppfdjjhloaopaaPmodO
import Derived.Test.YtppfdjjhloaopaaPmodP
import Derived.Test.YtppfdjjhloaopaaPmodS
import Derived.Test.YtppfdjjhloaopaaBlk
import Derived.Test.YtppfdjjhloaopaaIter
import Derived.Test.YtppfdjjhloaopaaPfA
import Derived.Maps.Own
import Derived.Maps.OwnSet
namespace Go.Proofs.Ytppfdjjhloaopaa
open Go.RowKit

abbrev decL (d : List Int) : List Value := [.int .i64 (d.getD 0 0), .int .i64 (d.getD 1 0), .int .i64 (d.getD 2 0), .int .i64 (d.getD 3 0), .int .i64 (d.getD 4 0), .int .i64 (d.getD 5 0), .int .i64 (d.getD 6 0), .int .i64 (d.getD 7 0), .int .i64 (d.getD 8 0), .int .i64 (d.getD 9 0), .int .i64 (d.getD 10 0), .int .i64 (d.getD 11 0)]
abbrev decV (d : List Int) : Value := .agg #[.int .i64 (d.getD 0 0), .int .i64 (d.getD 1 0), .int .i64 (d.getD 2 0), .int .i64 (d.getD 3 0), .int .i64 (d.getD 4 0), .int .i64 (d.getD 5 0), .int .i64 (d.getD 6 0), .int .i64 (d.getD 7 0), .int .i64 (d.getD 8 0), .int .i64 (d.getD 9 0), .int .i64 (d.getD 10 0), .int .i64 (d.getD 11 0)]
theorem decL_map (d : List Int) : decL d = (List.range 12).map fun k => Value.int .i64 (d.getD k 0) := by
  simp [List.range_succ, List.range_zero]
theorem decL_get (d : List Int) {k : Nat} (h : k < 12) : (decL d)[k]? = some (.int .i64 (d.getD k 0)) := by
  rw [decL_map, List.getElem?_map, List.getElem?_range h]; rfl
theorem decL_len (d : List Int) : (decL d).length = 12 := rfl
theorem decL_set {d : List Int} (hl : d.length = 12) {k : Nat} (h : k < 12) (x : Int) : (decL d).set k (.int .i64 x) = decL (d.set k x) := by
  refine List.ext_getElem? fun j => ?_
  by_cases hj : j < 12
  · rw [decL_get _ hj]
    by_cases e : k = j
    · subst e; rw [List.getElem?_set_self (by rw [decL_len]; omega), setD_eq _ (by omega)]
    · rw [List.getElem?_set_ne e, decL_get _ hj, setD_ne _ (fun h => e h.symm)]
  · rw [List.getElem?_eq_none (by rw [List.length_set, decL_len]; omega), List.getElem?_eq_none (by rw [decL_len]; omega)]
/-- a map of the rows that are used -/
abbrev keysD (ks : List Int) : DataW Unit := Maps.setOf (.lit (.bool true)) (ks.map (Lit.int .i64))
def OwnM (w : World) (b n : Nat) (ks : List Int) : Prop := w.ownsMap Try.prog 3 (plainElem (H := Unit) Try.prog 4) b n (keysD ks)
theorem lawInt : Maps.Keyed Try.prog 3 := Maps.int_keyed Try.underlying3
theorem OwnM.made (w : World) : OwnM (w.alloc (.map #[] 0)) w.heap.size 0 [] := World.ownsMap_made _ _ _ _
theorem OwnM.kept {w w' : World} {b n : Nat} {ks : List Int} {row : Option Nat} (h : OwnM w b n ks) (hg : w.grownBy w' row) (hne : some b ≠ row) : OwnM w' b n ks := World.ownsMap.kept h hg hne
theorem OwnM.mono {w : World} {b n m : Nat} {ks : List Int} (h : OwnM w b n ks) (hn : n ≤ m) : OwnM w b m ks := World.ownsMap.mono h hn
theorem OwnM.later {w w' : World} {b n : Nat} {ks : List Int} (h : OwnM w b n ks) (hb : Below w.heap.size w w') : OwnM w' b n ks :=
  h.kept (row := none) (below_grown hb) (by simp)
theorem OwnM.lt {w : World} {b n : Nat} {ks : List Int} (h : OwnM w b n ks) : b < w.heap.size := World.ownsMap.lt h
theorem OwnM.no_cell {w : World} {b n : Nat} {ks : List Int} (h : OwnM w b n ks) {a : Addr} {v : Value} (hc : w.cell? a = some v) : a.block ≠ b := by
  rintro rfl
  obtain ⟨es, clock, hb, -⟩ := h
  simp [World.cell?, hb] at hc
theorem OwnM.no_blk {w : World} {b n : Nat} {ks : List Int} (h : OwnM w b n ks) {c : Nat} {vs : List Value} {t : TypeId} (hc : Blk w c vs t) : c ≠ b := by
  rintro rfl
  obtain ⟨es, clock, hb, -⟩ := h
  rw [show w.heap[c]? = _ from hc] at hb; cases hb
/-- 'm[k] = true' -/
theorem OwnM.put {w : World} {b n : Nat} {ks : List Int} (h : OwnM w b n ks) (hn : n < 1000000) {x : Int} (h1 : -9223372036854775808 ≤ x) (h2 : x ≤ 9223372036854775807) :
    ∃ w', (Instr.mapUpdate 76 (.map (some b)) (.int .i64 x) (.bool true)).run Try.prog w = .ok () w' ∧ OwnM w' b (n + 1) (ks ++ [x]) ∧ w.grownBy w' (some b) := by
  have hw : (Lit.int .i64 x).wf = true := by simp [Lit.wf]; exact ⟨h1, h2⟩
  obtain ⟨w', h3, h4, h5⟩ := World.ownsMap.update h lawInt Try.underlying76 (by unfold maxLen; omega) (Maps.keyOf_int_mk Try.underlying3 hw) (plainElem_bool Try.underlying4 true)
  refine ⟨w', h3, ?_, h5⟩
  have e : keysD (ks ++ [x]) = (keysD ks).put (.int .i64 x) (.lit (.bool true)) := by
    show Maps.setOf _ _ = _
    rw [List.map_append, List.map_cons, List.map_nil, Maps.setOf_snoc]
  unfold OwnM; rw [e]; exact h4
theorem Grown.cell {w w' : World} {b n : Nat} {ks : List Int} (hm : OwnM w b n ks) (hg : w.grownBy w' (some b)) {a : Addr} {v : Value} (hc : w.cell? a = some v) : w'.cell? a = some v := by
  have h1 := hm.no_cell hc
  rw [World.cell?_of_block (hg.block a.block (lt_of_cell hc) (by simp; exact h1))]; exact hc
theorem Grown.keeps {w w' : World} {b n : Nat} {ks : List Int} (hm : OwnM w b n ks) (hg : w.grownBy w' (some b)) : Keeps w.cell? w'.cell? := fun _ _ h => Grown.cell hm hg h
theorem Grown.blk {w w' : World} {b n : Nat} {ks : List Int} (hm : OwnM w b n ks) (hg : w.grownBy w' (some b)) {c : Nat} {vs : List Value} {t : TypeId} (hc : Blk w c vs t) : Blk w' c vs t :=
  (hg.block c hc.lt (by simp; exact hm.no_blk hc)).trans hc
theorem Grown.refl (w : World) (b : Nat) : w.grownBy w (some b) := ⟨rfl, rfl, rfl, Nat.le_refl _, fun _ _ _ => rfl⟩
theorem Grown.of {w w' : World} (h : Below w.heap.size w w') (b : Nat) : w.grownBy w' (some b) := ⟨h.os, h.tape, h.output, h.size, fun k hk _ => h.block k hk⟩
theorem Grown.trans {a b c : World} {m : Nat} (h : a.grownBy b (some m)) (k : b.grownBy c (some m)) : a.grownBy c (some m) :=
  ⟨k.os.trans h.os, k.tape.trans h.tape, k.output.trans h.output, Nat.le_trans h.size k.size, fun i hi hn => (k.block i (Nat.lt_of_lt_of_le hi h.size) hn).trans (h.block i hi hn)⟩
theorem Grown.set {a b : World} {m c : Nat} (h : a.grownBy b (some m)) (hc : a.heap.size ≤ c) (j : Nat) (u : Value) : a.grownBy (b.setCell ⟨c, j, none⟩ u) (some m) :=
  ⟨h.os, h.tape, h.output, by have := h.size; simpa [World.setCell] using this, fun i hi hn => (Below.heap_setCell b ⟨c, j, none⟩ u i (by show i ≠ c; omega)).trans (h.block i hi hn)⟩
theorem OwnM.set {w : World} {b n : Nat} {ks : List Int} (h : OwnM w b n ks) {c : Nat} (hc : c ≠ b) (j : Nat) (u : Value) : OwnM (w.setCell ⟨c, j, none⟩ u) b n ks := by
  obtain ⟨es, clock, hb, hr⟩ := h
  exact ⟨es, clock, (Below.heap_setCell w ⟨c, j, none⟩ u b (by show b ≠ c; omega)).trans hb, hr⟩
/-- the row of the weight before -/
def lastW (ws : List (Int × Int)) (k : Nat) : Int := if k = 0 then -1 else (ws.getD (k - 1) wt0).1
theorem lastW_succ (ws : List (Int × Int)) (k : Nat) : lastW ws (k + 1) = (ws.getD k wt0).1 := by simp [lastW]
theorem lastW_bd {m : Nat} {ws : List (Int × Int)} {k : Nat} (ho : okWts m ws k = true) : -1 ≤ lastW ws k ∧ lastW ws k < m := by
  unfold lastW
  split
  · omega
  · have := okWt_parts (i := k - 1) (List.all_eq_true.1 ho (k - 1) (List.mem_range.2 (by omega)))
    omega
theorem okWt_isIn {m : Nat} {ws : List (Int × Int)} {k : Nat} (ho : okWts m ws k = true) : okWt m ws k = (isInB (lastW ws k + 1) (ws.getD k wt0).1 (m - 1) && isInB 1 (ws.getD k wt0).2 1000) := by
  unfold okWt lastW isInB
  rw [Bool.eq_iff_iff]; simp only [Bool.and_eq_true, Bool.or_eq_true, decide_eq_true_eq]
  by_cases h : k = 0
  · subst h; simp; omega
  · have := okWt_parts (i := k - 1) (List.all_eq_true.1 ho (k - 1) (List.mem_range.2 (by omega)))
    rw [if_neg h]
    constructor
    · rintro ⟨⟨⟨⟨h1, h2⟩, h3⟩, h4⟩, h5⟩; omega
    · rintro ⟨⟨h1, h2⟩, h3, h4⟩; omega
theorem takeW {ws : List (Int × Int)} {k : Nat} (h : k < ws.length) : (ws.take (k + 1)).map (·.1) = (ws.take k).map (·.1) ++ [(ws.getD k wt0).1] := by
  rw [List.take_add_one, List.map_append, List.getElem?_eq_getElem h, List.getD_eq_getElem?_getD, List.getElem?_eq_getElem h]; rfl
theorem addP_bd (rows : List RowD) (n : Nat) (hr : RowsOk rows n) (ws : List (Int × Int)) (dec : List Int) (hl : dec.length ≤ 12) (ho : okWts rows.length ws ws.length = true) (hw : ws.length ≤ 8) (k : Nat) (hk : k ≤ 12) :
    -100000000000000 ≤ addP (encD dec) (sumsP rows ws dec.length ws.length 0) k ∧ addP (encD dec) (sumsP rows ws dec.length ws.length 0) k ≤ 100000000000000 := by
  rw [addP_min rows ws dec hl k hk]
  exact small_bd (minK_bd hr ho _) hw (by omega)
end Go.Proofs.Ytppfdjjhloaopaa
