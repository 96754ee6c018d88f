/- What an append to an own slice, and a box that is written, leave as they were. No condition. -/
import Derived.Test.YtnidcoinfmcffaaDoorEffK
import Derived.Test.YtnidcoinfmcffaaDoorAppK
import Derived.Test.YtnidcoinfmcffaaDoorRegM
namespace Go.Proofs.YtnidcoinfmcffaaDoor
open Go.RowKit
/-- what an append to a slice of the call's own, and a box that is written, leave as they were -/
structure EffY (B : Nat) (e : TypeId) (O : Nat) (w w' : World) : Prop where
 os : w'.os = w.os
 tape : w'.tape = w.tape
 output : w'.output = w.output
 size : w.heap.size ≤ w'.heap.size
 block : ∀ b, b < w.heap.size → b ≠ O → (b < B ∨ NotE e w b) → w'.heap[b]? = w.heap[b]?
theorem effE_of_grown {W w' : World} {B : Nat} {e : TypeId} {k : Nat} {v : Value} {L : List (List Value)} (hown : OwnR W B e k v L) (hg : W.grownBy w' v.ownBlock) : EffE B e W w' := by
 refine ⟨hg.os, hg.tape, hg.output, hg.size, fun b hb hn => hg.block b hb ?_⟩
 intro he
 rcases hown.form with ⟨h2, -⟩ | ⟨g', c', cur, h2, h3, h4, -⟩
 ·rw [h2] at he; cases he
 ·rw [h2] at he; cases he
  rcases hn with hn | hn
  ·have hn' : g' < B := hn
   omega
  ·exact hn _ _ h4
theorem EffY.below {B : Nat} {e : TypeId} {O C : Nat} {w w' : World} (h : EffY B e O w w') (hB : C ≤ B) (hO : C ≤ O) (hw : C ≤ w.heap.size) : Below C w w' :=
 ⟨h.os, h.tape, h.output, h.size, fun k hk => h.block k (by omega) (by omega) (.inl (by omega))⟩
theorem EffY.blk {B : Nat} {e : TypeId} {O : Nat} {w w' : World} (h : EffY B e O w w') {b : Nat} {vs : List Value} {t : TypeId} (hb : Blk w b vs t) (hO : b ≠ O) (hte : t ≠ e) : Blk w' b vs t :=
 (h.block b hb.lt hO (.inr (hb.notE hte))).trans hb
theorem OwnR.setO {W : World} {B O j : Nat} {e : TypeId} {k : Nat} {v : Value} {L : List (List Value)} {vs : List Value} {t : TypeId} (h : OwnR W B e k v L) (hO : Blk W O vs t) (hte : t ≠ e) (u : Value) : OwnR (W.setCell ⟨O, j, none⟩ u) B e k v L := by
 obtain ⟨⟨h1, h2⟩, h3⟩ := h
 refine ⟨⟨h1, h2.imp id ?_⟩, h3⟩
 rintro ⟨g, cap, cur, e1, e2, e3, e4⟩
 refine ⟨g, cap, cur, e1, e2, ?_, e4⟩
 refine (Below.heap_setCell W ⟨O, j, none⟩ u g ?_).trans e3
 show g ≠ O
 rintro rfl
 have := (show W.heap[g]? = _ from hO).symm.trans e3
 simp at this; exact hte this.2
theorem own_some {W : World} {B : Nat} {e : TypeId} {k : Nat} {v : Value} {L : List (List Value)} {x : List Value} (h : OwnR W B e k v (L ++ [x])) : ∃ g c, v = .slice (some ⟨g, 0, none⟩) (L.length + 1) c := by
 rcases h.form with ⟨-, h2⟩ | ⟨g, c, cur, h1, -⟩
 ·simp at h2
 ·exact ⟨g, c, by rw [h1]; simp⟩
theorem EffY.of_below {B : Nat} {e : TypeId} {O : Nat} {w w' : World} (h : Below w.heap.size w w') : EffY B e O w w' := ⟨h.os, h.tape, h.output, h.size, fun b hb _ _ => h.block b hb⟩
theorem NotE.back {e : TypeId} {w w' : World} {b : Nat} (h : NotE e w b) (he : w'.heap[b]? = w.heap[b]?) : NotE e w' b := fun cur m hc => h cur m (by rw [← he]; exact hc)
theorem EffY.trans {B : Nat} {e : TypeId} {O : Nat} {a b c : World} (h : EffY B e O a b) (k : EffY B e O b c) : EffY B e O a c :=
 ⟨k.os.trans h.os, k.tape.trans h.tape, k.output.trans h.output, Nat.le_trans h.size k.size, fun i hi hO hn => by
  have h1 := h.block i hi hO hn
  rw [k.block i (Nat.lt_of_lt_of_le hi h.size) hO (hn.imp id fun hn => hn.back h1), h1]⟩
theorem EffY.then {B : Nat} {e : TypeId} {O : Nat} {a b c : World} (h : EffY B e O a b) (k : Below b.heap.size b c) : EffY B e O a c := h.trans (EffY.of_below k)
theorem EffY.app {B : Nat} {e : TypeId} {O : Nat} {a b c : World} (h : EffY B e O a b) (k : EffE B e b c) : EffY B e O a c := h.trans ⟨k.os, k.tape, k.output, k.size, fun i hi _ hn => k.block i hi hn⟩
theorem EffY.set {B : Nat} {e : TypeId} {O : Nat} {a b : World} (h : EffY B e O a b) (j : Nat) (u : Value) : EffY B e O a (b.setCell ⟨O, j, none⟩ u) :=
 ⟨h.os, h.tape, h.output, by simpa [World.setCell] using h.size, fun i hi hO hn => (Below.heap_setCell b ⟨O, j, none⟩ u i hO).trans (h.block i hi hO hn)⟩
theorem EffY.cell {B : Nat} {e : TypeId} {O : Nat} {w w' : World} (h : EffY B e O w w') {b : Nat} {vs : List Value} {t : TypeId} (hb : Blk w b vs t) (hO : b ≠ O) (hte : t ≠ e) (i : Nat) {v : Value} (hv : vs[i]? = some v) : w'.cell? ⟨b, i, none⟩ = some v := (h.blk hb hO hte).cell i hv
theorem keeps_low_effY {B O : Nat} {e : TypeId} {w0 w w' : World} (h : EffY B e O w w') (hB : w0.heap.size ≤ B) (hO : w0.heap.size ≤ O) (hw : Below w0.heap.size w0 w) : Below w0.heap.size w0 w' :=
 hw.trans (h.below hB hO hw.size)
/-- an append of one record, in a region that draws its order -/
theorem step_one {W : World} {ops : Array Oper} {o : Oper} {T : Array Value} {D : List Deferred} {K : Act → World → Prop} {Q : Exit → Act → World → Prop} {E : Prop} {e t : TypeId} {k by_ : Nat} {z : Value}
  (hinfo : (Tryd.prog.info? e).map (fun i => (i.zero, i.size, i.bytes)) = some (some z, k, by_)) (hzk : z.cells.size = k) (hk : 0 < k) (hu : Tryd.prog.underlying t = some (.slice e)) (hgd : o.guard = none) (s x : Operand)
  (ho : o.op = .call { callee := .builtin .append, args := #[s, x], argTypes := #[t, t] }) (B : Nat) (v : Value) (L : List (List Value)) (hs : Act.eval ⟨T, D⟩ s = v) (hown : OwnR W B e k v L)
  (nb : Nat) (r : List Value) (hx : Act.eval ⟨T, D⟩ x = .slice (some ⟨nb, 0, none⟩) 1 1) (hr : Blk W nb r e) (hrk : r.length = k) (hone : ∀ u ∈ r, u.oneCell' = true)
  (hlen : (L.length + 1) * by_ ≤ 140737488355328) (hlen2 : L.length + 1 < 1000000) (hB : B ≤ W.heap.size)
  (h : ∀ g c w', OwnR w' B e k (.slice (some ⟨g, 0, none⟩) (L.length + 1) c) (L ++ [r]) → EffE B e W w' → K (Act.put ⟨T, D⟩ o.dst (.slice (some ⟨g, 0, none⟩) (L.length + 1) c)) w') :
  if Region.wanted o (yielded ops T) = true then Oper.wp Tryd.prog o ⟨T, D⟩ W K Q else E := by
 have hw : Region.wanted o (yielded ops T) = true := by simp [Region.wanted, hgd]
 have hw' : Region.wanted o (yielded ops (Act.tmps ⟨T, D⟩)) = true := hw
 rw [if_pos hw]
 obtain ⟨i0, hi, hz0, hz1, hz2⟩ := info_parts hinfo
 refine wp_append_own _ s x t ho B e i0 z k by_ hu hi hz0 hz1 hz2 hzk hk v L.length L.flatten hs hown.1 ⟨nb, 0, none⟩ 1 1 r hx (by rw [hrk]; omega) ?_ hone (by unfold maxLen; omega) hlen hB ?_
 ·intro j u hj
  have := hr.cell j hj
  cases j <;> simpa [Addr.add] using this
 ·intro v' w' hown' hg _
  have hO : OwnR w' B e k v' (L ++ [r]) := ⟨by simpa using hown', fun q hq => by
   rcases List.mem_append.1 hq with h1 | h1
   ·exact hown.2 q h1
   ·rw [List.mem_singleton.1 h1]; exact hrk⟩
  obtain ⟨g, c, rfl⟩ := own_some hO
  exact h g c w' hO (effE_of_grown hown hg)
theorem OwnR.formE {w : World} {B k : Nat} {e : TypeId} {v : Value} {L : List (List Value)} (h : OwnR w B e k v L) : ∃ a c, v = .slice a L.length c := by
 rcases h.form with ⟨rfl, e2⟩ | ⟨g, c, cur, rfl, -⟩
 ·exact ⟨none, 0, by rw [e2]; rfl⟩
 ·exact ⟨_, c, rfl⟩
theorem OwnR.weaken' {w : World} {B B' k : Nat} {e : TypeId} {v : Value} {L : List (List Value)} (h : OwnR w B e k v L) (hB : B' ≤ B) : OwnR w B' e k v L := by
 obtain ⟨⟨h1, h2⟩, h3⟩ := h
 refine ⟨⟨h1, h2.imp id ?_⟩, h3⟩
 rintro ⟨g, cap, cur, e1, e2, e3⟩
 exact ⟨g, cap, cur, e1, Nat.le_trans hB e2, e3⟩
end Go.Proofs.YtnidcoinfmcffaaDoor
