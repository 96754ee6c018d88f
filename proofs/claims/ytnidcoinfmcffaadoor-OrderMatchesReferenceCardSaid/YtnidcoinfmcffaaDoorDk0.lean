/- Laws on bytes in memory: copy from a string, clear, what a write turns. No condition. -/
import Derived.Laws.CopyOwn
import Derived.Laws.CopyRow
import Derived.Laws.AppendOwn
import Derived.Laws.OwnMore
import Derived.Below
import Derived.WalkKit
namespace Go.Proofs.YtnidcoinfmcffaaDoor
open Go.RowKit

/-- what a call that writes into the blocks of S leaves as it was -/
structure Eff (S : Nat → Prop) (w w' : World) : Prop where
 os : w'.os = w.os
 tape : w'.tape = w.tape
 output : w'.output = w.output
 size : w.heap.size ≤ w'.heap.size
 block : ∀ k, k < w.heap.size → ¬ S k → w'.heap[k]? = w.heap[k]?
theorem Eff.refl (S : Nat → Prop) (w : World) : Eff S w w := ⟨rfl, rfl, rfl, Nat.le_refl _, fun _ _ _ => rfl⟩
theorem Eff.trans {S : Nat → Prop} {a b c : World} (h : Eff S a b) (k : Eff S b c) : Eff S a c :=
 ⟨k.os.trans h.os, k.tape.trans h.tape, k.output.trans h.output, Nat.le_trans h.size k.size, fun i hi hn => (k.block i (Nat.lt_of_lt_of_le hi h.size) hn).trans (h.block i hi hn)⟩
theorem Eff.mono {S T : Nat → Prop} {a b : World} (h : Eff S a b) (hs : ∀ k, k < a.heap.size → S k → T k) : Eff T a b :=
 ⟨h.os, h.tape, h.output, h.size, fun i hi hn => h.block i hi fun hS => hn (hs i hi hS)⟩
theorem Eff.of_grown {a b : World} {g : Nat} (h : a.grownBy b (some g)) : Eff (· = g) a b :=
 ⟨h.os, h.tape, h.output, h.size, fun i hi hn => h.block i hi fun e => hn (Option.some.inj e)⟩
theorem Eff.of_below {a b : World} (h : Below a.heap.size a b) (S : Nat → Prop) : Eff S a b := ⟨h.os, h.tape, h.output, h.size, fun k hk _ => h.block k hk⟩
theorem Eff.below {S : Nat → Prop} {B : Nat} {a b : World} (h : Eff S a b) (hB : B ≤ a.heap.size) (hs : ∀ k, S k → B ≤ k) : Below B a b :=
 ⟨h.os, h.tape, h.output, h.size, fun k hk => h.block k (by omega) fun hS => by have := hs k hS; omega⟩
theorem Eff.setCell (w : World) (g j : Nat) (v : Value) : Eff (· = g) w (w.setCell ⟨g, j, none⟩ v) :=
 ⟨rfl, rfl, rfl, by simp [World.setCell], fun k _ hn => Below.heap_setCell w ⟨g, j, none⟩ v k hn⟩
theorem Eff.setRow (w : World) (g : Nat) (C : Array Value) : Eff (· = g) w (w.setRow g C) :=
 ⟨rfl, rfl, rfl, by simp [World.setRow], fun k _ hn => setRow_other w g k C hn⟩
theorem Eff.drew (w : World) (S : Nat → Prop) : Eff S w w.drew := ⟨rfl, rfl, rfl, Nat.le_refl _, fun _ _ _ => rfl⟩
section
variable {P : Program}
end
end Go.Proofs.YtnidcoinfmcffaaDoor
