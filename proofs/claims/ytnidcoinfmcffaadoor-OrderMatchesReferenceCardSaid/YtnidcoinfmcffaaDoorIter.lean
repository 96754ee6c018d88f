/- What a loop over an iterator keeps: all that was there but one block. No condition. -/
import Derived.RangeFuncNested
import Derived.RangeFuncBound
import Derived.RangeFuncCalls
import Derived.RangeFuncLeaves
import Derived.RangeFuncBox
import Derived.Shelf.Abstract
import Derived.Shelf.RegionOpen
import Derived.OwnWalkIn
import Derived.TacticsInMore
import Derived.LoopNIn
import Derived.LoopIn
import Derived.Maps.AppendAt
import Derived.Test.YtnidcoinfmcffaaDoorOwn
namespace Go.Proofs.YtnidcoinfmcffaaDoor
open Go.RowKit

/-- below block m all is as it was, but for block s -/
structure KeptBut (m s : Nat) (w w' : World) : Prop where
 os : w'.os = w.os
 tape : w'.tape = w.tape
 output : w'.output = w.output
 size : w.heap.size ≤ w'.heap.size
 block : ∀ k, k < m → k ≠ s → w'.heap[k]? = w.heap[k]?
theorem KeptBut.trans {m s : Nat} {a b c : World} (h : KeptBut m s a b) (k : KeptBut m s b c) : KeptBut m s a c :=
 ⟨k.os.trans h.os, k.tape.trans h.tape, k.output.trans h.output, Nat.le_trans h.size k.size, fun i hi hn => (k.block i hi hn).trans (h.block i hi hn)⟩
theorem KeptBut.of_below {m s : Nat} {a b : World} (h : Below m a b) : KeptBut m s a b := ⟨h.os, h.tape, h.output, h.size, fun k hk _ => h.block k hk⟩
theorem KeptBut.below {m s : Nat} {w0 a b : World} (h : KeptBut m s a b) (h0 : Below w0.heap.size w0 a) (hs : w0.heap.size ≤ s) (hm : w0.heap.size ≤ m) : Below w0.heap.size w0 b :=
 h0.trans ⟨h.os, h.tape, h.output, h.size, fun k hk => h.block k (by omega) (by omega)⟩
theorem KeptBut.cell {m s : Nat} {a b : World} (h : KeptBut m s a b) {p : Addr} (hm : p.block < m) (hs : p.block ≠ s) : b.cell? p = a.cell? p :=
 World.cell?_of_block (h.block p.block hm hs)
theorem KeptBut.putObj {m s : Nat} (W : World) (l : Nat) (o' : Obj) (hl : m ≤ l) : KeptBut m s W (W.putObj l o') := by
 refine ⟨rfl, rfl, rfl, by simp [World.putObj], fun k hk _ => ?_⟩
 simp only [World.putObj, Array.getElem?_setIfInBounds]
 rw [if_neg (by omega)]
theorem KeptBut.setCell {m s : Nat} (W : World) (o : Nat) (v : Value) : KeptBut m s W (W.setCell ⟨s, o, none⟩ v) :=
 ⟨rfl, rfl, rfl, by simp [World.setCell], fun k _ hk => Below.heap_setCell _ _ _ _ hk⟩
theorem below_grown {a b : World} (h : Below a.heap.size a b) : a.grownBy b none := ⟨h.os, h.tape, h.output, h.size, fun k hk _ => h.block k hk⟩
theorem AbidesFrom.below {β : Type} {B : Nat} {J : β → World → Prop} (h : AbidesFrom B J) {s : β} {a b : World} (hs : J s a) (hb : Below a.heap.size a b) : J s b :=
 h s a b none hs (below_grown hb) (fun r e => by cases e)
theorem SeqStopsK.kp {α : Type} {F : Fence} {n : Nat} {P : Program} {g : Nat} {lb : Array Value} {encs : α → Array Value} {Kp Kp' : World → World → Prop} {S Sp : List α → Prop} {N : Nat} {w : World}
  (h : SeqStopsK F n P g lb encs Kp S Sp N w) (hk : ∀ A B, Kp' A B → Kp A B) : SeqStopsK F n P g lb encs Kp' S Sp N w :=
 fun l J Jx W hb hJ hJx hY h0 => h l J Jx W hb hJ hJx (fun pre x W1 h1 h2 => by
  obtain ⟨fn, tmps, assign, body, hy, hR⟩ := hY pre x W1 h1 h2
  exact ⟨fn, tmps, assign, body, hy, hR.mono fun e W' h => h.imp (fun ⟨a, b, c⟩ => ⟨a, b, hk _ _ c⟩) id⟩) h0
theorem KeptBut.of_below' {s : Nat} {a b : World} (h : Below s a b) : KeptBut (s + 1) s a b := ⟨h.os, h.tape, h.output, h.size, fun k hk hs => h.block k (by omega)⟩
end Go.Proofs.YtnidcoinfmcffaaDoor
