/- Laws on bytes in memory: copy from a string, clear, what a write turns. No condition. -/
import Derived.Laws.CopyOwn
import Derived.Laws.CopyRow
import Derived.Laws.AppendOwn
import Derived.Laws.OwnMore
import Derived.Below
import Derived.WalkKit
namespace Go.Proofs.YtdjldidfnddpmaaGreatDoor
open Go.RowKit

def byteV (b : UInt8) : Value := .int .u8 (b.toNat : Int)
def bytesV (l : List UInt8) : List Value := l.map byteV
theorem bytesV_len (l : List UInt8) : (bytesV l).length = l.length := by simp [bytesV]
theorem bytesV_one (l : List UInt8) : ∀ v ∈ bytesV l, v.oneCell' = true := fun v hv => by
  obtain ⟨b, -, rfl⟩ := List.mem_map.1 hv; rfl
theorem splice_map {α β : Type} (f : α → β) (l : List α) (o : Nat) (s : List α) : (splice l o s).map f = splice (l.map f) o (s.map f) := by
  simp [splice, List.map_take, List.map_drop]
/-- what a call that writes into the blocks of S leaves as it was -/
structure Eff (S : Nat → Prop) (w w' : World) : Prop where
  os : w'.os = w.os
  tape : w'.tape = w.tape
  output : w'.output = w.output
  size : w.heap.size ≤ w'.heap.size
  block : ∀ k, k < w.heap.size → ¬ S k → w'.heap[k]? = w.heap[k]?
theorem Eff.refl (S : Nat → Prop) (w : World) : Eff S w w := ⟨rfl, rfl, rfl, Nat.le_refl _, fun _ _ _ => rfl⟩
theorem Eff.trans {S : Nat → Prop} {a b c : World} (h : Eff S a b) (k : Eff S b c) : Eff S a c :=
  ⟨k.os.trans h.os, k.tape.trans h.tape, k.output.trans h.output, Nat.le_trans h.size k.size, fun i hi hn => (k.block i (Nat.lt_of_lt_of_le hi h.size) hn).trans (h.block i hi hn)⟩
theorem Eff.mono {S T : Nat → Prop} {a b : World} (h : Eff S a b) (hs : ∀ k, k < a.heap.size → S k → T k) : Eff T a b :=
  ⟨h.os, h.tape, h.output, h.size, fun i hi hn => h.block i hi fun hS => hn (hs i hi hS)⟩
theorem Eff.of_grown {a b : World} {g : Nat} (h : a.grownBy b (some g)) : Eff (· = g) a b :=
  ⟨h.os, h.tape, h.output, h.size, fun i hi hn => h.block i hi fun e => hn (Option.some.inj e)⟩
theorem Eff.of_grownO {a b : World} {r : Option Nat} (h : a.grownBy b r) : Eff (fun k => some k = r) a b :=
  ⟨h.os, h.tape, h.output, h.size, fun i hi hn => h.block i hi hn⟩
theorem Eff.of_below {a b : World} (h : Below a.heap.size a b) (S : Nat → Prop) : Eff S a b := ⟨h.os, h.tape, h.output, h.size, fun k hk _ => h.block k hk⟩
theorem Eff.below {S : Nat → Prop} {B : Nat} {a b : World} (h : Eff S a b) (hB : B ≤ a.heap.size) (hs : ∀ k, S k → B ≤ k) : Below B a b :=
  ⟨h.os, h.tape, h.output, h.size, fun k hk => h.block k (by omega) fun hS => by have := hs k hS; omega⟩
theorem Eff.setCell (w : World) (g j : Nat) (v : Value) : Eff (· = g) w (w.setCell ⟨g, j, none⟩ v) :=
  ⟨rfl, rfl, rfl, by simp [World.setCell], fun k _ hn => Below.heap_setCell w ⟨g, j, none⟩ v k hn⟩
theorem Eff.setRow (w : World) (g : Nat) (C : Array Value) : Eff (· = g) w (w.setRow g C) :=
  ⟨rfl, rfl, rfl, by simp [World.setRow], fun k _ hn => setRow_other w g k C hn⟩
theorem Eff.drew (w : World) (S : Nat → Prop) : Eff S w w.drew := ⟨rfl, rfl, rfl, Nat.le_refl _, fun _ _ _ => rfl⟩
section
variable {P : Program}
theorem run_copy_str (w : World) (dT sT ty elem : TypeId) (g o dLen dCap : Nat) (s : ByteArray) (cur : List Value) (t : TypeId) (n : Nat)
    (hu : P.underlying dT = some (.slice elem)) (hs : (P.info? elem).map (·.size) = some 1) (hg : w.heap[g]? = some (.cells cur.toArray t (0, 0))) (hn : n = Nat.min s.size dLen) (hfit : o + n ≤ cur.length) :
    (Builtin.copy_ #[dT, sT] ty #[.slice (some ⟨g, o, none⟩) dLen dCap, .string s]).run P w = .ok (goInt n) (w.setRow g (splice cur o (bytesV (s.data.toList.take n))).toArray) := by
  have hns : n ≤ s.data.toList.length := by
    have : s.data.toList.length = s.size := by simp
    rw [this, hn]; exact Nat.min_le_left _ _
  have hlen : (bytesV (s.data.toList.take n)).length = n := by rw [bytesV_len, List.length_take]; omega
  have hst := run_storeCells_at P g o t (bytesV (s.data.toList.take n)) 0 cur.toArray w hg (by rw [hlen]; simpa using hfit) (bytesV_one _)
  have e : List.take n (List.map (fun b : UInt8 => Value.int .u8 (b.toNat : Int)) s.data.toList) = bytesV (s.data.toList.take n) := by
    rw [← List.map_take]; rfl
  cases hq : P.info? elem with
  | none => simp [hq] at hs
  | some i =>
    have hi : i.size = 1 := by simpa [hq] using hs
    have h0 : o + 0 = o := rfl
    rw [h0] at hst
    simp [Builtin.copy_, run_underlying hu, Builtin.lenOf, Builtin.firstCells, sizeOf, typeInfo, hq, ← hn]
    rw [e, hst]
    simp [splice, hlen]
theorem run_clear_none (w : World) (t ty elem : TypeId) (p : Option Addr) (c : Nat) (hu : P.underlying t = some (.slice elem)) :
    (Builtin.clear_ #[t] ty #[.slice p 0 c]).run P w = .ok (.tuple #[]) w := by
  cases p <;> simp [Builtin.clear_, run_underlying hu]
theorem run_clear_row (w : World) (t elem : TypeId) (g n c : Nat) (z : Value) (k : Nat) (cur : List Value) (te : TypeId) (hu : P.underlying t = some (.slice elem)) (hz : (zeroValue elem).run P w = .ok z w) (hk : z.cells.size = k)
    (hg : w.heap[g]? = some (.cells cur.toArray te (0, 0))) (hfit : n * k ≤ cur.length) (h1 : ∀ v ∈ z.cells, v.oneCell' = true) (hn : 0 < n) (hk0 : 0 < k) :
    ∃ C : List Value, C.length = cur.length ∧ ∀ ty, (Builtin.clear_ #[t] ty #[.slice (some ⟨g, 0, none⟩) n c]).run P w = .ok (.tuple #[]) (w.setRow g C.toArray) := by
  have hlen : (Builtin.zeroCells z.cells n).toList.length = n * k := by simp [Builtin.zeroCells, hk]
  have hone : ∀ v ∈ (Builtin.zeroCells z.cells n).toList, v.oneCell' = true := by
    intro v hv
    simp only [Builtin.zeroCells, Array.toList_map, List.mem_map] at hv
    obtain ⟨i, -, rfl⟩ := hv
    have hlt : i % z.cells.size < z.cells.size := Nat.mod_lt _ (by omega)
    rw [getElem!_pos z.cells _ hlt]
    exact h1 _ (Array.getElem_mem hlt)
  have hst := run_storeCells_at P g 0 te (Builtin.zeroCells z.cells n).toList 0 cur.toArray w hg (by rw [hlen]; simpa using hfit) hone
  refine ⟨(Builtin.zeroCells z.cells n).toList ++ cur.drop (n * k), ?_, ?_⟩
  · simp [hlen]; omega
  · intro ty
    obtain ⟨m, rfl⟩ : ∃ m, n = m + 1 := ⟨n - 1, by omega⟩
    simp [Builtin.clear_, run_underlying hu, hz, hst, hlen]
end
end Go.Proofs.YtdjldidfnddpmaaGreatDoor
