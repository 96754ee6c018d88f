/- More on blocks that are known whole; a slice of integers made by make. No condition. -/
import Derived.Test.YtdjldidfnddpmaaGreatDoorBlk
import Derived.Deep.OwnRows
namespace Go.Proofs.YtdjldidfnddpmaaGreatDoor
open Go.RowKit

theorem Blk.newA (w : World) (C : Array Value) {vs : List Value} {t : TypeId} (h : C = vs.toArray) : Blk (w.alloc (.cells C t)) w.heap.size vs t := by rw [h]; exact Blk.new w vs t
theorem madeInts (n : Nat) : madeCells #[Value.int .i64 0] n = ((List.replicate n (0 : Int)).map (Value.int .i64)).toArray := by
  have h := toList_madeCells_one (.int .i64 0) n
  rw [List.map_replicate, ← h]
theorem mkInts (n : Nat) (hn : n ≤ 1000000) (w : World) : (Instr.makeSlice 36 (.int .i64 (n : Int)) (.int .i64 (n : Int))).run Tryz.prog w = .ok (.slice (some ⟨w.heap.size, 0, none⟩) n n) (w.alloc (.cells ((List.replicate n (0 : Int)).map (Value.int .i64)).toArray 3)) := by
  rw [← madeInts]
  exact run_make_row' (P := Tryz.prog) 36 3 (.int .i64 0) 8 Tryz.underlying36 infoInt rfl .i64 .i64 n (by omega) (by omega) w
end Go.Proofs.YtdjldidfnddpmaaGreatDoor
