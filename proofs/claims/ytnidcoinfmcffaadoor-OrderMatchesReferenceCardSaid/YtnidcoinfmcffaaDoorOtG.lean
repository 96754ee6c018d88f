/- A copy of pairs with one more, in a region that draws its order: what the appends leave. Conditions: how the pairs lie in memory. -/
import Derived.Test.YtnidcoinfmcffaaDoorOtF
import Derived.Test.YtnidcoinfmcffaaDoorOpA
namespace Go.Proofs.YtnidcoinfmcffaaDoor
open Go.RowKit
theorem run_pairs_none {w : World} {a1 a2 : Option Addr} {k c2 : Nat} (ty : TypeId) : (Builtin.append_ #[22, 22] ty #[.slice a1 k k, .slice a2 0 c2]).run Tryd.prog w = .ok (.slice a1 k k) w := by
 obtain ⟨i0, hi, hz0, hz1, hz2⟩ := info_parts infoPair
 cases a1 <;> cases a2 <;> simp [Builtin.append_, run_underlying Tryd.underlying22, sizeOf, typeInfo, hi, Builtin.lenOf, Builtin.firstCells, loadCells, loadCellsFrom, storeCells]
theorem pairs_form {c : Rd} {a : Option Addr} {n m : Nat} {l : List (Int × Int)} (h : PairsIn c (.slice a n m) l) : n = l.length := by
 obtain ⟨a', m', e, -⟩ := h
 exact (Value.slice.inj e).2.1
end Go.Proofs.YtnidcoinfmcffaaDoor
