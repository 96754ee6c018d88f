/-
  NARROWER THAN 'FOR EVERY INPUT', by the rows' own cells (each row's printed sentence says how): OrderMatchesReference: laid · OrderLines: laid · OrderReduces: laid · OrderMirsky: laid · OrderDilworth: laid · OrderCycles: laid · OrderSplits: laid · OrderLattice: laid.
  DERIVED. THE GIVEN ROWS OF THIS SEAT. 8 by the template 'for every input the law returns true; each argument reads behind the call as it read before'; 0 by the template 'total and deterministic' (their statements: YtnidcoinfmcffaaDoorTotals.lean).
  GIVEN WITH THE SEED: the statements are not yours to turn. If you find one false, say at which input.
  Laid BY PROGRAM, IN A SANDBOX (cutbox-rows.mjs): the forced cells as the released guide's own fill.sh prints them over the translation 8529037b6ef81c2a… (all of the seat's roots in one cut). By AI agents, Wed Nov 11 2026. No macro, syntax, notation, axiom, sorry.
-/
import Derived.Test.YtnidcoinfmcffaaDoorChecked
import GoSem.Claim
import GoSem.ClaimJoined
import GoSem.ClaimMapViews
import Derived.JoinedTies
import Derived.KernelRfl
namespace Go.Proofs.YtnidcoinfmcffaaDoor
/- THE CELL 'sum', in the pinned program and in every row, IS THE sha256 OF THE DUMP (.gsa) THAT YtnidcoinfmcffaaDoorProg.lean LOADS. Nothing in Lean hashes anything: it is a label: what it is worth is what the hold of that sum in a sandbox is worth. -/
noncomputable def Tryd.pinned : Pinned := { name := "ytnidcoinfmcffaadoor", sum := "8529037b6ef81c2a3daf4d2dea3d93fe0eaf0add683f60b66a2d85017a643b71", checked := Tryd.checked }
namespace Rows
def none {H : Type} : Left H := { results := [], args := [] }

/- WHAT THE LISTED PACKAGE-LEVEL VARIABLES READ AS WHEN THE CALL BEGINS. Each datum BY PROGRAM (the guide's laid-datum.mjs) off the statement by which the dump's own 'gosem.cut.vars' lays the variable. In a bare row this is a premise. The card (YtnidcoinfmcffaaDoorCards.lean) ties it to the program's text. -/
def laid_math_bits_deBruijn32tab {H : Type} : DataW H := .agg [.lit (.int .u8 0), .lit (.int .u8 1), .lit (.int .u8 28), .lit (.int .u8 2), .lit (.int .u8 29), .lit (.int .u8 14), .lit (.int .u8 24), .lit (.int .u8 3), .lit (.int .u8 30), .lit (.int .u8 22), .lit (.int .u8 20), .lit (.int .u8 15), .lit (.int .u8 25), .lit (.int .u8 17), .lit (.int .u8 4), .lit (.int .u8 8), .lit (.int .u8 31), .lit (.int .u8 27), .lit (.int .u8 13), .lit (.int .u8 23), .lit (.int .u8 21), .lit (.int .u8 19), .lit (.int .u8 16), .lit (.int .u8 7), .lit (.int .u8 26), .lit (.int .u8 12), .lit (.int .u8 18), .lit (.int .u8 6), .lit (.int .u8 11), .lit (.int .u8 5), .lit (.int .u8 10), .lit (.int .u8 9)]
def laid_math_bits_deBruijn64tab {H : Type} : DataW H := .agg [.lit (.int .u8 0), .lit (.int .u8 1), .lit (.int .u8 56), .lit (.int .u8 2), .lit (.int .u8 57), .lit (.int .u8 49), .lit (.int .u8 28), .lit (.int .u8 3), .lit (.int .u8 61), .lit (.int .u8 58), .lit (.int .u8 42), .lit (.int .u8 50), .lit (.int .u8 38), .lit (.int .u8 29), .lit (.int .u8 17), .lit (.int .u8 4), .lit (.int .u8 62), .lit (.int .u8 47), .lit (.int .u8 59), .lit (.int .u8 36), .lit (.int .u8 45), .lit (.int .u8 43), .lit (.int .u8 51), .lit (.int .u8 22), .lit (.int .u8 53), .lit (.int .u8 39), .lit (.int .u8 33), .lit (.int .u8 30), .lit (.int .u8 24), .lit (.int .u8 18), .lit (.int .u8 12), .lit (.int .u8 5), .lit (.int .u8 63), .lit (.int .u8 55), .lit (.int .u8 48), .lit (.int .u8 27), .lit (.int .u8 60), .lit (.int .u8 41), .lit (.int .u8 37), .lit (.int .u8 16), .lit (.int .u8 46), .lit (.int .u8 35), .lit (.int .u8 44), .lit (.int .u8 21), .lit (.int .u8 52), .lit (.int .u8 32), .lit (.int .u8 23), .lit (.int .u8 11), .lit (.int .u8 54), .lit (.int .u8 26), .lit (.int .u8 40), .lit (.int .u8 15), .lit (.int .u8 34), .lit (.int .u8 20), .lit (.int .u8 31), .lit (.int .u8 10), .lit (.int .u8 25), .lit (.int .u8 14), .lit (.int .u8 19), .lit (.int .u8 9), .lit (.int .u8 13), .lit (.int .u8 8), .lit (.int .u8 7), .lit (.int .u8 6)]

/-- 'putloglaw15.OrderMatchesReference': WHATEVER THE INPUT: true; the input reads as it did. -/
def orderMatchesReferenceSpec : ChangeSpec := { name := "orderMatchesReference", fn := fun _ => fun
  | [d1, d2, d3, d4, d5, d6, d7, d8] => { results := [.lit (.bool true)], args := [d1, d2, d3, d4, d5, d6, d7, d8] }
  | _ => none }
def orderMatchesReferenceRow : OpenClaim := { program := "ytnidcoinfmcffaadoor", sum := "8529037b6ef81c2a3daf4d2dea3d93fe0eaf0add683f60b66a2d85017a643b71", func := "putlog/putloglaw15.OrderMatchesReference", spec := "orderMatchesReference", unfollowed := true, recurses := true, named := ["math/bits.deBruijn32tab", "math/bits.deBruijn64tab"], apart := false, laid := [("math/bits.deBruijn32tab", laid_math_bits_deBruijn32tab), ("math/bits.deBruijn64tab", laid_math_bits_deBruijn64tab)] }
def OrderMatchesReferenceSaid : Prop := orderMatchesReferenceRow.holds Tryd.pinned (OpenSpec.ofChange orderMatchesReferenceSpec)

/-- ITS FALSE NEIGHBOUR: 'it returns false'. Refute it at one input. -/
def orderMatchesReferenceWrong : ChangeSpec := { name := "orderMatchesReference", fn := fun _ => fun
  | [d1, d2, d3, d4, d5, d6, d7, d8] => { results := [.lit (.bool false)], args := [d1, d2, d3, d4, d5, d6, d7, d8] }
  | _ => none }
def OrderMatchesReferenceWrongFalsely : Prop := orderMatchesReferenceRow.holds Tryd.pinned (OpenSpec.ofChange orderMatchesReferenceWrong)

/-- 'putloglaw15.OrderLines': WHATEVER THE INPUT: true; the input reads as it did. -/
def orderLinesSpec : ChangeSpec := { name := "orderLines", fn := fun _ => fun
  | [d1, d2, d3, d4] => { results := [.lit (.bool true)], args := [d1, d2, d3, d4] }
  | _ => none }
def orderLinesRow : OpenClaim := { program := "ytnidcoinfmcffaadoor", sum := "8529037b6ef81c2a3daf4d2dea3d93fe0eaf0add683f60b66a2d85017a643b71", func := "putlog/putloglaw15.OrderLines", spec := "orderLines", unfollowed := true, recurses := true, named := ["math/bits.deBruijn32tab", "math/bits.deBruijn64tab"], apart := false, laid := [("math/bits.deBruijn32tab", laid_math_bits_deBruijn32tab), ("math/bits.deBruijn64tab", laid_math_bits_deBruijn64tab)] }
def OrderLinesSaid : Prop := orderLinesRow.holds Tryd.pinned (OpenSpec.ofChange orderLinesSpec)

/-- ITS FALSE NEIGHBOUR: 'it returns false'. Refute it at one input. -/
def orderLinesWrong : ChangeSpec := { name := "orderLines", fn := fun _ => fun
  | [d1, d2, d3, d4] => { results := [.lit (.bool false)], args := [d1, d2, d3, d4] }
  | _ => none }
def OrderLinesWrongFalsely : Prop := orderLinesRow.holds Tryd.pinned (OpenSpec.ofChange orderLinesWrong)

/-- 'putloglaw15.OrderReduces': WHATEVER THE INPUT: true; the input reads as it did. -/
def orderReducesSpec : ChangeSpec := { name := "orderReduces", fn := fun _ => fun
  | [d1, d2, d3, d4, d5] => { results := [.lit (.bool true)], args := [d1, d2, d3, d4, d5] }
  | _ => none }
def orderReducesRow : OpenClaim := { program := "ytnidcoinfmcffaadoor", sum := "8529037b6ef81c2a3daf4d2dea3d93fe0eaf0add683f60b66a2d85017a643b71", func := "putlog/putloglaw15.OrderReduces", spec := "orderReduces", unfollowed := true, recurses := true, named := ["math/bits.deBruijn32tab", "math/bits.deBruijn64tab"], apart := false, laid := [("math/bits.deBruijn32tab", laid_math_bits_deBruijn32tab), ("math/bits.deBruijn64tab", laid_math_bits_deBruijn64tab)] }
def OrderReducesSaid : Prop := orderReducesRow.holds Tryd.pinned (OpenSpec.ofChange orderReducesSpec)

/-- ITS FALSE NEIGHBOUR: 'it returns false'. Refute it at one input. -/
def orderReducesWrong : ChangeSpec := { name := "orderReduces", fn := fun _ => fun
  | [d1, d2, d3, d4, d5] => { results := [.lit (.bool false)], args := [d1, d2, d3, d4, d5] }
  | _ => none }
def OrderReducesWrongFalsely : Prop := orderReducesRow.holds Tryd.pinned (OpenSpec.ofChange orderReducesWrong)

/-- 'putloglaw15.OrderMirsky': WHATEVER THE INPUT: true; the input reads as it did. -/
def orderMirskySpec : ChangeSpec := { name := "orderMirsky", fn := fun _ => fun
  | [d1, d2, d3, d4] => { results := [.lit (.bool true)], args := [d1, d2, d3, d4] }
  | _ => none }
def orderMirskyRow : OpenClaim := { program := "ytnidcoinfmcffaadoor", sum := "8529037b6ef81c2a3daf4d2dea3d93fe0eaf0add683f60b66a2d85017a643b71", func := "putlog/putloglaw15.OrderMirsky", spec := "orderMirsky", unfollowed := true, recurses := true, named := ["math/bits.deBruijn32tab", "math/bits.deBruijn64tab"], apart := false, laid := [("math/bits.deBruijn32tab", laid_math_bits_deBruijn32tab), ("math/bits.deBruijn64tab", laid_math_bits_deBruijn64tab)] }
def OrderMirskySaid : Prop := orderMirskyRow.holds Tryd.pinned (OpenSpec.ofChange orderMirskySpec)

/-- ITS FALSE NEIGHBOUR: 'it returns false'. Refute it at one input. -/
def orderMirskyWrong : ChangeSpec := { name := "orderMirsky", fn := fun _ => fun
  | [d1, d2, d3, d4] => { results := [.lit (.bool false)], args := [d1, d2, d3, d4] }
  | _ => none }
def OrderMirskyWrongFalsely : Prop := orderMirskyRow.holds Tryd.pinned (OpenSpec.ofChange orderMirskyWrong)

/-- 'putloglaw15.OrderDilworth': WHATEVER THE INPUT: true; the input reads as it did. -/
def orderDilworthSpec : ChangeSpec := { name := "orderDilworth", fn := fun _ => fun
  | [d1, d2, d3, d4] => { results := [.lit (.bool true)], args := [d1, d2, d3, d4] }
  | _ => none }
def orderDilworthRow : OpenClaim := { program := "ytnidcoinfmcffaadoor", sum := "8529037b6ef81c2a3daf4d2dea3d93fe0eaf0add683f60b66a2d85017a643b71", func := "putlog/putloglaw15.OrderDilworth", spec := "orderDilworth", unfollowed := true, recurses := true, named := ["math/bits.deBruijn32tab", "math/bits.deBruijn64tab"], apart := false, laid := [("math/bits.deBruijn32tab", laid_math_bits_deBruijn32tab), ("math/bits.deBruijn64tab", laid_math_bits_deBruijn64tab)] }
def OrderDilworthSaid : Prop := orderDilworthRow.holds Tryd.pinned (OpenSpec.ofChange orderDilworthSpec)

/-- ITS FALSE NEIGHBOUR: 'it returns false'. Refute it at one input. -/
def orderDilworthWrong : ChangeSpec := { name := "orderDilworth", fn := fun _ => fun
  | [d1, d2, d3, d4] => { results := [.lit (.bool false)], args := [d1, d2, d3, d4] }
  | _ => none }
def OrderDilworthWrongFalsely : Prop := orderDilworthRow.holds Tryd.pinned (OpenSpec.ofChange orderDilworthWrong)

/-- 'putloglaw15.OrderCycles': WHATEVER THE INPUT: true; the input reads as it did. -/
def orderCyclesSpec : ChangeSpec := { name := "orderCycles", fn := fun _ => fun
  | [d1, d2, d3, d4, d5] => { results := [.lit (.bool true)], args := [d1, d2, d3, d4, d5] }
  | _ => none }
def orderCyclesRow : OpenClaim := { program := "ytnidcoinfmcffaadoor", sum := "8529037b6ef81c2a3daf4d2dea3d93fe0eaf0add683f60b66a2d85017a643b71", func := "putlog/putloglaw15.OrderCycles", spec := "orderCycles", unfollowed := true, recurses := true, named := ["math/bits.deBruijn32tab", "math/bits.deBruijn64tab"], apart := false, laid := [("math/bits.deBruijn32tab", laid_math_bits_deBruijn32tab), ("math/bits.deBruijn64tab", laid_math_bits_deBruijn64tab)] }
def OrderCyclesSaid : Prop := orderCyclesRow.holds Tryd.pinned (OpenSpec.ofChange orderCyclesSpec)

/-- ITS FALSE NEIGHBOUR: 'it returns false'. Refute it at one input. -/
def orderCyclesWrong : ChangeSpec := { name := "orderCycles", fn := fun _ => fun
  | [d1, d2, d3, d4, d5] => { results := [.lit (.bool false)], args := [d1, d2, d3, d4, d5] }
  | _ => none }
def OrderCyclesWrongFalsely : Prop := orderCyclesRow.holds Tryd.pinned (OpenSpec.ofChange orderCyclesWrong)

/-- 'putloglaw15.OrderSplits': WHATEVER THE INPUT: true; the input reads as it did. -/
def orderSplitsSpec : ChangeSpec := { name := "orderSplits", fn := fun _ => fun
  | [d1, d2, d3, d4, d5] => { results := [.lit (.bool true)], args := [d1, d2, d3, d4, d5] }
  | _ => none }
def orderSplitsRow : OpenClaim := { program := "ytnidcoinfmcffaadoor", sum := "8529037b6ef81c2a3daf4d2dea3d93fe0eaf0add683f60b66a2d85017a643b71", func := "putlog/putloglaw15.OrderSplits", spec := "orderSplits", unfollowed := true, recurses := true, named := ["math/bits.deBruijn32tab", "math/bits.deBruijn64tab"], apart := false, laid := [("math/bits.deBruijn32tab", laid_math_bits_deBruijn32tab), ("math/bits.deBruijn64tab", laid_math_bits_deBruijn64tab)] }
def OrderSplitsSaid : Prop := orderSplitsRow.holds Tryd.pinned (OpenSpec.ofChange orderSplitsSpec)

/-- ITS FALSE NEIGHBOUR: 'it returns false'. Refute it at one input. -/
def orderSplitsWrong : ChangeSpec := { name := "orderSplits", fn := fun _ => fun
  | [d1, d2, d3, d4, d5] => { results := [.lit (.bool false)], args := [d1, d2, d3, d4, d5] }
  | _ => none }
def OrderSplitsWrongFalsely : Prop := orderSplitsRow.holds Tryd.pinned (OpenSpec.ofChange orderSplitsWrong)

/-- 'putloglaw15.OrderLattice': WHATEVER THE INPUT: true; the input reads as it did. -/
def orderLatticeSpec : ChangeSpec := { name := "orderLattice", fn := fun _ => fun
  | [d1, d2, d3, d4, d5, d6, d7] => { results := [.lit (.bool true)], args := [d1, d2, d3, d4, d5, d6, d7] }
  | _ => none }
def orderLatticeRow : OpenClaim := { program := "ytnidcoinfmcffaadoor", sum := "8529037b6ef81c2a3daf4d2dea3d93fe0eaf0add683f60b66a2d85017a643b71", func := "putlog/putloglaw15.OrderLattice", spec := "orderLattice", unfollowed := true, recurses := true, named := ["math/bits.deBruijn32tab", "math/bits.deBruijn64tab"], apart := false, laid := [("math/bits.deBruijn32tab", laid_math_bits_deBruijn32tab), ("math/bits.deBruijn64tab", laid_math_bits_deBruijn64tab)] }
def OrderLatticeSaid : Prop := orderLatticeRow.holds Tryd.pinned (OpenSpec.ofChange orderLatticeSpec)

/-- ITS FALSE NEIGHBOUR: 'it returns false'. Refute it at one input. -/
def orderLatticeWrong : ChangeSpec := { name := "orderLattice", fn := fun _ => fun
  | [d1, d2, d3, d4, d5, d6, d7] => { results := [.lit (.bool false)], args := [d1, d2, d3, d4, d5, d6, d7] }
  | _ => none }
def OrderLatticeWrongFalsely : Prop := orderLatticeRow.holds Tryd.pinned (OpenSpec.ofChange orderLatticeWrong)

/- THE SECOND FORM. 'bulk': how many values and letters a reading holds, each counted each time it is reached (what is shared counts as often as it is met; a slice's spare places count too). A statement '..UptoSaid' is the law's where the arguments, and the package variables that the reading takes, are together of bulk at most 1048576: NARROWER than '..Said'. Prove '..Said' where nothing that the law and all that it calls make is longer than what came in: it says more and counts as full. Else prove '..UptoSaid'. A law counts once. -/
mutual
def uptoBulk {H : Type} : DataW H → Nat
  | .lit (.string bytes) => bytes.length + 1
  | .lit _ => 1
  | .nil => 1
  | .ptr d => uptoBulk d + 1
  | .slice elems spare => uptoBulkAll elems + uptoBulkAll spare + 1
  | .agg parts => uptoBulkAll parts + 1
  | .iface _ d => uptoBulk d + 1
  | .map entries => uptoBulkEntries entries + 1
  | .held _ => 1
def uptoBulkAll {H : Type} : List (DataW H) → Nat
  | [] => 0
  | d :: r => uptoBulk d + uptoBulkAll r
def uptoBulkEntries {H : Type} : List (Lit × DataW H) → Nat
  | [] => 0
  | x :: r => uptoBulkEntry x + uptoBulkEntries r
def uptoBulkEntry {H : Type} : Lit × DataW H → Nat
  | (.string bytes, d) => bytes.length + uptoBulk d + 1
  | (_, d) => uptoBulk d + 1
 end
def uptoSmall : (H : Type) → List (DataW H) → Bool := fun _ ds => decide (uptoBulkAll ds ≤ 1048576)
def OpenSpec.upto (s : _root_.Go.ChangeSpec) : _root_.Go.OpenSpec := { _root_.Go.OpenSpec.ofChange s with cond := some uptoSmall }

/-- 'putloglaw15.OrderMatchesReference', WHERE WHAT IT READS IS OF BULK AT MOST 1048576: true; the input reads as it did. -/
def orderMatchesReferenceUptoRow : OpenClaim := { program := "ytnidcoinfmcffaadoor", sum := "8529037b6ef81c2a3daf4d2dea3d93fe0eaf0add683f60b66a2d85017a643b71", func := "putlog/putloglaw15.OrderMatchesReference", spec := "orderMatchesReference", unfollowed := true, recurses := true, named := ["math/bits.deBruijn32tab", "math/bits.deBruijn64tab"], apart := false, laid := [("math/bits.deBruijn32tab", laid_math_bits_deBruijn32tab), ("math/bits.deBruijn64tab", laid_math_bits_deBruijn64tab)], narrowed := true }
def OrderMatchesReferenceUptoSaid : Prop := orderMatchesReferenceUptoRow.holds Tryd.pinned (OpenSpec.upto orderMatchesReferenceSpec)

/-- 'putloglaw15.OrderLines', WHERE WHAT IT READS IS OF BULK AT MOST 1048576: true; the input reads as it did. -/
def orderLinesUptoRow : OpenClaim := { program := "ytnidcoinfmcffaadoor", sum := "8529037b6ef81c2a3daf4d2dea3d93fe0eaf0add683f60b66a2d85017a643b71", func := "putlog/putloglaw15.OrderLines", spec := "orderLines", unfollowed := true, recurses := true, named := ["math/bits.deBruijn32tab", "math/bits.deBruijn64tab"], apart := false, laid := [("math/bits.deBruijn32tab", laid_math_bits_deBruijn32tab), ("math/bits.deBruijn64tab", laid_math_bits_deBruijn64tab)], narrowed := true }
def OrderLinesUptoSaid : Prop := orderLinesUptoRow.holds Tryd.pinned (OpenSpec.upto orderLinesSpec)

/-- 'putloglaw15.OrderReduces', WHERE WHAT IT READS IS OF BULK AT MOST 1048576: true; the input reads as it did. -/
def orderReducesUptoRow : OpenClaim := { program := "ytnidcoinfmcffaadoor", sum := "8529037b6ef81c2a3daf4d2dea3d93fe0eaf0add683f60b66a2d85017a643b71", func := "putlog/putloglaw15.OrderReduces", spec := "orderReduces", unfollowed := true, recurses := true, named := ["math/bits.deBruijn32tab", "math/bits.deBruijn64tab"], apart := false, laid := [("math/bits.deBruijn32tab", laid_math_bits_deBruijn32tab), ("math/bits.deBruijn64tab", laid_math_bits_deBruijn64tab)], narrowed := true }
def OrderReducesUptoSaid : Prop := orderReducesUptoRow.holds Tryd.pinned (OpenSpec.upto orderReducesSpec)

/-- 'putloglaw15.OrderMirsky', WHERE WHAT IT READS IS OF BULK AT MOST 1048576: true; the input reads as it did. -/
def orderMirskyUptoRow : OpenClaim := { program := "ytnidcoinfmcffaadoor", sum := "8529037b6ef81c2a3daf4d2dea3d93fe0eaf0add683f60b66a2d85017a643b71", func := "putlog/putloglaw15.OrderMirsky", spec := "orderMirsky", unfollowed := true, recurses := true, named := ["math/bits.deBruijn32tab", "math/bits.deBruijn64tab"], apart := false, laid := [("math/bits.deBruijn32tab", laid_math_bits_deBruijn32tab), ("math/bits.deBruijn64tab", laid_math_bits_deBruijn64tab)], narrowed := true }
def OrderMirskyUptoSaid : Prop := orderMirskyUptoRow.holds Tryd.pinned (OpenSpec.upto orderMirskySpec)

/-- 'putloglaw15.OrderDilworth', WHERE WHAT IT READS IS OF BULK AT MOST 1048576: true; the input reads as it did. -/
def orderDilworthUptoRow : OpenClaim := { program := "ytnidcoinfmcffaadoor", sum := "8529037b6ef81c2a3daf4d2dea3d93fe0eaf0add683f60b66a2d85017a643b71", func := "putlog/putloglaw15.OrderDilworth", spec := "orderDilworth", unfollowed := true, recurses := true, named := ["math/bits.deBruijn32tab", "math/bits.deBruijn64tab"], apart := false, laid := [("math/bits.deBruijn32tab", laid_math_bits_deBruijn32tab), ("math/bits.deBruijn64tab", laid_math_bits_deBruijn64tab)], narrowed := true }
def OrderDilworthUptoSaid : Prop := orderDilworthUptoRow.holds Tryd.pinned (OpenSpec.upto orderDilworthSpec)

/-- 'putloglaw15.OrderCycles', WHERE WHAT IT READS IS OF BULK AT MOST 1048576: true; the input reads as it did. -/
def orderCyclesUptoRow : OpenClaim := { program := "ytnidcoinfmcffaadoor", sum := "8529037b6ef81c2a3daf4d2dea3d93fe0eaf0add683f60b66a2d85017a643b71", func := "putlog/putloglaw15.OrderCycles", spec := "orderCycles", unfollowed := true, recurses := true, named := ["math/bits.deBruijn32tab", "math/bits.deBruijn64tab"], apart := false, laid := [("math/bits.deBruijn32tab", laid_math_bits_deBruijn32tab), ("math/bits.deBruijn64tab", laid_math_bits_deBruijn64tab)], narrowed := true }
def OrderCyclesUptoSaid : Prop := orderCyclesUptoRow.holds Tryd.pinned (OpenSpec.upto orderCyclesSpec)

/-- 'putloglaw15.OrderSplits', WHERE WHAT IT READS IS OF BULK AT MOST 1048576: true; the input reads as it did. -/
def orderSplitsUptoRow : OpenClaim := { program := "ytnidcoinfmcffaadoor", sum := "8529037b6ef81c2a3daf4d2dea3d93fe0eaf0add683f60b66a2d85017a643b71", func := "putlog/putloglaw15.OrderSplits", spec := "orderSplits", unfollowed := true, recurses := true, named := ["math/bits.deBruijn32tab", "math/bits.deBruijn64tab"], apart := false, laid := [("math/bits.deBruijn32tab", laid_math_bits_deBruijn32tab), ("math/bits.deBruijn64tab", laid_math_bits_deBruijn64tab)], narrowed := true }
def OrderSplitsUptoSaid : Prop := orderSplitsUptoRow.holds Tryd.pinned (OpenSpec.upto orderSplitsSpec)

/-- 'putloglaw15.OrderLattice', WHERE WHAT IT READS IS OF BULK AT MOST 1048576: true; the input reads as it did. -/
def orderLatticeUptoRow : OpenClaim := { program := "ytnidcoinfmcffaadoor", sum := "8529037b6ef81c2a3daf4d2dea3d93fe0eaf0add683f60b66a2d85017a643b71", func := "putlog/putloglaw15.OrderLattice", spec := "orderLattice", unfollowed := true, recurses := true, named := ["math/bits.deBruijn32tab", "math/bits.deBruijn64tab"], apart := false, laid := [("math/bits.deBruijn32tab", laid_math_bits_deBruijn32tab), ("math/bits.deBruijn64tab", laid_math_bits_deBruijn64tab)], narrowed := true }
def OrderLatticeUptoSaid : Prop := orderLatticeUptoRow.holds Tryd.pinned (OpenSpec.upto orderLatticeSpec)

end Rows
end Go.Proofs.YtnidcoinfmcffaaDoor
