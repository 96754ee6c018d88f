/-
  NARROWER THAN 'FOR EVERY INPUT', by the rows' own cells (each row's printed sentence says how): RegisterMatchesReference: laid · RegisterSound: laid · RegisterFits: laid · RegisterWitnesses: laid · RegisterInverts: laid · RegisterNarrows: laid · RegisterBlames: laid · RegisterChains: laid.
  DERIVED. THE GIVEN ROWS OF THIS SEAT. 8 by the template 'for every input the law returns true; each argument reads behind the call as it read before'; 0 by the template 'total and deterministic' (their statements: YtoofkahklboojaaDoorTotals.lean).
  GIVEN WITH THE SEED: the statements are not yours to turn. If you find one false, say at which input.
  Laid BY PROGRAM, IN A SANDBOX (cutbox-rows.mjs): the forced cells as the released guide's own fill.sh prints them over the translation fabfb6da1f7bb775… (all of the seat's roots in one cut). By AI agents, Wed Nov 11 2026. No macro, syntax, notation, axiom, sorry.
-/
import Derived.Test.YtoofkahklboojaaDoorChecked
import GoSem.Claim
import GoSem.ClaimJoined
import GoSem.ClaimMapViews
import Derived.JoinedTies
import Derived.KernelRfl
namespace Go.Proofs.YtoofkahklboojaaDoor
/- THE CELL 'sum', in the pinned program and in every row, IS THE sha256 OF THE DUMP (.gsa) THAT YtoofkahklboojaaDoorProg.lean LOADS. Nothing in Lean hashes anything: it is a label: what it is worth is what the hold of that sum in a sandbox is worth. -/
noncomputable def Tryd.pinned : Pinned := { name := "ytoofkahklboojaadoor", sum := "fabfb6da1f7bb77577284005b516a61561896de707b9919e6dd0982165771dbf", checked := Tryd.checked }
namespace Rows
def none {H : Type} : Left H := { results := [], args := [] }

/- WHAT THE LISTED PACKAGE-LEVEL VARIABLES READ AS WHEN THE CALL BEGINS. Each datum BY PROGRAM (the guide's laid-datum.mjs) off the statement by which the dump's own 'gosem.cut.vars' lays the variable. In a bare row this is a premise. The card (YtoofkahklboojaaDoorCards.lean) ties it to the program's text. -/
def laid_putlog_register_turns {H : Type} : DataW H := .agg [.agg [.agg [.lit (.int .i64 1), .lit (.int .i64 0)], .agg [.lit (.int .i64 0), .lit (.int .i64 1)]], .agg [.agg [.lit (.int .i64 0), .lit (.int .i64 (-1))], .agg [.lit (.int .i64 1), .lit (.int .i64 0)]], .agg [.agg [.lit (.int .i64 (-1)), .lit (.int .i64 0)], .agg [.lit (.int .i64 0), .lit (.int .i64 (-1))]], .agg [.agg [.lit (.int .i64 0), .lit (.int .i64 1)], .agg [.lit (.int .i64 (-1)), .lit (.int .i64 0)]]]
def laid_putlog_register_everywhere {H : Type} : DataW H := .agg [.agg [.lit (.int .i64 (-5000)), .lit (.int .i64 5000)], .agg [.lit (.int .i64 (-5000)), .lit (.int .i64 5000)]]

/-- 'putloglaw11.RegisterMatchesReference': WHATEVER THE INPUT: true; the input reads as it did. -/
def registerMatchesReferenceSpec : ChangeSpec := { name := "registerMatchesReference", fn := fun _ => fun
  | [d1, d2, d3, d4, d5, d6, d7] => { results := [.lit (.bool true)], args := [d1, d2, d3, d4, d5, d6, d7] }
  | _ => none }
def registerMatchesReferenceRow : OpenClaim := { program := "ytoofkahklboojaadoor", sum := "fabfb6da1f7bb77577284005b516a61561896de707b9919e6dd0982165771dbf", func := "putlog/putloglaw11.RegisterMatchesReference", spec := "registerMatchesReference", unfollowed := true, recurses := true, named := ["putlog/register.everywhere", "putlog/register.turns"], apart := false, laid := [("putlog/register.turns", laid_putlog_register_turns), ("putlog/register.everywhere", laid_putlog_register_everywhere)] }
def RegisterMatchesReferenceSaid : Prop := registerMatchesReferenceRow.holds Tryd.pinned (OpenSpec.ofChange registerMatchesReferenceSpec)

/-- ITS FALSE NEIGHBOUR: 'it returns false'. Refute it at one input. -/
def registerMatchesReferenceWrong : ChangeSpec := { name := "registerMatchesReference", fn := fun _ => fun
  | [d1, d2, d3, d4, d5, d6, d7] => { results := [.lit (.bool false)], args := [d1, d2, d3, d4, d5, d6, d7] }
  | _ => none }
def RegisterMatchesReferenceWrongFalsely : Prop := registerMatchesReferenceRow.holds Tryd.pinned (OpenSpec.ofChange registerMatchesReferenceWrong)

/-- 'putloglaw11.RegisterSound': WHATEVER THE INPUT: true; the input reads as it did. -/
def registerSoundSpec : ChangeSpec := { name := "registerSound", fn := fun _ => fun
  | [d] => { results := [.lit (.bool true)], args := [d] }
  | _ => none }
def registerSoundRow : OpenClaim := { program := "ytoofkahklboojaadoor", sum := "fabfb6da1f7bb77577284005b516a61561896de707b9919e6dd0982165771dbf", func := "putlog/putloglaw11.RegisterSound", spec := "registerSound", unfollowed := true, recurses := true, named := ["putlog/register.everywhere", "putlog/register.turns"], apart := false, laid := [("putlog/register.turns", laid_putlog_register_turns), ("putlog/register.everywhere", laid_putlog_register_everywhere)] }
def RegisterSoundSaid : Prop := registerSoundRow.holds Tryd.pinned (OpenSpec.ofChange registerSoundSpec)

/-- ITS FALSE NEIGHBOUR: 'it returns false'. Refute it at one input. -/
def registerSoundWrong : ChangeSpec := { name := "registerSound", fn := fun _ => fun
  | [d] => { results := [.lit (.bool false)], args := [d] }
  | _ => none }
def RegisterSoundWrongFalsely : Prop := registerSoundRow.holds Tryd.pinned (OpenSpec.ofChange registerSoundWrong)

/-- 'putloglaw11.RegisterFits': WHATEVER THE INPUT: true; the input reads as it did. -/
def registerFitsSpec : ChangeSpec := { name := "registerFits", fn := fun _ => fun
  | [d1, d2, d3, d4, d5] => { results := [.lit (.bool true)], args := [d1, d2, d3, d4, d5] }
  | _ => none }
def registerFitsRow : OpenClaim := { program := "ytoofkahklboojaadoor", sum := "fabfb6da1f7bb77577284005b516a61561896de707b9919e6dd0982165771dbf", func := "putlog/putloglaw11.RegisterFits", spec := "registerFits", unfollowed := true, recurses := true, named := ["putlog/register.everywhere", "putlog/register.turns"], apart := false, laid := [("putlog/register.turns", laid_putlog_register_turns), ("putlog/register.everywhere", laid_putlog_register_everywhere)] }
def RegisterFitsSaid : Prop := registerFitsRow.holds Tryd.pinned (OpenSpec.ofChange registerFitsSpec)

/-- ITS FALSE NEIGHBOUR: 'it returns false'. Refute it at one input. -/
def registerFitsWrong : ChangeSpec := { name := "registerFits", fn := fun _ => fun
  | [d1, d2, d3, d4, d5] => { results := [.lit (.bool false)], args := [d1, d2, d3, d4, d5] }
  | _ => none }
def RegisterFitsWrongFalsely : Prop := registerFitsRow.holds Tryd.pinned (OpenSpec.ofChange registerFitsWrong)

/-- 'putloglaw11.RegisterWitnesses': WHATEVER THE INPUT: true; the input reads as it did. -/
def registerWitnessesSpec : ChangeSpec := { name := "registerWitnesses", fn := fun _ => fun
  | [d1, d2, d3, d4] => { results := [.lit (.bool true)], args := [d1, d2, d3, d4] }
  | _ => none }
def registerWitnessesRow : OpenClaim := { program := "ytoofkahklboojaadoor", sum := "fabfb6da1f7bb77577284005b516a61561896de707b9919e6dd0982165771dbf", func := "putlog/putloglaw11.RegisterWitnesses", spec := "registerWitnesses", unfollowed := true, recurses := true, named := ["putlog/register.everywhere", "putlog/register.turns"], apart := false, laid := [("putlog/register.turns", laid_putlog_register_turns), ("putlog/register.everywhere", laid_putlog_register_everywhere)] }
def RegisterWitnessesSaid : Prop := registerWitnessesRow.holds Tryd.pinned (OpenSpec.ofChange registerWitnessesSpec)

/-- ITS FALSE NEIGHBOUR: 'it returns false'. Refute it at one input. -/
def registerWitnessesWrong : ChangeSpec := { name := "registerWitnesses", fn := fun _ => fun
  | [d1, d2, d3, d4] => { results := [.lit (.bool false)], args := [d1, d2, d3, d4] }
  | _ => none }
def RegisterWitnessesWrongFalsely : Prop := registerWitnessesRow.holds Tryd.pinned (OpenSpec.ofChange registerWitnessesWrong)

/-- 'putloglaw11.RegisterInverts': WHATEVER THE INPUT: true; the input reads as it did. -/
def registerInvertsSpec : ChangeSpec := { name := "registerInverts", fn := fun _ => fun
  | [d1, d2, d3, d4, d5, d6] => { results := [.lit (.bool true)], args := [d1, d2, d3, d4, d5, d6] }
  | _ => none }
def registerInvertsRow : OpenClaim := { program := "ytoofkahklboojaadoor", sum := "fabfb6da1f7bb77577284005b516a61561896de707b9919e6dd0982165771dbf", func := "putlog/putloglaw11.RegisterInverts", spec := "registerInverts", unfollowed := true, recurses := true, named := ["putlog/register.everywhere", "putlog/register.turns"], apart := false, laid := [("putlog/register.turns", laid_putlog_register_turns), ("putlog/register.everywhere", laid_putlog_register_everywhere)] }
def RegisterInvertsSaid : Prop := registerInvertsRow.holds Tryd.pinned (OpenSpec.ofChange registerInvertsSpec)

/-- ITS FALSE NEIGHBOUR: 'it returns false'. Refute it at one input. -/
def registerInvertsWrong : ChangeSpec := { name := "registerInverts", fn := fun _ => fun
  | [d1, d2, d3, d4, d5, d6] => { results := [.lit (.bool false)], args := [d1, d2, d3, d4, d5, d6] }
  | _ => none }
def RegisterInvertsWrongFalsely : Prop := registerInvertsRow.holds Tryd.pinned (OpenSpec.ofChange registerInvertsWrong)

/-- 'putloglaw11.RegisterNarrows': WHATEVER THE INPUT: true; the input reads as it did. -/
def registerNarrowsSpec : ChangeSpec := { name := "registerNarrows", fn := fun _ => fun
  | [d1, d2, d3, d4, d5] => { results := [.lit (.bool true)], args := [d1, d2, d3, d4, d5] }
  | _ => none }
def registerNarrowsRow : OpenClaim := { program := "ytoofkahklboojaadoor", sum := "fabfb6da1f7bb77577284005b516a61561896de707b9919e6dd0982165771dbf", func := "putlog/putloglaw11.RegisterNarrows", spec := "registerNarrows", unfollowed := true, recurses := true, named := ["putlog/register.everywhere", "putlog/register.turns"], apart := false, laid := [("putlog/register.turns", laid_putlog_register_turns), ("putlog/register.everywhere", laid_putlog_register_everywhere)] }
def RegisterNarrowsSaid : Prop := registerNarrowsRow.holds Tryd.pinned (OpenSpec.ofChange registerNarrowsSpec)

/-- ITS FALSE NEIGHBOUR: 'it returns false'. Refute it at one input. -/
def registerNarrowsWrong : ChangeSpec := { name := "registerNarrows", fn := fun _ => fun
  | [d1, d2, d3, d4, d5] => { results := [.lit (.bool false)], args := [d1, d2, d3, d4, d5] }
  | _ => none }
def RegisterNarrowsWrongFalsely : Prop := registerNarrowsRow.holds Tryd.pinned (OpenSpec.ofChange registerNarrowsWrong)

/-- 'putloglaw11.RegisterBlames': WHATEVER THE INPUT: true; the input reads as it did. -/
def registerBlamesSpec : ChangeSpec := { name := "registerBlames", fn := fun _ => fun
  | [d1, d2] => { results := [.lit (.bool true)], args := [d1, d2] }
  | _ => none }
def registerBlamesRow : OpenClaim := { program := "ytoofkahklboojaadoor", sum := "fabfb6da1f7bb77577284005b516a61561896de707b9919e6dd0982165771dbf", func := "putlog/putloglaw11.RegisterBlames", spec := "registerBlames", unfollowed := true, recurses := true, named := ["putlog/register.everywhere", "putlog/register.turns"], apart := false, laid := [("putlog/register.turns", laid_putlog_register_turns), ("putlog/register.everywhere", laid_putlog_register_everywhere)] }
def RegisterBlamesSaid : Prop := registerBlamesRow.holds Tryd.pinned (OpenSpec.ofChange registerBlamesSpec)

/-- ITS FALSE NEIGHBOUR: 'it returns false'. Refute it at one input. -/
def registerBlamesWrong : ChangeSpec := { name := "registerBlames", fn := fun _ => fun
  | [d1, d2] => { results := [.lit (.bool false)], args := [d1, d2] }
  | _ => none }
def RegisterBlamesWrongFalsely : Prop := registerBlamesRow.holds Tryd.pinned (OpenSpec.ofChange registerBlamesWrong)

/-- 'putloglaw11.RegisterChains': WHATEVER THE INPUT: true; the input reads as it did. -/
def registerChainsSpec : ChangeSpec := { name := "registerChains", fn := fun _ => fun
  | [d1, d2, d3, d4] => { results := [.lit (.bool true)], args := [d1, d2, d3, d4] }
  | _ => none }
def registerChainsRow : OpenClaim := { program := "ytoofkahklboojaadoor", sum := "fabfb6da1f7bb77577284005b516a61561896de707b9919e6dd0982165771dbf", func := "putlog/putloglaw11.RegisterChains", spec := "registerChains", unfollowed := true, recurses := true, named := ["putlog/register.everywhere", "putlog/register.turns"], apart := false, laid := [("putlog/register.turns", laid_putlog_register_turns), ("putlog/register.everywhere", laid_putlog_register_everywhere)] }
def RegisterChainsSaid : Prop := registerChainsRow.holds Tryd.pinned (OpenSpec.ofChange registerChainsSpec)

/-- ITS FALSE NEIGHBOUR: 'it returns false'. Refute it at one input. -/
def registerChainsWrong : ChangeSpec := { name := "registerChains", fn := fun _ => fun
  | [d1, d2, d3, d4] => { results := [.lit (.bool false)], args := [d1, d2, d3, d4] }
  | _ => none }
def RegisterChainsWrongFalsely : Prop := registerChainsRow.holds Tryd.pinned (OpenSpec.ofChange registerChainsWrong)

/- THE SECOND FORM. 'bulk': how many values and letters a reading holds, each counted each time it is reached (what is shared counts as often as it is met; a slice's spare places count too). A statement '..UptoSaid' is the law's where the arguments, and the package variables that the reading takes, are together of bulk at most 1048576: NARROWER than '..Said'. Prove '..Said' where nothing that the law and all that it calls make is longer than what came in: it says more and counts as full. Else prove '..UptoSaid'. A law counts once. -/
mutual
def uptoBulk {H : Type} : DataW H → Nat
  | .lit (.string bytes) => bytes.length + 1
  | .lit _ => 1
  | .nil => 1
  | .ptr d => uptoBulk d + 1
  | .slice elems spare => uptoBulkAll elems + uptoBulkAll spare + 1
  | .agg parts => uptoBulkAll parts + 1
  | .iface _ d => uptoBulk d + 1
  | .map entries => uptoBulkEntries entries + 1
  | .held _ => 1
def uptoBulkAll {H : Type} : List (DataW H) → Nat
  | [] => 0
  | d :: r => uptoBulk d + uptoBulkAll r
def uptoBulkEntries {H : Type} : List (Lit × DataW H) → Nat
  | [] => 0
  | x :: r => uptoBulkEntry x + uptoBulkEntries r
def uptoBulkEntry {H : Type} : Lit × DataW H → Nat
  | (.string bytes, d) => bytes.length + uptoBulk d + 1
  | (_, d) => uptoBulk d + 1
 end
def uptoSmall : (H : Type) → List (DataW H) → Bool := fun _ ds => decide (uptoBulkAll ds ≤ 1048576)
def OpenSpec.upto (s : _root_.Go.ChangeSpec) : _root_.Go.OpenSpec := { _root_.Go.OpenSpec.ofChange s with cond := some uptoSmall }

/-- 'putloglaw11.RegisterMatchesReference', WHERE WHAT IT READS IS OF BULK AT MOST 1048576: true; the input reads as it did. -/
def registerMatchesReferenceUptoRow : OpenClaim := { program := "ytoofkahklboojaadoor", sum := "fabfb6da1f7bb77577284005b516a61561896de707b9919e6dd0982165771dbf", func := "putlog/putloglaw11.RegisterMatchesReference", spec := "registerMatchesReference", unfollowed := true, recurses := true, named := ["putlog/register.everywhere", "putlog/register.turns"], apart := false, laid := [("putlog/register.turns", laid_putlog_register_turns), ("putlog/register.everywhere", laid_putlog_register_everywhere)], narrowed := true }
def RegisterMatchesReferenceUptoSaid : Prop := registerMatchesReferenceUptoRow.holds Tryd.pinned (OpenSpec.upto registerMatchesReferenceSpec)

/-- 'putloglaw11.RegisterSound', WHERE WHAT IT READS IS OF BULK AT MOST 1048576: true; the input reads as it did. -/
def registerSoundUptoRow : OpenClaim := { program := "ytoofkahklboojaadoor", sum := "fabfb6da1f7bb77577284005b516a61561896de707b9919e6dd0982165771dbf", func := "putlog/putloglaw11.RegisterSound", spec := "registerSound", unfollowed := true, recurses := true, named := ["putlog/register.everywhere", "putlog/register.turns"], apart := false, laid := [("putlog/register.turns", laid_putlog_register_turns), ("putlog/register.everywhere", laid_putlog_register_everywhere)], narrowed := true }
def RegisterSoundUptoSaid : Prop := registerSoundUptoRow.holds Tryd.pinned (OpenSpec.upto registerSoundSpec)

/-- 'putloglaw11.RegisterFits', WHERE WHAT IT READS IS OF BULK AT MOST 1048576: true; the input reads as it did. -/
def registerFitsUptoRow : OpenClaim := { program := "ytoofkahklboojaadoor", sum := "fabfb6da1f7bb77577284005b516a61561896de707b9919e6dd0982165771dbf", func := "putlog/putloglaw11.RegisterFits", spec := "registerFits", unfollowed := true, recurses := true, named := ["putlog/register.everywhere", "putlog/register.turns"], apart := false, laid := [("putlog/register.turns", laid_putlog_register_turns), ("putlog/register.everywhere", laid_putlog_register_everywhere)], narrowed := true }
def RegisterFitsUptoSaid : Prop := registerFitsUptoRow.holds Tryd.pinned (OpenSpec.upto registerFitsSpec)

/-- 'putloglaw11.RegisterWitnesses', WHERE WHAT IT READS IS OF BULK AT MOST 1048576: true; the input reads as it did. -/
def registerWitnessesUptoRow : OpenClaim := { program := "ytoofkahklboojaadoor", sum := "fabfb6da1f7bb77577284005b516a61561896de707b9919e6dd0982165771dbf", func := "putlog/putloglaw11.RegisterWitnesses", spec := "registerWitnesses", unfollowed := true, recurses := true, named := ["putlog/register.everywhere", "putlog/register.turns"], apart := false, laid := [("putlog/register.turns", laid_putlog_register_turns), ("putlog/register.everywhere", laid_putlog_register_everywhere)], narrowed := true }
def RegisterWitnessesUptoSaid : Prop := registerWitnessesUptoRow.holds Tryd.pinned (OpenSpec.upto registerWitnessesSpec)

/-- 'putloglaw11.RegisterInverts', WHERE WHAT IT READS IS OF BULK AT MOST 1048576: true; the input reads as it did. -/
def registerInvertsUptoRow : OpenClaim := { program := "ytoofkahklboojaadoor", sum := "fabfb6da1f7bb77577284005b516a61561896de707b9919e6dd0982165771dbf", func := "putlog/putloglaw11.RegisterInverts", spec := "registerInverts", unfollowed := true, recurses := true, named := ["putlog/register.everywhere", "putlog/register.turns"], apart := false, laid := [("putlog/register.turns", laid_putlog_register_turns), ("putlog/register.everywhere", laid_putlog_register_everywhere)], narrowed := true }
def RegisterInvertsUptoSaid : Prop := registerInvertsUptoRow.holds Tryd.pinned (OpenSpec.upto registerInvertsSpec)

/-- 'putloglaw11.RegisterNarrows', WHERE WHAT IT READS IS OF BULK AT MOST 1048576: true; the input reads as it did. -/
def registerNarrowsUptoRow : OpenClaim := { program := "ytoofkahklboojaadoor", sum := "fabfb6da1f7bb77577284005b516a61561896de707b9919e6dd0982165771dbf", func := "putlog/putloglaw11.RegisterNarrows", spec := "registerNarrows", unfollowed := true, recurses := true, named := ["putlog/register.everywhere", "putlog/register.turns"], apart := false, laid := [("putlog/register.turns", laid_putlog_register_turns), ("putlog/register.everywhere", laid_putlog_register_everywhere)], narrowed := true }
def RegisterNarrowsUptoSaid : Prop := registerNarrowsUptoRow.holds Tryd.pinned (OpenSpec.upto registerNarrowsSpec)

/-- 'putloglaw11.RegisterBlames', WHERE WHAT IT READS IS OF BULK AT MOST 1048576: true; the input reads as it did. -/
def registerBlamesUptoRow : OpenClaim := { program := "ytoofkahklboojaadoor", sum := "fabfb6da1f7bb77577284005b516a61561896de707b9919e6dd0982165771dbf", func := "putlog/putloglaw11.RegisterBlames", spec := "registerBlames", unfollowed := true, recurses := true, named := ["putlog/register.everywhere", "putlog/register.turns"], apart := false, laid := [("putlog/register.turns", laid_putlog_register_turns), ("putlog/register.everywhere", laid_putlog_register_everywhere)], narrowed := true }
def RegisterBlamesUptoSaid : Prop := registerBlamesUptoRow.holds Tryd.pinned (OpenSpec.upto registerBlamesSpec)

/-- 'putloglaw11.RegisterChains', WHERE WHAT IT READS IS OF BULK AT MOST 1048576: true; the input reads as it did. -/
def registerChainsUptoRow : OpenClaim := { program := "ytoofkahklboojaadoor", sum := "fabfb6da1f7bb77577284005b516a61561896de707b9919e6dd0982165771dbf", func := "putlog/putloglaw11.RegisterChains", spec := "registerChains", unfollowed := true, recurses := true, named := ["putlog/register.everywhere", "putlog/register.turns"], apart := false, laid := [("putlog/register.turns", laid_putlog_register_turns), ("putlog/register.everywhere", laid_putlog_register_everywhere)], narrowed := true }
def RegisterChainsUptoSaid : Prop := registerChainsUptoRow.holds Tryd.pinned (OpenSpec.upto registerChainsSpec)

end Rows
end Go.Proofs.YtoofkahklboojaaDoor
