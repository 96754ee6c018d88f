/-
  No cell of these rows narrows 'for every input' (looked for: loops, veiled, ifaces, maps, wideKeys, modest, calm, conditions, laid).
  DERIVED. THE GIVEN ROWS OF THIS SEAT. 6 by the template 'for every input the law returns true; each argument reads behind the call as it read before'; 0 by the template 'total and deterministic' (their statements: YtppfdjjhloaopaaTotals.lean).
  GIVEN WITH THE SEED: the statements are not yours to turn. If you find one false, say at which input.
  Laid BY PROGRAM, IN A SANDBOX (cutbox-rows.mjs): the forced cells as the released guide's own fill.sh prints them over the translation 92a162fb99e029f7… (all of the seat's roots in one cut). By AI agents, Wed Nov 11 2026. No macro, syntax, notation, axiom, sorry.
-/
import Derived.Test.YtppfdjjhloaopaaChecked
import GoSem.Claim
import GoSem.ClaimJoined
import GoSem.ClaimMapViews
import Derived.JoinedTies
import Derived.KernelRfl
namespace Go.Proofs.Ytppfdjjhloaopaa
/- THE CELL 'sum', in the pinned program and in every row, IS THE sha256 OF THE DUMP (.gsa) THAT YtppfdjjhloaopaaProg.lean LOADS. Nothing in Lean hashes anything: it is a label: what it is worth is what the hold of that sum in a sandbox is worth. -/
noncomputable def Try.pinned : Pinned := { name := "ytppfdjjhloaopaa", sum := "92a162fb99e029f73ae2e988f4cd00bfaebadb3044aee1159aa79d721e20eace", checked := Try.checked }
namespace Rows
def none {H : Type} : Left H := { results := [], args := [] }

/-- 'putloglaw34.ProofMatchesReference': WHATEVER THE INPUT: true; the input reads as it did. -/
def proofMatchesReferenceSpec : ChangeSpec := { name := "proofMatchesReference", fn := fun _ => fun
  | [d1, d2, d3, d4, d5, d6, d7] => { results := [.lit (.bool true)], args := [d1, d2, d3, d4, d5, d6, d7] }
  | _ => none }
def proofMatchesReferenceRow : OpenClaim := { program := "ytppfdjjhloaopaa", sum := "92a162fb99e029f73ae2e988f4cd00bfaebadb3044aee1159aa79d721e20eace", func := "putlog/putloglaw34.ProofMatchesReference", spec := "proofMatchesReference", unfollowed := true, recurses := true, apart := false }
def ProofMatchesReferenceSaid : Prop := proofMatchesReferenceRow.holds Try.pinned (OpenSpec.ofChange proofMatchesReferenceSpec)

/-- ITS FALSE NEIGHBOUR: 'it returns false'. Refute it at one input. -/
def proofMatchesReferenceWrong : ChangeSpec := { name := "proofMatchesReference", fn := fun _ => fun
  | [d1, d2, d3, d4, d5, d6, d7] => { results := [.lit (.bool false)], args := [d1, d2, d3, d4, d5, d6, d7] }
  | _ => none }
def ProofMatchesReferenceWrongFalsely : Prop := proofMatchesReferenceRow.holds Try.pinned (OpenSpec.ofChange proofMatchesReferenceWrong)

/-- 'putloglaw34.ProofWeights': WHATEVER THE INPUT: true; the input reads as it did. -/
def proofWeightsSpec : ChangeSpec := { name := "proofWeights", fn := fun _ => fun
  | [d1, d2, d3, d4, d5, d6, d7] => { results := [.lit (.bool true)], args := [d1, d2, d3, d4, d5, d6, d7] }
  | _ => none }
def proofWeightsRow : OpenClaim := { program := "ytppfdjjhloaopaa", sum := "92a162fb99e029f73ae2e988f4cd00bfaebadb3044aee1159aa79d721e20eace", func := "putlog/putloglaw34.ProofWeights", spec := "proofWeights", unfollowed := true, recurses := true, apart := false }
def ProofWeightsSaid : Prop := proofWeightsRow.holds Try.pinned (OpenSpec.ofChange proofWeightsSpec)

/-- ITS FALSE NEIGHBOUR: 'it returns false'. Refute it at one input. -/
def proofWeightsWrong : ChangeSpec := { name := "proofWeights", fn := fun _ => fun
  | [d1, d2, d3, d4, d5, d6, d7] => { results := [.lit (.bool false)], args := [d1, d2, d3, d4, d5, d6, d7] }
  | _ => none }
def ProofWeightsWrongFalsely : Prop := proofWeightsRow.holds Try.pinned (OpenSpec.ofChange proofWeightsWrong)

/-- 'putloglaw34.ProofSound': WHATEVER THE INPUT: true; the input reads as it did. -/
def proofSoundSpec : ChangeSpec := { name := "proofSound", fn := fun _ => fun
  | [d1, d2, d3, d4, d5, d6, d7] => { results := [.lit (.bool true)], args := [d1, d2, d3, d4, d5, d6, d7] }
  | _ => none }
def proofSoundRow : OpenClaim := { program := "ytppfdjjhloaopaa", sum := "92a162fb99e029f73ae2e988f4cd00bfaebadb3044aee1159aa79d721e20eace", func := "putlog/putloglaw34.ProofSound", spec := "proofSound", unfollowed := true, recurses := true, apart := false }
def ProofSoundSaid : Prop := proofSoundRow.holds Try.pinned (OpenSpec.ofChange proofSoundSpec)

/-- ITS FALSE NEIGHBOUR: 'it returns false'. Refute it at one input. -/
def proofSoundWrong : ChangeSpec := { name := "proofSound", fn := fun _ => fun
  | [d1, d2, d3, d4, d5, d6, d7] => { results := [.lit (.bool false)], args := [d1, d2, d3, d4, d5, d6, d7] }
  | _ => none }
def ProofSoundWrongFalsely : Prop := proofSoundRow.holds Try.pinned (OpenSpec.ofChange proofSoundWrong)

/-- 'putloglaw34.ProofComplete': WHATEVER THE INPUT: true; the input reads as it did. -/
def proofCompleteSpec : ChangeSpec := { name := "proofComplete", fn := fun _ => fun
  | [d1, d2, d3, d4] => { results := [.lit (.bool true)], args := [d1, d2, d3, d4] }
  | _ => none }
def proofCompleteRow : OpenClaim := { program := "ytppfdjjhloaopaa", sum := "92a162fb99e029f73ae2e988f4cd00bfaebadb3044aee1159aa79d721e20eace", func := "putlog/putloglaw34.ProofComplete", spec := "proofComplete", unfollowed := true, recurses := true, apart := false }
def ProofCompleteSaid : Prop := proofCompleteRow.holds Try.pinned (OpenSpec.ofChange proofCompleteSpec)

/-- ITS FALSE NEIGHBOUR: 'it returns false'. Refute it at one input. -/
def proofCompleteWrong : ChangeSpec := { name := "proofComplete", fn := fun _ => fun
  | [d1, d2, d3, d4] => { results := [.lit (.bool false)], args := [d1, d2, d3, d4] }
  | _ => none }
def ProofCompleteWrongFalsely : Prop := proofCompleteRow.holds Try.pinned (OpenSpec.ofChange proofCompleteWrong)

/-- 'putloglaw34.ProofMore': WHATEVER THE INPUT: true; the input reads as it did. -/
def proofMoreSpec : ChangeSpec := { name := "proofMore", fn := fun _ => fun
  | [d1, d2, d3, d4, d5] => { results := [.lit (.bool true)], args := [d1, d2, d3, d4, d5] }
  | _ => none }
def proofMoreRow : OpenClaim := { program := "ytppfdjjhloaopaa", sum := "92a162fb99e029f73ae2e988f4cd00bfaebadb3044aee1159aa79d721e20eace", func := "putlog/putloglaw34.ProofMore", spec := "proofMore", unfollowed := true, recurses := true, apart := false }
def ProofMoreSaid : Prop := proofMoreRow.holds Try.pinned (OpenSpec.ofChange proofMoreSpec)

/-- ITS FALSE NEIGHBOUR: 'it returns false'. Refute it at one input. -/
def proofMoreWrong : ChangeSpec := { name := "proofMore", fn := fun _ => fun
  | [d1, d2, d3, d4, d5] => { results := [.lit (.bool false)], args := [d1, d2, d3, d4, d5] }
  | _ => none }
def ProofMoreWrongFalsely : Prop := proofMoreRow.holds Try.pinned (OpenSpec.ofChange proofMoreWrong)

/-- 'putloglaw34.ProofUsed': WHATEVER THE INPUT: true; the input reads as it did. -/
def proofUsedSpec : ChangeSpec := { name := "proofUsed", fn := fun _ => fun
  | [d1, d2, d3, d4] => { results := [.lit (.bool true)], args := [d1, d2, d3, d4] }
  | _ => none }
def proofUsedRow : OpenClaim := { program := "ytppfdjjhloaopaa", sum := "92a162fb99e029f73ae2e988f4cd00bfaebadb3044aee1159aa79d721e20eace", func := "putlog/putloglaw34.ProofUsed", spec := "proofUsed", unfollowed := true, recurses := true, apart := false }
def ProofUsedSaid : Prop := proofUsedRow.holds Try.pinned (OpenSpec.ofChange proofUsedSpec)

/-- ITS FALSE NEIGHBOUR: 'it returns false'. Refute it at one input. -/
def proofUsedWrong : ChangeSpec := { name := "proofUsed", fn := fun _ => fun
  | [d1, d2, d3, d4] => { results := [.lit (.bool false)], args := [d1, d2, d3, d4] }
  | _ => none }
def ProofUsedWrongFalsely : Prop := proofUsedRow.holds Try.pinned (OpenSpec.ofChange proofUsedWrong)

/- THE SECOND FORM. 'bulk': how many values and letters a reading holds, each counted each time it is reached (what is shared counts as often as it is met; a slice's spare places count too). A statement '..UptoSaid' is the law's where the arguments, and the package variables that the reading takes, are together of bulk at most 1048576: NARROWER than '..Said'. Prove '..Said' where nothing that the law and all that it calls make is longer than what came in: it says more and counts as full. Else prove '..UptoSaid'. A law counts once. -/
mutual
def uptoBulk {H : Type} : DataW H → Nat
  | .lit (.string bytes) => bytes.length + 1
  | .lit _ => 1
  | .nil => 1
  | .ptr d => uptoBulk d + 1
  | .slice elems spare => uptoBulkAll elems + uptoBulkAll spare + 1
  | .agg parts => uptoBulkAll parts + 1
  | .iface _ d => uptoBulk d + 1
  | .map entries => uptoBulkEntries entries + 1
  | .held _ => 1
def uptoBulkAll {H : Type} : List (DataW H) → Nat
  | [] => 0
  | d :: r => uptoBulk d + uptoBulkAll r
def uptoBulkEntries {H : Type} : List (Lit × DataW H) → Nat
  | [] => 0
  | x :: r => uptoBulkEntry x + uptoBulkEntries r
def uptoBulkEntry {H : Type} : Lit × DataW H → Nat
  | (.string bytes, d) => bytes.length + uptoBulk d + 1
  | (_, d) => uptoBulk d + 1
 end
def uptoSmall : (H : Type) → List (DataW H) → Bool := fun _ ds => decide (uptoBulkAll ds ≤ 1048576)
def OpenSpec.upto (s : _root_.Go.ChangeSpec) : _root_.Go.OpenSpec := { _root_.Go.OpenSpec.ofChange s with cond := some uptoSmall }

/-- 'putloglaw34.ProofMatchesReference', WHERE WHAT IT READS IS OF BULK AT MOST 1048576: true; the input reads as it did. -/
def proofMatchesReferenceUptoRow : OpenClaim := { program := "ytppfdjjhloaopaa", sum := "92a162fb99e029f73ae2e988f4cd00bfaebadb3044aee1159aa79d721e20eace", func := "putlog/putloglaw34.ProofMatchesReference", spec := "proofMatchesReference", unfollowed := true, recurses := true, apart := false, narrowed := true }
def ProofMatchesReferenceUptoSaid : Prop := proofMatchesReferenceUptoRow.holds Try.pinned (OpenSpec.upto proofMatchesReferenceSpec)

/-- 'putloglaw34.ProofWeights', WHERE WHAT IT READS IS OF BULK AT MOST 1048576: true; the input reads as it did. -/
def proofWeightsUptoRow : OpenClaim := { program := "ytppfdjjhloaopaa", sum := "92a162fb99e029f73ae2e988f4cd00bfaebadb3044aee1159aa79d721e20eace", func := "putlog/putloglaw34.ProofWeights", spec := "proofWeights", unfollowed := true, recurses := true, apart := false, narrowed := true }
def ProofWeightsUptoSaid : Prop := proofWeightsUptoRow.holds Try.pinned (OpenSpec.upto proofWeightsSpec)

/-- 'putloglaw34.ProofSound', WHERE WHAT IT READS IS OF BULK AT MOST 1048576: true; the input reads as it did. -/
def proofSoundUptoRow : OpenClaim := { program := "ytppfdjjhloaopaa", sum := "92a162fb99e029f73ae2e988f4cd00bfaebadb3044aee1159aa79d721e20eace", func := "putlog/putloglaw34.ProofSound", spec := "proofSound", unfollowed := true, recurses := true, apart := false, narrowed := true }
def ProofSoundUptoSaid : Prop := proofSoundUptoRow.holds Try.pinned (OpenSpec.upto proofSoundSpec)

/-- 'putloglaw34.ProofComplete', WHERE WHAT IT READS IS OF BULK AT MOST 1048576: true; the input reads as it did. -/
def proofCompleteUptoRow : OpenClaim := { program := "ytppfdjjhloaopaa", sum := "92a162fb99e029f73ae2e988f4cd00bfaebadb3044aee1159aa79d721e20eace", func := "putlog/putloglaw34.ProofComplete", spec := "proofComplete", unfollowed := true, recurses := true, apart := false, narrowed := true }
def ProofCompleteUptoSaid : Prop := proofCompleteUptoRow.holds Try.pinned (OpenSpec.upto proofCompleteSpec)

/-- 'putloglaw34.ProofMore', WHERE WHAT IT READS IS OF BULK AT MOST 1048576: true; the input reads as it did. -/
def proofMoreUptoRow : OpenClaim := { program := "ytppfdjjhloaopaa", sum := "92a162fb99e029f73ae2e988f4cd00bfaebadb3044aee1159aa79d721e20eace", func := "putlog/putloglaw34.ProofMore", spec := "proofMore", unfollowed := true, recurses := true, apart := false, narrowed := true }
def ProofMoreUptoSaid : Prop := proofMoreUptoRow.holds Try.pinned (OpenSpec.upto proofMoreSpec)

/-- 'putloglaw34.ProofUsed', WHERE WHAT IT READS IS OF BULK AT MOST 1048576: true; the input reads as it did. -/
def proofUsedUptoRow : OpenClaim := { program := "ytppfdjjhloaopaa", sum := "92a162fb99e029f73ae2e988f4cd00bfaebadb3044aee1159aa79d721e20eace", func := "putlog/putloglaw34.ProofUsed", spec := "proofUsed", unfollowed := true, recurses := true, apart := false, narrowed := true }
def ProofUsedUptoSaid : Prop := proofUsedUptoRow.holds Try.pinned (OpenSpec.upto proofUsedSpec)

end Rows
end Go.Proofs.Ytppfdjjhloaopaa
