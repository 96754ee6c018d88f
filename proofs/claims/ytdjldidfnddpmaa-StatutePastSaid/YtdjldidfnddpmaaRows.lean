/-
  No cell of these rows narrows 'for every input' (looked for: loops, veiled, ifaces, maps, wideKeys, modest, calm, conditions, laid).
  DERIVED. THE GIVEN ROWS OF THIS SEAT. 5 by the template 'for every input the law returns true; each argument reads behind the call as it read before'; 0 by the template 'total and deterministic' (their statements: YtdjldidfnddpmaaTotals.lean).
  GIVEN WITH THE SEED: the statements are not yours to turn. If you find one false, say at which input.
  Laid BY PROGRAM, IN A SANDBOX (cutbox-rows.mjs): the forced cells as the released guide's own fill.sh prints them over the translation e47cf0ee0bc6090a… (all of the seat's roots in one cut). By AI agents, Wed Nov 11 2026. No macro, syntax, notation, axiom, sorry.
-/
import Derived.Test.YtdjldidfnddpmaaChecked
import GoSem.Claim
import GoSem.ClaimJoined
import GoSem.ClaimMapViews
import Derived.JoinedTies
import Derived.KernelRfl
namespace Go.Proofs.Ytdjldidfnddpmaa
/- THE CELL 'sum', in the pinned program and in every row, IS THE sha256 OF THE DUMP (.gsa) THAT YtdjldidfnddpmaaProg.lean LOADS. Nothing in Lean hashes anything: it is a label: what it is worth is what the hold of that sum in a sandbox is worth. -/
noncomputable def Try.pinned : Pinned := { name := "ytdjldidfnddpmaa", sum := "e47cf0ee0bc6090a49cff2d0fb9e0606750ac30923bfbe3aa62ca742b9b0e71c", checked := Try.checked }
namespace Rows
def none {H : Type} : Left H := { results := [], args := [] }

/-- 'putloglaw31.StatuteOne': WHATEVER THE INPUT: true; the input reads as it did. -/
def statuteOneSpec : ChangeSpec := { name := "statuteOne", fn := fun _ => fun
  | [d1, d2, d3, d4, d5, d6] => { results := [.lit (.bool true)], args := [d1, d2, d3, d4, d5, d6] }
  | _ => none }
def statuteOneRow : OpenClaim := { program := "ytdjldidfnddpmaa", sum := "e47cf0ee0bc6090a49cff2d0fb9e0606750ac30923bfbe3aa62ca742b9b0e71c", func := "putlog/putloglaw31.StatuteOne", spec := "statuteOne", unfollowed := true, recurses := true, apart := false }
def StatuteOneSaid : Prop := statuteOneRow.holds Try.pinned (OpenSpec.ofChange statuteOneSpec)

/-- ITS FALSE NEIGHBOUR: 'it returns false'. Refute it at one input. -/
def statuteOneWrong : ChangeSpec := { name := "statuteOne", fn := fun _ => fun
  | [d1, d2, d3, d4, d5, d6] => { results := [.lit (.bool false)], args := [d1, d2, d3, d4, d5, d6] }
  | _ => none }
def StatuteOneWrongFalsely : Prop := statuteOneRow.holds Try.pinned (OpenSpec.ofChange statuteOneWrong)

/-- 'putloglaw31.StatutePast': WHATEVER THE INPUT: true; the input reads as it did. -/
def statutePastSpec : ChangeSpec := { name := "statutePast", fn := fun _ => fun
  | [d1, d2, d3, d4, d5, d6] => { results := [.lit (.bool true)], args := [d1, d2, d3, d4, d5, d6] }
  | _ => none }
def statutePastRow : OpenClaim := { program := "ytdjldidfnddpmaa", sum := "e47cf0ee0bc6090a49cff2d0fb9e0606750ac30923bfbe3aa62ca742b9b0e71c", func := "putlog/putloglaw31.StatutePast", spec := "statutePast", unfollowed := true, recurses := true, apart := false }
def StatutePastSaid : Prop := statutePastRow.holds Try.pinned (OpenSpec.ofChange statutePastSpec)

/-- ITS FALSE NEIGHBOUR: 'it returns false'. Refute it at one input. -/
def statutePastWrong : ChangeSpec := { name := "statutePast", fn := fun _ => fun
  | [d1, d2, d3, d4, d5, d6] => { results := [.lit (.bool false)], args := [d1, d2, d3, d4, d5, d6] }
  | _ => none }
def StatutePastWrongFalsely : Prop := statutePastRow.holds Try.pinned (OpenSpec.ofChange statutePastWrong)

/-- 'putloglaw31.StatuteLeans': WHATEVER THE INPUT: true; the input reads as it did. -/
def statuteLeansSpec : ChangeSpec := { name := "statuteLeans", fn := fun _ => fun
  | [d1, d2] => { results := [.lit (.bool true)], args := [d1, d2] }
  | _ => none }
def statuteLeansRow : OpenClaim := { program := "ytdjldidfnddpmaa", sum := "e47cf0ee0bc6090a49cff2d0fb9e0606750ac30923bfbe3aa62ca742b9b0e71c", func := "putlog/putloglaw31.StatuteLeans", spec := "statuteLeans", unfollowed := true, recurses := true, apart := false }
def StatuteLeansSaid : Prop := statuteLeansRow.holds Try.pinned (OpenSpec.ofChange statuteLeansSpec)

/-- ITS FALSE NEIGHBOUR: 'it returns false'. Refute it at one input. -/
def statuteLeansWrong : ChangeSpec := { name := "statuteLeans", fn := fun _ => fun
  | [d1, d2] => { results := [.lit (.bool false)], args := [d1, d2] }
  | _ => none }
def StatuteLeansWrongFalsely : Prop := statuteLeansRow.holds Try.pinned (OpenSpec.ofChange statuteLeansWrong)

/-- 'putloglaw31.StatuteSpare': WHATEVER THE INPUT: true; the input reads as it did. -/
def statuteSpareSpec : ChangeSpec := { name := "statuteSpare", fn := fun _ => fun
  | [d1, d2] => { results := [.lit (.bool true)], args := [d1, d2] }
  | _ => none }
def statuteSpareRow : OpenClaim := { program := "ytdjldidfnddpmaa", sum := "e47cf0ee0bc6090a49cff2d0fb9e0606750ac30923bfbe3aa62ca742b9b0e71c", func := "putlog/putloglaw31.StatuteSpare", spec := "statuteSpare", unfollowed := true, recurses := true, apart := false }
def StatuteSpareSaid : Prop := statuteSpareRow.holds Try.pinned (OpenSpec.ofChange statuteSpareSpec)

/-- ITS FALSE NEIGHBOUR: 'it returns false'. Refute it at one input. -/
def statuteSpareWrong : ChangeSpec := { name := "statuteSpare", fn := fun _ => fun
  | [d1, d2] => { results := [.lit (.bool false)], args := [d1, d2] }
  | _ => none }
def StatuteSpareWrongFalsely : Prop := statuteSpareRow.holds Try.pinned (OpenSpec.ofChange statuteSpareWrong)

/-- 'putloglaw31.StatuteExceptions': WHATEVER THE INPUT: true; the input reads as it did. -/
def statuteExceptionsSpec : ChangeSpec := { name := "statuteExceptions", fn := fun _ => fun
  | [d1, d2, d3, d4, d5] => { results := [.lit (.bool true)], args := [d1, d2, d3, d4, d5] }
  | _ => none }
def statuteExceptionsRow : OpenClaim := { program := "ytdjldidfnddpmaa", sum := "e47cf0ee0bc6090a49cff2d0fb9e0606750ac30923bfbe3aa62ca742b9b0e71c", func := "putlog/putloglaw31.StatuteExceptions", spec := "statuteExceptions", unfollowed := true, recurses := true, apart := false }
def StatuteExceptionsSaid : Prop := statuteExceptionsRow.holds Try.pinned (OpenSpec.ofChange statuteExceptionsSpec)

/-- ITS FALSE NEIGHBOUR: 'it returns false'. Refute it at one input. -/
def statuteExceptionsWrong : ChangeSpec := { name := "statuteExceptions", fn := fun _ => fun
  | [d1, d2, d3, d4, d5] => { results := [.lit (.bool false)], args := [d1, d2, d3, d4, d5] }
  | _ => none }
def StatuteExceptionsWrongFalsely : Prop := statuteExceptionsRow.holds Try.pinned (OpenSpec.ofChange statuteExceptionsWrong)

/- THE SECOND FORM. 'bulk': how many values and letters a reading holds, each counted each time it is reached (what is shared counts as often as it is met; a slice's spare places count too). A statement '..UptoSaid' is the law's where the arguments, and the package variables that the reading takes, are together of bulk at most 1048576: NARROWER than '..Said'. Prove '..Said' where nothing that the law and all that it calls make is longer than what came in: it says more and counts as full. Else prove '..UptoSaid'. A law counts once. -/
mutual
def uptoBulk {H : Type} : DataW H → Nat
  | .lit (.string bytes) => bytes.length + 1
  | .lit _ => 1
  | .nil => 1
  | .ptr d => uptoBulk d + 1
  | .slice elems spare => uptoBulkAll elems + uptoBulkAll spare + 1
  | .agg parts => uptoBulkAll parts + 1
  | .iface _ d => uptoBulk d + 1
  | .map entries => uptoBulkEntries entries + 1
  | .held _ => 1
def uptoBulkAll {H : Type} : List (DataW H) → Nat
  | [] => 0
  | d :: r => uptoBulk d + uptoBulkAll r
def uptoBulkEntries {H : Type} : List (Lit × DataW H) → Nat
  | [] => 0
  | x :: r => uptoBulkEntry x + uptoBulkEntries r
def uptoBulkEntry {H : Type} : Lit × DataW H → Nat
  | (.string bytes, d) => bytes.length + uptoBulk d + 1
  | (_, d) => uptoBulk d + 1
 end
def uptoSmall : (H : Type) → List (DataW H) → Bool := fun _ ds => decide (uptoBulkAll ds ≤ 1048576)
def OpenSpec.upto (s : _root_.Go.ChangeSpec) : _root_.Go.OpenSpec := { _root_.Go.OpenSpec.ofChange s with cond := some uptoSmall }

/-- 'putloglaw31.StatuteOne', WHERE WHAT IT READS IS OF BULK AT MOST 1048576: true; the input reads as it did. -/
def statuteOneUptoRow : OpenClaim := { program := "ytdjldidfnddpmaa", sum := "e47cf0ee0bc6090a49cff2d0fb9e0606750ac30923bfbe3aa62ca742b9b0e71c", func := "putlog/putloglaw31.StatuteOne", spec := "statuteOne", unfollowed := true, recurses := true, apart := false, narrowed := true }
def StatuteOneUptoSaid : Prop := statuteOneUptoRow.holds Try.pinned (OpenSpec.upto statuteOneSpec)

/-- 'putloglaw31.StatutePast', WHERE WHAT IT READS IS OF BULK AT MOST 1048576: true; the input reads as it did. -/
def statutePastUptoRow : OpenClaim := { program := "ytdjldidfnddpmaa", sum := "e47cf0ee0bc6090a49cff2d0fb9e0606750ac30923bfbe3aa62ca742b9b0e71c", func := "putlog/putloglaw31.StatutePast", spec := "statutePast", unfollowed := true, recurses := true, apart := false, narrowed := true }
def StatutePastUptoSaid : Prop := statutePastUptoRow.holds Try.pinned (OpenSpec.upto statutePastSpec)

/-- 'putloglaw31.StatuteLeans', WHERE WHAT IT READS IS OF BULK AT MOST 1048576: true; the input reads as it did. -/
def statuteLeansUptoRow : OpenClaim := { program := "ytdjldidfnddpmaa", sum := "e47cf0ee0bc6090a49cff2d0fb9e0606750ac30923bfbe3aa62ca742b9b0e71c", func := "putlog/putloglaw31.StatuteLeans", spec := "statuteLeans", unfollowed := true, recurses := true, apart := false, narrowed := true }
def StatuteLeansUptoSaid : Prop := statuteLeansUptoRow.holds Try.pinned (OpenSpec.upto statuteLeansSpec)

/-- 'putloglaw31.StatuteSpare', WHERE WHAT IT READS IS OF BULK AT MOST 1048576: true; the input reads as it did. -/
def statuteSpareUptoRow : OpenClaim := { program := "ytdjldidfnddpmaa", sum := "e47cf0ee0bc6090a49cff2d0fb9e0606750ac30923bfbe3aa62ca742b9b0e71c", func := "putlog/putloglaw31.StatuteSpare", spec := "statuteSpare", unfollowed := true, recurses := true, apart := false, narrowed := true }
def StatuteSpareUptoSaid : Prop := statuteSpareUptoRow.holds Try.pinned (OpenSpec.upto statuteSpareSpec)

/-- 'putloglaw31.StatuteExceptions', WHERE WHAT IT READS IS OF BULK AT MOST 1048576: true; the input reads as it did. -/
def statuteExceptionsUptoRow : OpenClaim := { program := "ytdjldidfnddpmaa", sum := "e47cf0ee0bc6090a49cff2d0fb9e0606750ac30923bfbe3aa62ca742b9b0e71c", func := "putlog/putloglaw31.StatuteExceptions", spec := "statuteExceptions", unfollowed := true, recurses := true, apart := false, narrowed := true }
def StatuteExceptionsUptoSaid : Prop := statuteExceptionsUptoRow.holds Try.pinned (OpenSpec.upto statuteExceptionsSpec)

end Rows
end Go.Proofs.Ytdjldidfnddpmaa
