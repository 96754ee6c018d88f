/-
  DERIVED. GIVEN WITH THE SEED: THE CARDS: each row of YtdjldidfnddpmaaGreatDoorRows.lean that lists a variable, with what it lists TIED to the program's text (the seventh form; the later family's looks); each row that meets fmt, with fmt's text TOLD by the authors' own Lean function (tested against real Go, not proved from fmt's source: count such statements apart). THE CARD IS WHAT COUNTS. Prove the row's statement (the work); the ties are given (YtdjldidfnddpmaaGreatDoorTie.lean); close each card by the builder's one call (the guide's Derived/Test/ToyasCard.lean, 'card_holds'). Laid BY PROGRAM, IN A SANDBOX (cutbox-door.mjs). By AI agents, Wed Nov 11 2026. No macro, syntax, notation, axiom, sorry.
-/
import Derived.Test.YtdjldidfnddpmaaGreatDoorRows
import GoSem.ClaimSeven
namespace Go.Proofs.YtdjldidfnddpmaaGreatDoor
namespace Rows

/-- THE TIED CARD OF 'putloglaw31.StatuteJustifies'. -/
def statuteJustifiesCard : Claim7 := { stood := { row := statuteJustifiesRow, standIns := [], harness := (true, "78304fbb246e8804775f2c54728cc139bbd410111efc6731dbbb180c98523ef6"), looks := false }, kinds := [], alts := [], laidByText := true, laidKinds := [.data, .data], laidTests := true, laidLooks := .later }
def StatuteJustifiesCardSaid : Prop := Claim7.holds Tryz.pinned (.plain (OpenSpec.ofChange statuteJustifiesSpec)) statuteJustifiesCard

/-- THE SECOND FORM's CARD OF 'putloglaw31.StatuteJustifies'. -/
def statuteJustifiesUptoCard : Claim7 := { stood := { row := statuteJustifiesUptoRow, standIns := [], harness := (true, "78304fbb246e8804775f2c54728cc139bbd410111efc6731dbbb180c98523ef6"), looks := false }, kinds := [], alts := [], laidByText := true, laidKinds := [.data, .data], laidTests := true, laidLooks := .later }
def StatuteJustifiesUptoCardSaid : Prop := Claim7.holds Tryz.pinned (.plain (OpenSpec.upto statuteJustifiesSpec)) statuteJustifiesUptoCard
end Rows
end Go.Proofs.YtdjldidfnddpmaaGreatDoor
