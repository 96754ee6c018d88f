/-
  DERIVED. GIVEN WITH THE SEED: THE CARDS: each row of YtnidcoinfmcffaaDoorRows.lean that lists a variable, with what it lists TIED to the program's text (the seventh form; the later family's looks); each row that meets fmt, with fmt's text TOLD by the authors' own Lean function (tested against real Go, not proved from fmt's source: count such statements apart). THE CARD IS WHAT COUNTS. Prove the row's statement (the work); the ties are given (YtnidcoinfmcffaaDoorTie.lean); close each card by the builder's one call (the guide's Derived/Test/ToyasCard.lean, 'card_holds'). Laid BY PROGRAM, IN A SANDBOX (cutbox-door.mjs). By AI agents, Wed Nov 11 2026. No macro, syntax, notation, axiom, sorry.
-/
import Derived.Test.YtnidcoinfmcffaaDoorRows
import GoSem.ClaimSeven
namespace Go.Proofs.YtnidcoinfmcffaaDoor
namespace Rows

/-- THE TIED CARD OF 'putloglaw15.OrderMatchesReference'. -/
def orderMatchesReferenceCard : Claim7 := { stood := { row := orderMatchesReferenceRow, standIns := [], harness := (true, "a03e51b0cfb03c3b5e3990621fc1dab324afc9dacbdb1aa63b29b85e98f9607e"), looks := false }, kinds := [], alts := [], laidByText := true, laidKinds := [.data, .data], laidTests := true, laidLooks := .later }
def OrderMatchesReferenceCardSaid : Prop := Claim7.holds Tryd.pinned (.plain (OpenSpec.ofChange orderMatchesReferenceSpec)) orderMatchesReferenceCard

/-- THE TIED CARD OF 'putloglaw15.OrderLines'. -/
def orderLinesCard : Claim7 := { stood := { row := orderLinesRow, standIns := [], harness := (true, "a03e51b0cfb03c3b5e3990621fc1dab324afc9dacbdb1aa63b29b85e98f9607e"), looks := false }, kinds := [], alts := [], laidByText := true, laidKinds := [.data, .data], laidTests := true, laidLooks := .later }
def OrderLinesCardSaid : Prop := Claim7.holds Tryd.pinned (.plain (OpenSpec.ofChange orderLinesSpec)) orderLinesCard

/-- THE TIED CARD OF 'putloglaw15.OrderReduces'. -/
def orderReducesCard : Claim7 := { stood := { row := orderReducesRow, standIns := [], harness := (true, "a03e51b0cfb03c3b5e3990621fc1dab324afc9dacbdb1aa63b29b85e98f9607e"), looks := false }, kinds := [], alts := [], laidByText := true, laidKinds := [.data, .data], laidTests := true, laidLooks := .later }
def OrderReducesCardSaid : Prop := Claim7.holds Tryd.pinned (.plain (OpenSpec.ofChange orderReducesSpec)) orderReducesCard

/-- THE TIED CARD OF 'putloglaw15.OrderMirsky'. -/
def orderMirskyCard : Claim7 := { stood := { row := orderMirskyRow, standIns := [], harness := (true, "a03e51b0cfb03c3b5e3990621fc1dab324afc9dacbdb1aa63b29b85e98f9607e"), looks := false }, kinds := [], alts := [], laidByText := true, laidKinds := [.data, .data], laidTests := true, laidLooks := .later }
def OrderMirskyCardSaid : Prop := Claim7.holds Tryd.pinned (.plain (OpenSpec.ofChange orderMirskySpec)) orderMirskyCard

/-- THE TIED CARD OF 'putloglaw15.OrderDilworth'. -/
def orderDilworthCard : Claim7 := { stood := { row := orderDilworthRow, standIns := [], harness := (true, "a03e51b0cfb03c3b5e3990621fc1dab324afc9dacbdb1aa63b29b85e98f9607e"), looks := false }, kinds := [], alts := [], laidByText := true, laidKinds := [.data, .data], laidTests := true, laidLooks := .later }
def OrderDilworthCardSaid : Prop := Claim7.holds Tryd.pinned (.plain (OpenSpec.ofChange orderDilworthSpec)) orderDilworthCard

/-- THE TIED CARD OF 'putloglaw15.OrderCycles'. -/
def orderCyclesCard : Claim7 := { stood := { row := orderCyclesRow, standIns := [], harness := (true, "a03e51b0cfb03c3b5e3990621fc1dab324afc9dacbdb1aa63b29b85e98f9607e"), looks := false }, kinds := [], alts := [], laidByText := true, laidKinds := [.data, .data], laidTests := true, laidLooks := .later }
def OrderCyclesCardSaid : Prop := Claim7.holds Tryd.pinned (.plain (OpenSpec.ofChange orderCyclesSpec)) orderCyclesCard

/-- THE TIED CARD OF 'putloglaw15.OrderSplits'. -/
def orderSplitsCard : Claim7 := { stood := { row := orderSplitsRow, standIns := [], harness := (true, "a03e51b0cfb03c3b5e3990621fc1dab324afc9dacbdb1aa63b29b85e98f9607e"), looks := false }, kinds := [], alts := [], laidByText := true, laidKinds := [.data, .data], laidTests := true, laidLooks := .later }
def OrderSplitsCardSaid : Prop := Claim7.holds Tryd.pinned (.plain (OpenSpec.ofChange orderSplitsSpec)) orderSplitsCard

/-- THE TIED CARD OF 'putloglaw15.OrderLattice'. -/
def orderLatticeCard : Claim7 := { stood := { row := orderLatticeRow, standIns := [], harness := (true, "a03e51b0cfb03c3b5e3990621fc1dab324afc9dacbdb1aa63b29b85e98f9607e"), looks := false }, kinds := [], alts := [], laidByText := true, laidKinds := [.data, .data], laidTests := true, laidLooks := .later }
def OrderLatticeCardSaid : Prop := Claim7.holds Tryd.pinned (.plain (OpenSpec.ofChange orderLatticeSpec)) orderLatticeCard

/-- THE SECOND FORM's CARD OF 'putloglaw15.OrderMatchesReference'. -/
def orderMatchesReferenceUptoCard : Claim7 := { stood := { row := orderMatchesReferenceUptoRow, standIns := [], harness := (true, "a03e51b0cfb03c3b5e3990621fc1dab324afc9dacbdb1aa63b29b85e98f9607e"), looks := false }, kinds := [], alts := [], laidByText := true, laidKinds := [.data, .data], laidTests := true, laidLooks := .later }
def OrderMatchesReferenceUptoCardSaid : Prop := Claim7.holds Tryd.pinned (.plain (OpenSpec.upto orderMatchesReferenceSpec)) orderMatchesReferenceUptoCard

/-- THE SECOND FORM's CARD OF 'putloglaw15.OrderLines'. -/
def orderLinesUptoCard : Claim7 := { stood := { row := orderLinesUptoRow, standIns := [], harness := (true, "a03e51b0cfb03c3b5e3990621fc1dab324afc9dacbdb1aa63b29b85e98f9607e"), looks := false }, kinds := [], alts := [], laidByText := true, laidKinds := [.data, .data], laidTests := true, laidLooks := .later }
def OrderLinesUptoCardSaid : Prop := Claim7.holds Tryd.pinned (.plain (OpenSpec.upto orderLinesSpec)) orderLinesUptoCard

/-- THE SECOND FORM's CARD OF 'putloglaw15.OrderReduces'. -/
def orderReducesUptoCard : Claim7 := { stood := { row := orderReducesUptoRow, standIns := [], harness := (true, "a03e51b0cfb03c3b5e3990621fc1dab324afc9dacbdb1aa63b29b85e98f9607e"), looks := false }, kinds := [], alts := [], laidByText := true, laidKinds := [.data, .data], laidTests := true, laidLooks := .later }
def OrderReducesUptoCardSaid : Prop := Claim7.holds Tryd.pinned (.plain (OpenSpec.upto orderReducesSpec)) orderReducesUptoCard

/-- THE SECOND FORM's CARD OF 'putloglaw15.OrderMirsky'. -/
def orderMirskyUptoCard : Claim7 := { stood := { row := orderMirskyUptoRow, standIns := [], harness := (true, "a03e51b0cfb03c3b5e3990621fc1dab324afc9dacbdb1aa63b29b85e98f9607e"), looks := false }, kinds := [], alts := [], laidByText := true, laidKinds := [.data, .data], laidTests := true, laidLooks := .later }
def OrderMirskyUptoCardSaid : Prop := Claim7.holds Tryd.pinned (.plain (OpenSpec.upto orderMirskySpec)) orderMirskyUptoCard

/-- THE SECOND FORM's CARD OF 'putloglaw15.OrderDilworth'. -/
def orderDilworthUptoCard : Claim7 := { stood := { row := orderDilworthUptoRow, standIns := [], harness := (true, "a03e51b0cfb03c3b5e3990621fc1dab324afc9dacbdb1aa63b29b85e98f9607e"), looks := false }, kinds := [], alts := [], laidByText := true, laidKinds := [.data, .data], laidTests := true, laidLooks := .later }
def OrderDilworthUptoCardSaid : Prop := Claim7.holds Tryd.pinned (.plain (OpenSpec.upto orderDilworthSpec)) orderDilworthUptoCard

/-- THE SECOND FORM's CARD OF 'putloglaw15.OrderCycles'. -/
def orderCyclesUptoCard : Claim7 := { stood := { row := orderCyclesUptoRow, standIns := [], harness := (true, "a03e51b0cfb03c3b5e3990621fc1dab324afc9dacbdb1aa63b29b85e98f9607e"), looks := false }, kinds := [], alts := [], laidByText := true, laidKinds := [.data, .data], laidTests := true, laidLooks := .later }
def OrderCyclesUptoCardSaid : Prop := Claim7.holds Tryd.pinned (.plain (OpenSpec.upto orderCyclesSpec)) orderCyclesUptoCard

/-- THE SECOND FORM's CARD OF 'putloglaw15.OrderSplits'. -/
def orderSplitsUptoCard : Claim7 := { stood := { row := orderSplitsUptoRow, standIns := [], harness := (true, "a03e51b0cfb03c3b5e3990621fc1dab324afc9dacbdb1aa63b29b85e98f9607e"), looks := false }, kinds := [], alts := [], laidByText := true, laidKinds := [.data, .data], laidTests := true, laidLooks := .later }
def OrderSplitsUptoCardSaid : Prop := Claim7.holds Tryd.pinned (.plain (OpenSpec.upto orderSplitsSpec)) orderSplitsUptoCard

/-- THE SECOND FORM's CARD OF 'putloglaw15.OrderLattice'. -/
def orderLatticeUptoCard : Claim7 := { stood := { row := orderLatticeUptoRow, standIns := [], harness := (true, "a03e51b0cfb03c3b5e3990621fc1dab324afc9dacbdb1aa63b29b85e98f9607e"), looks := false }, kinds := [], alts := [], laidByText := true, laidKinds := [.data, .data], laidTests := true, laidLooks := .later }
def OrderLatticeUptoCardSaid : Prop := Claim7.holds Tryd.pinned (.plain (OpenSpec.upto orderLatticeSpec)) orderLatticeUptoCard
end Rows
end Go.Proofs.YtnidcoinfmcffaaDoor
