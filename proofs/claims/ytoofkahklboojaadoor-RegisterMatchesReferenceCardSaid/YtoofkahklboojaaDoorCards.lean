/-
  DERIVED. GIVEN WITH THE SEED: THE CARDS: each row of YtoofkahklboojaaDoorRows.lean that lists a variable, with what it lists TIED to the program's text (the seventh form; the later family's looks); each row that meets fmt, with fmt's text TOLD by the authors' own Lean function (tested against real Go, not proved from fmt's source: count such statements apart). THE CARD IS WHAT COUNTS. Prove the row's statement (the work); the ties are given (YtoofkahklboojaaDoorTie.lean); close each card by the builder's one call (the guide's Derived/Test/ToyasCard.lean, 'card_holds'). Laid BY PROGRAM, IN A SANDBOX (cutbox-door.mjs). By AI agents, Wed Nov 11 2026. No macro, syntax, notation, axiom, sorry.
-/
import Derived.Test.YtoofkahklboojaaDoorRows
import GoSem.ClaimSeven
namespace Go.Proofs.YtoofkahklboojaaDoor
namespace Rows

/-- THE TIED CARD OF 'putloglaw11.RegisterMatchesReference'. -/
def registerMatchesReferenceCard : Claim7 := { stood := { row := registerMatchesReferenceRow, standIns := [], harness := (true, "257fb0b0832290752e33024a4ba26dc05b158e05f807ca8bc62c0f441234642f"), looks := false }, kinds := [], alts := [], laidByText := true, laidKinds := [.data, .data], laidTests := true, laidLooks := .later }
def RegisterMatchesReferenceCardSaid : Prop := Claim7.holds Tryd.pinned (.plain (OpenSpec.ofChange registerMatchesReferenceSpec)) registerMatchesReferenceCard

/-- THE TIED CARD OF 'putloglaw11.RegisterSound'. -/
def registerSoundCard : Claim7 := { stood := { row := registerSoundRow, standIns := [], harness := (true, "257fb0b0832290752e33024a4ba26dc05b158e05f807ca8bc62c0f441234642f"), looks := false }, kinds := [], alts := [], laidByText := true, laidKinds := [.data, .data], laidTests := true, laidLooks := .later }
def RegisterSoundCardSaid : Prop := Claim7.holds Tryd.pinned (.plain (OpenSpec.ofChange registerSoundSpec)) registerSoundCard

/-- THE TIED CARD OF 'putloglaw11.RegisterFits'. -/
def registerFitsCard : Claim7 := { stood := { row := registerFitsRow, standIns := [], harness := (true, "257fb0b0832290752e33024a4ba26dc05b158e05f807ca8bc62c0f441234642f"), looks := false }, kinds := [], alts := [], laidByText := true, laidKinds := [.data, .data], laidTests := true, laidLooks := .later }
def RegisterFitsCardSaid : Prop := Claim7.holds Tryd.pinned (.plain (OpenSpec.ofChange registerFitsSpec)) registerFitsCard

/-- THE TIED CARD OF 'putloglaw11.RegisterWitnesses'. -/
def registerWitnessesCard : Claim7 := { stood := { row := registerWitnessesRow, standIns := [], harness := (true, "257fb0b0832290752e33024a4ba26dc05b158e05f807ca8bc62c0f441234642f"), looks := false }, kinds := [], alts := [], laidByText := true, laidKinds := [.data, .data], laidTests := true, laidLooks := .later }
def RegisterWitnessesCardSaid : Prop := Claim7.holds Tryd.pinned (.plain (OpenSpec.ofChange registerWitnessesSpec)) registerWitnessesCard

/-- THE TIED CARD OF 'putloglaw11.RegisterInverts'. -/
def registerInvertsCard : Claim7 := { stood := { row := registerInvertsRow, standIns := [], harness := (true, "257fb0b0832290752e33024a4ba26dc05b158e05f807ca8bc62c0f441234642f"), looks := false }, kinds := [], alts := [], laidByText := true, laidKinds := [.data, .data], laidTests := true, laidLooks := .later }
def RegisterInvertsCardSaid : Prop := Claim7.holds Tryd.pinned (.plain (OpenSpec.ofChange registerInvertsSpec)) registerInvertsCard

/-- THE TIED CARD OF 'putloglaw11.RegisterNarrows'. -/
def registerNarrowsCard : Claim7 := { stood := { row := registerNarrowsRow, standIns := [], harness := (true, "257fb0b0832290752e33024a4ba26dc05b158e05f807ca8bc62c0f441234642f"), looks := false }, kinds := [], alts := [], laidByText := true, laidKinds := [.data, .data], laidTests := true, laidLooks := .later }
def RegisterNarrowsCardSaid : Prop := Claim7.holds Tryd.pinned (.plain (OpenSpec.ofChange registerNarrowsSpec)) registerNarrowsCard

/-- THE TIED CARD OF 'putloglaw11.RegisterBlames'. -/
def registerBlamesCard : Claim7 := { stood := { row := registerBlamesRow, standIns := [], harness := (true, "257fb0b0832290752e33024a4ba26dc05b158e05f807ca8bc62c0f441234642f"), looks := false }, kinds := [], alts := [], laidByText := true, laidKinds := [.data, .data], laidTests := true, laidLooks := .later }
def RegisterBlamesCardSaid : Prop := Claim7.holds Tryd.pinned (.plain (OpenSpec.ofChange registerBlamesSpec)) registerBlamesCard

/-- THE TIED CARD OF 'putloglaw11.RegisterChains'. -/
def registerChainsCard : Claim7 := { stood := { row := registerChainsRow, standIns := [], harness := (true, "257fb0b0832290752e33024a4ba26dc05b158e05f807ca8bc62c0f441234642f"), looks := false }, kinds := [], alts := [], laidByText := true, laidKinds := [.data, .data], laidTests := true, laidLooks := .later }
def RegisterChainsCardSaid : Prop := Claim7.holds Tryd.pinned (.plain (OpenSpec.ofChange registerChainsSpec)) registerChainsCard

/-- THE SECOND FORM's CARD OF 'putloglaw11.RegisterMatchesReference'. -/
def registerMatchesReferenceUptoCard : Claim7 := { stood := { row := registerMatchesReferenceUptoRow, standIns := [], harness := (true, "257fb0b0832290752e33024a4ba26dc05b158e05f807ca8bc62c0f441234642f"), looks := false }, kinds := [], alts := [], laidByText := true, laidKinds := [.data, .data], laidTests := true, laidLooks := .later }
def RegisterMatchesReferenceUptoCardSaid : Prop := Claim7.holds Tryd.pinned (.plain (OpenSpec.upto registerMatchesReferenceSpec)) registerMatchesReferenceUptoCard

/-- THE SECOND FORM's CARD OF 'putloglaw11.RegisterSound'. -/
def registerSoundUptoCard : Claim7 := { stood := { row := registerSoundUptoRow, standIns := [], harness := (true, "257fb0b0832290752e33024a4ba26dc05b158e05f807ca8bc62c0f441234642f"), looks := false }, kinds := [], alts := [], laidByText := true, laidKinds := [.data, .data], laidTests := true, laidLooks := .later }
def RegisterSoundUptoCardSaid : Prop := Claim7.holds Tryd.pinned (.plain (OpenSpec.upto registerSoundSpec)) registerSoundUptoCard

/-- THE SECOND FORM's CARD OF 'putloglaw11.RegisterFits'. -/
def registerFitsUptoCard : Claim7 := { stood := { row := registerFitsUptoRow, standIns := [], harness := (true, "257fb0b0832290752e33024a4ba26dc05b158e05f807ca8bc62c0f441234642f"), looks := false }, kinds := [], alts := [], laidByText := true, laidKinds := [.data, .data], laidTests := true, laidLooks := .later }
def RegisterFitsUptoCardSaid : Prop := Claim7.holds Tryd.pinned (.plain (OpenSpec.upto registerFitsSpec)) registerFitsUptoCard

/-- THE SECOND FORM's CARD OF 'putloglaw11.RegisterWitnesses'. -/
def registerWitnessesUptoCard : Claim7 := { stood := { row := registerWitnessesUptoRow, standIns := [], harness := (true, "257fb0b0832290752e33024a4ba26dc05b158e05f807ca8bc62c0f441234642f"), looks := false }, kinds := [], alts := [], laidByText := true, laidKinds := [.data, .data], laidTests := true, laidLooks := .later }
def RegisterWitnessesUptoCardSaid : Prop := Claim7.holds Tryd.pinned (.plain (OpenSpec.upto registerWitnessesSpec)) registerWitnessesUptoCard

/-- THE SECOND FORM's CARD OF 'putloglaw11.RegisterInverts'. -/
def registerInvertsUptoCard : Claim7 := { stood := { row := registerInvertsUptoRow, standIns := [], harness := (true, "257fb0b0832290752e33024a4ba26dc05b158e05f807ca8bc62c0f441234642f"), looks := false }, kinds := [], alts := [], laidByText := true, laidKinds := [.data, .data], laidTests := true, laidLooks := .later }
def RegisterInvertsUptoCardSaid : Prop := Claim7.holds Tryd.pinned (.plain (OpenSpec.upto registerInvertsSpec)) registerInvertsUptoCard

/-- THE SECOND FORM's CARD OF 'putloglaw11.RegisterNarrows'. -/
def registerNarrowsUptoCard : Claim7 := { stood := { row := registerNarrowsUptoRow, standIns := [], harness := (true, "257fb0b0832290752e33024a4ba26dc05b158e05f807ca8bc62c0f441234642f"), looks := false }, kinds := [], alts := [], laidByText := true, laidKinds := [.data, .data], laidTests := true, laidLooks := .later }
def RegisterNarrowsUptoCardSaid : Prop := Claim7.holds Tryd.pinned (.plain (OpenSpec.upto registerNarrowsSpec)) registerNarrowsUptoCard

/-- THE SECOND FORM's CARD OF 'putloglaw11.RegisterBlames'. -/
def registerBlamesUptoCard : Claim7 := { stood := { row := registerBlamesUptoRow, standIns := [], harness := (true, "257fb0b0832290752e33024a4ba26dc05b158e05f807ca8bc62c0f441234642f"), looks := false }, kinds := [], alts := [], laidByText := true, laidKinds := [.data, .data], laidTests := true, laidLooks := .later }
def RegisterBlamesUptoCardSaid : Prop := Claim7.holds Tryd.pinned (.plain (OpenSpec.upto registerBlamesSpec)) registerBlamesUptoCard

/-- THE SECOND FORM's CARD OF 'putloglaw11.RegisterChains'. -/
def registerChainsUptoCard : Claim7 := { stood := { row := registerChainsUptoRow, standIns := [], harness := (true, "257fb0b0832290752e33024a4ba26dc05b158e05f807ca8bc62c0f441234642f"), looks := false }, kinds := [], alts := [], laidByText := true, laidKinds := [.data, .data], laidTests := true, laidLooks := .later }
def RegisterChainsUptoCardSaid : Prop := Claim7.holds Tryd.pinned (.plain (OpenSpec.upto registerChainsSpec)) registerChainsUptoCard
end Rows
end Go.Proofs.YtoofkahklboojaaDoor
