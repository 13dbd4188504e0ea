/-
  DERIVED. GIVEN WITH THE SEED: THE CARDS: each row of YtnmhjabihfhobaaGreatDoorRows.lean that lists a variable, with what it lists TIED to the program's text (the seventh form; the later family's looks); each row that meets fmt, with fmt's text TOLD by the authors' own Lean function (tested against real Go, not proved from fmt's source: count such statements apart). THE CARD IS WHAT COUNTS. Prove the row's statement (the work); the ties are given (YtnmhjabihfhobaaGreatDoorTie.lean); close each card by the builder's one call (the guide's Derived/Test/ToyasCard.lean, 'card_holds'). Laid BY PROGRAM, IN A SANDBOX (cutbox-door.mjs). By AI agents, Wed Nov 11 2026. No macro, syntax, notation, axiom, sorry.
-/
import Derived.Test.YtnmhjabihfhobaaGreatDoorRows
import GoSem.ClaimSeven
namespace Go.Proofs.YtnmhjabihfhobaaGreatDoor
namespace Rows

/-- THE TIED CARD OF 'seneschalkeep.ThreeAgain'. -/
def threeAgainCard : Claim7 := { stood := { row := threeAgainRow, standIns := [], harness := (true, "4c9d8aa801ebd6e766546b8546914ca54e2f449532700359b01fe780d3a30ade"), looks := true }, kinds := [], alts := [], laidByText := true, laidKinds := [.data, .data, .data, .data, .sentinel, .sentinel, .pinned], laidTests := true, laidLooks := .later }
def ThreeAgainCardSaid : Prop := Claim7.holds Tryz.pinned (.plain (OpenSpec.ofChange threeAgainSpec)) threeAgainCard

/-- THE TIED CARD OF 'seneschalkeep.ThreeAlone'. -/
def threeAloneCard : Claim7 := { stood := { row := threeAloneRow, standIns := [], harness := (true, "4c9d8aa801ebd6e766546b8546914ca54e2f449532700359b01fe780d3a30ade"), looks := true }, kinds := [], alts := [], laidByText := true, laidKinds := [.data, .data, .data, .data, .sentinel, .sentinel, .pinned], laidTests := true, laidLooks := .later }
def ThreeAloneCardSaid : Prop := Claim7.holds Tryz.pinned (.plain (OpenSpec.ofChange threeAloneSpec)) threeAloneCard

/-- THE TIED CARD OF 'seneschalkeep.ThreeLoses'. -/
def threeLosesCard : Claim7 := { stood := { row := threeLosesRow, standIns := [], harness := (true, "4c9d8aa801ebd6e766546b8546914ca54e2f449532700359b01fe780d3a30ade"), looks := true }, kinds := [], alts := [], laidByText := true, laidKinds := [.data, .data, .data, .data, .sentinel, .sentinel, .pinned], laidTests := true, laidLooks := .later }
def ThreeLosesCardSaid : Prop := Claim7.holds Tryz.pinned (.plain (OpenSpec.ofChange threeLosesSpec)) threeLosesCard

/-- THE TIED CARD OF 'seneschalkeep.ThreeWants'. -/
def threeWantsCard : Claim7 := { stood := { row := threeWantsRow, standIns := [], harness := (true, "4c9d8aa801ebd6e766546b8546914ca54e2f449532700359b01fe780d3a30ade"), looks := true }, kinds := [], alts := [], laidByText := true, laidKinds := [.data, .data, .data, .data, .sentinel, .sentinel, .pinned], laidTests := true, laidLooks := .later }
def ThreeWantsCardSaid : Prop := Claim7.holds Tryz.pinned (.plain (OpenSpec.ofChange threeWantsSpec)) threeWantsCard

/-- THE TIED CARD OF 'seneschalkeep.SchemaPrunes'. -/
def schemaPrunesCard : Claim7 := { stood := { row := schemaPrunesRow, standIns := [], harness := (true, "4c9d8aa801ebd6e766546b8546914ca54e2f449532700359b01fe780d3a30ade"), looks := true }, kinds := [], alts := [], laidByText := true, laidKinds := [.data, .data, .data, .data, .sentinel, .sentinel, .pinned], laidTests := true, laidLooks := .later }
def SchemaPrunesCardSaid : Prop := Claim7.holds Tryz.pinned (.plain (OpenSpec.ofChange schemaPrunesSpec)) schemaPrunesCard

/-- THE TIED CARD OF 'seneschalkeep.SchemaSound'. -/
def schemaSoundCard : Claim7 := { stood := { row := schemaSoundRow, standIns := [], harness := (true, "4c9d8aa801ebd6e766546b8546914ca54e2f449532700359b01fe780d3a30ade"), looks := true }, kinds := [], alts := [], laidByText := true, laidKinds := [.data, .data, .data, .data, .sentinel, .sentinel, .pinned], laidTests := true, laidLooks := .later }
def SchemaSoundCardSaid : Prop := Claim7.holds Tryz.pinned (.plain (OpenSpec.ofChange schemaSoundSpec)) schemaSoundCard

/-- THE TIED CARD OF 'seneschalkeep.SchemaPoints'. -/
def schemaPointsCard : Claim7 := { stood := { row := schemaPointsRow, standIns := [], harness := (true, "4c9d8aa801ebd6e766546b8546914ca54e2f449532700359b01fe780d3a30ade"), looks := true }, kinds := [], alts := [], laidByText := true, laidKinds := [.data, .data, .data, .data, .sentinel, .sentinel, .pinned], laidTests := true, laidLooks := .later }
def SchemaPointsCardSaid : Prop := Claim7.holds Tryz.pinned (.plain (OpenSpec.ofChange schemaPointsSpec)) schemaPointsCard

/-- THE TIED CARD OF 'seneschalkeep.SchemaFills'. -/
def schemaFillsCard : Claim7 := { stood := { row := schemaFillsRow, standIns := [], harness := (true, "4c9d8aa801ebd6e766546b8546914ca54e2f449532700359b01fe780d3a30ade"), looks := true }, kinds := [], alts := [], laidByText := true, laidKinds := [.data, .data, .data, .data, .sentinel, .sentinel, .pinned], laidTests := true, laidLooks := .later }
def SchemaFillsCardSaid : Prop := Claim7.holds Tryz.pinned (.plain (OpenSpec.ofChange schemaFillsSpec)) schemaFillsCard

/-- THE SECOND FORM's CARD OF 'seneschalkeep.ThreeAgain'. -/
def threeAgainUptoCard : Claim7 := { stood := { row := threeAgainUptoRow, standIns := [], harness := (true, "4c9d8aa801ebd6e766546b8546914ca54e2f449532700359b01fe780d3a30ade"), looks := true }, kinds := [], alts := [], laidByText := true, laidKinds := [.data, .data, .data, .data, .sentinel, .sentinel, .pinned], laidTests := true, laidLooks := .later }
def ThreeAgainUptoCardSaid : Prop := Claim7.holds Tryz.pinned (.plain (OpenSpec.upto threeAgainSpec)) threeAgainUptoCard

/-- THE SECOND FORM's CARD OF 'seneschalkeep.ThreeAlone'. -/
def threeAloneUptoCard : Claim7 := { stood := { row := threeAloneUptoRow, standIns := [], harness := (true, "4c9d8aa801ebd6e766546b8546914ca54e2f449532700359b01fe780d3a30ade"), looks := true }, kinds := [], alts := [], laidByText := true, laidKinds := [.data, .data, .data, .data, .sentinel, .sentinel, .pinned], laidTests := true, laidLooks := .later }
def ThreeAloneUptoCardSaid : Prop := Claim7.holds Tryz.pinned (.plain (OpenSpec.upto threeAloneSpec)) threeAloneUptoCard

/-- THE SECOND FORM's CARD OF 'seneschalkeep.ThreeLoses'. -/
def threeLosesUptoCard : Claim7 := { stood := { row := threeLosesUptoRow, standIns := [], harness := (true, "4c9d8aa801ebd6e766546b8546914ca54e2f449532700359b01fe780d3a30ade"), looks := true }, kinds := [], alts := [], laidByText := true, laidKinds := [.data, .data, .data, .data, .sentinel, .sentinel, .pinned], laidTests := true, laidLooks := .later }
def ThreeLosesUptoCardSaid : Prop := Claim7.holds Tryz.pinned (.plain (OpenSpec.upto threeLosesSpec)) threeLosesUptoCard

/-- THE SECOND FORM's CARD OF 'seneschalkeep.ThreeWants'. -/
def threeWantsUptoCard : Claim7 := { stood := { row := threeWantsUptoRow, standIns := [], harness := (true, "4c9d8aa801ebd6e766546b8546914ca54e2f449532700359b01fe780d3a30ade"), looks := true }, kinds := [], alts := [], laidByText := true, laidKinds := [.data, .data, .data, .data, .sentinel, .sentinel, .pinned], laidTests := true, laidLooks := .later }
def ThreeWantsUptoCardSaid : Prop := Claim7.holds Tryz.pinned (.plain (OpenSpec.upto threeWantsSpec)) threeWantsUptoCard

/-- THE SECOND FORM's CARD OF 'seneschalkeep.SchemaPrunes'. -/
def schemaPrunesUptoCard : Claim7 := { stood := { row := schemaPrunesUptoRow, standIns := [], harness := (true, "4c9d8aa801ebd6e766546b8546914ca54e2f449532700359b01fe780d3a30ade"), looks := true }, kinds := [], alts := [], laidByText := true, laidKinds := [.data, .data, .data, .data, .sentinel, .sentinel, .pinned], laidTests := true, laidLooks := .later }
def SchemaPrunesUptoCardSaid : Prop := Claim7.holds Tryz.pinned (.plain (OpenSpec.upto schemaPrunesSpec)) schemaPrunesUptoCard

/-- THE SECOND FORM's CARD OF 'seneschalkeep.SchemaSound'. -/
def schemaSoundUptoCard : Claim7 := { stood := { row := schemaSoundUptoRow, standIns := [], harness := (true, "4c9d8aa801ebd6e766546b8546914ca54e2f449532700359b01fe780d3a30ade"), looks := true }, kinds := [], alts := [], laidByText := true, laidKinds := [.data, .data, .data, .data, .sentinel, .sentinel, .pinned], laidTests := true, laidLooks := .later }
def SchemaSoundUptoCardSaid : Prop := Claim7.holds Tryz.pinned (.plain (OpenSpec.upto schemaSoundSpec)) schemaSoundUptoCard

/-- THE SECOND FORM's CARD OF 'seneschalkeep.SchemaPoints'. -/
def schemaPointsUptoCard : Claim7 := { stood := { row := schemaPointsUptoRow, standIns := [], harness := (true, "4c9d8aa801ebd6e766546b8546914ca54e2f449532700359b01fe780d3a30ade"), looks := true }, kinds := [], alts := [], laidByText := true, laidKinds := [.data, .data, .data, .data, .sentinel, .sentinel, .pinned], laidTests := true, laidLooks := .later }
def SchemaPointsUptoCardSaid : Prop := Claim7.holds Tryz.pinned (.plain (OpenSpec.upto schemaPointsSpec)) schemaPointsUptoCard

/-- THE SECOND FORM's CARD OF 'seneschalkeep.SchemaFills'. -/
def schemaFillsUptoCard : Claim7 := { stood := { row := schemaFillsUptoRow, standIns := [], harness := (true, "4c9d8aa801ebd6e766546b8546914ca54e2f449532700359b01fe780d3a30ade"), looks := true }, kinds := [], alts := [], laidByText := true, laidKinds := [.data, .data, .data, .data, .sentinel, .sentinel, .pinned], laidTests := true, laidLooks := .later }
def SchemaFillsUptoCardSaid : Prop := Claim7.holds Tryz.pinned (.plain (OpenSpec.upto schemaFillsSpec)) schemaFillsUptoCard
end Rows
end Go.Proofs.YtnmhjabihfhobaaGreatDoor
