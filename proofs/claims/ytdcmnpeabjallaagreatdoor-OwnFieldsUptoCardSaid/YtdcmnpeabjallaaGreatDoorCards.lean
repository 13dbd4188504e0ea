/-
  DERIVED. GIVEN WITH THE SEED: THE CARDS: each row of YtdcmnpeabjallaaGreatDoorRows.lean that lists a variable, with what it lists TIED to the program's text (the seventh form; the later family's looks); each row that meets fmt, with fmt's text TOLD by the authors' own Lean function (tested against real Go, not proved from fmt's source: count such statements apart). THE CARD IS WHAT COUNTS. Prove the row's statement (the work); the ties are given (YtdcmnpeabjallaaGreatDoorTie.lean); close each card by the builder's one call (the guide's Derived/Test/ToyasCard.lean, 'card_holds'). Laid BY PROGRAM, IN A SANDBOX (cutbox-door.mjs). By AI agents, Wed Nov 11 2026. No macro, syntax, notation, axiom, sorry.
-/
import Derived.Test.YtdcmnpeabjallaaGreatDoorRows
import GoSem.ClaimSeven
namespace Go.Proofs.YtdcmnpeabjallaaGreatDoor
namespace Rows

/-- THE TIED CARD OF 'seneschalkeep.FieldsAgain'. -/
def fieldsAgainCard : Claim7 := { stood := { row := fieldsAgainRow, standIns := [], harness := (true, "e9ec7cba69e56bd50ba85fa5d3bb76e31f48e479c57e273fda21d5b5160ba5a2"), looks := true }, kinds := [], alts := [], laidByText := true, laidKinds := [.data, .data, .data, .data, .sentinel, .sentinel, .pinned], laidTests := true, laidLooks := .later }
def FieldsAgainCardSaid : Prop := Claim7.holds Tryz.pinned (.plain (OpenSpec.ofChange fieldsAgainSpec)) fieldsAgainCard

/-- THE TIED CARD OF 'seneschalkeep.FieldsBars'. -/
def fieldsBarsCard : Claim7 := { stood := { row := fieldsBarsRow, standIns := [], harness := (true, "e9ec7cba69e56bd50ba85fa5d3bb76e31f48e479c57e273fda21d5b5160ba5a2"), looks := true }, kinds := [], alts := [], laidByText := true, laidKinds := [.data, .data, .data, .data, .sentinel, .sentinel, .pinned], laidTests := true, laidLooks := .later }
def FieldsBarsCardSaid : Prop := Claim7.holds Tryz.pinned (.plain (OpenSpec.ofChange fieldsBarsSpec)) fieldsBarsCard

/-- THE TIED CARD OF 'seneschalkeep.FieldsOthers'. -/
def fieldsOthersCard : Claim7 := { stood := { row := fieldsOthersRow, standIns := [], harness := (true, "e9ec7cba69e56bd50ba85fa5d3bb76e31f48e479c57e273fda21d5b5160ba5a2"), looks := true }, kinds := [], alts := [], laidByText := true, laidKinds := [.data, .data, .data, .data, .sentinel, .sentinel, .pinned], laidTests := true, laidLooks := .later }
def FieldsOthersCardSaid : Prop := Claim7.holds Tryz.pinned (.plain (OpenSpec.ofChange fieldsOthersSpec)) fieldsOthersCard

/-- THE TIED CARD OF 'seneschalkeep.FieldsHas'. -/
def fieldsHasCard : Claim7 := { stood := { row := fieldsHasRow, standIns := [], harness := (true, "e9ec7cba69e56bd50ba85fa5d3bb76e31f48e479c57e273fda21d5b5160ba5a2"), looks := true }, kinds := [], alts := [], laidByText := true, laidKinds := [.data, .data, .data, .data, .sentinel, .sentinel, .pinned], laidTests := true, laidLooks := .later }
def FieldsHasCardSaid : Prop := Claim7.holds Tryz.pinned (.plain (OpenSpec.ofChange fieldsHasSpec)) fieldsHasCard

/-- THE TIED CARD OF 'seneschalkeep.FieldsGone'. -/
def fieldsGoneCard : Claim7 := { stood := { row := fieldsGoneRow, standIns := [], harness := (true, "e9ec7cba69e56bd50ba85fa5d3bb76e31f48e479c57e273fda21d5b5160ba5a2"), looks := true }, kinds := [], alts := [], laidByText := true, laidKinds := [.data, .data, .data, .data, .sentinel, .sentinel, .pinned], laidTests := true, laidLooks := .later }
def FieldsGoneCardSaid : Prop := Claim7.holds Tryz.pinned (.plain (OpenSpec.ofChange fieldsGoneSpec)) fieldsGoneCard

/-- THE TIED CARD OF 'seneschalkeep.OwnFields'. -/
def ownFieldsCard : Claim7 := { stood := { row := ownFieldsRow, standIns := [], harness := (true, "e9ec7cba69e56bd50ba85fa5d3bb76e31f48e479c57e273fda21d5b5160ba5a2"), looks := true }, kinds := [], alts := [], laidByText := true, laidKinds := [.data, .data, .data, .data, .sentinel, .sentinel, .pinned], laidTests := true, laidLooks := .later }
def OwnFieldsCardSaid : Prop := Claim7.holds Tryz.pinned (.plain (OpenSpec.ofChange ownFieldsSpec)) ownFieldsCard

/-- THE SECOND FORM's CARD OF 'seneschalkeep.FieldsAgain'. -/
def fieldsAgainUptoCard : Claim7 := { stood := { row := fieldsAgainUptoRow, standIns := [], harness := (true, "e9ec7cba69e56bd50ba85fa5d3bb76e31f48e479c57e273fda21d5b5160ba5a2"), looks := true }, kinds := [], alts := [], laidByText := true, laidKinds := [.data, .data, .data, .data, .sentinel, .sentinel, .pinned], laidTests := true, laidLooks := .later }
def FieldsAgainUptoCardSaid : Prop := Claim7.holds Tryz.pinned (.plain (OpenSpec.upto fieldsAgainSpec)) fieldsAgainUptoCard

/-- THE SECOND FORM's CARD OF 'seneschalkeep.FieldsBars'. -/
def fieldsBarsUptoCard : Claim7 := { stood := { row := fieldsBarsUptoRow, standIns := [], harness := (true, "e9ec7cba69e56bd50ba85fa5d3bb76e31f48e479c57e273fda21d5b5160ba5a2"), looks := true }, kinds := [], alts := [], laidByText := true, laidKinds := [.data, .data, .data, .data, .sentinel, .sentinel, .pinned], laidTests := true, laidLooks := .later }
def FieldsBarsUptoCardSaid : Prop := Claim7.holds Tryz.pinned (.plain (OpenSpec.upto fieldsBarsSpec)) fieldsBarsUptoCard

/-- THE SECOND FORM's CARD OF 'seneschalkeep.FieldsOthers'. -/
def fieldsOthersUptoCard : Claim7 := { stood := { row := fieldsOthersUptoRow, standIns := [], harness := (true, "e9ec7cba69e56bd50ba85fa5d3bb76e31f48e479c57e273fda21d5b5160ba5a2"), looks := true }, kinds := [], alts := [], laidByText := true, laidKinds := [.data, .data, .data, .data, .sentinel, .sentinel, .pinned], laidTests := true, laidLooks := .later }
def FieldsOthersUptoCardSaid : Prop := Claim7.holds Tryz.pinned (.plain (OpenSpec.upto fieldsOthersSpec)) fieldsOthersUptoCard

/-- THE SECOND FORM's CARD OF 'seneschalkeep.FieldsHas'. -/
def fieldsHasUptoCard : Claim7 := { stood := { row := fieldsHasUptoRow, standIns := [], harness := (true, "e9ec7cba69e56bd50ba85fa5d3bb76e31f48e479c57e273fda21d5b5160ba5a2"), looks := true }, kinds := [], alts := [], laidByText := true, laidKinds := [.data, .data, .data, .data, .sentinel, .sentinel, .pinned], laidTests := true, laidLooks := .later }
def FieldsHasUptoCardSaid : Prop := Claim7.holds Tryz.pinned (.plain (OpenSpec.upto fieldsHasSpec)) fieldsHasUptoCard

/-- THE SECOND FORM's CARD OF 'seneschalkeep.FieldsGone'. -/
def fieldsGoneUptoCard : Claim7 := { stood := { row := fieldsGoneUptoRow, standIns := [], harness := (true, "e9ec7cba69e56bd50ba85fa5d3bb76e31f48e479c57e273fda21d5b5160ba5a2"), looks := true }, kinds := [], alts := [], laidByText := true, laidKinds := [.data, .data, .data, .data, .sentinel, .sentinel, .pinned], laidTests := true, laidLooks := .later }
def FieldsGoneUptoCardSaid : Prop := Claim7.holds Tryz.pinned (.plain (OpenSpec.upto fieldsGoneSpec)) fieldsGoneUptoCard

/-- THE SECOND FORM's CARD OF 'seneschalkeep.OwnFields'. -/
def ownFieldsUptoCard : Claim7 := { stood := { row := ownFieldsUptoRow, standIns := [], harness := (true, "e9ec7cba69e56bd50ba85fa5d3bb76e31f48e479c57e273fda21d5b5160ba5a2"), looks := true }, kinds := [], alts := [], laidByText := true, laidKinds := [.data, .data, .data, .data, .sentinel, .sentinel, .pinned], laidTests := true, laidLooks := .later }
def OwnFieldsUptoCardSaid : Prop := Claim7.holds Tryz.pinned (.plain (OpenSpec.upto ownFieldsSpec)) ownFieldsUptoCard
end Rows
end Go.Proofs.YtdcmnpeabjallaaGreatDoor
