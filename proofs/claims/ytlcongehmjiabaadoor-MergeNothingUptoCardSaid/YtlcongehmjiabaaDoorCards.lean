/-
  DERIVED. GIVEN WITH THE SEED: THE CARDS: each row of YtlcongehmjiabaaDoorRows.lean that lists a variable, with what it lists TIED to the program's text (the seventh form; the later family's looks); each row that meets fmt, with fmt's text TOLD by the authors' own Lean function (tested against real Go, not proved from fmt's source: count such statements apart). THE CARD IS WHAT COUNTS. Prove the row's statement (the work); the ties are given (YtlcongehmjiabaaDoorTie.lean); close each card by the builder's one call (the guide's Derived/Test/ToyasCard.lean, 'card_holds'). Laid BY PROGRAM, IN A SANDBOX (cutbox-door.mjs). By AI agents, Wed Nov 11 2026. No macro, syntax, notation, axiom, sorry.
-/
import Derived.Test.YtlcongehmjiabaaDoorRows
import GoSem.ClaimSeven
namespace Go.Proofs.YtlcongehmjiabaaDoor
namespace Rows

/-- THE TIED CARD OF 'seneschalkeep.MergeThree'. -/
def mergeThreeCard : Claim7 := { stood := { row := mergeThreeRow, standIns := [], harness := (true, "f272c11ff38c70d6f5753fd7db0a86ef44571a43838fc5b3677e1196a446f97c"), looks := true }, kinds := [], alts := [], laidByText := true, laidKinds := [.data, .data, .data, .sentinel, .sentinel], laidTests := true, laidLooks := .later }
def MergeThreeCardSaid : Prop := Claim7.holds Tryd.pinned (.plain (OpenSpec.ofChange mergeThreeSpec)) mergeThreeCard

/-- THE TIED CARD OF 'seneschalkeep.MergeAgain'. -/
def mergeAgainCard : Claim7 := { stood := { row := mergeAgainRow, standIns := [], harness := (true, "f272c11ff38c70d6f5753fd7db0a86ef44571a43838fc5b3677e1196a446f97c"), looks := true }, kinds := [], alts := [], laidByText := true, laidKinds := [.data, .data, .data, .sentinel, .sentinel], laidTests := true, laidLooks := .later }
def MergeAgainCardSaid : Prop := Claim7.holds Tryd.pinned (.plain (OpenSpec.ofChange mergeAgainSpec)) mergeAgainCard

/-- THE TIED CARD OF 'seneschalkeep.MergeBoth'. -/
def mergeBothCard : Claim7 := { stood := { row := mergeBothRow, standIns := [], harness := (true, "f272c11ff38c70d6f5753fd7db0a86ef44571a43838fc5b3677e1196a446f97c"), looks := true }, kinds := [], alts := [], laidByText := true, laidKinds := [.data, .data, .data, .sentinel, .sentinel], laidTests := true, laidLooks := .later }
def MergeBothCardSaid : Prop := Claim7.holds Tryd.pinned (.plain (OpenSpec.ofChange mergeBothSpec)) mergeBothCard

/-- THE TIED CARD OF 'seneschalkeep.MergeMakes'. -/
def mergeMakesCard : Claim7 := { stood := { row := mergeMakesRow, standIns := [], harness := (true, "f272c11ff38c70d6f5753fd7db0a86ef44571a43838fc5b3677e1196a446f97c"), looks := true }, kinds := [], alts := [], laidByText := true, laidKinds := [.data, .data, .data, .sentinel, .sentinel], laidTests := true, laidLooks := .later }
def MergeMakesCardSaid : Prop := Claim7.holds Tryd.pinned (.plain (OpenSpec.ofChange mergeMakesSpec)) mergeMakesCard

/-- THE TIED CARD OF 'seneschalkeep.MergeNothing'. -/
def mergeNothingCard : Claim7 := { stood := { row := mergeNothingRow, standIns := [], harness := (true, "f272c11ff38c70d6f5753fd7db0a86ef44571a43838fc5b3677e1196a446f97c"), looks := true }, kinds := [], alts := [], laidByText := true, laidKinds := [.data, .data, .data, .sentinel, .sentinel], laidTests := true, laidLooks := .later }
def MergeNothingCardSaid : Prop := Claim7.holds Tryd.pinned (.plain (OpenSpec.ofChange mergeNothingSpec)) mergeNothingCard

/-- THE SECOND FORM's CARD OF 'seneschalkeep.MergeThree'. -/
def mergeThreeUptoCard : Claim7 := { stood := { row := mergeThreeUptoRow, standIns := [], harness := (true, "f272c11ff38c70d6f5753fd7db0a86ef44571a43838fc5b3677e1196a446f97c"), looks := true }, kinds := [], alts := [], laidByText := true, laidKinds := [.data, .data, .data, .sentinel, .sentinel], laidTests := true, laidLooks := .later }
def MergeThreeUptoCardSaid : Prop := Claim7.holds Tryd.pinned (.plain (OpenSpec.upto mergeThreeSpec)) mergeThreeUptoCard

/-- THE SECOND FORM's CARD OF 'seneschalkeep.MergeAgain'. -/
def mergeAgainUptoCard : Claim7 := { stood := { row := mergeAgainUptoRow, standIns := [], harness := (true, "f272c11ff38c70d6f5753fd7db0a86ef44571a43838fc5b3677e1196a446f97c"), looks := true }, kinds := [], alts := [], laidByText := true, laidKinds := [.data, .data, .data, .sentinel, .sentinel], laidTests := true, laidLooks := .later }
def MergeAgainUptoCardSaid : Prop := Claim7.holds Tryd.pinned (.plain (OpenSpec.upto mergeAgainSpec)) mergeAgainUptoCard

/-- THE SECOND FORM's CARD OF 'seneschalkeep.MergeBoth'. -/
def mergeBothUptoCard : Claim7 := { stood := { row := mergeBothUptoRow, standIns := [], harness := (true, "f272c11ff38c70d6f5753fd7db0a86ef44571a43838fc5b3677e1196a446f97c"), looks := true }, kinds := [], alts := [], laidByText := true, laidKinds := [.data, .data, .data, .sentinel, .sentinel], laidTests := true, laidLooks := .later }
def MergeBothUptoCardSaid : Prop := Claim7.holds Tryd.pinned (.plain (OpenSpec.upto mergeBothSpec)) mergeBothUptoCard

/-- THE SECOND FORM's CARD OF 'seneschalkeep.MergeMakes'. -/
def mergeMakesUptoCard : Claim7 := { stood := { row := mergeMakesUptoRow, standIns := [], harness := (true, "f272c11ff38c70d6f5753fd7db0a86ef44571a43838fc5b3677e1196a446f97c"), looks := true }, kinds := [], alts := [], laidByText := true, laidKinds := [.data, .data, .data, .sentinel, .sentinel], laidTests := true, laidLooks := .later }
def MergeMakesUptoCardSaid : Prop := Claim7.holds Tryd.pinned (.plain (OpenSpec.upto mergeMakesSpec)) mergeMakesUptoCard

/-- THE SECOND FORM's CARD OF 'seneschalkeep.MergeNothing'. -/
def mergeNothingUptoCard : Claim7 := { stood := { row := mergeNothingUptoRow, standIns := [], harness := (true, "f272c11ff38c70d6f5753fd7db0a86ef44571a43838fc5b3677e1196a446f97c"), looks := true }, kinds := [], alts := [], laidByText := true, laidKinds := [.data, .data, .data, .sentinel, .sentinel], laidTests := true, laidLooks := .later }
def MergeNothingUptoCardSaid : Prop := Claim7.holds Tryd.pinned (.plain (OpenSpec.upto mergeNothingSpec)) mergeNothingUptoCard
end Rows
end Go.Proofs.YtlcongehmjiabaaDoor
