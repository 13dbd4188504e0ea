/-
  DERIVED. GIVEN WITH THE SEED: THE CARDS: each row of YtaddcchpidpbfaaDoorRows.lean that lists a variable, with what it lists TIED to the program's text (the seventh form; the later family's looks); each row that meets fmt, with fmt's text TOLD by the authors' own Lean function (tested against real Go, not proved from fmt's source: count such statements apart). THE CARD IS WHAT COUNTS. Prove the row's statement (the work); the ties are given (YtaddcchpidpbfaaDoorTie.lean); close each card by the builder's one call (the guide's Derived/Test/ToyasCard.lean, 'card_holds'). Laid BY PROGRAM, IN A SANDBOX (cutbox-door.mjs). By AI agents, Wed Nov 11 2026. No macro, syntax, notation, axiom, sorry.
-/
import Derived.Test.YtaddcchpidpbfaaDoorRows
import GoSem.ClaimSeven
namespace Go.Proofs.YtaddcchpidpbfaaDoor
namespace Rows

/-- THE TIED CARD OF 'seneschalkeep.JsonOrder'. -/
def jsonOrderCard : Claim7 := { stood := { row := jsonOrderRow, standIns := [], harness := (true, "4a0fdab17cce4c86884ca5dbf851c171463e9ab1b9e22816176f12551dd67f79"), looks := true }, kinds := [], alts := [], laidByText := true, laidKinds := [.data, .data, .data, .sentinel, .sentinel], laidTests := true, laidLooks := .later }
def JsonOrderCardSaid : Prop := Claim7.holds Tryd.pinned (.plain (OpenSpec.ofChange jsonOrderSpec)) jsonOrderCard

/-- THE TIED CARD OF 'seneschalkeep.JsonApart'. -/
def jsonApartCard : Claim7 := { stood := { row := jsonApartRow, standIns := [], harness := (true, "4a0fdab17cce4c86884ca5dbf851c171463e9ab1b9e22816176f12551dd67f79"), looks := true }, kinds := [], alts := [], laidByText := true, laidKinds := [.data, .data, .data, .sentinel, .sentinel], laidTests := true, laidLooks := .later }
def JsonApartCardSaid : Prop := Claim7.holds Tryd.pinned (.plain (OpenSpec.ofChange jsonApartSpec)) jsonApartCard

/-- THE TIED CARD OF 'seneschalkeep.JsonCut'. -/
def jsonCutCard : Claim7 := { stood := { row := jsonCutRow, standIns := [], harness := (true, "4a0fdab17cce4c86884ca5dbf851c171463e9ab1b9e22816176f12551dd67f79"), looks := true }, kinds := [], alts := [], laidByText := true, laidKinds := [.data, .data, .data, .sentinel, .sentinel], laidTests := true, laidLooks := .later }
def JsonCutCardSaid : Prop := Claim7.holds Tryd.pinned (.plain (OpenSpec.ofChange jsonCutSpec)) jsonCutCard

/-- THE TIED CARD OF 'seneschalkeep.JsonWraps'. -/
def jsonWrapsCard : Claim7 := { stood := { row := jsonWrapsRow, standIns := [], harness := (true, "4a0fdab17cce4c86884ca5dbf851c171463e9ab1b9e22816176f12551dd67f79"), looks := true }, kinds := [], alts := [], laidByText := true, laidKinds := [.data, .data, .data, .sentinel, .sentinel], laidTests := true, laidLooks := .later }
def JsonWrapsCardSaid : Prop := Claim7.holds Tryd.pinned (.plain (OpenSpec.ofChange jsonWrapsSpec)) jsonWrapsCard

/-- THE TIED CARD OF 'seneschalkeep.JsonQuotes'. -/
def jsonQuotesCard : Claim7 := { stood := { row := jsonQuotesRow, standIns := [], harness := (true, "4a0fdab17cce4c86884ca5dbf851c171463e9ab1b9e22816176f12551dd67f79"), looks := true }, kinds := [], alts := [], laidByText := true, laidKinds := [.data, .data, .data, .sentinel, .sentinel], laidTests := true, laidLooks := .later }
def JsonQuotesCardSaid : Prop := Claim7.holds Tryd.pinned (.plain (OpenSpec.ofChange jsonQuotesSpec)) jsonQuotesCard

/-- THE TIED CARD OF 'seneschalkeep.JsonAgain'. -/
def jsonAgainCard : Claim7 := { stood := { row := jsonAgainRow, standIns := [], harness := (true, "4a0fdab17cce4c86884ca5dbf851c171463e9ab1b9e22816176f12551dd67f79"), looks := true }, kinds := [], alts := [], laidByText := true, laidKinds := [.data, .data, .data, .sentinel, .sentinel], laidTests := true, laidLooks := .later }
def JsonAgainCardSaid : Prop := Claim7.holds Tryd.pinned (.plain (OpenSpec.ofChange jsonAgainSpec)) jsonAgainCard

/-- THE TIED CARD OF 'seneschalkeep.JsonBlanks'. -/
def jsonBlanksCard : Claim7 := { stood := { row := jsonBlanksRow, standIns := [], harness := (true, "4a0fdab17cce4c86884ca5dbf851c171463e9ab1b9e22816176f12551dd67f79"), looks := true }, kinds := [], alts := [], laidByText := true, laidKinds := [.data, .data, .data, .sentinel, .sentinel], laidTests := true, laidLooks := .later }
def JsonBlanksCardSaid : Prop := Claim7.holds Tryd.pinned (.plain (OpenSpec.ofChange jsonBlanksSpec)) jsonBlanksCard

/-- THE TIED CARD OF 'seneschalkeep.MergeThree'. -/
def mergeThreeCard : Claim7 := { stood := { row := mergeThreeRow, standIns := [], harness := (true, "4a0fdab17cce4c86884ca5dbf851c171463e9ab1b9e22816176f12551dd67f79"), looks := true }, kinds := [], alts := [], laidByText := true, laidKinds := [.data, .data, .data, .sentinel, .sentinel], laidTests := true, laidLooks := .later }
def MergeThreeCardSaid : Prop := Claim7.holds Tryd.pinned (.plain (OpenSpec.ofChange mergeThreeSpec)) mergeThreeCard

/-- THE TIED CARD OF 'seneschalkeep.MergeAgain'. -/
def mergeAgainCard : Claim7 := { stood := { row := mergeAgainRow, standIns := [], harness := (true, "4a0fdab17cce4c86884ca5dbf851c171463e9ab1b9e22816176f12551dd67f79"), looks := true }, kinds := [], alts := [], laidByText := true, laidKinds := [.data, .data, .data, .sentinel, .sentinel], laidTests := true, laidLooks := .later }
def MergeAgainCardSaid : Prop := Claim7.holds Tryd.pinned (.plain (OpenSpec.ofChange mergeAgainSpec)) mergeAgainCard

/-- THE TIED CARD OF 'seneschalkeep.MergeBoth'. -/
def mergeBothCard : Claim7 := { stood := { row := mergeBothRow, standIns := [], harness := (true, "4a0fdab17cce4c86884ca5dbf851c171463e9ab1b9e22816176f12551dd67f79"), looks := true }, kinds := [], alts := [], laidByText := true, laidKinds := [.data, .data, .data, .sentinel, .sentinel], laidTests := true, laidLooks := .later }
def MergeBothCardSaid : Prop := Claim7.holds Tryd.pinned (.plain (OpenSpec.ofChange mergeBothSpec)) mergeBothCard

/-- THE TIED CARD OF 'seneschalkeep.MergeMakes'. -/
def mergeMakesCard : Claim7 := { stood := { row := mergeMakesRow, standIns := [], harness := (true, "4a0fdab17cce4c86884ca5dbf851c171463e9ab1b9e22816176f12551dd67f79"), looks := true }, kinds := [], alts := [], laidByText := true, laidKinds := [.data, .data, .data, .sentinel, .sentinel], laidTests := true, laidLooks := .later }
def MergeMakesCardSaid : Prop := Claim7.holds Tryd.pinned (.plain (OpenSpec.ofChange mergeMakesSpec)) mergeMakesCard

/-- THE TIED CARD OF 'seneschalkeep.MergeNothing'. -/
def mergeNothingCard : Claim7 := { stood := { row := mergeNothingRow, standIns := [], harness := (true, "4a0fdab17cce4c86884ca5dbf851c171463e9ab1b9e22816176f12551dd67f79"), looks := true }, kinds := [], alts := [], laidByText := true, laidKinds := [.data, .data, .data, .sentinel, .sentinel], laidTests := true, laidLooks := .later }
def MergeNothingCardSaid : Prop := Claim7.holds Tryd.pinned (.plain (OpenSpec.ofChange mergeNothingSpec)) mergeNothingCard

/-- THE SECOND FORM's CARD OF 'seneschalkeep.JsonOrder'. -/
def jsonOrderUptoCard : Claim7 := { stood := { row := jsonOrderUptoRow, standIns := [], harness := (true, "4a0fdab17cce4c86884ca5dbf851c171463e9ab1b9e22816176f12551dd67f79"), looks := true }, kinds := [], alts := [], laidByText := true, laidKinds := [.data, .data, .data, .sentinel, .sentinel], laidTests := true, laidLooks := .later }
def JsonOrderUptoCardSaid : Prop := Claim7.holds Tryd.pinned (.plain (OpenSpec.upto jsonOrderSpec)) jsonOrderUptoCard

/-- THE SECOND FORM's CARD OF 'seneschalkeep.JsonApart'. -/
def jsonApartUptoCard : Claim7 := { stood := { row := jsonApartUptoRow, standIns := [], harness := (true, "4a0fdab17cce4c86884ca5dbf851c171463e9ab1b9e22816176f12551dd67f79"), looks := true }, kinds := [], alts := [], laidByText := true, laidKinds := [.data, .data, .data, .sentinel, .sentinel], laidTests := true, laidLooks := .later }
def JsonApartUptoCardSaid : Prop := Claim7.holds Tryd.pinned (.plain (OpenSpec.upto jsonApartSpec)) jsonApartUptoCard

/-- THE SECOND FORM's CARD OF 'seneschalkeep.JsonCut'. -/
def jsonCutUptoCard : Claim7 := { stood := { row := jsonCutUptoRow, standIns := [], harness := (true, "4a0fdab17cce4c86884ca5dbf851c171463e9ab1b9e22816176f12551dd67f79"), looks := true }, kinds := [], alts := [], laidByText := true, laidKinds := [.data, .data, .data, .sentinel, .sentinel], laidTests := true, laidLooks := .later }
def JsonCutUptoCardSaid : Prop := Claim7.holds Tryd.pinned (.plain (OpenSpec.upto jsonCutSpec)) jsonCutUptoCard

/-- THE SECOND FORM's CARD OF 'seneschalkeep.JsonWraps'. -/
def jsonWrapsUptoCard : Claim7 := { stood := { row := jsonWrapsUptoRow, standIns := [], harness := (true, "4a0fdab17cce4c86884ca5dbf851c171463e9ab1b9e22816176f12551dd67f79"), looks := true }, kinds := [], alts := [], laidByText := true, laidKinds := [.data, .data, .data, .sentinel, .sentinel], laidTests := true, laidLooks := .later }
def JsonWrapsUptoCardSaid : Prop := Claim7.holds Tryd.pinned (.plain (OpenSpec.upto jsonWrapsSpec)) jsonWrapsUptoCard

/-- THE SECOND FORM's CARD OF 'seneschalkeep.JsonQuotes'. -/
def jsonQuotesUptoCard : Claim7 := { stood := { row := jsonQuotesUptoRow, standIns := [], harness := (true, "4a0fdab17cce4c86884ca5dbf851c171463e9ab1b9e22816176f12551dd67f79"), looks := true }, kinds := [], alts := [], laidByText := true, laidKinds := [.data, .data, .data, .sentinel, .sentinel], laidTests := true, laidLooks := .later }
def JsonQuotesUptoCardSaid : Prop := Claim7.holds Tryd.pinned (.plain (OpenSpec.upto jsonQuotesSpec)) jsonQuotesUptoCard

/-- THE SECOND FORM's CARD OF 'seneschalkeep.JsonAgain'. -/
def jsonAgainUptoCard : Claim7 := { stood := { row := jsonAgainUptoRow, standIns := [], harness := (true, "4a0fdab17cce4c86884ca5dbf851c171463e9ab1b9e22816176f12551dd67f79"), looks := true }, kinds := [], alts := [], laidByText := true, laidKinds := [.data, .data, .data, .sentinel, .sentinel], laidTests := true, laidLooks := .later }
def JsonAgainUptoCardSaid : Prop := Claim7.holds Tryd.pinned (.plain (OpenSpec.upto jsonAgainSpec)) jsonAgainUptoCard

/-- THE SECOND FORM's CARD OF 'seneschalkeep.JsonBlanks'. -/
def jsonBlanksUptoCard : Claim7 := { stood := { row := jsonBlanksUptoRow, standIns := [], harness := (true, "4a0fdab17cce4c86884ca5dbf851c171463e9ab1b9e22816176f12551dd67f79"), looks := true }, kinds := [], alts := [], laidByText := true, laidKinds := [.data, .data, .data, .sentinel, .sentinel], laidTests := true, laidLooks := .later }
def JsonBlanksUptoCardSaid : Prop := Claim7.holds Tryd.pinned (.plain (OpenSpec.upto jsonBlanksSpec)) jsonBlanksUptoCard

/-- THE SECOND FORM's CARD OF 'seneschalkeep.MergeThree'. -/
def mergeThreeUptoCard : Claim7 := { stood := { row := mergeThreeUptoRow, standIns := [], harness := (true, "4a0fdab17cce4c86884ca5dbf851c171463e9ab1b9e22816176f12551dd67f79"), looks := true }, kinds := [], alts := [], laidByText := true, laidKinds := [.data, .data, .data, .sentinel, .sentinel], laidTests := true, laidLooks := .later }
def MergeThreeUptoCardSaid : Prop := Claim7.holds Tryd.pinned (.plain (OpenSpec.upto mergeThreeSpec)) mergeThreeUptoCard

/-- THE SECOND FORM's CARD OF 'seneschalkeep.MergeAgain'. -/
def mergeAgainUptoCard : Claim7 := { stood := { row := mergeAgainUptoRow, standIns := [], harness := (true, "4a0fdab17cce4c86884ca5dbf851c171463e9ab1b9e22816176f12551dd67f79"), looks := true }, kinds := [], alts := [], laidByText := true, laidKinds := [.data, .data, .data, .sentinel, .sentinel], laidTests := true, laidLooks := .later }
def MergeAgainUptoCardSaid : Prop := Claim7.holds Tryd.pinned (.plain (OpenSpec.upto mergeAgainSpec)) mergeAgainUptoCard

/-- THE SECOND FORM's CARD OF 'seneschalkeep.MergeBoth'. -/
def mergeBothUptoCard : Claim7 := { stood := { row := mergeBothUptoRow, standIns := [], harness := (true, "4a0fdab17cce4c86884ca5dbf851c171463e9ab1b9e22816176f12551dd67f79"), looks := true }, kinds := [], alts := [], laidByText := true, laidKinds := [.data, .data, .data, .sentinel, .sentinel], laidTests := true, laidLooks := .later }
def MergeBothUptoCardSaid : Prop := Claim7.holds Tryd.pinned (.plain (OpenSpec.upto mergeBothSpec)) mergeBothUptoCard

/-- THE SECOND FORM's CARD OF 'seneschalkeep.MergeMakes'. -/
def mergeMakesUptoCard : Claim7 := { stood := { row := mergeMakesUptoRow, standIns := [], harness := (true, "4a0fdab17cce4c86884ca5dbf851c171463e9ab1b9e22816176f12551dd67f79"), looks := true }, kinds := [], alts := [], laidByText := true, laidKinds := [.data, .data, .data, .sentinel, .sentinel], laidTests := true, laidLooks := .later }
def MergeMakesUptoCardSaid : Prop := Claim7.holds Tryd.pinned (.plain (OpenSpec.upto mergeMakesSpec)) mergeMakesUptoCard

/-- THE SECOND FORM's CARD OF 'seneschalkeep.MergeNothing'. -/
def mergeNothingUptoCard : Claim7 := { stood := { row := mergeNothingUptoRow, standIns := [], harness := (true, "4a0fdab17cce4c86884ca5dbf851c171463e9ab1b9e22816176f12551dd67f79"), looks := true }, kinds := [], alts := [], laidByText := true, laidKinds := [.data, .data, .data, .sentinel, .sentinel], laidTests := true, laidLooks := .later }
def MergeNothingUptoCardSaid : Prop := Claim7.holds Tryd.pinned (.plain (OpenSpec.upto mergeNothingSpec)) mergeNothingUptoCard
end Rows
end Go.Proofs.YtaddcchpidpbfaaDoor
