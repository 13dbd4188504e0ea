/-
  DERIVED. GIVEN WITH THE SEED: THE CARDS: each row of YtnnceaapodgfbaaGreatDoorRows.lean that lists a variable, with what it lists TIED to the program's text (the seventh form; the later family's looks); each row that meets fmt, with fmt's text TOLD by the authors' own Lean function (tested against real Go, not proved from fmt's source: count such statements apart). THE CARD IS WHAT COUNTS. Prove the row's statement (the work); the ties are given (YtnnceaapodgfbaaGreatDoorTie.lean); close each card by the builder's one call (the guide's Derived/Test/ToyasCard.lean, 'card_holds'). Laid BY PROGRAM, IN A SANDBOX (cutbox-door.mjs). By AI agents, Wed Nov 11 2026. No macro, syntax, notation, axiom, sorry.
-/
import Derived.Test.YtnnceaapodgfbaaGreatDoorRows
import GoSem.ClaimSeven
namespace Go.Proofs.YtnnceaapodgfbaaGreatDoor
namespace Rows

/-- THE TIED CARD OF 'seneschalkeep.StoreOnce'. -/
def storeOnceCard : Claim7 := { stood := { row := storeOnceRow, standIns := [], harness := (true, "cf40b62b8677373aa9d76012398a42a1552c4470c4a73730618aa830ae32ae90"), looks := true }, kinds := [], alts := [], laidByText := true, laidKinds := [.data, .data, .data, .data, .sentinel, .sentinel, .pinned], laidTests := true, laidLooks := .later }
def StoreOnceCardSaid : Prop := Claim7.holds Tryz.pinned (.plain (OpenSpec.ofChange storeOnceSpec)) storeOnceCard

/-- THE TIED CARD OF 'seneschalkeep.StoreMany'. -/
def storeManyCard : Claim7 := { stood := { row := storeManyRow, standIns := [], harness := (true, "cf40b62b8677373aa9d76012398a42a1552c4470c4a73730618aa830ae32ae90"), looks := true }, kinds := [], alts := [], laidByText := true, laidKinds := [.data, .data, .data, .data, .sentinel, .sentinel, .pinned], laidTests := true, laidLooks := .later }
def StoreManyCardSaid : Prop := Claim7.holds Tryz.pinned (.plain (OpenSpec.ofChange storeManySpec)) storeManyCard

/-- THE TIED CARD OF 'seneschalkeep.StorePast'. -/
def storePastCard : Claim7 := { stood := { row := storePastRow, standIns := [], harness := (true, "cf40b62b8677373aa9d76012398a42a1552c4470c4a73730618aa830ae32ae90"), looks := true }, kinds := [], alts := [], laidByText := true, laidKinds := [.data, .data, .data, .data, .sentinel, .sentinel, .pinned], laidTests := true, laidLooks := .later }
def StorePastCardSaid : Prop := Claim7.holds Tryz.pinned (.plain (OpenSpec.ofChange storePastSpec)) storePastCard

/-- THE TIED CARD OF 'seneschalkeep.StoreReplay'. -/
def storeReplayCard : Claim7 := { stood := { row := storeReplayRow, standIns := [], harness := (true, "cf40b62b8677373aa9d76012398a42a1552c4470c4a73730618aa830ae32ae90"), looks := true }, kinds := [], alts := [], laidByText := true, laidKinds := [.data, .data, .data, .data, .sentinel, .sentinel, .pinned], laidTests := true, laidLooks := .later }
def StoreReplayCardSaid : Prop := Claim7.holds Tryz.pinned (.plain (OpenSpec.ofChange storeReplaySpec)) storeReplayCard

/-- THE TIED CARD OF 'seneschalkeep.AdmitAgain'. -/
def admitAgainCard : Claim7 := { stood := { row := admitAgainRow, standIns := [], harness := (true, "cf40b62b8677373aa9d76012398a42a1552c4470c4a73730618aa830ae32ae90"), looks := true }, kinds := [], alts := [], laidByText := true, laidKinds := [.data, .data, .data, .data, .sentinel, .sentinel, .pinned], laidTests := true, laidLooks := .later }
def AdmitAgainCardSaid : Prop := Claim7.holds Tryz.pinned (.plain (OpenSpec.ofChange admitAgainSpec)) admitAgainCard

/-- THE TIED CARD OF 'seneschalkeep.AdmitLess'. -/
def admitLessCard : Claim7 := { stood := { row := admitLessRow, standIns := [], harness := (true, "cf40b62b8677373aa9d76012398a42a1552c4470c4a73730618aa830ae32ae90"), looks := true }, kinds := [], alts := [], laidByText := true, laidKinds := [.data, .data, .data, .data, .sentinel, .sentinel, .pinned], laidTests := true, laidLooks := .later }
def AdmitLessCardSaid : Prop := Claim7.holds Tryz.pinned (.plain (OpenSpec.ofChange admitLessSpec)) admitLessCard

/-- THE TIED CARD OF 'seneschalkeep.PagesWhole'. -/
def pagesWholeCard : Claim7 := { stood := { row := pagesWholeRow, standIns := [], harness := (true, "cf40b62b8677373aa9d76012398a42a1552c4470c4a73730618aa830ae32ae90"), looks := true }, kinds := [], alts := [], laidByText := true, laidKinds := [.data, .data, .data, .data, .sentinel, .sentinel, .pinned], laidTests := true, laidLooks := .later }
def PagesWholeCardSaid : Prop := Claim7.holds Tryz.pinned (.plain (OpenSpec.ofChange pagesWholeSpec)) pagesWholeCard

/-- THE TIED CARD OF 'seneschalkeep.WatchWhole'. -/
def watchWholeCard : Claim7 := { stood := { row := watchWholeRow, standIns := [], harness := (true, "cf40b62b8677373aa9d76012398a42a1552c4470c4a73730618aa830ae32ae90"), looks := true }, kinds := [], alts := [], laidByText := true, laidKinds := [.data, .data, .data, .data, .sentinel, .sentinel, .pinned], laidTests := true, laidLooks := .later }
def WatchWholeCardSaid : Prop := Claim7.holds Tryz.pinned (.plain (OpenSpec.ofChange watchWholeSpec)) watchWholeCard

/-- THE TIED CARD OF 'seneschalkeep.WatchPieces'. -/
def watchPiecesCard : Claim7 := { stood := { row := watchPiecesRow, standIns := [], harness := (true, "cf40b62b8677373aa9d76012398a42a1552c4470c4a73730618aa830ae32ae90"), looks := true }, kinds := [], alts := [], laidByText := true, laidKinds := [.data, .data, .data, .data, .sentinel, .sentinel, .pinned], laidTests := true, laidLooks := .later }
def WatchPiecesCardSaid : Prop := Claim7.holds Tryz.pinned (.plain (OpenSpec.ofChange watchPiecesSpec)) watchPiecesCard

/-- THE TIED CARD OF 'seneschalkeep.OwnStores'. -/
def ownStoresCard : Claim7 := { stood := { row := ownStoresRow, standIns := [], harness := (true, "cf40b62b8677373aa9d76012398a42a1552c4470c4a73730618aa830ae32ae90"), looks := true }, kinds := [], alts := [], laidByText := true, laidKinds := [.data, .data, .data, .data, .sentinel, .sentinel, .pinned], laidTests := true, laidLooks := .later }
def OwnStoresCardSaid : Prop := Claim7.holds Tryz.pinned (.plain (OpenSpec.ofChange ownStoresSpec)) ownStoresCard

/-- THE SECOND FORM's CARD OF 'seneschalkeep.StoreOnce'. -/
def storeOnceUptoCard : Claim7 := { stood := { row := storeOnceUptoRow, standIns := [], harness := (true, "cf40b62b8677373aa9d76012398a42a1552c4470c4a73730618aa830ae32ae90"), looks := true }, kinds := [], alts := [], laidByText := true, laidKinds := [.data, .data, .data, .data, .sentinel, .sentinel, .pinned], laidTests := true, laidLooks := .later }
def StoreOnceUptoCardSaid : Prop := Claim7.holds Tryz.pinned (.plain (OpenSpec.upto storeOnceSpec)) storeOnceUptoCard

/-- THE SECOND FORM's CARD OF 'seneschalkeep.StoreMany'. -/
def storeManyUptoCard : Claim7 := { stood := { row := storeManyUptoRow, standIns := [], harness := (true, "cf40b62b8677373aa9d76012398a42a1552c4470c4a73730618aa830ae32ae90"), looks := true }, kinds := [], alts := [], laidByText := true, laidKinds := [.data, .data, .data, .data, .sentinel, .sentinel, .pinned], laidTests := true, laidLooks := .later }
def StoreManyUptoCardSaid : Prop := Claim7.holds Tryz.pinned (.plain (OpenSpec.upto storeManySpec)) storeManyUptoCard

/-- THE SECOND FORM's CARD OF 'seneschalkeep.StorePast'. -/
def storePastUptoCard : Claim7 := { stood := { row := storePastUptoRow, standIns := [], harness := (true, "cf40b62b8677373aa9d76012398a42a1552c4470c4a73730618aa830ae32ae90"), looks := true }, kinds := [], alts := [], laidByText := true, laidKinds := [.data, .data, .data, .data, .sentinel, .sentinel, .pinned], laidTests := true, laidLooks := .later }
def StorePastUptoCardSaid : Prop := Claim7.holds Tryz.pinned (.plain (OpenSpec.upto storePastSpec)) storePastUptoCard

/-- THE SECOND FORM's CARD OF 'seneschalkeep.StoreReplay'. -/
def storeReplayUptoCard : Claim7 := { stood := { row := storeReplayUptoRow, standIns := [], harness := (true, "cf40b62b8677373aa9d76012398a42a1552c4470c4a73730618aa830ae32ae90"), looks := true }, kinds := [], alts := [], laidByText := true, laidKinds := [.data, .data, .data, .data, .sentinel, .sentinel, .pinned], laidTests := true, laidLooks := .later }
def StoreReplayUptoCardSaid : Prop := Claim7.holds Tryz.pinned (.plain (OpenSpec.upto storeReplaySpec)) storeReplayUptoCard

/-- THE SECOND FORM's CARD OF 'seneschalkeep.AdmitAgain'. -/
def admitAgainUptoCard : Claim7 := { stood := { row := admitAgainUptoRow, standIns := [], harness := (true, "cf40b62b8677373aa9d76012398a42a1552c4470c4a73730618aa830ae32ae90"), looks := true }, kinds := [], alts := [], laidByText := true, laidKinds := [.data, .data, .data, .data, .sentinel, .sentinel, .pinned], laidTests := true, laidLooks := .later }
def AdmitAgainUptoCardSaid : Prop := Claim7.holds Tryz.pinned (.plain (OpenSpec.upto admitAgainSpec)) admitAgainUptoCard

/-- THE SECOND FORM's CARD OF 'seneschalkeep.AdmitLess'. -/
def admitLessUptoCard : Claim7 := { stood := { row := admitLessUptoRow, standIns := [], harness := (true, "cf40b62b8677373aa9d76012398a42a1552c4470c4a73730618aa830ae32ae90"), looks := true }, kinds := [], alts := [], laidByText := true, laidKinds := [.data, .data, .data, .data, .sentinel, .sentinel, .pinned], laidTests := true, laidLooks := .later }
def AdmitLessUptoCardSaid : Prop := Claim7.holds Tryz.pinned (.plain (OpenSpec.upto admitLessSpec)) admitLessUptoCard

/-- THE SECOND FORM's CARD OF 'seneschalkeep.PagesWhole'. -/
def pagesWholeUptoCard : Claim7 := { stood := { row := pagesWholeUptoRow, standIns := [], harness := (true, "cf40b62b8677373aa9d76012398a42a1552c4470c4a73730618aa830ae32ae90"), looks := true }, kinds := [], alts := [], laidByText := true, laidKinds := [.data, .data, .data, .data, .sentinel, .sentinel, .pinned], laidTests := true, laidLooks := .later }
def PagesWholeUptoCardSaid : Prop := Claim7.holds Tryz.pinned (.plain (OpenSpec.upto pagesWholeSpec)) pagesWholeUptoCard

/-- THE SECOND FORM's CARD OF 'seneschalkeep.WatchWhole'. -/
def watchWholeUptoCard : Claim7 := { stood := { row := watchWholeUptoRow, standIns := [], harness := (true, "cf40b62b8677373aa9d76012398a42a1552c4470c4a73730618aa830ae32ae90"), looks := true }, kinds := [], alts := [], laidByText := true, laidKinds := [.data, .data, .data, .data, .sentinel, .sentinel, .pinned], laidTests := true, laidLooks := .later }
def WatchWholeUptoCardSaid : Prop := Claim7.holds Tryz.pinned (.plain (OpenSpec.upto watchWholeSpec)) watchWholeUptoCard

/-- THE SECOND FORM's CARD OF 'seneschalkeep.WatchPieces'. -/
def watchPiecesUptoCard : Claim7 := { stood := { row := watchPiecesUptoRow, standIns := [], harness := (true, "cf40b62b8677373aa9d76012398a42a1552c4470c4a73730618aa830ae32ae90"), looks := true }, kinds := [], alts := [], laidByText := true, laidKinds := [.data, .data, .data, .data, .sentinel, .sentinel, .pinned], laidTests := true, laidLooks := .later }
def WatchPiecesUptoCardSaid : Prop := Claim7.holds Tryz.pinned (.plain (OpenSpec.upto watchPiecesSpec)) watchPiecesUptoCard

/-- THE SECOND FORM's CARD OF 'seneschalkeep.OwnStores'. -/
def ownStoresUptoCard : Claim7 := { stood := { row := ownStoresUptoRow, standIns := [], harness := (true, "cf40b62b8677373aa9d76012398a42a1552c4470c4a73730618aa830ae32ae90"), looks := true }, kinds := [], alts := [], laidByText := true, laidKinds := [.data, .data, .data, .data, .sentinel, .sentinel, .pinned], laidTests := true, laidLooks := .later }
def OwnStoresUptoCardSaid : Prop := Claim7.holds Tryz.pinned (.plain (OpenSpec.upto ownStoresSpec)) ownStoresUptoCard
end Rows
end Go.Proofs.YtnnceaapodgfbaaGreatDoor
