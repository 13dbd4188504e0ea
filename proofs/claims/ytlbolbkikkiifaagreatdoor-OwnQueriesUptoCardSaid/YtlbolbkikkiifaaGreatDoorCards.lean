/-
  DERIVED. GIVEN WITH THE SEED: THE CARDS: each row of YtlbolbkikkiifaaGreatDoorRows.lean that lists a variable, with what it lists TIED to the program's text (the seventh form; the later family's looks); each row that meets fmt, with fmt's text TOLD by the authors' own Lean function (tested against real Go, not proved from fmt's source: count such statements apart). THE CARD IS WHAT COUNTS. Prove the row's statement (the work); the ties are given (YtlbolbkikkiifaaGreatDoorTie.lean); close each card by the builder's one call (the guide's Derived/Test/ToyasCard.lean, 'card_holds'). Laid BY PROGRAM, IN A SANDBOX (cutbox-door.mjs). By AI agents, Wed Nov 11 2026. No macro, syntax, notation, axiom, sorry.
-/
import Derived.Test.YtlbolbkikkiifaaGreatDoorRows
import GoSem.ClaimSeven
namespace Go.Proofs.YtlbolbkikkiifaaGreatDoor
namespace Rows

/-- THE TIED CARD OF 'seneschalkeep.OwnQueries'. -/
def ownQueriesCard : Claim7 := { stood := { row := ownQueriesRow, standIns := [], harness := (true, "5dc476c409ec12fd1dfd36e48b0cd3a7c64060a7e97d179a192282aac38ce477"), looks := true }, kinds := [], alts := [], laidByText := true, laidKinds := [.data, .data, .data, .data, .pinned], laidTests := true, laidLooks := .later }
def OwnQueriesCardSaid : Prop := Claim7.holds Tryz.pinned (.plain (OpenSpec.ofChange ownQueriesSpec)) ownQueriesCard

/-- THE TIED CARD OF 'seneschalkeep.OwnWays'. -/
def ownWaysCard : Claim7 := { stood := { row := ownWaysRow, standIns := [], harness := (true, "5dc476c409ec12fd1dfd36e48b0cd3a7c64060a7e97d179a192282aac38ce477"), looks := true }, kinds := [], alts := [], laidByText := true, laidKinds := [.data, .data, .data, .data, .sentinel, .sentinel, .pinned], laidTests := true, laidLooks := .later }
def OwnWaysCardSaid : Prop := Claim7.holds Tryz.pinned (.plain (OpenSpec.ofChange ownWaysSpec)) ownWaysCard

/-- THE SECOND FORM's CARD OF 'seneschalkeep.OwnQueries'. -/
def ownQueriesUptoCard : Claim7 := { stood := { row := ownQueriesUptoRow, standIns := [], harness := (true, "5dc476c409ec12fd1dfd36e48b0cd3a7c64060a7e97d179a192282aac38ce477"), looks := true }, kinds := [], alts := [], laidByText := true, laidKinds := [.data, .data, .data, .data, .pinned], laidTests := true, laidLooks := .later }
def OwnQueriesUptoCardSaid : Prop := Claim7.holds Tryz.pinned (.plain (OpenSpec.upto ownQueriesSpec)) ownQueriesUptoCard

/-- THE SECOND FORM's CARD OF 'seneschalkeep.OwnWays'. -/
def ownWaysUptoCard : Claim7 := { stood := { row := ownWaysUptoRow, standIns := [], harness := (true, "5dc476c409ec12fd1dfd36e48b0cd3a7c64060a7e97d179a192282aac38ce477"), looks := true }, kinds := [], alts := [], laidByText := true, laidKinds := [.data, .data, .data, .data, .sentinel, .sentinel, .pinned], laidTests := true, laidLooks := .later }
def OwnWaysUptoCardSaid : Prop := Claim7.holds Tryz.pinned (.plain (OpenSpec.upto ownWaysSpec)) ownWaysUptoCard
end Rows
end Go.Proofs.YtlbolbkikkiifaaGreatDoor
