/-
  DERIVED. GIVEN WITH THE SEED: THE CARDS: each row of YtkmonmdnmpbadaaDoorRows.lean that lists a variable, with what it lists TIED to the program's text (the seventh form; the later family's looks); each row that meets fmt, with fmt's text TOLD by the authors' own Lean function (tested against real Go, not proved from fmt's source: count such statements apart). THE CARD IS WHAT COUNTS. Prove the row's statement (the work); the ties are given (YtkmonmdnmpbadaaDoorTie.lean); close each card by the builder's one call (the guide's Derived/Test/ToyasCard.lean, 'card_holds'). Laid BY PROGRAM, IN A SANDBOX (cutbox-door.mjs). By AI agents, Wed Nov 11 2026. No macro, syntax, notation, axiom, sorry.
-/
import Derived.Test.YtkmonmdnmpbadaaDoorRows
import GoSem.ClaimSeven
namespace Go.Proofs.YtkmonmdnmpbadaaDoor
namespace Rows

/-- THE TIED CARD OF 'seneschalkeep.QueryBack'. -/
def queryBackCard : Claim7 := { stood := { row := queryBackRow, standIns := [], harness := (true, "b97f7edf1824176593882a4f6e3cf4cecb4fa03d43e4c1a6e5db6f6b1df3c244"), looks := false }, kinds := [], alts := [], laidByText := true, laidKinds := [.data, .pinned], laidTests := true, laidLooks := .later }
def QueryBackCardSaid : Prop := Claim7.holds Tryd.pinned (.plain (OpenSpec.ofChange queryBackSpec)) queryBackCard

/-- THE TIED CARD OF 'seneschalkeep.QueryAgain'. -/
def queryAgainCard : Claim7 := { stood := { row := queryAgainRow, standIns := [], harness := (true, "b97f7edf1824176593882a4f6e3cf4cecb4fa03d43e4c1a6e5db6f6b1df3c244"), looks := false }, kinds := [], alts := [], laidByText := true, laidKinds := [.data, .pinned], laidTests := true, laidLooks := .later }
def QueryAgainCardSaid : Prop := Claim7.holds Tryd.pinned (.plain (OpenSpec.ofChange queryAgainSpec)) queryAgainCard

/-- THE TIED CARD OF 'seneschalkeep.OwnGrants'. -/
def ownGrantsCard : Claim7 := { stood := { row := ownGrantsRow, standIns := [], harness := (true, "b97f7edf1824176593882a4f6e3cf4cecb4fa03d43e4c1a6e5db6f6b1df3c244"), looks := false }, kinds := [], alts := [], laidByText := true, laidKinds := [.data, .data, .data], laidTests := true, laidLooks := .later }
def OwnGrantsCardSaid : Prop := Claim7.holds Tryd.pinned (.plain (OpenSpec.ofChange ownGrantsSpec)) ownGrantsCard

/-- THE SECOND FORM's CARD OF 'seneschalkeep.QueryBack'. -/
def queryBackUptoCard : Claim7 := { stood := { row := queryBackUptoRow, standIns := [], harness := (true, "b97f7edf1824176593882a4f6e3cf4cecb4fa03d43e4c1a6e5db6f6b1df3c244"), looks := false }, kinds := [], alts := [], laidByText := true, laidKinds := [.data, .pinned], laidTests := true, laidLooks := .later }
def QueryBackUptoCardSaid : Prop := Claim7.holds Tryd.pinned (.plain (OpenSpec.upto queryBackSpec)) queryBackUptoCard

/-- THE SECOND FORM's CARD OF 'seneschalkeep.QueryAgain'. -/
def queryAgainUptoCard : Claim7 := { stood := { row := queryAgainUptoRow, standIns := [], harness := (true, "b97f7edf1824176593882a4f6e3cf4cecb4fa03d43e4c1a6e5db6f6b1df3c244"), looks := false }, kinds := [], alts := [], laidByText := true, laidKinds := [.data, .pinned], laidTests := true, laidLooks := .later }
def QueryAgainUptoCardSaid : Prop := Claim7.holds Tryd.pinned (.plain (OpenSpec.upto queryAgainSpec)) queryAgainUptoCard

/-- THE SECOND FORM's CARD OF 'seneschalkeep.OwnGrants'. -/
def ownGrantsUptoCard : Claim7 := { stood := { row := ownGrantsUptoRow, standIns := [], harness := (true, "b97f7edf1824176593882a4f6e3cf4cecb4fa03d43e4c1a6e5db6f6b1df3c244"), looks := false }, kinds := [], alts := [], laidByText := true, laidKinds := [.data, .data, .data], laidTests := true, laidLooks := .later }
def OwnGrantsUptoCardSaid : Prop := Claim7.holds Tryd.pinned (.plain (OpenSpec.upto ownGrantsSpec)) ownGrantsUptoCard
end Rows
end Go.Proofs.YtkmonmdnmpbadaaDoor
