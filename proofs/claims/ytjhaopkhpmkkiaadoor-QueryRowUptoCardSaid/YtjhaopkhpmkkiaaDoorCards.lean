/-
  DERIVED. GIVEN WITH THE SEED: THE CARDS: each row of YtjhaopkhpmkkiaaDoorRows.lean that lists a variable, with what it lists TIED to the program's text (the seventh form; the later family's looks); each row that meets fmt, with fmt's text TOLD by the authors' own Lean function (tested against real Go, not proved from fmt's source: count such statements apart). THE CARD IS WHAT COUNTS. Prove the row's statement (the work); the ties are given (YtjhaopkhpmkkiaaDoorTie.lean); close each card by the builder's one call (the guide's Derived/Test/ToyasCard.lean, 'card_holds'). Laid BY PROGRAM, IN A SANDBOX (cutbox-door.mjs). By AI agents, Wed Nov 11 2026. No macro, syntax, notation, axiom, sorry.
-/
import Derived.Test.YtjhaopkhpmkkiaaDoorRows
import GoSem.ClaimSeven
namespace Go.Proofs.YtjhaopkhpmkkiaaDoor
namespace Rows

/-- THE TIED CARD OF 'seneschalkeep.QueryBack'. -/
def queryBackCard : Claim7 := { stood := { row := queryBackRow, standIns := [], harness := (true, "71fb3b4210ee226793ccc1b7e05328bb30a2600b47096e018e1ee043d3fece50"), looks := false }, kinds := [], alts := [], laidByText := true, laidKinds := [.data, .pinned], laidTests := true, laidLooks := .later }
def QueryBackCardSaid : Prop := Claim7.holds Tryd.pinned (.plain (OpenSpec.ofChange queryBackSpec)) queryBackCard

/-- THE TIED CARD OF 'seneschalkeep.QueryAgain'. -/
def queryAgainCard : Claim7 := { stood := { row := queryAgainRow, standIns := [], harness := (true, "71fb3b4210ee226793ccc1b7e05328bb30a2600b47096e018e1ee043d3fece50"), looks := false }, kinds := [], alts := [], laidByText := true, laidKinds := [.data, .pinned], laidTests := true, laidLooks := .later }
def QueryAgainCardSaid : Prop := Claim7.holds Tryd.pinned (.plain (OpenSpec.ofChange queryAgainSpec)) queryAgainCard

/-- THE TIED CARD OF 'seneschalkeep.QueryRow'. -/
def queryRowCard : Claim7 := { stood := { row := queryRowRow, standIns := [], harness := (true, "71fb3b4210ee226793ccc1b7e05328bb30a2600b47096e018e1ee043d3fece50"), looks := false }, kinds := [], alts := [], laidByText := true, laidKinds := [.data, .data, .data, .data, .pinned], laidTests := true, laidLooks := .later }
def QueryRowCardSaid : Prop := Claim7.holds Tryd.pinned (.plain (OpenSpec.ofChange queryRowSpec)) queryRowCard

/-- THE TIED CARD OF 'seneschalkeep.QuerySound'. -/
def querySoundCard : Claim7 := { stood := { row := querySoundRow, standIns := [], harness := (true, "71fb3b4210ee226793ccc1b7e05328bb30a2600b47096e018e1ee043d3fece50"), looks := false }, kinds := [], alts := [], laidByText := true, laidKinds := [.data, .data, .data, .data, .pinned], laidTests := true, laidLooks := .later }
def QuerySoundCardSaid : Prop := Claim7.holds Tryd.pinned (.plain (OpenSpec.ofChange querySoundSpec)) querySoundCard

/-- THE TIED CARD OF 'seneschalkeep.QueryImplied'. -/
def queryImpliedCard : Claim7 := { stood := { row := queryImpliedRow, standIns := [], harness := (true, "71fb3b4210ee226793ccc1b7e05328bb30a2600b47096e018e1ee043d3fece50"), looks := false }, kinds := [], alts := [], laidByText := true, laidKinds := [.data, .data, .data, .data, .pinned], laidTests := true, laidLooks := .later }
def QueryImpliedCardSaid : Prop := Claim7.holds Tryd.pinned (.plain (OpenSpec.ofChange queryImpliedSpec)) queryImpliedCard

/-- THE SECOND FORM's CARD OF 'seneschalkeep.QueryBack'. -/
def queryBackUptoCard : Claim7 := { stood := { row := queryBackUptoRow, standIns := [], harness := (true, "71fb3b4210ee226793ccc1b7e05328bb30a2600b47096e018e1ee043d3fece50"), looks := false }, kinds := [], alts := [], laidByText := true, laidKinds := [.data, .pinned], laidTests := true, laidLooks := .later }
def QueryBackUptoCardSaid : Prop := Claim7.holds Tryd.pinned (.plain (OpenSpec.upto queryBackSpec)) queryBackUptoCard

/-- THE SECOND FORM's CARD OF 'seneschalkeep.QueryAgain'. -/
def queryAgainUptoCard : Claim7 := { stood := { row := queryAgainUptoRow, standIns := [], harness := (true, "71fb3b4210ee226793ccc1b7e05328bb30a2600b47096e018e1ee043d3fece50"), looks := false }, kinds := [], alts := [], laidByText := true, laidKinds := [.data, .pinned], laidTests := true, laidLooks := .later }
def QueryAgainUptoCardSaid : Prop := Claim7.holds Tryd.pinned (.plain (OpenSpec.upto queryAgainSpec)) queryAgainUptoCard

/-- THE SECOND FORM's CARD OF 'seneschalkeep.QueryRow'. -/
def queryRowUptoCard : Claim7 := { stood := { row := queryRowUptoRow, standIns := [], harness := (true, "71fb3b4210ee226793ccc1b7e05328bb30a2600b47096e018e1ee043d3fece50"), looks := false }, kinds := [], alts := [], laidByText := true, laidKinds := [.data, .data, .data, .data, .pinned], laidTests := true, laidLooks := .later }
def QueryRowUptoCardSaid : Prop := Claim7.holds Tryd.pinned (.plain (OpenSpec.upto queryRowSpec)) queryRowUptoCard

/-- THE SECOND FORM's CARD OF 'seneschalkeep.QuerySound'. -/
def querySoundUptoCard : Claim7 := { stood := { row := querySoundUptoRow, standIns := [], harness := (true, "71fb3b4210ee226793ccc1b7e05328bb30a2600b47096e018e1ee043d3fece50"), looks := false }, kinds := [], alts := [], laidByText := true, laidKinds := [.data, .data, .data, .data, .pinned], laidTests := true, laidLooks := .later }
def QuerySoundUptoCardSaid : Prop := Claim7.holds Tryd.pinned (.plain (OpenSpec.upto querySoundSpec)) querySoundUptoCard

/-- THE SECOND FORM's CARD OF 'seneschalkeep.QueryImplied'. -/
def queryImpliedUptoCard : Claim7 := { stood := { row := queryImpliedUptoRow, standIns := [], harness := (true, "71fb3b4210ee226793ccc1b7e05328bb30a2600b47096e018e1ee043d3fece50"), looks := false }, kinds := [], alts := [], laidByText := true, laidKinds := [.data, .data, .data, .data, .pinned], laidTests := true, laidLooks := .later }
def QueryImpliedUptoCardSaid : Prop := Claim7.holds Tryd.pinned (.plain (OpenSpec.upto queryImpliedSpec)) queryImpliedUptoCard
end Rows
end Go.Proofs.YtjhaopkhpmkkiaaDoor
