/-
  DERIVED. GIVEN WITH THE SEED: THE CARDS: each row of YtlbolbkikkiifaaDoorRows.lean that lists a variable, with what it lists TIED to the program's text (the seventh form; the later family's looks); each row that meets fmt, with fmt's text TOLD by the authors' own Lean function (tested against real Go, not proved from fmt's source: count such statements apart). THE CARD IS WHAT COUNTS. Prove the row's statement (the work); the ties are given (YtlbolbkikkiifaaDoorTie.lean); close each card by the builder's one call (the guide's Derived/Test/ToyasCard.lean, 'card_holds'). Laid BY PROGRAM, IN A SANDBOX (cutbox-door.mjs). By AI agents, Wed Nov 11 2026. No macro, syntax, notation, axiom, sorry.
-/
import Derived.Test.YtlbolbkikkiifaaDoorRows
import GoSem.ClaimSeven
namespace Go.Proofs.YtlbolbkikkiifaaDoor
namespace Rows

/-- THE TIED CARD OF 'seneschalkeep.OwnGrants'. -/
def ownGrantsCard : Claim7 := { stood := { row := ownGrantsRow, standIns := [], harness := (true, "0926b1d1f41d10df2094dc913ef4bd99cbdd8427da8b24c62611fc2ac56249c2"), looks := true }, kinds := [], alts := [], laidByText := true, laidKinds := [.data, .data, .data], laidTests := true, laidLooks := .later }
def OwnGrantsCardSaid : Prop := Claim7.holds Tryd.pinned (.plain (OpenSpec.ofChange ownGrantsSpec)) ownGrantsCard

/-- THE TIED CARD OF 'seneschalkeep.AuditBack'. -/
def auditBackCard : Claim7 := { stood := { row := auditBackRow, standIns := [], harness := (true, "0926b1d1f41d10df2094dc913ef4bd99cbdd8427da8b24c62611fc2ac56249c2"), looks := true }, kinds := [], alts := [], laidByText := true, laidKinds := [.data, .data, .data, .data, .sentinel, .sentinel, .pinned], laidTests := true, laidLooks := .later }
def AuditBackCardSaid : Prop := Claim7.holds Tryd.pinned (.plain (OpenSpec.ofChange auditBackSpec)) auditBackCard

/-- THE TIED CARD OF 'seneschalkeep.TokenBack'. -/
def tokenBackCard : Claim7 := { stood := { row := tokenBackRow, standIns := [], harness := (true, "0926b1d1f41d10df2094dc913ef4bd99cbdd8427da8b24c62611fc2ac56249c2"), looks := true }, kinds := [], alts := [], laidByText := true, laidKinds := [.data, .data, .data, .data, .sentinel, .sentinel, .pinned], laidTests := true, laidLooks := .later }
def TokenBackCardSaid : Prop := Claim7.holds Tryd.pinned (.plain (OpenSpec.ofChange tokenBackSpec)) tokenBackCard

/-- THE TIED CARD OF 'seneschalkeep.TokenOne'. -/
def tokenOneCard : Claim7 := { stood := { row := tokenOneRow, standIns := [], harness := (true, "0926b1d1f41d10df2094dc913ef4bd99cbdd8427da8b24c62611fc2ac56249c2"), looks := true }, kinds := [], alts := [], laidByText := true, laidKinds := [.data, .data, .data, .data, .sentinel, .sentinel, .pinned], laidTests := true, laidLooks := .later }
def TokenOneCardSaid : Prop := Claim7.holds Tryd.pinned (.plain (OpenSpec.ofChange tokenOneSpec)) tokenOneCard

/-- THE SECOND FORM's CARD OF 'seneschalkeep.OwnGrants'. -/
def ownGrantsUptoCard : Claim7 := { stood := { row := ownGrantsUptoRow, standIns := [], harness := (true, "0926b1d1f41d10df2094dc913ef4bd99cbdd8427da8b24c62611fc2ac56249c2"), looks := true }, kinds := [], alts := [], laidByText := true, laidKinds := [.data, .data, .data], laidTests := true, laidLooks := .later }
def OwnGrantsUptoCardSaid : Prop := Claim7.holds Tryd.pinned (.plain (OpenSpec.upto ownGrantsSpec)) ownGrantsUptoCard

/-- THE SECOND FORM's CARD OF 'seneschalkeep.AuditBack'. -/
def auditBackUptoCard : Claim7 := { stood := { row := auditBackUptoRow, standIns := [], harness := (true, "0926b1d1f41d10df2094dc913ef4bd99cbdd8427da8b24c62611fc2ac56249c2"), looks := true }, kinds := [], alts := [], laidByText := true, laidKinds := [.data, .data, .data, .data, .sentinel, .sentinel, .pinned], laidTests := true, laidLooks := .later }
def AuditBackUptoCardSaid : Prop := Claim7.holds Tryd.pinned (.plain (OpenSpec.upto auditBackSpec)) auditBackUptoCard

/-- THE SECOND FORM's CARD OF 'seneschalkeep.TokenBack'. -/
def tokenBackUptoCard : Claim7 := { stood := { row := tokenBackUptoRow, standIns := [], harness := (true, "0926b1d1f41d10df2094dc913ef4bd99cbdd8427da8b24c62611fc2ac56249c2"), looks := true }, kinds := [], alts := [], laidByText := true, laidKinds := [.data, .data, .data, .data, .sentinel, .sentinel, .pinned], laidTests := true, laidLooks := .later }
def TokenBackUptoCardSaid : Prop := Claim7.holds Tryd.pinned (.plain (OpenSpec.upto tokenBackSpec)) tokenBackUptoCard

/-- THE SECOND FORM's CARD OF 'seneschalkeep.TokenOne'. -/
def tokenOneUptoCard : Claim7 := { stood := { row := tokenOneUptoRow, standIns := [], harness := (true, "0926b1d1f41d10df2094dc913ef4bd99cbdd8427da8b24c62611fc2ac56249c2"), looks := true }, kinds := [], alts := [], laidByText := true, laidKinds := [.data, .data, .data, .data, .sentinel, .sentinel, .pinned], laidTests := true, laidLooks := .later }
def TokenOneUptoCardSaid : Prop := Claim7.holds Tryd.pinned (.plain (OpenSpec.upto tokenOneSpec)) tokenOneUptoCard
end Rows
end Go.Proofs.YtlbolbkikkiifaaDoor
