/-
  DERIVED. GIVEN WITH THE SEED: THE CARDS: each row of YtmfcddbeglfdcaaDoorRows.lean that lists a variable, with what it lists TIED to the program's text (the seventh form; the later family's looks); each row that meets fmt, with fmt's text TOLD by the authors' own Lean function (tested against real Go, not proved from fmt's source: count such statements apart). THE CARD IS WHAT COUNTS. Prove the row's statement (the work); the ties are given (YtmfcddbeglfdcaaDoorTie.lean); close each card by the builder's one call (the guide's Derived/Test/ToyasCard.lean, 'card_holds'). Laid BY PROGRAM, IN A SANDBOX (cutbox-door.mjs). By AI agents, Wed Nov 11 2026. No macro, syntax, notation, axiom, sorry.
-/
import Derived.Test.YtmfcddbeglfdcaaDoorRows
import GoSem.ClaimSeven
namespace Go.Proofs.YtmfcddbeglfdcaaDoor
namespace Rows

/-- THE TIED CARD OF 'seneschalkeep.NameKeys'. -/
def nameKeysCard : Claim7 := { stood := { row := nameKeysRow, standIns := [], harness := (true, "7f3ab4578c6f52e494858553c954fe15246fa683549a505bffbf409d7a19daa1"), looks := false }, kinds := [], alts := [], laidByText := true, laidKinds := [.data, .pinned], laidTests := true, laidLooks := .later }
def NameKeysCardSaid : Prop := Claim7.holds Tryd.pinned (.plain (OpenSpec.ofChange nameKeysSpec)) nameKeysCard

/-- THE TIED CARD OF 'seneschalkeep.PtrBack'. -/
def ptrBackCard : Claim7 := { stood := { row := ptrBackRow, standIns := [], harness := (true, "7f3ab4578c6f52e494858553c954fe15246fa683549a505bffbf409d7a19daa1"), looks := false }, kinds := [], alts := [], laidByText := true, laidKinds := [.data, .pinned], laidTests := true, laidLooks := .later }
def PtrBackCardSaid : Prop := Claim7.holds Tryd.pinned (.plain (OpenSpec.ofChange ptrBackSpec)) ptrBackCard

/-- THE TIED CARD OF 'seneschalkeep.QueryNot'. -/
def queryNotCard : Claim7 := { stood := { row := queryNotRow, standIns := [], harness := (true, "7f3ab4578c6f52e494858553c954fe15246fa683549a505bffbf409d7a19daa1"), looks := false }, kinds := [], alts := [], laidByText := true, laidKinds := [.data, .pinned], laidTests := true, laidLooks := .later }
def QueryNotCardSaid : Prop := Claim7.holds Tryd.pinned (.plain (OpenSpec.ofChange queryNotSpec)) queryNotCard

/-- THE TIED CARD OF 'seneschalkeep.QueryAnd'. -/
def queryAndCard : Claim7 := { stood := { row := queryAndRow, standIns := [], harness := (true, "7f3ab4578c6f52e494858553c954fe15246fa683549a505bffbf409d7a19daa1"), looks := false }, kinds := [], alts := [], laidByText := true, laidKinds := [.data, .pinned], laidTests := true, laidLooks := .later }
def QueryAndCardSaid : Prop := Claim7.holds Tryd.pinned (.plain (OpenSpec.ofChange queryAndSpec)) queryAndCard

/-- THE TIED CARD OF 'seneschalkeep.OwnGrants'. -/
def ownGrantsCard : Claim7 := { stood := { row := ownGrantsRow, standIns := [], harness := (true, "7f3ab4578c6f52e494858553c954fe15246fa683549a505bffbf409d7a19daa1"), looks := false }, kinds := [], alts := [], laidByText := true, laidKinds := [.data, .data, .data], laidTests := true, laidLooks := .later }
def OwnGrantsCardSaid : Prop := Claim7.holds Tryd.pinned (.plain (OpenSpec.ofChange ownGrantsSpec)) ownGrantsCard

/-- THE TIED CARD OF 'seneschalkeep.QueryBack'. -/
def queryBackCard : Claim7 := { stood := { row := queryBackRow, standIns := [], harness := (true, "7f3ab4578c6f52e494858553c954fe15246fa683549a505bffbf409d7a19daa1"), looks := false }, kinds := [], alts := [], laidByText := true, laidKinds := [.data, .pinned], laidTests := true, laidLooks := .later }
def QueryBackCardSaid : Prop := Claim7.holds Tryd.pinned (.plain (OpenSpec.ofChange queryBackSpec)) queryBackCard

/-- THE TIED CARD OF 'seneschalkeep.QueryAgain'. -/
def queryAgainCard : Claim7 := { stood := { row := queryAgainRow, standIns := [], harness := (true, "7f3ab4578c6f52e494858553c954fe15246fa683549a505bffbf409d7a19daa1"), looks := false }, kinds := [], alts := [], laidByText := true, laidKinds := [.data, .pinned], laidTests := true, laidLooks := .later }
def QueryAgainCardSaid : Prop := Claim7.holds Tryd.pinned (.plain (OpenSpec.ofChange queryAgainSpec)) queryAgainCard

/-- THE SECOND FORM's CARD OF 'seneschalkeep.NameKeys'. -/
def nameKeysUptoCard : Claim7 := { stood := { row := nameKeysUptoRow, standIns := [], harness := (true, "7f3ab4578c6f52e494858553c954fe15246fa683549a505bffbf409d7a19daa1"), looks := false }, kinds := [], alts := [], laidByText := true, laidKinds := [.data, .pinned], laidTests := true, laidLooks := .later }
def NameKeysUptoCardSaid : Prop := Claim7.holds Tryd.pinned (.plain (OpenSpec.upto nameKeysSpec)) nameKeysUptoCard

/-- THE SECOND FORM's CARD OF 'seneschalkeep.PtrBack'. -/
def ptrBackUptoCard : Claim7 := { stood := { row := ptrBackUptoRow, standIns := [], harness := (true, "7f3ab4578c6f52e494858553c954fe15246fa683549a505bffbf409d7a19daa1"), looks := false }, kinds := [], alts := [], laidByText := true, laidKinds := [.data, .pinned], laidTests := true, laidLooks := .later }
def PtrBackUptoCardSaid : Prop := Claim7.holds Tryd.pinned (.plain (OpenSpec.upto ptrBackSpec)) ptrBackUptoCard

/-- THE SECOND FORM's CARD OF 'seneschalkeep.QueryNot'. -/
def queryNotUptoCard : Claim7 := { stood := { row := queryNotUptoRow, standIns := [], harness := (true, "7f3ab4578c6f52e494858553c954fe15246fa683549a505bffbf409d7a19daa1"), looks := false }, kinds := [], alts := [], laidByText := true, laidKinds := [.data, .pinned], laidTests := true, laidLooks := .later }
def QueryNotUptoCardSaid : Prop := Claim7.holds Tryd.pinned (.plain (OpenSpec.upto queryNotSpec)) queryNotUptoCard

/-- THE SECOND FORM's CARD OF 'seneschalkeep.QueryAnd'. -/
def queryAndUptoCard : Claim7 := { stood := { row := queryAndUptoRow, standIns := [], harness := (true, "7f3ab4578c6f52e494858553c954fe15246fa683549a505bffbf409d7a19daa1"), looks := false }, kinds := [], alts := [], laidByText := true, laidKinds := [.data, .pinned], laidTests := true, laidLooks := .later }
def QueryAndUptoCardSaid : Prop := Claim7.holds Tryd.pinned (.plain (OpenSpec.upto queryAndSpec)) queryAndUptoCard

/-- THE SECOND FORM's CARD OF 'seneschalkeep.OwnGrants'. -/
def ownGrantsUptoCard : Claim7 := { stood := { row := ownGrantsUptoRow, standIns := [], harness := (true, "7f3ab4578c6f52e494858553c954fe15246fa683549a505bffbf409d7a19daa1"), looks := false }, kinds := [], alts := [], laidByText := true, laidKinds := [.data, .data, .data], laidTests := true, laidLooks := .later }
def OwnGrantsUptoCardSaid : Prop := Claim7.holds Tryd.pinned (.plain (OpenSpec.upto ownGrantsSpec)) ownGrantsUptoCard

/-- THE SECOND FORM's CARD OF 'seneschalkeep.QueryBack'. -/
def queryBackUptoCard : Claim7 := { stood := { row := queryBackUptoRow, standIns := [], harness := (true, "7f3ab4578c6f52e494858553c954fe15246fa683549a505bffbf409d7a19daa1"), looks := false }, kinds := [], alts := [], laidByText := true, laidKinds := [.data, .pinned], laidTests := true, laidLooks := .later }
def QueryBackUptoCardSaid : Prop := Claim7.holds Tryd.pinned (.plain (OpenSpec.upto queryBackSpec)) queryBackUptoCard

/-- THE SECOND FORM's CARD OF 'seneschalkeep.QueryAgain'. -/
def queryAgainUptoCard : Claim7 := { stood := { row := queryAgainUptoRow, standIns := [], harness := (true, "7f3ab4578c6f52e494858553c954fe15246fa683549a505bffbf409d7a19daa1"), looks := false }, kinds := [], alts := [], laidByText := true, laidKinds := [.data, .pinned], laidTests := true, laidLooks := .later }
def QueryAgainUptoCardSaid : Prop := Claim7.holds Tryd.pinned (.plain (OpenSpec.upto queryAgainSpec)) queryAgainUptoCard
end Rows
end Go.Proofs.YtmfcddbeglfdcaaDoor
