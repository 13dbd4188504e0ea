/-
  DERIVED. GIVEN WITH THE SEED: THE CARDS: each row of YtkkfnihdnclgiaaDoorRows.lean that lists a variable, with what it lists TIED to the program's text (the seventh form; the later family's looks); each row that meets fmt, with fmt's text TOLD by the authors' own Lean function (tested against real Go, not proved from fmt's source: count such statements apart). THE CARD IS WHAT COUNTS. Prove the row's statement (the work); the ties are given (YtkkfnihdnclgiaaDoorTie.lean); close each card by the builder's one call (the guide's Derived/Test/ToyasCard.lean, 'card_holds'). Laid BY PROGRAM, IN A SANDBOX (cutbox-door.mjs). By AI agents, Wed Nov 11 2026. No macro, syntax, notation, axiom, sorry.
-/
import Derived.Test.YtkkfnihdnclgiaaDoorRows
import GoSem.ClaimSeven
namespace Go.Proofs.YtkkfnihdnclgiaaDoor
namespace Rows

/-- THE TIED CARD OF 'seneschalkeep.GrantsCovers'. -/
def grantsCoversCard : Claim7 := { stood := { row := grantsCoversRow, standIns := [], harness := (true, "65a4308e6e54111fec07bee829c00780fcb2018d07992f2cb01f8ddd4f4f1416"), looks := false }, kinds := [], alts := [], laidByText := true, laidKinds := [.data, .data, .data], laidTests := true, laidLooks := .later }
def GrantsCoversCardSaid : Prop := Claim7.holds Tryd.pinned (.plain (OpenSpec.ofChange grantsCoversSpec)) grantsCoversCard

/-- THE TIED CARD OF 'seneschalkeep.GrantsOwn'. -/
def grantsOwnCard : Claim7 := { stood := { row := grantsOwnRow, standIns := [], harness := (true, "65a4308e6e54111fec07bee829c00780fcb2018d07992f2cb01f8ddd4f4f1416"), looks := false }, kinds := [], alts := [], laidByText := true, laidKinds := [.data, .data, .data], laidTests := true, laidLooks := .later }
def GrantsOwnCardSaid : Prop := Claim7.holds Tryd.pinned (.plain (OpenSpec.ofChange grantsOwnSpec)) grantsOwnCard

/-- THE TIED CARD OF 'seneschalkeep.PtrBack'. -/
def ptrBackCard : Claim7 := { stood := { row := ptrBackRow, standIns := [], harness := (true, "65a4308e6e54111fec07bee829c00780fcb2018d07992f2cb01f8ddd4f4f1416"), looks := false }, kinds := [], alts := [], laidByText := true, laidKinds := [.data, .pinned], laidTests := true, laidLooks := .later }
def PtrBackCardSaid : Prop := Claim7.holds Tryd.pinned (.plain (OpenSpec.ofChange ptrBackSpec)) ptrBackCard

/-- THE TIED CARD OF 'seneschalkeep.OwnGrants'. -/
def ownGrantsCard : Claim7 := { stood := { row := ownGrantsRow, standIns := [], harness := (true, "65a4308e6e54111fec07bee829c00780fcb2018d07992f2cb01f8ddd4f4f1416"), looks := false }, kinds := [], alts := [], laidByText := true, laidKinds := [.data, .data, .data], laidTests := true, laidLooks := .later }
def OwnGrantsCardSaid : Prop := Claim7.holds Tryd.pinned (.plain (OpenSpec.ofChange ownGrantsSpec)) ownGrantsCard

/-- THE SECOND FORM's CARD OF 'seneschalkeep.GrantsCovers'. -/
def grantsCoversUptoCard : Claim7 := { stood := { row := grantsCoversUptoRow, standIns := [], harness := (true, "65a4308e6e54111fec07bee829c00780fcb2018d07992f2cb01f8ddd4f4f1416"), looks := false }, kinds := [], alts := [], laidByText := true, laidKinds := [.data, .data, .data], laidTests := true, laidLooks := .later }
def GrantsCoversUptoCardSaid : Prop := Claim7.holds Tryd.pinned (.plain (OpenSpec.upto grantsCoversSpec)) grantsCoversUptoCard

/-- THE SECOND FORM's CARD OF 'seneschalkeep.GrantsOwn'. -/
def grantsOwnUptoCard : Claim7 := { stood := { row := grantsOwnUptoRow, standIns := [], harness := (true, "65a4308e6e54111fec07bee829c00780fcb2018d07992f2cb01f8ddd4f4f1416"), looks := false }, kinds := [], alts := [], laidByText := true, laidKinds := [.data, .data, .data], laidTests := true, laidLooks := .later }
def GrantsOwnUptoCardSaid : Prop := Claim7.holds Tryd.pinned (.plain (OpenSpec.upto grantsOwnSpec)) grantsOwnUptoCard

/-- THE SECOND FORM's CARD OF 'seneschalkeep.PtrBack'. -/
def ptrBackUptoCard : Claim7 := { stood := { row := ptrBackUptoRow, standIns := [], harness := (true, "65a4308e6e54111fec07bee829c00780fcb2018d07992f2cb01f8ddd4f4f1416"), looks := false }, kinds := [], alts := [], laidByText := true, laidKinds := [.data, .pinned], laidTests := true, laidLooks := .later }
def PtrBackUptoCardSaid : Prop := Claim7.holds Tryd.pinned (.plain (OpenSpec.upto ptrBackSpec)) ptrBackUptoCard

/-- THE SECOND FORM's CARD OF 'seneschalkeep.OwnGrants'. -/
def ownGrantsUptoCard : Claim7 := { stood := { row := ownGrantsUptoRow, standIns := [], harness := (true, "65a4308e6e54111fec07bee829c00780fcb2018d07992f2cb01f8ddd4f4f1416"), looks := false }, kinds := [], alts := [], laidByText := true, laidKinds := [.data, .data, .data], laidTests := true, laidLooks := .later }
def OwnGrantsUptoCardSaid : Prop := Claim7.holds Tryd.pinned (.plain (OpenSpec.upto ownGrantsSpec)) ownGrantsUptoCard
end Rows
end Go.Proofs.YtkkfnihdnclgiaaDoor
