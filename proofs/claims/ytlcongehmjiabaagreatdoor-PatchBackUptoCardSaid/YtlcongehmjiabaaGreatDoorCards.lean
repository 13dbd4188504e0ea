/-
  DERIVED. GIVEN WITH THE SEED: THE CARDS: each row of YtlcongehmjiabaaGreatDoorRows.lean that lists a variable, with what it lists TIED to the program's text (the seventh form; the later family's looks); each row that meets fmt, with fmt's text TOLD by the authors' own Lean function (tested against real Go, not proved from fmt's source: count such statements apart). THE CARD IS WHAT COUNTS. Prove the row's statement (the work); the ties are given (YtlcongehmjiabaaGreatDoorTie.lean); close each card by the builder's one call (the guide's Derived/Test/ToyasCard.lean, 'card_holds'). Laid BY PROGRAM, IN A SANDBOX (cutbox-door.mjs). By AI agents, Wed Nov 11 2026. No macro, syntax, notation, axiom, sorry.
-/
import Derived.Test.YtlcongehmjiabaaGreatDoorRows
import GoSem.ClaimSeven
namespace Go.Proofs.YtlcongehmjiabaaGreatDoor
namespace Rows

/-- THE TIED CARD OF 'seneschalkeep.PtrApart'. -/
def ptrApartCard : Claim7 := { stood := { row := ptrApartRow, standIns := [], harness := (true, "55e98e81042160dc4152ee6759ff9b324b5733c2a754f5d874c6c3fb80bd2349"), looks := true }, kinds := [], alts := [], laidByText := true, laidKinds := [.data, .data, .data, .data, .sentinel, .sentinel, .pinned], laidTests := true, laidLooks := .later }
def PtrApartCardSaid : Prop := Claim7.holds Tryz.pinned (.plain (OpenSpec.ofChange ptrApartSpec)) ptrApartCard

/-- THE TIED CARD OF 'seneschalkeep.PtrSame'. -/
def ptrSameCard : Claim7 := { stood := { row := ptrSameRow, standIns := [], harness := (true, "55e98e81042160dc4152ee6759ff9b324b5733c2a754f5d874c6c3fb80bd2349"), looks := true }, kinds := [], alts := [], laidByText := true, laidKinds := [.data, .data, .data, .data, .sentinel, .sentinel, .pinned], laidTests := true, laidLooks := .later }
def PtrSameCardSaid : Prop := Claim7.holds Tryz.pinned (.plain (OpenSpec.ofChange ptrSameSpec)) ptrSameCard

/-- THE TIED CARD OF 'seneschalkeep.PtrPuts'. -/
def ptrPutsCard : Claim7 := { stood := { row := ptrPutsRow, standIns := [], harness := (true, "55e98e81042160dc4152ee6759ff9b324b5733c2a754f5d874c6c3fb80bd2349"), looks := true }, kinds := [], alts := [], laidByText := true, laidKinds := [.data, .data, .data, .data, .sentinel, .sentinel, .pinned], laidTests := true, laidLooks := .later }
def PtrPutsCardSaid : Prop := Claim7.holds Tryz.pinned (.plain (OpenSpec.ofChange ptrPutsSpec)) ptrPutsCard

/-- THE TIED CARD OF 'seneschalkeep.PtrCuts'. -/
def ptrCutsCard : Claim7 := { stood := { row := ptrCutsRow, standIns := [], harness := (true, "55e98e81042160dc4152ee6759ff9b324b5733c2a754f5d874c6c3fb80bd2349"), looks := true }, kinds := [], alts := [], laidByText := true, laidKinds := [.data, .data, .data, .data, .sentinel, .sentinel, .pinned], laidTests := true, laidLooks := .later }
def PtrCutsCardSaid : Prop := Claim7.holds Tryz.pinned (.plain (OpenSpec.ofChange ptrCutsSpec)) ptrCutsCard

/-- THE TIED CARD OF 'seneschalkeep.PatchSplits'. -/
def patchSplitsCard : Claim7 := { stood := { row := patchSplitsRow, standIns := [], harness := (true, "55e98e81042160dc4152ee6759ff9b324b5733c2a754f5d874c6c3fb80bd2349"), looks := true }, kinds := [], alts := [], laidByText := true, laidKinds := [.data, .data, .data, .data, .sentinel, .sentinel, .pinned], laidTests := true, laidLooks := .later }
def PatchSplitsCardSaid : Prop := Claim7.holds Tryz.pinned (.plain (OpenSpec.ofChange patchSplitsSpec)) patchSplitsCard

/-- THE TIED CARD OF 'seneschalkeep.PatchTests'. -/
def patchTestsCard : Claim7 := { stood := { row := patchTestsRow, standIns := [], harness := (true, "55e98e81042160dc4152ee6759ff9b324b5733c2a754f5d874c6c3fb80bd2349"), looks := true }, kinds := [], alts := [], laidByText := true, laidKinds := [.data, .data, .data, .data, .sentinel, .sentinel, .pinned], laidTests := true, laidLooks := .later }
def PatchTestsCardSaid : Prop := Claim7.holds Tryz.pinned (.plain (OpenSpec.ofChange patchTestsSpec)) patchTestsCard

/-- THE TIED CARD OF 'seneschalkeep.PatchBack'. -/
def patchBackCard : Claim7 := { stood := { row := patchBackRow, standIns := [], harness := (true, "55e98e81042160dc4152ee6759ff9b324b5733c2a754f5d874c6c3fb80bd2349"), looks := true }, kinds := [], alts := [], laidByText := true, laidKinds := [.data, .data, .data, .data, .sentinel, .sentinel, .pinned], laidTests := true, laidLooks := .later }
def PatchBackCardSaid : Prop := Claim7.holds Tryz.pinned (.plain (OpenSpec.ofChange patchBackSpec)) patchBackCard

/-- THE SECOND FORM's CARD OF 'seneschalkeep.PtrApart'. -/
def ptrApartUptoCard : Claim7 := { stood := { row := ptrApartUptoRow, standIns := [], harness := (true, "55e98e81042160dc4152ee6759ff9b324b5733c2a754f5d874c6c3fb80bd2349"), looks := true }, kinds := [], alts := [], laidByText := true, laidKinds := [.data, .data, .data, .data, .sentinel, .sentinel, .pinned], laidTests := true, laidLooks := .later }
def PtrApartUptoCardSaid : Prop := Claim7.holds Tryz.pinned (.plain (OpenSpec.upto ptrApartSpec)) ptrApartUptoCard

/-- THE SECOND FORM's CARD OF 'seneschalkeep.PtrSame'. -/
def ptrSameUptoCard : Claim7 := { stood := { row := ptrSameUptoRow, standIns := [], harness := (true, "55e98e81042160dc4152ee6759ff9b324b5733c2a754f5d874c6c3fb80bd2349"), looks := true }, kinds := [], alts := [], laidByText := true, laidKinds := [.data, .data, .data, .data, .sentinel, .sentinel, .pinned], laidTests := true, laidLooks := .later }
def PtrSameUptoCardSaid : Prop := Claim7.holds Tryz.pinned (.plain (OpenSpec.upto ptrSameSpec)) ptrSameUptoCard

/-- THE SECOND FORM's CARD OF 'seneschalkeep.PtrPuts'. -/
def ptrPutsUptoCard : Claim7 := { stood := { row := ptrPutsUptoRow, standIns := [], harness := (true, "55e98e81042160dc4152ee6759ff9b324b5733c2a754f5d874c6c3fb80bd2349"), looks := true }, kinds := [], alts := [], laidByText := true, laidKinds := [.data, .data, .data, .data, .sentinel, .sentinel, .pinned], laidTests := true, laidLooks := .later }
def PtrPutsUptoCardSaid : Prop := Claim7.holds Tryz.pinned (.plain (OpenSpec.upto ptrPutsSpec)) ptrPutsUptoCard

/-- THE SECOND FORM's CARD OF 'seneschalkeep.PtrCuts'. -/
def ptrCutsUptoCard : Claim7 := { stood := { row := ptrCutsUptoRow, standIns := [], harness := (true, "55e98e81042160dc4152ee6759ff9b324b5733c2a754f5d874c6c3fb80bd2349"), looks := true }, kinds := [], alts := [], laidByText := true, laidKinds := [.data, .data, .data, .data, .sentinel, .sentinel, .pinned], laidTests := true, laidLooks := .later }
def PtrCutsUptoCardSaid : Prop := Claim7.holds Tryz.pinned (.plain (OpenSpec.upto ptrCutsSpec)) ptrCutsUptoCard

/-- THE SECOND FORM's CARD OF 'seneschalkeep.PatchSplits'. -/
def patchSplitsUptoCard : Claim7 := { stood := { row := patchSplitsUptoRow, standIns := [], harness := (true, "55e98e81042160dc4152ee6759ff9b324b5733c2a754f5d874c6c3fb80bd2349"), looks := true }, kinds := [], alts := [], laidByText := true, laidKinds := [.data, .data, .data, .data, .sentinel, .sentinel, .pinned], laidTests := true, laidLooks := .later }
def PatchSplitsUptoCardSaid : Prop := Claim7.holds Tryz.pinned (.plain (OpenSpec.upto patchSplitsSpec)) patchSplitsUptoCard

/-- THE SECOND FORM's CARD OF 'seneschalkeep.PatchTests'. -/
def patchTestsUptoCard : Claim7 := { stood := { row := patchTestsUptoRow, standIns := [], harness := (true, "55e98e81042160dc4152ee6759ff9b324b5733c2a754f5d874c6c3fb80bd2349"), looks := true }, kinds := [], alts := [], laidByText := true, laidKinds := [.data, .data, .data, .data, .sentinel, .sentinel, .pinned], laidTests := true, laidLooks := .later }
def PatchTestsUptoCardSaid : Prop := Claim7.holds Tryz.pinned (.plain (OpenSpec.upto patchTestsSpec)) patchTestsUptoCard

/-- THE SECOND FORM's CARD OF 'seneschalkeep.PatchBack'. -/
def patchBackUptoCard : Claim7 := { stood := { row := patchBackUptoRow, standIns := [], harness := (true, "55e98e81042160dc4152ee6759ff9b324b5733c2a754f5d874c6c3fb80bd2349"), looks := true }, kinds := [], alts := [], laidByText := true, laidKinds := [.data, .data, .data, .data, .sentinel, .sentinel, .pinned], laidTests := true, laidLooks := .later }
def PatchBackUptoCardSaid : Prop := Claim7.holds Tryz.pinned (.plain (OpenSpec.upto patchBackSpec)) patchBackUptoCard
end Rows
end Go.Proofs.YtlcongehmjiabaaGreatDoor
