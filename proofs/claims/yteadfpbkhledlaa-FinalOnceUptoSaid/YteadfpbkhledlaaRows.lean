/-
  No cell of these rows narrows 'for every input' (looked for: loops, veiled, ifaces, maps, wideKeys, modest, calm, conditions, laid).
  DERIVED. THE GIVEN ROWS OF THIS SEAT. 11 by the template 'for every input the law returns true; each argument reads behind the call as it read before'; 0 by the template 'total and deterministic' (their statements: YteadfpbkhledlaaTotals.lean).
  GIVEN WITH THE SEED: the statements are not yours to turn. If you find one false, say at which input.
  Laid BY PROGRAM, IN A SANDBOX (cutbox-rows.mjs): the forced cells as the released guide's own fill.sh prints them over the translation b0e357328190107b… (all of the seat's roots in one cut). By AI agents, Wed Nov 11 2026. No macro, syntax, notation, axiom, sorry.
-/
import Derived.Test.YteadfpbkhledlaaChecked
import GoSem.Claim
import GoSem.ClaimJoined
import GoSem.ClaimMapViews
import Derived.JoinedTies
import Derived.KernelRfl
namespace Go.Proofs.Yteadfpbkhledlaa
/- THE CELL 'sum', in the pinned program and in every row, IS THE sha256 OF THE DUMP (.gsa) THAT YteadfpbkhledlaaProg.lean LOADS. Nothing in Lean hashes anything: it is a label: what it is worth is what the hold of that sum in a sandbox is worth. -/
noncomputable def Try.pinned : Pinned := { name := "yteadfpbkhledlaa", sum := "b0e357328190107bb79700f29256006f8880a6307f12372542bc9e41e7b28ed3", checked := Try.checked }
namespace Rows
def none {H : Type} : Left H := { results := [], args := [] }

/-- 'seneschalkeep.SealBack': WHATEVER THE INPUT: true; the input reads as it did. -/
def sealBackSpec : ChangeSpec := { name := "sealBack", fn := fun _ => fun
  | [d1, d2] => { results := [.lit (.bool true)], args := [d1, d2] }
  | _ => none }
def sealBackRow : OpenClaim := { program := "yteadfpbkhledlaa", sum := "b0e357328190107bb79700f29256006f8880a6307f12372542bc9e41e7b28ed3", func := "seneschal/seneschalkeep.SealBack", spec := "sealBack", apart := false }
def SealBackSaid : Prop := sealBackRow.holds Try.pinned (OpenSpec.ofChange sealBackSpec)

/-- ITS FALSE NEIGHBOUR: 'it returns false'. Refute it at one input. -/
def sealBackWrong : ChangeSpec := { name := "sealBack", fn := fun _ => fun
  | [d1, d2] => { results := [.lit (.bool false)], args := [d1, d2] }
  | _ => none }
def SealBackWrongFalsely : Prop := sealBackRow.holds Try.pinned (OpenSpec.ofChange sealBackWrong)

/-- 'seneschalkeep.SealKnown': WHATEVER THE INPUT: true; the input reads as it did. -/
def sealKnownSpec : ChangeSpec := { name := "sealKnown", fn := fun _ => fun
  | [d] => { results := [.lit (.bool true)], args := [d] }
  | _ => none }
def sealKnownRow : OpenClaim := { program := "yteadfpbkhledlaa", sum := "b0e357328190107bb79700f29256006f8880a6307f12372542bc9e41e7b28ed3", func := "seneschal/seneschalkeep.SealKnown", spec := "sealKnown", apart := false }
def SealKnownSaid : Prop := sealKnownRow.holds Try.pinned (OpenSpec.ofChange sealKnownSpec)

/-- ITS FALSE NEIGHBOUR: 'it returns false'. Refute it at one input. -/
def sealKnownWrong : ChangeSpec := { name := "sealKnown", fn := fun _ => fun
  | [d] => { results := [.lit (.bool false)], args := [d] }
  | _ => none }
def SealKnownWrongFalsely : Prop := sealKnownRow.holds Try.pinned (OpenSpec.ofChange sealKnownWrong)

/-- 'seneschalkeep.SealPieces': WHATEVER THE INPUT: true; the input reads as it did. -/
def sealPiecesSpec : ChangeSpec := { name := "sealPieces", fn := fun _ => fun
  | [d] => { results := [.lit (.bool true)], args := [d] }
  | _ => none }
def sealPiecesRow : OpenClaim := { program := "yteadfpbkhledlaa", sum := "b0e357328190107bb79700f29256006f8880a6307f12372542bc9e41e7b28ed3", func := "seneschal/seneschalkeep.SealPieces", spec := "sealPieces", inPlace := ["internal/abi.NoEscape", "internal/bytealg.MakeNoZero"], apart := false }
def SealPiecesSaid : Prop := sealPiecesRow.holds Try.pinned (OpenSpec.ofChange sealPiecesSpec)

/-- ITS FALSE NEIGHBOUR: 'it returns false'. Refute it at one input. -/
def sealPiecesWrong : ChangeSpec := { name := "sealPieces", fn := fun _ => fun
  | [d] => { results := [.lit (.bool false)], args := [d] }
  | _ => none }
def SealPiecesWrongFalsely : Prop := sealPiecesRow.holds Try.pinned (OpenSpec.ofChange sealPiecesWrong)

/-- 'seneschalkeep.SealLong': WHATEVER THE INPUT: true; the input reads as it did. -/
def sealLongSpec : ChangeSpec := { name := "sealLong", fn := fun _ => fun
  | [d1, d2] => { results := [.lit (.bool true)], args := [d1, d2] }
  | _ => none }
def sealLongRow : OpenClaim := { program := "yteadfpbkhledlaa", sum := "b0e357328190107bb79700f29256006f8880a6307f12372542bc9e41e7b28ed3", func := "seneschal/seneschalkeep.SealLong", spec := "sealLong", inPlace := ["internal/abi.NoEscape", "internal/bytealg.MakeNoZero"], apart := false }
def SealLongSaid : Prop := sealLongRow.holds Try.pinned (OpenSpec.ofChange sealLongSpec)

/-- ITS FALSE NEIGHBOUR: 'it returns false'. Refute it at one input. -/
def sealLongWrong : ChangeSpec := { name := "sealLong", fn := fun _ => fun
  | [d1, d2] => { results := [.lit (.bool false)], args := [d1, d2] }
  | _ => none }
def SealLongWrongFalsely : Prop := sealLongRow.holds Try.pinned (OpenSpec.ofChange sealLongWrong)

/-- 'seneschalkeep.AuditJoins': WHATEVER THE INPUT: true; the input reads as it did. -/
def auditJoinsSpec : ChangeSpec := { name := "auditJoins", fn := fun _ => fun
  | [d1, d2, d3] => { results := [.lit (.bool true)], args := [d1, d2, d3] }
  | _ => none }
def auditJoinsRow : OpenClaim := { program := "yteadfpbkhledlaa", sum := "b0e357328190107bb79700f29256006f8880a6307f12372542bc9e41e7b28ed3", func := "seneschal/seneschalkeep.AuditJoins", spec := "auditJoins", apart := false }
def AuditJoinsSaid : Prop := auditJoinsRow.holds Try.pinned (OpenSpec.ofChange auditJoinsSpec)

/-- ITS FALSE NEIGHBOUR: 'it returns false'. Refute it at one input. -/
def auditJoinsWrong : ChangeSpec := { name := "auditJoins", fn := fun _ => fun
  | [d1, d2, d3] => { results := [.lit (.bool false)], args := [d1, d2, d3] }
  | _ => none }
def AuditJoinsWrongFalsely : Prop := auditJoinsRow.holds Try.pinned (OpenSpec.ofChange auditJoinsWrong)

/-- 'seneschalkeep.AuditProves': WHATEVER THE INPUT: true; the input reads as it did. -/
def auditProvesSpec : ChangeSpec := { name := "auditProves", fn := fun _ => fun
  | [d1, d2] => { results := [.lit (.bool true)], args := [d1, d2] }
  | _ => none }
def auditProvesRow : OpenClaim := { program := "yteadfpbkhledlaa", sum := "b0e357328190107bb79700f29256006f8880a6307f12372542bc9e41e7b28ed3", func := "seneschal/seneschalkeep.AuditProves", spec := "auditProves", recurses := true, apart := false }
def AuditProvesSaid : Prop := auditProvesRow.holds Try.pinned (OpenSpec.ofChange auditProvesSpec)

/-- ITS FALSE NEIGHBOUR: 'it returns false'. Refute it at one input. -/
def auditProvesWrong : ChangeSpec := { name := "auditProves", fn := fun _ => fun
  | [d1, d2] => { results := [.lit (.bool false)], args := [d1, d2] }
  | _ => none }
def AuditProvesWrongFalsely : Prop := auditProvesRow.holds Try.pinned (OpenSpec.ofChange auditProvesWrong)

/-- 'seneschalkeep.NameJoins': WHATEVER THE INPUT: true; the input reads as it did. -/
def nameJoinsSpec : ChangeSpec := { name := "nameJoins", fn := fun _ => fun
  | [d1, d2] => { results := [.lit (.bool true)], args := [d1, d2] }
  | _ => none }
def nameJoinsRow : OpenClaim := { program := "yteadfpbkhledlaa", sum := "b0e357328190107bb79700f29256006f8880a6307f12372542bc9e41e7b28ed3", func := "seneschal/seneschalkeep.NameJoins", spec := "nameJoins", unfollowed := true, recurses := true, apart := false }
def NameJoinsSaid : Prop := nameJoinsRow.holds Try.pinned (OpenSpec.ofChange nameJoinsSpec)

/-- ITS FALSE NEIGHBOUR: 'it returns false'. Refute it at one input. -/
def nameJoinsWrong : ChangeSpec := { name := "nameJoins", fn := fun _ => fun
  | [d1, d2] => { results := [.lit (.bool false)], args := [d1, d2] }
  | _ => none }
def NameJoinsWrongFalsely : Prop := nameJoinsRow.holds Try.pinned (OpenSpec.ofChange nameJoinsWrong)

/-- 'seneschalkeep.FinalOnce': WHATEVER THE INPUT: true; the input reads as it did. -/
def finalOnceSpec : ChangeSpec := { name := "finalOnce", fn := fun _ => fun
  | [d1, d2, d3] => { results := [.lit (.bool true)], args := [d1, d2, d3] }
  | _ => none }
def finalOnceRow : OpenClaim := { program := "yteadfpbkhledlaa", sum := "b0e357328190107bb79700f29256006f8880a6307f12372542bc9e41e7b28ed3", func := "seneschal/seneschalkeep.FinalOnce", spec := "finalOnce", unfollowed := true, recurses := true, apart := false }
def FinalOnceSaid : Prop := finalOnceRow.holds Try.pinned (OpenSpec.ofChange finalOnceSpec)

/-- ITS FALSE NEIGHBOUR: 'it returns false'. Refute it at one input. -/
def finalOnceWrong : ChangeSpec := { name := "finalOnce", fn := fun _ => fun
  | [d1, d2, d3] => { results := [.lit (.bool false)], args := [d1, d2, d3] }
  | _ => none }
def FinalOnceWrongFalsely : Prop := finalOnceRow.holds Try.pinned (OpenSpec.ofChange finalOnceWrong)

/-- 'seneschalkeep.FlowFair': WHATEVER THE INPUT: true; the input reads as it did. -/
def flowFairSpec : ChangeSpec := { name := "flowFair", fn := fun _ => fun
  | [d1, d2, d3, d4, d5] => { results := [.lit (.bool true)], args := [d1, d2, d3, d4, d5] }
  | _ => none }
def flowFairRow : OpenClaim := { program := "yteadfpbkhledlaa", sum := "b0e357328190107bb79700f29256006f8880a6307f12372542bc9e41e7b28ed3", func := "seneschal/seneschalkeep.FlowFair", spec := "flowFair", unfollowed := true, recurses := true, apart := false }
def FlowFairSaid : Prop := flowFairRow.holds Try.pinned (OpenSpec.ofChange flowFairSpec)

/-- ITS FALSE NEIGHBOUR: 'it returns false'. Refute it at one input. -/
def flowFairWrong : ChangeSpec := { name := "flowFair", fn := fun _ => fun
  | [d1, d2, d3, d4, d5] => { results := [.lit (.bool false)], args := [d1, d2, d3, d4, d5] }
  | _ => none }
def FlowFairWrongFalsely : Prop := flowFairRow.holds Try.pinned (OpenSpec.ofChange flowFairWrong)

/-- 'seneschalkeep.FlowWhole': WHATEVER THE INPUT: true; the input reads as it did. -/
def flowWholeSpec : ChangeSpec := { name := "flowWhole", fn := fun _ => fun
  | [d1, d2] => { results := [.lit (.bool true)], args := [d1, d2] }
  | _ => none }
def flowWholeRow : OpenClaim := { program := "yteadfpbkhledlaa", sum := "b0e357328190107bb79700f29256006f8880a6307f12372542bc9e41e7b28ed3", func := "seneschal/seneschalkeep.FlowWhole", spec := "flowWhole", unfollowed := true, recurses := true, apart := false }
def FlowWholeSaid : Prop := flowWholeRow.holds Try.pinned (OpenSpec.ofChange flowWholeSpec)

/-- ITS FALSE NEIGHBOUR: 'it returns false'. Refute it at one input. -/
def flowWholeWrong : ChangeSpec := { name := "flowWhole", fn := fun _ => fun
  | [d1, d2] => { results := [.lit (.bool false)], args := [d1, d2] }
  | _ => none }
def FlowWholeWrongFalsely : Prop := flowWholeRow.holds Try.pinned (OpenSpec.ofChange flowWholeWrong)

/-- 'seneschalkeep.FlowApart': WHATEVER THE INPUT: true; the input reads as it did. -/
def flowApartSpec : ChangeSpec := { name := "flowApart", fn := fun _ => fun
  | [d1, d2, d3, d4] => { results := [.lit (.bool true)], args := [d1, d2, d3, d4] }
  | _ => none }
def flowApartRow : OpenClaim := { program := "yteadfpbkhledlaa", sum := "b0e357328190107bb79700f29256006f8880a6307f12372542bc9e41e7b28ed3", func := "seneschal/seneschalkeep.FlowApart", spec := "flowApart", inPlace := ["slices.overlaps[int]"], apart := false }
def FlowApartSaid : Prop := flowApartRow.holds Try.pinned (OpenSpec.ofChange flowApartSpec)

/-- ITS FALSE NEIGHBOUR: 'it returns false'. Refute it at one input. -/
def flowApartWrong : ChangeSpec := { name := "flowApart", fn := fun _ => fun
  | [d1, d2, d3, d4] => { results := [.lit (.bool false)], args := [d1, d2, d3, d4] }
  | _ => none }
def FlowApartWrongFalsely : Prop := flowApartRow.holds Try.pinned (OpenSpec.ofChange flowApartWrong)

/- THE SECOND FORM. 'bulk': how many values and letters a reading holds, each counted each time it is reached (what is shared counts as often as it is met; a slice's spare places count too). A statement '..UptoSaid' is the law's where the arguments, and the package variables that the reading takes, are together of bulk at most 1048576: NARROWER than '..Said'. Prove '..Said' where nothing that the law and all that it calls make is longer than what came in: it says more and counts as full. Else prove '..UptoSaid'. A law counts once. -/
mutual
def uptoBulk {H : Type} : DataW H → Nat
  | .lit (.string bytes) => bytes.length + 1
  | .lit _ => 1
  | .nil => 1
  | .ptr d => uptoBulk d + 1
  | .slice elems spare => uptoBulkAll elems + uptoBulkAll spare + 1
  | .agg parts => uptoBulkAll parts + 1
  | .iface _ d => uptoBulk d + 1
  | .map entries => uptoBulkEntries entries + 1
  | .held _ => 1
def uptoBulkAll {H : Type} : List (DataW H) → Nat
  | [] => 0
  | d :: r => uptoBulk d + uptoBulkAll r
def uptoBulkEntries {H : Type} : List (Lit × DataW H) → Nat
  | [] => 0
  | x :: r => uptoBulkEntry x + uptoBulkEntries r
def uptoBulkEntry {H : Type} : Lit × DataW H → Nat
  | (.string bytes, d) => bytes.length + uptoBulk d + 1
  | (_, d) => uptoBulk d + 1
 end
def uptoSmall : (H : Type) → List (DataW H) → Bool := fun _ ds => decide (uptoBulkAll ds ≤ 1048576)
def OpenSpec.upto (s : _root_.Go.ChangeSpec) : _root_.Go.OpenSpec := { _root_.Go.OpenSpec.ofChange s with cond := some uptoSmall }

/-- 'seneschalkeep.SealBack', WHERE WHAT IT READS IS OF BULK AT MOST 1048576: true; the input reads as it did. -/
def sealBackUptoRow : OpenClaim := { program := "yteadfpbkhledlaa", sum := "b0e357328190107bb79700f29256006f8880a6307f12372542bc9e41e7b28ed3", func := "seneschal/seneschalkeep.SealBack", spec := "sealBack", apart := false, narrowed := true }
def SealBackUptoSaid : Prop := sealBackUptoRow.holds Try.pinned (OpenSpec.upto sealBackSpec)

/-- 'seneschalkeep.SealKnown', WHERE WHAT IT READS IS OF BULK AT MOST 1048576: true; the input reads as it did. -/
def sealKnownUptoRow : OpenClaim := { program := "yteadfpbkhledlaa", sum := "b0e357328190107bb79700f29256006f8880a6307f12372542bc9e41e7b28ed3", func := "seneschal/seneschalkeep.SealKnown", spec := "sealKnown", apart := false, narrowed := true }
def SealKnownUptoSaid : Prop := sealKnownUptoRow.holds Try.pinned (OpenSpec.upto sealKnownSpec)

/-- 'seneschalkeep.SealPieces', WHERE WHAT IT READS IS OF BULK AT MOST 1048576: true; the input reads as it did. -/
def sealPiecesUptoRow : OpenClaim := { program := "yteadfpbkhledlaa", sum := "b0e357328190107bb79700f29256006f8880a6307f12372542bc9e41e7b28ed3", func := "seneschal/seneschalkeep.SealPieces", spec := "sealPieces", inPlace := ["internal/abi.NoEscape", "internal/bytealg.MakeNoZero"], apart := false, narrowed := true }
def SealPiecesUptoSaid : Prop := sealPiecesUptoRow.holds Try.pinned (OpenSpec.upto sealPiecesSpec)

/-- 'seneschalkeep.SealLong', WHERE WHAT IT READS IS OF BULK AT MOST 1048576: true; the input reads as it did. -/
def sealLongUptoRow : OpenClaim := { program := "yteadfpbkhledlaa", sum := "b0e357328190107bb79700f29256006f8880a6307f12372542bc9e41e7b28ed3", func := "seneschal/seneschalkeep.SealLong", spec := "sealLong", inPlace := ["internal/abi.NoEscape", "internal/bytealg.MakeNoZero"], apart := false, narrowed := true }
def SealLongUptoSaid : Prop := sealLongUptoRow.holds Try.pinned (OpenSpec.upto sealLongSpec)

/-- 'seneschalkeep.AuditJoins', WHERE WHAT IT READS IS OF BULK AT MOST 1048576: true; the input reads as it did. -/
def auditJoinsUptoRow : OpenClaim := { program := "yteadfpbkhledlaa", sum := "b0e357328190107bb79700f29256006f8880a6307f12372542bc9e41e7b28ed3", func := "seneschal/seneschalkeep.AuditJoins", spec := "auditJoins", apart := false, narrowed := true }
def AuditJoinsUptoSaid : Prop := auditJoinsUptoRow.holds Try.pinned (OpenSpec.upto auditJoinsSpec)

/-- 'seneschalkeep.AuditProves', WHERE WHAT IT READS IS OF BULK AT MOST 1048576: true; the input reads as it did. -/
def auditProvesUptoRow : OpenClaim := { program := "yteadfpbkhledlaa", sum := "b0e357328190107bb79700f29256006f8880a6307f12372542bc9e41e7b28ed3", func := "seneschal/seneschalkeep.AuditProves", spec := "auditProves", recurses := true, apart := false, narrowed := true }
def AuditProvesUptoSaid : Prop := auditProvesUptoRow.holds Try.pinned (OpenSpec.upto auditProvesSpec)

/-- 'seneschalkeep.NameJoins', WHERE WHAT IT READS IS OF BULK AT MOST 1048576: true; the input reads as it did. -/
def nameJoinsUptoRow : OpenClaim := { program := "yteadfpbkhledlaa", sum := "b0e357328190107bb79700f29256006f8880a6307f12372542bc9e41e7b28ed3", func := "seneschal/seneschalkeep.NameJoins", spec := "nameJoins", unfollowed := true, recurses := true, apart := false, narrowed := true }
def NameJoinsUptoSaid : Prop := nameJoinsUptoRow.holds Try.pinned (OpenSpec.upto nameJoinsSpec)

/-- 'seneschalkeep.FinalOnce', WHERE WHAT IT READS IS OF BULK AT MOST 1048576: true; the input reads as it did. -/
def finalOnceUptoRow : OpenClaim := { program := "yteadfpbkhledlaa", sum := "b0e357328190107bb79700f29256006f8880a6307f12372542bc9e41e7b28ed3", func := "seneschal/seneschalkeep.FinalOnce", spec := "finalOnce", unfollowed := true, recurses := true, apart := false, narrowed := true }
def FinalOnceUptoSaid : Prop := finalOnceUptoRow.holds Try.pinned (OpenSpec.upto finalOnceSpec)

/-- 'seneschalkeep.FlowFair', WHERE WHAT IT READS IS OF BULK AT MOST 1048576: true; the input reads as it did. -/
def flowFairUptoRow : OpenClaim := { program := "yteadfpbkhledlaa", sum := "b0e357328190107bb79700f29256006f8880a6307f12372542bc9e41e7b28ed3", func := "seneschal/seneschalkeep.FlowFair", spec := "flowFair", unfollowed := true, recurses := true, apart := false, narrowed := true }
def FlowFairUptoSaid : Prop := flowFairUptoRow.holds Try.pinned (OpenSpec.upto flowFairSpec)

/-- 'seneschalkeep.FlowWhole', WHERE WHAT IT READS IS OF BULK AT MOST 1048576: true; the input reads as it did. -/
def flowWholeUptoRow : OpenClaim := { program := "yteadfpbkhledlaa", sum := "b0e357328190107bb79700f29256006f8880a6307f12372542bc9e41e7b28ed3", func := "seneschal/seneschalkeep.FlowWhole", spec := "flowWhole", unfollowed := true, recurses := true, apart := false, narrowed := true }
def FlowWholeUptoSaid : Prop := flowWholeUptoRow.holds Try.pinned (OpenSpec.upto flowWholeSpec)

/-- 'seneschalkeep.FlowApart', WHERE WHAT IT READS IS OF BULK AT MOST 1048576: true; the input reads as it did. -/
def flowApartUptoRow : OpenClaim := { program := "yteadfpbkhledlaa", sum := "b0e357328190107bb79700f29256006f8880a6307f12372542bc9e41e7b28ed3", func := "seneschal/seneschalkeep.FlowApart", spec := "flowApart", inPlace := ["slices.overlaps[int]"], apart := false, narrowed := true }
def FlowApartUptoSaid : Prop := flowApartUptoRow.holds Try.pinned (OpenSpec.upto flowApartSpec)

end Rows
end Go.Proofs.Yteadfpbkhledlaa
