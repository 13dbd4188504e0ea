/-
  No cell of these rows narrows 'for every input' (looked for: loops, veiled, ifaces, maps, wideKeys, modest, calm, conditions, laid).
  DERIVED. THE GIVEN ROWS OF THIS SEAT. 3 by the template 'for every input the law returns true; each argument reads behind the call as it read before'; 0 by the template 'total and deterministic' (their statements: YtbnbdoepibomaaaTotals.lean).
  GIVEN WITH THE SEED: the statements are not yours to turn. If you find one false, say at which input.
  Laid BY PROGRAM, IN A SANDBOX (cutbox-rows.mjs): the forced cells as the released guide's own fill.sh prints them over the translation 35f712be571beef8… (all of the seat's roots in one cut). By AI agents, Wed Nov 11 2026. No macro, syntax, notation, axiom, sorry.
-/
import Derived.Test.YtbnbdoepibomaaaChecked
import GoSem.Claim
import GoSem.ClaimJoined
import GoSem.ClaimMapViews
import Derived.JoinedTies
import Derived.KernelRfl
namespace Go.Proofs.Ytbnbdoepibomaaa
/- THE CELL 'sum', in the pinned program and in every row, IS THE sha256 OF THE DUMP (.gsa) THAT YtbnbdoepibomaaaProg.lean LOADS. Nothing in Lean hashes anything: it is a label: what it is worth is what the hold of that sum in a sandbox is worth. -/
noncomputable def Try.pinned : Pinned := { name := "ytbnbdoepibomaaa", sum := "35f712be571beef886f6f07da0806e817b65ce93ba4965602eba7ace8d7c2b5a", checked := Try.checked }
namespace Rows
def none {H : Type} : Left H := { results := [], args := [] }

/-- 'seneschalkeep.FlowFair': WHATEVER THE INPUT: true; the input reads as it did. -/
def flowFairSpec : ChangeSpec := { name := "flowFair", fn := fun _ => fun
  | [d1, d2, d3, d4, d5] => { results := [.lit (.bool true)], args := [d1, d2, d3, d4, d5] }
  | _ => none }
def flowFairRow : OpenClaim := { program := "ytbnbdoepibomaaa", sum := "35f712be571beef886f6f07da0806e817b65ce93ba4965602eba7ace8d7c2b5a", func := "seneschal/seneschalkeep.FlowFair", spec := "flowFair", unfollowed := true, recurses := true, apart := false }
def FlowFairSaid : Prop := flowFairRow.holds Try.pinned (OpenSpec.ofChange flowFairSpec)

/-- ITS FALSE NEIGHBOUR: 'it returns false'. Refute it at one input. -/
def flowFairWrong : ChangeSpec := { name := "flowFair", fn := fun _ => fun
  | [d1, d2, d3, d4, d5] => { results := [.lit (.bool false)], args := [d1, d2, d3, d4, d5] }
  | _ => none }
def FlowFairWrongFalsely : Prop := flowFairRow.holds Try.pinned (OpenSpec.ofChange flowFairWrong)

/-- 'seneschalkeep.FlowWhole': WHATEVER THE INPUT: true; the input reads as it did. -/
def flowWholeSpec : ChangeSpec := { name := "flowWhole", fn := fun _ => fun
  | [d1, d2] => { results := [.lit (.bool true)], args := [d1, d2] }
  | _ => none }
def flowWholeRow : OpenClaim := { program := "ytbnbdoepibomaaa", sum := "35f712be571beef886f6f07da0806e817b65ce93ba4965602eba7ace8d7c2b5a", func := "seneschal/seneschalkeep.FlowWhole", spec := "flowWhole", unfollowed := true, recurses := true, apart := false }
def FlowWholeSaid : Prop := flowWholeRow.holds Try.pinned (OpenSpec.ofChange flowWholeSpec)

/-- ITS FALSE NEIGHBOUR: 'it returns false'. Refute it at one input. -/
def flowWholeWrong : ChangeSpec := { name := "flowWhole", fn := fun _ => fun
  | [d1, d2] => { results := [.lit (.bool false)], args := [d1, d2] }
  | _ => none }
def FlowWholeWrongFalsely : Prop := flowWholeRow.holds Try.pinned (OpenSpec.ofChange flowWholeWrong)

/-- 'seneschalkeep.FlowApart': WHATEVER THE INPUT: true; the input reads as it did. -/
def flowApartSpec : ChangeSpec := { name := "flowApart", fn := fun _ => fun
  | [d1, d2, d3, d4] => { results := [.lit (.bool true)], args := [d1, d2, d3, d4] }
  | _ => none }
def flowApartRow : OpenClaim := { program := "ytbnbdoepibomaaa", sum := "35f712be571beef886f6f07da0806e817b65ce93ba4965602eba7ace8d7c2b5a", func := "seneschal/seneschalkeep.FlowApart", spec := "flowApart", inPlace := ["slices.overlaps[int]"], apart := false }
def FlowApartSaid : Prop := flowApartRow.holds Try.pinned (OpenSpec.ofChange flowApartSpec)

/-- ITS FALSE NEIGHBOUR: 'it returns false'. Refute it at one input. -/
def flowApartWrong : ChangeSpec := { name := "flowApart", fn := fun _ => fun
  | [d1, d2, d3, d4] => { results := [.lit (.bool false)], args := [d1, d2, d3, d4] }
  | _ => none }
def FlowApartWrongFalsely : Prop := flowApartRow.holds Try.pinned (OpenSpec.ofChange flowApartWrong)

/- THE SECOND FORM. 'bulk': how many values and letters a reading holds, each counted each time it is reached (what is shared counts as often as it is met; a slice's spare places count too). A statement '..UptoSaid' is the law's where the arguments, and the package variables that the reading takes, are together of bulk at most 1048576: NARROWER than '..Said'. Prove '..Said' where nothing that the law and all that it calls make is longer than what came in: it says more and counts as full. Else prove '..UptoSaid'. A law counts once. -/
mutual
def uptoBulk {H : Type} : DataW H → Nat
  | .lit (.string bytes) => bytes.length + 1
  | .lit _ => 1
  | .nil => 1
  | .ptr d => uptoBulk d + 1
  | .slice elems spare => uptoBulkAll elems + uptoBulkAll spare + 1
  | .agg parts => uptoBulkAll parts + 1
  | .iface _ d => uptoBulk d + 1
  | .map entries => uptoBulkEntries entries + 1
  | .held _ => 1
def uptoBulkAll {H : Type} : List (DataW H) → Nat
  | [] => 0
  | d :: r => uptoBulk d + uptoBulkAll r
def uptoBulkEntries {H : Type} : List (Lit × DataW H) → Nat
  | [] => 0
  | x :: r => uptoBulkEntry x + uptoBulkEntries r
def uptoBulkEntry {H : Type} : Lit × DataW H → Nat
  | (.string bytes, d) => bytes.length + uptoBulk d + 1
  | (_, d) => uptoBulk d + 1
 end
def uptoSmall : (H : Type) → List (DataW H) → Bool := fun _ ds => decide (uptoBulkAll ds ≤ 1048576)
def OpenSpec.upto (s : _root_.Go.ChangeSpec) : _root_.Go.OpenSpec := { _root_.Go.OpenSpec.ofChange s with cond := some uptoSmall }

/-- 'seneschalkeep.FlowFair', WHERE WHAT IT READS IS OF BULK AT MOST 1048576: true; the input reads as it did. -/
def flowFairUptoRow : OpenClaim := { program := "ytbnbdoepibomaaa", sum := "35f712be571beef886f6f07da0806e817b65ce93ba4965602eba7ace8d7c2b5a", func := "seneschal/seneschalkeep.FlowFair", spec := "flowFair", unfollowed := true, recurses := true, apart := false, narrowed := true }
def FlowFairUptoSaid : Prop := flowFairUptoRow.holds Try.pinned (OpenSpec.upto flowFairSpec)

/-- 'seneschalkeep.FlowWhole', WHERE WHAT IT READS IS OF BULK AT MOST 1048576: true; the input reads as it did. -/
def flowWholeUptoRow : OpenClaim := { program := "ytbnbdoepibomaaa", sum := "35f712be571beef886f6f07da0806e817b65ce93ba4965602eba7ace8d7c2b5a", func := "seneschal/seneschalkeep.FlowWhole", spec := "flowWhole", unfollowed := true, recurses := true, apart := false, narrowed := true }
def FlowWholeUptoSaid : Prop := flowWholeUptoRow.holds Try.pinned (OpenSpec.upto flowWholeSpec)

/-- 'seneschalkeep.FlowApart', WHERE WHAT IT READS IS OF BULK AT MOST 1048576: true; the input reads as it did. -/
def flowApartUptoRow : OpenClaim := { program := "ytbnbdoepibomaaa", sum := "35f712be571beef886f6f07da0806e817b65ce93ba4965602eba7ace8d7c2b5a", func := "seneschal/seneschalkeep.FlowApart", spec := "flowApart", inPlace := ["slices.overlaps[int]"], apart := false, narrowed := true }
def FlowApartUptoSaid : Prop := flowApartUptoRow.holds Try.pinned (OpenSpec.upto flowApartSpec)

end Rows
end Go.Proofs.Ytbnbdoepibomaaa
