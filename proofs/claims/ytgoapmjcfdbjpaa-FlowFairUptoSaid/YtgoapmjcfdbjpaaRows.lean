/-
  No cell of these rows narrows 'for every input' (looked for: loops, veiled, ifaces, maps, wideKeys, modest, calm, conditions, laid).
  DERIVED. THE GIVEN ROWS OF THIS SEAT. 5 by the template 'for every input the law returns true; each argument reads behind the call as it read before'; 0 by the template 'total and deterministic' (their statements: YtgoapmjcfdbjpaaTotals.lean).
  GIVEN WITH THE SEED: the statements are not yours to turn. If you find one false, say at which input.
  Laid BY PROGRAM, IN A SANDBOX (cutbox-rows.mjs): the forced cells as the released guide's own fill.sh prints them over the translation 83f50d09d31e4ad3… (all of the seat's roots in one cut). By AI agents, Wed Nov 11 2026. No macro, syntax, notation, axiom, sorry.
-/
import Derived.Test.YtgoapmjcfdbjpaaChecked
import GoSem.Claim
import GoSem.ClaimJoined
import GoSem.ClaimMapViews
import Derived.JoinedTies
import Derived.KernelRfl
namespace Go.Proofs.Ytgoapmjcfdbjpaa
/- THE CELL 'sum', in the pinned program and in every row, IS THE sha256 OF THE DUMP (.gsa) THAT YtgoapmjcfdbjpaaProg.lean LOADS. Nothing in Lean hashes anything: it is a label: what it is worth is what the hold of that sum in a sandbox is worth. -/
noncomputable def Try.pinned : Pinned := { name := "ytgoapmjcfdbjpaa", sum := "83f50d09d31e4ad3c5e954c7caa280e208bcee1635bd3c05a277e4a5a02cf937", checked := Try.checked }
namespace Rows
def none {H : Type} : Left H := { results := [], args := [] }

/-- 'seneschalkeep.RefsClosed': WHATEVER THE INPUT: true; the input reads as it did. -/
def refsClosedSpec : ChangeSpec := { name := "refsClosed", fn := fun _ => fun
  | [d] => { results := [.lit (.bool true)], args := [d] }
  | _ => none }
def refsClosedRow : OpenClaim := { program := "ytgoapmjcfdbjpaa", sum := "83f50d09d31e4ad3c5e954c7caa280e208bcee1635bd3c05a277e4a5a02cf937", func := "seneschal/seneschalkeep.RefsClosed", spec := "refsClosed", unfollowed := true, recurses := true, apart := false }
def RefsClosedSaid : Prop := refsClosedRow.holds Try.pinned (OpenSpec.ofChange refsClosedSpec)

/-- ITS FALSE NEIGHBOUR: 'it returns false'. Refute it at one input. -/
def refsClosedWrong : ChangeSpec := { name := "refsClosed", fn := fun _ => fun
  | [d] => { results := [.lit (.bool false)], args := [d] }
  | _ => none }
def RefsClosedWrongFalsely : Prop := refsClosedRow.holds Try.pinned (OpenSpec.ofChange refsClosedWrong)

/-- 'seneschalkeep.RefsMore': WHATEVER THE INPUT: true; the input reads as it did. -/
def refsMoreSpec : ChangeSpec := { name := "refsMore", fn := fun _ => fun
  | [d1, d2] => { results := [.lit (.bool true)], args := [d1, d2] }
  | _ => none }
def refsMoreRow : OpenClaim := { program := "ytgoapmjcfdbjpaa", sum := "83f50d09d31e4ad3c5e954c7caa280e208bcee1635bd3c05a277e4a5a02cf937", func := "seneschal/seneschalkeep.RefsMore", spec := "refsMore", unfollowed := true, recurses := true, apart := false }
def RefsMoreSaid : Prop := refsMoreRow.holds Try.pinned (OpenSpec.ofChange refsMoreSpec)

/-- ITS FALSE NEIGHBOUR: 'it returns false'. Refute it at one input. -/
def refsMoreWrong : ChangeSpec := { name := "refsMore", fn := fun _ => fun
  | [d1, d2] => { results := [.lit (.bool false)], args := [d1, d2] }
  | _ => none }
def RefsMoreWrongFalsely : Prop := refsMoreRow.holds Try.pinned (OpenSpec.ofChange refsMoreWrong)

/-- 'seneschalkeep.RefsRow': WHATEVER THE INPUT: true; the input reads as it did. -/
def refsRowSpec : ChangeSpec := { name := "refsRow", fn := fun _ => fun
  | [d1, d2, d3] => { results := [.lit (.bool true)], args := [d1, d2, d3] }
  | _ => none }
def refsRowRow : OpenClaim := { program := "ytgoapmjcfdbjpaa", sum := "83f50d09d31e4ad3c5e954c7caa280e208bcee1635bd3c05a277e4a5a02cf937", func := "seneschal/seneschalkeep.RefsRow", spec := "refsRow", unfollowed := true, recurses := true, apart := false }
def RefsRowSaid : Prop := refsRowRow.holds Try.pinned (OpenSpec.ofChange refsRowSpec)

/-- ITS FALSE NEIGHBOUR: 'it returns false'. Refute it at one input. -/
def refsRowWrong : ChangeSpec := { name := "refsRow", fn := fun _ => fun
  | [d1, d2, d3] => { results := [.lit (.bool false)], args := [d1, d2, d3] }
  | _ => none }
def RefsRowWrongFalsely : Prop := refsRowRow.holds Try.pinned (OpenSpec.ofChange refsRowWrong)

/-- 'seneschalkeep.FlowWhole': WHATEVER THE INPUT: true; the input reads as it did. -/
def flowWholeSpec : ChangeSpec := { name := "flowWhole", fn := fun _ => fun
  | [d1, d2] => { results := [.lit (.bool true)], args := [d1, d2] }
  | _ => none }
def flowWholeRow : OpenClaim := { program := "ytgoapmjcfdbjpaa", sum := "83f50d09d31e4ad3c5e954c7caa280e208bcee1635bd3c05a277e4a5a02cf937", func := "seneschal/seneschalkeep.FlowWhole", spec := "flowWhole", unfollowed := true, recurses := true, apart := false }
def FlowWholeSaid : Prop := flowWholeRow.holds Try.pinned (OpenSpec.ofChange flowWholeSpec)

/-- ITS FALSE NEIGHBOUR: 'it returns false'. Refute it at one input. -/
def flowWholeWrong : ChangeSpec := { name := "flowWhole", fn := fun _ => fun
  | [d1, d2] => { results := [.lit (.bool false)], args := [d1, d2] }
  | _ => none }
def FlowWholeWrongFalsely : Prop := flowWholeRow.holds Try.pinned (OpenSpec.ofChange flowWholeWrong)

/-- 'seneschalkeep.FlowFair': WHATEVER THE INPUT: true; the input reads as it did. -/
def flowFairSpec : ChangeSpec := { name := "flowFair", fn := fun _ => fun
  | [d1, d2, d3, d4, d5] => { results := [.lit (.bool true)], args := [d1, d2, d3, d4, d5] }
  | _ => none }
def flowFairRow : OpenClaim := { program := "ytgoapmjcfdbjpaa", sum := "83f50d09d31e4ad3c5e954c7caa280e208bcee1635bd3c05a277e4a5a02cf937", func := "seneschal/seneschalkeep.FlowFair", spec := "flowFair", unfollowed := true, recurses := true, apart := false }
def FlowFairSaid : Prop := flowFairRow.holds Try.pinned (OpenSpec.ofChange flowFairSpec)

/-- ITS FALSE NEIGHBOUR: 'it returns false'. Refute it at one input. -/
def flowFairWrong : ChangeSpec := { name := "flowFair", fn := fun _ => fun
  | [d1, d2, d3, d4, d5] => { results := [.lit (.bool false)], args := [d1, d2, d3, d4, d5] }
  | _ => none }
def FlowFairWrongFalsely : Prop := flowFairRow.holds Try.pinned (OpenSpec.ofChange flowFairWrong)

/- THE SECOND FORM. 'bulk': how many values and letters a reading holds, each counted each time it is reached (what is shared counts as often as it is met; a slice's spare places count too). A statement '..UptoSaid' is the law's where the arguments, and the package variables that the reading takes, are together of bulk at most 1048576: NARROWER than '..Said'. Prove '..Said' where nothing that the law and all that it calls make is longer than what came in: it says more and counts as full. Else prove '..UptoSaid'. A law counts once. -/
mutual
def uptoBulk {H : Type} : DataW H → Nat
  | .lit (.string bytes) => bytes.length + 1
  | .lit _ => 1
  | .nil => 1
  | .ptr d => uptoBulk d + 1
  | .slice elems spare => uptoBulkAll elems + uptoBulkAll spare + 1
  | .agg parts => uptoBulkAll parts + 1
  | .iface _ d => uptoBulk d + 1
  | .map entries => uptoBulkEntries entries + 1
  | .held _ => 1
def uptoBulkAll {H : Type} : List (DataW H) → Nat
  | [] => 0
  | d :: r => uptoBulk d + uptoBulkAll r
def uptoBulkEntries {H : Type} : List (Lit × DataW H) → Nat
  | [] => 0
  | x :: r => uptoBulkEntry x + uptoBulkEntries r
def uptoBulkEntry {H : Type} : Lit × DataW H → Nat
  | (.string bytes, d) => bytes.length + uptoBulk d + 1
  | (_, d) => uptoBulk d + 1
 end
def uptoSmall : (H : Type) → List (DataW H) → Bool := fun _ ds => decide (uptoBulkAll ds ≤ 1048576)
def OpenSpec.upto (s : _root_.Go.ChangeSpec) : _root_.Go.OpenSpec := { _root_.Go.OpenSpec.ofChange s with cond := some uptoSmall }

/-- 'seneschalkeep.RefsClosed', WHERE WHAT IT READS IS OF BULK AT MOST 1048576: true; the input reads as it did. -/
def refsClosedUptoRow : OpenClaim := { program := "ytgoapmjcfdbjpaa", sum := "83f50d09d31e4ad3c5e954c7caa280e208bcee1635bd3c05a277e4a5a02cf937", func := "seneschal/seneschalkeep.RefsClosed", spec := "refsClosed", unfollowed := true, recurses := true, apart := false, narrowed := true }
def RefsClosedUptoSaid : Prop := refsClosedUptoRow.holds Try.pinned (OpenSpec.upto refsClosedSpec)

/-- 'seneschalkeep.RefsMore', WHERE WHAT IT READS IS OF BULK AT MOST 1048576: true; the input reads as it did. -/
def refsMoreUptoRow : OpenClaim := { program := "ytgoapmjcfdbjpaa", sum := "83f50d09d31e4ad3c5e954c7caa280e208bcee1635bd3c05a277e4a5a02cf937", func := "seneschal/seneschalkeep.RefsMore", spec := "refsMore", unfollowed := true, recurses := true, apart := false, narrowed := true }
def RefsMoreUptoSaid : Prop := refsMoreUptoRow.holds Try.pinned (OpenSpec.upto refsMoreSpec)

/-- 'seneschalkeep.RefsRow', WHERE WHAT IT READS IS OF BULK AT MOST 1048576: true; the input reads as it did. -/
def refsRowUptoRow : OpenClaim := { program := "ytgoapmjcfdbjpaa", sum := "83f50d09d31e4ad3c5e954c7caa280e208bcee1635bd3c05a277e4a5a02cf937", func := "seneschal/seneschalkeep.RefsRow", spec := "refsRow", unfollowed := true, recurses := true, apart := false, narrowed := true }
def RefsRowUptoSaid : Prop := refsRowUptoRow.holds Try.pinned (OpenSpec.upto refsRowSpec)

/-- 'seneschalkeep.FlowWhole', WHERE WHAT IT READS IS OF BULK AT MOST 1048576: true; the input reads as it did. -/
def flowWholeUptoRow : OpenClaim := { program := "ytgoapmjcfdbjpaa", sum := "83f50d09d31e4ad3c5e954c7caa280e208bcee1635bd3c05a277e4a5a02cf937", func := "seneschal/seneschalkeep.FlowWhole", spec := "flowWhole", unfollowed := true, recurses := true, apart := false, narrowed := true }
def FlowWholeUptoSaid : Prop := flowWholeUptoRow.holds Try.pinned (OpenSpec.upto flowWholeSpec)

/-- 'seneschalkeep.FlowFair', WHERE WHAT IT READS IS OF BULK AT MOST 1048576: true; the input reads as it did. -/
def flowFairUptoRow : OpenClaim := { program := "ytgoapmjcfdbjpaa", sum := "83f50d09d31e4ad3c5e954c7caa280e208bcee1635bd3c05a277e4a5a02cf937", func := "seneschal/seneschalkeep.FlowFair", spec := "flowFair", unfollowed := true, recurses := true, apart := false, narrowed := true }
def FlowFairUptoSaid : Prop := flowFairUptoRow.holds Try.pinned (OpenSpec.upto flowFairSpec)

end Rows
end Go.Proofs.Ytgoapmjcfdbjpaa
