/- The structs Req, Label: as plain data, how their cells read, their share of the bound. -/
import Derived.Test.YtkmonmdnmpbadaaDoorData
namespace Go.Proofs.YtkmonmdnmpbadaaDoor
open Go.RowKit Go.ChangeShapes Go.WideShapes

structure GReq where
  key : ByteArray
  kind : Int
  vals : List ByteArray
def ReqR : Rd GReq := fun w cs x => ∃ v2, cs = [.string x.key, .int .i64 x.kind, v2] ∧ (Lit.int .i64 x.kind).wf = true ∧ StrAt w v2 x.vals
theorem stays_req : Stays ReqR := fun _ _ _ _ hk ⟨v2, h, g1_0, g2⟩ => ⟨v2, h, g1_0, g2.keep hk⟩
def reqB (x : GReq) : Nat := ((x.key.size + 1) + (1 + ((total x.vals + 1) + 0))) + 1
set_option maxRecDepth 10000 in
theorem opens_req : Opens Tryd.prog 33 ReqR reqB := by
  intro H enc w base spare held fuel cs x h
  obtain ⟨xs, n, _, rfl, hl, hx, hf⟩ := DataW.trod_struct Tryd.underlying33 h
  have hl2 : cs.length = 3 := hl.trans (by kernel_rfl)
  clear hl h
  match cs, hl2, xs, hx, hf with
  | [c0, c1, c2], _, [x0, x1, x2], _, hf =>
    obtain ⟨a0, r0, m0⟩ := (opens_string Tryd.underlying9).at (o := 0) (cs := [c0, c1, c2]) (ds := [c0]) (x := x0) (hf 0 _ rfl) (k := 1) (by kernel_rfl) rfl
    obtain ⟨a1, r1, m1⟩ := (opens_int Tryd.underlying3).at (o := 1) (cs := [c0, c1, c2]) (ds := [c1]) (x := x1) (hf 1 _ rfl) (k := 1) (by kernel_rfl) rfl
    obtain ⟨a2, r2, m2⟩ := (opens_strs Tryd.underlying31 Tryd.underlying9 (by kernel_rfl)).at (o := 2) (cs := [c0, c1, c2]) (ds := [c2]) (x := x2) (hf 2 _ rfl) (k := 1) (by kernel_rfl) rfl
    clear hf
    obtain rfl : c0 = .string a0 := by simpa [RString] using r0
    obtain ⟨r1, w1⟩ := r1
    obtain rfl : c1 = .int .i64 a1 := by simpa using r1
    obtain ⟨v2, r2, s2⟩ := r2
    obtain rfl : c2 = v2 := by simpa using r2
    refine ⟨⟨a0, a1, a2⟩, ⟨c2, rfl, w1, s2⟩, ?_⟩
    simp only [List.map_cons, List.map_nil, Rows.uptoBulk, Rows.uptoBulkAll, reqB]
    omega
structure GLabel where
  key : ByteArray
  val : ByteArray
def LabelR : Rd GLabel := fun _ cs x => cs = [.string x.key, .string x.val]
theorem stays_label : Stays LabelR := fun _ _ _ _ _ h => h
def labelB (x : GLabel) : Nat := ((x.key.size + 1) + ((x.val.size + 1) + 0)) + 1
end Go.Proofs.YtkmonmdnmpbadaaDoor
