/- The structs Key, Label, Object: as plain data, how their cells read, their share of the bound. -/
import Derived.Test.YteadfpbkhledlaaData
namespace Go.Proofs.Yteadfpbkhledlaa
open Go.RowKit Go.ChangeShapes Go.WideShapes

structure GKey where
  kind : ByteArray
  space : ByteArray
  name : ByteArray
def KeyR : Rd GKey := fun _ cs x => cs = [.string x.kind, .string x.space, .string x.name]
theorem stays_key : Stays KeyR := fun _ _ _ _ _ h => h
def keyB (x : GKey) : Nat := ((x.kind.size + 1) + ((x.space.size + 1) + ((x.name.size + 1) + 0))) + 1
set_option maxRecDepth 10000 in
theorem opens_key : Opens Try.prog 49 KeyR keyB := by
  intro H enc w base spare held fuel cs x h
  obtain ⟨xs, n, _, rfl, hl, hx, hf⟩ := DataW.trod_struct Try.underlying49 h
  have hl2 : cs.length = 3 := hl.trans (by kernel_rfl)
  clear hl h
  match cs, hl2, xs, hx, hf with
  | [c0, c1, c2], _, [x0, x1, x2], _, hf =>
    obtain ⟨a0, r0, m0⟩ := (opens_string Try.underlying9).at (o := 0) (cs := [c0, c1, c2]) (ds := [c0]) (x := x0) (hf 0 _ rfl) (k := 1) (by kernel_rfl) rfl
    obtain ⟨a1, r1, m1⟩ := (opens_string Try.underlying9).at (o := 1) (cs := [c0, c1, c2]) (ds := [c1]) (x := x1) (hf 1 _ rfl) (k := 1) (by kernel_rfl) rfl
    obtain ⟨a2, r2, m2⟩ := (opens_string Try.underlying9).at (o := 2) (cs := [c0, c1, c2]) (ds := [c2]) (x := x2) (hf 2 _ rfl) (k := 1) (by kernel_rfl) rfl
    clear hf
    obtain rfl : c0 = .string a0 := by simpa [RString] using r0
    obtain rfl : c1 = .string a1 := by simpa [RString] using r1
    obtain rfl : c2 = .string a2 := by simpa [RString] using r2
    refine ⟨⟨a0, a1, a2⟩, rfl, ?_⟩
    simp only [List.map_cons, List.map_nil, Rows.uptoBulk, Rows.uptoBulkAll, keyB]
    omega
structure GLabel where
  key : ByteArray
  val : ByteArray
def LabelR : Rd GLabel := fun _ cs x => cs = [.string x.key, .string x.val]
theorem stays_label : Stays LabelR := fun _ _ _ _ _ h => h
def labelB (x : GLabel) : Nat := ((x.key.size + 1) + ((x.val.size + 1) + 0)) + 1
set_option maxRecDepth 10000 in
theorem opens_label : Opens Try.prog 139 LabelR labelB := by
  intro H enc w base spare held fuel cs x h
  obtain ⟨xs, n, _, rfl, hl, hx, hf⟩ := DataW.trod_struct Try.underlying139 h
  have hl2 : cs.length = 2 := hl.trans (by kernel_rfl)
  clear hl h
  match cs, hl2, xs, hx, hf with
  | [c0, c1], _, [x0, x1], _, hf =>
    obtain ⟨a0, r0, m0⟩ := (opens_string Try.underlying9).at (o := 0) (cs := [c0, c1]) (ds := [c0]) (x := x0) (hf 0 _ rfl) (k := 1) (by kernel_rfl) rfl
    obtain ⟨a1, r1, m1⟩ := (opens_string Try.underlying9).at (o := 1) (cs := [c0, c1]) (ds := [c1]) (x := x1) (hf 1 _ rfl) (k := 1) (by kernel_rfl) rfl
    clear hf
    obtain rfl : c0 = .string a0 := by simpa [RString] using r0
    obtain rfl : c1 = .string a1 := by simpa [RString] using r1
    refine ⟨⟨a0, a1⟩, rfl, ?_⟩
    simp only [List.map_cons, List.map_nil, Rows.uptoBulk, Rows.uptoBulkAll, labelB]
    omega
structure GObject where
  okey : GKey
  labels : List GLabel
  owners : List ByteArray
  holds : List ByteArray
  ending : Bool
  uid : ByteArray
  rev : Int
  doc : ByteArray
def ObjectR : Rd GObject := fun w cs x => ∃ v1 v2 v3, cs = [.string x.okey.kind, .string x.okey.space, .string x.okey.name, v1, v2, v3, .bool x.ending, .string x.uid, .int .i64 x.rev, .string x.doc] ∧ RowAt LabelR 2 w v1 x.labels ∧ StrAt w v2 x.owners ∧ StrAt w v3 x.holds ∧ (Lit.int .i64 x.rev).wf = true
theorem stays_object : Stays ObjectR := fun _ _ _ _ hk ⟨v1, v2, v3, h, g1, g2, g3, g6_0⟩ => ⟨v1, v2, v3, h, g1.keep stays_label hk, g2.keep hk, g3.keep hk, g6_0⟩
def objectB (x : GObject) : Nat := (keyB x.okey + (((x.labels.map labelB).sum + 1) + ((total x.owners + 1) + ((total x.holds + 1) + (1 + ((x.uid.size + 1) + (1 + ((x.doc.size + 1) + 0)))))))) + 1
set_option maxRecDepth 10000 in
theorem opens_object : Opens Try.prog 52 ObjectR objectB := by
  intro H enc w base spare held fuel cs x h
  obtain ⟨xs, n, _, rfl, hl, hx, hf⟩ := DataW.trod_struct Try.underlying52 h
  have hl2 : cs.length = 10 := hl.trans (by kernel_rfl)
  clear hl h
  match cs, hl2, xs, hx, hf with
  | [c0, c1, c2, c3, c4, c5, c6, c7, c8, c9], _, [x0, x1, x2, x3, x4, x5, x6, x7], _, hf =>
    obtain ⟨a0, r0, m0⟩ := (opens_key).at (o := 0) (cs := [c0, c1, c2, c3, c4, c5, c6, c7, c8, c9]) (ds := [c0, c1, c2]) (x := x0) (hf 0 _ rfl) (k := 3) (by kernel_rfl) rfl
    obtain ⟨a1, r1, m1⟩ := (opens_row (k := 2) Try.underlying50 (by kernel_rfl) opens_label).at (o := 3) (cs := [c0, c1, c2, c3, c4, c5, c6, c7, c8, c9]) (ds := [c3]) (x := x1) (hf 1 _ rfl) (k := 1) (by kernel_rfl) rfl
    obtain ⟨a2, r2, m2⟩ := (opens_strs Try.underlying29 Try.underlying9 (by kernel_rfl)).at (o := 4) (cs := [c0, c1, c2, c3, c4, c5, c6, c7, c8, c9]) (ds := [c4]) (x := x2) (hf 2 _ rfl) (k := 1) (by kernel_rfl) rfl
    obtain ⟨a3, r3, m3⟩ := (opens_strs Try.underlying29 Try.underlying9 (by kernel_rfl)).at (o := 5) (cs := [c0, c1, c2, c3, c4, c5, c6, c7, c8, c9]) (ds := [c5]) (x := x3) (hf 3 _ rfl) (k := 1) (by kernel_rfl) rfl
    obtain ⟨a4, r4, m4⟩ := (opens_bool Try.underlying4).at (o := 6) (cs := [c0, c1, c2, c3, c4, c5, c6, c7, c8, c9]) (ds := [c6]) (x := x4) (hf 4 _ rfl) (k := 1) (by kernel_rfl) rfl
    obtain ⟨a5, r5, m5⟩ := (opens_string Try.underlying9).at (o := 7) (cs := [c0, c1, c2, c3, c4, c5, c6, c7, c8, c9]) (ds := [c7]) (x := x5) (hf 5 _ rfl) (k := 1) (by kernel_rfl) rfl
    obtain ⟨a6, r6, m6⟩ := (opens_int Try.underlying3).at (o := 8) (cs := [c0, c1, c2, c3, c4, c5, c6, c7, c8, c9]) (ds := [c8]) (x := x6) (hf 6 _ rfl) (k := 1) (by kernel_rfl) rfl
    obtain ⟨a7, r7, m7⟩ := (opens_string Try.underlying9).at (o := 9) (cs := [c0, c1, c2, c3, c4, c5, c6, c7, c8, c9]) (ds := [c9]) (x := x7) (hf 7 _ rfl) (k := 1) (by kernel_rfl) rfl
    clear hf
    have q0 := r0
    simp only [KeyR, List.cons.injEq, and_true] at q0
    obtain ⟨rfl, rfl, rfl⟩ := q0
    obtain ⟨v1, r1, s1⟩ := r1
    obtain rfl : c3 = v1 := by simpa using r1
    obtain ⟨v2, r2, s2⟩ := r2
    obtain rfl : c4 = v2 := by simpa using r2
    obtain ⟨v3, r3, s3⟩ := r3
    obtain rfl : c5 = v3 := by simpa using r3
    obtain rfl : c6 = .bool a4 := by simpa [RBool] using r4
    obtain rfl : c7 = .string a5 := by simpa [RString] using r5
    obtain ⟨r6, w6⟩ := r6
    obtain rfl : c8 = .int .i64 a6 := by simpa using r6
    obtain rfl : c9 = .string a7 := by simpa [RString] using r7
    refine ⟨⟨a0, a1, a2, a3, a4, a5, a6, a7⟩, ⟨c3, c4, c5, rfl, s1, s2, s3, w6⟩, ?_⟩
    simp only [List.map_cons, List.map_nil, Rows.uptoBulk, Rows.uptoBulkAll, objectB]
    omega
end Go.Proofs.Yteadfpbkhledlaa
