/- The structs Limit, Cost: as plain data, how their cells read, their share of the bound. -/
import Derived.Test.YtkkfnihdnclgiaaData
namespace Go.Proofs.Ytkkfnihdnclgiaa
open Go.RowKit Go.ChangeShapes Go.WideShapes

structure GLimit where
  what : ByteArray
  hard : Int
  used : Int
def LimitR : Rd GLimit := fun _ cs x => cs = [.string x.what, .int .i64 x.hard, .int .i64 x.used] ∧ (Lit.int .i64 x.hard).wf = true ∧ (Lit.int .i64 x.used).wf = true
theorem stays_limit : Stays LimitR := fun _ _ _ _ _ h => h
def limitB (x : GLimit) : Nat := ((x.what.size + 1) + (1 + (1 + 0))) + 1
set_option maxRecDepth 10000 in
theorem opens_limit : Opens Try.prog 33 LimitR limitB := by
  intro H enc w base spare held fuel cs x h
  obtain ⟨xs, n, _, rfl, hl, hx, hf⟩ := DataW.trod_struct Try.underlying33 h
  have hl2 : cs.length = 3 := hl.trans (by kernel_rfl)
  clear hl h
  match cs, hl2, xs, hx, hf with
  | [c0, c1, c2], _, [x0, x1, x2], _, hf =>
    obtain ⟨a0, r0, m0⟩ := (opens_string Try.underlying9).at (o := 0) (cs := [c0, c1, c2]) (ds := [c0]) (x := x0) (hf 0 _ rfl) (k := 1) (by kernel_rfl) rfl
    obtain ⟨a1, r1, m1⟩ := (opens_int Try.underlying2).at (o := 1) (cs := [c0, c1, c2]) (ds := [c1]) (x := x1) (hf 1 _ rfl) (k := 1) (by kernel_rfl) rfl
    obtain ⟨a2, r2, m2⟩ := (opens_int Try.underlying2).at (o := 2) (cs := [c0, c1, c2]) (ds := [c2]) (x := x2) (hf 2 _ rfl) (k := 1) (by kernel_rfl) rfl
    clear hf
    obtain rfl : c0 = .string a0 := by simpa [RString] using r0
    obtain ⟨r1, w1⟩ := r1
    obtain rfl : c1 = .int .i64 a1 := by simpa using r1
    obtain ⟨r2, w2⟩ := r2
    obtain rfl : c2 = .int .i64 a2 := by simpa using r2
    refine ⟨⟨a0, a1, a2⟩, ⟨rfl, w1, w2⟩, ?_⟩
    simp only [List.map_cons, List.map_nil, Rows.uptoBulk, Rows.uptoBulkAll, limitB]
    omega
structure GCost where
  what : ByteArray
  many : Int
def CostR : Rd GCost := fun _ cs x => cs = [.string x.what, .int .i64 x.many] ∧ (Lit.int .i64 x.many).wf = true
theorem stays_cost : Stays CostR := fun _ _ _ _ _ h => h
def costB (x : GCost) : Nat := ((x.what.size + 1) + (1 + 0)) + 1
set_option maxRecDepth 10000 in
theorem opens_cost : Opens Try.prog 26 CostR costB := by
  intro H enc w base spare held fuel cs x h
  obtain ⟨xs, n, _, rfl, hl, hx, hf⟩ := DataW.trod_struct Try.underlying26 h
  have hl2 : cs.length = 2 := hl.trans (by kernel_rfl)
  clear hl h
  match cs, hl2, xs, hx, hf with
  | [c0, c1], _, [x0, x1], _, hf =>
    obtain ⟨a0, r0, m0⟩ := (opens_string Try.underlying9).at (o := 0) (cs := [c0, c1]) (ds := [c0]) (x := x0) (hf 0 _ rfl) (k := 1) (by kernel_rfl) rfl
    obtain ⟨a1, r1, m1⟩ := (opens_int Try.underlying2).at (o := 1) (cs := [c0, c1]) (ds := [c1]) (x := x1) (hf 1 _ rfl) (k := 1) (by kernel_rfl) rfl
    clear hf
    obtain rfl : c0 = .string a0 := by simpa [RString] using r0
    obtain ⟨r1, w1⟩ := r1
    obtain rfl : c1 = .int .i64 a1 := by simpa using r1
    refine ⟨⟨a0, a1⟩, ⟨rfl, w1⟩, ?_⟩
    simp only [List.map_cons, List.map_nil, Rows.uptoBulk, Rows.uptoBulkAll, costB]
    omega
end Go.Proofs.Ytkkfnihdnclgiaa
