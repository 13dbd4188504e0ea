/- The structs Rule, Role, Bind, Grants, User, Ask: as plain data, how their cells read, their share of the bound. -/
import Derived.Test.YtkkfnihdnclgiaaDoorData
namespace Go.Proofs.YtkkfnihdnclgiaaDoor
open Go.RowKit Go.ChangeShapes Go.WideShapes

structure GRule where
  verbs : List ByteArray
  kinds : List ByteArray
  names : List ByteArray
def RuleR : Rd GRule := fun w cs x => ∃ v0 v1 v2, cs = [v0, v1, v2] ∧ StrAt w v0 x.verbs ∧ StrAt w v1 x.kinds ∧ StrAt w v2 x.names
theorem stays_rule : Stays RuleR := fun _ _ _ _ hk ⟨v0, v1, v2, h, g0, g1, g2⟩ => ⟨v0, v1, v2, h, g0.keep hk, g1.keep hk, g2.keep hk⟩
def ruleB (x : GRule) : Nat := ((total x.verbs + 1) + ((total x.kinds + 1) + ((total x.names + 1) + 0))) + 1
set_option maxRecDepth 10000 in
theorem opens_rule : Opens Tryd.prog 25 RuleR ruleB := by
  intro H enc w base spare held fuel cs x h
  obtain ⟨xs, n, _, rfl, hl, hx, hf⟩ := DataW.trod_struct Tryd.underlying25 h
  have hl2 : cs.length = 3 := hl.trans (by kernel_rfl)
  clear hl h
  match cs, hl2, xs, hx, hf with
  | [c0, c1, c2], _, [x0, x1, x2], _, hf =>
    obtain ⟨a0, r0, m0⟩ := (opens_strs Tryd.underlying23 Tryd.underlying9 (by kernel_rfl)).at (o := 0) (cs := [c0, c1, c2]) (ds := [c0]) (x := x0) (hf 0 _ rfl) (k := 1) (by kernel_rfl) rfl
    obtain ⟨a1, r1, m1⟩ := (opens_strs Tryd.underlying23 Tryd.underlying9 (by kernel_rfl)).at (o := 1) (cs := [c0, c1, c2]) (ds := [c1]) (x := x1) (hf 1 _ rfl) (k := 1) (by kernel_rfl) rfl
    obtain ⟨a2, r2, m2⟩ := (opens_strs Tryd.underlying23 Tryd.underlying9 (by kernel_rfl)).at (o := 2) (cs := [c0, c1, c2]) (ds := [c2]) (x := x2) (hf 2 _ rfl) (k := 1) (by kernel_rfl) rfl
    clear hf
    obtain ⟨v0, r0, s0⟩ := r0
    obtain rfl : c0 = v0 := by simpa using r0
    obtain ⟨v1, r1, s1⟩ := r1
    obtain rfl : c1 = v1 := by simpa using r1
    obtain ⟨v2, r2, s2⟩ := r2
    obtain rfl : c2 = v2 := by simpa using r2
    refine ⟨⟨a0, a1, a2⟩, ⟨c0, c1, c2, rfl, s0, s1, s2⟩, ?_⟩
    simp only [List.map_cons, List.map_nil, Rows.uptoBulk, Rows.uptoBulkAll, ruleB]
    omega
structure GRole where
  space : ByteArray
  name : ByteArray
  rules : List GRule
def RoleR : Rd GRole := fun w cs x => ∃ v2, cs = [.string x.space, .string x.name, v2] ∧ RowAt RuleR 3 w v2 x.rules
theorem stays_role : Stays RoleR := fun _ _ _ _ hk ⟨v2, h, g2⟩ => ⟨v2, h, g2.keep stays_rule hk⟩
def roleB (x : GRole) : Nat := ((x.space.size + 1) + ((x.name.size + 1) + (((x.rules.map ruleB).sum + 1) + 0))) + 1
set_option maxRecDepth 10000 in
theorem opens_role : Opens Tryd.prog 75 RoleR roleB := by
  intro H enc w base spare held fuel cs x h
  obtain ⟨xs, n, _, rfl, hl, hx, hf⟩ := DataW.trod_struct Tryd.underlying75 h
  have hl2 : cs.length = 3 := hl.trans (by kernel_rfl)
  clear hl h
  match cs, hl2, xs, hx, hf with
  | [c0, c1, c2], _, [x0, x1, x2], _, hf =>
    obtain ⟨a0, r0, m0⟩ := (opens_string Tryd.underlying9).at (o := 0) (cs := [c0, c1, c2]) (ds := [c0]) (x := x0) (hf 0 _ rfl) (k := 1) (by kernel_rfl) rfl
    obtain ⟨a1, r1, m1⟩ := (opens_string Tryd.underlying9).at (o := 1) (cs := [c0, c1, c2]) (ds := [c1]) (x := x1) (hf 1 _ rfl) (k := 1) (by kernel_rfl) rfl
    obtain ⟨a2, r2, m2⟩ := (opens_row (k := 3) Tryd.underlying22 (by kernel_rfl) opens_rule).at (o := 2) (cs := [c0, c1, c2]) (ds := [c2]) (x := x2) (hf 2 _ rfl) (k := 1) (by kernel_rfl) rfl
    clear hf
    obtain rfl : c0 = .string a0 := by simpa [RString] using r0
    obtain rfl : c1 = .string a1 := by simpa [RString] using r1
    obtain ⟨v2, r2, s2⟩ := r2
    obtain rfl : c2 = v2 := by simpa using r2
    refine ⟨⟨a0, a1, a2⟩, ⟨c2, rfl, s2⟩, ?_⟩
    simp only [List.map_cons, List.map_nil, Rows.uptoBulk, Rows.uptoBulkAll, roleB]
    omega
structure GBind where
  space : ByteArray
  name : ByteArray
  role : ByteArray
  whole : Bool
  users : List ByteArray
  groups : List ByteArray
def BindR : Rd GBind := fun w cs x => ∃ v4 v5, cs = [.string x.space, .string x.name, .string x.role, .bool x.whole, v4, v5] ∧ StrAt w v4 x.users ∧ StrAt w v5 x.groups
theorem stays_bind : Stays BindR := fun _ _ _ _ hk ⟨v4, v5, h, g4, g5⟩ => ⟨v4, v5, h, g4.keep hk, g5.keep hk⟩
def bindB (x : GBind) : Nat := ((x.space.size + 1) + ((x.name.size + 1) + ((x.role.size + 1) + (1 + ((total x.users + 1) + ((total x.groups + 1) + 0)))))) + 1
set_option maxRecDepth 10000 in
theorem opens_bind : Opens Tryd.prog 77 BindR bindB := by
  intro H enc w base spare held fuel cs x h
  obtain ⟨xs, n, _, rfl, hl, hx, hf⟩ := DataW.trod_struct Tryd.underlying77 h
  have hl2 : cs.length = 6 := hl.trans (by kernel_rfl)
  clear hl h
  match cs, hl2, xs, hx, hf with
  | [c0, c1, c2, c3, c4, c5], _, [x0, x1, x2, x3, x4, x5], _, hf =>
    obtain ⟨a0, r0, m0⟩ := (opens_string Tryd.underlying9).at (o := 0) (cs := [c0, c1, c2, c3, c4, c5]) (ds := [c0]) (x := x0) (hf 0 _ rfl) (k := 1) (by kernel_rfl) rfl
    obtain ⟨a1, r1, m1⟩ := (opens_string Tryd.underlying9).at (o := 1) (cs := [c0, c1, c2, c3, c4, c5]) (ds := [c1]) (x := x1) (hf 1 _ rfl) (k := 1) (by kernel_rfl) rfl
    obtain ⟨a2, r2, m2⟩ := (opens_string Tryd.underlying9).at (o := 2) (cs := [c0, c1, c2, c3, c4, c5]) (ds := [c2]) (x := x2) (hf 2 _ rfl) (k := 1) (by kernel_rfl) rfl
    obtain ⟨a3, r3, m3⟩ := (opens_bool Tryd.underlying4).at (o := 3) (cs := [c0, c1, c2, c3, c4, c5]) (ds := [c3]) (x := x3) (hf 3 _ rfl) (k := 1) (by kernel_rfl) rfl
    obtain ⟨a4, r4, m4⟩ := (opens_strs Tryd.underlying23 Tryd.underlying9 (by kernel_rfl)).at (o := 4) (cs := [c0, c1, c2, c3, c4, c5]) (ds := [c4]) (x := x4) (hf 4 _ rfl) (k := 1) (by kernel_rfl) rfl
    obtain ⟨a5, r5, m5⟩ := (opens_strs Tryd.underlying23 Tryd.underlying9 (by kernel_rfl)).at (o := 5) (cs := [c0, c1, c2, c3, c4, c5]) (ds := [c5]) (x := x5) (hf 5 _ rfl) (k := 1) (by kernel_rfl) rfl
    clear hf
    obtain rfl : c0 = .string a0 := by simpa [RString] using r0
    obtain rfl : c1 = .string a1 := by simpa [RString] using r1
    obtain rfl : c2 = .string a2 := by simpa [RString] using r2
    obtain rfl : c3 = .bool a3 := by simpa [RBool] using r3
    obtain ⟨v4, r4, s4⟩ := r4
    obtain rfl : c4 = v4 := by simpa using r4
    obtain ⟨v5, r5, s5⟩ := r5
    obtain rfl : c5 = v5 := by simpa using r5
    refine ⟨⟨a0, a1, a2, a3, a4, a5⟩, ⟨c4, c5, rfl, s4, s5⟩, ?_⟩
    simp only [List.map_cons, List.map_nil, Rows.uptoBulk, Rows.uptoBulkAll, bindB]
    omega
structure GGrants where
  roles : List GRole
  binds : List GBind
def GrantsR : Rd GGrants := fun w cs x => ∃ v0 v1, cs = [v0, v1] ∧ RowAt RoleR 3 w v0 x.roles ∧ RowAt BindR 6 w v1 x.binds
theorem stays_grants : Stays GrantsR := fun _ _ _ _ hk ⟨v0, v1, h, g0, g1⟩ => ⟨v0, v1, h, g0.keep stays_role hk, g1.keep stays_bind hk⟩
def grantsB (x : GGrants) : Nat := (((x.roles.map roleB).sum + 1) + (((x.binds.map bindB).sum + 1) + 0)) + 1
set_option maxRecDepth 10000 in
theorem opens_grants : Opens Tryd.prog 37 GrantsR grantsB := by
  intro H enc w base spare held fuel cs x h
  obtain ⟨xs, n, _, rfl, hl, hx, hf⟩ := DataW.trod_struct Tryd.underlying37 h
  have hl2 : cs.length = 2 := hl.trans (by kernel_rfl)
  clear hl h
  match cs, hl2, xs, hx, hf with
  | [c0, c1], _, [x0, x1], _, hf =>
    obtain ⟨a0, r0, m0⟩ := (opens_row (k := 3) Tryd.underlying34 (by kernel_rfl) opens_role).at (o := 0) (cs := [c0, c1]) (ds := [c0]) (x := x0) (hf 0 _ rfl) (k := 1) (by kernel_rfl) rfl
    obtain ⟨a1, r1, m1⟩ := (opens_row (k := 6) Tryd.underlying35 (by kernel_rfl) opens_bind).at (o := 1) (cs := [c0, c1]) (ds := [c1]) (x := x1) (hf 1 _ rfl) (k := 1) (by kernel_rfl) rfl
    clear hf
    obtain ⟨v0, r0, s0⟩ := r0
    obtain rfl : c0 = v0 := by simpa using r0
    obtain ⟨v1, r1, s1⟩ := r1
    obtain rfl : c1 = v1 := by simpa using r1
    refine ⟨⟨a0, a1⟩, ⟨c0, c1, rfl, s0, s1⟩, ?_⟩
    simp only [List.map_cons, List.map_nil, Rows.uptoBulk, Rows.uptoBulkAll, grantsB]
    omega
structure GUser where
  name : ByteArray
  groups : List ByteArray
def UserR : Rd GUser := fun w cs x => ∃ v1, cs = [.string x.name, v1] ∧ StrAt w v1 x.groups
theorem stays_user : Stays UserR := fun _ _ _ _ hk ⟨v1, h, g1⟩ => ⟨v1, h, g1.keep hk⟩
def userB (x : GUser) : Nat := ((x.name.size + 1) + ((total x.groups + 1) + 0)) + 1
set_option maxRecDepth 10000 in
theorem opens_user : Opens Tryd.prog 39 UserR userB := by
  intro H enc w base spare held fuel cs x h
  obtain ⟨xs, n, _, rfl, hl, hx, hf⟩ := DataW.trod_struct Tryd.underlying39 h
  have hl2 : cs.length = 2 := hl.trans (by kernel_rfl)
  clear hl h
  match cs, hl2, xs, hx, hf with
  | [c0, c1], _, [x0, x1], _, hf =>
    obtain ⟨a0, r0, m0⟩ := (opens_string Tryd.underlying9).at (o := 0) (cs := [c0, c1]) (ds := [c0]) (x := x0) (hf 0 _ rfl) (k := 1) (by kernel_rfl) rfl
    obtain ⟨a1, r1, m1⟩ := (opens_strs Tryd.underlying23 Tryd.underlying9 (by kernel_rfl)).at (o := 1) (cs := [c0, c1]) (ds := [c1]) (x := x1) (hf 1 _ rfl) (k := 1) (by kernel_rfl) rfl
    clear hf
    obtain rfl : c0 = .string a0 := by simpa [RString] using r0
    obtain ⟨v1, r1, s1⟩ := r1
    obtain rfl : c1 = v1 := by simpa using r1
    refine ⟨⟨a0, a1⟩, ⟨c1, rfl, s1⟩, ?_⟩
    simp only [List.map_cons, List.map_nil, Rows.uptoBulk, Rows.uptoBulkAll, userB]
    omega
structure GAsk where
  verb : ByteArray
  kind : ByteArray
  space : ByteArray
  name : ByteArray
def AskR : Rd GAsk := fun _ cs x => cs = [.string x.verb, .string x.kind, .string x.space, .string x.name]
theorem stays_ask : Stays AskR := fun _ _ _ _ _ h => h
def askB (x : GAsk) : Nat := ((x.verb.size + 1) + ((x.kind.size + 1) + ((x.space.size + 1) + ((x.name.size + 1) + 0)))) + 1
set_option maxRecDepth 10000 in
theorem opens_ask : Opens Tryd.prog 27 AskR askB := by
  intro H enc w base spare held fuel cs x h
  obtain ⟨xs, n, _, rfl, hl, hx, hf⟩ := DataW.trod_struct Tryd.underlying27 h
  have hl2 : cs.length = 4 := hl.trans (by kernel_rfl)
  clear hl h
  match cs, hl2, xs, hx, hf with
  | [c0, c1, c2, c3], _, [x0, x1, x2, x3], _, hf =>
    obtain ⟨a0, r0, m0⟩ := (opens_string Tryd.underlying9).at (o := 0) (cs := [c0, c1, c2, c3]) (ds := [c0]) (x := x0) (hf 0 _ rfl) (k := 1) (by kernel_rfl) rfl
    obtain ⟨a1, r1, m1⟩ := (opens_string Tryd.underlying9).at (o := 1) (cs := [c0, c1, c2, c3]) (ds := [c1]) (x := x1) (hf 1 _ rfl) (k := 1) (by kernel_rfl) rfl
    obtain ⟨a2, r2, m2⟩ := (opens_string Tryd.underlying9).at (o := 2) (cs := [c0, c1, c2, c3]) (ds := [c2]) (x := x2) (hf 2 _ rfl) (k := 1) (by kernel_rfl) rfl
    obtain ⟨a3, r3, m3⟩ := (opens_string Tryd.underlying9).at (o := 3) (cs := [c0, c1, c2, c3]) (ds := [c3]) (x := x3) (hf 3 _ rfl) (k := 1) (by kernel_rfl) rfl
    clear hf
    obtain rfl : c0 = .string a0 := by simpa [RString] using r0
    obtain rfl : c1 = .string a1 := by simpa [RString] using r1
    obtain rfl : c2 = .string a2 := by simpa [RString] using r2
    obtain rfl : c3 = .string a3 := by simpa [RString] using r3
    refine ⟨⟨a0, a1, a2, a3⟩, rfl, ?_⟩
    simp only [List.map_cons, List.map_nil, Rows.uptoBulk, Rows.uptoBulkAll, askB]
    omega
end Go.Proofs.YtkkfnihdnclgiaaDoor
