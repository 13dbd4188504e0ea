/- grants: Allows, isFor: their contracts. -/
import Derived.Test.YtkkfnihdnclgiaaDoorGrantsHeld
namespace Go.Proofs.YtkkfnihdnclgiaaDoor
open Go.RowKit

def CapAsk (ga : Nat) (a : GAsk) (w : World) : Prop := w.heap[ga]? = some (.cells #[.string a.verb, .string a.kind, .string a.space, .string a.name] 27 (0, 0))
set_option maxRecDepth 100000 in
theorem cloRule_any (ga : Nat) (a : GAsk) (x : GRule) (y0 y1 y2 : Value) (w : World) (h : RuleR w [y0, y1, y2] x) (hok : okRule x) (hc : CapAsk ga a w) :
    Calls Tryd.prog 26 #[.agg #[y0, y1, y2], .pointer (some ⟨ga, 0, none⟩)] w fun e w' => e = .returned (.bool (allowsR a x)) ∧ Below w.heap.size w w' := by
  have H := Lib.hid h
  obtain ⟨_, _, _, hcs, s0, s1, s2⟩ := h
  simp only [List.cons.injEq, and_true] at hcs
  obtain ⟨rfl, rfl, rfl⟩ := hcs
  obtain ⟨a0, c0, rfl, _, _⟩ := s0.row.len
  obtain ⟨a1, c1, rfl, _, _⟩ := s1.row.len
  obtain ⟨a2, c2, rfl, _, _⟩ := s2.row.len
  have Hok := Lib.hid hok
  obtain ⟨nv, Hnv⟩ : ∃ n, Hid (x.verbs.length = n) := ⟨_, Lib.hid rfl⟩
  obtain ⟨nk, Hnk⟩ : ∃ n, Hid (x.kinds.length = n) := ⟨_, Lib.hid rfl⟩
  obtain ⟨nn, Hnn⟩ : ∃ n, Hid (x.names.length = n) := ⟨_, Lib.hid rfl⟩
  rw [Hnv.out, Hnk.out, Hnn.out] at H ⊢
  obtain ⟨R, HR⟩ : ∃ R, Hid (allowsR a x = R) := ⟨_, Lib.hid rfl⟩
  rw [HR.out]
  have hc' : w.heap[ga]? = some (.cells #[.string a.verb, .string a.kind, .string a.space, .string a.name] 27 (0, 0)) := hc
  have hga : ga < w.heap.size := by
    rcases Nat.lt_or_ge ga w.heap.size with h2 | h2
    · exact h2
    · rw [Array.getElem?_eq_none h2] at hc'; cases hc'
  have cc := fun i => cell_block hc' i
  have Hal : ∀ o : Obj, Hid (Below w.heap.size w (w.alloc o)) := fun o => Lib.hid ((Below.refl _ _).alloc (Nat.le_refl _) o)
  clear hok hc hc' s0 s1 s2
  go_enter Tryd.func26, Tryd.ntmps26
  go_wp2_with fail
  refine (allows_any _ _ _ x a _ (stays_rule _ _ _ _ (keeps_below (Hal _).out) H.out) Hok.out).mono ?_
  rw [HR.out]
  rintro E w2 ⟨rfl, hb⟩
  have Hb := Lib.hid ((Hal _).out.trans (hb.mono (by simp)))
  clear hb
  go_wp2_with fail
  go_ret
  exact ⟨rfl, Hb.out⟩
set_option maxRecDepth 100000 in
theorem allowsAll_any (v : Value) (l : List GRule) (a : GAsk) (w : World) (h : RowAt RuleR 3 w v l) (hl : l.length ≤ 1073741824) (hok : ∀ r ∈ l, okRule r) :
    Calls Tryd.prog 10 #[v, .agg #[.string a.verb, .string a.kind, .string a.space, .string a.name]] w fun e w' => e = .returned (.bool (allowsL l a)) ∧ Below w.heap.size w w' := by
  have H := Lib.hid h
  have Hok := Lib.hid hok
  obtain ⟨R, HR⟩ : ∃ R, Hid (allowsL l a = R) := ⟨_, Lib.hid rfl⟩
  have HR2 : Hid (l.any (allowsR a) = R) := HR
  rw [HR.out]
  have Hal : ∀ o : Obj, Hid (Below w.heap.size w (w.alloc o)) := fun o => Lib.hid ((Below.refl _ _).alloc (Nat.le_refl _) o)
  clear h hok
  go_enter Tryd.func10, Tryd.ntmps10
  go_wp2_with fail
  refine (anyRule_any (f := 26) (cap := .pointer (some ⟨w.heap.size, 0, none⟩)) (Cap := CapAsk w.heap.size a) (p := allowsR a) (OK := okRule) (run_callFunc_body Tryd.func26 (by kernel_rfl) (by kernel_rfl)) (fun w1 w2 h hb => below_block hb h) (fun x y0 y1 y2 w1 hx ho hc => cloRule_any w.heap.size a x y0 y1 y2 w1 hx ho hc) v l (w.alloc (.cells #[.string a.verb, .string a.kind, .string a.space, .string a.name] 27)) (H.out.below stays_rule (Hal _).out) hl Hok.out (heap_alloc_new w _)).mono ?_
  rw [HR2.out]
  rintro E w2 ⟨rfl, hb⟩
  have Hb := Lib.hid ((Hal _).out.trans (hb.mono (by simp)))
  clear hb
  go_wp2_with fail
  go_ret
  exact ⟨rfl, Hb.out⟩
/-- a binding lies there -/
def CapBd (gb : Nat) (b : GBind) (w : World) : Prop := ∃ y4 y5 : Value, w.heap[gb]? = some (.cells #[.string b.space, .string b.name, .string b.role, .bool b.whole, y4, y5] 77 (0, 0)) ∧ StrAt w y5 b.groups
theorem capBd_keep (gb : Nat) (b : GBind) (w w' : World) (h : CapBd gb b w) (hb : Below w.heap.size w w') : CapBd gb b w' := by
  obtain ⟨y4, y5, h1, h2⟩ := h
  exact ⟨y4, y5, below_block hb h1, h2.below' hb⟩
set_option maxRecDepth 100000 in
theorem cloGroup_any (gb : Nat) (b : GBind) (s : ByteArray) (w : World) (hl : b.groups.length ≤ 1073741824) (hc : CapBd gb b w) :
    Calls Tryd.prog 67 #[.string s, .pointer (some ⟨gb, 0, none⟩)] w fun e w' => e = .returned (.bool (Lib.containsS b.groups s)) ∧ Below w.heap.size w w' := by
  obtain ⟨y4, y5, h1, h2⟩ := hc
  have hgb : gb < w.heap.size := by
    rcases Nat.lt_or_ge gb w.heap.size with h3 | h3
    · exact h3
    · rw [Array.getElem?_eq_none h3] at h1; cases h1
  have cc := fun i => cell_block h1 i
  have H2 := Lib.hid h2
  obtain ⟨R, HR⟩ : ∃ R, Hid (Lib.containsS b.groups s = R) := ⟨_, Lib.hid rfl⟩
  rw [HR.out]
  clear h1 h2
  go_enter Tryd.func67, Tryd.ntmps67
  go_wp2_with fail
  refine (contains_any y5 b.groups s w H2.out hl).mono ?_
  rw [HR.out]
  rintro E w2 ⟨rfl, rfl⟩
  go_wp2_with fail
  go_ret
  exact ⟨rfl, Below.refl _ _⟩
set_option maxRecDepth 100000 in
set_option maxHeartbeats 800000 in
theorem isFor_any (y4 y5 yg : Value) (b : GBind) (u : GUser) (w : World) (h : BindR w [.string b.space, .string b.name, .string b.role, .bool b.whole, y4, y5] b) (hu : UserR w [.string u.name, yg] u) (hok : okBind b) (hok2 : okUser u) :
    Calls Tryd.prog 52 #[.agg #[.string b.space, .string b.name, .string b.role, .bool b.whole, y4, y5], .agg #[.string u.name, yg]] w fun e w' => e = .returned (.bool (isForB b u)) ∧ Below w.heap.size w w' := by
  obtain ⟨_, _, hcs, s4, s5⟩ := h
  simp only [List.cons.injEq, and_true, true_and] at hcs
  obtain ⟨rfl, rfl⟩ := hcs
  obtain ⟨_, hcs, sg⟩ := hu
  simp only [List.cons.injEq, and_true, true_and] at hcs
  obtain rfl := hcs
  obtain ⟨a4, c4, rfl, _, _⟩ := s4.row.len
  obtain ⟨a5, c5, rfl, _, _⟩ := s5.row.len
  obtain ⟨ag, cg, rfl, _, _⟩ := sg.row.len
  have S4 := Lib.hid s4
  have S5 := Lib.hid s5
  have Sg := Lib.hid sg
  obtain ⟨_, _, _, ⟨o4, _⟩, ⟨o5, _⟩⟩ := hok
  obtain ⟨_, ⟨og, _⟩⟩ := hok2
  obtain ⟨nu, Hnu⟩ : ∃ n, Hid (b.users.length = n) := ⟨_, Lib.hid rfl⟩
  obtain ⟨nb, Hnb⟩ : ∃ n, Hid (b.groups.length = n) := ⟨_, Lib.hid rfl⟩
  obtain ⟨ng, Hng⟩ : ∃ n, Hid (u.groups.length = n) := ⟨_, Lib.hid rfl⟩
  obtain ⟨p, Hp⟩ : ∃ p, Hid (Lib.containsS b.users u.name = p) := ⟨_, Lib.hid rfl⟩
  obtain ⟨q, Hq⟩ : ∃ q, Hid ((u.groups.any fun g => Lib.containsS b.groups g) = q) := ⟨_, Lib.hid rfl⟩
  have Hr : Hid (isForB b u = (p || q)) := by show _ = _; unfold isForB; rw [Hp.out, Hq.out]
  rw [Hr.out]
  rw [Hnu.out] at S4 o4 ⊢
  rw [Hnb.out] at S5 ⊢
  rw [Hng.out] at Sg og ⊢
  obtain ⟨w1, hw1⟩ : ∃ w1, w1 = (w.alloc (.cells #[.string b.space, .string b.name, .string b.role, .bool b.whole, .slice a4 nu c4, .slice a5 nb c5] 77)).alloc (.cells #[.string u.name, .slice ag ng cg] 39) := ⟨_, rfl⟩
  obtain ⟨gu, hgu⟩ : ∃ gu, gu = w.heap.size + 1 := ⟨_, rfl⟩
  obtain ⟨gb, hgb⟩ : ∃ gb, gb = w.heap.size := ⟨_, rfl⟩
  have b1 : w1.heap[gb]? = some (.cells #[.string b.space, .string b.name, .string b.role, .bool b.whole, .slice a4 nu c4, .slice a5 nb c5] 77 (0, 0)) := by
    rw [hw1, hgb]
    exact below_block ((Below.refl _ _).alloc (Nat.le_refl _) _) (heap_alloc_new w _)
  have b2 : w1.heap[gu]? = some (.cells #[.string u.name, .slice ag ng cg] 39 (0, 0)) := by
    have h9 := heap_alloc_new (w.alloc (.cells #[.string b.space, .string b.name, .string b.role, .bool b.whole, .slice a4 nu c4, .slice a5 nb c5] 77)) (.cells #[.string u.name, .slice ag ng cg] 39)
    rw [hw1, hgu]
    simpa using h9
  have hb1 : Below w.heap.size w w1 := by rw [hw1]; exact ((Below.refl _ _).alloc (Nat.le_refl _) _).alloc (by simp) _
  have hs1 := hb1.size
  have Hb1 := Lib.hid hb1
  have S4' := Lib.hid (S4.out.below' hb1)
  have Sg' := Lib.hid (Sg.out.row.below stays_string hb1)
  have Hcap : Hid (CapBd gb b w1) := Lib.hid ⟨_, _, b1, S5.out.below' hb1⟩
  have cc := fun i => cell_block b1 i
  have dd := fun i => cell_block b2 i
  clear s4 s5 sg b1 b2 hb1 Hr
  cases p with
  | true =>
    go_enter Tryd.func52, Tryd.ntmps52
    go_upto_region 1 with fail
    rw [← hw1]
    try rw [← hgu]
    rw [← hgb]
    clear hw1 hgu hgb
    go_wp2_with fail
    refine (contains_any _ b.users u.name w1 S4'.out (by rw [Hnu.out]; omega)).mono ?_
    rw [Hp.out]
    rintro E w2 ⟨rfl, rfl⟩
    go_wp2_with fail
    go_ret
    exact ⟨rfl, Hb1.out⟩
  | false =>
    go_enter Tryd.func52, Tryd.ntmps52
    go_upto_region 1 with fail
    rw [← hw1]
    try rw [← hgu]
    rw [← hgb]
    clear hw1 hgu hgb
    go_wp2_with fail
    refine (contains_any _ b.users u.name w1 S4'.out (by rw [Hnu.out]; omega)).mono ?_
    rw [Hp.out]
    rintro E w2 ⟨rfl, rfl⟩
    go_wp2_with fail
    refine (anyStr_any (f := 67) (cap := .pointer (some ⟨gb, 0, none⟩)) (Cap := CapBd gb b) (p := fun g => Lib.containsS b.groups g) (OK := fun _ => True) (run_callFunc_body Tryd.func67 (by kernel_rfl) (by kernel_rfl)) (capBd_keep gb b) (fun x w1 _ _ hc => cloGroup_any gb b x w1 (by omega) hc) _ u.groups w1 Sg'.out (by rw [Hng.out]; omega) (fun _ _ => trivial) Hcap.out).mono ?_
    rw [Hq.out]
    rintro E w2 ⟨rfl, hb⟩
    have Hb := Lib.hid (Hb1.out.trans (hb.mono hs1))
    clear hb
    go_wp2_with fail
    go_ret
    exact ⟨by simp, Hb.out⟩
end Go.Proofs.YtkkfnihdnclgiaaDoor
