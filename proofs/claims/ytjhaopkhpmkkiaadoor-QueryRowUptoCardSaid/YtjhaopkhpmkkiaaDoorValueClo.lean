/- query.value: its closures; Clone at parts. -/
import Derived.Test.YtjhaopkhpmkkiaaDoorDelFunc
import Derived.Test.YtjhaopkhpmkkiaaDoorSolvePlain
import Derived.Test.YtjhaopkhpmkkiaaDoorSortStr
namespace Go.Proofs.YtjhaopkhpmkkiaaDoor
open Go.RowKit

set_option maxRecDepth 100000 in
theorem cloneReq_any {R : Rd GReq} (hf : Flat R) (h1 : OneR R) (v : Value) (l : List GReq) (w : World) (h : RowAt R 3 w v l) (hl : l.length ≤ 1048576) :
    Calls Tryd.prog 27 #[v] w fun e w' => ∃ v', e = .returned v' ∧ OwnAt R 3 w' w.heap.size 33 v' l ∧ Below w.heap.size w w' := by
  obtain ⟨i0, hi0, hz0, hz1, hz2⟩ := info_parts Tryd.infoReq
  have hn := fun (w : World) (a : Option Addr) (n c : Nat) => Lib.run_eql_slice_nil (P := Tryd.prog) w 22 33 a n c 0 0 Tryd.underlying22
  rcases h with ⟨rfl, rfl⟩ | ⟨a, c, rfl, g1, g2, g3⟩
  · go_enter Tryd.func27, Tryd.ntmps27
    go_wp2_with fail
    go_ret
    exact ⟨_, rfl, OwnAt.nil _, Below.refl _ _⟩
  · have hrow : RowAt R 3 w (.slice (some a) l.length c) l := .inr ⟨a, c, rfl, g1, g2, g3⟩
    have Hrow := Lib.hid (hrow.below hf.stays ((Below.refl _ w).alloc (Nat.le_refl _) (.cells #[] 33)))
    clear hrow g1 g2 g3
    go_enter Tryd.func27, Tryd.ntmps27
    go_wp2_with (at_builtin; refine wpList_append_ownAt (R := R) (k := 3) (e := 33) (B := w.heap.size) (l := []) (m := l) _ (by rfl) _ _ _ (by rfl) i0 _ 48 Tryd.underlying22 hi0 hz0 hz1 hz2 rfl (by omega) hf h1 _ (by rfl) (own_empty w 3 _ (Nat.le_refl _)) _ (by rfl) Hrow.out (by unfold maxLen; simp; omega) (by simp; omega) (by simp) ?_)
    intro v' w' hv' hg hr _
    have hb : Below w.heap.size w w' := below_of_grown ((Below.refl _ _).alloc (Nat.le_refl _) _) (by simp) hg hr
    go_wp2_with fail
    go_ret
    exact ⟨_, rfl, by simpa using hv', hb⟩
/-- a key in a box -/
def CapKey (g : Nat) (key : ByteArray) (w : World) : Prop := w.heap[g]? = some (.cells #[.string key] 9 (0, 0))
theorem run_val1 : ∀ (a : Array Value) (w : World), (callFunc 56 a).run Tryd.prog w = .ok (.enter 56 a) w := run_callFunc_body Tryd.func56 (by kernel_rfl) (by kernel_rfl)
theorem run_val2 : ∀ (a : Array Value) (w : World), (callFunc 57 a).run Tryd.prog w = .ok (.enter 57 a) w := run_callFunc_body Tryd.func57 (by kernel_rfl) (by kernel_rfl)
theorem run_val3 : ∀ (a : Array Value) (w : World), (callFunc 59 a).run Tryd.prog w = .ok (.enter 59 a) w := run_callFunc_body Tryd.func59 (by kernel_rfl) (by kernel_rfl)
set_option maxRecDepth 100000 in
set_option maxHeartbeats 800000 in
theorem val1_any (g : Nat) (key : ByteArray) (x : GReq) (y2 : Value) (w : World) (hx : ReqR w [.string x.key, .int .i64 x.kind, y2] x) (hc : CapKey g key w) :
    Calls Tryd.prog 56 #[.agg #[.string x.key, .int .i64 x.kind, y2], .pointer (some ⟨g, 0, none⟩)] w fun e w' => e = .returned (.bool (!decide (x.key = key))) ∧ Below w.heap.size w w' := by
  obtain ⟨v2', h1, _, hst⟩ := hx
  obtain rfl : y2 = v2' := by injection h1 with _ h1; injection h1 with _ h1; injection h1
  clear h1
  obtain ⟨ao, c, rfl, _, _⟩ := hst.row.len
  obtain ⟨w1, hw1⟩ : ∃ w1, w1 = w.alloc (.cells #[.string x.key, .int .i64 x.kind, .slice ao x.vals.length c] 33) := ⟨_, rfl⟩
  obtain ⟨gb, hgb⟩ : ∃ gb, gb = w.heap.size := ⟨_, rfl⟩
  have b1 : w1.heap[gb]? = some (.cells #[.string x.key, .int .i64 x.kind, .slice ao x.vals.length c] 33 (0, 0)) := by rw [hw1, hgb]; exact heap_alloc_new w _
  have hb1 : Below w.heap.size w w1 := by rw [hw1]; exact (Below.refl _ _).alloc (Nat.le_refl _) _
  have c1 := below_block hb1 hc
  have Hb1 := Lib.hid hb1
  have cc := fun i => cell_block b1 i
  have dd := fun i => cell_block c1 i
  clear hc b1 hb1 c1 hst
  obtain ⟨b, Hb⟩ : ∃ b, Hid (decide (x.key = key) = b) := ⟨_, Lib.hid rfl⟩
  rw [Hb.out]
  have hb : (x.key.toList == key.toList) = b := by
    rw [← Hb.out]
    by_cases h : x.key = key
    · rw [h]; simp
    · rw [decide_eq_false h, beq_eq_false_iff_ne]; exact fun e => h (toList_inj e)
  go_enter Tryd.func56, Tryd.ntmps56
  go_upto_region 1 with fail
  rw [← hw1]
  try rw [← hgb]
  clear hw1 hgb
  cases b with
  | true =>
    go_wp2_with fail
    go_ret
    exact ⟨rfl, Hb1.out⟩
  | false =>
    go_wp2_with fail
    go_ret
    exact ⟨rfl, Hb1.out⟩
set_option maxRecDepth 100000 in
set_option maxHeartbeats 800000 in
theorem val3_any (x : GReq) (y2 : Value) (w : World) (hx : ReqR w [.string x.key, .int .i64 x.kind, y2] x) :
    Calls Tryd.prog 59 #[.agg #[.string x.key, .int .i64 x.kind, y2]] w fun e w' => e = .returned (.bool (decide (x.kind = 1))) ∧ Below w.heap.size w w' := by
  obtain ⟨v2', h1, _, hst⟩ := hx
  obtain rfl : y2 = v2' := by injection h1 with _ h1; injection h1 with _ h1; injection h1
  clear h1
  obtain ⟨ao, c, rfl, _, _⟩ := hst.row.len
  obtain ⟨w1, hw1⟩ : ∃ w1, w1 = w.alloc (.cells #[.string x.key, .int .i64 x.kind, .slice ao x.vals.length c] 33) := ⟨_, rfl⟩
  obtain ⟨gb, hgb⟩ : ∃ gb, gb = w.heap.size := ⟨_, rfl⟩
  have b1 : w1.heap[gb]? = some (.cells #[.string x.key, .int .i64 x.kind, .slice ao x.vals.length c] 33 (0, 0)) := by rw [hw1, hgb]; exact heap_alloc_new w _
  have hb1 : Below w.heap.size w w1 := by rw [hw1]; exact (Below.refl _ _).alloc (Nat.le_refl _) _
  have Hb1 := Lib.hid hb1
  have cc := fun i => cell_block b1 i
  clear b1 hb1 hst
  obtain ⟨kd, Hkd⟩ : ∃ kd, Hid (x.kind = kd) := ⟨_, Lib.hid rfl⟩
  rw [Hkd.out] at cc hw1 ⊢
  have way : (kd = 1 ∧ decide (kd = 1) = true) ∨ ((kd == 1) = false ∧ decide (kd = 1) = false) := by
    by_cases h : kd = 1
    · exact .inl ⟨h, decide_eq_true h⟩
    · exact .inr ⟨by rw [beq_eq_false_iff_ne]; exact h, decide_eq_false h⟩
  obtain ⟨b, Hb⟩ : ∃ b, decide (kd = 1) = b := ⟨_, rfl⟩
  rw [Hb] at way ⊢
  clear Hb
  go_enter Tryd.func59, Tryd.ntmps59
  go_upto_region 1 with fail
  rw [← hw1]
  try rw [← hgb]
  clear hw1 hgb
  rcases way with ⟨rfl, rfl⟩ | ⟨q, rfl⟩
  · go_wp2_with fail
    go_ret
    exact ⟨rfl, Hb1.out⟩
  · go_wp2_with fail
    go_ret
    exact ⟨rfl, Hb1.out⟩
/-- what 'fits' has captured -/
structure CapFit (ga gk : Nat) (va : Value) (A : List GReq) (key : ByteArray) (w : World) : Prop where
  about : w.heap[ga]? = some (.cells #[va] 22 (0, 0))
  key : CapKey gk key w
  row : RowAt ReqR 3 w va A
theorem CapFit.below {ga gk : Nat} {va : Value} {A : List GReq} {key : ByteArray} {w w' : World} (h : CapFit ga gk va A key w) (hb : Below w.heap.size w w') : CapFit ga gk va A key w' :=
  ⟨below_block hb h.about, below_block hb h.key, h.row.below stays_req hb⟩
set_option maxRecDepth 100000 in
set_option maxHeartbeats 800000 in
theorem val2_any {ga gk : Nat} {va : Value} {A : List GReq} {key : ByteArray} (v : ByteArray) (w : World) (h : CapFit ga gk va A key w) (hA : A.length ≤ 1048576) (hok : ∀ r ∈ A, okReq r) :
    Calls Tryd.prog 57 #[.string v, .pointer (some ⟨ga, 0, none⟩), .pointer (some ⟨gk, 0, none⟩)] w fun e w' => e = .returned (.bool (A.all (holdsB [⟨key, v⟩]))) ∧ Below w.heap.size w w' := by
  obtain ⟨h1, h2, h3⟩ := h
  obtain ⟨ao, c, rfl, _, _⟩ := h3.len
  have cc := fun i => cell_block h1 i
  have dd := fun i => cell_block h2 i
  have H3 := Lib.hid h3
  have Hok := Lib.hid hok
  clear h1 h2 h3 hok
  go_enter Tryd.func57, Tryd.ntmps57
  go_wp2_with fail
  obtain ⟨w1, hw1⟩ : ∃ w1, w1 = w.alloc (.cells #[.string key, .string v] 78) := ⟨_, rfl⟩
  have b1 : w1.heap[w.heap.size]? = some (.cells #[.string key, .string v] 78 (0, 0)) := by rw [hw1]; exact heap_alloc_new w _
  have hb1 : Below w.heap.size w w1 := by rw [hw1]; exact (Below.refl _ _).alloc (Nat.le_refl _) _
  rw [← hw1]
  have hrow : RowAt LabelR 2 w1 (.slice (some ⟨w.heap.size, 0, none⟩) 1 1) [⟨key, v⟩] := RowAt.one b1 rfl rfl
  refine (allReq_any _ _ A [⟨key, v⟩] w1 (H3.out.below stays_req hb1) hA Hok.out hrow (by simp)).mono ?_
  rintro E w2 ⟨rfl, hb2⟩
  have Hb2 := Lib.hid (hb1.trans (hb2.mono hb1.size))
  clear hb1 hb2 hw1 b1 hrow cc dd
  go_wp2_with fail
  go_ret
  exact ⟨rfl, Hb2.out⟩
end Go.Proofs.YtjhaopkhpmkkiaaDoor
