/- grants: Covers: its contract. -/
import Derived.Test.YtkkfnihdnclgiaaDoorGrantsBeyond
import Derived.Test.YtkkfnihdnclgiaaDoorGrantsOk
namespace Go.Proofs.YtkkfnihdnclgiaaDoor
open Go.RowKit

/-- what Beyond needs of the rules -/
structure OkCover (l : List GRule) (r : GRule) : Prop where
  len : l.length ≤ 1048576
  ok : ∀ x ∈ l, okRule x
  okr : okRule r
  t0 : (l.map (·.verbs)).flatten.length ≤ 1048576
  t1 : (l.map (·.kinds)).flatten.length ≤ 1048576
  t2 : (l.map (·.names)).flatten.length ≤ 1048576
theorem okCover_of {l : List GRule} {r : GRule} (h : (l.map ruleB).sum ≤ 1048576) (hr : okRule r) : OkCover l r := by
  have h1 := sum_ge_length ruleB (fun x => by unfold ruleB; omega) l
  exact ⟨by omega, fun q hq => okRule_of (by have := mem_sum ruleB hq; omega), hr, by have := flat_bulk (·.verbs) ruleB_verbs l; omega, by have := flat_bulk (·.kinds) ruleB_kinds l; omega, by have := flat_bulk (·.names) ruleB_names l; omega⟩
def CoversAt (l : List GRule) (r : GRule) (w : World) (e : Ending) (w' : World) : Prop := ∃ b, e = .returned (.bool b) ∧ (b = true ↔ coverP l r) ∧ Below w.heap.size w w'
theorem BeyondAt.iff {l : List GRule} {r : GRule} {a : GAsk} {b : Bool} (h : BeyondAt l r a b) : ((!b) = true ↔ coverP l r) := by
  rcases h with ⟨rfl, _, h⟩ | ⟨rfl, h, _⟩
  · simpa using h
  · simpa using h
set_option maxRecDepth 100000 in
set_option maxHeartbeats 800000 in
theorem covers_any (v y0 y1 y2 : Value) (l : List GRule) (r : GRule) (w : World) (h : RowAt RuleR 3 w v l) (hr : RuleR w [y0, y1, y2] r) (hok : OkCover l r) (htab : TabOK w) :
    Calls Tryd.prog 7 #[v, .agg #[y0, y1, y2]] w (CoversAt l r w) := by
  obtain ⟨w1, hw1⟩ : ∃ w1, w1 = w.alloc (.cells #[y0, y1, y2] 25) := ⟨_, rfl⟩
  have hb1 : Below w.heap.size w w1 := by rw [hw1]; exact (Below.refl _ _).alloc (Nat.le_refl _) _
  have b0 : w1.heap[w.heap.size]? = some (.cells #[y0, y1, y2] 25 (0, 0)) := by rw [hw1]; exact heap_alloc_new w _
  have H := Lib.hid (beyond_any v y0 y1 y2 l r w1 (h.below stays_rule hb1) (stays_rule _ _ _ _ (keeps_below hb1) hr) hok.len hok.ok hok.okr hok.t0 hok.t1 hok.t2 (var_keep htab hb1))
  obtain ⟨_, _, _, hcs, s0, s1, s2⟩ := hr
  simp only [List.cons.injEq, and_true] at hcs
  obtain ⟨rfl, rfl, rfl⟩ := hcs
  obtain ⟨a0, c0, rfl, _, _⟩ := s0.row.len
  obtain ⟨a1, c1, rfl, _, _⟩ := s1.row.len
  obtain ⟨a2, c2, rfl, _, _⟩ := s2.row.len
  obtain ⟨nv, Hnv⟩ : ∃ n, Hid (r.verbs.length = n) := ⟨_, Lib.hid rfl⟩
  obtain ⟨nk, Hnk⟩ : ∃ n, Hid (r.kinds.length = n) := ⟨_, Lib.hid rfl⟩
  obtain ⟨nn, Hnn⟩ : ∃ n, Hid (r.names.length = n) := ⟨_, Lib.hid rfl⟩
  rw [Hnv.out, Hnk.out, Hnn.out] at H b0 hw1 ⊢
  have Hb1 := Lib.hid hb1
  have Hw1 := Lib.hid hw1
  have cc := fun i => cell_block b0 i
  have hs1 := hb1.size
  clear h htab hok hb1 hw1 s0 s1 s2 b0
  go_enter Tryd.func7, Tryd.ntmps7
  go_upto_region 1 with fail
  rw [← Hw1.out]
  clear Hw1
  go_wp2_with fail
  refine H.out.mono ?_
  rintro E w2 ⟨a, b, rfl, hres, hb2⟩
  have Hres := Lib.hid hres.iff
  have Hb2 := Lib.hid (Hb1.out.trans (hb2.mono hs1))
  have hs2 := hb2.size
  unfold AskV
  clear hres hb2 cc H
  go_wp2_with fail
  go_ret
  exact ⟨_, rfl, Hres.out, Hb2.out.alloc (by have := Hb2.out.size; omega) _⟩
end Go.Proofs.YtkkfnihdnclgiaaDoor
