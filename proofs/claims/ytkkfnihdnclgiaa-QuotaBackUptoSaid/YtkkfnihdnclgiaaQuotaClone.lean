/- slices.Clone and the reference's Copy at limits and costs. -/
import Derived.Test.YtkkfnihdnclgiaaRow
import Derived.Test.YtkkfnihdnclgiaaDataQuota
import Derived.WalkSpells
namespace Go.Proofs.Ytkkfnihdnclgiaa
open Go.RowKit
theorem Try.infoLimit : (Try.prog.info? 33).map (fun i => (i.zero, i.size, i.bytes)) = some (some (.agg #[.string ByteArray.empty, .int .i64 0, .int .i64 0]), 3, 32) := by kernel_rfl
theorem flat_limit : Flat LimitR := fun _ _ _ _ h => h
theorem one_limit : OneR LimitR := fun _ _ _ h u hu => by
  first
    | (rw [h] at hu; simp at hu; rcases hu with rfl | rfl <;> rfl)
    | (obtain ⟨h, _⟩ := h; rw [h] at hu; simp at hu; rcases hu with rfl | rfl | rfl <;> rfl)
    | (obtain ⟨h, _⟩ := h; rw [h] at hu; simp at hu; rcases hu with rfl | rfl <;> rfl)
set_option maxRecDepth 100000 in
theorem cloneLimit_any (v : Value) (l : List GLimit) (w : World) (h : RowAt LimitR 3 w v l) (hl : l.length ≤ 1073741824) :
    Calls Try.prog 62 #[v] w fun e w' => ∃ v', e = .returned v' ∧ OwnAt LimitR 3 w' w.heap.size 33 v' l ∧ Below w.heap.size w w' := by
  obtain ⟨i0, hi0, hz0, hz1, hz2⟩ := info_parts Try.infoLimit
  have hrow := h
  have hn := fun (w : World) (a : Option Addr) (n c : Nat) => Lib.run_eql_slice_nil (P := Try.prog) w 22 33 a n c 0 0 Try.underlying22
  rcases h with ⟨rfl, rfl⟩ | ⟨a, c, rfl, _, _, _⟩
  · go_enter Try.func62, Try.ntmps62
    go_wp2_with fail
    go_ret
    exact ⟨_, rfl, OwnAt.nil _, Below.refl _ _⟩
  · have Hrow := Lib.hid hrow
    clear hrow
    go_enter Try.func62, Try.ntmps62
    go_wp2_with (at_builtin; refine wpList_append_ownAt (R := LimitR) (k := 3) (e := 33) (B := w.heap.size) (l := []) (m := l) _ (by rfl) _ _ _ (by rfl) i0 _ 32 Try.underlying22 hi0 hz0 hz1 hz2 rfl (by omega) flat_limit one_limit _ (by rfl) (own_empty w 3 _ (Nat.le_refl _)) _ (by rfl) (Hrow.out.below stays_limit ((Below.refl _ _).alloc (Nat.le_refl _) _)) (by unfold maxLen; simp; omega) (by simp; omega) (by simp) ?_)
    intro v' w' hv' hg hr _
    have hb : Below w.heap.size w w' := below_of_grown ((Below.refl _ _).alloc (Nat.le_refl _) _) (by simp) hg hr
    go_wp2_with fail
    go_ret
    exact ⟨_, rfl, by simpa using hv', hb⟩


theorem Try.infoCost : (Try.prog.info? 26).map (fun i => (i.zero, i.size, i.bytes)) = some (some (.agg #[.string ByteArray.empty, .int .i64 0]), 2, 24) := by kernel_rfl
theorem flat_cost : Flat CostR := fun _ _ _ _ h => h
theorem one_cost : OneR CostR := fun _ _ _ h u hu => by
  first
    | (rw [h] at hu; simp at hu; rcases hu with rfl | rfl <;> rfl)
    | (obtain ⟨h, _⟩ := h; rw [h] at hu; simp at hu; rcases hu with rfl | rfl | rfl <;> rfl)
    | (obtain ⟨h, _⟩ := h; rw [h] at hu; simp at hu; rcases hu with rfl | rfl <;> rfl)

set_option maxRecDepth 100000 in
theorem copyCost_any (v : Value) (l : List GCost) (w : World) (h : RowAt CostR 2 w v l) (hl : l.length ≤ 1073741824) :
    Calls Try.prog 11 #[v] w fun e w' => ∃ v', e = .returned v' ∧ OwnAt CostR 2 w' w.heap.size 26 v' l ∧ Below w.heap.size w w' := by
  obtain ⟨i0, hi0, hz0, hz1, hz2⟩ := info_parts Try.infoCost
  go_enter Try.func11, Try.ntmps11
  go_wp2_with (at_builtin; refine wpList_append_ownAt (R := CostR) (k := 2) (e := 26) (B := w.heap.size) (l := []) (m := l) _ (by rfl) _ _ _ (by rfl) i0 _ 24 Try.underlying23 hi0 hz0 hz1 hz2 rfl (by omega) flat_cost one_cost _ (by rfl) (OwnAt.nil w) _ (by rfl) h (by unfold maxLen; simp; omega) (by simp; omega) (Nat.le_refl _) ?_)
  intro v' w' hv' hg hr _
  have hb : Below w.heap.size w w' := below_of_grown (Below.refl _ _) (Nat.le_refl _) hg hr
  go_wp2_with fail
  go_ret
  exact ⟨_, rfl, by simpa using hv', hb⟩

end Go.Proofs.Ytkkfnihdnclgiaa
