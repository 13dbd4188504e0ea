/- slices.Clone of texts and of labels: contracts. -/
import Derived.Test.YteadfpbkhledlaaRow
import Derived.Test.YteadfpbkhledlaaDataObj
import Derived.WalkSpells
namespace Go.Proofs.Yteadfpbkhledlaa
open Go.RowKit

theorem flat_string : Flat RString := fun _ _ _ _ h => h
theorem one_string : OneR RString := fun _ _ _ h u hu => by rw [h] at hu; simp at hu; subst hu; rfl
theorem flat_label : Flat LabelR := fun _ _ _ _ h => h
theorem one_label : OneR LabelR := fun _ _ _ h u hu => by rw [h] at hu; simp at hu; rcases hu with rfl | rfl <;> rfl
theorem Try.infoLabel : (Try.prog.info? 139).map (fun i => (i.zero, i.size, i.bytes)) = some (some (.agg #[.string ByteArray.empty, .string ByteArray.empty]), 2, 32) := by kernel_rfl
theorem own_empty {α : Type} {R : Rd α} (w : World) (k : Nat) (e : TypeId) {B : Nat} (hB : B ≤ w.heap.size) : OwnAt R k (w.alloc (.cells #[] e)) B e (.slice (some ⟨w.heap.size, 0, none⟩) 0 0) [] :=
  ⟨[], rfl, fun _ h => (by cases h), ⟨by simp, .inr ⟨w.heap.size, 0, #[], rfl, hB, heap_alloc_new w _, Nat.le_refl _, by simp, by simp, by simp⟩⟩, fun j cs x h => (by simp at h)⟩

set_option maxRecDepth 100000 in
theorem cloneStrs_any (v : Value) (l : List ByteArray) (w : World) (h : StrAt w v l) (hl : l.length ≤ 1073741824) :
    Calls Try.prog 83 #[v] w fun e w' => ∃ v', e = .returned v' ∧ OwnAt RString 1 w' w.heap.size 9 v' l ∧ Below w.heap.size w w' := by
  obtain ⟨i0, hi0, hz0, hz1, hz2⟩ := info_parts Try.infoStr
  have hrow := h.row
  have hn := fun (w : World) (a : Option Addr) (n c : Nat) => Lib.run_eql_slice_nil (P := Try.prog) w 29 9 a n c 0 0 Try.underlying29
  rcases h with ⟨rfl, rfl⟩ | ⟨a, c, rfl, _, _, _⟩
  · go_enter Try.func83, Try.ntmps83
    go_wp2_with fail
    go_ret
    exact ⟨_, rfl, OwnAt.nil _, Below.refl _ _⟩
  · have Hrow := Lib.hid hrow
    clear hrow
    go_enter Try.func83, Try.ntmps83
    go_wp2_with (at_builtin; refine wpList_append_ownAt (R := RString) (k := 1) (e := 9) (B := w.heap.size) (l := []) (m := l) _ (by rfl) _ _ _ (by rfl) i0 _ 16 Try.underlying29 hi0 hz0 hz1 hz2 rfl (by omega) flat_string one_string _ (by rfl) (own_empty w 1 _ (Nat.le_refl _)) _ (by rfl) (Hrow.out.below stays_string ((Below.refl _ _).alloc (Nat.le_refl _) _)) (by unfold maxLen; simp; omega) (by simp; omega) (by simp) ?_)
    intro v' w' hv' hg hr _
    have hb : Below w.heap.size w w' := below_of_grown ((Below.refl _ _).alloc (Nat.le_refl _) _) (by simp) hg hr
    go_wp2_with fail
    go_ret
    exact ⟨_, rfl, by simpa using hv', hb⟩
set_option maxRecDepth 100000 in
theorem cloneLabels_any (v : Value) (l : List GLabel) (w : World) (h : RowAt LabelR 2 w v l) (hl : l.length ≤ 1073741824) :
    Calls Try.prog 82 #[v] w fun e w' => ∃ v', e = .returned v' ∧ OwnAt LabelR 2 w' w.heap.size 139 v' l ∧ Below w.heap.size w w' := by
  obtain ⟨i0, hi0, hz0, hz1, hz2⟩ := info_parts Try.infoLabel
  have hrow := h
  have hn := fun (w : World) (a : Option Addr) (n c : Nat) => Lib.run_eql_slice_nil (P := Try.prog) w 50 139 a n c 0 0 Try.underlying50
  rcases h with ⟨rfl, rfl⟩ | ⟨a, c, rfl, _, _, _⟩
  · go_enter Try.func82, Try.ntmps82
    go_wp2_with fail
    go_ret
    exact ⟨_, rfl, OwnAt.nil _, Below.refl _ _⟩
  · have Hrow := Lib.hid hrow
    clear hrow
    go_enter Try.func82, Try.ntmps82
    go_wp2_with (at_builtin; refine wpList_append_ownAt (R := LabelR) (k := 2) (e := 139) (B := w.heap.size) (l := []) (m := l) _ (by rfl) _ _ _ (by rfl) i0 _ 32 Try.underlying50 hi0 hz0 hz1 hz2 rfl (by omega) flat_label one_label _ (by rfl) (own_empty w 2 _ (Nat.le_refl _)) _ (by rfl) (Hrow.out.below stays_label ((Below.refl _ _).alloc (Nat.le_refl _) _)) (by unfold maxLen; simp; omega) (by simp; omega) (by simp) ?_)
    intro v' w' hv' hg hr _
    have hb : Below w.heap.size w w' := below_of_grown ((Below.refl _ _).alloc (Nat.le_refl _) _) (by simp) hg hr
    go_wp2_with fail
    go_ret
    exact ⟨_, rfl, by simpa using hv', hb⟩
end Go.Proofs.Yteadfpbkhledlaa
