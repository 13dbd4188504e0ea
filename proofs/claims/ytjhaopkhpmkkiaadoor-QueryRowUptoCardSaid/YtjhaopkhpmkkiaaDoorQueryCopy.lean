/- query: the bounds; Copy at parts. -/
import Derived.Test.YtjhaopkhpmkkiaaDoorQueryMatch
import Derived.Test.YtjhaopkhpmkkiaaDoorRowX
namespace Go.Proofs.YtjhaopkhpmkkiaaDoor
open Go.RowKit

theorem le_sum {x : Nat} : ∀ {l : List Nat}, x ∈ l → x ≤ l.sum
  | a :: r, h => by
    rw [List.sum_cons]
    rcases List.mem_cons.1 h with rfl | h
    · omega
    · have := le_sum h; omega
theorem okReq_of {r : GReq} (h : reqB r ≤ 1048576) : okReq r := by
  unfold reqB at h
  have h1 := total_length r.vals
  refine ⟨by omega, by omega, fun x hx => ?_⟩
  have := total_mem hx
  omega
theorem okLabs_of {l : List GLabel} (h : (l.map labelB).sum ≤ 1048576) : (∀ x ∈ l, okLab x) ∧ l.length ≤ 1048576 := by
  refine ⟨fun x hx => ?_, Nat.le_trans (sum_ge_length labelB (fun x => by unfold labelB; omega) l) h⟩
  have h1 : labelB x ≤ (l.map labelB).sum := le_sum (List.mem_map_of_mem hx)
  have h2 : labelB x = ((x.key.size + 1) + ((x.val.size + 1) + 0)) + 1 := rfl
  exact ⟨by omega, by omega⟩
theorem Tryd.infoReq : (Tryd.prog.info? 33).map (fun i => (i.zero, i.size, i.bytes)) = some (some (.agg #[.string ByteArray.empty, .int .i64 0, .slice none 0 0]), 3, 48) := by kernel_rfl
theorem one_req : OneR ReqR := fun w cs x h u hu => by
  obtain ⟨v2, rfl, _, h2⟩ := h
  obtain ⟨ao, c, rfl, _, _⟩ := h2.row.len
  simp only [List.mem_cons, List.not_mem_nil, or_false] at hu
  rcases hu with rfl | rfl | rfl <;> rfl
set_option maxRecDepth 100000 in
theorem copyReq_any {R : Rd GReq} (hf : Flat R) (h1 : OneR R) (v : Value) (l : List GReq) (w : World) (h : RowAt R 3 w v l) (hl : l.length ≤ 1048576) :
    Calls Tryd.prog 15 #[v] w fun e w' => ∃ v', e = .returned v' ∧ OwnAt R 3 w' w.heap.size 33 v' l ∧ Below w.heap.size w w' := by
  obtain ⟨i0, hi0, hz0, hz1, hz2⟩ := info_parts Tryd.infoReq
  have Hrow := Lib.hid h
  clear h
  go_enter Tryd.func15, Tryd.ntmps15
  go_wp2_with (at_builtin; refine wpList_append_ownAt (R := R) (k := 3) (e := 33) (B := w.heap.size) (l := []) (m := l) _ (by rfl) _ _ _ (by rfl) i0 _ 48 Tryd.underlying22 hi0 hz0 hz1 hz2 rfl (by omega) hf h1 _ (by rfl) (OwnAt.nil _) _ (by rfl) Hrow.out (by unfold maxLen; simp; omega) (by simp; omega) (Nat.le_refl _) ?_)
  intro v' w' hv' hg hr _
  have hb : Below w.heap.size w w' := below_of_grown (Below.refl _ _) (Nat.le_refl _) hg hr
  go_wp2_with fail
  go_ret
  exact ⟨_, rfl, by simpa using hv', hb⟩
theorem okReqs_of {l : List GReq} (h : (l.map reqB).sum ≤ 1048576) : (∀ x ∈ l, okReq x) ∧ l.length ≤ 1048576 :=
  ⟨fun x hx => okReq_of (Nat.le_trans (le_sum (List.mem_map_of_mem hx)) h), Nat.le_trans (sum_ge_length reqB (fun x => by unfold reqB; omega) l) h⟩
end Go.Proofs.YtjhaopkhpmkkiaaDoor
