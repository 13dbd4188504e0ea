/- query: the bounds of a selector; seneschalkeep.strange. -/
import Derived.Test.YtkmonmdnmpbadaaDoorQueryChecks
import Derived.Test.YtkmonmdnmpbadaaDoorRowX
namespace Go.Proofs.YtkmonmdnmpbadaaDoor
open Go.RowKit

theorem le_sum {x : Nat} : ∀ {l : List Nat}, x ∈ l → x ≤ l.sum
  | a :: r, h => by
    rw [List.sum_cons]
    rcases List.mem_cons.1 h with rfl | h
    · omega
    · have := le_sum h; omega
theorem okReq_of {r : GReq} (h : reqB r ≤ 1048576) : okReq r := by
  unfold reqB at h
  have h1 := total_length r.vals
  refine ⟨by omega, by omega, fun x hx => ?_⟩
  have := total_mem hx
  omega
theorem Tryd.infoReq : (Tryd.prog.info? 33).map (fun i => (i.zero, i.size, i.bytes)) = some (some (.agg #[.string ByteArray.empty, .int .i64 0, .slice none 0 0]), 3, 48) := by kernel_rfl
theorem one_req : OneR ReqR := fun w cs x h u hu => by
  obtain ⟨v2, rfl, _, h2⟩ := h
  obtain ⟨ao, c, rfl, _, _⟩ := h2.row.len
  simp only [List.mem_cons, List.not_mem_nil, or_false] at hu
  rcases hu with rfl | rfl | rfl <;> rfl
theorem okReqs_of {l : List GReq} (h : (l.map reqB).sum ≤ 1048576) : (∀ x ∈ l, okReq x) ∧ l.length ≤ 1048576 :=
  ⟨fun x hx => okReq_of (Nat.le_trans (le_sum (List.mem_map_of_mem hx)) h), Nat.le_trans (sum_ge_length reqB (fun x => by unfold reqB; omega) l) h⟩
set_option maxRecDepth 100000 in
theorem strange_any (m : Int) (w : World) (hm : MaxOK m w) :
    Calls Tryd.prog 7 #[] w fun e w' => e = .returned (.bool true) ∧ Below w.heap.size w w' := by
  have Hm := Lib.hid hm
  clear hm
  have hr : reqsE [⟨ByteArray.empty, 0, []⟩] = 6 := (reqsE_one _).trans reqE_empty
  go_enter Tryd.func7, Tryd.ntmps7
  go_wp2_with fail
  obtain ⟨w1, hw1⟩ : ∃ w1, w1 = w.alloc (.cells #[.string ⟨#[]⟩, .int .i64 0, .slice none 0 0] 33) := ⟨_, rfl⟩
  have b1 : w1.heap[w.heap.size]? = some (.cells #[.string ⟨#[]⟩, .int .i64 0, .slice none 0 0] 33 (0, 0)) := by rw [hw1]; exact heap_alloc_new w _
  have hb1 : Below w.heap.size w w1 := by rw [hw1]; exact (Below.refl _ _).alloc (Nat.le_refl _) _
  rw [← hw1]
  have hR : ReqR w1 [.string ⟨#[]⟩, .int .i64 0, .slice none 0 0] ⟨ByteArray.empty, 0, []⟩ := ⟨.slice none 0 0, rfl, by decide, StrAt.nil _⟩
  refine (checks_any _ [⟨ByteArray.empty, 0, []⟩] m w1 (RowAt.one b1 rfl hR) (by simp) (fun r hr => by
    rw [List.mem_singleton.1 hr]
    exact ⟨by decide, by decide, fun x hx => by cases hx⟩) (Hm.out.below hb1)).mono ?_
  rw [hr]
  rintro E w2 ⟨rfl, hb2⟩
  have Hb2 := Lib.hid (hb1.trans (hb2.mono hb1.size))
  clear hb1 hb2 hw1 b1 hR
  go_wp2_with fail
  go_ret
  exact ⟨rfl, Hb2.out⟩
end Go.Proofs.YtkmonmdnmpbadaaDoor
