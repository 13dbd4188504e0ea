/- json: one more frame. -/
import Derived.Test.YtaddcchpidpbfaaDoorJsonField
namespace Go.Proofs.YtaddcchpidpbfaaDoor
open Go.RowKit
open JP (JV Bs Fr)

theorem grown_block {w w1 : World} {r : Option Nat} (hg : w.grownBy w1 r) {b : Nat} (hb : b < w.heap.size) (hn : r ≠ some b) : w1.heap[b]? = w.heap[b]? := hg.block b hb (fun e => hn e.symm)
theorem grown_size {w w1 : World} {r : Option Nat} (hg : w.grownBy w1 r) : w.heap.size ≤ w1.heap.size := hg.size
theorem empty_lst {B : Nat} {T : List Nat} {w : World} : FrAt B T w ⟨.slice none 0 0, .pointer none, ⟨#[]⟩⟩ (.lst []) := by
  refine ⟨rfl, rfl, fun b h => (by cases h), 1, [], ⟨[], rfl, fun _ h => (by cases h), ⟨rfl, .inl ⟨rfl, rfl⟩⟩, fun j cs y h _ => ?_⟩, rfl, fun j u x h _ => ?_⟩
  · rw [List.getElem?_nil] at h; cases h
  · rw [List.getElem?_nil] at h; cases h
theorem empty_ob {n q : Nat} {T : List Nat} {w : World} {t : TypeId} (h : w.heap[q]? = some (.cells #[.slice none 0 0, .slice none 0 0] t (0, 0))) (hq : q ∉ T) : ObR (JvR n T) T w q [] :=
  ⟨hq, List.Pairwise.nil, .slice none 0 0, .slice none 0 0, cell_block h 0, cell_block h 1, .inl ⟨rfl, rfl⟩, fun h => absurd rfl h, .inl ⟨rfl, rfl⟩, fun h => absurd rfl h⟩
theorem core_push {g : Nat} {T : List Nat} {w wA w1 : World} {vst v1 : Value} {f : GF} {fs : List GF} {fr : Fr} {st : List Fr} (h : Core g T w vst fs st) (ho : OwnAt RFr 3 w1 (g + 1) 100 v1 (fs.reverse ++ [f])) (hA : Below w.heap.size w wA) (hg : wA.grownBy w1 vst.ownBlock)
    (hn : v1.ownBlock = vst.ownBlock ∨ v1.ownBlock = some wA.heap.size) (hl : f.lv.ownBlock = none) (hfr : FrAt (g + 1) (T ++ v1.ownBlock.toList) w1 f fr) : Core g (T ++ v1.ownBlock.toList) w1 v1 (f :: fs) (fr :: st) := by
  have hsz : w.heap.size ≤ w1.heap.size := Nat.le_trans hA.size (grown_size hg)
  have hsub : ∀ b ∈ T ++ v1.ownBlock.toList, b ∈ T ∨ w.heap.size ≤ b := fun b hb => by
    rcases List.mem_append.1 hb with hb | hb
    · exact .inl hb
    · rw [Option.mem_toList] at hb
      rcases hn with e | e
      · exact .inl (h.vT b (by rw [← e]; exact hb))
      · rw [e] at hb
        cases hb
        exact .inr hA.size
  have hold : ∀ b, b < w.heap.size → vst.ownBlock ≠ some b → w1.heap[b]? = w.heap[b]? := fun b hb hne => (grown_block hg (Nat.lt_of_lt_of_le hb hA.size) hne).trans (hA.block b hb)
  have hkeep : KeepT (T ++ v1.ownBlock.toList) w w1 := ⟨hg.os.trans hA.os, hg.tape.trans hA.tape, hg.output.trans hA.output, hsz, fun b hb hne => hold b hb fun e => hne (List.mem_append_left _ (h.vT b e))⟩
  have hmem : ∀ {b}, b ∈ T → b ∈ T ++ v1.ownBlock.toList := fun hb => List.mem_append_left _ hb
  refine ⟨by rw [List.reverse_cons]; exact ho, hmem h.gT, fun b hb => List.mem_append_right _ (by rw [Option.mem_toList]; exact hb), fun b hb => ?_, lbs_cons h.nd (fun b hb => by rw [hl] at hb; cases hb), hfr, ?_⟩
  · rcases List.mem_append.1 hb with hb | hb
    · exact ⟨(h.low b hb).1, Nat.lt_of_lt_of_le (h.low b hb).2 hsz⟩
    · rw [Option.mem_toList] at hb
      obtain ⟨k1, _, cur, k2⟩ := ho.at hb
      exact ⟨by omega, blk_lt k2⟩
  · refine AllFr.keep hkeep (AllFr.fresh hsub h.all fun f' hf b hb => hmem (AllFr.own h.all f' hf b hb).1) fun f' hf b hb => ?_
    obtain ⟨k1, k2, cur, k3⟩ := AllFr.own h.all f' hf b hb
    refine hold b (h.low b k1).2 fun e => ?_
    obtain ⟨_, _, cur', k4⟩ := h.row.at e
    rw [k3] at k4
    injection k4 with k4
    injection k4 with _ k4
    exact absurd k4 (by decide)
end Go.Proofs.YtaddcchpidpbfaaDoor
