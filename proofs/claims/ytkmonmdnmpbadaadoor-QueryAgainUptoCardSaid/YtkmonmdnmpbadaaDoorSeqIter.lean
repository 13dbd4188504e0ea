/- strings.SplitSeq at one byte: its iterator tells the parts. -/
import Derived.Test.YtkmonmdnmpbadaaDoorSeqLaw
import Derived.Test.YtkmonmdnmpbadaaDoorSplitPlain
import Derived.Lib.IndexBytes
import Derived.Lib.IndexLaws
import Derived.RangeFuncLeaves
import Derived.Shelf.Abstract
import Derived.Shelf.RegionOpen
import Derived.WalkKit
import Derived.OwnWalkIn
import Derived.TacticsInMore
import Derived.LoopNIn
import Derived.LoopIn
import Derived.IntWalk
import Derived.Test.YtkmonmdnmpbadaaDoorShelf
namespace Go.Proofs.YtkmonmdnmpbadaaDoor
open Go.RowKit
attribute [local go_sem] Oper.semAt_some

theorem splitL_miss {c : UInt8} {l : List UInt8} (h : Lib.indexByte l c = -1) : splitL c l = [l] := by
  refine splitL_one c l fun hm => ?_
  obtain ⟨k, hk⟩ := List.getElem?_of_mem hm
  exact Lib.indexByte_none h k hk
def partsB (c : UInt8) (s : ByteArray) : List ByteArray := (splitL c s.data.toList).map fun l => ⟨l.toArray⟩
theorem partsB_miss {c : UInt8} {s : ByteArray} (h : Lib.indexByte s.data.toList c = -1) : partsB c s = [s] := by
  unfold partsB
  rw [splitL_miss h]
  simp
theorem partsB_hit {c : UInt8} {s : ByteArray} {i : Nat} (h : Lib.indexByte s.data.toList c = (i : Int)) : partsB c s = s.extract 0 i :: partsB c (s.extract (i + 1) s.size) := by
  obtain ⟨h1, h2⟩ := Lib.indexByte_some h
  have h3 : s.data.toList = s.data.toList.take i ++ c :: s.data.toList.drop (i + 1) := by
    obtain ⟨hl, he⟩ := List.getElem?_eq_some_iff.1 h1
    rw [← he, ← List.drop_eq_getElem_cons hl, List.take_append_drop]
  have h4 : c ∉ s.data.toList.take i := fun hm => by
    obtain ⟨k, hk⟩ := List.getElem?_of_mem hm
    have hki : k < i := by have := (List.getElem?_eq_some_iff.1 hk).1; simp at this; omega
    rw [List.getElem?_take_of_lt hki] at hk
    exact h2 k hki hk
  unfold partsB
  rw [h3, splitL_cut c _ _ h4, List.map_cons]
  congr 1
  · apply ByteArray.ext
    rw [ByteArray.data_extract]
    apply Array.toList_inj.1
    simp
  · congr 2
    rw [Lib.extract_to_end]
def leftS (b : Nat) (W : World) : Nat := match W.cell? ⟨b, 0, none⟩ with
  | some (.string r) => r.size + 1
  | _ => 0
set_option maxRecDepth 100000 in
set_option maxHeartbeats 2000000 in
theorem splitSeq_each (n : Nat) (hn : 1 ≤ n) (s : ByteArray) (c : UInt8) (bs bsep bsv b3 n0 : Nat) (w : World) (hbs : w.heap[bs]? = some (.cells #[.string s] 9 (0, 0))) (hsep : w.heap[bsep]? = some (.cells #[.string ⟨#[c]⟩] 9 (0, 0)))
    (hsv : w.heap[bsv]? = some (.cells #[.int .i64 0] 3 (0, 0))) (h1 : bs < n0 ∧ bs ≠ b3) (h2 : bsep < n0 ∧ bsep ≠ b3 ∧ bsep ≠ bs) (h3 : bsv < n0 ∧ bsv ≠ b3 ∧ bsv ≠ bs) (hs : s.size ≤ 8388608) :
    SeqEach Fence.wide n Tryd.prog 107 #[.pointer (some ⟨bsep, 0, none⟩), .pointer (some ⟨bs, 0, none⟩), .pointer (some ⟨bsv, 0, none⟩)] Value.string (partsB c s) bs b3 n0 w := by
  intro l J W hW hJt hY h0
  have wbs := cell_block ((hW bs h1.1).trans hbs)
  have wsep := cell_block ((hW bsep h2.1).trans hsep)
  have wsv := cell_block ((hW bsv h3.1).trans hsv)
  refine callsIn_of_wp Tryd.func107 rfl trivial ?_ rfl
  simp only [Tryd.ntmps107, List.size_toArray, List.length_cons, List.length_nil, Nat.reduceAdd, Nat.reduceSub, Array.replicate_succ, Array.replicate_zero, List.push_toArray, List.append_toArray, List.nil_append, List.cons_append]
  gi_wp2
  gi_loopw [7] (fun p wr => ∃ (pre : List ByteArray) (r : ByteArray), pre ++ partsB c r = partsB c s ∧ J pre wr ∧ wr.heap[bs]? = some (.cells #[.string r] 9 (0, 0)) ∧ wr.heap[bsep]? = some (.cells #[.string ⟨#[c]⟩] 9 (0, 0)) ∧ wr.heap[bsv]? = some (.cells #[.int .i64 0] 3 (0, 0)) ∧ r.size ≤ 8388608) (fun p wr => leftS bs wr)
  case atStart => exact ⟨[], s, rfl, h0, (hW bs h1.1).trans hbs, (hW bsep h2.1).trans hsep, (hW bsv h3.1).trans hsv, hs⟩
  case round =>
    clear wbs wsep wsv
    obtain ⟨pre, r, hpre, hJ, xbs, xsep, xsv, hr⟩ := hrel
    have wbs := cell_block xbs
    have wsep := cell_block xsep
    have wsv := cell_block xsv
    have hpl : (partsB c s).length = pre.length + (partsB c r).length := by rw [← hpre, List.length_append]
    by_cases hi : Lib.indexByte r.data.toList c = -1
    · have hp1 := partsB_miss hi
      have Hpre : Hid (pre ++ [r] = partsB c s) := Lib.hid (by rw [← hp1, hpre])
      have q0 : Lib.indexByte r.data.toList c < 0 := by omega
      obtain ⟨fn, tmps, assign, body, hy, hR⟩ := hY pre r wr hJ (by rw [hpl, hp1]; simp)
      have HR := Lib.hid hR
      clear hi hp1 hpl hpre hR
      gi_wp2_with (refine ⟨trivial, ?_⟩; gi_at_call 109; refine (callsIn_wide.2 (Tryd.strings_Index_one _ _ _)).mono ?_; rintro e w' ⟨rfl, rfl⟩)
      refine HR.out.mono ?_
      rintro e W' ⟨rfl, hJ', hk⟩
      gi_wp2
      go_end0
      exact ⟨⟨_, rfl⟩, by rw [← Hpre.out]; exact hJ'⟩
    · have hge := Lib.indexByte_ge r.data.toList c
      obtain ⟨i, hi2⟩ : ∃ i : Nat, Lib.indexByte r.data.toList c = (i : Int) := ⟨(Lib.indexByte r.data.toList c).toNat, by omega⟩
      have q0 : ¬ (i : Int) < 0 := by omega
      have hir : i < r.size := by
        have := (List.getElem?_eq_some_iff.1 (Lib.indexByte_some hi2).1).1
        simpa using this
      have q1 : (0 : Int) ≤ (i : Int) := by omega
      have q2 : (i : Int) ≤ (r.size : Int) := by omega
      have q3 : (i : Int) + 1 ≤ (r.size : Int) := by omega
      have q4 : (0 : Int) ≤ (i : Int) + 1 := by omega
      have Hi := Lib.hid hi2
      have hp1 : partsB c r = r.extract 0 i :: partsB c (r.extract (i + 1) r.size) := partsB_hit hi2
      have Hpre : Hid ((pre ++ [r.extract 0 i]) ++ partsB c (r.extract (i + 1) r.size) = partsB c s) := Lib.hid (by rw [← hpre, hp1, List.append_assoc]; rfl)
      obtain ⟨fn, tmps, assign, body, hy, hR⟩ := hY pre (r.extract 0 i) wr hJ (by rw [hpl, hp1]; simp)
      have HR := Lib.hid hR
      clear hi hge hi2 hp1 hpl hpre hR hY hJ
      gi_wp2_with (refine ⟨trivial, ?_⟩; gi_at_call 109; refine (callsIn_wide.2 (Tryd.strings_Index_one _ _ _)).mono ?_; rintro e w' ⟨rfl, rfl⟩; rw [Hi.out])
      refine HR.out.mono ?_
      rintro e W' ⟨rfl, hJ', hk⟩
      clear wbs wsep wsv hy
      have ybs := (hk bs h1.1 h1.2).trans xbs
      have ysep := (hk bsep h2.1 h2.2.1).trans xsep
      have ysv := (hk bsv h3.1 h3.2.1).trans xsv
      have wbs := cell_block ybs
      have fbs := free_block ybs
      have wsep := cell_block ysep
      have wsv := cell_block ysv
      gi_wp2
      go_roundw
      case rel =>
        have t := touch_setCell (i := 0) (v := .string (r.extract (i + 1) r.size)) ybs
        refine ⟨pre ++ [r.extract 0 i], r.extract (i + 1) r.size, Hpre.out, hJt _ _ _ hJ' t.2, t.1, (t.2.other _ h2.2.2).trans ysep, (t.2.other _ h3.2.2).trans ysv, ?_⟩
        rw [ByteArray.size_extract]; omega
      case measure =>
        have t := touch_setCell (i := 0) (v := .string (r.extract (i + 1) r.size)) ybs
        unfold leftS
        rw [cell_block t.1 0, cell_block xbs 0]
        show (r.extract (i + 1) r.size).size + 1 < r.size + 1
        rw [ByteArray.size_extract]; omega
end Go.Proofs.YtkmonmdnmpbadaaDoor
