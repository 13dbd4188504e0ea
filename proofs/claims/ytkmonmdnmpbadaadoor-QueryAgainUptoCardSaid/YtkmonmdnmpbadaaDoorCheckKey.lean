/- name.CheckKey: its contract (a range over strings.SplitSeq). -/
import Derived.Test.YtkmonmdnmpbadaaDoorSeqIter
import Derived.Test.YtkmonmdnmpbadaaDoorMaxOK
import Derived.Test.YtkmonmdnmpbadaaDoorMadeWalk
import Derived.RangeFuncNested
namespace Go.Proofs.YtkmonmdnmpbadaaDoor
open Go.RowKit
attribute [local go_sem] Oper.semAt_some

namespace NameP
def part (l : List UInt8) : Bool := decide (l.length ≤ 63) && isName l
def keyGood (l : List UInt8) : Bool :=
  if (Lib.cut l [47]).2.2 = true then (splitL 46 (Lib.cut l [47]).1).all part && (decide ((Lib.cut l [47]).2.1.length ≤ 63) && isWord (Lib.cut l [47]).2.1)
  else decide ((Lib.cut l [47]).1.length ≤ 63) && isWord (Lib.cut l [47]).1
def checkKey (l : List UInt8) : Int := judge l.length 64 (keyGood l)
end NameP
set_option maxRecDepth 100000 in
theorem splitSeq0_any (s : ByteArray) (c : UInt8) (w : World) :
    Calls Tryd.prog 95 #[.string s, .string ⟨#[c]⟩, .int .i64 0] w fun e w' => e = .returned (.func (.func 107) #[] #[.pointer (some ⟨w.heap.size + 1, 0, none⟩), .pointer (some ⟨w.heap.size, 0, none⟩), .pointer (some ⟨w.heap.size + 2, 0, none⟩)]) ∧
      w' = ((w.alloc (.cells #[.string s] 9)).alloc (.cells #[.string ⟨#[c]⟩] 9)).alloc (.cells #[.int .i64 0] 3) := by
  go_enter Tryd.func95, Tryd.ntmps95
  go_wp2_with fail
  go_ret
  exact ⟨by simp, rfl⟩
set_option maxRecDepth 100000 in
theorem splitSeq_any (s : ByteArray) (c : UInt8) (w : World) :
    Calls Tryd.prog 72 #[.string s, .string ⟨#[c]⟩] w fun e w' => e = .returned (.func (.func 107) #[] #[.pointer (some ⟨w.heap.size + 1, 0, none⟩), .pointer (some ⟨w.heap.size, 0, none⟩), .pointer (some ⟨w.heap.size + 2, 0, none⟩)]) ∧
      w' = ((w.alloc (.cells #[.string s] 9)).alloc (.cells #[.string ⟨#[c]⟩] 9)).alloc (.cells #[.int .i64 0] 3) := by
  go_enter Tryd.func72, Tryd.ntmps72
  go_wp2_with fail
  refine (splitSeq0_any _ _ _).mono ?_
  rintro E w' ⟨rfl, rfl⟩
  go_wp2_with fail
  go_ret
  exact ⟨rfl, rfl⟩
theorem all_snoc1 {α : Type} (f : α → Bool) (l : List α) (x : α) : (l ++ [x]).all f = (l.all f && f x) := by simp
theorem below_drewN (B : Nat) (w : World) (k : Nat) : Below B w (w.drewN k) := ⟨rfl, rfl, rfl, Nat.le_refl _, fun _ _ => rfl⟩
theorem cut_len (s : ByteArray) (l : List UInt8) (h : s.size ≤ 8388608) : (Lib.cut s.data.toList l).1.length ≤ 8388608 ∧ (Lib.cut s.data.toList l).2.1.length ≤ 8388608 := by
  have h1 : s.data.toList.length = s.size := by simp
  unfold Lib.cut
  split
  · refine ⟨?_, ?_⟩ <;> simp <;> omega
  · refine ⟨?_, ?_⟩ <;> simp <;> omega
def partB (x : ByteArray) : Bool := NameP.part x.data.toList
set_option maxRecDepth 100000 in
set_option maxHeartbeats 4000000 in
theorem checkKey_any (s : ByteArray) (m : Int) (w : World) (hs : s.size ≤ 8388608) (hm : MaxOK m w) :
    Calls Tryd.prog 49 #[.string s] w fun e w' => e = .returned (.int .i64 (NameP.checkKey s.data.toList)) ∧ Below w.heap.size w w' := by
  obtain ⟨R, HR⟩ : ∃ R, Hid (NameP.checkKey s.data.toList = R) := ⟨_, Lib.hid rfl⟩
  rw [HR.out]
  refine (callsIn_wide (n := 3)).1 ?_
  refine callsIn_of_wp_marks Tryd.func49 rfl trivial ?_ rfl
  simp only [Tryd.ntmps49, List.size_toArray, List.length_cons, List.length_nil, Nat.reduceAdd, Nat.reduceSub, Array.replicate_succ, Array.replicate_zero, List.push_toArray, List.append_toArray, List.nil_append, List.cons_append]
  gi_wp2_with fail
  refine ⟨trivial, ?_⟩
  gi_at_call 71
  obtain ⟨W0, hW0⟩ : ∃ W0, w.alloc (Obj.cells #[Value.bool true] 4) = W0 := ⟨_, rfl⟩
  have b0 : W0.heap[w.heap.size]? = some (.cells #[.bool true] 4 (0, 0)) := by rw [← hW0]; exact heap_alloc_at rfl
  have z0 : W0.heap.size = w.heap.size + 1 := by rw [← hW0]; exact World.size_alloc _ _
  have B0 : Below w.heap.size w W0 := by rw [← hW0]; exact (Below.refl _ w).alloc (Nat.le_refl _) _
  rw [hW0]
  refine (callsIn_wide.2 (Tryd.strings_Cut s ⟨#[47]⟩ m W0 (by omega) (hm.below B0))).mono ?_
  rintro E w1 ⟨rfl, nd, hw1⟩
  have b1 : w1.heap[w.heap.size]? = some (.cells #[.bool true] 4 (0, 0)) := by rw [hw1]; exact b0
  have z1 : w1.heap.size = w.heap.size + 1 := by rw [hw1]; exact z0
  have B1 := Lib.hid (B0.trans (below_drewN (w.heap.size) W0 nd))
  rw [← hw1] at B1
  clear hw1 b0 z0 B0 hW0
  have hcut : (Lib.cut s.data.toList [47]).1.length ≤ 8388608 ∧ (Lib.cut s.data.toList [47]).2.1.length ≤ 8388608 := cut_len s [47] (by omega)
  have hgood : ∀ b, b = NameP.keyGood s.data.toList → NameP.judge s.size 64 b = R := fun b hb => by
    rw [← HR.out, hb]
    show _ = NameP.judge s.data.toList.length 64 _
    congr 1
  have hco : (Lib.cut s.data.toList (⟨#[47]⟩ : ByteArray).data.toList) = Lib.cut s.data.toList [47] := rfl
  rw [hco]
  obtain ⟨ca, cb, ct, hc⟩ : ∃ ca cb ct, Lib.cut s.data.toList [47] = (ca, cb, ct) := ⟨_, _, _, rfl⟩
  unfold NameP.keyGood at hgood
  rw [hc] at hgood hcut
  rw [hc]
  obtain ⟨hca, hcb⟩ : ca.length ≤ 8388608 ∧ cb.length ≤ 8388608 := hcut
  clear hco hc
  obtain ⟨A, HA⟩ : ∃ A : ByteArray, Hid ((⟨ca.toArray⟩ : ByteArray) = A) := ⟨_, Lib.hid rfl⟩
  obtain ⟨B, HB⟩ : ∃ B : ByteArray, Hid ((⟨cb.toArray⟩ : ByteArray) = B) := ⟨_, Lib.hid rfl⟩
  have hA : A.data.toList = ca := by rw [← HA.out]
  have hB : B.data.toList = cb := by rw [← HB.out]
  have hAs : A.size ≤ 8388608 := by rw [← HA.out]; show ca.toArray.size ≤ _; simpa using hca
  have hBs : B.size ≤ 8388608 := by rw [← HB.out]; show cb.toArray.size ≤ _; simpa using hcb
  simp only [HA.out, HB.out]
  have c1 := cell_block b1 0
  cases ct with
  | false =>
    have hR1 : ∀ b, b = (decide (A.size ≤ 63) && NameP.isWord A.data.toList) → NameP.judge s.size 64 b = R := fun b hb => hgood b (by rw [hb, hA, if_neg (by simp), show A.size = ca.length by rw [← hA]; simp])
    have HR1 := Lib.hid hR1
    clear hR1 hgood HA HB hA hB
    by_cases h63 : A.size ≤ 63
    · have q0 : (A.size : Int) ≤ 63 := by omega
      have HR2 : Hid (NameP.judge s.size 64 (NameP.isWord A.data.toList) = R) := Lib.hid (HR1.out _ (by rw [decide_eq_true h63, Bool.true_and]))
      clear h63
      gi_wp2_with (refine ⟨trivial, ?_⟩; gi_at_call 75; refine (callsIn_wide.2 (isWord_any _ _ (by omega))).mono ?_; rintro e w' ⟨rfl, rfl⟩)
      refine ⟨trivial, ?_⟩
      gi_at_call 74
      refine (callsIn_wide.2 (judge_any s 64 _ _ (by omega) (by decide))).mono ?_
      rintro e w' ⟨rfl, rfl⟩
      gi_wp2
      exact ⟨_, results_tmp rfl _ _ _, by simpa using HR2.out, B1.out⟩
    · have q0 : ¬ (A.size : Int) ≤ 63 := by omega
      have HR2 : Hid (NameP.judge s.size 64 false = R) := Lib.hid (HR1.out _ (by rw [decide_eq_false h63, Bool.false_and]))
      clear h63
      gi_wp2_with fail
      refine ⟨trivial, ?_⟩
      gi_wp2_with fail
      refine ⟨trivial, ?_⟩
      gi_at_call 74
      refine (callsIn_wide.2 (judge_any s 64 _ _ (by omega) (by decide))).mono ?_
      rintro e w' ⟨rfl, rfl⟩
      gi_wp2
      exact ⟨_, results_tmp rfl _ _ _, by simpa using HR2.out, B1.out⟩
  | true =>
    have hR1 : ∀ b, b = ((partsB 46 A).all partB && (decide (B.size ≤ 63) && NameP.isWord B.data.toList)) → NameP.judge s.size 64 b = R := fun b hb => hgood b (by
      rw [hb, hB, if_pos rfl, show B.size = cb.length by rw [← hB]; simp]
      congr 1
      unfold partsB partB
      rw [List.all_map, hA]
      rfl)
    have HR1 := Lib.hid hR1
    clear hR1 hgood HA HB hA hB
    gi_wp2_with fail
    refine ⟨trivial, ?_⟩
    gi_at_call 72
    refine (callsIn_wide.2 (splitSeq_any A 46 w1)).mono ?_
    rintro e w2 ⟨rfl, hw2⟩
    have z2 : w2.heap.size = w.heap.size + 4 := by rw [hw2, World.size_alloc, World.size_alloc, World.size_alloc, z1]
    have b2 : w2.heap[w.heap.size]? = some (.cells #[.bool true] 4 (0, 0)) := by rw [hw2]; exact heap_alloc_old (heap_alloc_old (heap_alloc_old b1))
    have s2 : w2.heap[w.heap.size + 1]? = some (.cells #[.string A] 9 (0, 0)) := by rw [hw2]; exact heap_alloc_old (heap_alloc_old (heap_alloc_at z1.symm))
    have p2 : w2.heap[w.heap.size + 2]? = some (.cells #[.string ⟨#[46]⟩] 9 (0, 0)) := by rw [hw2]; exact heap_alloc_old (heap_alloc_at (by rw [World.size_alloc, z1]))
    have v2 : w2.heap[w.heap.size + 3]? = some (.cells #[.int .i64 0] 3 (0, 0)) := by rw [hw2]; exact heap_alloc_at (by rw [World.size_alloc, World.size_alloc, z1])
    have B2 : Below w.heap.size w w2 := by rw [hw2]; exact ((B1.out.alloc (by omega) _).alloc (by rw [World.size_alloc]; omega) _).alloc (by rw [World.size_alloc, World.size_alloc]; omega) _
    rw [z1]
    clear hw2
    gi_wp2_with fail
    refine wpIn_range_each (α := ByteArray) rfl (by omega) (gf := 107) (lb := #[.pointer (some ⟨w.heap.size + 2, 0, none⟩), .pointer (some ⟨w.heap.size + 1, 0, none⟩), .pointer (some ⟨w.heap.size + 3, 0, none⟩)]) rfl trivial (enters_of Tryd.func107 (by kernel_rfl) rfl)
      (enc := Value.string) (xs := partsB 46 A) (bs := w.heap.size + 1) (b3 := w.heap.size) (by omega) (by omega)
      (splitSeq_each _ (by omega) A 46 (w.heap.size + 1) (w.heap.size + 2) (w.heap.size + 3) w.heap.size w2.heap.size w2 s2 p2 v2 ⟨by omega, by omega⟩ ⟨by omega, by omega, by omega⟩ ⟨by omega, by omega, by omega⟩ hAs)
      (fun pre W => W.heap[w.heap.size]? = some (.cells #[.bool (pre.all partB)] 4 (0, 0)) ∧ Below w.heap.size w W)
      (fun pre X Y h hb => ⟨(hb.block _ (by omega)).trans h.1, h.2.trans (hb.mono (by omega))⟩)
      (fun pre X Y h ht => ⟨(ht.other _ (by omega)).trans h.1, ht.below h.2 (by omega)⟩)
      ⟨b2, B2⟩ (fun x => { tmps := #[Value.string s, undef, Value.int IntKind.i64 0, Value.pointer (some ⟨w.heap.size, 0, none⟩), Value.string A, Value.string B, Value.bool true, Value.string x, Value.tuple #[Value.string A, Value.string B, Value.bool true], Value.string s, Value.tuple #[Value.string A, Value.string B, Value.bool true], Value.string A, Value.string B, Value.bool true, Value.bool true, Value.bool false, undef, Value.string A, Value.func (Fn.func 107) #[] #[Value.pointer (some ⟨w.heap.size + 1 + 1, 0, none⟩), Value.pointer (some ⟨w.heap.size + 1, 0, none⟩), Value.pointer (some ⟨w.heap.size + 1 + 2, 0, none⟩)], Value.string x, undef, undef, undef, undef, undef, undef, undef, undef, undef, undef, undef, undef, undef, undef, undef, undef, undef, undef, undef, undef, undef, undef], defers := [] }) ?assign ?body ?done
    case assign =>
      intro l x W K hK
      gi_wp2
      exact hK
    case body =>
      rintro l pre x W ⟨hb, hB⟩ _
      obtain ⟨g, Hg⟩ : ∃ g, Hid (pre.all partB = g) := ⟨_, Lib.hid rfl⟩
      have Hb := Lib.hid hb
      rw [Hg.out] at hb
      have HBl := Lib.hid hB
      have c1 := cell_block hb 0
      have f1 := free_block hb 0
      have fin : ∀ (a : Act) (v : Bool), v = (pre ++ [x]).all partB → eachPost (fun pre W => W.heap[w.heap.size]? = some (.cells #[.bool (pre.all partB)] 4 (0, 0)) ∧ Below w.heap.size w W) (pre ++ [x]) w.heap.size W .normal a (W.setCell ⟨w.heap.size, 0, none⟩ (.bool v)) := fun _ v hv => by
        have t := touch_setCell (i := 0) (v := .bool v) Hb.out
        refine ⟨⟨?_, t.2.below HBl.out (Nat.le_refl _)⟩, by rw [t.2.size]; exact Nat.le_refl _, fun k hk hne => t.2.other k hne⟩
        rw [t.1, hv]; rfl
      have Hfin := Lib.hid fin
      clear hb fin hB
      cases g with
      | false =>
        have Hv : Hid (false = (pre ++ [x]).all partB) := Lib.hid (by rw [all_snoc1, Hg.out, Bool.false_and])
        gi_wp2_with (refine ⟨trivial, ?_⟩)
        exact Hfin.out _ _ Hv.out
      | true =>
        by_cases h63 : x.size ≤ 63
        · have q0 : (x.size : Int) ≤ 63 := by omega
          have Hv : Hid (NameP.isName x.data.toList = (pre ++ [x]).all partB) := Lib.hid (by
            rw [all_snoc1, Hg.out, Bool.true_and]
            unfold partB NameP.part
            rw [decide_eq_true (by simpa using h63), Bool.true_and])
          clear h63
          gi_wp2_with (refine ⟨trivial, ?_⟩; gi_at_call 73; refine (CallsIn.inRound l (callsIn_wide.2 (isName_any x _ (by omega)))).mono ?_; rintro e w' ⟨rfl, rfl⟩)
          exact Hfin.out _ _ Hv.out
        · have q0 : ¬ (x.size : Int) ≤ 63 := by omega
          have Hv : Hid (false = (pre ++ [x]).all partB) := Lib.hid (by
            rw [all_snoc1, Hg.out, Bool.true_and]
            unfold partB NameP.part
            rw [decide_eq_false (by simpa using h63), Bool.false_and])
          clear h63
          gi_wp2_with (refine ⟨trivial, ?_⟩)
          exact Hfin.out _ _ Hv.out
    case done =>
      rintro D W ⟨hb, hB⟩ hK hD
      obtain ⟨g, Hg⟩ : ∃ g, Hid ((partsB 46 A).all partB = g) := ⟨_, Lib.hid rfl⟩
      rw [Hg.out] at hb
      have HBl := Lib.hid hB
      have c1 : W.cell? ⟨w.heap.size, 0, none⟩ = some (.bool g) := cell_block hb 0
      clear hb hB
      cases g with
      | false =>
        have HR2 : Hid (NameP.judge s.size 64 false = R) := Lib.hid (HR1.out _ (by rw [Hg.out, Bool.false_and]))
        gi_wp2_with fail
        refine ⟨trivial, ?_⟩
        gi_wp2_with fail
        refine ⟨trivial, ?_⟩
        gi_at_call 74
        refine (callsIn_wide.2 (judge_any s 64 _ _ (by omega) (by decide))).mono ?_
        rintro e w' ⟨rfl, rfl⟩
        gi_wp2
        refine ⟨by simp, .inl ⟨_, _, rfl, run_takeDeferred hK, ?_⟩⟩
        exact ⟨_, results_tmp rfl _ _ _, by simpa using HR2.out, HBl.out.trans (below_putObj W _ _ (by omega))⟩
      | true =>
        by_cases h63 : B.size ≤ 63
        · have q0 : (B.size : Int) ≤ 63 := by omega
          have HR2 : Hid (NameP.judge s.size 64 (NameP.isWord B.data.toList) = R) := Lib.hid (HR1.out _ (by rw [Hg.out, decide_eq_true h63, Bool.true_and, Bool.true_and]))
          clear h63
          gi_wp2_with (refine ⟨trivial, ?_⟩; gi_at_call 75; refine (callsIn_wide.2 (isWord_any _ _ (by omega))).mono ?_; rintro e w' ⟨rfl, rfl⟩)
          refine ⟨trivial, ?_⟩
          gi_at_call 74
          refine (callsIn_wide.2 (judge_any s 64 _ _ (by omega) (by decide))).mono ?_
          rintro e w' ⟨rfl, rfl⟩
          gi_wp2
          refine ⟨by simp, .inl ⟨_, _, rfl, run_takeDeferred hK, ?_⟩⟩
          exact ⟨_, results_tmp rfl _ _ _, by simpa using HR2.out, HBl.out.trans (below_putObj W _ _ (by omega))⟩
        · have q0 : ¬ (B.size : Int) ≤ 63 := by omega
          have HR2 : Hid (NameP.judge s.size 64 false = R) := Lib.hid (HR1.out _ (by rw [Hg.out, decide_eq_false h63, Bool.true_and, Bool.false_and]))
          clear h63
          gi_wp2_with fail
          refine ⟨trivial, ?_⟩
          gi_wp2_with fail
          refine ⟨trivial, ?_⟩
          gi_at_call 74
          refine (callsIn_wide.2 (judge_any s 64 _ _ (by omega) (by decide))).mono ?_
          rintro e w' ⟨rfl, rfl⟩
          gi_wp2
          refine ⟨by simp, .inl ⟨_, _, rfl, run_takeDeferred hK, ?_⟩⟩
          exact ⟨_, results_tmp rfl _ _ _, by simpa using HR2.out, HBl.out.trans (below_putObj W _ _ (by omega))⟩
end Go.Proofs.YtkmonmdnmpbadaaDoor
