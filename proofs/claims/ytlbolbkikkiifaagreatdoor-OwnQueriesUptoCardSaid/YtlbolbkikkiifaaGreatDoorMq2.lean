/- Texts of ours joined: MadeWalk, CheckKey, CheckVal, DataQuery, Bytes, QueryPlain, ParsePlain, Scan, But, Parser, ParserHas, ParserWord, ParserList, ParserChoice, ParserPart, RowX, QueryCheck. -/
import Derived.RangeFuncNested
import Derived.Lib.Hide
import Derived.WalkLawsBesides
import Derived.Lib.Join
import Derived.Deep.QuietTactic
import Derived.Deep.LoopGhost
import Derived.Deep.DeepCutAuto
import Derived.BigQuiet
import Derived.IntWalk
import Derived.Test.YtlbolbkikkiifaaGreatDoorShelf
import Derived.OwnWalk
import Derived.Deep.CutBlock
import Derived.Test.YtlbolbkikkiifaaGreatDoorMq1
set_option linter.unusedVariables false
set_option linter.unusedSimpArgs false
/- The walks of name.made, isName, isWord, judge, Check, CheckVal. -/
namespace Go.Proofs.YtlbolbkikkiifaaGreatDoor
open Go.RowKit

/-- a function on bytes that answers p and leaves the world alone -/
structure Tells (f : FuncId) (p : Nat → Bool) : Prop where
  enter : ∀ (a : Array Value) (w : World), (callFunc f a).run Tryz.prog w = .ok (.enter f a) w
  calls : ∀ (c : Nat) (w : World), c < 256 → Calls Tryz.prog f #[.int .u8 (c : Int)] w fun e w' => e = .returned (.bool (p c)) ∧ w = w'
theorem low_tells : Tells 119 NameP.low := ⟨run_callFunc_body Tryz.func119 (by kernel_rfl) (by kernel_rfl), fun c w h => isLow_any c w h⟩
theorem edge_tells : Tells 121 NameP.edge := ⟨run_callFunc_body Tryz.func121 (by kernel_rfl) (by kernel_rfl), fun c w h => isEdge_any c w h⟩
theorem dash_tells : Tells 120 NameP.dash := ⟨run_callFunc_body Tryz.func120 (by kernel_rfl) (by kernel_rfl), fun c w h => dash_any c w h⟩
theorem wordIn_tells : Tells 122 NameP.wordIn := ⟨run_callFunc_body Tryz.func122 (by kernel_rfl) (by kernel_rfl), fun c w h => wordIn_any c w h⟩

theorem made_nil {e v : Nat → Bool} {s : ByteArray} (h : s.toList = []) : NameP.made e v s.data.toList = false := by
  rw [ByteArray.toList_eq] at h; rw [h]; rfl

theorem made_cons {p q : Nat → Bool} (s : ByteArray) (h : 1 ≤ s.size) :
    NameP.made p q s.data.toList = (p s[0].toNat && p s[s.size - 1].toNat && s.data.toList.all fun c => p c.toNat || q c.toNat) := by
  have hl : s.data.toList.length = s.size := by simp
  have h0 : s.data.toList[0]? = some s[0] := by rw [List.getElem?_eq_getElem (by omega)]; rfl
  have h1 : s.data.toList.getLast? = some s[s.size - 1] := by
    rw [List.getLast?_eq_getElem?, hl, List.getElem?_eq_getElem (by omega)]; rfl
  cases hd : s.data.toList with
  | nil => rw [hd] at hl; simp at hl; omega
  | cons x r =>
    rw [hd] at h0 h1
    simp only [List.getElem?_cons_zero, Option.some.injEq] at h0
    rw [List.getLast?_eq_some_getLast (by simp)] at h1
    simp only [Option.some.injEq] at h1
    unfold NameP.made
    rw [← h0, ← h1]

theorem all_snoc {s : ByteArray} {k : Nat} {f : UInt8 → Bool} (h : k < s.size) (ha : Hid ((s.data.toList.take k).all f = true)) (hk : f s[k] = true) : Hid ((s.data.toList.take (k + 1)).all f = true) := by
  show _ = _
  rw [take_snoc s k h, List.all_append, ha.out]
  simp [hk]
theorem all_not {s : ByteArray} {k : Nat} {f : UInt8 → Bool} (h : k < s.size) (hk : f s[k] = false) : s.data.toList.all f = false := by
  rw [List.all_eq_false]
  refine ⟨s[k], ?_, by rw [hk]; simp⟩
  have : s[k] = s.data.toList[k]'(by simpa using h) := rfl
  rw [this]
  exact List.getElem_mem _

set_option maxRecDepth 100000 in
set_option maxHeartbeats 1600000 in
theorem made_any {ef vf : FuncId} {p q : Nat → Bool} (hp : Tells ef p) (hq : Tells vf q) (s : ByteArray) (w : World) (hs : s.size ≤ 1099511627776) :
    Calls Tryz.prog 118 #[.string s, .func (.func ef) #[] #[], .func (.func vf) #[] #[]] w fun e w' => e = .returned (.bool (NameP.made p q s.data.toList)) ∧ w = w' := by
  by_cases h0 : s.size = 0
  · have hl : s.toList = [] := by rw [ByteArray.toList_eq]; exact List.eq_nil_of_length_eq_zero (by simpa using h0)
    have Hm := Lib.hid (made_nil (e := p) (v := q) hl)
    have hle : s.toList.isEmpty = true := by rw [hl]; rfl
    clear h0
    go_enter Tryz.func118, Tryz.ntmps118
    go_wp2
    go_ret
    exact ⟨by rw [Hm.out]; rfl, rfl⟩
  · have h1 : 1 ≤ s.size := by omega
    have hne : (!s.toList.isEmpty) = true := by
      rw [ByteArray.toList_eq]
      have hl : s.data.toList.length = s.size := by simp
      cases hd : s.data.toList with | nil => rw [hd] at hl; simp at hl; omega | cons x r => rfl
    have hne2 : s.toList.isEmpty = false := by simpa using hne
    have HM := Lib.hid (made_cons (p := p) (q := q) s h1)
    clear h0
    have c0 : s[0].toNat < 256 := s[0].toNat_lt
    have cl : s[s.size - 1].toNat < 256 := s[s.size - 1].toNat_lt
    have i0 : (0 : Int) < (s.size : Int) := by omega
    have i1 : (0 : Int) ≤ (s.size : Int) - 1 := by omega
    have i2 : (s.size : Int) - 1 < (s.size : Int) := by omega
    have i3 : ((s.size : Int) - 1).toNat = s.size - 1 := by omega
    have ep := hp.enter
    have eq := hq.enter
    cases h2 : p s[0].toNat with
    | false =>
      have H2 := Lib.hid h2; clear h2
      go_enter Tryz.func118, Tryz.ntmps118
      go_wp2_with fail
      refine (hp.calls _ _ c0).mono ?_
      rintro e w' ⟨rfl, rfl⟩
      rw [H2.out]
      go_wp2_with fail
      go_ret
      exact ⟨congrArg (fun b => Ending.returned (.bool b)) (by rw [HM.out, H2.out]; rfl), rfl⟩
    | true =>
      have H2 := Lib.hid h2; clear h2
      cases h3 : p s[s.size - 1].toNat with
      | false =>
        have H3 := Lib.hid h3; clear h3
        go_enter Tryz.func118, Tryz.ntmps118
        go_wp2_with fail
        refine (hp.calls _ _ c0).mono ?_
        rintro e w' ⟨rfl, rfl⟩
        rw [H2.out]
        go_wp2_with fail
        refine (hp.calls _ _ cl).mono ?_
        rintro e w' ⟨rfl, rfl⟩
        rw [H3.out]
        go_wp2_with fail
        go_ret
        exact ⟨congrArg (fun b => Ending.returned (.bool b)) (by rw [HM.out, H2.out, H3.out]; rfl), rfl⟩
      | true =>
        have H3 := Lib.hid h3; clear h3
        go_enter Tryz.func118, Tryz.ntmps118
        go_wp2_with fail
        refine (hp.calls _ _ c0).mono ?_
        rintro e w' ⟨rfl, rfl⟩
        rw [H2.out]
        go_wp2_with fail
        refine (hp.calls _ _ cl).mono ?_
        rintro e w' ⟨rfl, rfl⟩
        rw [H3.out]
        go_wp2_with fail
        go_loop [29] (fun i => ∃ k : Nat, k ≤ s.size ∧ i = .int .i64 k ∧ Hid (((s.data.toList.take k).all fun c => p c.toNat || q c.toNat) = true)) (fun i => s.size - (intOf i).toNat)
        case atStart => exact ⟨0, Nat.zero_le _, rfl, by show _ = _; simp⟩
        case round =>
          obtain ⟨k, hk, rfl, HA⟩ := hrel
          by_cases hlt : k < s.size
          · have ck : s[k].toNat < 256 := s[k].toNat_lt
            have j0 : (0 : Int) ≤ (k : Int) := by omega
            have j1 : (k : Int) < (s.size : Int) := by omega
            cases h4 : p s[k].toNat with
            | true =>
              have H4 := Lib.hid h4; clear h4
              go_wp2_with fail
              refine (hp.calls _ _ ck).mono ?_
              rintro e w' ⟨rfl, rfl⟩
              rw [H4.out]
              go_wp2_with fail
              go_round
              case rel => exact ⟨k + 1, by omega, by go_num, all_snoc hlt HA (by rw [H4.out]; rfl)⟩
              case measure => simp [intOf]; omega
            | false =>
              have H4 := Lib.hid h4; clear h4
              cases h5 : q s[k].toNat with
              | true =>
                have H5 := Lib.hid h5; clear h5
                go_wp2_with fail
                refine (hp.calls _ _ ck).mono ?_
                rintro e w' ⟨rfl, rfl⟩
                rw [H4.out]
                go_wp2_with fail
                refine (hq.calls _ _ ck).mono ?_
                rintro e w' ⟨rfl, rfl⟩
                rw [H5.out]
                go_wp2_with fail
                go_round
                case rel => exact ⟨k + 1, by omega, by go_num, all_snoc hlt HA (by rw [H4.out, H5.out]; rfl)⟩
                case measure => simp [intOf]; omega
              | false =>
                have H5 := Lib.hid h5; clear h5
                go_wp2_with fail
                refine (hp.calls _ _ ck).mono ?_
                rintro e w' ⟨rfl, rfl⟩
                rw [H4.out]
                go_wp2_with fail
                refine (hq.calls _ _ ck).mono ?_
                rintro e w' ⟨rfl, rfl⟩
                rw [H5.out]
                go_wp2_with fail
                go_ret
                exact ⟨congrArg (fun b => Ending.returned (.bool b)) (by rw [HM.out, all_not hlt (by rw [H4.out, H5.out]; rfl)]; simp), rfl⟩
          · go_wp2_with fail
            go_ret
            refine ⟨congrArg (fun b => Ending.returned (.bool b)) ?_, rfl⟩
            have := HA.out
            rw [List.take_of_length_le (by simp; omega)] at this
            rw [HM.out, H2.out, H3.out, this]; rfl

set_option maxHeartbeats 800000 in
theorem judge_any (s : ByteArray) (most : Nat) (b : Bool) (w : World) (_hs : s.size ≤ 1099511627776) (_hm : most ≤ 1000) :
    Calls Tryz.prog 74 #[.string s, .int .i64 (most : Int), .bool b] w fun e w' => e = .returned (.int .i64 (NameP.judge s.size most b)) ∧ w = w' := by
  by_cases h : most < s.size
  · go_enter Tryz.func74, Tryz.ntmps74
    go_wp2
    go_ret
    exact ⟨congrArg (fun b => Ending.returned (.int .i64 b)) (by unfold NameP.judge; rw [if_pos h]), rfl⟩
  · cases b
    all_goals
      go_enter Tryz.func74, Tryz.ntmps74
      go_wp2
      go_ret
      exact ⟨congrArg (fun b => Ending.returned (.int .i64 b)) (by unfold NameP.judge; rw [if_neg h]; rfl), rfl⟩

theorem isName_any (s : ByteArray) (w : World) (hs : s.size ≤ 1099511627776) :
    Calls Tryz.prog 73 #[.string s] w fun e w' => e = .returned (.bool (NameP.isName s.data.toList)) ∧ w = w' := by
  go_enter Tryz.func73, Tryz.ntmps73
  go_wp2_with fail
  refine (made_any low_tells dash_tells s _ hs).mono ?_
  rintro e w' ⟨rfl, rfl⟩
  go_wp2_with fail
  go_ret
  exact ⟨rfl, rfl⟩

theorem isWord_any (s : ByteArray) (w : World) (hs : s.size ≤ 1099511627776) :
    Calls Tryz.prog 75 #[.string s] w fun e w' => e = .returned (.bool (NameP.isWord s.data.toList)) ∧ w = w' := by
  go_enter Tryz.func75, Tryz.ntmps75
  go_wp2_with fail
  refine (made_any edge_tells wordIn_tells s _ hs).mono ?_
  rintro e w' ⟨rfl, rfl⟩
  go_wp2_with fail
  go_ret
  exact ⟨rfl, rfl⟩
end Go.Proofs.YtlbolbkikkiifaaGreatDoor
/- name.CheckKey: its contract (a range over strings.SplitSeq). -/
namespace Go.Proofs.YtlbolbkikkiifaaGreatDoor
open Go.RowKit
attribute [local go_sem] Oper.semAt_some

namespace NameP
def part (l : List UInt8) : Bool := decide (l.length ≤ 63) && isName l
def keyGood (l : List UInt8) : Bool :=
  if (Lib.cut l [47]).2.2 = true then (splitL 46 (Lib.cut l [47]).1).all part && (decide ((Lib.cut l [47]).2.1.length ≤ 63) && isWord (Lib.cut l [47]).2.1)
  else decide ((Lib.cut l [47]).1.length ≤ 63) && isWord (Lib.cut l [47]).1
def checkKey (l : List UInt8) : Int := judge l.length 64 (keyGood l)
end NameP
set_option maxRecDepth 100000 in
theorem splitSeq0_any (s : ByteArray) (c : UInt8) (w : World) :
    Calls Tryz.prog 117 #[.string s, .string ⟨#[c]⟩, .int .i64 0] w fun e w' => e = .returned (.func (.func 164) #[] #[.pointer (some ⟨w.heap.size + 1, 0, none⟩), .pointer (some ⟨w.heap.size, 0, none⟩), .pointer (some ⟨w.heap.size + 2, 0, none⟩)]) ∧
      w' = ((w.alloc (.cells #[.string s] 9)).alloc (.cells #[.string ⟨#[c]⟩] 9)).alloc (.cells #[.int .i64 0] 3) := by
  go_enter Tryz.func117, Tryz.ntmps117
  go_wp2_with fail
  go_ret
  exact ⟨by simp, rfl⟩
set_option maxRecDepth 100000 in
theorem splitSeq_any (s : ByteArray) (c : UInt8) (w : World) :
    Calls Tryz.prog 72 #[.string s, .string ⟨#[c]⟩] w fun e w' => e = .returned (.func (.func 164) #[] #[.pointer (some ⟨w.heap.size + 1, 0, none⟩), .pointer (some ⟨w.heap.size, 0, none⟩), .pointer (some ⟨w.heap.size + 2, 0, none⟩)]) ∧
      w' = ((w.alloc (.cells #[.string s] 9)).alloc (.cells #[.string ⟨#[c]⟩] 9)).alloc (.cells #[.int .i64 0] 3) := by
  go_enter Tryz.func72, Tryz.ntmps72
  go_wp2_with fail
  refine (splitSeq0_any _ _ _).mono ?_
  rintro E w' ⟨rfl, rfl⟩
  go_wp2_with fail
  go_ret
  exact ⟨rfl, rfl⟩
theorem all_snoc1 {α : Type} (f : α → Bool) (l : List α) (x : α) : (l ++ [x]).all f = (l.all f && f x) := by simp
theorem below_drewN (B : Nat) (w : World) (k : Nat) : Below B w (w.drewN k) := ⟨rfl, rfl, rfl, Nat.le_refl _, fun _ _ => rfl⟩
theorem cut_len (s : ByteArray) (l : List UInt8) (h : s.size ≤ 8388608) : (Lib.cut s.data.toList l).1.length ≤ 8388608 ∧ (Lib.cut s.data.toList l).2.1.length ≤ 8388608 := by
  have h1 : s.data.toList.length = s.size := by simp
  unfold Lib.cut
  split
  · refine ⟨?_, ?_⟩ <;> simp <;> omega
  · refine ⟨?_, ?_⟩ <;> simp <;> omega
def partB (x : ByteArray) : Bool := NameP.part x.data.toList
set_option maxRecDepth 100000 in
set_option maxHeartbeats 4000000 in
theorem checkKey_any (s : ByteArray) (m : Int) (w : World) (hs : s.size ≤ 8388608) (hm : MaxOK m w) :
    Calls Tryz.prog 45 #[.string s] w fun e w' => e = .returned (.int .i64 (NameP.checkKey s.data.toList)) ∧ Below w.heap.size w w' := by
  obtain ⟨R, HR⟩ : ∃ R, Hid (NameP.checkKey s.data.toList = R) := ⟨_, Lib.hid rfl⟩
  rw [HR.out]
  refine (callsIn_wide (n := 3)).1 ?_
  refine callsIn_of_wp_marks Tryz.func45 rfl trivial ?_ rfl
  simp only [Tryz.ntmps45, List.size_toArray, List.length_cons, List.length_nil, Nat.reduceAdd, Nat.reduceSub, Array.replicate_succ, Array.replicate_zero, List.push_toArray, List.append_toArray, List.nil_append, List.cons_append]
  gi_wp2_with fail
  refine ⟨trivial, ?_⟩
  gi_at_call 71
  obtain ⟨W0, hW0⟩ : ∃ W0, w.alloc (Obj.cells #[Value.bool true] 4) = W0 := ⟨_, rfl⟩
  have b0 : W0.heap[w.heap.size]? = some (.cells #[.bool true] 4 (0, 0)) := by rw [← hW0]; exact heap_alloc_at rfl
  have z0 : W0.heap.size = w.heap.size + 1 := by rw [← hW0]; exact World.size_alloc _ _
  have B0 : Below w.heap.size w W0 := by rw [← hW0]; exact (Below.refl _ w).alloc (Nat.le_refl _) _
  rw [hW0]
  refine (callsIn_wide.2 (Tryz.strings_Cut s ⟨#[47]⟩ m W0 (by omega) (hm.below B0))).mono ?_
  rintro E w1 ⟨rfl, nd, hw1⟩
  have b1 : w1.heap[w.heap.size]? = some (.cells #[.bool true] 4 (0, 0)) := by rw [hw1]; exact b0
  have z1 : w1.heap.size = w.heap.size + 1 := by rw [hw1]; exact z0
  have B1 := Lib.hid (B0.trans (below_drewN (w.heap.size) W0 nd))
  rw [← hw1] at B1
  clear hw1 b0 z0 B0 hW0
  have hcut : (Lib.cut s.data.toList [47]).1.length ≤ 8388608 ∧ (Lib.cut s.data.toList [47]).2.1.length ≤ 8388608 := cut_len s [47] (by omega)
  have hgood : ∀ b, b = NameP.keyGood s.data.toList → NameP.judge s.size 64 b = R := fun b hb => by
    rw [← HR.out, hb]
    show _ = NameP.judge s.data.toList.length 64 _
    congr 1
  have hco : (Lib.cut s.data.toList (⟨#[47]⟩ : ByteArray).data.toList) = Lib.cut s.data.toList [47] := rfl
  rw [hco]
  obtain ⟨ca, cb, ct, hc⟩ : ∃ ca cb ct, Lib.cut s.data.toList [47] = (ca, cb, ct) := ⟨_, _, _, rfl⟩
  unfold NameP.keyGood at hgood
  rw [hc] at hgood hcut
  rw [hc]
  obtain ⟨hca, hcb⟩ : ca.length ≤ 8388608 ∧ cb.length ≤ 8388608 := hcut
  clear hco hc
  obtain ⟨A, HA⟩ : ∃ A : ByteArray, Hid ((⟨ca.toArray⟩ : ByteArray) = A) := ⟨_, Lib.hid rfl⟩
  obtain ⟨B, HB⟩ : ∃ B : ByteArray, Hid ((⟨cb.toArray⟩ : ByteArray) = B) := ⟨_, Lib.hid rfl⟩
  have hA : A.data.toList = ca := by rw [← HA.out]
  have hB : B.data.toList = cb := by rw [← HB.out]
  have hAs : A.size ≤ 8388608 := by rw [← HA.out]; show ca.toArray.size ≤ _; simpa using hca
  have hBs : B.size ≤ 8388608 := by rw [← HB.out]; show cb.toArray.size ≤ _; simpa using hcb
  simp only [HA.out, HB.out]
  have c1 := cell_block b1 0
  cases ct with
  | false =>
    have hR1 : ∀ b, b = (decide (A.size ≤ 63) && NameP.isWord A.data.toList) → NameP.judge s.size 64 b = R := fun b hb => hgood b (by rw [hb, hA, if_neg (by simp), show A.size = ca.length by rw [← hA]; simp])
    have HR1 := Lib.hid hR1
    clear hR1 hgood HA HB hA hB
    by_cases h63 : A.size ≤ 63
    · have q0 : (A.size : Int) ≤ 63 := by omega
      have HR2 : Hid (NameP.judge s.size 64 (NameP.isWord A.data.toList) = R) := Lib.hid (HR1.out _ (by rw [decide_eq_true h63, Bool.true_and]))
      clear h63
      gi_wp2_with (refine ⟨trivial, ?_⟩; gi_at_call 75; refine (callsIn_wide.2 (isWord_any _ _ (by omega))).mono ?_; rintro e w' ⟨rfl, rfl⟩)
      refine ⟨trivial, ?_⟩
      gi_at_call 74
      refine (callsIn_wide.2 (judge_any s 64 _ _ (by omega) (by decide))).mono ?_
      rintro e w' ⟨rfl, rfl⟩
      gi_wp2
      exact ⟨_, results_tmp rfl _ _ _, by simpa using HR2.out, B1.out⟩
    · have q0 : ¬ (A.size : Int) ≤ 63 := by omega
      have HR2 : Hid (NameP.judge s.size 64 false = R) := Lib.hid (HR1.out _ (by rw [decide_eq_false h63, Bool.false_and]))
      clear h63
      gi_wp2_with fail
      refine ⟨trivial, ?_⟩
      gi_wp2_with fail
      refine ⟨trivial, ?_⟩
      gi_at_call 74
      refine (callsIn_wide.2 (judge_any s 64 _ _ (by omega) (by decide))).mono ?_
      rintro e w' ⟨rfl, rfl⟩
      gi_wp2
      exact ⟨_, results_tmp rfl _ _ _, by simpa using HR2.out, B1.out⟩
  | true =>
    have hR1 : ∀ b, b = ((partsB 46 A).all partB && (decide (B.size ≤ 63) && NameP.isWord B.data.toList)) → NameP.judge s.size 64 b = R := fun b hb => hgood b (by
      rw [hb, hB, if_pos rfl, show B.size = cb.length by rw [← hB]; simp]
      congr 1
      unfold partsB partB
      rw [List.all_map, hA]
      rfl)
    have HR1 := Lib.hid hR1
    clear hR1 hgood HA HB hA hB
    gi_wp2_with fail
    refine ⟨trivial, ?_⟩
    gi_at_call 72
    refine (callsIn_wide.2 (splitSeq_any A 46 w1)).mono ?_
    rintro e w2 ⟨rfl, hw2⟩
    have z2 : w2.heap.size = w.heap.size + 4 := by rw [hw2, World.size_alloc, World.size_alloc, World.size_alloc, z1]
    have b2 : w2.heap[w.heap.size]? = some (.cells #[.bool true] 4 (0, 0)) := by rw [hw2]; exact heap_alloc_old (heap_alloc_old (heap_alloc_old b1))
    have s2 : w2.heap[w.heap.size + 1]? = some (.cells #[.string A] 9 (0, 0)) := by rw [hw2]; exact heap_alloc_old (heap_alloc_old (heap_alloc_at z1.symm))
    have p2 : w2.heap[w.heap.size + 2]? = some (.cells #[.string ⟨#[46]⟩] 9 (0, 0)) := by rw [hw2]; exact heap_alloc_old (heap_alloc_at (by rw [World.size_alloc, z1]))
    have v2 : w2.heap[w.heap.size + 3]? = some (.cells #[.int .i64 0] 3 (0, 0)) := by rw [hw2]; exact heap_alloc_at (by rw [World.size_alloc, World.size_alloc, z1])
    have B2 : Below w.heap.size w w2 := by rw [hw2]; exact ((B1.out.alloc (by omega) _).alloc (by rw [World.size_alloc]; omega) _).alloc (by rw [World.size_alloc, World.size_alloc]; omega) _
    rw [z1]
    clear hw2
    gi_wp2_with fail
    refine wpIn_range_each (α := ByteArray) rfl (by omega) (gf := 164) (lb := #[.pointer (some ⟨w.heap.size + 2, 0, none⟩), .pointer (some ⟨w.heap.size + 1, 0, none⟩), .pointer (some ⟨w.heap.size + 3, 0, none⟩)]) rfl trivial (enters_of Tryz.func164 (by kernel_rfl) rfl)
      (enc := Value.string) (xs := partsB 46 A) (bs := w.heap.size + 1) (b3 := w.heap.size) (by omega) (by omega)
      (splitSeq_each _ (by omega) A 46 (w.heap.size + 1) (w.heap.size + 2) (w.heap.size + 3) w.heap.size w2.heap.size w2 s2 p2 v2 ⟨by omega, by omega⟩ ⟨by omega, by omega, by omega⟩ ⟨by omega, by omega, by omega⟩ hAs)
      (fun pre W => W.heap[w.heap.size]? = some (.cells #[.bool (pre.all partB)] 4 (0, 0)) ∧ Below w.heap.size w W)
      (fun pre X Y h hb => ⟨(hb.block _ (by omega)).trans h.1, h.2.trans (hb.mono (by omega))⟩)
      (fun pre X Y h ht => ⟨(ht.other _ (by omega)).trans h.1, ht.below h.2 (by omega)⟩)
      ⟨b2, B2⟩ (fun x => { tmps := #[Value.string s, undef, Value.int IntKind.i64 0, Value.pointer (some ⟨w.heap.size, 0, none⟩), Value.string A, Value.string B, Value.bool true, Value.string x, Value.tuple #[Value.string A, Value.string B, Value.bool true], Value.string s, Value.tuple #[Value.string A, Value.string B, Value.bool true], Value.string A, Value.string B, Value.bool true, Value.bool true, Value.bool false, undef, Value.string A, Value.func (Fn.func 164) #[] #[Value.pointer (some ⟨w.heap.size + 1 + 1, 0, none⟩), Value.pointer (some ⟨w.heap.size + 1, 0, none⟩), Value.pointer (some ⟨w.heap.size + 1 + 2, 0, none⟩)], Value.string x, undef, undef, undef, undef, undef, undef, undef, undef, undef, undef, undef, undef, undef, undef, undef, undef, undef, undef, undef, undef, undef, undef], defers := [] }) ?assign ?body ?done
    case assign =>
      intro l x W K hK
      gi_wp2
      exact hK
    case body =>
      rintro l pre x W ⟨hb, hB⟩ _
      obtain ⟨g, Hg⟩ : ∃ g, Hid (pre.all partB = g) := ⟨_, Lib.hid rfl⟩
      have Hb := Lib.hid hb
      rw [Hg.out] at hb
      have HBl := Lib.hid hB
      have c1 := cell_block hb 0
      have f1 := free_block hb 0
      have fin : ∀ (a : Act) (v : Bool), v = (pre ++ [x]).all partB → eachPost (fun pre W => W.heap[w.heap.size]? = some (.cells #[.bool (pre.all partB)] 4 (0, 0)) ∧ Below w.heap.size w W) (pre ++ [x]) w.heap.size W .normal a (W.setCell ⟨w.heap.size, 0, none⟩ (.bool v)) := fun _ v hv => by
        have t := touch_setCell (i := 0) (v := .bool v) Hb.out
        refine ⟨⟨?_, t.2.below HBl.out (Nat.le_refl _)⟩, by rw [t.2.size]; exact Nat.le_refl _, fun k hk hne => t.2.other k hne⟩
        rw [t.1, hv]; rfl
      have Hfin := Lib.hid fin
      clear hb fin hB
      cases g with
      | false =>
        have Hv : Hid (false = (pre ++ [x]).all partB) := Lib.hid (by rw [all_snoc1, Hg.out, Bool.false_and])
        gi_wp2_with (refine ⟨trivial, ?_⟩)
        exact Hfin.out _ _ Hv.out
      | true =>
        by_cases h63 : x.size ≤ 63
        · have q0 : (x.size : Int) ≤ 63 := by omega
          have Hv : Hid (NameP.isName x.data.toList = (pre ++ [x]).all partB) := Lib.hid (by
            rw [all_snoc1, Hg.out, Bool.true_and]
            unfold partB NameP.part
            rw [decide_eq_true (by simpa using h63), Bool.true_and])
          clear h63
          gi_wp2_with (refine ⟨trivial, ?_⟩; gi_at_call 73; refine (CallsIn.inRound l (callsIn_wide.2 (isName_any x _ (by omega)))).mono ?_; rintro e w' ⟨rfl, rfl⟩)
          exact Hfin.out _ _ Hv.out
        · have q0 : ¬ (x.size : Int) ≤ 63 := by omega
          have Hv : Hid (false = (pre ++ [x]).all partB) := Lib.hid (by
            rw [all_snoc1, Hg.out, Bool.true_and]
            unfold partB NameP.part
            rw [decide_eq_false (by simpa using h63), Bool.false_and])
          clear h63
          gi_wp2_with (refine ⟨trivial, ?_⟩)
          exact Hfin.out _ _ Hv.out
    case done =>
      rintro D W ⟨hb, hB⟩ hK hD
      obtain ⟨g, Hg⟩ : ∃ g, Hid ((partsB 46 A).all partB = g) := ⟨_, Lib.hid rfl⟩
      rw [Hg.out] at hb
      have HBl := Lib.hid hB
      have c1 : W.cell? ⟨w.heap.size, 0, none⟩ = some (.bool g) := cell_block hb 0
      clear hb hB
      cases g with
      | false =>
        have HR2 : Hid (NameP.judge s.size 64 false = R) := Lib.hid (HR1.out _ (by rw [Hg.out, Bool.false_and]))
        gi_wp2_with fail
        refine ⟨trivial, ?_⟩
        gi_wp2_with fail
        refine ⟨trivial, ?_⟩
        gi_at_call 74
        refine (callsIn_wide.2 (judge_any s 64 _ _ (by omega) (by decide))).mono ?_
        rintro e w' ⟨rfl, rfl⟩
        gi_wp2
        refine ⟨by simp, .inl ⟨_, _, rfl, run_takeDeferred hK, ?_⟩⟩
        exact ⟨_, results_tmp rfl _ _ _, by simpa using HR2.out, HBl.out.trans (below_putObj W _ _ (by omega))⟩
      | true =>
        by_cases h63 : B.size ≤ 63
        · have q0 : (B.size : Int) ≤ 63 := by omega
          have HR2 : Hid (NameP.judge s.size 64 (NameP.isWord B.data.toList) = R) := Lib.hid (HR1.out _ (by rw [Hg.out, decide_eq_true h63, Bool.true_and, Bool.true_and]))
          clear h63
          gi_wp2_with (refine ⟨trivial, ?_⟩; gi_at_call 75; refine (callsIn_wide.2 (isWord_any _ _ (by omega))).mono ?_; rintro e w' ⟨rfl, rfl⟩)
          refine ⟨trivial, ?_⟩
          gi_at_call 74
          refine (callsIn_wide.2 (judge_any s 64 _ _ (by omega) (by decide))).mono ?_
          rintro e w' ⟨rfl, rfl⟩
          gi_wp2
          refine ⟨by simp, .inl ⟨_, _, rfl, run_takeDeferred hK, ?_⟩⟩
          exact ⟨_, results_tmp rfl _ _ _, by simpa using HR2.out, HBl.out.trans (below_putObj W _ _ (by omega))⟩
        · have q0 : ¬ (B.size : Int) ≤ 63 := by omega
          have HR2 : Hid (NameP.judge s.size 64 false = R) := Lib.hid (HR1.out _ (by rw [Hg.out, decide_eq_false h63, Bool.true_and, Bool.false_and]))
          clear h63
          gi_wp2_with fail
          refine ⟨trivial, ?_⟩
          gi_wp2_with fail
          refine ⟨trivial, ?_⟩
          gi_at_call 74
          refine (callsIn_wide.2 (judge_any s 64 _ _ (by omega) (by decide))).mono ?_
          rintro e w' ⟨rfl, rfl⟩
          gi_wp2
          refine ⟨by simp, .inl ⟨_, _, rfl, run_takeDeferred hK, ?_⟩⟩
          exact ⟨_, results_tmp rfl _ _ _, by simpa using HR2.out, HBl.out.trans (below_putObj W _ _ (by omega))⟩
end Go.Proofs.YtlbolbkikkiifaaGreatDoor
/- The walk of name.CheckVal. -/
namespace Go.Proofs.YtlbolbkikkiifaaGreatDoor
open Go.RowKit

theorem ret_i64 {a b : Int} (h : a = b) : Ending.returned (.int .i64 a) = .returned (.int .i64 b) := by rw [h]

set_option maxHeartbeats 800000 in
theorem checkVal_any (s : ByteArray) (w : World) (hs : s.size ≤ 1099511627776) :
    Calls Tryz.prog 46 #[.string s] w fun e w' => e = .returned (.int .i64 (NameP.checkVal s.data.toList)) ∧ w = w' := by
  by_cases h0 : s.size = 0
  · have hl : s.toList = [] := by rw [ByteArray.toList_eq]; exact List.eq_nil_of_length_eq_zero (by simpa using h0)
    have hle : s.toList.isEmpty = true := by rw [hl]; rfl
    have Hs : Hid (NameP.judge s.size 63 true = NameP.checkVal s.data.toList) := by
      show _ = _
      rw [ByteArray.toList_eq] at hl
      simp [NameP.checkVal, hl, h0]
    clear h0
    go_enter Tryz.func46, Tryz.ntmps46
    go_wp2_with fail
    refine (judge_any s 63 _ _ hs (by omega)).mono ?_
    rintro e w' ⟨rfl, rfl⟩
    go_wp2_with fail
    go_ret
    exact ⟨ret_i64 Hs.out, rfl⟩
  · have hl : s.data.toList.length = s.size := by simp
    have hne2 : s.toList.isEmpty = false := by
      rw [ByteArray.toList_eq]
      cases hd : s.data.toList with | nil => rw [hd] at hl; simp at hl; omega | cons x r => rfl
    have hne : (!s.toList.isEmpty) = true := by rw [hne2]; rfl
    have Hs : Hid (NameP.judge s.size 63 (NameP.isWord s.data.toList) = NameP.checkVal s.data.toList) := by
      show _ = _
      rw [ByteArray.toList_eq] at hne2
      unfold NameP.checkVal
      rw [hl, hne2]; rfl
    clear h0 hl
    go_enter Tryz.func46, Tryz.ntmps46
    go_wp2_with fail
    refine (isWord_any s _ hs).mono ?_
    rintro e w' ⟨rfl, rfl⟩
    go_wp2_with fail
    refine (judge_any s 63 _ _ hs (by omega)).mono ?_
    rintro e w' ⟨rfl, rfl⟩
    go_wp2_with fail
    go_ret
    exact ⟨ret_i64 Hs.out, rfl⟩

end Go.Proofs.YtlbolbkikkiifaaGreatDoor
/- The structs Req, Label: as plain data, how their cells read, their share of the bound. -/
namespace Go.Proofs.YtlbolbkikkiifaaGreatDoor
open Go.RowKit Go.ChangeShapes Go.WideShapes

structure GReq where
  key : ByteArray
  kind : Int
  vals : List ByteArray
def ReqR : Rd GReq := fun w cs x => ∃ v2, cs = [.string x.key, .int .i64 x.kind, v2] ∧ (Lit.int .i64 x.kind).wf = true ∧ StrAt w v2 x.vals
theorem stays_req : Stays ReqR := fun _ _ _ _ hk ⟨v2, h, g1_0, g2⟩ => ⟨v2, h, g1_0, g2.keep hk⟩
def reqB (x : GReq) : Nat := ((x.key.size + 1) + (1 + ((total x.vals + 1) + 0))) + 1
set_option maxRecDepth 10000 in
theorem opens_req : Opens Tryz.prog 26 ReqR reqB := by
  intro H enc w base spare held fuel cs x h
  obtain ⟨xs, n, _, rfl, hl, hx, hf⟩ := DataW.trod_struct Tryz.underlying26 h
  have hl2 : cs.length = 3 := hl.trans (by kernel_rfl)
  clear hl h
  match cs, hl2, xs, hx, hf with
  | [c0, c1, c2], _, [x0, x1, x2], _, hf =>
    obtain ⟨a0, r0, m0⟩ := (opens_string Tryz.underlying9).at (o := 0) (cs := [c0, c1, c2]) (ds := [c0]) (x := x0) (hf 0 _ rfl) (k := 1) (by kernel_rfl) rfl
    obtain ⟨a1, r1, m1⟩ := (opens_int Tryz.underlying3).at (o := 1) (cs := [c0, c1, c2]) (ds := [c1]) (x := x1) (hf 1 _ rfl) (k := 1) (by kernel_rfl) rfl
    obtain ⟨a2, r2, m2⟩ := (opens_strs Tryz.underlying24 Tryz.underlying9 (by kernel_rfl)).at (o := 2) (cs := [c0, c1, c2]) (ds := [c2]) (x := x2) (hf 2 _ rfl) (k := 1) (by kernel_rfl) rfl
    clear hf
    obtain rfl : c0 = .string a0 := by simpa [RString] using r0
    obtain ⟨r1, w1⟩ := r1
    obtain rfl : c1 = .int .i64 a1 := by simpa using r1
    obtain ⟨v2, r2, s2⟩ := r2
    obtain rfl : c2 = v2 := by simpa using r2
    refine ⟨⟨a0, a1, a2⟩, ⟨c2, rfl, w1, s2⟩, ?_⟩
    simp only [List.map_cons, List.map_nil, Rows.uptoBulk, Rows.uptoBulkAll, reqB]
    omega
structure GLabel where
  key : ByteArray
  val : ByteArray
def LabelR : Rd GLabel := fun _ cs x => cs = [.string x.key, .string x.val]
theorem stays_label : Stays LabelR := fun _ _ _ _ _ h => h
def labelB (x : GLabel) : Nat := ((x.key.size + 1) + ((x.val.size + 1) + 0)) + 1
set_option maxRecDepth 10000 in
theorem opens_label : Opens Tryz.prog 30 LabelR labelB := by
  intro H enc w base spare held fuel cs x h
  obtain ⟨xs, n, _, rfl, hl, hx, hf⟩ := DataW.trod_struct Tryz.underlying30 h
  have hl2 : cs.length = 2 := hl.trans (by kernel_rfl)
  clear hl h
  match cs, hl2, xs, hx, hf with
  | [c0, c1], _, [x0, x1], _, hf =>
    obtain ⟨a0, r0, m0⟩ := (opens_string Tryz.underlying9).at (o := 0) (cs := [c0, c1]) (ds := [c0]) (x := x0) (hf 0 _ rfl) (k := 1) (by kernel_rfl) rfl
    obtain ⟨a1, r1, m1⟩ := (opens_string Tryz.underlying9).at (o := 1) (cs := [c0, c1]) (ds := [c1]) (x := x1) (hf 1 _ rfl) (k := 1) (by kernel_rfl) rfl
    clear hf
    obtain rfl : c0 = .string a0 := by simpa [RString] using r0
    obtain rfl : c1 = .string a1 := by simpa [RString] using r1
    refine ⟨⟨a0, a1⟩, rfl, ?_⟩
    simp only [List.map_cons, List.map_nil, Rows.uptoBulk, Rows.uptoBulkAll, labelB]
    omega
end Go.Proofs.YtlbolbkikkiifaaGreatDoor
/- The order of texts; cmp.Compare at texts. -/
namespace Go.Proofs.YtlbolbkikkiifaaGreatDoor
open Go.RowKit

theorem bl_irrefl : ∀ x : List UInt8, Op.bytesLess x x = false
  | [] => rfl
  | a :: x => by unfold Op.bytesLess; simp [bl_irrefl x]
theorem bl_total : ∀ x y : List UInt8, Op.bytesLess x y = false → Op.bytesLess y x = false → x = y
  | [], [], _, _ => rfl
  | [], _ :: _, h, _ => by simp [Op.bytesLess] at h
  | _ :: _, [], _, h => by simp [Op.bytesLess] at h
  | a :: x, b :: y, h1, h2 => by
    unfold Op.bytesLess at h1 h2
    simp only [Bool.or_eq_false_iff, Bool.and_eq_false_iff, decide_eq_false_iff_not, UInt8.not_lt] at h1 h2
    have hab : a = b := UInt8.le_antisymm h2.1 h1.1
    subst hab
    rw [bl_total x y (by simpa using h1.2) (by simpa using h2.2)]
theorem bl_trans : ∀ x y z : List UInt8, Op.bytesLess x y = true → Op.bytesLess y z = true → Op.bytesLess x z = true
  | _, [], _, h, _ => by simp [Op.bytesLess] at h
  | _, _ :: _, [], _, h => by simp [Op.bytesLess] at h
  | [], _ :: _, _ :: _, _, _ => rfl
  | a :: x, b :: y, c :: z, h1, h2 => by
    unfold Op.bytesLess at h1 h2 ⊢
    simp only [Bool.or_eq_true, Bool.and_eq_true, decide_eq_true_eq, beq_iff_eq] at h1 h2 ⊢
    rcases h1 with h1 | ⟨rfl, h1⟩
    · rcases h2 with h2 | ⟨rfl, h2⟩
      · exact .inl (UInt8.lt_trans h1 h2)
      · exact .inl h1
    · rcases h2 with h2 | ⟨rfl, h2⟩
      · exact .inl h2
      · exact .inr ⟨rfl, bl_trans x y z h1 h2⟩
theorem bl_asymm {x y : List UInt8} (h : Op.bytesLess x y = true) : Op.bytesLess y x = false := by
  cases h2 : Op.bytesLess y x with
  | false => rfl
  | true => have := bl_trans x y x h h2; rw [bl_irrefl] at this; cases this
def lessB (a b : ByteArray) : Bool := Op.bytesLess a.toList b.toList
theorem toList_inj {a b : ByteArray} (h : a.toList = b.toList) : a = b := by
  rw [ByteArray.toList_eq, ByteArray.toList_eq] at h
  cases a; cases b
  simp only [ByteArray.mk.injEq]
  exact Array.toList_inj.1 h
theorem lessB_irrefl (a : ByteArray) : lessB a a = false := bl_irrefl _
theorem lessB_total {a b : ByteArray} (h : lessB a b = false) (k : lessB b a = false) : a = b := toList_inj (bl_total _ _ h k)
theorem lessB_trans {a b c : ByteArray} (h : lessB a b = true) (k : lessB b c = true) : lessB a c = true := bl_trans _ _ _ h k
theorem lessB_asymm {a b : ByteArray} (h : lessB a b = true) : lessB b a = false := bl_asymm h
/-- below, the same, above -/
def cmpB (a b : ByteArray) : Int := if lessB a b = true then -1 else if (a.toList == b.toList) = true then 0 else 1
end Go.Proofs.YtlbolbkikkiifaaGreatDoor
/- query: what Check, CheckLabels, Match compute; the plain laws. -/
namespace Go.Proofs.YtlbolbkikkiifaaGreatDoor
open Go.RowKit

/-- the first error -/
def errF {α : Type} (f : α → Int) (l : List α) : Int := match l.find? (fun x => f x != 0) with
  | none => 0
  | some x => f x
theorem errF_none {α : Type} {f : α → Int} {l : List α} (h : ∀ x ∈ l, f x = 0) : errF f l = 0 := by
  unfold errF
  rw [List.find?_eq_none.2 fun x hx => by rw [h x hx]; simp]
theorem errF_at {α : Type} {f : α → Int} {l : List α} {i : Nat} {x : α} (hx : l[i]? = some x) (h : ∀ y ∈ l.take i, f y = 0) (hf : f x ≠ 0) : errF f l = f x := by
  have hi := (List.getElem?_eq_some_iff.1 hx).1
  have he := (List.getElem?_eq_some_iff.1 hx).2
  have h1 : l = l.take i ++ x :: l.drop (i + 1) := by rw [← he, ← List.drop_eq_getElem_cons hi, List.take_append_drop]
  have h2 : l.find? (fun x => f x != 0) = some x := by
    rw [h1, List.find?_append, List.find?_eq_none.2 (fun y hy => by rw [h y hy]; simp)]
    simp [hf]
  unfold errF
  rw [h2]
theorem errF_zero {α : Type} {f : α → Int} {l : List α} : errF f l = 0 ↔ ∀ x ∈ l, f x = 0 := by
  constructor
  · intro h x hx
    unfold errF at h
    cases hf : l.find? (fun x => f x != 0) with
    | none => have := List.find?_eq_none.1 hf x hx; simpa using this
    | some y =>
      rw [hf] at h
      have := List.find?_some hf
      simp at this
      exact absurd h this
  · exact errF_none
def keyE (s : ByteArray) : Int := NameP.checkKey s.data.toList
def valE (s : ByteArray) : Int := NameP.checkVal s.data.toList
def listsK (k : Int) : Bool := k == 1 || k == 2
def argR (r : GReq) : Bool := decide (r.kind < 1) || (decide (4 < r.kind) || (listsK r.kind != decide (0 < r.vals.length)))
def reqE (r : GReq) : Int :=
  if keyE r.key ≠ 0 then keyE r.key else if argR r = true then 1 else if 8 < r.vals.length then 2 else errF valE r.vals
def reqsE (l : List GReq) : Int := if 8 < l.length then 2 else errF reqE l
/-- each label, with the key ahead of it -/
def labZ (l : List GLabel) : List (Option ByteArray × GLabel) := (none :: l.map (some ·.key)).zip l
def prevE (p : Option ByteArray) (key : ByteArray) : Int := match p with
  | none => 0
  | some k => if lessB k key = true then 0 else 1
def labE (x : Option ByteArray × GLabel) : Int :=
  if keyE x.2.key ≠ 0 then keyE x.2.key else if valE x.2.val ≠ 0 then valE x.2.val else prevE x.1 x.2.key
def labelsE (l : List GLabel) : Int := if 10 < l.length then 2 else errF labE (labZ l)
def holdsB (labels : List GLabel) (r : GReq) : Bool := match labels.find? fun x => decide (x.key = r.key) with
  | some x => if r.kind = 1 then Lib.containsS r.vals x.val else if r.kind = 2 then !Lib.containsS r.vals x.val else decide (r.kind = 3)
  | none => if r.kind = 1 then false else if r.kind = 2 then true else decide (r.kind ≠ 3)
def matchE (l : List GReq) (labels : List GLabel) : Int := if reqsE l = 0 then labelsE labels else reqsE l
def matchB (l : List GReq) (labels : List GLabel) : Bool := decide (matchE l labels = 0) && l.all (holdsB labels)
theorem reqE_empty : reqE ⟨ByteArray.empty, 0, []⟩ = 6 := by decide
/-- the opposite of a part -/
def oppK (k : Int) : Int := if k = 1 ∨ k = 3 then k + 1 else if k = 2 ∨ k = 4 then k - 1 else k
def oppR (r : GReq) : GReq := { r with kind := oppK r.kind }
theorem argR_opp (r : GReq) : argR (oppR r) = argR r := by
  unfold argR oppR oppK listsK
  dsimp only
  by_cases h1 : r.kind = 1
  · rw [h1]; rfl
  · by_cases h2 : r.kind = 2
    · rw [h2]; rfl
    · by_cases h3 : r.kind = 3
      · rw [h3]; rfl
      · by_cases h4 : r.kind = 4
        · rw [h4]; rfl
        · rw [if_neg (by omega), if_neg (by omega)]
theorem reqE_opp (r : GReq) : reqE (oppR r) = reqE r := by
  unfold reqE
  rw [argR_opp]
  rfl
theorem reqsE_one (r : GReq) : reqsE [r] = reqE r := by
  unfold reqsE
  rw [if_neg (by simp)]
  by_cases h : reqE r = 0
  · rw [h]; exact errF_none fun x hx => by rw [List.mem_singleton.1 hx]; exact h
  · exact errF_at (i := 0) rfl (by simp) h
theorem argR_kind {r : GReq} (h : reqE r = 0) : 1 ≤ r.kind ∧ r.kind ≤ 4 := by
  unfold reqE at h
  by_cases h1 : keyE r.key ≠ 0
  · rw [if_pos h1] at h; exact absurd h h1
  · rw [if_neg h1] at h
    by_cases h2 : argR r = true
    · rw [if_pos h2] at h; cases h
    · unfold argR at h2
      simp at h2
      omega
theorem holds_opp {r : GReq} (labels : List GLabel) (h : 1 ≤ r.kind ∧ r.kind ≤ 4) : holdsB labels (oppR r) = !holdsB labels r := by
  have hk : r.kind = 1 ∨ r.kind = 2 ∨ r.kind = 3 ∨ r.kind = 4 := by omega
  unfold holdsB oppR
  dsimp only
  cases labels.find? fun x => decide (x.key = r.key) with
  | none => rcases hk with h | h | h | h <;> rw [h] <;> rfl
  | some x => rcases hk with h | h | h | h <;> rw [h] <;> simp [oppK]
/-- QueryNot -/
theorem queryNot_plain (r : GReq) (labels : List GLabel) :
    (if matchE [r] labels ≠ 0 ∨ matchE [oppR r] labels ≠ 0 then (matchE [r] labels == matchE [oppR r] labels) && (!matchB [r] labels && !matchB [oppR r] labels) else matchB [r] labels != matchB [oppR r] labels) = true := by
  have h1 : matchE [oppR r] labels = matchE [r] labels := by unfold matchE; rw [reqsE_one, reqsE_one, reqE_opp]
  rw [h1]
  by_cases h : matchE [r] labels = 0
  · rw [if_neg (by simp [h])]
    have h2 : reqE r = 0 := by
      unfold matchE at h
      rw [reqsE_one] at h
      by_cases h3 : reqE r = 0
      · exact h3
      · rw [if_neg h3] at h; exact h
    have h4 := holds_opp labels (argR_kind h2)
    unfold matchB
    rw [h1, h]
    simp only [decide_true, Bool.true_and, List.all_cons, List.all_nil, Bool.and_true]
    rw [h4]
    cases holdsB labels r <;> rfl
  · rw [if_pos (.inl h)]
    unfold matchB
    rw [h1, decide_eq_false h]
    simp
theorem reqsE_append {l m : List GReq} : reqsE (l ++ m) = 0 ↔ l.length + m.length ≤ 8 ∧ reqsE l = 0 ∧ reqsE m = 0 := by
  unfold reqsE
  rw [List.length_append]
  by_cases h : 8 < l.length + m.length
  · rw [if_pos h]
    exact ⟨fun h1 => absurd h1 (by decide), fun h1 => absurd h1.1 (by omega)⟩
  · rw [if_neg h, if_neg (by omega), if_neg (by omega), errF_zero, errF_zero, errF_zero]
    constructor
    · intro h1
      exact ⟨by omega, fun x hx => h1 x (List.mem_append_left _ hx), fun x hx => h1 x (List.mem_append_right _ hx)⟩
    · intro ⟨_, h1, h2⟩ x hx
      rcases List.mem_append.1 hx with hx | hx
      · exact h1 x hx
      · exact h2 x hx
theorem matchE_zero {l : List GReq} {labels : List GLabel} : matchE l labels = 0 ↔ reqsE l = 0 ∧ labelsE labels = 0 := by
  unfold matchE
  split
  · rename_i h; simp [h]
  · rename_i h; simp [h]
theorem reqsE_reverse {l : List GReq} : reqsE l.reverse = 0 ↔ reqsE l = 0 := by
  unfold reqsE
  rw [List.length_reverse]
  split
  · rfl
  · rw [errF_zero, errF_zero]
    simp
theorem matchB_none {l : List GReq} {labels : List GLabel} (h : matchE l labels ≠ 0) : matchB l labels = false := by
  unfold matchB
  rw [decide_eq_false h]; rfl
/-- QueryAnd: where something is refused -/
theorem queryAnd_bad {l m : List GReq} {labels : List GLabel} (h : matchE l labels ≠ 0 ∨ matchE m labels ≠ 0 ∨ 8 < (l ++ m).length) : matchE (l ++ m) labels ≠ 0 ∧ matchB (l ++ m) labels = false := by
  have h1 : matchE (l ++ m) labels ≠ 0 := fun h0 => by
    rw [matchE_zero, reqsE_append] at h0
    rcases h with h | h | h
    · exact h (matchE_zero.2 ⟨h0.1.2.1, h0.2⟩)
    · exact h (matchE_zero.2 ⟨h0.1.2.2, h0.2⟩)
    · rw [List.length_append] at h; omega
  exact ⟨h1, matchB_none h1⟩
theorem queryAnd_good {l m : List GReq} {labels : List GLabel} (hl : matchE l labels = 0) (hm : matchE m labels = 0) (h8 : ¬ 8 < (l ++ m).length) :
    matchE (l ++ m) labels = 0 ∧ matchE (l ++ m).reverse labels = 0 ∧ matchB (l ++ m) labels = (matchB l labels && matchB m labels) ∧ matchB (l ++ m).reverse labels = matchB (l ++ m) labels := by
  rw [List.length_append] at h8
  have h1 := matchE_zero.1 hl
  have h2 := matchE_zero.1 hm
  have h3 : matchE (l ++ m) labels = 0 := matchE_zero.2 ⟨reqsE_append.2 ⟨by omega, h1.1, h2.1⟩, h1.2⟩
  have h4 : matchE (l ++ m).reverse labels = 0 := matchE_zero.2 ⟨reqsE_reverse.2 (matchE_zero.1 h3).1, h1.2⟩
  refine ⟨h3, h4, ?_, ?_⟩
  · unfold matchB
    rw [hl, hm, h3]
    simp
  · unfold matchB
    rw [h3, h4, List.all_reverse]
end Go.Proofs.YtlbolbkikkiifaaGreatDoor
/- query: the parser and the printer: what they compute. -/
namespace Go.Proofs.YtlbolbkikkiifaaGreatDoor
open Go.RowKit
namespace QP
def wordB (c : UInt8) : Bool := NameP.edge c.toNat || (NameP.wordIn c.toNat || c == 47)
def skipB (r : List UInt8) : List UInt8 := r.dropWhile (· == 32)
def headIs (c : UInt8) (r : List UInt8) : Bool := match r with
  | x :: _ => x == c
  | [] => false
def wordW (r : List UInt8) : List UInt8 := (skipB r).takeWhile wordB
def wordR (r : List UInt8) : List UInt8 := (skipB r).dropWhile wordB
def wordE (r : List UInt8) : List UInt8 := skipB (wordR r)
def wordS (r : List UInt8) : ByteArray := ⟨(wordW r).toArray⟩
def listF : Nat → List UInt8 → List ByteArray → Option (List ByteArray × List UInt8)
  | 0, _, _ => none
  | n + 1, r, out =>
    if headIs 44 (wordE r) = true then listF n (wordE r).tail (out ++ [wordS r])
    else if headIs 41 (wordE r) = true then some (out ++ [wordS r], skipB (wordE r).tail) else none
def listP (r : List UInt8) : Option (List ByteArray × List UInt8) := if headIs 40 (skipB r) = true then listF 400 (skipB r).tail [] else none
def kindP (w : List UInt8) : Int := if w = [105, 110] then 1 else if w = [110, 111, 116, 105, 110] then 2 else 0
def choiceP (key : ByteArray) (r : List UInt8) : Option (GReq × List UInt8) :=
  if kindP (wordW r) = 0 then none else if headIs 32 (wordR r) = false ∧ headIs 40 (wordE r) = false then none
  else match listP (wordE r) with
    | none => none
    | some x => some (⟨key, kindP (wordW r), x.1⟩, x.2)
def keyP (r : List UInt8) : Option (GReq × List UInt8) :=
  if wordE r = [] ∨ headIs 44 (wordE r) = true then some (⟨wordS r, 3, []⟩, wordE r)
  else if headIs 61 (wordE r) = true ∧ headIs 61 (wordE r).tail = true then some (⟨wordS r, 1, [wordS (wordE r).tail.tail]⟩, wordE (wordE r).tail.tail)
  else if headIs 61 (wordE r) = true then some (⟨wordS r, 1, [wordS (wordE r).tail]⟩, wordE (wordE r).tail)
  else if headIs 33 (wordE r) = true ∧ headIs 61 (wordE r).tail = true then some (⟨wordS r, 2, [wordS (wordE r).tail.tail]⟩, wordE (wordE r).tail.tail)
  else if headIs 32 (wordR r) = true then choiceP (wordS r) (wordE r)
  else none
def partP (r : List UInt8) : Option (GReq × List UInt8) :=
  if headIs 33 (skipB r) = true then some (⟨wordS (skipB r).tail, 4, []⟩, wordE (skipB r).tail) else keyP (skipB r)
def parseF : Nat → List UInt8 → List GReq → Option (List GReq)
  | 0, _, _ => none
  | n + 1, r, out => match partP r with
    | none => none
    | some x => if x.2 = [] then some (out ++ [x.1]) else if headIs 44 x.2 = true then parseF n x.2.tail (out ++ [x.1]) else none
def parseL (s : List UInt8) : List GReq × Int :=
  if 300 < s.length then ([], 2) else if skipB s = [] then ([], 0) else match parseF 400 (skipB s) [] with
    | none => ([], 3)
    | some l => if reqsE l = 0 then (l, 0) else ([], reqsE l)
def valsT (l : List ByteArray) : List UInt8 := Lib.join (l.map (·.data.toList)) [44]
def textT (r : GReq) : List UInt8 :=
  if r.kind = 3 then r.key.data.toList
  else if r.kind = 4 then 33 :: r.key.data.toList
  else if r.kind = 1 then
    if r.vals.length = 1 then r.key.data.toList ++ 61 :: valsT r.vals else r.key.data.toList ++ [32, 105, 110, 32, 40] ++ (valsT r.vals ++ [41])
  else if r.vals.length = 1 then r.key.data.toList ++ 33 :: 61 :: valsT r.vals else r.key.data.toList ++ [32, 110, 111, 116, 105, 110, 32, 40] ++ (valsT r.vals ++ [41])
def joinT (l : List GReq) : List UInt8 := Lib.join (l.map textT) [44]
def printL (l : List GReq) : List UInt8 × Int := if reqsE l = 0 then if 300 < (joinT l).length then ([], 2) else (joinT l, 0) else ([], reqsE l)

theorem skip_nil : skipB [] = [] := rfl
theorem skip_at {c : UInt8} {r : List UInt8} (h : c ≠ 32) : skipB (c :: r) = c :: r := by
  unfold skipB
  rw [List.dropWhile_cons_of_neg (by simpa using h)]
theorem skip_blank (r : List UInt8) : skipB (32 :: r) = skipB r := by
  unfold skipB
  rw [List.dropWhile_cons_of_pos (by simp)]
theorem skip_idem (r : List UInt8) : skipB (skipB r) = skipB r := by
  induction r with
  | nil => rfl
  | cons c r ih =>
    by_cases h : c = 32
    · rw [h, skip_blank, ih]
    · rw [skip_at h, skip_at h]
theorem wordB_ne {c x : UInt8} (h : wordB c = true) (hx : wordB x = false) : c ≠ x := fun he => by rw [he, hx] at h; cases h
theorem word_at {w rest : List UInt8} (hw : ∀ c ∈ w, wordB c = true) (hr : rest = [] ∨ ∃ c t, rest = c :: t ∧ wordB c = false) (h0 : w ≠ [] ∨ skipB rest = rest) : wordW (w ++ rest) = w ∧ wordR (w ++ rest) = rest := by
  have h1 : skipB (w ++ rest) = w ++ rest := by
    cases w with
    | nil =>
      rcases h0 with h | h
      · exact absurd rfl h
      · exact h
    | cons c t => exact skip_at (wordB_ne (hw c (List.mem_cons_self ..)) (by decide))
  unfold wordW wordR
  rw [h1, List.takeWhile_append_of_pos hw, List.dropWhile_append_of_pos hw]
  rcases hr with rfl | ⟨c, t, rfl, hc⟩
  · simp
  · rw [List.takeWhile_cons_of_neg (by simp [hc]), List.dropWhile_cons_of_neg (by simp [hc])]
    simp

/-- a key's bytes, a value's -/
theorem isWord_bytes {l : List UInt8} (h : NameP.isWord l = true) : l ≠ [] ∧ ∀ c ∈ l, wordB c = true := by
  unfold NameP.isWord at h
  rw [NameP.made_iff] at h
  obtain ⟨hn, _, _, h3⟩ := h
  refine ⟨hn, fun c hc => ?_⟩
  unfold wordB
  rcases h3 c hc with h | h <;> simp [h]
theorem judge_zero {n most : Nat} {b : Bool} (h : NameP.judge n most b = 0) : n ≤ most ∧ b = true := by
  unfold NameP.judge at h
  by_cases h1 : most < n
  · rw [if_pos h1] at h; cases h
  · rw [if_neg h1] at h
    cases b with
    | true => exact ⟨by omega, rfl⟩
    | false => rw [if_neg (by simp)] at h; cases h
theorem index_take {s : List UInt8} (h : 0 ≤ Lib.index s [47]) : s = s.take (Lib.index s [47]).toNat ++ 47 :: s.drop ((Lib.index s [47]).toNat + 1) := by
  rcases Lib.index_spec s [47] with ⟨h1, _⟩ | ⟨i, h1, _, h3, _⟩
  · omega
  · rw [h1]
    have h4 := Lib.occAt_head rfl h3
    have h5 := (List.getElem?_eq_some_iff.1 h4).1
    have h6 := (List.getElem?_eq_some_iff.1 h4).2
    show s = s.take (i : Int).toNat ++ _
    rw [Int.toNat_natCast, ← h6, ← List.drop_eq_getElem_cons h5, List.take_append_drop]
theorem key_bytes {s : ByteArray} (h : keyE s = 0) : s.data.toList ≠ [] ∧ ∀ c ∈ s.data.toList, wordB c = true := by
  unfold keyE NameP.checkKey at h
  have h1 := (judge_zero h).2
  unfold NameP.keyGood Lib.cut at h1
  by_cases hi : 0 ≤ Lib.index s.data.toList [47]
  · rw [if_pos hi] at h1
    simp only [if_true, Bool.and_eq_true, List.all_eq_true] at h1
    have hs := index_take hi
    generalize s.data.toList.take (Lib.index s.data.toList [47]).toNat = a at hs h1
    obtain ⟨hb, hw⟩ := isWord_bytes h1.2.2
    simp only [List.length_cons, List.length_nil, Nat.zero_add] at hb hw
    generalize s.data.toList.drop ((Lib.index s.data.toList [47]).toNat + 1) = b at hs hb hw
    rw [hs]
    refine ⟨by simp, fun c hc => ?_⟩
    rcases List.mem_append.1 hc with hc | hc
    · have hj := splitL_join 46 a
      have hc2 : c ∈ (46 : UInt8) :: a := List.mem_cons_of_mem _ hc
      rw [← hj] at hc2
      obtain ⟨p, hp, hc3⟩ := List.mem_flatMap.1 hc2
      rcases List.mem_cons.1 hc3 with rfl | hc4
      · decide
      · have hp2 := h1.1 p hp
        unfold NameP.part at hp2
        simp only [Bool.and_eq_true] at hp2
        exact (isWord_bytes (NameP.isName_word hp2.2)).2 c hc4
    · rcases List.mem_cons.1 hc with rfl | hc
      · decide
      · exact hw c hc
  · rw [if_neg hi] at h1
    simp only [Bool.false_eq_true, if_false, Bool.and_eq_true] at h1
    exact isWord_bytes h1.2
theorem val_bytes {s : ByteArray} (h : valE s = 0) : ∀ c ∈ s.data.toList, wordB c = true := by
  unfold valE NameP.checkVal at h
  have h1 := (judge_zero h).2
  rw [Bool.or_eq_true] at h1
  rcases h1 with h1 | h1
  · rw [List.isEmpty_iff.1 h1]; intro c hc; cases hc
  · exact (isWord_bytes h1).2
end QP
end Go.Proofs.YtlbolbkikkiifaaGreatDoor
/- A scan over a text: the bytes that a test lets pass. Any program. -/
namespace Go.Proofs.YtlbolbkikkiifaaGreatDoor
open Go

theorem drop_at {s : ByteArray} {i : Nat} (h : i < s.size) : s.data.toList.drop i = s[i] :: s.data.toList.drop (i + 1) := by
  have hl : s.data.toList.length = s.size := by simp
  rw [List.drop_eq_getElem_cons (by omega)]
  rfl
theorem drop_end {s : ByteArray} {i : Nat} (h : s.size ≤ i) : s.data.toList.drop i = [] := by
  have hl : s.data.toList.length = s.size := by simp
  exact List.drop_eq_nil_of_le (by omega)
/-- from a to i all pass -/
structure Runs (p : UInt8 → Bool) (s : ByteArray) (a i : Nat) : Prop where
  le : a ≤ i
  room : i ≤ s.size
  drop : (s.data.toList.drop a).dropWhile p = (s.data.toList.drop i).dropWhile p
  take : (s.data.toList.drop a).takeWhile p = (s.data.toList.drop a).take (i - a) ++ (s.data.toList.drop i).takeWhile p
theorem Runs.start (p : UInt8 → Bool) {s : ByteArray} {a : Nat} (h : a ≤ s.size) : Runs p s a a := ⟨Nat.le_refl _, h, rfl, by simp⟩
theorem Runs.step {p : UInt8 → Bool} {s : ByteArray} {a i : Nat} (h : Runs p s a i) (hi : i < s.size) (hp : p s[i] = true) : Runs p s a (i + 1) := by
  obtain ⟨h1, h2, h3, h4⟩ := h
  refine ⟨by omega, by omega, ?_, ?_⟩
  · rw [h3, drop_at hi, List.dropWhile_cons_of_pos hp]
  · rw [h4, drop_at hi, List.takeWhile_cons_of_pos hp]
    have : (s.data.toList.drop a).take (i + 1 - a) = (s.data.toList.drop a).take (i - a) ++ [s[i]] := by
      rw [show i + 1 - a = (i - a) + 1 by omega, List.take_add_one, List.getElem?_drop, show a + (i - a) = i by omega]
      have hl : s.data.toList.length = s.size := by simp
      rw [List.getElem?_eq_getElem (by omega)]
      rfl
    rw [this, List.append_assoc]
    rfl
theorem Runs.stop {p : UInt8 → Bool} {s : ByteArray} {a i : Nat} (h : Runs p s a i) (hi : ∀ h : i < s.size, p s[i] = false) :
    (s.data.toList.drop a).dropWhile p = s.data.toList.drop i ∧ (s.data.toList.drop a).takeWhile p = (s.data.toList.drop a).take (i - a) := by
  obtain ⟨h1, h2, h3, h4⟩ := h
  by_cases hl : i < s.size
  · rw [drop_at hl] at h3 h4
    rw [List.dropWhile_cons_of_neg (by rw [hi hl]; simp), ← drop_at hl] at h3
    rw [List.takeWhile_cons_of_neg (by rw [hi hl]; simp), List.append_nil] at h4
    exact ⟨h3, h4⟩
  · rw [drop_end (i := i) (by omega)] at h3 h4 ⊢
    exact ⟨h3, by simpa using h4⟩
/-- the first byte is let pass just if the scan went on -/
theorem Runs.moved {p : UInt8 → Bool} {s : ByteArray} {a i : Nat} (h : Runs p s a i) (hi : ∀ h : i < s.size, p s[i] = false) (ha : a < s.size) : decide (a < i) = p s[a] := by
  have h4 := (h.stop hi).2
  rw [drop_at ha] at h4
  cases hp : p s[a] with
  | true =>
    rw [List.takeWhile_cons_of_pos hp] at h4
    by_cases hai : a < i
    · exact decide_eq_true hai
    · rw [show i - a = 0 by omega] at h4; simp at h4
  | false =>
    rw [List.takeWhile_cons_of_neg (by rw [hp]; simp)] at h4
    by_cases hai : a < i
    · obtain ⟨k, hk⟩ : ∃ k, i - a = k + 1 := ⟨i - a - 1, by omega⟩
      rw [hk] at h4; simp at h4
    · exact decide_eq_false hai
/-- s[a:i] -/
theorem extract_take {s : ByteArray} {a i : Nat} (h1 : a ≤ i) (h2 : i ≤ s.size) : (s.extract a i).data.toList = (s.data.toList.drop a).take (i - a) := by
  simp [ByteArray.data_extract]
end Go.Proofs.YtlbolbkikkiifaaGreatDoor
/- One block may have turned, no other that was there. Any program. -/
namespace Go.Proofs.YtlbolbkikkiifaaGreatDoor
open Go.RowKit

/-- one block may have turned, no other that was there -/
structure But (g : Nat) (w w' : World) : Prop where
  os : w'.os = w.os
  tape : w'.tape = w.tape
  output : w'.output = w.output
  size : w.heap.size ≤ w'.heap.size
  block : ∀ k, k < w.heap.size → k ≠ g → w'.heap[k]? = w.heap[k]?
theorem But.refl (g : Nat) (w : World) : But g w w := ⟨rfl, rfl, rfl, Nat.le_refl _, fun _ _ _ => rfl⟩
theorem But.trans {g : Nat} {a b c : World} (h : But g a b) (k : But g b c) : But g a c :=
  ⟨k.os.trans h.os, k.tape.trans h.tape, k.output.trans h.output, Nat.le_trans h.size k.size, fun q hq hn => (k.block q (Nat.lt_of_lt_of_le hq h.size) hn).trans (h.block q hq hn)⟩
theorem But.of {g : Nat} {w w' : World} (h : Below w.heap.size w w') : But g w w' := ⟨h.os, h.tape, h.output, h.size, fun k hk _ => h.block k hk⟩
theorem But.touch {g : Nat} {w w' : World} (h : Touch g w w') : But g w w' := ⟨h.os, h.tape, h.output, by rw [h.size]; exact Nat.le_refl _, fun k _ hn => h.other k hn⟩
theorem But.below {g B : Nat} {a w w' : World} (h : But g w w') (hb : Below B a w) (hB : B ≤ w.heap.size) (hg : B ≤ g) : Below B a w' :=
  hb.trans ⟨h.os, h.tape, h.output, h.size, fun k hk => h.block k (by omega) (by omega)⟩
theorem But.keep {g k : Nat} {w w' : World} {x : Obj} (h : But g w w') (hx : w.heap[k]? = some x) (hn : k ≠ g) : w'.heap[k]? = some x := by
  have hb : k < w.heap.size := by
    rcases Nat.lt_or_ge k w.heap.size with h1 | h1
    · exact h1
    · rw [Array.getElem?_eq_none h1] at hx; cases hx
  exact (h.block k hb hn).trans hx
theorem But.cell {g : Nat} {w w' : World} {p : Addr} (h : But g w w') (hp : p.block < w.heap.size) (hn : p.block ≠ g) : w'.cell? p = w.cell? p := by
  unfold World.cell?
  rw [h.block _ hp hn]
section
variable {α : Type} {R : Rd α} {k : Nat} {e : TypeId} {v : Value} {l : List α} {B g : Nat} {w w' : World}
theorem OwnAt.but (hf : Flat R) (h : OwnAt R k w B e v l) (hb : But g w w') (hne : ∀ q, v.ownBlock = some q → q ≠ g) : OwnAt R k w' B e v l := by
  obtain ⟨css, h1, h2, h3, h4⟩ := h
  refine ⟨css, h1, h2, ⟨h3.1, ?_⟩, fun j cs y hcs hy => hf _ _ _ _ (h4 j cs y hcs hy)⟩
  rcases h3.2 with h5 | ⟨q, cap, cur, rfl, hB, hh, hr⟩
  · exact .inl h5
  · exact .inr ⟨q, cap, cur, rfl, hB, hb.keep hh (hne q rfl), hr⟩
theorem OwnAt.butLow (hf : Flat R) (h : OwnAt R k w B e v l) (hb : But g w w') (hg : g < B) : OwnAt R k w' B e v l :=
  h.but hf hb fun q hq => by have := (h.at hq).1; omega
end
end Go.Proofs.YtlbolbkikkiifaaGreatDoor
/- query: the parser's first methods. -/
namespace Go.Proofs.YtlbolbkikkiifaaGreatDoor
open Go.RowKit
open QP

theorem wordB_eq (c : UInt8) (n : Nat) (hn : c.toNat = n) (h256 : n < 256) (k : Int) (hk : Lib.indexByte [45, 95, 46, 47] c = k) : wordB c = (decide ((97 ≤ n ∧ n ≤ 122) ∨ (65 ≤ n ∧ n ≤ 90) ∨ (48 ≤ n ∧ n ≤ 57)) || decide (0 ≤ k)) := by
  subst hk
  have hc : c = n.toUInt8 := by rw [← hn]; simp
  have all : ∀ m : Fin 256, wordB m.val.toUInt8 = (decide ((97 ≤ m.val ∧ m.val ≤ 122) ∨ (65 ≤ m.val ∧ m.val ≤ 90) ∨ (48 ≤ m.val ∧ m.val ≤ 57)) || decide (0 ≤ Lib.indexByte [45, 95, 46, 47] m.val.toUInt8)) := by decide +kernel
  rw [hc]
  exact all ⟨n, h256⟩
theorem ret_bool {a b : Bool} (h : a = b) : Ending.returned (.bool a) = .returned (.bool b) := by rw [h]
set_option maxRecDepth 100000 in
set_option maxHeartbeats 1600000 in
theorem isWordQ_any (c : UInt8) (w : World) : Calls Tryz.prog 90 #[.int .u8 (c.toNat : Int)] w fun e w' => e = .returned (.bool (wordB c)) ∧ w' = w := by
  obtain ⟨n, hn⟩ : ∃ n : Nat, c.toNat = n := ⟨_, rfl⟩
  have hc : ((n : Int).toNat.toUInt8) = c := by rw [← hn]; simp
  have h256 : n < 256 := by rw [← hn]; exact c.toNat_lt
  obtain ⟨k, hk⟩ : ∃ k, Lib.indexByte [45, 95, 46, 47] c = k := ⟨_, rfl⟩
  have Hb := Lib.hid (wordB_eq c n hn h256 k hk)
  have Hk : Hid (Lib.indexByte [45, 95, 46, 47] ((n : Int).toNat.toUInt8) = k) := Lib.hid (by rw [hc]; exact hk)
  rw [hn]
  clear hk hc hn
  have way : (97 ≤ n ∧ n ≤ 122) ∨ (122 < n) ∨ (65 ≤ n ∧ n ≤ 90) ∨ (90 < n ∧ n < 97) ∨ (48 ≤ n ∧ n ≤ 57) ∨ (57 < n ∧ n < 65) ∨ (n < 48) := by omega
  rcases way with h | h | h | h | h | h | h
  · have pa : (97 : Int) ≤ (n : Int) := by omega
    have pb : (n : Int) ≤ 122 := by omega
    have Hr : Hid (wordB c = true) := Lib.hid (by rw [Hb.out, decide_eq_true (by omega)]; rfl)
    clear h Hb
    go_enter Tryz.func90, Tryz.ntmps90
    go_wp2_with fail
    go_ret
    exact ⟨ret_bool Hr.out.symm, rfl⟩
  · have pa : (97 : Int) ≤ (n : Int) := by omega
    have pb : ¬ (n : Int) ≤ 122 := by omega
    have pc : (65 : Int) ≤ (n : Int) := by omega
    have pd : ¬ (n : Int) ≤ 90 := by omega
    have pe : (48 : Int) ≤ (n : Int) := by omega
    have pf : ¬ (n : Int) ≤ 57 := by omega
    have Hr : Hid (wordB c = decide (0 ≤ k)) := Lib.hid (by rw [Hb.out, decide_eq_false (by omega)]; rfl)
    clear h Hb
    go_enter Tryz.func90, Tryz.ntmps90
    go_wp2_with fail
    refine (Tryz.strings_IndexByte _ _ _).mono ?_
    rintro E w1 ⟨rfl, rfl⟩
    rw [show (⟨#[45, 95, 46, 47]⟩ : ByteArray).data.toList = [45, 95, 46, 47] from rfl, Hk.out]
    go_wp2_with fail
    go_ret
    exact ⟨ret_bool Hr.out.symm, rfl⟩
  · have pa : ¬ (97 : Int) ≤ (n : Int) := by omega
    have pc : (65 : Int) ≤ (n : Int) := by omega
    have pd : (n : Int) ≤ 90 := by omega
    have Hr : Hid (wordB c = true) := Lib.hid (by rw [Hb.out, decide_eq_true (by omega)]; rfl)
    clear h Hb
    go_enter Tryz.func90, Tryz.ntmps90
    go_wp2_with fail
    go_ret
    exact ⟨ret_bool Hr.out.symm, rfl⟩
  · have pa : ¬ (97 : Int) ≤ (n : Int) := by omega
    have pc : (65 : Int) ≤ (n : Int) := by omega
    have pd : ¬ (n : Int) ≤ 90 := by omega
    have pe : (48 : Int) ≤ (n : Int) := by omega
    have pf : ¬ (n : Int) ≤ 57 := by omega
    have Hr : Hid (wordB c = decide (0 ≤ k)) := Lib.hid (by rw [Hb.out, decide_eq_false (by omega)]; rfl)
    clear h Hb
    go_enter Tryz.func90, Tryz.ntmps90
    go_wp2_with fail
    refine (Tryz.strings_IndexByte _ _ _).mono ?_
    rintro E w1 ⟨rfl, rfl⟩
    rw [show (⟨#[45, 95, 46, 47]⟩ : ByteArray).data.toList = [45, 95, 46, 47] from rfl, Hk.out]
    go_wp2_with fail
    go_ret
    exact ⟨ret_bool Hr.out.symm, rfl⟩
  · have pa : ¬ (97 : Int) ≤ (n : Int) := by omega
    have pc : ¬ (65 : Int) ≤ (n : Int) := by omega
    have pe : (48 : Int) ≤ (n : Int) := by omega
    have pf : (n : Int) ≤ 57 := by omega
    have Hr : Hid (wordB c = true) := Lib.hid (by rw [Hb.out, decide_eq_true (by omega)]; rfl)
    clear h Hb
    go_enter Tryz.func90, Tryz.ntmps90
    go_wp2_with fail
    go_ret
    exact ⟨ret_bool Hr.out.symm, rfl⟩
  · have pa : ¬ (97 : Int) ≤ (n : Int) := by omega
    have pc : ¬ (65 : Int) ≤ (n : Int) := by omega
    have pe : (48 : Int) ≤ (n : Int) := by omega
    have pf : ¬ (n : Int) ≤ 57 := by omega
    have Hr : Hid (wordB c = decide (0 ≤ k)) := Lib.hid (by rw [Hb.out, decide_eq_false (by omega)]; rfl)
    clear h Hb
    go_enter Tryz.func90, Tryz.ntmps90
    go_wp2_with fail
    refine (Tryz.strings_IndexByte _ _ _).mono ?_
    rintro E w1 ⟨rfl, rfl⟩
    rw [show (⟨#[45, 95, 46, 47]⟩ : ByteArray).data.toList = [45, 95, 46, 47] from rfl, Hk.out]
    go_wp2_with fail
    go_ret
    exact ⟨ret_bool Hr.out.symm, rfl⟩
  · have pa : ¬ (97 : Int) ≤ (n : Int) := by omega
    have pc : ¬ (65 : Int) ≤ (n : Int) := by omega
    have pe : ¬ (48 : Int) ≤ (n : Int) := by omega
    have Hr : Hid (wordB c = decide (0 ≤ k)) := Lib.hid (by rw [Hb.out, decide_eq_false (by omega)]; rfl)
    clear h Hb
    go_enter Tryz.func90, Tryz.ntmps90
    go_wp2_with fail
    refine (Tryz.strings_IndexByte _ _ _).mono ?_
    rintro E w1 ⟨rfl, rfl⟩
    rw [show (⟨#[45, 95, 46, 47]⟩ : ByteArray).data.toList = [45, 95, 46, 47] from rfl, Hk.out]
    go_wp2_with fail
    go_ret
    exact ⟨ret_bool Hr.out.symm, rfl⟩

/-- the parser: it stands at a -/
def ParAt (g : Nat) (s : ByteArray) (bad : Bool) (a : Nat) (w : World) : Prop := w.heap[g]? = some (.cells #[.string s, .int .i64 (a : Int), .bool bad] 72 (0, 0))
/-- the parser: what is left -/
def Par (g : Nat) (s : ByteArray) (bad : Bool) (r : List UInt8) (w : World) : Prop := ∃ a, a ≤ s.size ∧ s.data.toList.drop a = r ∧ ParAt g s bad a w
theorem Par.drew {g : Nat} {s : ByteArray} {bad : Bool} {r : List UInt8} {w : World} (h : Par g s bad r w) (n : Nat) : Par g s bad r (w.drewN n) := h
theorem But.drew {g : Nat} {w w' : World} (h : But g w w') (n : Nat) : But g w (w'.drewN n) := ⟨h.os, h.tape, h.output, h.size, h.block⟩

set_option maxRecDepth 100000 in
set_option maxHeartbeats 1600000 in
theorem over_any (g : Nat) (s : ByteArray) (bad : Bool) (a : Nat) (w : World) (h : ParAt g s bad a w) (ha : a ≤ s.size) (hs : s.size ≤ 1048576) :
    Calls Tryz.prog 34 #[.pointer (some ⟨g, 0, none⟩)] w fun e w' => e = .returned (.bool (decide (a = s.size))) ∧ ∃ n, w' = w.drewN n := by
  have c0 : w.cell? ⟨g, 0, none⟩ = some (.string s) := cell_block h 0
  have c1 : w.cell? ⟨g, 1, none⟩ = some (.int .i64 (a : Int)) := cell_block h 1
  clear h
  by_cases he : a = s.size
  · have q : ((a : Int) == (s.size : Int)) = true := by rw [beq_iff_eq]; omega
    have Hr : Hid (decide (a = s.size) = true) := Lib.hid (decide_eq_true he)
    rw [Hr.out]
    clear he
    go_enter Tryz.func34, Tryz.ntmps34
    go_wp2_with fail
    go_quiet (fail)
    go_wp2_with fail
    go_ret
    exact ⟨rfl, _, rfl⟩
  · have q : ((a : Int) == (s.size : Int)) = false := by rw [beq_eq_false_iff_ne]; omega
    have Hr : Hid (decide (a = s.size) = false) := Lib.hid (decide_eq_false he)
    rw [Hr.out]
    clear he
    go_enter Tryz.func34, Tryz.ntmps34
    go_wp2_with fail
    go_quiet (fail)
    go_wp2_with fail
    go_ret
    exact ⟨rfl, _, rfl⟩

/-- a blank run from a to i -/
abbrev isBlank (c : UInt8) : Bool := c == 32
theorem blank_val {s : ByteArray} {i : Nat} (hi : i < s.size) {b : Bool} (h : isBlank s[i] = b) : ((s[i].toNat : Int) == 32) = b := by
  have : ((s[i].toNat : Int) == 32) = (s[i] == 32) := by
    rw [Bool.eq_iff_iff, beq_iff_eq, beq_iff_eq]
    constructor
    · intro e
      have h32 : (32 : UInt8).toNat = 32 := rfl
      have : s[i].toNat = (32 : UInt8).toNat := by omega
      exact UInt8.toNat_inj.1 this
    · intro e; rw [e]; rfl
  rw [this]; exact h
theorem moved_head {s : ByteArray} {a i : Nat} (h : Runs isBlank s a i) (hi : ∀ h : i < s.size, isBlank s[i] = false) : decide (a < i) = headIs 32 (s.data.toList.drop a) := by
  by_cases ha : a < s.size
  · rw [h.moved hi ha, drop_at ha]; rfl
  · rw [drop_end (by omega)]
    have := h.room
    exact decide_eq_false (by omega)
set_option maxRecDepth 100000 in
set_option maxHeartbeats 3200000 in
theorem blanks_any (g : Nat) (s : ByteArray) (bad : Bool) (r : List UInt8) (w : World) (h : Par g s bad r w) (hs : s.size ≤ 1048576) :
    Calls Tryz.prog 33 #[.pointer (some ⟨g, 0, none⟩)] w fun e w' => e = .returned (.bool (headIs 32 r)) ∧ Par g s bad (skipB r) w' ∧ But g w w' := by
  obtain ⟨a, ha, rfl, h⟩ := h
  have c0 : w.cell? ⟨g, 1, none⟩ = some (.int .i64 (a : Int)) := cell_block h 1
  have H := Lib.hid h
  clear h
  go_enter Tryz.func33, Tryz.ntmps33
  go_wp2_with fail
  clear c0
  go_loopg [] (s.size - a) (fun k wr => ∃ i : Nat, i + k = s.size ∧ Hid (Runs isBlank s a i) ∧ Hid (ParAt g s bad i wr) ∧ Hid (But g w wr))
  case atStart => exact ⟨a, by omega, Lib.hid (Runs.start _ ha), H, Lib.hid (But.refl _ _)⟩
  case round =>
    obtain ⟨i, hig, HR, HP, HB⟩ := hrel
    have h0 : wr.cell? ⟨g, 0, none⟩ = some (.string s) := cell_block HP.out 0
    have h1 : wr.cell? ⟨g, 1, none⟩ = some (.int .i64 (i : Int)) := cell_block HP.out 1
    have hz : wr.frozen? ⟨g, 1, none⟩ = false := free_block HP.out 1
    cases gk with
    | zero =>
      have hi : i = s.size := by omega
      have q0 : decide (i < s.size) = false := decide_eq_false (by omega)
      have Hm := Lib.hid (moved_head HR.out (fun h => absurd h (by omega)))
      have Hs := Lib.hid (HR.out.stop (fun h => absurd h (by omega))).1
      clear hi hig
      go_wp2_with fail
      go_quiet (fail)
      go_wp2_with fail
      go_ret
      exact ⟨ret_bool Hm.out, ⟨i, HR.out.room, Hs.out.symm, HP.out⟩, HB.out.drew _⟩
    | succ k =>
      have hil : i < s.size := by omega
      have q0 : decide (i < s.size) = true := decide_eq_true hil
      have q1 : (i : Int) < (s.size : Int) := by omega
      have q2 : (0 : Int) ≤ (i : Int) := by omega
      cases hb : isBlank s[i] with
      | false =>
        have q3 := blank_val hil hb
        have Hm := Lib.hid (moved_head HR.out (fun h => hb))
        have Hs := Lib.hid (HR.out.stop (fun h => hb)).1
        clear hb hig
        go_wp2_with fail
        go_quiet (fail)
        go_wp2_with fail
        go_ret
        exact ⟨ret_bool Hm.out, ⟨i, HR.out.room, Hs.out.symm, HP.out⟩, HB.out.drew _⟩
      | true =>
        have q3 := blank_val hil hb
        have HR2 := Lib.hid (HR.out.step hil hb)
        clear hb
        go_wp2_with fail
        go_quiet (fail)
        go_wp2_with fail
        obtain ⟨t1, t2⟩ := touch_setCell (i := 1) (v := .int .i64 ((i : Int) + 1)) HP.out
        go_roundg k
        case measure => omega
        case rel => exact ⟨i + 1, by omega, HR2, Lib.hid (by unfold ParAt; rw [show ((i + 1 : Nat) : Int) = (i : Int) + 1 by omega]; exact t1), Lib.hid ((HB.out.trans (But.touch t2)).drew _)⟩
end Go.Proofs.YtlbolbkikkiifaaGreatDoor
/- query: the parser's has, word. -/
namespace Go.Proofs.YtlbolbkikkiifaaGreatDoor
open Go.RowKit
open QP

/-- what comes next, if it is the sign, is passed -/
def hasR (sg r : List UInt8) : List UInt8 := if Lib.hasPrefix r sg = true then r.drop sg.length else r
theorem hasPrefix_extract (s sg : ByteArray) (a : Nat) (ha : a ≤ s.size) (w : World) {b : Bool} (hb : Lib.hasPrefix (s.data.toList.drop a) sg.data.toList = b) :
    Calls Tryz.prog 56 #[.string (s.extract a s.size), .string sg] w fun e w' => e = .returned (.bool b) ∧ w' = w := by
  have h := Tryz.strings_HasPrefix (s.extract a s.size) sg w
  rw [extract_take ha (Nat.le_refl _), List.take_of_length_le (by simp), hb] at h
  exact h
theorem hasPrefix_room {r sg : List UInt8} (h : Lib.hasPrefix r sg = true) : sg.length ≤ r.length := by
  unfold Lib.hasPrefix at h
  exact (List.isPrefixOf_iff_prefix.1 h).length_le
set_option maxRecDepth 100000 in
set_option maxHeartbeats 3200000 in
theorem has_any (g : Nat) (s : ByteArray) (bad : Bool) (r : List UInt8) (sg : ByteArray) (w : World) (h : Par g s bad r w) (hs : s.size ≤ 1048576) :
    Calls Tryz.prog 36 #[.pointer (some ⟨g, 0, none⟩), .string sg] w fun e w' => e = .returned (.bool (Lib.hasPrefix r sg.data.toList)) ∧ Par g s bad (hasR sg.data.toList r) w' ∧ But g w w' := by
  obtain ⟨a, ha, rfl, h⟩ := h
  have c0 : w.cell? ⟨g, 0, none⟩ = some (.string s) := cell_block h 0
  have c1 : w.cell? ⟨g, 1, none⟩ = some (.int .i64 (a : Int)) := cell_block h 1
  have hz : w.frozen? ⟨g, 1, none⟩ = false := free_block h 1
  have H := Lib.hid h
  have q1 : (0 : Int) ≤ (a : Int) := by omega
  have q2 : (a : Int) ≤ (s.size : Int) := by omega
  obtain ⟨b, hb⟩ : ∃ b, Lib.hasPrefix (s.data.toList.drop a) sg.data.toList = b := ⟨_, rfl⟩
  have HC := fun w => Lib.hid (hasPrefix_extract s sg a ha w hb)
  have hl : s.data.toList.length = s.size := by simp
  have hsl : sg.data.toList.length = sg.size := by simp
  rw [hb]
  cases b with
  | false =>
    have Hr : Hid (hasR sg.data.toList (s.data.toList.drop a) = s.data.toList.drop a) := Lib.hid (by unfold hasR; rw [hb]; rfl)
    clear h hb hl hsl
    go_enter Tryz.func36, Tryz.ntmps36
    go_wp2_with fail
    go_quiet ((go_at_call 56; exact Calls.quiet_of_same (HC _).out))
    go_wp2_with fail
    go_ret
    exact ⟨rfl, by rw [Hr.out]; exact ⟨a, ha, rfl, H.out⟩, (But.refl _ _).drew _⟩
  | true =>
    have hroom := hasPrefix_room hb
    rw [List.length_drop, hl, hsl] at hroom
    have Hr : Hid (hasR sg.data.toList (s.data.toList.drop a) = s.data.toList.drop (a + sg.size)) := Lib.hid (by unfold hasR; rw [hb, if_pos rfl, hsl, List.drop_drop])
    have hk : a + sg.size ≤ s.size := by omega
    clear h hb hl hsl hroom
    go_enter Tryz.func36, Tryz.ntmps36
    go_wp2_with fail
    go_quiet ((go_at_call 56; exact Calls.quiet_of_same (HC _).out))
    go_wp2_with fail
    obtain ⟨t1, t2⟩ := touch_setCell (i := 1) (v := .int .i64 ((a : Int) + (sg.size : Int))) H.out
    go_ret
    refine ⟨rfl, ?_, ((But.touch t2).drew _)⟩
    rw [Hr.out]
    refine ⟨a + sg.size, hk, rfl, ?_⟩
    unfold ParAt
    rw [show ((a + sg.size : Nat) : Int) = (a : Int) + (sg.size : Int) by omega]
    exact t1
end Go.Proofs.YtlbolbkikkiifaaGreatDoor
/- query: the parser's word. -/
namespace Go.Proofs.YtlbolbkikkiifaaGreatDoor
open Go.RowKit
open QP

theorem word_text {s : ByteArray} {a i : Nat} {r : List UInt8} (h : Runs wordB s a i) (hi : ∀ h : i < s.size, wordB s[i] = false) (hr : s.data.toList.drop a = skipB r) : s.extract a i = wordS r ∧ s.data.toList.drop i = wordR r := by
  obtain ⟨h1, h2⟩ := h.stop hi
  rw [hr] at h1 h2
  refine ⟨?_, h1.symm⟩
  have h3 := extract_take (s := s) h.le h.room
  rw [hr, ← h2] at h3
  unfold wordS wordW
  rw [← h3, mk_toList']
where
  mk_toList' {s : ByteArray} : (⟨s.data.toList.toArray⟩ : ByteArray) = s := by cases s; simp
set_option maxRecDepth 100000 in
set_option maxHeartbeats 3200000 in
theorem word_any (g : Nat) (s : ByteArray) (bad : Bool) (r : List UInt8) (w : World) (h : Par g s bad r w) (hs : s.size ≤ 1048576) :
    Calls Tryz.prog 54 #[.pointer (some ⟨g, 0, none⟩)] w fun e w' => e = .returned (.tuple #[.string (wordS r), .bool (headIs 32 (wordR r))]) ∧ Par g s bad (wordE r) w' ∧ But g w w' := by
  have H := Lib.hid h
  clear h
  go_enter Tryz.func54, Tryz.ntmps54
  go_wp2_with fail
  refine (blanks_any g s bad r w H.out hs).mono ?_
  rintro E w1 ⟨rfl, ⟨a, ha, hr, hp⟩, hb⟩
  have c1 : w1.cell? ⟨g, 1, none⟩ = some (.int .i64 (a : Int)) := cell_block hp 1
  have HP := Lib.hid hp
  have HB := Lib.hid hb
  have Hr := Lib.hid hr
  clear hp hb hr
  go_wp2_with fail
  clear c1
  go_loopg [] (s.size - a) (fun k wr => ∃ i : Nat, i + k = s.size ∧ Hid (Runs wordB s a i) ∧ Hid (ParAt g s bad i wr) ∧ Hid (But g w wr))
  case atStart => exact ⟨a, by omega, Lib.hid (Runs.start _ ha), HP, HB⟩
  case round =>
    obtain ⟨i, hig, HR, HP, HB⟩ := hrel
    have h0 : wr.cell? ⟨g, 0, none⟩ = some (.string s) := cell_block HP.out 0
    have h1 : wr.cell? ⟨g, 1, none⟩ = some (.int .i64 (i : Int)) := cell_block HP.out 1
    have hz : wr.frozen? ⟨g, 1, none⟩ = false := free_block HP.out 1
    have q2 : (0 : Int) ≤ (i : Int) := by omega
    have q4 : (a : Int) ≤ (i : Int) := by have := HR.out.le; omega
    have q5 : (i : Int) ≤ (s.size : Int) := by omega
    have q6 : (0 : Int) ≤ (a : Int) := by omega
    cases gk with
    | zero =>
      have hi : i = s.size := by omega
      have q0 : decide (i < s.size) = false := decide_eq_false (by omega)
      obtain ⟨t1, t2⟩ := word_text HR.out (fun h => absurd h (by omega)) Hr.out
      have T1 := Lib.hid t1
      have T2 := Lib.hid t2
      clear hi hig t1 t2
      go_wp2_with fail
      go_quiet (fail)
      go_wp2_with fail
      go_quiet (fail)
      go_wp2_with fail
      refine (blanks_any g s bad _ _ (Par.drew (r := s.data.toList.drop i) (w := wr) ⟨i, HR.out.room, rfl, HP.out⟩ _) hs).mono ?_
      rintro E w2 ⟨rfl, hp2, hb2⟩
      rw [T2.out]
      rw [T2.out] at hp2
      have HP2 := Lib.hid hp2
      have HB2 := Lib.hid ((HB.out.drew _).trans hb2)
      clear hp2 hb2 h0 h1 hz
      go_wp2_with fail
      go_ret2
      exact ⟨congrArg (fun t => Ending.returned (.tuple #[.string t, .bool (headIs 32 (wordR r))])) T1.out, HP2.out, HB2.out⟩
    | succ k =>
      have hil : i < s.size := by omega
      have q0 : decide (i < s.size) = true := decide_eq_true hil
      have q1 : (i : Int) < (s.size : Int) := by omega
      cases hb : wordB s[i] with
      | false =>
        obtain ⟨t1, t2⟩ := word_text HR.out (fun h => hb) Hr.out
        have T1 := Lib.hid t1
        have T2 := Lib.hid t2
        have HW := fun w => Lib.hid (isWordQ_any s[i] w)
        rw [hb] at HW
        clear hig t1 t2 hb
        go_wp2_with fail
        go_quiet ((go_at_call 90; exact Calls.quiet_of_same (HW _).out))
        go_wp2_with fail
        go_quiet (fail)
        go_wp2_with fail
        refine (blanks_any g s bad _ _ (Par.drew (r := s.data.toList.drop i) (w := wr) ⟨i, HR.out.room, rfl, HP.out⟩ _) hs).mono ?_
        rintro E w2 ⟨rfl, hp2, hb2⟩
        rw [T2.out]
        rw [T2.out] at hp2
        have HP2 := Lib.hid hp2
        have HB2 := Lib.hid ((HB.out.drew _).trans hb2)
        clear hp2 hb2 h0 h1 hz
        go_wp2_with fail
        go_ret2
        exact ⟨congrArg (fun t => Ending.returned (.tuple #[.string t, .bool (headIs 32 (wordR r))])) T1.out, HP2.out, HB2.out⟩
      | true =>
        have HR2 := Lib.hid (HR.out.step hil hb)
        have HW := fun w => Lib.hid (isWordQ_any s[i] w)
        rw [hb] at HW
        clear hb
        go_wp2_with fail
        go_quiet ((go_at_call 90; exact Calls.quiet_of_same (HW _).out))
        go_wp2_with fail
        obtain ⟨t1, t2⟩ := touch_setCell (i := 1) (v := .int .i64 ((i : Int) + 1)) HP.out
        go_roundg k
        case measure => omega
        case rel => exact ⟨i + 1, by omega, HR2, Lib.hid (by unfold ParAt; rw [show ((i + 1 : Nat) : Int) = (i : Int) + 1 by omega]; exact t1), Lib.hid ((HB.out.trans (But.touch t2)).drew _)⟩
end Go.Proofs.YtlbolbkikkiifaaGreatDoor
/- query: the parser's list. -/
namespace Go.Proofs.YtlbolbkikkiifaaGreatDoor
open Go.RowKit
open QP

theorem But.thenBelow {g : Nat} {w wx w' : World} (h : But g w wx) (hb : Below w.heap.size wx w') : But g w w' :=
  ⟨hb.os.trans h.os, hb.tape.trans h.tape, hb.output.trans h.output, Nat.le_trans h.size hb.size, fun k hk hn => (hb.block k hk).trans (h.block k hk hn)⟩
theorem Par.below {g : Nat} {s : ByteArray} {bad : Bool} {r : List UInt8} {B : Nat} {w w' : World} (h : Par g s bad r w) (hb : Below B w w') (hg : g < B) : Par g s bad r w' := by
  obtain ⟨a, h1, h2, h3⟩ := h
  exact ⟨a, h1, h2, (hb.block g hg).trans h3⟩
theorem Par.size {g : Nat} {s : ByteArray} {bad : Bool} {r : List UInt8} {w : World} (h : Par g s bad r w) : g < w.heap.size := by
  obtain ⟨a, h1, h2, h3⟩ := h
  rcases Nat.lt_or_ge g w.heap.size with h4 | h4
  · exact h4
  · unfold ParAt at h3; rw [Array.getElem?_eq_none h4] at h3; cases h3
theorem Par.len {g : Nat} {s : ByteArray} {bad : Bool} {r : List UInt8} {w : World} (h : Par g s bad r w) : r.length ≤ s.size := by
  obtain ⟨a, h1, h2, h3⟩ := h
  have hl : s.data.toList.length = s.size := by simp
  rw [← h2, List.length_drop]; omega
theorem hasPrefix_one (c : UInt8) (r : List UInt8) : Lib.hasPrefix r [c] = headIs c r := by
  cases r with
  | nil => rfl
  | cons x t =>
    show (c == x && true) = (x == c)
    rw [Bool.and_true, Bool.eq_iff_iff, beq_iff_eq, beq_iff_eq]
    exact eq_comm
theorem hasR_one (c : UInt8) (r : List UInt8) : hasR [c] r = if headIs c r = true then r.tail else r := by
  unfold hasR
  rw [hasPrefix_one]
  simp
theorem has1_any (g : Nat) (s : ByteArray) (bad : Bool) (r : List UInt8) (c : UInt8) (w : World) (h : Par g s bad r w) (hs : s.size ≤ 1048576) :
    Calls Tryz.prog 36 #[.pointer (some ⟨g, 0, none⟩), .string ⟨#[c]⟩] w fun e w' => e = .returned (.bool (headIs c r)) ∧ Par g s bad (if headIs c r = true then r.tail else r) w' ∧ But g w w' := by
  have h1 := has_any g s bad r ⟨#[c]⟩ w h hs
  rw [show (⟨#[c]⟩ : ByteArray).data.toList = [c] from rfl, hasPrefix_one, hasR_one] at h1
  exact h1
theorem skip_len (r : List UInt8) : (skipB r).length ≤ r.length := by unfold skipB; exact (List.dropWhile_sublist _).length_le
theorem wordE_len (r : List UInt8) : (wordE r).length ≤ r.length := by
  unfold wordE wordR
  exact Nat.le_trans (skip_len _) (Nat.le_trans (List.dropWhile_sublist _).length_le (skip_len _))
theorem tail_len {c : UInt8} {r : List UInt8} (h : headIs c r = true) : r.tail.length < r.length := by
  cases r with
  | nil => cases h
  | cons x t => simp
theorem wordS_size (r : List UInt8) : (wordS r).size ≤ r.length := by
  unfold wordS wordW
  show (((skipB r).takeWhile wordB).toArray).size ≤ _
  rw [List.size_toArray]
  exact Nat.le_trans (List.takeWhile_sublist _).length_le (skip_len _)
/-- what a list is told as -/
def ListTold (g : Nat) (s : ByteArray) (o : Option (List ByteArray × List UInt8)) (v : Value) (vals : List ByteArray) (w' : World) : Prop :=
  match o with
  | some x => vals = x.1 ∧ Par g s false x.2 w'
  | none => vals = [] ∧ v = .slice none 0 0 ∧ ∃ r, Par g s true r w'
theorem par_bad {g : Nat} {s : ByteArray} {bad : Bool} {r : List UInt8} {w : World} (h : Par g s bad r w) : Par g s true r (w.setCell ⟨g, 2, none⟩ (.bool true)) ∧ Touch g w (w.setCell ⟨g, 2, none⟩ (.bool true)) := by
  obtain ⟨a, h1, h2, h3⟩ := h
  obtain ⟨t1, t2⟩ := touch_setCell (i := 2) (v := .bool true) h3
  exact ⟨⟨a, h1, h2, t1⟩, t2⟩
theorem par_cells {g : Nat} {s : ByteArray} {bad : Bool} {r : List UInt8} {w : World} (h : Par g s bad r w) : (w.cell? ⟨g, 2, none⟩ = some (.bool bad)) ∧ w.frozen? ⟨g, 2, none⟩ = false := by
  obtain ⟨a, h1, h2, h3⟩ := h
  exact ⟨cell_block h3 2, free_block h3 2⟩
def ListAt (g : Nat) (s : ByteArray) (r : List UInt8) (w : World) (E : Ending) (w' : World) : Prop :=
  ∃ v vals, E = .returned v ∧ OwnAt RString 1 w' w.heap.size 9 v vals ∧ ListTold g s (listP r) v vals w' ∧ But g w w'
set_option maxRecDepth 100000 in
set_option maxHeartbeats 3200000 in
theorem list_any (g : Nat) (s : ByteArray) (r : List UInt8) (w : World) (h : Par g s false r w) (hs : s.size ≤ 300) :
    Calls Tryz.prog 91 #[.pointer (some ⟨g, 0, none⟩)] w (ListAt g s r w) := by
  obtain ⟨i0, hi0, hz0, hz1, hz2⟩ := info_parts Tryz.infoStr
  have hgw := h.size
  obtain ⟨L, HL⟩ : ∃ L, Hid (listP r = L) := ⟨_, Lib.hid rfl⟩
  have H := Lib.hid h
  clear h
  unfold ListAt
  rw [HL.out]
  have HL2 : Hid ((if headIs 40 (skipB r) = true then listF 400 (skipB r).tail [] else none) = L) := Lib.hid (by rw [← HL.out]; rfl)
  go_enter Tryz.func91, Tryz.ntmps91
  go_wp2_with fail
  refine (blanks_any g s false r w H.out (by omega)).mono ?_
  rintro E w1 ⟨rfl, hp, hb⟩
  have HP1 := Lib.hid hp
  have HB1 := Lib.hid hb
  clear hp hb
  go_wp2_with fail
  refine (has1_any g s false (skipB r) 40 w1 HP1.out (by omega)).mono ?_
  rintro E w2 ⟨rfl, hp, hb⟩
  cases h40 : headIs 40 (skipB r) with
  | false =>
    rw [h40, if_neg (by simp)] at hp
    have HP2 := Lib.hid hp
    have HB2 := Lib.hid (HB1.out.trans hb)
    obtain ⟨c2, z2⟩ := par_cells hp
    have HL3 : Hid (L = none) := Lib.hid (by have := HL2.out; rw [h40, if_neg (by simp)] at this; exact this.symm)
    clear hp hb HL2
    go_wp2_with fail
    obtain ⟨t1, t2⟩ := par_bad HP2.out
    go_ret
    refine ⟨_, [], rfl, OwnAt.nil _, ?_, HB2.out.trans (But.touch t2)⟩
    rw [HL3.out]
    exact ⟨rfl, rfl, _, t1⟩
  | true =>
    rw [h40, if_pos rfl] at hp
    have HP2 := Lib.hid hp
    have HB2 := Lib.hid (HB1.out.trans hb)
    have HL3 : Hid (listF 400 (skipB r).tail [] = L) := Lib.hid (by have := HL2.out; rw [h40, if_pos rfl] at this; exact this)
    have hlen := HP2.out.len
    clear hp hb HL2
    go_wp2_with fail
    go_loopg [3] 400 (fun k u3 wr => ∃ (q : List UInt8) (out : List ByteArray), out.length + k = 400 ∧ q.length < k ∧ Hid (OwnAt RString 1 wr w.heap.size 9 u3 out) ∧ Hid (Par g s false q wr) ∧ Hid (listF k q out = L) ∧ Hid (But g w wr))
    case atStart => exact ⟨(skipB r).tail, [], rfl, by omega, Lib.hid (OwnAt.nil _), HP2, HL3, HB2⟩
    case round =>
      obtain ⟨q, out, hok, hqk, Hout, HP, HLk, HB⟩ := hrel
      cases gk with
      | zero => omega
      | succ k =>
        have hol : out.length ≤ 400 := by omega
        have hbyte : out.length + 1 ≤ 8796093022208 := by omega
        have hqs := HP.out.len
        have hwl := wordE_len q
        have hHB := HB.out.size
        go_wp2_with fail
        refine (word_any g s false q wr HP.out (by omega)).mono ?_
        rintro E w3 ⟨rfl, hp, hb⟩
        have HP3 := Lib.hid hp
        have HB3 := Lib.hid (HB.out.trans hb)
        have Hout3 := Lib.hid (Hout.out.butLow flat_string hb hgw)
        have h3s := HB3.out.size
        obtain ⟨t, Ht⟩ : ∃ t, Hid (wordS q = t) := ⟨_, Lib.hid rfl⟩
        obtain ⟨q3, Hq3⟩ : ∃ q3, Hid (wordE q = q3) := ⟨_, Lib.hid rfl⟩
        rw [Ht.out]
        rw [Hq3.out] at HP3 hwl
        have HLk2 : Hid ((if headIs 44 q3 = true then listF k q3.tail (out ++ [t]) else if headIs 41 q3 = true then some (out ++ [t], skipB q3.tail) else none) = L) := Lib.hid (by rw [← HLk.out, ← Ht.out, ← Hq3.out]; rfl)
        clear hp hb HLk
        go_wp2_with (at_builtin; refine wpList_append_ownAt (R := RString) (k := 1) (e := 9) (B := w.heap.size) (l := out) (m := [t]) _ (by rfl) _ _ _ (by rfl) i0 _ 16 Tryz.underlying24 hi0 hz0 hz1 hz2 rfl (by omega) flat_string one_string _ (by rfl) (Hout3.out.alloc stays_string _) (.slice (some ⟨w3.heap.size, 0, none⟩) 1 1) (by rfl) (RowAt.one (R := RString) (k := 1) (cs := #[.string t]) (heap_alloc_new w3 _) rfl rfl) (by unfold maxLen; simp; omega) (by simp; omega) (by simp; omega) ?_)
        intro v' w4 hv' hg hr _
        have hb : Below w.heap.size w3 w4 := below_of_grown ((Below.refl _ w3).alloc (by omega) _) (by simp; omega) hg hr
        have Hv := Lib.hid hv'
        have HB4 := Lib.hid (HB3.out.thenBelow hb)
        have HP4 := Lib.hid (HP3.out.below hb hgw)
        clear hv' hg hr hb
        go_wp2_with fail
        refine (has1_any g s false q3 44 w4 HP4.out (by omega)).mono ?_
        rintro E w5 ⟨rfl, hp, hb⟩
        cases h44 : headIs 44 q3 with
        | true =>
          rw [h44, if_pos rfl] at hp
          have HP5 := Lib.hid hp
          have HB5 := Lib.hid (HB4.out.trans hb)
          have Hv5 := Lib.hid (Hv.out.butLow flat_string hb hgw)
          have HL5 : Hid (listF k q3.tail (out ++ [t]) = L) := Lib.hid (by have := HLk2.out; rw [h44, if_pos rfl] at this; exact this)
          have htl := tail_len h44
          clear hp hb HLk2
          go_wp2_with fail
          go_roundg k
          case measure => omega
          case rel => exact ⟨q3.tail, out ++ [t], by rw [List.length_append, List.length_singleton]; omega, by omega, Hv5, HP5, HL5, HB5⟩
        | false =>
          rw [h44, if_neg (by simp)] at hp
          have HP5 := Lib.hid hp
          have HB5 := Lib.hid (HB4.out.trans hb)
          have Hv5 := Lib.hid (Hv.out.butLow flat_string hb hgw)
          have HL5 : Hid ((if headIs 41 q3 = true then some (out ++ [t], skipB q3.tail) else none) = L) := Lib.hid (by have := HLk2.out; rw [h44, if_neg (by simp)] at this; exact this)
          clear hp hb HLk2
          go_wp2_with fail
          refine (has1_any g s false q3 41 w5 HP5.out (by omega)).mono ?_
          rintro E w6 ⟨rfl, hp, hb⟩
          cases h41 : headIs 41 q3 with
          | true =>
            rw [h41, if_pos rfl] at hp
            have HP6 := Lib.hid hp
            have HB6 := Lib.hid (HB5.out.trans hb)
            have Hv6 := Lib.hid (Hv5.out.butLow flat_string hb hgw)
            have HL6 : Hid (some (out ++ [t], skipB q3.tail) = L) := Lib.hid (by have := HL5.out; rw [h41, if_pos rfl] at this; exact this)
            clear hp hb HL5
            go_wp2_with fail
            refine (blanks_any g s false q3.tail w6 HP6.out (by omega)).mono ?_
            rintro E w7 ⟨rfl, hp, hb⟩
            have HP7 := Lib.hid hp
            have HB7 := Lib.hid (HB6.out.trans hb)
            have Hv7 := Lib.hid (Hv6.out.butLow flat_string hb hgw)
            clear hp hb
            go_wp2_with fail
            go_ret
            refine ⟨_, out ++ [t], rfl, Hv7.out, ?_, HB7.out⟩
            rw [← HL6.out]
            exact ⟨rfl, HP7.out⟩
          | false =>
            rw [h41, if_neg (by simp)] at hp
            have HP6 := Lib.hid hp
            have HB6 := Lib.hid (HB5.out.trans hb)
            have HL6 : Hid (none = L) := Lib.hid (by have := HL5.out; rw [h41, if_neg (by simp)] at this; exact this)
            obtain ⟨c2, z2⟩ := par_cells HP6.out
            clear hp hb HL5
            go_wp2_with fail
            obtain ⟨t1, t2⟩ := par_bad HP6.out
            go_ret
            refine ⟨_, [], rfl, OwnAt.nil _, ?_, HB6.out.trans (But.touch t2)⟩
            rw [← HL6.out]
            exact ⟨rfl, rfl, _, t1⟩
end Go.Proofs.YtlbolbkikkiifaaGreatDoor
/- query: the parser's choice. -/
namespace Go.Proofs.YtlbolbkikkiifaaGreatDoor
open Go.RowKit
open QP

theorem Tryz.sizeReqP : (Tryz.prog.info? 26).map (·.size) = some 3 := by kernel_rfl
theorem But.touchNew {g b : Nat} {w wx w' : World} (h : But g w wx) (t : Touch b wx w') (hb : w.heap.size ≤ b) : But g w w' :=
  ⟨t.os.trans h.os, t.tape.trans h.tape, t.output.trans h.output, by rw [t.size]; exact h.size, fun k hk hn => (t.other k (by omega)).trans (h.block k hk hn)⟩
theorem block_lt {w : World} {b : Nat} {x : Obj} (h : w.heap[b]? = some x) : b < w.heap.size := by
  rcases Nat.lt_or_ge b w.heap.size with h1 | h1
  · exact h1
  · rw [Array.getElem?_eq_none h1] at h; cases h
def PartTold (g : Nat) (s : ByteArray) (o : Option (GReq × List UInt8)) (q : GReq) (w' : World) : Prop :=
  match o with
  | some x => q = x.1 ∧ Par g s false x.2 w'
  | none => ∃ r, Par g s true r w'
def PartAt (g : Nat) (s : ByteArray) (o : Option (GReq × List UInt8)) (w : World) (E : Ending) (w' : World) : Prop :=
  ∃ (q : GReq) (v2 : Value), E = .returned (.agg #[.string q.key, .int .i64 q.kind, v2]) ∧ (1 ≤ q.kind ∧ q.kind ≤ 4) ∧ OwnAt RString 1 w' w.heap.size 9 v2 q.vals ∧ PartTold g s o q w' ∧ But g w w'
set_option maxRecDepth 100000 in
set_option maxHeartbeats 3200000 in
theorem choice_any (g : Nat) (s key : ByteArray) (r : List UInt8) (w : World) (h : Par g s false r w) (hs : s.size ≤ 300) :
    Calls Tryz.prog 55 #[.pointer (some ⟨g, 0, none⟩), .agg #[.string key, .int .i64 3, .slice none 0 0]] w (PartAt g s (choiceP key r) w) := by
  have hgw := h.size
  obtain ⟨C, HC⟩ : ∃ C, Hid (choiceP key r = C) := ⟨_, Lib.hid rfl⟩
  rw [HC.out]
  unfold PartAt
  obtain ⟨w2, hw⟩ : ∃ w2, w2 = (w.alloc (.cells #[.string key, .int .i64 3, .slice none 0 0] 26)).alloc (.cells #[.string ⟨#[]⟩, .int .i64 0, .slice none 0 0] 26) := ⟨_, rfl⟩
  have b1 : w2.heap[w.heap.size]? = some (.cells #[.string key, .int .i64 3, .slice none 0 0] 26 (0, 0)) := by rw [hw]; exact heap_alloc_old (heap_alloc_new w _)
  have b2 : w2.heap[w.heap.size + 1]? = some (.cells #[.string ⟨#[]⟩, .int .i64 0, .slice none 0 0] 26 (0, 0)) := by rw [hw]; exact heap_alloc_at (World.size_alloc _ _).symm
  have hb2 : Below w.heap.size w w2 := by rw [hw]; exact ((Below.refl _ w).alloc (Nat.le_refl _) _).alloc (by rw [World.size_alloc]; omega) _
  have HP := Lib.hid (h.below hb2 hgw)
  have HB2 := Lib.hid (But.of (g := g) hb2)
  have B1 := Lib.hid b1
  have B2 := Lib.hid b2
  clear b1 b2 hb2 h
  go_enter Tryz.func55, Tryz.ntmps55
  go_upto_region 1 with fail
  rw [← hw]
  clear hw
  go_wp2_with fail
  refine (word_any g s false r w2 HP.out (by omega)).mono ?_
  rintro E w3 ⟨rfl, ⟨a, ha, hr, hp⟩, hb⟩
  have HP3 := Lib.hid hp
  have HB3 := Lib.hid (HB2.out.trans hb)
  have B13 := Lib.hid (hb.keep B1.out (by omega))
  have B23 := Lib.hid (hb.keep B2.out (by omega))
  have Hr := Lib.hid hr
  obtain ⟨W, HW⟩ : ∃ W, Hid (wordW r = W) := ⟨_, Lib.hid rfl⟩
  obtain ⟨t, Ht⟩ : ∃ t, Hid (wordS r = t) := ⟨_, Lib.hid rfl⟩
  obtain ⟨bl, Hbl⟩ : ∃ bl, Hid (headIs 32 (wordR r) = bl) := ⟨_, Lib.hid rfl⟩
  have Htl : Hid (t.toList = W) := Lib.hid (by rw [ByteArray.toList_eq, ← Ht.out, ← HW.out]; unfold wordS; simp)
  rw [Ht.out, Hbl.out]
  clear hp hb hr B1 B2 HP
  go_upto_block 0 with fail
  go_cut [] (fun wx => ∃ (kd : Int) (bd : Bool), Hid (wx.heap[w.heap.size]? = some (.cells #[.string key, .int .i64 kd, .slice none 0 0] 26 (0, 0))) ∧ Hid (ParAt g s bd a wx) ∧ Hid (wx.heap[w.heap.size + 1]? = some (.cells #[.string ⟨#[]⟩, .int .i64 0, .slice none 0 0] 26 (0, 0))) ∧ Hid (But g w wx) ∧
    Hid ((kindP W = 0 ∧ bd = true ∧ kd = 3) ∨ (kindP W = kd ∧ kd ≠ 0 ∧ bd = false ∧ 1 ≤ kd ∧ kd ≤ 2)))
  case first =>
    have z1 : w3.frozen? ⟨w.heap.size, 1, none⟩ = false := free_block B13.out 1
    have c1 : w3.cell? ⟨w.heap.size, 1, none⟩ = some (.int .i64 3) := cell_block B13.out 1
    obtain ⟨p2, pz⟩ := par_cells (g := g) (s := s) (bad := false) (r := s.data.toList.drop a) (w := w3) ⟨a, ha, rfl, HP3.out⟩
    by_cases e1 : W = [105, 110]
    · have q1 : (t.toList == [105, 110]) = true := by rw [Htl.out, e1]; rfl
      have Hk : Hid (kindP W = 1) := Lib.hid (by rw [e1]; rfl)
      clear e1
      go_wp2_with fail
      obtain ⟨t1, t2⟩ := touch_setCell (i := 1) (v := .int .i64 1) B13.out
      go_meet
      refine ⟨1, false, Lib.hid t1, Lib.hid (t2.block HP3.out (by omega)), Lib.hid (t2.block B23.out (by omega)), Lib.hid (HB3.out.touchNew t2 (Nat.le_refl _)), Lib.hid (.inr ⟨Hk.out, by decide, rfl, by decide, by decide⟩)⟩
    · have q1 : (t.toList == [105, 110]) = false := by rw [Htl.out, beq_eq_false_iff_ne]; exact e1
      by_cases e2 : W = [110, 111, 116, 105, 110]
      · have q2 : (t.toList == [110, 111, 116, 105, 110]) = true := by rw [Htl.out, e2]; rfl
        have Hk : Hid (kindP W = 2) := Lib.hid (by rw [e2]; rfl)
        clear e1 e2
        go_wp2_with fail
        obtain ⟨t1, t2⟩ := touch_setCell (i := 1) (v := .int .i64 2) B13.out
        go_meet
        refine ⟨2, false, Lib.hid t1, Lib.hid (t2.block HP3.out (by omega)), Lib.hid (t2.block B23.out (by omega)), Lib.hid (HB3.out.touchNew t2 (Nat.le_refl _)), Lib.hid (.inr ⟨Hk.out, by decide, rfl, by decide, by decide⟩)⟩
      · have q2 : (t.toList == [110, 111, 116, 105, 110]) = false := by rw [Htl.out, beq_eq_false_iff_ne]; exact e2
        have Hk : Hid (kindP W = 0) := Lib.hid (by unfold kindP; rw [if_neg e1, if_neg e2])
        clear e1 e2
        go_wp2_with fail
        obtain ⟨t1, t2⟩ := touch_setCell (i := 2) (v := .bool true) HP3.out
        go_meet
        refine ⟨3, true, Lib.hid (t2.block B13.out (by omega)), Lib.hid t1, Lib.hid (t2.block B23.out (by omega)), Lib.hid (HB3.out.trans (But.touch t2)), Lib.hid (.inl ⟨Hk.out, rfl, rfl⟩)⟩
  case rest =>
    obtain ⟨kd, bd, B14, HP4, B24, HB4, Hk⟩ := hcut
    have HP5 : Hid (Par g s bd (wordE r) wc) := Lib.hid ⟨a, ha, Hr.out, HP4.out⟩
    have h0 : wc.cell? ⟨g, 0, none⟩ = some (.string s) := cell_block HP4.out 0
    have h1 : wc.cell? ⟨g, 1, none⟩ = some (.int .i64 (a : Int)) := cell_block HP4.out 1
    have hO := fun n => over_any g s bd a (wc.drewN n) HP4.out ha (by omega)
    have HO := Lib.hid hO
    clear hO
    obtain ⟨cn, Hcn⟩ : ∃ cn, Hid ((!bl && (decide (a = s.size) || !headIs 40 (wordE r))) = cn) := ⟨_, Lib.hid rfl⟩
    go_upto_region 8 with fail
    go_cut [39] (fun u39 wx => u39 = .bool cn ∧ ∃ n, wx = wc.drewN n)
    case first =>
      cases bl with
      | true =>
        have Hc : cn = false := by rw [← Hcn.out]; rfl
        subst Hc
        clear Hcn
        go_quiet (fail)
        go_wp2_with fail
        go_meet
        exact ⟨rfl, _, rfl⟩
      | false =>
        by_cases hs9 : a = s.size
        · have q9 : decide (a = s.size) = true := decide_eq_true hs9
          have Hc : cn = true := by rw [← Hcn.out, q9]; rfl
          subst Hc
          have HO2 : Hid (∀ n, Calls Tryz.prog 34 #[.pointer (some ⟨g, 0, none⟩)] (wc.drewN n) fun e w' => e = .returned (.bool true) ∧ ∃ m, w' = (wc.drewN n).drewN m) := Lib.hid (fun n => by have := HO.out n; rw [q9] at this; exact this)
          clear Hcn HO hs9 q9
          go_quiet ((go_at_call 34; exact Calls.quiet_of (HO2.out _)))
          go_wp2_with fail
          go_meet
          exact ⟨rfl, _, rfl⟩
        · have q9 : decide (a = s.size) = false := decide_eq_false hs9
          have hal : a < s.size := by omega
          have q4 : (a : Int) < (s.size : Int) := by omega
          have q5 : (0 : Int) ≤ (a : Int) := by omega
          have q6 : ((s[a].toNat : Int) != 40) = cn := by
            rw [← Hcn.out, q9, ← Hr.out, drop_at hal]
            show _ = !(s[a] == 40)
            rw [Bool.eq_iff_iff, bne_iff_ne, Bool.not_eq_true', beq_eq_false_iff_ne]
            have h40 : (40 : UInt8).toNat = 40 := rfl
            constructor
            · intro h e; exact h (by rw [e]; rfl)
            · intro h e; exact h (UInt8.toNat_inj.1 (by omega))
          have HO2 : Hid (∀ n, Calls Tryz.prog 34 #[.pointer (some ⟨g, 0, none⟩)] (wc.drewN n) fun e w' => e = .returned (.bool false) ∧ ∃ m, w' = (wc.drewN n).drewN m) := Lib.hid (fun n => by have := HO.out n; rw [q9] at this; exact this)
          clear Hcn HO hs9 q9
          go_quiet ((go_at_call 34; exact Calls.quiet_of (HO2.out _)))
          go_wp2_with fail
          go_meet
          exact ⟨rfl, _, rfl⟩
    case rest =>
      obtain ⟨rfl, nd, rfl⟩ := hcut
      obtain ⟨w6, hw6⟩ : ∃ w6, wc.drewN nd = w6 := ⟨_, rfl⟩
      have B16 : Hid (w6.heap[w.heap.size]? = some (.cells #[.string key, .int .i64 kd, .slice none 0 0] 26 (0, 0))) := Lib.hid (by rw [← hw6]; exact B14.out)
      have B26 : Hid (w6.heap[w.heap.size + 1]? = some (.cells #[.string ⟨#[]⟩, .int .i64 0, .slice none 0 0] 26 (0, 0))) := Lib.hid (by rw [← hw6]; exact B24.out)
      have HP6 : Hid (ParAt g s bd a w6) := Lib.hid (by rw [← hw6]; exact HP4.out)
      have HB6 : Hid (But g w w6) := Lib.hid (by rw [← hw6]; exact HB4.out.drew _)
      rw [hw6]
      have hsz := block_lt B26.out
      clear B14 B24 HP4 HB4 hw6 h0 h1 HO HP5
      obtain ⟨h40, H40⟩ : ∃ h40, Hid (headIs 40 (wordE r) = h40) := ⟨_, Lib.hid rfl⟩
      have hC : (if kindP W = 0 then none else if bl = false ∧ h40 = false then none else match listP (wordE r) with
          | none => none
          | some x => some (⟨key, kindP W, x.1⟩, x.2)) = C := by
        rw [← HC.out, ← HW.out, ← Hbl.out, ← H40.out]; rfl
      rw [H40.out] at Hcn
      cases cn with
      | true =>
        have HCn : Hid (none = C) := Lib.hid (by
          rw [← hC]
          by_cases hk0 : kindP W = 0
          · rw [if_pos hk0]
          · have h9 := Hcn.out
            rw [if_neg hk0, if_pos]
            cases bl with
            | true => cases h9
            | false =>
              refine ⟨rfl, ?_⟩
              by_cases hs9 : a = s.size
              · rw [← H40.out, ← Hr.out, drop_end (by omega)]; rfl
              · rw [decide_eq_false hs9] at h9
                simpa using h9)
        have c6 : w6.cell? ⟨g, 2, none⟩ = some (.bool bd) := cell_block HP6.out 2
        have z6 : w6.frozen? ⟨g, 2, none⟩ = false := free_block HP6.out 2
        obtain ⟨t1, t2⟩ := touch_setCell (i := 2) (v := .bool true) HP6.out
        clear hC Hcn
        go_upto_region 10 with fail
        obtain ⟨W7, hW7⟩ : ∃ W7, w6.setCell ⟨g, 2, none⟩ (.bool true) = W7 := ⟨_, rfl⟩
        rw [hW7] at t1 t2 ⊢
        have c7 : W7.cell? ⟨g, 2, none⟩ = some (.bool true) := cell_block t1 2
        have B17 := Lib.hid (t2.block B16.out (by omega))
        have B27 := Lib.hid (t2.block B26.out (by omega))
        have HB7 := Lib.hid (HB6.out.trans (But.touch t2))
        have HP7 : Hid (ParAt g s true a W7) := Lib.hid t1
        clear hW7 t1 t2 c6 z6
        go_wp2_with (refine wpList_copy_box (by rfl) _ _ (by rfl) (by rfl) _ _ (by rfl) _ _ (by rfl) _ _ _ _ (by exact B17.out) (by rfl) (by rfl) _ _ (by exact B27.out) Tryz.underlying26 (by rfl) (by exact Tryz.sizeReqP) (by rfl) (by simp [Value.oneCell']) ?_)
        intro W8 b8 t8
        have HP8 : Hid (ParAt g s true a W8) := Lib.hid (t8.block HP7.out (by omega))
        have HB8 := Lib.hid (HB7.out.touchNew t8 (by omega))
        clear t8 c7
        go_wp2_with fail
        refine bodyPost_ret (v := .agg #[.string key, .int .i64 kd, .slice none 0 0]) ?_ rfl ⟨⟨key, kd, []⟩, .slice none 0 0, rfl, ?_, OwnAt.nil _, ?_, HB8.out⟩
        · have c8 := fun i => cell_block b8 i
          simp [results, Tryz.results55, go_sem, c8]
        · show 1 ≤ kd ∧ kd ≤ 4
          rcases Hk.out with h | h <;> omega
        · rw [← HCn.out]
          exact ⟨_, a, ha, rfl, HP8.out⟩
      | false =>
        cases bd with
        | true =>
          have HCn : Hid (none = C) := Lib.hid (by
            rw [← hC, if_pos]
            rcases Hk.out with h | h
            · exact h.1
            · cases h.2.2.1)
          have c6 : w6.cell? ⟨g, 2, none⟩ = some (.bool true) := cell_block HP6.out 2
          clear hC Hcn
          go_wp2_with (refine wpList_copy_box (by rfl) _ _ (by rfl) (by rfl) _ _ (by rfl) _ _ (by rfl) _ _ _ _ (by exact B16.out) (by rfl) (by rfl) _ _ (by exact B26.out) Tryz.underlying26 (by rfl) (by exact Tryz.sizeReqP) (by rfl) (by simp [Value.oneCell']) ?_)
          intro W8 b8 t8
          have HP8 : Hid (ParAt g s true a W8) := Lib.hid (t8.block HP6.out (by omega))
          have HB8 := Lib.hid (HB6.out.touchNew t8 (by omega))
          clear t8 c6
          go_wp2_with fail
          refine bodyPost_ret (v := .agg #[.string key, .int .i64 kd, .slice none 0 0]) ?_ rfl ⟨⟨key, kd, []⟩, .slice none 0 0, rfl, ?_, OwnAt.nil _, ?_, HB8.out⟩
          · have c8 := fun i => cell_block b8 i
            simp [results, Tryz.results55, go_sem, c8]
          · show 1 ≤ kd ∧ kd ≤ 4
            rcases Hk.out with h | h <;> omega
          · rw [← HCn.out]
            exact ⟨_, a, ha, rfl, HP8.out⟩
        | false =>
          have hk3 : kindP W = kd ∧ kd ≠ 0 ∧ 1 ≤ kd ∧ kd ≤ 2 := by
            rcases Hk.out with h | h
            · cases h.2.1
            · exact ⟨h.1, h.2.1, h.2.2.2⟩
          have HCn : Hid ((match listP (wordE r) with
            | none => none
            | some x => some ((⟨key, kd, x.1⟩ : GReq), x.2)) = C) := Lib.hid (by
            rw [hk3.1, if_neg hk3.2.1, if_neg] at hC
            · exact hC
            · rintro ⟨e1, e2⟩
              have := Hcn.out
              rw [e1, e2] at this
              simp at this)
          have c6 : w6.cell? ⟨g, 2, none⟩ = some (.bool false) := cell_block HP6.out 2
          clear hC Hcn
          go_wp2_with fail
          refine (list_any g s (wordE r) w6 ⟨a, ha, Hr.out, HP6.out⟩ hs).mono ?_
          rintro E w7 ⟨vl, vals, rfl, hown, htold, hb7⟩
          obtain ⟨av, cv, rfl, _, _⟩ := hown.row.len
          have Hown := Lib.hid hown
          have Htold := Lib.hid htold
          have B17 := Lib.hid (hb7.keep B16.out (by omega))
          have B27 := Lib.hid (hb7.keep B26.out (by omega))
          have HB7 := Lib.hid (HB6.out.trans hb7)
          have c7 : w7.cell? ⟨w.heap.size, 2, none⟩ = some (.slice none 0 0) := cell_block B17.out 2
          have z7 : w7.frozen? ⟨w.heap.size, 2, none⟩ = false := free_block B17.out 2
          obtain ⟨t1, t2⟩ := touch_setCell (i := 2) (v := .slice av vals.length cv) B17.out
          clear hown htold hb7 c6
          go_upto_region 13 with fail
          obtain ⟨W8, hW8⟩ : ∃ W8, w7.setCell ⟨w.heap.size, 2, none⟩ (.slice av vals.length cv) = W8 := ⟨_, rfl⟩
          rw [hW8] at t1 t2 ⊢
          have B18 : Hid (W8.heap[w.heap.size]? = some (.cells #[.string key, .int .i64 kd, .slice av vals.length cv] 26 (0, 0))) := Lib.hid t1
          have B28 := Lib.hid (t2.block B27.out (by omega))
          have HB8 := Lib.hid (HB7.out.touchNew t2 (Nat.le_refl _))
          have Hown8 := Lib.hid (Hown.out.touchLow flat_string t2 (by omega))
          have T2 := Lib.hid t2
          clear hW8 t1 t2 c7 z7
          go_wp2_with (refine wpList_copy_box (by rfl) _ _ (by rfl) (by rfl) _ _ (by rfl) _ _ (by rfl) _ _ _ _ (by exact B18.out) (by rfl) (by rfl) _ _ (by exact B28.out) Tryz.underlying26 (by rfl) (by exact Tryz.sizeReqP) (by rfl) (by simp [Value.oneCell']) ?_)
          intro W9 b9 t9
          have HB9 := Lib.hid (HB8.out.touchNew t9 (by omega))
          have Hown9 := Lib.hid (Hown8.out.touchLow flat_string t9 (by omega))
          have T9 := Lib.hid t9
          clear t9
          go_wp2_with fail
          refine bodyPost_ret (v := .agg #[.string key, .int .i64 kd, .slice av vals.length cv]) ?_ rfl ⟨⟨key, kd, vals⟩, .slice av vals.length cv, rfl, ?_, Hown9.out.mono (by omega), ?_, HB9.out⟩
          · have c9 := fun i => cell_block b9 i
            simp [results, Tryz.results55, go_sem, c9]
          · show 1 ≤ kd ∧ kd ≤ 4
            omega
          · have keep : ∀ (bad : Bool) (r' : List UInt8), Par g s bad r' w7 → Par g s bad r' W9 := fun bad r' hp => by
              obtain ⟨x, x1, x2, x3⟩ := hp
              exact ⟨x, x1, x2, T9.out.block (T2.out.block x3 (by omega)) (by omega)⟩
            have hl := Htold.out
            rw [← HCn.out]
            unfold ListTold at hl
            cases hL : listP (wordE r) with
            | none =>
              rw [hL] at hl
              obtain ⟨_, _, r', hr'⟩ := hl
              exact ⟨r', keep _ _ hr'⟩
            | some x =>
              rw [hL] at hl
              exact ⟨by rw [hl.1], keep _ _ hl.2⟩
end Go.Proofs.YtlbolbkikkiifaaGreatDoor
/- query: the parser's part. -/
namespace Go.Proofs.YtlbolbkikkiifaaGreatDoor
open Go.RowKit
open QP

theorem hasPrefix_two (c d : UInt8) (r : List UInt8) : Lib.hasPrefix r [c, d] = (headIs c r && headIs d r.tail) := by
  cases r with
  | nil => rfl
  | cons x t =>
    have h1 : Lib.hasPrefix (x :: t) [c, d] = ((c == x) && Lib.hasPrefix t [d]) := rfl
    rw [h1, hasPrefix_one]
    show _ = ((x == c) && headIs d t)
    rw [show (c == x) = (x == c) by rw [Bool.eq_iff_iff, beq_iff_eq, beq_iff_eq]; exact eq_comm]
theorem has2_any (g : Nat) (s : ByteArray) (bad : Bool) (r : List UInt8) (c d : UInt8) (w : World) (h : Par g s bad r w) (hs : s.size ≤ 1048576) :
    Calls Tryz.prog 36 #[.pointer (some ⟨g, 0, none⟩), .string ⟨#[c, d]⟩] w fun e w' => e = .returned (.bool (headIs c r && headIs d r.tail)) ∧ Par g s bad (if (headIs c r && headIs d r.tail) = true then r.tail.tail else r) w' ∧ But g w w' := by
  have h1 := has_any g s bad r ⟨#[c, d]⟩ w h hs
  rw [show (⟨#[c, d]⟩ : ByteArray).data.toList = [c, d] from rfl] at h1
  have h2 : hasR [c, d] r = if (headIs c r && headIs d r.tail) = true then r.tail.tail else r := by
    have hd : r.drop 2 = r.tail.tail := by
      cases r with
      | nil => rfl
      | cons x t => cases t <;> rfl
    unfold hasR
    rw [hasPrefix_two]
    show (if _ then r.drop 2 else r) = _
    rw [hd]
  rw [hasPrefix_two, h2] at h1
  exact h1
theorem own_one (w : World) (t : ByteArray) (e : TypeId) : OwnAt RString 1 (w.alloc (.cells #[.string t] e)) w.heap.size e (.slice (some ⟨w.heap.size, 0, none⟩) 1 1) [t] :=
  ⟨[[.string t]], rfl, fun cs h => (by simp at h; rw [h]; rfl), ⟨rfl, .inr ⟨w.heap.size, 1, #[.string t], rfl, Nat.le_refl _, heap_alloc_new w _, Nat.le_refl _, by unfold maxLen; omega, rfl, rfl⟩⟩,
    fun j cs x hc hx => by
      cases j with
      | zero => simp at hc hx; subst hc; subst hx; rfl
      | succ j => simp at hc⟩
/-- what the switch of part leaves -/
def KeyTold (K : Option (GReq × List UInt8)) (key : ByteArray) (kd : Int) (bd : Bool) (r' : List UInt8) : Prop :=
  (kd = 3 ∧ bd = false ∧ K = some (⟨key, 3, []⟩, r')) ∨ (kd = 3 ∧ bd = true ∧ K = none) ∨ ((kd = 1 ∨ kd = 2) ∧ bd = false ∧ K = some (⟨key, kd, [wordS r']⟩, wordE r'))
set_option maxRecDepth 100000 in
set_option maxHeartbeats 6400000 in
theorem part_any (g : Nat) (s : ByteArray) (r : List UInt8) (w : World) (h : Par g s false r w) (hs : s.size ≤ 300) :
    Calls Tryz.prog 35 #[.pointer (some ⟨g, 0, none⟩)] w (PartAt g s (partP r) w) := by
  have hgw := h.size
  obtain ⟨P, HP0⟩ : ∃ P, Hid (partP r = P) := ⟨_, Lib.hid rfl⟩
  rw [HP0.out]
  have HPe : Hid ((if headIs 33 (skipB r) = true then some (⟨wordS (skipB r).tail, 4, []⟩, wordE (skipB r).tail) else keyP (skipB r)) = P) := Lib.hid (by rw [← HP0.out]; rfl)
  unfold PartAt
  obtain ⟨w2, hw⟩ : ∃ w2, w2 = w.alloc (.cells #[.string ⟨#[]⟩, .int .i64 0, .slice none 0 0] 26) := ⟨_, rfl⟩
  have b2 : w2.heap[w.heap.size]? = some (.cells #[.string ⟨#[]⟩, .int .i64 0, .slice none 0 0] 26 (0, 0)) := by rw [hw]; exact heap_alloc_new w _
  have hb2 : Below w.heap.size w w2 := by rw [hw]; exact (Below.refl _ w).alloc (Nat.le_refl _) _
  have HP2 := Lib.hid (h.below hb2 hgw)
  have HB2 := Lib.hid (But.of (g := g) hb2)
  have B2 := Lib.hid b2
  clear b2 hb2 h
  go_enter Tryz.func35, Tryz.ntmps35
  go_upto_region 1 with fail
  rw [← hw]
  clear hw
  go_wp2_with fail
  refine (blanks_any g s false r w2 HP2.out (by omega)).mono ?_
  rintro E w3 ⟨rfl, hp, hb⟩
  have HP3 := Lib.hid hp
  have HB3 := Lib.hid (HB2.out.trans hb)
  have B23 := Lib.hid (hb.keep B2.out (by omega))
  clear hp hb HP2 HB2 B2
  obtain ⟨R, HR⟩ : ∃ R, Hid (skipB r = R) := ⟨_, Lib.hid rfl⟩
  rw [HR.out] at HPe HP3
  go_wp2_with fail
  refine (has1_any g s false R 33 w3 HP3.out (by omega)).mono ?_
  rintro E w4 ⟨rfl, hp, hb⟩
  have HB4 := Lib.hid (HB3.out.trans hb)
  have B24 := Lib.hid (hb.keep B23.out (by omega))
  cases h33 : headIs 33 R with
  | true =>
    rw [h33, if_pos rfl] at hp
    have HP4 := Lib.hid hp
    have HPf : Hid (some (⟨wordS R.tail, 4, []⟩, wordE R.tail) = P) := Lib.hid (by rw [← HPe.out, h33, if_pos rfl])
    clear hp hb HPe h33
    go_wp2_with fail
    refine (word_any g s false R.tail w4 HP4.out (by omega)).mono ?_
    rintro E w5 ⟨rfl, hp, hb⟩
    have HP5 := Lib.hid hp
    have HB5 := Lib.hid (HB4.out.trans hb)
    have B25 := Lib.hid (hb.keep B24.out (by omega))
    obtain ⟨t, Ht⟩ : ∃ t, Hid (wordS R.tail = t) := ⟨_, Lib.hid rfl⟩
    rw [Ht.out] at HPf ⊢
    clear hp hb
    go_wp2_with (refine wpList_store_box (by rfl) _ _ _ (by rfl) w.heap.size #[.string t, .int .i64 4, .slice none 0 0] (by rfl) (by rfl) _ _ B25.out Tryz.sizeReqP (by rfl) (by simp [Value.oneCell']) ?_)
    intro W6 b6 t6
    have HB6 := Lib.hid (HB5.out.touchNew t6 (Nat.le_refl _))
    have HP6 : Hid (Par g s false (wordE R.tail) W6) := Lib.hid (by
      obtain ⟨x, x1, x2, x3⟩ := HP5.out
      exact ⟨x, x1, x2, t6.block x3 (by omega)⟩)
    clear t6
    go_wp2_with fail
    refine bodyPost_ret (v := .agg #[.string t, .int .i64 4, .slice none 0 0]) ?_ rfl ⟨⟨t, 4, []⟩, .slice none 0 0, rfl, ?_, OwnAt.nil _, ?_, HB6.out⟩
    · have c6 := fun i => cell_block b6 i
      simp [results, Tryz.results35, go_sem, c6]
    · show (1 : Int) ≤ 4 ∧ (4 : Int) ≤ 4
      decide
    · rw [← HPf.out]
      exact ⟨rfl, HP6.out⟩
  | false =>
    rw [h33, if_neg (by simp)] at hp
    have HP4 := Lib.hid hp
    have HK : Hid (keyP R = P) := Lib.hid (by have := HPe.out; rw [h33, if_neg (by simp)] at this; exact this)
    clear hp hb HPe h33
    go_wp2_with fail
    refine (word_any g s false R w4 HP4.out (by omega)).mono ?_
    rintro E w5 ⟨rfl, ⟨a, ha, hr, hp⟩, hb⟩
    have HB5 := Lib.hid (HB4.out.trans hb)
    have B25 := Lib.hid (hb.keep B24.out (by omega))
    have HA5 := Lib.hid hp
    have Hr := Lib.hid hr
    obtain ⟨key, Hkey⟩ : ∃ key, Hid (wordS R = key) := ⟨_, Lib.hid rfl⟩
    obtain ⟨E3, HE3⟩ : ∃ E3, Hid (wordE R = E3) := ⟨_, Lib.hid rfl⟩
    obtain ⟨bl, Hbl⟩ : ∃ bl, Hid (headIs 32 (wordR R) = bl) := ⟨_, Lib.hid rfl⟩
    rw [HE3.out] at Hr
    rw [Hkey.out, Hbl.out]
    have HK2 : Hid ((if E3 = [] ∨ headIs 44 E3 = true then some (⟨key, 3, []⟩, E3)
        else if headIs 61 E3 = true ∧ headIs 61 E3.tail = true then some (⟨key, 1, [wordS E3.tail.tail]⟩, wordE E3.tail.tail)
        else if headIs 61 E3 = true then some (⟨key, 1, [wordS E3.tail]⟩, wordE E3.tail)
        else if headIs 33 E3 = true ∧ headIs 61 E3.tail = true then some (⟨key, 2, [wordS E3.tail.tail]⟩, wordE E3.tail.tail)
        else if bl = true then choiceP key E3 else none) = P) := Lib.hid (by rw [← HK.out, ← Hkey.out, ← HE3.out, ← Hbl.out]; rfl)
    clear hp hb hr HK HP3 HP4 HB3 HB4 B23 B24
    go_upto_block 0 with fail
    obtain ⟨W6, hW6⟩ : ∃ W6, W6 = w5.alloc (.cells #[.string key, .int .i64 3, .slice none 0 0] 26) := ⟨_, rfl⟩
    obtain ⟨g3, hg3⟩ : ∃ g3, g3 = w5.heap.size := ⟨_, rfl⟩
    rw [← hW6, ← hg3]
    have b36 : W6.heap[g3]? = some (.cells #[.string key, .int .i64 3, .slice none 0 0] 26 (0, 0)) := by rw [hW6, hg3]; exact heap_alloc_new w5 _
    have hb6 : Below w5.heap.size w5 W6 := by rw [hW6]; exact (Below.refl _ _).alloc (Nat.le_refl _) _
    have h2g : w.heap.size < g3 := by rw [hg3]; exact block_lt B25.out
    have B36 := Lib.hid b36
    have B26 := Lib.hid (below_block hb6 B25.out)
    have HA6 : Hid (ParAt g s false a W6) := Lib.hid (below_block hb6 HA5.out)
    have HB6 := Lib.hid (HB5.out.trans (But.of hb6))
    have h6s := block_lt b36
    clear hW6 hg3 b36 hb6 B25 HA5 HB5
    go_cut [] (fun wx => ∃ (kd : Int) (bd : Bool) (r' : List UInt8), Hid (wx.heap[g3]? = some (.cells #[.string key, .int .i64 kd, .slice none 0 0] 26 (0, 0))) ∧ Hid (Par g s bd r' wx) ∧ Hid (wx.heap[w.heap.size]? = some (.cells #[.string ⟨#[]⟩, .int .i64 0, .slice none 0 0] 26 (0, 0))) ∧ Hid (But g w wx) ∧ Hid (KeyTold P key kd bd r'))
    case first =>
      have h0 : W6.cell? ⟨g, 0, none⟩ = some (.string s) := cell_block HA6.out 0
      have h1 : W6.cell? ⟨g, 1, none⟩ = some (.int .i64 (a : Int)) := cell_block HA6.out 1
      have HO := Lib.hid (fun n => over_any g s false a (W6.drewN n) HA6.out ha (by omega))
      obtain ⟨cn, Hcn⟩ : ∃ cn, Hid ((decide (a = s.size) || headIs 44 E3) = cn) := ⟨_, Lib.hid rfl⟩
      go_upto_region 8 with fail
      go_cut [31] (fun u31 wx => u31 = .bool cn ∧ ∃ n, wx = W6.drewN n)
      case first =>
        by_cases hs9 : a = s.size
        · have q9 : decide (a = s.size) = true := decide_eq_true hs9
          have Hc : cn = true := by rw [← Hcn.out, q9]; rfl
          subst Hc
          have HO2 : Hid (∀ n, Calls Tryz.prog 34 #[.pointer (some ⟨g, 0, none⟩)] (W6.drewN n) fun e w' => e = .returned (.bool true) ∧ ∃ m, w' = (W6.drewN n).drewN m) := Lib.hid (fun n => by have := HO.out n; rw [q9] at this; exact this)
          clear Hcn HO hs9 q9
          go_quiet ((go_at_call 34; exact Calls.quiet_of (HO2.out _)))
          go_wp2_with fail
          go_meet
          exact ⟨rfl, _, rfl⟩
        · have q9 : decide (a = s.size) = false := decide_eq_false hs9
          have hal : a < s.size := by omega
          have q4 : (a : Int) < (s.size : Int) := by omega
          have q5 : (0 : Int) ≤ (a : Int) := by omega
          have q6 : ((s[a].toNat : Int) == 44) = cn := by
            rw [← Hcn.out, q9, ← Hr.out, drop_at hal]
            show _ = (s[a] == 44)
            rw [Bool.eq_iff_iff, beq_iff_eq, beq_iff_eq]
            have h40 : (44 : UInt8).toNat = 44 := rfl
            constructor
            · intro h; exact UInt8.toNat_inj.1 (by omega)
            · intro h; rw [h]; rfl
          have HO2 : Hid (∀ n, Calls Tryz.prog 34 #[.pointer (some ⟨g, 0, none⟩)] (W6.drewN n) fun e w' => e = .returned (.bool false) ∧ ∃ m, w' = (W6.drewN n).drewN m) := Lib.hid (fun n => by have := HO.out n; rw [q9] at this; exact this)
          clear Hcn HO hs9 q9
          go_quiet ((go_at_call 34; exact Calls.quiet_of (HO2.out _)))
          go_wp2_with fail
          go_meet
          exact ⟨rfl, _, rfl⟩
      case rest =>
        obtain ⟨rfl, nd, rfl⟩ := hcut
        obtain ⟨w7, hw7⟩ : ∃ w7, W6.drewN nd = w7 := ⟨_, rfl⟩
        have B37 : Hid (w7.heap[g3]? = some (.cells #[.string key, .int .i64 3, .slice none 0 0] 26 (0, 0))) := Lib.hid (by rw [← hw7]; exact B36.out)
        have B27 : Hid (w7.heap[w.heap.size]? = some (.cells #[.string ⟨#[]⟩, .int .i64 0, .slice none 0 0] 26 (0, 0))) := Lib.hid (by rw [← hw7]; exact B26.out)
        have HP7 : Hid (Par g s false E3 w7) := Lib.hid (by rw [← hw7]; exact ⟨a, ha, Hr.out, HA6.out⟩)
        have HB7 : Hid (But g w w7) := Lib.hid (by rw [← hw7]; exact HB6.out.drew _)
        have h7s := block_lt B37.out
        have hcn : cn = true ↔ (E3 = [] ∨ headIs 44 E3 = true) := by
          rw [← Hcn.out, Bool.or_eq_true, decide_eq_true_iff]
          refine or_congr ?_ Iff.rfl
          rw [← Hr.out, List.drop_eq_nil_iff]
          have hl : s.data.toList.length = s.size := by simp
          omega
        rw [hw7]
        clear hw7 h0 h1 HO B36 B26 HA6 HB6 Hcn h6s
        cases cn with
        | true =>
          have HKt : Hid (KeyTold P key 3 false E3) := Lib.hid (.inl ⟨rfl, rfl, by rw [← HK2.out, if_pos (hcn.1 rfl)]⟩)
          clear hcn HK2
          go_wp2_with fail
          go_meet
          exact ⟨3, false, E3, B37, HP7, B27, HB7, HKt⟩
        | false =>
          have HK3 := HK2.out
          rw [if_neg (fun he => by have := hcn.2 he; cases this)] at HK3
          clear hcn HK2
          go_wp2_with fail
          refine (has2_any g s false E3 61 61 w7 HP7.out (by omega)).mono ?_
          rintro E w8 ⟨rfl, hp, hb⟩
          have HB8 := Lib.hid (HB7.out.trans hb)
          have B28 := Lib.hid (hb.keep B27.out (by omega))
          have B38 := Lib.hid (hb.keep B37.out (by omega))
          cases he : headIs 61 E3 && headIs 61 E3.tail with
          | true =>
            rw [he, if_pos rfl] at hp
            have HP8 := Lib.hid hp
            have HKt : Hid (KeyTold P key 1 false E3.tail.tail) := Lib.hid (.inr (.inr ⟨.inl rfl, rfl, by rw [← HK3, if_pos (by simpa using he)]⟩))
            have c8 : w8.cell? ⟨g3, 1, none⟩ = some (.int .i64 3) := cell_block B38.out 1
            have z8 : w8.frozen? ⟨g3, 1, none⟩ = false := free_block B38.out 1
            clear hp hb he HK3
            go_wp2_with fail
            obtain ⟨t1, t2⟩ := touch_setCell (i := 1) (v := .int .i64 1) B38.out
            go_meet
            refine ⟨1, false, _, Lib.hid t1, ?_, Lib.hid (t2.block B28.out (by omega)), Lib.hid (HB8.out.touchNew t2 (by omega)), HKt⟩
            obtain ⟨x, x1, x2, x3⟩ := HP8.out
            exact Lib.hid ⟨x, x1, x2, t2.block x3 (by omega)⟩
          | false =>
            rw [he, if_neg (by simp)] at hp
            have HP8 := Lib.hid hp
            rw [if_neg (by rw [← Bool.and_eq_true, he]; simp)] at HK3
            clear hp hb
            go_wp2_with fail
            refine (has1_any g s false E3 61 w8 HP8.out (by omega)).mono ?_
            rintro E w9 ⟨rfl, hp, hb⟩
            have HB9 := Lib.hid (HB8.out.trans hb)
            have B29 := Lib.hid (hb.keep B28.out (by omega))
            have B39 := Lib.hid (hb.keep B38.out (by omega))
            cases he1 : headIs 61 E3 with
            | true =>
              rw [he1, if_pos rfl] at hp
              have HP9 := Lib.hid hp
              have HKt : Hid (KeyTold P key 1 false E3.tail) := Lib.hid (.inr (.inr ⟨.inl rfl, rfl, by rw [← HK3, if_pos he1]⟩))
              have c9 : w9.cell? ⟨g3, 1, none⟩ = some (.int .i64 3) := cell_block B39.out 1
              have z9 : w9.frozen? ⟨g3, 1, none⟩ = false := free_block B39.out 1
              clear hp hb he he1 HK3
              go_wp2_with fail
              obtain ⟨t1, t2⟩ := touch_setCell (i := 1) (v := .int .i64 1) B39.out
              go_meet
              refine ⟨1, false, _, Lib.hid t1, ?_, Lib.hid (t2.block B29.out (by omega)), Lib.hid (HB9.out.touchNew t2 (by omega)), HKt⟩
              obtain ⟨x, x1, x2, x3⟩ := HP9.out
              exact Lib.hid ⟨x, x1, x2, t2.block x3 (by omega)⟩
            | false =>
              rw [he1, if_neg (by simp)] at hp
              have HP9 := Lib.hid hp
              rw [if_neg (by rw [he1]; simp)] at HK3
              clear hp hb
              go_wp2_with fail
              refine (has2_any g s false E3 33 61 w9 HP9.out (by omega)).mono ?_
              rintro E w10 ⟨rfl, hp, hb⟩
              have HB10 := Lib.hid (HB9.out.trans hb)
              have B210 := Lib.hid (hb.keep B29.out (by omega))
              have B310 := Lib.hid (hb.keep B39.out (by omega))
              cases he2 : headIs 33 E3 && headIs 61 E3.tail with
              | true =>
                rw [he2, if_pos rfl] at hp
                have HP10 := Lib.hid hp
                have HKt : Hid (KeyTold P key 2 false E3.tail.tail) := Lib.hid (.inr (.inr ⟨.inr rfl, rfl, by rw [← HK3, if_pos (by simpa using he2)]⟩))
                have c10 : w10.cell? ⟨g3, 1, none⟩ = some (.int .i64 3) := cell_block B310.out 1
                have z10 : w10.frozen? ⟨g3, 1, none⟩ = false := free_block B310.out 1
                clear hp hb he he1 he2 HK3
                go_wp2_with fail
                obtain ⟨t1, t2⟩ := touch_setCell (i := 1) (v := .int .i64 2) B310.out
                go_meet
                refine ⟨2, false, _, Lib.hid t1, ?_, Lib.hid (t2.block B210.out (by omega)), Lib.hid (HB10.out.touchNew t2 (by omega)), HKt⟩
                obtain ⟨x, x1, x2, x3⟩ := HP10.out
                exact Lib.hid ⟨x, x1, x2, t2.block x3 (by omega)⟩
              | false =>
                rw [he2, if_neg (by simp)] at hp
                have HP10 := Lib.hid hp
                rw [if_neg (by rw [← Bool.and_eq_true, he2]; simp)] at HK3
                clear hp hb
                cases bl with
                | true =>
                  have HK4 : Hid (choiceP key E3 = P) := Lib.hid (by rw [← HK3, if_pos rfl])
                  have cc := fun i => cell_block B310.out i
                  clear HK3 he he1 he2
                  go_wp2_with fail
                  refine (choice_any g s key E3 w10 HP10.out hs).mono ?_
                  rintro E w11 ⟨q, v2, rfl, hq, hown, htold, hb⟩
                  obtain ⟨av, cv, rfl, _, _⟩ := hown.row.len
                  have B211 := Lib.hid (hb.keep B210.out (by omega))
                  have HB11 := Lib.hid (HB10.out.trans hb)
                  have Hown := Lib.hid hown
                  have Htold := Lib.hid htold
                  have h10s := block_lt B310.out
                  clear hown htold hb cc
                  simp only []
                  go_at_K
                  refine at_last (by assumption) ?_
                  refine wpList_store_box (by rfl) _ _ _ (by rfl) w.heap.size #[.string q.key, .int .i64 q.kind, .slice av q.vals.length cv] (by rfl) (by rfl) _ _ B211.out Tryz.sizeReqP (by rfl) (by simp [Value.oneCell']) ?_
                  intro W12 b12 t12
                  have HB12 := Lib.hid (HB11.out.touchNew t12 (Nat.le_refl _))
                  have Hown12 := Lib.hid (Hown.out.touchLow flat_string t12 (by omega))
                  have T12 := Lib.hid t12
                  clear t12
                  go_wp2_with fail
                  refine bodyPost_ret (v := .agg #[.string q.key, .int .i64 q.kind, .slice av q.vals.length cv]) ?_ rfl ⟨q, .slice av q.vals.length cv, rfl, hq, Hown12.out.mono (by omega), ?_, HB12.out⟩
                  · have c12 := fun i => cell_block b12 i
                    simp [results, Tryz.results35, go_sem, c12]
                  · have keep : ∀ (bad : Bool) (r' : List UInt8), Par g s bad r' w11 → Par g s bad r' W12 := fun bad r' hp => by
                      obtain ⟨x, x1, x2, x3⟩ := hp
                      exact ⟨x, x1, x2, T12.out.block x3 (by omega)⟩
                    have hl := Htold.out
                    rw [← HK4.out]
                    unfold PartTold at hl ⊢
                    cases hL : choiceP key E3 with
                    | none =>
                      rw [hL] at hl
                      obtain ⟨r', hr'⟩ := hl
                      exact ⟨r', keep _ _ hr'⟩
                    | some x =>
                      rw [hL] at hl
                      exact ⟨hl.1, keep _ _ hl.2⟩
                | false =>
                  have HKt : Hid (KeyTold P key 3 true E3) := Lib.hid (.inr (.inl ⟨rfl, rfl, by rw [← HK3]; rfl⟩))
                  obtain ⟨p2, pz⟩ := par_cells HP10.out
                  clear HK3 he he1 he2
                  go_wp2_with fail
                  obtain ⟨t1, t2⟩ := par_bad HP10.out
                  go_meet
                  exact ⟨3, true, E3, Lib.hid (t2.block B310.out (by omega)), Lib.hid t1, Lib.hid (t2.block B210.out (by omega)), Lib.hid (HB10.out.trans (But.touch t2)), HKt⟩
    case rest =>
      obtain ⟨kd, bd, r', B3, HPr, B2, HB, HKt⟩ := hcut
      have hcs := block_lt B3.out
      have c1 : wc.cell? ⟨g3, 1, none⟩ = some (.int .i64 kd) := cell_block B3.out 1
      rcases HKt.out with ⟨rfl, rfl, hP⟩ | ⟨rfl, rfl, hP⟩ | ⟨hk, rfl, hP⟩
      · have HPP := Lib.hid hP
        clear hP HKt
        go_wp2_with (refine wpList_copy_box (by rfl) _ _ (by rfl) (by rfl) _ _ (by rfl) _ _ (by rfl) _ _ _ _ (by exact B3.out) (by rfl) (by rfl) _ _ (by exact B2.out) Tryz.underlying26 (by rfl) (by exact Tryz.sizeReqP) (by rfl) (by simp [Value.oneCell']) ?_)
        intro W8 b8 t8
        have HB8 := Lib.hid (HB.out.touchNew t8 (Nat.le_refl _))
        have HP8 : Hid (Par g s false r' W8) := Lib.hid (by
          obtain ⟨x, x1, x2, x3⟩ := HPr.out
          exact ⟨x, x1, x2, t8.block x3 (by omega)⟩)
        clear t8 c1
        go_wp2_with fail
        refine bodyPost_ret (v := .agg #[.string key, .int .i64 3, .slice none 0 0]) ?_ rfl ⟨⟨key, 3, []⟩, .slice none 0 0, rfl, ?_, OwnAt.nil _, ?_, HB8.out⟩
        · have c8 := fun i => cell_block b8 i
          simp [results, Tryz.results35, go_sem, c8]
        · show (1 : Int) ≤ 3 ∧ (3 : Int) ≤ 4
          decide
        · rw [HPP.out]
          exact ⟨rfl, HP8.out⟩
      · have HPP := Lib.hid hP
        clear hP HKt
        go_wp2_with (refine wpList_copy_box (by rfl) _ _ (by rfl) (by rfl) _ _ (by rfl) _ _ (by rfl) _ _ _ _ (by exact B3.out) (by rfl) (by rfl) _ _ (by exact B2.out) Tryz.underlying26 (by rfl) (by exact Tryz.sizeReqP) (by rfl) (by simp [Value.oneCell']) ?_)
        intro W8 b8 t8
        have HB8 := Lib.hid (HB.out.touchNew t8 (Nat.le_refl _))
        have HP8 : Hid (Par g s true r' W8) := Lib.hid (by
          obtain ⟨x, x1, x2, x3⟩ := HPr.out
          exact ⟨x, x1, x2, t8.block x3 (by omega)⟩)
        clear t8 c1
        go_wp2_with fail
        refine bodyPost_ret (v := .agg #[.string key, .int .i64 3, .slice none 0 0]) ?_ rfl ⟨⟨key, 3, []⟩, .slice none 0 0, rfl, ?_, OwnAt.nil _, ?_, HB8.out⟩
        · have c8 := fun i => cell_block b8 i
          simp [results, Tryz.results35, go_sem, c8]
        · show (1 : Int) ≤ 3 ∧ (3 : Int) ≤ 4
          decide
        · rw [HPP.out]
          exact ⟨_, HP8.out⟩
      · have HPP := Lib.hid hP
        have qk : (kd != 3) = true := by rw [bne_iff_ne]; omega
        have hk4 : 1 ≤ kd ∧ kd ≤ 4 := by omega
        clear hP hk HKt
        go_wp2_with fail
        refine (word_any g s false r' wc HPr.out (by omega)).mono ?_
        rintro E w8 ⟨rfl, hp, hb⟩
        obtain ⟨t, Ht⟩ : ∃ t, Hid (wordS r' = t) := ⟨_, Lib.hid rfl⟩
        rw [Ht.out] at HPP ⊢
        have HP8 := Lib.hid hp
        have HB8 := Lib.hid (HB.out.trans hb)
        have B28 := Lib.hid (hb.keep B2.out (by omega))
        have B38 := Lib.hid (hb.keep B3.out (by omega))
        have h8s := block_lt B38.out
        clear hp hb c1
        have c9 : w8.cell? ⟨g3, 2, none⟩ = some (.slice none 0 0) := cell_block B38.out 2
        have z9 : w8.frozen? ⟨g3, 2, none⟩ = false := free_block B38.out 2
        obtain ⟨t1, t2⟩ := touch_setCell (i := 2) (v := .slice (some ⟨w8.heap.size, 0, none⟩) 1 1) B38.out
        go_upto_region 19 with fail
        obtain ⟨W9, hW9⟩ : ∃ W9, w8.setCell ⟨g3, 2, none⟩ (.slice (some ⟨w8.heap.size, 0, none⟩) 1 1) = W9 := ⟨_, rfl⟩
        rw [hW9] at t1 t2 ⊢
        have hsz9 : W9.heap.size = w8.heap.size := t2.size
        have hown := own_one W9 t 9
        rw [hsz9] at hown
        obtain ⟨W, hW⟩ : ∃ W, W9.alloc (.cells #[.string t] 9) = W := ⟨_, rfl⟩
        have hb9 : Below W9.heap.size W9 W := by rw [← hW]; exact (Below.refl _ _).alloc (Nat.le_refl _) _
        rw [hW] at hown ⊢
        have B3W : Hid (W.heap[g3]? = some (.cells #[.string key, .int .i64 kd, .slice (some ⟨w8.heap.size, 0, none⟩) 1 1] 26 (0, 0))) := Lib.hid (below_block hb9 t1)
        have B2W := Lib.hid (below_block hb9 (t2.block B28.out (by omega)))
        have HBW := Lib.hid ((HB8.out.touchNew t2 (by omega)).trans (But.of hb9))
        have HownW := Lib.hid hown
        have HPW : Hid (Par g s false (wordE r') W) := Lib.hid (by
          obtain ⟨x, x1, x2, x3⟩ := HP8.out
          exact ⟨x, x1, x2, below_block hb9 (t2.block x3 (by omega))⟩)
        clear hW hW9 t1 t2 c9 z9 hown hb9 hsz9
        go_wp2_with (refine wpList_copy_box (by rfl) _ _ (by rfl) (by rfl) _ _ (by rfl) _ _ (by rfl) _ _ _ _ (by exact B3W.out) (by rfl) (by rfl) _ _ (by exact B2W.out) Tryz.underlying26 (by rfl) (by exact Tryz.sizeReqP) (by rfl) (by simp [Value.oneCell']) ?_)
        intro W10 b10 t10
        have HB10 := Lib.hid (HBW.out.touchNew t10 (Nat.le_refl _))
        have Hown10 := Lib.hid (HownW.out.touchLow flat_string t10 (by omega))
        have HP10 : Hid (Par g s false (wordE r') W10) := Lib.hid (by
          obtain ⟨x, x1, x2, x3⟩ := HPW.out
          exact ⟨x, x1, x2, t10.block x3 (by omega)⟩)
        clear t10
        go_wp2_with fail
        refine bodyPost_ret (v := .agg #[.string key, .int .i64 kd, .slice (some ⟨w8.heap.size, 0, none⟩) 1 1]) ?_ rfl ⟨⟨key, kd, [t]⟩, .slice (some ⟨w8.heap.size, 0, none⟩) 1 1, rfl, hk4, Hown10.out.mono (by omega), ?_, HB10.out⟩
        · have c10 := fun i => cell_block b10 i
          simp [results, Tryz.results35, go_sem, c10]
        · rw [HPP.out]
          exact ⟨rfl, HP10.out⟩
end Go.Proofs.YtlbolbkikkiifaaGreatDoor
/- Slices of the call's own whose things look into memory: append, where what they look into lies in blocks of another element type. Any program. -/
namespace Go.Proofs.YtlbolbkikkiifaaGreatDoor
open Go.RowKit

/-- blocks of every element type but e stay -/
def SameBut (e : TypeId) (w w' : World) : Prop := ∀ (b : Nat) (cs : Array Value) (t : TypeId) (fr : Nat × Nat), w.heap[b]? = some (.cells cs t fr) → t ≠ e → w'.heap[b]? = some (.cells cs t fr)
theorem sameBut_below {e : TypeId} {w w' : World} (h : Below w.heap.size w w') : SameBut e w w' := fun _ _ _ _ hb _ => below_block h hb
theorem SameBut.trans {e : TypeId} {a b c : World} (h : SameBut e a b) (k : SameBut e b c) : SameBut e a c := fun q cs t fr hq ht => k q cs t fr (h q cs t fr hq ht) ht
/-- a reading that does not look into blocks of type e -/
def StaysX {α : Type} (e : TypeId) (R : Rd α) : Prop := ∀ w w' cs x, SameBut e w w' → R w cs x → R w' cs x
/-- the reading at a world that is kept in mind -/
def AtW {α : Type} (w0 : World) (R : Rd α) : Rd α := fun _ cs x => R w0 cs x
theorem flat_atW {α : Type} (w0 : World) (R : Rd α) : Flat (AtW w0 R) := fun _ _ _ _ h => h
theorem one_atW {α : Type} {R : Rd α} (w0 : World) (h : OneR R) : OneR (AtW w0 R) := fun _ cs x hx u hu => h w0 cs x hx u hu
theorem RowAt.atW {α : Type} {R : Rd α} {k : Nat} {w w' : World} {v : Value} {l : List α} (h : RowAt R k w v l) (hb : Below w.heap.size w w') : RowAt (AtW w R) k w' v l := by
  rcases h with h | ⟨a, c, h1, h2, h3, h4⟩
  · exact .inl h
  · exact .inr ⟨a, c, h1, h2, h3, fun j x hx => by
      obtain ⟨cs, g1, g2, g3⟩ := h4 j x hx
      exact ⟨cs, g1, fun i u hu => keeps_below hb _ _ (g2 i u hu), g3⟩⟩
theorem RowAt.ofW {α : Type} {R : Rd α} {k : Nat} {w w' : World} {v : Value} {l : List α} (hs : Stays R) (h : RowAt (AtW w R) k w' v l) (hb : Below w.heap.size w w') : RowAt R k w' v l := by
  rcases h with h | ⟨a, c, h1, h2, h3, h4⟩
  · exact .inl h
  · exact .inr ⟨a, c, h1, h2, h3, fun j x hx => by
      obtain ⟨cs, g1, g2, g3⟩ := h4 j x hx
      exact ⟨cs, g1, g2, hs _ _ _ _ (keeps_below hb) g3⟩⟩
section
variable {α : Type} {R : Rd α} {k : Nat} {w w' : World} {v : Value} {l m : List α} {B : Nat} {e : TypeId}
theorem OwnAt.sameBut (h : OwnAt R k w B e v l) (hg : w.grownBy w' v.ownBlock) : SameBut e w w' := fun b cs t fr hb ht => by
  have hlt : b < w.heap.size := by
    rcases Nat.lt_or_ge b w.heap.size with h1 | h1
    · exact h1
    · rw [Array.getElem?_eq_none h1] at hb; cases hb
  refine (hg.block b hlt fun hv => ?_).trans hb
  obtain ⟨_, _, cur, hc⟩ := h.at hv.symm
  rw [hb] at hc
  cases hc
  exact ht rfl
theorem OwnAt.belowX (hs : StaysX e R) (h : OwnAt R k w B e v l) (hb : Below w.heap.size w w') : OwnAt R k w' B e v l := by
  obtain ⟨css, h1, h2, h3, h4⟩ := h
  exact ⟨css, h1, h2, own_below' h3 hb, fun j cs y hcs hy => hs _ _ _ _ (sameBut_below hb) (h4 j cs y hcs hy)⟩
end
section
variable {P : Program} {α : Type} {R : Rd α} {k : Nat} {l m : List α} {B : Nat} {e : TypeId}
theorem run_append_ownAtX (w : World) (t ty : TypeId) (i : TypeInfo) (z : Value) (bytes : Nat) (ht : P.underlying t = some (.slice e)) (hi : P.info? e = some i) (hz : i.zero = some z) (hsize : i.size = k) (hby : i.bytes = bytes)
    (hzs : z.cells.size = k) (hsz : 0 < k) (hf : StaysX e R) (h1 : OneR R) (v : Value) (hv : OwnAt R k w B e v l) (x : Value) (hx : RowAt R k w x m) (hlen : l.length + m.length ≤ maxLen)
    (hbytes : (l.length + m.length) * bytes ≤ 140737488355328) (hbase : B ≤ w.heap.size) :
    ∃ v' w', (Builtin.append_ #[t, t] ty #[v, x]).run P w = .ok v' w' ∧ OwnAt R k w' B e v' (l ++ m) ∧ w.grownBy w' v.ownBlock ∧ (∀ g, v.ownBlock = some g → B ≤ g) ∧ (v'.ownBlock = v.ownBlock ∨ v'.ownBlock = some w.heap.size) := by
  have hv0 := hv
  obtain ⟨css, c1, c2, c3, c4⟩ := hv
  rcases hx with ⟨rfl, rfl⟩ | ⟨a, c, rfl, hc1, hc2, hc3⟩
  · exact ⟨v, w, run_append_owned_none (P := P) w B t ty e i k ht hi v _ _ c3, ⟨css, by simpa using c1, c2, by simpa using c3, fun j cs y hcs hy => c4 j cs y hcs (by simpa using hy)⟩, World.grownBy.refl w _, fun g hg => (c3.lt g hg).1, .inl rfl⟩
  · obtain ⟨_, ds, d1, d2, d3, d4⟩ := RowAt.cells (R := R) (k := k) (w := w) (l := m) (.inr ⟨a, c, rfl, hc1, hc2, hc3⟩) rfl
    have d6 : ∀ u ∈ ds.flatten, u.oneCell' = true := fun u hu => by
      obtain ⟨cs, hcs, hu'⟩ := List.mem_flatten.1 hu
      obtain ⟨j, hj, rfl⟩ := List.getElem_of_mem hcs
      exact h1 w _ m[j] (d4 j _ _ (List.getElem?_eq_getElem hj) (List.getElem?_eq_getElem (by omega))) u hu'
    obtain ⟨v', w', hrun, r1, r2, _, r4⟩ := run_append_own_at (P := P) w B t ty e i z k bytes ht hi hz hsize hby hzs hsz v l.length css.flatten c3 a m.length c ds.flatten (by rw [flat_len d2, d1]) d3 d6 hlen hbytes hbase
    have hsm := hv0.sameBut r2
    refine ⟨v', w', hrun, ⟨css ++ ds, by simp [c1, d1], fun cs hcs => (List.mem_append.1 hcs).elim (c2 cs) (d2 cs), by rw [List.flatten_append, List.length_append]; exact r1, fun j cs y hcs hy => ?_⟩, r2, fun g hg => (c3.lt g hg).1, r4⟩
    by_cases hj : j < l.length
    · rw [List.getElem?_append_left (by omega)] at hcs hy
      exact hf _ _ _ _ hsm (c4 j cs y hcs hy)
    · rw [List.getElem?_append_right (by omega)] at hcs hy
      rw [c1] at hcs
      exact hf _ _ _ _ hsm (d4 _ cs y hcs hy)
theorem wpList_append_ownAtX (w : World) {ops : Array Oper} {rest : List Oper} {o : Oper} {a : Act} {Q : Exit → Act → World → Prop} (hg : o.guard = none) (s x : Operand) (t : TypeId)
    (ho : o.op = .call { callee := .builtin .append, args := #[s, x], argTypes := #[t, t] })
    (i : TypeInfo) (z : Value) (bytes : Nat) (ht : P.underlying t = some (.slice e)) (hi : P.info? e = some i) (hz : i.zero = some z) (hsize : i.size = k) (hby : i.bytes = bytes) (hzs : z.cells.size = k) (hsz : 0 < k) (hf : StaysX e R) (h1 : OneR R)
    (v : Value) (hs : a.eval s = v) (hv : OwnAt R k w B e v l) (xv : Value) (hxv : a.eval x = xv) (hx : RowAt R k w xv m) (hlen : l.length + m.length ≤ maxLen)
    (hbytes : (l.length + m.length) * bytes ≤ 140737488355328) (hbase : B ≤ w.heap.size)
    (h : ∀ v' w', OwnAt R k w' B e v' (l ++ m) → w.grownBy w' v.ownBlock → (∀ g, v.ownBlock = some g → B ≤ g) → (v'.ownBlock = v.ownBlock ∨ v'.ownBlock = some w.heap.size) → wpList P ops Q rest (a.put o.dst v') w') : wpList P ops Q (o :: rest) a w := by
  refine wpList_plain hg fun K hK' => ?_
  obtain ⟨v', w', hrun, r1, r2, r3, r4⟩ := run_append_ownAtX w t o.type i z bytes ht hi hz hsize hby hzs hsz hf h1 v hv xv hx hlen hbytes hbase
  unfold Oper.wp
  simp [execOp, ho, resolve, invoke, builtin, hs, hxv, hrun, Result.andThen]
  exact hK' _ _ (h v' w' r1 r2 r3 r4)
end
/-- texts that lie in blocks of another type than e -/
def StrX (e : TypeId) (w : World) (v : Value) (l : List ByteArray) : Prop := StrAt w v l ∧ (0 < l.length → ∃ (b o n c : Nat) (cs : Array Value) (t : TypeId) (fr : Nat × Nat), v = .slice (some ⟨b, o, none⟩) n c ∧ w.heap[b]? = some (.cells cs t fr) ∧ t ≠ e)
theorem StrX.stays {e : TypeId} {w w' : World} {v : Value} {l : List ByteArray} (h : StrX e w v l) (hs : SameBut e w w') : StrX e w' v l := by
  obtain ⟨h1, h2⟩ := h
  refine ⟨?_, fun hl => ?_⟩
  · rcases h1 with h3 | ⟨a, c, rfl, h3, h4, h5⟩
    · exact .inl h3
    · refine .inr ⟨a, c, rfl, h3, h4, fun j x hx => ?_⟩
      have hl : 0 < l.length := by have := (List.getElem?_eq_some_iff.1 hx).1; omega
      obtain ⟨b, o, n, c', cs, t, fr, hv, hb, ht⟩ := h2 hl
      cases hv
      have h6 := h5 j x hx
      have hb' := hs b cs t fr hb ht
      rw [add_plain'] at h6 ⊢
      rw [World.cell?_of_block (a := ⟨b, o + j, none⟩) (w := w) (w' := w') (by show w'.heap[b]? = w.heap[b]?; rw [hb, hb'])]
      exact h6
  · obtain ⟨b, o, n, c', cs, t, fr, hv, hb, ht⟩ := h2 hl
    exact ⟨b, o, n, c', cs, t, fr, hv, hs b cs t fr hb ht, ht⟩
theorem OwnAt.strX {e t : TypeId} {w : World} {B : Nat} {v : Value} {l : List ByteArray} (h : OwnAt RString 1 w B t v l) (ht : t ≠ e) : StrX e w v l := by
  refine ⟨h.row.strs, fun hl => ?_⟩
  rcases h.form with ⟨_, rfl⟩ | ⟨g, c, rfl, _, _, _, _⟩
  · simp at hl
  · obtain ⟨_, _, cur, hc⟩ := h.at (g := g) rfl
    exact ⟨g, 0, _, c, cur, t, _, rfl, hc, ht⟩
end Go.Proofs.YtlbolbkikkiifaaGreatDoor
/- query: check, Check, CheckLabels: their contracts. -/
namespace Go.Proofs.YtlbolbkikkiifaaGreatDoor
open Go.RowKit

def okReq (r : GReq) : Prop := r.key.size ≤ 1048576 ∧ r.vals.length ≤ 1048576 ∧ ∀ x ∈ r.vals, x.size ≤ 1048576
def okLab (x : GLabel) : Prop := x.key.size ≤ 1048576 ∧ x.val.size ≤ 1048576
theorem ret_int {a b : Int} (h : a = b) : Ending.returned (.int .i64 a) = .returned (.int .i64 b) := by rw [h]
set_option maxRecDepth 100000 in
set_option maxHeartbeats 3200000 in
theorem check1_any (r : GReq) (v2 : Value) (m : Int) (w : World) (h : ReqR w [.string r.key, .int .i64 r.kind, v2] r) (hok : okReq r) (hm : MaxOK m w) :
    Calls Tryz.prog 44 #[.agg #[.string r.key, .int .i64 r.kind, v2]] w fun e w' => e = .returned (.int .i64 (reqE r)) ∧ Below w.heap.size w w' := by
  obtain ⟨v2', h1, _, hst⟩ := h
  obtain rfl : v2 = v2' := by injection h1 with _ h1; injection h1 with _ h1; injection h1
  clear h1
  obtain ⟨ao, c, rfl, _, _⟩ := hst.row.len
  obtain ⟨ok1, ok2, ok3⟩ := hok
  obtain ⟨R, HR⟩ : ∃ R, Hid (reqE r = R) := ⟨_, Lib.hid rfl⟩
  rw [HR.out]
  have hE : reqE r = if keyE r.key ≠ 0 then keyE r.key else if argR r = true then 1 else if 8 < r.vals.length then 2 else errF valE r.vals := rfl
  rw [HR.out] at hE
  have HE := Lib.hid hE
  have Hst := Lib.hid hst
  have Hm := Lib.hid hm
  have Hok3 := Lib.hid ok3
  obtain ⟨nv, Hnv⟩ : ∃ nv, Hid (r.vals.length = nv) := ⟨_, Lib.hid rfl⟩
  rw [Hnv.out] at ok2 ⊢
  obtain ⟨kd, Hkd⟩ : ∃ kd, Hid (r.kind = kd) := ⟨_, Lib.hid rfl⟩
  rw [Hkd.out]
  obtain ⟨ky, Hky⟩ : ∃ ky, Hid (r.key = ky) := ⟨_, Lib.hid rfl⟩
  rw [Hky.out] at ok1 ⊢
  clear hE hst hm ok3
  obtain ⟨w1, hw1⟩ : ∃ w1, w1 = w.alloc (.cells #[.string ky, .int .i64 kd, .slice ao nv c] 26) := ⟨_, rfl⟩
  obtain ⟨g, hg⟩ : ∃ g, g = w.heap.size := ⟨_, rfl⟩
  have b1 : w1.heap[g]? = some (.cells #[.string ky, .int .i64 kd, .slice ao nv c] 26 (0, 0)) := by rw [hw1, hg]; exact heap_alloc_new w _
  have hb1 : Below w.heap.size w w1 := by rw [hw1]; exact (Below.refl _ _).alloc (Nat.le_refl _) _
  have Hb1 := Lib.hid hb1
  have B1 := Lib.hid b1
  have cc := fun i => cell_block b1 i
  clear b1 hb1
  obtain ⟨ls, Hls⟩ : ∃ ls, Hid (listsK kd = ls) := ⟨_, Lib.hid rfl⟩
  have way : (kd = 1 ∧ ls = true) ∨ ((kd == 1) = false ∧ kd = 2 ∧ ls = true) ∨ ((kd == 1) = false ∧ (kd == 2) = false ∧ ls = false) := by
    have := Hls.out
    unfold listsK at this
    by_cases k1 : kd = 1
    · subst k1; exact .inl ⟨rfl, this.symm⟩
    · by_cases k2 : kd = 2
      · subst k2; exact .inr (.inl ⟨rfl, rfl, this.symm⟩)
      · have e1 : (kd == 1) = false := by rw [beq_eq_false_iff_ne]; exact k1
        have e2 : (kd == 2) = false := by rw [beq_eq_false_iff_ne]; exact k2
        rw [e1, e2] at this
        exact .inr (.inr ⟨e1, e2, this.symm⟩)
  go_enter Tryz.func44, Tryz.ntmps44
  go_upto_region 1 with fail
  rw [← hw1]
  try rw [← hg]
  clear hw1 hg
  go_cut [3] (fun u3 wx => u3 = .bool ls ∧ w1 = wx)
  case first =>
    rcases way with ⟨rfl, rfl⟩ | ⟨q1, rfl, rfl⟩ | ⟨q1, q2, rfl⟩
    all_goals
      go_wp2_with fail
      go_meet
      exact ⟨rfl, rfl⟩
  case rest =>
  obtain ⟨rfl, rfl⟩ := hcut
  clear way
  go_wp2_with fail
  refine (checkKey_any ky m w1 (by omega) (Hm.out.below Hb1.out)).mono ?_
  rintro E w2 ⟨rfl, hb2⟩
  have Hb2 := Lib.hid (Hb1.out.trans (hb2.mono Hb1.out.size))
  have b2 := below_block hb2 B1.out
  have B2 := Lib.hid b2
  have hkk : keyE r.key = NameP.checkKey ky.data.toList := by rw [Hky.out]; rfl
  obtain ⟨kE, HkE⟩ : ∃ kE, Hid (NameP.checkKey ky.data.toList = kE) := ⟨_, Lib.hid rfl⟩
  rw [HkE.out] at hkk ⊢
  have Hkk := Lib.hid hkk
  clear cc hb2 hkk
  have cc := fun i => cell_block b2 i
  clear b2
  by_cases hk0 : kE = 0
  · subst hk0
    have hR2 : R = if argR r = true then 1 else if 8 < nv then 2 else errF valE r.vals := by rw [HE.out, Hkk.out, if_neg (by simp), Hnv.out]
    have HR2 := Lib.hid hR2
    clear hR2
    obtain ⟨ar, Har⟩ : ∃ ar, Hid (argR r = ar) := ⟨_, Lib.hid rfl⟩
    have way : (kd < 1 ∧ ar = true) ∨ (¬ kd < 1 ∧ 4 < kd ∧ ar = true) ∨ (¬ kd < 1 ∧ ¬ 4 < kd ∧ (0 : Int) < (nv : Int) ∧ ls = true ∧ ar = false) ∨ (¬ kd < 1 ∧ ¬ 4 < kd ∧ (0 : Int) < (nv : Int) ∧ ls = false ∧ ar = true) ∨ (¬ kd < 1 ∧ ¬ 4 < kd ∧ ¬ (0 : Int) < (nv : Int) ∧ ls = true ∧ ar = true) ∨ (¬ kd < 1 ∧ ¬ 4 < kd ∧ ¬ (0 : Int) < (nv : Int) ∧ ls = false ∧ ar = false) := by
      have e := Har.out
      unfold argR at e
      rw [Hkd.out, Hnv.out, Hls.out] at e
      by_cases k1 : kd < 1
      · rw [decide_eq_true k1, Bool.true_or] at e; exact .inl ⟨k1, e.symm⟩
      · rw [decide_eq_false k1, Bool.false_or] at e
        by_cases k2 : 4 < kd
        · rw [decide_eq_true k2, Bool.true_or] at e; exact .inr (.inl ⟨k1, k2, e.symm⟩)
        · rw [decide_eq_false k2, Bool.false_or] at e
          by_cases k3 : 0 < nv
          · rw [decide_eq_true k3] at e
            cases ls with
            | true => exact .inr (.inr (.inl ⟨k1, k2, by omega, rfl, e.symm⟩))
            | false => exact .inr (.inr (.inr (.inl ⟨k1, k2, by omega, rfl, e.symm⟩)))
          · rw [decide_eq_false k3] at e
            cases ls with
            | true => exact .inr (.inr (.inr (.inr (.inl ⟨k1, k2, by omega, rfl, e.symm⟩))))
            | false => exact .inr (.inr (.inr (.inr (.inr ⟨k1, k2, by omega, rfl, e.symm⟩))))
    go_upto_region 5 with fail
    go_cut [22] (fun u22 wx => u22 = .bool ar ∧ w2 = wx)
    case first =>
      clear Har HR2 Hls
      rcases way with ⟨k1, rfl⟩ | ⟨k1, k2, rfl⟩ | ⟨k1, k2, k3, rfl, rfl⟩ | ⟨k1, k2, k3, rfl, rfl⟩ | ⟨k1, k2, k3, rfl, rfl⟩ | ⟨k1, k2, k3, rfl, rfl⟩
      all_goals
        go_wp2_with fail
        go_meet
        exact ⟨by first | rfl | (simp [k1, k2]; omega), rfl⟩
    case rest =>
    obtain ⟨rfl, rfl⟩ := hcut
    clear way
    rw [Har.out] at HR2
    cases ar with
    | true =>
      go_wp2_with fail
      go_ret
      exact ⟨ret_int (by rw [HR2.out]; rfl), Hb2.out⟩
    | false =>
      have HR3 : Hid (R = if 8 < nv then 2 else errF valE r.vals) := Lib.hid (by rw [HR2.out]; rfl)
      clear HR2
      by_cases h8 : 8 < nv
      · have q0 : (8 : Int) < (nv : Int) := by omega
        have HR4 : Hid (2 = R) := Lib.hid (by rw [HR3.out, if_pos h8])
        clear HR3 h8
        go_wp2_with fail
        go_ret
        exact ⟨ret_int HR4.out, Hb2.out⟩
      · have q0 : ¬ (8 : Int) < (nv : Int) := by omega
        have HR4 : Hid (R = errF valE r.vals) := Lib.hid (by rw [HR3.out, if_neg h8])
        clear HR3 h8
        go_wp2_with fail
        go_loopg [47] nv (fun k u47 wr => ∃ i : Nat, i + k = nv ∧ u47 = .int .i64 (i : Int) ∧ Hid (∀ x ∈ r.vals.take i, valE x = 0) ∧ w2 = wr)
        case atStart => exact ⟨0, by omega, rfl, Lib.hid (by simp), rfl⟩
        case round =>
          obtain ⟨i, hig, rfl, Hall, rfl⟩ := hrel
          cases gk with
          | zero =>
            obtain rfl : i = nv := by omega
            have HR5 : Hid (0 = R) := Lib.hid (by
              rw [HR4.out, errF_none]
              intro x hx
              refine Hall.out x ?_
              rw [List.take_of_length_le (by rw [Hnv.out]; exact Nat.le_refl _)]; exact hx)
            go_wp2_with fail
            go_ret
            exact ⟨ret_int HR5.out, Hb2.out⟩
          | succ k =>
            have hil : i < r.vals.length := by rw [Hnv.out]; omega
            obtain ⟨x, hxi⟩ : ∃ x, r.vals[i]? = some x := ⟨r.vals[i]'(by omega), List.getElem?_eq_getElem _⟩
            have hst2 := Hst.out.below Hb2.out
            obtain ⟨b, o, c', hv, _, _, _, hcell⟩ := hst2.form (by omega)
            injection hv with u1 u2 u3
            subst u1
            clear u2 u3
            have e0 : w2.cell? ⟨b, o + i, none⟩ = some (.string x) := hcell i x hxi
            have q1 : (0 : Int) ≤ (i : Int) := by omega
            have q2 : (i : Int) < (nv : Int) := by omega
            have hxs := Hok3.out x (List.mem_of_getElem? hxi)
            have Hxi := Lib.hid hxi
            clear hcell hst2 hxi
            obtain ⟨vE, HvE⟩ : ∃ vE, Hid (NameP.checkVal x.data.toList = vE) := ⟨_, Lib.hid rfl⟩
            go_wp2_with fail
            refine (checkVal_any x _ (by omega)).mono ?_
            rintro E w' ⟨rfl, rfl⟩
            rw [HvE.out]
            by_cases hv0 : vE = 0
            · subst hv0
              have Hall2 : Hid (∀ y ∈ r.vals.take (i + 1), valE y = 0) := Lib.hid fun y hy => by
                rw [List.take_add_one, Hxi.out] at hy
                rcases List.mem_append.1 hy with h | h
                · exact Hall.out y h
                · simp at h; subst h; exact HvE.out
              go_wp2_with fail
              go_roundg k
              case measure => omega
              case rel => exact ⟨i + 1, by omega, by go_num, Hall2, rfl⟩
            · have q3 : (vE == 0) = false := by rw [beq_eq_false_iff_ne]; exact hv0
              have q4 : (vE != 0) = true := by rw [bne_iff_ne]; exact hv0
              have HR5 : Hid (vE = R) := Lib.hid (by rw [HR4.out, errF_at Hxi.out Hall.out (by unfold valE; rw [HvE.out]; exact hv0)]; exact HvE.out.symm)
              clear hv0
              go_wp2_with fail
              go_ret
              exact ⟨ret_int HR5.out, Hb2.out⟩
  · have q0 : (kE == 0) = false := by rw [beq_eq_false_iff_ne]; exact hk0
    have q1 : (kE != 0) = true := by rw [bne_iff_ne]; exact hk0
    have HR2 : Hid (kE = R) := Lib.hid (by rw [HE.out, Hkk.out, if_pos hk0])
    clear hk0
    go_wp2_with fail
    go_ret
    exact ⟨ret_int HR2.out, Hb2.out⟩
end Go.Proofs.YtlbolbkikkiifaaGreatDoor
