/- The walks of name.made, isName, isWord, judge, Check, CheckVal. -/
import Derived.Test.YtkmonmdnmpbadaaDoorNameWalk
namespace Go.Proofs.YtkmonmdnmpbadaaDoor
open Go.RowKit

/-- a function on bytes that answers p and leaves the world alone -/
structure Tells (f : FuncId) (p : Nat → Bool) : Prop where
  enter : ∀ (a : Array Value) (w : World), (callFunc f a).run Tryd.prog w = .ok (.enter f a) w
  calls : ∀ (c : Nat) (w : World), c < 256 → Calls Tryd.prog f #[.int .u8 (c : Int)] w fun e w' => e = .returned (.bool (p c)) ∧ w = w'
theorem low_tells : Tells 97 NameP.low := ⟨run_callFunc_body Tryd.func97 (by kernel_rfl) (by kernel_rfl), fun c w h => isLow_any c w h⟩
theorem edge_tells : Tells 99 NameP.edge := ⟨run_callFunc_body Tryd.func99 (by kernel_rfl) (by kernel_rfl), fun c w h => isEdge_any c w h⟩
theorem dash_tells : Tells 98 NameP.dash := ⟨run_callFunc_body Tryd.func98 (by kernel_rfl) (by kernel_rfl), fun c w h => dash_any c w h⟩
theorem wordIn_tells : Tells 100 NameP.wordIn := ⟨run_callFunc_body Tryd.func100 (by kernel_rfl) (by kernel_rfl), fun c w h => wordIn_any c w h⟩

theorem made_nil {e v : Nat → Bool} {s : ByteArray} (h : s.toList = []) : NameP.made e v s.data.toList = false := by
  rw [ByteArray.toList_eq] at h; rw [h]; rfl

theorem made_cons {p q : Nat → Bool} (s : ByteArray) (h : 1 ≤ s.size) :
    NameP.made p q s.data.toList = (p s[0].toNat && p s[s.size - 1].toNat && s.data.toList.all fun c => p c.toNat || q c.toNat) := by
  have hl : s.data.toList.length = s.size := by simp
  have h0 : s.data.toList[0]? = some s[0] := by rw [List.getElem?_eq_getElem (by omega)]; rfl
  have h1 : s.data.toList.getLast? = some s[s.size - 1] := by
    rw [List.getLast?_eq_getElem?, hl, List.getElem?_eq_getElem (by omega)]; rfl
  cases hd : s.data.toList with
  | nil => rw [hd] at hl; simp at hl; omega
  | cons x r =>
    rw [hd] at h0 h1
    simp only [List.getElem?_cons_zero, Option.some.injEq] at h0
    rw [List.getLast?_eq_some_getLast (by simp)] at h1
    simp only [Option.some.injEq] at h1
    unfold NameP.made
    rw [← h0, ← h1]

theorem all_snoc {s : ByteArray} {k : Nat} {f : UInt8 → Bool} (h : k < s.size) (ha : Hid ((s.data.toList.take k).all f = true)) (hk : f s[k] = true) : Hid ((s.data.toList.take (k + 1)).all f = true) := by
  show _ = _
  rw [take_snoc s k h, List.all_append, ha.out]
  simp [hk]
theorem all_not {s : ByteArray} {k : Nat} {f : UInt8 → Bool} (h : k < s.size) (hk : f s[k] = false) : s.data.toList.all f = false := by
  rw [List.all_eq_false]
  refine ⟨s[k], ?_, by rw [hk]; simp⟩
  have : s[k] = s.data.toList[k]'(by simpa using h) := rfl
  rw [this]
  exact List.getElem_mem _

set_option maxRecDepth 100000 in
set_option maxHeartbeats 1600000 in
theorem made_any {ef vf : FuncId} {p q : Nat → Bool} (hp : Tells ef p) (hq : Tells vf q) (s : ByteArray) (w : World) (hs : s.size ≤ 1099511627776) :
    Calls Tryd.prog 96 #[.string s, .func (.func ef) #[] #[], .func (.func vf) #[] #[]] w fun e w' => e = .returned (.bool (NameP.made p q s.data.toList)) ∧ w = w' := by
  by_cases h0 : s.size = 0
  · have hl : s.toList = [] := by rw [ByteArray.toList_eq]; exact List.eq_nil_of_length_eq_zero (by simpa using h0)
    have Hm := Lib.hid (made_nil (e := p) (v := q) hl)
    have hle : s.toList.isEmpty = true := by rw [hl]; rfl
    clear h0
    go_enter Tryd.func96, Tryd.ntmps96
    go_wp2
    go_ret
    exact ⟨by rw [Hm.out]; rfl, rfl⟩
  · have h1 : 1 ≤ s.size := by omega
    have hne : (!s.toList.isEmpty) = true := by
      rw [ByteArray.toList_eq]
      have hl : s.data.toList.length = s.size := by simp
      cases hd : s.data.toList with | nil => rw [hd] at hl; simp at hl; omega | cons x r => rfl
    have hne2 : s.toList.isEmpty = false := by simpa using hne
    have HM := Lib.hid (made_cons (p := p) (q := q) s h1)
    clear h0
    have c0 : s[0].toNat < 256 := s[0].toNat_lt
    have cl : s[s.size - 1].toNat < 256 := s[s.size - 1].toNat_lt
    have i0 : (0 : Int) < (s.size : Int) := by omega
    have i1 : (0 : Int) ≤ (s.size : Int) - 1 := by omega
    have i2 : (s.size : Int) - 1 < (s.size : Int) := by omega
    have i3 : ((s.size : Int) - 1).toNat = s.size - 1 := by omega
    have ep := hp.enter
    have eq := hq.enter
    cases h2 : p s[0].toNat with
    | false =>
      have H2 := Lib.hid h2; clear h2
      go_enter Tryd.func96, Tryd.ntmps96
      go_wp2_with fail
      refine (hp.calls _ _ c0).mono ?_
      rintro e w' ⟨rfl, rfl⟩
      rw [H2.out]
      go_wp2_with fail
      go_ret
      exact ⟨congrArg (fun b => Ending.returned (.bool b)) (by rw [HM.out, H2.out]; rfl), rfl⟩
    | true =>
      have H2 := Lib.hid h2; clear h2
      cases h3 : p s[s.size - 1].toNat with
      | false =>
        have H3 := Lib.hid h3; clear h3
        go_enter Tryd.func96, Tryd.ntmps96
        go_wp2_with fail
        refine (hp.calls _ _ c0).mono ?_
        rintro e w' ⟨rfl, rfl⟩
        rw [H2.out]
        go_wp2_with fail
        refine (hp.calls _ _ cl).mono ?_
        rintro e w' ⟨rfl, rfl⟩
        rw [H3.out]
        go_wp2_with fail
        go_ret
        exact ⟨congrArg (fun b => Ending.returned (.bool b)) (by rw [HM.out, H2.out, H3.out]; rfl), rfl⟩
      | true =>
        have H3 := Lib.hid h3; clear h3
        go_enter Tryd.func96, Tryd.ntmps96
        go_wp2_with fail
        refine (hp.calls _ _ c0).mono ?_
        rintro e w' ⟨rfl, rfl⟩
        rw [H2.out]
        go_wp2_with fail
        refine (hp.calls _ _ cl).mono ?_
        rintro e w' ⟨rfl, rfl⟩
        rw [H3.out]
        go_wp2_with fail
        go_loop [29] (fun i => ∃ k : Nat, k ≤ s.size ∧ i = .int .i64 k ∧ Hid (((s.data.toList.take k).all fun c => p c.toNat || q c.toNat) = true)) (fun i => s.size - (intOf i).toNat)
        case atStart => exact ⟨0, Nat.zero_le _, rfl, by show _ = _; simp⟩
        case round =>
          obtain ⟨k, hk, rfl, HA⟩ := hrel
          by_cases hlt : k < s.size
          · have ck : s[k].toNat < 256 := s[k].toNat_lt
            have j0 : (0 : Int) ≤ (k : Int) := by omega
            have j1 : (k : Int) < (s.size : Int) := by omega
            cases h4 : p s[k].toNat with
            | true =>
              have H4 := Lib.hid h4; clear h4
              go_wp2_with fail
              refine (hp.calls _ _ ck).mono ?_
              rintro e w' ⟨rfl, rfl⟩
              rw [H4.out]
              go_wp2_with fail
              go_round
              case rel => exact ⟨k + 1, by omega, by go_num, all_snoc hlt HA (by rw [H4.out]; rfl)⟩
              case measure => simp [intOf]; omega
            | false =>
              have H4 := Lib.hid h4; clear h4
              cases h5 : q s[k].toNat with
              | true =>
                have H5 := Lib.hid h5; clear h5
                go_wp2_with fail
                refine (hp.calls _ _ ck).mono ?_
                rintro e w' ⟨rfl, rfl⟩
                rw [H4.out]
                go_wp2_with fail
                refine (hq.calls _ _ ck).mono ?_
                rintro e w' ⟨rfl, rfl⟩
                rw [H5.out]
                go_wp2_with fail
                go_round
                case rel => exact ⟨k + 1, by omega, by go_num, all_snoc hlt HA (by rw [H4.out, H5.out]; rfl)⟩
                case measure => simp [intOf]; omega
              | false =>
                have H5 := Lib.hid h5; clear h5
                go_wp2_with fail
                refine (hp.calls _ _ ck).mono ?_
                rintro e w' ⟨rfl, rfl⟩
                rw [H4.out]
                go_wp2_with fail
                refine (hq.calls _ _ ck).mono ?_
                rintro e w' ⟨rfl, rfl⟩
                rw [H5.out]
                go_wp2_with fail
                go_ret
                exact ⟨congrArg (fun b => Ending.returned (.bool b)) (by rw [HM.out, all_not hlt (by rw [H4.out, H5.out]; rfl)]; simp), rfl⟩
          · go_wp2_with fail
            go_ret
            refine ⟨congrArg (fun b => Ending.returned (.bool b)) ?_, rfl⟩
            have := HA.out
            rw [List.take_of_length_le (by simp; omega)] at this
            rw [HM.out, H2.out, H3.out, this]; rfl

set_option maxHeartbeats 800000 in
theorem judge_any (s : ByteArray) (most : Nat) (b : Bool) (w : World) (_hs : s.size ≤ 1099511627776) (_hm : most ≤ 1000) :
    Calls Tryd.prog 74 #[.string s, .int .i64 (most : Int), .bool b] w fun e w' => e = .returned (.int .i64 (NameP.judge s.size most b)) ∧ w = w' := by
  by_cases h : most < s.size
  · go_enter Tryd.func74, Tryd.ntmps74
    go_wp2
    go_ret
    exact ⟨congrArg (fun b => Ending.returned (.int .i64 b)) (by unfold NameP.judge; rw [if_pos h]), rfl⟩
  · cases b
    all_goals
      go_enter Tryd.func74, Tryd.ntmps74
      go_wp2
      go_ret
      exact ⟨congrArg (fun b => Ending.returned (.int .i64 b)) (by unfold NameP.judge; rw [if_neg h]; rfl), rfl⟩

theorem isName_any (s : ByteArray) (w : World) (hs : s.size ≤ 1099511627776) :
    Calls Tryd.prog 73 #[.string s] w fun e w' => e = .returned (.bool (NameP.isName s.data.toList)) ∧ w = w' := by
  go_enter Tryd.func73, Tryd.ntmps73
  go_wp2_with fail
  refine (made_any low_tells dash_tells s _ hs).mono ?_
  rintro e w' ⟨rfl, rfl⟩
  go_wp2_with fail
  go_ret
  exact ⟨rfl, rfl⟩

theorem check_any (s : ByteArray) (w : World) (hs : s.size ≤ 1099511627776) :
    Calls Tryd.prog 79 #[.string s] w fun e w' => e = .returned (.int .i64 (NameP.check s.data.toList)) ∧ w = w' := by
  go_enter Tryd.func79, Tryd.ntmps79
  go_wp2_with fail
  refine (isName_any s _ hs).mono ?_
  rintro e w' ⟨rfl, rfl⟩
  go_wp2_with fail
  refine (judge_any s 63 _ _ hs (by omega)).mono ?_
  rintro e w' ⟨rfl, rfl⟩
  go_wp2_with fail
  go_ret
  exact ⟨by simp [NameP.check], rfl⟩
theorem isWord_any (s : ByteArray) (w : World) (hs : s.size ≤ 1099511627776) :
    Calls Tryd.prog 75 #[.string s] w fun e w' => e = .returned (.bool (NameP.isWord s.data.toList)) ∧ w = w' := by
  go_enter Tryd.func75, Tryd.ntmps75
  go_wp2_with fail
  refine (made_any edge_tells wordIn_tells s _ hs).mono ?_
  rintro e w' ⟨rfl, rfl⟩
  go_wp2_with fail
  go_ret
  exact ⟨rfl, rfl⟩
end Go.Proofs.YtkmonmdnmpbadaaDoor
