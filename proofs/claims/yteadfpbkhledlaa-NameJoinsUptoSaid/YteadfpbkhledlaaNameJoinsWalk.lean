/- The walk of the law NameJoins: it returns true, where what it reads is of bulk at most the bound. -/
import Derived.Test.YteadfpbkhledlaaJoinWalk
namespace Go.Proofs.Yteadfpbkhledlaa
open Go.RowKit

theorem check_none : NameP.check (ByteArray.mk #[]).data.toList = 6 := by rfl
theorem checkVal_none : NameP.checkVal (ByteArray.mk #[]).data.toList = 0 := by rfl

set_option maxRecDepth 100000 in
set_option maxHeartbeats 1600000 in
theorem nameJoins_walk (a b : ByteArray) (w : World) (hbulk : a.data.toList.length + 1 + (b.data.toList.length + 1 + 0) ≤ 1048576) :
    Calls Try.prog 9 #[.string a, .string b] w fun e w' => e = .returned (.bool true) ∧ Below w.heap.size w w' := by
  have hs : a.size ≤ 1048576 := by simp at hbulk; omega
  have ht : b.size ≤ 1048576 := by simp at hbulk; omega
  have la : a.data.toList.length = a.size := by simp
  have lb : b.data.toList.length = b.size := by simp
  have HL := Lib.hid (And.intro la lb)
  clear hbulk la lb
  by_cases ha : NameP.check a.data.toList = 0
  · have Ha := Lib.hid ha
    by_cases hb : NameP.check b.data.toList = 0
    · have Hb := Lib.hid hb
      by_cases hl : a.size + b.size < 63
      · have hd : decide ((a.size : Int) + (b.size : Int) < 63) = true := by rw [decide_eq_true_eq]; omega
        have hc := NameP.join_check ha hb (by rw [HL.out.1, HL.out.2]; exact hl)
        have Ho : Hid (joinOut a.data.toList b.data.toList = .tuple #[.string ⟨(a.data.toList ++ 45 :: b.data.toList).toArray⟩, .int .i64 0]) := by
          show _ = _; unfold joinOut; simp [ha, hb, hc]
        have Hc := Lib.hid (And.intro hc (NameP.checkVal_ok hc))
        clear ha hb hc
        have hq : ((a.data.toList ++ 45 :: b.data.toList) == (a ++ ⟨#[45]⟩ ++ b).toList) = true := by rw [ByteArray.toList_eq]; simp [ByteArray.data_append]
        have hz : (ByteArray.mk (a.data.toList ++ 45 :: b.data.toList).toArray).size ≤ 1099511627776 := by rw [size_mk]; simp; omega
        have HZ := Lib.hid hz; clear hz
        go_enter Try.func9, Try.ntmps9
        go_wp2_with fail
        refine (join_any a b _ hs ht).mono ?_
        rintro e w1 ⟨rfl, hb1⟩
        rw [Ho.out]
        go_wp2_with fail
        refine (check_any _ _ (by decide)).mono ?_
        rintro e w' ⟨rfl, rfl⟩
        rw [check_none]
        go_wp2_with fail
        refine (checkVal_any _ _ (by decide)).mono ?_
        rintro e w' ⟨rfl, rfl⟩
        rw [checkVal_none]
        go_wp2_with fail
        refine (check_any a _ (by omega)).mono ?_
        rintro e w' ⟨rfl, rfl⟩
        rw [Ha.out]
        go_wp2_with fail
        refine (check_any b _ (by omega)).mono ?_
        rintro e w' ⟨rfl, rfl⟩
        rw [Hb.out]
        go_wp2_with fail
        refine (check_any _ _ HZ.out).mono ?_
        rintro e w' ⟨rfl, rfl⟩
        rw [List.toList_toArray, Hc.out.1]
        go_wp2_with fail
        refine (checkVal_any _ _ HZ.out).mono ?_
        rintro e w' ⟨rfl, rfl⟩
        rw [List.toList_toArray, Hc.out.2]
        go_wp2_with fail
        go_ret
        exact ⟨by simp, hb1⟩
      · have hd : decide ((a.size : Int) + (b.size : Int) < 63) = false := by rw [decide_eq_false_iff_not]; omega
        have hc := NameP.join_long (a := a.data.toList) (b := b.data.toList) (by rw [HL.out.1, HL.out.2]; exact hl)
        have Ho : Hid (joinOut a.data.toList b.data.toList = .tuple #[.string ⟨#[]⟩, .int .i64 2]) := by
          show _ = _; unfold joinOut; simp [ha, hb, hc]
        clear ha hb hc
        go_enter Try.func9, Try.ntmps9
        go_wp2_with fail
        refine (join_any a b _ hs ht).mono ?_
        rintro e w1 ⟨rfl, hb1⟩
        rw [Ho.out]
        go_wp2_with fail
        refine (check_any _ _ (by decide)).mono ?_
        rintro e w' ⟨rfl, rfl⟩
        rw [check_none]
        go_wp2_with fail
        refine (checkVal_any _ _ (by decide)).mono ?_
        rintro e w' ⟨rfl, rfl⟩
        rw [checkVal_none]
        go_wp2_with fail
        refine (check_any a _ (by omega)).mono ?_
        rintro e w' ⟨rfl, rfl⟩
        rw [Ha.out]
        go_wp2_with fail
        refine (check_any b _ (by omega)).mono ?_
        rintro e w' ⟨rfl, rfl⟩
        rw [Hb.out]
        go_wp2_with fail
        go_ret
        exact ⟨by simp, hb1⟩
    · have hcb : (NameP.check b.data.toList == 0) = false := by rw [beq_eq_false_iff_ne]; exact hb
      have hcn : (NameP.check b.data.toList != 0) = true := by rw [bne_iff_ne]; exact hb
      have Ho : Hid (joinOut a.data.toList b.data.toList = .tuple #[.string ⟨#[]⟩, .int .i64 (NameP.check b.data.toList)]) := by
        show _ = _; unfold joinOut; simp [ha, hb]
      clear ha hb
      go_enter Try.func9, Try.ntmps9
      go_wp2_with fail
      refine (join_any a b _ hs ht).mono ?_
      rintro e w1 ⟨rfl, hb1⟩
      rw [Ho.out]
      go_wp2_with fail
      refine (check_any _ _ (by decide)).mono ?_
      rintro e w' ⟨rfl, rfl⟩
      rw [check_none]
      go_wp2_with fail
      refine (checkVal_any _ _ (by decide)).mono ?_
      rintro e w' ⟨rfl, rfl⟩
      rw [checkVal_none]
      go_wp2_with fail
      refine (check_any a _ (by omega)).mono ?_
      rintro e w' ⟨rfl, rfl⟩
      rw [Ha.out]
      go_wp2_with fail
      refine (check_any b _ (by omega)).mono ?_
      rintro e w' ⟨rfl, rfl⟩
      go_wp2_with fail
      go_ret
      exact ⟨by simp, hb1⟩
  · have hca : (NameP.check a.data.toList == 0) = false := by rw [beq_eq_false_iff_ne]; exact ha
    have hcn : (NameP.check a.data.toList != 0) = true := by rw [bne_iff_ne]; exact ha
    have Ho : Hid (joinOut a.data.toList b.data.toList = .tuple #[.string ⟨#[]⟩, .int .i64 (NameP.check a.data.toList)]) := by
      show _ = _; unfold joinOut; simp [ha]
    clear ha
    go_enter Try.func9, Try.ntmps9
    go_wp2_with fail
    refine (join_any a b _ hs ht).mono ?_
    rintro e w1 ⟨rfl, hb1⟩
    rw [Ho.out]
    go_wp2_with fail
    refine (check_any _ _ (by decide)).mono ?_
    rintro e w' ⟨rfl, rfl⟩
    rw [check_none]
    go_wp2_with fail
    refine (checkVal_any _ _ (by decide)).mono ?_
    rintro e w' ⟨rfl, rfl⟩
    rw [checkVal_none]
    go_wp2_with fail
    refine (check_any a _ (by omega)).mono ?_
    rintro e w' ⟨rfl, rfl⟩
    go_wp2_with fail
    go_ret
    exact ⟨by simp, hb1⟩
end Go.Proofs.Yteadfpbkhledlaa
