/- The walks of name.CheckVal and name.Join. -/
import Derived.Test.YteadfpbkhledlaaMadeWalk
namespace Go.Proofs.Yteadfpbkhledlaa
open Go.RowKit

theorem ret_i64 {a b : Int} (h : a = b) : Ending.returned (.int .i64 a) = .returned (.int .i64 b) := by rw [h]

set_option maxHeartbeats 800000 in
theorem checkVal_any (s : ByteArray) (w : World) (hs : s.size ≤ 1099511627776) :
    Calls Try.prog 31 #[.string s] w fun e w' => e = .returned (.int .i64 (NameP.checkVal s.data.toList)) ∧ w = w' := by
  by_cases h0 : s.size = 0
  · have hl : s.toList = [] := by rw [ByteArray.toList_eq]; exact List.eq_nil_of_length_eq_zero (by simpa using h0)
    have hle : s.toList.isEmpty = true := by rw [hl]; rfl
    have Hs : Hid (NameP.judge s.size 63 true = NameP.checkVal s.data.toList) := by
      show _ = _
      rw [ByteArray.toList_eq] at hl
      simp [NameP.checkVal, hl, h0]
    clear h0
    go_enter Try.func31, Try.ntmps31
    go_wp2_with fail
    refine (judge_any s 63 _ _ hs (by omega)).mono ?_
    rintro e w' ⟨rfl, rfl⟩
    go_wp2_with fail
    go_ret
    exact ⟨ret_i64 Hs.out, rfl⟩
  · have hl : s.data.toList.length = s.size := by simp
    have hne2 : s.toList.isEmpty = false := by
      rw [ByteArray.toList_eq]
      cases hd : s.data.toList with | nil => rw [hd] at hl; simp at hl; omega | cons x r => rfl
    have hne : (!s.toList.isEmpty) = true := by rw [hne2]; rfl
    have Hs : Hid (NameP.judge s.size 63 (NameP.isWord s.data.toList) = NameP.checkVal s.data.toList) := by
      show _ = _
      rw [ByteArray.toList_eq] at hne2
      unfold NameP.checkVal
      rw [hl, hne2]; rfl
    clear h0 hl
    go_enter Try.func31, Try.ntmps31
    go_wp2_with fail
    refine (isWord_any s _ hs).mono ?_
    rintro e w' ⟨rfl, rfl⟩
    go_wp2_with fail
    refine (judge_any s 63 _ _ hs (by omega)).mono ?_
    rintro e w' ⟨rfl, rfl⟩
    go_wp2_with fail
    go_ret
    exact ⟨ret_i64 Hs.out, rfl⟩

def joinOut (a b : List UInt8) : Value :=
  if NameP.check a ≠ 0 then .tuple #[.string ⟨#[]⟩, .int .i64 (NameP.check a)]
  else if NameP.check b ≠ 0 then .tuple #[.string ⟨#[]⟩, .int .i64 (NameP.check b)]
  else if NameP.check (a ++ 45 :: b) ≠ 0 then .tuple #[.string ⟨#[]⟩, .int .i64 (NameP.check (a ++ 45 :: b))]
  else .tuple #[.string ⟨(a ++ 45 :: b).toArray⟩, .int .i64 0]

set_option maxRecDepth 100000 in
set_option maxHeartbeats 800000 in
theorem join_any (a b : ByteArray) (w : World) (hs : a.size ≤ 1048576) (ht : b.size ≤ 1048576) :
    Calls Try.prog 29 #[.string a, .string b] w fun e w' => e = .returned (joinOut a.data.toList b.data.toList) ∧ Below w.heap.size w w' := by
  have HS : Hid ((a ++ ⟨#[45]⟩ ++ b).data.toList = a.data.toList ++ 45 :: b.data.toList) := by show _ = _; simp [ByteArray.data_append]
  have hsz : (a ++ ⟨#[45]⟩ ++ b).size ≤ 1099511627776 := by simp only [ByteArray.size_append]; have : (ByteArray.mk #[45]).size = 1 := rfl; omega
  have HZ := Lib.hid hsz; clear hsz
  by_cases ha : NameP.check a.data.toList = 0
  · have Ha := Lib.hid ha; clear ha
    by_cases hb : NameP.check b.data.toList = 0
    · have Hb := Lib.hid hb; clear hb
      by_cases hc : NameP.check (a.data.toList ++ 45 :: b.data.toList) = 0
      · have Hc := Lib.hid hc; clear hc
        have Ho : Hid (joinOut a.data.toList b.data.toList = .tuple #[.string ⟨(a.data.toList ++ 45 :: b.data.toList).toArray⟩, .int .i64 0]) := by
          show _ = _; unfold joinOut; simp [Ha.out, Hb.out, Hc.out]
        go_enter Try.func29, Try.ntmps29
        go_wp2_with fail
        refine wp_loop_rounds 4 ?_
        rw [rounds_succ]
        go_wp2_with fail
        refine (check_any a _ (by omega)).mono ?_
        rintro e w' ⟨rfl, rfl⟩
        rw [Ha.out]
        go_wp2_with fail
        rw [rounds_succ]
        go_wp2_with fail
        refine (check_any b _ (by omega)).mono ?_
        rintro e w' ⟨rfl, rfl⟩
        rw [Hb.out]
        go_wp2_with fail
        rw [rounds_succ]
        go_wp2_with fail
        refine (check_any _ _ HZ.out).mono ?_
        rintro e w' ⟨rfl, rfl⟩
        rw [HS.out, Hc.out]
        go_wp2_with fail
        rw [rounds_succ]
        go_wp2_with fail
        go_ret2
        refine ⟨congrArg Ending.returned (Eq.trans ?_ Ho.out.symm), (Below.refl _ _).alloc (Nat.le_refl _) _⟩
        simp
        exact ba_eq HS.out
      · have Hc := Lib.hid hc
        have hcb : (NameP.check (a.data.toList ++ 45 :: b.data.toList) != 0) = true := by rw [bne_iff_ne]; exact hc
        have Ho : Hid (joinOut a.data.toList b.data.toList = .tuple #[.string ⟨#[]⟩, .int .i64 (NameP.check (a.data.toList ++ 45 :: b.data.toList))]) := by
          show _ = _; unfold joinOut; simp [Ha.out, Hb.out, hc]
        clear hc
        go_enter Try.func29, Try.ntmps29
        go_wp2_with fail
        refine wp_loop_rounds 4 ?_
        rw [rounds_succ]
        go_wp2_with fail
        refine (check_any a _ (by omega)).mono ?_
        rintro e w' ⟨rfl, rfl⟩
        rw [Ha.out]
        go_wp2_with fail
        rw [rounds_succ]
        go_wp2_with fail
        refine (check_any b _ (by omega)).mono ?_
        rintro e w' ⟨rfl, rfl⟩
        rw [Hb.out]
        go_wp2_with fail
        rw [rounds_succ]
        go_wp2_with fail
        refine (check_any _ _ HZ.out).mono ?_
        rintro e w' ⟨rfl, rfl⟩
        rw [HS.out]
        go_wp2_with fail
        go_ret2
        exact ⟨congrArg Ending.returned Ho.out.symm, (Below.refl _ _).alloc (Nat.le_refl _) _⟩
    · have hcb : (NameP.check b.data.toList != 0) = true := by rw [bne_iff_ne]; exact hb
      have Ho : Hid (joinOut a.data.toList b.data.toList = .tuple #[.string ⟨#[]⟩, .int .i64 (NameP.check b.data.toList)]) := by
        show _ = _; unfold joinOut; simp [Ha.out, hb]
      clear hb
      go_enter Try.func29, Try.ntmps29
      go_wp2_with fail
      refine wp_loop_rounds 4 ?_
      rw [rounds_succ]
      go_wp2_with fail
      refine (check_any a _ (by omega)).mono ?_
      rintro e w' ⟨rfl, rfl⟩
      rw [Ha.out]
      go_wp2_with fail
      rw [rounds_succ]
      go_wp2_with fail
      refine (check_any b _ (by omega)).mono ?_
      rintro e w' ⟨rfl, rfl⟩
      go_wp2_with fail
      go_ret2
      exact ⟨congrArg Ending.returned Ho.out.symm, (Below.refl _ _).alloc (Nat.le_refl _) _⟩
  · have hcb : (NameP.check a.data.toList != 0) = true := by rw [bne_iff_ne]; exact ha
    have Ho : Hid (joinOut a.data.toList b.data.toList = .tuple #[.string ⟨#[]⟩, .int .i64 (NameP.check a.data.toList)]) := by
      show _ = _; unfold joinOut; simp [ha]
    clear ha
    go_enter Try.func29, Try.ntmps29
    go_wp2_with fail
    refine wp_loop_rounds 4 ?_
    rw [rounds_succ]
    go_wp2_with fail
    refine (check_any a _ (by omega)).mono ?_
    rintro e w' ⟨rfl, rfl⟩
    go_wp2_with fail
    go_ret2
    exact ⟨congrArg Ending.returned Ho.out.symm, (Below.refl _ _).alloc (Nat.le_refl _) _⟩
end Go.Proofs.Yteadfpbkhledlaa
