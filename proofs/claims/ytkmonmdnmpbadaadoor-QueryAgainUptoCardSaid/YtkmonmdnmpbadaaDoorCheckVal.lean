/- The walk of name.CheckVal. -/
import Derived.Test.YtkmonmdnmpbadaaDoorMadeWalk
namespace Go.Proofs.YtkmonmdnmpbadaaDoor
open Go.RowKit

theorem ret_i64 {a b : Int} (h : a = b) : Ending.returned (.int .i64 a) = .returned (.int .i64 b) := by rw [h]

set_option maxHeartbeats 800000 in
theorem checkVal_any (s : ByteArray) (w : World) (hs : s.size ≤ 1099511627776) :
    Calls Tryd.prog 50 #[.string s] w fun e w' => e = .returned (.int .i64 (NameP.checkVal s.data.toList)) ∧ w = w' := by
  by_cases h0 : s.size = 0
  · have hl : s.toList = [] := by rw [ByteArray.toList_eq]; exact List.eq_nil_of_length_eq_zero (by simpa using h0)
    have hle : s.toList.isEmpty = true := by rw [hl]; rfl
    have Hs : Hid (NameP.judge s.size 63 true = NameP.checkVal s.data.toList) := by
      show _ = _
      rw [ByteArray.toList_eq] at hl
      simp [NameP.checkVal, hl, h0]
    clear h0
    go_enter Tryd.func50, Tryd.ntmps50
    go_wp2_with fail
    refine (judge_any s 63 _ _ hs (by omega)).mono ?_
    rintro e w' ⟨rfl, rfl⟩
    go_wp2_with fail
    go_ret
    exact ⟨ret_i64 Hs.out, rfl⟩
  · have hl : s.data.toList.length = s.size := by simp
    have hne2 : s.toList.isEmpty = false := by
      rw [ByteArray.toList_eq]
      cases hd : s.data.toList with | nil => rw [hd] at hl; simp at hl; omega | cons x r => rfl
    have hne : (!s.toList.isEmpty) = true := by rw [hne2]; rfl
    have Hs : Hid (NameP.judge s.size 63 (NameP.isWord s.data.toList) = NameP.checkVal s.data.toList) := by
      show _ = _
      rw [ByteArray.toList_eq] at hne2
      unfold NameP.checkVal
      rw [hl, hne2]; rfl
    clear h0 hl
    go_enter Tryd.func50, Tryd.ntmps50
    go_wp2_with fail
    refine (isWord_any s _ hs).mono ?_
    rintro e w' ⟨rfl, rfl⟩
    go_wp2_with fail
    refine (judge_any s 63 _ _ hs (by omega)).mono ?_
    rintro e w' ⟨rfl, rfl⟩
    go_wp2_with fail
    go_ret
    exact ⟨ret_i64 Hs.out, rfl⟩

end Go.Proofs.YtkmonmdnmpbadaaDoor
