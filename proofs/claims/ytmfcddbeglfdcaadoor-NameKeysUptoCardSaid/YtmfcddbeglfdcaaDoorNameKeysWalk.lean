/- NameKeys: the law's walk. -/
import Derived.Test.YtmfcddbeglfdcaaDoorNameKeysPlain
import Derived.Test.YtmfcddbeglfdcaaDoorCheckVal
namespace Go.Proofs.YtmfcddbeglfdcaaDoor
open Go.RowKit

set_option maxRecDepth 100000 in
set_option maxHeartbeats 1600000 in
theorem nameKeys_walk (a b : ByteArray) (W : World) (hbulk : a.data.toList.length + 1 + (b.data.toList.length + 1) ≤ 1048576) (hmax : ∃ m, MaxOK m W) :
    Calls Tryd.prog 3 #[.string a, .string b] W fun e W' => e = .returned (.bool true) ∧ Below W.heap.size W W' := by
  obtain ⟨m, hm⟩ := hmax
  have hal : a.data.toList.length = a.size := by simp
  have hbl : b.data.toList.length = b.size := by simp
  have ha : a.size ≤ 1048576 := by omega
  have hb : b.size ≤ 1048576 := by omega
  have Hm := Lib.hid hm
  have Hal := Lib.hid hal
  have Hbl := Lib.hid hbl
  clear hm hbulk hal hbl
  have HS : Hid ((a ++ ⟨#[47]⟩ ++ b).data.toList = a.data.toList ++ 47 :: b.data.toList) := by show _ = _; simp [ByteArray.data_append]
  have h1s : (ByteArray.mk #[47]).size = 1 := rfl
  have hsz : (a ++ ⟨#[47]⟩ ++ b).size ≤ 8388608 := by simp only [ByteArray.size_append]; omega
  have HZ := Lib.hid hsz
  have s1 : ¬ 9223372036854775807 < a.size + 1 := by omega
  have s2 : ¬ 9223372036854775807 < a.size + (⟨#[47]⟩ : ByteArray).size := by omega
  have s3 : ¬ 9223372036854775807 < a.size + 1 + b.size := by omega
  have s4 : ¬ 9223372036854775807 < (a ++ ⟨#[47]⟩ : ByteArray).size + b.size := by rw [ByteArray.size_append]; omega
  clear hsz h1s
  go_enter Tryd.func3, Tryd.ntmps3
  go_wp2_with fail
  refine (checkKey_any ⟨#[47]⟩ m W (by decide) Hm.out).mono ?_
  rintro E w1 ⟨rfl, hb1⟩
  have hk0 : NameP.checkKey (⟨#[47]⟩ : ByteArray).data.toList = 6 := NameP.key_slash
  rw [hk0]
  have Hb1 := Lib.hid hb1
  clear hb1 hk0
  go_wp2_with fail
  refine (check_any a _ (by omega)).mono ?_
  rintro E w' ⟨rfl, rfl⟩
  by_cases hc : NameP.check a.data.toList = 0
  · have hk1 := NameP.key_name hc
    have hv1 := NameP.checkVal_ok hc
    have Hk1 := Lib.hid hk1
    have Hv1 := Lib.hid hv1
    have Hc := Lib.hid hc
    rw [hc]
    clear hk1 hv1 hc
    go_wp2_with fail
    refine (checkKey_any a m w1 (by omega) (Hm.out.below Hb1.out)).mono ?_
    rintro E w2 ⟨rfl, hb2⟩
    have Hb2 := Lib.hid (Hb1.out.trans (hb2.mono Hb1.out.size))
    clear hb2
    rw [Hk1.out]
    go_wp2_with fail
    refine (checkVal_any a _ (by omega)).mono ?_
    rintro E w' ⟨rfl, rfl⟩
    rw [Hv1.out]
    go_wp2_with fail
    refine (checkVal_any _ _ ?sz).mono ?_
    case sz => exact Nat.le_trans HZ.out (by decide)
    rintro E w' ⟨rfl, rfl⟩
    rw [HS.out]
    have qv : (NameP.checkVal (a.data.toList ++ 47 :: b.data.toList) == 0) = false := by rw [beq_eq_false_iff_ne]; exact NameP.val_slash
    go_wp2_with fail
    clear qv
    refine (checkKey_any _ m w2 ?sz (Hm.out.below Hb2.out)).mono ?_
    case sz => exact HZ.out
    rintro E w3 ⟨rfl, hb3⟩
    have Hb3 := Lib.hid (Hb2.out.trans (hb3.mono Hb2.out.size))
    clear hb3
    rw [HS.out]
    by_cases hl : 63 < a.size + b.size
    · have q0 : (63 : Int) < (a.size : Int) + (b.size : Int) := by omega
      have hk : NameP.checkKey (a.data.toList ++ 47 :: b.data.toList) = 2 := NameP.key_long (by rw [Hal.out, Hbl.out]; exact hl)
      rw [hk]
      clear hk hl
      go_wp2_with fail
      go_ret
      exact ⟨rfl, Hb3.out⟩
    · have q0 : ¬ (63 : Int) < (a.size : Int) + (b.size : Int) := by omega
      have hk := NameP.key_two Hc.out (b := b.data.toList) (by rw [Hal.out, Hbl.out]; exact hl)
      obtain ⟨K, HK⟩ : ∃ K, Hid (NameP.checkKey (a.data.toList ++ 47 :: b.data.toList) = K) := ⟨_, Lib.hid rfl⟩
      rw [HK.out] at hk ⊢
      clear hl
      by_cases h0 : b.size = 0
      · have h1 : b.data.toList = [] := List.eq_nil_of_length_eq_zero (by rw [Hbl.out]; exact h0)
        have q1 : b.toList.isEmpty = true := by rw [ByteArray.toList_eq, h1]; rfl
        have q2 : (K == 0) = false := by rw [hk, h1]; rfl
        clear hk h1
        go_wp2_with fail
        go_ret
        exact ⟨rfl, Hb3.out⟩
      · have h1 : b.data.toList.isEmpty = false := by
          cases h : b.data.toList with
          | nil => have := Hbl.out; rw [h] at this; simp at this; omega
          | cons => rfl
        have q1 : b.toList.isEmpty = false := by rw [ByteArray.toList_eq]; exact h1
        rw [h1] at hk
        have Hk := Lib.hid hk
        clear hk h1 h0
        go_wp2_with fail
        refine (checkVal_any b _ (by omega)).mono ?_
        rintro E w' ⟨rfl, rfl⟩
        obtain ⟨V, HV⟩ : ∃ V, Hid (NameP.checkVal b.data.toList = V) := ⟨_, Lib.hid rfl⟩
        rw [HV.out]
        have hk2 : (K == 0) = (V == 0) := by rw [Hk.out, HV.out]; rfl
        cases hV : V == 0 with
        | true =>
          rw [hV] at hk2
          go_wp2_with fail
          go_ret
          exact ⟨rfl, Hb3.out⟩
        | false =>
          rw [hV] at hk2
          go_wp2_with fail
          go_ret
          exact ⟨rfl, Hb3.out⟩
  · have q0 : (NameP.check a.data.toList != 0) = true := by rw [bne_iff_ne]; exact hc
    have q1 : (NameP.check a.data.toList == 0) = false := by rw [beq_eq_false_iff_ne]; exact hc
    clear hc
    go_wp2_with fail
    go_ret
    exact ⟨rfl, Hb1.out⟩
end Go.Proofs.YtmfcddbeglfdcaaDoor
