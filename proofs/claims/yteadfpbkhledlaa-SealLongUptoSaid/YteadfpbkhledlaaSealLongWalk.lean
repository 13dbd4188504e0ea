/- The walk of the law SealLong. -/
import Derived.Test.YteadfpbkhledlaaSealKnownWalk
import Derived.Test.YteadfpbkhledlaaShelf
namespace Go.Proofs.Yteadfpbkhledlaa
open Go.RowKit

theorem macOf_long (k s : List UInt8) (h : 64 < k.length) : macOf (sumOf k) s = macOf k s := by
  have h1 : macKey (sumOf k) = sumOf k := by unfold macKey; rw [if_neg (by rw [sumOf_length]; omega)]
  have h2 : macKey k = sumOf k := by unfold macKey; rw [if_pos h]
  unfold macOf
  rw [h1, h2]
theorem macOf_pad (k s : List UInt8) (h : k.length ≤ 64) : macOf (k ++ List.replicate (64 - k.length) 0) s = macOf k s := by
  have h1 : macKey (k ++ List.replicate (64 - k.length) 0) = k ++ List.replicate (64 - k.length) 0 := by unfold macKey; rw [if_neg (by simp; omega)]
  have h2 : macKey k = k := by unfold macKey; rw [if_neg (by omega)]
  have h3 : pad64 (k ++ List.replicate (64 - k.length) 0) = pad64 k := by
    have : (k ++ List.replicate (64 - k.length) (0 : UInt8)).length = 64 := by simp; omega
    unfold pad64
    rw [this]
    simp
  unfold macOf
  rw [h1, h2, h3]
theorem repeat_zero (c : Nat) : Lib.repeatL (ByteArray.mk #[0]).data.toList c = List.replicate c 0 := by
  have := Lib.repeatL_replicate 0 1 c
  rw [Nat.mul_one] at this
  exact this

set_option maxRecDepth 100000 in
set_option maxHeartbeats 800000 in
theorem sealLong_walk (k s : ByteArray) (w : World) (hbulk : k.data.toList.length + 1 + (s.data.toList.length + 1 + 0) ≤ 1048576) :
    Calls Try.prog 6 #[.string k, .string s] w fun e w' => e = .returned (.bool true) ∧ Below w.heap.size w w' := by
  have hk : k.size ≤ 1048576 := by simp at hbulk; omega
  have hs : s.size ≤ 1048576 := by simp at hbulk; omega
  clear hbulk
  go_enter Try.func6, Try.ntmps6
  go_wp2_with fail
  refine (sum_any _ _ (by simp [ByteArray.size])).mono ?_
  rintro e w1 ⟨rfl, hb1⟩
  rw [show (sumOf (ByteArray.mk #[97, 98, 99]).data.toList) = sumOf [97, 98, 99] from rfl]
  go_wp2_with fail
  refine (hex_any _ _ (by rw [size_mk, sumOf_length]; omega)).mono ?_
  rintro e w2 ⟨rfl, hb2⟩
  rw [show (ByteArray.mk (HexP.hexl (ByteArray.mk (sumOf [97, 98, 99]).toArray).data.toList).toArray) = _ from known2']
  have hb12 := below_then hb1 hb2
  clear hb1 hb2
  by_cases h64 : 64 < k.size
  · have q : (64 : Int) < (k.size : Int) := by omega
    go_wp2_with fail
    refine (mac_any _ _ _ (by omega) (by omega)).mono ?_
    rintro e w3 ⟨rfl, hb3⟩
    go_wp2_with fail
    refine (sum_any _ _ (by omega)).mono ?_
    rintro e w4 ⟨rfl, hb4⟩
    go_wp2_with fail
    refine (mac_any _ _ _ (by rw [size_mk, sumOf_length]; omega) (by omega)).mono ?_
    rintro e w5 ⟨rfl, hb5⟩
    rw [show macOf (ByteArray.mk (sumOf k.data.toList).toArray).data.toList s.data.toList = macOf k.data.toList s.data.toList from macOf_long _ _ (by simpa using h64)]
    go_wp2_with fail
    go_ret
    exact ⟨rfl, below_then (below_then (below_then hb12 hb3) hb4) hb5⟩
  · have q : ¬ (64 : Int) < (k.size : Int) := by omega
    have q2 : IntKind.i64.wrap (64 - (k.size : Int)) = ((64 - k.size : Nat) : Int) := by rw [IntWalk.i64_in _ (by omega)]; omega
    have q3 : ¬ 9223372036854775807 < k.size + (64 - k.size) := by omega
    go_wp2_with fail
    refine (mac_any _ _ _ (by omega) (by omega)).mono ?_
    rintro e w3 ⟨rfl, hb3⟩
    go_wp2_with fail
    refine (Try.strings_Repeat _ (64 - k.size) _ (by omega) (by show 1 * _ ≤ _; omega)).mono ?_
    rintro e w4 ⟨rfl, hb4⟩
    obtain ⟨z, Hz⟩ : ∃ z : List UInt8, Hid (List.replicate (64 - k.size) 0 = z) := ⟨_, Lib.hid rfl⟩
    rw [show Lib.repeatL (ByteArray.mk #[0]).data.toList (64 - k.size) = z from (repeat_zero _).trans Hz.out]
    have hzl : z.length = 64 - k.size := by rw [← Hz.out, List.length_replicate]
    go_wp2_with fail
    refine (mac_any _ _ _ (by rw [ByteArray.size_append, size_mk z, hzl]; omega) (by omega)).mono ?_
    rintro e w5 ⟨rfl, hb5⟩
    rw [show macOf (k ++ ByteArray.mk z.toArray).data.toList s.data.toList = macOf k.data.toList s.data.toList from by
      have hkl : k.size = k.data.toList.length := by simp
      rw [← macOf_pad k.data.toList s.data.toList (by omega), ← Hz.out, hkl]
      simp]
    go_wp2_with fail
    go_ret
    exact ⟨rfl, below_then (below_then (below_then hb12 hb3) hb4) hb5⟩
end Go.Proofs.Yteadfpbkhledlaa
