/- The walk of the law SealKnown. -/
import Derived.Test.YteadfpbkhledlaaKnown
namespace Go.Proofs.Yteadfpbkhledlaa
open Go.RowKit

theorem known1' : (ByteArray.mk (HexP.hexl (sumOf [])).toArray) = ⟨#[101, 51, 98, 48, 99, 52, 52, 50, 57, 56, 102, 99, 49, 99, 49, 52, 57, 97, 102, 98, 102, 52, 99, 56, 57, 57, 54, 102, 98, 57, 50, 52, 50, 55, 97, 101, 52, 49, 101, 52, 54, 52, 57, 98, 57, 51, 52, 99, 97, 52, 57, 53, 57, 57, 49, 98, 55, 56, 53, 50, 98, 56, 53, 53]⟩ := by rw [known1]; rfl
theorem known2' : (ByteArray.mk (HexP.hexl (sumOf [97, 98, 99])).toArray) = ⟨#[98, 97, 55, 56, 49, 54, 98, 102, 56, 102, 48, 49, 99, 102, 101, 97, 52, 49, 52, 49, 52, 48, 100, 101, 53, 100, 97, 101, 50, 50, 50, 51, 98, 48, 48, 51, 54, 49, 97, 51, 57, 54, 49, 55, 55, 97, 57, 99, 98, 52, 49, 48, 102, 102, 54, 49, 102, 50, 48, 48, 49, 53, 97, 100]⟩ := by rw [known2]; rfl
theorem known3' : (ByteArray.mk (HexP.hexl (macOf jefe whatDo)).toArray) = ⟨#[53, 98, 100, 99, 99, 49, 52, 54, 98, 102, 54, 48, 55, 53, 52, 101, 54, 97, 48, 52, 50, 52, 50, 54, 48, 56, 57, 53, 55, 53, 99, 55, 53, 97, 48, 48, 51, 102, 48, 56, 57, 100, 50, 55, 51, 57, 56, 51, 57, 100, 101, 99, 53, 56, 98, 57, 54, 52, 101, 99, 51, 56, 52, 51]⟩ := by rw [known3]; rfl

set_option maxRecDepth 100000 in
set_option maxHeartbeats 800000 in
theorem sealKnown_walk (s : ByteArray) (w : World) (hbulk : s.data.toList.length + 1 + 0 ≤ 1048576) :
    Calls Try.prog 4 #[.string s] w fun e w' => e = .returned (.bool true) ∧ Below w.heap.size w w' := by
  have hs : s.size ≤ 1048576 := by simp at hbulk; omega
  clear hbulk
  go_enter Try.func4, Try.ntmps4
  go_wp2_with fail
  refine (sum_any _ _ (by simp [ByteArray.size])).mono ?_
  rintro e w1 ⟨rfl, hb1⟩
  rw [show (sumOf (ByteArray.mk #[]).data.toList) = sumOf [] from rfl]
  go_wp2_with fail
  refine (hex_any _ _ (by rw [size_mk, sumOf_length]; omega)).mono ?_
  rintro e w2 ⟨rfl, hb2⟩
  rw [show (ByteArray.mk (HexP.hexl (ByteArray.mk (sumOf []).toArray).data.toList).toArray) = _ from known1']
  go_wp2_with fail
  refine (sum_any _ _ (by simp [ByteArray.size])).mono ?_
  rintro e w3 ⟨rfl, hb3⟩
  rw [show (sumOf (ByteArray.mk #[97, 98, 99]).data.toList) = sumOf [97, 98, 99] from rfl]
  go_wp2_with fail
  refine (hex_any _ _ (by rw [size_mk, sumOf_length]; omega)).mono ?_
  rintro e w4 ⟨rfl, hb4⟩
  rw [show (ByteArray.mk (HexP.hexl (ByteArray.mk (sumOf [97, 98, 99]).toArray).data.toList).toArray) = _ from known2']
  go_wp2_with fail
  refine (mac_any _ _ _ (by simp [ByteArray.size]) (by simp [ByteArray.size])).mono ?_
  rintro e w5 ⟨rfl, hb5⟩
  rw [show macOf (ByteArray.mk _).data.toList (ByteArray.mk _).data.toList = macOf jefe whatDo from rfl]
  go_wp2_with fail
  refine (hex_any _ _ (by rw [size_mk, macOf_length]; omega)).mono ?_
  rintro e w6 ⟨rfl, hb6⟩
  rw [show (ByteArray.mk (HexP.hexl (ByteArray.mk (macOf jefe whatDo).toArray).data.toList).toArray) = _ from known3']
  go_wp2_with fail
  refine (sum_any _ _ (by omega)).mono ?_
  rintro e w7 ⟨rfl, hb7⟩
  have l1 : (sumOf s.data.toList).length = 32 := sumOf_length _
  go_wp2_with fail
  refine (mac_any _ _ _ (by omega) (by omega)).mono ?_
  rintro e w8 ⟨rfl, hb8⟩
  have l2 : (macOf s.data.toList s.data.toList).length = 32 := macOf_length _ _
  go_wp2_with fail
  refine (hex_any _ _ (by omega)).mono ?_
  rintro e w9 ⟨rfl, hb9⟩
  have l3 : (HexP.hexl s.data.toList).length = 2 * s.size := by rw [HexP.hexl_length]; simp
  have l4 : IntKind.i64.wrap (2 * (s.size : Int)) = 2 * (s.size : Int) := IntWalk.i64_in _ (by omega)
  go_wp2_with fail
  go_ret
  exact ⟨rfl, below_then (below_then (below_then (below_then (below_then (below_then (below_then (below_then hb1 hb2) hb3) hb4) hb5) hb6) hb7) hb8) hb9⟩
end Go.Proofs.Yteadfpbkhledlaa
