/- The walk of the law SealBack: it returns true, for texts of at most 2^20 bytes together. -/
import Derived.Test.YteadfpbkhledlaaHexWalk
namespace Go.Proofs.Yteadfpbkhledlaa
open Go.RowKit

theorem unhexOut_hex (l : List UInt8) : unhexOut (HexP.hexl l) = .tuple #[.string ⟨l.toArray⟩, .int .i64 0] := by
  unfold unhexOut; rw [HexP.unhex_hex]
theorem unhexOut_some {l b : List UInt8} (h : HexP.unhexl l = some b) : unhexOut l = .tuple #[.string ⟨b.toArray⟩, .int .i64 0] := by
  unfold unhexOut; rw [h]
theorem unhexOut_none {l : List UInt8} (h : HexP.unhexl l = none) : unhexOut l = .tuple #[.string ⟨#[]⟩, .int .i64 16] := by
  unfold unhexOut; rw [h]
theorem unhexOut_A0 : unhexOut (ByteArray.mk #[65, 48]).data.toList = .tuple #[.string ⟨#[]⟩, .int .i64 16] := unhexOut_none (by rfl)
theorem size_mk (l : List UInt8) : (ByteArray.mk l.toArray).size = l.length := by simp [ByteArray.size]

set_option maxRecDepth 100000 in
set_option maxHeartbeats 800000 in
theorem sealBack_walk (s t : ByteArray) (w : World) (hbulk : s.data.toList.length + 1 + (t.data.toList.length + 1 + 0) ≤ 1048576) :
    Calls Try.prog 3 #[.string s, .string t] w fun e w' => e = .returned (.bool true) ∧ Below w.heap.size w w' := by
  have hs : s.size ≤ 1048576 := by simp at hbulk; omega
  have ht : t.size ≤ 1048576 := by simp at hbulk; omega
  clear hbulk
  have hz : (HexP.hexl s.data.toList).length = 2 * s.size := by rw [HexP.hexl_length]; simp
  have Hz := Lib.hid hz
  clear hz
  cases hu : HexP.unhexl t.data.toList with
  | some b =>
    have hb := HexP.hex_unhex _ _ hu
    have hlen := HexP.hexl_length b
    rw [hb] at hlen
    have hbl : b.length ≤ 1048576 := by simp at hlen; omega
    have Hu := Lib.hid (unhexOut_some hu)
    have Hb := Lib.hid hb
    clear hu hb hlen
    go_enter Try.func3, Try.ntmps3
    go_wp2_with fail
    refine (hex_any s _ (by omega)).mono ?_
    rintro e w1 ⟨rfl, hb1⟩
    go_wp2_with fail
    refine (unhex_any _ _ (by rw [size_mk, Hz.out]; omega)).mono ?_
    rintro e w2 ⟨rfl, hb2⟩
    rw [unhexOut_hex]
    go_wp2_with fail
    refine (unhex_any _ _ (by omega)).mono ?_
    rintro e w3 ⟨rfl, hb3⟩
    rw [Hu.out]
    go_wp2_with fail
    refine (hex_any _ _ (by rw [size_mk]; omega)).mono ?_
    rintro e w4 ⟨rfl, hb4⟩
    have hq : (HexP.hexl b == t.toList) = true := by rw [Hb.out]; simp [ByteArray.toList_eq]
    go_wp2_with fail
    refine (unhex_any _ _ (by decide)).mono ?_
    rintro e w5 ⟨rfl, hb5⟩
    rw [unhexOut_A0]
    go_wp2_with fail
    go_ret
    refine ⟨by simp, ?_⟩
    exact (((hb1.trans (hb2.mono hb1.size)).trans (hb3.mono (Nat.le_trans hb1.size hb2.size))).trans (hb4.mono (Nat.le_trans hb1.size (Nat.le_trans hb2.size hb3.size)))).trans (hb5.mono (Nat.le_trans hb1.size (Nat.le_trans hb2.size (Nat.le_trans hb3.size hb4.size))))
  | none =>
    have Hu := Lib.hid (unhexOut_none hu)
    clear hu
    go_enter Try.func3, Try.ntmps3
    go_wp2_with fail
    refine (hex_any s _ (by omega)).mono ?_
    rintro e w1 ⟨rfl, hb1⟩
    go_wp2_with fail
    refine (unhex_any _ _ (by rw [size_mk, Hz.out]; omega)).mono ?_
    rintro e w2 ⟨rfl, hb2⟩
    rw [unhexOut_hex]
    go_wp2_with fail
    refine (unhex_any _ _ (by omega)).mono ?_
    rintro e w3 ⟨rfl, hb3⟩
    rw [Hu.out]
    go_wp2_with fail
    refine (unhex_any _ _ (by decide)).mono ?_
    rintro e w5 ⟨rfl, hb5⟩
    rw [unhexOut_A0]
    go_wp2_with fail
    go_ret
    refine ⟨by simp, ?_⟩
    exact ((hb1.trans (hb2.mono hb1.size)).trans (hb3.mono (Nat.le_trans hb1.size hb2.size))).trans (hb5.mono (Nat.le_trans hb1.size (Nat.le_trans hb2.size hb3.size)))
end Go.Proofs.Yteadfpbkhledlaa
