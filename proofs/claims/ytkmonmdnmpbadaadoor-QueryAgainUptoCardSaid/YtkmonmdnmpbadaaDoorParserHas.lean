/- query: the parser's has, word. -/
import Derived.Test.YtkmonmdnmpbadaaDoorParser
import Derived.Test.YtkmonmdnmpbadaaDoorShelf
import Derived.Deep.QuietTactic
import Derived.Deep.LoopGhost
import Derived.Deep.DeepCutAuto
import Derived.BigQuiet
import Derived.IntWalk
import Derived.OwnWalk
namespace Go.Proofs.YtkmonmdnmpbadaaDoor
open Go.RowKit
open QP

/-- what comes next, if it is the sign, is passed -/
def hasR (sg r : List UInt8) : List UInt8 := if Lib.hasPrefix r sg = true then r.drop sg.length else r
theorem hasPrefix_extract (s sg : ByteArray) (a : Nat) (ha : a ≤ s.size) (w : World) {b : Bool} (hb : Lib.hasPrefix (s.data.toList.drop a) sg.data.toList = b) :
    Calls Tryd.prog 53 #[.string (s.extract a s.size), .string sg] w fun e w' => e = .returned (.bool b) ∧ w' = w := by
  have h := Tryd.strings_HasPrefix (s.extract a s.size) sg w
  rw [extract_take ha (Nat.le_refl _), List.take_of_length_le (by simp), hb] at h
  exact h
theorem hasPrefix_room {r sg : List UInt8} (h : Lib.hasPrefix r sg = true) : sg.length ≤ r.length := by
  unfold Lib.hasPrefix at h
  exact (List.isPrefixOf_iff_prefix.1 h).length_le
set_option maxRecDepth 100000 in
set_option maxHeartbeats 3200000 in
theorem has_any (g : Nat) (s : ByteArray) (bad : Bool) (r : List UInt8) (sg : ByteArray) (w : World) (h : Par g s bad r w) (hs : s.size ≤ 1048576) :
    Calls Tryd.prog 28 #[.pointer (some ⟨g, 0, none⟩), .string sg] w fun e w' => e = .returned (.bool (Lib.hasPrefix r sg.data.toList)) ∧ Par g s bad (hasR sg.data.toList r) w' ∧ But g w w' := by
  obtain ⟨a, ha, rfl, h⟩ := h
  have c0 : w.cell? ⟨g, 0, none⟩ = some (.string s) := cell_block h 0
  have c1 : w.cell? ⟨g, 1, none⟩ = some (.int .i64 (a : Int)) := cell_block h 1
  have hz : w.frozen? ⟨g, 1, none⟩ = false := free_block h 1
  have H := Lib.hid h
  have q1 : (0 : Int) ≤ (a : Int) := by omega
  have q2 : (a : Int) ≤ (s.size : Int) := by omega
  obtain ⟨b, hb⟩ : ∃ b, Lib.hasPrefix (s.data.toList.drop a) sg.data.toList = b := ⟨_, rfl⟩
  have HC := fun w => Lib.hid (hasPrefix_extract s sg a ha w hb)
  have hl : s.data.toList.length = s.size := by simp
  have hsl : sg.data.toList.length = sg.size := by simp
  rw [hb]
  cases b with
  | false =>
    have Hr : Hid (hasR sg.data.toList (s.data.toList.drop a) = s.data.toList.drop a) := Lib.hid (by unfold hasR; rw [hb]; rfl)
    clear h hb hl hsl
    go_enter Tryd.func28, Tryd.ntmps28
    go_wp2_with fail
    go_quiet ((go_at_call 53; exact Calls.quiet_of_same (HC _).out))
    go_wp2_with fail
    go_ret
    exact ⟨rfl, by rw [Hr.out]; exact ⟨a, ha, rfl, H.out⟩, (But.refl _ _).drew _⟩
  | true =>
    have hroom := hasPrefix_room hb
    rw [List.length_drop, hl, hsl] at hroom
    have Hr : Hid (hasR sg.data.toList (s.data.toList.drop a) = s.data.toList.drop (a + sg.size)) := Lib.hid (by unfold hasR; rw [hb, if_pos rfl, hsl, List.drop_drop])
    have hk : a + sg.size ≤ s.size := by omega
    clear h hb hl hsl hroom
    go_enter Tryd.func28, Tryd.ntmps28
    go_wp2_with fail
    go_quiet ((go_at_call 53; exact Calls.quiet_of_same (HC _).out))
    go_wp2_with fail
    obtain ⟨t1, t2⟩ := touch_setCell (i := 1) (v := .int .i64 ((a : Int) + (sg.size : Int))) H.out
    go_ret
    refine ⟨rfl, ?_, ((But.touch t2).drew _)⟩
    rw [Hr.out]
    refine ⟨a + sg.size, hk, rfl, ?_⟩
    unfold ParAt
    rw [show ((a + sg.size : Nat) : Int) = (a : Int) + (sg.size : Int) by omega]
    exact t1
end Go.Proofs.YtkmonmdnmpbadaaDoor
