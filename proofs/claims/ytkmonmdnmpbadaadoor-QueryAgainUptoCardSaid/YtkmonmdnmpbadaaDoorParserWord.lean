/- query: the parser's word. -/
import Derived.Test.YtkmonmdnmpbadaaDoorParserHas
namespace Go.Proofs.YtkmonmdnmpbadaaDoor
open Go.RowKit
open QP

theorem word_text {s : ByteArray} {a i : Nat} {r : List UInt8} (h : Runs wordB s a i) (hi : ∀ h : i < s.size, wordB s[i] = false) (hr : s.data.toList.drop a = skipB r) : s.extract a i = wordS r ∧ s.data.toList.drop i = wordR r := by
  obtain ⟨h1, h2⟩ := h.stop hi
  rw [hr] at h1 h2
  refine ⟨?_, h1.symm⟩
  have h3 := extract_take (s := s) h.le h.room
  rw [hr, ← h2] at h3
  unfold wordS wordW
  rw [← h3, mk_toList']
where
  mk_toList' {s : ByteArray} : (⟨s.data.toList.toArray⟩ : ByteArray) = s := by cases s; simp
set_option maxRecDepth 100000 in
set_option maxHeartbeats 3200000 in
theorem word_any (g : Nat) (s : ByteArray) (bad : Bool) (r : List UInt8) (w : World) (h : Par g s bad r w) (hs : s.size ≤ 1048576) :
    Calls Tryd.prog 51 #[.pointer (some ⟨g, 0, none⟩)] w fun e w' => e = .returned (.tuple #[.string (wordS r), .bool (headIs 32 (wordR r))]) ∧ Par g s bad (wordE r) w' ∧ But g w w' := by
  have H := Lib.hid h
  clear h
  go_enter Tryd.func51, Tryd.ntmps51
  go_wp2_with fail
  refine (blanks_any g s bad r w H.out hs).mono ?_
  rintro E w1 ⟨rfl, ⟨a, ha, hr, hp⟩, hb⟩
  have c1 : w1.cell? ⟨g, 1, none⟩ = some (.int .i64 (a : Int)) := cell_block hp 1
  have HP := Lib.hid hp
  have HB := Lib.hid hb
  have Hr := Lib.hid hr
  clear hp hb hr
  go_wp2_with fail
  clear c1
  go_loopg [] (s.size - a) (fun k wr => ∃ i : Nat, i + k = s.size ∧ Hid (Runs wordB s a i) ∧ Hid (ParAt g s bad i wr) ∧ Hid (But g w wr))
  case atStart => exact ⟨a, by omega, Lib.hid (Runs.start _ ha), HP, HB⟩
  case round =>
    obtain ⟨i, hig, HR, HP, HB⟩ := hrel
    have h0 : wr.cell? ⟨g, 0, none⟩ = some (.string s) := cell_block HP.out 0
    have h1 : wr.cell? ⟨g, 1, none⟩ = some (.int .i64 (i : Int)) := cell_block HP.out 1
    have hz : wr.frozen? ⟨g, 1, none⟩ = false := free_block HP.out 1
    have q2 : (0 : Int) ≤ (i : Int) := by omega
    have q4 : (a : Int) ≤ (i : Int) := by have := HR.out.le; omega
    have q5 : (i : Int) ≤ (s.size : Int) := by omega
    have q6 : (0 : Int) ≤ (a : Int) := by omega
    cases gk with
    | zero =>
      have hi : i = s.size := by omega
      have q0 : decide (i < s.size) = false := decide_eq_false (by omega)
      obtain ⟨t1, t2⟩ := word_text HR.out (fun h => absurd h (by omega)) Hr.out
      have T1 := Lib.hid t1
      have T2 := Lib.hid t2
      clear hi hig t1 t2
      go_wp2_with fail
      go_quiet (fail)
      go_wp2_with fail
      go_quiet (fail)
      go_wp2_with fail
      refine (blanks_any g s bad _ _ (Par.drew (r := s.data.toList.drop i) (w := wr) ⟨i, HR.out.room, rfl, HP.out⟩ _) hs).mono ?_
      rintro E w2 ⟨rfl, hp2, hb2⟩
      rw [T2.out]
      rw [T2.out] at hp2
      have HP2 := Lib.hid hp2
      have HB2 := Lib.hid ((HB.out.drew _).trans hb2)
      clear hp2 hb2 h0 h1 hz
      go_wp2_with fail
      go_ret2
      exact ⟨congrArg (fun t => Ending.returned (.tuple #[.string t, .bool (headIs 32 (wordR r))])) T1.out, HP2.out, HB2.out⟩
    | succ k =>
      have hil : i < s.size := by omega
      have q0 : decide (i < s.size) = true := decide_eq_true hil
      have q1 : (i : Int) < (s.size : Int) := by omega
      cases hb : wordB s[i] with
      | false =>
        obtain ⟨t1, t2⟩ := word_text HR.out (fun h => hb) Hr.out
        have T1 := Lib.hid t1
        have T2 := Lib.hid t2
        have HW := fun w => Lib.hid (isWordQ_any s[i] w)
        rw [hb] at HW
        clear hig t1 t2 hb
        go_wp2_with fail
        go_quiet ((go_at_call 76; exact Calls.quiet_of_same (HW _).out))
        go_wp2_with fail
        go_quiet (fail)
        go_wp2_with fail
        refine (blanks_any g s bad _ _ (Par.drew (r := s.data.toList.drop i) (w := wr) ⟨i, HR.out.room, rfl, HP.out⟩ _) hs).mono ?_
        rintro E w2 ⟨rfl, hp2, hb2⟩
        rw [T2.out]
        rw [T2.out] at hp2
        have HP2 := Lib.hid hp2
        have HB2 := Lib.hid ((HB.out.drew _).trans hb2)
        clear hp2 hb2 h0 h1 hz
        go_wp2_with fail
        go_ret2
        exact ⟨congrArg (fun t => Ending.returned (.tuple #[.string t, .bool (headIs 32 (wordR r))])) T1.out, HP2.out, HB2.out⟩
      | true =>
        have HR2 := Lib.hid (HR.out.step hil hb)
        have HW := fun w => Lib.hid (isWordQ_any s[i] w)
        rw [hb] at HW
        clear hb
        go_wp2_with fail
        go_quiet ((go_at_call 76; exact Calls.quiet_of_same (HW _).out))
        go_wp2_with fail
        obtain ⟨t1, t2⟩ := touch_setCell (i := 1) (v := .int .i64 ((i : Int) + 1)) HP.out
        go_roundg k
        case measure => omega
        case rel => exact ⟨i + 1, by omega, HR2, Lib.hid (by unfold ParAt; rw [show ((i + 1 : Nat) : Int) = (i : Int) + 1 by omega]; exact t1), Lib.hid ((HB.out.trans (But.touch t2)).drew _)⟩
end Go.Proofs.YtkmonmdnmpbadaaDoor
