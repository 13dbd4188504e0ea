/- json: the reader's cells; next, fail. -/
import Derived.Test.YtaddcchpidpbfaaDoorJsonQuote
import Derived.Test.YtaddcchpidpbfaaDoorScan
import Derived.Test.YtaddcchpidpbfaaDoorBut
import Derived.Deep.QuietTactic
import Derived.Deep.LoopGhost
import Derived.Deep.DeepCutAuto
import Derived.BigQuiet
import Derived.IntWalk
import Derived.OwnWalk
namespace Go.Proofs.YtaddcchpidpbfaaDoor
open Go.RowKit
open JP (JV Bs)

/-- the reader: it stands at a -/
def RdAt (g : Nat) (s : ByteArray) (a m : Nat) (vst : Value) (bad : Int) (w : World) : Prop := w.heap[g]? = some (.cells #[.string s, .int .i64 (a : Int), .int .i64 (m : Int), vst, .int .i64 bad] 72 (0, 0))
theorem RdAt.drew {g : Nat} {s : ByteArray} {a m : Nat} {vst : Value} {bad : Int} {w : World} (h : RdAt g s a m vst bad w) (n : Nat) : RdAt g s a m vst bad (w.drewN n) := h
theorem But.drew {g : Nat} {w w' : World} (h : But g w w') (n : Nat) : But g w (w'.drewN n) := ⟨h.os, h.tape, h.output, h.size, h.block⟩
theorem ret_bool {a b : Bool} (h : a = b) : Ending.returned (.bool a) = .returned (.bool b) := by rw [h]
/-- the byte that a text begins with, 0 for none -/
def hdN (r : Bs) : Int := match r with
  | [] => 0
  | c :: _ => (c.toNat : Int)
theorem hd_at {s : ByteArray} {i : Nat} (h : i < s.size) : hdN (s.data.toList.drop i) = (s[i].toNat : Int) := by rw [drop_at h]; rfl
theorem blank_nat (c : UInt8) : JP.blank c = decide (c.toNat = 32 ∨ c.toNat = 9 ∨ c.toNat = 10) := by
  unfold JP.blank
  rw [Bool.eq_iff_iff]
  simp only [Bool.or_eq_true, beq_iff_eq, decide_eq_true_eq, or_assoc]
  have e : ∀ k : UInt8, c = k ↔ c.toNat = k.toNat := fun k => ⟨fun h => by rw [h], fun h => UInt8.toNat_inj.1 h⟩
  rw [e 32, e 9, e 10]
  exact Iff.rfl
theorem ret_u8 {a b : Int} (h : a = b) : Ending.returned (.int .u8 a) = .returned (.int .u8 b) := by rw [h]
set_option maxRecDepth 100000 in
set_option maxHeartbeats 3200000 in
theorem next_any (g : Nat) (s : ByteArray) (a m : Nat) (vst : Value) (bad : Int) (w : World) (h : RdAt g s a m vst bad w) (ha : a ≤ s.size) (hs : s.size ≤ 1048576) :
    Calls Tryd.prog 45 #[.pointer (some ⟨g, 0, none⟩)] w fun e w' => e = .returned (.int .u8 (hdN (JP.skip (s.data.toList.drop a)))) ∧ (∃ i, i ≤ s.size ∧ s.data.toList.drop i = JP.skip (s.data.toList.drop a) ∧ RdAt g s i m vst bad w') ∧ But g w w' := by
  have H := Lib.hid h
  clear h
  go_enter Tryd.func45, Tryd.ntmps45
  go_wp2_with fail
  go_loopg [] (s.size - a) (fun k wr => ∃ i : Nat, i + k = s.size ∧ Hid (Runs JP.blank s a i) ∧ Hid (RdAt g s i m vst bad wr) ∧ Hid (But g w wr))
  case atStart => exact ⟨a, by omega, Lib.hid (Runs.start _ ha), H, Lib.hid (But.refl _ _)⟩
  case round =>
    obtain ⟨i, hig, HR, HP, HB⟩ := hrel
    have h0 : wr.cell? ⟨g, 0, none⟩ = some (.string s) := cell_block HP.out 0
    have h1 : wr.cell? ⟨g, 1, none⟩ = some (.int .i64 (i : Int)) := cell_block HP.out 1
    have hz : wr.frozen? ⟨g, 1, none⟩ = false := free_block HP.out 1
    cases gk with
    | zero =>
      have hi : i = s.size := by omega
      have q0 : decide (i < s.size) = false := decide_eq_false (by omega)
      have q1 : ¬ (i : Int) < (s.size : Int) := by omega
      have Hs := Lib.hid (HR.out.stop (fun h => absurd h (by omega))).1
      have Hh : Hid ((0 : Int) = hdN (JP.skip (s.data.toList.drop a))) := Lib.hid (by
        show 0 = hdN ((s.data.toList.drop a).dropWhile JP.blank)
        rw [Hs.out, drop_end (by omega)]; rfl)
      have hile : i ≤ s.size := by omega
      clear hi hig
      go_wp2_with fail
      go_quiet (fail)
      go_wp2_with fail
      go_ret
      exact ⟨ret_u8 Hh.out, ⟨i, hile, Hs.out.symm, HP.out⟩, HB.out.drew _⟩
    | succ k =>
      have hil : i < s.size := by omega
      have q0 : decide (i < s.size) = true := decide_eq_true hil
      have q1 : (i : Int) < (s.size : Int) := by omega
      have q2 : (0 : Int) ≤ (i : Int) := by omega
      cases hb : JP.blank s[i] with
      | false =>
        have Hs := Lib.hid (HR.out.stop (fun h => hb)).1
        have Hh : Hid ((s[i].toNat : Int) = hdN (JP.skip (s.data.toList.drop a))) := Lib.hid (by
          show _ = hdN ((s.data.toList.drop a).dropWhile JP.blank)
          rw [Hs.out, hd_at hil])
        have hn : ¬ (s[i].toNat = 32 ∨ s[i].toNat = 9 ∨ s[i].toNat = 10) := by
          rw [blank_nat] at hb
          exact of_decide_eq_false hb
        have e1 : ((s[i].toNat : Int) != 32) = true := by rw [bne_iff_ne]; omega
        have e2 : ((s[i].toNat : Int) != 9) = true := by rw [bne_iff_ne]; omega
        have e3 : ((s[i].toNat : Int) != 10) = true := by rw [bne_iff_ne]; omega
        have e4 : ((s[i].toNat : Int) == 32) = false := by rw [beq_eq_false_iff_ne]; omega
        have e5 : ((s[i].toNat : Int) == 9) = false := by rw [beq_eq_false_iff_ne]; omega
        have e6 : ((s[i].toNat : Int) == 10) = false := by rw [beq_eq_false_iff_ne]; omega
        have hile : i ≤ s.size := by omega
        clear hb hig hn
        go_wp2_with fail
        go_quiet (fail)
        go_wp2_with fail
        go_quiet (fail)
        go_wp2_with fail
        go_ret
        exact ⟨ret_u8 Hh.out, ⟨i, hile, Hs.out.symm, HP.out⟩, HB.out.drew _⟩
      | true =>
        have HR2 := Lib.hid (HR.out.step hil hb)
        have hn : s[i].toNat = 32 ∨ s[i].toNat = 9 ∨ s[i].toNat = 10 := by
          rw [blank_nat] at hb
          exact of_decide_eq_true hb
        clear hb
        rcases hn with hn | hn | hn
        all_goals
          go_wp2_with fail
          go_quiet (fail)
          go_wp2_with fail
          go_quiet (fail)
          go_wp2_with fail
          obtain ⟨t1, t2⟩ := touch_setCell (i := 1) (v := .int .i64 ((i : Int) + 1)) HP.out
          go_roundg k
          case measure => omega
          case rel => exact ⟨i + 1, by omega, HR2, Lib.hid (by unfold RdAt; rw [show ((i + 1 : Nat) : Int) = (i : Int) + 1 by omega]; exact t1), Lib.hid ((HB.out.trans (But.touch t2)).drew _)⟩
def failE (e0 bad : Int) : Int := if bad = 0 then e0 else bad
set_option maxRecDepth 100000 in
set_option maxHeartbeats 1600000 in
theorem fail_any (g : Nat) (s : ByteArray) (a m : Nat) (vst : Value) (bad e0 : Int) (w : World) (h : RdAt g s a m vst bad w) :
    Calls Tryd.prog 46 #[.pointer (some ⟨g, 0, none⟩), .int .i64 e0] w fun e w' => e = .returned (.tuple #[]) ∧ RdAt g s a m vst (failE e0 bad) w' ∧ But g w w' := by
  have h4 : w.cell? ⟨g, 4, none⟩ = some (.int .i64 bad) := cell_block h 4
  have hz : w.frozen? ⟨g, 4, none⟩ = false := free_block h 4
  have H := Lib.hid h
  clear h
  by_cases hb : bad = 0
  · subst hb
    go_enter Tryd.func46, Tryd.ntmps46
    go_wp2_with fail
    obtain ⟨t1, t2⟩ := touch_setCell (i := 4) (v := .int .i64 e0) H.out
    go_end0
    exact ⟨rfl, by rw [show failE e0 0 = e0 from rfl]; exact t1, But.touch t2⟩
  · have q1 : (bad == 0) = false := by rw [beq_eq_false_iff_ne]; exact hb
    have Hr : Hid (failE e0 bad = bad) := Lib.hid (if_neg hb)
    clear hb
    go_enter Tryd.func46, Tryd.ntmps46
    go_wp2_with fail
    go_end0
    exact ⟨rfl, by rw [Hr.out]; exact H.out, But.refl _ _⟩
end Go.Proofs.YtaddcchpidpbfaaDoor
