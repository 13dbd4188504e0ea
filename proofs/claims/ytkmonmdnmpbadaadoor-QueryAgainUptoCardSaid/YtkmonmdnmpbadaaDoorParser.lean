/- query: the parser's first methods. -/
import Derived.Test.YtkmonmdnmpbadaaDoorParsePlain
import Derived.Test.YtkmonmdnmpbadaaDoorScan
import Derived.Test.YtkmonmdnmpbadaaDoorBut
import Derived.Deep.QuietTactic
import Derived.Deep.LoopGhost
import Derived.Deep.DeepCutAuto
import Derived.BigQuiet
import Derived.IntWalk
namespace Go.Proofs.YtkmonmdnmpbadaaDoor
open Go.RowKit
open QP

theorem wordB_eq (c : UInt8) (n : Nat) (hn : c.toNat = n) (h256 : n < 256) (k : Int) (hk : Lib.indexByte [45, 95, 46, 47] c = k) : wordB c = (decide ((97 ≤ n ∧ n ≤ 122) ∨ (65 ≤ n ∧ n ≤ 90) ∨ (48 ≤ n ∧ n ≤ 57)) || decide (0 ≤ k)) := by
  subst hk
  have hc : c = n.toUInt8 := by rw [← hn]; simp
  have all : ∀ m : Fin 256, wordB m.val.toUInt8 = (decide ((97 ≤ m.val ∧ m.val ≤ 122) ∨ (65 ≤ m.val ∧ m.val ≤ 90) ∨ (48 ≤ m.val ∧ m.val ≤ 57)) || decide (0 ≤ Lib.indexByte [45, 95, 46, 47] m.val.toUInt8)) := by decide +kernel
  rw [hc]
  exact all ⟨n, h256⟩
theorem ret_bool {a b : Bool} (h : a = b) : Ending.returned (.bool a) = .returned (.bool b) := by rw [h]
set_option maxRecDepth 100000 in
set_option maxHeartbeats 1600000 in
theorem isWordQ_any (c : UInt8) (w : World) : Calls Tryd.prog 76 #[.int .u8 (c.toNat : Int)] w fun e w' => e = .returned (.bool (wordB c)) ∧ w' = w := by
  obtain ⟨n, hn⟩ : ∃ n : Nat, c.toNat = n := ⟨_, rfl⟩
  have hc : ((n : Int).toNat.toUInt8) = c := by rw [← hn]; simp
  have h256 : n < 256 := by rw [← hn]; exact c.toNat_lt
  obtain ⟨k, hk⟩ : ∃ k, Lib.indexByte [45, 95, 46, 47] c = k := ⟨_, rfl⟩
  have Hb := Lib.hid (wordB_eq c n hn h256 k hk)
  have Hk : Hid (Lib.indexByte [45, 95, 46, 47] ((n : Int).toNat.toUInt8) = k) := Lib.hid (by rw [hc]; exact hk)
  rw [hn]
  clear hk hc hn
  have way : (97 ≤ n ∧ n ≤ 122) ∨ (122 < n) ∨ (65 ≤ n ∧ n ≤ 90) ∨ (90 < n ∧ n < 97) ∨ (48 ≤ n ∧ n ≤ 57) ∨ (57 < n ∧ n < 65) ∨ (n < 48) := by omega
  rcases way with h | h | h | h | h | h | h
  · have pa : (97 : Int) ≤ (n : Int) := by omega
    have pb : (n : Int) ≤ 122 := by omega
    have Hr : Hid (wordB c = true) := Lib.hid (by rw [Hb.out, decide_eq_true (by omega)]; rfl)
    clear h Hb
    go_enter Tryd.func76, Tryd.ntmps76
    go_wp2_with fail
    go_ret
    exact ⟨ret_bool Hr.out.symm, rfl⟩
  · have pa : (97 : Int) ≤ (n : Int) := by omega
    have pb : ¬ (n : Int) ≤ 122 := by omega
    have pc : (65 : Int) ≤ (n : Int) := by omega
    have pd : ¬ (n : Int) ≤ 90 := by omega
    have pe : (48 : Int) ≤ (n : Int) := by omega
    have pf : ¬ (n : Int) ≤ 57 := by omega
    have Hr : Hid (wordB c = decide (0 ≤ k)) := Lib.hid (by rw [Hb.out, decide_eq_false (by omega)]; rfl)
    clear h Hb
    go_enter Tryd.func76, Tryd.ntmps76
    go_wp2_with fail
    refine (Tryd.strings_IndexByte _ _ _).mono ?_
    rintro E w1 ⟨rfl, rfl⟩
    rw [show (⟨#[45, 95, 46, 47]⟩ : ByteArray).data.toList = [45, 95, 46, 47] from rfl, Hk.out]
    go_wp2_with fail
    go_ret
    exact ⟨ret_bool Hr.out.symm, rfl⟩
  · have pa : ¬ (97 : Int) ≤ (n : Int) := by omega
    have pc : (65 : Int) ≤ (n : Int) := by omega
    have pd : (n : Int) ≤ 90 := by omega
    have Hr : Hid (wordB c = true) := Lib.hid (by rw [Hb.out, decide_eq_true (by omega)]; rfl)
    clear h Hb
    go_enter Tryd.func76, Tryd.ntmps76
    go_wp2_with fail
    go_ret
    exact ⟨ret_bool Hr.out.symm, rfl⟩
  · have pa : ¬ (97 : Int) ≤ (n : Int) := by omega
    have pc : (65 : Int) ≤ (n : Int) := by omega
    have pd : ¬ (n : Int) ≤ 90 := by omega
    have pe : (48 : Int) ≤ (n : Int) := by omega
    have pf : ¬ (n : Int) ≤ 57 := by omega
    have Hr : Hid (wordB c = decide (0 ≤ k)) := Lib.hid (by rw [Hb.out, decide_eq_false (by omega)]; rfl)
    clear h Hb
    go_enter Tryd.func76, Tryd.ntmps76
    go_wp2_with fail
    refine (Tryd.strings_IndexByte _ _ _).mono ?_
    rintro E w1 ⟨rfl, rfl⟩
    rw [show (⟨#[45, 95, 46, 47]⟩ : ByteArray).data.toList = [45, 95, 46, 47] from rfl, Hk.out]
    go_wp2_with fail
    go_ret
    exact ⟨ret_bool Hr.out.symm, rfl⟩
  · have pa : ¬ (97 : Int) ≤ (n : Int) := by omega
    have pc : ¬ (65 : Int) ≤ (n : Int) := by omega
    have pe : (48 : Int) ≤ (n : Int) := by omega
    have pf : (n : Int) ≤ 57 := by omega
    have Hr : Hid (wordB c = true) := Lib.hid (by rw [Hb.out, decide_eq_true (by omega)]; rfl)
    clear h Hb
    go_enter Tryd.func76, Tryd.ntmps76
    go_wp2_with fail
    go_ret
    exact ⟨ret_bool Hr.out.symm, rfl⟩
  · have pa : ¬ (97 : Int) ≤ (n : Int) := by omega
    have pc : ¬ (65 : Int) ≤ (n : Int) := by omega
    have pe : (48 : Int) ≤ (n : Int) := by omega
    have pf : ¬ (n : Int) ≤ 57 := by omega
    have Hr : Hid (wordB c = decide (0 ≤ k)) := Lib.hid (by rw [Hb.out, decide_eq_false (by omega)]; rfl)
    clear h Hb
    go_enter Tryd.func76, Tryd.ntmps76
    go_wp2_with fail
    refine (Tryd.strings_IndexByte _ _ _).mono ?_
    rintro E w1 ⟨rfl, rfl⟩
    rw [show (⟨#[45, 95, 46, 47]⟩ : ByteArray).data.toList = [45, 95, 46, 47] from rfl, Hk.out]
    go_wp2_with fail
    go_ret
    exact ⟨ret_bool Hr.out.symm, rfl⟩
  · have pa : ¬ (97 : Int) ≤ (n : Int) := by omega
    have pc : ¬ (65 : Int) ≤ (n : Int) := by omega
    have pe : ¬ (48 : Int) ≤ (n : Int) := by omega
    have Hr : Hid (wordB c = decide (0 ≤ k)) := Lib.hid (by rw [Hb.out, decide_eq_false (by omega)]; rfl)
    clear h Hb
    go_enter Tryd.func76, Tryd.ntmps76
    go_wp2_with fail
    refine (Tryd.strings_IndexByte _ _ _).mono ?_
    rintro E w1 ⟨rfl, rfl⟩
    rw [show (⟨#[45, 95, 46, 47]⟩ : ByteArray).data.toList = [45, 95, 46, 47] from rfl, Hk.out]
    go_wp2_with fail
    go_ret
    exact ⟨ret_bool Hr.out.symm, rfl⟩

/-- the parser: it stands at a -/
def ParAt (g : Nat) (s : ByteArray) (bad : Bool) (a : Nat) (w : World) : Prop := w.heap[g]? = some (.cells #[.string s, .int .i64 (a : Int), .bool bad] 65 (0, 0))
/-- the parser: what is left -/
def Par (g : Nat) (s : ByteArray) (bad : Bool) (r : List UInt8) (w : World) : Prop := ∃ a, a ≤ s.size ∧ s.data.toList.drop a = r ∧ ParAt g s bad a w
theorem Par.drew {g : Nat} {s : ByteArray} {bad : Bool} {r : List UInt8} {w : World} (h : Par g s bad r w) (n : Nat) : Par g s bad r (w.drewN n) := h
theorem But.drew {g : Nat} {w w' : World} (h : But g w w') (n : Nat) : But g w (w'.drewN n) := ⟨h.os, h.tape, h.output, h.size, h.block⟩

set_option maxRecDepth 100000 in
set_option maxHeartbeats 1600000 in
theorem over_any (g : Nat) (s : ByteArray) (bad : Bool) (a : Nat) (w : World) (h : ParAt g s bad a w) (ha : a ≤ s.size) (hs : s.size ≤ 1048576) :
    Calls Tryd.prog 26 #[.pointer (some ⟨g, 0, none⟩)] w fun e w' => e = .returned (.bool (decide (a = s.size))) ∧ ∃ n, w' = w.drewN n := by
  have c0 : w.cell? ⟨g, 0, none⟩ = some (.string s) := cell_block h 0
  have c1 : w.cell? ⟨g, 1, none⟩ = some (.int .i64 (a : Int)) := cell_block h 1
  clear h
  by_cases he : a = s.size
  · have q : ((a : Int) == (s.size : Int)) = true := by rw [beq_iff_eq]; omega
    have Hr : Hid (decide (a = s.size) = true) := Lib.hid (decide_eq_true he)
    rw [Hr.out]
    clear he
    go_enter Tryd.func26, Tryd.ntmps26
    go_wp2_with fail
    go_quiet (fail)
    go_wp2_with fail
    go_ret
    exact ⟨rfl, _, rfl⟩
  · have q : ((a : Int) == (s.size : Int)) = false := by rw [beq_eq_false_iff_ne]; omega
    have Hr : Hid (decide (a = s.size) = false) := Lib.hid (decide_eq_false he)
    rw [Hr.out]
    clear he
    go_enter Tryd.func26, Tryd.ntmps26
    go_wp2_with fail
    go_quiet (fail)
    go_wp2_with fail
    go_ret
    exact ⟨rfl, _, rfl⟩

/-- a blank run from a to i -/
abbrev isBlank (c : UInt8) : Bool := c == 32
theorem blank_val {s : ByteArray} {i : Nat} (hi : i < s.size) {b : Bool} (h : isBlank s[i] = b) : ((s[i].toNat : Int) == 32) = b := by
  have : ((s[i].toNat : Int) == 32) = (s[i] == 32) := by
    rw [Bool.eq_iff_iff, beq_iff_eq, beq_iff_eq]
    constructor
    · intro e
      have h32 : (32 : UInt8).toNat = 32 := rfl
      have : s[i].toNat = (32 : UInt8).toNat := by omega
      exact UInt8.toNat_inj.1 this
    · intro e; rw [e]; rfl
  rw [this]; exact h
theorem moved_head {s : ByteArray} {a i : Nat} (h : Runs isBlank s a i) (hi : ∀ h : i < s.size, isBlank s[i] = false) : decide (a < i) = headIs 32 (s.data.toList.drop a) := by
  by_cases ha : a < s.size
  · rw [h.moved hi ha, drop_at ha]; rfl
  · rw [drop_end (by omega)]
    have := h.room
    exact decide_eq_false (by omega)
set_option maxRecDepth 100000 in
set_option maxHeartbeats 3200000 in
theorem blanks_any (g : Nat) (s : ByteArray) (bad : Bool) (r : List UInt8) (w : World) (h : Par g s bad r w) (hs : s.size ≤ 1048576) :
    Calls Tryd.prog 25 #[.pointer (some ⟨g, 0, none⟩)] w fun e w' => e = .returned (.bool (headIs 32 r)) ∧ Par g s bad (skipB r) w' ∧ But g w w' := by
  obtain ⟨a, ha, rfl, h⟩ := h
  have c0 : w.cell? ⟨g, 1, none⟩ = some (.int .i64 (a : Int)) := cell_block h 1
  have H := Lib.hid h
  clear h
  go_enter Tryd.func25, Tryd.ntmps25
  go_wp2_with fail
  clear c0
  go_loopg [] (s.size - a) (fun k wr => ∃ i : Nat, i + k = s.size ∧ Hid (Runs isBlank s a i) ∧ Hid (ParAt g s bad i wr) ∧ Hid (But g w wr))
  case atStart => exact ⟨a, by omega, Lib.hid (Runs.start _ ha), H, Lib.hid (But.refl _ _)⟩
  case round =>
    obtain ⟨i, hig, HR, HP, HB⟩ := hrel
    have h0 : wr.cell? ⟨g, 0, none⟩ = some (.string s) := cell_block HP.out 0
    have h1 : wr.cell? ⟨g, 1, none⟩ = some (.int .i64 (i : Int)) := cell_block HP.out 1
    have hz : wr.frozen? ⟨g, 1, none⟩ = false := free_block HP.out 1
    cases gk with
    | zero =>
      have hi : i = s.size := by omega
      have q0 : decide (i < s.size) = false := decide_eq_false (by omega)
      have Hm := Lib.hid (moved_head HR.out (fun h => absurd h (by omega)))
      have Hs := Lib.hid (HR.out.stop (fun h => absurd h (by omega))).1
      clear hi hig
      go_wp2_with fail
      go_quiet (fail)
      go_wp2_with fail
      go_ret
      exact ⟨ret_bool Hm.out, ⟨i, HR.out.room, Hs.out.symm, HP.out⟩, HB.out.drew _⟩
    | succ k =>
      have hil : i < s.size := by omega
      have q0 : decide (i < s.size) = true := decide_eq_true hil
      have q1 : (i : Int) < (s.size : Int) := by omega
      have q2 : (0 : Int) ≤ (i : Int) := by omega
      cases hb : isBlank s[i] with
      | false =>
        have q3 := blank_val hil hb
        have Hm := Lib.hid (moved_head HR.out (fun h => hb))
        have Hs := Lib.hid (HR.out.stop (fun h => hb)).1
        clear hb hig
        go_wp2_with fail
        go_quiet (fail)
        go_wp2_with fail
        go_ret
        exact ⟨ret_bool Hm.out, ⟨i, HR.out.room, Hs.out.symm, HP.out⟩, HB.out.drew _⟩
      | true =>
        have q3 := blank_val hil hb
        have HR2 := Lib.hid (HR.out.step hil hb)
        clear hb
        go_wp2_with fail
        go_quiet (fail)
        go_wp2_with fail
        obtain ⟨t1, t2⟩ := touch_setCell (i := 1) (v := .int .i64 ((i : Int) + 1)) HP.out
        go_roundg k
        case measure => omega
        case rel => exact ⟨i + 1, by omega, HR2, Lib.hid (by unfold ParAt; rw [show ((i + 1 : Nat) : Int) = (i : Int) + 1 by omega]; exact t1), Lib.hid ((HB.out.trans (But.touch t2)).drew _)⟩
end Go.Proofs.YtkmonmdnmpbadaaDoor
