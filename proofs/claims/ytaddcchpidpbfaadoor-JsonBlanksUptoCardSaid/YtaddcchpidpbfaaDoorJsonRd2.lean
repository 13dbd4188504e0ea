/- json: the reader's word, escape, text. -/
import Derived.Test.YtaddcchpidpbfaaDoorJsonRd
import Derived.Test.YtaddcchpidpbfaaDoorShelf
import Derived.Test.YtaddcchpidpbfaaDoorJsonGood
namespace Go.Proofs.YtaddcchpidpbfaaDoor
open Go.RowKit
open JP (JV Bs)

theorem hasPre_extract (s sg : ByteArray) (a : Nat) (ha : a ≤ s.size) (w : World) {b : Bool} (hb : Lib.hasPrefix (s.data.toList.drop a) sg.data.toList = b) :
    Calls Tryd.prog 33 #[.string (s.extract a s.size), .string sg] w fun e w' => e = .returned (.bool b) ∧ w' = w := by
  have h := Tryd.strings_HasPrefix (s.extract a s.size) sg w
  rw [extract_take ha (Nat.le_refl _), List.take_of_length_le (by simp), hb] at h
  exact h
/-- what a word comes to -/
def WordAt (g : Nat) (s : ByteArray) (m : Nat) (vst : Value) (r sg : Bs) (w : World) (e : Ending) (w' : World) : Prop :=
  e = .returned (.tuple #[]) ∧ But g w w' ∧ ((sg.isPrefixOf r = true ∧ ∃ i, i ≤ s.size ∧ s.data.toList.drop i = r.drop sg.length ∧ RdAt g s i m vst 0 w') ∨ (sg.isPrefixOf r = false ∧ ∃ i, RdAt g s i m vst 3 w'))
set_option maxRecDepth 100000 in
set_option maxHeartbeats 3200000 in
theorem word_any (g : Nat) (s : ByteArray) (a m : Nat) (vst : Value) (sg : ByteArray) (w : World) (h : RdAt g s a m vst 0 w) (ha : a ≤ s.size) (hs : s.size ≤ 1048576) :
    Calls Tryd.prog 80 #[.pointer (some ⟨g, 0, none⟩), .string sg] w (WordAt g s m vst (s.data.toList.drop a) sg.data.toList w) := by
  have c0 : w.cell? ⟨g, 0, none⟩ = some (.string s) := cell_block h 0
  have c1 : w.cell? ⟨g, 1, none⟩ = some (.int .i64 (a : Int)) := cell_block h 1
  have hz : w.frozen? ⟨g, 1, none⟩ = false := free_block h 1
  have H := Lib.hid h
  have q1 : (0 : Int) ≤ (a : Int) := by omega
  have q2 : (a : Int) ≤ (s.size : Int) := by omega
  obtain ⟨b, hb⟩ : ∃ b, Lib.hasPrefix (s.data.toList.drop a) sg.data.toList = b := ⟨_, rfl⟩
  have HC := fun w => Lib.hid (hasPre_extract s sg a ha w hb)
  have hl : s.data.toList.length = s.size := by simp
  have hsl : sg.data.toList.length = sg.size := by simp
  cases b with
  | false =>
    have Hb := Lib.hid hb
    clear h hb hl hsl
    go_enter Tryd.func80, Tryd.ntmps80
    go_wp2_with fail
    go_quiet ((go_at_call 33; exact Calls.quiet_of_same (HC _).out))
    go_wp2_with fail
    refine (fail_any g s a m vst 0 3 _ (H.out.drew _)).mono ?_
    rintro E w1 ⟨rfl, hr, hbt⟩
    have Hr := Lib.hid hr
    have Hbt := Lib.hid hbt
    clear hr hbt
    go_wp2_with fail
    go_end0
    exact ⟨rfl, ((But.refl _ _).drew _).trans Hbt.out, .inr ⟨Hb.out, a, Hr.out⟩⟩
  | true =>
    have hroom := (List.isPrefixOf_iff_prefix.1 hb).length_le
    rw [List.length_drop, hl, hsl] at hroom
    have Hr : Hid (s.data.toList.drop (a + sg.size) = (s.data.toList.drop a).drop sg.data.toList.length) := Lib.hid (by rw [hsl, List.drop_drop])
    have hk : a + sg.size ≤ s.size := by omega
    have Hb := Lib.hid hb
    clear h hb hl hsl hroom
    go_enter Tryd.func80, Tryd.ntmps80
    go_wp2_with fail
    go_quiet ((go_at_call 33; exact Calls.quiet_of_same (HC _).out))
    go_wp2_with fail
    obtain ⟨t1, t2⟩ := touch_setCell (i := 1) (v := .int .i64 ((a : Int) + (sg.size : Int))) H.out
    go_end0
    refine ⟨rfl, ((But.touch t2).drew _), .inl ⟨Hb.out, a + sg.size, hk, Hr.out, ?_⟩⟩
    unfold RdAt
    rw [show ((a + sg.size : Nat) : Int) = (a : Int) + (sg.size : Int) by omega]
    exact t1

/-- what stands behind a '\\' -/
def escB? (r : Bs) : Option UInt8 := match r with
  | [] => none
  | c :: _ => JP.escV c
def EscAt (g : Nat) (s : ByteArray) (a m : Nat) (vst : Value) (r : Bs) (w : World) (e : Ending) (w' : World) : Prop :=
  (∃ x, escB? r = some x ∧ e = .returned (.int .u8 (x.toNat : Int)) ∧ RdAt g s a m vst 0 w' ∧ But g w w') ∨ (escB? r = none ∧ e = .returned (.int .u8 0) ∧ RdAt g s a m vst 3 w' ∧ But g w w')
theorem escV_nat (c : UInt8) : JP.escV c = if c.toNat = 34 ∨ c.toNat = 92 then some c else if c.toNat = 110 then some 10 else if c.toNat = 116 then some 9 else none := by
  have e : ∀ k : UInt8, (c = k) = (c.toNat = k.toNat) := fun k => propext ⟨fun h => by rw [h], fun h => UInt8.toNat_inj.1 h⟩
  unfold JP.escV
  simp only [e 34, e 92, e 110, e 116]
  rfl
set_option maxRecDepth 100000 in
set_option maxHeartbeats 3200000 in
theorem escape_any (g : Nat) (s : ByteArray) (a m : Nat) (vst : Value) (w : World) (h : RdAt g s a m vst 0 w) (ha : a ≤ s.size) (hs : s.size ≤ 1048576) :
    Calls Tryd.prog 93 #[.pointer (some ⟨g, 0, none⟩)] w (EscAt g s a m vst (s.data.toList.drop a) w) := by
  have c0 : w.cell? ⟨g, 0, none⟩ = some (.string s) := cell_block h 0
  have c1 : w.cell? ⟨g, 1, none⟩ = some (.int .i64 (a : Int)) := cell_block h 1
  have H := Lib.hid h
  clear h
  have q0 : (0 : Int) ≤ (a : Int) := by omega
  by_cases hl : a < s.size
  · have q1 : (a : Int) < (s.size : Int) := by omega
    have p0 : decide (a < s.size) = true := decide_eq_true hl
    have He : Hid (escB? (s.data.toList.drop a) = JP.escV s[a]) := Lib.hid (by rw [drop_at hl]; rfl)
    have hev := escV_nat s[a]
    have way : s[a].toNat = 34 ∨ s[a].toNat = 92 ∨ s[a].toNat = 110 ∨ s[a].toNat = 116 ∨ (s[a].toNat ≠ 34 ∧ s[a].toNat ≠ 92 ∧ s[a].toNat ≠ 110 ∧ s[a].toNat ≠ 116) := by omega
    rcases way with hn | hn | hn | hn | ⟨n1, n2, n3, n4⟩
    · have Hv : Hid (escB? (s.data.toList.drop a) = some 34) := Lib.hid (by rw [He.out, hev, if_pos (.inl hn), u8_eq (a := s[a]) (b := 34) hn])
      clear hev He
      go_enter Tryd.func93, Tryd.ntmps93
      go_wp2_with fail
      go_quiet (fail)
      go_wp2_with fail
      go_quiet (fail)
      go_wp2_with fail
      go_ret
      exact .inl ⟨34, Hv.out, rfl, H.out, (But.refl _ _).drew _⟩
    · have Hv : Hid (escB? (s.data.toList.drop a) = some 92) := Lib.hid (by rw [He.out, hev, if_pos (.inr hn), u8_eq (a := s[a]) (b := 92) hn])
      clear hev He
      go_enter Tryd.func93, Tryd.ntmps93
      go_wp2_with fail
      go_quiet (fail)
      go_wp2_with fail
      go_quiet (fail)
      go_wp2_with fail
      go_ret
      exact .inl ⟨92, Hv.out, rfl, H.out, (But.refl _ _).drew _⟩
    · have Hv : Hid (escB? (s.data.toList.drop a) = some 10) := Lib.hid (by rw [He.out, hev, if_neg (by omega), if_pos hn])
      clear hev He
      go_enter Tryd.func93, Tryd.ntmps93
      go_wp2_with fail
      go_quiet (fail)
      go_wp2_with fail
      go_quiet (fail)
      go_wp2_with fail
      go_ret
      exact .inl ⟨10, Hv.out, rfl, H.out, (But.refl _ _).drew _⟩
    · have Hv : Hid (escB? (s.data.toList.drop a) = some 9) := Lib.hid (by rw [He.out, hev, if_neg (by omega), if_neg (by omega), if_pos hn])
      clear hev He
      go_enter Tryd.func93, Tryd.ntmps93
      go_wp2_with fail
      go_quiet (fail)
      go_wp2_with fail
      go_quiet (fail)
      go_wp2_with fail
      go_ret
      exact .inl ⟨9, Hv.out, rfl, H.out, (But.refl _ _).drew _⟩
    · have Hv : Hid (escB? (s.data.toList.drop a) = none) := Lib.hid (by rw [He.out, hev, if_neg (by omega), if_neg n3, if_neg n4])
      have e1 : ((s[a].toNat : Int) == 34) = false := by rw [beq_eq_false_iff_ne]; omega
      have e2 : ((s[a].toNat : Int) == 92) = false := by rw [beq_eq_false_iff_ne]; omega
      have e3 : ((s[a].toNat : Int) == 110) = false := by rw [beq_eq_false_iff_ne]; omega
      have e4 : ((s[a].toNat : Int) == 116) = false := by rw [beq_eq_false_iff_ne]; omega
      clear hev He n1 n2 n3 n4
      go_enter Tryd.func93, Tryd.ntmps93
      go_wp2_with fail
      go_quiet (fail)
      go_wp2_with fail
      go_quiet (fail)
      go_wp2_with fail
      refine (fail_any g s a m vst 0 3 _ (H.out.drew _)).mono ?_
      rintro E w1 ⟨rfl, hr, hbt⟩
      have Hr := Lib.hid hr
      have Hbt := Lib.hid hbt
      clear hr hbt
      go_wp2_with fail
      go_ret
      exact .inr ⟨Hv.out, rfl, Hr.out, ((But.refl _ _).drew _).trans Hbt.out⟩
  · have q1 : ¬ (a : Int) < (s.size : Int) := by omega
    have p0 : decide (a < s.size) = false := decide_eq_false hl
    have Hv : Hid (escB? (s.data.toList.drop a) = none) := Lib.hid (by rw [drop_end (by omega)]; rfl)
    clear hl
    go_enter Tryd.func93, Tryd.ntmps93
    go_wp2_with fail
    go_quiet (fail)
    go_wp2_with fail
    refine (fail_any g s a m vst 0 3 _ (H.out.drew _)).mono ?_
    rintro E w1 ⟨rfl, hr, hbt⟩
    have Hr := Lib.hid hr
    have Hbt := Lib.hid hbt
    clear hr hbt
    go_wp2_with fail
    go_ret
    exact .inr ⟨Hv.out, rfl, Hr.out, ((But.refl _ _).drew _).trans Hbt.out⟩
end Go.Proofs.YtaddcchpidpbfaaDoor
