/- The law JsonBlanks. -/
import Derived.Test.YtaddcchpidpbfaaDoorJsonQuoteJ
import Derived.Test.YtaddcchpidpbfaaDoorJsonBlanksPlain
import Derived.Test.YtaddcchpidpbfaaDoorRest
import Derived.Test.YtaddcchpidpbfaaDoorShelf
namespace Go.Proofs.YtaddcchpidpbfaaDoor
open Go.RowKit
open JP (JV Bs)

theorem rep_len : ∀ (k : Nat), (Lib.repeatL ([32, 10, 9] : Bs) k).length = 3 * k ∧ (Lib.repeatL ([32, 10, 9] : Bs) k).all JP.blank = true
  | 0 => ⟨rfl, rfl⟩
  | k + 1 => by
    obtain ⟨h1, h2⟩ := rep_len k
    have e : Lib.repeatL ([32, 10, 9] : Bs) (k + 1) = [32, 10, 9] ++ Lib.repeatL [32, 10, 9] k := rfl
    rw [e, List.length_append, List.all_append, h1, h2]
    refine ⟨?_, by decide⟩
    show 3 + 3 * k = _
    omega
set_option maxRecDepth 100000 in
set_option maxHeartbeats 6400000 in
theorem jsonBlanks_walk (s : ByteArray) (a : Int) (w : World) (_ha : (Lit.int .i64 a).wf = true) (hbulk : s.data.toList.length + 1 + (1 + 0) ≤ 1048576) (htab : TabOK w) :
    Calls Tryd.prog 9 #[.string s, .int .i64 a] w fun e w' => e = .returned (.bool true) ∧ Below w.heap.size w w' := by
  have hs : s.size ≤ 1048576 := by rw [list_size] at hbulk; omega
  have HC := Lib.hid (canon_any s w hs htab)
  obtain ⟨er, her⟩ : ∃ er, JP.canonE s.data.toList = er := ⟨_, rfl⟩
  rw [her] at HC
  by_cases hgo : er ≠ 2 ∧ s.size ≤ 1900
  · obtain ⟨h2, hsz⟩ := hgo
    obtain ⟨k, hkr⟩ : ∃ k : Nat, restOf a 9 = (k : Int) := ⟨_, (Int.toNat_of_nonneg (restOf_in (by omega)).1).symm⟩
    have hkl : k < 9 := by have := (restOf_in (a := a) (b := 9) (by omega)).2; omega
    have hR := fun (w' : World) => rest_any a 9 w' (by omega) (by omega)
    rw [hkr] at hR
    have HR := Lib.hid hR
    obtain ⟨b1, b2⟩ := rep_len k
    obtain ⟨B, hB⟩ : ∃ B, Lib.repeatL ([32, 10, 9] : Bs) k = B := ⟨_, rfl⟩
    rw [hB] at b1 b2
    have hP := fun (w' : World) => Tryd.strings_Repeat ⟨#[32, 10, 9]⟩ k w' (by omega) (by show 3 * k ≤ _; omega)
    rw [show Lib.repeatL (⟨#[32, 10, 9]⟩ : ByteArray).data.toList k = B from hB] at hP
    have HP : Hid (∀ w' : World, Calls Tryd.prog 22 #[.string ⟨#[32, 10, 9]⟩, .int .i64 (k : Int)] w' fun e w'' => e = .returned (.string (mkB B)) ∧ Below w'.heap.size w' w'') := Lib.hid hP
    have hcat : (mkB B ++ s ++ ⟨#[9, 32, 10]⟩ : ByteArray).data.toList = B ++ s.data.toList ++ JP.tailE := by simp [mkB, JP.tailE]
    have hsl : s.data.toList.length = s.size := list_size s
    have hcl : (B ++ s.data.toList ++ JP.tailE).length ≤ 2000 := by
      rw [List.length_append, List.length_append, b1, hsl]
      show 3 * k + s.size + 3 ≤ 2000
      omega
    have hcs : (mkB B ++ s ++ ⟨#[9, 32, 10]⟩ : ByteArray).size ≤ 1048576 := by rw [← list_size, hcat]; omega
    have hrd := JP.read_blanks b2 hcl (by omega)
    have hn := fun (w' : World) (hb : Below w.heap.size w w') => canon_any (mkB B ++ s ++ ⟨#[9, 32, 10]⟩) w' hcs (htab.below hb)
    rw [hcat, show JP.canonE (B ++ s.data.toList ++ JP.tailE) = er from by rw [← her]; unfold JP.canonE; rw [hrd], show JP.canonT (B ++ s.data.toList ++ JP.tailE) = JP.canonT s.data.toList from by unfold JP.canonT; rw [hrd]] at hn
    have HN := Lib.hid hn
    have hx := fun (w' : World) (hb : Below w.heap.size w w') => canon_any ⟨#[91, 32, 93]⟩ w' (by decide) (htab.below hb)
    rw [show JP.canonE (⟨#[91, 32, 93]⟩ : ByteArray).data.toList = 0 from by show (JP.readL [91, 32, 93]).2 = 0; rw [JP.read_box], show JP.canonT (⟨#[91, 32, 93]⟩ : ByteArray).data.toList = [91, 93] from (JP.canonT_ok (s := [91, 32, 93]) JP.read_box).trans rfl] at hx
    have HX : Hid (∀ w' : World, Below w.heap.size w w' → Calls Tryd.prog 16 #[.string ⟨#[91, 32, 93]⟩] w' fun e w'' => e = .returned (.tuple #[.string ⟨#[91, 93]⟩, .int .i64 0]) ∧ Below w'.heap.size w' w'') := Lib.hid hx
    have hbz : (mkB B).size = 3 * k := (mkB_size B).trans b1
    have p1 : (er == 2) = false := by rw [beq_eq_false_iff_ne]; exact h2
    have p2 : ¬ (1900 : Int) < (s.size : Int) := by omega
    have c1 : ¬ 9223372036854775807 < (mkB B).size + s.size := by omega
    have c2 : ¬ 9223372036854775807 < (mkB B).size + s.size + 3 := by omega
    obtain ⟨T, hT⟩ : ∃ T, mkB (JP.canonT s.data.toList) = T := ⟨_, rfl⟩
    rw [hT] at HC HN
    clear hR hP hn hx hrd hcat hsl hcl hcs hbz b1 b2 hB hkr hkl h2 hsz her htab hbulk hT
    go_enter Tryd.func9, Tryd.ntmps9
    go_wp2_with fail
    refine HC.out.mono ?_
    rintro E w1 ⟨rfl, hb⟩
    have HB1 := Lib.hid hb
    clear hb
    go_wp2_with fail
    refine (HR.out w1).mono ?_
    rintro E w2 ⟨rfl, rfl⟩
    go_wp2_with fail
    refine (HP.out w1).mono ?_
    rintro E w2 ⟨rfl, hb⟩
    have HB2 := Lib.hid (HB1.out.trans (hb.mono HB1.out.size))
    clear hb
    go_wp2_with fail
    refine (HN.out w2 HB2.out).mono ?_
    rintro E w3 ⟨rfl, hb⟩
    have HB3 := Lib.hid (HB2.out.trans (hb.mono HB2.out.size))
    clear hb
    go_wp2_with fail
    refine (HX.out w3 HB3.out).mono ?_
    rintro E w4 ⟨rfl, hb⟩
    have HB4 := Lib.hid (HB3.out.trans (hb.mono HB3.out.size))
    clear hb
    go_wp2_with fail
    go_ret
    exact ⟨rfl, HB4.out⟩
  · have way : (er = 2 ∨ (er == 2) = false ∧ (1900 : Int) < (s.size : Int)) ∧ ((er == 0) = true ∨ (er == 0) = false ∧ (mkB (JP.canonT s.data.toList)).toList.isEmpty = true) := by
      refine ⟨?_, ?_⟩
      · by_cases h : er = 2
        · exact .inl h
        · exact .inr ⟨by rw [beq_eq_false_iff_ne]; exact h, by
            have : ¬ s.size ≤ 1900 := fun h9 => hgo ⟨h, h9⟩
            omega⟩
      · by_cases h : er = 0
        · exact .inl (by rw [beq_iff_eq]; exact h)
        · refine .inr ⟨by rw [beq_eq_false_iff_ne]; exact h, ?_⟩
          rw [JP.canonT_no (by rw [show (JP.readL s.data.toList).2 = er from her]; exact h), mkB_empty]
          rfl
    obtain ⟨T, hT⟩ : ∃ T, mkB (JP.canonT s.data.toList) = T := ⟨_, rfl⟩
    rw [hT] at HC way
    clear hgo her htab hbulk hT
    obtain ⟨rfl | ⟨p1, p2⟩, q1 | ⟨q1, q2⟩⟩ := way
    · exact absurd q1 (by decide)
    all_goals
      go_enter Tryd.func9, Tryd.ntmps9
      go_wp2_with fail
      refine HC.out.mono ?_
      rintro E w1 ⟨rfl, hb⟩
      have HB1 := Lib.hid hb
      clear hb
      go_wp2_with fail
      go_ret
      exact ⟨rfl, HB1.out⟩
end Go.Proofs.YtaddcchpidpbfaaDoor
