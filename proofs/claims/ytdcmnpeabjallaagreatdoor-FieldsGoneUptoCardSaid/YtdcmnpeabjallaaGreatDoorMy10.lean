/- Texts of ours joined. -/
import Derived.Deep.LoopGhost
import Derived.Deep.DeepCutAuto
import Derived.IntWalk
import Derived.Lib.AppendIntMem
import Derived.WalkSpells
import Derived.Test.YtdcmnpeabjallaaGreatDoorMy9
set_option linter.unusedVariables false
set_option linter.unusedSimpArgs false
namespace Go.Proofs.YtdcmnpeabjallaaGreatDoor
open Go.RowKit
open JP (JV Bs)
set_option maxRecDepth 100000 in
set_option maxHeartbeats 3200000 in
theorem quote_big (s : ByteArray) (w : World) (hs : s.size ≤ 1099511627776) :
    Calls Tryz.prog 78 #[.string s] w fun e w' => e = .returned (.string (mkB (JP.quote s.data.toList))) ∧ Below w.heap.size w w' := by
  obtain ⟨i0, hi0, hz0, hz1, hz2⟩ := info_parts Tryz.infoU8
  have hel : ∀ i, i ≤ s.size → (34 :: (s.data.toList.take i).flatMap JP.escB).length ≤ 2 * i + 1 := fun i hi => by
    have hone : ∀ c, (JP.escB c).length ≤ 2 := fun c => by unfold JP.escB; split <;> first | (simp; done) | (split <;> first | (simp; done) | (split <;> simp))
    have hgen : ∀ l : Bs, (l.flatMap JP.escB).length ≤ 2 * l.length := fun l => by
      induction l with
      | nil => simp
      | cons c r ih => rw [List.flatMap_cons, List.length_append, List.length_cons]; have := hone c; omega
    have := hgen (s.data.toList.take i)
    rw [List.length_take] at this
    rw [List.length_cons]
    omega
  have Hel := Lib.hid hel
  clear hel
  go_enter Tryz.func78, Tryz.ntmps78
  obtain ⟨w0, hw0⟩ : ∃ w0, w0 = w.alloc (.cells #[.int .u8 34] 5) := ⟨_, rfl⟩
  have h0 : OwnAt RU8 1 w0 w.heap.size 5 (.slice (some ⟨w.heap.size, 0, none⟩) 1 1) [34] := by
    refine ⟨[[.int .u8 34]], rfl, fun cs hcs => by rw [List.mem_singleton.1 hcs]; rfl, ⟨rfl, .inr ⟨w.heap.size, 1, #[.int .u8 34], rfl, Nat.le_refl _, by rw [hw0]; exact heap_alloc_new w _, Nat.le_refl _, by unfold maxLen; decide, rfl, rfl⟩⟩, fun j cs x hcs hx => ?_⟩
    match j, hcs, hx with
    | 0, hcs, hx =>
      simp at hcs hx
      subst hcs
      subst hx
      rfl
  have hb0 : Below w.heap.size w w0 := by rw [hw0]; exact (Below.refl _ _).alloc (Nat.le_refl _) _
  have H0 := Lib.hid h0
  have Hb0 := Lib.hid hb0
  clear h0 hb0
  go_upto_region 2 with fail
  rw [← hw0]
  clear hw0
  go_wp2_with fail
  go_loopg [3, 9] s.size (fun k u3 u9 wr => ∃ i : Nat, i + k = s.size ∧ u9 = .int .i64 (i : Int) ∧ Hid (OwnAt RU8 1 wr w.heap.size 5 u3 (34 :: (s.data.toList.take i).flatMap JP.escB)) ∧ Hid (Below w.heap.size w wr))
  case atStart => exact ⟨0, by omega, rfl, H0, Hb0⟩
  case round =>
    obtain ⟨i, hik, rfl, Hown, Hbel⟩ := hrel
    have hl1 := Hel.out i (by omega)
    have hbs := Hbel.out.size
    obtain ⟨L, HL⟩ : ∃ L, Hid (34 :: (s.data.toList.take i).flatMap JP.escB = L) := ⟨_, Lib.hid rfl⟩
    rw [HL.out] at Hown hl1
    cases gk with
    | zero =>
      obtain rfl : i = s.size := by omega
      have HLq : Hid (L ++ [34] = JP.quote s.data.toList) := Lib.hid (by
        rw [← HL.out, List.take_of_length_le (by simp)]
        rfl)
      obtain ⟨w1, hw1⟩ : ∃ w1, w1 = wr.alloc (.cells #[.int .u8 34] 5) := ⟨_, rfl⟩
      have hb1 : Below wr.heap.size wr w1 := by rw [hw1]; exact (Below.refl _ _).alloc (Nat.le_refl _) _
      have h1 : RowAt RU8 1 w1 (.slice (some ⟨wr.heap.size, 0, none⟩) 1 1) [34] := row_u8 (l := [34]) (by rw [hw1]; exact heap_alloc_new wr _) (by unfold maxLen; simp)
      have Ho1 := Lib.hid (Hown.out.below stays_u8 hb1)
      have H1 := Lib.hid h1
      have Hb1 := Lib.hid (Hbel.out.trans (hb1.mono hbs))
      clear h1 hb1
      go_upto_region 16 with fail
      go_wp2_with (at_builtin; rw [← hw1]; refine wpList_append_ownAt (R := RU8) (k := 1) (e := 5) (B := w.heap.size) (l := L) (m := [34]) _ (by rfl) _ _ _ (by rfl) i0 _ 1 Tryz.underlying143 hi0 hz0 hz1 hz2 rfl (by omega) flat_u8 one_u8 _ (by rfl) Ho1.out _ (by rfl) H1.out (by unfold maxLen; simp; omega) (by simp; omega) (by have := Hb1.out.size; omega) ?_)
      intro v' w2 hv' hg hr _
      rw [← hw1] at hg
      have hb2 : Below w.heap.size w w2 := below_of_grown Hb1.out (by have := Hb1.out.size; omega) hg hr
      have Hb2 := Lib.hid hb2
      have hcv := run_convert_own w2 143 9 5 Tryz.underlying143 Tryz.underlying5 Tryz.underlying9 (own_u8 hv')
      clear hv' hg hr hb2 hw1
      go_wp2_with fail
      go_ret
      exact ⟨by rw [HLq.out]; rfl, Hb2.out⟩
    | succ k =>
      have hil : i < s.size := by omega
      have q1 : (0 : Int) ≤ (i : Int) := by omega
      have q2 : (i : Int) < (s.size : Int) := by omega
      have HS := Lib.hid (esc_snoc hil)
      rw [HL.out] at HS
      by_cases h34 : s[i].toNat = 34
      · have he : s[i] = 34 := u8_eq h34
        have hesc : JP.escB s[i] = [92, 34] := by rw [he]; rfl
        have HE := Lib.hid hesc
        clear he hesc
        have HS2 : Hid (34 :: (s.data.toList.take (i + 1)).flatMap JP.escB = L ++ [92, 34]) := Lib.hid (by rw [HS.out, HE.out])
        clear HS
        go_wp2_with (at_builtin; refine wpList_append_ownAt (R := RU8) (k := 1) (e := 5) (B := w.heap.size) (l := L) (m := [92, 34]) _ (by rfl) _ _ _ (by rfl) i0 _ 1 Tryz.underlying143 hi0 hz0 hz1 hz2 rfl (by omega) flat_u8 one_u8 _ (by rfl) (Hown.out.alloc stays_u8 _) (.slice (some ⟨wr.heap.size, 0, none⟩) 2 2) (by rfl) (row_u8 (l := [92, 34]) (heap_alloc_new wr _) (by unfold maxLen; simp)) (by unfold maxLen; simp; omega) (by simp; omega) (by simp; omega) ?_)
        intro v' w2 hv' hg hr _
        have hb2 : Below w.heap.size w w2 := below_of_grown (Hbel.out.alloc hbs _) (by simp; omega) hg hr
        have Hb2 := Lib.hid hb2
        have Hv : Hid (OwnAt RU8 1 w2 w.heap.size 5 v' (34 :: (s.data.toList.take (i + 1)).flatMap JP.escB)) := Lib.hid (by rw [HS2.out]; exact hv')
        clear hv' hg hr hb2 HS2
        go_wp2_with fail
        go_roundg k
        case measure => omega
        case rel => exact ⟨i + 1, by omega, by go_num, Hv, Hb2⟩
      · have n34 : ((s[i].toNat : Int) == 34) = false := by rw [beq_eq_false_iff_ne]; omega
        by_cases h92 : s[i].toNat = 92
        · have he : s[i] = 92 := u8_eq h92
          have hesc : JP.escB s[i] = [92, 92] := by rw [he]; rfl
          have HE := Lib.hid hesc
          clear he hesc n34 h34
          have HS2 : Hid (34 :: (s.data.toList.take (i + 1)).flatMap JP.escB = L ++ [92, 92]) := Lib.hid (by rw [HS.out, HE.out])
          clear HS
          go_wp2_with (at_builtin; refine wpList_append_ownAt (R := RU8) (k := 1) (e := 5) (B := w.heap.size) (l := L) (m := [92, 92]) _ (by rfl) _ _ _ (by rfl) i0 _ 1 Tryz.underlying143 hi0 hz0 hz1 hz2 rfl (by omega) flat_u8 one_u8 _ (by rfl) (Hown.out.alloc stays_u8 _) (.slice (some ⟨wr.heap.size, 0, none⟩) 2 2) (by rfl) (row_u8 (l := [92, 92]) (heap_alloc_new wr _) (by unfold maxLen; simp)) (by unfold maxLen; simp; omega) (by simp; omega) (by simp; omega) ?_)
          intro v' w2 hv' hg hr _
          have hb2 : Below w.heap.size w w2 := below_of_grown (Hbel.out.alloc hbs _) (by simp; omega) hg hr
          have Hb2 := Lib.hid hb2
          have Hv : Hid (OwnAt RU8 1 w2 w.heap.size 5 v' (34 :: (s.data.toList.take (i + 1)).flatMap JP.escB)) := Lib.hid (by rw [HS2.out]; exact hv')
          clear hv' hg hr hb2 HS2
          go_wp2_with fail
          go_roundg k
          case measure => omega
          case rel => exact ⟨i + 1, by omega, by go_num, Hv, Hb2⟩
        · have n92 : ((s[i].toNat : Int) == 92) = false := by rw [beq_eq_false_iff_ne]; omega
          by_cases h10 : s[i].toNat = 10
          · have he : s[i] = 10 := u8_eq h10
            have hesc : JP.escB s[i] = [92, 110] := by rw [he]; rfl
            have HE := Lib.hid hesc
            clear he hesc n34 h34 n92 h92
            have HS2 : Hid (34 :: (s.data.toList.take (i + 1)).flatMap JP.escB = L ++ [92, 110]) := Lib.hid (by rw [HS.out, HE.out])
            clear HS
            go_wp2_with (at_builtin; refine wpList_append_ownAt (R := RU8) (k := 1) (e := 5) (B := w.heap.size) (l := L) (m := [92, 110]) _ (by rfl) _ _ _ (by rfl) i0 _ 1 Tryz.underlying143 hi0 hz0 hz1 hz2 rfl (by omega) flat_u8 one_u8 _ (by rfl) (Hown.out.alloc stays_u8 _) (.slice (some ⟨wr.heap.size, 0, none⟩) 2 2) (by rfl) (row_u8 (l := [92, 110]) (heap_alloc_new wr _) (by unfold maxLen; simp)) (by unfold maxLen; simp; omega) (by simp; omega) (by simp; omega) ?_)
            intro v' w2 hv' hg hr _
            have hb2 : Below w.heap.size w w2 := below_of_grown (Hbel.out.alloc hbs _) (by simp; omega) hg hr
            have Hb2 := Lib.hid hb2
            have Hv : Hid (OwnAt RU8 1 w2 w.heap.size 5 v' (34 :: (s.data.toList.take (i + 1)).flatMap JP.escB)) := Lib.hid (by rw [HS2.out]; exact hv')
            clear hv' hg hr hb2 HS2
            go_wp2_with fail
            go_roundg k
            case measure => omega
            case rel => exact ⟨i + 1, by omega, by go_num, Hv, Hb2⟩
          · have n10 : ((s[i].toNat : Int) == 10) = false := by rw [beq_eq_false_iff_ne]; omega
            by_cases h9 : s[i].toNat = 9
            · have he : s[i] = 9 := u8_eq h9
              have hesc : JP.escB s[i] = [92, 116] := by rw [he]; rfl
              have HE := Lib.hid hesc
              clear he hesc n34 h34 n92 h92 n10 h10
              have HS2 : Hid (34 :: (s.data.toList.take (i + 1)).flatMap JP.escB = L ++ [92, 116]) := Lib.hid (by rw [HS.out, HE.out])
              clear HS
              go_wp2_with (at_builtin; refine wpList_append_ownAt (R := RU8) (k := 1) (e := 5) (B := w.heap.size) (l := L) (m := [92, 116]) _ (by rfl) _ _ _ (by rfl) i0 _ 1 Tryz.underlying143 hi0 hz0 hz1 hz2 rfl (by omega) flat_u8 one_u8 _ (by rfl) (Hown.out.alloc stays_u8 _) (.slice (some ⟨wr.heap.size, 0, none⟩) 2 2) (by rfl) (row_u8 (l := [92, 116]) (heap_alloc_new wr _) (by unfold maxLen; simp)) (by unfold maxLen; simp; omega) (by simp; omega) (by simp; omega) ?_)
              intro v' w2 hv' hg hr _
              have hb2 : Below w.heap.size w w2 := below_of_grown (Hbel.out.alloc hbs _) (by simp; omega) hg hr
              have Hb2 := Lib.hid hb2
              have Hv : Hid (OwnAt RU8 1 w2 w.heap.size 5 v' (34 :: (s.data.toList.take (i + 1)).flatMap JP.escB)) := Lib.hid (by rw [HS2.out]; exact hv')
              clear hv' hg hr hb2 HS2
              go_wp2_with fail
              go_roundg k
              case measure => omega
              case rel => exact ⟨i + 1, by omega, by go_num, Hv, Hb2⟩
            · have n9 : ((s[i].toNat : Int) == 9) = false := by rw [beq_eq_false_iff_ne]; omega
              have hesc : JP.escB s[i] = [s[i]] := by
                have ne : ∀ (c : UInt8), s[i].toNat ≠ c.toNat → s[i] ≠ c := fun c h e => h (by rw [e])
                unfold JP.escB
                rw [if_neg (fun h => h.elim (ne 34 h34) (ne 92 h92)), if_neg (ne 10 h10), if_neg (ne 9 h9)]
              have HE := Lib.hid hesc
              clear hesc h34 h92 h10 h9
              have HS2 : Hid (34 :: (s.data.toList.take (i + 1)).flatMap JP.escB = L ++ [s[i]]) := Lib.hid (by rw [HS.out, HE.out])
              clear HS
              go_wp2_with (at_builtin; refine wpList_append_ownAt (R := RU8) (k := 1) (e := 5) (B := w.heap.size) (l := L) (m := [s[i]]) _ (by rfl) _ _ _ (by rfl) i0 _ 1 Tryz.underlying143 hi0 hz0 hz1 hz2 rfl (by omega) flat_u8 one_u8 _ (by rfl) (Hown.out.alloc stays_u8 _) (.slice (some ⟨wr.heap.size, 0, none⟩) 1 1) (by rfl) (row_u8 (l := [s[i]]) (heap_alloc_new wr _) (by unfold maxLen; simp)) (by unfold maxLen; simp; omega) (by simp; omega) (by simp; omega) ?_)
              intro v' w2 hv' hg hr _
              have hb2 : Below w.heap.size w w2 := below_of_grown (Hbel.out.alloc hbs _) (by simp; omega) hg hr
              have Hb2 := Lib.hid hb2
              have Hv : Hid (OwnAt RU8 1 w2 w.heap.size 5 v' (34 :: (s.data.toList.take (i + 1)).flatMap JP.escB)) := Lib.hid (by rw [HS2.out]; exact hv')
              clear hv' hg hr hb2 HS2
              go_wp2_with fail
              go_roundg k
              case measure => omega
              case rel => exact ⟨i + 1, by omega, by go_num, Hv, Hb2⟩
set_option maxRecDepth 100000 in
set_option maxHeartbeats 3200000 in
theorem stands_big (s : ByteArray) (w : World) (hs : s.size ≤ 1099511627776) :
    Calls Tryz.prog 107 #[.string s] w fun e w' => e = .returned (.bool (s.data.toList.all JP.stand)) ∧ w = w' := by
  obtain ⟨R, hR⟩ : ∃ R, s.data.toList.all JP.stand = R := ⟨_, rfl⟩
  rw [hR]
  have HR := Lib.hid hR
  clear hR
  go_enter Tryz.func107, Tryz.ntmps107
  go_wp2_with fail
  go_loopg [7] s.size (fun k u7 wx => ∃ i : Nat, i + k = s.size ∧ u7 = .int .i64 (i : Int) ∧ Hid ((s.data.toList.take i).all JP.stand = true) ∧ w = wx)
  case atStart => exact ⟨0, by omega, rfl, Lib.hid (by rw [List.take_zero]; rfl), rfl⟩
  case round =>
    obtain ⟨i, hig, rfl, HA, rfl⟩ := hrel
    cases gk with
    | zero =>
      have q1 : ¬ (i : Int) < (s.size : Int) := by omega
      have Hall : Hid (s.data.toList.all JP.stand = true) := Lib.hid (by have h := HA.out; rwa [List.take_of_length_le (by rw [list_size]; omega)] at h)
      clear HA hig
      go_wp2_with fail
      go_ret
      exact ⟨ret_bool2 (Hall.out.symm.trans HR.out), rfl⟩
    | succ k =>
      have hil : i < s.size := by omega
      have q0 : decide (i < s.size) = true := decide_eq_true hil
      have q1 : (i : Int) < (s.size : Int) := by omega
      have q2 : (0 : Int) ≤ (i : Int) := by omega
      have hwr : IntKind.i64.wrap ((i : Int) + 1) = (i : Int) + 1 := IntWalk.i64_in _ (by omega)
      have hsn := stand_nat s[i]
      cases hst : JP.stand s[i] with
      | false =>
        rw [hst] at hsn
        replace hsn := hsn.symm
        simp only [Bool.or_eq_false_iff, decide_eq_false_iff_not] at hsn
        obtain ⟨⟨m1, m2⟩, m3⟩ := hsn
        have e10 : ((s[i].toNat : Int) != 10) = true := by rw [bne_iff_ne]; omega
        have e9 : ((s[i].toNat : Int) != 9) = true := by rw [bne_iff_ne]; omega
        have Hno := Lib.hid (not_all hil hst)
        clear hst HA hig
        by_cases l1 : s[i].toNat < 32
        · have p1 : (s[i].toNat : Int) < 32 := by omega
          have p2 : decide ((s[i].toNat : Int) < 32) = true := decide_eq_true p1
          clear m1 m2 m3
          go_wp2_with fail
          go_ret
          exact ⟨ret_bool2 (Hno.out.symm.trans HR.out), rfl⟩
        · have p1 : ¬ (s[i].toNat : Int) < 32 := by omega
          have p2 : decide ((s[i].toNat : Int) < 32) = false := decide_eq_false p1
          have p3 : (126 : Int) < (s[i].toNat : Int) := by omega
          have p4 : decide ((126 : Int) < (s[i].toNat : Int)) = true := decide_eq_true p3
          clear m1 m2 m3
          go_wp2_with fail
          go_ret
          exact ⟨ret_bool2 (Hno.out.symm.trans HR.out), rfl⟩
      | true =>
        rw [hst] at hsn
        replace hsn := hsn.symm
        simp only [Bool.or_eq_true, decide_eq_true_eq] at hsn
        have HA2 := Lib.hid (all_take hil HA.out hst)
        clear hst HA
        rcases hsn with (⟨m1, m2⟩ | m1) | m1
        · have p1 : ¬ (s[i].toNat : Int) < 32 := by omega
          have p2 : decide ((s[i].toNat : Int) < 32) = false := decide_eq_false p1
          have p3 : ¬ (126 : Int) < (s[i].toNat : Int) := by omega
          have p4 : decide ((126 : Int) < (s[i].toNat : Int)) = false := decide_eq_false p3
          clear m1 m2
          go_wp2_with fail
          go_roundg k
          case measure => omega
          case rel => exact ⟨i + 1, by omega, by go_num, HA2, rfl⟩
        · go_wp2_with fail
          go_roundg k
          case measure => omega
          case rel => exact ⟨i + 1, by omega, by go_num, HA2, rfl⟩
        · go_wp2_with fail
          go_roundg k
          case measure => omega
          case rel => exact ⟨i + 1, by omega, by go_num, HA2, rfl⟩
set_option maxRecDepth 100000 in
set_option maxHeartbeats 6400000 in
theorem text_big : ∀ (n : Nat) (v : Value) (x : JV) (w : World), JvAt n [] w v x → (JP.text x).length ≤ 1073741824 → TabOK w →
    Calls Tryz.prog 43 #[v] w fun e w' => e = .returned (.string (mkB (JP.text x))) ∧ Below w.heap.size w w' := by
  intro n
  induction n with
  | zero => intro v x w h; cases h
  | succ n ih =>
    intro v x w h hlen htab
    have IH := Lib.hid ih
    have Htab := Lib.hid htab
    clear ih htab
    obtain ⟨i0, hi0, hz0, hz1, hz2⟩ := info_parts Tryz.infoStr
    cases x with
    | nul =>
      obtain rfl : v = .nilIface := h
      obtain ⟨g1, g2, g3, g4, g5⟩ := as_nil
      clear hlen
      go_enter Tryz.func43, Tryz.ntmps43
      go_wp2_with fail
      go_ret
      exact ⟨rfl, Below.refl _ _⟩
    | bool b =>
      obtain rfl : v = .iface 4 (.bool b) := h
      obtain ⟨g1, g2, g3, g4, g5⟩ := as_bool (.bool b)
      clear hlen
      go_enter Tryz.func43, Tryz.ntmps43
      go_wp2_with fail
      refine (Tryz.strconv_FormatBool b w).mono ?_
      rintro E w1 ⟨rfl, rfl⟩
      go_wp2_with fail
      go_ret
      exact ⟨ret_mk (formatBool_text b), Below.refl _ _⟩
    | num k =>
      obtain ⟨rfl, k0, k1⟩ := h
      obtain ⟨g1, g2, g3, g4, g5⟩ := as_int64 (.int .i64 k)
      clear hlen
      go_enter Tryz.func43, Tryz.ntmps43
      go_wp2_with fail
      refine (Tryz.strconv_FormatInt_10 k k0 k1 w Htab.out).mono ?_
      rintro E w1 ⟨rfl, q, os, hw1⟩
      have hb1 : Below w.heap.size w w1 := by rw [hw1]; exact Lib.below_grow _ _ (Nat.le_refl _) _ _
      have Hb1 := Lib.hid hb1
      clear hw1 hb1
      go_wp2_with fail
      go_ret
      exact ⟨ret_mk (by rw [JP.text]), Hb1.out⟩
    | str s =>
      obtain rfl : v = .iface 9 (.string (mkB s)) := h
      obtain ⟨g1, g2, g3, g4, g5⟩ := as_string (.string (mkB s))
      have hs : (mkB s).size ≤ 1073741824 := by
        rw [mkB_size]
        rw [JP.text] at hlen
        have := quote_size s
        omega
      have HQ := Lib.hid (quote_big (mkB s) w (Nat.le_trans hs (by decide)))
      clear hlen hs
      go_enter Tryz.func43, Tryz.ntmps43
      go_wp2_with fail
      refine HQ.out.mono ?_
      rintro E w1 ⟨rfl, hb1⟩
      have Hb1 := Lib.hid hb1
      clear hb1
      go_wp2_with fail
      go_ret
      exact ⟨ret_mk (by rw [JP.text, mkB_list]), Hb1.out⟩
    | list l =>
      obtain ⟨u, rfl, hrow, _⟩ := h
      obtain ⟨a, c, rfl, _, _⟩ := hrow.len
      obtain ⟨g1, g2, g3, g4, g5⟩ := as_list (.slice a l.length c)
      have h1 := lenL_text l
      have h2 := lenL_len l
      have hll : l.length ≤ 1073741824 := by omega
      have Hlen : Hid (JP.lenL l ≤ 1073741824) := Lib.hid (by omega)
      have Hrow := Lib.hid hrow
      have hjl : (Lib.join (JP.textL l) [44]).length ≤ 1073741824 := by
        have : (JP.text (.list l)).length = (Lib.join (JP.textL l) [44]).length + 2 := by rw [JP.text]; simp
        omega
      have Hjl := Lib.hid hjl
      have HT : Hid (JP.text (.list l) = 91 :: (Lib.join (JP.textL l) [44] ++ [93])) := Lib.hid (by rw [JP.text])
      clear hrow hlen h1 h2 hjl
      go_enter Tryz.func43, Tryz.ntmps43
      go_wp2_with fail
      go_loopg [7, 35] l.length (fun k u7 u35 wr => ∃ i : Nat, i + k = l.length ∧ u35 = .int .i64 (i : Int) ∧ Hid (OwnAt RString 1 wr w.heap.size 9 u7 ((l.take i).map fun x => mkB (JP.text x))) ∧ Hid (Below w.heap.size w wr))
      case atStart => exact ⟨0, by omega, rfl, Lib.hid (OwnAt.nil _), Lib.hid (Below.refl _ _)⟩
      case round =>
        obtain ⟨i, hik, rfl, Hown, Hbel⟩ := hrel
        have hsr := Hbel.out.size
        cases gk with
        | zero =>
          obtain rfl : i = l.length := by omega
          have hown := Hown.out
          rw [List.take_of_length_le (Nat.le_refl _)] at hown
          have HJ := Lib.hid (joinStrs_any hown.row (by rw [List.length_map]; omega) (by rw [mk_map, ← textL_map]; have := Hjl.out; omega))
          obtain ⟨J, HJe⟩ : ∃ J : Bs, Hid (Lib.join (JP.textL l) [44] = J) := ⟨_, Lib.hid rfl⟩
          rw [mk_map, ← textL_map, HJe.out] at HJ
          have hJs : (mkB J).size ≤ 1073741824 := by rw [mkB_size, ← HJe.out]; exact Hjl.out
          rw [HJe.out] at HT
          have q1 : ¬ 9223372036854775807 < 1 + (mkB J).size := by omega
          have q2 : ¬ 9223372036854775807 < 1 + (mkB J).size + 1 := by omega
          clear hown hik hsr
          go_wp2_with fail
          refine HJ.out.mono ?_
          rintro E w1 ⟨rfl, hb1⟩
          have Hb1 := Lib.hid (Hbel.out.trans (hb1.mono Hbel.out.size))
          clear hb1
          go_wp2_with fail
          go_ret
          exact ⟨by rw [HT.out, ← wrap_mk]; rfl, Hb1.out⟩
        | succ k =>
          have hil : i < l.length := by omega
          obtain ⟨x, hx⟩ : ∃ x, l[i]? = some x := ⟨l[i]'(by omega), List.getElem?_eq_getElem _⟩
          obtain ⟨b, o, c', hv, _, _, hbs, hcell⟩ := Hrow.out.form (by omega) (by omega)
          injection hv with u1 u2 u3
          subst u1
          clear u2 u3
          obtain ⟨ds, _, hcc, vx, rfl, hvx⟩ := hcell i x hx
          have e0 : wr.cell? ⟨b, o + i, none⟩ = some vx := (Hbel.out.cell (p := ⟨b, _, none⟩) hbs).trans (by simpa using hcc 0 _ rfl)
          have q1 : (0 : Int) ≤ (i : Int) := by omega
          have q2 : (i : Int) < (l.length : Int) := by omega
          have hmem := lenL_mem (List.mem_of_getElem? hx)
          have HC := Lib.hid (IH.out vx x wr (hvx.below Hbel.out) (by have := Hlen.out; omega) (Htab.out.below Hbel.out))
          have Htk : Hid ((l.take (i + 1)).map (fun x => mkB (JP.text x)) = (l.take i).map (fun x => mkB (JP.text x)) ++ [mkB (JP.text x)]) := Lib.hid (by rw [List.take_add_one, hx, List.map_append]; rfl)
          have hol : ((l.take i).map fun x => mkB (JP.text x)).length ≤ 1073741824 := by rw [List.length_map, List.length_take]; omega
          obtain ⟨O, HO⟩ : ∃ O, Hid ((l.take i).map (fun x => mkB (JP.text x)) = O) := ⟨_, Lib.hid rfl⟩
          obtain ⟨t, Ht⟩ : ∃ t, Hid (mkB (JP.text x) = t) := ⟨_, Lib.hid rfl⟩
          rw [HO.out, Ht.out] at Htk
          rw [HO.out] at Hown hol
          rw [Ht.out] at HC
          clear hcell hcc hx hvx hmem
          go_wp2_with fail
          refine HC.out.mono ?_
          rintro E w1 ⟨rfl, hb1⟩
          have Ho1 := Lib.hid (Hown.out.below stays_string hb1)
          have Hb1 := Lib.hid (Hbel.out.trans (hb1.mono Hbel.out.size))
          have hs1 := Hb1.out.size
          clear hb1 e0
          go_wp2_with (at_builtin; refine wpList_append_ownAt (R := RString) (k := 1) (e := 9) (B := w.heap.size) (l := O) (m := [t]) _ (by rfl) _ _ _ (by rfl) i0 _ 16 Tryz.underlying28 hi0 hz0 hz1 hz2 rfl (by omega) flat_string one_string _ (by rfl) (Ho1.out.alloc stays_string _) (.slice (some ⟨w1.heap.size, 0, none⟩) 1 1) (by rfl) (RowAt.one (R := RString) (k := 1) (cs := #[.string t]) (heap_alloc_new w1 _) rfl rfl) (by unfold maxLen; simp; omega) (by simp; omega) (by simp; omega) ?_)
          intro v' w2 hv' hg hr _
          have hb2 : Below w.heap.size w w2 := below_of_grown (Hb1.out.alloc hs1 _) (by simp; omega) hg hr
          have Hb2 := Lib.hid hb2
          have Hv : Hid (OwnAt RString 1 w2 w.heap.size 9 v' ((l.take (i + 1)).map fun x => mkB (JP.text x))) := Lib.hid (by rw [Htk.out]; exact hv')
          clear hv' hg hr hb2
          go_wp2_with fail
          go_roundg k
          case measure => omega
          case rel => exact ⟨i + 1, by omega, by go_num, Hv, Hb2⟩
    | obj l =>
      obtain ⟨q, rfl, _, _, vn, vv, cn, cv, hrn, _, hrv, _⟩ := h
      obtain ⟨an, c1, hu1, _, _⟩ := hrn.len
      obtain ⟨av, c2, hu2, _, _⟩ := hrv.len
      rw [List.length_map] at hu1 hu2
      subst hu1
      subst hu2
      obtain ⟨g1, g2, g3, g4, g5⟩ := as_obj (.pointer (some ⟨q, 0, none⟩))
      have h1 := lenF_text l
      have h2 := lenF_len l
      have hll : l.length ≤ 1073741824 := by omega
      have Hlen : Hid (JP.lenF l ≤ 1073741824) := Lib.hid (by omega)
      have Hrn := Lib.hid hrn
      have Hrv := Lib.hid hrv
      have hjl : (Lib.join (JP.textF l) [44]).length ≤ 1073741824 := by
        have : (JP.text (.obj l)).length = (Lib.join (JP.textF l) [44]).length + 2 := by rw [JP.text]; simp
        omega
      have Hjl := Lib.hid hjl
      have HT : Hid (JP.text (.obj l) = 123 :: (Lib.join (JP.textF l) [44] ++ [125])) := Lib.hid (by rw [JP.text])
      have hqw : q < w.heap.size := World.block_lt_of_cell? w ⟨q, 0, none⟩ cn
      have Cv := Lib.hid cv
      clear hrn hrv hlen h1 h2 hjl cv
      go_enter Tryz.func43, Tryz.ntmps43
      go_wp2_with fail
      clear cn
      go_loopg [11, 57] l.length (fun k u11 u57 wr => ∃ i : Nat, i + k = l.length ∧ u57 = .int .i64 (i : Int) ∧ Hid (OwnAt RString 1 wr w.heap.size 9 u11 ((l.take i).map fun x => mkB (JP.quote x.1 ++ 58 :: JP.text x.2))) ∧ Hid (Below w.heap.size w wr))
      case atStart => exact ⟨0, by omega, rfl, Lib.hid (OwnAt.nil _), Lib.hid (Below.refl _ _)⟩
      case round =>
        obtain ⟨i, hik, rfl, Hown, Hbel⟩ := hrel
        have hsr := Hbel.out.size
        cases gk with
        | zero =>
          obtain rfl : i = l.length := by omega
          have hown := Hown.out
          rw [List.take_of_length_le (Nat.le_refl _)] at hown
          have HJ := Lib.hid (joinStrs_any hown.row (by rw [List.length_map]; omega) (by rw [mk_map, ← textF_map]; have := Hjl.out; omega))
          obtain ⟨J, HJe⟩ : ∃ J : Bs, Hid (Lib.join (JP.textF l) [44] = J) := ⟨_, Lib.hid rfl⟩
          rw [mk_map, ← textF_map, HJe.out] at HJ
          have hJs : (mkB J).size ≤ 1073741824 := by rw [mkB_size, ← HJe.out]; exact Hjl.out
          rw [HJe.out] at HT
          have q1 : ¬ 9223372036854775807 < 1 + (mkB J).size := by omega
          have q2 : ¬ 9223372036854775807 < 1 + (mkB J).size + 1 := by omega
          clear hown hik hsr
          go_wp2_with fail
          refine HJ.out.mono ?_
          rintro E w1 ⟨rfl, hb1⟩
          have Hb1 := Lib.hid (Hbel.out.trans (hb1.mono Hbel.out.size))
          clear hb1
          go_wp2_with fail
          go_ret
          exact ⟨by rw [HT.out, ← wrap_mk]; rfl, Hb1.out⟩
        | succ k =>
          have hil : i < l.length := by omega
          obtain ⟨y, hx⟩ : ∃ y, l[i]? = some y := ⟨l[i]'(by omega), List.getElem?_eq_getElem _⟩
          have hxn : (l.map fun x => mkB x.1)[i]? = some (mkB y.1) := by rw [List.getElem?_map, hx]; rfl
          have hxv : (l.map (·.2))[i]? = some y.2 := by rw [List.getElem?_map, hx]; rfl
          obtain ⟨b, o, c', hv, _, _, hbs, hcell⟩ := Hrn.out.form (by rw [List.length_map]; omega) (by omega)
          injection hv with u1 u2 u3
          subst u1
          clear u2 u3
          obtain ⟨b2, o2, c2', hv2, _, _, hbs2, hcell2⟩ := Hrv.out.form (by rw [List.length_map]; omega) (by omega)
          injection hv2 with u1 u2 u3
          subst u1
          clear u2 u3
          obtain ⟨ds, _, hcc, rfl⟩ := hcell i _ hxn
          obtain ⟨es, _, hdd, vx, rfl, hvx⟩ := hcell2 i _ hxv
          have e0 : wr.cell? ⟨b, o + i, none⟩ = some (.string (mkB y.1)) := (Hbel.out.cell (p := ⟨b, _, none⟩) hbs).trans (by simpa using hcc 0 _ rfl)
          have f0 : wr.cell? ⟨b2, o2 + i, none⟩ = some vx := (Hbel.out.cell (p := ⟨b2, _, none⟩) hbs2).trans (by simpa using hdd 0 _ rfl)
          have p1 : wr.cell? ⟨q, 1, none⟩ = some (.slice (some ⟨b2, o2, none⟩) l.length c2) := (Hbel.out.cell (p := ⟨q, 1, none⟩) hqw).trans Cv.out
          have hqr : q < wr.heap.size := Nat.lt_of_lt_of_le hqw hsr
          have hbr2 : b2 < wr.heap.size := Nat.lt_of_lt_of_le hbs2 hsr
          have q1 : (0 : Int) ≤ (i : Int) := by omega
          have q2 : (i : Int) < (l.length : Int) := by omega
          have hmem := lenF_mem (List.mem_of_getElem? hx)
          have hl0 := Hlen.out
          have hns : (mkB y.1).size ≤ 1073741824 := by rw [mkB_size]; have := quote_size y.1; omega
          obtain ⟨Q, HQ⟩ : ∃ Q : Bs, Hid (JP.quote y.1 = Q) := ⟨_, Lib.hid rfl⟩
          obtain ⟨X, HX⟩ : ∃ X : Bs, Hid (JP.text y.2 = X) := ⟨_, Lib.hid rfl⟩
          have HC1 : Hid (∀ w', Below wr.heap.size wr w' → Calls Tryz.prog 78 #[.string (mkB y.1)] w' fun e w'' => e = .returned (.string (mkB Q)) ∧ Below w'.heap.size w' w'') := Lib.hid fun w' hb' => by
            refine (quote_big (mkB y.1) w' (Nat.le_trans hns (by decide))).mono ?_
            rintro E w'' ⟨rfl, hb''⟩
            exact ⟨by rw [mkB_list, HQ.out], hb''⟩
          have HC2 : Hid (∀ w', Below wr.heap.size wr w' → Calls Tryz.prog 43 #[vx] w' fun e w'' => e = .returned (.string (mkB X)) ∧ Below w'.heap.size w' w'') := Lib.hid fun w' hb' => by
            have hbw := Hbel.out.trans (hb'.mono hsr)
            refine (IH.out vx y.2 w' (hvx.below hbw) (by omega) (Htab.out.below hbw)).mono ?_
            rintro E w'' ⟨rfl, hb''⟩
            exact ⟨by rw [HX.out], hb''⟩
          have Htk : Hid ((l.take (i + 1)).map (fun x => mkB (JP.quote x.1 ++ 58 :: JP.text x.2)) = (l.take i).map (fun x => mkB (JP.quote x.1 ++ 58 :: JP.text x.2)) ++ [mkB (Q ++ 58 :: X)]) := Lib.hid (by rw [List.take_add_one, hx, List.map_append, ← HQ.out, ← HX.out]; rfl)
          have hol : ((l.take i).map fun x => mkB (JP.quote x.1 ++ 58 :: JP.text x.2)).length ≤ 1073741824 := by rw [List.length_map, List.length_take]; omega
          have hQs : (mkB Q).size ≤ 1073741824 := by rw [mkB_size, ← HQ.out]; omega
          have hXs : (mkB X).size ≤ 1073741824 := by rw [mkB_size, ← HX.out]; omega
          have q4 : ¬ 9223372036854775807 < (mkB Q).size + 1 := by omega
          have q5 : ¬ 9223372036854775807 < (mkB Q).size + 1 + (mkB X).size := by omega
          obtain ⟨O, HO⟩ : ∃ O, Hid ((l.take i).map (fun x => mkB (JP.quote x.1 ++ 58 :: JP.text x.2)) = O) := ⟨_, Lib.hid rfl⟩
          obtain ⟨t, Ht⟩ : ∃ t, Hid (mkB (Q ++ 58 :: X) = t) := ⟨_, Lib.hid rfl⟩
          have Ht2 : Hid ((mkB Q ++ ⟨#[58]⟩ ++ mkB X : ByteArray) = t) := Lib.hid (by rw [colon_mk]; exact Ht.out)
          rw [HO.out, Ht.out] at Htk
          rw [HO.out] at Hown hol
          clear hcell hcc hcell2 hdd hx hxn hxv hvx hmem hl0
          go_upto_region 26 with fail
          refine wp_region_relB 14 (fun ii U w' => match ii with
            | 0 => U 0 = u11
            | 1 => U 1 = .string (mkB y.1)
            | 2 => U 2 = .string (mkB Q)
            | 3 => U 3 = .string (mkB Q ++ ⟨#[58]⟩)
            | 4 => U 4 = .pointer (some ⟨q, 0, none⟩)
            | 5 => U 5 = .pointer (some ⟨q, 0, none⟩)
            | 6 => U 6 = .pointer (some ⟨q, 1, none⟩)
            | 7 => U 7 = .slice (some ⟨b2, o2, none⟩) l.length c2
            | 8 => U 8 = .int .i64 (i : Int)
            | 9 => U 9 = .pointer (some ⟨b2, o2 + i, none⟩)
            | 10 => U 10 = vx
            | 11 => U 11 = .string (mkB X)
            | 12 => U 12 = .string t
            | 13 => ∃ g, U 13 = .slice (some ⟨g, 0, none⟩) 1 1 ∧ w'.heap[g]? = some (.cells #[.string t] 9 (0, 0))
            | _ => True)
            (fun | 2 => [1] | 3 => [2] | 5 => [4] | 6 => [5] | 7 => [6] | 9 => [7, 8] | 10 => [9] | 11 => [10] | 12 => [3, 11] | 13 => [12] | _ => []) (by kernel_rfl) (by kernel_rfl) ?_ ⟨?_, ?_, ?_, ?_, ?_, ?_, ?_, ?_, ?_, ?_, ?_, ?_, ?_, ?_, trivial⟩ ?_
          · intro j u w1 w2 hb h
            match j, h with
            | 0, h => exact h
            | 1, h => exact h
            | 2, h => exact h
            | 3, h => exact h
            | 4, h => exact h
            | 5, h => exact h
            | 6, h => exact h
            | 7, h => exact h
            | 8, h => exact h
            | 9, h => exact h
            | 10, h => exact h
            | 11, h => exact h
            | 12, h => exact h
            | 13, h => exact (by obtain ⟨g, h1, h2⟩ := h; exact ⟨g, h1, below_block hb h2⟩)
            | _ + 14, h => trivial
          · intro x w' hb hd
            have hbr : Below wr.heap.size wr w' := (below_drew1 wr).trans hb
            refine owes_here u11 (by rfl) ?_ rfl
            simp only [putAll, List.take_succ_cons, List.take_zero]
            go_simp
          · intro x w' hb hd
            have hbr : Below wr.heap.size wr w' := (below_drew1 wr).trans hb
            refine owes_here (.string (mkB y.1)) (by rfl) ?_ rfl
            simp only [putAll, List.take_succ_cons, List.take_zero]
            go_simp
          · intro x w' hb hd
            have hbr : Below wr.heap.size wr w' := (below_drew1 wr).trans hb
            have k1 : x 1 = .string (mkB y.1) := hd 1 (by simp)
            refine owes_call 78 #[.string (mkB y.1)] (by rfl) ?_ ((HC1.out w' hbr).mono fun e w2 h => ⟨_, h.1, rfl, h.2⟩)
            simp only [putAll, List.take_succ_cons, List.take_zero]
            go_simp
          · intro x w' hb hd
            have hbr : Below wr.heap.size wr w' := (below_drew1 wr).trans hb
            have k1 : x 2 = .string (mkB Q) := hd 2 (by simp)
            refine owes_here (.string (mkB Q ++ ⟨#[58]⟩)) (by rfl) ?_ rfl
            simp only [putAll, List.take_succ_cons, List.take_zero]
            go_simp
          · intro x w' hb hd
            have hbr : Below wr.heap.size wr w' := (below_drew1 wr).trans hb
            refine owes_here (.pointer (some ⟨q, 0, none⟩)) (by rfl) ?_ rfl
            simp only [putAll, List.take_succ_cons, List.take_zero]
            go_simp
          · intro x w' hb hd
            have hbr : Below wr.heap.size wr w' := (below_drew1 wr).trans hb
            have k1 : x 4 = .pointer (some ⟨q, 0, none⟩) := hd 4 (by simp)
            refine owes_here (.pointer (some ⟨q, 0, none⟩)) (by rfl) ?_ rfl
            simp only [putAll, List.take_succ_cons, List.take_zero]
            go_simp
          · intro x w' hb hd
            have hbr : Below wr.heap.size wr w' := (below_drew1 wr).trans hb
            have k1 : x 5 = .pointer (some ⟨q, 0, none⟩) := hd 5 (by simp)
            refine owes_here (.pointer (some ⟨q, 1, none⟩)) (by rfl) ?_ rfl
            simp only [putAll, List.take_succ_cons, List.take_zero]
            go_simp
          · intro x w' hb hd
            have hbr : Below wr.heap.size wr w' := (below_drew1 wr).trans hb
            have k1 : x 6 = .pointer (some ⟨q, 1, none⟩) := hd 6 (by simp)
            have d1 := (hbr.cell (p := ⟨q, 1, none⟩) hqr).trans p1
            refine owes_here (.slice (some ⟨b2, o2, none⟩) l.length c2) (by rfl) ?_ rfl
            simp only [putAll, List.take_succ_cons, List.take_zero]
            go_simp
          · intro x w' hb hd
            have hbr : Below wr.heap.size wr w' := (below_drew1 wr).trans hb
            refine owes_here (.int .i64 (i : Int)) (by rfl) ?_ rfl
            simp only [putAll, List.take_succ_cons, List.take_zero]
            go_simp
          · intro x w' hb hd
            have hbr : Below wr.heap.size wr w' := (below_drew1 wr).trans hb
            have k1 : x 7 = .slice (some ⟨b2, o2, none⟩) l.length c2 := hd 7 (by simp)
            have k2 : x 8 = .int .i64 (i : Int) := hd 8 (by simp)
            refine owes_here (.pointer (some ⟨b2, o2 + i, none⟩)) (by rfl) ?_ rfl
            simp only [putAll, List.take_succ_cons, List.take_zero]
            go_simp
          · intro x w' hb hd
            have hbr : Below wr.heap.size wr w' := (below_drew1 wr).trans hb
            have k1 : x 9 = .pointer (some ⟨b2, o2 + i, none⟩) := hd 9 (by simp)
            have d1 := (hbr.cell (p := ⟨b2, o2 + i, none⟩) hbr2).trans f0
            refine owes_here vx (by rfl) ?_ rfl
            simp only [putAll, List.take_succ_cons, List.take_zero]
            go_simp
          · intro x w' hb hd
            have hbr : Below wr.heap.size wr w' := (below_drew1 wr).trans hb
            have k1 : x 10 = vx := hd 10 (by simp)
            refine owes_call 43 #[vx] (by rfl) ?_ ((HC2.out w' hbr).mono fun e w2 h => ⟨_, h.1, rfl, h.2⟩)
            simp only [putAll, List.take_succ_cons, List.take_zero]
            go_simp
          · intro x w' hb hd
            have hbr : Below wr.heap.size wr w' := (below_drew1 wr).trans hb
            have k1 : x 3 = .string (mkB Q ++ ⟨#[58]⟩) := hd 3 (by simp)
            have k2 : x 11 = .string (mkB X) := hd 11 (by simp)
            have hS := Ht2.out
            refine owes_here (.string t) (by rfl) ?_ rfl
            simp only [putAll, List.take_succ_cons, List.take_zero]
            go_simp
          · intro x w' hb hd
            have hbr : Below wr.heap.size wr w' := (below_drew1 wr).trans hb
            have k1 : x 12 = .string t := hd 12 (by simp)
            refine owes_makes (.slice (some ⟨w'.heap.size, 0, none⟩) 1 1) (w' := w'.alloc (.cells #[.string t] 9)) (by rfl) ?_ (⟨_, rfl, heap_alloc_new w' _⟩) ((Below.refl _ _).alloc (Nat.le_refl _) _)
            simp only [putAll, List.take_succ_cons, List.take_zero]
            go_simp
          · intro x w' hb hR
            have hbr : Below wr.heap.size wr w' := (below_drew1 wr).trans hb
            have k0 : x 0 = u11 := hR 0 (by omega)
            obtain ⟨g, kg1, kg2⟩ : ∃ g, x 13 = .slice (some ⟨g, 0, none⟩) 1 1 ∧ w'.heap[g]? = some (.cells #[.string t] 9 (0, 0)) := hR 13 (by omega)
            have Ho1 := Lib.hid (Hown.out.below stays_string hbr)
            have Hb1 := Lib.hid (Hbel.out.trans (hbr.mono Hbel.out.size))
            have hs1 := Hb1.out.size
            have Hg := Lib.hid kg2
            clear hR hb hbr e0 f0 p1 kg2
            simp only [putAll, List.take_succ_cons, List.take_zero, List.drop_succ_cons, List.drop_zero]
            try simp only [Act.put, List.setIfInBounds_toArray, List.set_cons_zero, List.set_cons_succ]
            go_wp2_with (at_builtin; refine wpList_append_ownAt (R := RString) (k := 1) (e := 9) (B := w.heap.size) (l := O) (m := [t]) _ (by rfl) _ _ _ (by rfl) i0 _ 16 Tryz.underlying28 hi0 hz0 hz1 hz2 rfl (by omega) flat_string one_string _ (by exact k0) Ho1.out _ (by exact kg1) (RowAt.one (R := RString) (k := 1) (cs := #[.string t]) Hg.out rfl rfl) (by unfold maxLen; simp; omega) (by simp; omega) (by omega) ?_)
            intro v' w2 hv' hg hr _
            have hb2 : Below w.heap.size w w2 := below_of_grown Hb1.out hs1 hg hr
            have Hb2 := Lib.hid hb2
            have Hv : Hid (OwnAt RString 1 w2 w.heap.size 9 v' ((l.take (i + 1)).map fun x => mkB (JP.quote x.1 ++ 58 :: JP.text x.2))) := Lib.hid (by rw [Htk.out]; exact hv')
            clear hv' hg hr hb2
            go_wp2_with fail
            go_roundg k
            case measure => omega
            case rel => exact ⟨i + 1, by omega, by go_num, Hv, Hb2⟩
def SoundIHB (n : Nat) : Prop := ∀ (v : Value) (x : JV) (w : World), JvAt n [] w v x → (JP.text x).length ≤ 1099511627776 → Calls Tryz.prog 74 #[v] w fun e w' => e = .returned (.bool (JP.sound x)) ∧ w = w'
set_option maxRecDepth 100000 in
set_option maxHeartbeats 1600000 in
theorem cloSound_big {n : Nat} (ih : SoundIHB n) (v : Value) (x : JV) (w : World) (h : JvAt n [] w v x) (hl : (JP.text x).length ≤ 1099511627776) :
    Calls Tryz.prog 109 #[v] w fun e w' => e = .returned (.bool (!JP.sound x)) ∧ w = w' := by
  have H := Lib.hid (ih v x w h hl)
  obtain ⟨b, hb⟩ : ∃ b, JP.sound x = b := ⟨_, rfl⟩
  rw [hb] at H ⊢
  clear ih h hl hb
  go_enter Tryz.func109, Tryz.ntmps109
  go_wp2_with fail
  refine H.out.mono ?_
  rintro E w1 ⟨rfl, rfl⟩
  go_wp2_with fail
  go_ret
  exact ⟨rfl, rfl⟩
set_option maxRecDepth 100000 in
set_option maxHeartbeats 3200000 in
theorem idxSound_big {n : Nat} (ih : SoundIHB n) (v : Value) (l : List JV) (w : World) (h : RowAt (JvR n []) 1 w v l) (hl : l.length ≤ 1099511627776) (hx : ∀ x ∈ l, (JP.text x).length ≤ 1099511627776) :
    Calls Tryz.prog 150 #[v, .func (.func 109) #[] #[]] w fun e w' => (∃ i : Int, e = .returned (.int .i64 i) ∧ (decide (0 ≤ i) = l.any fun x => !JP.sound x)) ∧ w = w' := by
  obtain ⟨a1, c1, rfl, _, _⟩ := h.len
  have H := Lib.hid h
  have Hx := Lib.hid hx
  have HC := Lib.hid (fun v x w h hl => cloSound_big ih v x w h hl)
  clear h hx ih
  go_enter Tryz.func150, Tryz.ntmps150
  go_wp2_with fail
  go_loopg [8] l.length (fun g u8 wr => ∃ i : Nat, i + g = l.length ∧ u8 = .int .i64 (i : Int) ∧ Hid (∀ x ∈ l.take i, (!JP.sound x) = false) ∧ w = wr)
  case atStart => exact ⟨0, by omega, rfl, Lib.hid (fun x hx => by simp at hx), rfl⟩
  case round =>
    obtain ⟨i, hig, rfl, Hall, rfl⟩ := hrel
    cases gk with
    | zero =>
      obtain rfl : i = l.length := by omega
      have Hany : Hid (decide ((0 : Int) ≤ -1) = l.any fun x => !JP.sound x) := by
        refine Lib.hid ?_
        rw [decide_eq_false (by omega), eq_comm, List.any_eq_false]
        intro x hx
        have := Hall.out x (by rw [List.take_of_length_le (Nat.le_refl _)]; exact hx)
        rw [this]; decide
      clear hig
      go_wp2_with fail
      go_ret
      exact ⟨⟨-1, rfl, Hany.out⟩, rfl⟩
    | succ g =>
      have hil : i < l.length := by omega
      obtain ⟨x, hxi⟩ : ∃ x, l[i]? = some x := ⟨l[i]'(by omega), List.getElem?_eq_getElem _⟩
      obtain ⟨b, o, c', hv, _, _, hbs, hcell⟩ := H.out.form (by omega) (by omega)
      cases hv
      obtain ⟨ds, _, hcc, vx, rfl, hvx⟩ := hcell i x hxi
      have e0 : w.cell? ⟨b, o + i, none⟩ = some vx := by simpa using hcc 0 _ rfl
      have q1 : (0 : Int) ≤ (i : Int) := by omega
      have q2 : (i : Int) < (l.length : Int) := by omega
      have Hxi := Lib.hid hxi
      have HC1 := Lib.hid (HC.out vx x w hvx (Hx.out x (List.mem_of_getElem? hxi)))
      clear hcc hcell hvx hxi
      obtain ⟨pb, Hpb⟩ : ∃ pb, Hid ((!JP.sound x) = pb) := ⟨_, Lib.hid rfl⟩
      have h9 := HC1.out
      rw [Hpb.out] at h9
      have HC2 := Lib.hid h9
      clear h9 HC1
      go_wp2_with fail
      refine HC2.out.mono ?_
      rintro E w1 ⟨rfl, rfl⟩
      cases pb with
      | true =>
        have Hany : Hid (decide ((0 : Int) ≤ (i : Int)) = l.any fun x => !JP.sound x) := by
          refine Lib.hid ?_
          rw [decide_eq_true (by omega), eq_comm, List.any_eq_true]
          exact ⟨x, List.mem_of_getElem? Hxi.out, Hpb.out⟩
        go_wp2_with fail
        go_ret
        exact ⟨⟨_, rfl, Hany.out⟩, rfl⟩
      | false =>
        have Hall2 : Hid (∀ x ∈ l.take (i + 1), (!JP.sound x) = false) := Lib.hid fun y hy => by
          rw [List.take_add_one, Hxi.out] at hy
          rcases List.mem_append.1 hy with h | h
          · exact Hall.out y h
          · have h9 : y = x := by simpa using h
            rw [h9]; exact Hpb.out
        go_wp2_with fail
        go_roundg g
        case measure => omega
        case rel => exact ⟨i + 1, by omega, by go_num, Hall2, rfl⟩
set_option maxRecDepth 100000 in
set_option maxHeartbeats 1600000 in
theorem anySound_big {n : Nat} (ih : SoundIHB n) (v : Value) (l : List JV) (w : World) (h : RowAt (JvR n []) 1 w v l) (hl : l.length ≤ 1099511627776) (hx : ∀ x ∈ l, (JP.text x).length ≤ 1099511627776) :
    Calls Tryz.prog 108 #[v, .func (.func 109) #[] #[]] w fun e w' => e = .returned (.bool (!JP.soundL l)) ∧ w = w' := by
  have H := Lib.hid (idxSound_big ih v l w h hl hx)
  obtain ⟨B, HB⟩ : ∃ B, Hid ((!JP.soundL l) = B) := ⟨_, Lib.hid rfl⟩
  have HB2 : Hid ((l.any fun x => !JP.sound x) = B) := Lib.hid (by rw [← HB.out, JP.soundL_any, Bool.not_not])
  rw [HB.out]
  clear h ih hx
  go_enter Tryz.func108, Tryz.ntmps108
  go_wp2_with fail
  refine H.out.mono ?_
  rintro E w1 ⟨⟨i, rfl, hn⟩, rfl⟩
  rw [HB2.out] at hn
  have Hn := Lib.hid hn
  clear hn H
  go_wp2_with fail
  go_ret
  exact ⟨congrArg (fun b => Ending.returned (Value.bool b)) Hn.out, rfl⟩
set_option maxRecDepth 100000 in
set_option maxHeartbeats 6400000 in
theorem sound_big : ∀ (n : Nat), SoundIHB n := by
  intro n
  induction n with
  | zero => intro v x w h; cases h
  | succ n ih =>
    intro v x w h hlen
    have IH := Lib.hid ih
    clear ih
    cases x with
    | nul =>
      obtain rfl : v = .nilIface := h
      obtain ⟨g1, g2, g3, g4, g5⟩ := as_nil
      clear hlen
      go_enter Tryz.func74, Tryz.ntmps74
      go_wp2_with fail
      go_ret
      exact ⟨ret_bool2 (by rw [JP.sound]), rfl⟩
    | bool b =>
      obtain rfl : v = .iface 4 (.bool b) := h
      obtain ⟨g1, g2, g3, g4, g5⟩ := as_bool (.bool b)
      clear hlen
      go_enter Tryz.func74, Tryz.ntmps74
      go_wp2_with fail
      go_ret
      exact ⟨ret_bool2 (by rw [JP.sound]), rfl⟩
    | num k =>
      obtain ⟨rfl, _, _⟩ := h
      obtain ⟨g1, g2, g3, g4, g5⟩ := as_int64 (.int .i64 k)
      clear hlen
      go_enter Tryz.func74, Tryz.ntmps74
      go_wp2_with fail
      go_ret
      exact ⟨ret_bool2 (by rw [JP.sound]), rfl⟩
    | str s =>
      obtain rfl : v = .iface 9 (.string (mkB s)) := h
      obtain ⟨g1, g2, g3, g4, g5⟩ := as_string (.string (mkB s))
      have hsz : (mkB s).size ≤ 1099511627776 := by
        rw [mkB_size]
        have := quote_size s
        rw [JP.text] at hlen
        omega
      have HS := stands_big (mkB s) w hsz
      rw [mkB_list] at HS
      obtain ⟨b, hb⟩ : ∃ b, s.all JP.stand = b := ⟨_, rfl⟩
      rw [hb] at HS
      have HS := Lib.hid HS
      have Hb := Lib.hid hb
      clear hlen hb hsz
      go_enter Tryz.func74, Tryz.ntmps74
      go_wp2_with fail
      refine HS.out.mono ?_
      rintro E w1 ⟨rfl, rfl⟩
      go_wp2_with fail
      go_ret
      exact ⟨ret_bool2 (by rw [JP.sound]; exact Hb.out.symm), rfl⟩
    | list L =>
      obtain ⟨u, rfl, hrow, _⟩ := h
      obtain ⟨a, c, rfl, _, _⟩ := hrow.len
      obtain ⟨g1, g2, g3, g4, g5⟩ := as_list (.slice a L.length c)
      have hll := lenL_text L
      have hln := lenL_len L
      have HA := anySound_big IH.out _ L w hrow (by omega) (fun x hx => by have := lenL_mem hx; omega)
      obtain ⟨b, hb⟩ : ∃ b, JP.soundL L = b := ⟨_, rfl⟩
      rw [hb] at HA
      have HA := Lib.hid HA
      have Hb := Lib.hid hb
      clear hlen hb hll hrow
      go_enter Tryz.func74, Tryz.ntmps74
      go_wp2_with fail
      refine HA.out.mono ?_
      rintro E w1 ⟨rfl, rfl⟩
      go_wp2_with fail
      go_ret
      exact ⟨ret_bool2 (by rw [JP.sound]; exact Hb.out.symm), rfl⟩
    | obj l =>
      obtain ⟨q, rfl, _, _, vn, vv, cn, cv, hrn, _, hrv, _⟩ := h
      obtain ⟨a1, c1, hu1, _, _⟩ := hrn.len
      obtain ⟨a2, c2, hu2, _, _⟩ := hrv.len
      obtain ⟨ln, hln⟩ : ∃ ln, l.length = ln := ⟨_, rfl⟩
      rw [List.length_map, hln] at hu1 hu2
      subst hu1
      subst hu2
      obtain ⟨g1, g2, g3, g4, g5⟩ := as_obj (.pointer (some ⟨q, 0, none⟩))
      have hll := lenF_text l
      have hln2 := lenF_len l
      have hlb : ln ≤ 1099511627776 := by omega
      have Hln := Lib.hid hln
      have Hrn := Lib.hid hrn
      have Hrv := Lib.hid hrv
      have Hlen := Lib.hid (fun x (hx : x ∈ l) => (show x.1.length ≤ 1099511627776 ∧ (JP.text x.2).length ≤ 1099511627776 from by
        have h1 := lenF_mem hx
        have h2 := quote_size x.1
        omega))
      have HS : Hid (JP.sound (.obj l) = l.all fun x => x.1.all JP.stand && JP.sound x.2) := Lib.hid (by rw [JP.sound, JP.soundF_all])
      clear hlen hll hln2 hrn hrv hln
      go_enter Tryz.func74, Tryz.ntmps74
      go_wp2_with fail
      go_loopg [28] ln (fun k u28 wr => ∃ i : Nat, i + k = ln ∧ u28 = .int .i64 (i : Int) ∧ Hid ((l.take i).all (fun x => x.1.all JP.stand && JP.sound x.2) = true) ∧ w = wr)
      case atStart => exact ⟨0, by omega, rfl, Lib.hid rfl, rfl⟩
      case round =>
        obtain ⟨i, hik, rfl, Hall, rfl⟩ := hrel
        cases gk with
        | zero =>
          have hall := Hall.out
          rw [List.take_of_length_le (by rw [Hln.out]; omega)] at hall
          have Ha := Lib.hid hall
          have q1 : ¬ (i : Int) < (ln : Int) := by omega
          clear hall hik
          go_wp2_with fail
          go_ret
          exact ⟨ret_bool2 (by rw [HS.out]; exact Ha.out.symm), rfl⟩
        | succ k =>
          have hil : i < ln := by omega
          obtain ⟨y, hy⟩ : ∃ y, l[i]? = some y := ⟨l[i]'(by rw [Hln.out]; exact hil), List.getElem?_eq_getElem _⟩
          have hlm := Hlen.out y (List.mem_of_getElem? hy)
          obtain ⟨b1, o1, c', hv1, _, _, hbs1, hcell1⟩ := Hrn.out.form (by rw [List.length_map, Hln.out]; omega) (by omega)
          injection hv1 with u1 u2 u3
          subst u1
          clear u2 u3
          obtain ⟨ds1, _, hcc1, hR1⟩ := hcell1 i (mkB y.1) (by rw [List.getElem?_map, hy]; rfl)
          obtain rfl : ds1 = [.string (mkB y.1)] := hR1
          have e0 : w.cell? ⟨b1, o1 + i, none⟩ = some (.string (mkB y.1)) := by simpa using hcc1 0 _ rfl
          obtain ⟨b2, o2, c'', hv2, _, _, hbs2, hcell2⟩ := Hrv.out.form (by rw [List.length_map, Hln.out]; omega) (by omega)
          injection hv2 with u1 u2 u3
          subst u1
          clear u2 u3
          obtain ⟨ds2, _, hcc2, vx, rfl, hvx⟩ := hcell2 i y.2 (by rw [List.getElem?_map, hy]; rfl)
          have e1 : w.cell? ⟨b2, o2 + i, none⟩ = some vx := by simpa using hcc2 0 _ rfl
          have q1 : (0 : Int) ≤ (i : Int) := by omega
          have q2 : (i : Int) < (ln : Int) := by omega
          have hST := stands_big (mkB y.1) w (by rw [mkB_size]; exact hlm.1)
          rw [mkB_list] at hST
          have hSO := IH.out vx y.2 w hvx hlm.2
          obtain ⟨p1, hp1⟩ : ∃ p, y.1.all JP.stand = p := ⟨_, rfl⟩
          obtain ⟨p2, hp2⟩ : ∃ p, JP.sound y.2 = p := ⟨_, rfl⟩
          rw [hp1] at hST
          rw [hp2] at hSO
          have HST := Lib.hid hST
          have HSO := Lib.hid hSO
          have Hy := Lib.hid hy
          have Hp : Hid ((y.1.all JP.stand && JP.sound y.2) = (p1 && p2)) := Lib.hid (by rw [hp1, hp2])
          clear hcell1 hcell2 hcc1 hcc2 hvx hy hp1 hp2 hST hSO hlm
          cases p1 with
          | false =>
            go_wp2_with fail
            refine HST.out.mono ?_
            rintro E w1 ⟨rfl, rfl⟩
            go_wp2_with fail
            go_ret
            exact ⟨ret_bool2 (by rw [HS.out]; exact (not_all_of Hy.out Hp.out).symm), rfl⟩
          | true =>
            go_wp2_with fail
            refine HST.out.mono ?_
            rintro E w1 ⟨rfl, rfl⟩
            go_wp2_with fail
            refine HSO.out.mono ?_
            rintro E w1 ⟨rfl, rfl⟩
            cases p2 with
            | false =>
              go_wp2_with fail
              go_ret
              exact ⟨ret_bool2 (by rw [HS.out]; exact (not_all_of Hy.out Hp.out).symm), rfl⟩
            | true =>
              have HA2 := Lib.hid (all_take_of Hall.out Hy.out Hp.out)
              go_wp2_with fail
              go_roundg k
              case measure => omega
              case rel => exact ⟨i + 1, by omega, by go_num, HA2, rfl⟩
set_option maxRecDepth 100000 in
set_option maxHeartbeats 3200000 in
theorem tell_big (n : Nat) (v : Value) (x : JV) (w : World) (h : JvAt n [] w v x) (hl : (JP.text x).length ≤ 1099511627776) (hl2 : JP.size x ≤ 200 → (JP.text x).length ≤ 1073741824) (hz : JP.size x ≤ 4194304) (ht : TabOK w) :
    Calls Tryz.prog 39 #[v] w fun e w' => e = .returned (.tuple #[.string (mkB (JP.tellT x)), .int .i64 (JP.tellE x)]) ∧ Below w.heap.size w w' := by
  have HZ := size_any n v x w h hz
  have HS := sound_big n v x w h hl
  have ht0 : JP.size x ≤ 200 → _ := fun h9 => text_big n v x w h (hl2 h9) ht
  obtain ⟨S, hS⟩ : ∃ S, JP.sound x = S := ⟨_, rfl⟩
  obtain ⟨M, hM⟩ : ∃ S, JP.size x = S := ⟨_, rfl⟩
  obtain ⟨D, hD⟩ : ∃ S, JP.deep x = S := ⟨_, rfl⟩
  rw [hM, hD] at HZ
  rw [hM] at ht0
  have HT0 := Lib.hid ht0
  clear ht0 hl2
  rw [hS] at HS
  have HZ := Lib.hid HZ
  have HS := Lib.hid HS
  obtain ⟨E0, hE⟩ : ∃ T, JP.tellE x = T := ⟨_, rfl⟩
  obtain ⟨T0, hT⟩ : ∃ T, JP.tellT x = T := ⟨_, rfl⟩
  rw [hE, hT]
  have HE : Hid (E0 = if S = false then 16 else if 10 < D then 4 else if 200 < M then 2 else if 2000 < (JP.text x).length then 2 else 0) := Lib.hid (by rw [← hE, ← hS, ← hM, ← hD]; rfl)
  have HTT : Hid (T0 = if E0 = 0 then JP.text x else []) := Lib.hid (by rw [← hE, ← hT]; rfl)
  clear hS hM hD hE hT ht h
  have no : ∀ e : Int, E0 = e → e ≠ 0 → mkB T0 = ByteArray.empty := fun e h1 h2 => by
    rw [HTT.out, if_neg (by rw [h1]; exact h2)]; rfl
  have No := Lib.hid no
  clear no
  cases S with
  | false =>
    have He : Hid (E0 = 16) := Lib.hid (HE.out.trans (if_pos rfl))
    go_enter Tryz.func39, Tryz.ntmps39
    go_wp2_with fail
    refine HZ.out.mono ?_
    rintro E w1 ⟨rfl, rfl⟩
    go_wp2_with fail
    refine HS.out.mono ?_
    rintro E w1 ⟨rfl, rfl⟩
    go_wp2_with fail
    go_ret2
    exact ⟨ret_tell (No.out 16 He.out (by decide)) He.out.symm, Below.refl _ _⟩
  | true =>
    have HE1 : Hid (E0 = if 10 < D then 4 else if 200 < M then 2 else if 2000 < (JP.text x).length then 2 else 0) := Lib.hid (HE.out.trans (if_neg (by decide)))
    clear HE
    by_cases hd : 10 < D
    · have He : Hid (E0 = 4) := Lib.hid (HE1.out.trans (if_pos hd))
      have p1 : (10 : Int) < (D : Int) := by omega
      clear hd
      go_enter Tryz.func39, Tryz.ntmps39
      go_wp2_with fail
      refine HZ.out.mono ?_
      rintro E w1 ⟨rfl, rfl⟩
      go_wp2_with fail
      refine HS.out.mono ?_
      rintro E w1 ⟨rfl, rfl⟩
      go_wp2_with fail
      go_ret2
      exact ⟨ret_tell (No.out 4 He.out (by decide)) He.out.symm, Below.refl _ _⟩
    have p1 : ¬ (10 : Int) < (D : Int) := by omega
    have HE2 : Hid (E0 = if 200 < M then 2 else if 2000 < (JP.text x).length then 2 else 0) := Lib.hid (HE1.out.trans (if_neg hd))
    clear HE1 hd
    by_cases hm : 200 < M
    · have He : Hid (E0 = 2) := Lib.hid (HE2.out.trans (if_pos hm))
      have p2 : (200 : Int) < (M : Int) := by omega
      clear hm
      go_enter Tryz.func39, Tryz.ntmps39
      go_wp2_with fail
      refine HZ.out.mono ?_
      rintro E w1 ⟨rfl, rfl⟩
      go_wp2_with fail
      refine HS.out.mono ?_
      rintro E w1 ⟨rfl, rfl⟩
      go_wp2_with fail
      go_ret2
      exact ⟨ret_tell (No.out 2 He.out (by decide)) He.out.symm, Below.refl _ _⟩
    have p2 : ¬ (200 : Int) < (M : Int) := by omega
    have HE3 : Hid (E0 = if 2000 < (JP.text x).length then 2 else 0) := Lib.hid (HE2.out.trans (if_neg hm))
    have HT := Lib.hid (HT0.out (by omega))
    clear HE2 hm HT0
    obtain ⟨T, hT⟩ : ∃ T, JP.text x = T := ⟨_, rfl⟩
    rw [hT] at HE3 HT HTT hl
    have hsz := mkB_size T
    by_cases hlg : 2000 < T.length
    · have He : Hid (E0 = 2) := Lib.hid (HE3.out.trans (if_pos hlg))
      have p3 : (2000 : Int) < ((mkB T).size : Int) := by omega
      clear hlg hsz hT
      go_enter Tryz.func39, Tryz.ntmps39
      go_wp2_with fail
      refine HZ.out.mono ?_
      rintro E w1 ⟨rfl, rfl⟩
      go_wp2_with fail
      refine HS.out.mono ?_
      rintro E w1 ⟨rfl, rfl⟩
      go_wp2_with fail
      refine HT.out.mono ?_
      rintro E w1 ⟨rfl, hb⟩
      have HB := Lib.hid hb
      clear hb
      go_wp2_with fail
      go_ret2
      exact ⟨ret_tell (No.out 2 He.out (by decide)) He.out.symm, HB.out⟩
    · have He : Hid (E0 = 0) := Lib.hid (HE3.out.trans (if_neg hlg))
      have p3 : ¬ (2000 : Int) < ((mkB T).size : Int) := by omega
      have HTx : Hid (T0 = T) := Lib.hid (by rw [HTT.out, if_pos He.out])
      clear hlg hsz hT
      go_enter Tryz.func39, Tryz.ntmps39
      go_wp2_with fail
      refine HZ.out.mono ?_
      rintro E w1 ⟨rfl, rfl⟩
      go_wp2_with fail
      refine HS.out.mono ?_
      rintro E w1 ⟨rfl, rfl⟩
      go_wp2_with fail
      refine HT.out.mono ?_
      rintro E w1 ⟨rfl, hb⟩
      have HB := Lib.hid hb
      clear hb
      go_wp2_with fail
      go_ret2
      exact ⟨ret_tell (by rw [HTx.out]) He.out.symm, HB.out⟩
end Go.Proofs.YtdcmnpeabjallaaGreatDoor
namespace Go.Proofs.YtdcmnpeabjallaaGreatDoor
open Go.RowKit
open JP (JV Bs Lf)
set_option maxRecDepth 100000 in
set_option maxHeartbeats 1600000 in
theorem apply1_any {g6 : Nat} {v : Value} (l : List GOwned) (w : World) (h : RowAt OwnedR 2 w v l) (hl : l.length ≤ 1048576) (hz : ∀ x ∈ l, x.manager.size ≤ 1048576 ∧ x.paths.length ≤ 1048576 ∧ ∀ p ∈ x.paths, p.size ≤ 1048576) (hm : ∃ m, MaxOK m w) (hg : w.heap[g6]? = some (.cells #[v] 22 (0, 0))) :
    Calls Tryz.prog 27 #[.pointer (some ⟨g6, 0, none⟩)] w (ChkP (JP.GoodO (l.map oP)) w) := by
  have HC := Lib.hid (check_owned_any v l w h hl hz hm)
  obtain ⟨a1, c1, rfl, -, -⟩ := h.len
  have cc := fun i => cell_block hg i
  clear h hl hz hm hg
  go_enter Tryz.func27, Tryz.ntmps27
  go_wp2_with fail
  refine HC.out.mono ?_
  rintro E w1 ⟨z, rfl, h1, h2, h3⟩
  have H1 := Lib.hid h1
  have H2 := Lib.hid h2
  have H3 := Lib.hid h3
  clear h1 h2 h3 cc
  go_wp2_with fail
  go_ret
  exact ⟨z, rfl, H1.out, H2.out, H3.out⟩
set_option maxRecDepth 100000 in
set_option maxHeartbeats 1600000 in
theorem apply2_any {g7 : Nat} (m : ByteArray) (w : World) (hs : m.size ≤ 1048576) (hg : w.heap[g7]? = some (.cells #[.string m] 9 (0, 0))) :
    Calls Tryz.prog 28 #[.pointer (some ⟨g7, 0, none⟩)] w fun e w' => e = .returned (.int .i64 (NameP.check m.data.toList)) ∧ w = w' := by
  have HC := Lib.hid (check_any m w (by omega))
  have cc := fun i => cell_block hg i
  clear hg
  go_enter Tryz.func28, Tryz.ntmps28
  go_wp2_with fail
  refine HC.out.mono ?_
  rintro E w1 ⟨rfl, rfl⟩
  go_wp2_with fail
  go_ret
  exact ⟨rfl, rfl⟩
def ReadTo (g16 : Nat) (s : Bs) (w : World) (e : Ending) (w' : World) : Prop := e = .returned (.int .i64 (JP.readL s).2) ∧ (∃ wv, w'.heap[g16]? = some (.cells #[wv] 47 (0, 0)) ∧ ∃ n, JvAt n [] w' wv (JP.readL s).1) ∧ Only g16 (g16 + 1) w w'
theorem read_stored {g16 n : Nat} {s : Bs} {R : JV × Int} {w w1 : World} {v0 v1 : Value} (hR : JP.readL s = R) (hb : Below w.heap.size w w1) (h : w.heap[g16]? = some (.cells #[v0] 47 (0, 0))) (hj : JvAt n [g16] w1 v1 R.1) : ReadTo g16 s w (.returned (.int .i64 R.2)) (w1.setCell ⟨g16, 0, none⟩ v1) := by
  obtain ⟨t1, t2⟩ := touch_setCell (i := 0) (v := v1) (below_block hb h)
  subst hR
  refine ⟨rfl, ⟨v1, t1, n, (hj.keepT ⟨t2.os, t2.tape, t2.output, by rw [t2.size]; exact Nat.le_refl _, fun b _ hn => t2.other b (fun e => hn (by rw [e]; exact List.mem_singleton.2 rfl))⟩).fresh (T' := []) fun b hb => by cases hb⟩, ?_⟩
  exact (Only.of hb).trans ⟨t2.os, t2.tape, t2.output, by rw [t2.size]; exact Nat.le_refl _, fun k _ ho => t2.other k (by omega)⟩
set_option maxRecDepth 100000 in
set_option maxHeartbeats 1600000 in
theorem apply3_any {g8 g16 : Nat} {v0 : Value} (s : ByteArray) (w : World) (hs : s.size ≤ 1048576) (h8 : w.heap[g8]? = some (.cells #[.string s] 9 (0, 0))) (h16 : w.heap[g16]? = some (.cells #[v0] 47 (0, 0))) :
    Calls Tryz.prog 30 #[.pointer (some ⟨g8, 0, none⟩), .pointer (some ⟨g16, 0, none⟩)] w (ReadTo g16 s.data.toList w) := by
  have HC := Lib.hid (read_low s w hs)
  have cc := fun i => cell_block h8 i
  have hlt : g16 < w.heap.size := by
    rcases Nat.lt_or_ge g16 w.heap.size with h1 | h1
    · exact h1
    · rw [Array.getElem?_eq_none h1] at h16; cases h16
  have H16 := Lib.hid h16
  obtain ⟨R, hR⟩ : ∃ R, JP.readL s.data.toList = R := ⟨_, rfl⟩
  rw [hR] at HC
  have HR := Lib.hid hR
  clear h8 h16 hR
  go_enter Tryz.func30, Tryz.ntmps30
  go_wp2_with fail
  refine HC.out.mono ?_
  rintro E w1 ⟨v1, rfl, ⟨n, hj⟩, hb⟩
  have hjt := hj [g16] (fun b hb => by rw [List.mem_singleton.1 hb]; exact hlt)
  have hvf := jv_form hjt
  have b1 := below_block hb H16.out
  have HJ := Lib.hid hjt
  have HB := Lib.hid hb
  have B1 := Lib.hid b1
  have dd := fun i => cell_block b1 i
  have ff := fun i => free_block b1 i
  clear hj hjt hb b1 cc
  rcases hvf with rfl | ⟨vt, vu, rfl⟩
  all_goals
    go_wp2_with fail
    go_ret
    refine read_stored HR.out HB.out H16.out HJ.out
end Go.Proofs.YtdcmnpeabjallaaGreatDoor
namespace Go.Proofs.YtdcmnpeabjallaaGreatDoor
open Go.RowKit Go.MapKept Go.ChangeMaps
open JP (JV Bs Lf)
theorem results_tmp4 {fn : Func} {t u v x : Tmp} (h : fn.results = #[.tmp t, .tmp u, .tmp v, .tmp x]) (tmps : Array Value) (P : Program) (w : World) :
    (results fn tmps).run P w = .ok (.tuple #[tmps.getD t undef, tmps.getD u undef, tmps.getD v undef, tmps.getD x undef]) w := by
  simp [results, h]
def AppliedTo (live : Bs) (l : List JP.OwnP) (m want : Bs) (force : Bool) (w : World) (e : Ending) (w' : World) : Prop :=
  ∃ (s : Bs) (vL vb : Value) (L : List JP.OwnP) (bad : List Bs) (er : Int) (wl : World), e = .returned (.tuple #[.string (mkB s), vL, vb, .int .i64 er]) ∧ JP.ApplyIs live l m want force s L bad er ∧
    OwnAt (OwnedX w.heap.size wl) 2 w' w.heap.size 30 vL L ∧ Below wl.heap.size wl w' ∧ OwnAt RString 1 w' w.heap.size 9 vb (bad.map mkB) ∧ Below w.heap.size w w' ∧ ((JP.readL live).2 = 0 → JP.GoodO l → NameP.check m = 0 → (JP.readL want).2 = 0 → ¬ (JP.kind (JP.readL live).1 = 6 ∧ JP.kind (JP.readL want).1 = 6) → er = 8)
def AskedTo (live : Bs) (l : List JP.OwnP) (m want : Bs) (i : Nat) : Prop := (JP.readL live).2 = 0 ∧ (1 ≤ i → JP.GoodO l) ∧ (2 ≤ i → NameP.check m = 0) ∧ (3 ≤ i → (JP.readL want).2 = 0)
theorem apply_no {live want : Bs} {l : List JP.OwnP} {m : Bs} {force : Bool} {w w' : World} {er : Int} (h0 : er ≠ 0) (h1 : er ≠ 11) (hm : ∀ W, JP.AppOK live want l m → JP.IsLeaves W (JP.readL want).1 → (JP.confL (JP.readL live).1 l m W = [] ∨ force = true) → (JP.finL (JP.readL live).1 l m W).length ≤ 6 → JP.tellE (JP.outV (JP.readL live).1 l m W) = 0 → False) (hb : Below w.heap.size w w') (hk : (JP.readL live).2 = 0 → JP.GoodO l → NameP.check m = 0 → (JP.readL want).2 = 0 → ¬ (JP.kind (JP.readL live).1 = 6 ∧ JP.kind (JP.readL want).1 = 6) → er = 8) :
    AppliedTo live l m want force w (.returned (.tuple #[.string (mkB []), .slice none 0 0, .slice none 0 0, .int .i64 er])) w' :=
  ⟨[], _, _, [], [], er, w', rfl, ⟨fun _ => ⟨rfl, rfl⟩, fun h => h.elim (fun h => absurd rfl h) fun h => absurd h h1, fun h => absurd h h0, fun W a b c d e => (hm W a b c d e).elim⟩, OwnAt.nil _, Below.refl _ _, OwnAt.nil _, hb, hk⟩
def blkOf (v : Value) : List Nat := match v.ownBlock with
  | some q => [q]
  | none => []
theorem blkOf_mem {v : Value} {b : Nat} : b ∈ blkOf v ↔ v.ownBlock = some b := by
  unfold blkOf
  cases v.ownBlock with
  | none => simp
  | some q =>
    rw [List.mem_singleton]
    exact ⟨fun e => by rw [e], fun e => (Option.some.inj e).symm⟩
theorem jv_appended {n : Nat} {u v v' : Value} {x : JV} {w w' : World} (h : JvAt n (blkOf u) w v x) (hg : w.grownBy w' u.ownBlock) (hl : v'.ownBlock = u.ownBlock ∨ v'.ownBlock = some w.heap.size) : JvAt n (blkOf v') w' v x := by
  have h1 : JvAt n (w.heap.size :: blkOf u) w v x := h.fresh fun b hb => by
    rcases List.mem_cons.1 hb with rfl | hb
    · exact .inr (Nat.le_refl _)
    · exact .inl hb
  have h2 : JvAt n (w.heap.size :: blkOf u) w' v x := h1.keepT ⟨hg.os, hg.tape, hg.output, hg.size, fun b hb hn => hg.block b hb fun e => hn (List.mem_cons_of_mem _ (blkOf_mem.2 e.symm))⟩
  refine h2.fresh fun b hb => .inl ?_
  have h3 := blkOf_mem.1 hb
  rcases hl with h4 | h4
  · rw [h4] at h3
    exact List.mem_cons_of_mem _ (blkOf_mem.2 h3)
  · rw [h4] at h3
    rw [← Option.some.inj h3]
    exact List.mem_cons_self ..
theorem apply_clash {live want : Bs} {l : List JP.OwnP} {m : Bs} {force : Bool} {w w' : World} {W C : List Leaf} {vb : Value} (hA : JP.AppOK live want l m) (hI : JP.IsLeaves W (JP.readL want).1) (hC : JP.confL (JP.readL live).1 l m W = C) (hne : C ≠ []) (hf : force = false) (hv : OwnAt RString 1 w' w.heap.size 9 vb ((C.map JP.pathL).map mkB)) (hb : Below w.heap.size w w') :
    AppliedTo live l m want force w (.returned (.tuple #[.string (mkB []), .slice none 0 0, vb, .int .i64 11])) w' := by
  have hne2 : C.map JP.pathL ≠ [] := fun e => hne (List.map_eq_nil_iff.1 e)
  refine ⟨[], _, _, [], C.map JP.pathL, 11, w', rfl, ⟨fun _ => ⟨rfl, rfl⟩, fun _ => ⟨rfl, hf, hA, W, hI, by rw [hC], hne2⟩, fun h => absurd h (by decide), fun V a b c d e => ?_⟩, OwnAt.nil _, Below.refl _ _, hv, hb, fun _ _ _ _ h => (h ⟨hA.2.2.2.2.1, hA.2.2.2.2.2⟩).elim⟩
  have := JP.leaves_one b hI
  subst this
  rw [hC, hf] at c
  rcases c with c | c
  · exact absurd c hne
  · cases c
theorem apply_yes {live want : Bs} {l L : List JP.OwnP} {m : Bs} {force : Bool} {w w' wl : World} {W : List Leaf} {vL : Value} {lo B : Nat} {t : Bs} (hA : JP.AppOK live want l m) (hI : JP.IsLeaves W (JP.readL want).1) (hgo : JP.confL (JP.readL live).1 l m W = [] ∨ force = true) (hL : L = JP.finL (JP.readL live).1 l m W) (h6 : L.length ≤ 6)
    (ht : JP.tellE (JP.outV (JP.readL live).1 l m W) = 0) (htt : t = JP.tellT (JP.outV (JP.readL live).1 l m W)) (hlo : w.heap.size ≤ lo) (hown : OwnAt (OwnedX lo wl) 2 w' B 30 vL L) (hB : w.heap.size ≤ B) (hwl : Below wl.heap.size wl w') (hb : Below w.heap.size w w') :
    AppliedTo live l m want force w (.returned (.tuple #[.string (mkB t), vL, .slice none 0 0, .int .i64 0])) w' := by
  refine ⟨t, vL, _, L, [], 0, wl, rfl, ⟨fun h => absurd rfl h, fun h => h.elim (fun h => absurd rfl h) fun h => absurd h (by decide), fun _ => ⟨hA, W, hI, hgo, by rw [← hL]; exact h6, ht, htt, hL⟩, fun _ _ _ _ _ _ => rfl⟩, ?_, hwl, OwnAt.nil _, hb, fun _ _ _ _ h => (h ⟨hA.2.2.2.2.1, hA.2.2.2.2.2⟩).elim⟩
  have h1 := hown.mono hB
  obtain ⟨css, h2, h3, h4, h5⟩ := h1
  exact ⟨css, h2, h3, h4, fun j cs y hcs hy => let ⟨v1, e1, e2⟩ := h5 j cs y hcs hy; ⟨v1, e1, e2.mono hlo⟩⟩
theorem keeps_turned {w w' : World} {b : Nat} (h : w.mapTurned w' b) : Keeps w w' := fun p v hp => by
  by_cases e : p.block = b
  · obtain ⟨es, clock, _, _, hb, _⟩ := h
    simp [World.cell?, e, hb] at hp
  · rw [World.cell?_of_block (turned_block h e)]; exact hp
theorem deal_turned {w w' : World} {g b n : Nat} {lv mv lf : Value} {m : Bs} {F : KB → Option Value} (h9 : DealAt w g lv mv m lf) (hm : MapS Tryz.prog 9 w b n F) (ht : w.mapTurned w' b) : DealAt w' g lv mv m lf := by
  unfold DealAt at h9 ⊢
  rw [turned_block ht (fun e => by
    rw [e] at h9
    obtain ⟨es, ck, h8⟩ := hm.isMap
    rw [h8] at h9; cases h9)]
  exact h9
structure AskAt (live : Bs) (l : List JP.OwnP) (m want : Bs) (g16 : Nat) (w4 : World) (i : Nat) (z : Int) (wr : World) : Prop where
  iff : z = 0 ↔ AskedTo live l m want i
  ne : z ≠ 11
  only : Only g16 (g16 + 1) w4 wr
  cell : ∃ wv, wr.heap[g16]? = some (.cells #[wv] 47 (0, 0)) ∧ (i = 3 → z = 0 → ∃ n, JvAt n [] wr wv (JP.readL want).1)
section
variable {live want m : Bs} {l : List JP.OwnP} {g16 i : Nat} {w4 wr w' : World} {z z' : Int}
theorem AskedTo.less (h : AskedTo live l m want (i + 1)) : AskedTo live l m want i := ⟨h.1, fun k => h.2.1 (by omega), fun k => h.2.2.1 (by omega), fun k => h.2.2.2 (by omega)⟩
theorem AskAt.skip (h : AskAt live l m want g16 w4 i z wr) (hz : z ≠ 0) : AskAt live l m want g16 w4 (i + 1) z wr :=
  ⟨⟨fun e => absurd e hz, fun a => h.iff.2 a.less⟩, h.ne, h.only, let ⟨wv, h1, _⟩ := h.cell; ⟨wv, h1, fun _ e => absurd e hz⟩⟩
theorem AskAt.one (h : AskAt live l m want g16 w4 0 z wr) (hz : z = 0) (hg : z' = 0 ↔ JP.GoodO l) (hn : z' ≠ 11) (hb : Below wr.heap.size wr w') : AskAt live l m want g16 w4 1 z' w' :=
  ⟨⟨fun e => ⟨(h.iff.1 hz).1, fun _ => hg.1 e, fun k => by omega, fun k => by omega⟩, fun a => hg.2 (a.2.1 (by omega))⟩, hn, h.only.trans (.of hb), let ⟨wv, h1, _⟩ := h.cell; ⟨wv, below_block hb h1, fun e => by omega⟩⟩
theorem AskAt.two (h : AskAt live l m want g16 w4 1 z wr) (hz : z = 0) (hc : NameP.check m = z') : AskAt live l m want g16 w4 2 z' wr :=
  ⟨⟨fun e => ⟨(h.iff.1 hz).1, fun _ => (h.iff.1 hz).2.1 (by omega), fun _ => hc.trans e, fun k => by omega⟩, fun a => hc.symm.trans (a.2.2.1 (by omega))⟩, by rw [← hc]; exact name_ne11 _, h.only, let ⟨wv, h1, _⟩ := h.cell; ⟨wv, h1, fun e => by omega⟩⟩
theorem AskAt.three (h : AskAt live l m want g16 w4 2 z wr) (hz : z = 0) (hw : ∃ wv, w'.heap[g16]? = some (.cells #[wv] 47 (0, 0)) ∧ ∃ n, JvAt n [] w' wv (JP.readL want).1) (ho : Only g16 (g16 + 1) wr w') : AskAt live l m want g16 w4 3 (JP.readL want).2 w' :=
  ⟨⟨fun e => ⟨(h.iff.1 hz).1, fun _ => (h.iff.1 hz).2.1 (by omega), fun _ => (h.iff.1 hz).2.2.1 (by omega), fun _ => e⟩, fun a => a.2.2.2 (by omega)⟩, JP.readL_ne _, h.only.trans ho, let ⟨wv, h1, h2⟩ := hw; ⟨wv, h1, fun _ _ => h2⟩⟩
end
theorem obj_form {n : Nat} {T : List Nat} {w : World} {v : Value} {x : JV} (h : JvAt n T w v x) (hk : JP.kind x = 6) : ∃ q, v = .iface 88 (.pointer (some ⟨q, 0, none⟩)) := by
  cases n with
  | zero => cases h
  | succ n =>
    cases x with
    | obj l => obtain ⟨q, h1, _⟩ := h; exact ⟨q, h1⟩
    | _ => cases hk
theorem deal_size {w : World} {g : Nat} {x : Obj} (h : w.heap[g]? = some x) : g < w.heap.size := by
  rcases Nat.lt_or_ge g w.heap.size with h1 | h1
  · exact h1
  · rw [Array.getElem?_eq_none h1] at h; cases h
set_option maxRecDepth 100000 in
set_option maxHeartbeats 25600000 in
theorem apply_any (live want : ByteArray) (v : Value) (l : List GOwned) (mb : Bs) (force : Bool) (w : World) (h : RowAt OwnedR 2 w v l) (hl : l.length ≤ 1048576) (hz : ∀ x ∈ l, x.manager.size ≤ 1048576 ∧ x.paths.length ≤ 1048576 ∧ ∀ p ∈ x.paths, p.size ≤ 1048576)
    (hlv : live.size ≤ 1048576) (hwt : want.size ≤ 1048576) (hmb : mb.length ≤ 1048576) (hE : Env w) :
    Calls Tryz.prog 13 #[.string live, v, .string (mkB mb), .string want, .bool force] w (AppliedTo live.data.toList (l.map oP) mb want.data.toList force w) := by
  obtain ⟨a1, c1, rfl, -, -⟩ := h.len
  obtain ⟨nO, hnO⟩ : ∃ n, l.length = n := ⟨_, rfl⟩
  rw [hnO] at h ⊢
  obtain ⟨w1, hw1⟩ : ∃ w1, w1 = ((w.alloc (.cells #[.slice a1 nO c1] 22)).alloc (.cells #[.string (mkB mb)] 9)).alloc (.cells #[.string want] 9) := ⟨_, rfl⟩
  obtain ⟨g6, hg6⟩ : ∃ g, g = w.heap.size := ⟨_, rfl⟩
  have hs1 : w1.heap.size = g6 + 3 := by rw [hw1, hg6]; simp only [World.size_alloc]
  have b6 : w1.heap[g6]? = some (.cells #[.slice a1 nO c1] 22 (0, 0)) := by
    rw [hw1, hg6]
    exact below_block ((Below.refl _ _).alloc (Nat.le_refl _) _) (below_block ((Below.refl _ _).alloc (Nat.le_refl _) _) (heap_alloc_new w _))
  have b7 : w1.heap[g6 + 1]? = some (.cells #[.string (mkB mb)] 9 (0, 0)) := by
    rw [hw1, hg6]
    have h9 := heap_alloc_new (w.alloc (.cells #[.slice a1 nO c1] 22)) (.cells #[.string (mkB mb)] 9)
    rw [World.size_alloc] at h9
    exact below_block ((Below.refl _ _).alloc (Nat.le_refl _) _) h9
  have b8 : w1.heap[g6 + 2]? = some (.cells #[.string want] 9 (0, 0)) := by
    rw [hw1, hg6]
    have h9 := heap_alloc_new ((w.alloc (.cells #[.slice a1 nO c1] 22)).alloc (.cells #[.string (mkB mb)] 9)) (.cells #[.string want] 9)
    rw [World.size_alloc, World.size_alloc] at h9
    exact h9
  have hb01 : Below w.heap.size w w1 := by
    rw [hw1]
    exact (((Below.refl _ w).alloc (Nat.le_refl _) _).alloc (by simp) _).alloc (by simp only [World.size_alloc]; omega) _
  have HB01 := Lib.hid hb01
  have B6 := Lib.hid b6
  have B7 := Lib.hid b7
  have B8 := Lib.hid b8
  have HRow := Lib.hid (h.below stays_owned hb01)
  have HE1 := Lib.hid (hE.below hb01)
  have Hz := Lib.hid hz
  have HnO := Lib.hid hnO
  have hl' : nO ≤ 1048576 := by rw [← hnO]; exact hl
  have Hrd := Lib.hid (read_any live w1 hlv)
  obtain ⟨X, hX⟩ : ∃ X, (JP.readL live.data.toList).1 = X := ⟨_, rfl⟩
  obtain ⟨er0, her0⟩ : ∃ e, (JP.readL live.data.toList).2 = e := ⟨_, rfl⟩
  rw [hX, her0] at Hrd
  have HX := Lib.hid hX
  have Her0 := Lib.hid her0
  have hne0 : er0 ≠ 11 := by rw [← her0]; exact JP.readL_ne _
  have hgw : g6 = w.heap.size := hg6
  clear h hl hz hE hb01 b6 b7 b8 hX her0 hnO
  go_enter Tryz.func13, Tryz.ntmps13
  go_upto_region 1 with fail
  rw [← hw1]
  simp only [Nat.add_assoc, Nat.reduceAdd]
  rw [← hg6]
  clear hw1 hg6
  have Hgw := Lib.hid hgw
  clear hgw
  go_wp2_with fail
  refine Hrd.out.mono ?_
  rintro E w2 ⟨lv, rfl, hjl, hb2⟩
  have HJl := Lib.hid hjl
  have HB2 := Lib.hid hb2
  have hs2 := hb2.size
  clear hjl hb2 Hrd
  obtain ⟨w4, hw4⟩ : ∃ w4, w4 = (w2.alloc (.cells #[.nilIface] 47)).alloc (.cells #[.func (.func 27) #[] #[.pointer (some ⟨g6, 0, none⟩)], .func (.func 28) #[] #[.pointer (some ⟨g6 + 1, 0, none⟩)], .func (.func 30) #[] #[.pointer (some ⟨g6 + 2, 0, none⟩), .pointer (some ⟨w2.heap.size, 0, none⟩)]] 50) := ⟨_, rfl⟩
  obtain ⟨g16, hg16⟩ : ∃ g, g = w2.heap.size := ⟨_, rfl⟩
  have h416 : w4.heap[g16]? = some (.cells #[.nilIface] 47 (0, 0)) := by
    rw [hw4, hg16]
    exact below_block ((Below.refl _ _).alloc (Nat.le_refl _) _) (heap_alloc_new w2 _)
  have h435 : w4.heap[g16 + 1]? = some (.cells #[.func (.func 27) #[] #[.pointer (some ⟨g6, 0, none⟩)], .func (.func 28) #[] #[.pointer (some ⟨g6 + 1, 0, none⟩)], .func (.func 30) #[] #[.pointer (some ⟨g6 + 2, 0, none⟩), .pointer (some ⟨g16, 0, none⟩)]] 50 (0, 0)) := by
    rw [hw4, hg16]
    have h9 := heap_alloc_new (w2.alloc (.cells #[.nilIface] 47)) (.cells #[.func (.func 27) #[] #[.pointer (some ⟨g6, 0, none⟩)], .func (.func 28) #[] #[.pointer (some ⟨g6 + 1, 0, none⟩)], .func (.func 30) #[] #[.pointer (some ⟨g6 + 2, 0, none⟩), .pointer (some ⟨w2.heap.size, 0, none⟩)]] 50)
    rw [World.size_alloc] at h9
    exact h9
  have hb24 : Below w2.heap.size w2 w4 := by
    rw [hw4]
    exact ((Below.refl _ _).alloc (Nat.le_refl _) _).alloc (by simp) _
  have HB24 := Lib.hid hb24
  have HB14 := Lib.hid (HB2.out.trans (hb24.mono hs2))
  have hs16 : w1.heap.size ≤ g16 := by rw [hg16]; exact hs2
  have hs24 := hb24.size
  have H435 := Lib.hid h435
  have HA0 : Hid (AskAt live.data.toList (l.map oP) mb want.data.toList g16 w4 0 er0 w4) := Lib.hid ⟨⟨fun h => ⟨Her0.out.trans h, fun h => by omega, fun h => by omega, fun h => by omega⟩, fun h => Her0.out.symm.trans h.1⟩, hne0, Only.refl _ _ _, _, h416, fun h => by omega⟩
  clear h416 h435 hb24 hne0
  go_upto_region 4 with fail
  rw [← hw4]
  try rw [← hg16]
  clear hw4
  have Hg16 := Lib.hid hg16
  clear hg16
  have hs4 := HB14.out.size
  go_loopg [15, 18, 37] 3 (fun k u15 u18 u37 wr => ∃ (i : Nat) (z : Int), i + k = 3 ∧ u37 = .int .i64 (i : Int) ∧ u15 = .int .i64 z ∧ Hid (AskAt live.data.toList (l.map oP) mb want.data.toList g16 w4 i z wr))
  case atStart => exact ⟨0, er0, by omega, rfl, rfl, HA0⟩
  case round =>
    obtain ⟨i, z, hik, rfl, rfl, HA⟩ := hrel
    cases gk with
    | zero =>
      obtain rfl : i = 3 := by omega
      have hbw : Below w.heap.size w wr := HB01.out.trans ((HA.out.only.below HB14.out hs16 hs4).mono HB01.out.size)
      have HBw := Lib.hid hbw
      clear hbw
      by_cases hz0 : z = 0
      · obtain ⟨wv, hwv, hjw⟩ := HA.out.cell
        obtain ⟨nW, hjv⟩ := hjw rfl hz0
        clear hjw
        have hb2r : Below w2.heap.size w2 wr := HA.out.only.below HB24.out (by rw [Hg16.out]; exact Nat.le_refl _) HB24.out.size
        have Hasked := Lib.hid (HA.out.iff.1 hz0)
        subst hz0
        obtain ⟨nX, hjx⟩ := HJl.out
        have HK1 := Lib.hid (kind_any (hjx.below hb2r))
        have HK2 := Lib.hid (kind_any hjv)
        obtain ⟨WX, hWX⟩ : ∃ x, (JP.readL want.data.toList).1 = x := ⟨_, rfl⟩
        rw [hWX] at HK2 hjv
        have HJw := Lib.hid hjv
        have HJx := Lib.hid (hjx.below hb2r)
        have HWX := Lib.hid hWX
        have H16 := Lib.hid hwv
        have hb1r := Lib.hid (HA.out.only.below HB14.out hs16 hs4)
        have cw := fun j => cell_block hwv j
        clear hjv hjx hwv hWX hb2r HJl HA HB24
        by_cases k1 : JP.kind X = 6
        · by_cases k2 : JP.kind WX = 6
          · have HK61 := Lib.hid k1
            have HK62 := Lib.hid k2
            rw [k1] at HK1
            rw [k2] at HK2
            clear k1 k2
            go_wp2_with fail
            refine HK1.out.mono ?_
            rintro E w5 ⟨rfl, e5⟩
            replace e5 := e5.symm
            subst e5
            go_wp2_with fail
            refine HK2.out.mono ?_
            rintro E w5 ⟨rfl, e5⟩
            replace e5 := e5.symm
            subst e5
            go_upto_region 13 with fail
            obtain ⟨wm, hwm⟩ : ∃ wm, wm = wr := ⟨_, rfl⟩
            subst hwm
            have HApp : Hid (JP.AppOK live.data.toList want.data.toList (l.map oP) mb) := Lib.hid ⟨Hasked.out.1, Hasked.out.2.1 (by omega), Hasked.out.2.2.1 (by omega), Hasked.out.2.2.2 (by omega), by rw [HX.out]; exact HK61.out, by rw [HWX.out]; exact HK62.out⟩
            have HfX : Hid (JP.Fit X) := Lib.hid (by rw [← HX.out]; exact JP.read_fit' HApp.out.1)
            have HfW : Hid (JP.Fit WX) := Lib.hid (by rw [← HWX.out]; exact JP.read_fit' HApp.out.2.2.2.1)
            obtain ⟨qx, hqx⟩ := obj_form HJx.out HK61.out
            subst hqx
            obtain ⟨qw, hqw⟩ := obj_form HJw.out HK62.out
            subst hqw
            obtain ⟨lv, hlvd⟩ : ∃ v, v = Value.iface 88 (.pointer (some ⟨qx, 0, none⟩)) := ⟨_, rfl⟩
            obtain ⟨wv, hwvd⟩ : ∃ v, v = Value.iface 88 (.pointer (some ⟨qw, 0, none⟩)) := ⟨_, rfl⟩
            have HJx' : Hid (JvAt nX [] wm lv X) := Lib.hid (by rw [hlvd]; exact HJx.out)
            have HJw' : Hid (JvAt nW [] wm wv WX) := Lib.hid (by rw [hwvd]; exact HJw.out)
            have HMem := Lib.hid (bk_mem HApp.out.2.1.2.1)
            obtain ⟨bk, hbk⟩ : ∃ b, bkOf (l.map oP) = b := ⟨_, rfl⟩
            rw [hbk] at HMem
            have Hbk := Lib.hid hbk
            have hgb : ∀ k ps, bk k = some ps → ps.length ≤ 1048576 ∧ ∀ s ∈ ps, s.length ≤ 1048576 := fun k ps hk => by
              obtain ⟨x, hx, e⟩ := List.mem_map.1 ((HMem.out k ps).1 hk)
              obtain ⟨_, e2⟩ := Prod.mk.inj e
              obtain ⟨_, z2, z3⟩ := Hz.out x hx
              rw [← e2]
              refine ⟨by rw [List.length_map]; exact z2, fun s hs => ?_⟩
              obtain ⟨p, hp, rfl⟩ := List.mem_map.1 hs
              rw [Array.length_toList]; exact z3 p hp
            have Hgb := Lib.hid hgb
            clear hgb hbk HJx HJw cw HK1 HK2
            refine wp_region_relB 6 (fun ii U w' => match ii with
              | 0 => U 0 = .iface 88 (.pointer (some ⟨qx, 0, none⟩))
              | 1 => U 1 = .slice a1 nO c1
              | 2 => ∃ b lo hi, U 2 = .map (some b) ∧ wm.heap.size ≤ lo ∧ BookIn lo hi w' b nO bk ∧ hi ≤ w'.heap.size
              | 3 => U 3 = .string (mkB mb)
              | 4 => U 4 = wv
              | 5 => ∃ b lo hi wL W, U 2 = .map (some b) ∧ wm.heap.size ≤ lo ∧ BookIn lo hi w' b nO bk ∧ hi ≤ wL.heap.size ∧ Below wm.heap.size wm wL ∧ Below wL.heap.size wL w' ∧ OwnAt (LeafX (List.range' lo (hi - lo)) wL) 3 w' wL.heap.size 65 (U 5) W ∧ W.Perm (JP.gat [] WX) ∧ Rise W
              | _ => True)
              (fun | 2 => [1] | 5 => [2, 4] | _ => []) (by kernel_rfl) (by kernel_rfl) ?_ ⟨?_, ?_, ?_, ?_, ?_, ?_, trivial⟩ ?_
            · intro j u w1 w2 hb h
              match j, h with
              | 0, h => exact h
              | 1, h => exact h
              | 2, h => exact (let ⟨b, lo, hi, h1, h2, h3, h4⟩ := h; ⟨b, lo, hi, h1, h2, h3.below hb, Nat.le_trans h4 hb.size⟩)
              | 3, h => exact h
              | 4, h => exact h
              | 5, h => exact (let ⟨b, lo, hi, wL, W, h1, h2, h3, h4, h5, h6, h7, h8, h9⟩ := h; ⟨b, lo, hi, wL, W, h1, h2, h3.below hb, h4, h5, h6.trans (hb.mono h6.size), h7.belowX (leafX_staysX _ _) hb, h8, h9⟩)
              | _ + 6, h => trivial
            · intro x' w' hb hd
              have hwr : Below wm.heap.size wm w' := (below_drewF wm).trans hb
              refine owes_here (.iface 88 (.pointer (some ⟨qx, 0, none⟩))) (by rfl) ?_ rfl
              simp only [putAll, List.take_succ_cons, List.take_zero]
              go_simp
            · intro x' w' hb hd
              have hwr : Below wm.heap.size wm w' := (below_drewF wm).trans hb
              have e6 := fun j => cell_block (below_block hwr (below_block hb1r.out B6.out)) j
              refine owes_here (.slice a1 nO c1) (by rfl) ?_ rfl
              simp only [putAll, List.take_succ_cons, List.take_zero]
              go_simp
            · intro x' w' hb hd
              have hwr : Below wm.heap.size wm w' := (below_drewF wm).trans hb
              have k1 : x' 1 = .slice a1 nO c1 := hd 1 (by simp)
              refine owes_call 32 #[.slice a1 nO c1] (by rfl) ?_ ((bookOf_any (.slice a1 nO c1) l w' ((HRow.out.below stays_owned hb1r.out).below stays_owned hwr) (by rw [HnO.out]; exact hl') (fun x hx => ⟨(Hz.out x hx).1, (Hz.out x hx).2.1⟩)).mono fun e w3 ⟨b, h1, h2, h3⟩ => ⟨_, h1, ⟨b, w'.heap.size, w3.heap.size, rfl, hwr.size, by rw [← Hbk.out, ← HnO.out]; exact h2.into, Nat.le_refl _⟩, h3⟩)
              simp only [putAll, List.take_succ_cons, List.take_zero]
              go_simp
            · intro x' w' hb hd
              have hwr : Below wm.heap.size wm w' := (below_drewF wm).trans hb
              have e7 := fun j => cell_block (below_block hwr (below_block hb1r.out B7.out)) j
              refine owes_here (.string (mkB mb)) (by rfl) ?_ rfl
              simp only [putAll, List.take_succ_cons, List.take_zero]
              go_simp
            · intro x' w' hb hd
              have hwr : Below wm.heap.size wm w' := (below_drewF wm).trans hb
              have e16 := fun j => cell_block (below_block hwr H16.out) j
              refine owes_here wv (by rfl) ?_ rfl
              simp only [putAll, List.take_succ_cons, List.take_zero]
              rw [hwvd]
              go_simp
            · intro x' w' hb hd
              have hwr : Below wm.heap.size wm w' := (below_drewF wm).trans hb
              have k4 : x' 4 = wv := hd 4 (by simp)
              obtain ⟨b, lo, hi, kb, klo, kbook, khi⟩ : ∃ b lo hi, x' 2 = .map (some b) ∧ wm.heap.size ≤ lo ∧ BookIn lo hi w' b nO bk ∧ hi ≤ w'.heap.size := hd 2 (by simp)
              have hvT : JvAt nW (List.range' lo (hi - lo)) w' wv WX := (HJw'.out.fresh (T' := List.range' lo (hi - lo)) fun b hb => .inr (by rw [List.mem_range'_1] at hb; omega)).below hwr
              have fz := HfW.out.2
              refine owes_call 33 #[wv] (by rfl) ?_ ((leaves_any (List.range' lo (hi - lo)) nW wv WX w' hvT (by omega) (by omega) (let ⟨mm, hmm⟩ := HE1.out.2.2; ⟨mm, (hmm.below hb1r.out).below hwr⟩)).mono fun e w3 ⟨vv, W, h1, h2, h3, h4, h5⟩ => ⟨_, h1, ⟨b, lo, hi, w', W, kb, klo, kbook.below h5, khi, hwr, h5, h4, h2, h3⟩, h5⟩)
              simp only [putAll, List.take_succ_cons, List.take_zero]
              go_simp
            · intro x' w' hb hR
              have hwr : Below wm.heap.size wm w' := (below_drewF wm).trans hb
              have k0 : x' 0 = .iface 88 (.pointer (some ⟨qx, 0, none⟩)) := hR 0 (by omega)
              have k3 : x' 3 = .string (mkB mb) := hR 3 (by omega)
              obtain ⟨b, lo, hi, wL, W, kb, klo, kbook, khi, kwL, kLw, kown, kp, kr⟩ : ∃ b lo hi wL W, x' 2 = .map (some b) ∧ wm.heap.size ≤ lo ∧ BookIn lo hi w' b nO bk ∧ hi ≤ wL.heap.size ∧ Below wm.heap.size wm wL ∧ Below wL.heap.size wL w' ∧ OwnAt (LeafX (List.range' lo (hi - lo)) wL) 3 w' wL.heap.size 65 (x' 5) W ∧ W.Perm (JP.gat [] WX) ∧ Rise W := hR 5 (by omega)
              obtain ⟨la, lc, klf, -, -⟩ := kown.row.len
              rw [klf] at kown
              obtain ⟨nw, hnw⟩ : ∃ n, W.length = n := ⟨_, rfl⟩
              rw [hnw] at kown klf
              obtain ⟨wd, hwd⟩ : ∃ wd, wd = w'.alloc (.cells #[.iface 88 (.pointer (some ⟨qx, 0, none⟩)), .map (some b), .string (mkB mb), .slice la nw lc] 61) := ⟨_, rfl⟩
              obtain ⟨g, hg⟩ : ∃ g, g = w'.heap.size := ⟨_, rfl⟩
              have hbd : Below w'.heap.size w' wd := by rw [hwd]; exact (Below.refl _ _).alloc (Nat.le_refl _) _
              have hwrd := hwr.trans (hbd.mono hwr.size)
              have HWr := Lib.hid hwrd
              have hdeal : DealAt wd g lv (.map (some b)) mb (.slice la nw lc) := by
                unfold DealAt
                rw [hwd, hg, hlvd]; exact heap_alloc_new w' _
              have hF : FixAt lo hi g wm wd lv (.map (some b)) (.slice la nw lc) mb X W := ⟨hwrd, klo, hdeal, .inr (by rw [hg]; exact Nat.le_trans khi kLw.size), ⟨nX, HJx'.out⟩, ⟨_, wL, w', kown, kLw, hbd, fun q h1 h2 => .inl (by rw [List.mem_range'_1]; omega), .inr khi⟩, HE1.out.below hb1r.out⟩
              have HF := Lib.hid hF
              have HIn := Lib.hid (kbook.below hbd)
              obtain ⟨hIs, hFit⟩ := leaves_is kp kr HfW.out HK62.out
              have HIs := Lib.hid hIs
              have HFit := Lib.hid hFit
              have Hnw := Lib.hid hnw
              have hnw2 : nw ≤ 200 := by
                have h1 := JP.gat_len [] WX
                have h2 := HfW.out.2.1
                rw [← hnw, kp.length_eq]; omega
              have hhi : hi ≤ wd.heap.size := Nat.le_trans khi (Nat.le_trans kLw.size hbd.size)
              have Hlo : Hid (wm.heap.size ≤ lo) := Lib.hid klo
              have HConf := Lib.hid (conflicts_any hdeal (hF.liveO (Only.refl _ _ _)) HfX.out (hF.rows.row (Only.refl _ _ _)) (by omega) hFit (HIn.out.at) Hgb.out (hF.envO (Only.refl _ _ _)))
              clear hR hb hwr kbook khi kwL kLw kown kp kr hbd hwrd hdeal hF hIs hFit hnw
              simp only [putAll, List.take_succ_cons, List.take_zero, List.drop_succ_cons, List.drop_zero]
              rw [k0, kb, k3, klf]
              clear k0 kb k3 klf
              try simp only [Act.put, List.setIfInBounds_toArray, List.set_cons_zero, List.set_cons_succ]
              go_upto_region 14 with fail
              rw [← hwd]
              try rw [← hg]
              clear hwd hg
              go_wp2_with fail
              refine HConf.out.mono ?_
              rintro E w6 ⟨vb, rfl, hvb, hb6⟩
              have hCL : (W.filter fun x => othersG bk mb (JP.barsB X x)) = JP.confL X (l.map oP) mb W := by
                unfold JP.confL
                exact List.filter_congr fun x _ => others_memB HMem.out mb _
              rw [hCL] at hvb
              obtain ⟨C, hC⟩ : ∃ C, JP.confL X (l.map oP) mb W = C := ⟨_, rfl⟩
              rw [hC] at hvb
              have hpC : (C.map fun x => mkB (pathP x.1)) = (C.map JP.pathL).map mkB := by
                rw [List.map_map]
                refine List.map_congr_left fun x hx => ?_
                have hxW : x ∈ W := by rw [← hC] at hx; exact (List.mem_filter.1 hx).1
                show mkB (pathP x.1) = mkB (JP.pathL x)
                rw [(HFit.out x hxW).path]
              rw [hpC] at hvb
              obtain ⟨ba, bc, rfl, -, -⟩ := hvb.row.len
              obtain ⟨cn, hcn⟩ : ∃ n, ((C.map JP.pathL).map mkB).length = n := ⟨_, rfl⟩
              rw [hcn] at hvb ⊢
              rw [List.length_map, List.length_map] at hcn
              have hs6 := hb6.size
              have HB06 : Hid (Below w.heap.size w w6) := Lib.hid ((HBw.out.trans (HWr.out.mono HBw.out.size)).trans (hb6.mono (Nat.le_trans HBw.out.size HWr.out.size)))
              have HVb : Hid (OwnAt RString 1 w6 w.heap.size 9 (.slice ba cn bc) ((C.map JP.pathL).map mkB)) := Lib.hid (hvb.mono (Nat.le_trans HBw.out.size HWr.out.size))
              have HC := Lib.hid hC
              have Hcn := Lib.hid hcn
              have HF6 := Lib.hid (HF.out.below hb6)
              have HIn6 := Lib.hid (HIn.out.below hb6)
              have HWr6 := Lib.hid (HWr.out.trans (hb6.mono HWr.out.size))
              have hhi6 : hi ≤ w6.heap.size := Nat.le_trans hhi hs6
              clear hvb hC hCL hpC hcn hb6 HConf HF HIn HWr
              obtain ⟨cc, Hcc⟩ : ∃ c, Hid ((decide (0 < cn) && !force) = c) := ⟨_, Lib.hid rfl⟩
              go_upto_region 15 with fail
              go_cut [71, 72, 73, 74, 75, 76, 77] (fun u71 u72 u73 u74 u75 u76 u77 wx => u77 = .bool cc ∧ w6 = wx)
              case first =>
                rcases Nat.eq_zero_or_pos cn with h0 | h0
                · subst h0
                  have hcc : cc = false := by rw [← Hcc.out]; rfl
                  subst hcc
                  go_wp2_with fail
                  go_meet
                  exact ⟨rfl, rfl⟩
                · have q0 : (0 : Int) < (cn : Int) := by omega
                  have hcc : cc = !force := by rw [← Hcc.out, decide_eq_true h0]; rfl
                  subst hcc
                  go_wp2_with fail
                  go_meet
                  exact ⟨rfl, rfl⟩
              case rest =>
              obtain ⟨rfl, rfl⟩ := hcut
              cases cc with
              | true =>
                have hcl : C ≠ [] ∧ force = false := by
                  have h9 := Hcc.out
                  rw [Bool.and_eq_true, decide_eq_true_iff] at h9
                  refine ⟨fun e => ?_, by simpa using h9.2⟩
                  have h8 := Hcn.out
                  rw [e] at h8
                  have := h9.1
                  rw [← h8] at this
                  exact absurd this (Nat.lt_irrefl _)
                have Hcl := Lib.hid hcl
                clear hcl
                go_wp2_with fail
                (try simp only [Exit.inBlock, Exit.then])
                refine bodyPost_ret (results_tmp4 rfl _ _ _) rfl ?_
                exact apply_clash HApp.out (by rw [HWX.out]; exact HIs.out) (by rw [HX.out]; exact HC.out) Hcl.out.1 Hcl.out.2 HVb.out HB06.out
              | false =>
                have hgo : C = [] ∨ force = true := by
                  have h9 := Hcc.out
                  rw [Bool.and_eq_false_iff] at h9
                  rcases h9 with h9 | h9
                  · left
                    refine List.eq_nil_of_length_eq_zero ?_
                    have := of_decide_eq_false h9
                    have := Hcn.out
                    omega
                  · exact .inr (by simpa using h9)
                have Hgo := Lib.hid hgo
                have hnw2' : W.length ≤ 1048576 := by rw [Hnw.out]; omega
                have HSz := Lib.hid (seize_any HF6.out HfX.out HFit.out hnw2' HIn6.out Hgb.out hl' hhi6)
                clear hgo
                go_wp2_with fail
                refine HSz.out.mono ?_
                rintro E w7 ⟨rfl, hIn7, hOn7⟩
                have hd7 := HF6.out.dealO hOn7
                have hrow7 := HF6.out.rows.row hOn7
                have hg7 : ∀ k ps, seizeG X mb W bk k = some ps → ps.length ≤ 1048576 ∧ ∀ s ∈ ps, s.length ≤ 1048576 := fun k ps hk => by
                  unfold seizeG at hk
                  split at hk
                  · exact Hgb.out k ps hk
                  · obtain ⟨qs, h1, rfl⟩ := Option.map_eq_some_iff.1 hk
                    obtain ⟨h2, h3⟩ := Hgb.out k qs h1
                    exact ⟨Nat.le_trans (List.length_filter_le _ _) h2, fun s hs => h3 s (List.mem_filter.1 hs).1⟩
                have hsm : seizeG X mb W bk mb = bk mb := by unfold seizeG; rw [if_pos rfl]
                have hps : ∀ p ∈ (seizeG X mb W bk mb).getD [], ∃ k, stepsP p = (0, k) ∧ k ≠ [] := fun p hp => by
                  rw [hsm] at hp
                  cases hb : bk mb with
                  | none => rw [hb] at hp; cases hp
                  | some ps =>
                    rw [hb] at hp
                    exact (HApp.out.2.1.2.2 _ ((HMem.out mb ps).1 hb)).2.2.2 p hp
                have HDr := Lib.hid (drop_any hd7 (HF6.out.liveO hOn7) HfX.out hrow7 hnw2' HFit.out hIn7.at hg7 hmb hps (HF6.out.envO hOn7))
                have hV0 : dropG X (seizeG X mb W bk) mb W ((seizeG X mb W bk mb).getD []) = JP.dropV X (JP.seizeL X mb W (l.map oP)) mb W (JP.had (l.map oP) mb) := by
                  rw [drop_memB (seize_memB HMem.out X mb W), hsm, had_memB HMem.out HApp.out.2.1.2.1]
                have hV0f := dropG_fit (seizeG X mb W bk) mb W ((seizeG X mb W bk mb).getD []) X HfX.out
                rw [hV0] at HDr hV0f
                obtain ⟨V0, hV0d⟩ : ∃ V, JP.dropV X (JP.seizeL X mb W (l.map oP)) mb W (JP.had (l.map oP) mb) = V := ⟨_, rfl⟩
                rw [hV0d] at HDr hV0f
                have HV0d := Lib.hid hV0d
                have HV0f := Lib.hid hV0f
                have HIn7 := Lib.hid hIn7
                have Hg7 := Lib.hid hg7
                have HD7 := Lib.hid hd7
                have HRow7 := Lib.hid hrow7
                have HE7 := Lib.hid (HF6.out.envO hOn7)
                have hwm7 : Below wm.heap.size wm w7 := hOn7.below HWr6.out Hlo.out HWr6.out.size
                have HWm7 := Lib.hid hwm7
                have hhi7 : hi ≤ w7.heap.size := Nat.le_trans hhi6 hOn7.size
                clear hV0 hV0f hV0d hsm hps hd7 hrow7 hg7 hIn7 hOn7 hwm7 HSz HF6 HIn6 HWr6
                go_wp2_with fail
                refine HDr.out.mono ?_
                rintro E w8 ⟨v8, k8, rfl, hj8, hb8⟩
                have HJ8 := Lib.hid hj8
                have HWm8 := Lib.hid (HWm7.out.trans (hb8.mono HWm7.out.size))
                have HIn8 := Lib.hid (HIn7.out.below hb8)
                have HRow8 := Lib.hid (leaves_below HRow7.out hb8)
                have HD8 := Lib.hid (HD7.out.below hb8)
                have HE8 := Lib.hid (HE7.out.below hb8)
                have hhi8 : hi ≤ w8.heap.size := Nat.le_trans hhi7 hb8.size
                have dd : ∀ i, w8.cell? ⟨g, i, none⟩ = #[lv, .map (some b), .string (mkB mb), .slice la nw lc][i]? := fun i => cell_block HD8.out i
                clear hj8 hb8 HDr HIn7 HRow7 HD7 HE7 HWm7
                go_wp2_with fail
                clear dd
                obtain ⟨j0, hj0, hy0, hy1, hy2⟩ := info_parts Tryz.infoStr
                go_loopg [21, 22, 88] nw (fun k u21 u22 u88 wr => ∃ i : Nat, i + k = nw ∧ u88 = .int .i64 (i : Int) ∧ Hid (∃ j, JvAt j (blkOf u22) wr u21 (JP.setsV V0 (W.take i))) ∧ Hid (OwnAt RString 1 wr w8.heap.size 9 u22 ((W.take i).map fun x => mkB (JP.pathL x))) ∧ Hid (Below w8.heap.size w8 wr))
                case atStart => exact ⟨0, by omega, rfl, Lib.hid ⟨k8, by rw [List.take_zero]; exact HJ8.out⟩, Lib.hid (OwnAt.nil _), Lib.hid (Below.refl _ _)⟩
                case round =>
                  obtain ⟨i, hik, rfl, HJ, HO, Hbel⟩ := hrel
                  cases gk with
                  | zero =>
                    obtain rfl : nw = i := by omega
                    have htk : W.take nw = W := List.take_of_length_le (by rw [Hnw.out]; exact Nat.le_refl _)
                    have hbd := sets_bound W HFit.out V0 HV0f.out nw (by rw [Hnw.out]; exact Nat.le_refl _)
                    rw [htk] at HJ HO hbd
                    clear htk
                    have hout : JP.setsV V0 W = JP.outV X (l.map oP) mb W := by unfold JP.outV; rw [← HV0d.out]
                    have hpt : (W.map fun x => mkB (JP.pathL x)) = (W.map JP.pathL).map mkB := by rw [List.map_map]; rfl
                    rw [hpt] at HO
                    rw [hout] at HJ hbd
                    obtain ⟨out, houtd⟩ : ∃ o, JP.outV X (l.map oP) mb W = o := ⟨_, rfl⟩
                    rw [houtd] at HJ hbd
                    have Hout := Lib.hid houtd
                    have HIn9 := Lib.hid (HIn8.out.below Hbel.out)
                    have HWm9 := Lib.hid (HWm8.out.trans (Hbel.out.mono HWm8.out.size))
                    have HD9 := Lib.hid (HD8.out.below Hbel.out)
                    have hb1w : Below w1.heap.size w1 wr := hb1r.out.trans (HWm9.out.mono hb1r.out.size)
                    have b7w := below_block hb1w B7.out
                    have B7w := Lib.hid b7w
                    obtain ⟨F, hM, hP⟩ := HIn9.out
                    have HM := Lib.hid hM
                    have HP := Lib.hid hP
                    have hgl : g < wr.heap.size := deal_lt HD9.out
                    have hg7l : g6 + 1 < wr.heap.size := deal_size b7w
                    have hs89 := Hbel.out.size
                    have Hbd := Lib.hid hbd
                    clear hout hpt houtd hb1w b7w hM hP hbd
                    go_upto_region 26 with fail
                    refine wp_region_hold 6 (fun w' => Below wr.heap.size wr w') (by kernel_rfl) (by kernel_rfl) ?_ ?_
                    · exact below_drewF wr
                    simp only [List.take_succ_cons, List.take_zero, List.drop_succ_cons, List.drop_zero]
                    (first | (refine wpHold_pure (v := ?_) (by rfl) (fun w => ?_) ?_; rotate_left; focus (first | (go_simp; done) | (go_simp; with_reducible rfl))) | (refine wpHold_skip ?_ ?_; focus (go_simp; done)) | (refine wpHold_pure' (v := ?_) ?_ (fun w => ?_) ?_; rotate_left; focus (go_simp; done); focus (first | (go_simp; done) | (go_simp; with_reducible rfl)))); try simp only [Act.put, List.setIfInBounds_toArray, List.set_cons_zero, List.set_cons_succ]
                    (first | (refine wpHold_pure (v := ?_) (by rfl) (fun w => ?_) ?_; rotate_left; focus (first | (go_simp; done) | (go_simp; with_reducible rfl))) | (refine wpHold_skip ?_ ?_; focus (go_simp; done)) | (refine wpHold_pure' (v := ?_) ?_ (fun w => ?_) ?_; rotate_left; focus (go_simp; done); focus (first | (go_simp; done) | (go_simp; with_reducible rfl)))); try simp only [Act.put, List.setIfInBounds_toArray, List.set_cons_zero, List.set_cons_succ]
                    (first | (refine wpHold_pure (v := ?_) (by rfl) (fun w => ?_) ?_; rotate_left; focus (first | (go_simp; done) | (go_simp; with_reducible rfl))) | (refine wpHold_skip ?_ ?_; focus (go_simp; done)) | (refine wpHold_pure' (v := ?_) ?_ (fun w => ?_) ?_; rotate_left; focus (go_simp; done); focus (first | (go_simp; done) | (go_simp; with_reducible rfl)))); try simp only [Act.put, List.setIfInBounds_toArray, List.set_cons_zero, List.set_cons_succ]
                    refine wpHold_read (v := .map (some b)) (by rfl) (fun w' hI => ?_) ?_
                    · have d0 := (hI.cell (p := ⟨g, 1, none⟩) hgl).trans (cell_block HD9.out 1)
                      go_simp
                      done
                    try simp only [Act.put, List.setIfInBounds_toArray, List.set_cons_zero, List.set_cons_succ]
                    refine wpHold_read (v := .string (mkB mb)) (by rfl) (fun w' hI => ?_) ?_
                    · have d0 := (hI.cell (p := ⟨g6 + 1, 0, none⟩) hg7l).trans (cell_block B7w.out 0)
                      go_simp
                      done
                    try simp only [Act.put, List.setIfInBounds_toArray, List.set_cons_zero, List.set_cons_succ]
                    (first | (refine wpHold_pure (v := ?_) (by rfl) (fun w => ?_) ?_; rotate_left; focus (first | (go_simp; done) | (go_simp; with_reducible rfl))) | (refine wpHold_skip ?_ ?_; focus (go_simp; done)) | (refine wpHold_pure' (v := ?_) ?_ (fun w => ?_) ?_; rotate_left; focus (go_simp; done); focus (first | (go_simp; done) | (go_simp; with_reducible rfl)))); try simp only [Act.put, List.setIfInBounds_toArray, List.set_cons_zero, List.set_cons_succ]
                    refine wpHold_nil ?_
                    intro w12 hI12
                    have HM12 : Hid (MapS Tryz.prog 9 w12 b nO F) := Lib.hid (HM.out.belowW hI12)
                    have HP12 := Lib.hid (BookF'.below HP.out hI12)
                    have HO12 := Lib.hid (HO.out.below stays_string hI12)
                    have HJ12 : Hid (∃ j, JvAt j [] w12 u21 out) := Lib.hid (let ⟨j, hj⟩ := HJ.out; ⟨j, (hj.below hI12).fresh (T' := []) fun b hb => by cases hb⟩)
                    have HD12 := Lib.hid (HD9.out.below hI12)
                    have HWm12 := Lib.hid (HWm9.out.trans (hI12.mono HWm9.out.size))
                    have hs12 := hI12.size
                    have hnm : nO < maxLen := by unfold maxLen; omega
                    have hmm9 : (mkB mb).size ≤ maxLen := by rw [mkB_size]; unfold maxLen; omega
                    clear hI12 HM HP HO HJ
                    go_wp2_with (at_mapUpdate; refine wpList_store_mapS _ (by rfl) _ _ _ 56 (by rfl) 9 28 Tryz.underlying9 Tryz.underlying56 b nO F (by rfl) HM12.out hnm (mkB mb) hmm9 (by rfl) u22 (by rfl) ?_; intro w13 hm13 ht13; have dd13 : w13.cell? ⟨g, 1, none⟩ = some (.map (some b)) := cell_block (deal_turned HD12.out HM12.out ht13) 1)
                    rw [mkB_list] at hm13
                    have hbk13 : BookAt w13 lo b (nO + 1) (updG (seizeG X mb W bk) mb (W.map JP.pathL)) := by
                      obtain ⟨p2, p3, p4, p5, p6, p7⟩ := HP12.out
                      refine book_put (n := 0) p2 p3 p4 p6 hm13 ht13 (HO12.out.mono (by omega)) ?_
                      intro k' v' q hk hf hq hq'
                      have h1 := p5 k' v' q hf hq
                      have h2 := (HO12.out.at hq').1
                      omega
                    have hb1213 : Below wm.heap.size w12 w13 := by
                      have hgr := ht13.grown
                      exact ⟨hgr.os, hgr.tape, hgr.output, hgr.size, fun k hk => turned_block ht13 (fun e => by have := HP12.out.2.2.2.2.1; have := Hlo.out; omega)⟩
                    have HWm13 := Lib.hid (HWm12.out.trans hb1213)
                    have HJ13 : Hid (∃ j, JvAt j [] w13 u21 out) := Lib.hid (let ⟨j, hj⟩ := HJ12.out; ⟨j, keeps_jv j (keeps_turned ht13) hj⟩)
                    have hg13 : ∀ k ps, updG (seizeG X mb W bk) mb (W.map JP.pathL) k = some ps → ps.length ≤ 1048576 := fun k ps hk => by
                      unfold updG at hk
                      split at hk
                      · rw [← Option.some.inj hk, List.length_map, Hnw.out]; omega
                      · exact (Hg7.out k ps hk).1
                    have hn6 : nO ≤ 6 := by have h9 := HApp.out.2.1.1; rw [List.length_map, HnO.out] at h9; exact h9
                    have HLi := Lib.hid (list_any w13 lo b (nO + 1) _ hbk13 hg13 (by omega))
                    have HE13 := Lib.hid ((HE1.out.below hb1r.out).below HWm13.out)
                    have HB13 : Hid (Below w.heap.size w w13) := Lib.hid (HBw.out.trans (HWm13.out.mono HBw.out.size))
                    clear hm13 ht13 hbk13 hb1213 hg13 HM12 HP12 HO12 HD12 HWm12 HJ12
                    refine HLi.out.mono ?_
                    rintro E w14 ⟨vL, L, rfl, hLd, hri, hown, hb14⟩
                    have hL := listed_fin HMem.out HApp.out.2.1.2.1 hLd hri
                    have HL : Hid (L = JP.finL (JP.readL live.data.toList).1 (l.map oP) mb W) := Lib.hid (by rw [HX.out]; exact hL)
                    obtain ⟨va, vc, rfl, -, -⟩ := hown.row.len
                    obtain ⟨ln, hln⟩ : ∃ n, L.length = n := ⟨_, rfl⟩
                    rw [hln] at hown ⊢
                    have Hln := Lib.hid hln
                    have Hown := Lib.hid hown
                    have HB14 := Lib.hid (HB13.out.trans (hb14.mono HB13.out.size))
                    have Hb14 := Lib.hid hb14
                    have HI2 : Hid (JP.IsLeaves W (JP.readL want.data.toList).1) := Lib.hid (by rw [HWX.out]; exact HIs.out)
                    clear hLd hri hown hb14 hL hln dd13 HLi
                    by_cases h6 : 6 < ln
                    · have q6 : (6 : Int) < (ln : Int) := by omega
                      have Hno : Hid (∀ V, JP.AppOK live.data.toList want.data.toList (l.map oP) mb → JP.IsLeaves V (JP.readL want.data.toList).1 → (JP.confL (JP.readL live.data.toList).1 (l.map oP) mb V = [] ∨ force = true) → (JP.finL (JP.readL live.data.toList).1 (l.map oP) mb V).length ≤ 6 → JP.tellE (JP.outV (JP.readL live.data.toList).1 (l.map oP) mb V) = 0 → False) := Lib.hid fun V _ b _ d _ => by
                        have := JP.leaves_one b HI2.out
                        subst this
                        rw [← HL.out, Hln.out] at d
                        omega
                      clear h6
                      go_wp2_with fail
                      (try simp only [Exit.inBlock, Exit.then])
                      refine bodyPost_ret (results_tmp4 rfl _ _ _) rfl ?_
                      exact apply_no (by decide) (by decide) Hno.out HB14.out (fun _ _ _ _ h => (h ⟨HApp.out.2.2.2.2.1, HApp.out.2.2.2.2.2⟩).elim)
                    · have q6 : ¬ (6 : Int) < (ln : Int) := by omega
                      have H6 : Hid (L.length ≤ 6) := Lib.hid (by rw [Hln.out]; omega)
                      obtain ⟨jo, hjo⟩ := HJ13.out
                      have hT := tell_big jo u21 out w14 (hjo.below Hb14.out) (by have := Hbd.out.2.2; omega) (fun _ => by have := Hbd.out.2.2; omega) (by have := Hbd.out.2.1; omega) ((HE13.out.below Hb14.out).1)
                      obtain ⟨te, hte⟩ : ∃ e, JP.tellE out = e := ⟨_, rfl⟩
                      obtain ⟨tt, htt⟩ : ∃ t, JP.tellT out = t := ⟨_, rfl⟩
                      rw [hte, htt] at hT
                      have HT := Lib.hid hT
                      have Hte : Hid (JP.tellE (JP.outV (JP.readL live.data.toList).1 (l.map oP) mb W) = te) := Lib.hid (by rw [HX.out, Hout.out]; exact hte)
                      have Htt : Hid (tt = JP.tellT (JP.outV (JP.readL live.data.toList).1 (l.map oP) mb W)) := Lib.hid (by rw [HX.out, Hout.out]; exact htt.symm)
                      have hte11 : te ≠ 11 := by rw [← hte]; exact JP.tellE_ne _
                      clear h6 hjo hT hte htt
                      go_wp2_with fail
                      refine HT.out.mono ?_
                      rintro E w15 ⟨rfl, hb15⟩
                      have HB15 := Lib.hid (HB14.out.trans (hb15.mono HB14.out.size))
                      have Hb15 := Lib.hid (Hb14.out.trans (hb15.mono Hb14.out.size))
                      have Hown15 := Lib.hid (Hown.out.below (ownedX_stays _ _) hb15)
                      clear hb15 HT
                      by_cases h0 : te = 0
                      · subst h0
                        have Hgo2 : Hid (JP.confL (JP.readL live.data.toList).1 (l.map oP) mb W = [] ∨ force = true) := Lib.hid (by rw [HX.out, HC.out]; exact Hgo.out)
                        clear hte11
                        go_wp2_with fail
                        (try simp only [Exit.inBlock, Exit.then])
                        refine bodyPost_ret (results_tmp4 rfl _ _ _) rfl ?_
                        exact apply_yes HApp.out HI2.out Hgo2.out HL.out H6.out Hte.out Htt.out (Nat.le_trans HBw.out.size Hlo.out) Hown15.out HB13.out.size Hb15.out HB15.out
                      · have q0 : (te == 0) = false := by rw [beq_eq_false_iff_ne]; exact h0
                        have Hno : Hid (∀ V, JP.AppOK live.data.toList want.data.toList (l.map oP) mb → JP.IsLeaves V (JP.readL want.data.toList).1 → (JP.confL (JP.readL live.data.toList).1 (l.map oP) mb V = [] ∨ force = true) → (JP.finL (JP.readL live.data.toList).1 (l.map oP) mb V).length ≤ 6 → JP.tellE (JP.outV (JP.readL live.data.toList).1 (l.map oP) mb V) = 0 → False) := Lib.hid fun V _ b _ _ e => by
                          have := JP.leaves_one b HI2.out
                          subst this
                          rw [Hte.out] at e
                          exact h0 e
                        have H0 := Lib.hid h0
                        have H11 := Lib.hid hte11
                        clear h0 hte11
                        go_wp2_with fail
                        (try simp only [Exit.inBlock, Exit.then])
                        refine bodyPost_ret (results_tmp4 rfl _ _ _) rfl ?_
                        exact apply_no H0.out H11.out Hno.out HB15.out (fun _ _ _ _ h => (h ⟨HApp.out.2.2.2.2.1, HApp.out.2.2.2.2.2⟩).elim)
                  | succ k =>
                    have hil : i < nw := by omega
                    obtain ⟨x, hxi⟩ : ∃ x, W[i]? = some x := ⟨W[i]'(by rw [Hnw.out]; exact hil), List.getElem?_eq_getElem _⟩
                    obtain ⟨bb, o, c', hv, _, _, hbs, hcell⟩ := HRow8.out.form (by rw [Hnw.out]; omega) (by omega)
                    injection hv with u1 u2 u3
                    subst u1
                    clear u2 u3
                    obtain ⟨ds, _, hcc, sv, vv, rfl, hsv, hjv⟩ := hcell i x hxi
                    obtain ⟨sa, sc, rfl, -, -⟩ := hsv.row.len
                    obtain ⟨sn, hsn⟩ : ∃ sn, (x.1.map mkB).length = sn := ⟨_, rfl⟩
                    rw [hsn] at hcc hsv
                    have hvf : vv = .nilIface ∨ ∃ t u, vv = .iface t u := by obtain ⟨k, hk⟩ := hjv; exact jv_form hk
                    have hxf := HFit.out x (List.mem_of_getElem? hxi)
                    have hpath := hxf.path
                    rw [hpath] at hcc
                    have e0 : wr.cell? ⟨bb, o + i * 3, none⟩ = some (.string (mkB (JP.pathL x))) := (Hbel.out.cell (p := ⟨bb, _, none⟩) hbs).trans (by simpa using hcc 0 _ rfl)
                    have e1 : wr.cell? ⟨bb, o + i * 3 + 1, none⟩ = some (.slice sa sn sc) := (Hbel.out.cell (p := ⟨bb, _, none⟩) hbs).trans (hcc 1 _ rfl)
                    have e2 : wr.cell? ⟨bb, o + i * 3 + 2, none⟩ = some vv := (Hbel.out.cell (p := ⟨bb, _, none⟩) hbs).trans (hcc 2 _ rfl)
                    have q1 : (0 : Int) ≤ (i : Int) := by omega
                    have q2 : (i : Int) < (nw : Int) := by omega
                    obtain ⟨w9, hw9⟩ : ∃ w9, w9 = wr.alloc (.cells #[.string (mkB (JP.pathL x)), .slice sa sn sc, vv] 65) := ⟨_, rfl⟩
                    obtain ⟨gx, hgx⟩ : ∃ gx, gx = wr.heap.size := ⟨_, rfl⟩
                    have b9 : w9.heap[gx]? = some (.cells #[.string (mkB (JP.pathL x)), .slice sa sn sc, vv] 65 (0, 0)) := by rw [hw9, hgx]; exact heap_alloc_new wr _
                    have hb9 : Below wr.heap.size wr w9 := by rw [hw9]; exact (Below.refl _ wr).alloc (Nat.le_refl _) _
                    have hb89 := Hbel.out.trans (hb9.mono Hbel.out.size)
                    obtain ⟨jj, hjj⟩ := HJ.out
                    obtain ⟨kv, hkv⟩ := hjv
                    have hbd := sets_bound W HFit.out V0 HV0f.out i (by rw [Hnw.out]; omega)
                    have hfld := JP.sizeF_fields (JP.setsV V0 (W.take i))
                    have hTl : ∀ b ∈ blkOf u22, w8.heap.size ≤ b ∧ b < wr.heap.size := fun b hb => ⟨(HO.out.at (blkOf_mem.1 hb)).1, (HO.out.at (blkOf_mem.1 hb)).2.1⟩
                    have hkv := hkv.fresh (T' := blkOf u22) fun b hb => .inr (hTl b hb).1
                    have hset := set_any (blkOf u22) x.1 jj kv u21 (.slice sa sn sc) vv (JP.setsV V0 (W.take i)) x.2 w9 (hjj.below hb9) (hkv.below hb89) (hsv.below hb89) (by have := hxf.len; omega) (by omega) (fun b hb => Nat.lt_of_lt_of_le (hTl b hb).2 hb9.size)
                    rw [← sets_take V0 hxi] at hset
                    have HSet := Lib.hid hset
                    have HO9 := Lib.hid (HO.out.below stays_string hb9)
                    have HB9 := Lib.hid hb89
                    have B9 := Lib.hid b9
                    have Hxi := Lib.hid hxi
                    have hs89 := hb89.size
                    have cc9 := fun j => cell_block b9 j
                    clear hcc hcell hxi hsv hjj hkv hTl hb9 b9 hb89 hset hbd hfld HJ HO hsn hbs hxf hpath
                    rcases hvf with rfl | ⟨vt, vu, rfl⟩
                    all_goals
                      go_upto_region 23 with fail
                      rw [← hw9]
                      try rw [← hgx]
                      clear hw9 hgx e0 e1 e2
                      go_wp2_with fail
                      refine HSet.out.mono ?_
                      rintro E w10 ⟨v10, rfl, hj10, hb10⟩
                      have c10 := fun j => cell_block (below_block hb10 B9.out) j
                      have HJ10 := Lib.hid hj10
                      have HO10 := Lib.hid (HO9.out.below stays_string hb10)
                      have HB10 := Lib.hid (HB9.out.trans (hb10.mono hs89))
                      have hs10 := HB10.out.size
                      have hlen : ((W.take i).map fun x => mkB (JP.pathL x)).length ≤ i := by
                        rw [List.length_map, List.length_take]
                        exact Nat.min_le_left _ _
                      obtain ⟨w11, hw11⟩ : ∃ w11, w11 = w10.alloc (.cells #[.string (mkB (JP.pathL x))] 9) := ⟨_, rfl⟩
                      have HO11 : Hid (OwnAt RString 1 w11 w8.heap.size 9 u22 ((W.take i).map fun x => mkB (JP.pathL x))) := Lib.hid (by rw [hw11]; exact HO10.out.below stays_string ((Below.refl _ w10).alloc (Nat.le_refl _) _))
                      have HB11 : Hid (Below w8.heap.size w8 w11) := Lib.hid (by rw [hw11]; exact HB10.out.alloc HB10.out.size _)
                      have HJ11 : Hid (∃ j, JvAt j (blkOf u22) w11 v10 (JP.setsV V0 (W.take (i + 1)))) := Lib.hid (by rw [hw11]; obtain ⟨j, hj⟩ := HJ10.out; exact ⟨j, hj.below ((Below.refl _ w10).alloc (Nat.le_refl _) _)⟩)
                      have HR11 : Hid (RowAt RString 1 w11 (.slice (some ⟨w10.heap.size, 0, none⟩) 1 1) [mkB (JP.pathL x)]) := Lib.hid (RowAt.one (R := RString) (k := 1) (cs := #[.string (mkB (JP.pathL x))]) (x := mkB (JP.pathL x)) (by rw [hw11]; exact heap_alloc_new w10 _) rfl rfl)
                      have hsz11 := HB11.out.size
                      clear hj10 hb10 HSet HJ10 HO10 HO9 cc9
                      go_wp2_with (at_builtin; rw [← hw11]; refine wpList_append_ownAt (R := RString) (k := 1) (e := 9) (B := w8.heap.size) (m := [mkB (JP.pathL x)]) _ (by rfl) _ _ _ (by rfl) j0 _ 16 Tryz.underlying28 hj0 hy0 hy1 hy2 rfl (by omega) flat_string one_string _ (by rfl) HO11.out _ (by rfl) HR11.out (by unfold maxLen; simp only [List.length_singleton]; omega) (by simp only [List.length_singleton]; omega) hsz11 ?_)
                      intro v' w12 hv' hg12 hr12 hl12
                      try rw [← hw11] at hg12
                      have HB12 := Lib.hid (below_of_grown HB11.out hsz11 hg12 hr12)
                      have HJ12 : Hid (∃ j, JvAt j (blkOf v') w12 v10 (JP.setsV V0 (W.take (i + 1)))) := Lib.hid (by
                        obtain ⟨j, hj⟩ := HJ11.out
                        refine ⟨j, jv_appended hj hg12 ?_⟩
                        rcases hl12 with h | h
                        · exact .inl h
                        · exact .inr (by rw [hw11, World.size_alloc]; exact h))
                      have HO12 : Hid (OwnAt RString 1 w12 w8.heap.size 9 v' ((W.take (i + 1)).map fun x => mkB (JP.pathL x))) := Lib.hid (by
                        rw [List.take_add_one, Hxi.out]
                        show OwnAt RString 1 w12 w8.heap.size 9 v' ((_ ++ [x]).map fun x => mkB (JP.pathL x))
                        rw [List.map_append, List.map_take]; exact hv')
                      clear hv' hg12 hr12 hl12 HO11 HB11 HJ11 HR11 c10 hw11
                      go_wp2_with fail
                      go_roundg k
                      case measure => omega
                      case rel => exact ⟨i + 1, by omega, by go_num, HJ12, HO12, HB12⟩
          · have Hno : Hid (¬ JP.kind WX = 6) := Lib.hid k2
            have q2 : (JP.kind WX == 6) = false := by rw [beq_eq_false_iff_ne]; exact k2
            obtain ⟨kz, hkz⟩ : ∃ k, JP.kind WX = k := ⟨_, rfl⟩
            rw [hkz] at HK2 q2
            rw [k1] at HK1
            clear k1 k2 hkz
            go_wp2_with fail
            refine HK1.out.mono ?_
            rintro E w5 ⟨rfl, rfl⟩
            go_wp2_with fail
            refine HK2.out.mono ?_
            rintro E w5 ⟨rfl, rfl⟩
            clear cw HK1 HK2
            go_wp2_with fail
            (try simp only [Exit.inBlock, Exit.then])
            refine bodyPost_ret (results_tmp4 rfl _ _ _) rfl ?_
            exact apply_no (by decide) (by decide) (fun W a _ _ _ _ => Hno.out (by rw [← HWX.out]; exact a.2.2.2.2.2)) HBw.out (fun _ _ _ _ _ => rfl)
        · have Hno : Hid (¬ JP.kind X = 6) := Lib.hid k1
          have hk5 : JP.kind X = 1 ∨ JP.kind X = 2 ∨ JP.kind X = 3 ∨ JP.kind X = 4 ∨ JP.kind X = 5 := by
            cases X with
            | nul => exact .inl rfl
            | bool _ => exact .inr (.inl rfl)
            | num _ => exact .inr (.inr (.inl rfl))
            | str _ => exact .inr (.inr (.inr (.inl rfl)))
            | list _ => exact .inr (.inr (.inr (.inr rfl)))
            | obj _ => exact absurd rfl k1
          clear k1
          rcases hk5 with kv | kv | kv | kv | kv
          all_goals
            rw [kv] at HK1
            clear kv
            go_wp2_with fail
            refine HK1.out.mono ?_
            rintro E w5 ⟨rfl, rfl⟩
            clear cw HK1 HK2
            go_wp2_with fail
            (try simp only [Exit.inBlock, Exit.then])
            refine bodyPost_ret (results_tmp4 rfl _ _ _) rfl ?_
            exact apply_no (by decide) (by decide) (fun W a _ _ _ _ => Hno.out (by rw [← HX.out]; exact a.2.2.2.2.1)) HBw.out (fun _ _ _ _ _ => rfl)
      · have q3 : (z == 0) = false := by rw [beq_eq_false_iff_ne]; exact hz0
        have Hz0 := Lib.hid hz0
        clear hz0
        go_wp2_with fail
        (try simp only [Exit.inBlock, Exit.then])
        refine bodyPost_ret (results_tmp4 rfl _ _ _) rfl ?_
        exact apply_no Hz0.out HA.out.ne (fun W a _ _ _ _ => Hz0.out (HA.out.iff.2 ⟨a.1, fun _ => a.2.1, fun _ => a.2.2.1, fun _ => a.2.2.2.1⟩)) HBw.out (fun a b c d _ => (Hz0.out (HA.out.iff.2 ⟨a, fun _ => b, fun _ => c, fun _ => d⟩)).elim)
    | succ k =>
      have hb1r : Below w1.heap.size w1 wr := HA.out.only.below HB14.out hs16 hs4
      have hb435 := HA.out.only.block (g16 + 1) (deal_size H435.out) (.inr (Nat.le_refl _))
      rw [H435.out] at hb435
      have cc := fun j => cell_block hb435 j
      have HB1r := Lib.hid hb1r
      clear hb435 hb1r
      obtain ⟨rfl, rfl⟩ | ⟨rfl, rfl⟩ | ⟨rfl, rfl⟩ : (i = 0 ∧ k = 2) ∨ (i = 1 ∧ k = 1) ∨ (i = 2 ∧ k = 0) := by omega
      · by_cases hz0 : z = 0
        · subst hz0
          have cc2 := cc 0
          have HC := Lib.hid (apply1_any (g6 := g6) l wr (HRow.out.below stays_owned HB1r.out) (by rw [HnO.out]; exact hl') Hz.out (let ⟨mm, hmm⟩ := HE1.out.2.2; ⟨mm, hmm.below HB1r.out⟩) (below_block HB1r.out B6.out))
          clear cc2
          go_wp2_with fail
          refine HC.out.mono ?_
          rintro E w5 ⟨z5, rfl, hz5, hz511, hb5⟩
          have HA2 : Hid (AskAt live.data.toList (l.map oP) mb want.data.toList g16 w4 1 z5 w5) := Lib.hid (HA.out.one rfl hz5 hz511 hb5)
          clear hz5 hz511 hb5 HC HA cc
          go_wp2_with fail
          go_roundg 2
          case measure => omega
          case rel => exact ⟨1, z5, by omega, by go_num, rfl, HA2⟩
        · have HA2 : Hid (AskAt live.data.toList (l.map oP) mb want.data.toList g16 w4 1 z wr) := Lib.hid (HA.out.skip hz0)
          have q3 : (z == 0) = false := by rw [beq_eq_false_iff_ne]; exact hz0
          clear hz0 HA
          go_wp2_with fail
          go_roundg 2
          case measure => omega
          case rel => exact ⟨1, z, by omega, by go_num, rfl, HA2⟩
      · by_cases hz0 : z = 0
        · subst hz0
          have cc2 := cc 1
          have HC := Lib.hid (apply2_any (g7 := g6 + 1) (mkB mb) wr (by rw [mkB_size]; exact hmb) (below_block HB1r.out B7.out))
          obtain ⟨z5, hz5⟩ : ∃ z, NameP.check mb = z := ⟨_, rfl⟩
          rw [mkB_list, hz5] at HC
          have HA2 : Hid (AskAt live.data.toList (l.map oP) mb want.data.toList g16 w4 2 z5 wr) := Lib.hid (HA.out.two rfl hz5)
          clear hz5 cc2 HA
          go_wp2_with fail
          refine HC.out.mono ?_
          rintro E w5 ⟨rfl, rfl⟩
          clear HC cc
          go_wp2_with fail
          go_roundg 1
          case measure => omega
          case rel => exact ⟨2, z5, by omega, by go_num, rfl, HA2⟩
        · have HA2 : Hid (AskAt live.data.toList (l.map oP) mb want.data.toList g16 w4 2 z wr) := Lib.hid (HA.out.skip hz0)
          have q3 : (z == 0) = false := by rw [beq_eq_false_iff_ne]; exact hz0
          clear hz0 HA
          go_wp2_with fail
          go_roundg 1
          case measure => omega
          case rel => exact ⟨2, z, by omega, by go_num, rfl, HA2⟩
      · by_cases hz0 : z = 0
        · subst hz0
          have cc2 := cc 2
          obtain ⟨v0, hv0, _⟩ := HA.out.cell
          have HC := Lib.hid (apply3_any (g8 := g6 + 2) (g16 := g16) want wr hwt (below_block HB1r.out B8.out) hv0)
          clear hv0 cc2
          go_wp2_with fail
          refine HC.out.mono ?_
          rintro E w5 ⟨rfl, hwv, hon⟩
          have HA2 : Hid (AskAt live.data.toList (l.map oP) mb want.data.toList g16 w4 3 (JP.readL want.data.toList).2 w5) := Lib.hid (HA.out.three rfl hwv hon)
          obtain ⟨z5, hz5⟩ : ∃ z, (JP.readL want.data.toList).2 = z := ⟨_, rfl⟩
          rw [hz5] at HA2 ⊢
          clear hwv hon HC HA cc hz5
          go_wp2_with fail
          go_roundg 0
          case measure => omega
          case rel => exact ⟨3, z5, by omega, by go_num, rfl, HA2⟩
        · have HA2 : Hid (AskAt live.data.toList (l.map oP) mb want.data.toList g16 w4 3 z wr) := Lib.hid (HA.out.skip hz0)
          have q3 : (z == 0) = false := by rw [beq_eq_false_iff_ne]; exact hz0
          clear hz0 HA
          go_wp2_with fail
          go_roundg 0
          case measure => omega
          case rel => exact ⟨3, z, by omega, by go_num, rfl, HA2⟩
end Go.Proofs.YtdcmnpeabjallaaGreatDoor
namespace Go.Proofs.YtdcmnpeabjallaaGreatDoor
open Go.RowKit
end Go.Proofs.YtdcmnpeabjallaaGreatDoor
namespace Go.Proofs.YtdcmnpeabjallaaGreatDoor
open Go.RowKit
end Go.Proofs.YtdcmnpeabjallaaGreatDoor
namespace Go.Proofs.YtdcmnpeabjallaaGreatDoor
open Go.RowKit
open JP (JV Bs Lf)
def gP (x : JP.OwnP) : GOwned := ⟨mkB x.1, x.2.map mkB⟩
def Small (l : List GOwned) : Prop := l.length ≤ 1048576 ∧ ∀ x ∈ l, x.manager.size ≤ 1048576 ∧ x.paths.length ≤ 1048576 ∧ ∀ p ∈ x.paths, p.size ≤ 1048576
theorem tot_mem : ∀ {l : List ByteArray} {x : ByteArray}, x ∈ l → x.size + 1 ≤ total l
  | a :: r, x, h => by
    unfold total
    rw [List.map_cons, List.sum_cons]
    rcases List.mem_cons.1 h with rfl | h
    · omega
    · have := tot_mem h
      unfold total at this
      omega
theorem small_of_bulk {l : List GOwned} (h : (l.map ownedB).sum ≤ 1048576) : Small l := by
  have h1 : ∀ l : List GOwned, l.length ≤ (l.map ownedB).sum ∧ ∀ x ∈ l, ownedB x ≤ (l.map ownedB).sum := by
    intro l
    induction l with
    | nil => exact ⟨Nat.le_refl _, fun x h => by cases h⟩
    | cons a r ih =>
      rw [List.map_cons, List.sum_cons, List.length_cons]
      have hp : 1 ≤ ownedB a := by unfold ownedB; omega
      refine ⟨by omega, fun x hx => ?_⟩
      rcases List.mem_cons.1 hx with rfl | hx
      · omega
      · have := ih.2 x hx; omega
  obtain ⟨h2, h3⟩ := h1 l
  refine ⟨by omega, fun x hx => ?_⟩
  have h4 := h3 x hx
  have h6 : ownedB x = ((x.manager.size + 1) + ((total x.paths + 1) + 0)) + 1 := rfl
  have h5 := total_length x.paths
  refine ⟨by omega, by omega, fun p hp => ?_⟩
  have := tot_mem hp
  omega
theorem leaves_fit {W : List Leaf} {want : JV} (h : JP.IsLeaves W want) (hf : JP.Fit want) : ∀ x ∈ W, LeafFit x := fun x hx => by
  obtain ⟨r, e1, e2, e3, e4⟩ := JP.leaf_there want [] hf x (h.1.mem_iff.1 hx)
  rw [List.nil_append] at e1
  subst e1
  refine ⟨e3, ?_, fun s hs => ?_⟩
  · have := JP.at_deep (JP.atO_atW e2); have := hf.2.2.1; omega
  · have := JP.way_steps x.1 want x.2 (JP.fit_S hf) e2 s hs
    have := hf.2.2.2
    omega
theorem pathL_len {x : Leaf} (hx : LeafFit x) : (JP.pathL x).length ≤ 1048576 := by
  have h1 : joinL (x.1.map mkB) = JP.pathL x := joinL_mk x.1
  have h2 := joinL_len (x.1.map mkB)
  rw [h1, total_mk] at h2
  have h3 : ∀ l : List Bs, (∀ s ∈ l, s.length ≤ 2000) → (l.map fun s => s.length + 1).sum ≤ l.length * 2001 := by
    intro l
    induction l with
    | nil => intro _; simp
    | cons a r ih =>
      intro h
      rw [List.map_cons, List.sum_cons, List.length_cons]
      have := h a (List.mem_cons_self ..)
      have := ih fun s hs => h s (List.mem_cons_of_mem _ hs)
      omega
  have h4 := h3 x.1 hx.steps
  have h5 := hx.len
  omega
theorem told_small {live want s : Bs} {l : List GOwned} {L : List JP.OwnP} {m : Bs} {force : Bool} {bad : List Bs} {er : Int} (h : JP.ApplyIs live (l.map oP) m want force s L bad er) (hl : Small l) (hm : m.length ≤ 1048576) : Small (L.map gP) ∧ s.length ≤ 1048576 := by
  by_cases e : er = 0
  · subst e
    obtain ⟨ok, W, hW, _, h6, ht, rfl, rfl⟩ := h.yes rfl
    have hfw := JP.read_fit' ok.2.2.2.1
    have hfit := leaves_fit hW hfw
    have hwl : W.length ≤ 200 := by
      have h1 := JP.gat_len [] (JP.readL want).1
      have h2 := hfw.2.1
      rw [hW.1.length_eq]; omega
    refine ⟨⟨by rw [List.length_map]; omega, fun x hx => ?_⟩, by have := JP.tellT_len (JP.outV (JP.readL live).1 (l.map oP) m W); omega⟩
    obtain ⟨y, hy, rfl⟩ := List.mem_map.1 hx
    obtain ⟨_, hy⟩ := JP.fin_mem.1 hy
    show (mkB y.1).size ≤ _ ∧ (y.2.map mkB).length ≤ _ ∧ _
    rw [mkB_size, List.length_map]
    rcases hy with rfl | ⟨hy, _⟩
    · refine ⟨hm, by show (W.map _).length ≤ _; rw [List.length_map]; omega, fun p hp => ?_⟩
      obtain ⟨t, ht, rfl⟩ := List.mem_map.1 hp
      obtain ⟨z, hz, rfl⟩ := List.mem_map.1 ht
      rw [mkB_size]; exact pathL_len (hfit z hz)
    · obtain ⟨z, hz, e1, e2⟩ := JP.seize_mem hy
      obtain ⟨g, hg, rfl⟩ := List.mem_map.1 hz
      obtain ⟨s1, s2, s3⟩ := hl.2 g hg
      have hsub : ∀ t ∈ y.2, t ∈ (oP g).2 := fun t ht => by
        rcases e2 with ⟨_, e⟩ | ⟨_, e⟩
        · rw [e] at ht; exact ht
        · rw [e] at ht; exact (List.mem_filter.1 ht).1
      have hlen : y.2.length ≤ (oP g).2.length := by
        rcases e2 with ⟨_, e⟩ | ⟨_, e⟩
        · rw [e]; exact Nat.le_refl _
        · rw [e]; exact List.length_filter_le _ _
      refine ⟨?_, Nat.le_trans hlen (by show (g.paths.map _).length ≤ _; rw [List.length_map]; exact s2), fun p hp => ?_⟩
      · rw [← e1]
        show g.manager.data.toList.length ≤ _
        rw [Array.length_toList]; exact s1
      · obtain ⟨t, ht, rfl⟩ := List.mem_map.1 hp
        obtain ⟨q, hq, rfl⟩ := List.mem_map.1 (hsub t ht)
        rw [mkB_of]; exact s3 q hq
  · obtain ⟨rfl, rfl⟩ := h.no e
    exact ⟨⟨Nat.zero_le _, fun x hx => by cases hx⟩, Nat.zero_le _⟩
theorem told_row {lo : Nat} {wl w : World} {B : Nat} {v : Value} {L : List JP.OwnP} (h : OwnAt (OwnedX lo wl) 2 w B 30 v L) (hb : Below wl.heap.size wl w) : RowAt OwnedR 2 w v (L.map gP) := by
  rcases h.row with ⟨h1, h2⟩ | ⟨a, c, h1, h2, h3, h4⟩
  · exact .inl ⟨h1, by rw [h2]; rfl⟩
  · refine .inr ⟨a, c, by rw [List.length_map]; exact h1, by rw [List.length_map]; exact h2, h3, fun j x hx => ?_⟩
    rw [List.getElem?_map] at hx
    obtain ⟨y, hy, rfl⟩ := Option.map_eq_some_iff.1 hx
    obtain ⟨cs, g1, g2, v1, e1, e2⟩ := h4 j y hy
    exact ⟨cs, g1, g2, v1, e1, (e2.below stays_string hb).row.strs⟩
def AppTo (live : Bs) (l : List JP.OwnP) (m want : Bs) (force : Bool) (w : World) (e : Ending) (w' : World) : Prop :=
  ∃ (s : Bs) (vL : Value) (L : List JP.OwnP) (bad : List Bs) (er : Int), e = .returned (.tuple #[.string (mkB s), vL, .int .i64 er]) ∧ JP.ApplyIs live l m want force s L bad er ∧ RowAt OwnedR 2 w' vL (L.map gP) ∧ Below w.heap.size w w'
set_option maxRecDepth 100000 in
set_option maxHeartbeats 3200000 in
theorem applied_any (live want : ByteArray) (v : Value) (l : List GOwned) (mb : Bs) (force : Bool) (w : World) (h : RowAt OwnedR 2 w v l) (hs : Small l) (hlv : live.size ≤ 1048576) (hwt : want.size ≤ 1048576) (hmb : mb.length ≤ 1048576) (hE : Env w) :
    Calls Tryz.prog 9 #[.string live, v, .string (mkB mb), .string want, .bool force] w (AppTo live.data.toList (l.map oP) mb want.data.toList force w) := by
  have HA := Lib.hid (apply_any live want v l mb force w h hs.1 hs.2 hlv hwt hmb hE)
  obtain ⟨a1, c1, rfl, -, -⟩ := h.len
  clear h hs hE
  go_enter Tryz.func9, Tryz.ntmps9
  go_wp2_with fail
  refine HA.out.mono ?_
  rintro E w1 ⟨s, vL, vb, L, bad, er, wl, rfl, hI, hown, hwl, _, hb, _⟩
  have hrow := told_row hown hwl
  obtain ⟨a2, c2, rfl, -, -⟩ := hrow.len
  obtain ⟨n2, hn2⟩ : ∃ n, (L.map gP).length = n := ⟨_, rfl⟩
  rw [hn2] at hrow ⊢
  clear hn2
  have HI := Lib.hid hI
  have HR := Lib.hid hrow
  have HB := Lib.hid hb
  clear hI hown hwl hb hrow HA
  go_wp2_with fail
  go_ret3
  exact ⟨s, _, L, bad, er, rfl, HI.out, HR.out, HB.out⟩
theorem read_one : JP.readL [49] = (.num 1, 0) := by
  have h3 : JP.text (.num 1) = [49] := by decide +kernel
  have h : JP.Fit (.num 1) := ⟨by rw [JP.wf]; exact ⟨by decide, by decide⟩, by decide, by decide, by rw [h3]; decide⟩
  have h2 := JP.fit_read h
  rw [h3] at h2; exact h2
theorem read_braces : JP.readL [123, 125] = (.obj [], 0) := by
  have h : JP.Fit (.obj []) := ⟨by rw [JP.wf]; exact ⟨List.Pairwise.nil, by rw [JP.wfF]; trivial⟩, by decide, by decide, by decide⟩
  have h2 := JP.fit_read h
  have h3 : JP.text (.obj []) = [123, 125] := by decide
  rw [h3] at h2; exact h2
set_option maxRecDepth 100000 in
set_option maxHeartbeats 3200000 in
theorem awry_any (w : World) (hE : Env w) : Calls Tryz.prog 10 #[] w fun e w' => e = .returned (.bool true) ∧ Below w.heap.size w w' := by
  have HA := Lib.hid (apply_any ⟨#[49]⟩ ⟨#[123, 125]⟩ (.slice none 0 0) [] [97] false w (.inl ⟨rfl, rfl⟩) (by decide) (fun x hx => by cases hx) (by decide) (by decide) (by decide) hE)
  clear hE
  go_enter Tryz.func10, Tryz.ntmps10
  go_wp2_with fail
  refine HA.out.mono ?_
  rintro E w1 ⟨s, vL, vb, L, bad, er, wl, rfl, _, hown, _, hvb, hb, hk⟩
  have her : er = 8 := hk (by show (JP.readL [49]).2 = 0; rw [read_one]) ⟨Nat.zero_le _, List.Pairwise.nil, fun _ h => by cases h⟩ (by decide) (by show (JP.readL [123, 125]).2 = 0; rw [read_braces]) (fun h => by
    have h1 : JP.kind (JP.readL [49]).1 = 6 := h.1
    rw [read_one] at h1; exact absurd h1 (by decide))
  subst her
  obtain ⟨a2, c2, rfl, -, -⟩ := hown.row.len
  obtain ⟨a3, c3, rfl, -, -⟩ := hvb.row.len
  have HB := Lib.hid hb
  clear hown hb hk hvb HA
  go_wp2_with fail
  go_ret
  exact ⟨rfl, HB.out⟩
end Go.Proofs.YtdcmnpeabjallaaGreatDoor
namespace Go.Proofs.YtdcmnpeabjallaaGreatDoor
open Go.RowKit
open JP (JV Bs Lf)
theorem had_none {l : List JP.OwnP} {m : Bs} (h : ∀ x ∈ l, x.1 ≠ m) : JP.had l m = [] := by
  unfold JP.had
  rw [List.find?_eq_none.2 fun x hx => by simpa using h x hx]; rfl
theorem had_first {l : List JP.OwnP} {m : Bs} {i : Nat} {x : JP.OwnP} (hx : l[i]? = some x) (hm : x.1 = m) (h : ∀ y ∈ l.take i, y.1 ≠ m) : JP.had l m = x.2 := by
  unfold JP.had
  rw [find_at (p := fun y : JP.OwnP => y.1 == m) hx (by simpa using hm) fun y hy => by simpa using h y hy]; rfl
set_option maxRecDepth 100000 in
set_option maxHeartbeats 3200000 in
theorem had_any (v : Value) (l : List GOwned) (mb : Bs) (w : World) (h : RowAt OwnedR 2 w v l) (hl : l.length ≤ 1048576) :
    Calls Tryz.prog 17 #[v, .string (mkB mb)] w fun e w' => ∃ u, e = .returned u ∧ StrAt w' u ((JP.had (l.map oP) mb).map mkB) ∧ Below w.heap.size w w' := by
  obtain ⟨a1, c1, rfl, -, -⟩ := h.len
  obtain ⟨nl, hnl⟩ : ∃ n, l.length = n := ⟨_, rfl⟩
  rw [hnl] at h hl ⊢
  have HS := Lib.hid h
  have Hnl := Lib.hid hnl
  clear h hnl
  go_enter Tryz.func17, Tryz.ntmps17
  go_wp2_with fail
  go_loopg [9] nl (fun k u9 wr => ∃ i : Nat, i + k = nl ∧ u9 = .int .i64 (i : Int) ∧ Hid (∀ y ∈ (l.map oP).take i, y.1 ≠ mb) ∧ Hid (Below w.heap.size w wr))
  case atStart => exact ⟨0, by omega, rfl, Lib.hid (fun y hy => by rw [List.take_zero] at hy; cases hy), Lib.hid (Below.refl _ _)⟩
  case round =>
    obtain ⟨i, hik, rfl, HP, Hbel⟩ := hrel
    cases gk with
    | zero =>
      obtain rfl : nl = i := by omega
      have Hn : Hid (JP.had (l.map oP) mb = []) := Lib.hid (had_none fun x hx => HP.out x (by rw [List.take_of_length_le (by rw [List.length_map, Hnl.out]; exact Nat.le_refl _)]; exact hx))
      clear HP
      go_wp2_with fail
      go_ret
      exact ⟨_, rfl, by rw [Hn.out]; exact .inl ⟨rfl, rfl⟩, Hbel.out⟩
    | succ k =>
      have hil : i < nl := by omega
      obtain ⟨x, hxi⟩ : ∃ x, l[i]? = some x := ⟨l[i]'(by rw [Hnl.out]; exact hil), List.getElem?_eq_getElem _⟩
      obtain ⟨bb, o, c', hv, _, _, hbs, hcell⟩ := HS.out.form (by rw [Hnl.out]; omega) (by omega)
      injection hv with u1 u2 u3
      subst u1
      clear u2 u3
      obtain ⟨ds, _, hcc, v1, rfl, hst⟩ := hcell i x hxi
      obtain ⟨sa, sc, rfl, -, -⟩ := hst.row.len
      obtain ⟨sn, hsn⟩ : ∃ sn, x.paths.length = sn := ⟨_, rfl⟩
      rw [hsn] at hcc hst
      have e0 : wr.cell? ⟨bb, o + i * 2, none⟩ = some (.string x.manager) := (Hbel.out.cell (p := ⟨bb, _, none⟩) hbs).trans (by simpa using hcc 0 _ rfl)
      have e1 : wr.cell? ⟨bb, o + i * 2 + 1, none⟩ = some (.slice sa sn sc) := (Hbel.out.cell (p := ⟨bb, _, none⟩) hbs).trans (hcc 1 _ rfl)
      have hLi : (l.map oP)[i]? = some (oP x) := by rw [List.getElem?_map, hxi]; rfl
      have q1 : (0 : Int) ≤ (i : Int) := by omega
      have q2 : (i : Int) < (nl : Int) := by omega
      obtain ⟨w2, hw2⟩ : ∃ w2, w2 = wr.alloc (.cells #[.string x.manager, .slice sa sn sc] 30) := ⟨_, rfl⟩
      obtain ⟨gx, hgx⟩ : ∃ gx, gx = wr.heap.size := ⟨_, rfl⟩
      have b2 : w2.heap[gx]? = some (.cells #[.string x.manager, .slice sa sn sc] 30 (0, 0)) := by rw [hw2, hgx]; exact heap_alloc_new wr _
      have hb2 : Below wr.heap.size wr w2 := by rw [hw2]; exact (Below.refl _ wr).alloc (Nat.le_refl _) _
      have hb12 := Hbel.out.trans (hb2.mono Hbel.out.size)
      have HB2 := Lib.hid hb12
      have HSt : Hid (StrAt w2 (.slice sa sn sc) ((oP x).2.map mkB)) := Lib.hid (by
        show StrAt w2 _ ((x.paths.map (·.data.toList)).map mkB)
        rw [paths_back]; exact hst.below hb12)
      have eq1 : (x.manager.toList == (mkB mb).toList) = decide ((oP x).1 = mb) := by
        rw [ByteArray.toList_eq, ByteArray.toList_eq, mkB_list, Bool.eq_iff_iff, beq_iff_eq, decide_eq_true_iff]; rfl
      obtain ⟨km, Hkm⟩ : ∃ km, Hid (decide ((oP x).1 = mb) = km) := ⟨_, Lib.hid rfl⟩
      rw [Hkm.out] at eq1
      have HLi := Lib.hid hLi
      have cc := fun i => cell_block b2 i
      clear hcc hcell hst hb2 hb12 hsn hbs hLi b2 hxi
      go_upto_region 4 with fail
      rw [← hw2]
      try rw [← hgx]
      clear hw2 hgx e0 e1
      cases km with
      | true =>
        have Hh : Hid (JP.had (l.map oP) mb = (oP x).2) := Lib.hid (had_first HLi.out (of_decide_eq_true Hkm.out) HP.out)
        clear HP
        go_wp2_with fail
        go_ret
        exact ⟨_, rfl, by rw [Hh.out]; exact HSt.out, HB2.out⟩
      | false =>
        have HP2 : Hid (∀ y ∈ (l.map oP).take (i + 1), y.1 ≠ mb) := Lib.hid fun y hy => by
          rw [List.take_add_one, HLi.out] at hy
          rcases List.mem_append.1 hy with hy | hy
          · exact HP.out y hy
          · have : y = oP x := by simpa using hy
            rw [this]
            exact of_decide_eq_false Hkm.out
        clear HP
        go_wp2_with fail
        go_roundg k
        case measure => omega
        case rel => exact ⟨i + 1, by omega, by go_num, HP2, HB2⟩
end Go.Proofs.YtdcmnpeabjallaaGreatDoor
namespace Go.Proofs.YtdcmnpeabjallaaGreatDoor
open Go.RowKit
open JP (JV Bs Lf)
theorem leavesW_any {W : List Leaf} (s : ByteArray) (w : World) (hs : s.size ≤ 1048576) (hm : ∃ m, MaxOK m w) (h0 : (JP.readL s.data.toList).2 = 0) (hk : JP.kind (JP.readL s.data.toList).1 = 6) (hW : JP.IsLeaves W (JP.readL s.data.toList).1) :
    Calls Tryz.prog 14 #[.string s] w fun e w' => ∃ v, e = .returned (.tuple #[v, .int .i64 0]) ∧ StrAt w' v ((W.map JP.pathL).map mkB) ∧ Below w.heap.size w w' := by
  refine (leavesDoc_any s w hs hm).mono ?_
  rintro E w' ⟨v, l', rfl, hp, hr, ho, hb⟩
  have hf := JP.read_fit' h0
  have hp2 : l'.Perm (JP.gat [] (JP.readL s.data.toList).1) := by unfold leavesL at hp; rw [if_pos h0] at hp; exact hp
  obtain ⟨hI, hF⟩ := leaves_is hp2 hr hf hk
  have := JP.leaves_one hI hW
  subst this
  refine ⟨v, by rw [h0], ?_, hb⟩
  have e : (l'.map fun p => mkB (pathP p.1)) = (l'.map JP.pathL).map mkB := by
    rw [List.map_map]
    exact List.map_congr_left fun x hx => by show mkB (pathP x.1) = mkB (JP.pathL x); rw [(hF x hx).path]
  rw [← e]
  exact ho.row.strs
end Go.Proofs.YtdcmnpeabjallaaGreatDoor
