/- Texts of ours joined: BigTell, SchemaFillW, SchemaSoundWalk. -/
import Derived.Deep.LoopGhost
import Derived.Deep.DeepCutAuto
import Derived.IntWalk
import Derived.Lib.AppendIntMem
import Derived.Test.YtnmhjabihfhobaaGreatDoorMq11
set_option linter.unusedVariables false
set_option linter.unusedSimpArgs false
/- tree.Tell, for values whose texts may be long. -/
namespace Go.Proofs.YtnmhjabihfhobaaGreatDoor
open Go.RowKit
open JP (JV Bs)

set_option maxRecDepth 100000 in
set_option maxHeartbeats 3200000 in
theorem quote_big (s : ByteArray) (w : World) (hs : s.size ≤ 1099511627776) :
  Calls Tryz.prog 60 #[.string s] w fun e w' => e = .returned (.string (mkB (JP.quote s.data.toList))) ∧ Below w.heap.size w w' := by
 obtain ⟨i0, hi0, hz0, hz1, hz2⟩ := info_parts Tryz.infoU8
 have hel : ∀ i, i ≤ s.size → (34 :: (s.data.toList.take i).flatMap JP.escB).length ≤ 2 * i + 1 := fun i hi => by
  have hone : ∀ c, (JP.escB c).length ≤ 2 := fun c => by unfold JP.escB; split <;> first | (simp; done) | (split <;> first | (simp; done) | (split <;> simp))
  have hgen : ∀ l : Bs, (l.flatMap JP.escB).length ≤ 2 * l.length := fun l => by
   induction l with
   | nil => simp
   | cons c r ih => rw [List.flatMap_cons, List.length_append, List.length_cons]; have := hone c; omega
  have := hgen (s.data.toList.take i)
  rw [List.length_take] at this
  rw [List.length_cons]
  omega
 have Hel := Lib.hid hel
 clear hel
 go_enter Tryz.func60, Tryz.ntmps60
 obtain ⟨w0, hw0⟩ : ∃ w0, w0 = w.alloc (.cells #[.int .u8 34] 5) := ⟨_, rfl⟩
 have h0 : OwnAt RU8 1 w0 w.heap.size 5 (.slice (some ⟨w.heap.size, 0, none⟩) 1 1) [34] := by
  refine ⟨[[.int .u8 34]], rfl, fun cs hcs => by rw [List.mem_singleton.1 hcs]; rfl, ⟨rfl, .inr ⟨w.heap.size, 1, #[.int .u8 34], rfl, Nat.le_refl _, by rw [hw0]; exact heap_alloc_new w _, Nat.le_refl _, by unfold maxLen; decide, rfl, rfl⟩⟩, fun j cs x hcs hx => ?_⟩
  match j, hcs, hx with
  | 0, hcs, hx =>
   simp at hcs hx
   subst hcs
   subst hx
   rfl
 have hb0 : Below w.heap.size w w0 := by rw [hw0]; exact (Below.refl _ _).alloc (Nat.le_refl _) _
 have H0 := Lib.hid h0
 have Hb0 := Lib.hid hb0
 clear h0 hb0
 go_upto_region 2 with fail
 rw [← hw0]
 clear hw0
 go_wp2_with fail
 go_loopg [3, 9] s.size (fun k u3 u9 wr => ∃ i : Nat, i + k = s.size ∧ u9 = .int .i64 (i : Int) ∧ Hid (OwnAt RU8 1 wr w.heap.size 5 u3 (34 :: (s.data.toList.take i).flatMap JP.escB)) ∧ Hid (Below w.heap.size w wr))
 case atStart => exact ⟨0, by omega, rfl, H0, Hb0⟩
 case round =>
  obtain ⟨i, hik, rfl, Hown, Hbel⟩ := hrel
  have hl1 := Hel.out i (by omega)
  have hbs := Hbel.out.size
  obtain ⟨L, HL⟩ : ∃ L, Hid (34 :: (s.data.toList.take i).flatMap JP.escB = L) := ⟨_, Lib.hid rfl⟩
  rw [HL.out] at Hown hl1
  cases gk with
  | zero =>
   obtain rfl : i = s.size := by omega
   have HLq : Hid (L ++ [34] = JP.quote s.data.toList) := Lib.hid (by
    rw [← HL.out, List.take_of_length_le (by simp)]
    rfl)
   obtain ⟨w1, hw1⟩ : ∃ w1, w1 = wr.alloc (.cells #[.int .u8 34] 5) := ⟨_, rfl⟩
   have hb1 : Below wr.heap.size wr w1 := by rw [hw1]; exact (Below.refl _ _).alloc (Nat.le_refl _) _
   have h1 : RowAt RU8 1 w1 (.slice (some ⟨wr.heap.size, 0, none⟩) 1 1) [34] := row_u8 (l := [34]) (by rw [hw1]; exact heap_alloc_new wr _) (by unfold maxLen; simp)
   have Ho1 := Lib.hid (Hown.out.below stays_u8 hb1)
   have H1 := Lib.hid h1
   have Hb1 := Lib.hid (Hbel.out.trans (hb1.mono hbs))
   clear h1 hb1
   go_upto_region 16 with fail
   go_wp2_with (at_builtin; rw [← hw1]; refine wpList_append_ownAt (R := RU8) (k := 1) (e := 5) (B := w.heap.size) (l := L) (m := [34]) _ (by rfl) _ _ _ (by rfl) i0 _ 1 Tryz.underlying154 hi0 hz0 hz1 hz2 rfl (by omega) flat_u8 one_u8 _ (by rfl) Ho1.out _ (by rfl) H1.out (by unfold maxLen; simp; omega) (by simp; omega) (by have := Hb1.out.size; omega) ?_)
   intro v' w2 hv' hg hr _
   rw [← hw1] at hg
   have hb2 : Below w.heap.size w w2 := below_of_grown Hb1.out (by have := Hb1.out.size; omega) hg hr
   have Hb2 := Lib.hid hb2
   have hcv := run_convert_own w2 154 9 5 Tryz.underlying154 Tryz.underlying5 Tryz.underlying9 (own_u8 hv')
   clear hv' hg hr hb2 hw1
   go_wp2_with fail
   go_ret
   exact ⟨by rw [HLq.out]; rfl, Hb2.out⟩
  | succ k =>
   have hil : i < s.size := by omega
   have q1 : (0 : Int) ≤ (i : Int) := by omega
   have q2 : (i : Int) < (s.size : Int) := by omega
   have HS := Lib.hid (esc_snoc hil)
   rw [HL.out] at HS
   by_cases h34 : s[i].toNat = 34
   ·have he : s[i] = 34 := u8_eq h34
    have hesc : JP.escB s[i] = [92, 34] := by rw [he]; rfl
    have HE := Lib.hid hesc
    clear he hesc
    have HS2 : Hid (34 :: (s.data.toList.take (i + 1)).flatMap JP.escB = L ++ [92, 34]) := Lib.hid (by rw [HS.out, HE.out])
    clear HS
    go_wp2_with (at_builtin; refine wpList_append_ownAt (R := RU8) (k := 1) (e := 5) (B := w.heap.size) (l := L) (m := [92, 34]) _ (by rfl) _ _ _ (by rfl) i0 _ 1 Tryz.underlying154 hi0 hz0 hz1 hz2 rfl (by omega) flat_u8 one_u8 _ (by rfl) (Hown.out.alloc stays_u8 _) (.slice (some ⟨wr.heap.size, 0, none⟩) 2 2) (by rfl) (row_u8 (l := [92, 34]) (heap_alloc_new wr _) (by unfold maxLen; simp)) (by unfold maxLen; simp; omega) (by simp; omega) (by simp; omega) ?_)
    intro v' w2 hv' hg hr _
    have hb2 : Below w.heap.size w w2 := below_of_grown (Hbel.out.alloc hbs _) (by simp; omega) hg hr
    have Hb2 := Lib.hid hb2
    have Hv : Hid (OwnAt RU8 1 w2 w.heap.size 5 v' (34 :: (s.data.toList.take (i + 1)).flatMap JP.escB)) := Lib.hid (by rw [HS2.out]; exact hv')
    clear hv' hg hr hb2 HS2
    go_wp2_with fail
    go_roundg k
    case measure => omega
    case rel => exact ⟨i + 1, by omega, by go_num, Hv, Hb2⟩
   ·have n34 : ((s[i].toNat : Int) == 34) = false := by rw [beq_eq_false_iff_ne]; omega
    by_cases h92 : s[i].toNat = 92
    ·have he : s[i] = 92 := u8_eq h92
     have hesc : JP.escB s[i] = [92, 92] := by rw [he]; rfl
     have HE := Lib.hid hesc
     clear he hesc n34 h34
     have HS2 : Hid (34 :: (s.data.toList.take (i + 1)).flatMap JP.escB = L ++ [92, 92]) := Lib.hid (by rw [HS.out, HE.out])
     clear HS
     go_wp2_with (at_builtin; refine wpList_append_ownAt (R := RU8) (k := 1) (e := 5) (B := w.heap.size) (l := L) (m := [92, 92]) _ (by rfl) _ _ _ (by rfl) i0 _ 1 Tryz.underlying154 hi0 hz0 hz1 hz2 rfl (by omega) flat_u8 one_u8 _ (by rfl) (Hown.out.alloc stays_u8 _) (.slice (some ⟨wr.heap.size, 0, none⟩) 2 2) (by rfl) (row_u8 (l := [92, 92]) (heap_alloc_new wr _) (by unfold maxLen; simp)) (by unfold maxLen; simp; omega) (by simp; omega) (by simp; omega) ?_)
     intro v' w2 hv' hg hr _
     have hb2 : Below w.heap.size w w2 := below_of_grown (Hbel.out.alloc hbs _) (by simp; omega) hg hr
     have Hb2 := Lib.hid hb2
     have Hv : Hid (OwnAt RU8 1 w2 w.heap.size 5 v' (34 :: (s.data.toList.take (i + 1)).flatMap JP.escB)) := Lib.hid (by rw [HS2.out]; exact hv')
     clear hv' hg hr hb2 HS2
     go_wp2_with fail
     go_roundg k
     case measure => omega
     case rel => exact ⟨i + 1, by omega, by go_num, Hv, Hb2⟩
    ·have n92 : ((s[i].toNat : Int) == 92) = false := by rw [beq_eq_false_iff_ne]; omega
     by_cases h10 : s[i].toNat = 10
     ·have he : s[i] = 10 := u8_eq h10
      have hesc : JP.escB s[i] = [92, 110] := by rw [he]; rfl
      have HE := Lib.hid hesc
      clear he hesc n34 h34 n92 h92
      have HS2 : Hid (34 :: (s.data.toList.take (i + 1)).flatMap JP.escB = L ++ [92, 110]) := Lib.hid (by rw [HS.out, HE.out])
      clear HS
      go_wp2_with (at_builtin; refine wpList_append_ownAt (R := RU8) (k := 1) (e := 5) (B := w.heap.size) (l := L) (m := [92, 110]) _ (by rfl) _ _ _ (by rfl) i0 _ 1 Tryz.underlying154 hi0 hz0 hz1 hz2 rfl (by omega) flat_u8 one_u8 _ (by rfl) (Hown.out.alloc stays_u8 _) (.slice (some ⟨wr.heap.size, 0, none⟩) 2 2) (by rfl) (row_u8 (l := [92, 110]) (heap_alloc_new wr _) (by unfold maxLen; simp)) (by unfold maxLen; simp; omega) (by simp; omega) (by simp; omega) ?_)
      intro v' w2 hv' hg hr _
      have hb2 : Below w.heap.size w w2 := below_of_grown (Hbel.out.alloc hbs _) (by simp; omega) hg hr
      have Hb2 := Lib.hid hb2
      have Hv : Hid (OwnAt RU8 1 w2 w.heap.size 5 v' (34 :: (s.data.toList.take (i + 1)).flatMap JP.escB)) := Lib.hid (by rw [HS2.out]; exact hv')
      clear hv' hg hr hb2 HS2
      go_wp2_with fail
      go_roundg k
      case measure => omega
      case rel => exact ⟨i + 1, by omega, by go_num, Hv, Hb2⟩
     ·have n10 : ((s[i].toNat : Int) == 10) = false := by rw [beq_eq_false_iff_ne]; omega
      by_cases h9 : s[i].toNat = 9
      ·have he : s[i] = 9 := u8_eq h9
       have hesc : JP.escB s[i] = [92, 116] := by rw [he]; rfl
       have HE := Lib.hid hesc
       clear he hesc n34 h34 n92 h92 n10 h10
       have HS2 : Hid (34 :: (s.data.toList.take (i + 1)).flatMap JP.escB = L ++ [92, 116]) := Lib.hid (by rw [HS.out, HE.out])
       clear HS
       go_wp2_with (at_builtin; refine wpList_append_ownAt (R := RU8) (k := 1) (e := 5) (B := w.heap.size) (l := L) (m := [92, 116]) _ (by rfl) _ _ _ (by rfl) i0 _ 1 Tryz.underlying154 hi0 hz0 hz1 hz2 rfl (by omega) flat_u8 one_u8 _ (by rfl) (Hown.out.alloc stays_u8 _) (.slice (some ⟨wr.heap.size, 0, none⟩) 2 2) (by rfl) (row_u8 (l := [92, 116]) (heap_alloc_new wr _) (by unfold maxLen; simp)) (by unfold maxLen; simp; omega) (by simp; omega) (by simp; omega) ?_)
       intro v' w2 hv' hg hr _
       have hb2 : Below w.heap.size w w2 := below_of_grown (Hbel.out.alloc hbs _) (by simp; omega) hg hr
       have Hb2 := Lib.hid hb2
       have Hv : Hid (OwnAt RU8 1 w2 w.heap.size 5 v' (34 :: (s.data.toList.take (i + 1)).flatMap JP.escB)) := Lib.hid (by rw [HS2.out]; exact hv')
       clear hv' hg hr hb2 HS2
       go_wp2_with fail
       go_roundg k
       case measure => omega
       case rel => exact ⟨i + 1, by omega, by go_num, Hv, Hb2⟩
      ·have n9 : ((s[i].toNat : Int) == 9) = false := by rw [beq_eq_false_iff_ne]; omega
       have hesc : JP.escB s[i] = [s[i]] := by
        have ne : ∀ (c : UInt8), s[i].toNat ≠ c.toNat → s[i] ≠ c := fun c h e => h (by rw [e])
        unfold JP.escB
        rw [if_neg (fun h => h.elim (ne 34 h34) (ne 92 h92)), if_neg (ne 10 h10), if_neg (ne 9 h9)]
       have HE := Lib.hid hesc
       clear hesc h34 h92 h10 h9
       have HS2 : Hid (34 :: (s.data.toList.take (i + 1)).flatMap JP.escB = L ++ [s[i]]) := Lib.hid (by rw [HS.out, HE.out])
       clear HS
       go_wp2_with (at_builtin; refine wpList_append_ownAt (R := RU8) (k := 1) (e := 5) (B := w.heap.size) (l := L) (m := [s[i]]) _ (by rfl) _ _ _ (by rfl) i0 _ 1 Tryz.underlying154 hi0 hz0 hz1 hz2 rfl (by omega) flat_u8 one_u8 _ (by rfl) (Hown.out.alloc stays_u8 _) (.slice (some ⟨wr.heap.size, 0, none⟩) 1 1) (by rfl) (row_u8 (l := [s[i]]) (heap_alloc_new wr _) (by unfold maxLen; simp)) (by unfold maxLen; simp; omega) (by simp; omega) (by simp; omega) ?_)
       intro v' w2 hv' hg hr _
       have hb2 : Below w.heap.size w w2 := below_of_grown (Hbel.out.alloc hbs _) (by simp; omega) hg hr
       have Hb2 := Lib.hid hb2
       have Hv : Hid (OwnAt RU8 1 w2 w.heap.size 5 v' (34 :: (s.data.toList.take (i + 1)).flatMap JP.escB)) := Lib.hid (by rw [HS2.out]; exact hv')
       clear hv' hg hr hb2 HS2
       go_wp2_with fail
       go_roundg k
       case measure => omega
       case rel => exact ⟨i + 1, by omega, by go_num, Hv, Hb2⟩
set_option maxRecDepth 100000 in
set_option maxHeartbeats 3200000 in
theorem stands_big (s : ByteArray) (w : World) (hs : s.size ≤ 1099511627776) :
  Calls Tryz.prog 85 #[.string s] w fun e w' => e = .returned (.bool (s.data.toList.all JP.stand)) ∧ w = w' := by
 obtain ⟨R, hR⟩ : ∃ R, s.data.toList.all JP.stand = R := ⟨_, rfl⟩
 rw [hR]
 have HR := Lib.hid hR
 clear hR
 go_enter Tryz.func85, Tryz.ntmps85
 go_wp2_with fail
 go_loopg [7] s.size (fun k u7 wx => ∃ i : Nat, i + k = s.size ∧ u7 = .int .i64 (i : Int) ∧ Hid ((s.data.toList.take i).all JP.stand = true) ∧ w = wx)
 case atStart => exact ⟨0, by omega, rfl, Lib.hid (by rw [List.take_zero]; rfl), rfl⟩
 case round =>
  obtain ⟨i, hig, rfl, HA, rfl⟩ := hrel
  cases gk with
  | zero =>
   have q1 : ¬ (i : Int) < (s.size : Int) := by omega
   have Hall : Hid (s.data.toList.all JP.stand = true) := Lib.hid (by have h := HA.out; rwa [List.take_of_length_le (by rw [list_size]; omega)] at h)
   clear HA hig
   go_wp2_with fail
   go_ret
   exact ⟨ret_bool2 (Hall.out.symm.trans HR.out), rfl⟩
  | succ k =>
   have hil : i < s.size := by omega
   have q0 : decide (i < s.size) = true := decide_eq_true hil
   have q1 : (i : Int) < (s.size : Int) := by omega
   have q2 : (0 : Int) ≤ (i : Int) := by omega
   have hwr : IntKind.i64.wrap ((i : Int) + 1) = (i : Int) + 1 := IntWalk.i64_in _ (by omega)
   have hsn := stand_nat s[i]
   cases hst : JP.stand s[i] with
   | false =>
    rw [hst] at hsn
    replace hsn := hsn.symm
    simp only [Bool.or_eq_false_iff, decide_eq_false_iff_not] at hsn
    obtain ⟨⟨m1, m2⟩, m3⟩ := hsn
    have e10 : ((s[i].toNat : Int) != 10) = true := by rw [bne_iff_ne]; omega
    have e9 : ((s[i].toNat : Int) != 9) = true := by rw [bne_iff_ne]; omega
    have Hno := Lib.hid (not_all hil hst)
    clear hst HA hig
    by_cases l1 : s[i].toNat < 32
    ·have p1 : (s[i].toNat : Int) < 32 := by omega
     have p2 : decide ((s[i].toNat : Int) < 32) = true := decide_eq_true p1
     clear m1 m2 m3
     go_wp2_with fail
     go_ret
     exact ⟨ret_bool2 (Hno.out.symm.trans HR.out), rfl⟩
    ·have p1 : ¬ (s[i].toNat : Int) < 32 := by omega
     have p2 : decide ((s[i].toNat : Int) < 32) = false := decide_eq_false p1
     have p3 : (126 : Int) < (s[i].toNat : Int) := by omega
     have p4 : decide ((126 : Int) < (s[i].toNat : Int)) = true := decide_eq_true p3
     clear m1 m2 m3
     go_wp2_with fail
     go_ret
     exact ⟨ret_bool2 (Hno.out.symm.trans HR.out), rfl⟩
   | true =>
    rw [hst] at hsn
    replace hsn := hsn.symm
    simp only [Bool.or_eq_true, decide_eq_true_eq] at hsn
    have HA2 := Lib.hid (all_take hil HA.out hst)
    clear hst HA
    rcases hsn with (⟨m1, m2⟩ | m1) | m1
    ·have p1 : ¬ (s[i].toNat : Int) < 32 := by omega
     have p2 : decide ((s[i].toNat : Int) < 32) = false := decide_eq_false p1
     have p3 : ¬ (126 : Int) < (s[i].toNat : Int) := by omega
     have p4 : decide ((126 : Int) < (s[i].toNat : Int)) = false := decide_eq_false p3
     clear m1 m2
     go_wp2_with fail
     go_roundg k
     case measure => omega
     case rel => exact ⟨i + 1, by omega, by go_num, HA2, rfl⟩
    ·go_wp2_with fail
     go_roundg k
     case measure => omega
     case rel => exact ⟨i + 1, by omega, by go_num, HA2, rfl⟩
    ·go_wp2_with fail
     go_roundg k
     case measure => omega
     case rel => exact ⟨i + 1, by omega, by go_num, HA2, rfl⟩
set_option maxRecDepth 100000 in
set_option maxHeartbeats 6400000 in
theorem text_big : ∀ (n : Nat) (v : Value) (x : JV) (w : World), JvAt n [] w v x → (JP.text x).length ≤ 1073741824 → TabOK w →
  Calls Tryz.prog 32 #[v] w fun e w' => e = .returned (.string (mkB (JP.text x))) ∧ Below w.heap.size w w' := by
 intro n
 induction n with
 | zero => intro v x w h; cases h
 | succ n ih =>
  intro v x w h hlen htab
  have IH := Lib.hid ih
  have Htab := Lib.hid htab
  clear ih htab
  obtain ⟨i0, hi0, hz0, hz1, hz2⟩ := info_parts Tryz.infoStr
  cases x with
  | nul =>
   obtain rfl : v = .nilIface := h
   obtain ⟨g1, g2, g3, g4, g5⟩ := as_nil
   clear hlen
   go_enter Tryz.func32, Tryz.ntmps32
   go_wp2_with fail
   go_ret
   exact ⟨rfl, Below.refl _ _⟩
  | bool b =>
   obtain rfl : v = .iface 4 (.bool b) := h
   obtain ⟨g1, g2, g3, g4, g5⟩ := as_bool (.bool b)
   clear hlen
   go_enter Tryz.func32, Tryz.ntmps32
   go_wp2_with fail
   refine (Tryz.strconv_FormatBool b w).mono ?_
   rintro E w1 ⟨rfl, rfl⟩
   go_wp2_with fail
   go_ret
   exact ⟨ret_mk (formatBool_text b), Below.refl _ _⟩
  | num k =>
   obtain ⟨rfl, k0, k1⟩ := h
   obtain ⟨g1, g2, g3, g4, g5⟩ := as_int64 (.int .i64 k)
   clear hlen
   go_enter Tryz.func32, Tryz.ntmps32
   go_wp2_with fail
   refine (Tryz.strconv_FormatInt_10 k k0 k1 w Htab.out).mono ?_
   rintro E w1 ⟨rfl, q, os, hw1⟩
   have hb1 : Below w.heap.size w w1 := by rw [hw1]; exact Lib.below_grow _ _ (Nat.le_refl _) _ _
   have Hb1 := Lib.hid hb1
   clear hw1 hb1
   go_wp2_with fail
   go_ret
   exact ⟨ret_mk (by rw [JP.text]), Hb1.out⟩
  | str s =>
   obtain rfl : v = .iface 9 (.string (mkB s)) := h
   obtain ⟨g1, g2, g3, g4, g5⟩ := as_string (.string (mkB s))
   have hs : (mkB s).size ≤ 1073741824 := by
    rw [mkB_size]
    rw [JP.text] at hlen
    have := quote_size s
    omega
   have HQ := Lib.hid (quote_big (mkB s) w (Nat.le_trans hs (by decide)))
   clear hlen hs
   go_enter Tryz.func32, Tryz.ntmps32
   go_wp2_with fail
   refine HQ.out.mono ?_
   rintro E w1 ⟨rfl, hb1⟩
   have Hb1 := Lib.hid hb1
   clear hb1
   go_wp2_with fail
   go_ret
   exact ⟨ret_mk (by rw [JP.text, mkB_list]), Hb1.out⟩
  | list l =>
   obtain ⟨u, rfl, hrow, _⟩ := h
   obtain ⟨a, c, rfl, _, _⟩ := hrow.len
   obtain ⟨g1, g2, g3, g4, g5⟩ := as_list (.slice a l.length c)
   have h1 := lenL_text l
   have h2 := lenL_len l
   have hll : l.length ≤ 1073741824 := by omega
   have Hlen : Hid (JP.lenL l ≤ 1073741824) := Lib.hid (by omega)
   have Hrow := Lib.hid hrow
   have hjl : (Lib.join (JP.textL l) [44]).length ≤ 1073741824 := by
    have : (JP.text (.list l)).length = (Lib.join (JP.textL l) [44]).length + 2 := by rw [JP.text]; simp
    omega
   have Hjl := Lib.hid hjl
   have HT : Hid (JP.text (.list l) = 91 :: (Lib.join (JP.textL l) [44] ++ [93])) := Lib.hid (by rw [JP.text])
   clear hrow hlen h1 h2 hjl
   go_enter Tryz.func32, Tryz.ntmps32
   go_wp2_with fail
   go_loopg [7, 35] l.length (fun k u7 u35 wr => ∃ i : Nat, i + k = l.length ∧ u35 = .int .i64 (i : Int) ∧ Hid (OwnAt RString 1 wr w.heap.size 9 u7 ((l.take i).map fun x => mkB (JP.text x))) ∧ Hid (Below w.heap.size w wr))
   case atStart => exact ⟨0, by omega, rfl, Lib.hid (OwnAt.nil _), Lib.hid (Below.refl _ _)⟩
   case round =>
    obtain ⟨i, hik, rfl, Hown, Hbel⟩ := hrel
    have hsr := Hbel.out.size
    cases gk with
    | zero =>
     obtain rfl : i = l.length := by omega
     have hown := Hown.out
     rw [List.take_of_length_le (Nat.le_refl _)] at hown
     have HJ := Lib.hid (joinStrs_any hown.row (by rw [List.length_map]; omega) (by rw [mk_map, ← textL_map]; have := Hjl.out; omega))
     obtain ⟨J, HJe⟩ : ∃ J : Bs, Hid (Lib.join (JP.textL l) [44] = J) := ⟨_, Lib.hid rfl⟩
     rw [mk_map, ← textL_map, HJe.out] at HJ
     have hJs : (mkB J).size ≤ 1073741824 := by rw [mkB_size, ← HJe.out]; exact Hjl.out
     rw [HJe.out] at HT
     have q1 : ¬ 9223372036854775807 < 1 + (mkB J).size := by omega
     have q2 : ¬ 9223372036854775807 < 1 + (mkB J).size + 1 := by omega
     clear hown hik hsr
     go_wp2_with fail
     refine HJ.out.mono ?_
     rintro E w1 ⟨rfl, hb1⟩
     have Hb1 := Lib.hid (Hbel.out.trans (hb1.mono Hbel.out.size))
     clear hb1
     go_wp2_with fail
     go_ret
     exact ⟨by rw [HT.out, ← wrap_mk]; rfl, Hb1.out⟩
    | succ k =>
     have hil : i < l.length := by omega
     obtain ⟨x, hx⟩ : ∃ x, l[i]? = some x := ⟨l[i]'(by omega), List.getElem?_eq_getElem _⟩
     obtain ⟨b, o, c', hv, _, _, hbs, hcell⟩ := Hrow.out.form (by omega) (by omega)
     injection hv with u1 u2 u3
     subst u1
     clear u2 u3
     obtain ⟨ds, _, hcc, vx, rfl, hvx⟩ := hcell i x hx
     have e0 : wr.cell? ⟨b, o + i, none⟩ = some vx := (Hbel.out.cell (p := ⟨b, _, none⟩) hbs).trans (by simpa using hcc 0 _ rfl)
     have q1 : (0 : Int) ≤ (i : Int) := by omega
     have q2 : (i : Int) < (l.length : Int) := by omega
     have hmem := lenL_mem (List.mem_of_getElem? hx)
     have HC := Lib.hid (IH.out vx x wr (hvx.below Hbel.out) (by have := Hlen.out; omega) (Htab.out.below Hbel.out))
     have Htk : Hid ((l.take (i + 1)).map (fun x => mkB (JP.text x)) = (l.take i).map (fun x => mkB (JP.text x)) ++ [mkB (JP.text x)]) := Lib.hid (by rw [List.take_add_one, hx, List.map_append]; rfl)
     have hol : ((l.take i).map fun x => mkB (JP.text x)).length ≤ 1073741824 := by rw [List.length_map, List.length_take]; omega
     obtain ⟨O, HO⟩ : ∃ O, Hid ((l.take i).map (fun x => mkB (JP.text x)) = O) := ⟨_, Lib.hid rfl⟩
     obtain ⟨t, Ht⟩ : ∃ t, Hid (mkB (JP.text x) = t) := ⟨_, Lib.hid rfl⟩
     rw [HO.out, Ht.out] at Htk
     rw [HO.out] at Hown hol
     rw [Ht.out] at HC
     clear hcell hcc hx hvx hmem
     go_wp2_with fail
     refine HC.out.mono ?_
     rintro E w1 ⟨rfl, hb1⟩
     have Ho1 := Lib.hid (Hown.out.below stays_string hb1)
     have Hb1 := Lib.hid (Hbel.out.trans (hb1.mono Hbel.out.size))
     have hs1 := Hb1.out.size
     clear hb1 e0
     go_wp2_with (at_builtin; refine wpList_append_ownAt (R := RString) (k := 1) (e := 9) (B := w.heap.size) (l := O) (m := [t]) _ (by rfl) _ _ _ (by rfl) i0 _ 16 Tryz.underlying25 hi0 hz0 hz1 hz2 rfl (by omega) flat_string one_string _ (by rfl) (Ho1.out.alloc stays_string _) (.slice (some ⟨w1.heap.size, 0, none⟩) 1 1) (by rfl) (RowAt.one (R := RString) (k := 1) (cs := #[.string t]) (heap_alloc_new w1 _) rfl rfl) (by unfold maxLen; simp; omega) (by simp; omega) (by simp; omega) ?_)
     intro v' w2 hv' hg hr _
     have hb2 : Below w.heap.size w w2 := below_of_grown (Hb1.out.alloc hs1 _) (by simp; omega) hg hr
     have Hb2 := Lib.hid hb2
     have Hv : Hid (OwnAt RString 1 w2 w.heap.size 9 v' ((l.take (i + 1)).map fun x => mkB (JP.text x))) := Lib.hid (by rw [Htk.out]; exact hv')
     clear hv' hg hr hb2
     go_wp2_with fail
     go_roundg k
     case measure => omega
     case rel => exact ⟨i + 1, by omega, by go_num, Hv, Hb2⟩
  | obj l =>
   obtain ⟨q, rfl, _, _, vn, vv, cn, cv, hrn, _, hrv, _⟩ := h
   obtain ⟨an, c1, hu1, _, _⟩ := hrn.len
   obtain ⟨av, c2, hu2, _, _⟩ := hrv.len
   rw [List.length_map] at hu1 hu2
   subst hu1
   subst hu2
   obtain ⟨g1, g2, g3, g4, g5⟩ := as_obj (.pointer (some ⟨q, 0, none⟩))
   have h1 := lenF_text l
   have h2 := lenF_len l
   have hll : l.length ≤ 1073741824 := by omega
   have Hlen : Hid (JP.lenF l ≤ 1073741824) := Lib.hid (by omega)
   have Hrn := Lib.hid hrn
   have Hrv := Lib.hid hrv
   have hjl : (Lib.join (JP.textF l) [44]).length ≤ 1073741824 := by
    have : (JP.text (.obj l)).length = (Lib.join (JP.textF l) [44]).length + 2 := by rw [JP.text]; simp
    omega
   have Hjl := Lib.hid hjl
   have HT : Hid (JP.text (.obj l) = 123 :: (Lib.join (JP.textF l) [44] ++ [125])) := Lib.hid (by rw [JP.text])
   have hqw : q < w.heap.size := World.block_lt_of_cell? w ⟨q, 0, none⟩ cn
   have Cv := Lib.hid cv
   clear hrn hrv hlen h1 h2 hjl cv
   go_enter Tryz.func32, Tryz.ntmps32
   go_wp2_with fail
   clear cn
   go_loopg [11, 57] l.length (fun k u11 u57 wr => ∃ i : Nat, i + k = l.length ∧ u57 = .int .i64 (i : Int) ∧ Hid (OwnAt RString 1 wr w.heap.size 9 u11 ((l.take i).map fun x => mkB (JP.quote x.1 ++ 58 :: JP.text x.2))) ∧ Hid (Below w.heap.size w wr))
   case atStart => exact ⟨0, by omega, rfl, Lib.hid (OwnAt.nil _), Lib.hid (Below.refl _ _)⟩
   case round =>
    obtain ⟨i, hik, rfl, Hown, Hbel⟩ := hrel
    have hsr := Hbel.out.size
    cases gk with
    | zero =>
     obtain rfl : i = l.length := by omega
     have hown := Hown.out
     rw [List.take_of_length_le (Nat.le_refl _)] at hown
     have HJ := Lib.hid (joinStrs_any hown.row (by rw [List.length_map]; omega) (by rw [mk_map, ← textF_map]; have := Hjl.out; omega))
     obtain ⟨J, HJe⟩ : ∃ J : Bs, Hid (Lib.join (JP.textF l) [44] = J) := ⟨_, Lib.hid rfl⟩
     rw [mk_map, ← textF_map, HJe.out] at HJ
     have hJs : (mkB J).size ≤ 1073741824 := by rw [mkB_size, ← HJe.out]; exact Hjl.out
     rw [HJe.out] at HT
     have q1 : ¬ 9223372036854775807 < 1 + (mkB J).size := by omega
     have q2 : ¬ 9223372036854775807 < 1 + (mkB J).size + 1 := by omega
     clear hown hik hsr
     go_wp2_with fail
     refine HJ.out.mono ?_
     rintro E w1 ⟨rfl, hb1⟩
     have Hb1 := Lib.hid (Hbel.out.trans (hb1.mono Hbel.out.size))
     clear hb1
     go_wp2_with fail
     go_ret
     exact ⟨by rw [HT.out, ← wrap_mk]; rfl, Hb1.out⟩
    | succ k =>
     have hil : i < l.length := by omega
     obtain ⟨y, hx⟩ : ∃ y, l[i]? = some y := ⟨l[i]'(by omega), List.getElem?_eq_getElem _⟩
     have hxn : (l.map fun x => mkB x.1)[i]? = some (mkB y.1) := by rw [List.getElem?_map, hx]; rfl
     have hxv : (l.map (·.2))[i]? = some y.2 := by rw [List.getElem?_map, hx]; rfl
     obtain ⟨b, o, c', hv, _, _, hbs, hcell⟩ := Hrn.out.form (by rw [List.length_map]; omega) (by omega)
     injection hv with u1 u2 u3
     subst u1
     clear u2 u3
     obtain ⟨b2, o2, c2', hv2, _, _, hbs2, hcell2⟩ := Hrv.out.form (by rw [List.length_map]; omega) (by omega)
     injection hv2 with u1 u2 u3
     subst u1
     clear u2 u3
     obtain ⟨ds, _, hcc, rfl⟩ := hcell i _ hxn
     obtain ⟨es, _, hdd, vx, rfl, hvx⟩ := hcell2 i _ hxv
     have e0 : wr.cell? ⟨b, o + i, none⟩ = some (.string (mkB y.1)) := (Hbel.out.cell (p := ⟨b, _, none⟩) hbs).trans (by simpa using hcc 0 _ rfl)
     have f0 : wr.cell? ⟨b2, o2 + i, none⟩ = some vx := (Hbel.out.cell (p := ⟨b2, _, none⟩) hbs2).trans (by simpa using hdd 0 _ rfl)
     have p1 : wr.cell? ⟨q, 1, none⟩ = some (.slice (some ⟨b2, o2, none⟩) l.length c2) := (Hbel.out.cell (p := ⟨q, 1, none⟩) hqw).trans Cv.out
     have hqr : q < wr.heap.size := Nat.lt_of_lt_of_le hqw hsr
     have hbr2 : b2 < wr.heap.size := Nat.lt_of_lt_of_le hbs2 hsr
     have q1 : (0 : Int) ≤ (i : Int) := by omega
     have q2 : (i : Int) < (l.length : Int) := by omega
     have hmem := lenF_mem (List.mem_of_getElem? hx)
     have hl0 := Hlen.out
     have hns : (mkB y.1).size ≤ 1073741824 := by rw [mkB_size]; have := quote_size y.1; omega
     obtain ⟨Q, HQ⟩ : ∃ Q : Bs, Hid (JP.quote y.1 = Q) := ⟨_, Lib.hid rfl⟩
     obtain ⟨X, HX⟩ : ∃ X : Bs, Hid (JP.text y.2 = X) := ⟨_, Lib.hid rfl⟩
     have HC1 : Hid (∀ w', Below wr.heap.size wr w' → Calls Tryz.prog 60 #[.string (mkB y.1)] w' fun e w'' => e = .returned (.string (mkB Q)) ∧ Below w'.heap.size w' w'') := Lib.hid fun w' hb' => by
      refine (quote_big (mkB y.1) w' (Nat.le_trans hns (by decide))).mono ?_
      rintro E w'' ⟨rfl, hb''⟩
      exact ⟨by rw [mkB_list, HQ.out], hb''⟩
     have HC2 : Hid (∀ w', Below wr.heap.size wr w' → Calls Tryz.prog 32 #[vx] w' fun e w'' => e = .returned (.string (mkB X)) ∧ Below w'.heap.size w' w'') := Lib.hid fun w' hb' => by
      have hbw := Hbel.out.trans (hb'.mono hsr)
      refine (IH.out vx y.2 w' (hvx.below hbw) (by omega) (Htab.out.below hbw)).mono ?_
      rintro E w'' ⟨rfl, hb''⟩
      exact ⟨by rw [HX.out], hb''⟩
     have Htk : Hid ((l.take (i + 1)).map (fun x => mkB (JP.quote x.1 ++ 58 :: JP.text x.2)) = (l.take i).map (fun x => mkB (JP.quote x.1 ++ 58 :: JP.text x.2)) ++ [mkB (Q ++ 58 :: X)]) := Lib.hid (by rw [List.take_add_one, hx, List.map_append, ← HQ.out, ← HX.out]; rfl)
     have hol : ((l.take i).map fun x => mkB (JP.quote x.1 ++ 58 :: JP.text x.2)).length ≤ 1073741824 := by rw [List.length_map, List.length_take]; omega
     have hQs : (mkB Q).size ≤ 1073741824 := by rw [mkB_size, ← HQ.out]; omega
     have hXs : (mkB X).size ≤ 1073741824 := by rw [mkB_size, ← HX.out]; omega
     have q4 : ¬ 9223372036854775807 < (mkB Q).size + 1 := by omega
     have q5 : ¬ 9223372036854775807 < (mkB Q).size + 1 + (mkB X).size := by omega
     obtain ⟨O, HO⟩ : ∃ O, Hid ((l.take i).map (fun x => mkB (JP.quote x.1 ++ 58 :: JP.text x.2)) = O) := ⟨_, Lib.hid rfl⟩
     obtain ⟨t, Ht⟩ : ∃ t, Hid (mkB (Q ++ 58 :: X) = t) := ⟨_, Lib.hid rfl⟩
     have Ht2 : Hid ((mkB Q ++ ⟨#[58]⟩ ++ mkB X : ByteArray) = t) := Lib.hid (by rw [colon_mk]; exact Ht.out)
     rw [HO.out, Ht.out] at Htk
     rw [HO.out] at Hown hol
     clear hcell hcc hcell2 hdd hx hxn hxv hvx hmem hl0
     go_upto_region 26 with fail
     refine wp_region_relB 14 (fun ii U w' => match ii with
      | 0 => U 0 = u11
      | 1 => U 1 = .string (mkB y.1)
      | 2 => U 2 = .string (mkB Q)
      | 3 => U 3 = .string (mkB Q ++ ⟨#[58]⟩)
      | 4 => U 4 = .pointer (some ⟨q, 0, none⟩)
      | 5 => U 5 = .pointer (some ⟨q, 0, none⟩)
      | 6 => U 6 = .pointer (some ⟨q, 1, none⟩)
      | 7 => U 7 = .slice (some ⟨b2, o2, none⟩) l.length c2
      | 8 => U 8 = .int .i64 (i : Int)
      | 9 => U 9 = .pointer (some ⟨b2, o2 + i, none⟩)
      | 10 => U 10 = vx
      | 11 => U 11 = .string (mkB X)
      | 12 => U 12 = .string t
      | 13 => ∃ g, U 13 = .slice (some ⟨g, 0, none⟩) 1 1 ∧ w'.heap[g]? = some (.cells #[.string t] 9 (0, 0))
      | _ => True)
      (fun | 2 => [1] | 3 => [2] | 5 => [4] | 6 => [5] | 7 => [6] | 9 => [7, 8] | 10 => [9] | 11 => [10] | 12 => [3, 11] | 13 => [12] | _ => []) (by kernel_rfl) (by kernel_rfl) ?_ ⟨?_, ?_, ?_, ?_, ?_, ?_, ?_, ?_, ?_, ?_, ?_, ?_, ?_, ?_, trivial⟩ ?_
     ·intro j u w1 w2 hb h
      match j, h with
      | 0, h => exact h
      | 1, h => exact h
      | 2, h => exact h
      | 3, h => exact h
      | 4, h => exact h
      | 5, h => exact h
      | 6, h => exact h
      | 7, h => exact h
      | 8, h => exact h
      | 9, h => exact h
      | 10, h => exact h
      | 11, h => exact h
      | 12, h => exact h
      | 13, h => exact (by obtain ⟨g, h1, h2⟩ := h; exact ⟨g, h1, below_block hb h2⟩)
      | _ + 14, h => trivial
     ·intro x w' hb hd
      have hbr : Below wr.heap.size wr w' := (below_drew1 wr).trans hb
      refine owes_here u11 (by rfl) ?_ rfl
      simp only [putAll, List.take_succ_cons, List.take_zero]
      go_simp
     ·intro x w' hb hd
      have hbr : Below wr.heap.size wr w' := (below_drew1 wr).trans hb
      refine owes_here (.string (mkB y.1)) (by rfl) ?_ rfl
      simp only [putAll, List.take_succ_cons, List.take_zero]
      go_simp
     ·intro x w' hb hd
      have hbr : Below wr.heap.size wr w' := (below_drew1 wr).trans hb
      have k1 : x 1 = .string (mkB y.1) := hd 1 (by simp)
      refine owes_call 60 #[.string (mkB y.1)] (by rfl) ?_ ((HC1.out w' hbr).mono fun e w2 h => ⟨_, h.1, rfl, h.2⟩)
      simp only [putAll, List.take_succ_cons, List.take_zero]
      go_simp
     ·intro x w' hb hd
      have hbr : Below wr.heap.size wr w' := (below_drew1 wr).trans hb
      have k1 : x 2 = .string (mkB Q) := hd 2 (by simp)
      refine owes_here (.string (mkB Q ++ ⟨#[58]⟩)) (by rfl) ?_ rfl
      simp only [putAll, List.take_succ_cons, List.take_zero]
      go_simp
     ·intro x w' hb hd
      have hbr : Below wr.heap.size wr w' := (below_drew1 wr).trans hb
      refine owes_here (.pointer (some ⟨q, 0, none⟩)) (by rfl) ?_ rfl
      simp only [putAll, List.take_succ_cons, List.take_zero]
      go_simp
     ·intro x w' hb hd
      have hbr : Below wr.heap.size wr w' := (below_drew1 wr).trans hb
      have k1 : x 4 = .pointer (some ⟨q, 0, none⟩) := hd 4 (by simp)
      refine owes_here (.pointer (some ⟨q, 0, none⟩)) (by rfl) ?_ rfl
      simp only [putAll, List.take_succ_cons, List.take_zero]
      go_simp
     ·intro x w' hb hd
      have hbr : Below wr.heap.size wr w' := (below_drew1 wr).trans hb
      have k1 : x 5 = .pointer (some ⟨q, 0, none⟩) := hd 5 (by simp)
      refine owes_here (.pointer (some ⟨q, 1, none⟩)) (by rfl) ?_ rfl
      simp only [putAll, List.take_succ_cons, List.take_zero]
      go_simp
     ·intro x w' hb hd
      have hbr : Below wr.heap.size wr w' := (below_drew1 wr).trans hb
      have k1 : x 6 = .pointer (some ⟨q, 1, none⟩) := hd 6 (by simp)
      have d1 := (hbr.cell (p := ⟨q, 1, none⟩) hqr).trans p1
      refine owes_here (.slice (some ⟨b2, o2, none⟩) l.length c2) (by rfl) ?_ rfl
      simp only [putAll, List.take_succ_cons, List.take_zero]
      go_simp
     ·intro x w' hb hd
      have hbr : Below wr.heap.size wr w' := (below_drew1 wr).trans hb
      refine owes_here (.int .i64 (i : Int)) (by rfl) ?_ rfl
      simp only [putAll, List.take_succ_cons, List.take_zero]
      go_simp
     ·intro x w' hb hd
      have hbr : Below wr.heap.size wr w' := (below_drew1 wr).trans hb
      have k1 : x 7 = .slice (some ⟨b2, o2, none⟩) l.length c2 := hd 7 (by simp)
      have k2 : x 8 = .int .i64 (i : Int) := hd 8 (by simp)
      refine owes_here (.pointer (some ⟨b2, o2 + i, none⟩)) (by rfl) ?_ rfl
      simp only [putAll, List.take_succ_cons, List.take_zero]
      go_simp
     ·intro x w' hb hd
      have hbr : Below wr.heap.size wr w' := (below_drew1 wr).trans hb
      have k1 : x 9 = .pointer (some ⟨b2, o2 + i, none⟩) := hd 9 (by simp)
      have d1 := (hbr.cell (p := ⟨b2, o2 + i, none⟩) hbr2).trans f0
      refine owes_here vx (by rfl) ?_ rfl
      simp only [putAll, List.take_succ_cons, List.take_zero]
      go_simp
     ·intro x w' hb hd
      have hbr : Below wr.heap.size wr w' := (below_drew1 wr).trans hb
      have k1 : x 10 = vx := hd 10 (by simp)
      refine owes_call 32 #[vx] (by rfl) ?_ ((HC2.out w' hbr).mono fun e w2 h => ⟨_, h.1, rfl, h.2⟩)
      simp only [putAll, List.take_succ_cons, List.take_zero]
      go_simp
     ·intro x w' hb hd
      have hbr : Below wr.heap.size wr w' := (below_drew1 wr).trans hb
      have k1 : x 3 = .string (mkB Q ++ ⟨#[58]⟩) := hd 3 (by simp)
      have k2 : x 11 = .string (mkB X) := hd 11 (by simp)
      have hS := Ht2.out
      refine owes_here (.string t) (by rfl) ?_ rfl
      simp only [putAll, List.take_succ_cons, List.take_zero]
      go_simp
     ·intro x w' hb hd
      have hbr : Below wr.heap.size wr w' := (below_drew1 wr).trans hb
      have k1 : x 12 = .string t := hd 12 (by simp)
      refine owes_makes (.slice (some ⟨w'.heap.size, 0, none⟩) 1 1) (w' := w'.alloc (.cells #[.string t] 9)) (by rfl) ?_ (⟨_, rfl, heap_alloc_new w' _⟩) ((Below.refl _ _).alloc (Nat.le_refl _) _)
      simp only [putAll, List.take_succ_cons, List.take_zero]
      go_simp
     ·intro x w' hb hR
      have hbr : Below wr.heap.size wr w' := (below_drew1 wr).trans hb
      have k0 : x 0 = u11 := hR 0 (by omega)
      obtain ⟨g, kg1, kg2⟩ : ∃ g, x 13 = .slice (some ⟨g, 0, none⟩) 1 1 ∧ w'.heap[g]? = some (.cells #[.string t] 9 (0, 0)) := hR 13 (by omega)
      have Ho1 := Lib.hid (Hown.out.below stays_string hbr)
      have Hb1 := Lib.hid (Hbel.out.trans (hbr.mono Hbel.out.size))
      have hs1 := Hb1.out.size
      have Hg := Lib.hid kg2
      clear hR hb hbr e0 f0 p1 kg2
      simp only [putAll, List.take_succ_cons, List.take_zero, List.drop_succ_cons, List.drop_zero]
      try simp only [Act.put, List.setIfInBounds_toArray, List.set_cons_zero, List.set_cons_succ]
      go_wp2_with (at_builtin; refine wpList_append_ownAt (R := RString) (k := 1) (e := 9) (B := w.heap.size) (l := O) (m := [t]) _ (by rfl) _ _ _ (by rfl) i0 _ 16 Tryz.underlying25 hi0 hz0 hz1 hz2 rfl (by omega) flat_string one_string _ (by exact k0) Ho1.out _ (by exact kg1) (RowAt.one (R := RString) (k := 1) (cs := #[.string t]) Hg.out rfl rfl) (by unfold maxLen; simp; omega) (by simp; omega) (by omega) ?_)
      intro v' w2 hv' hg hr _
      have hb2 : Below w.heap.size w w2 := below_of_grown Hb1.out hs1 hg hr
      have Hb2 := Lib.hid hb2
      have Hv : Hid (OwnAt RString 1 w2 w.heap.size 9 v' ((l.take (i + 1)).map fun x => mkB (JP.quote x.1 ++ 58 :: JP.text x.2))) := Lib.hid (by rw [Htk.out]; exact hv')
      clear hv' hg hr hb2
      go_wp2_with fail
      go_roundg k
      case measure => omega
      case rel => exact ⟨i + 1, by omega, by go_num, Hv, Hb2⟩
def SoundIHB (n : Nat) : Prop := ∀ (v : Value) (x : JV) (w : World), JvAt n [] w v x → (JP.text x).length ≤ 1099511627776 → Calls Tryz.prog 51 #[v] w fun e w' => e = .returned (.bool (JP.sound x)) ∧ w = w'
set_option maxRecDepth 100000 in
set_option maxHeartbeats 1600000 in
theorem cloSound_big {n : Nat} (ih : SoundIHB n) (v : Value) (x : JV) (w : World) (h : JvAt n [] w v x) (hl : (JP.text x).length ≤ 1099511627776) :
  Calls Tryz.prog 87 #[v] w fun e w' => e = .returned (.bool (!JP.sound x)) ∧ w = w' := by
 have H := Lib.hid (ih v x w h hl)
 obtain ⟨b, hb⟩ : ∃ b, JP.sound x = b := ⟨_, rfl⟩
 rw [hb] at H ⊢
 clear ih h hl hb
 go_enter Tryz.func87, Tryz.ntmps87
 go_wp2_with fail
 refine H.out.mono ?_
 rintro E w1 ⟨rfl, rfl⟩
 go_wp2_with fail
 go_ret
 exact ⟨rfl, rfl⟩
set_option maxRecDepth 100000 in
set_option maxHeartbeats 3200000 in
theorem idxSound_big {n : Nat} (ih : SoundIHB n) (v : Value) (l : List JV) (w : World) (h : RowAt (JvR n []) 1 w v l) (hl : l.length ≤ 1099511627776) (hx : ∀ x ∈ l, (JP.text x).length ≤ 1099511627776) :
  Calls Tryz.prog 125 #[v, .func (.func 87) #[] #[]] w fun e w' => (∃ i : Int, e = .returned (.int .i64 i) ∧ (decide (0 ≤ i) = l.any fun x => !JP.sound x)) ∧ w = w' := by
 obtain ⟨a1, c1, rfl, _, _⟩ := h.len
 have H := Lib.hid h
 have Hx := Lib.hid hx
 have HC := Lib.hid (fun v x w h hl => cloSound_big ih v x w h hl)
 clear h hx ih
 go_enter Tryz.func125, Tryz.ntmps125
 go_wp2_with fail
 go_loopg [8] l.length (fun g u8 wr => ∃ i : Nat, i + g = l.length ∧ u8 = .int .i64 (i : Int) ∧ Hid (∀ x ∈ l.take i, (!JP.sound x) = false) ∧ w = wr)
 case atStart => exact ⟨0, by omega, rfl, Lib.hid (fun x hx => by simp at hx), rfl⟩
 case round =>
  obtain ⟨i, hig, rfl, Hall, rfl⟩ := hrel
  cases gk with
  | zero =>
   obtain rfl : i = l.length := by omega
   have Hany : Hid (decide ((0 : Int) ≤ -1) = l.any fun x => !JP.sound x) := by
    refine Lib.hid ?_
    rw [decide_eq_false (by omega), eq_comm, List.any_eq_false]
    intro x hx
    have := Hall.out x (by rw [List.take_of_length_le (Nat.le_refl _)]; exact hx)
    rw [this]; decide
   clear hig
   go_wp2_with fail
   go_ret
   exact ⟨⟨-1, rfl, Hany.out⟩, rfl⟩
  | succ g =>
   have hil : i < l.length := by omega
   obtain ⟨x, hxi⟩ : ∃ x, l[i]? = some x := ⟨l[i]'(by omega), List.getElem?_eq_getElem _⟩
   obtain ⟨b, o, c', hv, _, _, hbs, hcell⟩ := H.out.form (by omega) (by omega)
   cases hv
   obtain ⟨ds, _, hcc, vx, rfl, hvx⟩ := hcell i x hxi
   have e0 : w.cell? ⟨b, o + i, none⟩ = some vx := by simpa using hcc 0 _ rfl
   have q1 : (0 : Int) ≤ (i : Int) := by omega
   have q2 : (i : Int) < (l.length : Int) := by omega
   have Hxi := Lib.hid hxi
   have HC1 := Lib.hid (HC.out vx x w hvx (Hx.out x (List.mem_of_getElem? hxi)))
   clear hcc hcell hvx hxi
   obtain ⟨pb, Hpb⟩ : ∃ pb, Hid ((!JP.sound x) = pb) := ⟨_, Lib.hid rfl⟩
   have h9 := HC1.out
   rw [Hpb.out] at h9
   have HC2 := Lib.hid h9
   clear h9 HC1
   go_wp2_with fail
   refine HC2.out.mono ?_
   rintro E w1 ⟨rfl, rfl⟩
   cases pb with
   | true =>
    have Hany : Hid (decide ((0 : Int) ≤ (i : Int)) = l.any fun x => !JP.sound x) := by
     refine Lib.hid ?_
     rw [decide_eq_true (by omega), eq_comm, List.any_eq_true]
     exact ⟨x, List.mem_of_getElem? Hxi.out, Hpb.out⟩
    go_wp2_with fail
    go_ret
    exact ⟨⟨_, rfl, Hany.out⟩, rfl⟩
   | false =>
    have Hall2 : Hid (∀ x ∈ l.take (i + 1), (!JP.sound x) = false) := Lib.hid fun y hy => by
     rw [List.take_add_one, Hxi.out] at hy
     rcases List.mem_append.1 hy with h | h
     ·exact Hall.out y h
     ·have h9 : y = x := by simpa using h
      rw [h9]; exact Hpb.out
    go_wp2_with fail
    go_roundg g
    case measure => omega
    case rel => exact ⟨i + 1, by omega, by go_num, Hall2, rfl⟩
set_option maxRecDepth 100000 in
set_option maxHeartbeats 1600000 in
theorem anySound_big {n : Nat} (ih : SoundIHB n) (v : Value) (l : List JV) (w : World) (h : RowAt (JvR n []) 1 w v l) (hl : l.length ≤ 1099511627776) (hx : ∀ x ∈ l, (JP.text x).length ≤ 1099511627776) :
  Calls Tryz.prog 86 #[v, .func (.func 87) #[] #[]] w fun e w' => e = .returned (.bool (!JP.soundL l)) ∧ w = w' := by
 have H := Lib.hid (idxSound_big ih v l w h hl hx)
 obtain ⟨B, HB⟩ : ∃ B, Hid ((!JP.soundL l) = B) := ⟨_, Lib.hid rfl⟩
 have HB2 : Hid ((l.any fun x => !JP.sound x) = B) := Lib.hid (by rw [← HB.out, JP.soundL_any, Bool.not_not])
 rw [HB.out]
 clear h ih hx
 go_enter Tryz.func86, Tryz.ntmps86
 go_wp2_with fail
 refine H.out.mono ?_
 rintro E w1 ⟨⟨i, rfl, hn⟩, rfl⟩
 rw [HB2.out] at hn
 have Hn := Lib.hid hn
 clear hn H
 go_wp2_with fail
 go_ret
 exact ⟨congrArg (fun b => Ending.returned (Value.bool b)) Hn.out, rfl⟩
set_option maxRecDepth 100000 in
set_option maxHeartbeats 6400000 in
theorem sound_big : ∀ (n : Nat), SoundIHB n := by
 intro n
 induction n with
 | zero => intro v x w h; cases h
 | succ n ih =>
  intro v x w h hlen
  have IH := Lib.hid ih
  clear ih
  cases x with
  | nul =>
   obtain rfl : v = .nilIface := h
   obtain ⟨g1, g2, g3, g4, g5⟩ := as_nil
   clear hlen
   go_enter Tryz.func51, Tryz.ntmps51
   go_wp2_with fail
   go_ret
   exact ⟨ret_bool2 (by rw [JP.sound]), rfl⟩
  | bool b =>
   obtain rfl : v = .iface 4 (.bool b) := h
   obtain ⟨g1, g2, g3, g4, g5⟩ := as_bool (.bool b)
   clear hlen
   go_enter Tryz.func51, Tryz.ntmps51
   go_wp2_with fail
   go_ret
   exact ⟨ret_bool2 (by rw [JP.sound]), rfl⟩
  | num k =>
   obtain ⟨rfl, _, _⟩ := h
   obtain ⟨g1, g2, g3, g4, g5⟩ := as_int64 (.int .i64 k)
   clear hlen
   go_enter Tryz.func51, Tryz.ntmps51
   go_wp2_with fail
   go_ret
   exact ⟨ret_bool2 (by rw [JP.sound]), rfl⟩
  | str s =>
   obtain rfl : v = .iface 9 (.string (mkB s)) := h
   obtain ⟨g1, g2, g3, g4, g5⟩ := as_string (.string (mkB s))
   have hsz : (mkB s).size ≤ 1099511627776 := by
    rw [mkB_size]
    have := quote_size s
    rw [JP.text] at hlen
    omega
   have HS := stands_big (mkB s) w hsz
   rw [mkB_list] at HS
   obtain ⟨b, hb⟩ : ∃ b, s.all JP.stand = b := ⟨_, rfl⟩
   rw [hb] at HS
   have HS := Lib.hid HS
   have Hb := Lib.hid hb
   clear hlen hb hsz
   go_enter Tryz.func51, Tryz.ntmps51
   go_wp2_with fail
   refine HS.out.mono ?_
   rintro E w1 ⟨rfl, rfl⟩
   go_wp2_with fail
   go_ret
   exact ⟨ret_bool2 (by rw [JP.sound]; exact Hb.out.symm), rfl⟩
  | list L =>
   obtain ⟨u, rfl, hrow, _⟩ := h
   obtain ⟨a, c, rfl, _, _⟩ := hrow.len
   obtain ⟨g1, g2, g3, g4, g5⟩ := as_list (.slice a L.length c)
   have hll := lenL_text L
   have hln := lenL_len L
   have HA := anySound_big IH.out _ L w hrow (by omega) (fun x hx => by have := lenL_mem hx; omega)
   obtain ⟨b, hb⟩ : ∃ b, JP.soundL L = b := ⟨_, rfl⟩
   rw [hb] at HA
   have HA := Lib.hid HA
   have Hb := Lib.hid hb
   clear hlen hb hll hrow
   go_enter Tryz.func51, Tryz.ntmps51
   go_wp2_with fail
   refine HA.out.mono ?_
   rintro E w1 ⟨rfl, rfl⟩
   go_wp2_with fail
   go_ret
   exact ⟨ret_bool2 (by rw [JP.sound]; exact Hb.out.symm), rfl⟩
  | obj l =>
   obtain ⟨q, rfl, _, _, vn, vv, cn, cv, hrn, _, hrv, _⟩ := h
   obtain ⟨a1, c1, hu1, _, _⟩ := hrn.len
   obtain ⟨a2, c2, hu2, _, _⟩ := hrv.len
   obtain ⟨ln, hln⟩ : ∃ ln, l.length = ln := ⟨_, rfl⟩
   rw [List.length_map, hln] at hu1 hu2
   subst hu1
   subst hu2
   obtain ⟨g1, g2, g3, g4, g5⟩ := as_obj (.pointer (some ⟨q, 0, none⟩))
   have hll := lenF_text l
   have hln2 := lenF_len l
   have hlb : ln ≤ 1099511627776 := by omega
   have Hln := Lib.hid hln
   have Hrn := Lib.hid hrn
   have Hrv := Lib.hid hrv
   have Hlen := Lib.hid (fun x (hx : x ∈ l) => (show x.1.length ≤ 1099511627776 ∧ (JP.text x.2).length ≤ 1099511627776 from by
    have h1 := lenF_mem hx
    have h2 := quote_size x.1
    omega))
   have HS : Hid (JP.sound (.obj l) = l.all fun x => x.1.all JP.stand && JP.sound x.2) := Lib.hid (by rw [JP.sound, JP.soundF_all])
   clear hlen hll hln2 hrn hrv hln
   go_enter Tryz.func51, Tryz.ntmps51
   go_wp2_with fail
   go_loopg [28] ln (fun k u28 wr => ∃ i : Nat, i + k = ln ∧ u28 = .int .i64 (i : Int) ∧ Hid ((l.take i).all (fun x => x.1.all JP.stand && JP.sound x.2) = true) ∧ w = wr)
   case atStart => exact ⟨0, by omega, rfl, Lib.hid rfl, rfl⟩
   case round =>
    obtain ⟨i, hik, rfl, Hall, rfl⟩ := hrel
    cases gk with
    | zero =>
     have hall := Hall.out
     rw [List.take_of_length_le (by rw [Hln.out]; omega)] at hall
     have Ha := Lib.hid hall
     have q1 : ¬ (i : Int) < (ln : Int) := by omega
     clear hall hik
     go_wp2_with fail
     go_ret
     exact ⟨ret_bool2 (by rw [HS.out]; exact Ha.out.symm), rfl⟩
    | succ k =>
     have hil : i < ln := by omega
     obtain ⟨y, hy⟩ : ∃ y, l[i]? = some y := ⟨l[i]'(by rw [Hln.out]; exact hil), List.getElem?_eq_getElem _⟩
     have hlm := Hlen.out y (List.mem_of_getElem? hy)
     obtain ⟨b1, o1, c', hv1, _, _, hbs1, hcell1⟩ := Hrn.out.form (by rw [List.length_map, Hln.out]; omega) (by omega)
     injection hv1 with u1 u2 u3
     subst u1
     clear u2 u3
     obtain ⟨ds1, _, hcc1, hR1⟩ := hcell1 i (mkB y.1) (by rw [List.getElem?_map, hy]; rfl)
     obtain rfl : ds1 = [.string (mkB y.1)] := hR1
     have e0 : w.cell? ⟨b1, o1 + i, none⟩ = some (.string (mkB y.1)) := by simpa using hcc1 0 _ rfl
     obtain ⟨b2, o2, c'', hv2, _, _, hbs2, hcell2⟩ := Hrv.out.form (by rw [List.length_map, Hln.out]; omega) (by omega)
     injection hv2 with u1 u2 u3
     subst u1
     clear u2 u3
     obtain ⟨ds2, _, hcc2, vx, rfl, hvx⟩ := hcell2 i y.2 (by rw [List.getElem?_map, hy]; rfl)
     have e1 : w.cell? ⟨b2, o2 + i, none⟩ = some vx := by simpa using hcc2 0 _ rfl
     have q1 : (0 : Int) ≤ (i : Int) := by omega
     have q2 : (i : Int) < (ln : Int) := by omega
     have hST := stands_big (mkB y.1) w (by rw [mkB_size]; exact hlm.1)
     rw [mkB_list] at hST
     have hSO := IH.out vx y.2 w hvx hlm.2
     obtain ⟨p1, hp1⟩ : ∃ p, y.1.all JP.stand = p := ⟨_, rfl⟩
     obtain ⟨p2, hp2⟩ : ∃ p, JP.sound y.2 = p := ⟨_, rfl⟩
     rw [hp1] at hST
     rw [hp2] at hSO
     have HST := Lib.hid hST
     have HSO := Lib.hid hSO
     have Hy := Lib.hid hy
     have Hp : Hid ((y.1.all JP.stand && JP.sound y.2) = (p1 && p2)) := Lib.hid (by rw [hp1, hp2])
     clear hcell1 hcell2 hcc1 hcc2 hvx hy hp1 hp2 hST hSO hlm
     cases p1 with
     | false =>
      go_wp2_with fail
      refine HST.out.mono ?_
      rintro E w1 ⟨rfl, rfl⟩
      go_wp2_with fail
      go_ret
      exact ⟨ret_bool2 (by rw [HS.out]; exact (not_all_of Hy.out Hp.out).symm), rfl⟩
     | true =>
      go_wp2_with fail
      refine HST.out.mono ?_
      rintro E w1 ⟨rfl, rfl⟩
      go_wp2_with fail
      refine HSO.out.mono ?_
      rintro E w1 ⟨rfl, rfl⟩
      cases p2 with
      | false =>
       go_wp2_with fail
       go_ret
       exact ⟨ret_bool2 (by rw [HS.out]; exact (not_all_of Hy.out Hp.out).symm), rfl⟩
      | true =>
       have HA2 := Lib.hid (all_take_of Hall.out Hy.out Hp.out)
       go_wp2_with fail
       go_roundg k
       case measure => omega
       case rel => exact ⟨i + 1, by omega, by go_num, HA2, rfl⟩
set_option maxRecDepth 100000 in
set_option maxHeartbeats 3200000 in
theorem tell_big (n : Nat) (v : Value) (x : JV) (w : World) (h : JvAt n [] w v x) (hl : (JP.text x).length ≤ 1099511627776) (hl2 : JP.size x ≤ 200 → (JP.text x).length ≤ 1073741824) (hz : JP.size x ≤ 4194304) (ht : TabOK w) :
  Calls Tryz.prog 26 #[v] w fun e w' => e = .returned (.tuple #[.string (mkB (JP.tellT x)), .int .i64 (JP.tellE x)]) ∧ Below w.heap.size w w' := by
 have HZ := size_any n v x w h hz
 have HS := sound_big n v x w h hl
 have ht0 : JP.size x ≤ 200 → _ := fun h9 => text_big n v x w h (hl2 h9) ht
 obtain ⟨S, hS⟩ : ∃ S, JP.sound x = S := ⟨_, rfl⟩
 obtain ⟨M, hM⟩ : ∃ S, JP.size x = S := ⟨_, rfl⟩
 obtain ⟨D, hD⟩ : ∃ S, JP.deep x = S := ⟨_, rfl⟩
 rw [hM, hD] at HZ
 rw [hM] at ht0
 have HT0 := Lib.hid ht0
 clear ht0 hl2
 rw [hS] at HS
 have HZ := Lib.hid HZ
 have HS := Lib.hid HS
 obtain ⟨E0, hE⟩ : ∃ T, JP.tellE x = T := ⟨_, rfl⟩
 obtain ⟨T0, hT⟩ : ∃ T, JP.tellT x = T := ⟨_, rfl⟩
 rw [hE, hT]
 have HE : Hid (E0 = if S = false then 16 else if 10 < D then 4 else if 200 < M then 2 else if 2000 < (JP.text x).length then 2 else 0) := Lib.hid (by rw [← hE, ← hS, ← hM, ← hD]; rfl)
 have HTT : Hid (T0 = if E0 = 0 then JP.text x else []) := Lib.hid (by rw [← hE, ← hT]; rfl)
 clear hS hM hD hE hT ht h
 have no : ∀ e : Int, E0 = e → e ≠ 0 → mkB T0 = ByteArray.empty := fun e h1 h2 => by
  rw [HTT.out, if_neg (by rw [h1]; exact h2)]; rfl
 have No := Lib.hid no
 clear no
 cases S with
 | false =>
  have He : Hid (E0 = 16) := Lib.hid (HE.out.trans (if_pos rfl))
  go_enter Tryz.func26, Tryz.ntmps26
  go_wp2_with fail
  refine HZ.out.mono ?_
  rintro E w1 ⟨rfl, rfl⟩
  go_wp2_with fail
  refine HS.out.mono ?_
  rintro E w1 ⟨rfl, rfl⟩
  go_wp2_with fail
  go_ret2
  exact ⟨ret_tell (No.out 16 He.out (by decide)) He.out.symm, Below.refl _ _⟩
 | true =>
  have HE1 : Hid (E0 = if 10 < D then 4 else if 200 < M then 2 else if 2000 < (JP.text x).length then 2 else 0) := Lib.hid (HE.out.trans (if_neg (by decide)))
  clear HE
  by_cases hd : 10 < D
  ·have He : Hid (E0 = 4) := Lib.hid (HE1.out.trans (if_pos hd))
   have p1 : (10 : Int) < (D : Int) := by omega
   clear hd
   go_enter Tryz.func26, Tryz.ntmps26
   go_wp2_with fail
   refine HZ.out.mono ?_
   rintro E w1 ⟨rfl, rfl⟩
   go_wp2_with fail
   refine HS.out.mono ?_
   rintro E w1 ⟨rfl, rfl⟩
   go_wp2_with fail
   go_ret2
   exact ⟨ret_tell (No.out 4 He.out (by decide)) He.out.symm, Below.refl _ _⟩
  have p1 : ¬ (10 : Int) < (D : Int) := by omega
  have HE2 : Hid (E0 = if 200 < M then 2 else if 2000 < (JP.text x).length then 2 else 0) := Lib.hid (HE1.out.trans (if_neg hd))
  clear HE1 hd
  by_cases hm : 200 < M
  ·have He : Hid (E0 = 2) := Lib.hid (HE2.out.trans (if_pos hm))
   have p2 : (200 : Int) < (M : Int) := by omega
   clear hm
   go_enter Tryz.func26, Tryz.ntmps26
   go_wp2_with fail
   refine HZ.out.mono ?_
   rintro E w1 ⟨rfl, rfl⟩
   go_wp2_with fail
   refine HS.out.mono ?_
   rintro E w1 ⟨rfl, rfl⟩
   go_wp2_with fail
   go_ret2
   exact ⟨ret_tell (No.out 2 He.out (by decide)) He.out.symm, Below.refl _ _⟩
  have p2 : ¬ (200 : Int) < (M : Int) := by omega
  have HE3 : Hid (E0 = if 2000 < (JP.text x).length then 2 else 0) := Lib.hid (HE2.out.trans (if_neg hm))
  have HT := Lib.hid (HT0.out (by omega))
  clear HE2 hm HT0
  obtain ⟨T, hT⟩ : ∃ T, JP.text x = T := ⟨_, rfl⟩
  rw [hT] at HE3 HT HTT hl
  have hsz := mkB_size T
  by_cases hlg : 2000 < T.length
  ·have He : Hid (E0 = 2) := Lib.hid (HE3.out.trans (if_pos hlg))
   have p3 : (2000 : Int) < ((mkB T).size : Int) := by omega
   clear hlg hsz hT
   go_enter Tryz.func26, Tryz.ntmps26
   go_wp2_with fail
   refine HZ.out.mono ?_
   rintro E w1 ⟨rfl, rfl⟩
   go_wp2_with fail
   refine HS.out.mono ?_
   rintro E w1 ⟨rfl, rfl⟩
   go_wp2_with fail
   refine HT.out.mono ?_
   rintro E w1 ⟨rfl, hb⟩
   have HB := Lib.hid hb
   clear hb
   go_wp2_with fail
   go_ret2
   exact ⟨ret_tell (No.out 2 He.out (by decide)) He.out.symm, HB.out⟩
  ·have He : Hid (E0 = 0) := Lib.hid (HE3.out.trans (if_neg hlg))
   have p3 : ¬ (2000 : Int) < ((mkB T).size : Int) := by omega
   have HTx : Hid (T0 = T) := Lib.hid (by rw [HTT.out, if_pos He.out])
   clear hlg hsz hT
   go_enter Tryz.func26, Tryz.ntmps26
   go_wp2_with fail
   refine HZ.out.mono ?_
   rintro E w1 ⟨rfl, rfl⟩
   go_wp2_with fail
   refine HS.out.mono ?_
   rintro E w1 ⟨rfl, rfl⟩
   go_wp2_with fail
   refine HT.out.mono ?_
   rintro E w1 ⟨rfl, hb⟩
   have HB := Lib.hid hb
   clear hb
   go_wp2_with fail
   go_ret2
   exact ⟨ret_tell (by rw [HTx.out]) He.out.symm, HB.out⟩
end Go.Proofs.YtnmhjabihfhobaaGreatDoor
/- schema.Fill: its contract, and what the laws ask of it. -/
namespace Go.Proofs.YtnmhjabihfhobaaGreatDoor
open Go.RowKit
open JP (JV Bs)
namespace Sch

def cameV (S : List GPart) (d : Bs) : JV × Nat := thruC S (fillC S) S.length (partAt S 0) (JP.readL d).1 0
def fillE (S : List GPart) (d : Bs) : Int := if bothE S d ≠ 0 then bothE S d else if 1000 < (cameV S d).2 then 2 else JP.tellE (cameV S d).1
def fillT (S : List GPart) (d : Bs) : Bs := if fillE S d = 0 then JP.tellT (cameV S d).1 else []
theorem keeps_fill {S : List GPart} (hgood : GoodS S) (w0 : World) (gc : Nat) (hgc : w0.heap.size ≤ gc) : Keeps3 (σ := Nat) w0 [gc] (fillC S) (CameAt gc) potC (fun c => c ≤ 1099511627776) where
 below := fun _ _ _ h hb => below_block hb h
 touch := fun _ g _ _ h ht hn _ => ht.block h (fun e => hn (List.mem_singleton.2 e.symm))
 low := fun b hb => by rw [List.mem_singleton.1 hb]; exact hgc
 size := fun p l c => fillC_size (fun k h => (text_dfl hgood k h).2.1) p l c
 down := fun p l c h => Nat.le_trans (foldC_up S p.fields (l, c)).1 h
theorem fields_few {S : List GPart} (h : GoodS S) (k : Int) : (partAt S k).fields.length ≤ 8 := by
 rcases part_cases S k with e | e
 ·rw [e]; exact Nat.zero_le _
 ·exact (h.2.2 _ _ e).few.1
theorem came_facts {S : List GPart} (hg : GoodS S) (hn : ∀ k, ∀ f ∈ (partAt S k).fields, f.name.size ≤ 1048576) {x : JV} (hx : JP.Fit x) :
  (thruC S (fillC S) S.length (partAt S 0) x 0).2 ≤ 1099511627776 ∧ JP.size (thruC S (fillC S) S.length (partAt S 0) x 0).1 ≤ 4194304 ∧ (JP.text (thruC S (fillC S) S.length (partAt S 0) x 0).1).length ≤ 1099511627776 ∧
   ((thruC S (fillC S) S.length (partAt S 0) x 0).2 ≤ 1000 → JP.size (thruC S (fillC S) S.length (partAt S 0) x 0).1 ≤ 200 → (JP.text (thruC S (fillC S) S.length (partAt S 0) x 0).1).length ≤ 1073741824) := by
 have hd : ∀ k, (partAt S k).deflt ≠ ByteArray.empty → JP.Fit (dfl S k) := fun k h => text_dfl hg k h
 have h1 := thruC_many (s := S) (fun k h => (hd k h).2.1) (fields_few hg) S.length 0 x 0
 have h2 := thruC_size (s := S) (pot := potC) (mk := fillC S) (fun p l c => fillC_size (fun k h => (hd k h).2.1) p l c) S.length (partAt S 0) x 0
 have h3 := thruC_len (s := S) (fun k h => (hd k h).2.2.2) hn S.length 0 x 0
 have h4 := thruC_more S S.length (partAt S 0) x 0
 have h5 := hx.2.1
 have h6 : (JP.text x).length ≤ 2000 := hx.2.2.2
 obtain ⟨v', c', hvc⟩ : ∃ v c, thruC S (fillC S) S.length (partAt S 0) x 0 = (v, c) := ⟨_, _, rfl⟩
 rw [hvc] at h1 h2 h3 h4 ⊢
 have h7 := JP.size_pos x
 unfold aC potC KT at *
 dsimp only at h1 h2 h3 h4 ⊢
 refine ⟨by omega, by omega, by omega, fun h8 h9 => by omega⟩
def FillAt (S : List GPart) (d : Bs) (w : World) (e : Ending) (w' : World) : Prop := e = .returned (.tuple #[.string (mkB (fillT S d)), .int .i64 (fillE S d)]) ∧ Below w.heap.size w w'
set_option maxRecDepth 100000 in
set_option maxHeartbeats 3200000 in
theorem fill_any {S : List GPart} {sa : Option Addr} {sn sc : Nat} {w : World} (hlies : Lies S (.slice sa sn sc) w) (hS : S.length ≤ 1048576) (hn : ∀ k, ∀ f ∈ (partAt S k).fields, f.name.size ≤ 1048576) (d : ByteArray) (hd : d.size ≤ 1048576) :
  Calls Tryz.prog 24 #[.slice sa sn sc, .string d] w (FillAt S d.data.toList w) := by
 obtain ⟨w1, hw1⟩ : ∃ w1, w1 = w.alloc (.cells #[.slice sa sn sc] 38) := ⟨_, rfl⟩
 obtain ⟨gs, hgs⟩ : ∃ g, g = w.heap.size := ⟨_, rfl⟩
 have hb1 : Below w.heap.size w w1 := by rw [hw1]; exact (Below.refl _ w).alloc (Nat.le_refl _) _
 have hx1 : w1.heap[gs]? = some (.cells #[.slice sa sn sc] 38 (0, 0)) := by rw [hw1, hgs]; exact heap_alloc_new w _
 have hl1 := hlies.below hb1
 have HB := Lib.hid (both_any hl1 hS d hd)
 unfold FillAt
 have hok := @both_ok S d.data.toList
 have hfe : fillE S d.data.toList = if bothE S d.data.toList ≠ 0 then bothE S d.data.toList else if 1000 < (cameV S d.data.toList).2 then 2 else JP.tellE (cameV S d.data.toList).1 := rfl
 have hft : fillT S d.data.toList = if fillE S d.data.toList = 0 then JP.tellT (cameV S d.data.toList).1 else [] := rfl
 have hcv : cameV S d.data.toList = thruC S (fillC S) S.length (partAt S 0) (JP.readL d.data.toList).1 0 := rfl
 obtain ⟨CV, hCV⟩ : ∃ x, cameV S d.data.toList = x := ⟨_, rfl⟩
 obtain ⟨FE, hFE⟩ : ∃ x, fillE S d.data.toList = x := ⟨_, rfl⟩
 obtain ⟨FT, hFT⟩ : ∃ x, fillT S d.data.toList = x := ⟨_, rfl⟩
 unfold BothAt at HB
 obtain ⟨b, hb⟩ : ∃ b, bothE S d.data.toList = b := ⟨_, rfl⟩
 rw [hb] at HB hok hfe
 rw [hFE, hCV] at hfe
 rw [hFT, hFE, hCV] at hft
 rw [hCV] at hcv
 rw [hFT, hFE]
 have HLies := Lib.hid hl1
 have HB1 := Lib.hid hb1
 have X1 := Lib.hid hx1
 have c1 := cell_block hx1 0
 have Hft := Lib.hid hft
 clear hlies hl1 hS hd hCV hFE hFT hb hb1 hx1 hft
 by_cases h0 : b = 0
 ·subst h0
  obtain ⟨ok1, ok2⟩ := hok rfl
  have hgood := (check_good ok1).1
  have HGood := Lib.hid hgood
  have hfit := JP.read_fit' ok2
  have Hfit := Lib.hid hfit
  obtain ⟨f1, f2, f3, f4⟩ := came_facts hgood hn hfit
  rw [← hcv] at f1 f2 f3 f4
  obtain ⟨x, hx⟩ : ∃ x, (JP.readL d.data.toList).1 = x := ⟨_, rfl⟩
  rw [hx] at HB hcv Hfit
  have Hcv := Lib.hid hcv
  rw [if_neg (fun h => h rfl)] at hfe
  have Hfe := Lib.hid hfe
  have F1 := Lib.hid f1
  have F2 := Lib.hid f2
  have F3 := Lib.hid f3
  have F4 := Lib.hid f4
  obtain ⟨V, C, rfl⟩ : ∃ V C, CV = (V, C) := ⟨CV.1, CV.2, rfl⟩
  have hC : C ≤ 1099511627776 := f1
  clear ok1 ok2 hok hgood hfit hx hcv hfe hn f1 f2 f3 f4
  go_enter Tryz.func24, Tryz.ntmps24
  go_upto_region 1 with fail
  rw [← hw1]
  rw [← hgs]
  clear hw1 hgs
  go_wp2_with fail
  refine HB.out.mono ?_
  rintro E w5 ⟨v, rfl, hj, hb5⟩
  obtain ⟨nj, hj⟩ := hj trivial
  obtain ⟨w6, hw6⟩ : ∃ w6, w6 = w5.alloc (.cells #[.int .i64 0] 3) := ⟨_, rfl⟩
  obtain ⟨gc, hgc⟩ : ∃ g, g = w5.heap.size := ⟨_, rfl⟩
  have hb6 : Below w5.heap.size w5 w6 := by rw [hw6]; exact (Below.refl _ w5).alloc (Nat.le_refl _) _
  have hx6 : CameAt gc 0 w6 := by show w6.heap[gc]? = _; rw [hw6, hgc]; exact heap_alloc_new w5 _
  have hl5 := HLies.out.below hb5
  have x5 := below_block hb5 X1.out
  have c6 := cell_block (below_block hb6 x5) 0
  have hpos : 0 < S.length := HGood.out.1
  have hgs6 : gc < w6.heap.size := blk_lt hx6
  have hth := through_any (f := 48) (caps := #[.pointer (some ⟨gs, 0, none⟩), .pointer (some ⟨gc, 0, none⟩)]) (run_callFunc_body Tryz.func48 (by kernel_rfl) (by kernel_rfl)) HGood.out hl5 (keeps_fill HGood.out w5 gc (by omega)) (makes_fill HGood.out hl5 gs gc x5 (by omega)) S.length 0 nj [gc] v x 0 w6 hpos (by omega) (fun g h => h) (fun g h => by rw [List.mem_singleton.1 h]; exact hgs6) ((hj.fresh (T' := [gc]) (fun b hb => by rw [List.mem_singleton.1 hb]; exact .inr (by omega))).below hb6) hx6 (by
   have := Hfit.out.2.1
   unfold potC; omega) (by
   show (thruC S (fillC S) S.length (partAt S 0) x 0).2 ≤ 1099511627776
   rw [← Hcv.out]
   exact F1.out) hb6
  rw [show ((0 : Nat) : Int) = 0 from rfl, ← Hcv.out] at hth
  have HTh := Lib.hid hth
  have HB5 := Lib.hid (HB1.out.trans (hb5.mono HB1.out.size))
  have hbs := HB1.out.size
  have HE5 := Lib.hid (HLies.out.env.below hb5)
  clear hb5 hj hl5 hpos hth hb6 hx6 x5 hgs6
  go_upto_region 5 with fail
  rw [← hw6]
  rw [← hgc]
  clear hw6 hgc
  go_wp2_with fail
  refine HTh.out.mono ?_
  rintro E w7 ⟨u, m6, rfl, hu, hi7, _, hb7⟩
  have c7 : w7.cell? ⟨gc, 0, none⟩ = some (.int .i64 (C : Int)) := cell_block hi7 0
  have HB7 := Lib.hid (HB5.out.trans (hb7.mono HB5.out.size))
  by_cases hc : 1000 < C
  ·have qc : (1000 : Int) < (C : Int) := by omega
   have HFE : Hid (FE = 2) := Lib.hid (by rw [Hfe.out]; exact if_pos hc)
   have HFT : Hid (FT = []) := Lib.hid (by rw [Hft.out, if_neg (by rw [HFE.out]; decide)])
   clear hu hi7 hb7 hc HTh c6
   go_wp2_with fail
   go_ret2
   exact ⟨by rw [HFE.out, HFT.out]; rfl, HB7.out⟩
  ·have qc : ¬ (1000 : Int) < (C : Int) := by omega
   have HFE : Hid (FE = JP.tellE V) := Lib.hid (by rw [Hfe.out]; exact if_neg hc)
   have HFT : Hid (FT = JP.tellT V) := Lib.hid (by
    rw [Hft.out]
    by_cases h9 : FE = 0
    ·rw [if_pos h9]
    ·rw [if_neg h9]
     exact (JP.tellT_no (by rw [← HFE.out]; exact h9)).symm)
   have hte := tell_big m6 u V w7 (hu.fresh (T' := []) (fun b hb => by cases hb)) F3.out (fun h9 => F4.out (by show C ≤ 1000; omega) h9) F2.out (HE5.out.1.below hb7)
   rw [← HFE.out, ← HFT.out] at hte
   have HTe := Lib.hid hte
   clear hu hi7 hb7 hc HTh c6 hte
   go_wp2_with fail
   refine HTe.out.mono ?_
   rintro E w8 ⟨rfl, hb8⟩
   have HB8 := Lib.hid (HB7.out.trans (hb8.mono HB7.out.size))
   clear hb8
   go_wp2_with fail
   go_ret2
   exact ⟨rfl, HB8.out⟩
 ·have q : (b != 0) = true := by rw [bne_iff_ne]; exact h0
  rw [if_pos h0] at hfe
  have HFT : Hid (FT = []) := Lib.hid (by rw [Hft.out, if_neg (by rw [hfe]; exact h0)])
  have hft2 := HFT.out
  clear h0 hok hcv hn HFT Hft
  subst hft2
  subst hfe
  go_enter Tryz.func24, Tryz.ntmps24
  go_upto_region 1 with fail
  rw [← hw1]
  rw [← hgs]
  clear hw1 hgs
  go_wp2_with fail
  refine HB.out.mono ?_
  rintro E w5 ⟨v, rfl, _, hb⟩
  have HB5 := Lib.hid (HB1.out.trans (hb.mono HB1.out.size))
  clear hb
  go_wp2_with fail
  go_ret2
  exact ⟨rfl, HB5.out⟩
end Sch
end Go.Proofs.YtnmhjabihfhobaaGreatDoor
/- The law SchemaSound: its walk. -/
namespace Go.Proofs.YtnmhjabihfhobaaGreatDoor
open Go.RowKit
open JP (JV Bs)
namespace Sch

theorem foldC_wf {s : List GPart} (hd : ∀ k, (partAt s k).deflt ≠ ByteArray.empty → JP.wfS (dfl s k)) : ∀ (F : List GField) (l : Flds), JP.wfSF l → JP.wfSF (F.foldl (fillStep s) l)
 | [], _, h => h
 | f :: r, l, h => by
  refine foldC_wf hd r _ ?_
  unfold fillStep
  by_cases hs : skips s l f = true
  ·rw [if_pos hs]; exact h
  ·rw [if_neg hs]
   have hs2 : (partAt s f.part).deflt ≠ ByteArray.empty := by
    unfold skips at hs
    have : hasN l f = false ∧ ¬ (partAt s f.part).deflt = ByteArray.empty := by simpa using hs
    exact this.2
   exact JP.putS_wf (hd _ hs2) h
theorem wfSL_map {f : JV → JV} (hf : ∀ v, JP.wfS v → JP.wfS (f v)) : ∀ l : List JV, JP.wfSL l → JP.wfSL (l.map f)
 | [], h => h
 | v :: r, h => by
  rw [JP.wfSL] at h
  rw [List.map_cons, JP.wfSL]
  exact ⟨hf v h.1, wfSL_map hf r h.2⟩
theorem wfSF_map {f : Bs × JV → Bs × JV} (hf : ∀ y : Bs × JV, JP.wfS y.2 → JP.wfS (f y).2) : ∀ l : Flds, JP.wfSF l → JP.wfSF (l.map f)
 | [], h => h
 | (n, v) :: r, h => by
  rw [JP.wfSF] at h
  obtain ⟨⟨m, u⟩, hm⟩ : ∃ z, f (n, v) = z := ⟨_, rfl⟩
  have h1 := hf (n, v) h.1
  rw [hm] at h1
  rw [List.map_cons, hm, JP.wfSF]
  exact ⟨h1, wfSF_map hf r h.2⟩
theorem fill_wf {s : List GPart} (hd : ∀ k, (partAt s k).deflt ≠ ByteArray.empty → JP.wfS (dfl s k)) : ∀ (n : Nat) (p : GPart) (v : JV), JP.wfS v → JP.wfS (fillV s n p v)
 | 0, _, _, h => h
 | n + 1, p, v, h => by
  have ih := fill_wf hd n
  unfold fillV at ih ⊢
  rw [thruV]
  split
  ·exact h
  ·cases v with
   | list l =>
    show JP.wfS (.list (l.map _))
    rw [JP.wfS] at h ⊢
    exact wfSL_map (fun v hv => ih _ v hv) l h
   | obj l =>
    show JP.wfS (.obj ((fillO s p l).map _))
    rw [JP.wfS] at h ⊢
    refine ⟨?_, wfSF_map (fun y hy => ?_) _ (foldC_wf hd _ _ h.2)⟩
    ·refine List.pairwise_map.2 (List.Pairwise.imp ?_ (fold_srt s p.fields l h.1))
     intro a b hab
     rw [kidV_name, kidV_name]; exact hab
    ·unfold kidV
     split
     ·exact ih _ _ hy
     ·exact hy
   | _ => exact h
theorem fills_ok {S : List GPart} {d : Bs} (h : fillE S d = 0) : bothE S d = 0 ∧ (cameV S d).1 = fillV S S.length (partAt S 0) (JP.readL d).1 ∧ JP.Fit (fillV S S.length (partAt S 0) (JP.readL d).1) ∧ fillT S d = JP.text (fillV S S.length (partAt S 0) (JP.readL d).1) := by
 have h0 := h
 unfold fillE at h
 by_cases hb : bothE S d ≠ 0
 ·rw [if_pos hb] at h; exact absurd h hb
 ·rw [if_neg hb] at h
  have hb := Decidable.not_not.1 hb
  by_cases hc : 1000 < (cameV S d).2
  ·rw [if_pos hc] at h; exact absurd h (by decide)
  ·rw [if_neg hc] at h
   obtain ⟨h1, h2⟩ := both_ok hb
   have hg := (check_good h1).1
   have hv : (cameV S d).1 = fillV S S.length (partAt S 0) (JP.readL d).1 := thruC_fill S S.length (partAt S 0) (JP.readL d).1 0 (by unfold cameV at hc; omega)
   have hw := fill_wf (s := S) (fun k hk => JP.wf_S.1 _ (text_dfl hg k hk).1) S.length (partAt S 0) (JP.readL d).1 (JP.wf_S.1 _ (JP.read_fit' h2).1)
   rw [hv] at h
   obtain ⟨hf, ht⟩ := JP.tell_ok hw h
   refine ⟨hb, hv, hf, ?_⟩
   unfold fillT
   rw [if_pos h0, hv, ht]
theorem fills_read {S : List GPart} {d : Bs} (h : fillE S d = 0) : JP.readL (fillT S d) = (fillV S S.length (partAt S 0) (JP.readL d).1, 0) ∧ bothE S (fillT S d) = 0 := by
 obtain ⟨h1, h2, h3, h4⟩ := fills_ok h
 have hr := JP.fit_read h3
 rw [← h4] at hr
 refine ⟨hr, ?_⟩
 unfold bothE
 rw [if_pos (both_ok h1).1, hr]
theorem fills_again {S : List GPart} {d : Bs} (h : fillE S d = 0) : fillE S (fillT S d) = 0 ∧ fillT S (fillT S d) = fillT S d := by
 obtain ⟨h1, h2, h3, h4⟩ := fills_ok h
 obtain ⟨h5, h6⟩ := fills_read h
 have hc : cameV S (fillT S d) = (fillV S S.length (partAt S 0) (JP.readL d).1, 0) := by
  unfold cameV
  rw [h5]
  exact thru_again S S.length (partAt S 0) (JP.readL d).1 0
 have he : fillE S (fillT S d) = 0 := by
  unfold fillE
  rw [if_neg (by rw [h6]; exact fun h => h rfl), hc]
  exact (JP.tell_fit h3).1
 refine ⟨he, ?_⟩
 have : fillT S (fillT S d) = JP.tellT (cameV S (fillT S d)).1 := if_pos he
 rw [this, hc, h4]
 exact (JP.tell_fit h3).2
theorem sounds_ok {S : List GPart} {d : Bs} (h : fillE S d = 0) (hl : faultsL S d = []) : bothE S (fillT S d) = 0 ∧ faultsL S (fillT S d) = [] ∧ pruneT S d = JP.canonT d := by
 obtain ⟨h1, h2, h3, h4⟩ := fills_ok h
 obtain ⟨h5, h6⟩ := fills_read h
 obtain ⟨hg, hdf⟩ := check_good (both_ok h1).1
 unfold faultsL at hl
 rw [if_pos h1] at hl
 unfold faultsV at hl
 refine ⟨h6, ?_, ?_⟩
 ·unfold faultsL
  rw [if_pos h6, h5]
  exact fill_sound hg hdf S.length 0 [] (JP.readL d).1 (Nat.le_refl _) hl
 ·have e1 : pruneT S d = JP.text (prunedV S d) := if_pos h1
  have e2 : prunedV S d = (JP.readL d).1 := prune_sound S S.length (partAt S 0) [] (JP.readL d).1 hl
  rw [e1, e2]
  exact (JP.canonT_ok (Prod.ext rfl (both_ok h1).2)).symm
theorem names_small {S : List GPart} (h : (S.map partB).sum + 1 ≤ 1048576) : ∀ k, ∀ f ∈ (partAt S k).fields, f.name.size ≤ 1048576 := by
 intro k f hf
 rcases part_cases S k with e | e
 ·rw [e] at hf; simp [noPart] at hf
 ·have hmem : ∀ (l : List GPart), ∀ p ∈ l, partB p ≤ (l.map partB).sum := fun l => by
   induction l with
   | nil => intro p hp; cases hp
   | cons q r ih =>
    intro p hp
    rw [List.map_cons, List.sum_cons]
    rcases List.mem_cons.1 hp with rfl | hp
    ·omega
    ·have := ih p hp; omega
  have hb : partB (partAt S k) ≤ 1048576 := by have := hmem S _ (List.mem_of_getElem? e); omega
  have hfl : ∀ (l : List GField), ∀ p ∈ l, fieldB p ≤ (l.map fieldB).sum := fun l => by
   induction l with
   | nil => intro p hp; cases hp
   | cons q r ih =>
    intro p hp
    rw [List.map_cons, List.sum_cons]
    rcases List.mem_cons.1 hp with rfl | hp
    ·omega
    ·have := ih p hp; omega
  have h2 := hfl _ f hf
  unfold partB at hb
  unfold fieldB at h2 hb
  omega
set_option maxRecDepth 100000 in
set_option maxHeartbeats 6400000 in
theorem schemaSound_walkV (sa : Option Addr) (sn sc : Nat) (S : List GPart) (a : ByteArray) (w : World) (hrow : RowAt PartR 9 w (.slice sa sn sc) S) (hbulk : (S.map partB).sum + 1 + (a.data.toList.length + 1 + 0) ≤ 1048576) (hE : Env w) :
  Calls Tryz.prog 8 #[.slice sa sn sc, .string a] w fun e w' => e = .returned (.bool true) ∧ Below w.heap.size w w' := by
 have ha : a.size ≤ 1048576 := by rw [list_size a] at hbulk; omega
 obtain ⟨hS, hsm⟩ := small_of (S := S) (by omega)
 have hnm := names_small (S := S) (by omega)
 have hlies : Lies S (.slice sa sn sc) w := ⟨hrow, hsm, hE⟩
 have HF := Lib.hid (faults_any hlies hS a ha)
 have HR := Lib.hid (fun (w' : World) (hb : Below w.heap.size w w') => refuses_any w' (hE.below hb))
 have HFi := fun (w' : World) (hb : Below w.heap.size w w') => fill_any (hlies.below hb) hS hnm a ha
 have hLl := faults_few S a.data.toList
 unfold FaultsAt at HF
 unfold FillAt at HFi
 obtain ⟨FT, hFT⟩ : ∃ x, fillT S a.data.toList = x := ⟨_, rfl⟩
 obtain ⟨FE, hFE⟩ : ∃ x, fillE S a.data.toList = x := ⟨_, rfl⟩
 obtain ⟨L, hL⟩ : ∃ l, faultsL S a.data.toList = l := ⟨_, rfl⟩
 obtain ⟨b, hb⟩ : ∃ x, bothE S a.data.toList = x := ⟨_, rfl⟩
 rw [hFT, hFE] at HFi
 rw [hb, hL] at HF
 have HFi := Lib.hid HFi
 have HLies := Lib.hid hlies
 by_cases hgo : FE = 0 ∧ L = []
 ·obtain ⟨rfl, rfl⟩ := hgo
  obtain ⟨s1, s2, s3⟩ := sounds_ok hFE hL
  have hb0 : b = 0 := by rw [← hb]; exact (fills_ok hFE).1
  subst hb0
  have hFTl : FT.length ≤ 2000 := by rw [← hFT, (fills_ok hFE).2.2.2]; exact (fills_ok hFE).2.2.1.2.2.2
  rw [hFT] at s1 s2
  have hPz : (mkB FT).size ≤ 1048576 := by rw [mkB_size]; omega
  have HF2 := fun (w' : World) (hb : Below w.heap.size w w') => faults_any (hlies.below hb) hS (mkB FT) hPz
  unfold FaultsAt at HF2
  rw [mkB_list, s1, s2] at HF2
  have HF2 := Lib.hid HF2
  have HP := fun (w' : World) (hb : Below w.heap.size w w') => prune_any (hlies.below hb) hS a ha
  unfold PruneAt at HP
  rw [hb, s3] at HP
  have HP := Lib.hid HP
  have HC := Lib.hid (fun (w' : World) (hb : Below w.heap.size w w') => canonK_any a w' ha (hE.1.below hb))
  obtain ⟨CT, hCT⟩ : ∃ t, JP.canonT a.data.toList = t := ⟨_, rfl⟩
  rw [hCT] at HP HC
  have qs : ((mkB CT).toList == (mkB CT).toList) = true := by simp
  clear hrow hbulk hE ha hS hsm hnm hlies hFT hFE hL hb s1 s2 s3 hFTl hPz hCT hLl
  go_enter Tryz.func8, Tryz.ntmps8
  go_wp2_with fail
  refine HF.out.mono ?_
  rintro E w1 ⟨v, rfl, hrow, hb1⟩
  obtain ⟨af, cf, e1, _⟩ := hrow.len
  have e1 : v = .slice af 0 cf := e1
  subst e1
  have HB1 := Lib.hid hb1
  clear hb1 hrow
  go_wp2_with fail
  refine (HR.out w1 HB1.out).mono ?_
  rintro E w2 ⟨rfl, hb2⟩
  have HB2 := Lib.hid (HB1.out.trans (hb2.mono HB1.out.size))
  clear hb2 HR HF
  go_wp2_with fail
  refine (HFi.out w2 HB2.out).mono ?_
  rintro E w3 ⟨rfl, hb3⟩
  have HB3 := Lib.hid (HB2.out.trans (hb3.mono HB2.out.size))
  clear hb3 HFi
  go_wp2_with fail
  refine (HF2.out w3 HB3.out).mono ?_
  rintro E w4 ⟨v, rfl, hrow, hb4⟩
  obtain ⟨ag, cg, e2, _⟩ := hrow.len
  have e2 : v = .slice ag 0 cg := e2
  subst e2
  have HB4 := Lib.hid (HB3.out.trans (hb4.mono HB3.out.size))
  clear hb4 hrow HF2
  go_wp2_with fail
  refine (HP.out w4 HB4.out).mono ?_
  rintro E w5 ⟨rfl, hb5⟩
  have HB5 := Lib.hid (HB4.out.trans (hb5.mono HB4.out.size))
  clear hb5 HP
  go_wp2_with fail
  refine (HC.out w5 HB5.out).mono ?_
  rintro E w6 ⟨rfl, hb6⟩
  have HB6 := Lib.hid (HB5.out.trans (hb6.mono HB5.out.size))
  clear hb6 HC
  go_wp2_with fail
  go_ret
  exact ⟨rfl, HB6.out⟩
 ·have hno : b ≠ 0 → L = [] ∧ FT = [] ∧ FE = b := fun h => by
   rw [← hb] at h
   refine ⟨by rw [← hL]; unfold faultsL; rw [if_neg h], ?_, by rw [← hFE, ← hb]; unfold fillE; rw [if_pos h]⟩
   rw [← hFT]
   unfold fillT
   rw [if_neg]
   unfold fillE
   rw [if_pos h]; exact h
  have Hno := Lib.hid hno
  obtain ⟨ln, hln⟩ : ∃ n, L.length = n := ⟨_, rfl⟩
  have Hln := Lib.hid hln
  have hgo2 : FE = 0 → 0 < ln := fun h => by
   rcases Nat.eq_zero_or_pos ln with h1 | h1
   ·exact absurd ⟨h, List.eq_nil_of_length_eq_zero (by omega)⟩ hgo
   ·exact h1
  have Hgo2 := Lib.hid hgo2
  clear hrow hbulk hE ha hS hsm hnm hlies hFT hFE hL hb hLl hno hgo hgo2 hln
  go_enter Tryz.func8, Tryz.ntmps8
  go_wp2_with fail
  refine HF.out.mono ?_
  rintro E w1 ⟨v, rfl, hrow, hb1⟩
  obtain ⟨af, cf, e1, _⟩ := hrow.len
  rw [List.length_map, Hln.out] at e1
  subst e1
  have HB1 := Lib.hid hb1
  clear hb1 hrow
  go_wp2_with fail
  refine (HR.out w1 HB1.out).mono ?_
  rintro E w2 ⟨rfl, hb2⟩
  have HB2 := Lib.hid (HB1.out.trans (hb2.mono HB1.out.size))
  clear hb2 HR HF
  go_wp2_with fail
  refine (HFi.out w2 HB2.out).mono ?_
  rintro E w3 ⟨rfl, hb3⟩
  have HB3 := Lib.hid (HB2.out.trans (hb3.mono HB2.out.size))
  clear hb3 HFi
  by_cases h0 : b = 0
  ·subst h0
   by_cases h1 : FE = 0
   ·subst h1
    have hl := Hgo2.out rfl
    have ql : (0 : Int) < (ln : Int) := by omega
    go_wp2_with fail
    go_ret
    exact ⟨rfl, HB3.out⟩
   ·have q1 : (FE != 0) = true := by rw [bne_iff_ne]; exact h1
    clear h1
    go_wp2_with fail
    go_ret
    exact ⟨rfl, HB3.out⟩
  ·obtain ⟨n1, n2, n3⟩ := Hno.out h0
   have hl0 : ln = 0 := by rw [← Hln.out, n1]; rfl
   have q0 : (b != 0) = true := by rw [bne_iff_ne]; exact h0
   have q1 : (b == 0) = false := by rw [beq_eq_false_iff_ne]; exact h0
   have qe : (mkB FT).toList.isEmpty = true := by rw [n2, ByteArray.toList_eq]; rfl
   clear n1 n2 n3 h0 Hno Hln Hgo2
   subst hl0
   go_wp2_with fail
   go_ret
   exact ⟨rfl, HB3.out⟩
end Sch
theorem schemaSound_walk (v : Value) (S : List GPart) (a : ByteArray) (w : World) (hrow : RowAt PartR 9 w v S) (hbulk : (S.map partB).sum + 1 + (a.data.toList.length + 1 + 0) ≤ 1048576) (hE : Env w) :
  Calls Tryz.prog 8 #[v, .string a] w fun e w' => e = .returned (.bool true) ∧ Below w.heap.size w w' := by
 obtain ⟨sa, sc, rfl, _, _⟩ := hrow.len
 exact Sch.schemaSound_walkV sa _ sc S a w hrow hbulk hE
end Go.Proofs.YtnmhjabihfhobaaGreatDoor
