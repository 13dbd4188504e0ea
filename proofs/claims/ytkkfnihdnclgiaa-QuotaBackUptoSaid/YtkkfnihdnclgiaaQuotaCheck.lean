/- quota.isUnits, quota.Check: their contracts. -/
import Derived.Test.YtkkfnihdnclgiaaQuotaPlain
import Derived.Test.YtkkfnihdnclgiaaMadeWalk
import Derived.Test.YtkkfnihdnclgiaaBox
import Derived.Deep.QuietTactic
import Derived.BigQuiet
import Derived.WalkLawsBesides
import Derived.Deep.LoopGhost
namespace Go.Proofs.Ytkkfnihdnclgiaa
open Go.RowKit

theorem below_drewN {B : Nat} {a w : World} (h : Below B a w) (n : Nat) : Below B a (w.drewN n) := ⟨h.os, h.tape, h.output, h.size, h.block⟩
theorem isUnits_any (n : Int) (w : World) : Calls Try.prog 38 #[.int .i64 n] w fun e w' => e = .returned (.bool (unitsB n)) ∧ w' = w := by
  by_cases h1 : 0 ≤ n
  · have hr : unitsB n = decide (n ≤ 1099511627776) := by unfold unitsB; rw [decide_eq_true h1, Bool.true_and]
    have Hr := Lib.hid hr
    clear hr
    go_enter Try.func38, Try.ntmps38
    go_wp2_with fail
    go_ret
    exact ⟨congrArg (fun b => Ending.returned (Value.bool b)) Hr.out.symm, rfl⟩
  · have hr : unitsB n = false := by unfold unitsB; rw [decide_eq_false h1, Bool.false_and]
    have Hr := Lib.hid hr
    clear hr
    go_enter Try.func38, Try.ntmps38
    go_wp2_with fail
    go_ret
    exact ⟨congrArg (fun b => Ending.returned (Value.bool b)) Hr.out.symm, rfl⟩

set_option maxRecDepth 100000 in
set_option maxHeartbeats 800000 in
theorem quotaCheck_any (v : Value) (l : List GLimit) (w : World) (h : RowAt LimitR 3 w v l) (hx : ∀ x ∈ l, x.what.size ≤ 1048576) (hl : l.length ≤ 1073741824) :
    Calls Try.prog 16 #[v] w fun e w' => e = .returned (.int .i64 (checkL l)) ∧ Below w.heap.size w w' := by
  obtain ⟨ao, c, rfl, _, _⟩ := h.len
  have H := Lib.hid h
  have Hx := Lib.hid hx
  clear h hx
  by_cases h6 : 6 < l.length
  · have hc : Hid (checkL l = 2) := by show _ = _; unfold checkL; rw [if_pos h6]
    have q1 : (6 : Int) < (l.length : Int) := by omega
    rw [hc.out]
    go_enter Try.func16, Try.ntmps16
    go_wp2_with fail
    go_ret
    exact ⟨rfl, Below.refl _ _⟩
  · have hc : Hid (checkL l = limsCode none l) := by show _ = _; unfold checkL; rw [if_neg h6]
    have q1 : ¬ (6 : Int) < (l.length : Int) := by omega
    rw [hc.out]
    clear hc
    go_enter Try.func16, Try.ntmps16
    go_wp2_with fail
    clear q1
    go_loopg [11] l.length (fun g u11 wr => ∃ i : Nat, i + g = l.length ∧ u11 = .int .i64 (i : Int) ∧ Hid (limsCode none l = limsCode (ahead l i) (l.drop i)) ∧ Below w.heap.size w wr)
    case atStart => exact ⟨0, by omega, rfl, rfl, Below.refl _ _⟩
    case round =>
      obtain ⟨i, hig, rfl, Hlc, hbel⟩ := hrel
      cases gk with
      | zero =>
        obtain rfl : i = l.length := by omega
        have hz : Hid (limsCode none l = 0) := by show _ = _; rw [Hlc.out]; exact limsCode_end l _
        go_wp2_with fail
        go_ret
        exact ⟨congrArg (fun n => Ending.returned (Value.int .i64 n)) hz.out.symm, hbel⟩
      | succ g =>
        have hil : i < l.length := by omega
        obtain ⟨b, o, c', hv, _, _, hbs, hcell⟩ := H.out.form (by omega) (by omega)
        cases hv
        obtain ⟨x, hxi⟩ : ∃ x, l[i]? = some x := ⟨l[i]'(by omega), List.getElem?_eq_getElem _⟩
        obtain ⟨cs, _, hcc, hR, hw1, hw2⟩ := hcell i x hxi
        subst hR
        have e0 : wr.cell? ⟨b, o + i * 3, none⟩ = some (.string x.what) := (hbel.cell (p := ⟨b, _, none⟩) hbs).trans (by simpa using hcc 0 _ rfl)
        have e1 : wr.cell? ⟨b, o + i * 3 + 1, none⟩ = some (.int .i64 x.hard) := (hbel.cell (p := ⟨b, _, none⟩) hbs).trans (hcc 1 _ rfl)
        have e2 : wr.cell? ⟨b, o + i * 3 + 2, none⟩ = some (.int .i64 x.used) := (hbel.cell (p := ⟨b, _, none⟩) hbs).trans (hcc 2 _ rfl)
        have q1 : (0 : Int) ≤ (i : Int) := by omega
        have q2 : (i : Int) < (l.length : Int) := by omega
        have hxs : x.what.size ≤ 1048576 := Hx.out x (List.mem_of_getElem? hxi)
        have Hat := Lib.hid (limsCode_at hxi)
        clear hcc hxi
        obtain ⟨cd, Hcd⟩ : ∃ cd, Hid (NameP.check x.what.data.toList = cd) := ⟨_, Lib.hid rfl⟩
        obtain ⟨LC, HLC⟩ : ∃ LC, Hid (limCode (ahead l i) x = LC) := ⟨_, Lib.hid rfl⟩
        have hbel2 : ∀ o : Obj, Below w.heap.size w (wr.alloc o) := fun o => hbel.alloc hbel.size o
        have Hbel2 := Lib.hid hbel2
        have hbel0 := hbel
        have HL := Lib.hid HLC.out
        unfold limCode at HL
        rw [Hcd.out] at HL
        clear hbel hbel2
        -- what the way that ends says
        have ends : ∀ C : Int, LC = C → C ≠ 0 → limsCode none l = C := fun C h1 h2 => by rw [Hlc.out, Hat.out, HLC.out, h1, if_pos h2]
        have goes : LC = 0 → limsCode none l = limsCode (ahead l (i + 1)) (l.drop (i + 1)) := fun h1 => by rw [Hlc.out, Hat.out, HLC.out, if_neg (by rw [h1]; simp)]
        have Ends := Lib.hid ends
        have Goes := Lib.hid goes
        clear ends goes Hlc Hat HLC
        by_cases hcd : cd = 0
        · subst hcd
          rw [if_neg (by simp)] at HL
          rcases Nat.eq_zero_or_pos i with h0 | h0
          · have ha : ahead l i = none := by unfold ahead; rw [if_pos h0]
            rw [ha] at HL
            have q5 : decide (0 < i) = false := by rw [decide_eq_false_iff_not]; omega
            clear ha h0
            by_cases hH : unitsB x.hard = true
            · by_cases hU : unitsB x.used = true
              · have hLC : LC = 0 := by have := HL.out; rw [if_neg (by simp)] at this; rw [if_neg (by rw [hH]; simp), if_neg (by rw [hU]; simp)] at this; exact this.symm
                have Hnext := Lib.hid (Goes.out hLC)
                clear Ends Goes HL hLC
                go_wp2_with fail
                refine (check_any _ _ (by omega)).mono ?_
                rintro E w1 ⟨rfl, rfl⟩
                rw [Hcd.out]
                go_wp2_with fail
                go_quiet ((go_at_call 38; exact Calls.quiet_of_same (isUnits_any _ _)))
                go_wp2_with fail
                go_roundg g
                case measure => omega
                case rel => exact ⟨i + 1, by omega, by go_num, Hnext, below_drewN (Hbel2.out _) _⟩
              · have hU2 : unitsB x.used = false := by simpa using hU
                have hLC : LC = 1 := by have := HL.out; rw [if_neg (by simp)] at this; rw [if_neg (by rw [hH]; simp), if_pos hU2] at this; exact this.symm
                have Hend := Lib.hid (Ends.out 1 hLC (by omega))
                clear Ends Goes HL hLC hU
                go_wp2_with fail
                refine (check_any _ _ (by omega)).mono ?_
                rintro E w1 ⟨rfl, rfl⟩
                rw [Hcd.out]
                go_wp2_with fail
                go_quiet ((go_at_call 38; exact Calls.quiet_of_same (isUnits_any _ _)))
                go_wp2_with fail
                go_ret
                exact ⟨congrArg (fun n => Ending.returned (Value.int .i64 n)) Hend.out.symm, below_drewN (Hbel2.out _) _⟩
            · have hH2 : unitsB x.hard = false := by simpa using hH
              have hLC : LC = 1 := by have := HL.out; rw [if_neg (by simp)] at this; rw [if_pos hH2] at this; exact this.symm
              have Hend := Lib.hid (Ends.out 1 hLC (by omega))
              clear Ends Goes HL hLC hH
              go_wp2_with fail
              refine (check_any _ _ (by omega)).mono ?_
              rintro E w1 ⟨rfl, rfl⟩
              rw [Hcd.out]
              go_wp2_with fail
              go_quiet ((go_at_call 38; exact Calls.quiet_of_same (isUnits_any _ _)))
              go_wp2_with fail
              go_ret
              exact ⟨congrArg (fun n => Ending.returned (Value.int .i64 n)) Hend.out.symm, below_drewN (Hbel2.out _) _⟩
          · obtain ⟨p, hp⟩ : ∃ p, l[i - 1]? = some p := ⟨l[i - 1]'(by omega), List.getElem?_eq_getElem _⟩
            obtain ⟨cs, _, hcc, hR, _, _⟩ := hcell (i - 1) p hp
            subst hR
            have hbs2 : b < wr.heap.size := by have := hbel0.size; omega
            have f0 : wr.cell? ⟨b, o + (i - 1) * 3, none⟩ = some (.string p.what) := (hbel0.cell (p := ⟨b, _, none⟩) hbs).trans (by simpa using hcc 0 _ rfl)
            have ha : ahead l i = some p := by unfold ahead; rw [if_neg (by omega)]; exact hp
            rw [ha] at HL
            have HL2 : Hid ((if (!lessB p.what x.what) = true then (1 : Int) else if unitsB x.hard = false then 1 else if unitsB x.used = false then 1 else 0) = LC) := HL
            clear HL
            have HL := HL2
            clear HL2
            have q5 : decide (0 < i) = true := by rw [decide_eq_true_iff]; omega
            have q6 : (0 : Int) ≤ ((i - 1 : Nat) : Int) := by omega
            have q7 : ((i - 1 : Nat) : Int) < (l.length : Int) := by omega
            have r1 : IntKind.i64.wrap ((i : Int) - 1) = ((i - 1 : Nat) : Int) := by rw [IntWalk.i64_in _ (by omega)]; omega
            clear ha hcc hp
            by_cases hA : Op.bytesLess p.what.toList x.what.toList = true
            · have hl2 : lessB p.what x.what = true := hA
              by_cases hH : unitsB x.hard = true
              · by_cases hU : unitsB x.used = true
                · have hLC : LC = 0 := by have := HL.out; rw [hl2, if_neg (by simp)] at this; rw [if_neg (by rw [hH]; simp), if_neg (by rw [hU]; simp)] at this; exact this.symm
                  have Hnext := Lib.hid (Goes.out hLC)
                  clear Ends Goes HL hLC
                  go_wp2_with fail
                  refine (check_any _ _ (by omega)).mono ?_
                  rintro E w1 ⟨rfl, rfl⟩
                  rw [Hcd.out]
                  go_wp2_with fail
                  go_quiet ((go_at_call 38; exact Calls.quiet_of_same (isUnits_any _ _)))
                  go_wp2_with fail
                  go_roundg g
                  case measure => omega
                  case rel => exact ⟨i + 1, by omega, by go_num, Hnext, below_drewN (Hbel2.out _) _⟩
                · have hU2 : unitsB x.used = false := by simpa using hU
                  have hLC : LC = 1 := by have := HL.out; rw [hl2, if_neg (by simp)] at this; rw [if_neg (by rw [hH]; simp), if_pos hU2] at this; exact this.symm
                  have Hend := Lib.hid (Ends.out 1 hLC (by omega))
                  clear Ends Goes HL hLC hU
                  go_wp2_with fail
                  refine (check_any _ _ (by omega)).mono ?_
                  rintro E w1 ⟨rfl, rfl⟩
                  rw [Hcd.out]
                  go_wp2_with fail
                  go_quiet ((go_at_call 38; exact Calls.quiet_of_same (isUnits_any _ _)))
                  go_wp2_with fail
                  go_ret
                  exact ⟨congrArg (fun n => Ending.returned (Value.int .i64 n)) Hend.out.symm, below_drewN (Hbel2.out _) _⟩
              · have hH2 : unitsB x.hard = false := by simpa using hH
                have hLC : LC = 1 := by have := HL.out; rw [hl2, if_neg (by simp)] at this; rw [if_pos hH2] at this; exact this.symm
                have Hend := Lib.hid (Ends.out 1 hLC (by omega))
                clear Ends Goes HL hLC hH
                go_wp2_with fail
                refine (check_any _ _ (by omega)).mono ?_
                rintro E w1 ⟨rfl, rfl⟩
                rw [Hcd.out]
                go_wp2_with fail
                go_quiet ((go_at_call 38; exact Calls.quiet_of_same (isUnits_any _ _)))
                go_wp2_with fail
                go_ret
                exact ⟨congrArg (fun n => Ending.returned (Value.int .i64 n)) Hend.out.symm, below_drewN (Hbel2.out _) _⟩
            · have hA2 : Op.bytesLess p.what.toList x.what.toList = false := by simpa using hA
              have hl2 : lessB p.what x.what = false := hA2
              have hLC : LC = 1 := by have := HL.out; rw [hl2, if_pos (by simp)] at this; exact this.symm
              have Hend := Lib.hid (Ends.out 1 hLC (by omega))
              clear Ends Goes HL hLC hA hl2
              go_wp2_with fail
              refine (check_any _ _ (by omega)).mono ?_
              rintro E w1 ⟨rfl, rfl⟩
              rw [Hcd.out]
              go_wp2_with fail
              go_quiet ((go_at_call 38; exact Calls.quiet_of_same (isUnits_any _ _)))
              go_wp2_with fail
              go_ret
              exact ⟨congrArg (fun n => Ending.returned (Value.int .i64 n)) Hend.out.symm, below_drewN (Hbel2.out _) _⟩
        · have q3 : (cd != 0) = true := by rw [bne_iff_ne]; exact hcd
          have q4 : (cd == 0) = false := by rw [beq_eq_false_iff_ne]; exact hcd
          have Hend : Hid (limsCode none l = cd) := Ends.out cd (by have := HL.out; rw [if_pos hcd] at this; exact this.symm) hcd
          clear hcd Ends Goes HL
          go_wp2_with fail
          refine (check_any _ _ (by omega)).mono ?_
          rintro E w1 ⟨rfl, rfl⟩
          rw [Hcd.out]
          go_wp2_with fail
          go_ret
          exact ⟨congrArg (fun n => Ending.returned (Value.int .i64 n)) Hend.out.symm, Hbel2.out _⟩
end Go.Proofs.Ytkkfnihdnclgiaa
