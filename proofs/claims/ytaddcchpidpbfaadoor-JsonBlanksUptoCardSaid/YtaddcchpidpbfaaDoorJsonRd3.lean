/- json: the reader's text. -/
import Derived.Test.YtaddcchpidpbfaaDoorJsonRd2
namespace Go.Proofs.YtaddcchpidpbfaaDoor
open Go.RowKit
open JP (JV Bs)

theorem RdAt.cast {g : Nat} {s : ByteArray} {a m : Nat} {vst : Value} {bad : Int} {w : World} {z : Int} (h : w.heap[g]? = some (.cells #[.string s, .int .i64 z, .int .i64 (m : Int), vst, .int .i64 bad] 72 (0, 0))) (hz : z = (a : Int)) : RdAt g s a m vst bad w := by
  subst hz; exact h
/-- what a text comes to -/
def TxtAt (g : Nat) (s : ByteArray) (m : Nat) (vst : Value) (K : Option (Bs × Bs)) (w : World) (e : Ending) (w' : World) : Prop :=
  But g w w' ∧ ((∃ x, K = some x ∧ e = .returned (.string (mkB x.1)) ∧ ∃ i, i ≤ s.size ∧ s.data.toList.drop i = x.2 ∧ RdAt g s i m vst 0 w') ∨ (K = none ∧ e = .returned (.string ⟨#[]⟩) ∧ ∃ i, i ≤ s.size ∧ RdAt g s i m vst 3 w'))
def addTo (acc : Bs) (k : Option (Bs × Bs)) : Option (Bs × Bs) := k.map fun x => (acc ++ x.1, x.2)
theorem addTo_nil (k : Option (Bs × Bs)) : addTo [] k = k := by unfold addTo; cases k <;> simp
theorem addTo_none (acc : Bs) : addTo acc none = none := rfl
theorem addTo_one (acc : Bs) (c : UInt8) (k : Option (Bs × Bs)) : addTo acc (k.map fun x => (c :: x.1, x.2)) = addTo (acc ++ [c]) k := by unfold addTo; cases k <;> simp
theorem but_below {g : Nat} {w w1 w2 : World} (h : But g w w1) (hb : Below w.heap.size w1 w2) : But g w w2 := ⟨hb.os.trans h.os, hb.tape.trans h.tape, hb.output.trans h.output, Nat.le_trans h.size hb.size, fun k hk hn => (hb.block k hk).trans (h.block k hk hn)⟩
theorem own_drew {α : Type} {R : Rd α} {k : Nat} {w : World} {B : Nat} {e : TypeId} {v : Value} {l : List α} (hf : Flat R) (h : OwnAt R k w B e v l) (n : Nat) : OwnAt R k (w.drewN n) B e v l := by
  obtain ⟨css, h1, h2, h3, h4⟩ := h
  exact ⟨css, h1, h2, h3, fun j cs y hcs hy => hf _ _ _ _ (h4 j cs y hcs hy)⟩
theorem textP_nil : JP.textP [] = none := rfl
theorem textP_esc_nil : JP.textP [92] = none := rfl
theorem textP_esc (d : UInt8) (r : Bs) : JP.textP (92 :: d :: r) = match JP.escV d with
    | none => none
    | some c => (JP.textP r).map fun x => (c :: x.1, x.2) := by
  rw [JP.textP]
  cases JP.escV d <;> rfl
theorem esc_none {r : Bs} (h : escB? r = none) : JP.textP (92 :: r) = none := by
  cases r with
  | nil => rfl
  | cons d t => rw [textP_esc, show JP.escV d = none from h]
theorem esc_some {r : Bs} {x : UInt8} (h : escB? r = some x) : ∃ d t, r = d :: t ∧ JP.textP (92 :: r) = (JP.textP t).map fun y => (x :: y.1, y.2) := by
  cases r with
  | nil => cases h
  | cons d t => exact ⟨d, t, rfl, by rw [textP_esc, show JP.escV d = some x from h]⟩
set_option maxRecDepth 100000 in
set_option maxHeartbeats 6400000 in
theorem rtext_any (g : Nat) (s : ByteArray) (a m : Nat) (vst : Value) (w : World) (h : RdAt g s a m vst 0 w) (ha : a < s.size) (hs : s.size ≤ 1048576) :
    Calls Tryd.prog 79 #[.pointer (some ⟨g, 0, none⟩)] w (TxtAt g s m vst (JP.textP (s.data.toList.drop (a + 1))) w) := by
  obtain ⟨i0, hi0, hz0, hz1, hz2⟩ := info_parts Tryd.infoU8
  obtain ⟨K, HK⟩ : ∃ K, Hid (JP.textP (s.data.toList.drop (a + 1)) = K) := ⟨_, Lib.hid rfl⟩
  rw [HK.out]
  have c1 : w.cell? ⟨g, 1, none⟩ = some (.int .i64 (a : Int)) := cell_block h 1
  have hz : w.frozen? ⟨g, 1, none⟩ = false := free_block h 1
  have hgw : g < w.heap.size := by
    rcases Nat.lt_or_ge g w.heap.size with h1 | h1
    · exact h1
    · unfold RdAt at h; rw [Array.getElem?_eq_none h1] at h; cases h
  obtain ⟨t1, t2⟩ := touch_setCell (i := 1) (v := .int .i64 ((a : Int) + 1)) h
  have H1 : Hid (RdAt g s (a + 1) m vst 0 (w.setCell ⟨g, 1, none⟩ (.int .i64 ((a : Int) + 1)))) := Lib.hid (RdAt.cast t1 (by omega))
  have Hb1 := Lib.hid (But.touch t2)
  obtain ⟨W1, hW1⟩ : ∃ W1, W1 = w.setCell ⟨g, 1, none⟩ (.int .i64 ((a : Int) + 1)) := ⟨_, rfl⟩
  rw [← hW1] at H1 Hb1
  clear h t1 t2
  go_enter Tryd.func79, Tryd.ntmps79
  go_upto_region 3 with fail
  rw [← hW1]
  clear hW1 c1 hz
  go_loopg [3] (s.size - (a + 1)) (fun k u3 wr => ∃ (i : Nat) (acc : Bs), i + k = s.size ∧ acc.length ≤ i ∧ Hid (OwnAt RU8 1 wr w.heap.size 5 u3 acc) ∧ Hid (addTo acc (JP.textP (s.data.toList.drop i)) = K) ∧ Hid (RdAt g s i m vst 0 wr) ∧ Hid (But g w wr))
  case atStart => exact ⟨a + 1, [], by omega, by simp, Lib.hid (OwnAt.nil _), Lib.hid (by rw [addTo_nil]; exact HK.out), H1, Hb1⟩
  case round =>
    obtain ⟨i, acc, hik, hacc, Hown, HKi, HP, HB⟩ := hrel
    have h0 : wr.cell? ⟨g, 0, none⟩ = some (.string s) := cell_block HP.out 0
    have h1 : wr.cell? ⟨g, 1, none⟩ = some (.int .i64 (i : Int)) := cell_block HP.out 1
    have h4 : wr.cell? ⟨g, 4, none⟩ = some (.int .i64 0) := cell_block HP.out 4
    have hz : wr.frozen? ⟨g, 1, none⟩ = false := free_block HP.out 1
    have hsr := HB.out.size
    cases gk with
    | zero =>
      have hi : i = s.size := by omega
      have q0 : decide (i < s.size) = false := decide_eq_false (by omega)
      have q1 : ¬ (i : Int) < (s.size : Int) := by omega
      have HKn : Hid (K = none) := Lib.hid (by rw [← HKi.out, drop_end (by omega)]; rfl)
      have hile : i ≤ s.size := by omega
      clear hi hik
      go_wp2_with fail
      go_quiet (fail)
      go_wp2_with fail
      refine (fail_any g s i m vst 0 3 _ (HP.out.drew _)).mono ?_
      rintro E w1 ⟨rfl, hr, hbt⟩
      have Hr := Lib.hid hr
      have Hbt := Lib.hid ((HB.out.drew _).trans hbt)
      clear hr hbt
      go_wp2_with fail
      go_ret
      exact ⟨Hbt.out, .inr ⟨HKn.out, rfl, i, hile, Hr.out⟩⟩
    | succ k =>
      have hil : i < s.size := by omega
      have q0 : decide (i < s.size) = true := decide_eq_true hil
      have q1 : (i : Int) < (s.size : Int) := by omega
      have q2 : (0 : Int) ≤ (i : Int) := by omega
      have HK2 := HKi.out
      rw [drop_at hil] at HK2
      have HKc : Hid (addTo acc (JP.textP (s[i] :: s.data.toList.drop (i + 1))) = K) := Lib.hid HK2
      clear HK2 HKi
      by_cases c34 : s[i].toNat = 34
      · have hc : s[i] = 34 := u8_eq c34
        have HKe : Hid (K = some (acc, s.data.toList.drop (i + 1))) := Lib.hid (by rw [← HKc.out, hc]; simp [JP.textP, addTo])
        obtain ⟨t1, t2⟩ := touch_setCell (i := 1) (v := .int .i64 ((i : Int) + 1)) HP.out
        have T1 := Lib.hid t1
        have T2 := Lib.hid t2
        clear hc HKc hik t1 t2
        go_wp2_with fail
        go_quiet (fail)
        go_wp2_with fail
        go_quiet (fail)
        go_upto_region 8 with fail
        generalize hW : World.setCell (World.drewN wr _) _ _ = W
        have hRW : RdAt g s (i + 1) m vst 0 W := by rw [← hW]; exact RdAt.cast T1.out (by omega)
        have hBW : But g wr W := by rw [← hW]; exact (But.touch T2.out).drew _
        have hcv := run_convert_own W 53 9 5 Tryd.underlying53 Tryd.underlying5 Tryd.underlying9 (own_u8 (Hown.out.butLow flat_u8 hBW hgw))
        have HRW := Lib.hid hRW
        have HBW := Lib.hid hBW
        clear hW hRW hBW T1 T2 h0 h1 h4 hz
        go_wp2_with fail
        go_ret
        exact ⟨HB.out.trans HBW.out, .inl ⟨_, HKe.out, rfl, i + 1, by omega, rfl, HRW.out⟩⟩
      · have n34 : ((s[i].toNat : Int) == 34) = false := by rw [beq_eq_false_iff_ne]; omega
        have hc34 : s[i] ≠ 34 := fun e => c34 (by rw [e]; rfl)
        by_cases clo : s[i].toNat < 32 ∨ 126 < s[i].toNat
        · have hKn : K = none := by
            rw [← HKc.out, JP.textP_other _ hc34 (fun e => by rw [e] at clo; revert clo; decide), if_pos]
            · rfl
            · rcases clo with h | h
              · exact .inl (UInt8.lt_iff_toNat_lt.2 h)
              · exact .inr (UInt8.lt_iff_toNat_lt.2 h)
          have HKn := Lib.hid hKn
          have hile : i ≤ s.size := by omega
          clear hKn HKc hik hc34 c34
          rcases clo with hlo | hlo
          · have p1 : (s[i].toNat : Int) < 32 := by omega
            clear hlo
            go_wp2_with fail
            go_quiet (fail)
            go_wp2_with fail
            go_quiet (fail)
            go_wp2_with fail
            refine (fail_any g s i m vst 0 3 _ (HP.out.drew _)).mono ?_
            rintro E w1 ⟨rfl, hr, hbt⟩
            have Hr := Lib.hid hr
            have Hbt := Lib.hid ((HB.out.drew _).trans hbt)
            clear hr hbt
            go_wp2_with fail
            go_ret
            exact ⟨Hbt.out, .inr ⟨HKn.out, rfl, i, hile, Hr.out⟩⟩
          · have p1 : ¬ (s[i].toNat : Int) < 32 := by omega
            have p2 : (126 : Int) < (s[i].toNat : Int) := by omega
            clear hlo
            go_wp2_with fail
            go_quiet (fail)
            go_wp2_with fail
            go_quiet (fail)
            go_wp2_with fail
            refine (fail_any g s i m vst 0 3 _ (HP.out.drew _)).mono ?_
            rintro E w1 ⟨rfl, hr, hbt⟩
            have Hr := Lib.hid hr
            have Hbt := Lib.hid ((HB.out.drew _).trans hbt)
            clear hr hbt
            go_wp2_with fail
            go_ret
            exact ⟨Hbt.out, .inr ⟨HKn.out, rfl, i, hile, Hr.out⟩⟩
        · have p1 : ¬ (s[i].toNat : Int) < 32 := by omega
          have p2 : ¬ (126 : Int) < (s[i].toNat : Int) := by omega
          by_cases c92 : s[i].toNat = 92
          · have hc : s[i] = 92 := u8_eq c92
            have HKe : Hid (addTo acc (JP.textP (92 :: s.data.toList.drop (i + 1))) = K) := Lib.hid (by rw [← HKc.out, hc])
            obtain ⟨t1, t2⟩ := touch_setCell (i := 1) (v := .int .i64 ((i : Int) + 1)) HP.out
            have T1 := Lib.hid t1
            have T2 := Lib.hid t2
            have hi1 : i + 1 ≤ s.size := by omega
            clear hc HKc t1 t2 clo c34 hc34 n34
            go_wp2_with fail
            go_quiet (fail)
            go_wp2_with fail
            go_quiet (fail)
            go_upto_region 14 with fail
            generalize hW : World.setCell (World.drewN wr _) _ _ = W
            have hRW : RdAt g s (i + 1) m vst 0 W := by rw [← hW]; exact RdAt.cast T1.out (by omega)
            have hBW : But g wr W := by rw [← hW]; exact (But.touch T2.out).drew _
            have hoW := Hown.out.butLow flat_u8 hBW hgw
            have HRW := Lib.hid hRW
            have HBW := Lib.hid (HB.out.trans hBW)
            have HoW := Lib.hid hoW
            clear hW hRW hBW hoW T1 T2 h0 h1 h4 hz
            go_wp2_with fail
            refine (escape_any g s (i + 1) m vst W HRW.out hi1 hs).mono ?_
            rintro E w2 (⟨x, hx, rfl, hr, hbt⟩ | ⟨hx, rfl, hr, hbt⟩)
            · obtain ⟨d, t, hdt, htp⟩ := esc_some hx
              have hi2 : i + 1 < s.size := by
                rcases Nat.lt_or_ge (i + 1) s.size with h | h
                · exact h
                · rw [drop_end h] at hdt; cases hdt
              have hd2 : s.data.toList.drop (i + 2) = t := by
                rw [drop_at hi2] at hdt
                exact (List.cons.inj hdt).2
              have HK3 : Hid (addTo (acc ++ [x]) (JP.textP (s.data.toList.drop (i + 2))) = K) := Lib.hid (by rw [hd2, ← addTo_one, ← htp]; exact HKe.out)
              have h4 : w2.cell? ⟨g, 4, none⟩ = some (.int .i64 0) := cell_block hr 4
              have Hr := Lib.hid hr
              have Hbt := Lib.hid (HBW.out.trans hbt)
              have Ho2 := Lib.hid (HoW.out.butLow flat_u8 hbt (Nat.lt_of_lt_of_le hgw (Nat.le_refl _)))
              have hs2 := Hbt.out.size
              have hg2 : g < w2.heap.size := by omega
              clear hr hbt hx hdt htp hd2 HKe HoW
              go_wp2_with (at_builtin; refine wpList_append_ownAt (R := RU8) (k := 1) (e := 5) (B := w.heap.size) (l := acc) (m := [x]) _ (by rfl) _ _ _ (by rfl) i0 _ 1 Tryd.underlying53 hi0 hz0 hz1 hz2 rfl (by omega) flat_u8 one_u8 _ (by rfl) (Ho2.out.alloc stays_u8 _) (.slice (some ⟨w2.heap.size, 0, none⟩) 1 1) (by rfl) (row_u8 (l := [x]) (heap_alloc_new w2 _) (by unfold maxLen; simp)) (by unfold maxLen; simp; omega) (by simp; omega) (by simp; omega) ?_)
              intro v' w3 hv' hg3 hr3 _
              have hbW3 : Below w.heap.size w2 w3 := below_of_grown ((Below.refl _ w2).alloc hs2 _) (by simp; omega) hg3 hr3
              have h1 : w3.cell? ⟨g, 1, none⟩ = some (.int .i64 ((i + 1 : Nat) : Int)) := (hbW3.cell (p := ⟨g, 1, none⟩) hgw).trans (cell_block Hr.out 1)
              have hR3 : RdAt g s (i + 1) m vst 0 w3 := (hbW3.block g hgw).trans Hr.out
              have hz : w3.frozen? ⟨g, 1, none⟩ = false := free_block hR3 1
              obtain ⟨t1, t2⟩ := touch_setCell (i := 1) (v := .int .i64 (((i + 1 : Nat) : Int) + 1)) hR3
              have T1 := Lib.hid t1
              have T2 := Lib.hid t2
              have Hv := Lib.hid hv'
              have HB3 := Lib.hid (but_below Hbt.out hbW3)
              clear t1 t2 hv' hg3 hr3 hbW3 hR3 h4
              rw [show ((i + 1 : Nat) : Int) = (i : Int) + 1 by omega] at h1 T1 T2
              go_wp2_with fail
              cases k with
              | zero => omega
              | succ k =>
                go_roundg k
                case measure => omega
                case rel => exact ⟨i + 2, acc ++ [x], by omega, by simp; omega, Lib.hid (Hv.out.butLow flat_u8 (But.touch T2.out) hgw), HK3, Lib.hid (RdAt.cast T1.out (by omega)), Lib.hid (HB3.out.trans (But.touch T2.out))⟩
            · have HKn : Hid (K = none) := Lib.hid (by rw [← HKe.out, esc_none hx]; rfl)
              have h4 : w2.cell? ⟨g, 4, none⟩ = some (.int .i64 3) := cell_block hr 4
              have Hr := Lib.hid hr
              have Hbt := Lib.hid (HBW.out.trans hbt)
              clear hr hbt hx HKe HoW
              go_wp2_with fail
              go_ret
              exact ⟨Hbt.out, .inr ⟨HKn.out, rfl, i + 1, hi1, Hr.out⟩⟩
          · have n92 : ((s[i].toNat : Int) == 92) = false := by rw [beq_eq_false_iff_ne]; omega
            have hc92 : s[i] ≠ 92 := fun e => c92 (by rw [e]; rfl)
            have HK3 : Hid (addTo (acc ++ [s[i]]) (JP.textP (s.data.toList.drop (i + 1))) = K) := Lib.hid (by
              rw [← addTo_one, ← HKc.out, JP.textP_other _ hc34 hc92, if_neg]
              intro h
              rcases h with h | h
              · exact clo (.inl (UInt8.lt_iff_toNat_lt.1 h))
              · exact clo (.inr (UInt8.lt_iff_toNat_lt.1 h)))
            clear HKc clo c34 c92 hc34 hc92
            go_wp2_with fail
            go_quiet (fail)
            go_wp2_with fail
            go_quiet (fail)
            go_upto_region 17 with fail
            generalize hW : World.drewN wr _ = W
            have hRW : RdAt g s i m vst 0 W := by rw [← hW]; exact HP.out
            have hBW : But g wr W := by rw [← hW]; exact (But.refl _ _).drew _
            have HoW := Lib.hid (Hown.out.butLow flat_u8 hBW hgw)
            have HRW := Lib.hid hRW
            have HBW := Lib.hid (HB.out.trans hBW)
            have hsW := HBW.out.size
            have hgW : g < W.heap.size := by omega
            clear hW hRW hBW h0 h1 h4 hz
            go_wp2_with (at_builtin; refine wpList_append_ownAt (R := RU8) (k := 1) (e := 5) (B := w.heap.size) (l := acc) (m := [s[i]]) _ (by rfl) _ _ _ (by rfl) i0 _ 1 Tryd.underlying53 hi0 hz0 hz1 hz2 rfl (by omega) flat_u8 one_u8 _ (by rfl) (HoW.out.alloc stays_u8 _) (.slice (some ⟨W.heap.size, 0, none⟩) 1 1) (by rfl) (row_u8 (l := [s[i]]) (heap_alloc_new W _) (by unfold maxLen; simp)) (by unfold maxLen; simp; omega) (by simp; omega) (by simp; omega) ?_)
            intro v' w3 hv' hg3 hr3 _
            have hbW3 : Below w.heap.size W w3 := below_of_grown ((Below.refl _ W).alloc hsW _) (by simp; omega) hg3 hr3
            have h1 : w3.cell? ⟨g, 1, none⟩ = some (.int .i64 (i : Int)) := (hbW3.cell (p := ⟨g, 1, none⟩) hgw).trans (cell_block HRW.out 1)
            have hR3 : RdAt g s i m vst 0 w3 := (hbW3.block g hgw).trans HRW.out
            have hz : w3.frozen? ⟨g, 1, none⟩ = false := free_block hR3 1
            obtain ⟨t1, t2⟩ := touch_setCell (i := 1) (v := .int .i64 ((i : Int) + 1)) hR3
            have T1 := Lib.hid t1
            have T2 := Lib.hid t2
            have Hv := Lib.hid hv'
            have HB3 := Lib.hid (but_below HBW.out hbW3)
            clear t1 t2 hv' hg3 hr3 hbW3 hR3
            go_wp2_with fail
            go_roundg k
            case measure => omega
            case rel => exact ⟨i + 1, acc ++ [s[i]], by omega, by simp; omega, Lib.hid (Hv.out.butLow flat_u8 (But.touch T2.out) hgw), HK3, Lib.hid (RdAt.cast T1.out (by omega)), Lib.hid (HB3.out.trans (But.touch T2.out))⟩
end Go.Proofs.YtaddcchpidpbfaaDoor
