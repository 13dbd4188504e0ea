/- query: the parser's choice. -/
import Derived.Test.YtkmonmdnmpbadaaDoorParserList
import Derived.Deep.CutBlock
namespace Go.Proofs.YtkmonmdnmpbadaaDoor
open Go.RowKit
open QP

theorem Tryd.sizeReqP : (Tryd.prog.info? 33).map (·.size) = some 3 := by kernel_rfl
theorem But.touchNew {g b : Nat} {w wx w' : World} (h : But g w wx) (t : Touch b wx w') (hb : w.heap.size ≤ b) : But g w w' :=
  ⟨t.os.trans h.os, t.tape.trans h.tape, t.output.trans h.output, by rw [t.size]; exact h.size, fun k hk hn => (t.other k (by omega)).trans (h.block k hk hn)⟩
theorem block_lt {w : World} {b : Nat} {x : Obj} (h : w.heap[b]? = some x) : b < w.heap.size := by
  rcases Nat.lt_or_ge b w.heap.size with h1 | h1
  · exact h1
  · rw [Array.getElem?_eq_none h1] at h; cases h
def PartTold (g : Nat) (s : ByteArray) (o : Option (GReq × List UInt8)) (q : GReq) (w' : World) : Prop :=
  match o with
  | some x => q = x.1 ∧ Par g s false x.2 w'
  | none => ∃ r, Par g s true r w'
def PartAt (g : Nat) (s : ByteArray) (o : Option (GReq × List UInt8)) (w : World) (E : Ending) (w' : World) : Prop :=
  ∃ (q : GReq) (v2 : Value), E = .returned (.agg #[.string q.key, .int .i64 q.kind, v2]) ∧ (1 ≤ q.kind ∧ q.kind ≤ 4) ∧ OwnAt RString 1 w' w.heap.size 9 v2 q.vals ∧ PartTold g s o q w' ∧ But g w w'
set_option maxRecDepth 100000 in
set_option maxHeartbeats 3200000 in
theorem choice_any (g : Nat) (s key : ByteArray) (r : List UInt8) (w : World) (h : Par g s false r w) (hs : s.size ≤ 300) :
    Calls Tryd.prog 52 #[.pointer (some ⟨g, 0, none⟩), .agg #[.string key, .int .i64 3, .slice none 0 0]] w (PartAt g s (choiceP key r) w) := by
  have hgw := h.size
  obtain ⟨C, HC⟩ : ∃ C, Hid (choiceP key r = C) := ⟨_, Lib.hid rfl⟩
  rw [HC.out]
  unfold PartAt
  obtain ⟨w2, hw⟩ : ∃ w2, w2 = (w.alloc (.cells #[.string key, .int .i64 3, .slice none 0 0] 33)).alloc (.cells #[.string ⟨#[]⟩, .int .i64 0, .slice none 0 0] 33) := ⟨_, rfl⟩
  have b1 : w2.heap[w.heap.size]? = some (.cells #[.string key, .int .i64 3, .slice none 0 0] 33 (0, 0)) := by rw [hw]; exact heap_alloc_old (heap_alloc_new w _)
  have b2 : w2.heap[w.heap.size + 1]? = some (.cells #[.string ⟨#[]⟩, .int .i64 0, .slice none 0 0] 33 (0, 0)) := by rw [hw]; exact heap_alloc_at (World.size_alloc _ _).symm
  have hb2 : Below w.heap.size w w2 := by rw [hw]; exact ((Below.refl _ w).alloc (Nat.le_refl _) _).alloc (by rw [World.size_alloc]; omega) _
  have HP := Lib.hid (h.below hb2 hgw)
  have HB2 := Lib.hid (But.of (g := g) hb2)
  have B1 := Lib.hid b1
  have B2 := Lib.hid b2
  clear b1 b2 hb2 h
  go_enter Tryd.func52, Tryd.ntmps52
  go_upto_region 1 with fail
  rw [← hw]
  clear hw
  go_wp2_with fail
  refine (word_any g s false r w2 HP.out (by omega)).mono ?_
  rintro E w3 ⟨rfl, ⟨a, ha, hr, hp⟩, hb⟩
  have HP3 := Lib.hid hp
  have HB3 := Lib.hid (HB2.out.trans hb)
  have B13 := Lib.hid (hb.keep B1.out (by omega))
  have B23 := Lib.hid (hb.keep B2.out (by omega))
  have Hr := Lib.hid hr
  obtain ⟨W, HW⟩ : ∃ W, Hid (wordW r = W) := ⟨_, Lib.hid rfl⟩
  obtain ⟨t, Ht⟩ : ∃ t, Hid (wordS r = t) := ⟨_, Lib.hid rfl⟩
  obtain ⟨bl, Hbl⟩ : ∃ bl, Hid (headIs 32 (wordR r) = bl) := ⟨_, Lib.hid rfl⟩
  have Htl : Hid (t.toList = W) := Lib.hid (by rw [ByteArray.toList_eq, ← Ht.out, ← HW.out]; unfold wordS; simp)
  rw [Ht.out, Hbl.out]
  clear hp hb hr B1 B2 HP
  go_upto_block 0 with fail
  go_cut [] (fun wx => ∃ (kd : Int) (bd : Bool), Hid (wx.heap[w.heap.size]? = some (.cells #[.string key, .int .i64 kd, .slice none 0 0] 33 (0, 0))) ∧ Hid (ParAt g s bd a wx) ∧ Hid (wx.heap[w.heap.size + 1]? = some (.cells #[.string ⟨#[]⟩, .int .i64 0, .slice none 0 0] 33 (0, 0))) ∧ Hid (But g w wx) ∧
    Hid ((kindP W = 0 ∧ bd = true ∧ kd = 3) ∨ (kindP W = kd ∧ kd ≠ 0 ∧ bd = false ∧ 1 ≤ kd ∧ kd ≤ 2)))
  case first =>
    have z1 : w3.frozen? ⟨w.heap.size, 1, none⟩ = false := free_block B13.out 1
    have c1 : w3.cell? ⟨w.heap.size, 1, none⟩ = some (.int .i64 3) := cell_block B13.out 1
    obtain ⟨p2, pz⟩ := par_cells (g := g) (s := s) (bad := false) (r := s.data.toList.drop a) (w := w3) ⟨a, ha, rfl, HP3.out⟩
    by_cases e1 : W = [105, 110]
    · have q1 : (t.toList == [105, 110]) = true := by rw [Htl.out, e1]; rfl
      have Hk : Hid (kindP W = 1) := Lib.hid (by rw [e1]; rfl)
      clear e1
      go_wp2_with fail
      obtain ⟨t1, t2⟩ := touch_setCell (i := 1) (v := .int .i64 1) B13.out
      go_meet
      refine ⟨1, false, Lib.hid t1, Lib.hid (t2.block HP3.out (by omega)), Lib.hid (t2.block B23.out (by omega)), Lib.hid (HB3.out.touchNew t2 (Nat.le_refl _)), Lib.hid (.inr ⟨Hk.out, by decide, rfl, by decide, by decide⟩)⟩
    · have q1 : (t.toList == [105, 110]) = false := by rw [Htl.out, beq_eq_false_iff_ne]; exact e1
      by_cases e2 : W = [110, 111, 116, 105, 110]
      · have q2 : (t.toList == [110, 111, 116, 105, 110]) = true := by rw [Htl.out, e2]; rfl
        have Hk : Hid (kindP W = 2) := Lib.hid (by rw [e2]; rfl)
        clear e1 e2
        go_wp2_with fail
        obtain ⟨t1, t2⟩ := touch_setCell (i := 1) (v := .int .i64 2) B13.out
        go_meet
        refine ⟨2, false, Lib.hid t1, Lib.hid (t2.block HP3.out (by omega)), Lib.hid (t2.block B23.out (by omega)), Lib.hid (HB3.out.touchNew t2 (Nat.le_refl _)), Lib.hid (.inr ⟨Hk.out, by decide, rfl, by decide, by decide⟩)⟩
      · have q2 : (t.toList == [110, 111, 116, 105, 110]) = false := by rw [Htl.out, beq_eq_false_iff_ne]; exact e2
        have Hk : Hid (kindP W = 0) := Lib.hid (by unfold kindP; rw [if_neg e1, if_neg e2])
        clear e1 e2
        go_wp2_with fail
        obtain ⟨t1, t2⟩ := touch_setCell (i := 2) (v := .bool true) HP3.out
        go_meet
        refine ⟨3, true, Lib.hid (t2.block B13.out (by omega)), Lib.hid t1, Lib.hid (t2.block B23.out (by omega)), Lib.hid (HB3.out.trans (But.touch t2)), Lib.hid (.inl ⟨Hk.out, rfl, rfl⟩)⟩
  case rest =>
    obtain ⟨kd, bd, B14, HP4, B24, HB4, Hk⟩ := hcut
    have HP5 : Hid (Par g s bd (wordE r) wc) := Lib.hid ⟨a, ha, Hr.out, HP4.out⟩
    have h0 : wc.cell? ⟨g, 0, none⟩ = some (.string s) := cell_block HP4.out 0
    have h1 : wc.cell? ⟨g, 1, none⟩ = some (.int .i64 (a : Int)) := cell_block HP4.out 1
    have hO := fun n => over_any g s bd a (wc.drewN n) HP4.out ha (by omega)
    have HO := Lib.hid hO
    clear hO
    obtain ⟨cn, Hcn⟩ : ∃ cn, Hid ((!bl && (decide (a = s.size) || !headIs 40 (wordE r))) = cn) := ⟨_, Lib.hid rfl⟩
    go_upto_region 8 with fail
    go_cut [39] (fun u39 wx => u39 = .bool cn ∧ ∃ n, wx = wc.drewN n)
    case first =>
      cases bl with
      | true =>
        have Hc : cn = false := by rw [← Hcn.out]; rfl
        subst Hc
        clear Hcn
        go_quiet (fail)
        go_wp2_with fail
        go_meet
        exact ⟨rfl, _, rfl⟩
      | false =>
        by_cases hs9 : a = s.size
        · have q9 : decide (a = s.size) = true := decide_eq_true hs9
          have Hc : cn = true := by rw [← Hcn.out, q9]; rfl
          subst Hc
          have HO2 : Hid (∀ n, Calls Tryd.prog 26 #[.pointer (some ⟨g, 0, none⟩)] (wc.drewN n) fun e w' => e = .returned (.bool true) ∧ ∃ m, w' = (wc.drewN n).drewN m) := Lib.hid (fun n => by have := HO.out n; rw [q9] at this; exact this)
          clear Hcn HO hs9 q9
          go_quiet ((go_at_call 26; exact Calls.quiet_of (HO2.out _)))
          go_wp2_with fail
          go_meet
          exact ⟨rfl, _, rfl⟩
        · have q9 : decide (a = s.size) = false := decide_eq_false hs9
          have hal : a < s.size := by omega
          have q4 : (a : Int) < (s.size : Int) := by omega
          have q5 : (0 : Int) ≤ (a : Int) := by omega
          have q6 : ((s[a].toNat : Int) != 40) = cn := by
            rw [← Hcn.out, q9, ← Hr.out, drop_at hal]
            show _ = !(s[a] == 40)
            rw [Bool.eq_iff_iff, bne_iff_ne, Bool.not_eq_true', beq_eq_false_iff_ne]
            have h40 : (40 : UInt8).toNat = 40 := rfl
            constructor
            · intro h e; exact h (by rw [e]; rfl)
            · intro h e; exact h (UInt8.toNat_inj.1 (by omega))
          have HO2 : Hid (∀ n, Calls Tryd.prog 26 #[.pointer (some ⟨g, 0, none⟩)] (wc.drewN n) fun e w' => e = .returned (.bool false) ∧ ∃ m, w' = (wc.drewN n).drewN m) := Lib.hid (fun n => by have := HO.out n; rw [q9] at this; exact this)
          clear Hcn HO hs9 q9
          go_quiet ((go_at_call 26; exact Calls.quiet_of (HO2.out _)))
          go_wp2_with fail
          go_meet
          exact ⟨rfl, _, rfl⟩
    case rest =>
      obtain ⟨rfl, nd, rfl⟩ := hcut
      obtain ⟨w6, hw6⟩ : ∃ w6, wc.drewN nd = w6 := ⟨_, rfl⟩
      have B16 : Hid (w6.heap[w.heap.size]? = some (.cells #[.string key, .int .i64 kd, .slice none 0 0] 33 (0, 0))) := Lib.hid (by rw [← hw6]; exact B14.out)
      have B26 : Hid (w6.heap[w.heap.size + 1]? = some (.cells #[.string ⟨#[]⟩, .int .i64 0, .slice none 0 0] 33 (0, 0))) := Lib.hid (by rw [← hw6]; exact B24.out)
      have HP6 : Hid (ParAt g s bd a w6) := Lib.hid (by rw [← hw6]; exact HP4.out)
      have HB6 : Hid (But g w w6) := Lib.hid (by rw [← hw6]; exact HB4.out.drew _)
      rw [hw6]
      have hsz := block_lt B26.out
      clear B14 B24 HP4 HB4 hw6 h0 h1 HO HP5
      obtain ⟨h40, H40⟩ : ∃ h40, Hid (headIs 40 (wordE r) = h40) := ⟨_, Lib.hid rfl⟩
      have hC : (if kindP W = 0 then none else if bl = false ∧ h40 = false then none else match listP (wordE r) with
          | none => none
          | some x => some (⟨key, kindP W, x.1⟩, x.2)) = C := by
        rw [← HC.out, ← HW.out, ← Hbl.out, ← H40.out]; rfl
      rw [H40.out] at Hcn
      cases cn with
      | true =>
        have HCn : Hid (none = C) := Lib.hid (by
          rw [← hC]
          by_cases hk0 : kindP W = 0
          · rw [if_pos hk0]
          · have h9 := Hcn.out
            rw [if_neg hk0, if_pos]
            cases bl with
            | true => cases h9
            | false =>
              refine ⟨rfl, ?_⟩
              by_cases hs9 : a = s.size
              · rw [← H40.out, ← Hr.out, drop_end (by omega)]; rfl
              · rw [decide_eq_false hs9] at h9
                simpa using h9)
        have c6 : w6.cell? ⟨g, 2, none⟩ = some (.bool bd) := cell_block HP6.out 2
        have z6 : w6.frozen? ⟨g, 2, none⟩ = false := free_block HP6.out 2
        obtain ⟨t1, t2⟩ := touch_setCell (i := 2) (v := .bool true) HP6.out
        clear hC Hcn
        go_upto_region 10 with fail
        obtain ⟨W7, hW7⟩ : ∃ W7, w6.setCell ⟨g, 2, none⟩ (.bool true) = W7 := ⟨_, rfl⟩
        rw [hW7] at t1 t2 ⊢
        have c7 : W7.cell? ⟨g, 2, none⟩ = some (.bool true) := cell_block t1 2
        have B17 := Lib.hid (t2.block B16.out (by omega))
        have B27 := Lib.hid (t2.block B26.out (by omega))
        have HB7 := Lib.hid (HB6.out.trans (But.touch t2))
        have HP7 : Hid (ParAt g s true a W7) := Lib.hid t1
        clear hW7 t1 t2 c6 z6
        go_wp2_with (refine wpList_copy_box (by rfl) _ _ (by rfl) (by rfl) _ _ (by rfl) _ _ (by rfl) _ _ _ _ (by exact B17.out) (by rfl) (by rfl) _ _ (by exact B27.out) Tryd.underlying33 (by rfl) (by exact Tryd.sizeReqP) (by rfl) (by simp [Value.oneCell']) ?_)
        intro W8 b8 t8
        have HP8 : Hid (ParAt g s true a W8) := Lib.hid (t8.block HP7.out (by omega))
        have HB8 := Lib.hid (HB7.out.touchNew t8 (by omega))
        clear t8 c7
        go_wp2_with fail
        refine bodyPost_ret (v := .agg #[.string key, .int .i64 kd, .slice none 0 0]) ?_ rfl ⟨⟨key, kd, []⟩, .slice none 0 0, rfl, ?_, OwnAt.nil _, ?_, HB8.out⟩
        · have c8 := fun i => cell_block b8 i
          simp [results, Tryd.results52, go_sem, c8]
        · show 1 ≤ kd ∧ kd ≤ 4
          rcases Hk.out with h | h <;> omega
        · rw [← HCn.out]
          exact ⟨_, a, ha, rfl, HP8.out⟩
      | false =>
        cases bd with
        | true =>
          have HCn : Hid (none = C) := Lib.hid (by
            rw [← hC, if_pos]
            rcases Hk.out with h | h
            · exact h.1
            · cases h.2.2.1)
          have c6 : w6.cell? ⟨g, 2, none⟩ = some (.bool true) := cell_block HP6.out 2
          clear hC Hcn
          go_wp2_with (refine wpList_copy_box (by rfl) _ _ (by rfl) (by rfl) _ _ (by rfl) _ _ (by rfl) _ _ _ _ (by exact B16.out) (by rfl) (by rfl) _ _ (by exact B26.out) Tryd.underlying33 (by rfl) (by exact Tryd.sizeReqP) (by rfl) (by simp [Value.oneCell']) ?_)
          intro W8 b8 t8
          have HP8 : Hid (ParAt g s true a W8) := Lib.hid (t8.block HP6.out (by omega))
          have HB8 := Lib.hid (HB6.out.touchNew t8 (by omega))
          clear t8 c6
          go_wp2_with fail
          refine bodyPost_ret (v := .agg #[.string key, .int .i64 kd, .slice none 0 0]) ?_ rfl ⟨⟨key, kd, []⟩, .slice none 0 0, rfl, ?_, OwnAt.nil _, ?_, HB8.out⟩
          · have c8 := fun i => cell_block b8 i
            simp [results, Tryd.results52, go_sem, c8]
          · show 1 ≤ kd ∧ kd ≤ 4
            rcases Hk.out with h | h <;> omega
          · rw [← HCn.out]
            exact ⟨_, a, ha, rfl, HP8.out⟩
        | false =>
          have hk3 : kindP W = kd ∧ kd ≠ 0 ∧ 1 ≤ kd ∧ kd ≤ 2 := by
            rcases Hk.out with h | h
            · cases h.2.1
            · exact ⟨h.1, h.2.1, h.2.2.2⟩
          have HCn : Hid ((match listP (wordE r) with
            | none => none
            | some x => some ((⟨key, kd, x.1⟩ : GReq), x.2)) = C) := Lib.hid (by
            rw [hk3.1, if_neg hk3.2.1, if_neg] at hC
            · exact hC
            · rintro ⟨e1, e2⟩
              have := Hcn.out
              rw [e1, e2] at this
              simp at this)
          have c6 : w6.cell? ⟨g, 2, none⟩ = some (.bool false) := cell_block HP6.out 2
          clear hC Hcn
          go_wp2_with fail
          refine (list_any g s (wordE r) w6 ⟨a, ha, Hr.out, HP6.out⟩ hs).mono ?_
          rintro E w7 ⟨vl, vals, rfl, hown, htold, hb7⟩
          obtain ⟨av, cv, rfl, _, _⟩ := hown.row.len
          have Hown := Lib.hid hown
          have Htold := Lib.hid htold
          have B17 := Lib.hid (hb7.keep B16.out (by omega))
          have B27 := Lib.hid (hb7.keep B26.out (by omega))
          have HB7 := Lib.hid (HB6.out.trans hb7)
          have c7 : w7.cell? ⟨w.heap.size, 2, none⟩ = some (.slice none 0 0) := cell_block B17.out 2
          have z7 : w7.frozen? ⟨w.heap.size, 2, none⟩ = false := free_block B17.out 2
          obtain ⟨t1, t2⟩ := touch_setCell (i := 2) (v := .slice av vals.length cv) B17.out
          clear hown htold hb7 c6
          go_upto_region 13 with fail
          obtain ⟨W8, hW8⟩ : ∃ W8, w7.setCell ⟨w.heap.size, 2, none⟩ (.slice av vals.length cv) = W8 := ⟨_, rfl⟩
          rw [hW8] at t1 t2 ⊢
          have B18 : Hid (W8.heap[w.heap.size]? = some (.cells #[.string key, .int .i64 kd, .slice av vals.length cv] 33 (0, 0))) := Lib.hid t1
          have B28 := Lib.hid (t2.block B27.out (by omega))
          have HB8 := Lib.hid (HB7.out.touchNew t2 (Nat.le_refl _))
          have Hown8 := Lib.hid (Hown.out.touchLow flat_string t2 (by omega))
          have T2 := Lib.hid t2
          clear hW8 t1 t2 c7 z7
          go_wp2_with (refine wpList_copy_box (by rfl) _ _ (by rfl) (by rfl) _ _ (by rfl) _ _ (by rfl) _ _ _ _ (by exact B18.out) (by rfl) (by rfl) _ _ (by exact B28.out) Tryd.underlying33 (by rfl) (by exact Tryd.sizeReqP) (by rfl) (by simp [Value.oneCell']) ?_)
          intro W9 b9 t9
          have HB9 := Lib.hid (HB8.out.touchNew t9 (by omega))
          have Hown9 := Lib.hid (Hown8.out.touchLow flat_string t9 (by omega))
          have T9 := Lib.hid t9
          clear t9
          go_wp2_with fail
          refine bodyPost_ret (v := .agg #[.string key, .int .i64 kd, .slice av vals.length cv]) ?_ rfl ⟨⟨key, kd, vals⟩, .slice av vals.length cv, rfl, ?_, Hown9.out.mono (by omega), ?_, HB9.out⟩
          · have c9 := fun i => cell_block b9 i
            simp [results, Tryd.results52, go_sem, c9]
          · show 1 ≤ kd ∧ kd ≤ 4
            omega
          · have keep : ∀ (bad : Bool) (r' : List UInt8), Par g s bad r' w7 → Par g s bad r' W9 := fun bad r' hp => by
              obtain ⟨x, x1, x2, x3⟩ := hp
              exact ⟨x, x1, x2, T9.out.block (T2.out.block x3 (by omega)) (by omega)⟩
            have hl := Htold.out
            rw [← HCn.out]
            unfold ListTold at hl
            cases hL : listP (wordE r) with
            | none =>
              rw [hL] at hl
              obtain ⟨_, _, r', hr'⟩ := hl
              exact ⟨r', keep _ _ hr'⟩
            | some x =>
              rw [hL] at hl
              exact ⟨by rw [hl.1], keep _ _ hl.2⟩
end Go.Proofs.YtkmonmdnmpbadaaDoor
