/- Texts of ours joined: MergeFit, MergeThreeWalk, JsonTab, MergeAgainWalk, MergeBothWalk, MergeMakesWalk, MergeNothingWalk. -/
import Derived.Lib.LaidTab
import Derived.Deep.DeepHandedRow
import Derived.Test.YtlcongehmjiabaaDoorMk6
set_option linter.unusedVariables false
set_option linter.unusedSimpArgs false
/- merge: the laws of what is answered, in plain Lean. -/
namespace Go.Proofs.YtlcongehmjiabaaDoor
open Go.RowKit
open JP (JV Bs)

namespace JP
theorem wf_sound : (∀ v, wf v → sound v = true) ∧ (∀ l, wfL l → soundL l = true) ∧ ∀ l : Fs, wfF l → soundF l = true := by
  refine JV.both ?_ ?_ ?_ ?_ ?_ ?_ ?_ ?_ ?_ ?_
  · intro _; rfl
  · intro b _; rfl
  · intro n _; rfl
  · intro s h; rw [sound]; exact h
  · intro l ih h; rw [sound]; exact ih h
  · intro l ih h; rw [sound]; exact ih (wf_obj h).2
  · intro _; rfl
  · intro v r hv hr h; rw [wfL] at h; rw [soundL, hv h.1, hr h.2]; rfl
  · intro _; rfl
  · intro n v r hv hr h; rw [wfF] at h; rw [soundF, hv h.2.1, hr h.2.2, h.1]; rfl
theorem tell_fit {v : JV} (h : Fit v) : tellE v = 0 ∧ tellT v = text v := by
  have e : tellE v = 0 := by
    unfold tellE
    rw [wf_sound.1 v h.1, if_neg (by decide), if_neg (by have := h.2.2.1; omega), if_neg (by have := h.2.1; omega), if_neg (by have := h.2.2.2; omega)]
  exact ⟨e, by unfold tellT; rw [if_pos e]⟩
theorem tell_ok {v : JV} (hw : wf v) (h : tellE v = 0) : Fit v ∧ tellT v = text v := by
  refine ⟨?_, by unfold tellT; rw [if_pos h]⟩
  unfold tellE at h
  by_cases h0 : sound v = false
  · rw [if_pos h0] at h; exact absurd h (by decide)
  rw [if_neg h0] at h
  by_cases h1 : 10 < deep v
  · rw [if_pos h1] at h; exact absurd h (by decide)
  rw [if_neg h1] at h
  by_cases h2 : 200 < size v
  · rw [if_pos h2] at h; exact absurd h (by decide)
  rw [if_neg h2] at h
  by_cases h3 : 2000 < (text v).length
  · rw [if_pos h3] at h; exact absurd h (by decide)
  exact ⟨hw, by omega, by omega, by omega⟩
theorem fit_read {v : JV} (h : Fit v) : readL (text v) = (v, 0) := read_text h.1 h.2.1 h.2.2.1 h.2.2.2
theorem tellT_no {v : JV} (h : tellE v ≠ 0) : tellT v = [] := if_neg h
theorem tellT_len (v : JV) : (tellT v).length ≤ 2000 := by
  unfold tellT
  by_cases h : tellE v = 0
  · rw [if_pos h]
    unfold tellE at h
    by_cases h3 : 2000 < (text v).length
    · rw [if_pos h3] at h
      split at h
      · cases h
      · split at h
        · cases h
        · split at h <;> cases h
    · omega
  · rw [if_neg h]; exact Nat.zero_le _
variable {f : JV → JV → Option JV} {c : Int} {a b : Bs}
theorem make_of {x y : JV} (f : JV → JV → Option JV) (c : Int) (ha : readL a = (x, 0)) (hb : readL b = (y, 0)) : makeE f c a b = toldE c (f x y) ∧ makeT f a b = toldT (f x y) := by
  have h : sameE a b = 0 := by unfold sameE; rw [ha, hb]; rfl
  unfold makeE makeT
  rw [if_pos h, if_pos h, ha, hb]
  exact ⟨rfl, rfl⟩
theorem make_ok (hc : c ≠ 0) (h : makeE f c a b = 0) : ∃ x y z, readL a = (x, 0) ∧ readL b = (y, 0) ∧ Fit x ∧ Fit y ∧ f x y = some z ∧ tellE z = 0 ∧ makeT f a b = tellT z := by
  unfold makeE at h
  by_cases hs : sameE a b = 0
  · rw [if_pos hs] at h
    obtain ⟨h1, h2⟩ := sameE_ok hs
    cases hz : f (readL a).1 (readL b).1 with
    | none => rw [hz] at h; exact absurd h hc
    | some z =>
      rw [hz] at h
      exact ⟨_, _, z, Prod.ext rfl h1, Prod.ext rfl h2, read_fit h1, read_fit h2, hz, h, by unfold makeT; rw [if_pos hs, hz]; rfl⟩
  · rw [if_neg hs] at h; exact absurd h hs
theorem make_no (h : makeE f c a b ≠ 0) : makeT f a b = [] := by
  unfold makeT
  by_cases hs : sameE a b = 0
  · rw [if_pos hs]
    unfold makeE at h
    rw [if_pos hs] at h
    cases hz : f (readL a).1 (readL b).1 with
    | none => rfl
    | some z => rw [hz] at h; exact tellT_no h
  · rw [if_neg hs]
theorem make_len (f : JV → JV → Option JV) (a b : Bs) : (makeT f a b).length ≤ 2000 := by
  unfold makeT
  split
  · cases f (readL a).1 (readL b).1 with
    | none => exact Nat.zero_le _
    | some z => exact tellT_len z
  · exact Nat.zero_le _
theorem merge_makes (h : makeE btw 9 a b = 0) : makeE intoO 9 a (makeT btw a b) = 0 ∧ makeT intoO a (makeT btw a b) = canonT b := by
  obtain ⟨x, y, z, ha, hb, fx, fy, hz, ht, e⟩ := make_ok (by decide) h
  obtain ⟨fz, ez⟩ := tell_ok (wf_btw y x z fx.1 fy.1 hz) ht
  rw [e, ez]
  obtain ⟨g1, g2⟩ := make_of intoO 9 ha (fit_read fz)
  rw [g1, g2, canonT_ok hb]
  show tellE (into x z) = 0 ∧ tellT (into x z) = text y
  rw [into_btw y x z fx fy hz]
  exact tell_fit fy
theorem merge_again (h : makeE intoO 9 a b = 0) : makeE intoO 9 (makeT intoO a b) b = 0 ∧ makeT intoO (makeT intoO a b) b = makeT intoO a b := by
  obtain ⟨x, y, z, ha, hb, fx, fy, hz, ht, e⟩ := make_ok (by decide) h
  obtain rfl : into x y = z := Option.some.inj hz
  obtain ⟨fz, ez⟩ := tell_ok (wf_into fx.1 fy.1) ht
  rw [e, ez]
  obtain ⟨g1, g2⟩ := make_of intoO 9 (fit_read fz) hb
  rw [g1, g2]
  show tellE (into (into x y) y) = 0 ∧ tellT (into (into x y) y) = _
  rw [into_again y x fx.1 fy.1]
  exact tell_fit fz
theorem merge_both {p q : Bs} (hc : makeE both 9 p q = 0) (ha : makeE intoO 9 a p = 0) (_hb : makeE intoO 9 (makeT intoO a p) q = 0) (_hd : makeE intoO 9 a (makeT both p q) = 0) : makeT intoO (makeT intoO a p) q = makeT intoO a (makeT both p q) := by
  obtain ⟨x, y, z, hp, hq, fx, fy, hz, ht, e⟩ := make_ok (by decide) hc
  obtain ⟨d, x', u, hd, hp', fd, _, hu, hut, eu⟩ := make_ok (by decide) ha
  rw [hp] at hp'
  obtain rfl : x = x' := (Prod.mk.inj hp').1
  obtain rfl : into d x = u := Option.some.inj hu
  obtain ⟨fu, eu'⟩ := tell_ok (wf_into fd.1 fx.1) hut
  obtain ⟨fz, ez⟩ := tell_ok (wf_both fx.1 fy.1 hz) ht
  rw [e, eu, ez, eu', (make_of intoO 9 (fit_read fu) hq).2, (make_of intoO 9 hd (fit_read fz)).2]
  show tellT (into (into d x) y) = tellT (into d z)
  rw [into_both y x d z fd.1 fx.1 fy.1 hz]
theorem merge_three {p q r : Bs} (h1 : makeE both 9 p q = 0) (h2 : makeE both 9 q r = 0) (h3 : makeE both 9 (makeT both p q) r = 0) (h4 : makeE both 9 p (makeT both q r) = 0) : makeT both (makeT both p q) r = makeT both p (makeT both q r) := by
  obtain ⟨x, y, z, hp, hq, fx, fy, hz, ht, e⟩ := make_ok (by decide) h1
  obtain ⟨y', k, u, hq', hr, _, fk, hu, hut, eu⟩ := make_ok (by decide) h2
  rw [hq] at hq'
  obtain rfl : y = y' := (Prod.mk.inj hq').1
  obtain ⟨fz, ez⟩ := tell_ok (wf_both fx.1 fy.1 hz) ht
  obtain ⟨fu, eu'⟩ := tell_ok (wf_both fy.1 fk.1 hu) hut
  rw [e, ez] at h3 ⊢
  rw [eu, eu'] at h4 ⊢
  obtain ⟨a3, b3, c3, e1, e2, _, _, e3, _, e4⟩ := make_ok (by decide) h3
  obtain ⟨a4, b4, c4, e5, e6, _, _, e7, _, e8⟩ := make_ok (by decide) h4
  rw [fit_read fz] at e1
  rw [hr] at e2
  rw [hp] at e5
  rw [fit_read fu] at e6
  obtain rfl : z = a3 := (Prod.mk.inj e1).1
  obtain rfl : k = b3 := (Prod.mk.inj e2).1
  obtain rfl : x = a4 := (Prod.mk.inj e5).1
  obtain rfl : u = b4 := (Prod.mk.inj e6).1
  rw [e4, e8, both_three k x y z u c3 c4 fx.1 fy.1 fk.1 hz hu e3 e7]
/-! the documents that the laws name -/
theorem fit_empty : Fit (.obj []) := ⟨by rw [wf]; exact ⟨List.Pairwise.nil, by rw [wfF]; trivial⟩, by decide, by decide, by decide⟩
theorem fit_one : Fit (.num 1) := ⟨by rw [wf]; exact ⟨by decide, by decide⟩, by decide, by decide, by decide +kernel⟩
theorem fit_two : Fit (.num 2) := ⟨by rw [wf]; exact ⟨by decide, by decide⟩, by decide, by decide, by decide +kernel⟩
theorem fit_anull : Fit (.obj [([97], .nul)]) := ⟨by rw [wf]; exact ⟨List.pairwise_singleton _ _, by rw [wfF, wfF, wf]; exact ⟨by decide, trivial, trivial⟩⟩, by decide, by decide, by decide +kernel⟩
theorem read_empty : readL [123, 125] = (.obj [], 0) := by have := fit_read fit_empty; rw [show text (.obj []) = [123, 125] from by decide +kernel] at this; exact this
theorem read_one : readL [49] = (.num 1, 0) := by have := fit_read fit_one; rw [show text (.num 1) = [49] from by decide +kernel] at this; exact this
theorem read_two : readL [50] = (.num 2, 0) := by have := fit_read fit_two; rw [show text (.num 2) = [50] from by decide +kernel] at this; exact this
theorem read_anull : readL [123, 34, 97, 34, 58, 110, 117, 108, 108, 125] = (.obj [([97], .nul)], 0) := by have := fit_read fit_anull; rw [show text (.obj [([97], .nul)]) = [123, 34, 97, 34, 58, 110, 117, 108, 108, 125] from by decide +kernel] at this; exact this
theorem merge_const1 : makeE btw 9 [123, 125] [123, 34, 97, 34, 58, 110, 117, 108, 108, 125] = 9 := (make_of btw 9 read_empty read_anull).1.trans rfl
theorem merge_const2 : makeE intoO 9 [49] [50] = 0 ∧ makeT intoO [49] [50] = [50] := by
  obtain ⟨h1, h2⟩ := make_of intoO 9 read_one read_two
  obtain ⟨t1, t2⟩ := tell_fit fit_two
  exact ⟨h1.trans t1, h2.trans (t2.trans (by decide +kernel))⟩
theorem merge_const3 : makeE both 9 [49] [123, 125] = 9 := (make_of both 9 read_one read_empty).1.trans rfl
theorem merge_nothing (s : Bs) : ((readL s).2 ≠ 0 ∧ makeE intoO 9 s [123, 125] = (readL s).2 ∧ makeE btw 9 s s = (readL s).2 ∧ makeT intoO s [123, 125] = [] ∧ makeT btw s s = []) ∨
    ((readL s).2 = 0 ∧ makeE intoO 9 s [123, 125] = 0 ∧ makeE btw 9 s s = 0 ∧ ((kindT s ≠ 6 ∧ makeT intoO s [123, 125] = [123, 125] ∧ makeT btw s s = canonT s) ∨ (kindT s = 6 ∧ makeT intoO s [123, 125] = canonT s ∧ makeT btw s s = [123, 125]))) := by
  by_cases h : (readL s).2 = 0
  · refine .inr ⟨h, ?_⟩
    have hs : readL s = ((readL s).1, 0) := Prod.ext rfl h
    have fs := read_fit h
    have hk : kindT s = kind (readL s).1 := by unfold kindT; rw [if_pos h]
    have hc := canonT_ok hs
    obtain ⟨x, hx⟩ : ∃ x, (readL s).1 = x := ⟨_, rfl⟩
    rw [hx] at hs fs hk hc
    obtain ⟨a1, a2⟩ := make_of intoO 9 hs read_empty
    obtain ⟨b1, b2⟩ := make_of btw 9 hs hs
    rw [a1, a2, b1, b2, hk, hc]
    have he : text (.obj []) = [123, 125] := by decide +kernel
    rcases obj_or x with ⟨l, rfl⟩ | hn
    · rw [btw_self (wf_obj fs.1).1, show intoO (.obj l) (.obj []) = some (.obj l) from congrArg some (into_none _), ← he]
      exact ⟨(tell_fit fs).1, (tell_fit fit_empty).1, .inr ⟨rfl, (tell_fit fs).2, (tell_fit fit_empty).2⟩⟩
    · rw [btw_other hn, show intoO x (.obj []) = some (.obj []) from congrArg some (by
        rw [into_none]
        cases x with
        | obj l => exact absurd rfl (hn l)
        | _ => rfl), ← he]
      refine ⟨(tell_fit fit_empty).1, (tell_fit fs).1, .inl ⟨?_, (tell_fit fit_empty).2, (tell_fit fs).2⟩⟩
      cases x with
      | obj l => exact absurd rfl (hn l)
      | _ => simp [kind]
  · have e1 : sameE s [123, 125] = (readL s).2 := if_neg h
    have e2 : sameE s s = (readL s).2 := if_neg h
    refine .inl ⟨h, ?_, ?_, ?_, ?_⟩
    · unfold makeE; rw [e1, if_neg h]
    · unfold makeE; rw [e2, if_neg h]
    · unfold makeT; rw [e1, if_neg h]
    · unfold makeT; rw [e2, if_neg h]
end JP
end Go.Proofs.YtlcongehmjiabaaDoor
/- The law MergeThree. -/
namespace Go.Proofs.YtlcongehmjiabaaDoor
open Go.RowKit
open JP (JV Bs)

set_option maxRecDepth 100000 in
set_option maxHeartbeats 6400000 in
theorem mergeThree_walk (p q r : ByteArray) (w : World) (hbulk : p.data.toList.length + 1 + (q.data.toList.length + 1 + (r.data.toList.length + 1 + 0)) ≤ 1048576) (htab : TabOK w) :
    Calls Tryd.prog 3 #[.string p, .string q, .string r] w fun e w' => e = .returned (.bool true) ∧ Below w.heap.size w w' := by
  have hp : p.size ≤ 1048576 := by rw [list_size] at hbulk; omega
  have hq : q.size ≤ 1048576 := by rw [list_size q] at hbulk; omega
  have hr : r.size ≤ 1048576 := by rw [list_size r] at hbulk; omega
  have H1 := Lib.hid (fun (w' : World) (h : Below w.heap.size w w') => compose_any ⟨#[49]⟩ ⟨#[123, 125]⟩ w' (by decide) (by decide) (htab.below h))
  rw [JP.merge_const3] at H1
  obtain ⟨T0, hT0⟩ : ∃ T, mkB (JP.makeT JP.both (⟨#[49]⟩ : ByteArray).data.toList (⟨#[123, 125]⟩ : ByteArray).data.toList) = T := ⟨_, rfl⟩
  rw [hT0] at H1
  clear hT0
  have H2 := Lib.hid (fun (w' : World) (h : Below w.heap.size w w') => compose_any p q w' hp hq (htab.below h))
  have H3 := Lib.hid (fun (w' : World) (h : Below w.heap.size w w') => compose_any q r w' hq hr (htab.below h))
  have HB0 := Lib.hid (Below.refl w.heap.size w)
  obtain ⟨w0, hw0⟩ : ∃ x, x = w := ⟨_, rfl⟩
  have key := @JP.merge_three p.data.toList q.data.toList r.data.toList
  have hl := JP.make_len JP.both p.data.toList q.data.toList
  have hl2 := JP.make_len JP.both q.data.toList r.data.toList
  obtain ⟨A, hA⟩ : ∃ P, JP.makeT JP.both p.data.toList q.data.toList = P := ⟨_, rfl⟩
  obtain ⟨B, hB⟩ : ∃ P, JP.makeT JP.both q.data.toList r.data.toList = P := ⟨_, rfl⟩
  obtain ⟨E2, hE2⟩ : ∃ E, JP.makeE JP.both 9 p.data.toList q.data.toList = E := ⟨_, rfl⟩
  obtain ⟨E3, hE3⟩ : ∃ E, JP.makeE JP.both 9 q.data.toList r.data.toList = E := ⟨_, rfl⟩
  rw [hA, hB, hE2, hE3] at key
  rw [hA] at hl H2
  rw [hB] at hl2 H3
  rw [hE2] at H2
  rw [hE3] at H3
  have H4 := Lib.hid (fun (w' : World) (h : Below w.heap.size w w') => compose_any (mkB A) r w' (by rw [mkB_size]; omega) hr (htab.below h))
  have H5 := Lib.hid (fun (w' : World) (h : Below w.heap.size w w') => compose_any p (mkB B) w' hp (by rw [mkB_size]; omega) (htab.below h))
  rw [mkB_list] at H4 H5
  obtain ⟨E4, hE4⟩ : ∃ E, JP.makeE JP.both 9 A r.data.toList = E := ⟨_, rfl⟩
  obtain ⟨E5, hE5⟩ : ∃ E, JP.makeE JP.both 9 p.data.toList B = E := ⟨_, rfl⟩
  obtain ⟨T4, hT4⟩ : ∃ E, JP.makeT JP.both A r.data.toList = E := ⟨_, rfl⟩
  obtain ⟨T5, hT5⟩ : ∃ E, JP.makeT JP.both p.data.toList B = E := ⟨_, rfl⟩
  rw [hE4, hE5, hT4, hT5] at key
  rw [hE4, hT4] at H4
  rw [hE5, hT5] at H5
  clear hA hB hl hl2 htab hp hq hr hbulk hE2 hE3 hE4 hE5 hT4 hT5
  subst hw0
  by_cases h2 : E2 = 0
  · subst h2
    by_cases h3 : E3 = 0
    · subst h3
      by_cases h4 : E4 = 0
      · subst h4
        by_cases h5 : E5 = 0
        · subst h5
          obtain rfl : T4 = T5 := key rfl rfl rfl rfl
          have t1 : ((mkB T4).toList == (mkB T4).toList) = true := by simp
          clear key
          go_enter Tryd.func3, Tryd.ntmps3
          go_wp2_with fail
          refine (H1.out w0 HB0.out).mono ?_
          rintro E w1 ⟨rfl, hb⟩
          have HB1 := Lib.hid (HB0.out.trans (hb.mono HB0.out.size))
          clear hb
          go_wp2_with fail
          refine (H2.out w1 HB1.out).mono ?_
          rintro E w2 ⟨rfl, hb⟩
          have HB2 := Lib.hid (HB1.out.trans (hb.mono HB1.out.size))
          clear hb
          go_wp2_with fail
          refine (H3.out w2 HB2.out).mono ?_
          rintro E w3 ⟨rfl, hb⟩
          have HB3 := Lib.hid (HB2.out.trans (hb.mono HB2.out.size))
          clear hb
          go_wp2_with fail
          refine (H4.out w3 HB3.out).mono ?_
          rintro E w4 ⟨rfl, hb⟩
          have HB4 := Lib.hid (HB3.out.trans (hb.mono HB3.out.size))
          clear hb
          go_wp2_with fail
          refine (H5.out w4 HB4.out).mono ?_
          rintro E w5 ⟨rfl, hb⟩
          have HB5 := Lib.hid (HB4.out.trans (hb.mono HB4.out.size))
          clear hb
          go_wp2_with fail
          go_ret
          exact ⟨by first | rfl | (rw [t1] <;> rfl), HB5.out⟩
        · have n0 : (E5 != 0) = true := by rw [bne_iff_ne]; exact h5
          clear key h5
          go_enter Tryd.func3, Tryd.ntmps3
          go_wp2_with fail
          refine (H1.out w0 HB0.out).mono ?_
          rintro E w1 ⟨rfl, hb⟩
          have HB1 := Lib.hid (HB0.out.trans (hb.mono HB0.out.size))
          clear hb
          go_wp2_with fail
          refine (H2.out w1 HB1.out).mono ?_
          rintro E w2 ⟨rfl, hb⟩
          have HB2 := Lib.hid (HB1.out.trans (hb.mono HB1.out.size))
          clear hb
          go_wp2_with fail
          refine (H3.out w2 HB2.out).mono ?_
          rintro E w3 ⟨rfl, hb⟩
          have HB3 := Lib.hid (HB2.out.trans (hb.mono HB2.out.size))
          clear hb
          go_wp2_with fail
          refine (H4.out w3 HB3.out).mono ?_
          rintro E w4 ⟨rfl, hb⟩
          have HB4 := Lib.hid (HB3.out.trans (hb.mono HB3.out.size))
          clear hb
          go_wp2_with fail
          refine (H5.out w4 HB4.out).mono ?_
          rintro E w5 ⟨rfl, hb⟩
          have HB5 := Lib.hid (HB4.out.trans (hb.mono HB4.out.size))
          clear hb
          go_wp2_with fail
          go_ret
          exact ⟨by first | rfl | (rw [n0] <;> rfl), HB5.out⟩
      · have n0 : (E4 != 0) = true := by rw [bne_iff_ne]; exact h4
        clear key h4
        go_enter Tryd.func3, Tryd.ntmps3
        go_wp2_with fail
        refine (H1.out w0 HB0.out).mono ?_
        rintro E w1 ⟨rfl, hb⟩
        have HB1 := Lib.hid (HB0.out.trans (hb.mono HB0.out.size))
        clear hb
        go_wp2_with fail
        refine (H2.out w1 HB1.out).mono ?_
        rintro E w2 ⟨rfl, hb⟩
        have HB2 := Lib.hid (HB1.out.trans (hb.mono HB1.out.size))
        clear hb
        go_wp2_with fail
        refine (H3.out w2 HB2.out).mono ?_
        rintro E w3 ⟨rfl, hb⟩
        have HB3 := Lib.hid (HB2.out.trans (hb.mono HB2.out.size))
        clear hb
        go_wp2_with fail
        refine (H4.out w3 HB3.out).mono ?_
        rintro E w4 ⟨rfl, hb⟩
        have HB4 := Lib.hid (HB3.out.trans (hb.mono HB3.out.size))
        clear hb
        go_wp2_with fail
        refine (H5.out w4 HB4.out).mono ?_
        rintro E w5 ⟨rfl, hb⟩
        have HB5 := Lib.hid (HB4.out.trans (hb.mono HB4.out.size))
        clear hb
        go_wp2_with fail
        go_ret
        exact ⟨by first | rfl | (rw [n0] <;> rfl), HB5.out⟩
    · have n0 : (E3 != 0) = true := by rw [bne_iff_ne]; exact h3
      clear key h3
      go_enter Tryd.func3, Tryd.ntmps3
      go_wp2_with fail
      refine (H1.out w0 HB0.out).mono ?_
      rintro E w1 ⟨rfl, hb⟩
      have HB1 := Lib.hid (HB0.out.trans (hb.mono HB0.out.size))
      clear hb
      go_wp2_with fail
      refine (H2.out w1 HB1.out).mono ?_
      rintro E w2 ⟨rfl, hb⟩
      have HB2 := Lib.hid (HB1.out.trans (hb.mono HB1.out.size))
      clear hb
      go_wp2_with fail
      refine (H3.out w2 HB2.out).mono ?_
      rintro E w3 ⟨rfl, hb⟩
      have HB3 := Lib.hid (HB2.out.trans (hb.mono HB2.out.size))
      clear hb
      go_wp2_with fail
      go_ret
      exact ⟨by first | rfl | (rw [n0] <;> rfl), HB3.out⟩
  · have n0 : (E2 != 0) = true := by rw [bne_iff_ne]; exact h2
    clear key h2
    go_enter Tryd.func3, Tryd.ntmps3
    go_wp2_with fail
    refine (H1.out w0 HB0.out).mono ?_
    rintro E w1 ⟨rfl, hb⟩
    have HB1 := Lib.hid (HB0.out.trans (hb.mono HB0.out.size))
    clear hb
    go_wp2_with fail
    refine (H2.out w1 HB1.out).mono ?_
    rintro E w2 ⟨rfl, hb⟩
    have HB2 := Lib.hid (HB1.out.trans (hb.mono HB1.out.size))
    clear hb
    go_wp2_with fail
    refine (H3.out w2 HB2.out).mono ?_
    rintro E w3 ⟨rfl, hb⟩
    have HB3 := Lib.hid (HB2.out.trans (hb.mono HB2.out.size))
    clear hb
    go_wp2_with fail
    go_ret
    exact ⟨by first | rfl | (rw [n0] <;> rfl), HB3.out⟩
end Go.Proofs.YtlcongehmjiabaaDoor
/- The table that strconv reads stands third on the lists of the rows about documents. -/
namespace Go.Proofs.YtlcongehmjiabaaDoor
open Go.RowKit Go.ChangeShapes Go.WideShapes Go.ChangeAt

theorem laid_tail {P : Program} {W : World} {x : String × DataW Unit} {r : List (String × DataW Unit)} (h : laidMet P (x :: r) W) : laidMet P r W := by
  obtain ⟨ps, ⟨g, t, cs, fuel, p, q, _, _, _, _, hq, rfl⟩, hnd, hall⟩ := h
  exact ⟨q, hq, (List.nodup_append.1 hnd).2.1, fun b off hb => hall b off (List.mem_append_right _ hb)⟩
noncomputable def tabG : Nat := (Tryd.prog.globalNamed "internal/strconv.uint64pow10").getD 0
noncomputable def tabT : TypeId := ((Tryd.prog.globals[tabG]?).map (·.type)).getD 0
noncomputable def tabE : TypeId := match Tryd.prog.underlying tabT with | some (.array _ e) => e | _ => 0
noncomputable def tabN : Nat := match Tryd.prog.underlying tabT with | some (.array n _) => n | _ => 0
theorem gTab1 : Tryd.prog.globalNamed "internal/strconv.uint64pow10" = some tabG := by kernel_rfl
theorem gTab2 : (Tryd.prog.globals[tabG]?).map (·.type) = some tabT := by kernel_rfl
theorem gTab3 : Tryd.prog.underlying tabT = some (.array tabN tabE) := by kernel_rfl
theorem gTab4 : Tryd.prog.underlying tabE = some (.int .u64) := by kernel_rfl
theorem gTab5 : Tryd.prog.cellsOf tabE = 1 := by kernel_rfl
theorem gTab6 : Tryd.prog.cellsOf tabT = tabN := by kernel_rfl
theorem tab_of {W : World} {x1 x2 : String × DataW Unit} {r : List (String × DataW Unit)} {d : DataW Unit} (hd : d = Lib.tabData .u64 Lib.pow10Tab) (h : laidMet Tryd.prog (x1 :: x2 :: ("internal/strconv.uint64pow10", d) :: r) W) : TabOK W := by
  subst hd
  exact Lib.tabIs_of_head gTab1 gTab2 gTab3 gTab4 gTab5 gTab6 (laid_tail (laid_tail h))
end Go.Proofs.YtlcongehmjiabaaDoor
/- The law MergeAgain. -/
namespace Go.Proofs.YtlcongehmjiabaaDoor
open Go.RowKit
open JP (JV Bs)

set_option maxRecDepth 100000 in
set_option maxHeartbeats 6400000 in
theorem mergeAgain_walk (a b : ByteArray) (w : World) (hbulk : a.data.toList.length + 1 + (b.data.toList.length + 1 + 0) ≤ 1048576) (htab : TabOK w) :
    Calls Tryd.prog 4 #[.string a, .string b] w fun e w' => e = .returned (.bool true) ∧ Below w.heap.size w w' := by
  have ha : a.size ≤ 1048576 := by rw [list_size] at hbulk; omega
  have hb : b.size ≤ 1048576 := by rw [list_size b] at hbulk; omega
  have H1 := Lib.hid (fun (w' : World) (h : Below w.heap.size w w') => apply_any a b w' ha hb (htab.below h))
  have H2 := Lib.hid (fun (w' : World) (h : Below w.heap.size w w') => apply_any ⟨#[49]⟩ ⟨#[50]⟩ w' (by decide) (by decide) (htab.below h))
  rw [JP.merge_const2.1, JP.merge_const2.2] at H2
  have t0 : (mkB [50]).toList = [50] := by rw [ba_list, mkB_list]
  have HB0 := Lib.hid (Below.refl w.heap.size w)
  obtain ⟨w0, hw0⟩ : ∃ x, x = w := ⟨_, rfl⟩
  by_cases he : JP.makeE JP.intoO 9 a.data.toList b.data.toList = 0
  · obtain ⟨k1, k2⟩ := JP.merge_again he
    have hl := JP.make_len JP.intoO a.data.toList b.data.toList
    obtain ⟨P, hP⟩ : ∃ P, JP.makeT JP.intoO a.data.toList b.data.toList = P := ⟨_, rfl⟩
    rw [hP] at k1 k2 hl
    have H3 := Lib.hid (fun (w' : World) (h : Below w.heap.size w w') => apply_any (mkB P) b w' (by rw [mkB_size]; omega) hb (htab.below h))
    rw [mkB_list, k1, k2] at H3
    rw [hP, he] at H1
    have t1 : ((mkB P).toList == (mkB P).toList) = true := by simp
    clear hP k1 k2 hl htab ha hb hbulk he
    subst hw0
    go_enter Tryd.func4, Tryd.ntmps4
    go_wp2_with fail
    refine (H1.out w0 HB0.out).mono ?_
    rintro E w1 ⟨rfl, hb⟩
    have HB1 := Lib.hid (HB0.out.trans (hb.mono HB0.out.size))
    clear hb
    go_wp2_with fail
    refine (H2.out w1 HB1.out).mono ?_
    rintro E w2 ⟨rfl, hb⟩
    have HB2 := Lib.hid (HB1.out.trans (hb.mono HB1.out.size))
    clear hb
    go_wp2_with fail
    refine (H3.out w2 HB2.out).mono ?_
    rintro E w3 ⟨rfl, hb⟩
    have HB3 := Lib.hid (HB2.out.trans (hb.mono HB2.out.size))
    clear hb
    go_wp2_with fail
    go_ret
    exact ⟨by first | rfl | (rw [t1] <;> rfl), HB3.out⟩
  · have n0 : (JP.makeE JP.intoO 9 a.data.toList b.data.toList != 0) = true := by rw [bne_iff_ne]; exact he
    rw [JP.make_no he] at H1
    obtain ⟨E1, hE1⟩ : ∃ E, JP.makeE JP.intoO 9 a.data.toList b.data.toList = E := ⟨_, rfl⟩
    rw [hE1] at H1 n0
    have t1 : (mkB []).toList.isEmpty = true := by rw [mkB_empty]; rfl
    clear htab ha hb hbulk he hE1
    subst hw0
    go_enter Tryd.func4, Tryd.ntmps4
    go_wp2_with fail
    refine (H1.out w0 HB0.out).mono ?_
    rintro E w1 ⟨rfl, hb⟩
    have HB1 := Lib.hid (HB0.out.trans (hb.mono HB0.out.size))
    clear hb
    go_wp2_with fail
    refine (H2.out w1 HB1.out).mono ?_
    rintro E w2 ⟨rfl, hb⟩
    have HB2 := Lib.hid (HB1.out.trans (hb.mono HB1.out.size))
    clear hb
    go_wp2_with fail
    go_ret
    exact ⟨by first | rfl | (rw [t1] <;> rfl), HB2.out⟩
end Go.Proofs.YtlcongehmjiabaaDoor
/- The law MergeBoth. -/
namespace Go.Proofs.YtlcongehmjiabaaDoor
open Go.RowKit
open JP (JV Bs)

set_option maxRecDepth 100000 in
set_option maxHeartbeats 6400000 in
theorem mergeBoth_walk (d p q : ByteArray) (w : World) (hbulk : d.data.toList.length + 1 + (p.data.toList.length + 1 + (q.data.toList.length + 1 + 0)) ≤ 1048576) (htab : TabOK w) :
    Calls Tryd.prog 5 #[.string d, .string p, .string q] w fun e w' => e = .returned (.bool true) ∧ Below w.heap.size w w' := by
  have hd : d.size ≤ 1048576 := by rw [list_size] at hbulk; omega
  have hp : p.size ≤ 1048576 := by rw [list_size p] at hbulk; omega
  have hq : q.size ≤ 1048576 := by rw [list_size q] at hbulk; omega
  have H1 := Lib.hid (fun (w' : World) (h : Below w.heap.size w w') => compose_any p q w' hp hq (htab.below h))
  have H2 := Lib.hid (fun (w' : World) (h : Below w.heap.size w w') => compose_any ⟨#[49]⟩ ⟨#[123, 125]⟩ w' (by decide) (by decide) (htab.below h))
  rw [JP.merge_const3] at H2
  obtain ⟨T0, hT0⟩ : ∃ T, mkB (JP.makeT JP.both (⟨#[49]⟩ : ByteArray).data.toList (⟨#[123, 125]⟩ : ByteArray).data.toList) = T := ⟨_, rfl⟩
  rw [hT0] at H2
  clear hT0
  have HB0 := Lib.hid (Below.refl w.heap.size w)
  obtain ⟨w0, hw0⟩ : ∃ x, x = w := ⟨_, rfl⟩
  have t0 : (mkB []).toList.isEmpty = true := by rw [mkB_empty]; rfl
  by_cases he : JP.makeE JP.both 9 p.data.toList q.data.toList = 0
  · have H3 := Lib.hid (fun (w' : World) (h : Below w.heap.size w w') => apply_any d p w' hd hp (htab.below h))
    have hl := JP.make_len JP.both p.data.toList q.data.toList
    by_cases ha : JP.makeE JP.intoO 9 d.data.toList p.data.toList = 0
    · have hl2 := JP.make_len JP.intoO d.data.toList p.data.toList
      have key := fun h1 h2 => JP.merge_both he ha h1 h2
      obtain ⟨C, hC⟩ : ∃ P, JP.makeT JP.both p.data.toList q.data.toList = P := ⟨_, rfl⟩
      obtain ⟨A, hA⟩ : ∃ P, JP.makeT JP.intoO d.data.toList p.data.toList = P := ⟨_, rfl⟩
      rw [hC] at key hl H1
      rw [hA] at key hl2 H3
      rw [he] at H1
      rw [ha] at H3
      have H4 := Lib.hid (fun (w' : World) (h : Below w.heap.size w w') => apply_any (mkB A) q w' (by rw [mkB_size]; omega) hq (htab.below h))
      have H5 := Lib.hid (fun (w' : World) (h : Below w.heap.size w w') => apply_any d (mkB C) w' hd (by rw [mkB_size]; omega) (htab.below h))
      rw [mkB_list] at H4 H5
      obtain ⟨E4, hE4⟩ : ∃ E, JP.makeE JP.intoO 9 A q.data.toList = E := ⟨_, rfl⟩
      obtain ⟨E5, hE5⟩ : ∃ E, JP.makeE JP.intoO 9 d.data.toList C = E := ⟨_, rfl⟩
      obtain ⟨T4, hT4⟩ : ∃ E, JP.makeT JP.intoO A q.data.toList = E := ⟨_, rfl⟩
      obtain ⟨T5, hT5⟩ : ∃ E, JP.makeT JP.intoO d.data.toList C = E := ⟨_, rfl⟩
      rw [hE4, hE5, hT4, hT5] at key
      rw [hE4, hT4] at H4
      rw [hE5, hT5] at H5
      clear hC hA hl hl2 htab hd hp hq hbulk he ha hE4 hE5 hT4 hT5
      subst hw0
      by_cases h4 : E4 = 0
      · subst h4
        by_cases h5 : E5 = 0
        · subst h5
          obtain rfl : T4 = T5 := key rfl rfl
          have t1 : ((mkB T4).toList == (mkB T4).toList) = true := by simp
          clear key
          go_enter Tryd.func5, Tryd.ntmps5
          go_wp2_with fail
          refine (H1.out w0 HB0.out).mono ?_
          rintro E w1 ⟨rfl, hb⟩
          have HB1 := Lib.hid (HB0.out.trans (hb.mono HB0.out.size))
          clear hb
          go_wp2_with fail
          refine (H2.out w1 HB1.out).mono ?_
          rintro E w2 ⟨rfl, hb⟩
          have HB2 := Lib.hid (HB1.out.trans (hb.mono HB1.out.size))
          clear hb
          go_wp2_with fail
          refine (H3.out w2 HB2.out).mono ?_
          rintro E w3 ⟨rfl, hb⟩
          have HB3 := Lib.hid (HB2.out.trans (hb.mono HB2.out.size))
          clear hb
          go_wp2_with fail
          refine (H4.out w3 HB3.out).mono ?_
          rintro E w4 ⟨rfl, hb⟩
          have HB4 := Lib.hid (HB3.out.trans (hb.mono HB3.out.size))
          clear hb
          go_wp2_with fail
          refine (H5.out w4 HB4.out).mono ?_
          rintro E w5 ⟨rfl, hb⟩
          have HB5 := Lib.hid (HB4.out.trans (hb.mono HB4.out.size))
          clear hb
          go_wp2_with fail
          go_ret
          exact ⟨by first | rfl | (rw [t1] <;> rfl), HB5.out⟩
        · have n0 : (E5 != 0) = true := by rw [bne_iff_ne]; exact h5
          clear key h5
          go_enter Tryd.func5, Tryd.ntmps5
          go_wp2_with fail
          refine (H1.out w0 HB0.out).mono ?_
          rintro E w1 ⟨rfl, hb⟩
          have HB1 := Lib.hid (HB0.out.trans (hb.mono HB0.out.size))
          clear hb
          go_wp2_with fail
          refine (H2.out w1 HB1.out).mono ?_
          rintro E w2 ⟨rfl, hb⟩
          have HB2 := Lib.hid (HB1.out.trans (hb.mono HB1.out.size))
          clear hb
          go_wp2_with fail
          refine (H3.out w2 HB2.out).mono ?_
          rintro E w3 ⟨rfl, hb⟩
          have HB3 := Lib.hid (HB2.out.trans (hb.mono HB2.out.size))
          clear hb
          go_wp2_with fail
          refine (H4.out w3 HB3.out).mono ?_
          rintro E w4 ⟨rfl, hb⟩
          have HB4 := Lib.hid (HB3.out.trans (hb.mono HB3.out.size))
          clear hb
          go_wp2_with fail
          refine (H5.out w4 HB4.out).mono ?_
          rintro E w5 ⟨rfl, hb⟩
          have HB5 := Lib.hid (HB4.out.trans (hb.mono HB4.out.size))
          clear hb
          go_wp2_with fail
          go_ret
          exact ⟨by first | rfl | (rw [n0] <;> rfl), HB5.out⟩
      · have n0 : (E4 != 0) = true := by rw [bne_iff_ne]; exact h4
        clear key h4
        go_enter Tryd.func5, Tryd.ntmps5
        go_wp2_with fail
        refine (H1.out w0 HB0.out).mono ?_
        rintro E w1 ⟨rfl, hb⟩
        have HB1 := Lib.hid (HB0.out.trans (hb.mono HB0.out.size))
        clear hb
        go_wp2_with fail
        refine (H2.out w1 HB1.out).mono ?_
        rintro E w2 ⟨rfl, hb⟩
        have HB2 := Lib.hid (HB1.out.trans (hb.mono HB1.out.size))
        clear hb
        go_wp2_with fail
        refine (H3.out w2 HB2.out).mono ?_
        rintro E w3 ⟨rfl, hb⟩
        have HB3 := Lib.hid (HB2.out.trans (hb.mono HB2.out.size))
        clear hb
        go_wp2_with fail
        refine (H4.out w3 HB3.out).mono ?_
        rintro E w4 ⟨rfl, hb⟩
        have HB4 := Lib.hid (HB3.out.trans (hb.mono HB3.out.size))
        clear hb
        go_wp2_with fail
        refine (H5.out w4 HB4.out).mono ?_
        rintro E w5 ⟨rfl, hb⟩
        have HB5 := Lib.hid (HB4.out.trans (hb.mono HB4.out.size))
        clear hb
        go_wp2_with fail
        go_ret
        exact ⟨by first | rfl | (rw [n0] <;> rfl), HB5.out⟩
    · have n0 : (JP.makeE JP.intoO 9 d.data.toList p.data.toList != 0) = true := by rw [bne_iff_ne]; exact ha
      rw [JP.make_no ha] at H3
      rw [he] at H1
      obtain ⟨E1, hE1⟩ : ∃ E, JP.makeE JP.intoO 9 d.data.toList p.data.toList = E := ⟨_, rfl⟩
      rw [hE1] at H3 n0
      clear hl htab hd hp hq hbulk he ha hE1
      subst hw0
      go_enter Tryd.func5, Tryd.ntmps5
      go_wp2_with fail
      refine (H1.out w0 HB0.out).mono ?_
      rintro E w1 ⟨rfl, hb⟩
      have HB1 := Lib.hid (HB0.out.trans (hb.mono HB0.out.size))
      clear hb
      go_wp2_with fail
      refine (H2.out w1 HB1.out).mono ?_
      rintro E w2 ⟨rfl, hb⟩
      have HB2 := Lib.hid (HB1.out.trans (hb.mono HB1.out.size))
      clear hb
      go_wp2_with fail
      refine (H3.out w2 HB2.out).mono ?_
      rintro E w3 ⟨rfl, hb⟩
      have HB3 := Lib.hid (HB2.out.trans (hb.mono HB2.out.size))
      clear hb
      go_wp2_with fail
      go_ret
      exact ⟨by first | rfl | (rw [t0] <;> rfl), HB3.out⟩
  · have n0 : (JP.makeE JP.both 9 p.data.toList q.data.toList != 0) = true := by rw [bne_iff_ne]; exact he
    rw [JP.make_no he] at H1
    obtain ⟨E1, hE1⟩ : ∃ E, JP.makeE JP.both 9 p.data.toList q.data.toList = E := ⟨_, rfl⟩
    rw [hE1] at H1 n0
    clear htab hd hp hq hbulk he hE1
    subst hw0
    go_enter Tryd.func5, Tryd.ntmps5
    go_wp2_with fail
    refine (H1.out w0 HB0.out).mono ?_
    rintro E w1 ⟨rfl, hb⟩
    have HB1 := Lib.hid (HB0.out.trans (hb.mono HB0.out.size))
    clear hb
    go_wp2_with fail
    refine (H2.out w1 HB1.out).mono ?_
    rintro E w2 ⟨rfl, hb⟩
    have HB2 := Lib.hid (HB1.out.trans (hb.mono HB1.out.size))
    clear hb
    go_wp2_with fail
    go_ret
    exact ⟨by first | rfl | (rw [t0] <;> rfl), HB2.out⟩
end Go.Proofs.YtlcongehmjiabaaDoor
/- The law MergeMakes. -/
namespace Go.Proofs.YtlcongehmjiabaaDoor
open Go.RowKit
open JP (JV Bs)

set_option maxRecDepth 100000 in
set_option maxHeartbeats 6400000 in
theorem mergeMakes_walk (a b : ByteArray) (w : World) (hbulk : a.data.toList.length + 1 + (b.data.toList.length + 1 + 0) ≤ 1048576) (htab : TabOK w) :
    Calls Tryd.prog 6 #[.string a, .string b] w fun e w' => e = .returned (.bool true) ∧ Below w.heap.size w w' := by
  have ha : a.size ≤ 1048576 := by rw [list_size] at hbulk; omega
  have hb : b.size ≤ 1048576 := by rw [list_size b] at hbulk; omega
  have H1 := Lib.hid (fun (w' : World) (h : Below w.heap.size w w') => diff_any a b w' ha hb (htab.below h))
  have H2 := Lib.hid (fun (w' : World) (h : Below w.heap.size w w') => diff_any ⟨#[123, 125]⟩ ⟨#[123, 34, 97, 34, 58, 110, 117, 108, 108, 125]⟩ w' (by decide) (by decide) (htab.below h))
  have H3 := Lib.hid (fun (w' : World) (h : Below w.heap.size w w') => canonK_any b w' hb (htab.below h))
  rw [JP.merge_const1] at H2
  obtain ⟨T0, hT0⟩ : ∃ T, mkB (JP.makeT JP.btw (⟨#[123, 125]⟩ : ByteArray).data.toList (⟨#[123, 34, 97, 34, 58, 110, 117, 108, 108, 125]⟩ : ByteArray).data.toList) = T := ⟨_, rfl⟩
  rw [hT0] at H2
  have HB0 := Lib.hid (Below.refl w.heap.size w)
  obtain ⟨w0, hw0⟩ : ∃ x, x = w := ⟨_, rfl⟩
  by_cases he : JP.makeE JP.btw 9 a.data.toList b.data.toList = 0
  · obtain ⟨k1, k2⟩ := JP.merge_makes he
    have hl := JP.make_len JP.btw a.data.toList b.data.toList
    obtain ⟨P, hP⟩ : ∃ P, JP.makeT JP.btw a.data.toList b.data.toList = P := ⟨_, rfl⟩
    obtain ⟨C, hC⟩ : ∃ P, JP.canonT b.data.toList = P := ⟨_, rfl⟩
    rw [hP] at k1 k2 hl
    rw [hC] at k2
    have H4 := Lib.hid (fun (w' : World) (h : Below w.heap.size w w') => apply_any a (mkB P) w' ha (by rw [mkB_size]; omega) (htab.below h))
    rw [mkB_list, k1, k2] at H4
    rw [hP, he] at H1
    rw [hC] at H3
    have t1 : ((mkB C).toList == (mkB C).toList) = true := by simp
    clear hT0 hP hC k1 k2 hl htab ha hb hbulk he
    subst hw0
    go_enter Tryd.func6, Tryd.ntmps6
    go_wp2_with fail
    refine (H1.out w0 HB0.out).mono ?_
    rintro E w1 ⟨rfl, hb⟩
    have HB1 := Lib.hid (HB0.out.trans (hb.mono HB0.out.size))
    clear hb
    go_wp2_with fail
    refine (H2.out w1 HB1.out).mono ?_
    rintro E w2 ⟨rfl, hb⟩
    have HB2 := Lib.hid (HB1.out.trans (hb.mono HB1.out.size))
    clear hb
    go_wp2_with fail
    refine (H3.out w2 HB2.out).mono ?_
    rintro E w3 ⟨rfl, hb⟩
    have HB3 := Lib.hid (HB2.out.trans (hb.mono HB2.out.size))
    clear hb
    go_wp2_with fail
    refine (H4.out w3 HB3.out).mono ?_
    rintro E w4 ⟨rfl, hb⟩
    have HB4 := Lib.hid (HB3.out.trans (hb.mono HB3.out.size))
    clear hb
    go_wp2_with fail
    go_ret
    exact ⟨by first | rfl | (rw [t1] <;> rfl), HB4.out⟩
  · have n0 : (JP.makeE JP.btw 9 a.data.toList b.data.toList != 0) = true := by rw [bne_iff_ne]; exact he
    rw [JP.make_no he] at H1
    obtain ⟨E1, hE1⟩ : ∃ E, JP.makeE JP.btw 9 a.data.toList b.data.toList = E := ⟨_, rfl⟩
    rw [hE1] at H1 n0
    have t1 : (mkB []).toList.isEmpty = true := by rw [mkB_empty]; rfl
    clear hT0 htab ha hb hbulk he hE1
    subst hw0
    go_enter Tryd.func6, Tryd.ntmps6
    go_wp2_with fail
    refine (H1.out w0 HB0.out).mono ?_
    rintro E w1 ⟨rfl, hb⟩
    have HB1 := Lib.hid (HB0.out.trans (hb.mono HB0.out.size))
    clear hb
    go_wp2_with fail
    refine (H2.out w1 HB1.out).mono ?_
    rintro E w2 ⟨rfl, hb⟩
    have HB2 := Lib.hid (HB1.out.trans (hb.mono HB1.out.size))
    clear hb
    go_wp2_with fail
    go_ret
    exact ⟨by first | rfl | (rw [t1] <;> rfl), HB2.out⟩
end Go.Proofs.YtlcongehmjiabaaDoor
/- The law MergeNothing. -/
namespace Go.Proofs.YtlcongehmjiabaaDoor
open Go.RowKit
open JP (JV Bs)

set_option maxRecDepth 100000 in
set_option maxHeartbeats 6400000 in
theorem mergeNothing_walk (s : ByteArray) (w : World) (hbulk : s.data.toList.length + 1 + 0 ≤ 1048576) (htab : TabOK w) :
    Calls Tryd.prog 7 #[.string s] w fun e w' => e = .returned (.bool true) ∧ Below w.heap.size w w' := by
  have hs : s.size ≤ 1048576 := by rw [list_size] at hbulk; omega
  have H1 := Lib.hid (fun (w' : World) (h : Below w.heap.size w w') => canonK_any s w' hs (htab.below h))
  have H2 := Lib.hid (fun (w' : World) (_ : Below w.heap.size w w') => kindJ_any s w' hs)
  have H3 := Lib.hid (fun (w' : World) (h : Below w.heap.size w w') => apply_any s ⟨#[123, 125]⟩ w' hs (by decide) (htab.below h))
  have H4 := Lib.hid (fun (w' : World) (h : Below w.heap.size w w') => diff_any s s w' hs hs (htab.below h))
  have HB0 := Lib.hid (Below.refl w.heap.size w)
  obtain ⟨w0, hw0⟩ : ∃ x, x = w := ⟨_, rfl⟩
  have key := JP.merge_nothing s.data.toList
  rw [show (⟨#[123, 125]⟩ : ByteArray).data.toList = [123, 125] from rfl] at H3
  obtain ⟨E0, hE0⟩ : ∃ E, (JP.readL s.data.toList).2 = E := ⟨_, rfl⟩
  rw [show JP.canonE s.data.toList = E0 from hE0] at H1 H2
  rw [hE0] at key
  obtain ⟨C, hC⟩ : ∃ E, JP.canonT s.data.toList = E := ⟨_, rfl⟩
  obtain ⟨K, hK⟩ : ∃ E, JP.kindT s.data.toList = E := ⟨_, rfl⟩
  obtain ⟨E3, hE3⟩ : ∃ E, JP.makeE JP.intoO 9 s.data.toList [123, 125] = E := ⟨_, rfl⟩
  obtain ⟨E4, hE4⟩ : ∃ E, JP.makeE JP.btw 9 s.data.toList s.data.toList = E := ⟨_, rfl⟩
  obtain ⟨T3, hT3⟩ : ∃ E, JP.makeT JP.intoO s.data.toList [123, 125] = E := ⟨_, rfl⟩
  obtain ⟨T4, hT4⟩ : ∃ E, JP.makeT JP.btw s.data.toList s.data.toList = E := ⟨_, rfl⟩
  rw [hC, hK, hE3, hE4, hT3, hT4] at key
  rw [hC] at H1
  rw [hK] at H2
  rw [hE3, hT3] at H3
  rw [hE4, hT4] at H4
  clear hE0 hC hK hE3 hE4 hT3 hT4 htab hs hbulk
  have t0 : (mkB []).toList.isEmpty = true := by rw [mkB_empty]; rfl
  have t1 : (mkB [123, 125]).toList = [123, 125] := by rw [ba_list, mkB_list]
  have t2 : ((mkB C).toList == (mkB C).toList) = true := by simp
  subst hw0
  rcases key with ⟨h0, rfl, rfl, rfl, rfl⟩ | ⟨rfl, rfl, rfl, ⟨hk, rfl, rfl⟩ | ⟨rfl, rfl, rfl⟩⟩
  · have n0 : (E4 == 0) = false := by rw [beq_eq_false_iff_ne]; exact h0
    have n1 : (E4 == E4) = true := by simp
    clear h0
    go_enter Tryd.func7, Tryd.ntmps7
    go_wp2_with fail
    refine (H1.out w0 HB0.out).mono ?_
    rintro E w1 ⟨rfl, hb⟩
    have HB1 := Lib.hid (HB0.out.trans (hb.mono HB0.out.size))
    clear hb
    go_wp2_with fail
    refine (H2.out w1 HB1.out).mono ?_
    rintro E w2 ⟨rfl, hb⟩
    have HB2 := Lib.hid (HB1.out.trans (hb.mono HB1.out.size))
    clear hb
    go_wp2_with fail
    refine (H3.out w2 HB2.out).mono ?_
    rintro E w3 ⟨rfl, hb⟩
    have HB3 := Lib.hid (HB2.out.trans (hb.mono HB2.out.size))
    clear hb
    go_wp2_with fail
    refine (H4.out w3 HB3.out).mono ?_
    rintro E w4 ⟨rfl, hb⟩
    have HB4 := Lib.hid (HB3.out.trans (hb.mono HB3.out.size))
    clear hb
    go_wp2_with fail
    go_ret
    exact ⟨by first | rfl | (rw [n1] <;> rfl), HB4.out⟩
  · have n0 : (K != 6) = true := by rw [bne_iff_ne]; exact hk
    clear hk
    go_enter Tryd.func7, Tryd.ntmps7
    go_wp2_with fail
    refine (H1.out w0 HB0.out).mono ?_
    rintro E w1 ⟨rfl, hb⟩
    have HB1 := Lib.hid (HB0.out.trans (hb.mono HB0.out.size))
    clear hb
    go_wp2_with fail
    refine (H2.out w1 HB1.out).mono ?_
    rintro E w2 ⟨rfl, hb⟩
    have HB2 := Lib.hid (HB1.out.trans (hb.mono HB1.out.size))
    clear hb
    go_wp2_with fail
    refine (H3.out w2 HB2.out).mono ?_
    rintro E w3 ⟨rfl, hb⟩
    have HB3 := Lib.hid (HB2.out.trans (hb.mono HB2.out.size))
    clear hb
    go_wp2_with fail
    refine (H4.out w3 HB3.out).mono ?_
    rintro E w4 ⟨rfl, hb⟩
    have HB4 := Lib.hid (HB3.out.trans (hb.mono HB3.out.size))
    clear hb
    go_wp2_with fail
    go_ret
    exact ⟨by first | rfl | (rw [t2] <;> rfl), HB4.out⟩
  · skip
    go_enter Tryd.func7, Tryd.ntmps7
    go_wp2_with fail
    refine (H1.out w0 HB0.out).mono ?_
    rintro E w1 ⟨rfl, hb⟩
    have HB1 := Lib.hid (HB0.out.trans (hb.mono HB0.out.size))
    clear hb
    go_wp2_with fail
    refine (H2.out w1 HB1.out).mono ?_
    rintro E w2 ⟨rfl, hb⟩
    have HB2 := Lib.hid (HB1.out.trans (hb.mono HB1.out.size))
    clear hb
    go_wp2_with fail
    refine (H3.out w2 HB2.out).mono ?_
    rintro E w3 ⟨rfl, hb⟩
    have HB3 := Lib.hid (HB2.out.trans (hb.mono HB2.out.size))
    clear hb
    go_wp2_with fail
    refine (H4.out w3 HB3.out).mono ?_
    rintro E w4 ⟨rfl, hb⟩
    have HB4 := Lib.hid (HB3.out.trans (hb.mono HB3.out.size))
    clear hb
    go_wp2_with fail
    go_ret
    exact ⟨by first | rfl | (rw [t1] <;> rfl), HB4.out⟩
end Go.Proofs.YtlcongehmjiabaaDoor
