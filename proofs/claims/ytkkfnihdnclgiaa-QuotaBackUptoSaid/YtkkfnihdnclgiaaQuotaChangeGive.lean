/- quota.change at Give's look: its contract. -/
import Derived.Test.YtkkfnihdnclgiaaQuotaChange
namespace Go.Proofs.Ytkkfnihdnclgiaa
open Go.RowKit

set_option maxRecDepth 100000 in
set_option maxHeartbeats 1600000 in
theorem changeGive_any (v1 v2 : Value) (l : List GLimit) (cs : List GCost) (w : World) (h1 : RowAt LimitR 3 w v1 l) (h2 : RowAt CostR 2 w v2 cs) (hx : ∀ x ∈ l, x.what.size ≤ 1048576) (hl : l.length ≤ 1048576) (hc : cs.length ≤ 1048576) :
    Calls Try.prog 34 #[v1, v2, .int .i64 (-1), .func (.func 36) #[] #[]] w (ChangedAt (changeP (-1) giveBad l cs) w) := by
  obtain ⟨a1, c1, rfl, _, _⟩ := h1.len
  obtain ⟨a2, c2, rfl, _, _⟩ := h2.len
  have H1 := Lib.hid h1
  have H2 := Lib.hid h2
  have Hx := Lib.hid hx
  clear h1 h2 hx
  obtain ⟨R, HR⟩ : ∃ R, Hid (changeP (-1) giveBad l cs = R) := ⟨_, Lib.hid rfl⟩
  rw [HR.out]
  obtain ⟨cd, Hcd⟩ : ∃ cd, Hid (checkL l = cd) := ⟨_, Lib.hid rfl⟩
  by_cases h0 : cd = 0
  · subst h0
    have Hch : Hid ((if costsOK cs = false then (1, []) else changeAll (-1) giveBad l cs) = R) := by show _ = _; rw [← HR.out]; unfold changeP; exact (if_neg (by rw [Hcd.out]; simp)).symm
    go_enter Try.func34, Try.ntmps34
    go_wp2_with fail
    refine (quotaCheck_any _ l w H1.out Hx.out (by omega)).mono ?_
    rintro E w1 ⟨rfl, hb1⟩
    rw [Hcd.out]
    have Hb1 := Lib.hid hb1
    clear hb1
    go_wp2_with fail
    go_loopg [26] cs.length (fun g u26 wr => ∃ i : Nat, i + g = cs.length ∧ u26 = .int .i64 (i : Int) ∧ Hid (costsOK (cs.take i) = true) ∧ Below w.heap.size w wr)
    case atStart => exact ⟨0, by omega, rfl, by show costsOK _ = true; simp [costsOK], Hb1.out⟩
    case round =>
      obtain ⟨i, hig, rfl, Hok, hbel⟩ := hrel
      cases gk with
      | zero =>
        obtain rfl : i = cs.length := by omega
        rw [List.take_of_length_le (Nat.le_refl _)] at Hok
        have hR1 : changeAll (-1) giveBad l cs = R := by have h9 := Hch.out; rwa [if_neg (by rw [Hok.out]; simp)] at h9
        have HR1 := Lib.hid hR1
        have Hcost : Hid (∀ c ∈ cs, 0 ≤ c.many ∧ c.many ≤ 2199023255552) := Lib.hid fun c hc' => by have h9 := Hok.out; unfold costsOK at h9; have := List.all_eq_true.1 h9 c hc'; simpa using this
        have hz := checkL_zero Hcd.out
        have Hz := Lib.hid hz
        have hs0 := hbel.size
        have Hbel := Lib.hid hbel
        clear hR1 hz hbel Hok Hch
        go_wp2_with fail
        refine (cloneLimit_any _ l wr (H1.out.below stays_limit (by have h9 := Hbel.out; exact h9)) (by omega)).mono ?_
        rintro E w2 ⟨v2, rfl, hown, hb2⟩
        obtain ⟨ag, cg, hv2, _, _⟩ := hown.row.len
        subst hv2
        have Hown := Lib.hid (hown.mono hs0)
        have Hb2 := Lib.hid (Hbel.out.trans (hb2.mono hs0))
        clear hown hb2
        go_wp2_with fail
        go_loopg [43] cs.length (fun g u43 wr => ∃ (i : Nat) (out : List GLimit), i + g = cs.length ∧ u43 = .int .i64 (i : Int) ∧ Hid (out.length = l.length) ∧ OwnAt LimitR 3 wr w.heap.size 33 (.slice ag l.length cg) out ∧ risingL out ∧ (∀ x ∈ out, unitsB x.hard = true ∧ unitsB x.used = true) ∧ Hid (changeAll (-1) giveBad out (cs.drop i) = R) ∧ Below w.heap.size w wr)
        case atStart => exact ⟨0, l, by omega, rfl, rfl, Hown.out, Hz.out.1, Hz.out.2.1, HR1.out, Hb2.out⟩
        case round =>
          clear Hown Hb2 HR1
          obtain ⟨i, out, hig, rfl, Hol, hown, hris, hun, HR2, hbel⟩ := hrel
          cases gk with
          | zero =>
            obtain rfl : i = cs.length := by omega
            have Hown := Lib.hid hown
            have Hbel2 := Lib.hid hbel
            have HR3 : Hid (R = (0, out)) := by show _ = _; rw [← HR2.out, List.drop_length]; rfl
            clear hown hbel hris hun
            go_wp2_with fail
            go_ret2
            rw [HR3.out]
            exact ⟨_, rfl, Hown.out.row, Hbel2.out⟩
          | succ g =>
            have hil : i < cs.length := by omega
            obtain ⟨x, hxi⟩ : ∃ x, cs[i]? = some x := ⟨cs[i]'(by omega), List.getElem?_eq_getElem _⟩
            obtain ⟨b, o, c', hv, _, _, hbs, hcell⟩ := H2.out.form (by omega) (by omega)
            cases hv
            obtain ⟨ds, _, hcc, hR, _⟩ := hcell i x hxi
            subst hR
            have e0 : wr.cell? ⟨b, o + i * 2, none⟩ = some (.string x.what) := (hbel.cell (p := ⟨b, _, none⟩) hbs).trans (by simpa using hcc 0 _ rfl)
            have e1 : wr.cell? ⟨b, o + i * 2 + 1, none⟩ = some (.int .i64 x.many) := (hbel.cell (p := ⟨b, _, none⟩) hbs).trans (hcc 1 _ rfl)
            have q1 : (0 : Int) ≤ (i : Int) := by omega
            have q2 : (i : Int) < (cs.length : Int) := by omega
            have Hdr : Hid (cs.drop i = x :: cs.drop (i + 1)) := by show _ = _; rw [List.drop_eq_getElem_cons hil, (List.getElem?_eq_some_iff.1 hxi).2]
            have Hxm := Lib.hid (Hcost.out x (List.mem_of_getElem? hxi))
            have hs9 := hbel.size
            have Hbel : ∀ o : Obj, Hid (Below w.heap.size w (wr.alloc o)) := fun o => Lib.hid (hbel.alloc hbel.size o)
            have Hown : ∀ o : Obj, Hid (OwnAt LimitR 3 (wr.alloc o) w.heap.size 33 (.slice ag l.length cg) out) := fun o => Lib.hid (hown.alloc stays_limit o)
            have Hris := Lib.hid hris
            have Hun := Lib.hid hun
            clear hcc hcell hxi hbel hown hris hun
            go_wp2_with fail
            refine (limFind_any _ out x.what _ (Hown _).out.row (by rw [Hol.out]; exact hl) Hris.out).mono ?_
            rintro E w3 ⟨k, f, rfl, hk, hf1, hf0, hb3⟩
            cases f with
            | false =>
              have Hnext : Hid (changeAll (-1) giveBad out (cs.drop (i + 1)) = R) := by
                show _ = _
                have h9 := HR2.out
                rw [Hdr.out] at h9
                have h8 : changeOne (-1) giveBad out x = (0, out) := by unfold changeOne; rw [find_none (hf0 rfl)]
                unfold changeAll at h9
                rw [h8, if_neg (by simp)] at h9
                exact h9
              have Ho3 := Lib.hid ((Hown (.cells #[.string x.what, .int .i64 x.many] 26)).out.below stays_limit hb3)
              have Hb3 := Lib.hid ((Hbel (.cells #[.string x.what, .int .i64 x.many] 26)).out.trans (hb3.mono (by simp; omega)))
              clear hf1 hf0 hb3 e0 e1
              go_wp2_with fail
              go_roundg g
              case measure => omega
              case rel => exact ⟨i + 1, out, by omega, by go_num, Hol, Ho3.out, Hris.out, Hun.out, Hnext, Hb3.out⟩
            | true =>
              obtain ⟨y, hy, hyx⟩ := hf1 rfl
              have hkl : k < l.length := by have := (List.getElem?_eq_some_iff.1 hy).1; have := Hol.out; omega
              have hb9 : Below w.heap.size w w3 := (Hbel (.cells #[.string x.what, .int .i64 x.many] 26)).out.trans (hb3.mono (by simp; omega))
              have ho3 := (Hown (.cells #[.string x.what, .int .i64 x.many] 26)).out.below stays_limit hb3
              obtain ⟨gg, oo, cc, hv, _, _, hgs, hcell⟩ := ho3.row.form (by have := Hol.out; omega) (by omega)
              have hag : ag = some ⟨gg, oo, none⟩ ∧ cg = cc := by injection hv with u1 _ u3; exact ⟨u1, u3⟩
              obtain ⟨rfl, rfl⟩ := hag
              have hoo : oo = 0 := by
                rcases ho3.form with ⟨h1, _⟩ | ⟨g9, c9, h1, _⟩
                · injection h1 with u1; cases u1
                · injection h1 with u1; injection u1 with u2; injection u2
              subst hoo
              obtain ⟨ds, _, hcc, hR, hw1, hw2⟩ := hcell k y hy
              subst hR
              have f0 : w3.cell? ⟨gg, k * 3, none⟩ = some (.string y.what) := by have := hcc 0 _ rfl; simpa using this
              have f1 : w3.cell? ⟨gg, k * 3 + 1, none⟩ = some (.int .i64 y.hard) := by have := hcc 1 _ rfl; simpa using this
              have f2 : w3.cell? ⟨gg, k * 3 + 2, none⟩ = some (.int .i64 y.used) := by have := hcc 2 _ rfl; simpa using this
              have b3 := below_block hb3 (heap_alloc_at (w := wr) (o := .cells #[.string x.what, .int .i64 x.many] 26) rfl)
              have c3 := fun i => cell_block b3 i
              have q5 : (0 : Int) ≤ (k : Int) := by omega
              have q6 : (k : Int) < (l.length : Int) := by omega
              have Ho3 := Lib.hid ho3
              have Hb3 := Lib.hid hb9
              have Hy := Lib.hid hy
              have Hyx := Lib.hid hyx
              clear hf1 hf0 hb3 e0 e1 hcc hcell ho3 hb9 hy hyx hv
              obtain ⟨u1, u2⟩ := (unitsB_iff y.used).1 (Hun.out y (List.mem_of_getElem? Hy.out)).2
              obtain ⟨m1, m2⟩ := Hxm.out
              have r1 : IntKind.i64.wrap (-1 * x.many) = -x.many := (IntWalk.i64_in _ (by omega)).trans (by omega)
              have r1' : IntKind.i64.wrap (-x.many) = -x.many := IntWalk.i64_in _ (by omega)
              have r2 : IntKind.i64.wrap (y.used + -x.many) = y.used + -x.many := IntWalk.i64_in _ (by omega)
              obtain ⟨z, hz⟩ : ∃ z : GLimit, z = ⟨y.what, y.hard, y.used + -1 * x.many⟩ := ⟨_, rfl⟩
              have Hone : Hid (changeOne (-1) giveBad out x = if giveBad z ≠ 0 then (giveBad z, []) else (0, out.set k z)) := by
                show _ = _
                have h1 := find_rising Hris.out Hy.out Hyx.out
                have h2 := map_rising Hris.out Hy.out Hyx.out (-1 * x.many)
                unfold changeOne
                rw [h1]
                simp only [h2]
                rw [hz]
                rfl
              have Hzu : Hid (giveBad z = 0 → unitsB z.hard = true ∧ unitsB z.used = true) := Lib.hid fun h0 => by
                have h9 := Hun.out y (List.mem_of_getElem? Hy.out)
                rw [hz] at h0 ⊢
                unfold giveBad at h0
                have h1 : ¬ y.used + -1 * x.many < 0 := fun h => by rw [if_pos h] at h0; cases h0
                have g2 := (unitsB_iff y.used).1 h9.2
                exact ⟨h9.1, (unitsB_iff _).2 ⟨by show 0 ≤ y.used + -1 * x.many; omega, by show y.used + -1 * x.many ≤ _; omega⟩⟩
              have Hz0 : Hid (z.what = y.what ∧ z.hard = y.hard ∧ z.used = y.used + -1 * x.many) := Lib.hid (by rw [hz]; exact ⟨rfl, rfl, rfl⟩)
              have Hwz : Hid ((Lit.int .i64 (y.used + -1 * x.many)).wf = true) := Lib.hid (i64_wf (by omega) (by omega))
              obtain ⟨tb, Htb⟩ : ∃ tb, Hid (giveBad z = tb) := ⟨_, Lib.hid rfl⟩
              clear hz
              go_upto_region 16 with fail
              go_still_tail 10, (by kernel_rfl)
              change wpList _ _ _ _ _ w3.drew
              obtain ⟨w4, hw4⟩ : ∃ w4, w4 = w3.drew := ⟨_, rfl⟩
              rw [← hw4]
              have Ho4 : Hid (OwnAt LimitR 3 w4 w.heap.size 33 (.slice (some ⟨gg, 0, none⟩) l.length cg) out) := by rw [hw4]; exact Ho3.out.below stays_limit (Below.refl _ w3).drew
              have Hb4 : Hid (Below w.heap.size w w4) := by rw [hw4]; exact Hb3.out.drew
              have f0' : w4.cell? ⟨gg, k * 3, none⟩ = some (.string y.what) := by rw [hw4]; exact f0
              have f1' : w4.cell? ⟨gg, k * 3 + 1, none⟩ = some (.int .i64 y.hard) := by rw [hw4]; exact f1
              have f2' : w4.cell? ⟨gg, k * 3 + 2, none⟩ = some (.int .i64 y.used) := by rw [hw4]; exact f2
              clear f0 f1 f2 hw4 b3 c3 r1 r1' r2
              obtain ⟨_, _, cur, hblk⟩ := Ho4.out.at rfl
              have fz := fun i => free_block hblk i
              clear hblk
              go_upto_region 17 with fail
              obtain ⟨w5, hw5⟩ : ∃ w5, w5 = w4.setCell ⟨gg, k * 3 + 2, none⟩ (.int .i64 (y.used + -x.many)) := ⟨_, rfl⟩
              rw [← hw5]
              obtain ⟨ho5, ht5⟩ := OwnAt.store flat_limit Ho4.out Hy.out (i := 2) (by omega) (.int .i64 (y.used + -x.many)) (x' := z) (by
                rintro ds ⟨rfl, hw1, hw2⟩
                obtain ⟨z1, z2, z3⟩ := Hz0.out
                have z4 : z.used = y.used + -x.many := by rw [z3]; omega
                refine ⟨by rw [z1, z2, z4]; rfl, by rw [z2]; exact hw1, by rw [z3]; exact Hwz.out⟩)
              rw [← hw5] at ho5 ht5
              have hzk : (out.set k z)[k]? = some z := by rw [List.getElem?_set_self]; have := Hol.out; omega
              obtain ⟨gg', oo', cc', hv, _, _, hgs', hcell⟩ := ho5.row.form (by rw [List.length_set]; have := Hol.out; omega) (by omega)
              injection hv with u1 u2 u3
              cases u1
              obtain ⟨ds, _, hcc, hR, _⟩ := hcell k z hzk
              subst hR
              have f0 : w5.cell? ⟨gg, k * 3, none⟩ = some (.string z.what) := by have := hcc 0 _ rfl; simpa using this
              have f1 : w5.cell? ⟨gg, k * 3 + 1, none⟩ = some (.int .i64 z.hard) := by have := hcc 1 _ rfl; simpa using this
              have f2 : w5.cell? ⟨gg, k * 3 + 2, none⟩ = some (.int .i64 z.used) := by have := hcc 2 _ rfl; simpa using this
              have Hb5 : Hid (Below w.heap.size w w5) := Lib.hid (ht5.below Hb4.out (by have := Ho4.out.at (g := gg) rfl; omega))
              have Ho5 := Lib.hid ho5
              have hs5 := Hb5.out.size
              clear hw5 ht5 ho5 hcc hcell hzk u2 u3 f0' f1' f2' hgs'
              go_wp2_with fail
              refine (giveBad_any z _).mono ?_
              rintro E w6 ⟨rfl, hb6⟩
              rw [Htb.out]
              have Hb6 := Lib.hid (Hb5.out.trans (hb6.mono hs5))
              have Ho6 := Lib.hid (Ho5.out.below stays_limit hb6)
              clear hb6 f0 f1 f2 fz
              by_cases ht0 : tb = 0
              · subst ht0
                have Hnext : Hid (changeAll (-1) giveBad (out.set k z) (cs.drop (i + 1)) = R) := by
                  show _ = _
                  have h9 := HR2.out
                  rw [Hdr.out] at h9
                  unfold changeAll at h9
                  rw [Hone.out, Htb.out] at h9
                  simpa using h9
                have Hris5 : Hid (risingL (out.set k z)) := by
                  have h1 := map_rising Hris.out Hy.out Hyx.out (-1 * x.many)
                  have h2 : putUsed (-1 * x.many) y = z := by obtain ⟨z1, z2, z3⟩ := Hz0.out; cases z; simp only at z1 z2 z3; subst z1 z2 z3; rfl
                  rw [h2] at h1
                  exact Lib.hid (by rw [← h1]; exact rising_map _ (fun a => by split <;> rfl) Hris.out)
                have Hun5 : Hid (∀ x ∈ out.set k z, unitsB x.hard = true ∧ unitsB x.used = true) := Lib.hid fun a ha => by
                  rcases List.mem_or_eq_of_mem_set ha with h | h
                  · exact Hun.out a h
                  · rw [h]; exact Hzu.out Htb.out
                go_wp2_with fail
                go_roundg g
                case measure => omega
                case rel => exact ⟨i + 1, out.set k z, by omega, by go_num, by show _ = _; rw [List.length_set]; exact Hol.out, Ho6.out, Hris5.out, Hun5.out, Hnext, Hb6.out⟩
              · have q7 : (tb != 0) = true := by rw [bne_iff_ne]; exact ht0
                have Hnext : Hid (R = (tb, [])) := by
                  show _ = _
                  have h9 := HR2.out
                  rw [Hdr.out] at h9
                  unfold changeAll at h9
                  rw [Hone.out, Htb.out, if_pos ht0] at h9
                  rw [← h9]
                  exact if_pos ht0
                clear ht0
                go_wp2_with fail
                go_ret2
                rw [Hnext.out]
                exact ⟨_, rfl, RowAt.nil _, Hb6.out⟩
      | succ g =>
        have hil : i < cs.length := by omega
        obtain ⟨x, hxi⟩ : ∃ x, cs[i]? = some x := ⟨cs[i]'(by omega), List.getElem?_eq_getElem _⟩
        obtain ⟨b, o, c', hv, _, _, hbs, hcell⟩ := H2.out.form (by omega) (by omega)
        cases hv
        obtain ⟨ds, _, hcc, hR, _⟩ := hcell i x hxi
        subst hR
        have e0 : wr.cell? ⟨b, o + i * 2, none⟩ = some (.string x.what) := (hbel.cell (p := ⟨b, _, none⟩) hbs).trans (by simpa using hcc 0 _ rfl)
        have e1 : wr.cell? ⟨b, o + i * 2 + 1, none⟩ = some (.int .i64 x.many) := (hbel.cell (p := ⟨b, _, none⟩) hbs).trans (hcc 1 _ rfl)
        have q1 : (0 : Int) ≤ (i : Int) := by omega
        have q2 : (i : Int) < (cs.length : Int) := by omega
        have Hbel : ∀ o : Obj, Hid (Below w.heap.size w (wr.alloc o)) := fun o => Lib.hid (hbel.alloc hbel.size o)
        have Hmem := Lib.hid (List.mem_of_getElem? hxi)
        have Htk : Hid (cs.take (i + 1) = cs.take i ++ [x]) := by show _ = _; rw [List.take_add_one, hxi]; rfl
        clear hcc hcell hxi hbel
        have bad : (x.many < 0 ∨ 2199023255552 < x.many) → R = (1, []) := fun h => by
          have h5 : costsOK cs = false := by
            unfold costsOK
            rw [List.all_eq_false]
            refine ⟨x, Hmem.out, ?_⟩
            rcases h with h | h
            · simp; omega
            · simp; omega
          rw [← Hch.out, if_pos h5]
        have Hbad := Lib.hid bad
        clear bad
        by_cases hn : x.many < 0
        · have HR1 := Lib.hid (Hbad.out (.inl hn))
          rw [HR1.out]
          go_wp2_with fail
          go_ret2
          exact ⟨_, rfl, RowAt.nil _, (Hbel _).out⟩
        · by_cases hm : 2199023255552 < x.many
          · have HR1 := Lib.hid (Hbad.out (.inr hm))
            go_wp2_with fail
            go_ret2
            rw [HR1.out]
            exact ⟨_, rfl, RowAt.nil _, (Hbel _).out⟩
          · go_wp2_with fail
            go_roundg g
            case measure => omega
            case rel => exact ⟨i + 1, by omega, by go_num, by show costsOK _ = true; rw [Htk.out]; unfold costsOK; rw [List.all_append]; have := Hok.out; unfold costsOK at this; rw [this]; simp; omega, (Hbel _).out⟩
  · have q1 : (cd != 0) = true := by rw [bne_iff_ne]; exact h0
    have Hch : Hid (R = (cd, [])) := by show _ = _; rw [← HR.out]; unfold changeP; rw [if_pos (by rw [Hcd.out]; exact h0), Hcd.out]
    rw [Hch.out]
    clear h0
    go_enter Try.func34, Try.ntmps34
    go_wp2_with fail
    refine (quotaCheck_any _ l w H1.out Hx.out (by omega)).mono ?_
    rintro E w1 ⟨rfl, hb1⟩
    rw [Hcd.out]
    have Hb1 := Lib.hid hb1
    clear hb1
    go_wp2_with fail
    go_ret2
    exact ⟨_, rfl, RowAt.nil _, Hb1.out⟩
end Go.Proofs.Ytkkfnihdnclgiaa
