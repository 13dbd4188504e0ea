/- The walk of the law QuotaBack: costs taken, and given back. -/
import Derived.Test.YtkkfnihdnclgiaaQuotaSplitsWalk
namespace Go.Proofs.Ytkkfnihdnclgiaa
open Go.RowKit

theorem costSum_snoc (cs : List GCost) (i : Nat) (x : GCost) (h : cs[i]? = some x) (s : ByteArray) : costSum (cs.take (i + 1)) s = costSum (cs.take i) s + if sameB x.what s = true then x.many else 0 := by
  rw [List.take_add_one, h, costSum_append]
  simp [costSum]
theorem costSum_le {cs : List GCost} (h : ∀ c ∈ cs, 0 ≤ c.many ∧ c.many ≤ 2199023255552) (s : ByteArray) : 0 ≤ costSum cs s ∧ costSum cs s ≤ cs.length * 2199023255552 := by
  induction cs with
  | nil => simp [costSum]
  | cons c r ih =>
    have h1 := h c (List.mem_cons_self ..)
    have h2 := ih fun x hx => h x (List.mem_cons_of_mem _ hx)
    simp only [costSum, List.length_cons]
    split <;> omega
set_option maxRecDepth 100000 in
set_option maxHeartbeats 1600000 in
theorem quotaBack_walk (v1 : Value) (l : List GLimit) (v2 : Value) (cs : List GCost) (w : World) (h1 : RowAt LimitR 3 w v1 l) (h2 : RowAt CostR 2 w v2 cs)
    (hbulk : (l.map limitB).sum + 1 + ((cs.map costB).sum + 1 + 0) ≤ 1048576) :
    Calls Try.prog 4 #[v1, v2] w fun e w' => e = .returned (.bool true) ∧ Below w.heap.size w w' := by
  have hl := sum_ge_length limitB (fun x => by unfold limitB; omega) l
  have hp := sum_ge_length costB (fun x => by unfold costB; omega) cs
  have hx : ∀ x ∈ l, x.what.size ≤ 1048576 := fun x hx => by have h8 := sum_ge_mem limitB hx; have h9 : limitB x = x.what.size + 1 + (1 + (1 + 0)) + 1 := rfl; omega
  have hl1 : l.length ≤ 1048576 := by omega
  have hc1 : cs.length ≤ 1048576 := by omega
  obtain ⟨a1, c1, rfl, _, _⟩ := h1.len
  obtain ⟨a2, c2, rfl, _, _⟩ := h2.len
  have H1 := Lib.hid h1
  have H2 := Lib.hid h2
  have Hx := Lib.hid hx
  clear h1 h2 hx hbulk hl hp
  by_cases hz : (changeP 1 takeBad l cs).1 = 0
  · obtain ⟨g1, g2, g3, g4⟩ := takeCode_zero hz
    have g5 := give_back g1 g2 g3
    have g6 := taken_check g1 g2 g3
    obtain ⟨A, HA⟩ : ∃ A, Hid (l.map (payAll 1 cs) = A) := ⟨_, Lib.hid rfl⟩
    have hAx : ∀ x ∈ A, x.what.size ≤ 1048576 := by rw [← HA.out]; exact pay_sizes cs Hx.out
    have hAl : A.length = l.length := by rw [← HA.out, List.length_map]
    rw [HA.out] at g4 g5 g6
    have HAx := Lib.hid hAx
    have HAl := Lib.hid hAl
    have T := Lib.hid g4
    have G := Lib.hid g5
    have K := Lib.hid g6
    have Hcost := Lib.hid ((costsOK_iff cs).1 g2)
    have Hbear := Lib.hid g3
    have Hun := Lib.hid (checkL_zero g1).2.1
    have hE := eqLs_refl l
    have HE := Lib.hid hE
    clear hz g1 g2 g3 g4 g5 g6 hAx hAl hE
    go_enter Try.func4, Try.ntmps4
    go_wp2_with fail
    refine (take_any _ _ l cs w H1.out H2.out Hx.out hl1 hc1).mono ?_
    rw [T.out]
    rintro E w1 ⟨va, rfl, ha, hb1⟩
    obtain ⟨aa, ca, rfl, _, _⟩ := ha.len
    have Ha := Lib.hid ha
    have Hb1 := Lib.hid hb1
    have hs1 := hb1.size
    rw [HAl.out]
    clear ha hb1
    go_wp2_with fail
    refine (refusal_any w1).mono ?_
    rintro E w2 ⟨rfl, hb2⟩
    have Ha2 := Lib.hid (Ha.out.below stays_limit hb2)
    have Hb2 := Lib.hid (Hb1.out.trans (hb2.mono hs1))
    have hs2 := Hb2.out.size
    rw [HAl.out] at Ha2
    clear hb2 Ha Hb1
    go_wp2_with fail
    refine (give_any _ _ A cs w2 Ha2.out (H2.out.below stays_cost Hb2.out) HAx.out (by rw [HAl.out]; exact hl1) hc1).mono ?_
    rw [G.out]
    rintro E w3 ⟨vb, rfl, hr3, hb3⟩
    have Hr3 := Lib.hid hr3
    have Ha3 := Lib.hid (Ha2.out.below stays_limit hb3)
    have Hb3 := Lib.hid (Hb2.out.trans (hb3.mono hs2))
    have hs3 := Hb3.out.size
    clear hr3 hb3 Ha2 Hb2
    go_wp2_with fail
    refine (eqLimits_any vb _ l l w3 Hr3.out (H1.out.below stays_limit Hb3.out) hl1 hl1).mono ?_
    rw [HE.out]
    rintro E w4 ⟨rfl, hb4⟩
    have Ha4 := Lib.hid (Ha3.out.below stays_limit hb4)
    have Hb4 := Lib.hid (Hb3.out.trans (hb4.mono hs3))
    have hs4 := Hb4.out.size
    clear hb4 Ha3 Hb3 Hr3
    go_wp2_with fail
    go_loopg [50] l.length (fun g u50 wr => ∃ i : Nat, i + g = l.length ∧ u50 = .int .i64 (i : Int) ∧ Below w4.heap.size w4 wr)
    case atStart => exact ⟨0, by omega, rfl, Below.refl _ _⟩
    case round =>
      obtain ⟨i, hig, rfl, hbel⟩ := hrel
      cases gk with
      | zero =>
        obtain rfl : i = l.length := by omega
        have Hbel := Lib.hid hbel
        clear hbel
        go_wp2_with fail
        refine (quotaCheck_any _ A wr (Ha4.out.below stays_limit Hbel.out) HAx.out (by rw [HAl.out]; omega)).mono ?_
        rw [K.out]
        rintro E w5 ⟨rfl, hb5⟩
        have Hb5 := Lib.hid (Hb4.out.trans ((Hbel.out.trans (hb5.mono (Hbel.out.size))).mono hs4))
        clear hb5
        go_wp2_with fail
        go_ret
        exact ⟨rfl, Hb5.out⟩
      | succ g =>
        have hil : i < l.length := by omega
        obtain ⟨x, hxi⟩ : ∃ x, l[i]? = some x := ⟨l[i]'(by omega), List.getElem?_eq_getElem _⟩
        have hyi : A[i]? = some (payAll 1 cs x) := by rw [← HA.out, List.getElem?_map, hxi]; rfl
        obtain ⟨b, o, c', hv, _, _, hbs, hcell⟩ := H1.out.form (by omega) (by omega)
        cases hv
        obtain ⟨ds, _, hcc, hR, _⟩ := hcell i x hxi
        subst hR
        have hb0 := Hb4.out.trans (hbel.mono hs4)
        have e0 : wr.cell? ⟨b, o + i * 3, none⟩ = some (.string x.what) := (hb0.cell (p := ⟨b, _, none⟩) hbs).trans (by simpa using hcc 0 _ rfl)
        have e1 : wr.cell? ⟨b, o + i * 3 + 1, none⟩ = some (.int .i64 x.hard) := (hb0.cell (p := ⟨b, _, none⟩) hbs).trans (hcc 1 _ rfl)
        have e2 : wr.cell? ⟨b, o + i * 3 + 2, none⟩ = some (.int .i64 x.used) := (hb0.cell (p := ⟨b, _, none⟩) hbs).trans (hcc 2 _ rfl)
        obtain ⟨gg, oo, cc, hv, _, _, hgs, hcell⟩ := Ha4.out.form (by rw [HAl.out]; omega) (by omega)
        injection hv with u1 u2 u3
        subst u1
        obtain ⟨ds, _, hcc2, hR, _⟩ := hcell i _ hyi
        subst hR
        have hpu := payAll_used cs x
        obtain ⟨S, HS⟩ : ∃ S, Hid (costSum cs x.what = S) := ⟨_, Lib.hid rfl⟩
        rw [HS.out] at hpu
        have hpu2 : (payAll 1 cs x).used = x.used + S := hpu
        have f0 : wr.cell? ⟨gg, oo + i * 3, none⟩ = some (.string x.what) := (hbel.cell (p := ⟨gg, _, none⟩) hgs).trans (by have h9 := hcc2 0 _ rfl; exact (by simpa using h9 : w4.cell? ⟨gg, oo + i * 3, none⟩ = some (.string (payAll 1 cs x).what)))
        have f1 : wr.cell? ⟨gg, oo + i * 3 + 1, none⟩ = some (.int .i64 x.hard) := (hbel.cell (p := ⟨gg, _, none⟩) hgs).trans (hcc2 1 _ rfl)
        have f2 : wr.cell? ⟨gg, oo + i * 3 + 2, none⟩ = some (.int .i64 (x.used + S)) := (hbel.cell (p := ⟨gg, _, none⟩) hgs).trans (by have := hcc2 2 _ rfl; rw [hpu2] at this; exact this)
        have hgw : gg < wr.heap.size := by have := hbel.size; omega
        have hbw : b < wr.heap.size := by have := hb0.size; omega
        have q1 : (0 : Int) ≤ (i : Int) := by omega
        have q2 : (i : Int) < (l.length : Int) := by omega
        have Hbel : ∀ o : Obj, Hid (Below w4.heap.size w4 (wr.alloc o)) := fun o => Lib.hid (hbel.alloc hbel.size o)
        have hcl := costSum_le Hcost.out x.what
        rw [HS.out] at hcl
        have hxu := Hun.out x (List.mem_of_getElem? hxi)
        have hxu1 := (unitsB_iff _).1 hxu.1
        have hxu2 := (unitsB_iff _).1 hxu.2
        have Hlim : Hid (S = 0 ∨ x.used + S ≤ x.hard) := Lib.hid (by
          rcases Hbear.out x (List.mem_of_getElem? hxi) with h | h
          · left; rw [← HS.out]; exact costSum_none h
          · right; rw [HS.out] at h; exact h)
        clear hcc hcc2 hcell hpu hpu2 hxu u2 u3 hxi hyi hbel
        go_upto_region 12 with fail
        obtain ⟨w5, hw5⟩ : ∃ w5, w5 = wr.alloc (.cells #[.string x.what, .int .i64 x.hard, .int .i64 (x.used + S)] 33) := ⟨_, rfl⟩
        rw [← hw5]
        obtain ⟨gx, hgx⟩ : ∃ gx, gx = wr.heap.size := ⟨_, rfl⟩
        rw [← hgx]
        have b5 : w5.heap[gx]? = some (.cells #[.string x.what, .int .i64 x.hard, .int .i64 (x.used + S)] 33 (0, 0)) := by rw [hw5, hgx]; exact heap_alloc_new wr _
        have hs5 : gx < w5.heap.size := by rw [hw5, hgx]; simp
        have Hb5 : Hid (Below w4.heap.size w4 w5) := by rw [hw5]; exact Hbel _
        have Hb5w := Lib.hid (Hb4.out.trans (Hb5.out.mono hs4))
        have g0 : w5.cell? ⟨b, o + i * 3 + 2, none⟩ = some (.int .i64 x.used) := by rw [hw5]; exact (((Below.refl _ wr).alloc (Nat.le_refl _) _).cell (p := ⟨b, _, none⟩) hbw).trans e2
        have g1 : w5.cell? ⟨b, o + i * 3, none⟩ = some (.string x.what) := by rw [hw5]; exact (((Below.refl _ wr).alloc (Nat.le_refl _) _).cell (p := ⟨b, _, none⟩) hbw).trans e0
        have g2 : w5.cell? ⟨b, o + i * 3 + 1, none⟩ = some (.int .i64 x.hard) := by rw [hw5]; exact (((Below.refl _ wr).alloc (Nat.le_refl _) _).cell (p := ⟨b, _, none⟩) hbw).trans e1
        have hb5 : b < w5.heap.size := by omega
        have B5 := Lib.hid b5
        clear hw5 hgx f0 f1 f2 e0 e1 e2 b5 hgw hbw Hbel hb0
        go_wp2_with fail
        go_loopg [62, 11] cs.length (fun g u62 u11 wr => ∃ j : Nat, j + g = cs.length ∧ u62 = .int .i64 (j : Int) ∧ u11 = .int .i64 (x.used + costSum (cs.take j) x.what) ∧ Below w5.heap.size w5 wr)
        case atStart => exact ⟨0, by omega, rfl, by simp [costSum], Below.refl _ _⟩
        case round =>
          obtain ⟨j, hjg, rfl, rfl, hbq⟩ := hrel
          have k0 : wr.cell? ⟨b, o + i * 3 + 2, none⟩ = some (.int .i64 x.used) := (hbq.cell (p := ⟨b, _, none⟩) hb5).trans g0
          have k1 : wr.cell? ⟨b, o + i * 3, none⟩ = some (.string x.what) := (hbq.cell (p := ⟨b, _, none⟩) hb5).trans g1
          have k2 : wr.cell? ⟨b, o + i * 3 + 1, none⟩ = some (.int .i64 x.hard) := (hbq.cell (p := ⟨b, _, none⟩) hb5).trans g2
          have hsq := hbq.size
          have bq : wr.heap[gx]? = some (.cells #[.string x.what, .int .i64 x.hard, .int .i64 (x.used + S)] 33 (0, 0)) := (hbq.block _ hs5).trans B5.out
          have cq := fun m => cell_block bq m
          have Hq := Lib.hid hbq
          cases gk with
          | zero =>
            obtain rfl : j = cs.length := by omega
            rw [List.take_of_length_le (Nat.le_refl _), HS.out]
            clear hbq g0 g1 g2 bq
            have Hq5 := Lib.hid (Hb5.out.trans (Hq.out.mono Hb5.out.size))
            have p0 : decide (0 < cs.length) = true ∨ decide (0 < cs.length) = false := by rw [decide_eq_true_iff, decide_eq_false_iff_not]; omega
            have way : (S = 0 ∧ (decide (x.hard < x.used) = true ∨ decide (x.hard < x.used) = false)) ∨ decide (x.hard < x.used + S) = false := by rw [decide_eq_true_iff, decide_eq_false_iff_not, decide_eq_false_iff_not]; have := Hlim.out; omega
            rcases way with ⟨rfl, p1 | p1⟩ | p1
            · rw [Int.add_zero] at cq ⊢
              rcases p0 with p0 | p0
              all_goals
                go_wp2_with fail
                go_quiet (fail)
                go_wp2_with fail
                go_roundg g
                case measure => omega
                case rel => exact ⟨i + 1, by omega, by go_num, below_drewN Hq5.out _⟩
            · rw [Int.add_zero] at cq ⊢
              rcases p0 with p0 | p0
              all_goals
                go_wp2_with fail
                go_quiet (fail)
                go_wp2_with fail
                go_roundg g
                case measure => omega
                case rel => exact ⟨i + 1, by omega, by go_num, below_drewN Hq5.out _⟩
            · rcases p0 with p0 | p0
              all_goals
                go_wp2_with fail
                go_quiet (fail)
                go_wp2_with fail
                go_roundg g
                case measure => omega
                case rel => exact ⟨i + 1, by omega, by go_num, below_drewN Hq5.out _⟩
          | succ g' =>
            have hjl : j < cs.length := by omega
            obtain ⟨c, hcj⟩ : ∃ c, cs[j]? = some c := ⟨cs[j]'(by omega), List.getElem?_eq_getElem _⟩
            obtain ⟨b', o', c', hv, _, _, hbs', hcell⟩ := H2.out.form (by omega) (by omega)
            cases hv
            obtain ⟨ds, _, hcc, hR, _⟩ := hcell j c hcj
            subst hR
            have hbw' := Hb5w.out.trans (hbq.mono (Hb5w.out.size))
            have m0 : wr.cell? ⟨b', o' + j * 2, none⟩ = some (.string c.what) := (hbw'.cell (p := ⟨b', _, none⟩) hbs').trans (by simpa using hcc 0 _ rfl)
            have m1 : wr.cell? ⟨b', o' + j * 2 + 1, none⟩ = some (.int .i64 c.many) := (hbw'.cell (p := ⟨b', _, none⟩) hbs').trans (hcc 1 _ rfl)
            have p1 : (0 : Int) ≤ (j : Int) := by omega
            have p2 : (j : Int) < (cs.length : Int) := by omega
            have hsn := costSum_snoc cs j c hcj x.what
            have hcm := Hcost.out c (List.mem_of_getElem? hcj)
            have hct := costSum_le (fun c' hc' => Hcost.out c' (List.mem_of_mem_take hc')) x.what (cs := cs.take j)
            have hct2 : (cs.take j).length ≤ j := List.length_take_le _ _
            obtain ⟨N, HN⟩ : ∃ N, Hid (costSum (cs.take j) x.what = N) := ⟨_, Lib.hid rfl⟩
            rw [HN.out] at hct hsn ⊢
            have Hsn := Lib.hid hsn
            have Hq2 : ∀ o : Obj, Hid (Below w5.heap.size w5 (wr.alloc o)) := fun o => Lib.hid (hbq.alloc hbq.size o)
            have hwr : gx < wr.heap.size := by omega
            clear hcc hcell hsn hbq g0 g1 g2 bq hbw' hcj
            cases hs : sameB c.what x.what with
            | true =>
              have q3 : (c.what.toList == x.what.toList) = true := hs
              have Hn2 : Hid (costSum (cs.take (j + 1)) x.what = N + c.many) := by show _ = _; rw [Hsn.out, hs]; rfl
              clear hs
              go_wp2_with fail
              go_roundg g'
              case measure => omega
              case rel => exact ⟨j + 1, by omega, by go_num, by rw [Hn2.out]; go_num, (Hq2 _).out⟩
            | false =>
              have q3 : (c.what.toList == x.what.toList) = false := hs
              have Hn2 : Hid (costSum (cs.take (j + 1)) x.what = N) := by show _ = _; rw [Hsn.out, hs]; simp
              clear hs
              go_wp2_with fail
              go_roundg g'
              case measure => omega
              case rel => exact ⟨j + 1, by omega, by go_num, by rw [Hn2.out], (Hq2 _).out⟩
  · have T : Hid (∃ e : Int, e ≠ 0 ∧ changeP 1 takeBad l cs = (e, [])) := by
      refine Lib.hid ⟨_, hz, Prod.ext rfl (take_no fun h => hz ?_).2⟩
      rw [take_yes h.1 h.2.1 h.2.2]
    obtain ⟨e, n1, d1⟩ := T.out
    have D := Lib.hid d1
    have q1 : (e != 0) = true := by rw [bne_iff_ne]; exact n1
    clear hz T n1 d1
    go_enter Try.func4, Try.ntmps4
    go_wp2_with fail
    refine (take_any _ _ l cs w H1.out H2.out Hx.out hl1 hc1).mono ?_
    rw [D.out]
    rintro E w1 ⟨va, rfl, ha, hb1⟩
    obtain ⟨aa, ca, rfl, _, _⟩ := ha.len
    have Hb1 := Lib.hid hb1
    have hs1 := hb1.size
    clear ha hb1
    go_wp2_with fail
    refine (refusal_any w1).mono ?_
    rintro E w2 ⟨rfl, hb2⟩
    have Hb2 := Lib.hid (Hb1.out.trans (hb2.mono hs1))
    clear hb2
    go_wp2_with fail
    go_ret
    exact ⟨rfl, Hb2.out⟩
end Go.Proofs.Ytkkfnihdnclgiaa
