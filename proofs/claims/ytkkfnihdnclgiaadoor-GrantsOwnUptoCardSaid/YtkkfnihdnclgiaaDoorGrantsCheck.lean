/- grants: Check, CheckAsk, check: their contracts. -/
import Derived.Test.YtkkfnihdnclgiaaDoorGrantsUser
namespace Go.Proofs.YtkkfnihdnclgiaaDoor
open Go.RowKit

def okRole (r : GRole) : Prop := r.space.size ≤ 1048576 ∧ r.name.size ≤ 1048576 ∧ r.rules.length ≤ 1048576 ∧ ∀ q ∈ r.rules, okRule q
def okBind (b : GBind) : Prop := b.space.size ≤ 1048576 ∧ b.name.size ≤ 1048576 ∧ b.role.size ≤ 1048576 ∧ okS b.users ∧ okS b.groups
def okGrants (x : GGrants) : Prop := x.roles.length ≤ 1048576 ∧ (∀ r ∈ x.roles, okRole r) ∧ x.binds.length ≤ 1048576 ∧ ∀ b ∈ x.binds, okBind b
def okAsk (a : GAsk) : Prop := a.verb.size ≤ 1048576 ∧ a.kind.size ≤ 1048576 ∧ a.space.size ≤ 1048576 ∧ a.name.size ≤ 1048576
theorem IsBad.lt {g : Nat} {w : World} {b : Int} (h : IsBad g w b) : g < w.heap.size := by
  rcases Nat.lt_or_ge g w.heap.size with h1 | h1
  · exact h1
  · unfold IsBad at h; rw [Array.getElem?_eq_none h1] at h; cases h
theorem pair_strs {w : World} {g : Nat} {t : TypeId} {a b : ByteArray} (h : w.heap[g]? = some (.cells #[.string a, .string b] t (0, 0))) : StrAt w (.slice (some ⟨g, 0, none⟩) 2 2) [a, b] := by
  refine .inr ⟨_, 2, rfl, Nat.le_refl _, by unfold maxLen; decide, fun j x hx => ?_⟩
  have hj : j < 2 := (List.getElem?_eq_some_iff.1 hx).1
  rw [add_plain', Nat.zero_add]
  have : w.cell? ⟨g, j, none⟩ = #[Value.string a, Value.string b][j]? := cell_block h j
  rw [this]
  match j, hj with
  | 0, _ => simp at hx; subst hx; rfl
  | 1, _ => simp at hx; subst hx; rfl
set_option maxRecDepth 100000 in
set_option maxHeartbeats 800000 in
theorem ask_any (a : GAsk) (w : World) (hok : okAsk a) : Calls Tryd.prog 24 #[.agg #[.string a.verb, .string a.kind, .string a.space, .string a.name]] w fun e w' => e = .returned (.int .i64 (askC a)) ∧ Below w.heap.size w w' := by
  have Hok := Lib.hid hok
  obtain ⟨R, HR⟩ : ∃ R, Hid (askC a = R) := ⟨_, Lib.hid rfl⟩
  rw [HR.out]
  clear hok
  go_enter Tryd.func24, Tryd.ntmps24
  go_upto_region 2 with fail
  obtain ⟨w1, hw1⟩ : ∃ w1, w1 = (w.alloc (.cells #[.string a.verb, .string a.kind, .string a.space, .string a.name] 27)).alloc (.cells #[.int .i64 0] 69) := ⟨_, rfl⟩
  obtain ⟨gc, hgc⟩ : ∃ gc, gc = w.heap.size + 1 := ⟨_, rfl⟩
  obtain ⟨gb, hgb⟩ : ∃ gb, gb = w.heap.size := ⟨_, rfl⟩
  rw [← hw1]
  try rw [← hgc]
  rw [← hgb]
  have b1 : w1.heap[gb]? = some (.cells #[.string a.verb, .string a.kind, .string a.space, .string a.name] 27 (0, 0)) := by
    rw [hw1, hgb]
    exact below_block ((Below.refl _ _).alloc (Nat.le_refl _) _) (heap_alloc_new w _)
  have h1 : IsBad gc w1 0 := by
    have h9 := heap_alloc_new (w.alloc (.cells #[.string a.verb, .string a.kind, .string a.space, .string a.name] 27)) (.cells #[.int .i64 0] 69)
    rw [hw1, hgc]
    simpa [IsBad] using h9
  have hb1 : Below w.heap.size w w1 := by rw [hw1]; exact ((Below.refl _ _).alloc (Nat.le_refl _) _).alloc (by simp) _
  have hlt1 := h1.lt
  have hne : gb ≠ gc := by omega
  have hgw : w.heap.size ≤ gb := by omega
  have hgw2 : w.heap.size ≤ gc := by omega
  have hs1 := hb1.size
  have Hb1 := Lib.hid hb1
  have H1 := Lib.hid h1
  have B1 := Lib.hid b1
  have cc := fun i => cell_block b1 i
  clear hw1 hgc hgb b1 h1 hb1
  go_wp2_with fail
  refine (names_any gc 0 (.slice (some ⟨w1.heap.size, 0, none⟩) 2 2) [a.verb, a.kind] false (w1.alloc (.cells #[.string a.verb, .string a.kind] 9)) (H1.out.below ((Below.refl _ _).alloc (Nat.le_refl _) _)) (pair_strs (heap_alloc_new w1 _)) (fun _ a' n c e => by cases e; show w1.heap.size ≠ gc; omega) (fun x hx => by have := Hok.out; unfold okAsk at this; simp at hx; rcases hx with rfl | rfl <;> omega) (by simp)).mono ?_
  rintro E w2 ⟨rfl, h1, h2⟩
  have H2 := Lib.hid h1
  have K2 := Lib.hid ((But.of ((Below.refl w1.heap.size w1).alloc (Nat.le_refl _) _)).trans h2)
  clear cc h1 h2
  have cc := fun i => cell_block (K2.out.keep B1.out hne) i
  go_wp2_with fail
  refine (space_any gc _ a.space w2 H2.out (by have := Hok.out; unfold okAsk at this; omega)).mono ?_
  rintro E w3 ⟨rfl, h1, h2⟩
  have H3 := Lib.hid h1
  have K3 := Lib.hid (K2.out.trans h2)
  clear cc h1 h2
  have cc := fun i => cell_block (K3.out.keep B1.out hne) i
  go_wp2_with fail
  refine (space_any gc _ a.name w3 H3.out (by have := Hok.out; unfold okAsk at this; omega)).mono ?_
  rintro E w4 ⟨rfl, h1, h2⟩
  have hR2 : says (says (says 0 (namesC false [a.verb, a.kind])) (spaceC a.space)) (spaceC a.name) = R := by rw [← HR.out, zero_says, says_assoc]; rfl
  rw [hR2] at h1
  have K4 := Lib.hid ((But.of Hb1.out).trans (K3.out.trans h2))
  have c4 : w4.cell? ⟨gc, 0, none⟩ = some (.int .i64 R) := cell_block h1 0
  clear cc h1 h2 hR2 H2 H3
  go_wp2_with fail
  go_ret
  exact ⟨rfl, K4.out.below (Below.refl _ _) (Nat.le_refl _) (by omega)⟩
set_option maxRecDepth 100000 in
theorem none_any (w : World) : Calls Tryd.prog 9 #[] w fun e w' => e = .returned (.bool true) ∧ Below w.heap.size w w' := by
  have h := ask_any ⟨ByteArray.empty, ByteArray.empty, ByteArray.empty, ByteArray.empty⟩ w ⟨by decide, by decide, by decide, by decide⟩
  have hc : askC ⟨ByteArray.empty, ByteArray.empty, ByteArray.empty, ByteArray.empty⟩ = 6 := by decide +kernel
  rw [hc] at h
  have H := Lib.hid h
  clear h hc
  go_enter Tryd.func9, Tryd.ntmps9
  go_wp2_with fail
  refine H.out.mono ?_
  rintro E w1 ⟨rfl, hb⟩
  have Hb := Lib.hid hb
  clear hb H
  go_wp2_with fail
  go_ret
  exact ⟨rfl, Hb.out⟩
set_option maxRecDepth 100000 in
set_option maxHeartbeats 1600000 in
theorem grantsCheck_any (yr yb : Value) (x : GGrants) (w : World) (h : GrantsR w [yr, yb] x) (hok : okGrants x) :
    Calls Tryd.prog 49 #[.agg #[yr, yb]] w fun e w' => e = .returned (.int .i64 (grantsC x)) ∧ Below w.heap.size w w' := by
  obtain ⟨_, _, hcs, hr, hb⟩ := h
  simp only [List.cons.injEq, and_true] at hcs
  obtain ⟨rfl, rfl⟩ := hcs
  obtain ⟨a1, c1, rfl, hc1, _⟩ := hr.len
  obtain ⟨a2, c2, rfl, hc2, _⟩ := hb.len
  obtain ⟨okr, okrs, okb, okbs⟩ := hok
  have Hr := Lib.hid hr
  have Hb := Lib.hid hb
  have Hokr := Lib.hid okrs
  have Hokb := Lib.hid okbs
  obtain ⟨nr, Hnr⟩ : ∃ n, Hid (x.roles.length = n) := ⟨_, Lib.hid rfl⟩
  obtain ⟨nb, Hnb⟩ : ∃ n, Hid (x.binds.length = n) := ⟨_, Lib.hid rfl⟩
  obtain ⟨sm, Hsm⟩ : ∃ sm, Hid ((decide (x.roles.length ≤ 12) && decide (x.binds.length ≤ 12)) = sm) := ⟨_, Lib.hid rfl⟩
  obtain ⟨R, HR⟩ : ∃ R, Hid (grantsC x = R) := ⟨_, Lib.hid rfl⟩
  have Hres : Hid (says (says (need sm 2) (firstBad (rolesC x.roles))) (firstBad (bindsC x.binds)) = R) := by show _ = _; rw [← HR.out, ← Hsm.out, says_assoc]; rfl
  rw [HR.out]
  rw [Hnr.out] at Hr okr hc1 ⊢
  rw [Hnb.out] at Hb okb hc2 ⊢
  clear hr hb okrs okbs
  go_enter Tryd.func49, Tryd.ntmps49
  go_upto_region 2 with fail
  obtain ⟨w1, hw1⟩ : ∃ w1, w1 = (w.alloc (.cells #[.slice a1 nr c1, .slice a2 nb c2] 37)).alloc (.cells #[.int .i64 0] 69) := ⟨_, rfl⟩
  obtain ⟨gc, hgc⟩ : ∃ gc, gc = w.heap.size + 1 := ⟨_, rfl⟩
  obtain ⟨gx, hgx⟩ : ∃ gx, gx = w.heap.size := ⟨_, rfl⟩
  rw [← hw1]
  try rw [← hgc]
  rw [← hgx]
  have b1 : w1.heap[gx]? = some (.cells #[.slice a1 nr c1, .slice a2 nb c2] 37 (0, 0)) := by
    rw [hw1, hgx]
    exact below_block ((Below.refl _ _).alloc (Nat.le_refl _) _) (heap_alloc_new w _)
  have h1 : IsBad gc w1 0 := by
    have h9 := heap_alloc_new (w.alloc (.cells #[.slice a1 nr c1, .slice a2 nb c2] 37)) (.cells #[.int .i64 0] 69)
    rw [hw1, hgc]
    simpa [IsBad] using h9
  have hb1 : Below w.heap.size w w1 := by rw [hw1]; exact ((Below.refl _ _).alloc (Nat.le_refl _) _).alloc (by simp) _
  have hlt1 := h1.lt
  have hne : gx ≠ gc := by omega
  have hgw : w.heap.size ≤ gx := by omega
  have hgw2 : w.heap.size ≤ gc := by omega
  have hs1 := hb1.size
  have Hb1 := Lib.hid hb1
  have H1 := Lib.hid h1
  have B1 := Lib.hid b1
  have cc := fun i => cell_block b1 i
  clear hw1 hgc hgx b1 h1 hb1
  go_cut [20] (fun u20 wx => Hid (IsBad gc wx (need sm 2)) ∧ Hid (But gc w1 wx))
  case first =>
    have way : (decide ((nr : Int) ≤ 12) = false ∧ sm = false) ∨ (decide ((nr : Int) ≤ 12) = true ∧ decide ((nb : Int) ≤ 12) = false ∧ sm = false) ∨ (decide ((nr : Int) ≤ 12) = true ∧ decide ((nb : Int) ≤ 12) = true ∧ sm = true) := by
      have e := Hsm.out
      rw [Hnr.out, Hnb.out] at e
      rw [← e]
      simp only [decide_eq_true_eq, decide_eq_false_iff_not, Bool.and_eq_true, Bool.and_eq_false_iff]
      omega
    rcases way with ⟨p1, rfl⟩ | ⟨p1, p2, rfl⟩ | ⟨p1, p2, rfl⟩
    all_goals
      go_wp2_with fail
      refine (need_any gc 0 _ 2 w1 H1.out).mono ?_
      rintro E w2 ⟨rfl, h1, h2⟩
      rw [zero_says] at h1
      have Hx1 := Lib.hid h1
      have Hx2 := Lib.hid h2
      clear h1 h2
      go_wp2_with fail
      go_meet
      exact ⟨Hx1, Hx2⟩
  case rest =>
  obtain ⟨wx, rfl⟩ : ∃ wx, wx = wc := ⟨_, rfl⟩
  obtain ⟨Hx1, Hx2⟩ := hcut
  clear cc
  have cc := fun i => cell_block (Hx2.out.keep B1.out hne) i
  go_wp2_with fail
  clear cc
  go_loopg [25] nr (fun k u25 wr => ∃ i : Nat, i + k = nr ∧ u25 = .int .i64 (i : Int) ∧ Hid (IsBad gc wr (says (need sm 2) (firstBad ((rolesC x.roles).take i)))) ∧ Hid (But gc w1 wr))
  case atStart => exact ⟨0, by omega, rfl, Lib.hid (by rw [List.take_zero]; exact (says_zero (need sm 2)).symm ▸ Hx1.out), Hx2⟩
  case round =>
    obtain ⟨i, hig, rfl, Hbad, Hbut⟩ := hrel
    clear Hx1 Hx2
    cases gk with
    | zero =>
      obtain rfl : i = nr := by omega
      have Hend : Hid (IsBad gc wr (says (need sm 2) (firstBad (rolesC x.roles)))) := by
        have h9 := Hbad.out
        rw [List.take_of_length_le (by unfold rolesC; rw [List.length_mapIdx, Hnr.out]; exact Nat.le_refl _)] at h9
        exact Lib.hid h9
      obtain ⟨b2, Hb2⟩ : ∃ b2, Hid (says (need sm 2) (firstBad (rolesC x.roles)) = b2) := ⟨_, Lib.hid rfl⟩
      rw [Hb2.out] at Hend Hres
      obtain ⟨w3, rfl⟩ : ∃ w3, w3 = wr := ⟨_, rfl⟩
      have cc := fun i => cell_block (Hbut.out.keep B1.out hne) i
      clear Hbad
      go_wp2_with fail
      clear cc
      go_loopg [56] nb (fun k u56 wr => ∃ i : Nat, i + k = nb ∧ u56 = .int .i64 (i : Int) ∧ Hid (IsBad gc wr (says b2 (firstBad ((bindsC x.binds).take i)))) ∧ Hid (But gc w1 wr))
      case atStart => exact ⟨0, by omega, rfl, Lib.hid (by rw [List.take_zero]; exact (says_zero b2).symm ▸ Hend.out), Hbut⟩
      case round =>
        obtain ⟨i, hig, rfl, Hbad, Hbut⟩ := hrel
        clear Hend
        cases gk with
        | zero =>
          obtain rfl : i = nb := by omega
          have h9 := Hbad.out
          rw [List.take_of_length_le (by unfold bindsC; rw [List.length_mapIdx, Hnb.out]; exact Nat.le_refl _), Hres.out] at h9
          have c4 : wr.cell? ⟨gc, 0, none⟩ = some (.int .i64 R) := cell_block h9 0
          clear h9
          go_wp2_with fail
          go_ret
          exact ⟨rfl, Hbut.out.below Hb1.out hs1 hgw2⟩
        | succ k =>
          have hil : i < nb := by omega
          obtain ⟨r, hri⟩ : ∃ r, x.binds[i]? = some r := ⟨x.binds[i]'(by rw [Hnb.out]; omega), List.getElem?_eq_getElem _⟩
          obtain ⟨bk, o, c', hv, _, _, hbs, hcell⟩ := Hb.out.form (by rw [Hnb.out]; omega) (by omega)
          injection hv with u1 u2 u3
          subst u1
          obtain ⟨ds, _, hcc, hR⟩ := hcell i r hri
          obtain ⟨y4, y5, rfl, hus, hgs⟩ := hR
          obtain ⟨a3, c3, rfl, hc3, _⟩ := hus.row.len
          obtain ⟨a4, c4, rfl, hc4, _⟩ := hgs.row.len
          have hbw := Hbut.out.below Hb1.out hs1 hgw2
          have e0 : wr.cell? ⟨bk, o + i * 6, none⟩ = some (.string r.space) := (hbw.cell (p := ⟨bk, _, none⟩) hbs).trans (by simpa using hcc 0 _ rfl)
          have e1 : wr.cell? ⟨bk, o + i * 6 + 1, none⟩ = some (.string r.name) := (hbw.cell (p := ⟨bk, _, none⟩) hbs).trans (hcc 1 _ rfl)
          have e2 : wr.cell? ⟨bk, o + i * 6 + 2, none⟩ = some (.string r.role) := (hbw.cell (p := ⟨bk, _, none⟩) hbs).trans (hcc 2 _ rfl)
          have e3 : wr.cell? ⟨bk, o + i * 6 + 3, none⟩ = some (.bool r.whole) := (hbw.cell (p := ⟨bk, _, none⟩) hbs).trans (hcc 3 _ rfl)
          have e4 : wr.cell? ⟨bk, o + i * 6 + 4, none⟩ = some (.slice a3 r.users.length c3) := (hbw.cell (p := ⟨bk, _, none⟩) hbs).trans (hcc 4 _ rfl)
          have e5 : wr.cell? ⟨bk, o + i * 6 + 5, none⟩ = some (.slice a4 r.groups.length c4) := (hbw.cell (p := ⟨bk, _, none⟩) hbs).trans (hcc 5 _ rfl)
          have q1 : (0 : Int) ≤ (i : Int) := by omega
          have q2 : (i : Int) < (nb : Int) := by omega
          have q3 : (i : Int) ≤ (c2 : Int) := by omega
          obtain ⟨tw, Htw⟩ : ∃ tw, Hid ((x.binds.take i).any (fun q => sameBind q r) = tw) := ⟨_, Lib.hid rfl⟩
          obtain ⟨wh, Hwh⟩ : ∃ wh, Hid ((!eqB r.space ByteArray.empty || r.whole) = wh) := ⟨_, Lib.hid rfl⟩
          obtain ⟨lg, Hlg⟩ : ∃ lg, Hid ((decide (r.users.length ≤ 6) && decide (r.groups.length ≤ 6)) = lg) := ⟨_, Lib.hid rfl⟩
          have Hnext : Hid (says b2 (firstBad ((bindsC x.binds).take (i + 1))) = says (says (says (says (says (says (says (says b2 (firstBad ((bindsC x.binds).take i))) (spaceC r.space)) (namesC false [r.name, r.role])) (need (!tw) 5)) (need wh 1)) (need lg 2)) (namesC false r.users)) (namesC false r.groups)) := by
            show _ = _
            rw [firstBad_take (e := bindC (x.binds.take i) r) (by unfold bindsC; rw [List.getElem?_mapIdx, hri]; rfl)]
            unfold bindC
            rw [Htw.out, Hwh.out, Hlg.out]
            simp only [says_assoc]
          obtain ⟨nu, Hnu⟩ : ∃ n, Hid (r.users.length = n) := ⟨_, Lib.hid rfl⟩
          obtain ⟨ng, Hng⟩ : ∃ n, Hid (r.groups.length = n) := ⟨_, Lib.hid rfl⟩
          rw [Hnu.out] at e4
          rw [Hng.out] at e5
          obtain ⟨ok1, ok2, ok3, ok4, ok5⟩ := Hokb.out r (List.mem_of_getElem? hri)
          have Hok4 := Lib.hid ok4
          have Hok5 := Lib.hid ok5
          have Hus := Lib.hid hus
          have Hgs := Lib.hid hgs
          rw [Hnu.out] at Hus
          rw [Hng.out] at Hgs
          have hsw := Hbut.out.size
          have Htk := Lib.hid (Hb.out.take (i := i) (by rw [Hnb.out]; omega))
          have hit : (x.binds.take i).length = i := by rw [List.length_take, Hnb.out]; omega
          have Hit := Lib.hid hit
          clear hcc hcell hri u2 u3 ok4 ok5 hus hgs hbw hit hc3 hc4
          have dd := fun i => cell_block (Hbut.out.keep B1.out hne) i
          go_upto_region 14 with fail
          obtain ⟨w5, hw5⟩ : ∃ w5, w5 = wr.alloc (.cells #[.string r.space, .string r.name, .string r.role, .bool r.whole, .slice a3 nu c3, .slice a4 ng c4] 77) := ⟨_, rfl⟩
          obtain ⟨gb, hgb⟩ : ∃ gb, gb = wr.heap.size := ⟨_, rfl⟩
          rw [← hw5, ← hgb]
          have b5 : w5.heap[gb]? = some (.cells #[.string r.space, .string r.name, .string r.role, .bool r.whole, .slice a3 nu c3, .slice a4 ng c4] 77 (0, 0)) := by rw [hw5, hgb]; exact heap_alloc_new wr _
          have hb5 : Below wr.heap.size wr w5 := by rw [hw5]; exact (Below.refl _ _).alloc (Nat.le_refl _) _
          have hlt5 := Hbad.out.lt
          have hne5 : gb ≠ gc := by omega
          have hgs5 : gb < w5.heap.size := by rw [hw5, hgb]; simp
          have H5 := Lib.hid (Hbad.out.below hb5)
          have J := Lib.hid (Hbut.out.trans (But.of hb5))
          have K5 := Lib.hid (But.refl gc w5)
          have B5 := Lib.hid b5
          have hsJ := J.out.size
          clear dd hw5 hgb b5 hb5 e0 e1 e2 e3 e4 e5 Hbad
          have cc := fun i => cell_block B5.out i
          have dd := fun i => cell_block (J.out.keep B1.out hne) i
          go_wp2_with fail
          refine (space_any gc _ r.space w5 H5.out (by omega)).mono ?_
          rintro E w6 ⟨rfl, h1, h2⟩
          have H6 := Lib.hid h1
          have K6 := Lib.hid (K5.out.trans h2)
          clear cc dd h1 h2
          have cc := fun i => cell_block (K6.out.keep B5.out hne5) i
          have dd := fun i => cell_block (J.out.trans K6.out |>.keep B1.out hne) i
          have hlt6 := H6.out.lt
          have hs6 := (J.out.trans K6.out).size
          go_wp2_with fail
          refine (names_any gc _ (.slice (some ⟨w6.heap.size, 0, none⟩) 2 2) [r.name, r.role] false (w6.alloc (.cells #[.string r.name, .string r.role] 9)) (H6.out.below ((Below.refl _ _).alloc (Nat.le_refl _) _)) (pair_strs (heap_alloc_new w6 _)) (fun _ a' n c e => by cases e; show w6.heap.size ≠ gc; omega) (fun y hy => by simp at hy; rcases hy with rfl | rfl <;> omega) (by simp)).mono ?_
          rintro E w7 ⟨rfl, h1, h2⟩
          have H7 := Lib.hid h1
          have K7 := Lib.hid (K6.out.trans ((But.of ((Below.refl w6.heap.size w6).alloc (Nat.le_refl _) _)).trans h2))
          clear cc dd h1 h2
          have cc := fun i => cell_block (K7.out.keep B5.out hne5) i
          have dd := fun i => cell_block (J.out.trans K7.out |>.keep B1.out hne) i
          have hJ7 := J.out.trans K7.out
          have Hrow7 := Lib.hid (Htk.out.below stays_bind (hJ7.below Hb1.out hs1 hgw2))
          have Hcap7 : Hid (CapBind gb r w7) := Lib.hid ⟨_, _, K7.out.keep B5.out hne5⟩
          clear hJ7
          go_wp2_with fail
          refine (anyBind_any (f := 64) (cap := .pointer (some ⟨gb, 0, none⟩)) (Cap := CapBind gb r) (p := fun q => sameBind q r) (run_callFunc_body Tryd.func64 (by kernel_rfl) (by kernel_rfl)) (capBind_keep gb r) (OK := fun _ => True) (fun q y4 y5 w hq _ hc => cloBind_any gb r q y4 y5 w hq hc) _ (x.binds.take i) w7 Hrow7.out (by rw [Hit.out]; omega) (fun _ _ => trivial) Hcap7.out).mono ?_
          rw [Htw.out]
          rintro E w8 ⟨rfl, hb8⟩
          have H8 := Lib.hid (H7.out.below hb8)
          have K8 := Lib.hid (K7.out.trans (But.of hb8))
          clear cc dd hb8 Hcap7 Hrow7
          have cc := fun i => cell_block (K8.out.keep B5.out hne5) i
          have dd := fun i => cell_block (J.out.trans K8.out |>.keep B1.out hne) i
          go_wp2_with fail
          refine (need_any gc _ (!tw) 5 w8 H8.out).mono ?_
          rintro E w9 ⟨rfl, h1, h2⟩
          have H9 := Lib.hid h1
          have K9 := Lib.hid (K8.out.trans h2)
          clear cc dd h1 h2
          have cc := fun i => cell_block (K9.out.keep B5.out hne5) i
          have dd := fun i => cell_block (J.out.trans K9.out |>.keep B1.out hne) i
          obtain ⟨b9, Hb9⟩ : ∃ b9, Hid (says (says (says (says b2 (firstBad ((bindsC x.binds).take i))) (spaceC r.space)) (namesC false [r.name, r.role])) (need (!tw) 5) = b9) := ⟨_, Lib.hid rfl⟩
          rw [Hb9.out] at H9 Hnext
          go_upto_region 17 with fail
          go_cut [88] (fun u88 wx => Hid (IsBad gc wx (says b9 (need wh 1))) ∧ Hid (But gc w5 wx))
          case first =>
            have way : (r.space.toList = [] ∧ r.space.toList.isEmpty = true ∧ r.whole = true ∧ wh = true) ∨ (r.space.toList = [] ∧ r.space.toList.isEmpty = true ∧ r.whole = false ∧ wh = false) ∨ ((!r.space.toList.isEmpty) = true ∧ r.space.toList.isEmpty = false ∧ (r.whole = true ∨ r.whole = false) ∧ wh = true) := by
              have e := Hwh.out
              rw [eqB_empty] at e
              by_cases h0 : r.space.size = 0
              · have h1 := str_none h0
                rw [decide_eq_true h0] at e
                cases h2 : r.whole with
                | true => rw [h2] at e; exact .inl ⟨h1, by rw [h1]; rfl, rfl, e.symm⟩
                | false => rw [h2] at e; exact .inr (.inl ⟨h1, by rw [h1]; rfl, rfl, e.symm⟩)
              · have h1 := str_some h0
                rw [decide_eq_false h0] at e
                exact .inr (.inr ⟨h1, by simpa using h1, (by cases r.whole <;> simp), by rw [← e]; simp⟩)
            obtain ⟨rw', Hrw⟩ : ∃ rw', Hid (r.whole = rw') := ⟨_, Lib.hid rfl⟩
            rw [Hrw.out] at way cc
            rcases way with ⟨p1, p2, rfl, rfl⟩ | ⟨p1, p2, rfl, rfl⟩ | ⟨p1, p2, p3, rfl⟩
            case inr.inr =>
              clear p3
              go_wp2_with fail
              refine (need_any gc _ _ 1 w9 H9.out).mono ?_
              rintro E w2 ⟨rfl, h1, h2⟩
              have Hy1 := Lib.hid h1
              have Hy2 := Lib.hid (K9.out.trans h2)
              clear h1 h2
              go_wp2_with fail
              go_meet
              exact ⟨Hy1, Hy2⟩
            all_goals
              go_wp2_with fail
              refine (need_any gc _ _ 1 w9 H9.out).mono ?_
              rintro E w2 ⟨rfl, h1, h2⟩
              have Hy1 := Lib.hid h1
              have Hy2 := Lib.hid (K9.out.trans h2)
              clear h1 h2
              go_wp2_with fail
              go_meet
              exact ⟨Hy1, Hy2⟩
          case rest =>
          obtain ⟨w10, rfl⟩ : ∃ w10, w10 = wc := ⟨_, rfl⟩
          obtain ⟨H10, K10⟩ := hcut
          clear cc dd
          have cc := fun i => cell_block (K10.out.keep B5.out hne5) i
          have dd := fun i => cell_block (J.out.trans K10.out |>.keep B1.out hne) i
          go_upto_region 18 with fail
          go_cut [100] (fun u100 wx => Hid (IsBad gc wx (says (says b9 (need wh 1)) (need lg 2))) ∧ Hid (But gc w5 wx))
          case first =>
            have way : (decide ((nu : Int) ≤ 6) = false ∧ lg = false) ∨ (decide ((nu : Int) ≤ 6) = true ∧ decide ((ng : Int) ≤ 6) = false ∧ lg = false) ∨ (decide ((nu : Int) ≤ 6) = true ∧ decide ((ng : Int) ≤ 6) = true ∧ lg = true) := by
              have e := Hlg.out
              rw [Hnu.out, Hng.out] at e
              rw [← e]
              simp only [decide_eq_true_eq, decide_eq_false_iff_not, Bool.and_eq_true, Bool.and_eq_false_iff]
              omega
            rcases way with ⟨p1, rfl⟩ | ⟨p1, p2, rfl⟩ | ⟨p1, p2, rfl⟩
            all_goals
              go_wp2_with fail
              refine (need_any gc _ _ 2 w10 H10.out).mono ?_
              rintro E w2 ⟨rfl, h1, h2⟩
              have Hy1 := Lib.hid h1
              have Hy2 := Lib.hid (K10.out.trans h2)
              clear h1 h2
              go_wp2_with fail
              go_meet
              exact ⟨Hy1, Hy2⟩
          case rest =>
          obtain ⟨w11, rfl⟩ : ∃ w11, w11 = wc := ⟨_, rfl⟩
          obtain ⟨H11, K11⟩ := hcut
          clear cc dd
          have cc := fun i => cell_block (K11.out.keep B5.out hne5) i
          have dd := fun i => cell_block (J.out.trans K11.out |>.keep B1.out hne) i
          go_wp2_with fail
          refine (names0_any gc _ _ r.users false w w11 H11.out ((J.out.trans K11.out).below Hb1.out hs1 hgw2) hgw2 Hus.out Hok4.out).mono ?_
          rintro E w12 ⟨rfl, h1, h2⟩
          have H12 := Lib.hid h1
          have K12 := Lib.hid (K11.out.trans h2)
          clear cc dd h1 h2
          have cc := fun i => cell_block (K12.out.keep B5.out hne5) i
          have dd := fun i => cell_block (J.out.trans K12.out |>.keep B1.out hne) i
          go_wp2_with fail
          refine (names0_any gc _ _ r.groups false w w12 H12.out ((J.out.trans K12.out).below Hb1.out hs1 hgw2) hgw2 Hgs.out Hok5.out).mono ?_
          rintro E w13 ⟨rfl, h1, h2⟩
          have H13 := Lib.hid h1
          have K13 := Lib.hid (K12.out.trans h2)
          clear cc dd h1 h2
          have cc := fun i => cell_block (K13.out.keep B5.out hne5) i
          have dd := fun i => cell_block (J.out.trans K13.out |>.keep B1.out hne) i
          have Hlast : Hid (IsBad gc w13 (says b2 (firstBad ((bindsC x.binds).take (i + 1))))) := Lib.hid (by rw [Hnext.out]; exact H13.out)
          have Hbut2 := Lib.hid (J.out.trans K13.out)
          clear cc dd
          go_wp2_with fail
          go_roundg k
          case measure => omega
          case rel => exact ⟨i + 1, by omega, by go_num, Hlast, Hbut2⟩
    | succ k =>
      have hil : i < nr := by omega
      obtain ⟨r, hri⟩ : ∃ r, x.roles[i]? = some r := ⟨x.roles[i]'(by rw [Hnr.out]; omega), List.getElem?_eq_getElem _⟩
      obtain ⟨bk, o, c', hv, _, _, hbs, hcell⟩ := Hr.out.form (by rw [Hnr.out]; omega) (by omega)
      injection hv with u1 u2 u3
      subst u1
      obtain ⟨ds, _, hcc, hR⟩ := hcell i r hri
      obtain ⟨y2, rfl, hrr⟩ := hR
      obtain ⟨a3, c3, rfl, hc3, _⟩ := hrr.len
      have hbw := Hbut.out.below Hb1.out hs1 hgw2
      have e0 : wr.cell? ⟨bk, o + i * 3, none⟩ = some (.string r.space) := (hbw.cell (p := ⟨bk, _, none⟩) hbs).trans (by simpa using hcc 0 _ rfl)
      have e1 : wr.cell? ⟨bk, o + i * 3 + 1, none⟩ = some (.string r.name) := (hbw.cell (p := ⟨bk, _, none⟩) hbs).trans (hcc 1 _ rfl)
      have e2 : wr.cell? ⟨bk, o + i * 3 + 2, none⟩ = some (.slice a3 r.rules.length c3) := (hbw.cell (p := ⟨bk, _, none⟩) hbs).trans (hcc 2 _ rfl)
      have q1 : (0 : Int) ≤ (i : Int) := by omega
      have q2 : (i : Int) < (nr : Int) := by omega
      have q3 : (i : Int) ≤ (c1 : Int) := by omega
      have Hnext : Hid (says (need sm 2) (firstBad ((rolesC x.roles).take (i + 1))) = says (says (need sm 2) (firstBad ((rolesC x.roles).take i))) (roleC (x.roles.take i) r)) := by
        show _ = _
        rw [firstBad_take (e := roleC (x.roles.take i) r) (by unfold rolesC; rw [List.getElem?_mapIdx, hri]; rfl), says_assoc]
      obtain ⟨ok1, ok2, ok3, ok4⟩ := Hokr.out r (List.mem_of_getElem? hri)
      have Hok4 := Lib.hid ok4
      have Hrr := Lib.hid hrr
      have hsw := Hbut.out.size
      have Htk := Lib.hid (Hr.out.take (i := i) (by rw [Hnr.out]; omega))
      have hit : (x.roles.take i).length = i := by rw [List.length_take, Hnr.out]; omega
      have Hit := Lib.hid hit
      clear hcc hcell hri u2 u3 ok4 hrr hbw hit
      have dd := fun i => cell_block (Hbut.out.keep B1.out hne) i
      go_upto_region 6 with fail
      obtain ⟨w5, hw5⟩ : ∃ w5, w5 = wr.alloc (.cells #[.string r.space, .string r.name, .slice a3 r.rules.length c3] 75) := ⟨_, rfl⟩
      obtain ⟨gb, hgb⟩ : ∃ gb, gb = wr.heap.size := ⟨_, rfl⟩
      rw [← hw5, ← hgb]
      have b5 : w5.heap[gb]? = some (.cells #[.string r.space, .string r.name, .slice a3 r.rules.length c3] 75 (0, 0)) := by rw [hw5, hgb]; exact heap_alloc_new wr _
      have hb5 : Below wr.heap.size wr w5 := by rw [hw5]; exact (Below.refl _ _).alloc (Nat.le_refl _) _
      have hlt5 := Hbad.out.lt
      have hne5 : gb ≠ gc := by omega
      have hgs5 : gb < w5.heap.size := by rw [hw5, hgb]; simp
      have H5 := Lib.hid (Hbad.out.below hb5)
      have J := Lib.hid (Hbut.out.trans (But.of hb5))
      have K5 := Lib.hid (But.refl gc w5)
      have B5 := Lib.hid b5
      clear dd hw5 hgb b5 hb5 e0 e1 e2 Hbad
      have cc := fun i => cell_block B5.out i
      have dd := fun i => cell_block (J.out.keep B1.out hne) i
      go_wp2_with fail
      refine (space_any gc _ r.space w5 H5.out (by omega)).mono ?_
      rintro E w6 ⟨rfl, h1, h2⟩
      have H6 := Lib.hid h1
      have K6 := Lib.hid (K5.out.trans h2)
      clear cc dd h1 h2
      have cc := fun i => cell_block (K6.out.keep B5.out hne5) i
      have dd := fun i => cell_block (J.out.trans K6.out |>.keep B1.out hne) i
      go_wp2_with fail
      refine (check_any r.name w6 (by omega)).mono ?_
      rintro E w7 ⟨rfl, rfl⟩
      obtain ⟨cn, Hcn⟩ : ∃ cn, Hid (NameP.check r.name.data.toList = cn) := ⟨_, Lib.hid rfl⟩
      rw [Hcn.out]
      go_wp2_with fail
      refine (says_any gc _ cn w6 H6.out).mono ?_
      rintro E w7 ⟨rfl, h1, h2⟩
      have H7 := Lib.hid h1
      have K7 := Lib.hid (K6.out.trans h2)
      clear cc dd h1 h2
      have cc := fun i => cell_block (K7.out.keep B5.out hne5) i
      have dd := fun i => cell_block (J.out.trans K7.out |>.keep B1.out hne) i
      have hJ7 := J.out.trans K7.out
      have Hrow7 := Lib.hid (Htk.out.below stays_role (hJ7.below Hb1.out hs1 hgw2))
      have Hcap7 : Hid (CapRole gb r w7) := Lib.hid ⟨_, K7.out.keep B5.out hne5⟩
      obtain ⟨tw, Htw⟩ : ∃ tw, Hid ((x.roles.take i).any (fun q => sameRole q r) = tw) := ⟨_, Lib.hid rfl⟩
      clear hJ7
      go_wp2_with fail
      refine (anyRole_any (f := 62) (cap := .pointer (some ⟨gb, 0, none⟩)) (Cap := CapRole gb r) (p := fun q => sameRole q r) (run_callFunc_body Tryd.func62 (by kernel_rfl) (by kernel_rfl)) (capRole_keep gb r) (OK := fun _ => True) (fun q y2 w hq _ hc => cloRole_any gb r q y2 w hq hc) _ (x.roles.take i) w7 Hrow7.out (by rw [Hit.out]; omega) (fun _ _ => trivial) Hcap7.out).mono ?_
      rw [Htw.out]
      rintro E w8 ⟨rfl, hb8⟩
      have H8 := Lib.hid (H7.out.below hb8)
      have K8 := Lib.hid (K7.out.trans (But.of hb8))
      clear cc dd hb8 Hcap7 Hrow7
      have cc := fun i => cell_block (K8.out.keep B5.out hne5) i
      have dd := fun i => cell_block (J.out.trans K8.out |>.keep B1.out hne) i
      go_wp2_with fail
      refine (need_any gc _ (!tw) 5 w8 H8.out).mono ?_
      rintro E w9 ⟨rfl, h1, h2⟩
      have H9 := Lib.hid h1
      have K9 := Lib.hid (K8.out.trans h2)
      clear cc dd h1 h2
      have cc := fun i => cell_block (K9.out.keep B5.out hne5) i
      have dd := fun i => cell_block (J.out.trans K9.out |>.keep B1.out hne) i
      go_wp2_with fail
      refine (rules_any gc _ _ r.rules w w9 H9.out ((J.out.trans K9.out).below Hb1.out hs1 hgw2) hgw2 Hrr.out ok3 Hok4.out).mono ?_
      rintro E w10 ⟨rfl, h1, h2⟩
      have H10 := Lib.hid h1
      have K10 := Lib.hid (K9.out.trans h2)
      clear cc dd h1 h2
      have cc := fun i => cell_block (K10.out.keep B5.out hne5) i
      have dd := fun i => cell_block (J.out.trans K10.out |>.keep B1.out hne) i
      have Hlast : Hid (IsBad gc w10 (says (need sm 2) (firstBad ((rolesC x.roles).take (i + 1))))) := by
        have h9 := H10.out
        refine Lib.hid ?_
        rw [Hnext.out]
        unfold roleC
        rw [Htw.out, Hcn.out]
        simpa only [says_assoc] using h9
      have Hbut2 := Lib.hid (J.out.trans K10.out)
      clear cc dd
      go_wp2_with fail
      go_roundg k
      case measure => omega
      case rel => exact ⟨i + 1, by omega, by go_num, Hlast, Hbut2⟩
end Go.Proofs.YtkkfnihdnclgiaaDoor
