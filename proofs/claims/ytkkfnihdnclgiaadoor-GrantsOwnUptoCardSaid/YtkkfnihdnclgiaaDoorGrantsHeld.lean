/- grants: check, has, allows, Allows, isFor: their contracts. -/
import Derived.Test.YtkkfnihdnclgiaaDoorGrantsCheck
namespace Go.Proofs.YtkkfnihdnclgiaaDoor
open Go.RowKit

def okUser (u : GUser) : Prop := u.name.size ≤ 1048576 ∧ okS u.groups
set_option maxRecDepth 100000 in
set_option maxHeartbeats 800000 in
theorem check3_any (yr yb yg : Value) (x : GGrants) (u : GUser) (s : ByteArray) (w : World) (h : GrantsR w [yr, yb] x) (hu : UserR w [.string u.name, yg] u) (hok : okGrants x) (hok2 : okUser u) (hs : s.size ≤ 1048576) :
    Calls Tryd.prog 28 #[.agg #[yr, yb], .agg #[.string u.name, yg], .string s] w fun e w' => e = .returned (.int .i64 (codeC x u s)) ∧ Below w.heap.size w w' := by
  have H := Lib.hid h
  have HU := Lib.hid hu
  obtain ⟨_, _, hcs, hr, hb⟩ := h
  simp only [List.cons.injEq, and_true] at hcs
  obtain ⟨rfl, rfl⟩ := hcs
  obtain ⟨a1, c1, rfl, hc1, _⟩ := hr.len
  obtain ⟨a2, c2, rfl, hc2, _⟩ := hb.len
  obtain ⟨_, hcs, hg⟩ := hu
  simp only [List.cons.injEq, and_true, true_and] at hcs
  obtain rfl := hcs
  obtain ⟨a3, c3, rfl, hc3, _⟩ := hg.row.len
  have Hok := Lib.hid hok
  have Hok2 := Lib.hid hok2
  obtain ⟨nr, Hnr⟩ : ∃ n, Hid (x.roles.length = n) := ⟨_, Lib.hid rfl⟩
  obtain ⟨nb, Hnb⟩ : ∃ n, Hid (x.binds.length = n) := ⟨_, Lib.hid rfl⟩
  obtain ⟨ng, Hng⟩ : ∃ n, Hid (u.groups.length = n) := ⟨_, Lib.hid rfl⟩
  obtain ⟨R, HR⟩ : ∃ R, Hid (codeC x u s = R) := ⟨_, Lib.hid rfl⟩
  have Hres : Hid (says (says (grantsC x) (userC u)) (spaceC s) = R) := by show _ = _; rw [← HR.out, says_assoc]; rfl
  rw [HR.out]
  rw [Hnr.out] at H hc1 ⊢
  rw [Hnb.out] at H hc2 ⊢
  rw [Hng.out] at HU hc3 ⊢
  clear hr hb hg hok hok2
  go_enter Tryd.func28, Tryd.ntmps28
  go_upto_region 2 with fail
  obtain ⟨w1, hw1⟩ : ∃ w1, w1 = ((w.alloc (.cells #[.slice a1 nr c1, .slice a2 nb c2] 37)).alloc (.cells #[.string u.name, .slice a3 ng c3] 39)).alloc (.cells #[.int .i64 0] 69) := ⟨_, rfl⟩
  obtain ⟨gc, hgc⟩ : ∃ gc, gc = w.heap.size + 2 := ⟨_, rfl⟩
  obtain ⟨gu, hgu⟩ : ∃ gu, gu = w.heap.size + 1 := ⟨_, rfl⟩
  obtain ⟨gx, hgx⟩ : ∃ gx, gx = w.heap.size := ⟨_, rfl⟩
  rw [← hw1]
  try rw [← hgc]
  try rw [← hgu]
  rw [← hgx]
  have b1 : w1.heap[gx]? = some (.cells #[.slice a1 nr c1, .slice a2 nb c2] 37 (0, 0)) := by
    rw [hw1, hgx]
    exact below_block ((Below.refl _ _).alloc (Nat.le_refl _) _) (below_block ((Below.refl _ _).alloc (Nat.le_refl _) _) (heap_alloc_new w _))
  have b2 : w1.heap[gu]? = some (.cells #[.string u.name, .slice a3 ng c3] 39 (0, 0)) := by
    rw [hw1, hgu]
    have h9 := heap_alloc_new (w.alloc (.cells #[.slice a1 nr c1, .slice a2 nb c2] 37)) (.cells #[.string u.name, .slice a3 ng c3] 39)
    exact below_block ((Below.refl _ _).alloc (Nat.le_refl _) _) (by simpa using h9)
  have h1 : IsBad gc w1 0 := by
    have h9 := heap_alloc_new ((w.alloc (.cells #[.slice a1 nr c1, .slice a2 nb c2] 37)).alloc (.cells #[.string u.name, .slice a3 ng c3] 39)) (.cells #[.int .i64 0] 69)
    rw [hw1, hgc]
    simpa [IsBad] using h9
  have hb1 : Below w.heap.size w w1 := by rw [hw1]; exact (((Below.refl _ _).alloc (Nat.le_refl _) _).alloc (by simp) _).alloc (by simp; omega) _
  have hne : gx ≠ gc := by omega
  have hne2 : gu ≠ gc := by omega
  have hgw2 : w.heap.size ≤ gc := by omega
  have hs1 := hb1.size
  have Hb1 := Lib.hid hb1
  have H1 := Lib.hid h1
  have B1 := Lib.hid b1
  have B2 := Lib.hid b2
  have cc := fun i => cell_block b1 i
  have dd := fun i => cell_block b2 i
  clear hw1 hgc hgu hgx b1 b2 h1 hb1
  go_wp2_with fail
  refine (grantsCheck_any _ _ x w1 (stays_grants _ _ _ _ (keeps_below Hb1.out) H.out) Hok.out).mono ?_
  rintro E w2 ⟨rfl, hb2⟩
  obtain ⟨cg, Hcg⟩ : ∃ cg, Hid (grantsC x = cg) := ⟨_, Lib.hid rfl⟩
  rw [Hcg.out]
  rw [Hcg.out] at Hres
  have K2 := Lib.hid (But.of (g := gc) hb2)
  have H2 := Lib.hid (H1.out.below hb2)
  clear cc dd hb2
  have cc := fun i => cell_block (K2.out.keep B1.out hne) i
  have dd := fun i => cell_block (K2.out.keep B2.out hne2) i
  go_wp2_with fail
  refine (says_any gc 0 cg w2 H2.out).mono ?_
  rintro E w3 ⟨rfl, h1, h2⟩
  rw [zero_says] at h1
  have H3 := Lib.hid h1
  have K3 := Lib.hid (K2.out.trans h2)
  have hb3 := Lib.hid (K3.out.below Hb1.out hs1 hgw2)
  clear cc dd h1 h2
  have cc := fun i => cell_block (K3.out.keep B1.out hne) i
  have dd := fun i => cell_block (K3.out.keep B2.out hne2) i
  go_wp2_with fail
  refine (user_any _ u w3 (stays_user _ _ _ _ (keeps_below hb3.out) HU.out) Hok2.out.1 Hok2.out.2).mono ?_
  rintro E w4 ⟨rfl, hb4⟩
  obtain ⟨cu, Hcu⟩ : ∃ cu, Hid (userC u = cu) := ⟨_, Lib.hid rfl⟩
  rw [Hcu.out]
  rw [Hcu.out] at Hres
  have K4 := Lib.hid (K3.out.trans (But.of (g := gc) hb4))
  have H4 := Lib.hid (H3.out.below hb4)
  clear cc dd hb4
  go_wp2_with fail
  refine (says_any gc cg cu w4 H4.out).mono ?_
  rintro E w5 ⟨rfl, h1, h2⟩
  have H5 := Lib.hid h1
  have K5 := Lib.hid (K4.out.trans h2)
  clear h1 h2
  go_wp2_with fail
  refine (space_any gc _ s w5 H5.out (by omega)).mono ?_
  rintro E w6 ⟨rfl, h1, h2⟩
  rw [Hres.out] at h1
  have K6 := Lib.hid (K5.out.trans h2)
  have c6 : w6.cell? ⟨gc, 0, none⟩ = some (.int .i64 R) := cell_block h1 0
  clear h1 h2 H5 H4 H3 H2
  go_wp2_with fail
  go_ret
  exact ⟨rfl, K6.out.below Hb1.out hs1 hgw2⟩
theorem has_any (v : Value) (l : List ByteArray) (s : ByteArray) (w : World) (h : StrAt w v l) (hl : l.length ≤ 1073741824) : Calls Tryd.prog 48 #[v, .string s] w fun e w' => e = .returned (.bool (hasL l s)) ∧ w = w' := by
  obtain ⟨p, Hp⟩ : ∃ p, Hid (Lib.containsS l s = p) := ⟨_, Lib.hid rfl⟩
  obtain ⟨q, Hq⟩ : ∃ q, Hid (Lib.containsS l starB = q) := ⟨_, Lib.hid rfl⟩
  have Hr : Hid (hasL l s = (p || q)) := by show _ = _; unfold hasL; rw [Hp.out, Hq.out]
  have hst : starB = ⟨#[42]⟩ := by decide +kernel
  have H := Lib.hid h
  rw [Hr.out]
  rw [hst] at Hq
  clear h hst
  cases p with
  | true =>
    go_enter Tryd.func48, Tryd.ntmps48
    go_wp2_with fail
    refine (contains_any v l s w H.out hl).mono ?_
    rw [Hp.out]
    rintro E w1 ⟨rfl, rfl⟩
    go_wp2_with fail
    go_ret
    exact ⟨rfl, rfl⟩
  | false =>
    go_enter Tryd.func48, Tryd.ntmps48
    go_wp2_with fail
    refine (contains_any v l s w H.out hl).mono ?_
    rw [Hp.out]
    rintro E w1 ⟨rfl, rfl⟩
    go_wp2_with fail
    refine (contains_any v l _ w H.out hl).mono ?_
    rw [Hq.out]
    rintro E w1 ⟨rfl, rfl⟩
    go_wp2_with fail
    go_ret
    exact ⟨by simp, rfl⟩
def askV (a : GAsk) : Value := .agg #[.string a.verb, .string a.kind, .string a.space, .string a.name]
set_option maxRecDepth 100000 in
set_option maxHeartbeats 800000 in
theorem allows_any (y0 y1 y2 : Value) (r : GRule) (a : GAsk) (w : World) (hr : RuleR w [y0, y1, y2] r) (hok : okRule r) :
    Calls Tryd.prog 27 #[.agg #[y0, y1, y2], .agg #[.string a.verb, .string a.kind, .string a.space, .string a.name]] w fun e w' => e = .returned (.bool (allowsR a r)) ∧ Below w.heap.size w w' := by
  obtain ⟨_, _, _, hcs, s0, s1, s2⟩ := hr
  simp only [List.cons.injEq, and_true] at hcs
  obtain ⟨rfl, rfl, rfl⟩ := hcs
  obtain ⟨a0, c0, rfl, _, _⟩ := s0.row.len
  obtain ⟨a1, c1, rfl, _, _⟩ := s1.row.len
  obtain ⟨a2, c2, rfl, _, _⟩ := s2.row.len
  have S0 := Lib.hid s0
  have S1 := Lib.hid s1
  have S2 := Lib.hid s2
  obtain ⟨⟨o0, _⟩, ⟨o1, _⟩, ⟨o2, _⟩⟩ := hok
  obtain ⟨nv, Hnv⟩ : ∃ n, Hid (r.verbs.length = n) := ⟨_, Lib.hid rfl⟩
  obtain ⟨nk, Hnk⟩ : ∃ n, Hid (r.kinds.length = n) := ⟨_, Lib.hid rfl⟩
  obtain ⟨nn, Hnn⟩ : ∃ n, Hid (r.names.length = n) := ⟨_, Lib.hid rfl⟩
  obtain ⟨p, Hp⟩ : ∃ p, Hid (hasL r.verbs a.verb = p) := ⟨_, Lib.hid rfl⟩
  obtain ⟨q, Hq⟩ : ∃ q, Hid (hasL r.kinds a.kind = q) := ⟨_, Lib.hid rfl⟩
  obtain ⟨t, Ht⟩ : ∃ t, Hid (Lib.containsS r.names a.name = t) := ⟨_, Lib.hid rfl⟩
  have Hr : Hid (allowsR a r = (p && (q && (decide (nn = 0) || (!eqB a.name ByteArray.empty && t))))) := by show _ = _; unfold allowsR; rw [Hp.out, Hq.out, Ht.out, Hnn.out]
  rw [Hr.out]
  rw [eqB_empty]
  rw [Hnv.out] at S0 ⊢
  rw [Hnk.out] at S1 ⊢
  rw [Hnn.out] at S2 ⊢
  obtain ⟨w1, hw1⟩ : ∃ w1, w1 = (w.alloc (.cells #[.slice a0 nv c0, .slice a1 nk c1, .slice a2 nn c2] 25)).alloc (.cells #[.string a.verb, .string a.kind, .string a.space, .string a.name] 27) := ⟨_, rfl⟩
  obtain ⟨ga, hga⟩ : ∃ ga, ga = w.heap.size + 1 := ⟨_, rfl⟩
  obtain ⟨gr, hgr⟩ : ∃ gr, gr = w.heap.size := ⟨_, rfl⟩
  have b1 : w1.heap[gr]? = some (.cells #[.slice a0 nv c0, .slice a1 nk c1, .slice a2 nn c2] 25 (0, 0)) := by
    rw [hw1, hgr]
    exact below_block ((Below.refl _ _).alloc (Nat.le_refl _) _) (heap_alloc_new w _)
  have b2 : w1.heap[ga]? = some (.cells #[.string a.verb, .string a.kind, .string a.space, .string a.name] 27 (0, 0)) := by
    have h9 := heap_alloc_new (w.alloc (.cells #[.slice a0 nv c0, .slice a1 nk c1, .slice a2 nn c2] 25)) (.cells #[.string a.verb, .string a.kind, .string a.space, .string a.name] 27)
    rw [hw1, hga]
    simpa using h9
  have hb1 : Below w.heap.size w w1 := by rw [hw1]; exact ((Below.refl _ _).alloc (Nat.le_refl _) _).alloc (by simp) _
  have Hb1 := Lib.hid hb1
  have S0' := Lib.hid (S0.out.below' hb1)
  have S1' := Lib.hid (S1.out.below' hb1)
  have S2' := Lib.hid (S2.out.below' hb1)
  have cc := fun i => cell_block b1 i
  have dd := fun i => cell_block b2 i
  clear s0 s1 s2 b1 b2 hb1 Hr
  cases p with
  | false =>
    go_enter Tryd.func27, Tryd.ntmps27
    go_upto_region 1 with fail
    rw [← hw1]
    try rw [← hga]
    rw [← hgr]
    clear hw1 hga hgr
    go_wp2_with fail
    refine (has_any _ r.verbs a.verb w1 S0'.out (by rw [Hnv.out] at o0; rw [Hnv.out]; omega)).mono ?_
    rw [Hp.out]
    rintro E w2 ⟨rfl, rfl⟩
    go_wp2_with fail
    go_ret
    exact ⟨rfl, Hb1.out⟩
  | true =>
    cases q with
    | false =>
      go_enter Tryd.func27, Tryd.ntmps27
      go_upto_region 1 with fail
      rw [← hw1]
      try rw [← hga]
      rw [← hgr]
      clear hw1 hga hgr
      go_wp2_with fail
      refine (has_any _ r.verbs a.verb w1 S0'.out (by omega)).mono ?_
      rw [Hp.out]
      rintro E w2 ⟨rfl, rfl⟩
      go_wp2_with fail
      refine (has_any _ r.kinds a.kind w1 S1'.out (by omega)).mono ?_
      rw [Hq.out]
      rintro E w2 ⟨rfl, rfl⟩
      go_wp2_with fail
      go_ret
      exact ⟨rfl, Hb1.out⟩
    | true =>
      by_cases h0 : nn = 0
      · subst h0
        go_enter Tryd.func27, Tryd.ntmps27
        go_upto_region 1 with fail
        rw [← hw1]
        try rw [← hga]
        rw [← hgr]
        clear hw1 hga hgr
        go_wp2_with fail
        refine (has_any _ r.verbs a.verb w1 S0'.out (by omega)).mono ?_
        rw [Hp.out]
        rintro E w2 ⟨rfl, rfl⟩
        go_wp2_with fail
        refine (has_any _ r.kinds a.kind w1 S1'.out (by omega)).mono ?_
        rw [Hq.out]
        rintro E w2 ⟨rfl, rfl⟩
        go_wp2_with fail
        go_ret
        exact ⟨rfl, Hb1.out⟩
      · have e0 : decide (nn = 0) = false := decide_eq_false h0
        have e1 : ((nn : Int) == 0) = false := by rw [beq_eq_false_iff_ne]; omega
        have Hz := Lib.hid h0
        rw [e0]
        clear h0 e0
        by_cases hn : a.name.size = 0
        · have p1 := str_none hn
          have p2 : a.name.toList.isEmpty = true := by rw [p1]; rfl
          rw [decide_eq_true hn]
          clear hn
          go_enter Tryd.func27, Tryd.ntmps27
          go_upto_region 1 with fail
          rw [← hw1]
          try rw [← hga]
          rw [← hgr]
          clear hw1 hga hgr
          go_wp2_with fail
          refine (has_any _ r.verbs a.verb w1 S0'.out (by omega)).mono ?_
          rw [Hp.out]
          rintro E w2 ⟨rfl, rfl⟩
          go_wp2_with fail
          refine (has_any _ r.kinds a.kind w1 S1'.out (by omega)).mono ?_
          rw [Hq.out]
          rintro E w2 ⟨rfl, rfl⟩
          go_wp2_with fail
          go_ret
          exact ⟨rfl, Hb1.out⟩
        · have p1 := str_some hn
          have p2 : a.name.toList.isEmpty = false := by simpa using p1
          rw [decide_eq_false hn]
          clear hn
          go_enter Tryd.func27, Tryd.ntmps27
          go_upto_region 1 with fail
          rw [← hw1]
          try rw [← hga]
          rw [← hgr]
          clear hw1 hga hgr
          go_wp2_with fail
          refine (has_any _ r.verbs a.verb w1 S0'.out (by omega)).mono ?_
          rw [Hp.out]
          rintro E w2 ⟨rfl, rfl⟩
          go_wp2_with fail
          refine (has_any _ r.kinds a.kind w1 S1'.out (by omega)).mono ?_
          rw [Hq.out]
          rintro E w2 ⟨rfl, rfl⟩
          go_wp2_with fail
          refine (contains_any _ r.names a.name w1 S2'.out (by omega)).mono ?_
          rw [Ht.out]
          rintro E w2 ⟨rfl, rfl⟩
          go_wp2_with fail
          go_ret
          exact ⟨by simp, Hb1.out⟩
end Go.Proofs.YtkkfnihdnclgiaaDoor
