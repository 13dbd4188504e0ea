/- The walk of the law GrantsWide: what is held in all spaces is held in each. -/
import Derived.Test.YtkkfnihdnclgiaaGrantsNobodyWalk
namespace Go.Proofs.Ytkkfnihdnclgiaa
open Go.RowKit

theorem bindOn_wide {u : GUser} {s : ByteArray} {b : GBind} (h : bindOn u ByteArray.empty b = true) : bindOn u s b = true := by
  unfold bindOn at h ⊢
  rw [Bool.or_self, Bool.and_eq_true] at h
  rw [h.1, h.2]; rfl
theorem held_wide (x : GGrants) (u : GUser) (s : ByteArray) : (∀ r ∈ heldL x u ByteArray.empty, r ∈ heldL x u s) ∧ (heldL x u ByteArray.empty).length ≤ (heldL x u s).length := by
  unfold heldL
  have key : ∀ b, bindRules x u ByteArray.empty b = [] ∨ bindRules x u ByteArray.empty b = bindRules x u s b := fun b => by
    unfold bindRules
    cases h : bindOn u ByteArray.empty b with
    | false => left; rfl
    | true => right; rw [bindOn_wide h]
  constructor
  · intro r hr
    obtain ⟨b, hb, hr⟩ := List.mem_flatMap.1 hr
    rcases key b with h | h
    · rw [h] at hr; cases hr
    · rw [h] at hr; exact List.mem_flatMap.2 ⟨b, hb, hr⟩
  · induction x.binds with
    | nil => simp
    | cons b r ih =>
      rw [List.flatMap_cons, List.flatMap_cons, List.length_append, List.length_append]
      rcases key b with h | h
      · rw [h]; simp only [List.length_nil]; omega
      · rw [h]; omega
theorem allows_space {a b : GAsk} (h1 : a.verb = b.verb) (h2 : a.kind = b.kind) (h3 : a.name = b.name) (l : List GRule) : allowsL l a = allowsL l b := by
  unfold allowsL
  congr 1
  funext r
  unfold allowsR
  rw [h1, h2, h3]
theorem heldP_zero {x : GGrants} {u : GUser} {s : ByteArray} (h : codeC x u s = 0) : heldP x u s = (0, heldL x u s) := by unfold heldP; rw [if_neg (by rw [h]; simp)]
/-- what the law asks, in plain words -/
theorem wide_plain {x : GGrants} {u : GUser} {a a0 : GAsk} (h1 : a0.verb = a.verb) (h2 : a0.kind = a.kind) (h3 : a0.space = ByteArray.empty) (h4 : a0.name = a.name) (he : mayE x u a0 = 0) (hf : mayE x u a = 0) :
    heldP x u ByteArray.empty = (0, heldL x u ByteArray.empty) ∧ heldP x u a.space = (0, heldL x u a.space) ∧ (heldL x u ByteArray.empty).length ≤ (heldL x u a.space).length ∧ mayP x u a = allowsL (heldL x u a.space) a ∧ mayP x u a0 = allowsL (heldL x u ByteArray.empty) a0 ∧ (mayP x u a0 = true → mayP x u a = true) := by
  have he' := he
  have hf' := hf
  unfold mayE codeC at he hf
  unfold askC at hf
  simp only [says_eq_zero] at he hf
  have c0 : codeC x u ByteArray.empty = 0 := by unfold codeC; simp only [says_eq_zero]; exact he.1
  have c1 : codeC x u a.space = 0 := by unfold codeC; simp only [says_eq_zero]; exact ⟨he.1.1, he.1.2.1, hf.2.2.1⟩
  have m0 : mayP x u a0 = allowsL (heldL x u ByteArray.empty) a0 := by unfold mayP; rw [he', h3]; simp
  have m1 : mayP x u a = allowsL (heldL x u a.space) a := by unfold mayP; rw [hf']; simp
  obtain ⟨hw1, hw2⟩ := held_wide x u a.space
  refine ⟨heldP_zero c0, heldP_zero c1, hw2, m1, m0, fun h => ?_⟩
  rw [m0, allows_space h1 h2 h4] at h
  rw [m1]
  unfold allowsL at h ⊢
  rw [List.any_eq_true] at h ⊢
  obtain ⟨r, hr, ha⟩ := h
  exact ⟨r, hw1 r hr, ha⟩
set_option maxRecDepth 100000 in
set_option maxHeartbeats 1600000 in
theorem grantsWide_walk (cs0 : Array Value) (x : GGrants) (cs1 : Array Value) (u : GUser) (cs2 : Array Value) (a : GAsk) (w : World) (h0 : GrantsR w cs0.toList x) (h1 : UserR w cs1.toList u) (h2 : AskR w cs2.toList a)
    (hbulk : grantsB x + (userB u + (askB a + 0)) ≤ 1048576) :
    Calls Try.prog 6 #[.agg cs0, .agg cs1, .agg cs2] w fun e w' => e = .returned (.bool true) ∧ Below w.heap.size w w' := by
  have hok := okGrants_of (x := x) (by omega)
  have hok2 := okUser_of (u := u) (by omega)
  have hoka := okAsk_of (a := a) (by omega)
  have g0 := h0
  have g1 := h1
  obtain ⟨vr, vb, e0, hr, hb⟩ := h0
  obtain ⟨vg, e1, hg⟩ := h1
  have e2 : cs2 = #[.string a.verb, .string a.kind, .string a.space, .string a.name] := Array.toList_inj.1 h2
  have e0' : cs0 = #[vr, vb] := Array.toList_inj.1 e0
  have e1' : cs1 = #[.string u.name, vg] := Array.toList_inj.1 e1
  subst e0' e1' e2
  obtain ⟨a1, c1, rfl, hc1, _⟩ := hr.len
  obtain ⟨a2, c2, rfl, hc2, _⟩ := hb.len
  obtain ⟨a3, c3, rfl, hc3, _⟩ := hg.row.len
  have H : Hid (GrantsR w [.slice a1 x.roles.length c1, .slice a2 x.binds.length c2] x) := Lib.hid g0
  have HU : Hid (UserR w [.string u.name, .slice a3 u.groups.length c3] u) := Lib.hid g1
  have Hb := Lib.hid hb
  have Hg := Lib.hid hg.row
  have Hok := Lib.hid hok
  have Hok2 := Lib.hid hok2
  have Hoka := Lib.hid hoka
  obtain ⟨nr, Hnr⟩ : ∃ n, Hid (x.roles.length = n) := ⟨_, Lib.hid rfl⟩
  obtain ⟨nb, Hnb⟩ : ∃ n, Hid (x.binds.length = n) := ⟨_, Lib.hid rfl⟩
  obtain ⟨ng, Hng⟩ : ∃ n, Hid (u.groups.length = n) := ⟨_, Lib.hid rfl⟩
  obtain ⟨a0, ha0⟩ : ∃ a0 : GAsk, a0 = ⟨a.verb, a.kind, ByteArray.empty, a.name⟩ := ⟨_, rfl⟩
  have Hz : Hid (a0.verb = a.verb ∧ a0.kind = a.kind ∧ a0.space = ByteArray.empty ∧ a0.name = a.name) := Lib.hid (by rw [ha0]; exact ⟨rfl, rfl, rfl, rfl⟩)
  have Hok0 : Hid (okAsk a0) := Lib.hid (by rw [ha0]; exact ⟨hoka.1, hoka.2.1, by show 0 ≤ _; omega, hoka.2.2.2⟩)
  clear ha0
  obtain ⟨p, Hp⟩ : ∃ p, Hid (mayP x u a0 = p) := ⟨_, Lib.hid rfl⟩
  obtain ⟨e, He⟩ : ∃ e, Hid (mayE x u a0 = e) := ⟨_, Lib.hid rfl⟩
  obtain ⟨q, Hq⟩ : ∃ q, Hid (mayP x u a = q) := ⟨_, Lib.hid rfl⟩
  obtain ⟨f, Hf⟩ : ∃ f, Hid (mayE x u a = f) := ⟨_, Lib.hid rfl⟩
  obtain ⟨r1, L1, Hh1⟩ : ∃ r1 L1, Hid (heldP x u ByteArray.empty = (r1, L1)) := ⟨_, _, Lib.hid rfl⟩
  obtain ⟨r2, L2, Hh2⟩ : ∃ r2 L2, Hid (heldP x u a.space = (r2, L2)) := ⟨_, _, Lib.hid rfl⟩
  rw [Hnr.out] at H hc1 ⊢
  rw [Hnb.out] at H hc2 Hb ⊢
  rw [Hng.out] at HU hc3 Hg ⊢
  have hnbL : nb ≤ 1048576 := by rw [← Hnb.out]; exact Hok.out.2.2.1
  have hngL : ng ≤ 1048576 := by rw [← Hng.out]; exact Hok2.out.2.1
  obtain ⟨w1, hw1⟩ : ∃ w1, w1 = ((w.alloc (.cells #[.slice a1 nr c1, .slice a2 nb c2] 40)).alloc (.cells #[.string u.name, .slice a3 ng c3] 48)).alloc (.cells #[.string a.verb, .string a.kind, .string a.space, .string a.name] 50) := ⟨_, rfl⟩
  obtain ⟨ga, hga⟩ : ∃ ga, ga = w.heap.size + 2 := ⟨_, rfl⟩
  obtain ⟨gu, hgu⟩ : ∃ gu, gu = w.heap.size + 1 := ⟨_, rfl⟩
  obtain ⟨gx, hgx⟩ : ∃ gx, gx = w.heap.size := ⟨_, rfl⟩
  have b1 : w1.heap[gx]? = some (.cells #[.slice a1 nr c1, .slice a2 nb c2] 40 (0, 0)) := by
    rw [hw1, hgx]
    exact below_block ((Below.refl _ _).alloc (Nat.le_refl _) _) (below_block ((Below.refl _ _).alloc (Nat.le_refl _) _) (heap_alloc_new w _))
  have b2 : w1.heap[gu]? = some (.cells #[.string u.name, .slice a3 ng c3] 48 (0, 0)) := by
    rw [hw1, hgu]
    have h9 := heap_alloc_new (w.alloc (.cells #[.slice a1 nr c1, .slice a2 nb c2] 40)) (.cells #[.string u.name, .slice a3 ng c3] 48)
    exact below_block ((Below.refl _ _).alloc (Nat.le_refl _) _) (by simpa using h9)
  have b3 : w1.heap[ga]? = some (.cells #[.string a.verb, .string a.kind, .string a.space, .string a.name] 50 (0, 0)) := by
    have h9 := heap_alloc_new ((w.alloc (.cells #[.slice a1 nr c1, .slice a2 nb c2] 40)).alloc (.cells #[.string u.name, .slice a3 ng c3] 48)) (.cells #[.string a.verb, .string a.kind, .string a.space, .string a.name] 50)
    rw [hw1, hga]
    simpa using h9
  have hb1 : Below w.heap.size w w1 := by rw [hw1]; exact (((Below.refl _ _).alloc (Nat.le_refl _) _).alloc (by simp) _).alloc (by simp; omega) _
  have hs1 := hb1.size
  have hlx : gx < w1.heap.size := by rw [hw1, hgx]; simp <;> omega
  have hlu : gu < w1.heap.size := by rw [hw1, hgu]; simp <;> omega
  have hla : ga < w1.heap.size := by rw [hw1, hga]; simp
  have Hb1 := Lib.hid hb1
  have B1 := Lib.hid b1
  have B2 := Lib.hid b2
  have B3 := Lib.hid b3
  have cc := fun i => cell_block b1 i
  have dd := fun i => cell_block b2 i
  have ee := fun i => cell_block b3 i
  have Hw1 := Lib.hid hw1
  have Hga := Lib.hid hga
  have Hgu := Lib.hid hgu
  have Hgx := Lib.hid hgx
  clear hr hb hg hok hok2 hoka b1 b2 b3 hb1 hw1 hga hgu hgx g0 g1 h2 e0 e1 hbulk
  go_enter Try.func6, Try.ntmps6
  go_upto_region 1 with fail
  rw [← Hw1.out]
  try rw [← Hga.out]
  try rw [← Hgu.out]
  rw [← Hgx.out]
  clear Hw1 Hga Hgu Hgx
  go_upto_region 2 with fail
  obtain ⟨w2, hw2⟩ : ∃ w2, w2 = w1.alloc (.cells #[.string a.verb, .string a.kind, .string a.space, .string a.name] 50) := ⟨_, rfl⟩
  obtain ⟨gn, hgn⟩ : ∃ gn, gn = w1.heap.size := ⟨_, rfl⟩
  rw [← hw2, ← hgn]
  have b4 : w2.heap[gn]? = some (.cells #[.string a.verb, .string a.kind, .string a.space, .string a.name] 50 (0, 0)) := by rw [hw2, hgn]; exact heap_alloc_new w1 _
  have hb2 : Below w1.heap.size w1 w2 := by rw [hw2]; exact (Below.refl _ _).alloc (Nat.le_refl _) _
  have hln : gn < w2.heap.size := by rw [hw2, hgn]; simp
  have hgn2 : w1.heap.size ≤ gn := by omega
  have zz := fun i => cell_block b4 i
  have zf := fun i => free_block b4 i
  have B4 := Lib.hid b4
  have Hb2 := Lib.hid hb2
  clear hw2 hgn b4 hb2 cc dd ee
  go_upto_region 3 with fail
  obtain ⟨w3, hw3⟩ : ∃ w3, w3 = w2.setCell ⟨gn, 2, none⟩ (.string ⟨#[]⟩) := ⟨_, rfl⟩
  rw [← hw3]
  obtain ⟨t1, t2⟩ := touch_setCell (i := 2) (v := .string ⟨#[]⟩) B4.out
  rw [← hw3] at t1 t2
  obtain ⟨z1, z2, z3, z4⟩ := Hz.out
  have b5 : w3.heap[gn]? = some (.cells #[.string a0.verb, .string a0.kind, .string a0.space, .string a0.name] 50 (0, 0)) := by rw [t1, z1, z2, z3, z4]; rfl
  have Hb3 := Lib.hid (t2.below Hb2.out hgn2)
  have hs3 := Hb3.out.size
  have hln3 : gn < w3.heap.size := by rw [t2.size]; exact hln
  have B5 := Lib.hid b5
  clear hw3 t1 t2 z1 z2 z3 z4 b5 zz zf B4 Hb2 hln
  have Hbw3 := Lib.hid (Hb1.out.trans (Hb3.out.mono hs1))
  have cc := fun i => cell_block ((Hb3.out.block gx hlx).trans B1.out) i
  have dd := fun i => cell_block ((Hb3.out.block gu hlu).trans B2.out) i
  have zz := fun i => cell_block B5.out i
  go_wp2_with fail
  refine (may_any _ _ _ x u a0 w3 (stays_grants _ _ _ _ (keeps_below Hbw3.out) H.out) (stays_user _ _ _ _ (keeps_below Hbw3.out) HU.out) Hok.out Hok2.out Hok0.out).mono ?_
  rw [Hp.out, He.out]
  rintro E w4 ⟨rfl, hb4⟩
  have B54 := Lib.hid (below_block hb4 B5.out)
  have Hb34 := Lib.hid hb4
  have Hb4 := Lib.hid (Hb3.out.trans (hb4.mono hs3))
  have hs34 := hb4.size
  have hs4 := Hb4.out.size
  have Hbw4 := Lib.hid (Hb1.out.trans (Hb4.out.mono hs1))
  clear cc dd zz hb4
  have cc := fun i => cell_block ((Hb4.out.block gx hlx).trans B1.out) i
  have dd := fun i => cell_block ((Hb4.out.block gu hlu).trans B2.out) i
  have ee := fun i => cell_block ((Hb4.out.block ga hla).trans B3.out) i
  go_wp2_with fail
  refine (may_any _ _ _ x u a w4 (stays_grants _ _ _ _ (keeps_below Hbw4.out) H.out) (stays_user _ _ _ _ (keeps_below Hbw4.out) HU.out) Hok.out Hok2.out Hoka.out).mono ?_
  rw [Hq.out, Hf.out]
  rintro E w5 ⟨rfl, hb5⟩
  have Hb35 := Lib.hid (Hb34.out.trans (hb5.mono hs34))
  have Hb5 := Lib.hid (Hb4.out.trans (hb5.mono hs4))
  have hs5 := Hb5.out.size
  have Hbw5 := Lib.hid (Hb1.out.trans (Hb5.out.mono hs1))
  clear cc dd ee hb5
  have cc := fun i => cell_block ((Hb5.out.block gx hlx).trans B1.out) i
  have dd := fun i => cell_block ((Hb5.out.block gu hlu).trans B2.out) i
  go_wp2_with fail
  refine (heldTold_any _ _ _ x u ByteArray.empty w5 (stays_grants _ _ _ _ (keeps_below Hbw5.out) H.out) (stays_user _ _ _ _ (keeps_below Hbw5.out) HU.out) Hok.out Hok2.out (by decide)).mono ?_
  rw [Hh1.out]
  rintro E w6 ⟨vl, rfl, hr6, hb6⟩
  obtain ⟨aol, col, rfl, _, _⟩ := hr6.len
  have Hr6 := Lib.hid hr6
  have Hb36 := Lib.hid (Hb35.out.trans (hb6.mono Hb35.out.size))
  have Hb6 := Lib.hid (Hb5.out.trans (hb6.mono hs5))
  have hs6 := Hb6.out.size
  have Hbw6 := Lib.hid (Hb1.out.trans (Hb6.out.mono hs1))
  clear cc dd hb6 hr6
  have cc := fun i => cell_block ((Hb6.out.block gx hlx).trans B1.out) i
  have dd := fun i => cell_block ((Hb6.out.block gu hlu).trans B2.out) i
  have ee := fun i => cell_block ((Hb6.out.block ga hla).trans B3.out) i
  go_wp2_with fail
  refine (heldTold_any _ _ _ x u a.space w6 (stays_grants _ _ _ _ (keeps_below Hbw6.out) H.out) (stays_user _ _ _ _ (keeps_below Hbw6.out) HU.out) Hok.out Hok2.out Hoka.out.2.2.1).mono ?_
  rw [Hh2.out]
  rintro E w7 ⟨vm, rfl, hr7, hb7⟩
  obtain ⟨aom, com, rfl, _, _⟩ := hr7.len
  have Hr7 := Lib.hid hr7
  have Hb37 := Lib.hid (Hb36.out.trans (hb7.mono Hb36.out.size))
  have Hb67 := Lib.hid hb7
  have Hb7 := Lib.hid (Hb6.out.trans (hb7.mono hs6))
  have hs7 := Hb7.out.size
  have hs67 := hb7.size
  clear cc dd ee hb7 hr7
  go_wp2_with fail
  refine (none_any w7).mono ?_
  rintro E w8 ⟨rfl, hb8⟩
  have Hb38 := Lib.hid (Hb37.out.trans (hb8.mono Hb37.out.size))
  have Hb68 := Lib.hid (Hb67.out.trans (hb8.mono hs67))
  have Hr8 := Lib.hid (Hr7.out.below stays_rule hb8)
  have Hb8 := Lib.hid (Hb7.out.trans (hb8.mono hs7))
  have hs8 := Hb8.out.size
  have hs68 := Hb68.out.size
  have Hbw8 := Lib.hid (Hb1.out.trans (Hb8.out.mono hs1))
  clear hb8
  by_cases n1 : e = 0
  · by_cases n2 : f = 0
    · subst n1 n2
      obtain ⟨z1, z2, z3, z4⟩ := Hz.out
      obtain ⟨k1, k2, k3, k4, k5, k6⟩ := wide_plain z1 z2 z3 z4 He.out Hf.out
      rw [Hh1.out] at k1
      rw [Hh2.out] at k2
      cases k1
      cases k2
      rw [Hq.out] at k4 k6
      rw [Hp.out] at k5 k6
      obtain ⟨M1, HM1⟩ : ∃ M1, Hid (heldL x u ByteArray.empty = M1) := ⟨_, Lib.hid rfl⟩
      obtain ⟨M2, HM2⟩ : ∃ M2, Hid (heldL x u a.space = M2) := ⟨_, Lib.hid rfl⟩
      have hfew : fewGrants x := by
        have h9 := He.out
        unfold mayE at h9
        rw [says_eq_zero] at h9
        exact few_of_code h9.1
      have ho1 : ∀ r ∈ M1, okRule r := by rw [← HM1.out]; exact held_ok Hok.out u _
      have ho2 : ∀ r ∈ M2, okRule r := by rw [← HM2.out]; exact held_ok Hok.out u _
      have hl1 : M1.length ≤ 1152 := by rw [← HM1.out]; exact held_len hfew u _
      have hl2 : M2.length ≤ 1152 := by rw [← HM2.out]; exact held_len hfew u _
      rw [HM1.out] at k3 k5 Hr6 ⊢
      rw [HM2.out] at k3 k4 Hr8 ⊢
      have Ho1 := Lib.hid ho1
      have Ho2 := Lib.hid ho2
      have K4 := Lib.hid k4
      have K5 := Lib.hid k5
      have way : (p = false ∧ (q = true ∨ q = false)) ∨ (p = true ∧ q = true) := by
        cases p with
        | false => exact .inl ⟨rfl, by cases q <;> simp⟩
        | true => exact .inr ⟨rfl, k6 rfl⟩
      have k3' : ((M1.length : Int) ≤ (M2.length : Int)) := by omega
      clear z1 z2 z3 z4 k4 k5 k6 ho1 ho2 hfew k3
      have ee := fun i => cell_block ((Hb8.out.block ga hla).trans B3.out) i
      rcases way with ⟨rfl, rfl | rfl⟩ | ⟨rfl, rfl⟩
      all_goals
        go_wp2_with fail
        refine (allowsAll_any _ M2 a w8 Hr8.out (by omega) Ho2.out).mono ?_
        rw [← K4.out]
        rintro E w9 ⟨rfl, hb9⟩
        have Hb39 := Lib.hid (Hb38.out.trans (hb9.mono Hb38.out.size))
        have Hb69 := Lib.hid (Hb68.out.trans (hb9.mono hs68))
        have Hb9 := Lib.hid (Hb8.out.trans (hb9.mono hs8))
        have hs9 := Hb9.out.size
        clear ee hb9
        have zz := fun i => cell_block ((Hb39.out.block gn hln3).trans B5.out) i
        go_wp2_with fail
        refine (allowsAll_any _ M1 a0 w9 (Hr6.out.below stays_rule Hb69.out) (by omega) Ho1.out).mono ?_
        rw [← K5.out]
        rintro E w10 ⟨rfl, hb10⟩
        have Hb10 := Lib.hid (Hb9.out.trans (hb10.mono hs9))
        clear zz hb10
        go_wp2_with fail
        go_ret
        exact ⟨rfl, Hb1.out.trans (Hb10.out.mono hs1)⟩
    · have q1 : (f != 0) = true := by rw [bne_iff_ne]; exact n2
      subst n1
      clear n2
      cases p
      all_goals
        go_wp2_with fail
        go_ret
        exact ⟨rfl, Hbw8.out⟩
  · have q1 : (e != 0) = true := by rw [bne_iff_ne]; exact n1
    have hp : p = false := by rw [← Hp.out]; exact mayP_of (by rw [He.out]; exact n1)
    subst hp
    clear n1
    go_wp2_with fail
    go_ret
    exact ⟨rfl, Hbw8.out⟩
end Go.Proofs.Ytkkfnihdnclgiaa
