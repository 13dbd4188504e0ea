/- The walk of the law GrantsNobody: who is named nowhere may nothing. -/
import Derived.Test.YtkkfnihdnclgiaaGrantsTell
import Derived.Test.YtkkfnihdnclgiaaHasStr
namespace Go.Proofs.Ytkkfnihdnclgiaa
open Go.RowKit

theorem mem_sum {α : Type} (μ : α → Nat) {l : List α} {x : α} (h : x ∈ l) : μ x ≤ (l.map μ).sum := by
  induction l with
  | nil => cases h
  | cons y r ih =>
    simp only [List.map_cons, List.sum_cons]
    rcases List.mem_cons.1 h with rfl | h
    · omega
    · have := ih h; omega
theorem okS_of {l : List ByteArray} (h : total l ≤ 1048576) : okS l := ⟨by have := total_length l; omega, fun x hx => by have := total_mem hx; omega⟩
theorem okRule_of {r : GRule} (h : ruleB r ≤ 1048576) : okRule r := by
  unfold ruleB at h
  exact ⟨okS_of (by omega), okS_of (by omega), okS_of (by omega)⟩
theorem okRole_of {r : GRole} (h : roleB r ≤ 1048576) : okRole r := by
  have h1 := sum_ge_length ruleB (fun x => by unfold ruleB; omega) r.rules
  have h2 : ∀ q ∈ r.rules, ruleB q ≤ (r.rules.map ruleB).sum := fun q hq => mem_sum ruleB hq
  unfold roleB at h
  exact ⟨by omega, by omega, by omega, fun q hq => okRule_of (by have := h2 q hq; omega)⟩
theorem okBind_of {b : GBind} (h : bindB b ≤ 1048576) : okBind b := by
  unfold bindB at h
  exact ⟨by omega, by omega, by omega, okS_of (by omega), okS_of (by omega)⟩
theorem okGrants_of {x : GGrants} (h : grantsB x ≤ 1048576) : okGrants x := by
  have h1 := sum_ge_length roleB (fun x => by unfold roleB; omega) x.roles
  have h2 : ∀ q ∈ x.roles, roleB q ≤ (x.roles.map roleB).sum := fun q hq => mem_sum roleB hq
  have h3 := sum_ge_length bindB (fun x => by unfold bindB; omega) x.binds
  have h4 : ∀ q ∈ x.binds, bindB q ≤ (x.binds.map bindB).sum := fun q hq => mem_sum bindB hq
  unfold grantsB at h
  exact ⟨by omega, fun q hq => okRole_of (by have := h2 q hq; omega), by omega, fun q hq => okBind_of (by have := h4 q hq; omega)⟩
theorem okUser_of {u : GUser} (h : userB u ≤ 1048576) : okUser u := by
  unfold userB at h
  exact ⟨by omega, okS_of (by omega)⟩
theorem okAsk_of {a : GAsk} (h : askB a ≤ 1048576) : okAsk a := by
  unfold askB at h
  exact ⟨by omega, by omega, by omega, by omega⟩
theorem held_none {x : GGrants} {u : GUser} {s : ByteArray} (h : ∀ b ∈ x.binds, isForB b u = false) : heldL x u s = [] := by
  unfold heldL
  rw [List.flatMap_eq_nil_iff]
  intro b hb
  unfold bindRules bindOn
  rw [h b hb]
  rfl
theorem spaceC_empty : spaceC ByteArray.empty = 0 := rfl
set_option maxRecDepth 100000 in
set_option maxHeartbeats 1600000 in
theorem grantsNobody_walk (cs0 : Array Value) (x : GGrants) (cs1 : Array Value) (u : GUser) (cs2 : Array Value) (a : GAsk) (w : World) (h0 : GrantsR w cs0.toList x) (h1 : UserR w cs1.toList u) (h2 : AskR w cs2.toList a)
    (hbulk : grantsB x + (userB u + (askB a + 0)) ≤ 1048576) :
    Calls Try.prog 7 #[.agg cs0, .agg cs1, .agg cs2] w fun e w' => e = .returned (.bool true) ∧ Below w.heap.size w w' := by
  have hok := okGrants_of (x := x) (by omega)
  have hok2 := okUser_of (u := u) (by omega)
  have hoka := okAsk_of (a := a) (by omega)
  have g0 := h0
  have g1 := h1
  obtain ⟨vr, vb, e0, hr, hb⟩ := h0
  obtain ⟨vg, e1, hg⟩ := h1
  have e2 : cs2 = #[.string a.verb, .string a.kind, .string a.space, .string a.name] := Array.toList_inj.1 h2
  have e0' : cs0 = #[vr, vb] := Array.toList_inj.1 e0
  have e1' : cs1 = #[.string u.name, vg] := Array.toList_inj.1 e1
  subst e0' e1' e2
  obtain ⟨a1, c1, rfl, hc1, _⟩ := hr.len
  obtain ⟨a2, c2, rfl, hc2, _⟩ := hb.len
  obtain ⟨a3, c3, rfl, hc3, _⟩ := hg.row.len
  have H : Hid (GrantsR w [.slice a1 x.roles.length c1, .slice a2 x.binds.length c2] x) := Lib.hid g0
  have HU : Hid (UserR w [.string u.name, .slice a3 u.groups.length c3] u) := Lib.hid g1
  have Hb := Lib.hid hb
  have Hg := Lib.hid hg.row
  have Hok := Lib.hid hok
  have Hok2 := Lib.hid hok2
  have Hoka := Lib.hid hoka
  obtain ⟨nr, Hnr⟩ : ∃ n, Hid (x.roles.length = n) := ⟨_, Lib.hid rfl⟩
  obtain ⟨nb, Hnb⟩ : ∃ n, Hid (x.binds.length = n) := ⟨_, Lib.hid rfl⟩
  obtain ⟨ng, Hng⟩ : ∃ n, Hid (u.groups.length = n) := ⟨_, Lib.hid rfl⟩
  obtain ⟨p, Hp⟩ : ∃ p, Hid (mayP x u a = p) := ⟨_, Lib.hid rfl⟩
  obtain ⟨e, He⟩ : ∃ e, Hid (mayE x u a = e) := ⟨_, Lib.hid rfl⟩
  rw [Hnr.out] at H hc1 ⊢
  rw [Hnb.out] at H hc2 Hb ⊢
  rw [Hng.out] at HU hc3 Hg ⊢
  have hnbL : nb ≤ 1048576 := by rw [← Hnb.out]; exact Hok.out.2.2.1
  have hngL : ng ≤ 1048576 := by rw [← Hng.out]; exact Hok2.out.2.1
  obtain ⟨w1, hw1⟩ : ∃ w1, w1 = ((w.alloc (.cells #[.slice a1 nr c1, .slice a2 nb c2] 40)).alloc (.cells #[.string u.name, .slice a3 ng c3] 48)).alloc (.cells #[.string a.verb, .string a.kind, .string a.space, .string a.name] 50) := ⟨_, rfl⟩
  obtain ⟨ga, hga⟩ : ∃ ga, ga = w.heap.size + 2 := ⟨_, rfl⟩
  obtain ⟨gu, hgu⟩ : ∃ gu, gu = w.heap.size + 1 := ⟨_, rfl⟩
  obtain ⟨gx, hgx⟩ : ∃ gx, gx = w.heap.size := ⟨_, rfl⟩
  have b1 : w1.heap[gx]? = some (.cells #[.slice a1 nr c1, .slice a2 nb c2] 40 (0, 0)) := by
    rw [hw1, hgx]
    exact below_block ((Below.refl _ _).alloc (Nat.le_refl _) _) (below_block ((Below.refl _ _).alloc (Nat.le_refl _) _) (heap_alloc_new w _))
  have b2 : w1.heap[gu]? = some (.cells #[.string u.name, .slice a3 ng c3] 48 (0, 0)) := by
    rw [hw1, hgu]
    have h9 := heap_alloc_new (w.alloc (.cells #[.slice a1 nr c1, .slice a2 nb c2] 40)) (.cells #[.string u.name, .slice a3 ng c3] 48)
    exact below_block ((Below.refl _ _).alloc (Nat.le_refl _) _) (by simpa using h9)
  have b3 : w1.heap[ga]? = some (.cells #[.string a.verb, .string a.kind, .string a.space, .string a.name] 50 (0, 0)) := by
    have h9 := heap_alloc_new ((w.alloc (.cells #[.slice a1 nr c1, .slice a2 nb c2] 40)).alloc (.cells #[.string u.name, .slice a3 ng c3] 48)) (.cells #[.string a.verb, .string a.kind, .string a.space, .string a.name] 50)
    rw [hw1, hga]
    simpa using h9
  have hb1 : Below w.heap.size w w1 := by rw [hw1]; exact (((Below.refl _ _).alloc (Nat.le_refl _) _).alloc (by simp) _).alloc (by simp; omega) _
  have hs1 := hb1.size
  have hlx : gx < w1.heap.size := by rw [hw1, hgx]; simp <;> omega
  have hlu : gu < w1.heap.size := by rw [hw1, hgu]; simp <;> omega
  have hla : ga < w1.heap.size := by rw [hw1, hga]; simp
  have Hb1 := Lib.hid hb1
  have B1 := Lib.hid b1
  have B2 := Lib.hid b2
  have B3 := Lib.hid b3
  have cc := fun i => cell_block b1 i
  have dd := fun i => cell_block b2 i
  have ee := fun i => cell_block b3 i
  have Hw1 := Lib.hid hw1
  have Hga := Lib.hid hga
  have Hgu := Lib.hid hgu
  have Hgx := Lib.hid hgx
  clear hr hb hg hok hok2 hoka b1 b2 b3 hb1 hw1 hga hgu hgx g0 g1 h2 e0 e1 hbulk
  go_enter Try.func7, Try.ntmps7
  go_upto_region 1 with fail
  rw [← Hw1.out]
  try rw [← Hga.out]
  try rw [← Hgu.out]
  rw [← Hgx.out]
  clear Hw1 Hga Hgu Hgx
  go_wp2_with fail
  refine (may_any _ _ _ x u a w1 (stays_grants _ _ _ _ (keeps_below Hb1.out) H.out) (stays_user _ _ _ _ (keeps_below Hb1.out) HU.out) Hok.out Hok2.out Hoka.out).mono ?_
  rw [Hp.out, He.out]
  rintro E w2 ⟨rfl, hb2⟩
  have Hb2 := Lib.hid hb2
  have hs2 := hb2.size
  clear cc dd ee hb2
  go_wp2_with fail
  refine (none_any w2).mono ?_
  rintro E w3 ⟨rfl, hb3⟩
  have Hb3 := Lib.hid (Hb2.out.trans (hb3.mono hs2))
  have hs3 := Hb3.out.size
  clear hb3 Hb2 hs2
  have cc := fun i => cell_block (Hb3.out.block gx hlx |>.trans B1.out) i
  go_wp2_with fail
  clear cc
  go_loopg [27] nb (fun k u27 wr => ∃ i : Nat, i + k = nb ∧ u27 = .int .i64 (i : Int) ∧ Hid (∀ b ∈ x.binds.take i, isForB b u = false) ∧ Hid (Below w1.heap.size w1 wr))
  case atStart => exact ⟨0, by omega, rfl, Lib.hid (fun b hb => by simp at hb), Hb3⟩
  case round =>
    obtain ⟨i, hig, rfl, Hall, Hbel⟩ := hrel
    have hsr := Hbel.out.size
    have Hbw := Lib.hid (Hb1.out.trans (Hbel.out.mono hs1))
    have R1 := Lib.hid ((Hbel.out.block gx hlx).trans B1.out)
    have R2 := Lib.hid ((Hbel.out.block gu hlu).trans B2.out)
    have R3 := Lib.hid ((Hbel.out.block ga hla).trans B3.out)
    have hlu2 : gu < wr.heap.size := by omega
    cases gk with
    | zero =>
      obtain rfl : i = nb := by omega
      have h9 := Hall.out
      rw [List.take_of_length_le (by rw [Hnb.out]; exact Nat.le_refl _)] at h9
      have hnone := held_none (s := a.space) h9
      have Hnone := Lib.hid hnone
      have hp : p = false := by rw [← Hp.out]; unfold mayP; rw [hnone]; simp [allowsL]
      subst hp
      obtain ⟨q, Hq⟩ : ∃ q, Hid (heldP x u a.space = (q, [])) := by
        refine ⟨if codeC x u a.space ≠ 0 then codeC x u a.space else 0, Lib.hid ?_⟩
        unfold heldP
        rw [hnone]
        split <;> rfl
      obtain ⟨k1, Hk1⟩ : ∃ k1, Hid (grantsC x = k1) := ⟨_, Lib.hid rfl⟩
      obtain ⟨k2, Hk2⟩ : ∃ k2, Hid (userC u = k2) := ⟨_, Lib.hid rfl⟩
      obtain ⟨k3, Hk3⟩ : ∃ k3, Hid (askC a = k3) := ⟨_, Lib.hid rfl⟩
      have he : e = says (says k1 k2) k3 := by
        rw [← He.out]
        unfold mayE codeC
        rw [spaceC_empty, says_zero, Hk1.out, Hk2.out, Hk3.out]
      have Hee := Lib.hid he
      have cc := fun i => cell_block R1.out i
      have dd := fun i => cell_block R2.out i
      have ee := fun i => cell_block R3.out i
      clear h9 hnone he Hall
      go_wp2_with fail
      refine (heldTold_any _ _ _ x u a.space wr (stays_grants _ _ _ _ (keeps_below Hbw.out) H.out) (stays_user _ _ _ _ (keeps_below Hbw.out) HU.out) Hok.out Hok2.out Hoka.out.2.2.1).mono ?_
      rw [Hq.out]
      rintro E w4 ⟨v4, rfl, hr4, hb4⟩
      obtain ⟨ao4, co4, rfl, _, _⟩ := hr4.len
      have Hb4 := Lib.hid (Hbel.out.trans (hb4.mono hsr))
      have hs4 := Hb4.out.size
      have Hbw4 := Lib.hid (Hb1.out.trans (Hb4.out.mono hs1))
      clear cc dd ee hr4 hb4
      have cc := fun i => cell_block ((Hb4.out.block gx hlx).trans B1.out) i
      go_wp2_with fail
      refine (grantsCheck_any _ _ x w4 (stays_grants _ _ _ _ (keeps_below Hbw4.out) H.out) Hok.out).mono ?_
      rw [Hk1.out]
      rintro E w5 ⟨rfl, hb5⟩
      have Hb5 := Lib.hid (Hb4.out.trans (hb5.mono hs4))
      have hs5 := Hb5.out.size
      have Hbw5 := Lib.hid (Hb1.out.trans (Hb5.out.mono hs1))
      clear cc hb5
      by_cases z1 : k1 = 0
      · subst z1
        have dd := fun i => cell_block ((Hb5.out.block gu hlu).trans B2.out) i
        go_wp2_with fail
        refine (user_any _ u w5 (stays_user _ _ _ _ (keeps_below Hbw5.out) HU.out) Hok2.out.1 Hok2.out.2).mono ?_
        rw [Hk2.out]
        rintro E w6 ⟨rfl, hb6⟩
        have Hb6 := Lib.hid (Hb5.out.trans (hb6.mono hs5))
        have hs6 := Hb6.out.size
        clear dd hb6
        by_cases z2 : k2 = 0
        · subst z2
          have ee := fun i => cell_block ((Hb6.out.block ga hla).trans B3.out) i
          go_wp2_with fail
          refine (ask_any a w6 Hoka.out).mono ?_
          rw [Hk3.out]
          rintro E w7 ⟨rfl, hb7⟩
          have Hb7 := Lib.hid (Hb6.out.trans (hb7.mono hs6))
          clear ee hb7
          have he2 : e = k3 := by rw [Hee.out]; simp [says]
          clear Hee
          subst he2
          by_cases z3 : e = 0
          · subst z3
            go_wp2_with fail
            go_ret
            exact ⟨rfl, Hb1.out.trans (Hb7.out.mono hs1)⟩
          · have z4 : (e == 0) = false := by rw [beq_eq_false_iff_ne]; exact z3
            clear z3
            go_wp2_with fail
            go_ret
            exact ⟨rfl, Hb1.out.trans (Hb7.out.mono hs1)⟩
        · have z4 : (k2 == 0) = false := by rw [beq_eq_false_iff_ne]; exact z2
          have z5 : (e == 0) = false := by rw [beq_eq_false_iff_ne, Hee.out]; unfold says; simp [z2]
          clear z2 Hee
          go_wp2_with fail
          go_ret
          exact ⟨rfl, Hb1.out.trans (Hb6.out.mono hs1)⟩
      · have z4 : (k1 == 0) = false := by rw [beq_eq_false_iff_ne]; exact z1
        have z5 : (e == 0) = false := by rw [beq_eq_false_iff_ne, Hee.out]; unfold says; simp [z1]
        clear z1 Hee
        go_wp2_with fail
        go_ret
        exact ⟨rfl, Hb1.out.trans (Hb5.out.mono hs1)⟩
    | succ k =>
      have hil : i < nb := by omega
      obtain ⟨b, hbi⟩ : ∃ b, x.binds[i]? = some b := ⟨x.binds[i]'(by rw [Hnb.out]; omega), List.getElem?_eq_getElem _⟩
      obtain ⟨bk, o, c', hv, _, _, hbs, hcell⟩ := Hb.out.form (by rw [Hnb.out]; omega) (by omega)
      injection hv with u1 u2 u3
      subst u1
      obtain ⟨ds, _, hcc, hR⟩ := hcell i b hbi
      obtain ⟨y4, y5, rfl, hus, hgs⟩ := hR
      obtain ⟨a4, c4, rfl, hc4, _⟩ := hus.row.len
      obtain ⟨a5, c5, rfl, hc5, _⟩ := hgs.row.len
      obtain ⟨nu, Hnu⟩ : ∃ n, Hid (b.users.length = n) := ⟨_, Lib.hid rfl⟩
      obtain ⟨nq, Hnq⟩ : ∃ n, Hid (b.groups.length = n) := ⟨_, Lib.hid rfl⟩
      have hbw := Hbw.out
      have e0 : wr.cell? ⟨bk, o + i * 6, none⟩ = some (.string b.space) := (hbw.cell (p := ⟨bk, _, none⟩) hbs).trans (by simpa using hcc 0 _ rfl)
      have e1 : wr.cell? ⟨bk, o + i * 6 + 1, none⟩ = some (.string b.name) := (hbw.cell (p := ⟨bk, _, none⟩) hbs).trans (hcc 1 _ rfl)
      have e2 : wr.cell? ⟨bk, o + i * 6 + 2, none⟩ = some (.string b.role) := (hbw.cell (p := ⟨bk, _, none⟩) hbs).trans (hcc 2 _ rfl)
      have e3 : wr.cell? ⟨bk, o + i * 6 + 3, none⟩ = some (.bool b.whole) := (hbw.cell (p := ⟨bk, _, none⟩) hbs).trans (hcc 3 _ rfl)
      have e4 : wr.cell? ⟨bk, o + i * 6 + 4, none⟩ = some (.slice a4 nu c4) := (hbw.cell (p := ⟨bk, _, none⟩) hbs).trans ((hcc 4 _ rfl).trans (by rw [Hnu.out]))
      have e5 : wr.cell? ⟨bk, o + i * 6 + 5, none⟩ = some (.slice a5 nq c5) := (hbw.cell (p := ⟨bk, _, none⟩) hbs).trans ((hcc 5 _ rfl).trans (by rw [Hnq.out]))
      have okb := Hok.out.2.2.2 b (List.mem_of_getElem? hbi)
      have o4 : b.users.length ≤ 1073741824 := by have := okb.2.2.2.1.1; omega
      have o5 : b.groups.length ≤ 1073741824 := by have := okb.2.2.2.2.1; omega
      clear okb
      have Hus := Lib.hid hus
      have Hgs := Lib.hid hgs
      rw [Hnu.out] at Hus
      rw [Hnq.out] at Hgs
      have q1 : (0 : Int) ≤ (i : Int) := by omega
      have q2 : (i : Int) < (nb : Int) := by omega
      obtain ⟨hu, Hhu⟩ : ∃ hu, Hid (Lib.containsS b.users u.name = hu) := ⟨_, Lib.hid rfl⟩
      have Htk : Hid (x.binds.take (i + 1) = x.binds.take i ++ [b]) := by show _ = _; rw [List.take_add_one, hbi]; rfl
      have dd := fun i => cell_block R2.out i
      clear hcc hcell hbi u2 u3 hus hgs hbw hc4 hc5
      go_upto_region 7 with fail
      obtain ⟨w5, hw5⟩ : ∃ w5, w5 = wr.alloc (.cells #[.string b.space, .string b.name, .string b.role, .bool b.whole, .slice a4 nu c4, .slice a5 nq c5] 46) := ⟨_, rfl⟩
      obtain ⟨gb, hgb⟩ : ∃ gb, gb = wr.heap.size := ⟨_, rfl⟩
      rw [← hw5, ← hgb]
      have b5 : w5.heap[gb]? = some (.cells #[.string b.space, .string b.name, .string b.role, .bool b.whole, .slice a4 nu c4, .slice a5 nq c5] 46 (0, 0)) := by rw [hw5, hgb]; exact heap_alloc_new wr _
      have hb5 : Below wr.heap.size wr w5 := by rw [hw5]; exact (Below.refl _ _).alloc (Nat.le_refl _) _
      have Hbel5 := Lib.hid (Hbel.out.trans (hb5.mono hsr))
      have Hbw5 := Lib.hid (Hb1.out.trans (Hbel5.out.mono hs1))
      have B5 := Lib.hid b5
      clear dd hw5 hgb b5 hb5 e0 e1 e2 e3 e4 e5 hlu2
      have cc := fun i => cell_block B5.out i
      have dd := fun i => cell_block ((Hbel5.out.block gu hlu).trans B2.out) i
      go_wp2_with fail
      refine (hasStr_any _ b.users u.name w5 (Hus.out.below' Hbw5.out) o4).mono ?_
      rw [Hhu.out]
      rintro E w6 ⟨rfl, rfl⟩
      cases hu with
      | true =>
        go_wp2_with fail
        go_ret
        exact ⟨rfl, Hbw5.out⟩
      | false =>
        go_wp2_with fail
        go_loopg [39] ng (fun k2 u39 wr => ∃ j : Nat, j + k2 = ng ∧ u39 = .int .i64 (j : Int) ∧ Hid (∀ s ∈ u.groups.take j, Lib.containsS b.groups s = false) ∧ w5 = wr)
        case atStart => exact ⟨0, by omega, rfl, Lib.hid (fun b hb => by simp at hb), rfl⟩
        case round =>
          obtain ⟨j, hjg, rfl, Hno, rfl⟩ := hrel
          cases gk with
          | zero =>
            obtain rfl : j = ng := by omega
            have h9 := Hno.out
            rw [List.take_of_length_le (by rw [Hng.out]; exact Nat.le_refl _)] at h9
            have Hall2 : Hid (∀ b ∈ x.binds.take (i + 1), isForB b u = false) := Lib.hid fun q hq => by
              rw [Htk.out] at hq
              rcases List.mem_append.1 hq with h | h
              · exact Hall.out q h
              · have h8 : q = b := by simpa using h
                rw [h8]
                unfold isForB
                rw [Hhu.out, Bool.false_or, List.any_eq_false]
                intro s hs
                rw [h9 s hs]; simp
            clear h9
            go_wp2_with fail
            go_roundg k
            case measure => omega
            case rel => exact ⟨i + 1, by omega, by go_num, Hall2, Hbel5⟩
          | succ k2 =>
            have hjl : j < ng := by omega
            obtain ⟨s, hsj⟩ : ∃ s, u.groups[j]? = some s := ⟨u.groups[j]'(by rw [Hng.out]; omega), List.getElem?_eq_getElem _⟩
            obtain ⟨bk2, o2, c2', hv, _, _, hbs2, hcell⟩ := Hg.out.form (by rw [Hng.out]; omega) (by omega)
            injection hv with u1 u2 u3
            subst u1
            obtain ⟨ds, _, hcc, hR⟩ := hcell j s hsj
            obtain rfl : ds = [.string s] := hR
            have e0 : w5.cell? ⟨bk2, o2 + j, none⟩ = some (.string s) := (Hbw5.out.cell (p := ⟨bk2, _, none⟩) hbs2).trans (by simpa using hcc 0 _ rfl)
            have p1 : (0 : Int) ≤ (j : Int) := by omega
            have p2 : (j : Int) < (ng : Int) := by omega
            have Htk2 : Hid (u.groups.take (j + 1) = u.groups.take j ++ [s]) := by show _ = _; rw [List.take_add_one, hsj]; rfl
            obtain ⟨hu, Hhu2⟩ : ∃ hu, Hid (Lib.containsS b.groups s = hu) := ⟨_, Lib.hid rfl⟩
            clear hcc hcell hsj u2 u3
            go_wp2_with fail
            refine (hasStr_any _ b.groups s w5 (Hgs.out.below' Hbw5.out) o5).mono ?_
            rw [Hhu2.out]
            rintro E w6 ⟨rfl, rfl⟩
            cases hu with
            | true =>
              go_wp2_with fail
              go_ret
              exact ⟨rfl, Hbw5.out⟩
            | false =>
              have Hno2 : Hid (∀ s ∈ u.groups.take (j + 1), Lib.containsS b.groups s = false) := Lib.hid fun q hq => by
                rw [Htk2.out] at hq
                rcases List.mem_append.1 hq with h | h
                · exact Hno.out q h
                · have h8 : q = s := by simpa using h
                  rw [h8]; exact Hhu2.out
              go_wp2_with fail
              go_roundg k2
              case measure => omega
              case rel => exact ⟨j + 1, by omega, by go_num, Hno2, rfl⟩
end Go.Proofs.Ytkkfnihdnclgiaa
