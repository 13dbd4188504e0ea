/- The walk of the law GrantsMore: who is granted more loses nothing. -/
import Derived.Test.YtkkfnihdnclgiaaGrantsMore
namespace Go.Proofs.Ytkkfnihdnclgiaa
open Go.RowKit

theorem exec_append {P : Program} {a : Act} {o : Oper} {w w3 : World} {s x : Operand} {t : TypeId} {v xv v' : Value} (ho : o.op = .call { callee := .builtin .append, args := #[s, x], argTypes := #[t, t] }) (hs : a.eval s = v) (hx : a.eval x = xv)
    (hrun : (Builtin.append_ #[t, t] o.type #[v, xv]).run P w = .ok v' w3) : (execOp a.eval o).run P w = .ok (.value v') w3 := by
  simp [execOp, ho, resolve, invoke, builtin, hs, hx, hrun, Result.andThen]
set_option maxRecDepth 100000 in
set_option maxHeartbeats 3200000 in
theorem grantsMore_walk (cs0 : Array Value) (x : GGrants) (cs1 : Array Value) (role : GRole) (cs2 : Array Value) (bd : GBind) (cs3 : Array Value) (u : GUser) (cs4 : Array Value) (a : GAsk) (w : World) (h0 : GrantsR w cs0.toList x) (h1 : RoleR w cs1.toList role) (h2 : BindR w cs2.toList bd) (h3 : UserR w cs3.toList u) (h4 : AskR w cs4.toList a)
    (hbulk : grantsB x + (roleB role + (bindB bd + (userB u + (askB a + 0)))) ≤ 1048576) :
    Calls Try.prog 5 #[.agg cs0, .agg cs1, .agg cs2, .agg cs3, .agg cs4] w fun e w' => e = .returned (.bool true) ∧ Below w.heap.size w w' := by
  have hok := okGrants_of (x := x) (by omega)
  have hokm := okGrants_of (x := moreG x role bd) (by rw [moreG_B]; omega)
  have hok2 := okUser_of (u := u) (by omega)
  have hoka := okAsk_of (a := a) (by omega)
  have g0 := h0
  have g1 := h1
  have g2 := h2
  have g3 := h3
  obtain ⟨vr, vb, e0, hr, hb⟩ := h0
  obtain ⟨vq, e1, hq⟩ := h1
  obtain ⟨vu, vs, e2, hu, hs⟩ := h2
  obtain ⟨vg, e3, hg⟩ := h3
  have e4 : cs4 = #[.string a.verb, .string a.kind, .string a.space, .string a.name] := Array.toList_inj.1 h4
  have e0' : cs0 = #[vr, vb] := Array.toList_inj.1 e0
  have e1' : cs1 = #[.string role.space, .string role.name, vq] := Array.toList_inj.1 e1
  have e2' : cs2 = #[.string bd.space, .string bd.name, .string bd.role, .bool bd.whole, vu, vs] := Array.toList_inj.1 e2
  have e3' : cs3 = #[.string u.name, vg] := Array.toList_inj.1 e3
  subst e0' e1' e2' e3' e4
  obtain ⟨a1, c1, rfl, hc1, _⟩ := hr.len
  obtain ⟨a2, c2, rfl, hc2, _⟩ := hb.len
  obtain ⟨a3, c3, rfl, hc3, _⟩ := hg.row.len
  obtain ⟨a4, c4, rfl, hc4, _⟩ := hq.len
  obtain ⟨a5, c5, rfl, hc5, _⟩ := hu.row.len
  obtain ⟨a6, c6, rfl, hc6, _⟩ := hs.row.len
  have H : Hid (GrantsR w [.slice a1 x.roles.length c1, .slice a2 x.binds.length c2] x) := Lib.hid g0
  have HQ : Hid (RoleR w [.string role.space, .string role.name, .slice a4 role.rules.length c4] role) := Lib.hid g1
  have HD : Hid (BindR w [.string bd.space, .string bd.name, .string bd.role, .bool bd.whole, .slice a5 bd.users.length c5, .slice a6 bd.groups.length c6] bd) := Lib.hid g2
  have HU : Hid (UserR w [.string u.name, .slice a3 u.groups.length c3] u) := Lib.hid g3
  have Hrr := Lib.hid hr
  have Hbb := Lib.hid hb
  have Hok := Lib.hid hok
  have Hokm := Lib.hid hokm
  have Hok2 := Lib.hid hok2
  have Hoka := Lib.hid hoka
  have hnrL : x.roles.length ≤ 1048576 := hok.1
  have hnbL : x.binds.length ≤ 1048576 := hok.2.2.1
  obtain ⟨nr, Hnr⟩ : ∃ n, Hid (x.roles.length = n) := ⟨_, Lib.hid rfl⟩
  obtain ⟨nb, Hnb⟩ : ∃ n, Hid (x.binds.length = n) := ⟨_, Lib.hid rfl⟩
  obtain ⟨ng, Hng⟩ : ∃ n, Hid (u.groups.length = n) := ⟨_, Lib.hid rfl⟩
  obtain ⟨nq, Hnq⟩ : ∃ n, Hid (role.rules.length = n) := ⟨_, Lib.hid rfl⟩
  obtain ⟨nu, Hnu⟩ : ∃ n, Hid (bd.users.length = n) := ⟨_, Lib.hid rfl⟩
  obtain ⟨ns, Hns⟩ : ∃ n, Hid (bd.groups.length = n) := ⟨_, Lib.hid rfl⟩
  obtain ⟨p, Hp⟩ : ∃ p, Hid (mayP x u a = p) := ⟨_, Lib.hid rfl⟩
  obtain ⟨e, He⟩ : ∃ e, Hid (mayE x u a = e) := ⟨_, Lib.hid rfl⟩
  obtain ⟨q, Hq⟩ : ∃ q, Hid (mayP (moreG x role bd) u a = q) := ⟨_, Lib.hid rfl⟩
  obtain ⟨f, Hf⟩ : ∃ f, Hid (mayE (moreG x role bd) u a = f) := ⟨_, Lib.hid rfl⟩
  rw [Hnr.out] at H hc1 Hrr hnrL ⊢
  rw [Hnb.out] at H hc2 Hbb hnbL ⊢
  rw [Hng.out] at HU hc3 ⊢
  rw [Hnq.out] at HQ hc4 ⊢
  rw [Hnu.out] at HD hc5 ⊢
  rw [Hns.out] at HD hc6 ⊢
  obtain ⟨w1, hw1⟩ : ∃ w1, w1 = ((((w.alloc (.cells #[.slice a1 nr c1, .slice a2 nb c2] 40)).alloc (.cells #[.string role.space, .string role.name, .slice a4 nq c4] 43)).alloc (.cells #[.string bd.space, .string bd.name, .string bd.role, .bool bd.whole, .slice a5 nu c5, .slice a6 ns c6] 46)).alloc (.cells #[.string u.name, .slice a3 ng c3] 48)).alloc (.cells #[.string a.verb, .string a.kind, .string a.space, .string a.name] 50) := ⟨_, rfl⟩
  obtain ⟨ga, hga⟩ : ∃ ga, ga = w.heap.size + 4 := ⟨_, rfl⟩
  obtain ⟨gu, hgu⟩ : ∃ gu, gu = w.heap.size + 3 := ⟨_, rfl⟩
  obtain ⟨gd, hgd⟩ : ∃ gd, gd = w.heap.size + 2 := ⟨_, rfl⟩
  obtain ⟨gr, hgr⟩ : ∃ gr, gr = w.heap.size + 1 := ⟨_, rfl⟩
  obtain ⟨gx, hgx⟩ : ∃ gx, gx = w.heap.size := ⟨_, rfl⟩
  have b0 : w1.heap[gx]? = some (.cells #[.slice a1 nr c1, .slice a2 nb c2] 40 (0, 0)) := by
    have h9 := heap_alloc_new w (.cells #[.slice a1 nr c1, .slice a2 nb c2] 40)
    rw [hw1, hgx]
    exact (below_block ((Below.refl _ _).alloc (Nat.le_refl _) _) (below_block ((Below.refl _ _).alloc (Nat.le_refl _) _) (below_block ((Below.refl _ _).alloc (Nat.le_refl _) _) (below_block ((Below.refl _ _).alloc (Nat.le_refl _) _) (by simpa using h9)))))
  have hlgx : gx < w1.heap.size := by rw [hw1, hgx]; simp <;> omega
  have b1 : w1.heap[gr]? = some (.cells #[.string role.space, .string role.name, .slice a4 nq c4] 43 (0, 0)) := by
    have h9 := heap_alloc_new (w.alloc (.cells #[.slice a1 nr c1, .slice a2 nb c2] 40)) (.cells #[.string role.space, .string role.name, .slice a4 nq c4] 43)
    rw [hw1, hgr]
    exact (below_block ((Below.refl _ _).alloc (Nat.le_refl _) _) (below_block ((Below.refl _ _).alloc (Nat.le_refl _) _) (below_block ((Below.refl _ _).alloc (Nat.le_refl _) _) (by simpa using h9))))
  have hlgr : gr < w1.heap.size := by rw [hw1, hgr]; simp <;> omega
  have b2 : w1.heap[gd]? = some (.cells #[.string bd.space, .string bd.name, .string bd.role, .bool bd.whole, .slice a5 nu c5, .slice a6 ns c6] 46 (0, 0)) := by
    have h9 := heap_alloc_new ((w.alloc (.cells #[.slice a1 nr c1, .slice a2 nb c2] 40)).alloc (.cells #[.string role.space, .string role.name, .slice a4 nq c4] 43)) (.cells #[.string bd.space, .string bd.name, .string bd.role, .bool bd.whole, .slice a5 nu c5, .slice a6 ns c6] 46)
    rw [hw1, hgd]
    exact (below_block ((Below.refl _ _).alloc (Nat.le_refl _) _) (below_block ((Below.refl _ _).alloc (Nat.le_refl _) _) (by simpa using h9)))
  have hlgd : gd < w1.heap.size := by rw [hw1, hgd]; simp <;> omega
  have b3 : w1.heap[gu]? = some (.cells #[.string u.name, .slice a3 ng c3] 48 (0, 0)) := by
    have h9 := heap_alloc_new (((w.alloc (.cells #[.slice a1 nr c1, .slice a2 nb c2] 40)).alloc (.cells #[.string role.space, .string role.name, .slice a4 nq c4] 43)).alloc (.cells #[.string bd.space, .string bd.name, .string bd.role, .bool bd.whole, .slice a5 nu c5, .slice a6 ns c6] 46)) (.cells #[.string u.name, .slice a3 ng c3] 48)
    rw [hw1, hgu]
    exact (below_block ((Below.refl _ _).alloc (Nat.le_refl _) _) (by simpa using h9))
  have hlgu : gu < w1.heap.size := by rw [hw1, hgu]; simp <;> omega
  have b4 : w1.heap[ga]? = some (.cells #[.string a.verb, .string a.kind, .string a.space, .string a.name] 50 (0, 0)) := by
    have h9 := heap_alloc_new ((((w.alloc (.cells #[.slice a1 nr c1, .slice a2 nb c2] 40)).alloc (.cells #[.string role.space, .string role.name, .slice a4 nq c4] 43)).alloc (.cells #[.string bd.space, .string bd.name, .string bd.role, .bool bd.whole, .slice a5 nu c5, .slice a6 ns c6] 46)).alloc (.cells #[.string u.name, .slice a3 ng c3] 48)) (.cells #[.string a.verb, .string a.kind, .string a.space, .string a.name] 50)
    rw [hw1, hga]
    exact (by simpa using h9)
  have hlga : ga < w1.heap.size := by rw [hw1, hga]; simp <;> omega
  have hb1 : Below w.heap.size w w1 := by rw [hw1]; exact ((((((Below.refl _ _).alloc (Nat.le_refl _) _).alloc (by simp) _).alloc (by simp <;> omega) _).alloc (by simp <;> omega) _).alloc (by simp <;> omega) _)
  have hs1 := hb1.size
  have Hb1 := Lib.hid hb1
  have B0 := Lib.hid b0
  have cgx := fun i => cell_block b0 i
  have B1 := Lib.hid b1
  have cgr := fun i => cell_block b1 i
  have B2 := Lib.hid b2
  have cgd := fun i => cell_block b2 i
  have B3 := Lib.hid b3
  have cgu := fun i => cell_block b3 i
  have B4 := Lib.hid b4
  have cga := fun i => cell_block b4 i
  have Hgx := Lib.hid hgx
  have Hgr := Lib.hid hgr
  have Hgd := Lib.hid hgd
  have Hgu := Lib.hid hgu
  have Hga := Lib.hid hga
  have Hw1 := Lib.hid hw1
  clear hr hb hg hq hu hs hok hokm hok2 hoka b0 b1 b2 b3 b4 hb1 hw1 hgx hgr hgd hgu hga g0 g1 g2 g3 h4 e0 e1 e2 e3 hbulk
  go_enter Try.func5, Try.ntmps5
  go_upto_region 1 with fail
  rw [← Hw1.out]
  try rw [← Hga.out]
  try rw [← Hgu.out]
  try rw [← Hgd.out]
  try rw [← Hgr.out]
  rw [← Hgx.out]
  clear Hw1 Hga Hgu Hgd Hgr Hgx
  go_wp2_with fail
  refine (may_any _ _ _ x u a w1 (stays_grants _ _ _ _ (keeps_below Hb1.out) H.out) (stays_user _ _ _ _ (keeps_below Hb1.out) HU.out) Hok.out Hok2.out Hoka.out).mono ?_
  rw [Hp.out, He.out]
  rintro E w2 ⟨rfl, hb2⟩
  have Hb2 := Lib.hid hb2
  have hs2 := hb2.size
  have Hbw2 := Lib.hid (Hb1.out.trans (hb2.mono hs1))
  have hs02 : w.heap.size ≤ w2.heap.size := by omega
  clear cgx cgr cgd cgu cga hb2
  have lx : gx < w2.heap.size := by omega
  have lr : gr < w2.heap.size := by omega
  have ld : gd < w2.heap.size := by omega
  have lu : gu < w2.heap.size := by omega
  have la : ga < w2.heap.size := by omega
  have A0 := Lib.hid ((Hb2.out.block gx hlgx).trans B0.out)
  have A1 := Lib.hid ((Hb2.out.block gr hlgr).trans B1.out)
  have A2 := Lib.hid ((Hb2.out.block gd hlgd).trans B2.out)
  have A3 := Lib.hid ((Hb2.out.block gu hlgu).trans B3.out)
  have A4 := Lib.hid ((Hb2.out.block ga hlga).trans B4.out)
  clear B0 B1 B2 B3 B4
  obtain ⟨i0, hi0, hz0, hz1, hz2⟩ := info_parts Try.infoRole
  obtain ⟨i1, hi1, hy0, hy1, hy2⟩ := info_parts Try.infoBind
  go_upto_region 2 with fail
  refine wp_region_relX 14 (fun w' => Below w2.heap.size w2 w') (fun i wa wb => if i = 5 then Grow w2.heap.size 43 wa wb else if i = 11 then Grow w2.heap.size 46 wa wb else Below wa.heap.size wa wb) (fun i U w' => match i with
    | 0 => U 0 = .pointer (some ⟨gx, 0, none⟩)
    | 1 => U 1 = .slice a1 nr c1
    | 2 => OwnAt (AtW w RoleR) 3 w' w2.heap.size 43 (U 2) x.roles
    | 3 => U 3 = .agg #[.string role.space, .string role.name, .slice a4 nq c4]
    | 4 => ∃ g, U 4 = .slice (some ⟨g, 0, none⟩) 1 1 ∧ w'.heap[g]? = some (.cells #[.string role.space, .string role.name, .slice a4 nq c4] 43 (0, 0))
    | 5 => OwnAt (AtW w RoleR) 3 w' w2.heap.size 43 (U 5) (x.roles ++ [role])
    | 6 => U 6 = .pointer (some ⟨gx, 1, none⟩)
    | 7 => U 7 = .slice a2 nb c2
    | 8 => OwnAt (AtW w BindR) 6 w' w2.heap.size 46 (U 8) x.binds
    | 9 => U 9 = .agg #[.string bd.space, .string bd.name, .string bd.role, .bool bd.whole, .slice a5 nu c5, .slice a6 ns c6]
    | 10 => ∃ g, U 10 = .slice (some ⟨g, 0, none⟩) 1 1 ∧ w'.heap[g]? = some (.cells #[.string bd.space, .string bd.name, .string bd.role, .bool bd.whole, .slice a5 nu c5, .slice a6 ns c6] 46 (0, 0))
    | 11 => OwnAt (AtW w BindR) 6 w' w2.heap.size 46 (U 11) (x.binds ++ [bd])
    | 12 => U 12 = .agg #[U 5, U 11]
    | 13 => ∃ g, U 13 = .pointer (some ⟨g, 0, none⟩) ∧ w2.heap.size ≤ g ∧ w'.heap[g]? = some (.cells #[.slice none 0 0, .slice none 0 0] 40 (0, 0))
    | _ => True)
    (fun | 1 => [0] | 2 => [1] | 4 => [3] | 5 => [2, 4] | 7 => [6] | 8 => [7] | 10 => [9] | 11 => [8, 10] | 12 => [5, 11] | _ => [])
    (fun | 2 => [5] | 4 => [5] | 8 => [11] | 10 => [11] | _ => []) (by kernel_rfl) (by kernel_rfl) (Below.refl _ _).drew ?_ ?_ ⟨?_, ?_, ?_, ?_, ?_, ?_, ?_, ?_, ?_, ?_, ?_, ?_, ?_, ?_, trivial⟩ ?_
  · intro i wa wb hk hi
    by_cases h5 : i = 5
    · rw [if_pos h5] at hk
      exact hk.below hi hi.size
    · rw [if_neg h5] at hk
      by_cases h11 : i = 11
      · rw [if_pos h11] at hk
        exact hk.below hi hi.size
      · rw [if_neg h11] at hk
        exact below_then hi hk
  · intro i j U wa wb hji hkl hk hi h
    by_cases h5 : i = 5
    · subst h5
      rw [if_pos rfl] at hk
      have hsm := hk.same
      match j, hji, hkl, h with
      | 0, _, _, h => exact h
      | 1, _, _, h => exact h
      | 2, _, hkl, h => exact absurd (by simp) hkl
      | 3, _, _, h => exact h
      | 4, _, hkl, h => exact absurd (by simp) hkl
      | 5, hji, _, h => exact absurd rfl hji
      | 6, _, _, h => exact h
      | 7, _, _, h => exact h
      | 8, _, _, h => exact OwnAt.same (flat_atW w BindR) h hsm (by decide)
      | 9, _, _, h => exact h
      | 10, _, _, ⟨g, h1, h2⟩ => exact ⟨g, h1, hsm g _ _ _ h2 (by decide)⟩
      | 11, _, _, h => exact OwnAt.same (flat_atW w BindR) h hsm (by decide)
      | 12, _, _, h => exact h
      | 13, _, _, ⟨g, h1, h3, h2⟩ => exact ⟨g, h1, h3, hsm g _ _ _ h2 (by decide)⟩
      | _ + 14, _, _, h => trivial
    · rw [if_neg h5] at hk
      by_cases h11 : i = 11
      · subst h11
        rw [if_pos rfl] at hk
        have hsm := hk.same
        match j, hji, hkl, h with
        | 0, _, _, h => exact h
        | 1, _, _, h => exact h
        | 2, _, _, h => exact OwnAt.same (flat_atW w RoleR) h hsm (by decide)
        | 3, _, _, h => exact h
        | 4, _, _, ⟨g, h1, h2⟩ => exact ⟨g, h1, hsm g _ _ _ h2 (by decide)⟩
        | 5, _, _, h => exact OwnAt.same (flat_atW w RoleR) h hsm (by decide)
        | 6, _, _, h => exact h
        | 7, _, _, h => exact h
        | 8, _, hkl, h => exact absurd (by simp) hkl
        | 9, _, _, h => exact h
        | 10, _, hkl, h => exact absurd (by simp) hkl
        | 11, hji, _, h => exact absurd rfl hji
        | 12, _, _, h => exact h
        | 13, _, _, ⟨g, h1, h3, h2⟩ => exact ⟨g, h1, h3, hsm g _ _ _ h2 (by decide)⟩
        | _ + 14, _, _, h => trivial
      · rw [if_neg h11] at hk
        match j, h with
        | 0, h => exact h
        | 1, h => exact h
        | 2, h => exact OwnAt.below (flat_atW w RoleR).stays h hk
        | 3, h => exact h
        | 4, ⟨g, h1, h2⟩ => exact ⟨g, h1, below_block hk h2⟩
        | 5, h => exact OwnAt.below (flat_atW w RoleR).stays h hk
        | 6, h => exact h
        | 7, h => exact h
        | 8, h => exact OwnAt.below (flat_atW w BindR).stays h hk
        | 9, h => exact h
        | 10, ⟨g, h1, h2⟩ => exact ⟨g, h1, below_block hk h2⟩
        | 11, h => exact OwnAt.below (flat_atW w BindR).stays h hk
        | 12, h => exact h
        | 13, ⟨g, h1, h3, h2⟩ => exact ⟨g, h1, h3, below_block hk h2⟩
        | _ + 14, h => trivial
  · intro y w' hb hd
    refine owesK_here (.pointer (some ⟨gx, 0, none⟩)) (by rfl) ?_ rfl (else_of (by decide) (else_of (by decide) (Below.refl _ _)))
    simp only [putAll, List.take_succ_cons, List.take_zero]
    go_simp
  · intro y w' hb hd
    have h0 : y 0 = .pointer (some ⟨gx, 0, none⟩) := hd 0 (by simp)
    have d0 := (hb.block gx lx).trans A0.out
    have cc := cell_block d0 0
    clear d0
    refine owesK_here (.slice a1 nr c1) (by rfl) ?_ rfl (else_of (by decide) (else_of (by decide) (Below.refl _ _)))
    simp only [putAll, List.take_succ_cons, List.take_zero]
    go_simp
  · intro y w' hb hd
    have h0 : y 1 = .slice a1 nr c1 := hd 1 (by simp)
    have hbw : Below w.heap.size w w' := Hbw2.out.trans (hb.mono hs02)
    refine owesK_call 18 #[.slice a1 nr c1] (by rfl) ?_ ((copyRole_any _ _ w w' (Hrr.out.atW hbw) (by rw [Hnr.out]; omega)).mono ?_)
    · simp only [putAll, List.take_succ_cons, List.take_zero]
      go_simp
    · rintro _ w3 ⟨v3, rfl, ho, hb3⟩
      exact ⟨v3, rfl, ho.mono hb.size, else_of (by decide) (else_of (by decide) hb3)⟩
  · intro y w' hb hd
    have d0 := (hb.block gr lr).trans A1.out
    have cc := fun i => cell_block d0 i
    clear d0
    refine owesK_here (.agg #[.string role.space, .string role.name, .slice a4 nq c4]) (by rfl) ?_ rfl (else_of (by decide) (else_of (by decide) (Below.refl _ _)))
    simp only [putAll, List.take_succ_cons, List.take_zero]
    go_simp
  · intro y w' hb hd
    have h0 : y 3 = .agg #[.string role.space, .string role.name, .slice a4 nq c4] := hd 3 (by simp)
    refine owesK_makes (w' := w'.alloc (.cells #[.string role.space, .string role.name, .slice a4 nq c4] 43)) (.slice (some ⟨w'.heap.size, 0, none⟩) 1 1) (by rfl) ?_ ⟨_, rfl, heap_alloc_new w' _⟩ (else_of (by decide) (else_of (by decide) ((Below.refl _ _).alloc (Nat.le_refl _) _)))
    simp only [putAll, List.take_succ_cons, List.take_zero]
    rw [h0]
    go_simp
  · intro y w' hb hd
    have h2 : OwnAt (AtW w RoleR) 3 w' w2.heap.size 43 (y 2) x.roles := hd 2 (by simp)
    obtain ⟨g, h4, hg4⟩ : ∃ g, y 4 = .slice (some ⟨g, 0, none⟩) 1 1 ∧ w'.heap[g]? = some (.cells #[.string role.space, .string role.name, .slice a4 nq c4] 43 (0, 0)) := hd 4 (by simp)
    obtain ⟨v', w3, hrun, r1, r2, r3, _⟩ := run_append_ownAt (P := Try.prog) w' 37 37 i0 _ 56 Try.underlying37 hi0 hz0 hz1 hz2 rfl (by omega) (flat_atW w RoleR) (one_atW w one_role) (y 2) h2 (y 4) (m := [role]) (by rw [h4]; exact RowAt.one hg4 rfl HQ.out) (by unfold maxLen; simp; have := Hnr.out; omega) (by simp; have := Hnr.out; omega) hb.size
    refine owesK_makes (w' := w3) v' (by rfl) ?_ r1 (then_of rfl (grow_of h2 r2))
    simp only [putAll, List.take_succ_cons, List.take_zero]
    try simp only [Act.put, List.setIfInBounds_toArray, List.set_cons_zero, List.set_cons_succ]
    exact exec_append (by rfl) (by rfl) (by rfl) hrun
  · intro y w' hb hd
    refine owesK_here (.pointer (some ⟨gx, 1, none⟩)) (by rfl) ?_ rfl (else_of (by decide) (else_of (by decide) (Below.refl _ _)))
    simp only [putAll, List.take_succ_cons, List.take_zero]
    go_simp
  · intro y w' hb hd
    have h0 : y 6 = .pointer (some ⟨gx, 1, none⟩) := hd 6 (by simp)
    have d0 := (hb.block gx lx).trans A0.out
    have cc := cell_block d0 1
    clear d0
    refine owesK_here (.slice a2 nb c2) (by rfl) ?_ rfl (else_of (by decide) (else_of (by decide) (Below.refl _ _)))
    simp only [putAll, List.take_succ_cons, List.take_zero]
    go_simp
  · intro y w' hb hd
    have h0 : y 7 = .slice a2 nb c2 := hd 7 (by simp)
    have hbw : Below w.heap.size w w' := Hbw2.out.trans (hb.mono hs02)
    refine owesK_call 19 #[.slice a2 nb c2] (by rfl) ?_ ((copyBind_any _ _ w w' (Hbb.out.atW hbw) (by rw [Hnb.out]; omega)).mono ?_)
    · simp only [putAll, List.take_succ_cons, List.take_zero]
      go_simp
    · rintro _ w3 ⟨v3, rfl, ho, hb3⟩
      exact ⟨v3, rfl, ho.mono hb.size, else_of (by decide) (else_of (by decide) hb3)⟩
  · intro y w' hb hd
    have d0 := (hb.block gd ld).trans A2.out
    have cc := fun i => cell_block d0 i
    clear d0
    refine owesK_here (.agg #[.string bd.space, .string bd.name, .string bd.role, .bool bd.whole, .slice a5 nu c5, .slice a6 ns c6]) (by rfl) ?_ rfl (else_of (by decide) (else_of (by decide) (Below.refl _ _)))
    simp only [putAll, List.take_succ_cons, List.take_zero]
    go_simp
  · intro y w' hb hd
    have h0 : y 9 = .agg #[.string bd.space, .string bd.name, .string bd.role, .bool bd.whole, .slice a5 nu c5, .slice a6 ns c6] := hd 9 (by simp)
    refine owesK_makes (w' := w'.alloc (.cells #[.string bd.space, .string bd.name, .string bd.role, .bool bd.whole, .slice a5 nu c5, .slice a6 ns c6] 46)) (.slice (some ⟨w'.heap.size, 0, none⟩) 1 1) (by rfl) ?_ ⟨_, rfl, heap_alloc_new w' _⟩ (else_of (by decide) (else_of (by decide) ((Below.refl _ _).alloc (Nat.le_refl _) _)))
    simp only [putAll, List.take_succ_cons, List.take_zero]
    rw [h0]
    go_simp
  · intro y w' hb hd
    have h2 : OwnAt (AtW w BindR) 6 w' w2.heap.size 46 (y 8) x.binds := hd 8 (by simp)
    obtain ⟨g, h4, hg4⟩ : ∃ g, y 10 = .slice (some ⟨g, 0, none⟩) 1 1 ∧ w'.heap[g]? = some (.cells #[.string bd.space, .string bd.name, .string bd.role, .bool bd.whole, .slice a5 nu c5, .slice a6 ns c6] 46 (0, 0)) := hd 10 (by simp)
    obtain ⟨v', w3, hrun, r1, r2, r3, _⟩ := run_append_ownAt (P := Try.prog) w' 38 38 i1 _ 104 Try.underlying38 hi1 hy0 hy1 hy2 rfl (by omega) (flat_atW w BindR) (one_atW w one_bind) (y 8) h2 (y 10) (m := [bd]) (by rw [h4]; exact RowAt.one hg4 rfl HD.out) (by unfold maxLen; simp; have := Hnb.out; omega) (by simp; have := Hnb.out; omega) hb.size
    refine owesK_makes (w' := w3) v' (by rfl) ?_ r1 (else_of (by decide) (then_of rfl (grow_of h2 r2)))
    simp only [putAll, List.take_succ_cons, List.take_zero]
    try simp only [Act.put, List.setIfInBounds_toArray, List.set_cons_zero, List.set_cons_succ]
    exact exec_append (by rfl) (by rfl) (by rfl) hrun
  · intro y w' hb hd
    have h5 : OwnAt (AtW w RoleR) 3 w' w2.heap.size 43 (y 5) (x.roles ++ [role]) := hd 5 (by simp)
    have h11 : OwnAt (AtW w BindR) 6 w' w2.heap.size 46 (y 11) (x.binds ++ [bd]) := hd 11 (by simp)
    obtain ⟨a7, c7, E5, _, _⟩ := h5.row.len
    obtain ⟨a8, c8, E11, _, _⟩ := h11.row.len
    refine owesK_here (.agg #[y 5, y 11]) (by rfl) ?_ rfl (else_of (by decide) (else_of (by decide) (Below.refl _ _)))
    clear h5 h11 hd
    simp only [putAll, List.take_succ_cons, List.take_zero]
    rw [E5, E11]
    go_simp
  · intro y w' hb hd
    refine owesK_makes (w' := w'.alloc (.cells #[.slice none 0 0, .slice none 0 0] 40)) (.pointer (some ⟨w'.heap.size, 0, none⟩)) (by rfl) ?_ ⟨_, rfl, hb.size, heap_alloc_new w' _⟩ (else_of (by decide) (else_of (by decide) ((Below.refl _ _).alloc (Nat.le_refl _) _)))
    simp only [putAll, List.take_succ_cons, List.take_zero]
    go_simp
  · intro y w' hb hR
    have h5 : OwnAt (AtW w RoleR) 3 w' w2.heap.size 43 (y 5) (x.roles ++ [role]) := hR 5 (by omega) rfl
    have h11 : OwnAt (AtW w BindR) 6 w' w2.heap.size 46 (y 11) (x.binds ++ [bd]) := hR 11 (by omega) rfl
    have h12 : y 12 = .agg #[y 5, y 11] := hR 12 (by omega) rfl
    obtain ⟨gh, h13, hgh, hch⟩ : ∃ g, y 13 = .pointer (some ⟨g, 0, none⟩) ∧ w2.heap.size ≤ g ∧ w'.heap[g]? = some (.cells #[.slice none 0 0, .slice none 0 0] 40 (0, 0)) := hR 13 (by omega) rfl
    obtain ⟨a7, c7, E5, _, _⟩ := h5.row.len
    obtain ⟨a8, c8, E11, _, _⟩ := h11.row.len
    rw [E5] at h5
    rw [E11] at h11
    have H5 := Lib.hid h5
    have H11 := Lib.hid h11
    have Hch := Lib.hid hch
    have Hw := Lib.hid hb
    have hsw := hb.size
    clear hR h5 h11 hb hch
    simp only [putAll, List.take_succ_cons, List.take_zero, List.drop_succ_cons, List.drop_zero]
    rw [h12, h13, E5, E11]
    clear h12 h13 E5 E11
    try simp only [Act.put, List.setIfInBounds_toArray, List.set_cons_zero, List.set_cons_succ]
    refine wpList_store_box (by rfl) _ _ _ (by rfl) gh #[.slice a7 (x.roles ++ [role]).length c7, .slice a8 (x.binds ++ [bd]).length c8] (by rfl) (by rfl) _ _ Hch.out (by kernel_rfl) rfl (by simp [Value.oneCell']) ?_
    intro w3 hc3 ht3
    have Hb3 := Lib.hid (ht3.below Hw.out hgh)
    have hs3 := Hb3.out.size
    have Hbw3 := Lib.hid (Hbw2.out.trans (Hb3.out.mono hs02))
    have Ho5 := Lib.hid (H5.out.touch (flat_atW w RoleR) ht3 (fun g hg => by
      rintro rfl
      obtain ⟨_, _, cur, hc⟩ := H5.out.at hg
      rw [Hch.out] at hc
      cases hc))
    have Ho11 := Lib.hid (H11.out.touch (flat_atW w BindR) ht3 (fun g hg => by
      rintro rfl
      obtain ⟨_, _, cur, hc⟩ := H11.out.at hg
      rw [Hch.out] at hc
      cases hc))
    have HM : Hid (GrantsR w3 [.slice a7 (x.roles ++ [role]).length c7, .slice a8 (x.binds ++ [bd]).length c8] (moreG x role bd)) :=
      Lib.hid ⟨_, _, rfl, RowAt.ofW stays_role Ho5.out.row Hbw3.out, RowAt.ofW stays_bind Ho11.out.row Hbw3.out⟩
    obtain ⟨n7, Hn7⟩ : ∃ n, Hid ((x.roles ++ [role]).length = n) := ⟨_, Lib.hid rfl⟩
    obtain ⟨n8, Hn8⟩ : ∃ n, Hid ((x.binds ++ [bd]).length = n) := ⟨_, Lib.hid rfl⟩
    rw [Hn7.out] at HM hc3 ⊢
    rw [Hn8.out] at HM hc3 ⊢
    have cc := fun i => cell_block hc3 i
    have du := fun i => cell_block ((Hb3.out.block gu lu).trans A3.out) i
    have da := fun i => cell_block ((Hb3.out.block ga la).trans A4.out) i
    clear hc3 ht3 H5 H11 Hch Ho5 Ho11
    try simp only [Act.put, List.setIfInBounds_toArray, List.set_cons_zero, List.set_cons_succ]
    go_wp2_with fail
    refine (may_any _ _ _ (moreG x role bd) u a w3 HM.out (stays_user _ _ _ _ (keeps_below Hbw3.out) HU.out) Hokm.out Hok2.out Hoka.out).mono ?_
    rw [Hq.out, Hf.out]
    rintro E w4 ⟨rfl, hb4⟩
    have Hb4 := Lib.hid (Hb3.out.trans (hb4.mono hs3))
    have hs4 := Hb4.out.size
    clear cc du da hb4
    go_wp2_with fail
    refine (none_any w4).mono ?_
    rintro E w5 ⟨rfl, hb5⟩
    have Hb5 := Lib.hid (Hbw2.out.trans ((Hb4.out.trans (hb5.mono hs4)).mono hs02))
    clear hb5
    by_cases n1 : e = 0
    · by_cases n2 : f = 0
      · subst n1 n2
        have way : (p = false ∧ (q = true ∨ q = false)) ∨ (p = true ∧ q = true) := by
          cases p with
          | false => exact .inl ⟨rfl, by cases q <;> simp⟩
          | true => exact .inr ⟨rfl, by rw [← Hq.out]; exact may_more Hf.out Hp.out⟩
        rcases way with ⟨rfl, rfl | rfl⟩ | ⟨rfl, rfl⟩
        all_goals
          go_wp2_with fail
          go_ret
          exact ⟨rfl, Hb5.out⟩
      · have q1 : (f != 0) = true := by rw [bne_iff_ne]; exact n2
        have hq : q = false := by rw [← Hq.out]; exact mayP_of (by rw [Hf.out]; exact n2)
        subst n1 hq
        clear n2
        cases p
        all_goals
          go_wp2_with fail
          go_ret
          exact ⟨rfl, Hb5.out⟩
    · have q1 : (e != 0) = true := by rw [bne_iff_ne]; exact n1
      have hp : p = false := by rw [← Hp.out]; exact mayP_of (by rw [He.out]; exact n1)
      subst hp
      clear n1
      go_wp2_with fail
      go_ret
      exact ⟨rfl, Hb5.out⟩
end Go.Proofs.Ytkkfnihdnclgiaa
