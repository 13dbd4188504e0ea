/- grants: held, copied: their contracts. -/
import Derived.Test.YtkkfnihdnclgiaaDoorGrantsAllow
import Derived.Test.YtkkfnihdnclgiaaDoorRowX
import Derived.Test.YtkkfnihdnclgiaaDoorRel
namespace Go.Proofs.YtkkfnihdnclgiaaDoor
open Go.RowKit

theorem strAt_one {w : World} {v : Value} {l : List ByteArray} (h : StrAt w v l) : v.oneCell' = true := by
  rcases h with ⟨rfl, _⟩ | ⟨a, c, rfl, _⟩ <;> rfl
theorem one_rule : OneR RuleR := fun _ _ _ ⟨_, _, _, hcs, s0, s1, s2⟩ u hu => by
  subst hcs
  simp at hu
  rcases hu with rfl | rfl | rfl
  · exact strAt_one s0
  · exact strAt_one s1
  · exact strAt_one s2
theorem Tryd.infoRule : (Tryd.prog.info? 25).map (fun i => (i.zero, i.size, i.bytes)) = some (some (.agg #[.slice none 0 0, .slice none 0 0, .slice none 0 0]), 3, 72) := by kernel_rfl
/-- not many -/
def fewGrants (x : GGrants) : Prop := x.roles.length ≤ 12 ∧ x.binds.length ≤ 12 ∧ ∀ r ∈ x.roles, r.rules.length ≤ 8
theorem flatMap_len {α β : Type} (f : α → List β) (K : Nat) : ∀ {l : List α}, (∀ x ∈ l, (f x).length ≤ K) → (l.flatMap f).length ≤ l.length * K
  | [], _ => by simp
  | x :: r, h => by
    have h1 := h x (List.mem_cons_self ..)
    have h2 := flatMap_len f K (l := r) fun y hy => h y (List.mem_cons_of_mem _ hy)
    rw [List.flatMap_cons, List.length_append, List.length_cons, Nat.add_mul]
    omega
theorem rulesOf_len {x : GGrants} (h : fewGrants x) (b : GBind) : ∀ r ∈ x.roles, (rulesOf b r).length ≤ 8 := fun r hr => by
  unfold rulesOf
  split
  · exact h.2.2 r hr
  · simp
theorem bindRules_len {x : GGrants} (h : fewGrants x) (u : GUser) (s : ByteArray) (b : GBind) : (bindRules x u s b).length ≤ 96 := by
  unfold bindRules
  split
  · have := flatMap_len (rulesOf b) 8 (rulesOf_len h b)
    have := h.1
    omega
  · simp
theorem few_of_ok {x : GGrants} (h : grantsC x = 0) : fewGrants x := by
  unfold grantsC at h
  rw [says_eq_zero, says_eq_zero] at h
  obtain ⟨h1, h2, _⟩ := h
  have h3 : x.roles.length ≤ 12 ∧ x.binds.length ≤ 12 := by
    unfold need at h1
    split at h1
    · rename_i h4; simpa using h4
    · cases h1
  refine ⟨h3.1, h3.2, fun r hr => ?_⟩
  obtain ⟨i, hi⟩ := List.getElem?_of_mem hr
  rw [firstBad_zero] at h2
  have h4 := h2 (roleC (x.roles.take i) r) (List.mem_of_getElem? (i := i) (by unfold rolesC; rw [List.getElem?_mapIdx, hi]; rfl))
  unfold roleC rulesC at h4
  simp only [says_eq_zero] at h4
  obtain ⟨_, _, _, h5, _⟩ := h4
  unfold need at h5
  split at h5
  · rename_i h6; simpa using h6
  · cases h5
set_option maxRecDepth 100000 in
set_option maxHeartbeats 1600000 in
theorem held_any (yr yb yg : Value) (x : GGrants) (u : GUser) (s : ByteArray) (w : World) (h : GrantsR w [yr, yb] x) (hu : UserR w [.string u.name, yg] u) (hok : okGrants x) (hok2 : okUser u) (hfew : fewGrants x) :
    Calls Tryd.prog 30 #[.agg #[yr, yb], .agg #[.string u.name, yg], .string s] w fun e w' => ∃ v', e = .returned v' ∧ OwnAt (AtW w RuleR) 3 w' w.heap.size 25 v' (heldL x u s) ∧ Below w.heap.size w w' := by
  have HU := Lib.hid hu
  obtain ⟨_, _, hcs, hr, hb⟩ := h
  simp only [List.cons.injEq, and_true] at hcs
  obtain ⟨rfl, rfl⟩ := hcs
  obtain ⟨a1, c1, rfl, hc1, _⟩ := hr.len
  obtain ⟨a2, c2, rfl, hc2, _⟩ := hb.len
  obtain ⟨_, hcs, hg⟩ := hu
  simp only [List.cons.injEq, and_true, true_and] at hcs
  obtain rfl := hcs
  obtain ⟨a3, c3, rfl, hc3, _⟩ := hg.row.len
  obtain ⟨okr, okrs, okb, okbs⟩ := hok
  have Hr := Lib.hid hr
  have Hb := Lib.hid hb
  have Hokr := Lib.hid okrs
  have Hokb := Lib.hid okbs
  have Hok2 := Lib.hid hok2
  have Hfew := Lib.hid hfew
  obtain ⟨nr, Hnr⟩ : ∃ n, Hid (x.roles.length = n) := ⟨_, Lib.hid rfl⟩
  obtain ⟨nb, Hnb⟩ : ∃ n, Hid (x.binds.length = n) := ⟨_, Lib.hid rfl⟩
  obtain ⟨ng, Hng⟩ : ∃ n, Hid (u.groups.length = n) := ⟨_, Lib.hid rfl⟩
  obtain ⟨i0, hi0, hz0, hz1, hz2⟩ := info_parts Tryd.infoRule
  have hnr12 : nr ≤ 12 := by rw [← Hnr.out]; exact hfew.1
  have hnb12 : nb ≤ 12 := by rw [← Hnb.out]; exact hfew.2.1
  rw [Hnr.out] at Hr okr hc1 ⊢
  rw [Hnb.out] at Hb okb hc2 ⊢
  rw [Hng.out] at HU hc3 ⊢
  clear hr hb hg okrs okbs hok2 hfew
  go_enter Tryd.func30, Tryd.ntmps30
  go_upto_region 2 with fail
  obtain ⟨w1, hw1⟩ : ∃ w1, w1 = (w.alloc (.cells #[.slice a1 nr c1, .slice a2 nb c2] 37)).alloc (.cells #[.string u.name, .slice a3 ng c3] 39) := ⟨_, rfl⟩
  obtain ⟨gu, hgu⟩ : ∃ gu, gu = w.heap.size + 1 := ⟨_, rfl⟩
  obtain ⟨gx, hgx⟩ : ∃ gx, gx = w.heap.size := ⟨_, rfl⟩
  rw [← hw1]
  try rw [← hgu]
  rw [← hgx]
  have b1 : w1.heap[gx]? = some (.cells #[.slice a1 nr c1, .slice a2 nb c2] 37 (0, 0)) := by
    rw [hw1, hgx]
    exact below_block ((Below.refl _ _).alloc (Nat.le_refl _) _) (heap_alloc_new w _)
  have b2 : w1.heap[gu]? = some (.cells #[.string u.name, .slice a3 ng c3] 39 (0, 0)) := by
    have h9 := heap_alloc_new (w.alloc (.cells #[.slice a1 nr c1, .slice a2 nb c2] 37)) (.cells #[.string u.name, .slice a3 ng c3] 39)
    rw [hw1, hgu]
    simpa using h9
  have hb1 : Below w.heap.size w w1 := by rw [hw1]; exact ((Below.refl _ _).alloc (Nat.le_refl _) _).alloc (by simp) _
  have hgx1 : gx < w1.heap.size := by rw [hw1, hgx]; simp; omega
  have hgu1 : gu < w1.heap.size := by rw [hw1, hgu]; simp
  have hs1 := hb1.size
  have Hb1 := Lib.hid hb1
  have B1 := Lib.hid b1
  have B2 := Lib.hid b2
  have cc := fun i => cell_block b1 i
  clear hw1 hgu hgx b1 b2 hb1
  go_wp2_with fail
  clear cc
  go_loopg [16, 7] nb (fun k u16 u7 wr => ∃ i : Nat, i + k = nb ∧ u16 = .int .i64 (i : Int) ∧ Hid (OwnAt (AtW w RuleR) 3 wr w1.heap.size 25 u7 ((x.binds.take i).flatMap (bindRules x u s))) ∧ Hid (Below w1.heap.size w1 wr))
  case atStart => exact ⟨0, by omega, rfl, Lib.hid (by rw [List.take_zero]; exact OwnAt.nil _), Lib.hid (Below.refl _ _)⟩
  case round =>
    obtain ⟨i, hig, rfl, Hown, Hbel⟩ := hrel
    cases gk with
    | zero =>
      obtain rfl : i = nb := by omega
      have h9 := Hown.out
      rw [List.take_of_length_le (by rw [Hnb.out]; exact Nat.le_refl _)] at h9
      have Hend := Lib.hid h9
      clear h9 Hown
      go_wp2_with fail
      go_ret
      exact ⟨_, rfl, Hend.out.mono hs1, Hb1.out.trans (Hbel.out.mono hs1)⟩
    | succ k =>
      have hil : i < nb := by omega
      obtain ⟨b, hbi⟩ : ∃ b, x.binds[i]? = some b := ⟨x.binds[i]'(by rw [Hnb.out]; omega), List.getElem?_eq_getElem _⟩
      obtain ⟨bk, o, c', hv, _, _, hbs, hcell⟩ := Hb.out.form (by rw [Hnb.out]; omega) (by omega)
      injection hv with u1 u2 u3
      subst u1
      obtain ⟨ds, _, hcc, hR⟩ := hcell i b hbi
      have hR2 := hR
      obtain ⟨y4, y5, rfl, hus, hgs⟩ := hR
      obtain ⟨a4, c4, rfl, hc4, _⟩ := hus.row.len
      obtain ⟨a5, c5, rfl, hc5, _⟩ := hgs.row.len
      obtain ⟨nu, Hnu⟩ : ∃ n, Hid (b.users.length = n) := ⟨_, Lib.hid rfl⟩
      obtain ⟨nq, Hnq⟩ : ∃ n, Hid (b.groups.length = n) := ⟨_, Lib.hid rfl⟩
      have hbw := Hb1.out.trans (Hbel.out.mono hs1)
      have e0 : wr.cell? ⟨bk, o + i * 6, none⟩ = some (.string b.space) := (hbw.cell (p := ⟨bk, _, none⟩) hbs).trans (by simpa using hcc 0 _ rfl)
      have e1 : wr.cell? ⟨bk, o + i * 6 + 1, none⟩ = some (.string b.name) := (hbw.cell (p := ⟨bk, _, none⟩) hbs).trans (hcc 1 _ rfl)
      have e2 : wr.cell? ⟨bk, o + i * 6 + 2, none⟩ = some (.string b.role) := (hbw.cell (p := ⟨bk, _, none⟩) hbs).trans (hcc 2 _ rfl)
      have e3 : wr.cell? ⟨bk, o + i * 6 + 3, none⟩ = some (.bool b.whole) := (hbw.cell (p := ⟨bk, _, none⟩) hbs).trans (hcc 3 _ rfl)
      have e4 : wr.cell? ⟨bk, o + i * 6 + 4, none⟩ = some (.slice a4 nu c4) := (hbw.cell (p := ⟨bk, _, none⟩) hbs).trans ((hcc 4 _ rfl).trans (by rw [Hnu.out]))
      have e5 : wr.cell? ⟨bk, o + i * 6 + 5, none⟩ = some (.slice a5 nq c5) := (hbw.cell (p := ⟨bk, _, none⟩) hbs).trans ((hcc 5 _ rfl).trans (by rw [Hnq.out]))
      rw [Hnu.out, Hnq.out] at hR2
      have HR2 := Lib.hid hR2
      have Hbok := Lib.hid (Hokb.out b (List.mem_of_getElem? hbi))
      have q1 : (0 : Int) ≤ (i : Int) := by omega
      have q2 : (i : Int) < (nb : Int) := by omega
      obtain ⟨on, Hon⟩ : ∃ on, Hid (bindOn u s b = on) := ⟨_, Lib.hid rfl⟩
      obtain ⟨base, Hbase⟩ : ∃ base, Hid ((x.binds.take i).flatMap (bindRules x u s) = base) := ⟨_, Lib.hid rfl⟩
      have Hnext : Hid ((x.binds.take (i + 1)).flatMap (bindRules x u s) = base ++ (if on = true then x.roles.flatMap (rulesOf b) else [])) := by
        show _ = _
        rw [take_flatMap _ _ hbi, Hbase.out]
        unfold bindRules
        rw [Hon.out]
      have hblen : base.length ≤ i * 96 := by
        rw [← Hbase.out]
        have h8 := flatMap_len (bindRules x u s) 96 (l := x.binds.take i) (fun b _ => bindRules_len Hfew.out u s b)
        rw [List.length_take] at h8
        have : min i x.binds.length ≤ i := Nat.min_le_left _ _
        omega
      rw [Hbase.out] at Hown
      have hsw := Hbel.out.size
      have Hbw := Lib.hid hbw
      have dd := fun i => cell_block ((Hbel.out.block _ hgu1).trans B2.out) i
      have hguw : gu < wr.heap.size := by omega
      clear hcc hcell hbi u2 u3 hus hgs hbw hR2 hc4 hc5
      go_upto_region 5 with fail
      obtain ⟨w5, hw5⟩ : ∃ w5, w5 = wr.alloc (.cells #[.string b.space, .string b.name, .string b.role, .bool b.whole, .slice a4 nu c4, .slice a5 nq c5] 77) := ⟨_, rfl⟩
      obtain ⟨gb, hgb⟩ : ∃ gb, gb = wr.heap.size := ⟨_, rfl⟩
      rw [← hw5, ← hgb]
      have b5 : w5.heap[gb]? = some (.cells #[.string b.space, .string b.name, .string b.role, .bool b.whole, .slice a4 nu c4, .slice a5 nq c5] 77 (0, 0)) := by rw [hw5, hgb]; exact heap_alloc_new wr _
      have hb5 : Below wr.heap.size wr w5 := by rw [hw5]; exact (Below.refl _ _).alloc (Nat.le_refl _) _
      have Hown5 := Lib.hid (Hown.out.below (flat_atW w RuleR).stays hb5)
      have Hbel5 := Lib.hid (Hbel.out.trans (hb5.mono hsw))
      have B5 := Lib.hid b5
      have hs5 := Hbel5.out.size
      have Hb5 := Lib.hid hb5
      have hg5 : gb < w5.heap.size := by rw [hw5, hgb]; simp
      clear dd hw5 hgb b5 e0 e1 e2 e3 e4 e5 Hown hb5 hguw
      have cc := fun i => cell_block B5.out i
      have dd := fun i => cell_block ((Hbel5.out.block _ hgu1).trans B2.out) i
      have Hu5 := Lib.hid (stays_user _ _ _ _ (keeps_below (Hb1.out.trans (Hbel5.out.mono hs1))) HU.out)
      have HR5 := Lib.hid (stays_bind _ _ _ _ (keeps_below (Hb1.out.trans (Hbel5.out.mono hs1))) HR2.out)
      go_cut [34] (fun u34 wx => u34 = .bool (!on) ∧ Hid (Below w5.heap.size w5 wx))
      case first =>
        obtain ⟨p, Hp⟩ : ∃ p, Hid (isForB b u = p) := ⟨_, Lib.hid rfl⟩
        have way : (p = false ∧ on = false) ∨ (p = true ∧ b.space.toList = [] ∧ b.space.toList.isEmpty = true ∧ on = true) ∨ (p = true ∧ (!b.space.toList.isEmpty) = true ∧ b.space.toList.isEmpty = false ∧ (b.space.toList == s.toList) = true ∧ on = true) ∨ (p = true ∧ (!b.space.toList.isEmpty) = true ∧ b.space.toList.isEmpty = false ∧ (b.space.toList == s.toList) = false ∧ on = false) := by
          have e := Hon.out
          unfold bindOn at e
          rw [Hp.out, eqB_empty] at e
          cases p with
          | false => exact .inl ⟨rfl, by rw [← e]; rfl⟩
          | true =>
            by_cases h0 : b.space.size = 0
            · have h1 := str_none h0
              rw [decide_eq_true h0] at e
              exact .inr (.inl ⟨rfl, h1, by rw [h1]; rfl, by rw [← e]; rfl⟩)
            · have h1 := str_some h0
              rw [decide_eq_false h0] at e
              cases h2 : eqB b.space s with
              | true => rw [h2] at e; exact .inr (.inr (.inl ⟨rfl, h1, by simpa using h1, h2, e.symm⟩))
              | false => rw [h2] at e; exact .inr (.inr (.inr ⟨rfl, h1, by simpa using h1, h2, e.symm⟩))
        rcases way with ⟨rfl, rfl⟩ | ⟨rfl, p1, p2, rfl⟩ | ⟨rfl, p1, p2, p3, rfl⟩ | ⟨rfl, p1, p2, p3, rfl⟩
        all_goals
          go_wp2_with fail
          refine (isFor_any _ _ _ b u w5 HR5.out Hu5.out Hbok.out Hok2.out).mono ?_
          rw [Hp.out]
          rintro E w6 ⟨rfl, hb6⟩
          have Hb6 := Lib.hid hb6
          clear cc dd
          have cc := fun i => cell_block (below_block hb6 B5.out) i
          clear hb6
          go_wp2_with fail
          go_meet
          exact ⟨rfl, Hb6⟩
      case rest =>
      obtain ⟨w6, rfl⟩ : ∃ w6, w6 = wc := ⟨_, rfl⟩
      obtain ⟨rfl, Hb6⟩ := hcut
      have Hown6 := Lib.hid (Hown5.out.below (flat_atW w RuleR).stays Hb6.out)
      have Hbel6 := Lib.hid (Hbel5.out.trans (Hb6.out.mono hs5))
      have B6 := Lib.hid (below_block Hb6.out B5.out)
      have hs6 := Hbel6.out.size
      clear cc dd Hown5 B5 Hbel5 Hbel Hu5 HR5
      have cc := fun i => cell_block B6.out i
      have dd := fun i => cell_block ((Hbel6.out.block _ hgx1).trans B1.out) i
      cases on with
      | false =>
        have Hown7 : Hid (OwnAt (AtW w RuleR) 3 w6 w1.heap.size 25 u7 ((x.binds.take (i + 1)).flatMap (bindRules x u s))) := Lib.hid (by rw [Hnext.out]; simpa using Hown6.out)
        go_wp2_with fail
        go_roundg k
        case measure => omega
        case rel => exact ⟨i + 1, by omega, by go_num, Hown7, Hbel6⟩
      | true =>
        obtain ⟨fr, Hfr⟩ : ∃ fr, Hid (fromOf b = fr) := ⟨_, Lib.hid rfl⟩
        obtain ⟨wh, Hwh⟩ : ∃ wh, Hid (b.whole = wh) := ⟨_, Lib.hid rfl⟩
        rw [Hwh.out] at cc B6
        go_upto_region 7 with fail
        go_upto_if 38 with fail
        go_cut [10] (fun u10 wx => u10 = .string fr ∧ w6 = wx)
        case first =>
          cases wh with
          | true =>
            have Hf2 : Hid (ByteArray.mk #[] = fr) := by show _ = _; rw [← Hfr.out]; unfold fromOf; rw [Hwh.out]; rfl
            go_wp2_with fail
            go_meet
            exact ⟨congrArg Value.string Hf2.out, rfl⟩
          | false =>
            have Hf2 : Hid (b.space = fr) := by show _ = _; rw [← Hfr.out]; unfold fromOf; rw [Hwh.out]; rfl
            go_wp2_with fail
            go_meet
            exact ⟨congrArg Value.string Hf2.out, rfl⟩
        case rest =>
        obtain ⟨rfl, rfl⟩ := hcut
        go_wp2_with fail
        clear cc dd
        obtain ⟨B6', HB6⟩ : ∃ W, W = w6 := ⟨_, rfl⟩
        clear HB6 B6'
        go_loopg [42, 7] nr (fun k2 u42 u7 wr => ∃ j : Nat, j + k2 = nr ∧ u42 = .int .i64 (j : Int) ∧ Hid (OwnAt (AtW w RuleR) 3 wr w1.heap.size 25 u7 (base ++ (x.roles.take j).flatMap (rulesOf b))) ∧ Hid (Below w1.heap.size w1 wr) ∧ Hid (wr.heap[gb]? = some (.cells #[.string b.space, .string b.name, .string b.role, .bool wh, .slice a4 nu c4, .slice a5 nq c5] 77 (0, 0))))
        case atStart => exact ⟨0, by omega, rfl, Lib.hid (by rw [List.take_zero]; simpa using Hown6.out), Hbel6, B6⟩
        case round =>
          obtain ⟨j, hjg, rfl, Hown7, Hbel7, B7⟩ := hrel
          have hs7 := Hbel7.out.size
          cases gk with
          | zero =>
            obtain rfl : j = nr := by omega
            have h9 := Hown7.out
            rw [List.take_of_length_le (by rw [Hnr.out]; exact Nat.le_refl _)] at h9
            have Hown8 : Hid (OwnAt (AtW w RuleR) 3 wr w1.heap.size 25 u7 ((x.binds.take (i + 1)).flatMap (bindRules x u s))) := Lib.hid (by rw [Hnext.out]; simpa using h9)
            clear h9
            go_wp2_with fail
            go_roundg k
            case measure => omega
            case rel => exact ⟨i + 1, by omega, by go_num, Hown8, Hbel7⟩
          | succ k2 =>
            have hjl : j < nr := by omega
            obtain ⟨r, hrj⟩ : ∃ r, x.roles[j]? = some r := ⟨x.roles[j]'(by rw [Hnr.out]; omega), List.getElem?_eq_getElem _⟩
            obtain ⟨bk, o, c', hv, _, _, hbs, hcell⟩ := Hr.out.form (by rw [Hnr.out]; omega) (by omega)
            injection hv with u1 u2 u3
            subst u1
            obtain ⟨ds, _, hcc, hR⟩ := hcell j r hrj
            obtain ⟨y2, rfl, hrr⟩ := hR
            obtain ⟨a6, c6, rfl, hc6, _⟩ := hrr.len
            have hbw := Hb1.out.trans (Hbel7.out.mono hs1)
            have e0 : wr.cell? ⟨bk, o + j * 3, none⟩ = some (.string r.space) := (hbw.cell (p := ⟨bk, _, none⟩) hbs).trans (by simpa using hcc 0 _ rfl)
            have e1 : wr.cell? ⟨bk, o + j * 3 + 1, none⟩ = some (.string r.name) := (hbw.cell (p := ⟨bk, _, none⟩) hbs).trans (hcc 1 _ rfl)
            have e2 : wr.cell? ⟨bk, o + j * 3 + 2, none⟩ = some (.slice a6 r.rules.length c6) := (hbw.cell (p := ⟨bk, _, none⟩) hbs).trans (hcc 2 _ rfl)
            have p1 : (0 : Int) ≤ (j : Int) := by omega
            have p2 : (j : Int) < (nr : Int) := by omega
            obtain ⟨bs2, Hbs2⟩ : ∃ bs2, Hid (base ++ (x.roles.take j).flatMap (rulesOf b) = bs2) := ⟨_, Lib.hid rfl⟩
            have Hstep : Hid (base ++ (x.roles.take (j + 1)).flatMap (rulesOf b) = bs2 ++ rulesOf b r) := by
              show _ = _
              rw [take_flatMap _ _ hrj, ← List.append_assoc, Hbs2.out]
            have hb2len : bs2.length ≤ i * 96 + j * 8 := by
              rw [← Hbs2.out, List.length_append]
              have h8 := flatMap_len (rulesOf b) 8 (l := x.roles.take j) (fun q hq => rulesOf_len Hfew.out b q (List.mem_of_mem_take hq))
              rw [List.length_take] at h8
              have : min j x.roles.length ≤ j := Nat.min_le_left _ _
              omega
            have hr8 : r.rules.length ≤ 8 := Hfew.out.2.2 r (List.mem_of_getElem? hrj)
            rw [Hbs2.out] at Hown7
            have hgb7 : gb < wr.heap.size := by
              rcases Nat.lt_or_ge gb wr.heap.size with h8 | h8
              · exact h8
              · have := B7.out; rw [Array.getElem?_eq_none h8] at this; cases this
            have cc := fun i => cell_block B7.out i
            have Hbw := Lib.hid hbw
            have Hrr := Lib.hid hrr
            clear hcc hcell hrj u2 u3 hbw hrr hc6
            obtain ⟨w7, hw7⟩ : ∃ w7, w7 = wr.alloc (.cells #[.string r.space, .string r.name, .slice a6 r.rules.length c6] 75) := ⟨_, rfl⟩
            have hb7 : Below wr.heap.size wr w7 := by rw [hw7]; exact (Below.refl _ _).alloc (Nat.le_refl _) _
            have Hown8 := Lib.hid (Hown7.out.below (flat_atW w RuleR).stays hb7)
            have Hbel8 := Lib.hid (Hbel7.out.trans (hb7.mono hs7))
            have B8 := Lib.hid (below_block hb7 B7.out)
            have hs8 := Hbel8.out.size
            have Hsrc := Lib.hid (Hrr.out.atW (Hbw.out.trans (hb7.mono Hbw.out.size)))
            have way : (eqB r.space fr = false ∧ Hid (rulesOf b r = [])) ∨ (eqB r.space fr = true ∧ eqB r.name b.role = false ∧ Hid (rulesOf b r = [])) ∨ (eqB r.space fr = true ∧ eqB r.name b.role = true ∧ Hid (rulesOf b r = r.rules)) := by
              unfold rulesOf
              rw [Hfr.out]
              cases h2 : eqB r.space fr with
              | false => exact .inl ⟨rfl, Lib.hid rfl⟩
              | true => cases h3 : eqB r.name b.role with
                | false => exact .inr (.inl ⟨rfl, rfl, Lib.hid rfl⟩)
                | true => exact .inr (.inr ⟨rfl, rfl, Lib.hid rfl⟩)
            unfold eqB at way
            have Hw7 := Lib.hid hw7
            clear hb7 hw7
            rcases way with ⟨t1, Ht⟩ | ⟨t1, t2, Ht⟩ | ⟨t1, t2, Ht⟩
            · have Hfin : Hid (OwnAt (AtW w RuleR) 3 w7 w1.heap.size 25 u7 (base ++ (x.roles.take (j + 1)).flatMap (rulesOf b))) := Lib.hid (by rw [Hstep.out, Ht.out, List.append_nil]; exact Hown8.out)
              rw [Hw7.out] at Hfin Hbel8 B8
              go_wp2_with fail
              go_roundg k2
              case measure => omega
              case rel => exact ⟨j + 1, by omega, by go_num, Hfin, Hbel8, B8⟩
            · have Hfin : Hid (OwnAt (AtW w RuleR) 3 w7 w1.heap.size 25 u7 (base ++ (x.roles.take (j + 1)).flatMap (rulesOf b))) := Lib.hid (by rw [Hstep.out, Ht.out, List.append_nil]; exact Hown8.out)
              rw [Hw7.out] at Hfin Hbel8 B8
              go_wp2_with fail
              go_roundg k2
              case measure => omega
              case rel => exact ⟨j + 1, by omega, by go_num, Hfin, Hbel8, B8⟩
            · rw [Hw7.out] at Hown8 Hbel8 B8 Hsrc hs8
              go_wp2_with (at_builtin; refine wpList_append_ownAt (R := AtW w RuleR) (k := 3) (e := 25) (B := w1.heap.size) (l := bs2) (m := r.rules) _ (by rfl) _ _ _ (by rfl) i0 _ 72 Tryd.underlying22 hi0 hz0 hz1 hz2 rfl (by omega) (flat_atW w RuleR) (one_atW w one_rule) _ (by rfl) Hown8.out _ (by rfl) Hsrc.out (by unfold maxLen; omega) (by omega) hs8 ?_)
              intro v' w9 hown9 hg9 hr9 _
              have Hbel9 := Lib.hid (below_of_grown Hbel8.out hs8 hg9 hr9)
              have B9 := Lib.hid (Hown8.out.sameBut hg9 gb _ _ _ B8.out (by decide))
              have Hfin : Hid (OwnAt (AtW w RuleR) 3 w9 w1.heap.size 25 v' (base ++ (x.roles.take (j + 1)).flatMap (rulesOf b))) := Lib.hid (by rw [Hstep.out, Ht.out]; exact hown9)
              clear hown9 hg9 hr9 Hown8 Hbel8 B8 Hsrc
              go_wp2_with fail
              go_roundg k2
              case measure => omega
              case rel => exact ⟨j + 1, by omega, by go_num, Hfin, Hbel9, B9⟩
end Go.Proofs.YtkkfnihdnclgiaaDoor
