/- grants: Held, May: their contracts. -/
import Derived.Test.YtkkfnihdnclgiaaGrantsMay
namespace Go.Proofs.Ytkkfnihdnclgiaa
open Go.RowKit

theorem held_ok {x : GGrants} (h : okGrants x) (u : GUser) (s : ByteArray) : ∀ r ∈ heldL x u s, okRule r := fun r hr => by
  unfold heldL at hr
  obtain ⟨b, _, hr⟩ := List.mem_flatMap.1 hr
  unfold bindRules at hr
  split at hr
  · obtain ⟨q, hq, hr⟩ := List.mem_flatMap.1 hr
    unfold rulesOf at hr
    split at hr
    · exact (h.2.1 q hq).2.2.2 r hr
    · cases hr
  · cases hr
theorem held_len {x : GGrants} (h : fewGrants x) (u : GUser) (s : ByteArray) : (heldL x u s).length ≤ 1152 := by
  have h1 := flatMap_len (bindRules x u s) 96 (l := x.binds) (fun b _ => bindRules_len h u s b)
  have h2 := h.2.1
  unfold heldL
  omega
/-- what a user has -/
def heldP (x : GGrants) (u : GUser) (s : ByteArray) : Int × List GRule := if codeC x u s ≠ 0 then (codeC x u s, []) else (0, heldL x u s)
def ToldAt (p : Int × List GRule) (w : World) (e : Ending) (w' : World) : Prop := ∃ v', e = .returned (.tuple #[v', .int .i64 p.1]) ∧ RowAt RuleR 3 w' v' p.2 ∧ Below w.heap.size w w'
theorem few_of_code {x : GGrants} {u : GUser} {s : ByteArray} (h : codeC x u s = 0) : fewGrants x := by
  unfold codeC at h
  rw [says_eq_zero] at h
  exact few_of_ok h.1
set_option maxRecDepth 100000 in
set_option maxHeartbeats 800000 in
theorem heldTold_any (yr yb yg : Value) (x : GGrants) (u : GUser) (s : ByteArray) (w : World) (h : GrantsR w [yr, yb] x) (hu : UserR w [.string u.name, yg] u) (hok : okGrants x) (hok2 : okUser u) (hs : s.size ≤ 1048576) :
    Calls Try.prog 21 #[.agg #[yr, yb], .agg #[.string u.name, yg], .string s] w (ToldAt (heldP x u s) w) := by
  have H := Lib.hid h
  have HU := Lib.hid hu
  have Hok := Lib.hid hok
  have Hok2 := Lib.hid hok2
  obtain ⟨_, _, hcs, hr, hb⟩ := h
  simp only [List.cons.injEq, and_true] at hcs
  obtain ⟨rfl, rfl⟩ := hcs
  obtain ⟨a1, c1, rfl, hc1, _⟩ := hr.len
  obtain ⟨a2, c2, rfl, hc2, _⟩ := hb.len
  obtain ⟨_, hcs, hg⟩ := hu
  simp only [List.cons.injEq, and_true, true_and] at hcs
  obtain rfl := hcs
  obtain ⟨a3, c3, rfl, hc3, _⟩ := hg.row.len
  obtain ⟨nr, Hnr⟩ : ∃ n, Hid (x.roles.length = n) := ⟨_, Lib.hid rfl⟩
  obtain ⟨nb, Hnb⟩ : ∃ n, Hid (x.binds.length = n) := ⟨_, Lib.hid rfl⟩
  obtain ⟨ng, Hng⟩ : ∃ n, Hid (u.groups.length = n) := ⟨_, Lib.hid rfl⟩
  obtain ⟨R, HR⟩ : ∃ R, Hid (heldP x u s = R) := ⟨_, Lib.hid rfl⟩
  obtain ⟨cd, Hcd⟩ : ∃ cd, Hid (codeC x u s = cd) := ⟨_, Lib.hid rfl⟩
  rw [HR.out]
  rw [Hnr.out] at H hc1 ⊢
  rw [Hnb.out] at H hc2 ⊢
  rw [Hng.out] at HU hc3 ⊢
  obtain ⟨w1, hw1⟩ : ∃ w1, w1 = (w.alloc (.cells #[.slice a1 nr c1, .slice a2 nb c2] 40)).alloc (.cells #[.string u.name, .slice a3 ng c3] 48) := ⟨_, rfl⟩
  obtain ⟨gu, hgu⟩ : ∃ gu, gu = w.heap.size + 1 := ⟨_, rfl⟩
  obtain ⟨gx, hgx⟩ : ∃ gx, gx = w.heap.size := ⟨_, rfl⟩
  have b1 : w1.heap[gx]? = some (.cells #[.slice a1 nr c1, .slice a2 nb c2] 40 (0, 0)) := by
    rw [hw1, hgx]
    exact below_block ((Below.refl _ _).alloc (Nat.le_refl _) _) (heap_alloc_new w _)
  have b2 : w1.heap[gu]? = some (.cells #[.string u.name, .slice a3 ng c3] 48 (0, 0)) := by
    have h9 := heap_alloc_new (w.alloc (.cells #[.slice a1 nr c1, .slice a2 nb c2] 40)) (.cells #[.string u.name, .slice a3 ng c3] 48)
    rw [hw1, hgu]
    simpa using h9
  have hb1 : Below w.heap.size w w1 := by rw [hw1]; exact ((Below.refl _ _).alloc (Nat.le_refl _) _).alloc (by simp) _
  have hs1 := hb1.size
  have Hb1 := Lib.hid hb1
  have B1 := Lib.hid b1
  have B2 := Lib.hid b2
  have cc := fun i => cell_block b1 i
  have dd := fun i => cell_block b2 i
  have Hw1 := Lib.hid hw1
  have Hgu := Lib.hid hgu
  have Hgx := Lib.hid hgx
  clear hr hb hg hok hok2 b1 b2 hb1 hw1 hgu hgx
  go_enter Try.func21, Try.ntmps21
  go_upto_region 1 with fail
  rw [← Hw1.out]
  try rw [← Hgu.out]
  rw [← Hgx.out]
  go_wp2_with fail
  refine (check3_any _ _ _ x u s w1 (stays_grants _ _ _ _ (keeps_below Hb1.out) H.out) (stays_user _ _ _ _ (keeps_below Hb1.out) HU.out) Hok.out Hok2.out hs).mono ?_
  rw [Hcd.out]
  rintro E w2 ⟨rfl, hb2⟩
  have Hb2 := Lib.hid (Hb1.out.trans (hb2.mono hs1))
  have hs2 := Hb2.out.size
  have B12 := Lib.hid (below_block hb2 B1.out)
  have B22 := Lib.hid (below_block hb2 B2.out)
  clear cc dd hb2
  have cc := fun i => cell_block B12.out i
  have dd := fun i => cell_block B22.out i
  by_cases h0 : cd = 0
  · subst h0
    have Hfew := Lib.hid (few_of_code Hcd.out)
    have HR2 : Hid (R = (0, heldL x u s)) := by show _ = _; rw [← HR.out]; unfold heldP; rw [if_neg (by rw [Hcd.out]; simp)]
    obtain ⟨L, HL⟩ : ∃ L, Hid (heldL x u s = L) := ⟨_, Lib.hid rfl⟩
    have hLl : L.length ≤ 1152 := by rw [← HL.out]; exact held_len Hfew.out u s
    have hLo : ∀ r ∈ L, okRule r := by rw [← HL.out]; exact held_ok Hok.out u s
    have HLo := Lib.hid hLo
    rw [HL.out] at HR2
    clear hLo
    go_wp2_with fail
    refine (held_any _ _ _ x u s w2 (stays_grants _ _ _ _ (keeps_below Hb2.out) H.out) (stays_user _ _ _ _ (keeps_below Hb2.out) HU.out) Hok.out Hok2.out Hfew.out).mono ?_
    rw [HL.out]
    rintro E w3 ⟨v3, rfl, ho3, hb3⟩
    have Hr3 := Lib.hid (RowAt.ofW stays_rule ho3.row hb3)
    have Hb3 := Lib.hid (Hb2.out.trans (hb3.mono hs2))
    have hs3 := Hb3.out.size
    clear ho3 hb3 cc dd
    go_wp2_with fail
    refine (copied_any _ L w3 Hr3.out HLo.out (by omega)).mono ?_
    rintro E w4 ⟨v4, rfl, ho4, hb4⟩
    have Hr4 := Lib.hid (RowAt.map ruleX_rule ho4.row)
    have Hb4 := Lib.hid (Hb3.out.trans (hb4.mono hs3))
    clear ho4 hb4
    go_wp2_with fail
    go_ret2
    rw [HR2.out]
    exact ⟨_, rfl, Hr4.out, Hb4.out⟩
  · have q1 : (cd != 0) = true := by rw [bne_iff_ne]; exact h0
    have HR2 : Hid (R = (cd, [])) := by show _ = _; rw [← HR.out]; unfold heldP; rw [if_pos (by rw [Hcd.out]; exact h0), Hcd.out]
    clear h0
    go_wp2_with fail
    go_ret2
    rw [HR2.out]
    exact ⟨_, rfl, RowAt.nil _, Hb2.out⟩
theorem mayP_of {x : GGrants} {u : GUser} {a : GAsk} (h : mayE x u a ≠ 0) : mayP x u a = false := by unfold mayP; rw [decide_eq_false h]; rfl
set_option maxRecDepth 100000 in
set_option maxHeartbeats 1600000 in
theorem may_any (yr yb yg : Value) (x : GGrants) (u : GUser) (a : GAsk) (w : World) (h : GrantsR w [yr, yb] x) (hu : UserR w [.string u.name, yg] u) (hok : okGrants x) (hok2 : okUser u) (hoka : okAsk a) :
    Calls Try.prog 17 #[.agg #[yr, yb], .agg #[.string u.name, yg], .agg #[.string a.verb, .string a.kind, .string a.space, .string a.name]] w fun e w' => e = .returned (.tuple #[.bool (mayP x u a), .int .i64 (mayE x u a)]) ∧ Below w.heap.size w w' := by
  have H := Lib.hid h
  have HU := Lib.hid hu
  have Hok := Lib.hid hok
  have Hok2 := Lib.hid hok2
  have Hoka := Lib.hid hoka
  obtain ⟨_, _, hcs, hr, hb⟩ := h
  simp only [List.cons.injEq, and_true] at hcs
  obtain ⟨rfl, rfl⟩ := hcs
  obtain ⟨a1, c1, rfl, hc1, _⟩ := hr.len
  obtain ⟨a2, c2, rfl, hc2, _⟩ := hb.len
  obtain ⟨_, hcs, hg⟩ := hu
  simp only [List.cons.injEq, and_true, true_and] at hcs
  obtain rfl := hcs
  obtain ⟨a3, c3, rfl, hc3, _⟩ := hg.row.len
  obtain ⟨nr, Hnr⟩ : ∃ n, Hid (x.roles.length = n) := ⟨_, Lib.hid rfl⟩
  obtain ⟨nb, Hnb⟩ : ∃ n, Hid (x.binds.length = n) := ⟨_, Lib.hid rfl⟩
  obtain ⟨ng, Hng⟩ : ∃ n, Hid (u.groups.length = n) := ⟨_, Lib.hid rfl⟩
  obtain ⟨p, Hp⟩ : ∃ p, Hid (mayP x u a = p) := ⟨_, Lib.hid rfl⟩
  obtain ⟨e, He⟩ : ∃ e, Hid (mayE x u a = e) := ⟨_, Lib.hid rfl⟩
  obtain ⟨cd, Hcd⟩ : ∃ cd, Hid (codeC x u ByteArray.empty = cd) := ⟨_, Lib.hid rfl⟩
  obtain ⟨ca, Hca⟩ : ∃ ca, Hid (askC a = ca) := ⟨_, Lib.hid rfl⟩
  have He2 : Hid (e = says cd ca) := by show _ = _; rw [← He.out]; unfold mayE; rw [Hcd.out, Hca.out]
  rw [Hp.out, He.out]
  rw [Hnr.out] at H hc1 ⊢
  rw [Hnb.out] at H hc2 ⊢
  rw [Hng.out] at HU hc3 ⊢
  obtain ⟨w1, hw1⟩ : ∃ w1, w1 = ((w.alloc (.cells #[.slice a1 nr c1, .slice a2 nb c2] 40)).alloc (.cells #[.string u.name, .slice a3 ng c3] 48)).alloc (.cells #[.string a.verb, .string a.kind, .string a.space, .string a.name] 50) := ⟨_, rfl⟩
  obtain ⟨ga, hga⟩ : ∃ ga, ga = w.heap.size + 2 := ⟨_, rfl⟩
  obtain ⟨gu, hgu⟩ : ∃ gu, gu = w.heap.size + 1 := ⟨_, rfl⟩
  obtain ⟨gx, hgx⟩ : ∃ gx, gx = w.heap.size := ⟨_, rfl⟩
  have b1 : w1.heap[gx]? = some (.cells #[.slice a1 nr c1, .slice a2 nb c2] 40 (0, 0)) := by
    rw [hw1, hgx]
    exact below_block ((Below.refl _ _).alloc (Nat.le_refl _) _) (below_block ((Below.refl _ _).alloc (Nat.le_refl _) _) (heap_alloc_new w _))
  have b2 : w1.heap[gu]? = some (.cells #[.string u.name, .slice a3 ng c3] 48 (0, 0)) := by
    rw [hw1, hgu]
    have h9 := heap_alloc_new (w.alloc (.cells #[.slice a1 nr c1, .slice a2 nb c2] 40)) (.cells #[.string u.name, .slice a3 ng c3] 48)
    exact below_block ((Below.refl _ _).alloc (Nat.le_refl _) _) (by simpa using h9)
  have b3 : w1.heap[ga]? = some (.cells #[.string a.verb, .string a.kind, .string a.space, .string a.name] 50 (0, 0)) := by
    have h9 := heap_alloc_new ((w.alloc (.cells #[.slice a1 nr c1, .slice a2 nb c2] 40)).alloc (.cells #[.string u.name, .slice a3 ng c3] 48)) (.cells #[.string a.verb, .string a.kind, .string a.space, .string a.name] 50)
    rw [hw1, hga]
    simpa using h9
  have hb1 : Below w.heap.size w w1 := by rw [hw1]; exact (((Below.refl _ _).alloc (Nat.le_refl _) _).alloc (by simp) _).alloc (by simp; omega) _
  have hs1 := hb1.size
  have Hb1 := Lib.hid hb1
  have B1 := Lib.hid b1
  have B2 := Lib.hid b2
  have B3 := Lib.hid b3
  have cc := fun i => cell_block b1 i
  have dd := fun i => cell_block b2 i
  have ee := fun i => cell_block b3 i
  have Hw1 := Lib.hid hw1
  have Hga := Lib.hid hga
  have Hgu := Lib.hid hgu
  have Hgx := Lib.hid hgx
  clear hr hb hg hok hok2 hoka b1 b2 b3 hb1 hw1 hga hgu hgx
  go_enter Try.func17, Try.ntmps17
  go_upto_region 1 with fail
  rw [← Hw1.out]
  try rw [← Hga.out]
  try rw [← Hgu.out]
  rw [← Hgx.out]
  go_wp2_with fail
  refine (check3_any _ _ _ x u ByteArray.empty w1 (stays_grants _ _ _ _ (keeps_below Hb1.out) H.out) (stays_user _ _ _ _ (keeps_below Hb1.out) HU.out) Hok.out Hok2.out (by decide)).mono ?_
  rw [Hcd.out]
  rintro E w2 ⟨rfl, hb2⟩
  have Hb2 := Lib.hid (Hb1.out.trans (hb2.mono hs1))
  have hs2 := Hb2.out.size
  have B12 := Lib.hid (below_block hb2 B1.out)
  have B22 := Lib.hid (below_block hb2 B2.out)
  have B32 := Lib.hid (below_block hb2 B3.out)
  clear cc dd ee hb2
  have cc := fun i => cell_block B12.out i
  have dd := fun i => cell_block B22.out i
  have ee := fun i => cell_block B32.out i
  by_cases h0 : cd = 0
  · subst h0
    rw [zero_says] at He2
    have Hfew := Lib.hid (few_of_code Hcd.out)
    go_wp2_with fail
    refine (ask_any a w2 Hoka.out).mono ?_
    rw [Hca.out]
    rintro E w3 ⟨rfl, hb3⟩
    have Hb3 := Lib.hid (Hb2.out.trans (hb3.mono hs2))
    have hs3 := Hb3.out.size
    have B13 := Lib.hid (below_block hb3 B12.out)
    have B23 := Lib.hid (below_block hb3 B22.out)
    have B33 := Lib.hid (below_block hb3 B32.out)
    clear cc dd ee hb3
    by_cases h1 : ca = 0
    · subst h1
      have HR2 : Hid (allowsL (heldL x u a.space) a = p) := by show _ = _; rw [← Hp.out]; unfold mayP; rw [He.out, He2.out]; simp
      obtain ⟨L, HL⟩ : ∃ L, Hid (heldL x u a.space = L) := ⟨_, Lib.hid rfl⟩
      have hLl : L.length ≤ 1152 := by rw [← HL.out]; exact held_len Hfew.out u a.space
      have hLo : ∀ r ∈ L, okRule r := by rw [← HL.out]; exact held_ok Hok.out u a.space
      have HLo := Lib.hid hLo
      rw [HL.out] at HR2
      clear hLo
      have hx1 : gx < w3.heap.size ∧ gu < w3.heap.size ∧ ga < w3.heap.size := by
        have g1 := B13.out; have g2 := B23.out; have g3 := B33.out
        refine ⟨?_, ?_, ?_⟩
        · rcases Nat.lt_or_ge gx w3.heap.size with h | h
          · exact h
          · rw [Array.getElem?_eq_none h] at g1; cases g1
        · rcases Nat.lt_or_ge gu w3.heap.size with h | h
          · exact h
          · rw [Array.getElem?_eq_none h] at g2; cases g2
        · rcases Nat.lt_or_ge ga w3.heap.size with h | h
          · exact h
          · rw [Array.getElem?_eq_none h] at g3; cases g3
      go_upto_region 6 with fail
      refine wp_region_relB 7 (fun i u' w' => match i with
        | 0 => u' 0 = .agg #[.slice a1 nr c1, .slice a2 nb c2] | 1 => u' 1 = .agg #[.string u.name, .slice a3 ng c3] | 2 => u' 2 = .pointer (some ⟨ga, 2, none⟩) | 3 => u' 3 = .string a.space
        | 4 => RowAt RuleR 3 w' (u' 4) L | 5 => u' 5 = .agg #[.string a.verb, .string a.kind, .string a.space, .string a.name] | 6 => u' 6 = .bool p | _ => True)
        (fun | 3 => [2] | 4 => [0, 1, 3] | 6 => [4, 5] | _ => []) (by kernel_rfl) (by kernel_rfl) ?_ ⟨?_, ?_, ?_, ?_, ?_, ?_, ?_, trivial⟩ ?_
      · intro j v w1 w2 hb h
        match j, h with
        | 0, h => exact h
        | 1, h => exact h
        | 2, h => exact h
        | 3, h => exact h
        | 4, h => exact RowAt.below stays_rule h hb
        | 5, h => exact h
        | 6, h => exact h
        | _ + 7, h => trivial
      · intro x' w' hb hd
        have d0 := (hb.block gx (by show gx < w3.heap.size; omega)).trans B13.out
        refine owes_here (.agg #[.slice a1 nr c1, .slice a2 nb c2]) (by rfl) ?_ rfl
        simp only [putAll, List.take_succ_cons, List.take_zero]
        have cc := fun i => cell_block d0 i
        clear d0
        go_simp
      · intro x' w' hb hd
        have d0 := (hb.block gu (by show gu < w3.heap.size; omega)).trans B23.out
        refine owes_here (.agg #[.string u.name, .slice a3 ng c3]) (by rfl) ?_ rfl
        simp only [putAll, List.take_succ_cons, List.take_zero]
        have cc := fun i => cell_block d0 i
        clear d0
        go_simp
      · intro x' w' hb hd
        refine owes_here (.pointer (some ⟨ga, 2, none⟩)) (by rfl) ?_ rfl
        simp only [putAll, List.take_succ_cons, List.take_zero]
        go_simp
      · intro x' w' hb hd
        have h0 : x' 2 = .pointer (some ⟨ga, 2, none⟩) := hd 2 (by simp)
        have d0 := (hb.block ga (by show ga < w3.heap.size; omega)).trans B33.out
        refine owes_here (.string a.space) (by rfl) ?_ rfl
        simp only [putAll, List.take_succ_cons, List.take_zero]
        have e3 := cell_block d0 2
        clear d0
        go_simp
      · intro x' w' hb hd
        have h0 : x' 0 = .agg #[.slice a1 nr c1, .slice a2 nb c2] := hd 0 (by simp)
        have h1 : x' 1 = .agg #[.string u.name, .slice a3 ng c3] := hd 1 (by simp)
        have h3 : x' 3 = .string a.space := hd 3 (by simp)
        have hb2 : Below w.heap.size w w' := Hb3.out.drew.trans (hb.mono (by show w.heap.size ≤ w3.heap.size; omega))
        refine owes_call 40 #[.agg #[.slice a1 nr c1, .slice a2 nb c2], .agg #[.string u.name, .slice a3 ng c3], .string a.space] (by rfl) ?_ ((held_any _ _ _ x u a.space w' (stays_grants _ _ _ _ (keeps_below hb2) H.out) (stays_user _ _ _ _ (keeps_below hb2) HU.out) Hok.out Hok2.out Hfew.out).mono ?_)
        · simp only [putAll, List.take_succ_cons, List.take_zero]
          go_simp
        · rw [HL.out]
          rintro _ w2 ⟨v2, rfl, ho, hb3⟩
          exact ⟨v2, rfl, RowAt.ofW stays_rule ho.row hb3, hb3⟩
      · intro x' w' hb hd
        have d0 := (hb.block ga (by show ga < w3.heap.size; omega)).trans B33.out
        refine owes_here (.agg #[.string a.verb, .string a.kind, .string a.space, .string a.name]) (by rfl) ?_ rfl
        simp only [putAll, List.take_succ_cons, List.take_zero]
        have cc := fun i => cell_block d0 i
        clear d0
        go_simp
      · intro x' w' hb hd
        have h4 : RowAt RuleR 3 w' (x' 4) L := hd 4 (by simp)
        have h5 : x' 5 = .agg #[.string a.verb, .string a.kind, .string a.space, .string a.name] := hd 5 (by simp)
        refine owes_call 22 #[x' 4, .agg #[.string a.verb, .string a.kind, .string a.space, .string a.name]] (by rfl) ?_ ((allowsAll_any _ L a w' h4 (by omega) HLo.out).mono ?_)
        · clear h4
          simp only [putAll, List.take_succ_cons, List.take_zero]
          go_simp
        · rw [HR2.out]
          rintro _ w2 ⟨rfl, hb3⟩
          exact ⟨_, rfl, rfl, hb3⟩
      · intro x' w' hb hR
        have h6 : x' 6 = .bool p := hR 6 (by omega)
        have hb2 : Below w.heap.size w w' := Hb3.out.drew.trans (hb.mono (by show w.heap.size ≤ w3.heap.size; omega))
        have Hb9 := Lib.hid hb2
        have He3 : Hid (e = 0) := He2
        clear hR hb hb2
        simp only [putAll, List.take_succ_cons, List.take_zero, List.drop_succ_cons, List.drop_zero]
        rw [h6]
        clear h6
        try simp only [Act.put, List.setIfInBounds_toArray, List.set_cons_zero, List.set_cons_succ]
        go_wp2_with fail
        go_ret2
        rw [He3.out]
        exact ⟨rfl, Hb9.out⟩
    · have q1 : (ca != 0) = true := by rw [bne_iff_ne]; exact h1
      have Hp2 : Hid (p = false) := by show _ = _; rw [← Hp.out]; exact mayP_of (by rw [He.out, He2.out]; exact h1)
      clear h1
      go_wp2_with fail
      go_ret2
      rw [Hp2.out, He2.out]
      exact ⟨rfl, Hb3.out⟩
  · have q1 : (cd != 0) = true := by rw [bne_iff_ne]; exact h0
    have q2 : (cd == 0) = false := by rw [beq_eq_false_iff_ne]; exact h0
    have He3 : Hid (e = cd) := by show _ = _; rw [He2.out]; unfold says; rw [if_neg h0]
    have Hp2 : Hid (p = false) := by show _ = _; rw [← Hp.out]; exact mayP_of (by rw [He.out, He3.out]; exact h0)
    clear h0
    go_wp2_with fail
    go_ret2
    rw [Hp2.out, He3.out]
    exact ⟨rfl, Hb2.out⟩
end Go.Proofs.Ytkkfnihdnclgiaa
