/- grants: Held, May: their contracts. -/
import Derived.Test.YtkkfnihdnclgiaaDoorGrantsMay
namespace Go.Proofs.YtkkfnihdnclgiaaDoor
open Go.RowKit

theorem held_ok {x : GGrants} (h : okGrants x) (u : GUser) (s : ByteArray) : ∀ r ∈ heldL x u s, okRule r := fun r hr => by
  unfold heldL at hr
  obtain ⟨b, _, hr⟩ := List.mem_flatMap.1 hr
  unfold bindRules at hr
  split at hr
  · obtain ⟨q, hq, hr⟩ := List.mem_flatMap.1 hr
    unfold rulesOf at hr
    split at hr
    · exact (h.2.1 q hq).2.2.2 r hr
    · cases hr
  · cases hr
theorem held_len {x : GGrants} (h : fewGrants x) (u : GUser) (s : ByteArray) : (heldL x u s).length ≤ 1152 := by
  have h1 := flatMap_len (bindRules x u s) 96 (l := x.binds) (fun b _ => bindRules_len h u s b)
  have h2 := h.2.1
  unfold heldL
  omega
/-- what a user has -/
def heldP (x : GGrants) (u : GUser) (s : ByteArray) : Int × List GRule := if codeC x u s ≠ 0 then (codeC x u s, []) else (0, heldL x u s)
def ToldAt (p : Int × List GRule) (w : World) (e : Ending) (w' : World) : Prop := ∃ v', e = .returned (.tuple #[v', .int .i64 p.1]) ∧ RowAt RuleR 3 w' v' p.2 ∧ Below w.heap.size w w'
theorem few_of_code {x : GGrants} {u : GUser} {s : ByteArray} (h : codeC x u s = 0) : fewGrants x := by
  unfold codeC at h
  rw [says_eq_zero] at h
  exact few_of_ok h.1
set_option maxRecDepth 100000 in
set_option maxHeartbeats 800000 in
theorem heldTold_any (yr yb yg : Value) (x : GGrants) (u : GUser) (s : ByteArray) (w : World) (h : GrantsR w [yr, yb] x) (hu : UserR w [.string u.name, yg] u) (hok : okGrants x) (hok2 : okUser u) (hs : s.size ≤ 1048576) :
    Calls Tryd.prog 11 #[.agg #[yr, yb], .agg #[.string u.name, yg], .string s] w (ToldAt (heldP x u s) w) := by
  have H := Lib.hid h
  have HU := Lib.hid hu
  have Hok := Lib.hid hok
  have Hok2 := Lib.hid hok2
  obtain ⟨_, _, hcs, hr, hb⟩ := h
  simp only [List.cons.injEq, and_true] at hcs
  obtain ⟨rfl, rfl⟩ := hcs
  obtain ⟨a1, c1, rfl, hc1, _⟩ := hr.len
  obtain ⟨a2, c2, rfl, hc2, _⟩ := hb.len
  obtain ⟨_, hcs, hg⟩ := hu
  simp only [List.cons.injEq, and_true, true_and] at hcs
  obtain rfl := hcs
  obtain ⟨a3, c3, rfl, hc3, _⟩ := hg.row.len
  obtain ⟨nr, Hnr⟩ : ∃ n, Hid (x.roles.length = n) := ⟨_, Lib.hid rfl⟩
  obtain ⟨nb, Hnb⟩ : ∃ n, Hid (x.binds.length = n) := ⟨_, Lib.hid rfl⟩
  obtain ⟨ng, Hng⟩ : ∃ n, Hid (u.groups.length = n) := ⟨_, Lib.hid rfl⟩
  obtain ⟨R, HR⟩ : ∃ R, Hid (heldP x u s = R) := ⟨_, Lib.hid rfl⟩
  obtain ⟨cd, Hcd⟩ : ∃ cd, Hid (codeC x u s = cd) := ⟨_, Lib.hid rfl⟩
  rw [HR.out]
  rw [Hnr.out] at H hc1 ⊢
  rw [Hnb.out] at H hc2 ⊢
  rw [Hng.out] at HU hc3 ⊢
  obtain ⟨w1, hw1⟩ : ∃ w1, w1 = (w.alloc (.cells #[.slice a1 nr c1, .slice a2 nb c2] 37)).alloc (.cells #[.string u.name, .slice a3 ng c3] 39) := ⟨_, rfl⟩
  obtain ⟨gu, hgu⟩ : ∃ gu, gu = w.heap.size + 1 := ⟨_, rfl⟩
  obtain ⟨gx, hgx⟩ : ∃ gx, gx = w.heap.size := ⟨_, rfl⟩
  have b1 : w1.heap[gx]? = some (.cells #[.slice a1 nr c1, .slice a2 nb c2] 37 (0, 0)) := by
    rw [hw1, hgx]
    exact below_block ((Below.refl _ _).alloc (Nat.le_refl _) _) (heap_alloc_new w _)
  have b2 : w1.heap[gu]? = some (.cells #[.string u.name, .slice a3 ng c3] 39 (0, 0)) := by
    have h9 := heap_alloc_new (w.alloc (.cells #[.slice a1 nr c1, .slice a2 nb c2] 37)) (.cells #[.string u.name, .slice a3 ng c3] 39)
    rw [hw1, hgu]
    simpa using h9
  have hb1 : Below w.heap.size w w1 := by rw [hw1]; exact ((Below.refl _ _).alloc (Nat.le_refl _) _).alloc (by simp) _
  have hs1 := hb1.size
  have Hb1 := Lib.hid hb1
  have B1 := Lib.hid b1
  have B2 := Lib.hid b2
  have cc := fun i => cell_block b1 i
  have dd := fun i => cell_block b2 i
  have Hw1 := Lib.hid hw1
  have Hgu := Lib.hid hgu
  have Hgx := Lib.hid hgx
  clear hr hb hg hok hok2 b1 b2 hb1 hw1 hgu hgx
  go_enter Tryd.func11, Tryd.ntmps11
  go_upto_region 1 with fail
  rw [← Hw1.out]
  try rw [← Hgu.out]
  rw [← Hgx.out]
  go_wp2_with fail
  refine (check3_any _ _ _ x u s w1 (stays_grants _ _ _ _ (keeps_below Hb1.out) H.out) (stays_user _ _ _ _ (keeps_below Hb1.out) HU.out) Hok.out Hok2.out hs).mono ?_
  rw [Hcd.out]
  rintro E w2 ⟨rfl, hb2⟩
  have Hb2 := Lib.hid (Hb1.out.trans (hb2.mono hs1))
  have hs2 := Hb2.out.size
  have B12 := Lib.hid (below_block hb2 B1.out)
  have B22 := Lib.hid (below_block hb2 B2.out)
  clear cc dd hb2
  have cc := fun i => cell_block B12.out i
  have dd := fun i => cell_block B22.out i
  by_cases h0 : cd = 0
  · subst h0
    have Hfew := Lib.hid (few_of_code Hcd.out)
    have HR2 : Hid (R = (0, heldL x u s)) := by show _ = _; rw [← HR.out]; unfold heldP; rw [if_neg (by rw [Hcd.out]; simp)]
    obtain ⟨L, HL⟩ : ∃ L, Hid (heldL x u s = L) := ⟨_, Lib.hid rfl⟩
    have hLl : L.length ≤ 1152 := by rw [← HL.out]; exact held_len Hfew.out u s
    have hLo : ∀ r ∈ L, okRule r := by rw [← HL.out]; exact held_ok Hok.out u s
    have HLo := Lib.hid hLo
    rw [HL.out] at HR2
    clear hLo
    go_wp2_with fail
    refine (held_any _ _ _ x u s w2 (stays_grants _ _ _ _ (keeps_below Hb2.out) H.out) (stays_user _ _ _ _ (keeps_below Hb2.out) HU.out) Hok.out Hok2.out Hfew.out).mono ?_
    rw [HL.out]
    rintro E w3 ⟨v3, rfl, ho3, hb3⟩
    have Hr3 := Lib.hid (RowAt.ofW stays_rule ho3.row hb3)
    have Hb3 := Lib.hid (Hb2.out.trans (hb3.mono hs2))
    have hs3 := Hb3.out.size
    clear ho3 hb3 cc dd
    go_wp2_with fail
    refine (copied_any _ L w3 Hr3.out HLo.out (by omega)).mono ?_
    rintro E w4 ⟨v4, rfl, ho4, hb4⟩
    have Hr4 := Lib.hid (RowAt.map ruleX_rule ho4.row)
    have Hb4 := Lib.hid (Hb3.out.trans (hb4.mono hs3))
    clear ho4 hb4
    go_wp2_with fail
    go_ret2
    rw [HR2.out]
    exact ⟨_, rfl, Hr4.out, Hb4.out⟩
  · have q1 : (cd != 0) = true := by rw [bne_iff_ne]; exact h0
    have HR2 : Hid (R = (cd, [])) := by show _ = _; rw [← HR.out]; unfold heldP; rw [if_pos (by rw [Hcd.out]; exact h0), Hcd.out]
    clear h0
    go_wp2_with fail
    go_ret2
    rw [HR2.out]
    exact ⟨_, rfl, RowAt.nil _, Hb2.out⟩
theorem mayP_of {x : GGrants} {u : GUser} {a : GAsk} (h : mayE x u a ≠ 0) : mayP x u a = false := by unfold mayP; rw [decide_eq_false h]; rfl
end Go.Proofs.YtkkfnihdnclgiaaDoor
