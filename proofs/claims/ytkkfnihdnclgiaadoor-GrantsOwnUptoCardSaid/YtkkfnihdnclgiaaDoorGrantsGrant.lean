/- grants: MayGrant: its contract. -/
import Derived.Test.YtkkfnihdnclgiaaDoorGrantsCovers
import Derived.Test.YtkkfnihdnclgiaaDoorGrantsTell
namespace Go.Proofs.YtkkfnihdnclgiaaDoor
open Go.RowKit

def escA : GAsk := ⟨⟨#[101, 115, 99, 97, 108, 97, 116, 101]⟩, ⟨#[114, 111, 108, 101, 115]⟩, ⟨#[]⟩, ⟨#[]⟩⟩
/-- a rule that is held is one of a role -/
theorem held_role {x : GGrants} {u : GUser} {s : ByteArray} {r : GRule} (h : r ∈ heldL x u s) : ∃ q ∈ x.roles, r ∈ q.rules := by
  unfold heldL at h
  obtain ⟨b, _, h⟩ := List.mem_flatMap.1 h
  unfold bindRules at h
  split at h
  · obtain ⟨q, hq, h⟩ := List.mem_flatMap.1 h
    unfold rulesOf at h
    split at h
    · exact ⟨q, hq, h⟩
    · cases h
  · cases h
theorem held_rule {x : GGrants} {u : GUser} {s : ByteArray} (hc : codeC x u s = 0) {r : GRule} (h : r ∈ heldL x u s) : ruleC r = 0 := by
  obtain ⟨q, hq, hr⟩ := held_role h
  unfold codeC at hc
  have h1 := ((says_eq_zero _ _).1 hc).1
  unfold grantsC at h1
  have h2 := ((says_eq_zero _ _).1 ((says_eq_zero _ _).1 h1).2).1
  rw [firstBad_zero] at h2
  obtain ⟨i, hi, hqi⟩ := List.getElem_of_mem hq
  have h3 := h2 (roleC (x.roles.take i) q) (by
    unfold rolesC
    rw [List.mem_mapIdx]
    exact ⟨i, hi, by rw [hqi]⟩)
  unfold roleC at h3
  have h4 := ((says_eq_zero _ _).1 ((says_eq_zero _ _).1 ((says_eq_zero _ _).1 h3).2).2).2
  unfold rulesC at h4
  have h5 := ((says_eq_zero _ _).1 h4).2
  rw [firstBad_zero] at h5
  exact h5 _ (List.mem_map.2 ⟨r, hr, rfl⟩)
theorem rule_small {r : GRule} (h : ruleC r = 0) : r.verbs.length ≤ 6 ∧ r.kinds.length ≤ 6 ∧ r.names.length ≤ 6 := by
  unfold ruleC at h
  have h1 := ((says_eq_zero _ _).1 h).1
  unfold need smallR at h1
  split at h1
  · rename_i h2
    simpa using h2
  · cases h1
theorem flat_small (f : GRule → List ByteArray) {l : List GRule} (h : ∀ r ∈ l, (f r).length ≤ 6) : (l.map f).flatten.length ≤ 6 * l.length := by
  induction l with
  | nil => simp
  | cons r l ih =>
    have h1 := h r (List.mem_cons_self ..)
    have h2 := ih fun q hq => h q (List.mem_cons_of_mem _ hq)
    simp only [List.map_cons, List.flatten_cons, List.length_append, List.length_cons]
    omega
theorem okCover_held {x : GGrants} {u : GUser} {s : ByteArray} (hok : okGrants x) (hc : codeC x u s = 0) {r : GRule} (hr : okRule r) : OkCover (heldL x u s) r := by
  have hl := held_len (few_of_code hc) u s
  have h1 := fun r h => rule_small (held_rule (x := x) (u := u) (s := s) hc (r := r) h)
  have f0 := flat_small (·.verbs) fun r h => (h1 r h).1
  have f1 := flat_small (·.kinds) fun r h => (h1 r h).2.1
  have f2 := flat_small (·.names) fun r h => (h1 r h).2.2
  exact ⟨by omega, held_ok hok u s, hr, by omega, by omega, by omega⟩
def grantBad (x : GGrants) (u : GUser) (s : ByteArray) (l : List GRule) : Int := says (codeC x u s) (rulesC l)
/-- what MayGrant tells -/
def GrantIs (x : GGrants) (u : GUser) (s : ByteArray) (l : List GRule) (e : Int) : Prop :=
  (grantBad x u s l ≠ 0 ∧ e = grantBad x u s l) ∨ (grantBad x u s l = 0 ∧ ((e = 0 ∧ (allowsL (heldL x u s) escA = true ∨ ∀ r ∈ l, coverP (heldL x u s) r)) ∨ (e = 14 ∧ allowsL (heldL x u s) escA = false ∧ ∃ r ∈ l, ¬ coverP (heldL x u s) r)))
def GrantAt (x : GGrants) (u : GUser) (s : ByteArray) (l : List GRule) (w : World) (E : Ending) (w' : World) : Prop := ∃ e, E = .returned (.int .i64 e) ∧ GrantIs x u s l e ∧ Below w.heap.size w w'

set_option maxRecDepth 100000 in
set_option maxHeartbeats 1600000 in
theorem mayGrant_any (yr yb yg v : Value) (x : GGrants) (u : GUser) (s : ByteArray) (l : List GRule) (w : World) (h : GrantsR w [yr, yb] x) (hu : UserR w [.string u.name, yg] u) (hl : RowAt RuleR 3 w v l) (hok : okGrants x) (hok2 : okUser u) (hs : s.size ≤ 1048576)
    (hll : l.length ≤ 1048576) (hlo : ∀ r ∈ l, okRule r) (htab : TabOK w) :
    Calls Tryd.prog 12 #[.agg #[yr, yb], .agg #[.string u.name, yg], .string s, v] w (GrantAt x u s l w) := by
  have H := Lib.hid h
  have HU := Lib.hid hu
  have HL := Lib.hid hl
  obtain ⟨_, _, hcs, hr, hb⟩ := h
  simp only [List.cons.injEq, and_true] at hcs
  obtain ⟨rfl, rfl⟩ := hcs
  obtain ⟨a1, c1, rfl, hc1, _⟩ := hr.len
  obtain ⟨a2, c2, rfl, hc2, _⟩ := hb.len
  obtain ⟨_, hcs, hg⟩ := hu
  simp only [List.cons.injEq, and_true, true_and] at hcs
  obtain rfl := hcs
  obtain ⟨a3, c3, rfl, hc3, _⟩ := hg.row.len
  obtain ⟨av, cv, rfl, _, _⟩ := hl.len
  have Hok := Lib.hid hok
  have Hok2 := Lib.hid hok2
  have Hlo := Lib.hid hlo
  have Htab := Lib.hid htab
  obtain ⟨nr, Hnr⟩ : ∃ n, Hid (x.roles.length = n) := ⟨_, Lib.hid rfl⟩
  obtain ⟨nb, Hnb⟩ : ∃ n, Hid (x.binds.length = n) := ⟨_, Lib.hid rfl⟩
  obtain ⟨ng, Hng⟩ : ∃ n, Hid (u.groups.length = n) := ⟨_, Lib.hid rfl⟩
  obtain ⟨cd, Hcd⟩ : ∃ cd, Hid (codeC x u s = cd) := ⟨_, Lib.hid rfl⟩
  obtain ⟨gbd, Hgbd⟩ : ∃ g, Hid (grantBad x u s l = g) := ⟨_, Lib.hid rfl⟩
  have Hsay : Hid (says cd (rulesC l) = gbd) := Lib.hid (by rw [← Hgbd.out, ← Hcd.out]; rfl)
  rw [Hnr.out] at H hc1 ⊢
  rw [Hnb.out] at H hc2 ⊢
  rw [Hng.out] at HU hc3 ⊢
  clear hr hb hg hok hok2 hl hlo htab
  go_enter Tryd.func12, Tryd.ntmps12
  go_upto_region 2 with fail
  obtain ⟨w1, hw1⟩ : ∃ w1, w1 = ((w.alloc (.cells #[.slice a1 nr c1, .slice a2 nb c2] 37)).alloc (.cells #[.string u.name, .slice a3 ng c3] 39)).alloc (.cells #[.int .i64 0] 69) := ⟨_, rfl⟩
  obtain ⟨gc, hgc⟩ : ∃ gc, gc = w.heap.size + 2 := ⟨_, rfl⟩
  obtain ⟨gu, hgu⟩ : ∃ gu, gu = w.heap.size + 1 := ⟨_, rfl⟩
  obtain ⟨gx, hgx⟩ : ∃ gx, gx = w.heap.size := ⟨_, rfl⟩
  rw [← hw1]
  try rw [← hgc]
  try rw [← hgu]
  rw [← hgx]
  have b1 : w1.heap[gx]? = some (.cells #[.slice a1 nr c1, .slice a2 nb c2] 37 (0, 0)) := by
    rw [hw1, hgx]
    exact below_block ((Below.refl _ _).alloc (Nat.le_refl _) _) (below_block ((Below.refl _ _).alloc (Nat.le_refl _) _) (heap_alloc_new w _))
  have b2 : w1.heap[gu]? = some (.cells #[.string u.name, .slice a3 ng c3] 39 (0, 0)) := by
    have h9 := heap_alloc_new (w.alloc (.cells #[.slice a1 nr c1, .slice a2 nb c2] 37)) (.cells #[.string u.name, .slice a3 ng c3] 39)
    rw [hw1, hgu]
    exact below_block ((Below.refl _ _).alloc (Nat.le_refl _) _) (by simpa using h9)
  have h1 : IsBad gc w1 0 := by
    have h9 := heap_alloc_new ((w.alloc (.cells #[.slice a1 nr c1, .slice a2 nb c2] 37)).alloc (.cells #[.string u.name, .slice a3 ng c3] 39)) (.cells #[.int .i64 0] 69)
    rw [hw1, hgc]
    simpa [IsBad] using h9
  have hb1 : Below w.heap.size w w1 := by rw [hw1]; exact (((Below.refl _ _).alloc (Nat.le_refl _) _).alloc (by simp) _).alloc (by simp; omega) _
  have hne : gx ≠ gc := by omega
  have hne2 : gu ≠ gc := by omega
  have hgw2 : w.heap.size ≤ gc := by omega
  have hs1 := hb1.size
  have Hb1 := Lib.hid hb1
  have H1 := Lib.hid h1
  have B1 := Lib.hid b1
  have B2 := Lib.hid b2
  have cc := fun i => cell_block b1 i
  have dd := fun i => cell_block b2 i
  clear hw1 hgc hgu hgx b1 b2 h1 hb1
  go_wp2_with fail
  refine (check3_any _ _ _ x u s w1 (stays_grants _ _ _ _ (keeps_below Hb1.out) H.out) (stays_user _ _ _ _ (keeps_below Hb1.out) HU.out) Hok.out Hok2.out hs).mono ?_
  rw [Hcd.out]
  rintro E w2 ⟨rfl, hb2⟩
  have K2 := Lib.hid (But.of (g := gc) hb2)
  have H2 := Lib.hid (H1.out.below hb2)
  clear cc dd hb2
  go_wp2_with fail
  refine (says_any gc 0 cd w2 H2.out).mono ?_
  rintro E w3 ⟨rfl, h1, h2⟩
  rw [zero_says] at h1
  have H3 := Lib.hid h1
  have K3 := Lib.hid (K2.out.trans h2)
  have hb3 := K3.out.below Hb1.out hs1 hgw2
  have Hb3 := Lib.hid hb3
  clear h1 h2 hb3
  go_wp2_with fail
  refine (rules_any gc cd _ l w w3 H3.out Hb3.out hgw2 HL.out hll Hlo.out).mono ?_
  rw [Hsay.out]
  rintro E w4 ⟨rfl, h1, h2⟩
  have H4 := Lib.hid h1
  have K4 := Lib.hid (K3.out.trans h2)
  have Hb4 := Lib.hid (K4.out.below Hb1.out hs1 hgw2)
  have hs4 := Hb4.out.size
  have X1 := Lib.hid (K4.out.keep B1.out hne)
  have X2 := Lib.hid (K4.out.keep B2.out hne2)
  have ce : ∀ i, w4.cell? ⟨gc, i, none⟩ = #[Value.int .i64 gbd][i]? := fun i => cell_block h1 i
  clear h1 h2
  have cc := fun i => cell_block X1.out i
  have dd := fun i => cell_block X2.out i
  by_cases h0 : gbd = 0
  · subst h0
    have hz := (says_eq_zero _ _).1 Hsay.out
    have hcd : codeC x u s = 0 := by rw [Hcd.out]; exact hz.1
    have Hz := Lib.hid hcd
    have Hfew := Lib.hid (few_of_code hcd)
    obtain ⟨L, HLd⟩ : ∃ L, Hid (heldL x u s = L) := ⟨_, Lib.hid rfl⟩
    have hcov : ∀ r, okRule r → OkCover L r := fun r hr => by rw [← HLd.out]; exact okCover_held Hok.out hcd hr
    have hLo : ∀ r ∈ L, okRule r := by rw [← HLd.out]; exact held_ok Hok.out u s
    have hLl : L.length ≤ 1152 := by rw [← HLd.out]; exact held_len Hfew.out u s
    have HLo := Lib.hid hLo
    have Hcov := Lib.hid hcov
    obtain ⟨es, Hes⟩ : ∃ es, Hid (allowsL L escA = es) := ⟨_, Lib.hid rfl⟩
    clear hz hcd hcov hLo
    go_wp2_with fail
    refine (held_any _ _ _ x u s w4 (stays_grants _ _ _ _ (keeps_below Hb4.out) H.out) (stays_user _ _ _ _ (keeps_below Hb4.out) HU.out) Hok.out Hok2.out Hfew.out).mono ?_
    rw [HLd.out]
    rintro E w5 ⟨v5, rfl, ho5, hb5⟩
    have R5 := Lib.hid (RowAt.ofW stays_rule ho5.row hb5)
    have Hb5 := Lib.hid (Hb4.out.trans (hb5.mono hs4))
    have hs5 := Hb5.out.size
    clear ho5 hb5 cc dd ce
    go_wp2_with fail
    refine (allowsAll_any v5 L escA w5 R5.out (by omega) HLo.out).mono ?_
    rw [Hes.out]
    rintro E w6 ⟨rfl, hb6⟩
    have R6 := Lib.hid (R5.out.below stays_rule hb6)
    have Hb6 := Lib.hid (Hb5.out.trans (hb6.mono hs5))
    have hs6 := Hb6.out.size
    clear hb6
    cases es with
    | true =>
      have Hgot : Hid (GrantIs x u s l 0) := Lib.hid (.inr ⟨Hgbd.out, .inl ⟨rfl, .inl (by rw [HLd.out]; exact Hes.out)⟩⟩)
      go_wp2_with fail
      go_ret
      exact ⟨_, rfl, Hgot.out, Hb6.out⟩
    | false =>
      go_wp2_with fail
      go_loopg [42] l.length (fun k u42 wr => ∃ i : Nat, i + k = l.length ∧ u42 = .int .i64 (i : Int) ∧ Hid (∀ r ∈ l.take i, coverP L r) ∧ Hid (Below w6.heap.size w6 wr))
      case atStart => exact ⟨0, by omega, rfl, Lib.hid (fun v hv => by simp at hv), Lib.hid (Below.refl _ _)⟩
      case round =>
        obtain ⟨i, hig, rfl, Hall, Hbel⟩ := hrel
        have hsr := Hbel.out.size
        have Hbr := Lib.hid (Hb6.out.trans (Hbel.out.mono hs6))
        cases gk with
        | zero =>
          obtain rfl : i = l.length := by omega
          have Hgot : Hid (GrantIs x u s l 0) := Lib.hid (.inr ⟨Hgbd.out, .inl ⟨rfl, .inr (by
            rw [HLd.out]
            have := Hall.out
            rwa [List.take_of_length_le (Nat.le_refl _)] at this)⟩⟩)
          go_wp2_with fail
          go_ret
          exact ⟨_, rfl, Hgot.out, Hbr.out⟩
        | succ k =>
          have hil : i < l.length := by omega
          obtain ⟨r, hri⟩ : ∃ r, l[i]? = some r := ⟨l[i]'(by omega), List.getElem?_eq_getElem _⟩
          obtain ⟨bk, o, c', hv, _, _, hbs, hcell⟩ := HL.out.form (by omega) (by omega)
          injection hv with u1 u2 u3
          subst u1
          clear u2 u3
          obtain ⟨ds, _, hcc, hR⟩ := hcell i r hri
          have hR2 := hR
          obtain ⟨y0, y1, y2, rfl, s0, s1, s2⟩ := hR
          obtain ⟨d0, f0, rfl, _, _⟩ := s0.row.len
          obtain ⟨d1, f1, rfl, _, _⟩ := s1.row.len
          obtain ⟨d2, f2, rfl, _, _⟩ := s2.row.len
          have HR2 := Lib.hid hR2
          have e0 : wr.cell? ⟨bk, o + i * 3, none⟩ = some (.slice d0 r.verbs.length f0) := (Hbr.out.cell (p := ⟨bk, _, none⟩) hbs).trans (by simpa using hcc 0 _ rfl)
          have e1 : wr.cell? ⟨bk, o + i * 3 + 1, none⟩ = some (.slice d1 r.kinds.length f1) := (Hbr.out.cell (p := ⟨bk, _, none⟩) hbs).trans (hcc 1 _ rfl)
          have e2 : wr.cell? ⟨bk, o + i * 3 + 2, none⟩ = some (.slice d2 r.names.length f2) := (Hbr.out.cell (p := ⟨bk, _, none⟩) hbs).trans (hcc 2 _ rfl)
          have q1 : (0 : Int) ≤ (i : Int) := by omega
          have q2 : (i : Int) < (l.length : Int) := by omega
          have Hri := Lib.hid hri
          have Hro := Lib.hid (Hlo.out r (List.mem_of_getElem? hri))
          have hbs2 : bk < wr.heap.size := by have := Hbr.out.size; omega
          clear hcc hcell hR2 hri s0 s1 s2
          have Hal : ∀ o : Obj, Hid (Below wr.heap.size wr (wr.alloc o)) := fun o => Lib.hid ((Below.refl _ _).alloc (Nat.le_refl _) o)
          have Hal0 : ∀ o : Obj, Hid (Below w.heap.size w (wr.alloc o)) := fun o => Lib.hid (Hbr.out.trans ((Hal o).out.mono Hbr.out.size))
          have Hal6 : ∀ o : Obj, Hid (Below w6.heap.size w6 (wr.alloc o)) := fun o => Lib.hid (Hbel.out.trans ((Hal o).out.mono hsr))
          go_wp2_with fail
          refine (covers_any v5 _ _ _ L r _ (R6.out.below stays_rule (Hal6 _).out) (stays_rule _ _ _ _ (keeps_below (Hal0 _).out) HR2.out) (Hcov.out r Hro.out) (var_keep Htab.out (Hal0 _).out)).mono ?_
          rintro E w7 ⟨b, rfl, hb, hb7⟩
          have Hbb := Lib.hid hb
          have Hb7 := Lib.hid ((Hal6 (.cells #[.slice d0 r.verbs.length f0, .slice d1 r.kinds.length f1, .slice d2 r.names.length f2] 25)).out.trans (hb7.mono (by simp; omega)))
          have Hb70 := Lib.hid (Hb6.out.trans (Hb7.out.mono hs6))
          clear hb hb7 e0 e1 e2
          cases b with
          | true =>
            have Hall2 : Hid (∀ r ∈ l.take (i + 1), coverP L r) := Lib.hid fun q hq => by
              rw [List.take_add_one, Hri.out] at hq
              rcases List.mem_append.1 hq with h | h
              · exact Hall.out q h
              · obtain rfl : q = r := by simpa using h
                exact Hbb.out.1 rfl
            go_wp2_with fail
            go_roundg k
            case measure => omega
            case rel => exact ⟨i + 1, by omega, by go_num, Hall2, Hb7⟩
          | false =>
            have Hgot : Hid (GrantIs x u s l 14) := Lib.hid (.inr ⟨Hgbd.out, .inr ⟨rfl, by rw [HLd.out]; exact Hes.out, r, List.mem_of_getElem? Hri.out, by rw [HLd.out]; exact fun h => by have := Hbb.out.2 h; cases this⟩⟩)
            go_wp2_with fail
            go_ret
            exact ⟨_, rfl, Hgot.out, Hb70.out⟩
  · have q1 : (gbd != 0) = true := by rw [bne_iff_ne]; exact h0
    have Hgot : Hid (GrantIs x u s l gbd) := Lib.hid (.inl ⟨by rw [Hgbd.out]; exact h0, Hgbd.out.symm⟩)
    clear h0
    go_wp2_with fail
    go_ret
    exact ⟨_, rfl, Hgot.out, Hb4.out⟩
end Go.Proofs.YtkkfnihdnclgiaaDoor
