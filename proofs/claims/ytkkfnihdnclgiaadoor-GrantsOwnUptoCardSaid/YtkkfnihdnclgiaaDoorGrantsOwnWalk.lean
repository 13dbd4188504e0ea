/- The walk of the law GrantsOwn. -/
import Derived.Test.YtkkfnihdnclgiaaDoorGrantsOwnPlain
import Derived.Test.YtkkfnihdnclgiaaDoorGrantsTab
namespace Go.Proofs.YtkkfnihdnclgiaaDoor
open Go.RowKit

theorem row_take {α : Type} {R : Rd α} {k : Nat} {w : World} {a : Option Addr} {n c m : Nat} {l : List α} (h : RowAt R k w (.slice a n c) l) (hm : m ≤ l.length) : RowAt R k w (.slice a m c) (l.take m) := by
  rcases h with ⟨h1, rfl⟩ | ⟨b, c', h1, h2, h3, h4⟩
  · cases h1
    obtain rfl : m = 0 := by simpa using hm
    exact .inl ⟨rfl, rfl⟩
  · cases h1
    refine .inr ⟨b, c, by rw [List.length_take, Nat.min_eq_left hm], by rw [List.length_take]; omega, h3, fun j x hx => ?_⟩
    refine h4 j x ?_
    rw [List.getElem?_take] at hx
    split at hx
    · exact hx
    · cases hx
set_option maxRecDepth 100000 in
set_option maxHeartbeats 3200000 in
theorem grantsOwn_walk (cs0 : Array Value) (x : GGrants) (cs1 : Array Value) (u : GUser) (s : ByteArray) (v : Value) (l : List GRule) (cs4 : Array Value) (a : GAsk) (w : World) (h0 : GrantsR w cs0.toList x) (h1 : UserR w cs1.toList u) (h3 : RowAt RuleR 3 w v l) (h4 : AskR w cs4.toList a)
    (hbulk : grantsB x + (userB u + (s.data.toList.length + 1 + ((l.map ruleB).sum + 1 + (askB a + 0)))) ≤ 1048576) (htab : TabOK w) :
    Calls Tryd.prog 4 #[.agg cs0, .agg cs1, .string s, v, .agg cs4] w fun e w' => e = .returned (.bool true) ∧ Below w.heap.size w w' := by
  have hok := okGrants_of (x := x) (by omega)
  have hok2 := okUser_of (u := u) (by omega)
  have hsd : s.data.toList.length = s.size := by simp
  have hs : s.size ≤ 1048576 := by rw [hsd] at hbulk; omega
  have hll : l.length ≤ 1048576 := by have := sum_ge_length ruleB (fun x => by unfold ruleB; omega) l; omega
  have hlo : ∀ r ∈ l, okRule r := fun r hr => okRule_of (by have := mem_sum ruleB hr; omega)
  have g0 := h0
  have g1 := h1
  obtain ⟨vr, vb, e0, hr, hb⟩ := h0
  obtain ⟨vg, e1, hg⟩ := h1
  have e4 : cs4 = #[.string a.verb, .string a.kind, .string a.space, .string a.name] := Array.toList_inj.1 h4
  have e0' : cs0 = #[vr, vb] := Array.toList_inj.1 e0
  have e1' : cs1 = #[.string u.name, vg] := Array.toList_inj.1 e1
  subst e0' e1' e4
  obtain ⟨a1, c1, rfl, hc1, _⟩ := hr.len
  obtain ⟨a2, c2, rfl, hc2, _⟩ := hb.len
  obtain ⟨a3, c3, rfl, hc3, _⟩ := hg.row.len
  have H : Hid (GrantsR w [.slice a1 x.roles.length c1, .slice a2 x.binds.length c2] x) := Lib.hid g0
  have HU : Hid (UserR w [.string u.name, .slice a3 u.groups.length c3] u) := Lib.hid g1
  have HL := Lib.hid h3
  have Hok := Lib.hid hok
  have Hok2 := Lib.hid hok2
  have Hlo := Lib.hid hlo
  have Htab := Lib.hid htab
  obtain ⟨nr, Hnr⟩ : ∃ n, Hid (x.roles.length = n) := ⟨_, Lib.hid rfl⟩
  obtain ⟨nb, Hnb⟩ : ∃ n, Hid (x.binds.length = n) := ⟨_, Lib.hid rfl⟩
  obtain ⟨ng, Hng⟩ : ∃ n, Hid (u.groups.length = n) := ⟨_, Lib.hid rfl⟩
  rw [Hnr.out] at H hc1 ⊢
  rw [Hnb.out] at H hc2 ⊢
  rw [Hng.out] at HU hc3 ⊢
  obtain ⟨w1, hw1⟩ : ∃ w1, w1 = ((w.alloc (.cells #[.slice a1 nr c1, .slice a2 nb c2] 37)).alloc (.cells #[.string u.name, .slice a3 ng c3] 39)).alloc (.cells #[.string a.verb, .string a.kind, .string a.space, .string a.name] 27) := ⟨_, rfl⟩
  obtain ⟨ga, hga⟩ : ∃ ga, ga = w.heap.size + 2 := ⟨_, rfl⟩
  obtain ⟨gu, hgu⟩ : ∃ gu, gu = w.heap.size + 1 := ⟨_, rfl⟩
  obtain ⟨gx, hgx⟩ : ∃ gx, gx = w.heap.size := ⟨_, rfl⟩
  have b1 : w1.heap[gx]? = some (.cells #[.slice a1 nr c1, .slice a2 nb c2] 37 (0, 0)) := by
    rw [hw1, hgx]
    exact below_block ((Below.refl _ _).alloc (Nat.le_refl _) _) (below_block ((Below.refl _ _).alloc (Nat.le_refl _) _) (heap_alloc_new w _))
  have b2 : w1.heap[gu]? = some (.cells #[.string u.name, .slice a3 ng c3] 39 (0, 0)) := by
    have h9 := heap_alloc_new (w.alloc (.cells #[.slice a1 nr c1, .slice a2 nb c2] 37)) (.cells #[.string u.name, .slice a3 ng c3] 39)
    rw [hw1, hgu]
    exact below_block ((Below.refl _ _).alloc (Nat.le_refl _) _) (by simpa using h9)
  have b3 : w1.heap[ga]? = some (.cells #[.string a.verb, .string a.kind, .string a.space, .string a.name] 27 (0, 0)) := by
    have h9 := heap_alloc_new ((w.alloc (.cells #[.slice a1 nr c1, .slice a2 nb c2] 37)).alloc (.cells #[.string u.name, .slice a3 ng c3] 39)) (.cells #[.string a.verb, .string a.kind, .string a.space, .string a.name] 27)
    rw [hw1, hga]
    simpa using h9
  have hb1 : Below w.heap.size w w1 := by rw [hw1]; exact (((Below.refl _ _).alloc (Nat.le_refl _) _).alloc (by simp) _).alloc (by simp; omega) _
  have hs1 := hb1.size
  have Hb1 := Lib.hid hb1
  have B1 := Lib.hid b1
  have B2 := Lib.hid b2
  have B3 := Lib.hid b3
  have cc := fun i => cell_block b1 i
  have dd := fun i => cell_block b2 i
  have Hw1 := Lib.hid hw1
  have Hga := Lib.hid hga
  have Hgu := Lib.hid hgu
  have Hgx := Lib.hid hgx
  clear hsd hr hb hg hok hok2 hlo htab b1 b2 b3 hb1 hw1 hga hgu hgx h3 h4 e0 e1 g0 g1 hbulk
  go_enter Tryd.func4, Tryd.ntmps4
  go_upto_region 1 with fail
  rw [← Hw1.out]
  try rw [← Hga.out]
  try rw [← Hgu.out]
  rw [← Hgx.out]
  clear Hw1 Hga Hgu Hgx
  go_wp2_with fail
  refine (heldTold_any _ _ _ x u s w1 (stays_grants _ _ _ _ (keeps_below Hb1.out) H.out) (stays_user _ _ _ _ (keeps_below Hb1.out) HU.out) Hok.out Hok2.out hs).mono ?_
  rintro E w2 ⟨v2, rfl, hr2, hb2⟩
  have Hb2 := Lib.hid (Hb1.out.trans (hb2.mono hs1))
  have hs2 := Hb2.out.size
  have B1 := Lib.hid (below_block hb2 B1.out)
  have B2 := Lib.hid (below_block hb2 B2.out)
  have B3 := Lib.hid (below_block hb2 B3.out)
  obtain ⟨e, He⟩ : ∃ e, Hid ((heldP x u s).1 = e) := ⟨_, Lib.hid rfl⟩
  obtain ⟨L, HLd⟩ : ∃ L, Hid ((heldP x u s).2 = L) := ⟨_, Lib.hid rfl⟩
  rw [HLd.out] at hr2
  rw [He.out]
  have R2 := Lib.hid hr2
  obtain ⟨b5, c5, rfl, hc5, hm5⟩ := hr2.len
  have hLl : L.length ≤ 1152 := by
    rw [← HLd.out]
    unfold heldP
    split
    · simp
    · rename_i h9
      exact held_len (few_of_code (by simpa using h9)) u s
  have hLo : ∀ r ∈ L, okRule r := by
    rw [← HLd.out]
    unfold heldP
    split
    · intro r hr; cases hr
    · exact held_ok Hok.out u s
  have HLo := Lib.hid hLo
  obtain ⟨nL, HnL⟩ : ∃ n, Hid (L.length = n) := ⟨_, Lib.hid rfl⟩
  rw [HnL.out] at R2 hc5 hLl ⊢
  clear hr2 hb2 cc dd hLo
  have cc := fun i => cell_block B1.out i
  have dd := fun i => cell_block B2.out i
  go_wp2_with fail
  refine (mayGrant_any _ _ _ v x u s l w2 (stays_grants _ _ _ _ (keeps_below Hb2.out) H.out) (stays_user _ _ _ _ (keeps_below Hb2.out) HU.out) (HL.out.below stays_rule Hb2.out) Hok.out Hok2.out hs hll Hlo.out (var_keep Htab.out Hb2.out)).mono ?_
  rintro E w3 ⟨f, rfl, hf, hb3⟩
  have Hf := Lib.hid hf
  have Hb3 := Lib.hid (Hb2.out.trans (hb3.mono hs2))
  have hs3 := Hb3.out.size
  have R3 := Lib.hid (R2.out.below stays_rule hb3)
  have B1 := Lib.hid (below_block hb3 B1.out)
  have B2 := Lib.hid (below_block hb3 B2.out)
  have B3 := Lib.hid (below_block hb3 B3.out)
  clear hf hb3 cc dd
  go_wp2_with fail
  refine (none_any _).mono ?_
  rintro E w4 ⟨rfl, hb4⟩
  have Hb4 := Lib.hid (Hb3.out.trans (hb4.mono hs3))
  have hs4 := Hb4.out.size
  have R4 := Lib.hid (R3.out.below stays_rule hb4)
  have B1 := Lib.hid (below_block hb4 B1.out)
  have B2 := Lib.hid (below_block hb4 B2.out)
  have B3 := Lib.hid (below_block hb4 B3.out)
  clear hb4
  have cc := fun i => cell_block B1.out i
  have dd := fun i => cell_block B2.out i
  by_cases hcd : codeC x u s = 0
  · have hP : heldP x u s = (0, heldL x u s) := by unfold heldP; rw [if_neg (by simpa using hcd)]
    have h9 := He.out
    rw [hP] at h9
    obtain rfl : (0 : Int) = e := h9
    have hLL : Hid (heldL x u s = L) := Lib.hid (by rw [← HLd.out, hP])
    have Hcd := Lib.hid hcd
    clear hcd hP He
    go_upto_region 7 with fail
    have q1 : (0 : Int) ≤ min (nL : Int) 8 := by omega
    have q2 : min (nL : Int) 8 ≤ (c5 : Int) := by omega
    go_upto_region 8 with fail
    obtain ⟨mm, hmm⟩ : ∃ m, m = (min (nL : Int) 8).toNat := ⟨_, rfl⟩
    rw [← hmm]
    have hm8 : mm ≤ 8 := by omega
    have hmL : mm ≤ nL := by omega
    have R5 : Hid (RowAt RuleR 3 w4 (.slice b5 mm c5) (L.take mm)) := Lib.hid (row_take R4.out (by rw [HnL.out]; exact hmL))
    have hown : ∀ r ∈ L.take mm, r ∈ heldL x u s := fun r hr => by rw [hLL.out]; exact List.mem_of_mem_take hr
    have Hown := Lib.hid hown
    have hl8 : (L.take mm).length ≤ 8 := by rw [List.length_take]; omega
    have Hown2 : Hid (∀ r ∈ L.take mm, okRule r) := Lib.hid fun r hr => HLo.out r (List.mem_of_mem_take hr)
    clear hmm hown q1 q2
    obtain ⟨es, Hes⟩ : ∃ es, Hid (allowsL L escA = es) := ⟨_, Lib.hid rfl⟩
    go_wp2_with fail
    refine (mayGrant_any _ _ _ _ x u s (L.take mm) w4 (stays_grants _ _ _ _ (keeps_below Hb4.out) H.out) (stays_user _ _ _ _ (keeps_below Hb4.out) HU.out) R5.out Hok.out Hok2.out hs (by omega) Hown2.out (var_keep Htab.out Hb4.out)).mono ?_
    rintro E w5 ⟨f2, rfl, hf2, hb5⟩
    obtain rfl : f2 = 0 := own_grant Hcd.out hl8 Hown.out hf2
    have Hb5 := Lib.hid (Hb4.out.trans (hb5.mono hs4))
    have hs5 := Hb5.out.size
    have R6 := Lib.hid (R4.out.below stays_rule hb5)
    have B3 := Lib.hid (below_block hb5 B3.out)
    clear hf2 hb5 cc dd
    by_cases hf0 : f = 0
    · subst hf0
      have Hp : ∃ p, Hid (allowsL l a = p) := ⟨_, Lib.hid rfl⟩
      obtain ⟨p, Hp⟩ := Hp
      go_wp2_with fail
      refine (allowsAll_any _ L escA w5 R6.out (by rw [HnL.out]; omega) HLo.out).mono ?_
      rw [Hes.out]
      rintro E w6 ⟨rfl, hb6⟩
      have Hb6 := Lib.hid (Hb5.out.trans (hb6.mono hs5))
      have hs6 := Hb6.out.size
      have R7 := Lib.hid (R6.out.below stays_rule hb6)
      have B3 := Lib.hid (below_block hb6 B3.out)
      clear hb6
      cases es with
      | true =>
        go_wp2_with fail
        go_ret
        exact ⟨rfl, Hb6.out⟩
      | false =>
        have ca := fun i => cell_block B3.out i
        go_wp2_with fail
        refine (allowsAll_any v l a w6 (HL.out.below stays_rule Hb6.out) (by omega) Hlo.out).mono ?_
        rw [Hp.out]
        rintro E w7 ⟨rfl, hb7⟩
        have Hb7 := Lib.hid (Hb6.out.trans (hb7.mono hs6))
        have hs7 := Hb7.out.size
        have R8 := Lib.hid (R7.out.below stays_rule hb7)
        have B3 := Lib.hid (below_block hb7 B3.out)
        clear hb7 ca
        have ca := fun i => cell_block B3.out i
        cases p with
        | false =>
          go_wp2_with fail
          go_ret
          exact ⟨rfl, Hb7.out⟩
        | true =>
          have Hq : Hid (allowsL L a = true) := Lib.hid (by rw [← hLL.out]; exact grant_all Hf.out (by rw [hLL.out]; exact Hes.out) Hp.out)
          go_wp2_with fail
          refine (allowsAll_any _ L a w7 R8.out (by rw [HnL.out]; omega) HLo.out).mono ?_
          rw [Hq.out]
          rintro E w8 ⟨rfl, hb8⟩
          have Hb8 := Lib.hid (Hb7.out.trans (hb8.mono hs7))
          clear hb8 ca
          go_wp2_with fail
          go_ret
          exact ⟨rfl, Hb8.out⟩
    · have q1 : (f != 0) = true := by rw [bne_iff_ne]; exact hf0
      rcases mild_grant Hcd.out Hf.out with h | rfl | rfl | rfl | rfl
      · exact absurd h hf0
      all_goals
        clear hf0 q1
        go_wp2_with fail
        go_ret
        exact ⟨rfl, Hb5.out⟩
  · have hP : heldP x u s = (codeC x u s, []) := by unfold heldP; rw [if_pos hcd]
    have hne : e ≠ 0 := by rw [← He.out, hP]; exact hcd
    have q1 : (e != 0) = true := by rw [bne_iff_ne]; exact hne
    have hfe : f = e := by rw [← He.out, hP]; exact bad_grant hcd Hf.out
    subst hfe
    have h9 : nL = 0 := by rw [← HnL.out, ← HLd.out, hP]; rfl
    subst h9
    clear hcd hP hne He HLd HnL cc dd
    go_wp2_with fail
    go_ret
    exact ⟨rfl, Hb4.out⟩
end Go.Proofs.YtkkfnihdnclgiaaDoor
