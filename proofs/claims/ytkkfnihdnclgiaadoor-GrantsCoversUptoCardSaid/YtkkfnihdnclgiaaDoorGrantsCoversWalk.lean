/- The walk of the law GrantsCovers. -/
import Derived.Test.YtkkfnihdnclgiaaDoorGrantsCovers
import Derived.Test.YtkkfnihdnclgiaaDoorGrantsTab
namespace Go.Proofs.YtkkfnihdnclgiaaDoor
open Go.RowKit

theorem heap_lt {w : World} {g : Nat} {o : Obj} (h : w.heap[g]? = some o) : g < w.heap.size := by
  rcases Nat.lt_or_ge g w.heap.size with h2 | h2
  · exact h2
  · rw [Array.getElem?_eq_none h2] at h; cases h
theorem Tryd.fieldsAsk : Tryd.prog.underlying 27 = some (.struct (Tryd.prog.fieldsOf 27)) := by kernel_rfl
theorem Tryd.heldAsk : Tryd.prog.stoodInHeld 27 = false := by kernel_rfl
theorem eql_noAsk (w : World) : (binOp .eql 27 (.agg #[.string ⟨#[]⟩, .string ⟨#[]⟩, .string ⟨#[]⟩, .string ⟨#[]⟩]) (.agg #[.string ⟨#[]⟩, .string ⟨#[]⟩, .string ⟨#[]⟩, .string ⟨#[]⟩])).run Tryd.prog w = .ok (.bool true) w := by
  rw [run_eql_struct, run_equalIn_agg w 9999 _ _ _ Tryd.fieldsAsk Tryd.heldAsk]
  simp [Op.eqFields, Program.fieldsOf, Tryd.underlying27]
  go_simp
set_option maxRecDepth 100000 in
set_option maxHeartbeats 1600000 in
theorem grantsCovers_walk (v : Value) (l : List GRule) (cs1 : Array Value) (r : GRule) (cs2 : Array Value) (a : GAsk) (w : World) (h0 : RowAt RuleR 3 w v l) (h1 : RuleR w cs1.toList r) (h2 : AskR w cs2.toList a)
    (hbulk : (l.map ruleB).sum + 1 + (ruleB r + (askB a + 0)) ≤ 1048576) (htab : TabOK w) :
    Calls Tryd.prog 3 #[v, .agg cs1, .agg cs2] w fun e w' => e = .returned (.bool true) ∧ Below w.heap.size w w' := by
  have hokr := okRule_of (r := r) (by omega)
  have hok := okCover_of (l := l) (r := r) (by omega) hokr
  have hr := h1
  obtain ⟨y0, y1, y2, e1, s0, s1, s2⟩ := h1
  have e2 : cs2 = #[.string a.verb, .string a.kind, .string a.space, .string a.name] := Array.toList_inj.1 h2
  have e1' : cs1 = #[y0, y1, y2] := Array.toList_inj.1 e1
  subst e1' e2
  obtain ⟨a0, c0, rfl, _, _⟩ := s0.row.len
  obtain ⟨a1, c1, rfl, _, _⟩ := s1.row.len
  obtain ⟨a2, c2, rfl, _, _⟩ := s2.row.len
  obtain ⟨nv, Hnv⟩ : ∃ n, Hid (r.verbs.length = n) := ⟨_, Lib.hid rfl⟩
  obtain ⟨nk, Hnk⟩ : ∃ n, Hid (r.kinds.length = n) := ⟨_, Lib.hid rfl⟩
  obtain ⟨nn, Hnn⟩ : ∃ n, Hid (r.names.length = n) := ⟨_, Lib.hid rfl⟩
  rw [Hnv.out, Hnk.out, Hnn.out] at hr ⊢
  obtain ⟨w1, hw1⟩ : ∃ w1, w1 = (w.alloc (.cells #[.slice a0 nv c0, .slice a1 nk c1, .slice a2 nn c2] 25)).alloc (.cells #[.string a.verb, .string a.kind, .string a.space, .string a.name] 27) := ⟨_, rfl⟩
  obtain ⟨ga, hga⟩ : ∃ ga, ga = w.heap.size + 1 := ⟨_, rfl⟩
  obtain ⟨gr, hgr⟩ : ∃ gr, gr = w.heap.size := ⟨_, rfl⟩
  have b0 : w1.heap[gr]? = some (.cells #[.slice a0 nv c0, .slice a1 nk c1, .slice a2 nn c2] 25 (0, 0)) := by
    rw [hw1, hgr]
    exact below_block ((Below.refl _ _).alloc (Nat.le_refl _) _) (heap_alloc_new w _)
  have b1 : w1.heap[ga]? = some (.cells #[.string a.verb, .string a.kind, .string a.space, .string a.name] 27 (0, 0)) := by
    have h9 := heap_alloc_new (w.alloc (.cells #[.slice a0 nv c0, .slice a1 nk c1, .slice a2 nn c2] 25)) (.cells #[.string a.verb, .string a.kind, .string a.space, .string a.name] 27)
    rw [hw1, hga]
    simpa using h9
  have hb1 : Below w.heap.size w w1 := by rw [hw1]; exact ((Below.refl _ _).alloc (Nat.le_refl _) _).alloc (by simp) _
  have hs1 := hb1.size
  have H := Lib.hid h0
  have HR := Lib.hid hr
  have Hok := Lib.hid hok
  have Htab := Lib.hid htab
  have Hb1 := Lib.hid hb1
  have B0 := Lib.hid b0
  have B1 := Lib.hid b1
  have Hw1 := Lib.hid hw1
  have Hga := Lib.hid hga
  have Hgr := Lib.hid hgr
  have cc := fun i => cell_block b0 i
  have Hbulk := Lib.hid hbulk
  have hll := hok.len
  clear h0 h2 e1 hr hokr hok htab b0 b1 hb1 hw1 hga hgr s0 s1 s2 hbulk
  go_enter Tryd.func3, Tryd.ntmps3
  go_upto_region 1 with fail
  rw [← Hw1.out]
  try rw [← Hga.out]
  rw [← Hgr.out]
  clear Hw1 Hga Hgr
  go_wp2_with fail
  refine (covers_any v _ _ _ l r w1 (H.out.below stays_rule Hb1.out) (stays_rule _ _ _ _ (keeps_below Hb1.out) HR.out) Hok.out (var_keep Htab.out Hb1.out)).mono ?_
  rintro E w2 ⟨is, rfl, his, hb2⟩
  have Hb2 := Lib.hid (Hb1.out.trans (hb2.mono hs1))
  have His := Lib.hid his
  have B0 := Lib.hid (below_block hb2 B0.out)
  have B1 := Lib.hid (below_block hb2 B1.out)
  have hs2 := Hb2.out.size
  clear hb2 his cc
  have cc := fun i => cell_block B0.out i
  go_wp2_with fail
  refine (beyond_any v _ _ _ l r w2 (H.out.below stays_rule Hb2.out) (stays_rule _ _ _ _ (keeps_below Hb2.out) HR.out) Hok.out.len Hok.out.ok Hok.out.okr Hok.out.t0 Hok.out.t1 Hok.out.t2 (var_keep Htab.out Hb2.out)).mono ?_
  rintro E w3 ⟨b, it, rfl, hres, hb3⟩
  have Hres := Lib.hid hres
  have Hb3 := Lib.hid (Hb2.out.trans (hb3.mono hs2))
  have B0 := Lib.hid (below_block hb3 B0.out)
  have B1 := Lib.hid (below_block hb3 B1.out)
  have hs3 := Hb3.out.size
  unfold AskV
  clear hres hb3 cc
  rcases Hres.out with ⟨rfl, rfl, hc⟩ | ⟨rfl, hc, hy, hn⟩
  · have h9 : is = true := His.out.2 hc
    subst h9
    have Hc := Lib.hid hc
    have heq := eql_noAsk
    clear hc Hres His
    obtain ⟨p, Hp⟩ : ∃ p, Hid (allowsL [r] a = p) := ⟨_, Lib.hid rfl⟩
    obtain ⟨q, Hq⟩ : ∃ q, Hid (allowsL l a = q) := ⟨_, Lib.hid rfl⟩
    go_wp2_with fail
    refine (none_any _).mono ?_
    rintro E w4 ⟨rfl, hb4⟩
    have hb34 := ((Below.refl w3.heap.size w3).alloc (Nat.le_refl _) (.cells #[.string ⟨#[]⟩, .string ⟨#[]⟩, .string ⟨#[]⟩, .string ⟨#[]⟩] 27)).trans (hb4.mono (by simp))
    have B2 := Lib.hid (below_block hb4 (heap_alloc_new w3 (.cells #[.string ⟨#[]⟩, .string ⟨#[]⟩, .string ⟨#[]⟩, .string ⟨#[]⟩] 27)))
    have B0 := Lib.hid (below_block hb34 B0.out)
    have B1 := Lib.hid (below_block hb34 B1.out)
    have Hb4 := Lib.hid (Hb3.out.trans (hb34.mono hs3))
    have hs4 := Hb4.out.size
    clear hb34 hb4
    have l0 := heap_lt B0.out
    have l1 := heap_lt B1.out
    have l2 := heap_lt B2.out
    have cc := fun i => cell_block B0.out i
    have ca := fun i => cell_block B1.out i
    have cb := fun i => cell_block B2.out i
    go_wp2_with fail
    obtain ⟨w5, Hw5⟩ : ∃ w5, Hid (w4.alloc (.cells #[.slice a0 nv c0, .slice a1 nk c1, .slice a2 nn c2] 25) = w5) := ⟨_, Lib.hid rfl⟩
    have H5 : Hid (RowAt RuleR 3 w5 (.slice (some ⟨w4.heap.size, 0, none⟩) 1 1) [r]) := Lib.hid (by
      have hb : Below w4.heap.size w4 w5 := by rw [← Hw5.out]; exact (Below.refl _ _).alloc (Nat.le_refl _) _
      have h1 : w5.heap[w4.heap.size]? = some (.cells #[.slice a0 nv c0, .slice a1 nk c1, .slice a2 nn c2] 25 (0, 0)) := by rw [← Hw5.out]; exact heap_alloc_new w4 _
      refine RowAt.one h1 rfl ?_
      exact stays_rule _ _ _ _ (keeps_below (Hb4.out.trans (hb.mono hs4))) HR.out)
    have Hb5 : Hid (Below w.heap.size w w5) := Lib.hid (by rw [← Hw5.out]; exact Hb4.out.alloc hs4 _)
    have hs5 := Hb5.out.size
    have D1 : Hid (w5.heap[ga]? = some (.cells #[.string a.verb, .string a.kind, .string a.space, .string a.name] 27 (0, 0))) := Lib.hid (by rw [← Hw5.out]; exact below_block ((Below.refl _ _).alloc (Nat.le_refl _) _) B1.out)
    rw [Hw5.out]
    clear cc ca cb Hw5
    refine (allowsAll_any _ [r] a w5 H5.out (by simp) (fun x hx => by rw [List.mem_singleton] at hx; rw [hx]; exact Hok.out.okr)).mono ?_
    rw [Hp.out]
    rintro E w6 ⟨rfl, hb6⟩
    have Hb6 := Lib.hid (Hb5.out.trans (hb6.mono hs5))
    have D1 := Lib.hid (below_block hb6 D1.out)
    have ca := fun i => cell_block D1.out i
    have hs6 := Hb6.out.size
    clear hb6
    cases p with
    | false =>
      go_wp2_with fail
      go_ret
      exact ⟨rfl, Hb6.out⟩
    | true =>
      have Hq2 : Hid (allowsL l a = true) := Lib.hid (cover_all Hc.out (by
        have h := Hp.out
        unfold allowsL at h
        simpa using h))
      go_wp2_with fail
      refine (allowsAll_any v l a w6 (H.out.below stays_rule Hb6.out) (by omega) Hok.out.ok).mono ?_
      rw [Hq2.out]
      rintro E w7 ⟨rfl, hb7⟩
      have Hb7 := Lib.hid (Hb6.out.trans (hb7.mono hs6))
      clear hb7 ca
      go_wp2_with fail
      go_ret
      exact ⟨rfl, Hb7.out⟩
  · have h9 : is = false := by
      rw [← Bool.not_eq_true]
      exact fun h => hc (His.out.1 h)
    subst h9
    have hp : allowsL [r] b = true := by unfold allowsL; simp [hy]
    have Hp := Lib.hid hp
    have Hn := Lib.hid hn
    clear hc hy hn hp Hres His
    go_wp2_with fail
    refine (none_any _).mono ?_
    rintro E w4 ⟨rfl, hb4⟩
    have hb34 := ((Below.refl w3.heap.size w3).alloc (Nat.le_refl _) (.cells #[.string b.verb, .string b.kind, .string b.space, .string b.name] 27)).trans (hb4.mono (by simp))
    have B2 := Lib.hid (below_block hb4 (heap_alloc_new w3 (.cells #[.string b.verb, .string b.kind, .string b.space, .string b.name] 27)))
    have B0 := Lib.hid (below_block hb34 B0.out)
    have B1 := Lib.hid (below_block hb34 B1.out)
    have Hb4 := Lib.hid (Hb3.out.trans (hb34.mono hs3))
    have hs4 := Hb4.out.size
    clear hb34 hb4
    have l0 := heap_lt B0.out
    have l1 := heap_lt B1.out
    have l2 := heap_lt B2.out
    have cc := fun i => cell_block B0.out i
    have cb := fun i => cell_block B2.out i
    go_wp2_with fail
    obtain ⟨w5, Hw5⟩ : ∃ w5, Hid (w4.alloc (.cells #[.slice a0 nv c0, .slice a1 nk c1, .slice a2 nn c2] 25) = w5) := ⟨_, Lib.hid rfl⟩
    have H5 : Hid (RowAt RuleR 3 w5 (.slice (some ⟨w4.heap.size, 0, none⟩) 1 1) [r]) := Lib.hid (by
      have hb : Below w4.heap.size w4 w5 := by rw [← Hw5.out]; exact (Below.refl _ _).alloc (Nat.le_refl _) _
      have h1 : w5.heap[w4.heap.size]? = some (.cells #[.slice a0 nv c0, .slice a1 nk c1, .slice a2 nn c2] 25 (0, 0)) := by rw [← Hw5.out]; exact heap_alloc_new w4 _
      refine RowAt.one h1 rfl ?_
      exact stays_rule _ _ _ _ (keeps_below (Hb4.out.trans (hb.mono hs4))) HR.out)
    have Hb5 : Hid (Below w.heap.size w w5) := Lib.hid (by rw [← Hw5.out]; exact Hb4.out.alloc hs4 _)
    have hs5 := Hb5.out.size
    have D1 : Hid (w5.heap[w3.heap.size]? = some (.cells #[.string b.verb, .string b.kind, .string b.space, .string b.name] 27 (0, 0))) := Lib.hid (by rw [← Hw5.out]; exact below_block ((Below.refl _ _).alloc (Nat.le_refl _) _) B2.out)
    rw [Hw5.out]
    clear cc cb Hw5
    refine (allowsAll_any _ [r] b w5 H5.out (by simp) (fun x hx => by rw [List.mem_singleton] at hx; rw [hx]; exact Hok.out.okr)).mono ?_
    rw [Hp.out]
    rintro E w6 ⟨rfl, hb6⟩
    have Hb6 := Lib.hid (Hb5.out.trans (hb6.mono hs5))
    have D1 := Lib.hid (below_block hb6 D1.out)
    have ca := fun i => cell_block D1.out i
    have hs6 := Hb6.out.size
    clear hb6
    go_wp2_with fail
    refine (allowsAll_any v l b w6 (H.out.below stays_rule Hb6.out) (by omega) Hok.out.ok).mono ?_
    rw [Hn.out]
    rintro E w7 ⟨rfl, hb7⟩
    have Hb7 := Lib.hid (Hb6.out.trans (hb7.mono hs6))
    clear hb7 ca
    go_wp2_with fail
    go_ret
    exact ⟨rfl, Hb7.out⟩
end Go.Proofs.YtkkfnihdnclgiaaDoor
