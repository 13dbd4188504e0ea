/- The walk of the law QuotaSplits: costs taken in pieces, in any order. -/
import Derived.Test.YtkkfnihdnclgiaaQuotaTake
namespace Go.Proofs.Ytkkfnihdnclgiaa
open Go.RowKit

theorem sum_ge_mem {α : Type} (μ : α → Nat) {l : List α} {x : α} (h : x ∈ l) : μ x ≤ (l.map μ).sum := by
  induction l with
  | nil => cases h
  | cons y r ih =>
    simp only [List.map_cons, List.sum_cons]
    rcases List.mem_cons.1 h with rfl | h
    · omega
    · have := ih h; omega
set_option maxRecDepth 100000 in
set_option maxHeartbeats 1600000 in
theorem quotaSplits_walk (v1 : Value) (l : List GLimit) (v2 : Value) (p : List GCost) (v3 : Value) (q : List GCost) (w : World) (h1 : RowAt LimitR 3 w v1 l) (h2 : RowAt CostR 2 w v2 p) (h3 : RowAt CostR 2 w v3 q)
    (hbulk : (l.map limitB).sum + 1 + ((p.map costB).sum + 1 + ((q.map costB).sum + 1 + 0)) ≤ 1048576) :
    Calls Try.prog 3 #[v1, v2, v3] w fun e w' => e = .returned (.bool true) ∧ Below w.heap.size w w' := by
  have hl := sum_ge_length limitB (fun x => by unfold limitB; omega) l
  have hp := sum_ge_length costB (fun x => by unfold costB; omega) p
  have hq := sum_ge_length costB (fun x => by unfold costB; omega) q
  have hx : ∀ x ∈ l, x.what.size ≤ 1048576 := fun x hx => by have h8 := sum_ge_mem limitB hx; have h9 : limitB x = x.what.size + 1 + (1 + (1 + 0)) + 1 := rfl; omega
  have hl1 : l.length ≤ 1048576 := by omega
  have hpq1 : p.length + q.length ≤ 1048576 := by omega
  obtain ⟨a1, c1, rfl, _, _⟩ := h1.len
  obtain ⟨a2, c2, rfl, _, _⟩ := h2.len
  obtain ⟨a3, c3, rfl, _, _⟩ := h3.len
  have H1 := Lib.hid h1
  have H2 := Lib.hid h2
  have H3 := Lib.hid h3
  have Hx := Lib.hid hx
  have hpq : (p ++ q).length ≤ 1048576 := by rw [List.length_append]; omega
  have hqp : (q ++ p).length ≤ 1048576 := by rw [List.length_append]; omega
  obtain ⟨i0, hi0, hz0, hz1, hz2⟩ := info_parts Try.infoCost
  have Hs := Lib.hid (splits2 l p q)
  clear h1 h2 h3 hx hbulk hl hp hq
  go_enter Try.func3, Try.ntmps3
  go_wp2_with fail
  refine (copyCost_any _ p w H2.out (by omega)).mono ?_
  rintro E w1 ⟨va, rfl, ho1, hb1⟩
  have Ho1 := Lib.hid ho1
  have Hb1 := Lib.hid hb1
  have hs1 := hb1.size
  clear ho1 hb1
  go_wp2_with (at_builtin; refine wpList_append_ownAt (R := CostR) (k := 2) (e := 26) (B := w.heap.size) (l := p) (m := q) _ (by rfl) _ _ _ (by rfl) i0 _ 24 Try.underlying23 hi0 hz0 hz1 hz2 rfl (by omega) flat_cost one_cost _ (by rfl) Ho1.out _ (by rfl) (H3.out.below stays_cost Hb1.out) (by unfold maxLen; omega) (by omega) (by omega) ?_)
  intro va2 w2 ho2 hg2 hr2 _
  have Hb2 := Lib.hid (below_of_grown Hb1.out hs1 hg2 hr2)
  have Ho2 := Lib.hid ho2
  have hs2 := Hb2.out.size
  clear ho2 hg2 hr2 Ho1
  go_wp2_with fail
  refine (copyCost_any _ q w2 (H3.out.below stays_cost Hb2.out) (by omega)).mono ?_
  rintro E w3 ⟨vb, rfl, ho3, hb3⟩
  have Ho3 := Lib.hid ho3
  have Hb3 := Lib.hid hb3
  have hs3 := hb3.size
  clear ho3 hb3
  go_wp2_with (at_builtin; refine wpList_append_ownAt (R := CostR) (k := 2) (e := 26) (B := w2.heap.size) (l := q) (m := p) _ (by rfl) _ _ _ (by rfl) i0 _ 24 Try.underlying23 hi0 hz0 hz1 hz2 rfl (by omega) flat_cost one_cost _ (by rfl) Ho3.out _ (by rfl) (H2.out.below stays_cost (Hb2.out.trans (Hb3.out.mono hs2))) (by unfold maxLen; omega) (by omega) (by omega) ?_)
  intro vb2 w4 ho4 hg4 hr4 _
  have Hb4' := Lib.hid (below_of_grown Hb3.out hs3 hg4 hr4)
  have Hb4 := Lib.hid (Hb2.out.trans (Hb4'.out.mono hs2))
  have Hro4 := Lib.hid ho4.row
  have Hra4 := Lib.hid (Ho2.out.row.below stays_cost Hb4'.out)
  have hs4 := Hb4.out.size
  clear ho4 hg4 hr4 Ho3 Ho2 Hb3 Hb2 Hb1 Hb4' hs1 hs2 hs3
  have Hl4 := Lib.hid (H1.out.below stays_limit Hb4.out)
  rcases Hs.out with ⟨d1, d2, d3, d4⟩ | ⟨e1, e2, e3, n1, n2, n3, d1, d2, d3⟩
  · obtain ⟨M, HM⟩ : ∃ M, Hid (l.map (payAll 1 (p ++ q)) = M) := ⟨_, Lib.hid rfl⟩
    obtain ⟨C, HC⟩ : ∃ C, Hid (l.map (payAll 1 p) = C) := ⟨_, Lib.hid rfl⟩
    have hCx : ∀ x ∈ C, x.what.size ≤ 1048576 := by rw [← HC.out]; exact pay_sizes p Hx.out
    have hCl : C.length ≤ 1048576 := by rw [← HC.out, List.length_map]; omega
    have hMl : M.length ≤ 1048576 := by rw [← HM.out, List.length_map]; omega
    rw [HM.out] at d1 d2 d4
    rw [HC.out] at d3 d4
    have C1 := Lib.hid d1
    have C2 := Lib.hid d2
    have C3 := Lib.hid d3
    have C4 := Lib.hid d4
    have HCx := Lib.hid hCx
    have hE := eqLs_refl M
    have HE := Lib.hid hE
    clear d1 d2 d3 d4 hCx hE
    go_wp2_with fail
    refine (take_any _ _ l _ w4 Hl4.out Hra4.out Hx.out (by omega) hpq).mono ?_
    rw [C1.out]
    rintro E w5 ⟨va, rfl, ha5, hb5⟩
    have Ha5 := Lib.hid ha5
    have Hb5 := Lib.hid hb5
    have hs5 := hb5.size
    clear ha5 hb5
    go_wp2_with fail
    refine (take_any _ _ l _ w5 (Hl4.out.below stays_limit Hb5.out) (Hro4.out.below stays_cost Hb5.out) Hx.out (by omega) hqp).mono ?_
    rw [C2.out]
    rintro E w6 ⟨vb, rfl, ha6, hb6⟩
    have Ha6 := Lib.hid ha6
    have Hb6 := Lib.hid hb6
    have Hb6' := Lib.hid (Hb5.out.trans (hb6.mono hs5))
    have hs6 := hb6.size
    clear ha6 hb6
    go_wp2_with fail
    refine (refusal_any w6).mono ?_
    rintro E w7 ⟨rfl, hb7⟩
    have Hb7 := Lib.hid hb7
    have Hb7' := Lib.hid (Hb6'.out.trans (hb7.mono (by have := Hb6'.out.size; omega)))
    have hs7 := hb7.size
    clear hb7
    go_wp2_with fail
    refine (take_any _ _ l _ w7 (Hl4.out.below stays_limit Hb7'.out) (H2.out.below stays_cost (Hb4.out.trans (Hb7'.out.mono hs4))) Hx.out (by omega) (by omega)).mono ?_
    rw [C3.out]
    rintro E w8 ⟨vc, rfl, ha8, hb8⟩
    have Ha8 := Lib.hid ha8
    have Hb8 := Lib.hid hb8
    have Hb8' := Lib.hid (Hb7'.out.trans (hb8.mono (by have := Hb7'.out.size; omega)))
    have hs8 := hb8.size
    clear ha8 hb8
    go_wp2_with fail
    refine (take_any _ _ C q w8 Ha8.out (H3.out.below stays_cost (Hb4.out.trans (Hb8'.out.mono hs4))) HCx.out (by omega) (by omega)).mono ?_
    rw [C4.out]
    rintro E w9 ⟨vd, rfl, ha9, hb9⟩
    have Ha9 := Lib.hid ha9
    have Hb9 := Lib.hid hb9
    have Hb9' := Lib.hid (Hb8'.out.trans (hb9.mono (by have := Hb8'.out.size; omega)))
    have hs9 := hb9.size
    clear ha9 hb9
    have Hm5 : Hid (RowAt LimitR 3 w9 va M) := Lib.hid (Ha5.out.below stays_limit (Hb6.out.trans ((Hb7.out.mono hs6).trans ((Hb8.out.mono (by omega)).trans (Hb9.out.mono (by omega))))))
    have Hm6 : Hid (RowAt LimitR 3 w9 vb M) := Lib.hid (Ha6.out.below stays_limit (Hb7.out.trans ((Hb8.out.mono hs7).trans (Hb9.out.mono (by omega)))))
    go_wp2_with fail
    refine (eqLimits_any va vb M M w9 Hm5.out Hm6.out hMl hMl).mono ?_
    rw [HE.out]
    rintro E w10 ⟨rfl, hb10⟩
    have Hb10 := Lib.hid hb10
    have Hb10' := Lib.hid (Hb9'.out.trans (hb10.mono (by have := Hb9'.out.size; omega)))
    clear hb10
    go_wp2_with fail
    refine (eqLimits_any va vd M M w10 (Hm5.out.below stays_limit Hb10.out) (Ha9.out.below stays_limit Hb10.out) hMl hMl).mono ?_
    rw [HE.out]
    rintro E w11 ⟨rfl, hb11⟩
    have Hb11' := Lib.hid (Hb10'.out.trans (hb11.mono (by have := Hb10'.out.size; omega)))
    clear hb11
    go_wp2_with fail
    go_ret
    exact ⟨rfl, Hb4.out.trans (Hb11'.out.mono hs4)⟩
  · have C1 := Lib.hid d1
    have C2 := Lib.hid d2
    have q1 : (e1 == 0) = false := by rw [beq_eq_false_iff_ne]; exact n1
    have q2 : (e2 != 0) = true := by rw [bne_iff_ne]; exact n2
    have q3 : (e3 != 0) = true := by rw [bne_iff_ne]; exact n3
    have q4 : (e3 == 0) = false := by rw [beq_eq_false_iff_ne]; exact n3
    clear d1 d2 n1 n2 n3
    go_wp2_with fail
    refine (take_any _ _ l _ w4 Hl4.out Hra4.out Hx.out (by omega) hpq).mono ?_
    rw [C1.out]
    rintro E w5 ⟨va, rfl, ha5, hb5⟩
    obtain ⟨ao5, co5, rfl, _, _⟩ := ha5.len
    have Hb5 := Lib.hid hb5
    have hs5 := hb5.size
    clear ha5 hb5
    go_wp2_with fail
    refine (take_any _ _ l _ w5 (Hl4.out.below stays_limit Hb5.out) (Hro4.out.below stays_cost Hb5.out) Hx.out (by omega) hqp).mono ?_
    rw [C2.out]
    rintro E w6 ⟨vb, rfl, ha6, hb6⟩
    obtain ⟨ao6, co6, rfl, _, _⟩ := ha6.len
    have Hb6' := Lib.hid (Hb5.out.trans (hb6.mono hs5))
    clear ha6 hb6
    go_wp2_with fail
    refine (refusal_any w6).mono ?_
    rintro E w7 ⟨rfl, hb7⟩
    have Hb7' := Lib.hid (Hb6'.out.trans (hb7.mono (by have := Hb6'.out.size; omega)))
    clear hb7
    go_wp2_with fail
    refine (take_any _ _ l _ w7 (Hl4.out.below stays_limit Hb7'.out) (H2.out.below stays_cost (Hb4.out.trans (Hb7'.out.mono hs4))) Hx.out (by omega) (by omega)).mono ?_
    rcases d3 with d3 | ⟨d3, d4⟩
    · rw [d3]
      clear d3
      rintro E w8 ⟨vc, rfl, ha8, hb8⟩
      obtain ⟨ao8, co8, rfl, _, _⟩ := ha8.len
      have Hb8' := Lib.hid (Hb7'.out.trans (hb8.mono (by have := Hb7'.out.size; omega)))
      clear ha8 hb8
      go_wp2_with fail
      go_ret
      exact ⟨rfl, Hb4.out.trans (Hb8'.out.mono hs4)⟩
    · rw [d3]
      have C4 := Lib.hid d4
      have hCl : (l.map (payAll 1 p)).length ≤ 1048576 := by rw [List.length_map]; omega
      clear d3 d4
      rintro E w8 ⟨vc, rfl, ha8, hb8⟩
      have Ha8 := Lib.hid ha8
      have Hb8' := Lib.hid (Hb7'.out.trans (hb8.mono (by have := Hb7'.out.size; omega)))
      clear ha8 hb8
      go_wp2_with fail
      refine (take_any _ _ _ q w8 Ha8.out (H3.out.below stays_cost (Hb4.out.trans (Hb8'.out.mono hs4))) (pay_sizes p Hx.out) hCl (by omega)).mono ?_
      rw [C4.out]
      rintro E w9 ⟨vd, rfl, ha9, hb9⟩
      obtain ⟨ao9, co9, rfl, _, _⟩ := ha9.len
      have Hb9' := Lib.hid (Hb8'.out.trans (hb9.mono (by have := Hb8'.out.size; omega)))
      clear ha9 hb9
      go_wp2_with fail
      go_ret
      exact ⟨rfl, Hb4.out.trans (Hb9'.out.mono hs4)⟩
end Go.Proofs.Ytkkfnihdnclgiaa
