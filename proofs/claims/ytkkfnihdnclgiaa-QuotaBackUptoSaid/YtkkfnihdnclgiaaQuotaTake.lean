/- quota.Take, quota.Give, and what the laws refuse: their contracts. -/
import Derived.Test.YtkkfnihdnclgiaaQuotaChangeGive
import Derived.Test.YtkkfnihdnclgiaaQuotaLawPlain
namespace Go.Proofs.Ytkkfnihdnclgiaa
open Go.RowKit

theorem take_any (v1 v2 : Value) (l : List GLimit) (cs : List GCost) (w : World) (h1 : RowAt LimitR 3 w v1 l) (h2 : RowAt CostR 2 w v2 cs) (hx : ∀ x ∈ l, x.what.size ≤ 1048576) (hl : l.length ≤ 1048576) (hc : cs.length ≤ 1048576) :
    Calls Try.prog 12 #[v1, v2] w (ChangedAt (changeP 1 takeBad l cs) w) := by
  have H := Lib.hid (changeTake_any v1 v2 l cs w h1 h2 hx hl hc)
  obtain ⟨R, HR⟩ : ∃ R, Hid (changeP 1 takeBad l cs = R) := ⟨_, Lib.hid rfl⟩
  rw [HR.out] at H ⊢
  clear h1 h2 hx
  go_enter Try.func12, Try.ntmps12
  go_wp2_with fail
  refine H.out.mono ?_
  rintro E w1 ⟨v', rfl, hr, hb⟩
  have Hr := Lib.hid hr
  have Hb := Lib.hid hb
  clear hr hb H
  go_wp2_with fail
  go_ret2
  exact ⟨_, rfl, Hr.out, Hb.out⟩
theorem give_any (v1 v2 : Value) (l : List GLimit) (cs : List GCost) (w : World) (h1 : RowAt LimitR 3 w v1 l) (h2 : RowAt CostR 2 w v2 cs) (hx : ∀ x ∈ l, x.what.size ≤ 1048576) (hl : l.length ≤ 1048576) (hc : cs.length ≤ 1048576) :
    Calls Try.prog 15 #[v1, v2] w (ChangedAt (changeP (-1) giveBad l cs) w) := by
  have H := Lib.hid (changeGive_any v1 v2 l cs w h1 h2 hx hl hc)
  obtain ⟨R, HR⟩ : ∃ R, Hid (changeP (-1) giveBad l cs = R) := ⟨_, Lib.hid rfl⟩
  rw [HR.out] at H ⊢
  clear h1 h2 hx
  go_enter Try.func15, Try.ntmps15
  go_wp2_with fail
  refine H.out.mono ?_
  rintro E w1 ⟨v', rfl, hr, hb⟩
  have Hr := Lib.hid hr
  have Hb := Lib.hid hb
  clear hr hb H
  go_wp2_with fail
  go_ret2
  exact ⟨_, rfl, Hr.out, Hb.out⟩
theorem refusal_any (w : World) : Calls Try.prog 13 #[] w fun e w' => e = .returned (.bool true) ∧ Below w.heap.size w w' := by
  have hc : checkL [⟨ByteArray.empty, 0, 0⟩] = 6 := by decide +kernel
  obtain ⟨W, hW⟩ : ∃ W, W = w.alloc (.cells #[.string ByteArray.empty, .int .i64 0, .int .i64 0] 33) := ⟨_, rfl⟩
  have hrow : RowAt LimitR 3 W (.slice (some ⟨w.heap.size, 0, none⟩) 1 1) [⟨ByteArray.empty, 0, 0⟩] := by
    rw [hW]
    exact RowAt.one (e := 33) (cs := #[.string ByteArray.empty, .int .i64 0, .int .i64 0]) (fr := (0, 0)) (heap_alloc_new w _) rfl ⟨rfl, by decide, by decide⟩
  have h := quotaCheck_any _ _ W hrow (by intro x hx; simp at hx; subst hx; decide) (by simp)
  rw [hc] at h
  have hb0 : Below w.heap.size w W := by rw [hW]; exact (Below.refl _ _).alloc (Nat.le_refl _) _
  rw [hW] at h hb0
  have H := Lib.hid h
  have Hb0 := Lib.hid hb0
  obtain ⟨i0, hi0, hz0, hz1, hz2⟩ := info_parts Try.infoLimit
  clear h hc hW hrow hb0
  go_enter Try.func13, Try.ntmps13
  go_wp2_with fail
  refine H.out.mono ?_
  rintro E w1 ⟨rfl, hb⟩
  have Hb : Hid (Below w.heap.size w w1) := Lib.hid (Hb0.out.trans (hb.mono (by simp)))
  clear hb H Hb0
  go_wp2_with fail
  go_ret
  exact ⟨rfl, Hb.out⟩
theorem eqLs_refl (l : List GLimit) : eqLs l l = true := eqLs_yes rfl fun k x y _ hx hy => by rw [hx] at hy; cases hy; unfold eqL; simp
theorem pay_sizes {l : List GLimit} (cs : List GCost) (h : ∀ x ∈ l, x.what.size ≤ 1048576) : ∀ x ∈ l.map (payAll 1 cs), x.what.size ≤ 1048576 := by
  rw [List.forall_mem_map]
  exact h
/-- the three ways of a splitting -/
theorem splits2 (l : List GLimit) (p q : List GCost) :
    (changeP 1 takeBad l (p ++ q) = (0, l.map (payAll 1 (p ++ q))) ∧ changeP 1 takeBad l (q ++ p) = (0, l.map (payAll 1 (p ++ q))) ∧ changeP 1 takeBad l p = (0, l.map (payAll 1 p)) ∧ changeP 1 takeBad (l.map (payAll 1 p)) q = (0, l.map (payAll 1 (p ++ q)))) ∨
    ∃ e1 e2 e3 : Int, e1 ≠ 0 ∧ e2 ≠ 0 ∧ e3 ≠ 0 ∧ changeP 1 takeBad l (p ++ q) = (e1, []) ∧ changeP 1 takeBad l (q ++ p) = (e2, []) ∧ (changeP 1 takeBad l p = (e3, []) ∨ (changeP 1 takeBad l p = (0, l.map (payAll 1 p)) ∧ changeP 1 takeBad (l.map (payAll 1 p)) q = (e3, []))) := by
  rcases splits l p q with ⟨m, h1, h2, c, h3, h4⟩ | ⟨h1, h2, h3, h4, h5⟩
  · left
    obtain ⟨_, _, _, g1⟩ := takeCode_zero (by rw [h1] : (changeP 1 takeBad l (p ++ q)).1 = 0)
    obtain ⟨_, _, _, g2⟩ := takeCode_zero (by rw [h3] : (changeP 1 takeBad l p).1 = 0)
    rw [g1] at h1; rw [g2] at h3
    cases h1; cases h3
    exact ⟨g1, h2, g2, h4⟩
  · right
    rcases h5 with ⟨h5, h6⟩ | ⟨h5, h6, h7⟩
    · exact ⟨_, _, _, h1, h3, h5, Prod.ext rfl h2, Prod.ext rfl h4, .inl (Prod.ext rfl h6)⟩
    · obtain ⟨_, _, _, g2⟩ := takeCode_zero h5
      rw [g2] at h6 h7
      exact ⟨_, _, _, h1, h3, h6, Prod.ext rfl h2, Prod.ext rfl h4, .inr ⟨g2, Prod.ext rfl h7⟩⟩
end Go.Proofs.Ytkkfnihdnclgiaa
