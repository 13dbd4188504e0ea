/- QueryAnd: the law's walk. -/
import Derived.Test.YtmfcddbeglfdcaaDoorQueryNotWalk
import Derived.Test.YtmfcddbeglfdcaaDoorQueryRev
import Derived.Test.YtmfcddbeglfdcaaDoorRowX
namespace Go.Proofs.YtmfcddbeglfdcaaDoor
open Go.RowKit

theorem Tryd.infoReq : (Tryd.prog.info? 33).map (fun i => (i.zero, i.size, i.bytes)) = some (some (.agg #[.string ByteArray.empty, .int .i64 0, .slice none 0 0]), 3, 48) := by kernel_rfl
theorem one_req : OneR ReqR := fun w cs x h u hu => by
  obtain ⟨v2, rfl, _, h2⟩ := h
  obtain ⟨ao, c, rfl, _, _⟩ := h2.row.len
  simp only [List.mem_cons, List.not_mem_nil, or_false] at hu
  rcases hu with rfl | rfl | rfl <;> rfl
set_option maxRecDepth 100000 in
theorem copyReq_any {R : Rd GReq} (hf : Flat R) (h1 : OneR R) (v : Value) (l : List GReq) (w : World) (h : RowAt R 3 w v l) (hl : l.length ≤ 1048576) :
    Calls Tryd.prog 18 #[v] w fun e w' => ∃ v', e = .returned v' ∧ OwnAt R 3 w' w.heap.size 33 v' l ∧ Below w.heap.size w w' := by
  obtain ⟨i0, hi0, hz0, hz1, hz2⟩ := info_parts Tryd.infoReq
  have Hrow := Lib.hid h
  clear h
  go_enter Tryd.func18, Tryd.ntmps18
  go_wp2_with (at_builtin; refine wpList_append_ownAt (R := R) (k := 3) (e := 33) (B := w.heap.size) (l := []) (m := l) _ (by rfl) _ _ _ (by rfl) i0 _ 48 Tryd.underlying38 hi0 hz0 hz1 hz2 rfl (by omega) hf h1 _ (by rfl) (OwnAt.nil _) _ (by rfl) Hrow.out (by unfold maxLen; simp; omega) (by simp; omega) (Nat.le_refl _) ?_)
  intro v' w' hv' hg hr _
  have hb : Below w.heap.size w w' := below_of_grown (Below.refl _ _) (Nat.le_refl _) hg hr
  go_wp2_with fail
  go_ret
  exact ⟨_, rfl, by simpa using hv', hb⟩
theorem okReqs_of {l : List GReq} (h : (l.map reqB).sum ≤ 1048576) : (∀ x ∈ l, okReq x) ∧ l.length ≤ 1048576 :=
  ⟨fun x hx => okReq_of (Nat.le_trans (le_sum (List.mem_map_of_mem hx)) h), Nat.le_trans (sum_ge_length reqB (fun x => by unfold reqB; omega) l) h⟩
set_option maxRecDepth 100000 in
set_option maxHeartbeats 3200000 in
theorem queryAnd_walk (v0 : Value) (l : List GReq) (v1 : Value) (m : List GReq) (v2 : Value) (labels : List GLabel) (w : World) (h0 : RowAt ReqR 3 w v0 l) (h1 : RowAt ReqR 3 w v1 m) (h2 : RowAt LabelR 2 w v2 labels)
    (hbulk : (l.map reqB).sum + 1 + ((m.map reqB).sum + 1 + ((labels.map labelB).sum + 1 + 0)) ≤ 1048576) (hmax : ∃ m, MaxOK m w) :
    Calls Tryd.prog 6 #[v0, v1, v2] w fun e w' => e = .returned (.bool true) ∧ Below w.heap.size w w' := by
  obtain ⟨mx, hm⟩ := hmax
  obtain ⟨okl, hll⟩ := okReqs_of (l := l) (by omega)
  obtain ⟨okm, hml⟩ := okReqs_of (l := m) (by omega)
  obtain ⟨okb, hbl⟩ := okLabs_of (l := labels) (by omega)
  have hlm : l.length + m.length ≤ 1048576 := by
    have e1 := sum_ge_length reqB (fun x => by unfold reqB; omega) l
    have e2 := sum_ge_length reqB (fun x => by unfold reqB; omega) m
    omega
  obtain ⟨i0, hi0, hz0, hz1, hz2⟩ := info_parts Tryd.infoReq
  have hat0 := h0.atW (Below.refl _ _)
  have hat1 := h1.atW (Below.refl _ _)
  have hokb : ∀ x ∈ l ++ m, okReq x := fun x hx => (List.mem_append.1 hx).elim (okl x) (okm x)
  have H0 := Lib.hid h0
  have H1 := Lib.hid h1
  have H2 := Lib.hid h2
  have Hat0 := Lib.hid hat0
  have Hat1 := Lib.hid hat1
  have Hm := Lib.hid hm
  have Okl := Lib.hid okl
  have Okm := Lib.hid okm
  have Okb := Lib.hid okb
  have Hokb := Lib.hid hokb
  obtain ⟨a0, c0, rfl, _, _⟩ := h0.len
  obtain ⟨a1, c1, rfl, _, _⟩ := h1.len
  obtain ⟨a2, c2, rfl, _, _⟩ := h2.len
  clear h0 h1 h2 hat0 hat1 hm okl okm okb hokb hbulk
  obtain ⟨nb, Hnb⟩ : ∃ nb, Hid ((l ++ m).length = nb) := ⟨_, Lib.hid rfl⟩
  have hnb : nb ≤ 1048576 := by have := Hnb.out; rw [List.length_append] at this; omega
  go_enter Tryd.func6, Tryd.ntmps6
  go_wp2_with fail
  refine (copyReq_any (flat_atW w ReqR) (one_atW w one_req) _ l w Hat0.out hll).mono ?_
  rintro E w1 ⟨vc, rfl, hown, hb1⟩
  have Hb1 := Lib.hid hb1
  have Hown := Lib.hid hown
  have Hat1' := Lib.hid (Hat1.out.below (flat_atW w ReqR).stays hb1)
  clear hown hb1
  go_wp2_with (at_builtin; refine wpList_append_ownAt (R := AtW w ReqR) (k := 3) (e := 33) (B := w.heap.size) (l := l) (m := m) _ (by rfl) _ _ _ (by rfl) i0 _ 48 Tryd.underlying38 hi0 hz0 hz1 hz2 rfl (by omega) (flat_atW w ReqR) (one_atW w one_req) _ (by rfl) Hown.out _ (by rfl) Hat1'.out (by unfold maxLen; omega) (by omega) Hb1.out.size ?_)
  intro vb w2 hvb hg hr _
  have hb2 : Below w.heap.size w w2 := below_of_grown Hb1.out Hb1.out.size hg hr
  have Hb2 := Lib.hid hb2
  have Hvb := Lib.hid hvb
  obtain ⟨ab, cb, rfl, _, _⟩ := hvb.row.len
  rw [Hnb.out] at Hvb ⊢
  clear hb2 hvb hg hr
  go_wp2_with fail
  refine (match_any _ _ l labels mx w2 (H0.out.below stays_req Hb2.out) hll Okl.out (H2.out.below stays_label Hb2.out) hbl Okb.out (Hm.out.below Hb2.out)).mono ?_
  rintro E w3 ⟨rfl, hb3⟩
  have Hb3 := Lib.hid (Hb2.out.trans (hb3.mono Hb2.out.size))
  have Hvb3 := Lib.hid (Hvb.out.below (flat_atW w ReqR).stays hb3)
  clear hb3
  go_wp2_with fail
  refine (match_any _ _ m labels mx w3 (H1.out.below stays_req Hb3.out) hml Okm.out (H2.out.below stays_label Hb3.out) hbl Okb.out (Hm.out.below Hb3.out)).mono ?_
  rintro E w4 ⟨rfl, hb4⟩
  have Hb4 := Lib.hid (Hb3.out.trans (hb4.mono Hb3.out.size))
  have Hvb4 := Lib.hid (Hvb3.out.below (flat_atW w ReqR).stays hb4)
  clear hb4
  go_wp2_with fail
  refine (match_any _ _ (l ++ m) labels mx w4 (Hvb4.out.row.ofW stays_req Hb4.out) (by rw [Hnb.out]; exact hnb) Hokb.out (H2.out.below stays_label Hb4.out) hbl Okb.out (Hm.out.below Hb4.out)).mono ?_
  rintro E w5 ⟨rfl, hb5⟩
  have Hb5 := Lib.hid (Hb4.out.trans (hb5.mono Hb4.out.size))
  have Hvb5 := Lib.hid (Hvb4.out.below (flat_atW w ReqR).stays hb5)
  clear hb5
  go_wp2_with fail
  refine (strange_any mx w5 (Hm.out.below Hb5.out)).mono ?_
  rintro E w6 ⟨rfl, hb6⟩
  have Hb6 := Lib.hid (Hb5.out.trans (hb6.mono Hb5.out.size))
  have Hvb6 := Lib.hid (Hvb5.out.below (flat_atW w ReqR).stays hb6)
  clear hb6
  have hbad := queryAnd_bad (l := l) (m := m) (labels := labels)
  have hgood := queryAnd_good (l := l) (m := m) (labels := labels)
  obtain ⟨x, Hx⟩ : ∃ x, Hid (matchB l labels = x) := ⟨_, Lib.hid rfl⟩
  obtain ⟨y, Hy⟩ : ∃ y, Hid (matchB m labels = y) := ⟨_, Lib.hid rfl⟩
  obtain ⟨z, Hz⟩ : ∃ z, Hid (matchB (l ++ m) labels = z) := ⟨_, Lib.hid rfl⟩
  obtain ⟨e, He⟩ : ∃ e, Hid (matchE l labels = e) := ⟨_, Lib.hid rfl⟩
  obtain ⟨f, Hf⟩ : ∃ f, Hid (matchE m labels = f) := ⟨_, Lib.hid rfl⟩
  obtain ⟨g, Hg⟩ : ∃ g, Hid (matchE (l ++ m) labels = g) := ⟨_, Lib.hid rfl⟩
  rw [He.out, Hf.out, Hg.out, Hz.out, Hnb.out] at hbad
  rw [He.out, Hf.out, Hg.out, Hx.out, Hy.out, Hz.out, Hnb.out] at hgood
  rw [He.out, Hf.out, Hg.out, Hx.out, Hy.out, Hz.out]
  by_cases hb : e ≠ 0 ∨ f ≠ 0 ∨ 8 < nb
  · obtain ⟨hg0, hz0'⟩ := hbad hb
    have q1 : (g == 0) = false := by rw [beq_eq_false_iff_ne]; exact hg0
    have q2 : (g != 0) = true := by rw [bne_iff_ne]; exact hg0
    subst hz0'
    have way : ((e == 0) = false ∧ (e != 0) = true) ∨ (e = 0 ∧ (f == 0) = false ∧ (f != 0) = true) ∨ (e = 0 ∧ f = 0 ∧ (8 : Int) < (nb : Int)) := by
      rw [beq_eq_false_iff_ne, beq_eq_false_iff_ne, bne_iff_ne, bne_iff_ne]
      omega
    clear hbad hgood hb hg0
    rcases way with ⟨q3, q4⟩ | ⟨rfl, q3, q4⟩ | ⟨rfl, rfl, q3⟩
    all_goals
      go_wp2_with fail
      go_ret
      exact ⟨rfl, Hb6.out⟩
  · have he : e = 0 := by omega
    have hf : f = 0 := by omega
    have h8 : ¬ 8 < nb := by omega
    obtain ⟨hg, hr, hz, hzr⟩ := hgood he hf h8
    have q3 : ¬ (8 : Int) < (nb : Int) := by omega
    subst he
    subst hf
    subst hg
    have Hr := Lib.hid hr
    have Hzr := Lib.hid hzr
    clear hb hbad hgood h8 hr hzr
    go_wp2_with fail
    refine (reverse_own (flat_atW w ReqR) (one_atW w one_req) _ (l ++ m) w.heap.size w6 Hvb6.out (by rw [Hnb.out]; exact hnb)).mono ?_
    rintro E w7 ⟨rfl, hv7, hb7⟩
    have Hb7 := Lib.hid (Hb6.out.trans hb7)
    have Hv7 := Lib.hid hv7
    clear hb7 hv7
    go_wp2_with fail
    refine (match_any _ _ (l ++ m).reverse labels mx w7 (Hv7.out.row.ofW stays_req Hb7.out) (by rw [List.length_reverse, Hnb.out]; exact hnb) (fun x hx => Hokb.out x (List.mem_reverse.1 hx)) (H2.out.below stays_label Hb7.out) hbl Okb.out (Hm.out.below Hb7.out)).mono ?_
    rintro E w8 ⟨rfl, hb8⟩
    have Hb8 := Lib.hid (Hb7.out.trans (hb8.mono Hb7.out.size))
    rw [Hr.out, Hzr.out]
    clear hb8
    subst hz
    cases x <;> cases y
    all_goals
      go_wp2_with fail
      go_ret
      exact ⟨rfl, Hb8.out⟩
end Go.Proofs.YtmfcddbeglfdcaaDoor
