/- QueryImplied: the law's walk. -/
import Derived.Test.YtjhaopkhpmkkiaaDoorImplies
namespace Go.Proofs.YtjhaopkhpmkkiaaDoor
open Go.RowKit

set_option maxRecDepth 100000 in
set_option maxHeartbeats 3200000 in
theorem queryImplied_walk (v0 : Value) (l : List GReq) (v1 : Value) (m : List GReq) (v2 : Value) (labels : List GLabel) (w : World) (h0 : RowAt ReqR 3 w v0 l) (h1 : RowAt ReqR 3 w v1 m) (h2 : RowAt LabelR 2 w v2 labels)
    (hbulk : (l.map reqB).sum + 1 + ((m.map reqB).sum + 1 + ((labels.map labelB).sum + 1 + 0)) ≤ 1048576) (hmax : ∃ m, MaxOK m w) :
    Calls Tryd.prog 7 #[v0, v1, v2] w fun e w' => e = .returned (.bool true) ∧ Below w.heap.size w w' := by
  obtain ⟨mx, hm⟩ := hmax
  obtain ⟨okl, hll⟩ := okReqs_of (l := l) (by omega)
  obtain ⟨okm, hml⟩ := okReqs_of (l := m) (by omega)
  obtain ⟨okb, hbl⟩ := okLabs_of (l := labels) (by omega)
  obtain ⟨a0, c0, rfl, _, _⟩ := h0.len
  obtain ⟨a1, c1, rfl, _, _⟩ := h1.len
  obtain ⟨a2, c2, rfl, _, _⟩ := h2.len
  have H0 := Lib.hid h0
  have H1 := Lib.hid h1
  have H2 := Lib.hid h2
  have Hm := Lib.hid hm
  have Okl := Lib.hid okl
  have Okm := Lib.hid okm
  have Okb := Lib.hid okb
  clear h0 h1 h2 hm okl okm okb hbulk
  go_enter Tryd.func7, Tryd.ntmps7
  go_wp2_with fail
  refine (implies_any _ _ l m mx w H0.out H1.out hll hml Okl.out Okm.out Hm.out).mono ?_
  rintro E w1 ⟨v', out, is, rfl, hs, hne, hnil, hrow, hlab, hlen, hb1⟩
  have Hb1 := Lib.hid hb1
  have Hs := Lib.hid hs
  have Hlab := Lib.hid hlab
  have Hnil := Lib.hid hnil
  have Hne := Lib.hid hne
  have Hrow := Lib.hid hrow
  obtain ⟨a3, c3, rfl, _, _⟩ := hrow.len
  clear hb1 hs hrow hlab hnil hne
  go_wp2_with fail
  refine (strange_any mx w1 (Hm.out.below Hb1.out)).mono ?_
  rintro E w2 ⟨rfl, hb2⟩
  have Hb2 := Lib.hid (Hb1.out.trans (hb2.mono Hb1.out.size))
  have Hrow2 := Lib.hid (Hrow.out.below stays_label hb2)
  clear hb2
  obtain ⟨e, He⟩ : ∃ e, Hid (implyE l m = e) := ⟨_, Lib.hid rfl⟩
  rw [He.out]
  by_cases he : e = 0
  · subst he
    obtain ⟨hel, hem⟩ := implyE_zero.1 He.out
    have Hel := Lib.hid hel
    have Hem := Lib.hid hem
    have hgm := (goods_of hem).1
    have hI := Hs.out He.out
    have Hgm := Lib.hid hgm
    have HI := Lib.hid hI
    clear hel hem hgm hI
    cases is with
    | true =>
      have hout := Hnil.out rfl
      subst hout
      go_wp2_with fail
      refine (match_any _ _ l labels mx w2 (H0.out.below stays_req Hb2.out) hll Okl.out (H2.out.below stays_label Hb2.out) hbl Okb.out (Hm.out.below Hb2.out)).mono ?_
      rintro E w3 ⟨rfl, hb3⟩
      have Hb3 := Lib.hid (Hb2.out.trans (hb3.mono Hb2.out.size))
      clear hb3
      go_wp2_with fail
      refine (match_any _ _ m labels mx w3 (H1.out.below stays_req Hb3.out) hml Okm.out (H2.out.below stays_label Hb3.out) hbl Okb.out (Hm.out.below Hb3.out)).mono ?_
      rintro E w4 ⟨rfl, hb4⟩
      have Hb4 := Lib.hid (Hb3.out.trans (hb4.mono Hb3.out.size))
      clear hb4
      have hxy : matchE l labels = 0 → matchB l labels = true → matchB m labels = true := fun h1 h2 => by
        have h3 : labelsE labels = 0 := (matchE_zero.1 h1).2
        have h4 : matchE m labels = 0 := matchE_zero.2 ⟨Hem.out, h3⟩
        unfold matchB at h2 ⊢
        rw [h1] at h2
        rw [h4]
        have h5 : l.all (holdsB labels) = true := by simpa using h2
        rw [imply_yes Hgm.out HI.out h5]
        rfl
      obtain ⟨x, Hx⟩ : ∃ x, Hid (matchB l labels = x) := ⟨_, Lib.hid rfl⟩
      obtain ⟨y, Hy⟩ : ∃ y, Hid (matchB m labels = y) := ⟨_, Lib.hid rfl⟩
      obtain ⟨f, Hf⟩ : ∃ f, Hid (matchE l labels = f) := ⟨_, Lib.hid rfl⟩
      obtain ⟨g, Hg⟩ : ∃ g, Hid (matchE m labels = g) := ⟨_, Lib.hid rfl⟩
      rw [Hx.out, Hy.out, Hf.out] at hxy
      rw [Hx.out, Hy.out, Hf.out, Hg.out]
      have way : ((f == 0) = false ∧ (f != 0) = true) ∨ (f = 0 ∧ (g == 0) = false ∧ (g != 0) = true) ∨ (f = 0 ∧ g = 0 ∧ x = false) ∨ (f = 0 ∧ g = 0 ∧ x = true ∧ y = true) := by
        rw [beq_eq_false_iff_ne, beq_eq_false_iff_ne, bne_iff_ne, bne_iff_ne]
        by_cases h1 : f = 0
        · by_cases h2 : g = 0
          · cases hx : x with
            | false => exact .inr (.inr (.inl ⟨h1, h2, rfl⟩))
            | true => exact .inr (.inr (.inr ⟨h1, h2, rfl, hxy h1 hx⟩))
          · exact .inr (.inl ⟨h1, h2, h2⟩)
        · exact .inl ⟨h1, h1⟩
      clear hxy Hx Hy Hf Hg
      rcases way with ⟨p1, p2⟩ | ⟨rfl, p1, p2⟩ | ⟨rfl, rfl, rfl⟩ | ⟨rfl, rfl, rfl, rfl⟩
      all_goals
        go_wp2_with fail
        go_ret
        exact ⟨rfl, Hb4.out⟩
    | false =>
      obtain ⟨h3, h4, h5⟩ := imply_no Hgm.out HI.out
      have hx1 : matchE l out = 0 := matchE_zero.2 ⟨Hel.out, h5⟩
      have hy1 : matchE m out = 0 := matchE_zero.2 ⟨Hem.out, h5⟩
      have hx2 : matchB l out = true := by unfold matchB; rw [hx1, h3]; rfl
      have hy2 : matchB m out = false := by unfold matchB; rw [hy1, h4]; rfl
      have Hx1 := Lib.hid hx1
      have Hy1 := Lib.hid hy1
      have Hx2 := Lib.hid hx2
      have Hy2 := Lib.hid hy2
      clear h3 h4 h5 hx1 hy1 hx2 hy2
      go_wp2_with fail
      refine (match_any _ _ l out mx w2 (H0.out.below stays_req Hb2.out) hll Okl.out Hrow2.out (by omega) Hlab.out (Hm.out.below Hb2.out)).mono ?_
      rw [Hx1.out, Hx2.out]
      rintro E w3 ⟨rfl, hb3⟩
      have Hb3 := Lib.hid (Hb2.out.trans (hb3.mono Hb2.out.size))
      have Hrow3 := Lib.hid (Hrow2.out.below stays_label hb3)
      clear hb3
      go_wp2_with fail
      refine (match_any _ _ m out mx w3 (H1.out.below stays_req Hb3.out) hml Okm.out Hrow3.out (by omega) Hlab.out (Hm.out.below Hb3.out)).mono ?_
      rw [Hy1.out, Hy2.out]
      rintro E w4 ⟨rfl, hb4⟩
      have Hb4 := Lib.hid (Hb3.out.trans (hb4.mono Hb3.out.size))
      clear hb4
      go_wp2_with fail
      go_ret
      exact ⟨rfl, Hb4.out⟩
  · have q1 : (e == 0) = false := by rw [beq_eq_false_iff_ne]; exact he
    have q2 : (e != 0) = true := by rw [bne_iff_ne]; exact he
    obtain ⟨his, hout⟩ := Hne.out (by rw [He.out]; exact he)
    subst his
    subst hout
    have hor : reqsE l ≠ 0 ∨ (reqsE l = 0 ∧ reqsE m ≠ 0) := by
      by_cases h1 : reqsE l = 0
      · refine .inr ⟨h1, fun h2 => he ?_⟩
        rw [← He.out]
        exact implyE_zero.2 ⟨h1, h2⟩
      · exact .inl h1
    clear he
    go_wp2_with fail
    refine (checks_any _ l mx w2 (H0.out.below stays_req Hb2.out) hll Okl.out (Hm.out.below Hb2.out)).mono ?_
    rintro E w3 ⟨rfl, hb3⟩
    have Hb3 := Lib.hid (Hb2.out.trans (hb3.mono Hb2.out.size))
    clear hb3
    obtain ⟨f, Hf⟩ : ∃ f, Hid (reqsE l = f) := ⟨_, Lib.hid rfl⟩
    rw [Hf.out] at hor ⊢
    rcases hor with h1 | ⟨rfl, h1⟩
    · have p1 : (f == 0) = false := by rw [beq_eq_false_iff_ne]; exact h1
      have p2 : (f != 0) = true := by rw [bne_iff_ne]; exact h1
      clear h1
      go_wp2_with fail
      go_ret
      exact ⟨rfl, Hb3.out⟩
    · have Hn := Lib.hid h1
      clear h1
      go_wp2_with fail
      refine (checks_any _ m mx w3 (H1.out.below stays_req Hb3.out) hml Okm.out (Hm.out.below Hb3.out)).mono ?_
      rintro E w4 ⟨rfl, hb4⟩
      have Hb4 := Lib.hid (Hb3.out.trans (hb4.mono Hb3.out.size))
      clear hb4
      have hn := Hn.out
      obtain ⟨g, Hg⟩ : ∃ g, Hid (reqsE m = g) := ⟨_, Lib.hid rfl⟩
      rw [Hg.out] at hn ⊢
      have p1 : (g == 0) = false := by rw [beq_eq_false_iff_ne]; exact hn
      have p2 : (g != 0) = true := by rw [bne_iff_ne]; exact hn
      clear hn Hn
      go_wp2_with fail
      go_ret
      exact ⟨rfl, Hb4.out⟩
end Go.Proofs.YtjhaopkhpmkkiaaDoor
