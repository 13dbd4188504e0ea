/- QuerySound: the law's walk. -/
import Derived.Test.YtjhaopkhpmkkiaaDoorSolveF
namespace Go.Proofs.YtjhaopkhpmkkiaaDoor
open Go.RowKit

set_option maxRecDepth 100000 in
set_option maxHeartbeats 3200000 in
theorem querySound_walk (v0 : Value) (l : List GReq) (v1 : Value) (labels : List GLabel) (w : World) (h0 : RowAt ReqR 3 w v0 l) (h1 : RowAt LabelR 2 w v1 labels)
    (hbulk : (l.map reqB).sum + 1 + ((labels.map labelB).sum + 1 + 0) ≤ 1048576) (hmax : ∃ m, MaxOK m w) :
    Calls Tryd.prog 6 #[v0, v1] w fun e w' => e = .returned (.bool true) ∧ Below w.heap.size w w' := by
  obtain ⟨mx, hm⟩ := hmax
  obtain ⟨okl, hll⟩ := okReqs_of (l := l) (by omega)
  obtain ⟨okb, hbl⟩ := okLabs_of (l := labels) (by omega)
  obtain ⟨a0, c0, rfl, _, _⟩ := h0.len
  obtain ⟨a1, c1, rfl, _, _⟩ := h1.len
  have H0 := Lib.hid h0
  have H1 := Lib.hid h1
  have Hm := Lib.hid hm
  have Okl := Lib.hid okl
  have Okb := Lib.hid okb
  clear h0 h1 hm okl okb hbulk
  go_enter Tryd.func6, Tryd.ntmps6
  go_wp2_with fail
  refine (solveF_any _ l mx w H0.out hll Okl.out Hm.out).mono ?_
  rintro E w1 ⟨v', out, is, rfl, hs, hne, hnil, hrow, hlab, hlen, hb1⟩
  have Hb1 := Lib.hid hb1
  have Hs := Lib.hid hs
  have Hrow := Lib.hid hrow
  have Hlab := Lib.hid hlab
  have Hnil := Lib.hid hnil
  have Hne := Lib.hid hne
  obtain ⟨a3, c3, rfl, _, _⟩ := hrow.len
  clear hb1 hs hrow hlab hnil hne
  go_wp2_with fail
  refine (match_any _ _ l labels mx w1 (H0.out.below stays_req Hb1.out) hll Okl.out (H1.out.below stays_label Hb1.out) hbl Okb.out (Hm.out.below Hb1.out)).mono ?_
  rintro E w2 ⟨rfl, hb2⟩
  have Hb2 := Lib.hid (Hb1.out.trans (hb2.mono Hb1.out.size))
  have Hrow2 := Lib.hid (Hrow.out.below stays_label hb2)
  clear hb2
  go_wp2_with fail
  refine (strange_any mx w2 (Hm.out.below Hb2.out)).mono ?_
  rintro E w3 ⟨rfl, hb3⟩
  have Hb3 := Lib.hid (Hb2.out.trans (hb3.mono Hb2.out.size))
  have Hrow3 := Lib.hid (Hrow2.out.below stays_label hb3)
  clear hb3
  obtain ⟨x, Hx⟩ : ∃ x, Hid (matchB l labels = x) := ⟨_, Lib.hid rfl⟩
  obtain ⟨e, He⟩ : ∃ e, Hid (reqsE l = e) := ⟨_, Lib.hid rfl⟩
  obtain ⟨f, Hf⟩ : ∃ f, Hid (matchE l labels = f) := ⟨_, Lib.hid rfl⟩
  rw [Hx.out, He.out, Hf.out]
  by_cases h0 : e = 0
  · subst h0
    have hsolve := Hs.out He.out
    cases is with
    | false =>
      have hx : x = false := by
        rw [← Hx.out]
        unfold matchB
        rw [hsolve.2 rfl labels, Bool.and_false]
      have hout := Hnil.out rfl
      subst hx
      subst hout
      clear hsolve
      go_wp2_with fail
      go_ret
      exact ⟨rfl, Hb3.out⟩
    | true =>
      have hgood : matchE l out = 0 := matchE_zero.2 ⟨He.out, (hsolve.1 rfl).2⟩
      have hgood2 : matchB l out = true := by
        unfold matchB
        rw [hgood, (hsolve.1 rfl).1]
        rfl
      have Hg1 := Lib.hid hgood
      have Hg2 := Lib.hid hgood2
      clear hsolve hgood hgood2
      go_wp2_with fail
      refine (match_any _ _ l out mx w3 (H0.out.below stays_req Hb3.out) hll Okl.out Hrow3.out (by omega) Hlab.out (Hm.out.below Hb3.out)).mono ?_
      rw [Hg1.out, Hg2.out]
      rintro E w4 ⟨rfl, hb4⟩
      have Hb4 := Lib.hid (Hb3.out.trans (hb4.mono Hb3.out.size))
      clear hb4
      go_wp2_with fail
      go_ret
      exact ⟨rfl, Hb4.out⟩
  · have q1 : (e == 0) = false := by rw [beq_eq_false_iff_ne]; exact h0
    have q2 : (e != 0) = true := by rw [bne_iff_ne]; exact h0
    have hf : f = e := by
      rw [← Hf.out]
      unfold matchE
      rw [He.out, if_neg h0]
    have his := Hne.out (by rw [He.out]; exact h0)
    subst hf
    subst his
    have hout := Hnil.out rfl
    subst hout
    clear h0
    go_wp2_with fail
    go_ret
    exact ⟨rfl, Hb3.out⟩
end Go.Proofs.YtjhaopkhpmkkiaaDoor
