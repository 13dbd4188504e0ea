/- The law JsonApart. -/
import Derived.Test.YtaddcchpidpbfaaDoorJsonQuoteJ
namespace Go.Proofs.YtaddcchpidpbfaaDoor
open Go.RowKit
open JP (JV Bs)

namespace JP
theorem read_nil' : readL [] = (.nul, 3) := by
  unfold readL
  rw [if_neg (by decide), fin_more]
  exact fin_bad 3
theorem read_again' {s : Bs} {v : JV} (h : readL s = (v, 0)) : readL (text v) = (v, 0) := by
  obtain ⟨h1, h2, h3, h4, h5⟩ := readL_good h
  exact read_text h1 h2 h3 (by omega)
theorem text_ne' {s : Bs} {v : JV} (h : readL s = (v, 0)) : text v ≠ [] := fun e => by
  have := read_again' h
  rw [e, read_nil'] at this
  exact absurd (Prod.mk.inj this).2 (by decide)
end JP
set_option maxRecDepth 100000 in
set_option maxHeartbeats 6400000 in
theorem jsonApart_walk (a b : ByteArray) (w : World) (hbulk : a.data.toList.length + 1 + (b.data.toList.length + 1 + 0) ≤ 1048576) (htab : TabOK w) :
    Calls Tryd.prog 4 #[.string a, .string b] w fun e w' => e = .returned (.bool true) ∧ Below w.heap.size w w' := by
  have ha : a.size ≤ 1048576 := by rw [list_size] at hbulk; omega
  have hb : b.size ≤ 1048576 := by rw [list_size b] at hbulk; omega
  have HC := Lib.hid (canonK_any a w ha htab)
  have HC2 := Lib.hid (fun (w' : World) (h : Below w.heap.size w w') => canonK_any b w' hb (htab.below h))
  have HS := Lib.hid (fun (w' : World) (h : Below w.heap.size w w') => sameJ_any a b w' ha hb (htab.below h))
  obtain ⟨v, hv⟩ : ∃ v, (JP.readL a.data.toList).1 = v := ⟨_, rfl⟩
  obtain ⟨er, her⟩ : ∃ er, (JP.readL a.data.toList).2 = er := ⟨_, rfl⟩
  have hre : JP.readL a.data.toList = (v, er) := Prod.ext hv her
  obtain ⟨v2, hv2⟩ : ∃ v, (JP.readL b.data.toList).1 = v := ⟨_, rfl⟩
  obtain ⟨er2, her2⟩ : ∃ er, (JP.readL b.data.toList).2 = er := ⟨_, rfl⟩
  have hre2 : JP.readL b.data.toList = (v2, er2) := Prod.ext hv2 her2
  rw [show JP.canonE a.data.toList = er from her] at HC
  rw [show JP.canonE b.data.toList = er2 from her2] at HC2
  have key : (er = 0 ∧ er2 = 0 ∧ JP.sameE a.data.toList b.data.toList = 0 ∧ ((mkB (JP.canonT a.data.toList)).toList == (mkB (JP.canonT b.data.toList)).toList) = JP.sameT a.data.toList b.data.toList ∧ (mkB (JP.canonT a.data.toList)).toList.isEmpty = false) ∨ (¬ (er = 0 ∧ er2 = 0) ∧ JP.sameE a.data.toList b.data.toList ≠ 0 ∧ JP.sameT a.data.toList b.data.toList = false) := by
    by_cases h : er = 0 ∧ er2 = 0
    · obtain ⟨rfl, rfl⟩ := h
      refine .inl ⟨rfl, rfl, by unfold JP.sameE; rw [hre, hre2]; rfl, ?_, ?_⟩
      · rw [mkB_eq, JP.canonT_ok hre, JP.canonT_ok hre2]
        unfold JP.sameT
        rw [hre, hre2]
        exact (if_pos ⟨rfl, rfl⟩).symm
      · rw [mkB_empty, JP.canonT_ok hre]
        exact decide_eq_false (JP.text_ne' hre)
    · refine .inr ⟨h, ?_, by unfold JP.sameT; rw [hre, hre2]; exact if_neg h⟩
      unfold JP.sameE
      rw [hre, hre2]
      by_cases h0 : er = 0
      · rw [if_pos h0]; exact fun e => h ⟨h0, e⟩
      · rw [if_neg h0]; exact h0
  obtain ⟨S, hS⟩ : ∃ S, JP.sameT a.data.toList b.data.toList = S := ⟨_, rfl⟩
  obtain ⟨SE, hSE⟩ : ∃ S, JP.sameE a.data.toList b.data.toList = S := ⟨_, rfl⟩
  obtain ⟨T1, hT1⟩ : ∃ S, mkB (JP.canonT a.data.toList) = S := ⟨_, rfl⟩
  obtain ⟨T2, hT2⟩ : ∃ S, mkB (JP.canonT b.data.toList) = S := ⟨_, rfl⟩
  rw [hS, hSE] at HS
  rw [hT1] at HC
  rw [hT2] at HC2
  rw [hS, hSE, hT1, hT2] at key
  clear hre htab hv her hv2 her2 hre2 hS hSE hT1 hT2 v v2 ha hb hbulk
  rcases key with ⟨rfl, rfl, rfl, h1, h2⟩ | ⟨h1, h2, rfl⟩
  · have h3 : (!T1.toList.isEmpty) = true := by rw [h2]; rfl
    go_enter Tryd.func4, Tryd.ntmps4
    go_wp2_with fail
    refine HC.out.mono ?_
    rintro E w1 ⟨rfl, hb⟩
    have HB1 := Lib.hid hb
    clear hb
    go_wp2_with fail
    refine (HC2.out w1 HB1.out).mono ?_
    rintro E w2 ⟨rfl, hb⟩
    have HB2 := Lib.hid (HB1.out.trans (hb.mono HB1.out.size))
    clear hb
    go_wp2_with fail
    refine (HS.out w2 HB2.out).mono ?_
    rintro E w3 ⟨rfl, hb⟩
    have HB3 := Lib.hid (HB2.out.trans (hb.mono HB2.out.size))
    clear hb
    cases S <;>
    · go_wp2_with fail
      go_ret
      exact ⟨rfl, HB3.out⟩
  · have n0 : (SE != 0) = true := by rw [bne_iff_ne]; exact h2
    have way : (er == 0) = false ∨ (er == 0) = true ∧ (er2 == 0) = false := by
      by_cases h0 : er = 0
      · exact .inr ⟨by rw [beq_iff_eq]; exact h0, by rw [beq_eq_false_iff_ne]; exact fun e => h1 ⟨h0, e⟩⟩
      · exact .inl (by rw [beq_eq_false_iff_ne]; exact h0)
    clear h1 h2
    rcases way with p1 | ⟨p1, p2⟩
    all_goals
      go_enter Tryd.func4, Tryd.ntmps4
      go_wp2_with fail
      refine HC.out.mono ?_
      rintro E w1 ⟨rfl, hb⟩
      have HB1 := Lib.hid hb
      clear hb
      go_wp2_with fail
      refine (HC2.out w1 HB1.out).mono ?_
      rintro E w2 ⟨rfl, hb⟩
      have HB2 := Lib.hid (HB1.out.trans (hb.mono HB1.out.size))
      clear hb
      go_wp2_with fail
      refine (HS.out w2 HB2.out).mono ?_
      rintro E w3 ⟨rfl, hb⟩
      have HB3 := Lib.hid (HB2.out.trans (hb.mono HB2.out.size))
      clear hb
      go_wp2_with fail
      go_ret
      exact ⟨rfl, HB3.out⟩
end Go.Proofs.YtaddcchpidpbfaaDoor
