/- The law JsonQuotes. -/
import Derived.Test.YtaddcchpidpbfaaDoorJsonQuoteJ
namespace Go.Proofs.YtaddcchpidpbfaaDoor
open Go.RowKit
open JP (JV Bs)

namespace JP
theorem quote_read {s : Bs} (h : quoteE s = 0) : quoteT s = quote s ∧ readL (quote s) = (.str s, 0) := by
  have ht : quoteT s = quote s := if_pos h
  unfold quoteE at h
  split at h
  · rename_i h1
    split at h
    · exact absurd h (by decide)
    · rename_i h2
      exact ⟨ht, read_text (v := .str s) (by rw [wf]; exact h1) (by simp only [size]; omega) (by simp only [deep]; omega) (by rw [text]; omega)⟩
  · exact absurd h (by decide)
theorem quoteE_way (s : Bs) : quoteE s = 0 ∨ (quoteE s = 2 ∨ quoteE s = 16) ∧ quoteT s = [] := by
  unfold quoteT
  unfold quoteE
  split
  · split
    · exact .inr ⟨.inl rfl, rfl⟩
    · exact .inl rfl
  · exact .inr ⟨.inr rfl, rfl⟩
end JP
set_option maxRecDepth 100000 in
set_option maxHeartbeats 6400000 in
theorem jsonQuotes_walk (a b : ByteArray) (w : World) (hbulk : a.data.toList.length + 1 + (b.data.toList.length + 1 + 0) ≤ 1048576) (htab : TabOK w) :
    Calls Tryd.prog 7 #[.string a, .string b] w fun e w' => e = .returned (.bool true) ∧ Below w.heap.size w w' := by
  have ha : a.size ≤ 1048576 := by rw [list_size] at hbulk; omega
  have hb : b.size ≤ 1048576 := by rw [list_size b] at hbulk; omega
  have HC := Lib.hid (quoteJ_any a w ha)
  have HC2 := Lib.hid (fun (w' : World) => quoteJ_any b w' hb)
  have HT := Lib.hid htab
  rcases JP.quoteE_way a.data.toList with h0 | ⟨h0, hT0⟩
  · obtain ⟨k1, k2⟩ := JP.quote_read h0
    rcases JP.quoteE_way b.data.toList with g0 | ⟨g0, gT0⟩
    · obtain ⟨l1, l2⟩ := JP.quote_read g0
      have hq : ((mkB (JP.quote a.data.toList)).toList == (mkB (JP.quote b.data.toList)).toList) = (a.toList == b.toList) := by
        rw [mkB_eq, ba_list, ba_list, Bool.eq_iff_iff, decide_eq_true_iff, beq_iff_eq]
        constructor
        · intro e
          rw [e, l2] at k2
          have := (Prod.mk.inj k2).1
          injection this with this
          exact this.symm
        · intro e; rw [e]
      have hcT : JP.canonT (JP.quote a.data.toList) = JP.quote a.data.toList := by rw [JP.canonT_ok k2, JP.text]
      have hcE : JP.canonE (JP.quote a.data.toList) = 0 := by unfold JP.canonE; rw [k2]
      have hk : JP.kindT (JP.quote a.data.toList) = 4 := by unfold JP.kindT; rw [k2]; rfl
      rw [k1, h0] at HC
      rw [l1, g0] at HC2
      have hql : (JP.quote a.data.toList).length ≤ 2000 := (JP.readL_good k2).2.2.2.2
      have hqs : (mkB (JP.quote a.data.toList)).size ≤ 1048576 := by rw [mkB_size]; omega
      have HK := Lib.hid (fun (w' : World) => kindJ_any (mkB (JP.quote a.data.toList)) w' hqs)
      have HN := Lib.hid (fun (w' : World) (h : Below w.heap.size w w') => canon_any (mkB (JP.quote a.data.toList)) w' hqs (htab.below h))
      rw [mkB_list, hk, hcE] at HK
      rw [mkB_list, hcT, hcE] at HN
      obtain ⟨q, hqq⟩ : ∃ q, (a.toList == b.toList) = q := ⟨_, rfl⟩
      rw [hqq] at hq
      obtain ⟨Q1, hQ1⟩ : ∃ S, mkB (JP.quote a.data.toList) = S := ⟨_, rfl⟩
      obtain ⟨Q2, hQ2⟩ : ∃ S, mkB (JP.quote b.data.toList) = S := ⟨_, rfl⟩
      rw [hQ1] at HC HK HN hq
      rw [hQ2] at HC2 hq
      clear k1 k2 l1 l2 hcT hcE hk hql hqs h0 g0 htab hQ1 hQ2 hbulk ha hb
      cases q <;>
      · go_enter Tryd.func7, Tryd.ntmps7
        go_wp2_with fail
        refine HC.out.mono ?_
        rintro E w1 ⟨rfl, hb⟩
        have HB1 := Lib.hid hb
        clear hb
        go_wp2_with fail
        refine (HC2.out w1).mono ?_
        rintro E w2 ⟨rfl, hb⟩
        have HB2 := Lib.hid (HB1.out.trans (hb.mono HB1.out.size))
        clear hb
        go_wp2_with fail
        refine (HK.out w2).mono ?_
        rintro E w3 ⟨rfl, hb⟩
        have HB3 := Lib.hid (HB2.out.trans (hb.mono HB2.out.size))
        clear hb
        go_wp2_with fail
        refine (HN.out w3 HB3.out).mono ?_
        rintro E w4 ⟨rfl, hb⟩
        have HB4 := Lib.hid (HB3.out.trans (hb.mono HB3.out.size))
        clear hb
        go_wp2_with fail
        go_ret
        exact ⟨rfl, HB4.out⟩
    · rw [k1, h0] at HC
      rw [gT0] at HC2
      obtain ⟨G, hG⟩ : ∃ G, JP.quoteE b.data.toList = G := ⟨_, rfl⟩
      rw [hG] at HC2 g0
      have hem : (mkB ([] : Bs)).toList.isEmpty = true := by rw [mkB_empty]; rfl
      obtain ⟨Z, hZ⟩ : ∃ Z, mkB ([] : Bs) = Z := ⟨_, rfl⟩
      obtain ⟨Q1, hQ1⟩ : ∃ S, mkB (JP.quote a.data.toList) = S := ⟨_, rfl⟩
      rw [hZ] at hem HC2
      rw [hQ1] at HC
      clear k1 k2 h0 htab hG hbulk ha hb hZ hQ1 gT0
      rcases g0 with rfl | rfl <;>
      · go_enter Tryd.func7, Tryd.ntmps7
        go_wp2_with fail
        refine HC.out.mono ?_
        rintro E w1 ⟨rfl, hb⟩
        have HB1 := Lib.hid hb
        clear hb
        go_wp2_with fail
        refine (HC2.out w1).mono ?_
        rintro E w2 ⟨rfl, hb⟩
        have HB2 := Lib.hid (HB1.out.trans (hb.mono HB1.out.size))
        clear hb
        go_wp2_with fail
        go_ret
        exact ⟨rfl, HB2.out⟩
  · rw [hT0] at HC
    have hem : (mkB ([] : Bs)).toList.isEmpty = true := by rw [mkB_empty]; rfl
    obtain ⟨Z, hZ⟩ : ∃ Z, mkB ([] : Bs) = Z := ⟨_, rfl⟩
    obtain ⟨F, hF⟩ : ∃ F, JP.quoteE a.data.toList = F := ⟨_, rfl⟩
    obtain ⟨G, hG⟩ : ∃ G, JP.quoteE b.data.toList = G := ⟨_, rfl⟩
    obtain ⟨T2, hT2⟩ : ∃ G, JP.quoteT b.data.toList = G := ⟨_, rfl⟩
    rw [hF] at HC h0
    rw [hZ] at HC
    have way : G = 0 ∨ ((G == 0) = false ∧ (mkB T2).toList.isEmpty = true) := by
      rcases JP.quoteE_way b.data.toList with g0 | ⟨g0, gT0⟩
      · exact .inl (by rw [← hG]; exact g0)
      · refine .inr ⟨by rw [← hG]; rcases g0 with g0 | g0 <;> rw [g0] <;> rfl, by rw [← hT2, gT0, mkB_empty]; rfl⟩
    rw [hG, hT2] at HC2
    rw [hZ] at hem
    clear hT0 htab hG hF hT2 hbulk ha hb hZ
    rcases h0 with rfl | rfl <;> rcases way with rfl | ⟨p1, p2⟩ <;>
    · go_enter Tryd.func7, Tryd.ntmps7
      go_wp2_with fail
      refine HC.out.mono ?_
      rintro E w1 ⟨rfl, hb⟩
      have HB1 := Lib.hid hb
      clear hb
      go_wp2_with fail
      refine (HC2.out w1).mono ?_
      rintro E w2 ⟨rfl, hb⟩
      have HB2 := Lib.hid (HB1.out.trans (hb.mono HB1.out.size))
      clear hb
      go_wp2_with fail
      go_ret
      exact ⟨rfl, HB2.out⟩
end Go.Proofs.YtaddcchpidpbfaaDoor
