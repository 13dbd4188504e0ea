/- The law JsonOrder. -/
import Derived.Test.YtaddcchpidpbfaaDoorJsonQuoteJ
import Derived.Test.YtaddcchpidpbfaaDoorJsonOrderPlain
namespace Go.Proofs.YtaddcchpidpbfaaDoor
open Go.RowKit
open JP (JV Bs)

theorem po_list (a b : Bs) : (⟨#[123, 34, 112, 34, 58]⟩ ++ mkB a ++ ⟨#[44, 32, 34, 111, 34, 58]⟩ ++ mkB b ++ ⟨#[125]⟩ : ByteArray).data.toList = JP.docPO a b := by
  simp [mkB, JP.docPO, JP.quote, JP.oN, JP.pN, JP.escB]
theorem pp_list (a b : Bs) : (⟨#[123, 34, 112, 34, 58]⟩ ++ mkB a ++ ⟨#[44, 34, 112, 34, 58]⟩ ++ mkB b ++ ⟨#[125]⟩ : ByteArray).data.toList = JP.docPP a b := by
  simp [mkB, JP.docPP, JP.quote, JP.pN, JP.escB]
theorem op_list (a b : Bs) : (⟨#[123, 34, 111, 34, 58]⟩ ++ mkB b ++ ⟨#[44, 34, 112, 34, 58]⟩ ++ mkB a ++ ⟨#[125]⟩ : ByteArray).data.toList = JP.docOP a b := by
  simp [mkB, JP.docOP, JP.quote, JP.oN, JP.pN, JP.escB]
theorem read_wf {s : Bs} {v : JV} (h : JP.readL s = (v, 0)) : JP.wf v := (JP.readL_good h).1
set_option maxRecDepth 100000 in
set_option maxHeartbeats 6400000 in
theorem jsonOrder_walk (a b : ByteArray) (w : World) (hbulk : a.data.toList.length + 1 + (b.data.toList.length + 1 + 0) ≤ 1048576) (htab : TabOK w) :
    Calls Tryd.prog 3 #[.string a, .string b] w fun e w' => e = .returned (.bool true) ∧ Below w.heap.size w w' := by
  have ha : a.size ≤ 1048576 := by rw [list_size] at hbulk; omega
  have hb : b.size ≤ 1048576 := by rw [list_size b] at hbulk; omega
  have HC := Lib.hid (canonK_any a w ha htab)
  have HC2 := Lib.hid (fun (w' : World) (h : Below w.heap.size w w') => canonK_any b w' hb (htab.below h))
  obtain ⟨v, hv⟩ : ∃ v, (JP.readL a.data.toList).1 = v := ⟨_, rfl⟩
  obtain ⟨er, her⟩ : ∃ er, (JP.readL a.data.toList).2 = er := ⟨_, rfl⟩
  have hre : JP.readL a.data.toList = (v, er) := Prod.ext hv her
  obtain ⟨v2, hv2⟩ : ∃ v, (JP.readL b.data.toList).1 = v := ⟨_, rfl⟩
  obtain ⟨er2, her2⟩ : ∃ er, (JP.readL b.data.toList).2 = er := ⟨_, rfl⟩
  have hre2 : JP.readL b.data.toList = (v2, er2) := Prod.ext hv2 her2
  rw [show JP.canonE a.data.toList = er from her] at HC
  rw [show JP.canonE b.data.toList = er2 from her2] at HC2
  have hl1 := JP.canonT_le a.data.toList
  have hl2 := JP.canonT_le b.data.toList
  obtain ⟨T1, hT1⟩ : ∃ T, JP.canonT a.data.toList = T := ⟨_, rfl⟩
  obtain ⟨T2, hT2⟩ : ∃ T, JP.canonT b.data.toList = T := ⟨_, rfl⟩
  rw [hT1] at HC hl1
  rw [hT2] at HC2 hl2
  have hz1 := mkB_size T1
  have hz2 := mkB_size T2
  have wl : IntKind.i64.wrap (((mkB T1).size : Int) + ((mkB T2).size : Int)) = ((mkB T1).size : Int) + ((mkB T2).size : Int) := IntWalk.i64_in _ (by omega)
  by_cases hok : er = 0 ∧ er2 = 0 ∧ T1.length + T2.length ≤ 1900
  · obtain ⟨rfl, rfl, hlen⟩ := hok
    have e1 : T1 = JP.text v := by rw [← hT1]; exact JP.canonT_ok hre
    have e2 : T2 = JP.text v2 := by rw [← hT2]; exact JP.canonT_ok hre2
    have p1 : ¬ (1900 : Int) < ((mkB T1).size : Int) + ((mkB T2).size : Int) := by omega
    have sPO : (⟨#[123, 34, 112, 34, 58]⟩ ++ mkB T1 ++ ⟨#[44, 32, 34, 111, 34, 58]⟩ ++ mkB T2 ++ ⟨#[125]⟩ : ByteArray).size ≤ 1048576 := by rw [← list_size, po_list, (JP.len_po _ _).1]; omega
    have sPP : (⟨#[123, 34, 112, 34, 58]⟩ ++ mkB T1 ++ ⟨#[44, 34, 112, 34, 58]⟩ ++ mkB T2 ++ ⟨#[125]⟩ : ByteArray).size ≤ 1048576 := by rw [← list_size, pp_list, (JP.len_po _ _).2.1]; omega
    have sOP : (⟨#[123, 34, 111, 34, 58]⟩ ++ mkB T2 ++ ⟨#[44, 34, 112, 34, 58]⟩ ++ mkB T1 ++ ⟨#[125]⟩ : ByteArray).size ≤ 1048576 := by rw [← list_size, op_list, (JP.len_po _ _).2.2]; omega
    have hPO := fun (w' : World) (h : Below w.heap.size w w') => canon_any _ w' sPO (htab.below h)
    have hPP := fun (w' : World) (h : Below w.heap.size w w') => canon_any _ w' sPP (htab.below h)
    have hOP := fun (w' : World) (h : Below w.heap.size w w') => canon_any _ w' sOP (htab.below h)
    rw [po_list] at hPO
    rw [pp_list] at hPP
    rw [op_list] at hOP
    have l5 : ∀ x : Nat, (⟨#[123, 34, 112, 34, 58]⟩ : ByteArray).size + x = 5 + x := fun _ => rfl
    have b1 : ¬ 9223372036854775807 < 5 + (mkB T1).size := by omega
    have b2 : ¬ 9223372036854775807 < 5 + (mkB T1).size + 6 := by omega
    have b3 : ¬ 9223372036854775807 < 5 + (mkB T1).size + 6 + (mkB T2).size := by omega
    have b4 : ¬ 9223372036854775807 < 5 + (mkB T1).size + 6 + (mkB T2).size + 1 := by omega
    have c1 : ¬ 9223372036854775807 < 5 + (mkB T2).size := by omega
    have c2 : ¬ 9223372036854775807 < 5 + (mkB T2).size + 5 := by omega
    have c3 : ¬ 9223372036854775807 < 5 + (mkB T2).size + 5 + (mkB T1).size := by omega
    have c4 : ¬ 9223372036854775807 < 5 + (mkB T2).size + 5 + (mkB T1).size + 1 := by omega
    have d2 : ¬ 9223372036854775807 < 5 + (mkB T1).size + 5 := by omega
    have d3 : ¬ 9223372036854775807 < 5 + (mkB T1).size + 5 + (mkB T2).size := by omega
    have d4 : ¬ 9223372036854775807 < 5 + (mkB T1).size + 5 + (mkB T2).size + 1 := by omega
    have w1' := read_wf hre
    have w2' := read_wf hre2
    have hlen2 : (JP.text v).length + (JP.text v2).length ≤ 1900 := by rw [← e1, ← e2]; exact hlen
    by_cases hf : JP.Fits v v2
    · have rPO := JP.po_reads w1' w2' hlen2 hf
      have rOP := JP.op_reads w1' w2' hlen2 hf
      have rPP := JP.pp_reads w1' hlen2 hf
      rw [← e1, ← e2] at rPO rOP rPP
      have tOP : JP.text (.obj [(JP.oN, v2), (JP.pN, v)]) = JP.docOP T1 T2 := by rw [JP.text_op, e1, e2]
      rw [show JP.canonE (JP.docPO T1 T2) = 0 from by unfold JP.canonE; rw [rPO], (JP.canonT_ok rPO).trans tOP, ← op_list, mkB_of] at hPO
      rw [show JP.canonE (JP.docOP T1 T2) = 0 from by unfold JP.canonE; rw [rOP], (JP.canonT_ok rOP).trans tOP, ← op_list, mkB_of] at hOP
      rw [show JP.canonE (JP.docPP T1 T2) = 5 from rPP] at hPP
      obtain ⟨X9, hX9⟩ : ∃ X, mkB (JP.canonT (JP.docPP T1 T2)) = X := ⟨_, rfl⟩
      rw [hX9] at hPP
      have HPO := Lib.hid hPO
      have HPP := Lib.hid hPP
      have HOP := Lib.hid hOP
      clear hPO hPP hOP rPO rOP rPP tOP hX9 hf w1' w2' hlen2 sPO sPP sOP e1 e2 hz1 hz2 hT1 hT2 hl1 hl2 hre hre2 hv her hv2 her2 htab hbulk ha hb hlen l5
      go_enter Tryd.func3, Tryd.ntmps3
      go_wp2_with fail
      refine HC.out.mono ?_
      rintro E w1 ⟨rfl, hb⟩
      have HB1 := Lib.hid hb
      clear hb
      go_wp2_with fail
      refine (HC2.out w1 HB1.out).mono ?_
      rintro E w2 ⟨rfl, hb⟩
      have HB2 := Lib.hid (HB1.out.trans (hb.mono HB1.out.size))
      clear hb
      go_wp2_with fail
      refine (HPO.out w2 HB2.out).mono ?_
      rintro E w3 ⟨rfl, hb⟩
      have HB3 := Lib.hid (HB2.out.trans (hb.mono HB2.out.size))
      clear hb
      go_wp2_with fail
      refine (HOP.out w3 HB3.out).mono ?_
      rintro E w4 ⟨rfl, hb⟩
      have HB4 := Lib.hid (HB3.out.trans (hb.mono HB3.out.size))
      clear hb
      go_wp2_with fail
      refine (HPP.out w4 HB4.out).mono ?_
      rintro E w5 ⟨rfl, hb⟩
      have HB5 := Lib.hid (HB4.out.trans (hb.mono HB4.out.size))
      clear hb
      go_wp2_with fail
      go_ret
      exact ⟨rfl, HB5.out⟩
    · have rPO := JP.po_fails w1' w2' hlen2 hf
      have rOP := JP.op_fails w1' w2' hlen2 hf
      rw [← e1, ← e2] at rPO rOP
      obtain ⟨F1, hF1⟩ : ∃ X, JP.canonE (JP.docPO T1 T2) = X := ⟨_, rfl⟩
      obtain ⟨F2, hF2⟩ : ∃ X, JP.canonE (JP.docOP T1 T2) = X := ⟨_, rfl⟩
      obtain ⟨X1, hX1⟩ : ∃ X, mkB (JP.canonT (JP.docPO T1 T2)) = X := ⟨_, rfl⟩
      obtain ⟨X2, hX2⟩ : ∃ X, mkB (JP.canonT (JP.docOP T1 T2)) = X := ⟨_, rfl⟩
      have r1 : F1 = 2 ∨ F1 = 4 := by rw [← hF1]; exact rPO
      have r2 : F2 = 2 ∨ F2 = 4 := by rw [← hF2]; exact rOP
      rw [hF1, hX1] at hPO
      rw [hF2, hX2] at hOP
      have HPO := Lib.hid hPO
      have HOP := Lib.hid hOP
      clear hPO hPP hOP rPO rOP hX1 hX2 hF1 hF2 hf w1' w2' hlen2 sPO sPP sOP e1 e2 hz1 hz2 hT1 hT2 hl1 hl2 hre hre2 hv her hv2 her2 htab hbulk ha hb hlen l5
      rcases r1 with rfl | rfl <;> rcases r2 with rfl | rfl <;>
      · go_enter Tryd.func3, Tryd.ntmps3
        go_wp2_with fail
        refine HC.out.mono ?_
        rintro E w1 ⟨rfl, hb⟩
        have HB1 := Lib.hid hb
        clear hb
        go_wp2_with fail
        refine (HC2.out w1 HB1.out).mono ?_
        rintro E w2 ⟨rfl, hb⟩
        have HB2 := Lib.hid (HB1.out.trans (hb.mono HB1.out.size))
        clear hb
        go_wp2_with fail
        refine (HPO.out w2 HB2.out).mono ?_
        rintro E w3 ⟨rfl, hb⟩
        have HB3 := Lib.hid (HB2.out.trans (hb.mono HB2.out.size))
        clear hb
        go_wp2_with fail
        refine (HOP.out w3 HB3.out).mono ?_
        rintro E w4 ⟨rfl, hb⟩
        have HB4 := Lib.hid (HB3.out.trans (hb.mono HB3.out.size))
        clear hb
        go_wp2_with fail
        go_ret
        exact ⟨rfl, HB4.out⟩
  · have way : ((er == 0) = false ∧ (mkB T1).toList.isEmpty = true) ∨ ((er == 0) = true ∧ (er2 == 0) = false) ∨ ((er == 0) = true ∧ (er2 == 0) = true ∧ (1900 : Int) < ((mkB T1).size : Int) + ((mkB T2).size : Int)) := by
      by_cases h1 : er = 0
      · by_cases h2 : er2 = 0
        · exact .inr (.inr ⟨by rw [beq_iff_eq]; exact h1, by rw [beq_iff_eq]; exact h2, by
            have : ¬ T1.length + T2.length ≤ 1900 := fun h => hok ⟨h1, h2, h⟩
            omega⟩)
        · exact .inr (.inl ⟨by rw [beq_iff_eq]; exact h1, by rw [beq_eq_false_iff_ne]; exact h2⟩)
      · refine .inl ⟨by rw [beq_eq_false_iff_ne]; exact h1, ?_⟩
        rw [← hT1, JP.canonT_no (by rw [hre]; exact h1), mkB_empty]
        rfl
    clear hok hz1 hz2 hT1 hT2 hl1 hl2 hre hre2 hv her hv2 her2 htab hbulk ha hb
    rcases way with ⟨p1, p2⟩ | ⟨p1, p2⟩ | ⟨p1, p2, p3⟩
    all_goals
      go_enter Tryd.func3, Tryd.ntmps3
      go_wp2_with fail
      refine HC.out.mono ?_
      rintro E w1 ⟨rfl, hb⟩
      have HB1 := Lib.hid hb
      clear hb
      go_wp2_with fail
      refine (HC2.out w1 HB1.out).mono ?_
      rintro E w2 ⟨rfl, hb⟩
      have HB2 := Lib.hid (HB1.out.trans (hb.mono HB1.out.size))
      clear hb
      go_wp2_with fail
      go_ret
      exact ⟨rfl, HB2.out⟩
end Go.Proofs.YtaddcchpidpbfaaDoor
