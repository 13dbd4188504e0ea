/- The law JsonCut. -/
import Derived.Test.YtaddcchpidpbfaaDoorJsonQuoteJ
import Derived.Test.YtaddcchpidpbfaaDoorJsonCutPlain
import Derived.Test.YtaddcchpidpbfaaDoorRest
namespace Go.Proofs.YtaddcchpidpbfaaDoor
open Go.RowKit
open JP (JV Bs)

namespace JP
theorem read_nil3 : readL [] = (.nul, 3) := by
  unfold readL
  rw [if_neg (by decide), fin_more]
  exact fin_bad 3
theorem text_ne3 (v : JV) : text v ≠ [] := fun e => by
  obtain ⟨c, t, h, _⟩ := text_head v
  rw [h] at e
  cases e
end JP
set_option maxRecDepth 100000 in
set_option maxHeartbeats 6400000 in
theorem jsonCut_walk (s : ByteArray) (a : Int) (w : World) (_ha : (Lit.int .i64 a).wf = true) (hbulk : s.data.toList.length + 1 + (1 + 0) ≤ 1048576) (htab : TabOK w) :
    Calls Tryd.prog 5 #[.string s, .int .i64 a] w fun e w' => e = .returned (.bool true) ∧ Below w.heap.size w w' := by
  have hs : s.size ≤ 1048576 := by rw [list_size] at hbulk; omega
  have HC := Lib.hid (canon_any s w hs htab)
  obtain ⟨v, hv⟩ : ∃ v, (JP.readL s.data.toList).1 = v := ⟨_, rfl⟩
  obtain ⟨er, her⟩ : ∃ er, (JP.readL s.data.toList).2 = er := ⟨_, rfl⟩
  have hre : JP.readL s.data.toList = (v, er) := Prod.ext hv her
  rw [show JP.canonE s.data.toList = er from her] at HC
  have hz : (ByteArray.empty).size ≤ 1048576 := by decide
  have H0 := Lib.hid (fun (w' : World) (hb : Below w.heap.size w w') => canon_any ByteArray.empty w' hz (htab.below hb))
  rw [show JP.canonE (ByteArray.empty).data.toList = 3 from by show (JP.readL []).2 = 3; rw [JP.read_nil3]] at H0
  obtain ⟨t1, ht1⟩ : ∃ t, mkB (JP.canonT (ByteArray.empty).data.toList) = t := ⟨_, rfl⟩
  rw [ht1] at H0
  have HK := Lib.hid (fun (w' : World) => kindJ_any s w' hs)
  rw [show JP.canonE s.data.toList = er from her] at HK
  obtain ⟨K, hK⟩ : ∃ K, JP.kindT s.data.toList = K := ⟨_, rfl⟩
  rw [hK] at HK
  by_cases hgo : er = 0 ∧ K ≠ 3
  · obtain ⟨rfl, hk3⟩ := hgo
    obtain ⟨h1, h2, h3, h4, h5⟩ := JP.readL_good hre
    rw [JP.canonT_ok hre] at HC
    have hkv : JP.kind v ≠ 3 := fun e => hk3 (by rw [← hK]; unfold JP.kindT; rw [hre]; exact (if_pos rfl).trans e)
    obtain ⟨T, hT⟩ : ∃ T, JP.text v = T := ⟨_, rfl⟩
    have hTl : 0 < T.length := by rw [← hT]; exact List.length_pos_iff.2 (JP.text_ne3 v)
    have hTm : T.length ≤ 2000 := by rw [← hT]; omega
    have hcut : ∀ i, i < T.length → JP.readL (T.take i) = (.nul, 3) := fun i hi => by
      rw [← hT] at hi ⊢
      exact JP.read_cut h1 h2 h3 (by omega) hkv hi
    rw [hT] at HC
    have hne : (mkB T).toList.isEmpty = false := by rw [mkB_empty]; exact decide_eq_false (List.length_pos_iff.1 hTl)
    have htz := mkB_size T
    obtain ⟨k, hkr⟩ : ∃ k : Nat, restOf a (((mkB T).size : Nat) : Int) = (k : Int) := ⟨_, (Int.toNat_of_nonneg (restOf_in (by omega)).1).symm⟩
    have hkl : k < T.length := by have := (restOf_in (a := a) (b := (((mkB T).size : Nat) : Int)) (by omega)).2; omega
    have n3 : (K == 3) = false := by rw [beq_eq_false_iff_ne]; exact hk3
    have hR := fun (w' : World) => rest_any a (((mkB T).size : Nat) : Int) w' (by omega) (by omega)
    rw [hkr] at hR
    have HR := Lib.hid hR
    have hX := fun (w' : World) (hb : Below w.heap.size w w') (X : ByteArray) (hx : X.data.toList = T.take k) => canon_any X w' (by rw [← list_size, hx, List.length_take]; omega) (htab.below hb)
    have HX : Hid (∀ (w' : World), Below w.heap.size w w' → ∀ (X : ByteArray), X.data.toList = T.take k → Calls Tryd.prog 16 #[.string X] w' fun e w'' => e = .returned (.tuple #[.string (mkB []), .int .i64 3]) ∧ Below w'.heap.size w' w'') := Lib.hid fun w' hb X hx => by
      have h9 := hX w' hb X hx
      rw [hx] at h9
      have hr := hcut k hkl
      rw [JP.canonT_no (by rw [hr]; decide), show JP.canonE (T.take k) = 3 from by unfold JP.canonE; rw [hr]] at h9
      exact h9
    have hem : (mkB ([] : Bs)).toList.isEmpty = true := by rw [mkB_empty]; rfl
    have q0 : k ≤ (mkB T).size := by omega
    have q1 : (0 : Int) ≤ (k : Int) := by omega
    have q2 : (k : Int) ≤ ((mkB T).size : Int) := by omega
    have htk : (mkB T).data.toList.take k = T.take k := by rw [mkB_list]
    have Htk := Lib.hid htk
    clear hX hcut hkr hR hT hTl hTm hkl htz h1 h2 h3 h4 h5 hkv hre hv her htab hbulk hK ht1 hz htk hk3
    go_enter Tryd.func5, Tryd.ntmps5
    go_wp2_with fail
    refine HC.out.mono ?_
    rintro E w1 ⟨rfl, hb⟩
    have HB1 := Lib.hid hb
    clear hb
    go_wp2_with fail
    refine (H0.out w1 HB1.out).mono ?_
    rintro E w2 ⟨rfl, hb⟩
    have HB2 := Lib.hid (HB1.out.trans (hb.mono HB1.out.size))
    clear hb
    go_wp2_with fail
    refine (HK.out w2).mono ?_
    rintro E w3 ⟨rfl, hb⟩
    have HB3 := Lib.hid (HB2.out.trans (hb.mono HB2.out.size))
    clear hb
    go_wp2_with fail
    refine (HR.out w3).mono ?_
    rintro E w4 ⟨rfl, rfl⟩
    go_wp2_with fail
    refine (HX.out _ HB3.out _ ?_).mono ?_
    · rw [← Htk.out]
      simp [ByteArray.data_extract, Array.toList_extract]
    rintro E w5 ⟨rfl, hb⟩
    have HB5 := Lib.hid (HB3.out.trans (hb.mono HB3.out.size))
    clear hb
    go_wp2_with fail
    go_ret
    exact ⟨rfl, HB5.out⟩
  · have way : (er == 0) = true ∧ K = 3 ∨ ((er != 0) = true ∧ (er == 0) = false ∧ (mkB (JP.canonT s.data.toList)).toList.isEmpty = true) := by
      by_cases h0 : er = 0
      · refine .inl ⟨by rw [beq_iff_eq]; exact h0, ?_⟩
        by_cases h3 : K = 3
        · exact h3
        · exact absurd ⟨h0, h3⟩ hgo
      · refine .inr ⟨by rw [bne_iff_ne]; exact h0, by rw [beq_eq_false_iff_ne]; exact h0, ?_⟩
        rw [JP.canonT_no (by rw [hre]; exact h0), mkB_empty]
        rfl
    obtain ⟨T, hT⟩ : ∃ T, mkB (JP.canonT s.data.toList) = T := ⟨_, rfl⟩
    rw [hT] at HC way
    clear hgo hre hv her htab hbulk hK ht1 hz hT
    rcases way with ⟨p1, rfl⟩ | ⟨p1, p2, p3⟩
    · have p2 : (er != 0) = false := by rw [bne_eq_false_iff_eq]; exact beq_iff_eq.1 p1
      go_enter Tryd.func5, Tryd.ntmps5
      go_wp2_with fail
      refine HC.out.mono ?_
      rintro E w1 ⟨rfl, hb⟩
      have HB1 := Lib.hid hb
      clear hb
      go_wp2_with fail
      refine (H0.out w1 HB1.out).mono ?_
      rintro E w2 ⟨rfl, hb⟩
      have HB2 := Lib.hid (HB1.out.trans (hb.mono HB1.out.size))
      clear hb
      go_wp2_with fail
      refine (HK.out w2).mono ?_
      rintro E w3 ⟨rfl, hb⟩
      have HB3 := Lib.hid (HB2.out.trans (hb.mono HB2.out.size))
      clear hb
      go_wp2_with fail
      go_ret
      exact ⟨rfl, HB3.out⟩
    · go_enter Tryd.func5, Tryd.ntmps5
      go_wp2_with fail
      refine HC.out.mono ?_
      rintro E w1 ⟨rfl, hb⟩
      have HB1 := Lib.hid hb
      clear hb
      go_wp2_with fail
      refine (H0.out w1 HB1.out).mono ?_
      rintro E w2 ⟨rfl, hb⟩
      have HB2 := Lib.hid (HB1.out.trans (hb.mono HB1.out.size))
      clear hb
      go_wp2_with fail
      refine (HK.out w2).mono ?_
      rintro E w3 ⟨rfl, hb⟩
      have HB3 := Lib.hid (HB2.out.trans (hb.mono HB2.out.size))
      clear hb
      go_wp2_with fail
      go_ret
      exact ⟨rfl, HB3.out⟩
end Go.Proofs.YtaddcchpidpbfaaDoor
