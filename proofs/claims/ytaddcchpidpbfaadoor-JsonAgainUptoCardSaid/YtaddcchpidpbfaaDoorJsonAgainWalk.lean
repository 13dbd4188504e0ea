/- The law JsonAgain. -/
import Derived.Test.YtaddcchpidpbfaaDoorJsonCanon
namespace Go.Proofs.YtaddcchpidpbfaaDoor
open Go.RowKit
open JP (JV Bs)

namespace JP
theorem read_nil : readL [] = (.nul, 3) := by
  unfold readL
  rw [if_neg (by decide), fin_more]
  exact fin_bad 3
theorem read_01 : canonE [48, 49] = 3 := by
  unfold canonE readL
  rw [if_neg (by decide), fin_more, show beginP [48, 49] 0 [] = .bad 3 from rfl, fin_bad]
theorem read_again {s : Bs} {v : JV} (h : readL s = (v, 0)) : readL (text v) = (v, 0) := by
  obtain ⟨h1, h2, h3, h4, h5⟩ := readL_good h
  exact read_text h1 h2 h3 (by omega)
theorem text_ne {s : Bs} {v : JV} (h : readL s = (v, 0)) : text v ≠ [] := fun e => by
  have := read_again h
  rw [e, read_nil] at this
  exact absurd (Prod.mk.inj this).2 (by decide)
end JP
theorem ba_list (s : ByteArray) : s.toList = s.data.toList := ByteArray.toList_eq s
theorem mkB_ne {l : Bs} (h : l ≠ []) : (mkB l).toList.isEmpty = false := by
  rw [ba_list, mkB_list]
  cases l with
  | nil => exact absurd rfl h
  | cons _ _ => rfl
set_option maxRecDepth 100000 in
set_option maxHeartbeats 6400000 in
theorem jsonAgain_walk (s : ByteArray) (w : World) (hbulk : s.data.toList.length + 1 + 0 ≤ 1048576) (htab : TabOK w) :
    Calls Tryd.prog 8 #[.string s] w fun e w' => e = .returned (.bool true) ∧ Below w.heap.size w w' := by
  have hs : s.size ≤ 1048576 := by rw [list_size] at hbulk; omega
  have HT := Lib.hid htab
  have HC := Lib.hid (canon_any s w hs htab)
  obtain ⟨v, hv⟩ : ∃ v, (JP.readL s.data.toList).1 = v := ⟨_, rfl⟩
  obtain ⟨er, her⟩ : ∃ er, (JP.readL s.data.toList).2 = er := ⟨_, rfl⟩
  have hre : JP.readL s.data.toList = (v, er) := Prod.ext hv her
  have Hre := Lib.hid hre
  rw [show JP.canonE s.data.toList = er from her] at HC
  have H01 := Lib.hid (fun (w' : World) (hb : Below w.heap.size w w') => canon_any ⟨#[48, 49]⟩ w' (by decide) (htab.below hb))
  rw [show JP.canonE (⟨#[48, 49]⟩ : ByteArray).data.toList = 3 from JP.read_01] at H01
  obtain ⟨t1, ht1⟩ : ∃ t, mkB (JP.canonT (⟨#[48, 49]⟩ : ByteArray).data.toList) = t := ⟨_, rfl⟩
  rw [ht1] at H01
  by_cases he : er = 0
  · subst he
    obtain ⟨h1, h2, h3, h4, h5⟩ := JP.readL_good hre
    have hag := JP.read_again hre
    have htn := JP.text_ne hre
    obtain ⟨T, hT⟩ : ∃ T, JP.text v = T := ⟨_, rfl⟩
    have hcs : JP.canonT s.data.toList = T := (JP.canonT_ok hre).trans hT
    have hct : JP.canonT T = T := by rw [hT] at hag; exact (JP.canonT_ok hag).trans hT
    have hce : JP.canonE T = 0 := by rw [hT] at hag; unfold JP.canonE; rw [hag]
    rw [hT] at h4 htn hag
    have hsame : JP.sameT s.data.toList T = true := by unfold JP.sameT; rw [hre, hag, if_pos ⟨rfl, rfl⟩]; exact decide_eq_true rfl
    have hsmE : JP.sameE s.data.toList T = 0 := by unfold JP.sameE; rw [hre, hag]; rfl
    have hmany : JP.manyT T = JP.manyT s.data.toList := by unfold JP.manyT; rw [hre, hag]
    have hdeep : JP.deepT T = JP.deepT s.data.toList := by unfold JP.deepT; rw [hre, hag]
    obtain ⟨M, hM⟩ : ∃ M, JP.manyT s.data.toList = M := ⟨_, rfl⟩
    obtain ⟨D, hD⟩ : ∃ M, JP.deepT s.data.toList = M := ⟨_, rfl⟩
    rw [list_size] at h4
    have hTz : (mkB T).size ≤ s.size := by rw [mkB_size]; exact h4
    have hTz2 : (mkB T).size ≤ 1048576 := by omega
    rw [hcs] at HC
    have HC2 := Lib.hid (fun (w' : World) (hb : Below w.heap.size w w') => canon_any (mkB T) w' hTz2 (htab.below hb))
    have HS2 := Lib.hid (fun (w' : World) (hb : Below w.heap.size w w') => sameJ_any s (mkB T) w' hs hTz2 (htab.below hb))
    have HZ1 := Lib.hid (fun (w' : World) => sizeJ_any s w' hs)
    have HZ2 := Lib.hid (fun (w' : World) => sizeJ_any (mkB T) w' hTz2)
    rw [mkB_list, hct, hce] at HC2
    rw [mkB_list, hsame, hsmE] at HS2
    rw [hM, hD, show JP.canonE s.data.toList = 0 from her] at HZ1
    rw [mkB_list, hmany, hdeep, hM, hD, hce] at HZ2
    have hne := mkB_ne htn
    have hne2 : (!(mkB T).toList.isEmpty) = true := by rw [hne]; rfl
    have hle : ((mkB T).size : Int) ≤ (s.size : Int) := by omega
    clear h1 h2 h3 h4 h5 hag htn hT hcs hct hce hsame hsmE hmany hdeep hM hD hre htab hv her ht1 Hre
    go_enter Tryd.func8, Tryd.ntmps8
    go_wp2_with fail
    refine HC.out.mono ?_
    rintro E w1 ⟨rfl, hb⟩
    have HB1 := Lib.hid hb
    clear hb
    go_wp2_with fail
    refine (H01.out w1 HB1.out).mono ?_
    rintro E w2 ⟨rfl, hb⟩
    have HB2 := Lib.hid (HB1.out.trans (hb.mono HB1.out.size))
    clear hb
    go_wp2_with fail
    refine (HC2.out w2 HB2.out).mono ?_
    rintro E w3 ⟨rfl, hb⟩
    have HB3 := Lib.hid (HB2.out.trans (hb.mono HB2.out.size))
    clear hb
    go_wp2_with fail
    refine (HS2.out w3 HB3.out).mono ?_
    rintro E w4 ⟨rfl, hb⟩
    have HB4 := Lib.hid (HB3.out.trans (hb.mono HB3.out.size))
    clear hb
    go_wp2_with fail
    refine (HZ1.out w4).mono ?_
    rintro E w5 ⟨rfl, hb⟩
    have HB5 := Lib.hid (HB4.out.trans (hb.mono HB4.out.size))
    clear hb
    go_wp2_with fail
    refine (HZ2.out w5).mono ?_
    rintro E w6 ⟨rfl, hb⟩
    have HB6 := Lib.hid (HB5.out.trans (hb.mono HB5.out.size))
    clear hb
    go_wp2_with fail
    go_ret
    exact ⟨rfl, HB6.out⟩
  · have n0 : (er != 0) = true := by rw [bne_iff_ne]; exact he
    rw [JP.canonT_no (by rw [hre]; exact he)] at HC
    clear hre htab hv her ht1 Hre he
    go_enter Tryd.func8, Tryd.ntmps8
    go_wp2_with fail
    refine HC.out.mono ?_
    rintro E w1 ⟨rfl, hb⟩
    have HB1 := Lib.hid hb
    clear hb
    go_wp2_with fail
    refine (H01.out w1 HB1.out).mono ?_
    rintro E w2 ⟨rfl, hb⟩
    have HB2 := Lib.hid (HB1.out.trans (hb.mono HB1.out.size))
    clear hb
    go_wp2_with fail
    go_ret
    exact ⟨by rw [show (mkB []).toList.isEmpty = true from by rw [ba_list, mkB_list]; rfl] <;> rfl, HB2.out⟩
end Go.Proofs.YtaddcchpidpbfaaDoor
