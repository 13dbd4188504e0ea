/- The law JsonWraps. -/
import Derived.Test.YtaddcchpidpbfaaDoorJsonQuoteJ
import Derived.Test.YtaddcchpidpbfaaDoorJsonFails
namespace Go.Proofs.YtaddcchpidpbfaaDoor
open Go.RowKit
open JP (JV Bs)

namespace JP
theorem read_again2 {s : Bs} {v : JV} (h : readL s = (v, 0)) : readL (text v) = (v, 0) := by
  obtain ⟨h1, h2, h3, h4, h5⟩ := readL_good h
  exact read_text h1 h2 h3 (by omega)
theorem text_wrap (v : JV) : text (.list [v]) = 91 :: (text v ++ [93]) := by
  rw [text, textL, textL, joinB_one]
theorem wraps_way {s : Bs} {v : JV} (h : readL s = (v, 0)) :
    (1998 < (text v).length ∧ canonE (91 :: (text v ++ [93])) = 2 ∧ canonT (91 :: (text v ++ [93])) = []) ∨
    (¬ 1998 < (text v).length ∧ size v < 200 ∧ deep v < 10 ∧ canonE (91 :: (text v ++ [93])) = 0 ∧ canonT (91 :: (text v ++ [93])) = 91 :: (text v ++ [93]) ∧ manyT (91 :: (text v ++ [93])) = size v + 1 ∧ deepT (91 :: (text v ++ [93])) = deep v + 1) ∨
    (¬ 1998 < (text v).length ∧ size v = 200 ∧ canonE (91 :: (text v ++ [93])) = 2 ∧ canonT (91 :: (text v ++ [93])) = []) ∨
    (¬ 1998 < (text v).length ∧ deep v = 10 ∧ canonE (91 :: (text v ++ [93])) = 4 ∧ canonT (91 :: (text v ++ [93])) = []) := by
  obtain ⟨h1, h2, h3, h4, h5⟩ := readL_good h
  have hl : (91 :: (text v ++ [93])).length = (text v).length + 2 := by simp
  by_cases hlong : 1998 < (text v).length
  · have hE : readL (91 :: (text v ++ [93])) = (.nul, 2) := by unfold readL; rw [if_pos (by omega)]
    exact .inl ⟨hlong, by unfold canonE; rw [hE], canonT_no (by rw [hE]; decide)⟩
  · right
    have hw : wf (.list [v]) := by rw [wf, wfL, wfL]; exact ⟨h1, trivial⟩
    have hs : size (.list [v]) = 1 + size v := by simp only [size, sizeL]; omega
    have hd : deep (.list [v]) = deep v + 1 := by simp only [deep, deepL]; omega
    have ht := text_wrap v
    rw [← ht] at hl ⊢
    by_cases hf : size (.list [v]) ≤ 200 ∧ deep (.list [v]) ≤ 10
    · have hE := read_text hw hf.1 hf.2 (by omega)
      refine .inl ⟨hlong, by omega, by omega, by unfold canonE; rw [hE], canonT_ok hE, ?_, ?_⟩
      · unfold manyT; rw [hE, if_pos rfl, hs]; omega
      · unfold deepT; rw [hE, if_pos rfl, hd]
    · right
      rcases read_fails hw (by omega) hf with ⟨hE, hx⟩ | ⟨hE, hx⟩
      · exact .inl ⟨hlong, by omega, by unfold canonE; rw [hE], canonT_no (by rw [hE]; decide)⟩
      · exact .inr ⟨hlong, by omega, by unfold canonE; rw [hE], canonT_no (by rw [hE]; decide)⟩
end JP
set_option maxRecDepth 100000 in
set_option maxHeartbeats 6400000 in
theorem jsonWraps_walk (s : ByteArray) (w : World) (hbulk : s.data.toList.length + 1 + 0 ≤ 1048576) (htab : TabOK w) :
    Calls Tryd.prog 6 #[.string s] w fun e w' => e = .returned (.bool true) ∧ Below w.heap.size w w' := by
  have hs : s.size ≤ 1048576 := by rw [list_size] at hbulk; omega
  have HC := Lib.hid (canonK_any s w hs htab)
  obtain ⟨v, hv⟩ : ∃ v, (JP.readL s.data.toList).1 = v := ⟨_, rfl⟩
  obtain ⟨er, her⟩ : ∃ er, (JP.readL s.data.toList).2 = er := ⟨_, rfl⟩
  have hre : JP.readL s.data.toList = (v, er) := Prod.ext hv her
  rw [show JP.canonE s.data.toList = er from her] at HC
  by_cases he : er = 0
  · subst he
    obtain ⟨h1, h2, h3, h4, h5⟩ := JP.readL_good hre
    have hway := JP.wraps_way hre
    have hsp := JP.size_pos v
    rw [JP.canonT_ok hre] at HC
    have hm : JP.manyT s.data.toList = JP.size v := by unfold JP.manyT; rw [hre]; exact if_pos rfl
    have hdp : JP.deepT s.data.toList = JP.deep v := by unfold JP.deepT; rw [hre]; exact if_pos rfl
    have hz := fun (w' : World) => sizeJ_any s w' hs
    rw [hm, hdp, show JP.canonE s.data.toList = 0 from her] at hz
    have HZ := Lib.hid hz
    obtain ⟨T, hT⟩ : ∃ T, JP.text v = T := ⟨_, rfl⟩
    obtain ⟨M, hM⟩ : ∃ T, JP.size v = T := ⟨_, rfl⟩
    obtain ⟨D, hD⟩ : ∃ T, JP.deep v = T := ⟨_, rfl⟩
    rw [hT] at HC hway h4
    rw [hM, hD] at HZ
    rw [hM] at hsp h2 hway
    rw [hD] at h3 hway
    have hcat : (⟨#[91]⟩ ++ mkB T ++ ⟨#[93]⟩ : ByteArray).data.toList = 91 :: (T ++ [93]) := by rw [wrap_mk, mkB_list]
    have hcs : (⟨#[91]⟩ ++ mkB T ++ ⟨#[93]⟩ : ByteArray).size ≤ 1048576 := by rw [wrap_mk, mkB_size]; simp; omega
    have hn := fun (w' : World) (hb : Below w.heap.size w w') => canon_any (⟨#[91]⟩ ++ mkB T ++ ⟨#[93]⟩) w' hcs (htab.below hb)
    have hn2 := fun (w' : World) => sizeJ_any (⟨#[91]⟩ ++ mkB T ++ ⟨#[93]⟩) w' hcs
    rw [hcat] at hn hn2
    have htz : (mkB T).size = T.length := mkB_size T
    have b1 : ¬ 9223372036854775807 < (⟨#[91]⟩ : ByteArray).size + (mkB T).size := by
      have : (⟨#[91]⟩ : ByteArray).size = 1 := rfl
      omega
    have b2 : ¬ 9223372036854775807 < (⟨#[91]⟩ ++ mkB T : ByteArray).size + (⟨#[93]⟩ : ByteArray).size := by
      have e1 : (⟨#[91]⟩ : ByteArray).size = 1 := rfl
      have e2 : (⟨#[93]⟩ : ByteArray).size = 1 := rfl
      rw [ByteArray.size_append]
      omega
    have b3 : ¬ 9223372036854775807 < 1 + (mkB T).size := by omega
    have b4 : ¬ 9223372036854775807 < 1 + (mkB T).size + 1 := by omega
    have g1 : ¬ (M : Int) < 1 := by omega
    have g2 : (0 : Int) < (M : Int) := by omega
    have gt : (((mkB T).size : Nat) : Int) = (T.length : Int) := by rw [htz]
    have HG := Lib.hid gt
    have Hwm := wrap_mk 91 93 T
    have d1 : decide ((M : Int) < 1) = false := decide_eq_false g1
    have walk1 : ∀ (F : Int) (U : ByteArray), (1998 < T.length ∧ F = 2) ∨ (¬ 1998 < T.length ∧ ((M = 200 ∧ F = 2) ∨ (D = 10 ∧ F = 4))) → (∀ w', Below w.heap.size w w' → Calls Tryd.prog 16 #[.string (⟨#[91]⟩ ++ mkB T ++ ⟨#[93]⟩)] w' fun e w'' => e = .returned (.tuple #[.string U, .int .i64 F]) ∧ Below w'.heap.size w' w'') →
        Calls Tryd.prog 6 #[.string s] w fun e w' => e = .returned (.bool true) ∧ Below w.heap.size w w' := by
      intro F U hw hN
      have HN := Lib.hid hN
      clear hN hn hn2 hway Hwm
      have way : ((1998 : Int) < ((mkB T).size : Int) ∧ F = 2) ∨ ((¬ (1998 : Int) < ((mkB T).size : Int)) ∧ M = 200 ∧ F = 2) ∨ ((¬ (1998 : Int) < ((mkB T).size : Int)) ∧ D = 10 ∧ F = 4 ∧ ((M : Int) == 200) = true) ∨ ((¬ (1998 : Int) < ((mkB T).size : Int)) ∧ D = 10 ∧ F = 4 ∧ ((M : Int) == 200) = false) := by
        rcases hw with ⟨a1, a2⟩ | ⟨a1, ⟨a2, a3⟩ | ⟨a2, a3⟩⟩
        · exact .inl ⟨by omega, a2⟩
        · exact .inr (.inl ⟨by omega, a2, a3⟩)
        · by_cases h200 : M = 200
          · exact .inr (.inr (.inl ⟨by omega, a2, a3, by rw [beq_iff_eq]; omega⟩))
          · exact .inr (.inr (.inr ⟨by omega, a2, a3, by rw [beq_eq_false_iff_ne]; omega⟩))
      clear hw htz gt hT hM hD hm hdp hz hre hv her hcat hcs htab h1 h2 h3 h4 h5 hsp hbulk
      rcases way with ⟨p1, rfl⟩ | ⟨p1, rfl, rfl⟩ | ⟨p1, rfl, rfl, p2⟩ | ⟨p1, rfl, rfl, p2⟩
      all_goals
        go_enter Tryd.func6, Tryd.ntmps6
        go_wp2_with fail
        refine HC.out.mono ?_
        rintro E w1 ⟨rfl, hb⟩
        have HB1 := Lib.hid hb
        clear hb
        go_wp2_with fail
        refine (HZ.out w1).mono ?_
        rintro E w2 ⟨rfl, hb⟩
        have HB2 := Lib.hid (HB1.out.trans (hb.mono HB1.out.size))
        clear hb
        go_wp2_with fail
        refine (HN.out w2 HB2.out).mono ?_
        rintro E w3 ⟨rfl, hb⟩
        have HB3 := Lib.hid (HB2.out.trans (hb.mono HB2.out.size))
        clear hb
        go_wp2_with fail
        go_ret
        exact ⟨rfl, HB3.out⟩
    rcases hway with ⟨a1, a2, a3⟩ | ⟨a1, a2, a3, a4, a5, a6, a7⟩ | ⟨a1, a2, a3, a4⟩ | ⟨a1, a2, a3, a4⟩
    · rw [a2] at hn
      exact walk1 2 _ (.inl ⟨a1, rfl⟩) hn
    · rw [a4, a5, ← Hwm] at hn
      rw [a6, a7, a4] at hn2
      have HN := Lib.hid hn
      have HN2 := Lib.hid hn2
      have p1 : ¬ (1998 : Int) < ((mkB T).size : Int) := by omega
      have p2 : (M : Int) < 200 := by omega
      have p3 : (D : Int) < 10 := by omega
      have p4 : IntKind.i64.wrap ((M : Int) + 1) = (M : Int) + 1 := IntWalk.i64_in _ (by omega)
      have p5 : IntKind.i64.wrap ((D : Int) + 1) = (D : Int) + 1 := IntWalk.i64_in _ (by omega)
      have p6 : ((M + 1 : Nat) : Int) = (M : Int) + 1 := by omega
      have p7 : ((D + 1 : Nat) : Int) = (D : Int) + 1 := by omega
      clear walk1 hn hn2 a1 a2 a3 a4 a5 a6 a7 Hwm htz gt hT hM hD hm hdp hz hre hv her hcat hcs htab h1 h2 h3 h4 h5 hsp hbulk
      go_enter Tryd.func6, Tryd.ntmps6
      go_wp2_with fail
      refine HC.out.mono ?_
      rintro E w1 ⟨rfl, hb⟩
      have HB1 := Lib.hid hb
      clear hb
      go_wp2_with fail
      refine (HZ.out w1).mono ?_
      rintro E w2 ⟨rfl, hb⟩
      have HB2 := Lib.hid (HB1.out.trans (hb.mono HB1.out.size))
      clear hb
      go_wp2_with fail
      refine (HN.out w2 HB2.out).mono ?_
      rintro E w3 ⟨rfl, hb⟩
      have HB3 := Lib.hid (HB2.out.trans (hb.mono HB2.out.size))
      clear hb
      go_wp2_with fail
      refine (HN2.out w3).mono ?_
      rintro E w4 ⟨rfl, hb⟩
      have HB4 := Lib.hid (HB3.out.trans (hb.mono HB3.out.size))
      clear hb
      go_wp2_with fail
      go_ret
      exact ⟨rfl, HB4.out⟩
    · rw [a3] at hn
      exact walk1 2 _ (.inr ⟨a1, .inl ⟨a2, rfl⟩⟩) hn
    · rw [a3] at hn
      exact walk1 4 _ (.inr ⟨a1, .inr ⟨a2, rfl⟩⟩) hn
  · have n0 : (er == 0) = false := by rw [beq_eq_false_iff_ne]; exact he
    have hem : (mkB ([] : Bs)).toList.isEmpty = true := by rw [mkB_empty]; rfl
    rw [JP.canonT_no (by rw [hre]; exact he), n0] at HC
    obtain ⟨Z, hZ⟩ : ∃ Z, mkB ([] : Bs) = Z := ⟨_, rfl⟩
    rw [hZ] at HC hem
    clear hre htab hv her he hZ n0
    go_enter Tryd.func6, Tryd.ntmps6
    go_wp2_with fail
    refine HC.out.mono ?_
    rintro E w1 ⟨rfl, hb⟩
    have HB1 := Lib.hid hb
    clear hb
    go_wp2_with fail
    go_ret
    exact ⟨rfl, HB1.out⟩
end Go.Proofs.YtaddcchpidpbfaaDoor
