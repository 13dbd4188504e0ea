/- QueryAgain: the law's walk. -/
import Derived.Test.YtkmonmdnmpbadaaDoorQueryBackWalk
namespace Go.Proofs.YtkmonmdnmpbadaaDoor
open Go.RowKit
open QP

theorem parseL_ok (s : List UInt8) : ((parseL s).2 = 0 ∧ reqsE (parseL s).1 = 0) ∨ ((parseL s).2 ≠ 0 ∧ (parseL s).1 = []) := by
  unfold parseL
  split
  · exact .inr ⟨by decide, rfl⟩
  · split
    · exact .inl ⟨rfl, by decide⟩
    · split
      · exact .inr ⟨by decide, rfl⟩
      · split
        · rename_i h
          exact .inl ⟨rfl, h⟩
        · rename_i h
          exact .inr ⟨h, rfl⟩
theorem pad_bytes (s : ByteArray) : ((⟨#[32, 32]⟩ : ByteArray) ++ s ++ ⟨#[32]⟩).data.toList = 32 :: 32 :: (s.data.toList ++ [32]) := by
  simp
set_option maxRecDepth 100000 in
set_option maxHeartbeats 3200000 in
theorem queryAgain_walk (s : ByteArray) (w : World) (hbulk : s.data.toList.length + 1 + 0 ≤ 1048576) (hmax : ∃ m, MaxOK m w) :
    Calls Tryd.prog 4 #[.string s] w fun e w' => e = .returned (.bool true) ∧ Below w.heap.size w w' := by
  obtain ⟨mx, hm⟩ := hmax
  have Hm := Lib.hid hm
  have hsz : s.size ≤ 1048576 := by
    have : s.data.toList.length = s.size := by simp
    omega
  clear hm hbulk
  obtain ⟨l, e, HP⟩ : ∃ l e, Hid (parseL s.data.toList = (l, e)) := ⟨_, _, Lib.hid rfl⟩
  have HPr := Lib.hid (fun E w' => parse_of (w := w) HP.out (E := E) (w' := w'))
  have way : (e = 0 ∧ Hid (reqsE l = 0)) ∨ ((e != 0) = true ∧ l = []) := by
    have := parseL_ok s.data.toList
    rw [HP.out] at this
    rcases this with h | h
    · exact .inl ⟨h.1, Lib.hid h.2⟩
    · exact .inr ⟨by rw [bne_iff_ne]; exact h.1, h.2⟩
  go_enter Tryd.func4, Tryd.ntmps4
  go_wp2_with fail
  refine (parse_any s mx w hsz Hm.out).mono ?_
  intro E w1 hp
  obtain ⟨v, rfl, hrow, hb1⟩ := HPr.out _ _ hp
  obtain ⟨av, cv, rfl, _, _⟩ := hrow.len
  have Hb1 := Lib.hid hb1
  have Hrow := Lib.hid hrow
  clear hp hb1 HPr hrow
  go_wp2_with fail
  refine (strange_any mx w1 (Hm.out.below Hb1.out)).mono ?_
  rintro E w2 ⟨rfl, hb2⟩
  have Hb2 := Lib.hid (Hb1.out.trans (hb2.mono Hb1.out.size))
  have Hrow2 := Lib.hid (Hrow.out.below stays_req hb2)
  clear hb2 Hrow
  rcases way with ⟨rfl, Hl⟩ | ⟨q1, rfl⟩
  · obtain ⟨okl, hll⟩ := okReqs_zero Hl.out
    have Okl := Lib.hid okl
    clear okl
    go_upto_if 24 with fail
    go_cut [5, 6] (fun u5 u6 wx => Hid (Below w.heap.size w wx) ∧ Hid (Below w2.heap.size w2 wx))
    case first =>
      by_cases h290 : s.size < 290
      · have q0 : (s.size : Int) < 290 := by omega
        have HB : Hid (parseL ((⟨#[32, 32]⟩ : ByteArray) ++ s ++ ⟨#[32]⟩).data.toList = (l, 0)) := Lib.hid (by
          rw [pad_bytes, blanks (by simpa using h290)]
          exact HP.out)
        have q1 : ¬ 9223372036854775807 < 2 + s.size := by omega
        have q2 : ¬ 9223372036854775807 < 2 + s.size + 1 := by omega
        obtain ⟨S, HS⟩ : ∃ S : ByteArray, Hid (((⟨#[32, 32]⟩ : ByteArray) ++ s ++ ⟨#[32]⟩) = S) := ⟨_, Lib.hid rfl⟩
        have hS : S.size ≤ 1048576 := by rw [← HS.out, ByteArray.size_append, ByteArray.size_append]; show 2 + s.size + 1 ≤ _; omega
        have HPS := Lib.hid (fun w => parse_any ((⟨#[32, 32]⟩ : ByteArray) ++ s ++ ⟨#[32]⟩) mx w (by rw [HS.out]; exact hS))
        clear h290
        go_wp2_with fail
        refine (HPS.out w2 (Hm.out.below Hb2.out)).mono ?_
        intro E w3 hp
        obtain ⟨v3, rfl, hrow, hb3⟩ := parse_of HB.out hp
        obtain ⟨a3, c3, rfl, _, _⟩ := hrow.len
        have Hb3 := Lib.hid (Hb2.out.trans (hb3.mono Hb2.out.size))
        have Hrow3 := Lib.hid hrow
        have Hb3' := Lib.hid hb3
        clear hp hrow hb3
        go_wp2_with fail
        refine (sameReqs_any _ _ l l w3 (Hrow2.out.below stays_req Hb3'.out) Hrow3.out (by omega) (by omega) Okl.out Okl.out).mono ?_
        rintro E w4 ⟨b, rfl, hb, hb4⟩
        obtain rfl : b = true := hb.2 rfl
        have Hb4 := Lib.hid (Hb3.out.trans (hb4.mono Hb3.out.size))
        have Hb4' := Lib.hid (Hb3'.out.trans (hb4.mono Hb3'.out.size))
        clear hb hb4
        go_wp2_with fail
        go_meet
        exact ⟨Hb4, Hb4'⟩
      · have q0 : ¬ (s.size : Int) < 290 := by omega
        clear h290
        go_wp2_with fail
        go_meet
        exact ⟨Hb2, Lib.hid (Below.refl _ _)⟩
    case rest =>
    obtain ⟨w5, rfl⟩ : ∃ w5, w5 = wc := ⟨_, rfl⟩
    obtain ⟨Hb5, Hb5'⟩ := hcut
    obtain ⟨T, HT⟩ : ∃ T : List UInt8, Hid (joinT l = T) := ⟨_, Lib.hid rfl⟩
    obtain ⟨t, e, HPl⟩ : ∃ t e, Hid (printL l = (t, e)) := ⟨_, _, Lib.hid rfl⟩
    have HPr := Lib.hid (fun E w' => print_of (w := w5) HPl.out (E := E) (w' := w'))
    have Hrow5 := Lib.hid (Hrow2.out.below stays_req Hb5'.out)
    go_wp2_with fail
    refine (print_any _ l mx _ Hrow5.out (by omega) Okl.out (Hm.out.below Hb5.out)).mono ?_
    intro E w6 hp
    obtain ⟨rfl, hb6⟩ := HPr.out _ _ hp
    have Hb6 := Lib.hid (Hb5.out.trans (hb6.mono Hb5.out.size))
    have Hrow6 := Lib.hid (Hrow5.out.below stays_req hb6)
    clear hp hb6 HPr
    by_cases h3 : 300 < T.length
    · have HP2 : (([] : List UInt8), (2 : Int)) = (t, e) := by
        rw [← HPl.out]
        unfold printL
        rw [Hl.out, if_pos rfl, HT.out, if_pos h3]
      obtain ⟨rfl, rfl⟩ := Prod.mk.inj HP2
      clear HP2 HPl h3
      go_wp2_with fail
      go_ret
      exact ⟨rfl, Hb6.out⟩
    · have HP2 : (T, (0 : Int)) = (t, e) := by
        rw [← HPl.out]
        unfold printL
        rw [Hl.out, if_pos rfl, HT.out, if_neg h3]
      obtain ⟨rfl, rfl⟩ := Prod.mk.inj HP2
      have HB : Hid (parseL (⟨T.toArray⟩ : ByteArray).data.toList = (l, 0)) := Lib.hid (by
        show parseL T = _
        rw [← HT.out]
        exact back Hl.out (by rw [HT.out]; omega))
      have hts : (⟨T.toArray⟩ : ByteArray).size ≤ 1048576 := by show T.toArray.size ≤ _; rw [List.size_toArray]; omega
      obtain ⟨S, HS⟩ : ∃ S : ByteArray, Hid ((⟨T.toArray⟩ : ByteArray) = S) := ⟨_, Lib.hid rfl⟩
      rw [HS.out] at HB hts ⊢
      clear HP2 HPl h3
      go_wp2_with fail
      refine (parse_any S mx w6 hts (Hm.out.below Hb6.out)).mono ?_
      intro E w7 hp
      obtain ⟨v7, rfl, hrow, hb7⟩ := parse_of HB.out hp
      have Hb7 := Lib.hid (Hb6.out.trans (hb7.mono Hb6.out.size))
      have Hrow7 := Lib.hid hrow
      have Hrow6' := Lib.hid (Hrow6.out.below stays_req hb7)
      clear hp hrow hb7
      go_wp2_with fail
      refine (sameReqs_any _ v7 l l w7 Hrow6'.out Hrow7.out (by omega) (by omega) Okl.out Okl.out).mono ?_
      rintro E w8 ⟨b, rfl, hb, hb8⟩
      obtain rfl : b = true := hb.2 rfl
      have Hb8 := Lib.hid (Hb7.out.trans (hb8.mono Hb7.out.size))
      clear hb hb8
      go_wp2_with fail
      go_ret
      exact ⟨rfl, Hb8.out⟩
  · go_wp2_with fail
    go_ret
    exact ⟨rfl, Hb2.out⟩
end Go.Proofs.YtkmonmdnmpbadaaDoor
