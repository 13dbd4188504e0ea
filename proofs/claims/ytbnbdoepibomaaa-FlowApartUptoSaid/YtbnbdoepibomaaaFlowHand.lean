/- flow.Hand: its contract; the reference's Rest, Has and Eq at ints. -/
import Derived.Test.YtbnbdoepibomaaaInts
import Derived.Test.YtbnbdoepibomaaaFlowPlain
import Derived.Deep.DeepCutAuto
namespace Go.Proofs.Ytbnbdoepibomaaa
open Go.RowKit FlowP

def natsI (l : List Nat) : List Int := l.map (fun n : Nat => ((n : Nat) : Int))
theorem natsI_length (l : List Nat) : (natsI l).length = l.length := by simp [natsI]
theorem count_place {l : List Nat} (hs : l.Pairwise (· < ·)) (c : Nat) : (natsI l).countP (fun x => decide (x < (c : Int))) = placeC l c := by
  induction l with
  | nil => rfl
  | cons d r ih =>
    rw [List.pairwise_cons] at hs
    unfold natsI placeC
    rw [List.map_cons, List.countP_cons, List.takeWhile_cons]
    by_cases h : d < c
    · rw [if_pos (by simpa using h), if_pos (by simpa using h)]
      have := ih hs.2
      unfold natsI placeC at this
      rw [this]; rfl
    · rw [if_neg (by simpa using h), if_neg (by simpa using h)]
      have : (List.map (fun n : Nat => (n : Int)) r).countP (fun x => decide (x < (c : Int))) = 0 := by
        rw [List.countP_eq_zero]
        intro x hx
        obtain ⟨y, hy, rfl⟩ := List.mem_map.1 hx
        have := hs.1 y hy
        simp; omega
      rw [this]; rfl
theorem placeC_le (l : List Nat) (c : Nat) : placeC l c ≤ l.length := by unfold placeC; exact List.Sublist.length_le (List.takeWhile_sublist _)
theorem natsI_ins (l : List Nat) (c : Nat) : (natsI l).take (placeC l c) ++ (c : Int) :: (natsI l).drop (placeC l c) = natsI (insC l c) := by
  rw [insC_at]
  simp [natsI, List.map_take, List.map_drop]
theorem natsI_sorted {l : List Nat} (hs : l.Pairwise (· < ·)) : (natsI l).Pairwise (· ≤ ·) := by
  unfold natsI
  rw [List.pairwise_map]
  exact hs.imp fun h => by omega
theorem search_any (v : Value) (l : List Nat) (B c : Nat) (w : World) (h : OwnAt RI 1 w B 3 v (natsI l)) (hs : l.Pairwise (· < ·)) (hl : l.length ≤ 1048576) :
    Calls Try.prog 21 #[v, .int .i64 (c : Int)] w fun e w' => ∃ f : Bool, e = .returned (.tuple #[.int .i64 (placeC l c : Int), .bool f]) ∧ ∃ q, w' = w.drewN q := by
  rcases h.form with ⟨rfl, h0⟩ | ⟨g, cp, rfl, _, _, _, _⟩
  · obtain rfl : l = [] := List.eq_nil_of_length_eq_zero (by rw [← natsI_length, h0]; rfl)
    refine (Try.slices_BinarySearch_int_empty none 0 c w).mono ?_
    rintro e w' ⟨rfl, rfl⟩
    exact ⟨false, rfl, 0, rfl⟩
  · have ho := own_ints h
    refine (Try.slices_BinarySearch_int g 0 (natsI l).length cp (natsI l) c w (Nat.le_refl _) (by rw [natsI_length]; omega) (fun j hj => ?_) (by rw [List.take_length]; exact natsI_sorted hs)).mono ?_
    · have hj2 : (natsI l)[j]? = some ((natsI l).getD j 0) := by simp [List.getD, hj]
      have := ho.cells (g := g) rfl j _ (ints_get hj2)
      rwa [add_plain'] at this
    · rintro e w' ⟨rfl, q, rfl⟩
      rw [List.take_length, count_place hs c]
      exact ⟨_, rfl, q, rfl⟩
/-- what Hand says -/
def HandAt (decks n s : Nat) (w : World) (e : Ending) (w' : World) : Prop := ∃ v', e = .returned (.tuple #[v', .int .i64 0]) ∧ RowAt RI 1 w' v' (natsI (hand decks n s [])) ∧ Below w.heap.size w w'
theorem i64_wf {n : Int} (h1 : -9223372036854775808 ≤ n) (h2 : n ≤ 9223372036854775807) : (Lit.int .i64 n).wf = true := by show (decide _ && decide _) = true; rw [Bool.and_eq_true]; exact ⟨decide_eq_true h1, decide_eq_true h2⟩
theorem nat_wf {n : Nat} (h : n ≤ 1000) : (Lit.int .i64 (n : Int)).wf = true := i64_wf (by omega) (by omega)
theorem drewN_below {B : Nat} {a w : World} (h : Below B a w) (n : Nat) : Below B a (w.drewN n) := ⟨h.os, h.tape, h.output, h.size, h.block⟩
theorem bump_cons (d : Nat) (r : List Nat) (c : Nat) : bump (d :: r) c = if d ≤ c then bump r (c + 1) else bump r c := rfl
theorem hand_succ (decks n s : Nat) (dealt : List Nat) : hand decks (n + 1) s dealt = bump dealt (s % (decks - dealt.length)) :: hand decks n (s / (decks - dealt.length)) (insC dealt (bump dealt (s % (decks - dealt.length)))) := rfl
theorem natsI_snoc (l : List Nat) (c : Nat) : natsI (l ++ [c]) = natsI l ++ [(c : Int)] := by simp [natsI]
theorem bump_le (l : List Nat) (c : Nat) : bump l c ≤ c + l.length := by
  induction l generalizing c with
  | nil => simp [bump]
  | cons d r ih =>
    unfold bump
    split
    · have := ih (c + 1); simp only [List.length_cons]; omega
    · have := ih c; simp only [List.length_cons]; omega
set_option maxRecDepth 100000 in
set_option maxHeartbeats 1600000 in
theorem hand_any (s decks n : Nat) (w : World) (hs : s < 18446744073709551616) (hd1 : 1 ≤ decks) (hd2 : decks ≤ 64) (hn1 : 1 ≤ n) (hn2 : n ≤ 6) (hn3 : n ≤ decks) :
    Calls Try.prog 13 #[.int .u64 (s : Int), .int .i64 (decks : Int), .int .i64 (n : Int)] w (HandAt decks n s w) := by
  obtain ⟨i0, hi0, hz0, hz1, hz2⟩ := info_parts Try.infoInt
  obtain ⟨R, HR⟩ : ∃ R, Hid (hand decks n s [] = R) := ⟨_, Lib.hid rfl⟩
  have hpost : Hid (HandAt decks n s w = fun e w' => ∃ v', e = .returned (.tuple #[v', .int .i64 0]) ∧ RowAt RI 1 w' v' (natsI R) ∧ Below w.heap.size w w') := by
    show _ = _
    unfold HandAt
    rw [HR.out]
  rw [hpost.out]
  clear hpost
  have t1 : decide ((decks : Int) < 1) = false := by rw [decide_eq_false_iff_not]; omega
  have t2 : decide ((64 : Int) < (decks : Int)) = false := by rw [decide_eq_false_iff_not]; omega
  have t3 : decide ((n : Int) < 1) = false := by rw [decide_eq_false_iff_not]; omega
  have t4 : decide ((6 : Int) < (n : Int)) = false := by rw [decide_eq_false_iff_not]; omega
  have t5 : decide (decks < n) = false := by rw [decide_eq_false_iff_not]; omega
  go_enter Try.func13, Try.ntmps13
  go_wp2_with fail
  go_loopg [0, 36, 8, 9] n (fun k u0 u36 u8 u9 wr => ∃ (i st : Nat) (out dealt : List Nat), i + k = n ∧ u0 = .int .u64 (st : Int) ∧ st < 18446744073709551616 ∧ u36 = .int .i64 (i : Int) ∧ Hid (OwnAt RI 1 wr w.heap.size 3 u8 (natsI out)) ∧ Hid (OwnAt RI 1 wr w.heap.size 3 u9 (natsI dealt)) ∧
    Hid (∀ g, u8.ownBlock = some g → u9.ownBlock ≠ some g) ∧ Hid (dealt.length = i) ∧ Hid (out.length = i) ∧ Hid (dealt.Pairwise (· < ·)) ∧ Hid (R = out ++ hand decks k st dealt) ∧ Hid (Below w.heap.size w wr))
  case atStart => exact ⟨0, s, [], [], by omega, rfl, hs, rfl, Lib.hid (show OwnAt RI 1 w w.heap.size 3 (.slice none 0 0) (natsI []) from OwnAt.nil w), Lib.hid (show OwnAt RI 1 w w.heap.size 3 (.slice none 0 0) (natsI []) from OwnAt.nil w), Lib.hid (fun g hg => by cases hg), Lib.hid rfl, Lib.hid rfl, Lib.hid List.Pairwise.nil, Lib.hid HR.out.symm, Lib.hid (Below.refl _ _)⟩
  case round =>
    obtain ⟨i, st, out, dealt, hik, rfl, hst, rfl, Hout, Hdl, Hne, Hdlen, Holen, Hsort, Hrest, Hbel⟩ := hrel
    have hsw := Hbel.out.size
    cases gk with
    | zero =>
      obtain rfl : i = n := by omega
      have Hend : Hid (RowAt RI 1 wr u8 (natsI R)) := by
        have h9 := Hrest.out
        unfold hand at h9
        rw [List.append_nil] at h9
        rw [h9]
        exact Lib.hid Hout.out.row
      clear Hout Hdl
      go_wp2_with fail
      go_ret2
      exact ⟨_, rfl, Hend.out, Hbel.out⟩
    | succ k =>
      obtain ⟨a9, c9, hv9, hc9, _⟩ := Hdl.out.row.len
      rw [natsI_length, Hdlen.out] at hv9 hc9
      subst hv9
      obtain ⟨lf, hlf⟩ : ∃ lf, lf = decks - i := ⟨_, rfl⟩
      have hlf1 : 1 ≤ lf := by omega
      have hlf2 : lf ≤ 64 := by omega
      have r1 : IntKind.i64.wrap ((decks : Int) - (i : Int)) = (lf : Int) := by rw [IntWalk.i64_in _ (by omega)]; omega
      have r2 : (decks : Int) - (i : Int) = (lf : Int) := by omega
      obtain ⟨rm, hrm⟩ : ∃ rm, rm = st % lf := ⟨_, rfl⟩
      obtain ⟨qt, hqt⟩ : ∃ qt, qt = st / lf := ⟨_, rfl⟩
      have hrm1 : rm < lf := by rw [hrm]; exact Nat.mod_lt _ (by omega)
      have hqt1 : qt < 18446744073709551616 := by rw [hqt]; exact Nat.lt_of_le_of_lt (Nat.div_le_self _ _) hst
      have r3 : (st : Int) % (lf : Int) = (rm : Int) := by rw [hrm]; omega
      have r4 : (st : Int) / (lf : Int) = (qt : Int) := by rw [hqt]; exact (Int.natCast_ediv st lf).symm
      have Hlf := Lib.hid hlf
      have Hrm := Lib.hid hrm
      have Hqt := Lib.hid hqt
      clear hlf hrm hqt
      go_upto_region 10 with fail
      go_loopg [52, 11] i (fun k2 u52 u11 wx => ∃ j c : Nat, j + k2 = i ∧ u52 = .int .i64 (j : Int) ∧ u11 = .int .i64 (c : Int) ∧ Hid (bump dealt rm = bump (dealt.drop j) c) ∧ c ≤ rm + j ∧ wr = wx)
      case atStart => exact ⟨0, rm, by omega, rfl, rfl, Lib.hid rfl, by omega, rfl⟩
      case round =>
        obtain ⟨j, c, hjk, rfl, rfl, Hb, hcb, rfl⟩ := hrel
        cases gk with
        | zero =>
          obtain rfl : j = i := by omega
          have Hc : Hid (bump dealt rm = c) := by
            have h9 := Hb.out
            rw [List.drop_of_length_le (by rw [Hdlen.out]; exact Nat.le_refl _)] at h9
            exact Lib.hid h9
          clear Hb
          have hc128 : c ≤ 128 := by omega
          obtain ⟨a8, c8, hv8, _, _⟩ := Hout.out.row.len
          rw [natsI_length, Holen.out] at hv8
          subst hv8
          have hcw := nat_wf (n := c) (by omega)
          have Hcw := Lib.hid hcw
          have Hal : ∀ o : Obj, Hid (Below wr.heap.size wr (wr.alloc o)) := fun o => Lib.hid ((Below.refl _ _).alloc (Nat.le_refl _) o)
          have Hout2 : ∀ o : Obj, Hid (OwnAt RI 1 (wr.alloc o) w.heap.size 3 (.slice a8 j c8) (natsI out)) := fun o => Lib.hid (Hout.out.alloc stays_int' o)
          have Hdl2 : ∀ o : Obj, Hid (OwnAt RI 1 (wr.alloc o) w.heap.size 3 (.slice a9 j c9) (natsI dealt)) := fun o => Lib.hid (Hdl.out.alloc stays_int' o)
          have Hbel2 : ∀ o : Obj, Hid (Below w.heap.size w (wr.alloc o)) := fun o => Lib.hid (Hbel.out.trans ((Hal o).out.mono hsw))
          have hsA : ∀ o : Obj, Hid (w.heap.size ≤ (wr.alloc o).heap.size) := fun o => Lib.hid (Hbel2 o).out.size
          have Hsrc : Hid (RowAt RI 1 (wr.alloc (.cells #[.int .i64 (c : Int)] 3)) (.slice (some ⟨wr.heap.size, 0, none⟩) 1 1) [(c : Int)]) := Lib.hid (RowAt.one (cs := #[.int .i64 (c : Int)]) (heap_alloc_new wr _) rfl ⟨rfl, hcw⟩)
          clear hcw
          go_wp2_with (at_builtin; refine wpList_append_ownAt (R := RI) (k := 1) (e := 3) (B := w.heap.size) (l := natsI out) (m := [(c : Int)]) _ (by rfl) _ _ _ (by rfl) i0 _ 8 Try.underlying22 hi0 hz0 hz1 hz2 rfl (by omega) flat_int one_int _ (by rfl) (Hout2 (.cells #[.int .i64 (c : Int)] 3)).out _ (by rfl) Hsrc.out (by rw [natsI_length, Holen.out]; unfold maxLen; simp; omega) (by rw [natsI_length, Holen.out]; simp; omega) (hsA _).out ?_)
          intro v1 w1 ho1 hg1 hr1 hn1'
          have hd1' := OwnAt.grown flat_int (Hdl2 (.cells #[.int .i64 (c : Int)] 3)).out hg1 (fun q hq e => Hne.out q e.symm hq)
          have hne1 : ∀ g, v1.ownBlock = some g → (Value.slice a9 j c9).ownBlock ≠ some g := fun g hg hg' => by
            rcases hn1' with h | h
            · exact Hne.out g (by rw [← h]; exact hg) hg'
            · rw [hg] at h
              have h7 := (Hdl2 (.cells #[.int .i64 (c : Int)] 3)).out.at hg'
              injection h with h8
              rw [h8] at h7
              exact absurd h7.2.1 (by simp)
          have Ho1 := Lib.hid ho1
          have Hd1 := Lib.hid hd1'
          have Hne1 := Lib.hid hne1
          have Hb1 := Lib.hid (below_of_grown (Hbel2 _).out (hsA _).out hg1 hr1)
          have hs1 := Hb1.out.size
          clear ho1 hg1 hr1 hn1' hd1' hne1 Hout2 Hdl2 Hbel2 hsA Hal
          go_wp2_with fail
          refine (search_any _ dealt _ c w1 Hd1.out Hsort.out (by rw [Hdlen.out]; omega)).mono ?_
          rintro E w2 ⟨f, rfl, q, hw2⟩
          have hb12 : Below w1.heap.size w1 w2 := by rw [hw2]; exact drewN_below (Below.refl _ w1) q
          have Ho2 := Lib.hid (Ho1.out.below stays_int' hb12)
          have Hd2 := Lib.hid (Hd1.out.below stays_int' hb12)
          have Hb2 := Lib.hid (Hb1.out.trans (hb12.mono hs1))
          have hs2 := Hb2.out.size
          obtain ⟨pl, Hpl⟩ : ∃ pl, Hid (placeC dealt c = pl) := ⟨_, Lib.hid rfl⟩
          have hpl : pl ≤ j := by rw [← Hpl.out, ← Hdlen.out]; exact placeC_le _ _
          rw [Hpl.out]
          have Ho3 : ∀ o : Obj, Hid (OwnAt RI 1 (w2.alloc o) w.heap.size 3 v1 (natsI out ++ [(c : Int)])) := fun o => Lib.hid (Ho2.out.alloc stays_int' o)
          have Hd3 : ∀ o : Obj, Hid (OwnAt RI 1 (w2.alloc o) w.heap.size 3 (.slice a9 j c9) (natsI dealt)) := fun o => Lib.hid (Hd2.out.alloc stays_int' o)
          have Hb3 : ∀ o : Obj, Hid (Below w.heap.size w (w2.alloc o)) := fun o => Lib.hid (Hb2.out.trans (((Below.refl _ _).alloc (Nat.le_refl _) o).mono hs2))
          clear hw2 hb12
          go_wp2_with fail
          refine (insertInt_any _ (natsI dealt) w.heap.size pl c w2.heap.size (w2.alloc (.cells #[.int .i64 (c : Int)] 3)) (Hd3 _).out (by rw [natsI_length, Hdlen.out]; exact hpl) Hcw.out (heap_alloc_new w2 _) (by simp; omega) (fun g hg => by have := (Hd2.out.at hg).2.1; omega) (by rw [natsI_length, Hdlen.out]; omega)).mono ?_
          rintro E w4 ⟨v4, rfl, ho4, ⟨r, hg4, hr4⟩, hn4⟩
          have hout4 := OwnAt.grown flat_int (Ho3 (.cells #[.int .i64 (c : Int)] 3)).out hg4 (fun q hq e => Hne1.out q hq (hr4 q e.symm))
          have hne4 : ∀ g, v1.ownBlock = some g → v4.ownBlock ≠ some g := fun g hg hg' => by
            rcases hn4 with h | h
            · exact Hne1.out g hg (by rw [← h]; exact hg')
            · rw [hg'] at h
              have h7 := (Ho3 (.cells #[.int .i64 (c : Int)] 3)).out.at hg
              injection h with h8
              rw [h8] at h7
              exact absurd h7.2.1 (by simp)
          have hdk : decks - dealt.length = lf := by rw [Hdlen.out]; exact Hlf.out.symm
          have hcb2 : bump dealt (st % (decks - dealt.length)) = c := by rw [hdk, ← Hrm.out]; exact Hc.out
          have hcn : c ∉ dealt := by rw [← hcb2]; exact (bump_is Hsort.out _).2.1
          have Hf1 : Hid (OwnAt RI 1 w4 w.heap.size 3 v1 (natsI (out ++ [c]))) := Lib.hid (by rw [natsI_snoc]; exact hout4)
          have Hf2 : Hid (OwnAt RI 1 w4 w.heap.size 3 v4 (natsI (insC dealt c))) := Lib.hid (by rw [← natsI_ins, Hpl.out]; exact ho4)
          have Hf3 := Lib.hid hne4
          have Hf4 : Hid ((insC dealt c).length = j + 1) := Lib.hid (by rw [insC_length, Hdlen.out])
          have Hf5 : Hid ((out ++ [c]).length = j + 1) := Lib.hid (by rw [List.length_append, Holen.out]; rfl)
          have Hf6 := Lib.hid (insC_sorted Hsort.out hcn)
          have Hf7 : Hid (R = (out ++ [c]) ++ hand decks k qt (insC dealt c)) := Lib.hid (by
            rw [Hrest.out, hand_succ, hcb2, hdk, ← Hqt.out, List.append_assoc]; rfl)
          have Hf8 := Lib.hid (below_of_grown (Hb3 _).out (by simp; omega) hg4 (fun g h => ((Hd2.out.at (hr4 g h)).1)))
          clear ho4 hg4 hr4 hn4 hout4 hne4 hdk hcb2 hcn
          go_wp2_with fail
          go_roundg k
          case measure => omega
          case rel => exact ⟨j + 1, qt, out ++ [c], insC dealt c, by omega, rfl, hqt1, by go_num, Hf1, Hf2, Hf3, Hf4, Hf5, Hf6, Hf7, Hf8⟩
        | succ k2 =>
          have hji : j < i := by omega
          obtain ⟨d, hdj⟩ : ∃ d, dealt[j]? = some d := ⟨dealt[j]'(by rw [Hdlen.out]; omega), List.getElem?_eq_getElem _⟩
          have hIj : (natsI dealt)[j]? = some (d : Int) := by unfold natsI; rw [List.getElem?_map, hdj]; rfl
          obtain ⟨b, o, c', hv, _, _, hbs, hcell⟩ := Hdl.out.row.form (by rw [natsI_length, Hdlen.out]; omega) (by omega)
          injection hv with u1 u2 u3
          subst u1
          obtain ⟨ds, _, hcc, hR, _⟩ := hcell j _ hIj
          subst hR
          have e0 : wr.cell? ⟨b, o + j, none⟩ = some (.int .i64 (d : Int)) := by simpa using hcc 0 _ rfl
          have q1 : (0 : Int) ≤ (j : Int) := by omega
          have q2 : (j : Int) < (i : Int) := by omega
          have Hdr : Hid (dealt.drop j = d :: dealt.drop (j + 1)) := by
            show _ = _
            rw [List.drop_eq_getElem_cons (by rw [Hdlen.out]; omega), (List.getElem?_eq_some_iff.1 hdj).2]
          clear hcc hcell hdj hIj u2 u3
          by_cases hdc : d ≤ c
          · have Hb2 : Hid (bump dealt rm = bump (dealt.drop (j + 1)) (c + 1)) := by
              show _ = _
              rw [Hb.out, Hdr.out, bump_cons, if_pos hdc]
            go_wp2_with fail
            go_roundg k2
            case measure => omega
            case rel => exact ⟨j + 1, c + 1, by omega, by go_num, by go_num, Hb2, by omega, rfl⟩
          · have Hb2 : Hid (bump dealt rm = bump (dealt.drop (j + 1)) c) := by
              show _ = _
              rw [Hb.out, Hdr.out, bump_cons, if_neg hdc]
            go_wp2_with fail
            go_roundg k2
            case measure => omega
            case rel => exact ⟨j + 1, c, by omega, by go_num, rfl, Hb2, by omega, rfl⟩
end Go.Proofs.Ytbnbdoepibomaaa
