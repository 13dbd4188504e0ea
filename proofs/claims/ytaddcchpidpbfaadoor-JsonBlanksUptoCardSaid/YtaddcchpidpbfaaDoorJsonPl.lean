/- json: the reader's plain values. -/
import Derived.Test.YtaddcchpidpbfaaDoorJsonSt
namespace Go.Proofs.YtaddcchpidpbfaaDoor
open Go.RowKit
open JP (JV Bs Fr)

theorem RdAt.lt {g : Nat} {s : ByteArray} {a m : Nat} {vst : Value} {bad : Int} {w : World} (h : RdAt g s a m vst bad w) : g < w.heap.size := blk_lt (show w.heap[g]? = some _ from h)
theorem rbad_of {g : Nat} {s : ByteArray} {a m : Nat} {vst : Value} {er : Int} {w : World} (h : RdAt g s a m vst er w) (h0 : er ≠ 0) : RBad g s er w := ⟨h0, a, m, vst, h⟩
theorem out_bad {g : Nat} {s : ByteArray} {w w' : World} {x : JP.R} {v : Value} {b : Bool} {a m : Nat} {vst : Value} {er : Int} (hx : x = .bad er) (h0 : er ≠ 0) (h : RdAt g s a m vst er w') (hb : Below g w w') : Out g s w x v b w' := by
  subst hx; exact ⟨hb, rbad_of h h0⟩
theorem out_whole {g : Nat} {s : ByteArray} {w w' : World} {x : JP.R} {v : Value} {y : JV} {r : Bs} {m : Nat} {st : List Fr} (hx : x = .whole y r m st) (h : RS g s r m st (some (v, y)) w') (hb : Below g w w') : Out g s w x v true w' := by
  subst hx; exact ⟨hb, rfl, h⟩
theorem out_more {g : Nat} {s : ByteArray} {w w' : World} {x : JP.R} {v : Value} {r : Bs} {m : Nat} {st : List Fr} (hx : x = .more r m st) (h : RS g s r m st none w') (hb : Below g w w') : Out g s w x v false w' := by
  subst hx; exact ⟨hb, rfl, h⟩
theorem rs_whole {g : Nat} {s : ByteArray} {i m : Nat} {vst : Value} {fs : List GF} {T : List Nat} {st : List Fr} {w w' : World} {v : Value} {y : JV} {r : Bs} (hi : i ≤ s.size) (hr : s.data.toList.drop i = r) (h : RdAt g s i m vst 0 w') (hc : Core g T w vst fs st) (hb : But g w w') (hv : JvAt 1 T w' v y) : RS g s r m st (some (v, y)) w' :=
  ⟨i, vst, fs, T, hi, hr, h, hc.but hb, 1, hv⟩
set_option maxRecDepth 100000 in
set_option maxHeartbeats 6400000 in
theorem plain_any (g : Nat) (s : ByteArray) (a m : Nat) (vst : Value) (fs : List GF) (T : List Nat) (st : List Fr) (w : World) (h : RdAt g s a m vst 0 w) (hc : Core g T w vst fs st) (ha : a < s.size) (hs : s.size ≤ 1048576) :
    Calls Tryd.prog 64 #[.pointer (some ⟨g, 0, none⟩), .int .u8 (s[a].toNat : Int)] w fun e w' => ∃ v, e = .returned v ∧ Out g s w (JP.plainP s[a] (s.data.toList.drop a) m st) v true w' := by
  have hgw := h.lt
  have H := Lib.hid h
  have Hc := Lib.hid hc
  have htl : (s.data.toList.drop a).tail = s.data.toList.drop (a + 1) := by rw [drop_at ha]; rfl
  have HE : Hid (JP.plainP s[a] (s.data.toList.drop a) m st = if s[a] = 34 then match JP.textP (s.data.toList.drop (a + 1)) with
      | none => .bad 3
      | some x => .whole (.str x.1) x.2 m st
    else if s[a] = 116 then JP.wordP (.bool true) [116, 114, 117, 101] (s.data.toList.drop a) m st
    else if s[a] = 102 then JP.wordP (.bool false) [102, 97, 108, 115, 101] (s.data.toList.drop a) m st
    else if s[a] = 110 then JP.wordP .nul [110, 117, 108, 108] (s.data.toList.drop a) m st
    else if JP.numE (s.data.toList.drop a) = 0 then .whole (.num (JP.numV (s.data.toList.drop a))) (JP.numR (s.data.toList.drop a)) m st else .bad (JP.numE (s.data.toList.drop a))) := Lib.hid (by unfold JP.plainP; rw [htl]; rfl)
  obtain ⟨X, HX⟩ : ∃ X, Hid (JP.plainP s[a] (s.data.toList.drop a) m st = X) := ⟨_, Lib.hid rfl⟩
  rw [HX.out] at HE ⊢
  have ne : ∀ (c : UInt8), s[a].toNat ≠ c.toNat → s[a] ≠ c := fun c h e => h (by rw [e])
  have Ne := Lib.hid ne
  clear h hc htl ne
  by_cases c34 : s[a].toNat = 34
  · have hq : s[a] = 34 := u8_eq c34
    have HE2 := HE.out
    rw [if_pos hq] at HE2
    have HE3 := Lib.hid HE2
    clear HE2 hq HE
    go_enter Tryd.func64, Tryd.ntmps64
    go_wp2_with fail
    refine (rtext_any g s a m vst w H.out ha hs).mono ?_
    rintro E w1 ⟨hb, (⟨x, hx, rfl, i, hi, hd, hr⟩ | ⟨hx, rfl, i, hi, hr⟩)⟩
    · have Hb := Lib.hid hb
      have Hd := Lib.hid hd
      have Hr := Lib.hid hr
      have HX2 : Hid (X = .whole (.str x.1) x.2 m st) := Lib.hid (by rw [HE3.out, hx])
      clear hb hd hr hx HE3
      go_wp2_with fail
      go_ret
      exact ⟨_, rfl, out_whole HX2.out (rs_whole hi Hd.out Hr.out Hc.out Hb.out rfl) (below_but Hb.out hgw)⟩
    · have Hb := Lib.hid hb
      have Hr := Lib.hid hr
      have HX2 : Hid (X = .bad 3) := Lib.hid (by rw [HE3.out, hx])
      clear hb hr hx HE3
      go_wp2_with fail
      go_ret
      exact ⟨_, rfl, out_bad HX2.out (by decide) Hr.out (below_but Hb.out hgw)⟩
  · have n34 : ((s[a].toNat : Int) == 34) = false := by rw [beq_eq_false_iff_ne]; omega
    have HE1 : Hid _ := Lib.hid (HE.out.trans (if_neg (Ne.out 34 c34)))
    clear HE
    by_cases c116 : s[a].toNat = 116
    · have hq : s[a] = 116 := u8_eq c116
      have HE2 := Lib.hid (HE1.out.trans (if_pos hq))
      clear hq HE1
      go_enter Tryd.func64, Tryd.ntmps64
      go_wp2_with fail
      refine (word_any g s a m vst ⟨#[116, 114, 117, 101]⟩ w H.out (by omega) hs).mono ?_
      rintro E w1 ⟨rfl, hb, (⟨hx, i, hi, hd, hr⟩ | ⟨hx, i, hr⟩)⟩
      · have Hb := Lib.hid hb
        have Hd := Lib.hid hd
        have Hr := Lib.hid hr
        have HX2 : Hid (X = .whole (.bool true) ((s.data.toList.drop a).drop 4) m st) := Lib.hid (by rw [HE2.out]; unfold JP.wordP; rw [if_pos hx]; rfl)
        clear hb hd hr hx HE2
        go_wp2_with fail
        go_ret
        exact ⟨_, rfl, out_whole HX2.out (rs_whole hi Hd.out Hr.out Hc.out Hb.out rfl) (below_but Hb.out hgw)⟩
      · have Hb := Lib.hid hb
        have Hr := Lib.hid hr
        have HX2 : Hid (X = .bad 3) := Lib.hid (by rw [HE2.out]; unfold JP.wordP; rw [if_neg (by rw [show ([116, 114, 117, 101] : Bs).isPrefixOf (s.data.toList.drop a) = false from hx]; simp)])
        clear hb hr hx HE2
        go_wp2_with fail
        go_ret
        exact ⟨_, rfl, out_bad HX2.out (by decide) Hr.out (below_but Hb.out hgw)⟩
    · have n116 : ((s[a].toNat : Int) == 116) = false := by rw [beq_eq_false_iff_ne]; omega
      have HE3 := Lib.hid (HE1.out.trans (if_neg (Ne.out 116 c116)))
      clear HE1
      by_cases c102 : s[a].toNat = 102
      · have hq : s[a] = 102 := u8_eq c102
        have HE2 := Lib.hid (HE3.out.trans (if_pos hq))
        clear hq HE3
        go_enter Tryd.func64, Tryd.ntmps64
        go_wp2_with fail
        refine (word_any g s a m vst ⟨#[102, 97, 108, 115, 101]⟩ w H.out (by omega) hs).mono ?_
        rintro E w1 ⟨rfl, hb, (⟨hx, i, hi, hd, hr⟩ | ⟨hx, i, hr⟩)⟩
        · have Hb := Lib.hid hb
          have Hd := Lib.hid hd
          have Hr := Lib.hid hr
          have HX2 : Hid (X = .whole (.bool false) ((s.data.toList.drop a).drop 5) m st) := Lib.hid (by rw [HE2.out]; unfold JP.wordP; rw [if_pos hx]; rfl)
          clear hb hd hr hx HE2
          go_wp2_with fail
          go_ret
          exact ⟨_, rfl, out_whole HX2.out (rs_whole hi Hd.out Hr.out Hc.out Hb.out rfl) (below_but Hb.out hgw)⟩
        · have Hb := Lib.hid hb
          have Hr := Lib.hid hr
          have HX2 : Hid (X = .bad 3) := Lib.hid (by rw [HE2.out]; unfold JP.wordP; rw [if_neg (by rw [show ([102, 97, 108, 115, 101] : Bs).isPrefixOf (s.data.toList.drop a) = false from hx]; simp)])
          clear hb hr hx HE2
          go_wp2_with fail
          go_ret
          exact ⟨_, rfl, out_bad HX2.out (by decide) Hr.out (below_but Hb.out hgw)⟩
      · have n102 : ((s[a].toNat : Int) == 102) = false := by rw [beq_eq_false_iff_ne]; omega
        have HE4 := Lib.hid (HE3.out.trans (if_neg (Ne.out 102 c102)))
        clear HE3
        by_cases c110 : s[a].toNat = 110
        · have hq : s[a] = 110 := u8_eq c110
          have HE2 := Lib.hid (HE4.out.trans (if_pos hq))
          clear hq HE4
          go_enter Tryd.func64, Tryd.ntmps64
          go_wp2_with fail
          refine (word_any g s a m vst ⟨#[110, 117, 108, 108]⟩ w H.out (by omega) hs).mono ?_
          rintro E w1 ⟨rfl, hb, (⟨hx, i, hi, hd, hr⟩ | ⟨hx, i, hr⟩)⟩
          · have Hb := Lib.hid hb
            have Hd := Lib.hid hd
            have Hr := Lib.hid hr
            have HX2 : Hid (X = .whole (.nul) ((s.data.toList.drop a).drop 4) m st) := Lib.hid (by rw [HE2.out]; unfold JP.wordP; rw [if_pos hx]; rfl)
            clear hb hd hr hx HE2
            go_wp2_with fail
            go_ret
            exact ⟨_, rfl, out_whole HX2.out (rs_whole hi Hd.out Hr.out Hc.out Hb.out rfl) (below_but Hb.out hgw)⟩
          · have Hb := Lib.hid hb
            have Hr := Lib.hid hr
            have HX2 : Hid (X = .bad 3) := Lib.hid (by rw [HE2.out]; unfold JP.wordP; rw [if_neg (by rw [show ([110, 117, 108, 108] : Bs).isPrefixOf (s.data.toList.drop a) = false from hx]; simp)])
            clear hb hr hx HE2
            go_wp2_with fail
            go_ret
            exact ⟨_, rfl, out_bad HX2.out (by decide) Hr.out (below_but Hb.out hgw)⟩
        · have n110 : ((s[a].toNat : Int) == 110) = false := by rw [beq_eq_false_iff_ne]; omega
          have HE5 := Lib.hid (HE4.out.trans (if_neg (Ne.out 110 c110)))
          clear HE4
          clear c34 c116 c102 c110
          go_enter Tryd.func64, Tryd.ntmps64
          go_wp2_with fail
          refine (number_any g s a m vst w H.out ha hs).mono ?_
          rintro E w1 ⟨hb, (⟨hx, rfl, i, hi, hd, hr⟩ | ⟨hx, rfl, i, hr⟩)⟩
          · have Hb := Lib.hid hb
            have Hd := Lib.hid hd
            have Hr := Lib.hid hr
            have HX2 := Lib.hid (HE5.out.trans (if_pos hx))
            have hok := (JP.num_good hx).1
            have HV := Lib.hid (show -9223372036854775808 ≤ JP.numV (s.data.toList.drop a) ∧ JP.numV (s.data.toList.drop a) ≤ 9223372036854775807 from by unfold JP.numOK at hok; omega)
            clear hb hd hr hx HE5 hok
            go_wp2_with fail
            go_ret
            exact ⟨_, rfl, out_whole HX2.out (rs_whole hi Hd.out Hr.out Hc.out Hb.out ⟨rfl, HV.out⟩) (below_but Hb.out hgw)⟩
          · have Hb := Lib.hid hb
            have Hr := Lib.hid hr
            have Hx := Lib.hid hx
            have HX2 := Lib.hid (HE5.out.trans (if_neg hx))
            clear hb hr hx HE5
            go_wp2_with fail
            go_ret
            exact ⟨_, rfl, out_bad HX2.out Hx.out Hr.out (below_but Hb.out hgw)⟩
end Go.Proofs.YtaddcchpidpbfaaDoor
