/- json: the reader's begin. -/
import Derived.Test.YtaddcchpidpbfaaDoorJsonPush
namespace Go.Proofs.YtaddcchpidpbfaaDoor
open Go.RowKit
open JP (JV Bs Fr)

theorem stays_fr : Stays RFr := fun _ _ _ _ _ h => h
theorem core_pop {g n sb c : Nat} {T : List Nat} {w : World} {f : GF} {fs : List GF} {fr : Fr} {st : List Fr} (h : Core g T w (.slice (some ⟨sb, 0, none⟩) (n + 1) c) (f :: fs) (fr :: st)) (hn : fs.length = n) : Core g T w (.slice (some ⟨sb, 0, none⟩) n c) fs st := by
  have hr := h.row
  rw [List.reverse_cons] at hr
  exact ⟨OwnAt.pop hr (by rw [List.length_reverse]; exact hn), h.gT, fun b hb => h.vT b hb, h.low, lbs_tail h.nd, h.all.2⟩
theorem out_field {g : Nat} {s : ByteArray} {w0 w w' : World} {x : JP.R} {e : Ending} (h : FieldAt g s w x e w') (hb : Below g w0 w) : e = .returned (.tuple #[]) ∧ ∀ v, Out g s w0 x v false w' := by
  obtain ⟨h1, h2, h3⟩ := h
  refine ⟨h1, fun v => ⟨hb.trans h2, ?_⟩⟩
  cases x with
  | bad er => exact h3
  | more r m st => exact ⟨rfl, h3⟩
  | whole _ _ _ _ => exact h3.elim
theorem beginP_eq {r t : Bs} {c : UInt8} {m : Nat} {st : List Fr} (h : JP.skip r = c :: t) : JP.beginP r m st = JP.beginC c t m st := by unfold JP.beginP; rw [h]
theorem beginP_none {r : Bs} {m : Nat} {st : List Fr} (h : JP.skip r = []) : JP.beginP r m st = .bad 3 := by unfold JP.beginP; rw [h]
theorem beginC_no {c : UInt8} {t : Bs} {m : Nat} {st : List Fr} (h : JP.starts c = false) : JP.beginC c t m st = .bad 3 := by unfold JP.beginC; rw [if_pos h]
theorem beginC_large {c : UInt8} {t : Bs} {m : Nat} {st : List Fr} (h : JP.starts c = true) (h2 : 200 < m + 1) : JP.beginC c t m st = .bad 2 := by unfold JP.beginC; rw [if_neg (by rw [h]; decide), if_pos h2]
theorem beginC_deep {c : UInt8} {t : Bs} {m : Nat} {st : List Fr} (h : JP.starts c = true) (h2 : ¬ 200 < m + 1) (h3 : (c = 91 ∨ c = 123) ∧ st.length = 10) : JP.beginC c t m st = .bad 4 := by unfold JP.beginC; rw [if_neg (by rw [h]; decide), if_neg h2, if_pos h3]
theorem beginC_plain {c : UInt8} {t : Bs} {m : Nat} {st : List Fr} (h : JP.starts c = true) (h2 : ¬ 200 < m + 1) (h3 : c ≠ 91) (h4 : c ≠ 123) : JP.beginC c t m st = JP.plainP c (c :: t) (m + 1) st := by
  unfold JP.beginC
  rw [if_neg (by rw [h]; decide), if_neg h2, if_neg (fun e => by rcases e.1 with e | e; exact h3 e; exact h4 e), if_neg h3, if_neg h4]
theorem beginC_list {t : Bs} {m : Nat} {st : List Fr} (h2 : ¬ 200 < m + 1) (h3 : st.length ≠ 10) : JP.beginC 91 t m st = if hdN (JP.skip t) = 93 then .whole (.list []) (JP.skip t).tail (m + 1) st else .more (JP.skip t) (m + 1) (.lst [] :: st) := by
  unfold JP.beginC
  rw [if_neg (by decide), if_neg h2, if_neg (fun e => h3 e.2), if_pos rfl]
  by_cases h : hdN (JP.skip t) = 93
  · obtain ⟨q, hq⟩ := hd_zero (c := 93) (by decide) h
    rw [if_pos h, if_pos (by rw [hq]; rfl)]
  · rw [if_neg h, if_neg (fun e => h (by
      cases hs : JP.skip t with
      | nil => rw [hs] at e; cases e
      | cons x q => rw [hs] at e; cases e; rfl))]
theorem beginC_obj {t : Bs} {m : Nat} {st : List Fr} (h2 : ¬ 200 < m + 1) (h3 : st.length ≠ 10) : JP.beginC 123 t m st = if hdN (JP.skip t) = 125 then .whole (.obj []) (JP.skip t).tail (m + 1) st else JP.fieldP (JP.skip t) (m + 1) [] st := by
  unfold JP.beginC
  rw [if_neg (by decide), if_neg h2, if_neg (fun e => h3 e.2), if_neg (by decide), if_pos rfl]
  by_cases h : hdN (JP.skip t) = 125
  · obtain ⟨q, hq⟩ := hd_zero (c := 125) (by decide) h
    rw [if_pos h, if_pos (by rw [hq]; rfl)]
  · rw [if_neg h, if_neg (fun e => h (by
      cases hs : JP.skip t with
      | nil => rw [hs] at e; cases e
      | cons x q => rw [hs] at e; cases e; rfl))]
theorem starts_no {c : UInt8} {z : Int} (hz : (c.toNat : Int) = z) (h1 : (z == 91) = false) (h2 : (z == 123) = false) (h3 : ¬ z = 34) (h4 : ¬ z = 45) (h5 : ¬ z = 116) (h6 : ¬ z = 102) (h7 : ¬ z = 110) (h : z < 48 ∨ 57 < z) : JP.starts c = false := by
  rw [beq_eq_false_iff_ne] at h1 h2
  have e : ∀ k : UInt8, z ≠ (k.toNat : Int) → (c == k) = false := fun k hk => by
    rw [beq_eq_false_iff_ne]; intro e; exact hk (by rw [← hz, e])
  unfold JP.starts JP.digit
  rw [e 91 (by exact h1), e 123 (by exact h2), e 34 (by exact h3), e 45 (by exact h4), e 116 (by exact h5), e 102 (by exact h6), e 110 (by exact h7)]
  rcases h with h | h
  · have : ¬ 48 ≤ c := fun h9 => by have : (48 : UInt8).toNat ≤ c.toNat := h9; have : (48 : UInt8).toNat = 48 := rfl; omega
    rw [decide_eq_false this]; rfl
  · have : ¬ c ≤ 57 := fun h9 => by have : c.toNat ≤ (57 : UInt8).toNat := h9; have : (57 : UInt8).toNat = 57 := rfl; omega
    rw [decide_eq_false this, Bool.and_false]; rfl
theorem starts_dig {c : UInt8} {z : Int} (hz : (c.toNat : Int) = z) (h1 : ¬ z < 48) (h2 : ¬ 57 < z) : JP.starts c = true := by
  have a1 : 48 ≤ c := by show (48 : UInt8).toNat ≤ c.toNat; have : (48 : UInt8).toNat = 48 := rfl; omega
  have a2 : c ≤ 57 := by show c.toNat ≤ (57 : UInt8).toNat; have : (57 : UInt8).toNat = 57 := rfl; omega
  unfold JP.starts JP.digit
  rw [decide_eq_true a1, decide_eq_true a2]
  simp
theorem outE_of {g : Nat} {s : ByteArray} {w w' : World} {x : JP.R} {v : Value} {b : Bool} (h : Out g s w x v b w') : OutE g s w x (.returned (.tuple #[v, .bool b])) w' := ⟨v, b, rfl, h⟩
set_option maxRecDepth 100000 in
set_option maxHeartbeats 12800000 in
theorem begin_none (g : Nat) (s : ByteArray) (a m : Nat) (vst : Value) (fs : List GF) (T : List Nat) (st : List Fr) (w : World) (h : RdAt g s a m vst 0 w) (hc : Core g T w vst fs st) (ha : a ≤ s.size) (hs : s.size ≤ 1048576) (hm : m ≤ 1000) (hst : st.length ≤ 10) (hsk : JP.skip (s.data.toList.drop a) = []) :
    Calls Tryd.prog 44 #[.pointer (some ⟨g, 0, none⟩)] w (OutE g s w (JP.beginP (s.data.toList.drop a) m st)) := by
  have hgw := h.lt
  obtain ⟨X, HX⟩ : ∃ X, Hid (JP.beginP (s.data.toList.drop a) m st = X) := ⟨_, Lib.hid rfl⟩
  rw [HX.out]
  have hn := next_any g s a m vst 0 w h ha hs
  rw [hsk] at hn
  have HN := Lib.hid hn
  have hz : hdN (([] : Bs)) = 0 := rfl
  rw [hz] at hn
  have HN := Lib.hid hn
  have Hc := Lib.hid hc
  have Hsk := Lib.hid hsk
  clear h hc hn hsk
  go_enter Tryd.func44, Tryd.ntmps44
  go_wp2_with fail
  refine HN.out.mono ?_
  rintro E w1 ⟨rfl, ⟨i, hi, hdi, hr⟩, hb⟩
  have Hr1 := Lib.hid hr
  have Hb1 := Lib.hid hb
  have Hdi := Lib.hid hdi
  have Hc1 := Lib.hid (Hc.out.but hb)
  clear hr hb hdi HN
  have HX2 : Hid (X = .bad 3) := Lib.hid (by rw [← HX.out]; exact beginP_none Hsk.out)
  clear HX
  go_wp2_with fail
  refine (fail_any g s i m vst 0 3 w1 Hr1.out).mono ?_
  rintro E w2 ⟨rfl, hr, hbt⟩
  have Hr := Lib.hid hr
  have Hbt := Lib.hid (Hb1.out.trans hbt)
  clear hr hbt
  go_wp2_with fail
  go_ret2
  exact outE_of (out_bad HX2.out (by decide) Hr.out (below_but Hbt.out hgw))
set_option maxRecDepth 100000 in
set_option maxHeartbeats 12800000 in
theorem begin_list (g : Nat) (s : ByteArray) (a m : Nat) (vst : Value) (fs : List GF) (T : List Nat) (st : List Fr) (w : World) (h : RdAt g s a m vst 0 w) (hc : Core g T w vst fs st) (ha : a ≤ s.size) (hs : s.size ≤ 1048576) (hm : m ≤ 1000) (hst : st.length ≤ 10) (t : Bs) (hsk : JP.skip (s.data.toList.drop a) = 91 :: t) :
    Calls Tryd.prog 44 #[.pointer (some ⟨g, 0, none⟩)] w (OutE g s w (JP.beginP (s.data.toList.drop a) m st)) := by
  have hgw := h.lt
  obtain ⟨X, HX⟩ : ∃ X, Hid (JP.beginP (s.data.toList.drop a) m st = X) := ⟨_, Lib.hid rfl⟩
  rw [HX.out]
  have hn := next_any g s a m vst 0 w h ha hs
  rw [hsk] at hn
  have HN := Lib.hid hn
  have hz : hdN ((91 :: t : Bs)) = 91 := rfl
  rw [hz] at hn
  have HN := Lib.hid hn
  have Hc := Lib.hid hc
  have Hsk := Lib.hid hsk
  clear h hc hn hsk
  go_enter Tryd.func44, Tryd.ntmps44
  go_wp2_with fail
  refine HN.out.mono ?_
  rintro E w1 ⟨rfl, ⟨i, hi, hdi, hr⟩, hb⟩
  have Hr1 := Lib.hid hr
  have Hb1 := Lib.hid hb
  have Hdi := Lib.hid hdi
  have Hc1 := Lib.hid (Hc.out.but hb)
  clear hr hb hdi HN
  have k2 : w1.cell? ⟨g, 2, none⟩ = some (.int .i64 (m : Int)) := cell_block Hr1.out 2
  have z2 : w1.frozen? ⟨g, 2, none⟩ = false := free_block Hr1.out 2
  have ww1 : IntKind.i64.wrap ((m : Int) + 1) = (m : Int) + 1 := IntWalk.i64_in _ (by omega)
  go_upto_region 7 with fail
  generalize hW : World.setCell _ ⟨g, 2, none⟩ _ = W2
  obtain ⟨m', hm'⟩ : ∃ m', m + 1 = m' := ⟨_, rfl⟩
  have hR2 : RdAt g s i m' vst 0 W2 := by
    rw [← hW]; unfold RdAt; rw [show ((m' : Nat) : Int) = (m : Int) + 1 by omega]
    exact (touch_setCell (w := w1) (i := 2) (v := .int .i64 ((m : Int) + 1)) Hr1.out).1
  have hB2 : But g w W2 := by rw [← hW]; exact Hb1.out.trans (But.touch (touch_setCell (w := w1) (i := 2) (v := .int .i64 ((m : Int) + 1)) Hr1.out).2)
  have Hm' := Lib.hid hm'
  have hm9 : m' ≤ 1001 := by omega
  have HR2 := Lib.hid hR2
  have HB2 := Lib.hid hB2
  have HC2 := Lib.hid (Hc.out.but hB2)
  have k2 : W2.cell? ⟨g, 2, none⟩ = some (.int .i64 (m' : Int)) := cell_block hR2 2
  clear hW hR2 hB2 hm' z2 ww1
  by_cases hl : 200 < m'
  · have HX2 : Hid (X = .bad 2) := Lib.hid (by rw [← HX.out, beginP_eq Hsk.out]; exact beginC_large (by decide) (by rw [Hm'.out]; exact hl))
    have p1 : (200 : Int) < (m' : Int) := by omega
    clear HX hl
    go_wp2_with fail
    refine (fail_any g s i m' vst 0 2 W2 HR2.out).mono ?_
    rintro E w3 ⟨rfl, hr, hbt⟩
    have hr' : RdAt g s i m' vst 2 w3 := hr
    have k4 : w3.cell? ⟨g, 4, none⟩ = some (.int .i64 2) := cell_block hr' 4
    have Hr := Lib.hid hr'
    have Hbt := Lib.hid (HB2.out.trans hbt)
    clear hr hr' hbt
    go_wp2_with fail
    go_ret2
    exact outE_of (out_bad HX2.out (by decide) Hr.out (below_but Hbt.out hgw))
  have p1 : ¬ (200 : Int) < (m' : Int) := by omega
  have Hl : Hid (¬ 200 < m + 1) := Lib.hid (by rw [Hm'.out]; exact hl)
  clear hl
  have k4 : W2.cell? ⟨g, 4, none⟩ = some (.int .i64 0) := cell_block HR2.out 4
  have HX0 : Hid (X = JP.beginC 91 t m st) := Lib.hid (by rw [← HX.out]; exact beginP_eq Hsk.out)
  obtain ⟨vb, n, cv, hv, hnl⟩ : ∃ vb n c, vst = .slice vb n c ∧ n = st.length := by
    have hl := HC2.out.all.len
    rcases HC2.out.row.form with ⟨h1, h2⟩ | ⟨b, c, h1, _⟩
    · exact ⟨none, 0, 0, h1, by rw [← hl]; rw [List.reverse_eq_nil_iff] at h2; rw [h2]; rfl⟩
    · exact ⟨_, _, _, h1, by rw [List.length_reverse, hl]⟩
  have Hnl := Lib.hid hnl
  have hn10 : n ≤ 10 := by omega
  have k3 : W2.cell? ⟨g, 3, none⟩ = some (.slice vb n cv) := by rw [← hv]; exact cell_block HR2.out 3
  have Hv := Lib.hid hv
  clear HX hnl hv
  by_cases hd : n = 10
  · have HX2 : Hid (X = .bad 4) := Lib.hid (by rw [HX0.out]; exact beginC_deep (by decide) Hl.out ⟨by decide, by rw [← Hnl.out]; exact hd⟩)
    have p2 : ((n : Int) == 10) = true := by rw [beq_iff_eq]; omega
    clear hd HX0
    go_wp2_with fail
    refine (fail_any g s i m' vst 0 4 W2 HR2.out).mono ?_
    rintro E w3 ⟨rfl, hr, hbt⟩
    have hr' : RdAt g s i m' vst 4 w3 := hr
    have k4 : w3.cell? ⟨g, 4, none⟩ = some (.int .i64 4) := cell_block hr' 4
    have Hr := Lib.hid hr'
    have Hbt := Lib.hid (HB2.out.trans hbt)
    clear hr hr' hbt
    go_wp2_with fail
    go_ret2
    exact outE_of (out_bad HX2.out (by decide) Hr.out (below_but Hbt.out hgw))
  have p2 : ((n : Int) == 10) = false := by rw [beq_eq_false_iff_ne]; omega
  have Hd : Hid (st.length ≠ 10) := Lib.hid (by rw [← Hnl.out]; exact hd)
  clear hd
  obtain ⟨hil, hdt⟩ := drop_in Hdi.out
  have Hdt := Lib.hid hdt
  have k1 : W2.cell? ⟨g, 1, none⟩ = some (.int .i64 (i : Int)) := cell_block HR2.out 1
  have z1 : W2.frozen? ⟨g, 1, none⟩ = false := free_block HR2.out 1
  have ww1 : IntKind.i64.wrap ((i : Int) + 1) = (i : Int) + 1 := IntWalk.i64_in _ (by omega)
  clear hdt
  go_upto_region 16 with fail
  generalize hW : World.setCell _ ⟨g, 1, none⟩ _ = W3
  have hR3 : RdAt g s (i + 1) m' vst 0 W3 := by rw [← hW]; exact RdAt.cast (touch_setCell (w := W2) (i := 1) (v := .int .i64 ((i : Int) + 1)) HR2.out).1 (by omega)
  have hB3 : But g w W3 := by rw [← hW]; exact HB2.out.trans (But.touch (touch_setCell (w := W2) (i := 1) (v := .int .i64 ((i : Int) + 1)) HR2.out).2)
  have HR3 := Lib.hid hR3
  have HB3 := Lib.hid hB3
  have hC3 := Hc.out.but hB3
  have HC3 := Lib.hid hC3
  have hrow := hC3.row
  rw [Hv.out] at hrow
  have Hrow := Lib.hid hrow
  have k3 : W3.cell? ⟨g, 3, none⟩ = some (.slice vb n cv) := by rw [← Hv.out]; exact cell_block hR3 3
  obtain ⟨i0, hi0, hz0, hz1, hz2⟩ := info_parts Tryd.infoFr
  have hgW : g < W3.heap.size := hR3.lt
  have Hfl : Hid (fs.reverse.length = n) := Lib.hid (by rw [List.length_reverse, Hnl.out]; exact hC3.all.len)
  clear hW hR3 hB3 hC3 hrow k1 k2 z1 ww1
  go_wp2_with (at_builtin; refine wpList_append_ownAt (R := RFr) (k := 3) (e := 100) (B := g + 1) (l := fs.reverse) (m := [⟨.slice none 0 0, .pointer none, ⟨#[]⟩⟩]) _ (by rfl) _ _ _ (by rfl) i0 _ 48 Tryd.underlying70 hi0 hz0 hz1 hz2 rfl (by omega) flat_fr one_fr _ (by rfl) (Hrow.out.alloc stays_fr _) (.slice (some ⟨W3.heap.size, 0, none⟩) 1 1) (by rfl) (RowAt.one (R := RFr) (k := 3) (cs := #[.slice none 0 0, .pointer none, .string ByteArray.empty]) (heap_alloc_new _ _) rfl ⟨rfl, rfl, rfl⟩) (by rw [Hfl.out]; unfold maxLen; simp; omega) (by rw [Hfl.out]; simp; omega) (by simp; omega) ?_)
  intro v1 w4 hv1 hg4 _ hn4
  have hA : Below W3.heap.size W3 (W3.alloc (.cells #[.slice none 0 0, .pointer none, .string ByteArray.empty] 100)) := (Below.refl _ _).alloc (Nat.le_refl _) _
  have hfr : FrAt (g + 1) (T ++ v1.ownBlock.toList) w4 ⟨.slice none 0 0, .pointer none, ⟨#[]⟩⟩ (.lst []) := empty_lst
  have hcore := core_push HC3.out hv1 hA (by rw [Hv.out]; exact hg4) (by rw [Hv.out]; simpa only [World.size_alloc] using hn4) rfl hfr
  obtain ⟨T4, hT4⟩ : ∃ T', T ++ v1.ownBlock.toList = T' := ⟨_, rfl⟩
  rw [hT4] at hcore
  have hsb : (Value.slice vb n cv).ownBlock ≠ some g := fun e => by have := (Hrow.out.at e).1; omega
  have hr4 : RdAt g s (i + 1) m' vst 0 w4 := (grown_block hg4 (Nat.lt_of_lt_of_le hgW hA.size) hsb).trans ((hA.block g hgW).trans HR3.out)
  have hb4 : Below g W3 w4 := ⟨hg4.os.trans hA.os, hg4.tape.trans hA.tape, hg4.output.trans hA.output, Nat.le_trans hA.size hg4.size, fun b hb => (grown_block hg4 (Nat.lt_of_lt_of_le (Nat.lt_trans hb hgW) hA.size) (fun e => by have := (Hrow.out.at e).1; omega)).trans (hA.block b (Nat.lt_trans hb hgW))⟩
  obtain ⟨sb, c5, cur5, htop⟩ := hcore.top
  obtain ⟨tv, tl, tr, tm, _⟩ := htop
  have hfn : fs.length = n := by rw [← Hfl.out, List.length_reverse]
  rw [hfn] at tv tr
  subst tv
  have HC4 := Lib.hid hcore
  have HR4 := Lib.hid hr4
  have HB4 : Hid (Below g w w4) := Lib.hid ((below_but HB3.out hgw).trans hb4)
  have Hfn := Lib.hid hfn
  have hgw4 := hr4.lt
  have z3 : w4.frozen? ⟨g, 3, none⟩ = false := free_block hr4 3
  have k3' : w4.cell? ⟨g, 3, none⟩ = some (.slice vb n cv) := by rw [← Hv.out]; exact cell_block hr4 3
  clear hv1 hg4 hn4 hA hfr hcore hT4 hr4 hb4 hsb Hrow k3 hfn
  go_upto_region 17 with fail
  generalize hW : World.setCell _ ⟨g, 3, none⟩ _ = W5
  have hR5 : RdAt g s (i + 1) m' (.slice (some ⟨sb, 0, none⟩) (n + 1) c5) 0 W5 := by rw [← hW]; exact (touch_setCell (w := w4) (i := 3) (v := .slice (some ⟨sb, 0, none⟩) (n + 1) c5) HR4.out).1
  have hB5 : But g w4 W5 := by rw [← hW]; exact But.touch (touch_setCell (w := w4) (i := 3) (v := .slice (some ⟨sb, 0, none⟩) (n + 1) c5) HR4.out).2
  have HR5 := Lib.hid hR5
  have HB5 := Lib.hid (HB4.out.trans (below_but hB5 hgw4))
  have HC5 := Lib.hid (HC4.out.but hB5)
  have hgw5 := hR5.lt
  clear hW hR5 hB5 k3' z3 HC4 HR4 HB4
  obtain ⟨z6, hz6⟩ : ∃ z, hdN (JP.skip t) = z := ⟨_, rfl⟩
  have hn6 := next_any g s (i + 1) m' (.slice (some ⟨sb, 0, none⟩) (n + 1) c5) 0 W5 HR5.out (by omega) hs
  rw [Hdt.out, hz6] at hn6
  have HN6 := Lib.hid hn6
  have Hz6 := Lib.hid hz6
  clear hn6 hz6
  go_wp2_with fail
  refine HN6.out.mono ?_
  rintro E w6 ⟨rfl, ⟨i6, hi6, hdi6, hr⟩, hb⟩
  have HR6 := Lib.hid hr
  have HB6 := Lib.hid (HB5.out.trans (below_but hb hgw5))
  have HC6 := Lib.hid (HC5.out.but hb)
  have Hd6 := Lib.hid hdi6
  have hgw6 := hr.lt
  clear hr hb hdi6 HN6
  have HX1 := Lib.hid (HX0.out.trans (beginC_list Hl.out Hd.out))
  clear HX0
  by_cases h93 : z6 = 93
  · subst h93
    obtain ⟨t7, ht7⟩ := hd_zero (c := 93) (by decide) Hz6.out
    obtain ⟨hi7, hd7⟩ := drop_in (Hd6.out.trans ht7)
    have HX2 : Hid (X = .whole (.list []) (s.data.toList.drop (i6 + 1)) m' st) := Lib.hid (by rw [HX1.out, if_pos Hz6.out, ht7, hd7, Hm'.out]; rfl)
    clear HX1 ht7 hd7
    go_wp2_with fail
    refine (close_any g s i6 m' sb n c5 (.iface 80 (.slice none 0 0)) w6 HR6.out hi7 hs tr tm (by omega)).mono ?_
    rintro E w7 ⟨rfl, hr, hbt⟩
    have Hr := Lib.hid hr
    have Hbt := Lib.hid hbt
    clear hr hbt
    go_wp2_with fail
    go_ret2
    exact outE_of (out_whole HX2.out ⟨i6 + 1, _, fs, T4, hi7, rfl, Hr.out, core_pop (HC6.out.but Hbt.out) Hfn.out, 1, _, rfl, .inl ⟨rfl, rfl⟩, fun h => absurd rfl h⟩ (HB6.out.trans (below_but Hbt.out hgw6)))
  · have HX2 : Hid (X = .more (s.data.toList.drop i6) m' (.lst [] :: st)) := Lib.hid (by rw [HX1.out, if_neg (by rw [Hz6.out]; exact h93), Hd6.out, Hm'.out])
    have n93 : (z6 == 93) = false := by rw [beq_eq_false_iff_ne]; exact h93
    clear HX1 h93
    go_wp2_with fail
    go_ret2
    exact outE_of (out_more HX2.out ⟨i6, _, _, T4, hi6, rfl, HR6.out, HC6.out, trivial⟩ HB6.out)
set_option maxRecDepth 100000 in
set_option maxHeartbeats 12800000 in
theorem begin_obj (g : Nat) (s : ByteArray) (a m : Nat) (vst : Value) (fs : List GF) (T : List Nat) (st : List Fr) (w : World) (h : RdAt g s a m vst 0 w) (hc : Core g T w vst fs st) (ha : a ≤ s.size) (hs : s.size ≤ 1048576) (hm : m ≤ 1000) (hst : st.length ≤ 10) (t : Bs) (hsk : JP.skip (s.data.toList.drop a) = 123 :: t) :
    Calls Tryd.prog 44 #[.pointer (some ⟨g, 0, none⟩)] w (OutE g s w (JP.beginP (s.data.toList.drop a) m st)) := by
  have hgw := h.lt
  obtain ⟨X, HX⟩ : ∃ X, Hid (JP.beginP (s.data.toList.drop a) m st = X) := ⟨_, Lib.hid rfl⟩
  rw [HX.out]
  have hn := next_any g s a m vst 0 w h ha hs
  rw [hsk] at hn
  have HN := Lib.hid hn
  have hz : hdN ((123 :: t : Bs)) = 123 := rfl
  rw [hz] at hn
  have HN := Lib.hid hn
  have Hc := Lib.hid hc
  have Hsk := Lib.hid hsk
  clear h hc hn hsk
  go_enter Tryd.func44, Tryd.ntmps44
  go_wp2_with fail
  refine HN.out.mono ?_
  rintro E w1 ⟨rfl, ⟨i, hi, hdi, hr⟩, hb⟩
  have Hr1 := Lib.hid hr
  have Hb1 := Lib.hid hb
  have Hdi := Lib.hid hdi
  have Hc1 := Lib.hid (Hc.out.but hb)
  clear hr hb hdi HN
  have k2 : w1.cell? ⟨g, 2, none⟩ = some (.int .i64 (m : Int)) := cell_block Hr1.out 2
  have z2 : w1.frozen? ⟨g, 2, none⟩ = false := free_block Hr1.out 2
  have ww1 : IntKind.i64.wrap ((m : Int) + 1) = (m : Int) + 1 := IntWalk.i64_in _ (by omega)
  go_upto_region 7 with fail
  generalize hW : World.setCell _ ⟨g, 2, none⟩ _ = W2
  obtain ⟨m', hm'⟩ : ∃ m', m + 1 = m' := ⟨_, rfl⟩
  have hR2 : RdAt g s i m' vst 0 W2 := by
    rw [← hW]; unfold RdAt; rw [show ((m' : Nat) : Int) = (m : Int) + 1 by omega]
    exact (touch_setCell (w := w1) (i := 2) (v := .int .i64 ((m : Int) + 1)) Hr1.out).1
  have hB2 : But g w W2 := by rw [← hW]; exact Hb1.out.trans (But.touch (touch_setCell (w := w1) (i := 2) (v := .int .i64 ((m : Int) + 1)) Hr1.out).2)
  have Hm' := Lib.hid hm'
  have hm9 : m' ≤ 1001 := by omega
  have HR2 := Lib.hid hR2
  have HB2 := Lib.hid hB2
  have HC2 := Lib.hid (Hc.out.but hB2)
  have k2 : W2.cell? ⟨g, 2, none⟩ = some (.int .i64 (m' : Int)) := cell_block hR2 2
  clear hW hR2 hB2 hm' z2 ww1
  by_cases hl : 200 < m'
  · have HX2 : Hid (X = .bad 2) := Lib.hid (by rw [← HX.out, beginP_eq Hsk.out]; exact beginC_large (by decide) (by rw [Hm'.out]; exact hl))
    have p1 : (200 : Int) < (m' : Int) := by omega
    clear HX hl
    go_wp2_with fail
    refine (fail_any g s i m' vst 0 2 W2 HR2.out).mono ?_
    rintro E w3 ⟨rfl, hr, hbt⟩
    have hr' : RdAt g s i m' vst 2 w3 := hr
    have k4 : w3.cell? ⟨g, 4, none⟩ = some (.int .i64 2) := cell_block hr' 4
    have Hr := Lib.hid hr'
    have Hbt := Lib.hid (HB2.out.trans hbt)
    clear hr hr' hbt
    go_wp2_with fail
    go_ret2
    exact outE_of (out_bad HX2.out (by decide) Hr.out (below_but Hbt.out hgw))
  have p1 : ¬ (200 : Int) < (m' : Int) := by omega
  have Hl : Hid (¬ 200 < m + 1) := Lib.hid (by rw [Hm'.out]; exact hl)
  clear hl
  have k4 : W2.cell? ⟨g, 4, none⟩ = some (.int .i64 0) := cell_block HR2.out 4
  have HX0 : Hid (X = JP.beginC 123 t m st) := Lib.hid (by rw [← HX.out]; exact beginP_eq Hsk.out)
  obtain ⟨vb, n, cv, hv, hnl⟩ : ∃ vb n c, vst = .slice vb n c ∧ n = st.length := by
    have hl := HC2.out.all.len
    rcases HC2.out.row.form with ⟨h1, h2⟩ | ⟨b, c, h1, _⟩
    · exact ⟨none, 0, 0, h1, by rw [← hl]; rw [List.reverse_eq_nil_iff] at h2; rw [h2]; rfl⟩
    · exact ⟨_, _, _, h1, by rw [List.length_reverse, hl]⟩
  have Hnl := Lib.hid hnl
  have hn10 : n ≤ 10 := by omega
  have k3 : W2.cell? ⟨g, 3, none⟩ = some (.slice vb n cv) := by rw [← hv]; exact cell_block HR2.out 3
  have Hv := Lib.hid hv
  clear HX hnl hv
  by_cases hd : n = 10
  · have HX2 : Hid (X = .bad 4) := Lib.hid (by rw [HX0.out]; exact beginC_deep (by decide) Hl.out ⟨by decide, by rw [← Hnl.out]; exact hd⟩)
    have p2 : ((n : Int) == 10) = true := by rw [beq_iff_eq]; omega
    clear hd HX0
    go_wp2_with fail
    refine (fail_any g s i m' vst 0 4 W2 HR2.out).mono ?_
    rintro E w3 ⟨rfl, hr, hbt⟩
    have hr' : RdAt g s i m' vst 4 w3 := hr
    have k4 : w3.cell? ⟨g, 4, none⟩ = some (.int .i64 4) := cell_block hr' 4
    have Hr := Lib.hid hr'
    have Hbt := Lib.hid (HB2.out.trans hbt)
    clear hr hr' hbt
    go_wp2_with fail
    go_ret2
    exact outE_of (out_bad HX2.out (by decide) Hr.out (below_but Hbt.out hgw))
  have p2 : ((n : Int) == 10) = false := by rw [beq_eq_false_iff_ne]; omega
  have Hd : Hid (st.length ≠ 10) := Lib.hid (by rw [← Hnl.out]; exact hd)
  clear hd
  obtain ⟨hil, hdt⟩ := drop_in Hdi.out
  have Hdt := Lib.hid hdt
  have k1 : W2.cell? ⟨g, 1, none⟩ = some (.int .i64 (i : Int)) := cell_block HR2.out 1
  have z1 : W2.frozen? ⟨g, 1, none⟩ = false := free_block HR2.out 1
  have ww1 : IntKind.i64.wrap ((i : Int) + 1) = (i : Int) + 1 := IntWalk.i64_in _ (by omega)
  clear hdt
  go_upto_region 22 with fail
  generalize hW : World.setCell _ ⟨g, 1, none⟩ _ = W3
  have hR3 : RdAt g s (i + 1) m' vst 0 W3 := by rw [← hW]; exact RdAt.cast (touch_setCell (w := W2) (i := 1) (v := .int .i64 ((i : Int) + 1)) HR2.out).1 (by omega)
  have hB3 : But g w W3 := by rw [← hW]; exact HB2.out.trans (But.touch (touch_setCell (w := W2) (i := 1) (v := .int .i64 ((i : Int) + 1)) HR2.out).2)
  have HR3 := Lib.hid hR3
  have HB3 := Lib.hid hB3
  have hC3 := Hc.out.but hB3
  have HC3 := Lib.hid hC3
  have hrow := hC3.row
  rw [Hv.out] at hrow
  have Hrow := Lib.hid hrow
  have k3 : W3.cell? ⟨g, 3, none⟩ = some (.slice vb n cv) := by rw [← Hv.out]; exact cell_block hR3 3
  obtain ⟨i0, hi0, hz0, hz1, hz2⟩ := info_parts Tryd.infoFr
  have hgW : g < W3.heap.size := hR3.lt
  have Hfl : Hid (fs.reverse.length = n) := Lib.hid (by rw [List.length_reverse, Hnl.out]; exact hC3.all.len)
  clear hW hR3 hB3 hC3 hrow k1 k2 z1 ww1
  go_wp2_with (at_builtin; refine wpList_append_ownAt (R := RFr) (k := 3) (e := 100) (B := g + 1) (l := fs.reverse) (m := [⟨.slice none 0 0, .pointer (some ⟨W3.heap.size, 0, none⟩), ⟨#[]⟩⟩]) _ (by rfl) _ _ _ (by rfl) i0 _ 48 Tryd.underlying70 hi0 hz0 hz1 hz2 rfl (by omega) flat_fr one_fr _ (by rfl) ((Hrow.out.alloc stays_fr _).alloc stays_fr _) (.slice (some ⟨W3.heap.size + 1, 0, none⟩) 1 1) (by rfl) (RowAt.one (R := RFr) (k := 3) (cs := #[.slice none 0 0, .pointer (some ⟨W3.heap.size, 0, none⟩), .string ByteArray.empty]) (by have h9 := heap_alloc_new (W3.alloc (.cells #[.slice none 0 0, .slice none 0 0] 85)) (.cells #[.slice none 0 0, .pointer (some ⟨W3.heap.size, 0, none⟩), .string ByteArray.empty] 100); rw [World.size_alloc] at h9; exact h9) rfl ⟨rfl, rfl, rfl⟩) (by rw [Hfl.out]; unfold maxLen; simp; omega) (by rw [Hfl.out]; simp; omega) (by simp; omega) ?_)
  intro v1 w4 hv1 hg4 _ hn4
  have hA : Below W3.heap.size W3 ((W3.alloc (.cells #[.slice none 0 0, .slice none 0 0] 85)).alloc (.cells #[.slice none 0 0, .pointer (some ⟨W3.heap.size, 0, none⟩), .string ByteArray.empty] 100)) := ((Below.refl _ _).alloc (Nat.le_refl _) _).alloc (by simp) _
  have hfr : FrAt (g + 1) (T ++ v1.ownBlock.toList) w4 ⟨.slice none 0 0, .pointer (some ⟨W3.heap.size, 0, none⟩), ⟨#[]⟩⟩ (.ob [] []) := by
    have q1 : w4.heap[W3.heap.size]? = some (.cells #[.slice none 0 0, .slice none 0 0] 85 (0, 0)) := (grown_block hg4 (by simp; omega) (fun e => absurd (Hrow.out.at e).2.1 (Nat.lt_irrefl _))).trans (below_block ((Below.refl _ (W3.alloc (.cells #[.slice none 0 0, .slice none 0 0] 85))).alloc (Nat.le_refl _) _) (heap_alloc_new W3 _))
    have q2 : W3.heap.size ∉ T ++ v1.ownBlock.toList := fun hm => by
      rcases List.mem_append.1 hm with hm | hm
      · exact absurd (HC3.out.low _ hm).2 (Nat.lt_irrefl _)
      · rw [Option.mem_toList] at hm
        rcases hn4 with e | e
        · rw [e] at hm
          exact absurd (Hrow.out.at hm).2.1 (Nat.lt_irrefl _)
        · rw [e] at hm
          have h9 := Option.some.inj hm
          omega
    exact ⟨rfl, rfl, 1, W3.heap.size, rfl, empty_ob q1 q2⟩
  have hcore := core_push HC3.out hv1 hA (by rw [Hv.out]; exact hg4) (by rw [Hv.out]; simpa only [World.size_alloc] using hn4) rfl hfr
  obtain ⟨T4, hT4⟩ : ∃ T', T ++ v1.ownBlock.toList = T' := ⟨_, rfl⟩
  rw [hT4] at hcore
  have hsb : (Value.slice vb n cv).ownBlock ≠ some g := fun e => by have := (Hrow.out.at e).1; omega
  have hr4 : RdAt g s (i + 1) m' vst 0 w4 := (grown_block hg4 (Nat.lt_of_lt_of_le hgW hA.size) hsb).trans ((hA.block g hgW).trans HR3.out)
  have hb4 : Below g W3 w4 := ⟨hg4.os.trans hA.os, hg4.tape.trans hA.tape, hg4.output.trans hA.output, Nat.le_trans hA.size hg4.size, fun b hb => (grown_block hg4 (Nat.lt_of_lt_of_le (Nat.lt_trans hb hgW) hA.size) (fun e => by have := (Hrow.out.at e).1; omega)).trans (hA.block b (Nat.lt_trans hb hgW))⟩
  obtain ⟨sb, c5, cur5, htop⟩ := hcore.top
  obtain ⟨tv, tl, tr, tm, _⟩ := htop
  have hfn : fs.length = n := by rw [← Hfl.out, List.length_reverse]
  rw [hfn] at tv tr
  subst tv
  have HC4 := Lib.hid hcore
  have HR4 := Lib.hid hr4
  have HB4 : Hid (Below g w w4) := Lib.hid ((below_but HB3.out hgw).trans hb4)
  have Hfn := Lib.hid hfn
  have hgw4 := hr4.lt
  have z3 : w4.frozen? ⟨g, 3, none⟩ = false := free_block hr4 3
  have k3' : w4.cell? ⟨g, 3, none⟩ = some (.slice vb n cv) := by rw [← Hv.out]; exact cell_block hr4 3
  clear hv1 hg4 hn4 hA hfr hcore hT4 hr4 hb4 hsb Hrow k3 hfn
  go_upto_region 23 with fail
  generalize hW : World.setCell _ ⟨g, 3, none⟩ _ = W5
  have hR5 : RdAt g s (i + 1) m' (.slice (some ⟨sb, 0, none⟩) (n + 1) c5) 0 W5 := by rw [← hW]; exact (touch_setCell (w := w4) (i := 3) (v := .slice (some ⟨sb, 0, none⟩) (n + 1) c5) HR4.out).1
  have hB5 : But g w4 W5 := by rw [← hW]; exact But.touch (touch_setCell (w := w4) (i := 3) (v := .slice (some ⟨sb, 0, none⟩) (n + 1) c5) HR4.out).2
  have HR5 := Lib.hid hR5
  have HB5 := Lib.hid (HB4.out.trans (below_but hB5 hgw4))
  have HC5 := Lib.hid (HC4.out.but hB5)
  have hgw5 := hR5.lt
  clear hW hR5 hB5 k3' z3 HC4 HR4 HB4
  obtain ⟨z6, hz6⟩ : ∃ z, hdN (JP.skip t) = z := ⟨_, rfl⟩
  have hn6 := next_any g s (i + 1) m' (.slice (some ⟨sb, 0, none⟩) (n + 1) c5) 0 W5 HR5.out (by omega) hs
  rw [Hdt.out, hz6] at hn6
  have HN6 := Lib.hid hn6
  have Hz6 := Lib.hid hz6
  clear hn6 hz6
  go_wp2_with fail
  refine HN6.out.mono ?_
  rintro E w6 ⟨rfl, ⟨i6, hi6, hdi6, hr⟩, hb⟩
  have HR6 := Lib.hid hr
  have HB6 := Lib.hid (HB5.out.trans (below_but hb hgw5))
  have HC6 := Lib.hid (HC5.out.but hb)
  have Hd6 := Lib.hid hdi6
  have hgw6 := hr.lt
  clear hr hb hdi6 HN6
  have HX1 := Lib.hid (HX0.out.trans (beginC_obj Hl.out Hd.out))
  clear HX0
  by_cases h125 : z6 = 125
  · subst h125
    obtain ⟨t7, ht7⟩ := hd_zero (c := 125) (by decide) Hz6.out
    obtain ⟨hi7, hd7⟩ := drop_in (Hd6.out.trans ht7)
    have HX2 : Hid (X = .whole (.obj []) (s.data.toList.drop (i6 + 1)) m' st) := Lib.hid (by rw [HX1.out, if_pos Hz6.out, ht7, hd7, Hm'.out]; rfl)
    clear HX1 ht7 hd7
    have hA6 : Below w6.heap.size w6 (w6.alloc (.cells #[.slice none 0 0, .slice none 0 0] 85)) := (Below.refl _ _).alloc (Nat.le_refl _) _
    have HRA := Lib.hid (show RdAt g s i6 m' (.slice (some ⟨sb, 0, none⟩) (n + 1) c5) 0 (w6.alloc (.cells #[.slice none 0 0, .slice none 0 0] 85)) from below_block hA6 HR6.out)
    have HCA := Lib.hid (HC6.out.but (But.of hA6))
    have HBA := Lib.hid (HB6.out.trans (hA6.mono (Nat.le_of_lt hgw6)))
    clear hA6
    go_wp2_with fail
    refine (close_any g s i6 m' sb n c5 (.iface 83 (.pointer (some ⟨w6.heap.size, 0, none⟩))) _ HRA.out hi7 hs tr tm (by omega)).mono ?_
    rintro E w7 ⟨rfl, hr, hbt⟩
    have Hr := Lib.hid hr
    have Hbt := Lib.hid hbt
    clear hr hbt
    go_wp2_with fail
    go_ret2
    have q1 : w7.heap[w6.heap.size]? = some (.cells #[.slice none 0 0, .slice none 0 0] 85 (0, 0)) := Hbt.out.keep (heap_alloc_new w6 _) (by omega)
    exact outE_of (out_whole HX2.out ⟨i6 + 1, _, fs, T4, hi7, rfl, Hr.out, core_pop (HCA.out.but Hbt.out) Hfn.out, 1, _, rfl, empty_ob q1 (fun hm => absurd (HC6.out.low _ hm).2 (Nat.lt_irrefl _))⟩ (HBA.out.trans (below_but Hbt.out (HRA.out.lt))))
  · have HX2 : Hid (X = JP.fieldP (s.data.toList.drop i6) m' [] st) := Lib.hid (by rw [HX1.out, if_neg (by rw [Hz6.out]; exact h125), Hd6.out, Hm'.out])
    have n125 : (z6 == 125) = false := by rw [beq_eq_false_iff_ne]; exact h125
    clear HX1 h125
    go_wp2_with fail
    refine (field_any g s i6 m' _ _ fs T4 [] [] st w6 HR6.out HC6.out hi6 hs (by simp) (by rw [Hfn.out]; omega)).mono ?_
    intro E w7 hf
    obtain ⟨rfl, ho⟩ := out_field hf HB6.out
    have HO := Lib.hid ho
    clear hf ho
    go_wp2_with fail
    go_ret2
    exact outE_of (by rw [HX2.out]; exact HO.out _)
set_option maxRecDepth 100000 in
set_option maxHeartbeats 12800000 in
theorem begin_other (g : Nat) (s : ByteArray) (a m : Nat) (vst : Value) (fs : List GF) (T : List Nat) (st : List Fr) (w : World) (h : RdAt g s a m vst 0 w) (hc : Core g T w vst fs st) (ha : a ≤ s.size) (hs : s.size ≤ 1048576) (hm : m ≤ 1000) (hst : st.length ≤ 10) (c : UInt8) (t : Bs) (hsk : JP.skip (s.data.toList.drop a) = c :: t) (h91 : c.toNat ≠ 91) (h123 : c.toNat ≠ 123) :
    Calls Tryd.prog 44 #[.pointer (some ⟨g, 0, none⟩)] w (OutE g s w (JP.beginP (s.data.toList.drop a) m st)) := by
  have m91 : ((c.toNat : Int) == 91) = false := by rw [beq_eq_false_iff_ne]; omega
  have m123 : ((c.toNat : Int) == 123) = false := by rw [beq_eq_false_iff_ne]; omega
  have Hne : Hid (c ≠ 91 ∧ c ≠ 123) := Lib.hid ⟨fun e => h91 (by rw [e]; rfl), fun e => h123 (by rw [e]; rfl)⟩
  obtain ⟨z, hzc⟩ : ∃ z : Int, (c.toNat : Int) = z := ⟨_, rfl⟩
  rw [hzc] at m91 m123
  clear h91 h123
  have hgw := h.lt
  obtain ⟨X, HX⟩ : ∃ X, Hid (JP.beginP (s.data.toList.drop a) m st = X) := ⟨_, Lib.hid rfl⟩
  rw [HX.out]
  have hn := next_any g s a m vst 0 w h ha hs
  rw [hsk] at hn
  have HN := Lib.hid hn
  have hz : hdN ((c :: t)) = z := by rw [← hzc]; rfl
  rw [hz] at hn
  have HN := Lib.hid hn
  have Hc := Lib.hid hc
  have Hsk := Lib.hid hsk
  clear h hc hn hsk
  go_enter Tryd.func44, Tryd.ntmps44
  go_wp2_with fail
  refine HN.out.mono ?_
  rintro E w1 ⟨rfl, ⟨i, hi, hdi, hr⟩, hb⟩
  have Hr1 := Lib.hid hr
  have Hb1 := Lib.hid hb
  have Hdi := Lib.hid hdi
  have Hc1 := Lib.hid (Hc.out.but hb)
  clear hr hb hdi HN
  have Hzc := Lib.hid hzc
  clear hzc
  go_upto_region 3 with fail
  go_cut [43] (fun u43 wx => u43 = .bool (!JP.starts c) ∧ w1 = wx)
  case first =>
    have hzc := Hzc.out
    by_cases e34 : z = 34
    · subst e34
      have hS : JP.starts c = true := by rw [u8_eq (a := c) (b := 34) (by show c.toNat = 34; omega)]; decide
      have HS := Lib.hid hS
      clear hS hzc
      go_wp2_with fail
      go_meet
      exact ⟨by rw [HS.out]; rfl, rfl⟩
    have n34 : (z != 34) = true := by rw [bne_iff_ne]; exact e34
    by_cases e45 : z = 45
    · subst e45
      have hS : JP.starts c = true := by rw [u8_eq (a := c) (b := 45) (by show c.toNat = 45; omega)]; decide
      have HS := Lib.hid hS
      clear hS hzc
      go_wp2_with fail
      go_meet
      exact ⟨by rw [HS.out]; rfl, rfl⟩
    have n45 : (z != 45) = true := by rw [bne_iff_ne]; exact e45
    by_cases e116 : z = 116
    · subst e116
      have hS : JP.starts c = true := by rw [u8_eq (a := c) (b := 116) (by show c.toNat = 116; omega)]; decide
      have HS := Lib.hid hS
      clear hS hzc
      go_wp2_with fail
      go_meet
      exact ⟨by rw [HS.out]; rfl, rfl⟩
    have n116 : (z != 116) = true := by rw [bne_iff_ne]; exact e116
    by_cases e102 : z = 102
    · subst e102
      have hS : JP.starts c = true := by rw [u8_eq (a := c) (b := 102) (by show c.toNat = 102; omega)]; decide
      have HS := Lib.hid hS
      clear hS hzc
      go_wp2_with fail
      go_meet
      exact ⟨by rw [HS.out]; rfl, rfl⟩
    have n102 : (z != 102) = true := by rw [bne_iff_ne]; exact e102
    by_cases e110 : z = 110
    · subst e110
      have hS : JP.starts c = true := by rw [u8_eq (a := c) (b := 110) (by show c.toNat = 110; omega)]; decide
      have HS := Lib.hid hS
      clear hS hzc
      go_wp2_with fail
      go_meet
      exact ⟨by rw [HS.out]; rfl, rfl⟩
    have n110 : (z != 110) = true := by rw [bne_iff_ne]; exact e110
    by_cases l1 : z < 48
    · have hS : JP.starts c = false := starts_no Hzc.out m91 m123 e34 e45 e116 e102 e110 (.inl l1)
      have HS := Lib.hid hS
      have p5 : decide (z < 48) = true := decide_eq_true l1
      clear hS hzc e34 e45 e116 e102 e110
      go_wp2_with fail
      go_meet
      exact ⟨by rw [HS.out]; rfl, rfl⟩
    have p5 : decide (z < 48) = false := decide_eq_false l1
    by_cases l2 : 57 < z
    · have hS : JP.starts c = false := starts_no Hzc.out m91 m123 e34 e45 e116 e102 e110 (.inr l2)
      have HS := Lib.hid hS
      have p6 : decide (57 < z) = true := decide_eq_true l2
      clear hS hzc e34 e45 e116 e102 e110
      go_wp2_with fail
      go_meet
      exact ⟨by rw [HS.out]; rfl, rfl⟩
    have p6 : decide (57 < z) = false := decide_eq_false l2
    have hS : JP.starts c = true := starts_dig Hzc.out l1 l2
    have HS := Lib.hid hS
    clear hS hzc e34 e45 e116 e102 e110
    go_wp2_with fail
    go_meet
    exact ⟨by rw [HS.out]; rfl, rfl⟩
  case rest =>
  obtain ⟨rfl, rfl⟩ := hcut
  cases hS : JP.starts c with
  | false =>
    have HX2 : Hid (X = .bad 3) := Lib.hid (by rw [← HX.out, beginP_eq Hsk.out]; exact beginC_no hS)
    clear HX hS
    go_wp2_with fail
    refine (fail_any g s i m vst 0 3 w1 Hr1.out).mono ?_
    rintro E w2 ⟨rfl, hr, hbt⟩
    have Hr := Lib.hid hr
    have Hbt := Lib.hid (Hb1.out.trans hbt)
    clear hr hbt
    go_wp2_with fail
    go_ret2
    exact outE_of (out_bad HX2.out (by decide) Hr.out (below_but Hbt.out hgw))
  | true =>
  have HS := Lib.hid hS
  clear hS
  have k2 : w1.cell? ⟨g, 2, none⟩ = some (.int .i64 (m : Int)) := cell_block Hr1.out 2
  have z2 : w1.frozen? ⟨g, 2, none⟩ = false := free_block Hr1.out 2
  have ww1 : IntKind.i64.wrap ((m : Int) + 1) = (m : Int) + 1 := IntWalk.i64_in _ (by omega)
  go_upto_region 7 with fail
  generalize hW : World.setCell _ ⟨g, 2, none⟩ _ = W2
  obtain ⟨m', hm'⟩ : ∃ m', m + 1 = m' := ⟨_, rfl⟩
  have hR2 : RdAt g s i m' vst 0 W2 := by
    rw [← hW]; unfold RdAt; rw [show ((m' : Nat) : Int) = (m : Int) + 1 by omega]
    exact (touch_setCell (w := w1) (i := 2) (v := .int .i64 ((m : Int) + 1)) Hr1.out).1
  have hB2 : But g w W2 := by rw [← hW]; exact Hb1.out.trans (But.touch (touch_setCell (w := w1) (i := 2) (v := .int .i64 ((m : Int) + 1)) Hr1.out).2)
  have Hm' := Lib.hid hm'
  have hm9 : m' ≤ 1001 := by omega
  have HR2 := Lib.hid hR2
  have HB2 := Lib.hid hB2
  have HC2 := Lib.hid (Hc.out.but hB2)
  have k2 : W2.cell? ⟨g, 2, none⟩ = some (.int .i64 (m' : Int)) := cell_block hR2 2
  clear hW hR2 hB2 hm' z2 ww1
  by_cases hl : 200 < m'
  · have HX2 : Hid (X = .bad 2) := Lib.hid (by rw [← HX.out, beginP_eq Hsk.out]; exact beginC_large HS.out (by rw [Hm'.out]; exact hl))
    have p1 : (200 : Int) < (m' : Int) := by omega
    clear HX hl
    go_wp2_with fail
    refine (fail_any g s i m' vst 0 2 W2 HR2.out).mono ?_
    rintro E w3 ⟨rfl, hr, hbt⟩
    have hr' : RdAt g s i m' vst 2 w3 := hr
    have k4 : w3.cell? ⟨g, 4, none⟩ = some (.int .i64 2) := cell_block hr' 4
    have Hr := Lib.hid hr'
    have Hbt := Lib.hid (HB2.out.trans hbt)
    clear hr hr' hbt
    go_wp2_with fail
    go_ret2
    exact outE_of (out_bad HX2.out (by decide) Hr.out (below_but Hbt.out hgw))
  have p1 : ¬ (200 : Int) < (m' : Int) := by omega
  have Hl : Hid (¬ 200 < m + 1) := Lib.hid (by rw [Hm'.out]; exact hl)
  clear hl
  have k4 : W2.cell? ⟨g, 4, none⟩ = some (.int .i64 0) := cell_block HR2.out 4
  have HX2 : Hid (X = JP.plainP c (s.data.toList.drop i) m' st) := Lib.hid (by rw [← HX.out, beginP_eq Hsk.out, beginC_plain HS.out Hl.out Hne.out.1 Hne.out.2, Hm'.out, Hdi.out])
  obtain ⟨hil, _⟩ := drop_in Hdi.out
  have hci : s[i] = c := by have h9 := Hdi.out; rw [drop_at hil] at h9; exact (List.cons.inj h9).1
  have hp := plain_any g s i m' vst fs T st W2 HR2.out HC2.out hil hs
  rw [hci, Hzc.out, ← HX2.out] at hp
  have HP := Lib.hid hp
  clear hp hci HX HX2
  go_wp2_with fail
  refine HP.out.mono ?_
  rintro E w3 ⟨v, rfl, ho⟩
  have HO := Lib.hid ho
  clear ho
  go_wp2_with fail
  go_ret2
  exact outE_of ⟨(below_but HB2.out hgw).trans HO.out.1, HO.out.2⟩
set_option maxRecDepth 100000 in
set_option maxHeartbeats 12800000 in
theorem begin_any (g : Nat) (s : ByteArray) (a m : Nat) (vst : Value) (fs : List GF) (T : List Nat) (st : List Fr) (w : World) (h : RdAt g s a m vst 0 w) (hc : Core g T w vst fs st) (ha : a ≤ s.size) (hs : s.size ≤ 1048576) (hm : m ≤ 1000) (hst : st.length ≤ 10)  :
    Calls Tryd.prog 44 #[.pointer (some ⟨g, 0, none⟩)] w (OutE g s w (JP.beginP (s.data.toList.drop a) m st)) := by
  cases hk : JP.skip (s.data.toList.drop a) with
  | nil => exact begin_none g s a m vst fs T st w h hc ha hs hm hst hk
  | cons c t =>
    by_cases h1 : c.toNat = 91
    · rw [u8_eq (a := c) (b := 91) h1] at hk
      exact begin_list g s a m vst fs T st w h hc ha hs hm hst t hk
    · by_cases h2 : c.toNat = 123
      · rw [u8_eq (a := c) (b := 123) h2] at hk
        exact begin_obj g s a m vst fs T st w h hc ha hs hm hst t hk
      · exact begin_other g s a m vst fs T st w h hc ha hs hm hst c t hk h1 h2
end Go.Proofs.YtaddcchpidpbfaaDoor
