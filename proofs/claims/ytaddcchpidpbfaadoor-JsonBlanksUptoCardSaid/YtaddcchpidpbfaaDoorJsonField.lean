/- json: the reader's field. -/
import Derived.Test.YtaddcchpidpbfaaDoorJsonTurn
namespace Go.Proofs.YtaddcchpidpbfaaDoor
open Go.RowKit
open JP (JV Bs Fr)

def FieldAt (g : Nat) (s : ByteArray) (w : World) (x : JP.R) (e : Ending) (w' : World) : Prop := e = .returned (.tuple #[]) ∧ Below g w w' ∧ match x with
  | .bad er => RBad g s er w'
  | .more r m st => RS g s r m st none w'
  | .whole _ _ _ _ => False
theorem field_bad {g : Nat} {s : ByteArray} {w w' : World} {x : JP.R} {a m : Nat} {vst : Value} {er : Int} (hx : x = .bad er) (h0 : er ≠ 0) (h : RdAt g s a m vst er w') (hb : Below g w w') : FieldAt g s w x (.returned (.tuple #[])) w' := by
  subst hx; exact ⟨rfl, hb, rbad_of h h0⟩
theorem field_more {g : Nat} {s : ByteArray} {w w' : World} {x : JP.R} {r : Bs} {m : Nat} {st : List Fr} (hx : x = .more r m st) (h : RS g s r m st none w') (hb : Below g w w') : FieldAt g s w x (.returned (.tuple #[])) w' := by
  subst hx; exact ⟨rfl, hb, h⟩
theorem fieldP_no {r : Bs} {m : Nat} {d : List (Bs × JV)} {st : List Fr} (h : hdN (JP.skip r) ≠ 34) : JP.fieldP r m d st = .bad 3 := by
  unfold JP.fieldP
  cases hs : JP.skip r with
  | nil => rfl
  | cons c t =>
    rw [hs] at h
    dsimp only
    rw [if_neg (fun e => h (by rw [e]; rfl))]
theorem fieldP_yes {r t : Bs} {m : Nat} {d : List (Bs × JV)} {st : List Fr} (h : JP.skip r = 34 :: t) : JP.fieldP r m d st = match JP.textP t with
      | none => .bad 3
      | some x => JP.fieldN r m d st x.1 x.2 := by
  unfold JP.fieldP
  rw [h]
  dsimp only
  rw [if_pos rfl]
  cases JP.textP t <;> rfl
theorem hd_zero {l : Bs} {c : UInt8} (hc : c ≠ 0) (h : hdN l = (c.toNat : Int)) : ∃ t, l = c :: t := by
  cases l with
  | nil =>
    have h9 : (0 : Int) = (c.toNat : Int) := h
    exact absurd (UInt8.toNat_inj.1 (show c.toNat = (0 : UInt8).toNat from by have : (0 : UInt8).toNat = 0 := rfl; omega)) hc
  | cons x t =>
    have h9 : (x.toNat : Int) = (c.toNat : Int) := h
    exact ⟨t, by rw [u8_eq (a := x) (b := c) (by omega)]⟩
theorem fieldN_more {r t t' n : Bs} {m : Nat} {d : List (Bs × JV)} {st : List Fr} (h : (JP.get n d).isSome = false) (h2 : JP.skip t = 58 :: t') : JP.fieldN r m d st n t = .more t' m (.ob d n :: st) := by
  unfold JP.fieldN
  rw [if_neg (by rw [h]; decide), h2]
  dsimp only
  rw [if_pos rfl]
theorem fieldN_bad {r t n : Bs} {m : Nat} {d : List (Bs × JV)} {st : List Fr} (h : (JP.get n d).isSome = false) (h2 : hdN (JP.skip t) ≠ 58) : JP.fieldN r m d st n t = .bad 3 := by
  unfold JP.fieldN
  rw [if_neg (by rw [h]; decide)]
  cases hs : JP.skip t with
  | nil => rfl
  | cons c q =>
    rw [hs] at h2
    dsimp only
    rw [if_neg (fun e => h2 (by rw [e]; rfl))]
theorem drop_in {s : ByteArray} {i : Nat} {c : UInt8} {t : Bs} (h : s.data.toList.drop i = c :: t) : i < s.size ∧ s.data.toList.drop (i + 1) = t := by
  have hil : i < s.size := by
    rcases Nat.lt_or_ge i s.size with h1 | h1
    · exact h1
    · rw [drop_end h1] at h; cases h
  rw [drop_at hil] at h
  exact ⟨hil, (List.cons.inj h).2⟩
set_option maxRecDepth 100000 in
set_option maxHeartbeats 12800000 in
theorem field_any (g : Nat) (s : ByteArray) (a m : Nat) (vst : Value) (f : GF) (fs : List GF) (T : List Nat) (d : List (Bs × JV)) (nm0 : Bs) (st : List Fr) (w : World) (h : RdAt g s a m vst 0 w) (hc : Core g T w vst (f :: fs) (.ob d nm0 :: st)) (ha : a ≤ s.size) (hs : s.size ≤ 1048576) (hd : d.length ≤ 1048576) (hfl : fs.length ≤ 1048576) :
    Calls Tryd.prog 63 #[.pointer (some ⟨g, 0, none⟩)] w (FieldAt g s w (JP.fieldP (s.data.toList.drop a) m d st)) := by
  have hgw := h.lt
  have H := Lib.hid h
  have Hc := Lib.hid hc
  obtain ⟨X, HX⟩ : ∃ X, Hid (JP.fieldP (s.data.toList.drop a) m d st = X) := ⟨_, Lib.hid rfl⟩
  rw [HX.out]
  clear h hc
  obtain ⟨z, hz⟩ : ∃ z, hdN (JP.skip (s.data.toList.drop a)) = z := ⟨_, rfl⟩
  have HN := Lib.hid (next_any g s a m vst 0 w H.out ha hs)
  rw [hz] at HN
  have Hz := Lib.hid hz
  clear hz
  go_enter Tryd.func63, Tryd.ntmps63
  go_wp2_with fail
  refine HN.out.mono ?_
  rintro E w1 ⟨rfl, ⟨i, hi, hdi, hr⟩, hb⟩
  have Hr1 := Lib.hid hr
  have Hb1 := Lib.hid hb
  have Hdi := Lib.hid hdi
  have Hc1 := Lib.hid (Hc.out.but hb)
  clear hr hb hdi
  by_cases h34 : z = 34
  · subst h34
    obtain ⟨t, ht⟩ := hd_zero (c := 34) (by decide) Hz.out
    have hil : i < s.size := by
      rcases Nat.lt_or_ge i s.size with h | h
      · exact h
      · have := Hdi.out; rw [ht, drop_end h] at this; cases this
    have hdt : s.data.toList.drop (i + 1) = t := by
      have := Hdi.out
      rw [ht, drop_at hil] at this
      exact (List.cons.inj this).2
    have HX2 : Hid (X = match JP.textP (s.data.toList.drop (i + 1)) with
      | none => .bad 3
      | some x => JP.fieldN (s.data.toList.drop a) m d st x.1 x.2) := Lib.hid (by rw [← HX.out, fieldP_yes ht, hdt])
    clear ht hdt HN
    go_wp2_with fail
    refine (rtext_any g s i m vst w1 Hr1.out hil hs).mono ?_
    intro E w2 htx
    have hb2 := htx.1
    have hcore := Hc1.out.but hb2
    obtain ⟨sb, c, cur, htop⟩ := hcore.top
    obtain ⟨hlv, hpv, hfr, hrest⟩ : f.lv = .slice none 0 0 ∧ f.nm = mkB nm0 ∧ (∃ n q, f.pv = .pointer (some ⟨q, 0, none⟩) ∧ ObR (JvR n T) T w2 q d) ∧ AllFr (g + 1) T w2 fs st := by
      have h1 := hcore.all
      obtain ⟨⟨k1, k2, n, q, k3, k4⟩, k5⟩ := h1
      exact ⟨k1, k2, ⟨n, q, k3, k4⟩, k5⟩
    obtain ⟨nn, q, hpq, hob⟩ := hfr
    obtain ⟨tv, tl, tr, tm, ta, ts, t0, t1, t2⟩ := htop
    rw [hpq] at t1
    have Hcore := Lib.hid hcore
    have Htop : Hid (Top g w2 vst f fs.length sb c cur) := Lib.hid ⟨tv, tl, tr, tm, ta, ts, t0, by rw [hpq]; exact t1, t2⟩
    have Hob := Lib.hid hob
    have Hb2 := Lib.hid (Hb1.out.trans hb2)
    have Hrest := Lib.hid hrest
    have Hlv := Lib.hid hlv
    have Hpq := Lib.hid hpq
    obtain ⟨n, hn⟩ : ∃ n, fs.length = n := ⟨_, rfl⟩
    have Hn := Lib.hid hn
    rw [hn] at tv tr t0 t1 t2 hfl
    have hsb : sb < w2.heap.size := blk_lt ta
    have y1 : w2.cell? ⟨sb, n * 3 + 1, none⟩ = some (.pointer (some ⟨q, 0, none⟩)) := (cell_block ta _).trans t1
    have y2 : w2.cell? ⟨sb, n * 3 + 2, none⟩ = some (.string f.nm) := (cell_block ta _).trans t2
    have Y2 := Lib.hid y2
    have hsg : sb ≠ g := by omega
    have hgs : g ≤ sb := by omega
    have q1 : (0 : Int) ≤ ((n + 1 : Nat) : Int) - 1 := by omega
    have q2 : (((n + 1 : Nat) : Int) - 1).toNat = n := by omega
    have q3 : ((n + 1 : Nat) : Int) - 1 < ((n + 1 : Nat) : Int) := by omega
    have v1 : IntKind.i64.wrap (((n + 1 : Nat) : Int) - 1) = (n : Int) := by rw [IntWalk.i64_in _ (by omega)]; omega
    have v2 : IntKind.i64.wrap (n : Int) = (n : Int) := IntWalk.i64_in _ (by omega)
    have q4 : (n : Int) < (n : Int) + 1 := by omega
    have q5 : (0 : Int) ≤ (n : Int) := by omega
    have Ta := Lib.hid ta
    subst tv
    clear hb2 hcore hob hrest hlv hpq hpv ta ts t0 t1 t2 tl hn y2
    rcases htx with ⟨_, (⟨x, hx, rfl, i2, hi2, hd2, hr2⟩ | ⟨hx, rfl, i2, hi2, hr2⟩)⟩
    · have HX3 : Hid (X = JP.fieldN (s.data.toList.drop a) m d st x.1 x.2) := Lib.hid (by rw [HX2.out, hx])
      have k3 : w2.cell? ⟨g, 3, none⟩ = some (.slice (some ⟨sb, 0, none⟩) (n + 1) c) := cell_block hr2 3
      have k1 : w2.cell? ⟨g, 1, none⟩ = some (.int .i64 (i2 : Int)) := cell_block hr2 1
      have Hr2 := Lib.hid hr2
      have Hd2 := Lib.hid hd2
      have HG := Lib.hid (fun w' (hk : ∃ j, w' = w2.drewN j) => get_any (x := x.1) (w := w') (by obtain ⟨j, rfl⟩ := hk; exact Hob.out.keepJ (KeepT.drewN w2 j)) hd)
      clear hx hr2 hd2 HX2
      go_wp2_with fail
      go_quiet (fail)
      go_wp2_with fail
      refine (HG.out _ ⟨_, rfl⟩).mono ?_
      rintro E w3 ⟨vg, rfl, _, _, k, rfl⟩
      obtain ⟨hs9, HS9⟩ : ∃ b, Hid ((JP.get x.1 d).isSome = b) := ⟨_, Lib.hid rfl⟩
      rw [HS9.out]
      cases hs9 with
      | true =>
        have HX4 : Hid (X = .bad 5) := Lib.hid (by rw [HX3.out]; unfold JP.fieldN; rw [if_pos HS9.out])
        clear HX3 HG
        go_wp2_with fail
        refine (fail_any g s i2 m (.slice (some ⟨sb, 0, none⟩) (n + 1) c) 0 5 _ (Hr2.out.drew _)).mono ?_
        rintro E w4 ⟨rfl, hr, hbt⟩
        have hr' : RdAt g s i2 m (.slice (some ⟨sb, 0, none⟩) (n + 1) c) 5 w4 := hr
        have hbt' : But g w2 w4 := ((But.refl g w2).drew _).trans hbt
        have k1 : w4.cell? ⟨g, 1, none⟩ = some (.int .i64 (i2 : Int)) := cell_block hr' 1
        have z1 : w4.frozen? ⟨g, 1, none⟩ = false := free_block hr' 1
        have k4 : w4.cell? ⟨g, 4, none⟩ = some (.int .i64 5) := cell_block hr' 4
        have HRx := Lib.hid hr'
        have HTa := Lib.hid (hbt'.keep Ta.out hsg)
        have HY2 : Hid (w4.cell? ⟨sb, n * 3 + 2, none⟩ = some (.string f.nm)) := Lib.hid ((hbt'.cell (p := ⟨sb, _, none⟩) hsb hsg).trans Y2.out)
        have HB4 := Lib.hid (Hb2.out.trans hbt')
        clear hr hr' hbt hbt' y1
        go_upto_region 10 with fail
        generalize hW : World.setCell _ ⟨g, 1, none⟩ _ = W
        have hRW : RdAt g s (i2 + 1) m (.slice (some ⟨sb, 0, none⟩) (n + 1) c) 5 W := by rw [← hW]; exact RdAt.cast (touch_setCell (w := w4) (i := 1) (v := .int .i64 ((i2 : Int) + 1)) HRx.out).1 (by omega)
        have hBW : But g w4 W := by rw [← hW]; exact But.touch (touch_setCell (w := w4) (i := 1) (v := .int .i64 ((i2 : Int) + 1)) HRx.out).2
        have hTW := hBW.keep HTa.out hsg
        have y2 : W.cell? ⟨sb, n * 3 + 2, none⟩ = some (.string f.nm) := (cell_block hTW _).trans ((cell_block HTa.out _).symm.trans HY2.out)
        have z2 : W.frozen? ⟨sb, n * 3 + 2, none⟩ = false := free_block hTW _
        have HRW := Lib.hid hRW
        have HBW := Lib.hid hBW
        have HTW := Lib.hid hTW
        clear hW hRW hBW hTW
        go_wp2_with fail
        go_end0
        exact field_bad HX4.out (by decide) ((touch_setCell (w := W) (i := n * 3 + 2) (v := .string (mkB x.1)) HTW.out).2.other g (fun e => hsg e.symm) |>.trans HRW.out) ((touch_setCell (w := W) (i := n * 3 + 2) (v := .string (mkB x.1)) HTW.out).2.below (below_but (HB4.out.trans HBW.out) hgw) hgs)
      | false =>
        have HN2 := Lib.hid (fun w' (hk : ∃ j, w' = w2.drewN j) => next_any g s i2 m (.slice (some ⟨sb, 0, none⟩) (n + 1) c) 0 w' (by obtain ⟨j, rfl⟩ := hk; exact Hr2.out.drew j) hi2 hs)
        obtain ⟨z2, hz2⟩ : ∃ z, hdN (JP.skip (s.data.toList.drop i2)) = z := ⟨_, rfl⟩
        rw [hz2] at HN2
        have k4 : w2.cell? ⟨g, 4, none⟩ = some (.int .i64 0) := cell_block Hr2.out 4
        have Hz2 := Lib.hid hz2
        clear hz2
        go_wp2_with fail
        refine (HN2.out _ ⟨_, rfl⟩).mono ?_
        rintro E w4 ⟨rfl, ⟨i3, hi3, hdi3, hr⟩, hbt⟩
        have Hr4 := Lib.hid hr
        have Hbt : Hid (But g w2 w4) := Lib.hid (((But.refl g w2).drew _).trans hbt)
        have Hd4 := Lib.hid hdi3
        clear hr hbt hdi3 HN2 HG
        by_cases h58 : z2 = 58
        · subst h58
          obtain ⟨t2, ht2⟩ := hd_zero (c := 58) (by decide) Hz2.out
          obtain ⟨hi3l, hd3⟩ := drop_in (Hd4.out.trans ht2)
          have HX4 : Hid (X = .more (s.data.toList.drop (i3 + 1)) m (.ob d x.1 :: st)) := Lib.hid (by rw [HX3.out, hd3]; exact fieldN_more HS9.out (by rw [← Hd2.out]; exact ht2))
          clear ht2 hd3 HX3
          have n58 : ((58 : Int) != 58) = false := by decide
          have k1 : w4.cell? ⟨g, 1, none⟩ = some (.int .i64 (i3 : Int)) := cell_block Hr4.out 1
          have z1 : w4.frozen? ⟨g, 1, none⟩ = false := free_block Hr4.out 1
          have HRx := Hr4
          have HTa := Lib.hid (Hbt.out.keep Ta.out hsg)
          have HY2 : Hid (w4.cell? ⟨sb, n * 3 + 2, none⟩ = some (.string f.nm)) := Lib.hid ((Hbt.out.cell (p := ⟨sb, _, none⟩) hsb hsg).trans Y2.out)
          have HB4 := Lib.hid (Hb2.out.trans Hbt.out)
          have HC4 := Lib.hid (Hcore.out.but Hbt.out)
          clear Hr4
          go_upto_region 10 with fail
          generalize hW : World.setCell _ ⟨g, 1, none⟩ _ = W
          have hRW : RdAt g s (i3 + 1) m (.slice (some ⟨sb, 0, none⟩) (n + 1) c) 0 W := by rw [← hW]; exact RdAt.cast (touch_setCell (w := w4) (i := 1) (v := .int .i64 ((i3 : Int) + 1)) HRx.out).1 (by omega)
          have hBW : But g w4 W := by rw [← hW]; exact But.touch (touch_setCell (w := w4) (i := 1) (v := .int .i64 ((i3 : Int) + 1)) HRx.out).2
          have hTW := hBW.keep HTa.out hsg
          have y2 : W.cell? ⟨sb, n * 3 + 2, none⟩ = some (.string f.nm) := (cell_block hTW _).trans ((cell_block HTa.out _).symm.trans HY2.out)
          have z2 : W.frozen? ⟨sb, n * 3 + 2, none⟩ = false := free_block hTW _
          have HRW := Lib.hid hRW
          have HBW := Lib.hid hBW
          have HTW := Lib.hid hTW
          clear hW hRW hBW hTW
          go_wp2_with fail
          go_end0
          obtain ⟨u1, u2⟩ := touch_setCell (w := W) (i := n * 3 + 2) (v := .string (mkB x.1)) HTW.out
          have hTop : Top g W (.slice (some ⟨sb, 0, none⟩) (n + 1) c) f fs.length sb c cur := { Htop.out with at_ := HTW.out }
          have hC := HC4.out.but HBW.out
          refine field_more HX4.out ⟨i3 + 1, _, ⟨f.lv, f.pv, mkB x.1⟩ :: fs, T, by omega, rfl, (u2.other g (fun e => hsg e.symm)).trans HRW.out, core_turn (k := 2) (u := .string (mkB x.1)) hC hTop (by decide) (by rw [Hn.out]; exact u1) u2 rfl rfl rfl hC.ones (fun b hb => absurd hb (by rw [Hlv.out]; intro h; cases h)) ?_, trivial⟩ (u2.below (below_but (HB4.out.trans HBW.out) hgw) hgs)
          exact ⟨Hlv.out, rfl, nn, q, Hpq.out, Hob.out.keepJ ((KeepT.but Hbt.out HC4.out.gT).trans ((KeepT.but HBW.out HC4.out.gT).trans (KeepT.touch u2 (HC4.out.vT sb rfl))))⟩
        · have n58 : (z2 != 58) = true := by rw [bne_iff_ne]; exact h58
          have n58' : (z2 == 58) = false := by rw [beq_eq_false_iff_ne]; exact h58
          have HX4 : Hid (X = .bad 3) := Lib.hid (by rw [HX3.out]; exact fieldN_bad HS9.out (by rw [← Hd2.out, Hz2.out]; exact h58))
          clear h58 HX3
          go_wp2_with fail
          refine (fail_any g s i3 m (.slice (some ⟨sb, 0, none⟩) (n + 1) c) 0 3 w4 Hr4.out).mono ?_
          rintro E w5 ⟨rfl, hr, hbt⟩
          have hr' : RdAt g s i3 m (.slice (some ⟨sb, 0, none⟩) (n + 1) c) 3 w5 := hr
          have hbt' : But g w2 w5 := Hbt.out.trans hbt
          have k1 : w5.cell? ⟨g, 1, none⟩ = some (.int .i64 (i3 : Int)) := cell_block hr' 1
          have z1 : w5.frozen? ⟨g, 1, none⟩ = false := free_block hr' 1
          have HRx := Lib.hid hr'
          have HTa := Lib.hid (hbt'.keep Ta.out hsg)
          have HY2 : Hid (w5.cell? ⟨sb, n * 3 + 2, none⟩ = some (.string f.nm)) := Lib.hid ((hbt'.cell (p := ⟨sb, _, none⟩) hsb hsg).trans Y2.out)
          have HB4 := Lib.hid (Hb2.out.trans hbt')
          clear hr hr' hbt hbt' Hr4
          go_upto_region 10 with fail
          generalize hW : World.setCell _ ⟨g, 1, none⟩ _ = W
          have hRW : RdAt g s (i3 + 1) m (.slice (some ⟨sb, 0, none⟩) (n + 1) c) 3 W := by rw [← hW]; exact RdAt.cast (touch_setCell (w := w5) (i := 1) (v := .int .i64 ((i3 : Int) + 1)) HRx.out).1 (by omega)
          have hBW : But g w5 W := by rw [← hW]; exact But.touch (touch_setCell (w := w5) (i := 1) (v := .int .i64 ((i3 : Int) + 1)) HRx.out).2
          have hTW := hBW.keep HTa.out hsg
          have y2 : W.cell? ⟨sb, n * 3 + 2, none⟩ = some (.string f.nm) := (cell_block hTW _).trans ((cell_block HTa.out _).symm.trans HY2.out)
          have z2 : W.frozen? ⟨sb, n * 3 + 2, none⟩ = false := free_block hTW _
          have HRW := Lib.hid hRW
          have HBW := Lib.hid hBW
          have HTW := Lib.hid hTW
          clear hW hRW hBW hTW
          go_wp2_with fail
          go_end0
          exact field_bad HX4.out (by decide) ((touch_setCell (w := W) (i := n * 3 + 2) (v := .string (mkB x.1)) HTW.out).2.other g (fun e => hsg e.symm) |>.trans HRW.out) ((touch_setCell (w := W) (i := n * 3 + 2) (v := .string (mkB x.1)) HTW.out).2.below (below_but (HB4.out.trans HBW.out) hgw) hgs)
    · have HX4 : Hid (X = .bad 3) := Lib.hid (by rw [HX2.out, hx])
      have k3 : w2.cell? ⟨g, 3, none⟩ = some (.slice (some ⟨sb, 0, none⟩) (n + 1) c) := cell_block hr2 3
      have k1 : w2.cell? ⟨g, 1, none⟩ = some (.int .i64 (i2 : Int)) := cell_block hr2 1
      have k4 : w2.cell? ⟨g, 4, none⟩ = some (.int .i64 3) := cell_block hr2 4
      have z1 : w2.frozen? ⟨g, 1, none⟩ = false := free_block hr2 1
      have Hr2 := Lib.hid hr2
      have HG := Lib.hid (fun w' (hk : ∃ j, w' = w2.drewN j) => get_any (x := []) (w := w') (by obtain ⟨j, rfl⟩ := hk; exact Hob.out.keepJ (KeepT.drewN w2 j)) hd)
      clear hx hr2 HX2
      go_wp2_with fail
      go_quiet (fail)
      go_wp2_with fail
      refine (HG.out _ ⟨_, rfl⟩).mono ?_
      rintro E w3 ⟨vg, rfl, _, _, k, rfl⟩
      obtain ⟨hs9, HS9⟩ : ∃ b, Hid ((JP.get [] d).isSome = b) := ⟨_, Lib.hid rfl⟩
      rw [HS9.out]
      cases hs9 with
      | true =>
        clear HG
        go_wp2_with fail
        refine (fail_any g s i2 m (.slice (some ⟨sb, 0, none⟩) (n + 1) c) 3 5 _ (Hr2.out.drew _)).mono ?_
        rintro E w4 ⟨rfl, hr, hbt⟩
        have hr' : RdAt g s i2 m (.slice (some ⟨sb, 0, none⟩) (n + 1) c) 3 w4 := hr
        have hbt' : But g w2 w4 := ((But.refl g w2).drew _).trans hbt
        have k1 : w4.cell? ⟨g, 1, none⟩ = some (.int .i64 (i2 : Int)) := cell_block hr' 1
        have z1 : w4.frozen? ⟨g, 1, none⟩ = false := free_block hr' 1
        have k4 : w4.cell? ⟨g, 4, none⟩ = some (.int .i64 3) := cell_block hr' 4
        have HRx := Lib.hid hr'
        have HTa := Lib.hid (hbt'.keep Ta.out hsg)
        have HY2 : Hid (w4.cell? ⟨sb, n * 3 + 2, none⟩ = some (.string f.nm)) := Lib.hid ((hbt'.cell (p := ⟨sb, _, none⟩) hsb hsg).trans Y2.out)
        have HB4 := Lib.hid (Hb2.out.trans hbt')
        clear hr hr' hbt hbt' y1
        go_upto_region 10 with fail
        generalize hW : World.setCell _ ⟨g, 1, none⟩ _ = W
        have hRW : RdAt g s (i2 + 1) m (.slice (some ⟨sb, 0, none⟩) (n + 1) c) 3 W := by rw [← hW]; exact RdAt.cast (touch_setCell (w := w4) (i := 1) (v := .int .i64 ((i2 : Int) + 1)) HRx.out).1 (by omega)
        have hBW : But g w4 W := by rw [← hW]; exact But.touch (touch_setCell (w := w4) (i := 1) (v := .int .i64 ((i2 : Int) + 1)) HRx.out).2
        have hTW := hBW.keep HTa.out hsg
        have y2 : W.cell? ⟨sb, n * 3 + 2, none⟩ = some (.string f.nm) := (cell_block hTW _).trans ((cell_block HTa.out _).symm.trans HY2.out)
        have z2 : W.frozen? ⟨sb, n * 3 + 2, none⟩ = false := free_block hTW _
        have HRW := Lib.hid hRW
        have HBW := Lib.hid hBW
        have HTW := Lib.hid hTW
        clear hW hRW hBW hTW
        go_wp2_with fail
        go_end0
        exact field_bad HX4.out (by decide) ((touch_setCell (w := W) (i := n * 3 + 2) (v := .string ByteArray.empty) HTW.out).2.other g (fun e => hsg e.symm) |>.trans HRW.out) ((touch_setCell (w := W) (i := n * 3 + 2) (v := .string ByteArray.empty) HTW.out).2.below (below_but (HB4.out.trans HBW.out) hgw) hgs)
      | false =>
        have HRx := Hr2
        have HTa := Ta
        have HY2 := Y2
        have HB4 := Hb2
        clear HG
        go_upto_region 10 with fail
        generalize hW : World.setCell _ ⟨g, 1, none⟩ _ = W
        have hRW : RdAt g s (i2 + 1) m (.slice (some ⟨sb, 0, none⟩) (n + 1) c) 3 W := by rw [← hW]; exact RdAt.cast (touch_setCell (w := w2.drewN _) (i := 1) (v := .int .i64 ((i2 : Int) + 1)) HRx.out).1 (by omega)
        have hBW : But g w2 W := by rw [← hW]; exact ((But.refl g w2).drew _).trans <| But.touch (touch_setCell (w := w2.drewN _) (i := 1) (v := .int .i64 ((i2 : Int) + 1)) HRx.out).2
        have hTW := hBW.keep HTa.out hsg
        have y2 : W.cell? ⟨sb, n * 3 + 2, none⟩ = some (.string f.nm) := (cell_block hTW _).trans ((cell_block HTa.out _).symm.trans HY2.out)
        have z2 : W.frozen? ⟨sb, n * 3 + 2, none⟩ = false := free_block hTW _
        have HRW := Lib.hid hRW
        have HBW := Lib.hid hBW
        have HTW := Lib.hid hTW
        clear hW hRW hBW hTW
        go_wp2_with fail
        go_end0
        exact field_bad HX4.out (by decide) ((touch_setCell (w := W) (i := n * 3 + 2) (v := .string ByteArray.empty) HTW.out).2.other g (fun e => hsg e.symm) |>.trans HRW.out) ((touch_setCell (w := W) (i := n * 3 + 2) (v := .string ByteArray.empty) HTW.out).2.below (below_but (HB4.out.trans HBW.out) hgw) hgs)
  · have n34 : (z != 34) = true := by rw [bne_iff_ne]; exact h34
    have n34' : (z == 34) = false := by rw [beq_eq_false_iff_ne]; exact h34
    have HX2 : Hid (X = .bad 3) := Lib.hid (by rw [← HX.out]; exact fieldP_no (by rw [Hz.out]; exact h34))
    clear h34 HN
    go_wp2_with fail
    refine (fail_any g s i m vst 0 3 w1 Hr1.out).mono ?_
    rintro E w2 ⟨rfl, hr, hbt⟩
    have Hr := Lib.hid hr
    have Hbt := Lib.hid (Hb1.out.trans hbt)
    clear hr hbt
    go_wp2_with fail
    go_end0
    exact field_bad HX2.out (by decide) Hr.out (below_but Hbt.out hgw)
end Go.Proofs.YtaddcchpidpbfaaDoor
