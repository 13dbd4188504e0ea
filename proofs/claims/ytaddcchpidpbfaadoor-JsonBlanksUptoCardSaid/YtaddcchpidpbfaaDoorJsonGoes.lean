/- json: the reader goes on within an object. -/
import Derived.Test.YtaddcchpidpbfaaDoorJsonBegin
import Derived.Test.YtaddcchpidpbfaaDoorRel
namespace Go.Proofs.YtaddcchpidpbfaaDoor
open Go.RowKit
open JP (JV Bs Fr)

theorem below_drew1j (w : World) : Below w.heap.size w w.drew := ⟨rfl, rfl, rfl, Nat.le_refl _, fun _ _ => rfl⟩
theorem ObR.upsJ {n m : Nat} {T : List Nat} {w : World} {q : Nat} {d : List (Bs × JV)} (h : ObR (JvR n T) T w q d) (hm : n ≤ m) : ObR (JvR m T) T w q d := by
  have : JvAt (n + 1) T w (.iface 83 (.pointer (some ⟨q, 0, none⟩))) (.obj d) := ⟨q, rfl, h⟩
  obtain ⟨q', e, h'⟩ := this.ups (m := m + 1) (by omega)
  have : q' = q := by injection e with _ e; injection e with e; injection e with e; injection e with e; exact e.symm
  subst this
  exact h'
theorem putN_len (n : Bs) (v : JV) : ∀ d : List (Bs × JV), (JP.put n v d).length ≤ d.length + 1
  | [] => Nat.le_refl _
  | (k, x) :: r => by
    have ih := putN_len n v r
    unfold JP.put
    split
    · simp only [List.length_cons]; omega
    · split
      · simp only [List.length_cons]; omega
      · simp only [List.length_cons]; omega
theorem goes_ob_close {v : JV} {r t : Bs} {m : Nat} {d : List (Bs × JV)} {n : Bs} {st : List Fr} (h : JP.skip r = 125 :: t) : JP.goesP v r m (.ob d n) st = .whole (.obj (JP.put n v d)) t m st := by
  unfold JP.goesP
  rw [h]
  dsimp only
  rw [if_pos rfl]
theorem goes_ob_more {v : JV} {r t : Bs} {m : Nat} {d : List (Bs × JV)} {n : Bs} {st : List Fr} (h : JP.skip r = 44 :: t) : JP.goesP v r m (.ob d n) st = JP.fieldP t m (JP.put n v d) st := by
  unfold JP.goesP
  rw [h]
  dsimp only
  rw [if_neg (by decide), if_pos rfl]
theorem goes_ob_bad {v : JV} {r : Bs} {m : Nat} {d : List (Bs × JV)} {n : Bs} {st : List Fr} (h : hdN (JP.skip r) ≠ 125) (h2 : hdN (JP.skip r) ≠ 44) : JP.goesP v r m (.ob d n) st = .bad 3 := by
  unfold JP.goesP
  cases hs : JP.skip r with
  | nil => rfl
  | cons c t =>
    rw [hs] at h h2
    dsimp only
    rw [if_neg (fun e => h (by rw [e]; rfl)), if_neg (fun e => h2 (by rw [e]; rfl))]
theorem goes_l_close {v : JV} {r t : Bs} {m : Nat} {d : List JV} {st : List Fr} (h : JP.skip r = 93 :: t) : JP.goesP v r m (.lst d) st = .whole (.list (d ++ [v])) t m st := by
  unfold JP.goesP
  rw [h]
  dsimp only
  rw [if_pos rfl]
theorem goes_l_more {v : JV} {r t : Bs} {m : Nat} {d : List JV} {st : List Fr} (h : JP.skip r = 44 :: t) : JP.goesP v r m (.lst d) st = .more t m (.lst (d ++ [v]) :: st) := by
  unfold JP.goesP
  rw [h]
  dsimp only
  rw [if_neg (by decide), if_pos rfl]
theorem goes_l_bad {v : JV} {r : Bs} {m : Nat} {d : List JV} {st : List Fr} (h : hdN (JP.skip r) ≠ 93) (h2 : hdN (JP.skip r) ≠ 44) : JP.goesP v r m (.lst d) st = .bad 3 := by
  unfold JP.goesP
  cases hs : JP.skip r with
  | nil => rfl
  | cons c t =>
    rw [hs] at h h2
    dsimp only
    rw [if_neg (fun e => h (by rw [e]; rfl)), if_neg (fun e => h2 (by rw [e]; rfl))]
set_option maxRecDepth 100000 in
set_option maxHeartbeats 12800000 in
theorem goes_ob (g : Nat) (s : ByteArray) (a m : Nat) (vst : Value) (f : GF) (fs : List GF) (T : List Nat) (d : List (Bs × JV)) (nm : Bs) (st : List Fr) (w : World) (v : Value) (y : JV) (nv : Nat) (h : RdAt g s a m vst 0 w) (hc : Core g T w vst (f :: fs) (.ob d nm :: st)) (hv : JvAt nv T w v y) (ha : a ≤ s.size) (hs : s.size ≤ 1048576) (hd : d.length ≤ 1048574) (hfl : fs.length ≤ 1048576) :
    Calls Tryd.prog 47 #[.pointer (some ⟨g, 0, none⟩), v] w (OutE g s w (JP.goesP y (s.data.toList.drop a) m (.ob d nm) st)) := by
  have hgw := h.lt
  have H := Lib.hid h
  have Hc := Lib.hid hc
  obtain ⟨X, HX⟩ : ∃ X, Hid (JP.goesP y (s.data.toList.drop a) m (.ob d nm) st = X) := ⟨_, Lib.hid rfl⟩
  rw [HX.out]
  clear h hc
  obtain ⟨sb, c, cur, htop⟩ := Hc.out.top
  obtain ⟨tv, tl, tr, tm, ta, ts, t0, t1, t2⟩ := htop
  have Htop : Hid (Top g w vst f fs.length sb c cur) := Lib.hid ⟨tv, tl, tr, tm, ta, ts, t0, t1, t2⟩
  obtain ⟨n, hn⟩ : ∃ n, fs.length = n := ⟨_, rfl⟩
  have Hn := Lib.hid hn
  rw [hn] at tv tr t0 t1 t2 hfl
  have hsb : sb < w.heap.size := blk_lt ta
  have hsg : sb ≠ g := by omega
  have hgs : g ≤ sb := by omega
  have hsT : sb ∈ T := Hc.out.vT sb (by rw [tv]; rfl)
  have q1 : (0 : Int) ≤ ((n + 1 : Nat) : Int) - 1 := by omega
  have q2 : (((n + 1 : Nat) : Int) - 1).toNat = n := by omega
  have q3 : ((n + 1 : Nat) : Int) - 1 < ((n + 1 : Nat) : Int) := by omega
  have v1 : IntKind.i64.wrap (((n + 1 : Nat) : Int) - 1) = (n : Int) := by rw [IntWalk.i64_in _ (by omega)]; omega
  have v2 : IntKind.i64.wrap (n : Int) = (n : Int) := IntWalk.i64_in _ (by omega)
  have q4 : (n : Int) < (n : Int) + 1 := by omega
  have q5 : (0 : Int) ≤ (n : Int) := by omega
  have Ta := Lib.hid ta
  subst tv
  have hall := Hc.out.all.1
  obtain ⟨hlv, hnm, nn, q, hpq, hob⟩ := hall
  rw [hpq] at t1
  rw [hnm] at t2
  obtain ⟨N, hN1, hN2⟩ : ∃ N, nn ≤ N ∧ nv ≤ N := ⟨max nn nv, Nat.le_max_left _ _, Nat.le_max_right _ _⟩
  have Hob := Lib.hid (hob.upsJ hN1)
  have Hjv := Lib.hid (hv.ups hN2)
  have y1 : w.cell? ⟨sb, n * 3 + 1, none⟩ = some (.pointer (some ⟨q, 0, none⟩)) := (cell_block ta _).trans t1
  have y2 : w.cell? ⟨sb, n * 3 + 2, none⟩ = some (.string (mkB nm)) := (cell_block ta _).trans t2
  have k3 : w.cell? ⟨g, 3, none⟩ = some (.slice (some ⟨sb, 0, none⟩) (n + 1) c) := cell_block H.out 3
  have Hlv := Lib.hid hlv
  have Hnm := Lib.hid hnm
  have Hpq := Lib.hid hpq
  obtain ⟨D, hD⟩ : ∃ D, JP.put nm y d = D := ⟨_, rfl⟩
  have hDl : D.length ≤ 1048576 := by
    have := putN_len nm y d
    rw [hD] at this; omega
  have HD := Lib.hid hD
  clear hob hv hlv hnm hpq ta ts t0 t1 t2 tl hn hN1 hN2 hD
  go_enter Tryd.func47, Tryd.ntmps47
  go_wp2_with fail
  go_quiet (fail)
  go_upto_region 4 with fail
  generalize hW : World.drewN w _ = W1
  have hR1 : RdAt g s a m (.slice (some ⟨sb, 0, none⟩) (n + 1) c) 0 W1 := by rw [← hW]; exact H.out
  have hB1 : Below w.heap.size w W1 := by rw [← hW]; exact below_drewN0 w _
  have HR1 := Lib.hid hR1
  have HB1 := Lib.hid hB1
  have p1 : W1.cell? ⟨sb, n * 3 + 1, none⟩ = some (.pointer (some ⟨q, 0, none⟩)) := by rw [← hW]; exact y1
  have p2 : W1.cell? ⟨sb, n * 3 + 2, none⟩ = some (.string (mkB nm)) := by rw [← hW]; exact y2
  have hsb1 : sb < W1.heap.size := Nat.lt_of_lt_of_le hsb hB1.size
  have HW : Hid (∀ w', Below W1.heap.size W1 w' → ObR (JvR N T) T w' q d ∧ JvAt N T w' v y ∧ ∀ b ∈ T, b < w'.heap.size) := Lib.hid fun w' hb => by
    have hk : KeepT T w w' := (KeepT.of hB1).trans (KeepT.of hb)
    exact ⟨Hob.out.keepJ hk, Hjv.out.keepT hk, fun b hm => Nat.lt_of_lt_of_le (Hc.out.low b hm).2 hk.size⟩
  clear hW hR1 hB1 k3 y1 y2
  refine wp_region_relB 11 (fun ii U w' => match ii with
    | 0 => U 0 = .pointer (some ⟨sb, n * 3, none⟩)
    | 1 => U 1 = .pointer (some ⟨sb, n * 3, none⟩)
    | 2 => U 2 = .pointer (some ⟨sb, n * 3, none⟩)
    | 3 => U 3 = .pointer (some ⟨sb, n * 3 + 1, none⟩)
    | 4 => U 4 = .pointer (some ⟨q, 0, none⟩)
    | 5 => U 5 = .pointer (some ⟨sb, n * 3, none⟩)
    | 6 => U 6 = .pointer (some ⟨sb, n * 3, none⟩)
    | 7 => U 7 = .pointer (some ⟨sb, n * 3 + 2, none⟩)
    | 8 => U 8 = .string (mkB nm)
    | 9 => U 9 = v
    | 10 => ∃ q', U 10 = .pointer (some ⟨q', 0, none⟩) ∧ ObR (JvR N T) T w' q' D
    | _ => True)
    (fun | 2 => [1] | 3 => [2] | 4 => [3] | 6 => [5] | 7 => [6] | 8 => [7] | 10 => [4, 8, 9] | _ => []) (by kernel_rfl) (by kernel_rfl) ?_ ⟨?_, ?_, ?_, ?_, ?_, ?_, ?_, ?_, ?_, ?_, ?_, trivial⟩ ?_
  · intro j u w1 w2 hb h
    match j, h with
    | 0, h => exact h
    | 1, h => exact h
    | 2, h => exact h
    | 3, h => exact h
    | 4, h => exact h
    | 5, h => exact h
    | 6, h => exact h
    | 7, h => exact h
    | 8, h => exact h
    | 9, h => exact h
    | 10, h => exact (by obtain ⟨q', e, h⟩ := h; exact ⟨q', e, h.keepJ (KeepT.of hb)⟩)
    | _ + 11, h => trivial
  · intro x w' hb hd
    have hbr : Below W1.heap.size W1 w' := (below_drew1j W1).trans hb
    refine owes_here (.pointer (some ⟨sb, n * 3, none⟩)) (by rfl) ?_ rfl
    simp only [putAll, List.take_succ_cons, List.take_zero]
    go_simp
  · intro x w' hb hd
    have hbr : Below W1.heap.size W1 w' := (below_drew1j W1).trans hb
    refine owes_here (.pointer (some ⟨sb, n * 3, none⟩)) (by rfl) ?_ rfl
    simp only [putAll, List.take_succ_cons, List.take_zero]
    go_simp
  · intro x w' hb hd
    have hbr : Below W1.heap.size W1 w' := (below_drew1j W1).trans hb
    have k1 : x 1 = .pointer (some ⟨sb, n * 3, none⟩) := hd 1 (by simp)
    refine owes_here (.pointer (some ⟨sb, n * 3, none⟩)) (by rfl) ?_ rfl
    simp only [putAll, List.take_succ_cons, List.take_zero]
    go_simp
  · intro x w' hb hd
    have hbr : Below W1.heap.size W1 w' := (below_drew1j W1).trans hb
    have k1 : x 2 = .pointer (some ⟨sb, n * 3, none⟩) := hd 2 (by simp)
    refine owes_here (.pointer (some ⟨sb, n * 3 + 1, none⟩)) (by rfl) ?_ rfl
    simp only [putAll, List.take_succ_cons, List.take_zero]
    go_simp
  · intro x w' hb hd
    have hbr : Below W1.heap.size W1 w' := (below_drew1j W1).trans hb
    have k1 : x 3 = .pointer (some ⟨sb, n * 3 + 1, none⟩) := hd 3 (by simp)
    have d1 := (hbr.cell (p := ⟨sb, n * 3 + 1, none⟩) hsb1).trans p1
    refine owes_here (.pointer (some ⟨q, 0, none⟩)) (by rfl) ?_ rfl
    simp only [putAll, List.take_succ_cons, List.take_zero]
    go_simp
  · intro x w' hb hd
    have hbr : Below W1.heap.size W1 w' := (below_drew1j W1).trans hb
    refine owes_here (.pointer (some ⟨sb, n * 3, none⟩)) (by rfl) ?_ rfl
    simp only [putAll, List.take_succ_cons, List.take_zero]
    go_simp
  · intro x w' hb hd
    have hbr : Below W1.heap.size W1 w' := (below_drew1j W1).trans hb
    have k1 : x 5 = .pointer (some ⟨sb, n * 3, none⟩) := hd 5 (by simp)
    refine owes_here (.pointer (some ⟨sb, n * 3, none⟩)) (by rfl) ?_ rfl
    simp only [putAll, List.take_succ_cons, List.take_zero]
    go_simp
  · intro x w' hb hd
    have hbr : Below W1.heap.size W1 w' := (below_drew1j W1).trans hb
    have k1 : x 6 = .pointer (some ⟨sb, n * 3, none⟩) := hd 6 (by simp)
    refine owes_here (.pointer (some ⟨sb, n * 3 + 2, none⟩)) (by rfl) ?_ rfl
    simp only [putAll, List.take_succ_cons, List.take_zero]
    go_simp
  · intro x w' hb hd
    have hbr : Below W1.heap.size W1 w' := (below_drew1j W1).trans hb
    have k1 : x 7 = .pointer (some ⟨sb, n * 3 + 2, none⟩) := hd 7 (by simp)
    have d1 := (hbr.cell (p := ⟨sb, n * 3 + 2, none⟩) hsb1).trans p2
    refine owes_here (.string (mkB nm)) (by rfl) ?_ rfl
    simp only [putAll, List.take_succ_cons, List.take_zero]
    go_simp
  · intro x w' hb hd
    have hbr : Below W1.heap.size W1 w' := (below_drew1j W1).trans hb
    refine owes_here v (by rfl) ?_ rfl
    simp only [putAll, List.take_succ_cons, List.take_zero]
    go_simp
  · intro x w' hb hd
    have hbr : Below W1.heap.size W1 w' := (below_drew1j W1).trans hb
    have k1 : x 4 = .pointer (some ⟨q, 0, none⟩) := hd 4 (by simp)
    have k2 : x 8 = .string (mkB nm) := hd 8 (by simp)
    have k3 : x 9 = v := hd 9 (by simp)
    refine owes_call 58 #[.pointer (some ⟨q, 0, none⟩), .string (mkB nm), v] (by rfl) ?_ ((with_any (x := nm) (HW.out w' hbr).1 (HW.out w' hbr).2.1 (HW.out w' hbr).2.2 (by omega)).mono fun e w2 h => (by obtain ⟨q', e1, h1, h2⟩ := h; exact ⟨_, e1, ⟨q', rfl, by rw [← HD.out]; exact h1⟩, h2⟩))
    simp only [putAll, List.take_succ_cons, List.take_zero]
    go_simp
  · intro x w' hb hR
    have hbr : Below W1.heap.size W1 w' := (below_drew1j W1).trans hb
    have k0 : x 0 = .pointer (some ⟨sb, n * 3, none⟩) := hR 0 (by omega)
    obtain ⟨q', k10, hob'⟩ : ∃ q', x 10 = .pointer (some ⟨q', 0, none⟩) ∧ ObR (JvR N T) T w' q' D := hR 10 (by omega)
    have Hob2 := Lib.hid hob'
    have HB2 := Lib.hid (HB1.out.trans (hbr.mono HB1.out.size))
    have HR2 : Hid (RdAt g s a m (.slice (some ⟨sb, 0, none⟩) (n + 1) c) 0 w') := Lib.hid (below_block hbr HR1.out)
    have HC2 := Lib.hid (Hc.out.but (But.of HB2.out))
    have HTa2 := Lib.hid (below_block HB2.out Ta.out)
    have z1 : w'.frozen? ⟨sb, n * 3 + 1, none⟩ = false := free_block HTa2.out _
    have d1 : w'.cell? ⟨sb, n * 3 + 1, none⟩ = some (.pointer (some ⟨q, 0, none⟩)) := (hbr.cell (p := ⟨sb, n * 3 + 1, none⟩) hsb1).trans p1
    clear hR hb hbr hob' p1 p2 HW Hob Hjv
    simp only [putAll, List.take_succ_cons, List.take_zero, List.drop_succ_cons, List.drop_zero]
    try simp only [Act.put, List.setIfInBounds_toArray, List.set_cons_zero, List.set_cons_succ]
    go_upto_region 5 with fail
    generalize hW : World.setCell _ ⟨sb, n * 3 + 1, none⟩ _ = W4
    obtain ⟨u1, u2⟩ : W4.heap[sb]? = some (.cells (cur.setIfInBounds (n * 3 + 1) (.pointer (some ⟨q', 0, none⟩))) 100 (0, 0)) ∧ Touch sb w' W4 := by rw [← hW]; exact touch_setCell (w := w') (i := n * 3 + 1) (v := .pointer (some ⟨q', 0, none⟩)) HTa2.out
    have hTop : Top g w' (.slice (some ⟨sb, 0, none⟩) (n + 1) c) f fs.length sb c cur := { Htop.out with at_ := HTa2.out }
    have hob4 : ObR (JvR N T) T W4 q' D := Hob2.out.keepJ (KeepT.touch u2 hsT)
    have hcore := core_turn (k := 1) (u := .pointer (some ⟨q', 0, none⟩)) (f' := ⟨f.lv, .pointer (some ⟨q', 0, none⟩), f.nm⟩) (fr' := .ob D nm) HC2.out hTop (by decide) (by rw [Hn.out]; exact u1) u2 rfl rfl rfl ⟨HC2.out.ones.1, rfl⟩ (fun b hb => absurd hb (by rw [Hlv.out]; intro h; cases h)) ⟨Hlv.out, Hnm.out, N, q', rfl, hob4⟩
    have HC4 := Lib.hid hcore
    have hR4 : RdAt g s a m (.slice (some ⟨sb, 0, none⟩) (n + 1) c) 0 W4 := (u2.other g (fun e => hsg e.symm)).trans HR2.out
    have HR4 := Lib.hid hR4
    have HB4 : Hid (Below g w W4) := Lib.hid (u2.below (HB2.out.mono (Nat.le_of_lt hgw)) hgs)
    have Hob4 := Lib.hid hob4
    have HU4 := Lib.hid u1
    have hgw4 := hR4.lt
    have hsb4 : sb < W4.heap.size := blk_lt u1
    have hpin : (cur.setIfInBounds (n * 3 + 1) (.pointer (some ⟨q', 0, none⟩)))[n * 3 + 1]? = some (.pointer (some ⟨q', 0, none⟩)) := Array.getElem?_setIfInBounds_self_of_lt (by rw [Htop.out.size]; omega)
    have Hpin := Lib.hid hpin
    clear hW u1 u2 hTop hob4 hcore hR4 Hob2 HB2 HR2 HC2 HTa2 z1 d1 hpin
    obtain ⟨z6, hz6⟩ : ∃ z, hdN (JP.skip (s.data.toList.drop a)) = z := ⟨_, rfl⟩
    have hn6 := next_any g s a m (.slice (some ⟨sb, 0, none⟩) (n + 1) c) 0 W4 HR4.out ha hs
    rw [hz6] at hn6
    have HN6 := Lib.hid hn6
    have Hz6 := Lib.hid hz6
    clear hn6 hz6
    go_wp2_with fail
    refine HN6.out.mono ?_
    rintro E w6 ⟨rfl, ⟨i6, hi6, hdi6, hr⟩, hb⟩
    have HR6 := Lib.hid hr
    have HB6 := Lib.hid (HB4.out.trans (below_but hb hgw4))
    have HC6 := Lib.hid (HC4.out.but hb)
    have Hob6 := Lib.hid (Hob4.out.keepJ (KeepT.but hb HC4.out.gT))
    have Hd6 := Lib.hid hdi6
    have hgw6 := hr.lt
    have hs46 := hb.size
    have h6 : w6.cell? ⟨sb, n * 3 + 1, none⟩ = some (.pointer (some ⟨q', 0, none⟩)) := (hb.cell (p := ⟨sb, _, none⟩) hsb4 hsg).trans ((cell_block HU4.out _).trans Hpin.out)
    clear hr hb hdi6 HN6
    by_cases h125 : z6 = 125
    · subst h125
      obtain ⟨t7, ht7⟩ := hd_zero (c := 125) (by decide) Hz6.out
      obtain ⟨hi7, hd7⟩ := drop_in (Hd6.out.trans ht7)
      have HX2 : Hid (X = .whole (.obj D) (s.data.toList.drop (i6 + 1)) m st) := Lib.hid (by rw [← HX.out, hd7, ← HD.out]; exact goes_ob_close ht7)
      clear HX ht7 hd7
      go_wp2_with fail
      refine (close_any g s i6 m sb n c (.iface 83 (.pointer (some ⟨q', 0, none⟩))) _ HR6.out hi7 hs tr tm hfl).mono ?_
      rintro E w7 ⟨rfl, hr, hbt⟩
      have Hr := Lib.hid hr
      have Hbt := Lib.hid hbt
      clear hr hbt
      go_wp2_with fail
      go_ret2
      exact outE_of (out_whole HX2.out ⟨i6 + 1, _, fs, T, hi7, rfl, Hr.out, core_pop (HC6.out.but Hbt.out) Hn.out, N + 1, q', rfl, Hob6.out.keepJ (KeepT.but Hbt.out HC6.out.gT)⟩ (HB6.out.trans (below_but Hbt.out hgw6)))
    have n125 : (z6 == 125) = false := by rw [beq_eq_false_iff_ne]; exact h125
    by_cases h44 : z6 = 44
    · subst h44
      obtain ⟨t7, ht7⟩ := hd_zero (c := 44) (by decide) Hz6.out
      obtain ⟨hi7, hd7⟩ := drop_in (Hd6.out.trans ht7)
      have HX2 : Hid (X = JP.fieldP (s.data.toList.drop (i6 + 1)) m D st) := Lib.hid (by rw [← HX.out, hd7, ← HD.out]; exact goes_ob_more ht7)
      have k1 : w6.cell? ⟨g, 1, none⟩ = some (.int .i64 (i6 : Int)) := cell_block HR6.out 1
      have z1 : w6.frozen? ⟨g, 1, none⟩ = false := free_block HR6.out 1
      have ww1 : IntKind.i64.wrap ((i6 : Int) + 1) = (i6 : Int) + 1 := IntWalk.i64_in _ (by omega)
      clear HX ht7 hd7 h125
      go_upto_region 15 with fail
      generalize hW : World.setCell _ ⟨g, 1, none⟩ _ = W7
      have hR7 : RdAt g s (i6 + 1) m (.slice (some ⟨sb, 0, none⟩) (n + 1) c) 0 W7 := by rw [← hW]; exact RdAt.cast (touch_setCell (w := w6) (i := 1) (v := .int .i64 ((i6 : Int) + 1)) HR6.out).1 (by omega)
      have hB7 : But g w6 W7 := by rw [← hW]; exact But.touch (touch_setCell (w := w6) (i := 1) (v := .int .i64 ((i6 : Int) + 1)) HR6.out).2
      have h7 : W7.cell? ⟨sb, n * 3 + 1, none⟩ = some (.pointer (some ⟨q', 0, none⟩)) := (hB7.cell (p := ⟨sb, _, none⟩) (Nat.lt_of_lt_of_le hsb4 hs46) hsg).trans h6
      have HR7 := Lib.hid hR7
      have HB7 := Lib.hid (HB6.out.trans (below_but hB7 hgw6))
      have HC7 := Lib.hid (HC6.out.but hB7)
      clear hW hR7 hB7 k1 z1 ww1 h6
      go_wp2_with fail
      refine (field_any g s (i6 + 1) m _ _ fs T D nm st W7 HR7.out HC7.out hi7 hs hDl (by rw [Hn.out]; exact hfl)).mono ?_
      intro E w8 hf
      obtain ⟨rfl, ho⟩ := out_field hf HB7.out
      have HO := Lib.hid ho
      clear hf ho
      go_wp2_with fail
      go_ret2
      exact outE_of (by rw [HX2.out]; exact HO.out _)
    · have HX2 : Hid (X = .bad 3) := Lib.hid (by rw [← HX.out]; exact goes_ob_bad (by rw [Hz6.out]; exact h125) (by rw [Hz6.out]; exact h44))
      have n44 : (z6 == 44) = false := by rw [beq_eq_false_iff_ne]; exact h44
      clear HX h125 h44
      go_wp2_with fail
      refine (fail_any g s i6 m (.slice (some ⟨sb, 0, none⟩) (n + 1) c) 0 3 w6 HR6.out).mono ?_
      rintro E w7 ⟨rfl, hr, hbt⟩
      have Hr := Lib.hid hr
      have Hbt := Lib.hid (HB6.out.trans (below_but hbt hgw6))
      clear hr hbt
      go_wp2_with fail
      go_ret2
      exact outE_of (out_bad HX2.out (by decide) Hr.out Hbt.out)
end Go.Proofs.YtaddcchpidpbfaaDoor
