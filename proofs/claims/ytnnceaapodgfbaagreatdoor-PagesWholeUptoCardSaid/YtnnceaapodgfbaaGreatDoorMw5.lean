/- Texts of ours joined. -/
import Derived.Test.YtnnceaapodgfbaaGreatDoorProg
import Derived.KernelRfl
import Derived.Lib.AppendIntMem
import Derived.Below
import Derived.Deep.LoopGhost
import Derived.Deep.DeepCutAuto
import Derived.Lib.ItoaLen
import Derived.Maps.OwnSet
import Derived.Maps.RangeWalk
import Derived.Test.YtnnceaapodgfbaaGreatDoorMw4
set_option linter.unusedVariables false
set_option linter.unusedSimpArgs false
namespace Go.Proofs.YtnnceaapodgfbaaGreatDoor
open Go.RowKit
open JP (JV Bs Fr)
theorem below_drew1j (w : World) : Below w.heap.size w w.drew := ⟨rfl, rfl, rfl, Nat.le_refl _, fun _ _ => rfl⟩
theorem ObR.upsJ {n m : Nat} {T : List Nat} {w : World} {q : Nat} {d : List (Bs × JV)} (h : ObR (JvR n T) T w q d) (hm : n ≤ m) : ObR (JvR m T) T w q d := by
  have : JvAt (n + 1) T w (.iface 190 (.pointer (some ⟨q, 0, none⟩))) (.obj d) := ⟨q, rfl, h⟩
  obtain ⟨q', e, h'⟩ := this.ups (m := m + 1) (by omega)
  have : q' = q := by injection e with _ e; injection e with e; injection e with e; injection e with e; exact e.symm
  subst this
  exact h'
theorem putN_len (n : Bs) (v : JV) : ∀ d : List (Bs × JV), (JP.put n v d).length ≤ d.length + 1
  | [] => Nat.le_refl _
  | (k, x) :: r => by
    have ih := putN_len n v r
    unfold JP.put
    split
    · simp only [List.length_cons]; omega
    · split
      · simp only [List.length_cons]; omega
      · simp only [List.length_cons]; omega
theorem goes_ob_close {v : JV} {r t : Bs} {m : Nat} {d : List (Bs × JV)} {n : Bs} {st : List Fr} (h : JP.skip r = 125 :: t) : JP.goesP v r m (.ob d n) st = .whole (.obj (JP.put n v d)) t m st := by
  unfold JP.goesP
  rw [h]
  dsimp only
  rw [if_pos rfl]
theorem goes_ob_more {v : JV} {r t : Bs} {m : Nat} {d : List (Bs × JV)} {n : Bs} {st : List Fr} (h : JP.skip r = 44 :: t) : JP.goesP v r m (.ob d n) st = JP.fieldP t m (JP.put n v d) st := by
  unfold JP.goesP
  rw [h]
  dsimp only
  rw [if_neg (by decide), if_pos rfl]
theorem goes_ob_bad {v : JV} {r : Bs} {m : Nat} {d : List (Bs × JV)} {n : Bs} {st : List Fr} (h : hdN (JP.skip r) ≠ 125) (h2 : hdN (JP.skip r) ≠ 44) : JP.goesP v r m (.ob d n) st = .bad 3 := by
  unfold JP.goesP
  cases hs : JP.skip r with
  | nil => rfl
  | cons c t =>
    rw [hs] at h h2
    dsimp only
    rw [if_neg (fun e => h (by rw [e]; rfl)), if_neg (fun e => h2 (by rw [e]; rfl))]
theorem goes_l_close {v : JV} {r t : Bs} {m : Nat} {d : List JV} {st : List Fr} (h : JP.skip r = 93 :: t) : JP.goesP v r m (.lst d) st = .whole (.list (d ++ [v])) t m st := by
  unfold JP.goesP
  rw [h]
  dsimp only
  rw [if_pos rfl]
theorem goes_l_more {v : JV} {r t : Bs} {m : Nat} {d : List JV} {st : List Fr} (h : JP.skip r = 44 :: t) : JP.goesP v r m (.lst d) st = .more t m (.lst (d ++ [v]) :: st) := by
  unfold JP.goesP
  rw [h]
  dsimp only
  rw [if_neg (by decide), if_pos rfl]
theorem goes_l_bad {v : JV} {r : Bs} {m : Nat} {d : List JV} {st : List Fr} (h : hdN (JP.skip r) ≠ 93) (h2 : hdN (JP.skip r) ≠ 44) : JP.goesP v r m (.lst d) st = .bad 3 := by
  unfold JP.goesP
  cases hs : JP.skip r with
  | nil => rfl
  | cons c t =>
    rw [hs] at h h2
    dsimp only
    rw [if_neg (fun e => h (by rw [e]; rfl)), if_neg (fun e => h2 (by rw [e]; rfl))]
set_option maxRecDepth 100000 in
set_option maxHeartbeats 12800000 in
theorem goes_ob (g : Nat) (s : ByteArray) (a m : Nat) (vst : Value) (f : GF) (fs : List GF) (T : List Nat) (d : List (Bs × JV)) (nm : Bs) (st : List Fr) (w : World) (v : Value) (y : JV) (nv : Nat) (h : RdAt g s a m vst 0 w) (hc : Core g T w vst (f :: fs) (.ob d nm :: st)) (hv : JvAt nv T w v y) (ha : a ≤ s.size) (hs : s.size ≤ 1048576) (hd : d.length ≤ 1048574) (hfl : fs.length ≤ 1048576) :
    Calls Tryz.prog 97 #[.pointer (some ⟨g, 0, none⟩), v] w (OutE g s w (JP.goesP y (s.data.toList.drop a) m (.ob d nm) st)) := by
  have hgw := h.lt
  have H := Lib.hid h
  have Hc := Lib.hid hc
  obtain ⟨X, HX⟩ : ∃ X, Hid (JP.goesP y (s.data.toList.drop a) m (.ob d nm) st = X) := ⟨_, Lib.hid rfl⟩
  rw [HX.out]
  clear h hc
  obtain ⟨sb, c, cur, htop⟩ := Hc.out.top
  obtain ⟨tv, tl, tr, tm, ta, ts, t0, t1, t2⟩ := htop
  have Htop : Hid (Top g w vst f fs.length sb c cur) := Lib.hid ⟨tv, tl, tr, tm, ta, ts, t0, t1, t2⟩
  obtain ⟨n, hn⟩ : ∃ n, fs.length = n := ⟨_, rfl⟩
  have Hn := Lib.hid hn
  rw [hn] at tv tr t0 t1 t2 hfl
  have hsb : sb < w.heap.size := blk_lt ta
  have hsg : sb ≠ g := by omega
  have hgs : g ≤ sb := by omega
  have hsT : sb ∈ T := Hc.out.vT sb (by rw [tv]; rfl)
  have q1 : (0 : Int) ≤ ((n + 1 : Nat) : Int) - 1 := by omega
  have q2 : (((n + 1 : Nat) : Int) - 1).toNat = n := by omega
  have q3 : ((n + 1 : Nat) : Int) - 1 < ((n + 1 : Nat) : Int) := by omega
  have v1 : IntKind.i64.wrap (((n + 1 : Nat) : Int) - 1) = (n : Int) := by rw [IntWalk.i64_in _ (by omega)]; omega
  have v2 : IntKind.i64.wrap (n : Int) = (n : Int) := IntWalk.i64_in _ (by omega)
  have q4 : (n : Int) < (n : Int) + 1 := by omega
  have q5 : (0 : Int) ≤ (n : Int) := by omega
  have Ta := Lib.hid ta
  subst tv
  have hall := Hc.out.all.1
  obtain ⟨hlv, hnm, nn, q, hpq, hob⟩ := hall
  rw [hpq] at t1
  rw [hnm] at t2
  obtain ⟨N, hN1, hN2⟩ : ∃ N, nn ≤ N ∧ nv ≤ N := ⟨max nn nv, Nat.le_max_left _ _, Nat.le_max_right _ _⟩
  have Hob := Lib.hid (hob.upsJ hN1)
  have Hjv := Lib.hid (hv.ups hN2)
  have y1 : w.cell? ⟨sb, n * 3 + 1, none⟩ = some (.pointer (some ⟨q, 0, none⟩)) := (cell_block ta _).trans t1
  have y2 : w.cell? ⟨sb, n * 3 + 2, none⟩ = some (.string (mkB nm)) := (cell_block ta _).trans t2
  have k3 : w.cell? ⟨g, 3, none⟩ = some (.slice (some ⟨sb, 0, none⟩) (n + 1) c) := cell_block H.out 3
  have Hlv := Lib.hid hlv
  have Hnm := Lib.hid hnm
  have Hpq := Lib.hid hpq
  obtain ⟨D, hD⟩ : ∃ D, JP.put nm y d = D := ⟨_, rfl⟩
  have hDl : D.length ≤ 1048576 := by
    have := putN_len nm y d
    rw [hD] at this; omega
  have HD := Lib.hid hD
  clear hob hv hlv hnm hpq ta ts t0 t1 t2 tl hn hN1 hN2 hD
  go_enter Tryz.func97, Tryz.ntmps97
  go_wp2_with fail
  go_quiet (fail)
  go_upto_region 4 with fail
  generalize hW : World.drewN w _ = W1
  have hR1 : RdAt g s a m (.slice (some ⟨sb, 0, none⟩) (n + 1) c) 0 W1 := by rw [← hW]; exact H.out
  have hB1 : Below w.heap.size w W1 := by rw [← hW]; exact below_drewN0 w _
  have HR1 := Lib.hid hR1
  have HB1 := Lib.hid hB1
  have p1 : W1.cell? ⟨sb, n * 3 + 1, none⟩ = some (.pointer (some ⟨q, 0, none⟩)) := by rw [← hW]; exact y1
  have p2 : W1.cell? ⟨sb, n * 3 + 2, none⟩ = some (.string (mkB nm)) := by rw [← hW]; exact y2
  have hsb1 : sb < W1.heap.size := Nat.lt_of_lt_of_le hsb hB1.size
  have HW : Hid (∀ w', Below W1.heap.size W1 w' → ObR (JvR N T) T w' q d ∧ JvAt N T w' v y ∧ ∀ b ∈ T, b < w'.heap.size) := Lib.hid fun w' hb => by
    have hk : KeepT T w w' := (KeepT.of hB1).trans (KeepT.of hb)
    exact ⟨Hob.out.keepJ hk, Hjv.out.keepT hk, fun b hm => Nat.lt_of_lt_of_le (Hc.out.low b hm).2 hk.size⟩
  clear hW hR1 hB1 k3 y1 y2
  refine wp_region_relB 11 (fun ii U w' => match ii with
    | 0 => U 0 = .pointer (some ⟨sb, n * 3, none⟩)
    | 1 => U 1 = .pointer (some ⟨sb, n * 3, none⟩)
    | 2 => U 2 = .pointer (some ⟨sb, n * 3, none⟩)
    | 3 => U 3 = .pointer (some ⟨sb, n * 3 + 1, none⟩)
    | 4 => U 4 = .pointer (some ⟨q, 0, none⟩)
    | 5 => U 5 = .pointer (some ⟨sb, n * 3, none⟩)
    | 6 => U 6 = .pointer (some ⟨sb, n * 3, none⟩)
    | 7 => U 7 = .pointer (some ⟨sb, n * 3 + 2, none⟩)
    | 8 => U 8 = .string (mkB nm)
    | 9 => U 9 = v
    | 10 => ∃ q', U 10 = .pointer (some ⟨q', 0, none⟩) ∧ ObR (JvR N T) T w' q' D
    | _ => True)
    (fun | 2 => [1] | 3 => [2] | 4 => [3] | 6 => [5] | 7 => [6] | 8 => [7] | 10 => [4, 8, 9] | _ => []) (by kernel_rfl) (by kernel_rfl) ?_ ⟨?_, ?_, ?_, ?_, ?_, ?_, ?_, ?_, ?_, ?_, ?_, trivial⟩ ?_
  · intro j u w1 w2 hb h
    match j, h with
    | 0, h => exact h
    | 1, h => exact h
    | 2, h => exact h
    | 3, h => exact h
    | 4, h => exact h
    | 5, h => exact h
    | 6, h => exact h
    | 7, h => exact h
    | 8, h => exact h
    | 9, h => exact h
    | 10, h => exact (by obtain ⟨q', e, h⟩ := h; exact ⟨q', e, h.keepJ (KeepT.of hb)⟩)
    | _ + 11, h => trivial
  · intro x w' hb hd
    have hbr : Below W1.heap.size W1 w' := (below_drew1j W1).trans hb
    refine owes_here (.pointer (some ⟨sb, n * 3, none⟩)) (by rfl) ?_ rfl
    simp only [putAll, List.take_succ_cons, List.take_zero]
    go_simp
  · intro x w' hb hd
    have hbr : Below W1.heap.size W1 w' := (below_drew1j W1).trans hb
    refine owes_here (.pointer (some ⟨sb, n * 3, none⟩)) (by rfl) ?_ rfl
    simp only [putAll, List.take_succ_cons, List.take_zero]
    go_simp
  · intro x w' hb hd
    have hbr : Below W1.heap.size W1 w' := (below_drew1j W1).trans hb
    have k1 : x 1 = .pointer (some ⟨sb, n * 3, none⟩) := hd 1 (by simp)
    refine owes_here (.pointer (some ⟨sb, n * 3, none⟩)) (by rfl) ?_ rfl
    simp only [putAll, List.take_succ_cons, List.take_zero]
    go_simp
  · intro x w' hb hd
    have hbr : Below W1.heap.size W1 w' := (below_drew1j W1).trans hb
    have k1 : x 2 = .pointer (some ⟨sb, n * 3, none⟩) := hd 2 (by simp)
    refine owes_here (.pointer (some ⟨sb, n * 3 + 1, none⟩)) (by rfl) ?_ rfl
    simp only [putAll, List.take_succ_cons, List.take_zero]
    go_simp
  · intro x w' hb hd
    have hbr : Below W1.heap.size W1 w' := (below_drew1j W1).trans hb
    have k1 : x 3 = .pointer (some ⟨sb, n * 3 + 1, none⟩) := hd 3 (by simp)
    have d1 := (hbr.cell (p := ⟨sb, n * 3 + 1, none⟩) hsb1).trans p1
    refine owes_here (.pointer (some ⟨q, 0, none⟩)) (by rfl) ?_ rfl
    simp only [putAll, List.take_succ_cons, List.take_zero]
    go_simp
  · intro x w' hb hd
    have hbr : Below W1.heap.size W1 w' := (below_drew1j W1).trans hb
    refine owes_here (.pointer (some ⟨sb, n * 3, none⟩)) (by rfl) ?_ rfl
    simp only [putAll, List.take_succ_cons, List.take_zero]
    go_simp
  · intro x w' hb hd
    have hbr : Below W1.heap.size W1 w' := (below_drew1j W1).trans hb
    have k1 : x 5 = .pointer (some ⟨sb, n * 3, none⟩) := hd 5 (by simp)
    refine owes_here (.pointer (some ⟨sb, n * 3, none⟩)) (by rfl) ?_ rfl
    simp only [putAll, List.take_succ_cons, List.take_zero]
    go_simp
  · intro x w' hb hd
    have hbr : Below W1.heap.size W1 w' := (below_drew1j W1).trans hb
    have k1 : x 6 = .pointer (some ⟨sb, n * 3, none⟩) := hd 6 (by simp)
    refine owes_here (.pointer (some ⟨sb, n * 3 + 2, none⟩)) (by rfl) ?_ rfl
    simp only [putAll, List.take_succ_cons, List.take_zero]
    go_simp
  · intro x w' hb hd
    have hbr : Below W1.heap.size W1 w' := (below_drew1j W1).trans hb
    have k1 : x 7 = .pointer (some ⟨sb, n * 3 + 2, none⟩) := hd 7 (by simp)
    have d1 := (hbr.cell (p := ⟨sb, n * 3 + 2, none⟩) hsb1).trans p2
    refine owes_here (.string (mkB nm)) (by rfl) ?_ rfl
    simp only [putAll, List.take_succ_cons, List.take_zero]
    go_simp
  · intro x w' hb hd
    have hbr : Below W1.heap.size W1 w' := (below_drew1j W1).trans hb
    refine owes_here v (by rfl) ?_ rfl
    simp only [putAll, List.take_succ_cons, List.take_zero]
    go_simp
  · intro x w' hb hd
    have hbr : Below W1.heap.size W1 w' := (below_drew1j W1).trans hb
    have k1 : x 4 = .pointer (some ⟨q, 0, none⟩) := hd 4 (by simp)
    have k2 : x 8 = .string (mkB nm) := hd 8 (by simp)
    have k3 : x 9 = v := hd 9 (by simp)
    refine owes_call 131 #[.pointer (some ⟨q, 0, none⟩), .string (mkB nm), v] (by rfl) ?_ ((with_any (x := nm) (HW.out w' hbr).1 (HW.out w' hbr).2.1 (HW.out w' hbr).2.2 (by omega)).mono fun e w2 h => (by obtain ⟨q', e1, h1, h2⟩ := h; exact ⟨_, e1, ⟨q', rfl, by rw [← HD.out]; exact h1⟩, h2⟩))
    simp only [putAll, List.take_succ_cons, List.take_zero]
    go_simp
  · intro x w' hb hR
    have hbr : Below W1.heap.size W1 w' := (below_drew1j W1).trans hb
    have k0 : x 0 = .pointer (some ⟨sb, n * 3, none⟩) := hR 0 (by omega)
    obtain ⟨q', k10, hob'⟩ : ∃ q', x 10 = .pointer (some ⟨q', 0, none⟩) ∧ ObR (JvR N T) T w' q' D := hR 10 (by omega)
    have Hob2 := Lib.hid hob'
    have HB2 := Lib.hid (HB1.out.trans (hbr.mono HB1.out.size))
    have HR2 : Hid (RdAt g s a m (.slice (some ⟨sb, 0, none⟩) (n + 1) c) 0 w') := Lib.hid (below_block hbr HR1.out)
    have HC2 := Lib.hid (Hc.out.but (But.of HB2.out))
    have HTa2 := Lib.hid (below_block HB2.out Ta.out)
    have z1 : w'.frozen? ⟨sb, n * 3 + 1, none⟩ = false := free_block HTa2.out _
    have d1 : w'.cell? ⟨sb, n * 3 + 1, none⟩ = some (.pointer (some ⟨q, 0, none⟩)) := (hbr.cell (p := ⟨sb, n * 3 + 1, none⟩) hsb1).trans p1
    clear hR hb hbr hob' p1 p2 HW Hob Hjv
    simp only [putAll, List.take_succ_cons, List.take_zero, List.drop_succ_cons, List.drop_zero]
    try simp only [Act.put, List.setIfInBounds_toArray, List.set_cons_zero, List.set_cons_succ]
    go_upto_region 5 with fail
    generalize hW : World.setCell _ ⟨sb, n * 3 + 1, none⟩ _ = W4
    obtain ⟨u1, u2⟩ : W4.heap[sb]? = some (.cells (cur.setIfInBounds (n * 3 + 1) (.pointer (some ⟨q', 0, none⟩))) 223 (0, 0)) ∧ Touch sb w' W4 := by rw [← hW]; exact touch_setCell (w := w') (i := n * 3 + 1) (v := .pointer (some ⟨q', 0, none⟩)) HTa2.out
    have hTop : Top g w' (.slice (some ⟨sb, 0, none⟩) (n + 1) c) f fs.length sb c cur := { Htop.out with at_ := HTa2.out }
    have hob4 : ObR (JvR N T) T W4 q' D := Hob2.out.keepJ (KeepT.touch u2 hsT)
    have hcore := core_turn (k := 1) (u := .pointer (some ⟨q', 0, none⟩)) (f' := ⟨f.lv, .pointer (some ⟨q', 0, none⟩), f.nm⟩) (fr' := .ob D nm) HC2.out hTop (by decide) (by rw [Hn.out]; exact u1) u2 rfl rfl rfl ⟨HC2.out.ones.1, rfl⟩ (fun b hb => absurd hb (by rw [Hlv.out]; intro h; cases h)) ⟨Hlv.out, Hnm.out, N, q', rfl, hob4⟩
    have HC4 := Lib.hid hcore
    have hR4 : RdAt g s a m (.slice (some ⟨sb, 0, none⟩) (n + 1) c) 0 W4 := (u2.other g (fun e => hsg e.symm)).trans HR2.out
    have HR4 := Lib.hid hR4
    have HB4 : Hid (Below g w W4) := Lib.hid (u2.below (HB2.out.mono (Nat.le_of_lt hgw)) hgs)
    have Hob4 := Lib.hid hob4
    have HU4 := Lib.hid u1
    have hgw4 := hR4.lt
    have hsb4 : sb < W4.heap.size := blk_lt u1
    have hpin : (cur.setIfInBounds (n * 3 + 1) (.pointer (some ⟨q', 0, none⟩)))[n * 3 + 1]? = some (.pointer (some ⟨q', 0, none⟩)) := Array.getElem?_setIfInBounds_self_of_lt (by rw [Htop.out.size]; omega)
    have Hpin := Lib.hid hpin
    clear hW u1 u2 hTop hob4 hcore hR4 Hob2 HB2 HR2 HC2 HTa2 z1 d1 hpin
    obtain ⟨z6, hz6⟩ : ∃ z, hdN (JP.skip (s.data.toList.drop a)) = z := ⟨_, rfl⟩
    have hn6 := next_any g s a m (.slice (some ⟨sb, 0, none⟩) (n + 1) c) 0 W4 HR4.out ha hs
    rw [hz6] at hn6
    have HN6 := Lib.hid hn6
    have Hz6 := Lib.hid hz6
    clear hn6 hz6
    go_wp2_with fail
    refine HN6.out.mono ?_
    rintro E w6 ⟨rfl, ⟨i6, hi6, hdi6, hr⟩, hb⟩
    have HR6 := Lib.hid hr
    have HB6 := Lib.hid (HB4.out.trans (below_but hb hgw4))
    have HC6 := Lib.hid (HC4.out.but hb)
    have Hob6 := Lib.hid (Hob4.out.keepJ (KeepT.but hb HC4.out.gT))
    have Hd6 := Lib.hid hdi6
    have hgw6 := hr.lt
    have hs46 := hb.size
    have h6 : w6.cell? ⟨sb, n * 3 + 1, none⟩ = some (.pointer (some ⟨q', 0, none⟩)) := (hb.cell (p := ⟨sb, _, none⟩) hsb4 hsg).trans ((cell_block HU4.out _).trans Hpin.out)
    clear hr hb hdi6 HN6
    by_cases h125 : z6 = 125
    · subst h125
      obtain ⟨t7, ht7⟩ := hd_zero (c := 125) (by decide) Hz6.out
      obtain ⟨hi7, hd7⟩ := drop_in (Hd6.out.trans ht7)
      have HX2 : Hid (X = .whole (.obj D) (s.data.toList.drop (i6 + 1)) m st) := Lib.hid (by rw [← HX.out, hd7, ← HD.out]; exact goes_ob_close ht7)
      clear HX ht7 hd7
      go_wp2_with fail
      refine (close_any g s i6 m sb n c (.iface 190 (.pointer (some ⟨q', 0, none⟩))) _ HR6.out hi7 hs tr tm hfl).mono ?_
      rintro E w7 ⟨rfl, hr, hbt⟩
      have Hr := Lib.hid hr
      have Hbt := Lib.hid hbt
      clear hr hbt
      go_wp2_with fail
      go_ret2
      exact outE_of (out_whole HX2.out ⟨i6 + 1, _, fs, T, hi7, rfl, Hr.out, core_pop (HC6.out.but Hbt.out) Hn.out, N + 1, q', rfl, Hob6.out.keepJ (KeepT.but Hbt.out HC6.out.gT)⟩ (HB6.out.trans (below_but Hbt.out hgw6)))
    have n125 : (z6 == 125) = false := by rw [beq_eq_false_iff_ne]; exact h125
    by_cases h44 : z6 = 44
    · subst h44
      obtain ⟨t7, ht7⟩ := hd_zero (c := 44) (by decide) Hz6.out
      obtain ⟨hi7, hd7⟩ := drop_in (Hd6.out.trans ht7)
      have HX2 : Hid (X = JP.fieldP (s.data.toList.drop (i6 + 1)) m D st) := Lib.hid (by rw [← HX.out, hd7, ← HD.out]; exact goes_ob_more ht7)
      have k1 : w6.cell? ⟨g, 1, none⟩ = some (.int .i64 (i6 : Int)) := cell_block HR6.out 1
      have z1 : w6.frozen? ⟨g, 1, none⟩ = false := free_block HR6.out 1
      have ww1 : IntKind.i64.wrap ((i6 : Int) + 1) = (i6 : Int) + 1 := IntWalk.i64_in _ (by omega)
      clear HX ht7 hd7 h125
      go_upto_region 15 with fail
      generalize hW : World.setCell _ ⟨g, 1, none⟩ _ = W7
      have hR7 : RdAt g s (i6 + 1) m (.slice (some ⟨sb, 0, none⟩) (n + 1) c) 0 W7 := by rw [← hW]; exact RdAt.cast (touch_setCell (w := w6) (i := 1) (v := .int .i64 ((i6 : Int) + 1)) HR6.out).1 (by omega)
      have hB7 : But g w6 W7 := by rw [← hW]; exact But.touch (touch_setCell (w := w6) (i := 1) (v := .int .i64 ((i6 : Int) + 1)) HR6.out).2
      have h7 : W7.cell? ⟨sb, n * 3 + 1, none⟩ = some (.pointer (some ⟨q', 0, none⟩)) := (hB7.cell (p := ⟨sb, _, none⟩) (Nat.lt_of_lt_of_le hsb4 hs46) hsg).trans h6
      have HR7 := Lib.hid hR7
      have HB7 := Lib.hid (HB6.out.trans (below_but hB7 hgw6))
      have HC7 := Lib.hid (HC6.out.but hB7)
      clear hW hR7 hB7 k1 z1 ww1 h6
      go_wp2_with fail
      refine (field_any g s (i6 + 1) m _ _ fs T D nm st W7 HR7.out HC7.out hi7 hs hDl (by rw [Hn.out]; exact hfl)).mono ?_
      intro E w8 hf
      obtain ⟨rfl, ho⟩ := out_field hf HB7.out
      have HO := Lib.hid ho
      clear hf ho
      go_wp2_with fail
      go_ret2
      exact outE_of (by rw [HX2.out]; exact HO.out _)
    · have HX2 : Hid (X = .bad 3) := Lib.hid (by rw [← HX.out]; exact goes_ob_bad (by rw [Hz6.out]; exact h125) (by rw [Hz6.out]; exact h44))
      have n44 : (z6 == 44) = false := by rw [beq_eq_false_iff_ne]; exact h44
      clear HX h125 h44
      go_wp2_with fail
      refine (fail_any g s i6 m (.slice (some ⟨sb, 0, none⟩) (n + 1) c) 0 3 w6 HR6.out).mono ?_
      rintro E w7 ⟨rfl, hr, hbt⟩
      have Hr := Lib.hid hr
      have Hbt := Lib.hid (HB6.out.trans (below_but hbt hgw6))
      clear hr hbt
      go_wp2_with fail
      go_ret2
      exact outE_of (out_bad HX2.out (by decide) Hr.out Hbt.out)
end Go.Proofs.YtnnceaapodgfbaaGreatDoor
namespace Go.Proofs.YtnnceaapodgfbaaGreatDoor
open Go.RowKit
open JP (JV Bs Fr)
theorem no_type {w : World} {b : Nat} {x y : Array Value} (h1 : w.heap[b]? = some (.cells x 223 (0, 0))) (h2 : w.heap[b]? = some (.cells y 125 (0, 0))) : False := by
  rw [h1] at h2
  injection h2 with h2
  injection h2 with _ h2
  exact absurd h2 (by decide)
theorem get_snoc {α : Type} {l : List α} {x y : α} {j : Nat} (h : (l ++ [x])[j]? = some y) : (l[j]? = some y) ∨ (j = l.length ∧ y = x) := by
  rcases Nat.lt_or_ge j l.length with hj | hj
  · exact .inl (by rw [List.getElem?_append_left hj] at h; exact h)
  · rw [List.getElem?_append_right hj] at h
    have : j - l.length = 0 := by
      rcases Nat.eq_zero_or_pos (j - l.length) with h0 | h0
      · exact h0
      · rw [List.getElem?_eq_none (by rw [List.length_singleton]; omega)] at h; cases h
    rw [this] at h
    simp only [List.getElem?_cons_zero, Option.some.injEq] at h
    exact .inr ⟨by omega, h.symm⟩
theorem core_app {g : Nat} {T : List Nat} {w wA w1 W : World} {vst v1 v : Value} {y : JV} {nv : Nat} {f : GF} {fs : List GF} {d : List JV} {st : List Fr} {sb c : Nat} {cur : Array Value} {xs : List Value} {n : Nat} (h : Core g T w vst (f :: fs) (.lst d :: st)) (t : Top g w vst f fs.length sb c cur) (hA : Below w.heap.size w wA)
    (hxs : xs.length = d.length) (hx : ∀ (j : Nat) (u : Value) (x : JV), xs[j]? = some u → d[j]? = some x → JvAt n T w u x) (hv : JvAt nv T w v y)
    (ho : OwnAt RVal 1 w1 (g + 1) 125 v1 (xs ++ [v])) (hg : wA.grownBy w1 f.lv.ownBlock) (hn : v1.ownBlock = f.lv.ownBlock ∨ v1.ownBlock = some wA.heap.size)
    (hh : W.heap[sb]? = some (.cells (cur.setIfInBounds (fs.length * 3 + 0) v1) 223 (0, 0))) (ht : Touch sb w1 W) :
    Core g (T ++ v1.ownBlock.toList) W vst (⟨v1, f.pv, f.nm⟩ :: fs) (.lst (d ++ [y]) :: st) ∧ KeepT (T ++ v1.ownBlock.toList) w W := by
  have hsT : sb ∈ T := h.vT sb (by rw [t.v]; rfl)
  have hsb : sb < w.heap.size := blk_lt t.at_
  have hf1 := h.all.1
  obtain ⟨fp, fn, fT, _⟩ := hf1
  have hsz1 : w.heap.size ≤ w1.heap.size := Nat.le_trans hA.size hg.size
  have hsz : w.heap.size ≤ W.heap.size := by rw [ht.size]; exact hsz1
  have hsub : ∀ b ∈ T ++ v1.ownBlock.toList, b ∈ T ∨ w.heap.size ≤ b := fun b hb => by
    rcases List.mem_append.1 hb with hb | hb
    · exact .inl hb
    · rw [Option.mem_toList] at hb
      rcases hn with e | e
      · exact .inl (fT b (by rw [← e]; exact hb))
      · rw [e] at hb
        cases hb
        exact .inr hA.size
  have hmem : ∀ {b}, b ∈ T → b ∈ T ++ v1.ownBlock.toList := fun hb => List.mem_append_left _ hb
  have hold1 : ∀ b, b < w.heap.size → f.lv.ownBlock ≠ some b → w1.heap[b]? = w.heap[b]? := fun b hb hne => (grown_block hg (Nat.lt_of_lt_of_le hb hA.size) hne).trans (hA.block b hb)
  have hold : ∀ b, b < w.heap.size → f.lv.ownBlock ≠ some b → b ≠ sb → W.heap[b]? = w.heap[b]? := fun b hb hne hs => (ht.other b hs).trans (hold1 b hb hne)
  have hkeep : KeepT (T ++ v1.ownBlock.toList) w W := ⟨ht.os.trans (hg.os.trans hA.os), ht.tape.trans (hg.tape.trans hA.tape), ht.output.trans (hg.output.trans hA.output), hsz, fun b hb hne => hold b hb (fun e => hne (hmem (fT b e))) (fun e => hne (hmem (e ▸ hsT)))⟩
  have hv1b : ∀ b, v1.ownBlock = some b → b ≠ sb := fun b hb e => by
    obtain ⟨_, _, cur', hc⟩ := ho.at hb
    subst e
    have h1 : w1.heap[b]? = some (.cells cur 223 (0, 0)) := (hold1 b hsb (fun e => by
      obtain ⟨_, _, cur2, hc2⟩ := FrAt.own h.all.1 e
      exact no_type t.at_ hc2)).trans t.at_
    exact no_type h1 hc
  refine ⟨⟨?_, hmem h.gT, fun b hb => hmem (h.vT b hb), fun b hb => ?_, lbs_cons (lbs_tail h.nd) (fun b hb hm => ?_), ⟨fp, fn, fun b hb => List.mem_append_right _ (by rw [Option.mem_toList]; exact hb), max n nv, xs ++ [v], ?_, ?_, ?_⟩, ?_⟩, hkeep⟩
  · exact row_top h t (k := 0) (u := v1) (by decide) hh rfl rfl rfl ⟨(by obtain ⟨a9, c9, e9, _⟩ := ho.row.len; rw [e9]; rfl), h.ones.2⟩
  · rcases List.mem_append.1 hb with hb | hb
    · exact ⟨fun k hk => hmem ((h.low b hb).1 k hk), Nat.lt_of_lt_of_le (h.low b hb).2 hsz⟩
    · rw [Option.mem_toList] at hb
      obtain ⟨k1, k2, _⟩ := ho.at hb
      exact ⟨fun k hk => hmem ((h.low g h.gT).1 k hk), by rw [ht.size]; exact k2⟩
  · rcases hn with e | e
    · exact lbs_head h.nd (b := b) (by rw [← e]; exact hb) hm
    · rw [hb] at e
      obtain ⟨f', hf', hb'⟩ := lbs_mem.1 hm
      have := (h.low b (AllFr.own h.all.2 f' hf' b hb').1).2
      have h9 := Option.some.inj e
      have := hA.size
      omega
  · exact ho.touch flat_val ht hv1b
  · rw [List.length_append, List.length_append, hxs]; rfl
  · intro j u x hu hd
    have hT : ∀ {m : Nat} {u : Value} {x : JV}, JvAt m T w u x → m ≤ max n nv → JvAt (max n nv) (T ++ v1.ownBlock.toList) W u x := fun hj hm => ((hj.fresh hsub).keepT hkeep).ups hm
    rcases get_snoc hu with hu | ⟨hj, rfl⟩
    · rcases get_snoc hd with hd | ⟨hj, _⟩
      · exact hT (hx j u x hu hd) (Nat.le_max_left _ _)
      · have := (List.getElem?_eq_some_iff.1 hu).1; omega
    · rcases get_snoc hd with hd | ⟨_, rfl⟩
      · have := (List.getElem?_eq_some_iff.1 hd).1; omega
      · exact hT hv (Nat.le_max_right _ _)
  · refine AllFr.keep hkeep (AllFr.fresh hsub h.all.2 fun f' hf b hb => hmem (AllFr.own h.all.2 f' hf b hb).1) fun f' hf b hb => ?_
    obtain ⟨k1, k2, cur', k3⟩ := AllFr.own h.all.2 f' hf b hb
    refine hold b (h.low b k1).2 (fun e => lbs_head h.nd e (lbs_mem.2 ⟨f', hf, hb⟩)) (fun e => ?_)
    subst e
    exact no_type t.at_ k3
theorem core_close {g n sb c : Nat} {T : List Nat} {w : World} {f : GF} {fs : List GF} {d : List JV} {st : List Fr} (h : Core g T w (.slice (some ⟨sb, 0, none⟩) (n + 1) c) (f :: fs) (.lst d :: st)) (hn : fs.length = n) :
    ∃ T', Core g T' w (.slice (some ⟨sb, 0, none⟩) n c) fs st ∧ ∃ m, JvAt m T' w (.iface 188 f.lv) (.list d) := by
  have hsub : ∀ b ∈ T.filter (fun b => f.lv.ownBlock != some b), b ∈ T ∨ w.heap.size ≤ b := fun b hb => .inl (List.mem_filter.1 hb).1
  have hin : ∀ {b}, b ∈ T → f.lv.ownBlock ≠ some b → b ∈ T.filter (fun b => f.lv.ownBlock != some b) := fun hb hne => List.mem_filter.2 ⟨hb, by rw [bne_iff_ne]; exact hne⟩
  have hp := core_pop h hn
  have hown : ∀ {b}, f.lv.ownBlock = some b → g + 1 ≤ b ∧ ∃ cur, w.heap[b]? = some (.cells cur 125 (0, 0)) := fun hb => (FrAt.own h.all.1 hb).2
  refine ⟨T.filter (fun b => f.lv.ownBlock != some b), ⟨hp.row, hin hp.gT fun e => ?_, fun b hb => hin (hp.vT b hb) fun e => ?_, fun b hb => ⟨fun k hk => hin ((hp.low g hp.gT).1 k hk) fun e => (by have := (hown e).1; omega), (hp.low b (List.mem_filter.1 hb).1).2⟩, hp.nd, AllFr.fresh hsub hp.all fun f' hf b hb => hin (AllFr.own hp.all f' hf b hb).1 fun e => lbs_head h.nd e (lbs_mem.2 ⟨f', hf, hb⟩)⟩, ?_⟩
  · have := (hown e).1; omega
  · obtain ⟨_, _, cur, k⟩ := hp.row.at hb
    obtain ⟨_, cur2, k2⟩ := hown e
    exact no_type k k2
  · obtain ⟨_, _, fT, m, xs, ho, hl, hx⟩ := h.all.1
    refine ⟨m + 1, f.lv, rfl, RowAt.ofRaw ho.row hl (fun j u x hu hd => ⟨u, rfl, (hx j u x hu hd).fresh hsub⟩), fun _ b hb hm => ?_⟩
    have := (List.mem_filter.1 hm).2
    rw [bne_iff_ne] at this
    exact this hb
set_option maxRecDepth 100000 in
set_option maxHeartbeats 12800000 in
theorem goes_lst (g : Nat) (s : ByteArray) (a m : Nat) (vst : Value) (f : GF) (fs : List GF) (T : List Nat) (d : List JV) (st : List Fr) (w : World) (v : Value) (y : JV) (nv : Nat) (h : RdAt g s a m vst 0 w) (hc : Core g T w vst (f :: fs) (.lst d :: st)) (hv : JvAt nv T w v y) (ha : a ≤ s.size) (hs : s.size ≤ 1048576) (hd : d.length ≤ 1048574) (hfl : fs.length ≤ 1048576) :
    Calls Tryz.prog 97 #[.pointer (some ⟨g, 0, none⟩), v] w (OutE g s w (JP.goesP y (s.data.toList.drop a) m (.lst d) st)) := by
  have hgw := h.lt
  have H := Lib.hid h
  have Hc := Lib.hid hc
  obtain ⟨X, HX⟩ : ∃ X, Hid (JP.goesP y (s.data.toList.drop a) m (.lst d) st = X) := ⟨_, Lib.hid rfl⟩
  rw [HX.out]
  clear h hc
  obtain ⟨sb, c, cur, htop⟩ := Hc.out.top
  obtain ⟨tv, tl, tr, tm, ta, ts, t0, t1, t2⟩ := htop
  have Htop : Hid (Top g w vst f fs.length sb c cur) := Lib.hid ⟨tv, tl, tr, tm, ta, ts, t0, t1, t2⟩
  obtain ⟨n, hn⟩ : ∃ n, fs.length = n := ⟨_, rfl⟩
  have Hn := Lib.hid hn
  rw [hn] at tv tr t0 t1 t2 hfl
  have hsb : sb < w.heap.size := blk_lt ta
  have hsg : sb ≠ g := by omega
  have hgs : g ≤ sb := by omega
  have hsT : sb ∈ T := Hc.out.vT sb (by rw [tv]; rfl)
  have q1 : (0 : Int) ≤ ((n + 1 : Nat) : Int) - 1 := by omega
  have q2 : (((n + 1 : Nat) : Int) - 1).toNat = n := by omega
  have q3 : ((n + 1 : Nat) : Int) - 1 < ((n + 1 : Nat) : Int) := by omega
  have v1 : IntKind.i64.wrap (((n + 1 : Nat) : Int) - 1) = (n : Int) := by rw [IntWalk.i64_in _ (by omega)]; omega
  have v2 : IntKind.i64.wrap (n : Int) = (n : Int) := IntWalk.i64_in _ (by omega)
  have q4 : (n : Int) < (n : Int) + 1 := by omega
  have q5 : (0 : Int) ≤ (n : Int) := by omega
  have Ta := Lib.hid ta
  subst tv
  have hall := Hc.out.all.1
  obtain ⟨hpq, hnm, hfT, nn, xs, hown, hxl, hxs⟩ := hall
  obtain ⟨al, cl, hlv, _, _⟩ := hown.row.len
  rw [hxl] at hlv
  obtain ⟨dl, hdl⟩ : ∃ dl, d.length = dl := ⟨_, rfl⟩
  rw [hdl] at hlv hxl hd
  have Hxl := Lib.hid hxl
  have Hdl := Lib.hid hdl
  rw [hpq] at t1
  rw [hlv] at t0 hown
  have Hown := Lib.hid hown
  have Hxs := Lib.hid hxs
  have Hjv := Lib.hid hv
  have HVf := jv_form hv
  have Hv1 := Lib.hid (jv_one hv)
  have y1 : w.cell? ⟨sb, n * 3 + 1, none⟩ = some (.pointer none) := (cell_block ta _).trans t1
  have y0 : w.cell? ⟨sb, n * 3, none⟩ = some (.slice al dl cl) := (cell_block ta _).trans t0
  have k3 : w.cell? ⟨g, 3, none⟩ = some (.slice (some ⟨sb, 0, none⟩) (n + 1) c) := cell_block H.out 3
  have Hlv := Lib.hid hlv
  have Hnm := Lib.hid hnm
  have Hpq := Lib.hid hpq
  have HfT := Lib.hid hfT
  obtain ⟨i0, hi0, hz0, hz1, hz2⟩ := info_parts Tryz.infoVal
  clear hown hv hlv hnm hpq ta ts t0 t1 t2 tl hn hxl hdl hxs hfT
  rcases HVf with rfl | ⟨tv, uv, rfl⟩
  · go_enter Tryz.func97, Tryz.ntmps97
    go_wp2_with fail
    go_quiet (fail)
    go_upto_region 6 with fail
    generalize hW : World.drewN w _ = W1
    have hR1 : RdAt g s a m (.slice (some ⟨sb, 0, none⟩) (n + 1) c) 0 W1 := by rw [← hW]; exact H.out
    have hB1 : Below w.heap.size w W1 := by rw [← hW]; exact below_drewN0 w _
    have p0 : W1.cell? ⟨sb, n * 3, none⟩ = some (.slice al dl cl) := by rw [← hW]; exact y0
    have HR1 := Lib.hid hR1
    have HB1 := Lib.hid hB1
    have HO1 : Hid (OwnAt RVal 1 W1 (g + 1) 125 (.slice al dl cl) xs) := Lib.hid (by rw [← hW]; exact Hown.out)
    have hgw1 : g + 1 ≤ W1.heap.size := hR1.lt
    have hsb1 : sb < W1.heap.size := Nat.lt_of_lt_of_le hsb hB1.size
    clear hW hR1 hB1 k3 y1 y0
    go_wp2_with (at_builtin; refine wpList_append_ownAt (R := RVal) (k := 1) (e := 125) (B := g + 1) (l := xs) (m := [_]) _ (by rfl) _ _ _ (by rfl) i0 _ 16 Tryz.underlying188 hi0 hz0 hz1 hz2 rfl (by omega) flat_val one_val _ (by rfl) (HO1.out.alloc stays_val _) (.slice (some ⟨W1.heap.size, 0, none⟩) 1 1) (by rfl) (RowAt.one (R := RVal) (k := 1) (cs := #[_]) (heap_alloc_new W1 _) rfl ⟨rfl, Hv1.out⟩) (by rw [Hxl.out]; unfold maxLen; simp; omega) (by rw [Hxl.out]; simp; omega) (by simp; omega) ?_)
    intro v1 w4 hv1 hg4 _ hn4
    have hA : Below W1.heap.size W1 (W1.alloc (.cells #[.nilIface] 125)) := (Below.refl _ _).alloc (Nat.le_refl _) _
    obtain ⟨wA, hwA⟩ : ∃ wA, W1.alloc (.cells #[.nilIface] 125) = wA := ⟨_, rfl⟩
    rw [hwA] at hg4 hA
    have hnA : v1.ownBlock = (Value.slice al dl cl).ownBlock ∨ v1.ownBlock = some wA.heap.size := by rw [← hwA]; simpa only [World.size_alloc] using hn4
    obtain ⟨a9, c9, e9, _⟩ := hv1.row.len
    have hlen : ∀ u : Value, (xs ++ [u]).length = dl + 1 := fun u => by rw [List.length_append, List.length_singleton, Hxl.out]
    rw [hlen] at e9
    subst e9
    have hA0 : Below w.heap.size w wA := HB1.out.trans (hA.mono HB1.out.size)
    have hlb : ∀ b, (Value.slice al dl cl).ownBlock = some b → g + 1 ≤ b ∧ ∃ cur, W1.heap[b]? = some (.cells cur 125 (0, 0)) := fun b hb => ⟨(HO1.out.at hb).1, (HO1.out.at hb).2.2⟩
    have hTa1 : W1.heap[sb]? = some (.cells cur 223 (0, 0)) := below_block HB1.out Ta.out
    have hTa4 : w4.heap[sb]? = some (.cells cur 223 (0, 0)) := (grown_block hg4 (Nat.lt_of_lt_of_le hsb1 hA.size) (fun e => by obtain ⟨_, cc, k⟩ := hlb sb e; exact no_type hTa1 k)).trans ((hA.block sb hsb1).trans hTa1)
    have hR4 : RdAt g s a m (.slice (some ⟨sb, 0, none⟩) (n + 1) c) 0 w4 := (grown_block hg4 (Nat.lt_of_lt_of_le HR1.out.lt hA.size) (fun e => by have := (hlb g e).1; omega)).trans ((hA.block g HR1.out.lt).trans HR1.out)
    have hB4 : Below g w w4 := (HB1.out.mono (Nat.le_of_lt hgw)).trans ⟨hg4.os.trans hA.os, hg4.tape.trans hA.tape, hg4.output.trans hA.output, Nat.le_trans hA.size hg4.size, fun b hb => (grown_block hg4 (by have := hA.size; omega) (fun e => by have := (hlb b e).1; omega)).trans (hA.block b (by omega))⟩
    have HR4 := Lib.hid hR4
    have HB4 := Lib.hid hB4
    have HTa4 := Lib.hid hTa4
    have HV4 := Lib.hid hv1
    have HG4 := Lib.hid hg4
    have HN4 := Lib.hid hnA
    have HA0 := Lib.hid hA0
    have d4 : w4.cell? ⟨sb, n * 3, none⟩ = some (.slice al dl cl) := (cell_block hTa4 _).trans ((cell_block hTa1 _).symm.trans p0)
    have z4 : w4.frozen? ⟨sb, n * 3, none⟩ = false := free_block hTa4 _
    clear hv1 hg4 hn4 hA hwA hnA hlen hA0 hlb hTa1 hTa4 hR4 hB4 HR1 HB1 HO1 p0
    go_upto_region 7 with fail
    generalize hW : World.setCell _ ⟨sb, n * 3, none⟩ _ = W5
    obtain ⟨u1, u2⟩ : W5.heap[sb]? = some (.cells (cur.setIfInBounds (n * 3) (.slice a9 (dl + 1) c9)) 223 (0, 0)) ∧ Touch sb w4 W5 := by rw [← hW]; exact touch_setCell (w := w4) (i := n * 3) (v := .slice a9 (dl + 1) c9) HTa4.out
    obtain ⟨hcore, hkeep⟩ := core_app (n := nn) Hc.out Htop.out HA0.out (by rw [Hxl.out, Hdl.out]) Hxs.out Hjv.out HV4.out (by rw [Hlv.out]; exact HG4.out) (by rw [Hlv.out]; exact HN4.out) (by rw [Hn.out]; exact u1) u2
    obtain ⟨T5, hT5⟩ : ∃ T', T ++ (Value.slice a9 (dl + 1) c9).ownBlock.toList = T' := ⟨_, rfl⟩
    rw [hT5] at hcore
    have HC5 := Lib.hid hcore
    have hR5 : RdAt g s a m (.slice (some ⟨sb, 0, none⟩) (n + 1) c) 0 W5 := (u2.other g (fun e => hsg e.symm)).trans HR4.out
    have HR5 := Lib.hid hR5
    have HB5 : Hid (Below g w W5) := Lib.hid (u2.below HB4.out hgs)
    have HU5 := Lib.hid u1
    have hgw5 := hR5.lt
    have hsb5 : sb < W5.heap.size := blk_lt u1
    have hin : n * 3 + 1 < cur.size := by rw [Htop.out.size]; omega
    have hp0 : (cur.setIfInBounds (n * 3) (.slice a9 (dl + 1) c9))[n * 3]? = some (.slice a9 (dl + 1) c9) := Array.getElem?_setIfInBounds_self_of_lt (by omega)
    have hp1 : (cur.setIfInBounds (n * 3) (.slice a9 (dl + 1) c9))[n * 3 + 1]? = some (.pointer none) := by rw [Array.getElem?_setIfInBounds_ne (by omega), ← Hn.out, Htop.out.pv, Hpq.out]
    have Hp0 := Lib.hid hp0
    have Hp1 := Lib.hid hp1
    clear hW u1 u2 hcore hkeep hT5 hR5 hin hp0 hp1 HR4 HB4 HTa4 HV4 HG4 HN4 HA0 d4 z4
    obtain ⟨z6, hz6⟩ : ∃ z, hdN (JP.skip (s.data.toList.drop a)) = z := ⟨_, rfl⟩
    have hn6 := next_any g s a m (.slice (some ⟨sb, 0, none⟩) (n + 1) c) 0 W5 HR5.out ha hs
    rw [hz6] at hn6
    have HN6 := Lib.hid hn6
    have Hz6 := Lib.hid hz6
    clear hn6 hz6
    go_wp2_with fail
    refine HN6.out.mono ?_
    rintro E w6 ⟨rfl, ⟨i6, hi6, hdi6, hr⟩, hb⟩
    have HR6 := Lib.hid hr
    have HB6 := Lib.hid (HB5.out.trans (below_but hb hgw5))
    have HC6 := Lib.hid (HC5.out.but hb)
    have Hd6 := Lib.hid hdi6
    have hgw6 := hr.lt
    have e0 : w6.cell? ⟨sb, n * 3, none⟩ = some (.slice a9 (dl + 1) c9) := (hb.cell (p := ⟨sb, _, none⟩) hsb5 hsg).trans ((cell_block HU5.out _).trans Hp0.out)
    have e1 : w6.cell? ⟨sb, n * 3 + 1, none⟩ = some (.pointer none) := (hb.cell (p := ⟨sb, _, none⟩) hsb5 hsg).trans ((cell_block HU5.out _).trans Hp1.out)
    have hs56 := hb.size
    clear hr hb hdi6 HN6
    by_cases h93 : z6 = 93
    · subst h93
      obtain ⟨t7, ht7⟩ := hd_zero (c := 93) (by decide) Hz6.out
      obtain ⟨hi7, hd7⟩ := drop_in (Hd6.out.trans ht7)
      have HX2 : Hid (X = .whole (.list (d ++ [y])) (s.data.toList.drop (i6 + 1)) m st) := Lib.hid (by rw [← HX.out, hd7]; exact goes_l_close ht7)
      clear HX ht7 hd7
      go_wp2_with fail
      refine (close_any g s i6 m sb n c (.iface 188 (.slice a9 (dl + 1) c9)) _ HR6.out hi7 hs tr tm hfl).mono ?_
      rintro E w7 ⟨rfl, hr, hbt⟩
      have Hr := Lib.hid hr
      have Hbt := Lib.hid hbt
      clear hr hbt
      go_wp2_with fail
      go_ret2
      obtain ⟨T6, hc6, m6, hj6⟩ := core_close (HC6.out.but Hbt.out) Hn.out
      exact outE_of (out_whole HX2.out ⟨i6 + 1, _, fs, T6, hi7, rfl, Hr.out, hc6, m6, hj6⟩ (HB6.out.trans (below_but Hbt.out hgw6)))
    have n93 : (z6 == 93) = false := by rw [beq_eq_false_iff_ne]; exact h93
    by_cases h44 : z6 = 44
    · subst h44
      obtain ⟨t7, ht7⟩ := hd_zero (c := 44) (by decide) Hz6.out
      obtain ⟨hi7, hd7⟩ := drop_in (Hd6.out.trans ht7)
      have HX2 : Hid (X = .more (s.data.toList.drop (i6 + 1)) m (.lst (d ++ [y]) :: st)) := Lib.hid (by rw [← HX.out, hd7]; exact goes_l_more ht7)
      have k1 : w6.cell? ⟨g, 1, none⟩ = some (.int .i64 (i6 : Int)) := cell_block HR6.out 1
      have z1 : w6.frozen? ⟨g, 1, none⟩ = false := free_block HR6.out 1
      have ww1 : IntKind.i64.wrap ((i6 : Int) + 1) = (i6 : Int) + 1 := IntWalk.i64_in _ (by omega)
      clear HX ht7 hd7 h93
      go_upto_region 15 with fail
      generalize hW : World.setCell _ ⟨g, 1, none⟩ _ = W7
      have hR7 : RdAt g s (i6 + 1) m (.slice (some ⟨sb, 0, none⟩) (n + 1) c) 0 W7 := by rw [← hW]; exact RdAt.cast (touch_setCell (w := w6) (i := 1) (v := .int .i64 ((i6 : Int) + 1)) HR6.out).1 (by omega)
      have hB7 : But g w6 W7 := by rw [← hW]; exact But.touch (touch_setCell (w := w6) (i := 1) (v := .int .i64 ((i6 : Int) + 1)) HR6.out).2
      have h7 : W7.cell? ⟨sb, n * 3 + 1, none⟩ = some (.pointer none) := (hB7.cell (p := ⟨sb, _, none⟩) (Nat.lt_of_lt_of_le hsb5 hs56) hsg).trans e1
      have HR7 := Lib.hid hR7
      have HB7 := Lib.hid (HB6.out.trans (below_but hB7 hgw6))
      have HC7 := Lib.hid (HC6.out.but hB7)
      clear hW hR7 hB7 k1 z1 ww1 e0 e1
      go_wp2_with fail
      go_ret2
      exact outE_of (out_more HX2.out ⟨i6 + 1, _, _, T5, hi7, rfl, HR7.out, HC7.out, trivial⟩ HB7.out)
    · have HX2 : Hid (X = .bad 3) := Lib.hid (by rw [← HX.out]; exact goes_l_bad (by rw [Hz6.out]; exact h93) (by rw [Hz6.out]; exact h44))
      have n44 : (z6 == 44) = false := by rw [beq_eq_false_iff_ne]; exact h44
      clear HX h93 h44
      go_wp2_with fail
      refine (fail_any g s i6 m (.slice (some ⟨sb, 0, none⟩) (n + 1) c) 0 3 w6 HR6.out).mono ?_
      rintro E w7 ⟨rfl, hr, hbt⟩
      have Hr := Lib.hid hr
      have Hbt := Lib.hid (HB6.out.trans (below_but hbt hgw6))
      clear hr hbt
      go_wp2_with fail
      go_ret2
      exact outE_of (out_bad HX2.out (by decide) Hr.out Hbt.out)
  · go_enter Tryz.func97, Tryz.ntmps97
    go_wp2_with fail
    go_quiet (fail)
    go_upto_region 6 with fail
    generalize hW : World.drewN w _ = W1
    have hR1 : RdAt g s a m (.slice (some ⟨sb, 0, none⟩) (n + 1) c) 0 W1 := by rw [← hW]; exact H.out
    have hB1 : Below w.heap.size w W1 := by rw [← hW]; exact below_drewN0 w _
    have p0 : W1.cell? ⟨sb, n * 3, none⟩ = some (.slice al dl cl) := by rw [← hW]; exact y0
    have HR1 := Lib.hid hR1
    have HB1 := Lib.hid hB1
    have HO1 : Hid (OwnAt RVal 1 W1 (g + 1) 125 (.slice al dl cl) xs) := Lib.hid (by rw [← hW]; exact Hown.out)
    have hgw1 : g + 1 ≤ W1.heap.size := hR1.lt
    have hsb1 : sb < W1.heap.size := Nat.lt_of_lt_of_le hsb hB1.size
    clear hW hR1 hB1 k3 y1 y0
    go_wp2_with (at_builtin; refine wpList_append_ownAt (R := RVal) (k := 1) (e := 125) (B := g + 1) (l := xs) (m := [_]) _ (by rfl) _ _ _ (by rfl) i0 _ 16 Tryz.underlying188 hi0 hz0 hz1 hz2 rfl (by omega) flat_val one_val _ (by rfl) (HO1.out.alloc stays_val _) (.slice (some ⟨W1.heap.size, 0, none⟩) 1 1) (by rfl) (RowAt.one (R := RVal) (k := 1) (cs := #[_]) (heap_alloc_new W1 _) rfl ⟨rfl, Hv1.out⟩) (by rw [Hxl.out]; unfold maxLen; simp; omega) (by rw [Hxl.out]; simp; omega) (by simp; omega) ?_)
    intro v1 w4 hv1 hg4 _ hn4
    have hA : Below W1.heap.size W1 (W1.alloc (.cells #[.iface tv uv] 125)) := (Below.refl _ _).alloc (Nat.le_refl _) _
    obtain ⟨wA, hwA⟩ : ∃ wA, W1.alloc (.cells #[.iface tv uv] 125) = wA := ⟨_, rfl⟩
    rw [hwA] at hg4 hA
    have hnA : v1.ownBlock = (Value.slice al dl cl).ownBlock ∨ v1.ownBlock = some wA.heap.size := by rw [← hwA]; simpa only [World.size_alloc] using hn4
    obtain ⟨a9, c9, e9, _⟩ := hv1.row.len
    have hlen : ∀ u : Value, (xs ++ [u]).length = dl + 1 := fun u => by rw [List.length_append, List.length_singleton, Hxl.out]
    rw [hlen] at e9
    subst e9
    have hA0 : Below w.heap.size w wA := HB1.out.trans (hA.mono HB1.out.size)
    have hlb : ∀ b, (Value.slice al dl cl).ownBlock = some b → g + 1 ≤ b ∧ ∃ cur, W1.heap[b]? = some (.cells cur 125 (0, 0)) := fun b hb => ⟨(HO1.out.at hb).1, (HO1.out.at hb).2.2⟩
    have hTa1 : W1.heap[sb]? = some (.cells cur 223 (0, 0)) := below_block HB1.out Ta.out
    have hTa4 : w4.heap[sb]? = some (.cells cur 223 (0, 0)) := (grown_block hg4 (Nat.lt_of_lt_of_le hsb1 hA.size) (fun e => by obtain ⟨_, cc, k⟩ := hlb sb e; exact no_type hTa1 k)).trans ((hA.block sb hsb1).trans hTa1)
    have hR4 : RdAt g s a m (.slice (some ⟨sb, 0, none⟩) (n + 1) c) 0 w4 := (grown_block hg4 (Nat.lt_of_lt_of_le HR1.out.lt hA.size) (fun e => by have := (hlb g e).1; omega)).trans ((hA.block g HR1.out.lt).trans HR1.out)
    have hB4 : Below g w w4 := (HB1.out.mono (Nat.le_of_lt hgw)).trans ⟨hg4.os.trans hA.os, hg4.tape.trans hA.tape, hg4.output.trans hA.output, Nat.le_trans hA.size hg4.size, fun b hb => (grown_block hg4 (by have := hA.size; omega) (fun e => by have := (hlb b e).1; omega)).trans (hA.block b (by omega))⟩
    have HR4 := Lib.hid hR4
    have HB4 := Lib.hid hB4
    have HTa4 := Lib.hid hTa4
    have HV4 := Lib.hid hv1
    have HG4 := Lib.hid hg4
    have HN4 := Lib.hid hnA
    have HA0 := Lib.hid hA0
    have d4 : w4.cell? ⟨sb, n * 3, none⟩ = some (.slice al dl cl) := (cell_block hTa4 _).trans ((cell_block hTa1 _).symm.trans p0)
    have z4 : w4.frozen? ⟨sb, n * 3, none⟩ = false := free_block hTa4 _
    clear hv1 hg4 hn4 hA hwA hnA hlen hA0 hlb hTa1 hTa4 hR4 hB4 HR1 HB1 HO1 p0
    go_upto_region 7 with fail
    generalize hW : World.setCell _ ⟨sb, n * 3, none⟩ _ = W5
    obtain ⟨u1, u2⟩ : W5.heap[sb]? = some (.cells (cur.setIfInBounds (n * 3) (.slice a9 (dl + 1) c9)) 223 (0, 0)) ∧ Touch sb w4 W5 := by rw [← hW]; exact touch_setCell (w := w4) (i := n * 3) (v := .slice a9 (dl + 1) c9) HTa4.out
    obtain ⟨hcore, hkeep⟩ := core_app (n := nn) Hc.out Htop.out HA0.out (by rw [Hxl.out, Hdl.out]) Hxs.out Hjv.out HV4.out (by rw [Hlv.out]; exact HG4.out) (by rw [Hlv.out]; exact HN4.out) (by rw [Hn.out]; exact u1) u2
    obtain ⟨T5, hT5⟩ : ∃ T', T ++ (Value.slice a9 (dl + 1) c9).ownBlock.toList = T' := ⟨_, rfl⟩
    rw [hT5] at hcore
    have HC5 := Lib.hid hcore
    have hR5 : RdAt g s a m (.slice (some ⟨sb, 0, none⟩) (n + 1) c) 0 W5 := (u2.other g (fun e => hsg e.symm)).trans HR4.out
    have HR5 := Lib.hid hR5
    have HB5 : Hid (Below g w W5) := Lib.hid (u2.below HB4.out hgs)
    have HU5 := Lib.hid u1
    have hgw5 := hR5.lt
    have hsb5 : sb < W5.heap.size := blk_lt u1
    have hin : n * 3 + 1 < cur.size := by rw [Htop.out.size]; omega
    have hp0 : (cur.setIfInBounds (n * 3) (.slice a9 (dl + 1) c9))[n * 3]? = some (.slice a9 (dl + 1) c9) := Array.getElem?_setIfInBounds_self_of_lt (by omega)
    have hp1 : (cur.setIfInBounds (n * 3) (.slice a9 (dl + 1) c9))[n * 3 + 1]? = some (.pointer none) := by rw [Array.getElem?_setIfInBounds_ne (by omega), ← Hn.out, Htop.out.pv, Hpq.out]
    have Hp0 := Lib.hid hp0
    have Hp1 := Lib.hid hp1
    clear hW u1 u2 hcore hkeep hT5 hR5 hin hp0 hp1 HR4 HB4 HTa4 HV4 HG4 HN4 HA0 d4 z4
    obtain ⟨z6, hz6⟩ : ∃ z, hdN (JP.skip (s.data.toList.drop a)) = z := ⟨_, rfl⟩
    have hn6 := next_any g s a m (.slice (some ⟨sb, 0, none⟩) (n + 1) c) 0 W5 HR5.out ha hs
    rw [hz6] at hn6
    have HN6 := Lib.hid hn6
    have Hz6 := Lib.hid hz6
    clear hn6 hz6
    go_wp2_with fail
    refine HN6.out.mono ?_
    rintro E w6 ⟨rfl, ⟨i6, hi6, hdi6, hr⟩, hb⟩
    have HR6 := Lib.hid hr
    have HB6 := Lib.hid (HB5.out.trans (below_but hb hgw5))
    have HC6 := Lib.hid (HC5.out.but hb)
    have Hd6 := Lib.hid hdi6
    have hgw6 := hr.lt
    have e0 : w6.cell? ⟨sb, n * 3, none⟩ = some (.slice a9 (dl + 1) c9) := (hb.cell (p := ⟨sb, _, none⟩) hsb5 hsg).trans ((cell_block HU5.out _).trans Hp0.out)
    have e1 : w6.cell? ⟨sb, n * 3 + 1, none⟩ = some (.pointer none) := (hb.cell (p := ⟨sb, _, none⟩) hsb5 hsg).trans ((cell_block HU5.out _).trans Hp1.out)
    have hs56 := hb.size
    clear hr hb hdi6 HN6
    by_cases h93 : z6 = 93
    · subst h93
      obtain ⟨t7, ht7⟩ := hd_zero (c := 93) (by decide) Hz6.out
      obtain ⟨hi7, hd7⟩ := drop_in (Hd6.out.trans ht7)
      have HX2 : Hid (X = .whole (.list (d ++ [y])) (s.data.toList.drop (i6 + 1)) m st) := Lib.hid (by rw [← HX.out, hd7]; exact goes_l_close ht7)
      clear HX ht7 hd7
      go_wp2_with fail
      refine (close_any g s i6 m sb n c (.iface 188 (.slice a9 (dl + 1) c9)) _ HR6.out hi7 hs tr tm hfl).mono ?_
      rintro E w7 ⟨rfl, hr, hbt⟩
      have Hr := Lib.hid hr
      have Hbt := Lib.hid hbt
      clear hr hbt
      go_wp2_with fail
      go_ret2
      obtain ⟨T6, hc6, m6, hj6⟩ := core_close (HC6.out.but Hbt.out) Hn.out
      exact outE_of (out_whole HX2.out ⟨i6 + 1, _, fs, T6, hi7, rfl, Hr.out, hc6, m6, hj6⟩ (HB6.out.trans (below_but Hbt.out hgw6)))
    have n93 : (z6 == 93) = false := by rw [beq_eq_false_iff_ne]; exact h93
    by_cases h44 : z6 = 44
    · subst h44
      obtain ⟨t7, ht7⟩ := hd_zero (c := 44) (by decide) Hz6.out
      obtain ⟨hi7, hd7⟩ := drop_in (Hd6.out.trans ht7)
      have HX2 : Hid (X = .more (s.data.toList.drop (i6 + 1)) m (.lst (d ++ [y]) :: st)) := Lib.hid (by rw [← HX.out, hd7]; exact goes_l_more ht7)
      have k1 : w6.cell? ⟨g, 1, none⟩ = some (.int .i64 (i6 : Int)) := cell_block HR6.out 1
      have z1 : w6.frozen? ⟨g, 1, none⟩ = false := free_block HR6.out 1
      have ww1 : IntKind.i64.wrap ((i6 : Int) + 1) = (i6 : Int) + 1 := IntWalk.i64_in _ (by omega)
      clear HX ht7 hd7 h93
      go_upto_region 15 with fail
      generalize hW : World.setCell _ ⟨g, 1, none⟩ _ = W7
      have hR7 : RdAt g s (i6 + 1) m (.slice (some ⟨sb, 0, none⟩) (n + 1) c) 0 W7 := by rw [← hW]; exact RdAt.cast (touch_setCell (w := w6) (i := 1) (v := .int .i64 ((i6 : Int) + 1)) HR6.out).1 (by omega)
      have hB7 : But g w6 W7 := by rw [← hW]; exact But.touch (touch_setCell (w := w6) (i := 1) (v := .int .i64 ((i6 : Int) + 1)) HR6.out).2
      have h7 : W7.cell? ⟨sb, n * 3 + 1, none⟩ = some (.pointer none) := (hB7.cell (p := ⟨sb, _, none⟩) (Nat.lt_of_lt_of_le hsb5 hs56) hsg).trans e1
      have HR7 := Lib.hid hR7
      have HB7 := Lib.hid (HB6.out.trans (below_but hB7 hgw6))
      have HC7 := Lib.hid (HC6.out.but hB7)
      clear hW hR7 hB7 k1 z1 ww1 e0 e1
      go_wp2_with fail
      go_ret2
      exact outE_of (out_more HX2.out ⟨i6 + 1, _, _, T5, hi7, rfl, HR7.out, HC7.out, trivial⟩ HB7.out)
    · have HX2 : Hid (X = .bad 3) := Lib.hid (by rw [← HX.out]; exact goes_l_bad (by rw [Hz6.out]; exact h93) (by rw [Hz6.out]; exact h44))
      have n44 : (z6 == 44) = false := by rw [beq_eq_false_iff_ne]; exact h44
      clear HX h93 h44
      go_wp2_with fail
      refine (fail_any g s i6 m (.slice (some ⟨sb, 0, none⟩) (n + 1) c) 0 3 w6 HR6.out).mono ?_
      rintro E w7 ⟨rfl, hr, hbt⟩
      have Hr := Lib.hid hr
      have Hbt := Lib.hid (HB6.out.trans (below_but hbt hgw6))
      clear hr hbt
      go_wp2_with fail
      go_ret2
      exact outE_of (out_bad HX2.out (by decide) Hr.out Hbt.out)
end Go.Proofs.YtnnceaapodgfbaaGreatDoor
namespace Go.Proofs.YtnnceaapodgfbaaGreatDoor
open Go.RowKit
open JP (JV Bs Fr)
theorem lenL_ge : ∀ d : List JV, d.length ≤ JP.lenL d
  | [] => Nat.le_refl _
  | v :: r => by have := lenL_ge r; simp only [JP.lenL, List.length_cons]; omega
theorem lenF_ge : ∀ d : List (Bs × JV), d.length ≤ JP.lenF d
  | [] => Nat.le_refl _
  | (n, v) :: r => by have := lenF_ge r; simp only [JP.lenF, List.length_cons]; omega
theorem goes_any {g : Nat} {s : ByteArray} {r : Bs} {m : Nat} {f : Fr} {st : List Fr} {w : World} {v : Value} {y : JV} (h : RS g s r m (f :: st) (some (v, y)) w) (hs : s.size ≤ 1048576) (hi : JP.Inv 2000 (.whole y r m (f :: st))) :
    Calls Tryz.prog 97 #[.pointer (some ⟨g, 0, none⟩), v] w (OutE g s w (JP.goesP y r m f st)) := by
  obtain ⟨a, vst, fs, T, ha, rfl, hr, hc, n, hv⟩ := h
  obtain ⟨i1, _, _, _, _, i6⟩ := hi
  have hst := JP.stOK_len i6
  have hl := hc.all.len
  cases fs with
  | nil => simp at hl
  | cons f' fs =>
    rw [List.length_cons, List.length_cons] at hl
    rw [List.length_cons] at hst
    simp only [JP.wlenS, List.map_cons, List.sum_cons] at i1
    cases f with
    | lst d =>
      have := lenL_ge d
      simp only [JP.wlen] at i1
      exact goes_lst g s a m vst f' fs T d st w v y n hr hc hv ha hs (by omega) (by omega)
    | ob d nm =>
      have := lenF_ge d
      simp only [JP.wlen] at i1
      exact goes_ob g s a m vst f' fs T d nm st w v y n hr hc hv ha hs (by omega) (by omega)
theorem below_drewNj {B : Nat} {a w : World} (h : Below B a w) (n : Nat) : Below B a (w.drewN n) := ⟨h.os, h.tape, h.output, h.size, h.block⟩
def StM (g : Nat) (s : ByteArray) (x : JP.R) (w : World) : Prop := match x with
  | .bad er => RBad g s er w
  | .more r m st => RS g s r m st none w
  | .whole _ _ _ _ => False
def StW (g : Nat) (s : ByteArray) (x : JP.R) (v : Value) (b : Bool) (w : World) : Prop := match x with
  | .bad er => RBad g s er w
  | .whole y r m st => b = true ∧ RS g s r m st (some (v, y)) w
  | .more r m st => b = false ∧ RS g s r m st none w
theorem outE_st {g : Nat} {s : ByteArray} {w w' : World} {x : JP.R} {e : Ending} (h : OutE g s w x e w') : ∃ v b, e = .returned (.tuple #[v, .bool b]) ∧ Below g w w' ∧ StW g s x v b w' := by
  obtain ⟨v, b, h1, h2, h3⟩ := h
  exact ⟨v, b, h1, h2, h3⟩
theorem ret_pair {a : Value} {i j : Int} (h : i = j) : Ending.returned (.tuple #[a, .int .i64 i]) = .returned (.tuple #[a, .int .i64 j]) := by rw [h]
theorem row_empty {g : Nat} {T : List Nat} {w : World} {vst : Value} (h : Core g T w vst [] []) : ∃ p c, vst = .slice p 0 c := by
  obtain ⟨a, c, e, _⟩ := h.row.row.len
  exact ⟨a, c, e⟩
set_option maxRecDepth 100000 in
set_option maxHeartbeats 12800000 in
theorem read_low (s : ByteArray) (w : World) (hs : s.size ≤ 1048576) :
    Calls Tryz.prog 66 #[.string s] w fun e w' => ∃ v, e = .returned (.tuple #[v, .int .i64 (JP.readL s.data.toList).2]) ∧ (∃ n, ∀ T0 : List Nat, (∀ b ∈ T0, b < w.heap.size) → JvAt n T0 w' v (JP.readL s.data.toList).1) ∧ Below w.heap.size w w' := by
  have hsl : s.data.toList.length = s.size := by rw [Array.length_toList]; rfl
  obtain ⟨F, HF⟩ : ∃ F, Hid (JP.readL s.data.toList = F) := ⟨_, Lib.hid rfl⟩
  rw [HF.out]
  by_cases hlg : 2000 < s.size
  · have HF2 : Hid (F = (.nul, 2)) := Lib.hid (by rw [← HF.out]; unfold JP.readL; rw [if_pos (by omega)])
    have p1 : (2000 : Int) < (s.size : Int) := by omega
    clear HF hsl
    go_enter Tryz.func66, Tryz.ntmps66
    go_wp2_with fail
    go_ret2
    exact ⟨_, ret_pair (by rw [HF2.out]), ⟨1, fun T0 _ => by rw [HF2.out]; rfl⟩, Below.refl _ _⟩
  have p1 : ¬ (2000 : Int) < (s.size : Int) := by omega
  have HF2 : Hid (JP.fin (.more s.data.toList 0 []) = F) := Lib.hid (by rw [← HF.out]; unfold JP.readL; rw [if_neg (by omega)])
  have HI0 : Hid (JP.Inv 2000 (.more s.data.toList 0 [])) := Lib.hid ⟨by show s.data.toList.length + 0 ≤ 2000; omega, rfl, by omega, trivial⟩
  clear HF hsl hlg
  go_enter Tryz.func66, Tryz.ntmps66
  go_wp2_with fail
  go_loopg [] (JP.mu (.more s.data.toList 0 [])) (fun k wr => ∃ x : JP.R, JP.mu x ≤ k ∧ Hid (JP.fin x = F) ∧ Hid (JP.Inv 2000 x) ∧ Hid (StM w.heap.size s x wr) ∧ Hid (Below w.heap.size w wr))
  case atStart =>
    refine ⟨.more s.data.toList 0 [], Nat.le_refl _, HF2, HI0, Lib.hid ⟨0, .slice none 0 0, [], List.range (w.heap.size + 1), by omega, List.drop_zero, heap_alloc_new w _, ?_, trivial⟩, Lib.hid ((Below.refl _ _).alloc (Nat.le_refl _) _)⟩
    refine ⟨OwnAt.nil _, List.mem_range.2 (by omega), fun b hb => (by cases hb), fun b hb => ?_, List.nodup_nil, trivial⟩
    exact ⟨fun k hk => List.mem_range.2 (by omega), by rw [World.size_alloc]; have := List.mem_range.1 hb; omega⟩
  case round =>
    obtain ⟨x, hxk, HFx, HIx, HS, HB⟩ := hrel
    cases x with
    | whole y r m st => exact HS.out.elim
    | bad er =>
      obtain ⟨h0, a, m, vst, hr⟩ := HS.out
      have k4 : wr.cell? ⟨w.heap.size, 4, none⟩ = some (.int .i64 er) := cell_block hr 4
      have q0 : (er == 0) = false := by rw [beq_eq_false_iff_ne]; exact h0
      have HF3 : Hid (F = (.nul, er)) := Lib.hid (by rw [← HFx.out, JP.fin_bad])
      clear hr h0 HFx HIx HS
      go_wp2_with fail
      go_quiet (fail)
      go_wp2_with fail
      go_ret2
      exact ⟨_, ret_pair (by rw [HF3.out]), ⟨1, fun T0 _ => by rw [HF3.out]; rfl⟩, below_drewNj HB.out _⟩
    | more r m st =>
      have HI1 := Lib.hid (JP.begin_inv HIx.out)
      have HF1 : Hid (JP.fin (JP.beginP r m st) = F) := Lib.hid (by rw [← JP.fin_more]; exact HFx.out)
      have hmu := JP.begin_mu r m st
      obtain ⟨a, vst, fs, T, ha, rfl, hr, hc, _⟩ := HS.out
      obtain ⟨_, _, hm, hst⟩ := HIx.out
      have HC := Lib.hid (begin_any w.heap.size s a m vst fs T st wr hr hc ha hs (by omega) (JP.stOK_len hst))
      have k4 : wr.cell? ⟨w.heap.size, 4, none⟩ = some (.int .i64 0) := cell_block hr 4
      obtain ⟨x1, hx1⟩ : ∃ x1, JP.beginP (s.data.toList.drop a) m st = x1 := ⟨_, rfl⟩
      rw [hx1] at HI1 HF1 hmu HC
      obtain ⟨K, hK⟩ : ∃ K, JP.mu x1 = K := ⟨_, rfl⟩
      have hKk : K < gk := by rw [← hK]; omega
      have hK1 : JP.mu x1 ≤ K := Nat.le_of_eq hK
      clear hr hc hm hst hx1 HS HIx HFx hmu hxk hK
      go_wp2_with fail
      refine HC.out.mono ?_
      intro E w1 he
      obtain ⟨v1, b1, rfl, hb1, hs1⟩ := outE_st he
      have HS1 := Lib.hid hs1
      have HB1 := Lib.hid (HB.out.trans hb1)
      clear he hb1 hs1 HC k4 HB
      go_wp2_with fail
      go_loopg [5, 6] K (fun k2 u5 u6 wr2 => ∃ (x : JP.R) (b : Bool), u6 = .bool b ∧ JP.mu x ≤ k2 ∧ JP.mu x ≤ K ∧ Hid (JP.fin x = F) ∧ Hid (JP.Inv 2000 x) ∧ Hid (StW w.heap.size s x u5 b wr2) ∧ Hid (Below w.heap.size w wr2))
      case atStart => exact ⟨x1, b1, rfl, hK1, hK1, HF1, HI1, HS1, HB1⟩
      case round =>
        obtain ⟨x, b, rfl, hxk, hxK, HFx, HIx, HS, HB⟩ := hrel
        cases x with
        | bad er =>
          obtain ⟨h0, a, m, vst, hr⟩ := HS.out
          have k4 : wr.cell? ⟨w.heap.size, 4, none⟩ = some (.int .i64 er) := cell_block hr 4
          have q0 : (er == 0) = false := by rw [beq_eq_false_iff_ne]; exact h0
          have HS2 : Hid (StM w.heap.size s (.bad er) wr) := Lib.hid ⟨h0, a, m, vst, hr⟩
          clear hr h0 HS
          cases b
          · go_wp2_with fail
            go_roundg K
            case measure => omega
            case rel => exact ⟨.bad er, hxK, HFx, HIx, HS2, HB⟩
          · go_wp2_with fail
            go_roundg K
            case measure => omega
            case rel => exact ⟨.bad er, hxK, HFx, HIx, HS2, HB⟩
        | more r m st =>
          obtain ⟨rfl, hrs⟩ := HS.out
          have HS2 : Hid (StM w.heap.size s (.more r m st) wr) := Lib.hid hrs
          clear hrs HS
          go_wp2_with fail
          go_roundg K
          case measure => omega
          case rel => exact ⟨.more r m st, hxK, HFx, HIx, HS2, HB⟩
        | whole y r m st =>
          obtain ⟨rfl, hrs⟩ := HS.out
          have Hrs := Lib.hid hrs
          obtain ⟨a, vst, fs, T, ha, hda, hr, hc, ny, hv⟩ := hrs
          have k4 : wr.cell? ⟨w.heap.size, 4, none⟩ = some (.int .i64 0) := cell_block hr 4
          have k3 : wr.cell? ⟨w.heap.size, 3, none⟩ = some vst := cell_block hr 3
          have Hda := Lib.hid hda
          have Hr := Lib.hid hr
          have Hc := Lib.hid hc
          have Hv := Lib.hid hv
          clear hr hda hv HS
          cases st with
          | nil =>
            have hfs : fs = [] := List.eq_nil_of_length_eq_zero hc.all.len
            subst hfs
            obtain ⟨p, c, rfl⟩ := row_empty hc
            have Hc9 := Lib.hid hc
            clear hc
            have HN := Lib.hid (next_any w.heap.size s a m (.slice p 0 c) 0 wr Hr.out ha hs)
            go_wp2_with fail
            refine HN.out.mono ?_
            rintro E w2 ⟨rfl, ⟨i, hi, hdi, hr⟩, hb⟩
            have k0 : w2.cell? ⟨w.heap.size, 0, none⟩ = some (.string s) := cell_block hr 0
            have k1 : w2.cell? ⟨w.heap.size, 1, none⟩ = some (.int .i64 (i : Int)) := cell_block hr 1
            have HR2 := Lib.hid hr
            have HB2 := Lib.hid (HB.out.trans (below_but hb Hr.out.lt))
            have HV2 := Lib.hid (Hv.out.keepT (KeepT.but hb Hc9.out.gT))
            have Hdi := Lib.hid (hdi.trans (by rw [Hda.out]))
            have HFx2 := Lib.hid ((JP.fin_end y r m).symm.trans HFx.out)
            clear hr hb hdi HN k3 k4 Hr Hv HFx
            by_cases hil : i < s.size
            · have HF3 : Hid (JP.fin (.bad 3) = F) := Lib.hid (by rw [JP.fin_bad, ← HFx2.out, if_neg (fun e => by rw [← Hdi.out, drop_at hil] at e; cases e)])
              have q1 : (i : Int) < (s.size : Int) := by omega
              have HI3 : Hid (JP.Inv 2000 (.bad 3)) := Lib.hid (show (3 : Int) ≠ 0 by decide)
              clear HFx2 Hdi hil
              go_wp2_with fail
              go_quiet (fail)
              go_wp2_with fail
              refine (fail_any w.heap.size s i m (.slice p 0 c) 0 3 _ (HR2.out.drew _)).mono ?_
              rintro E w3 ⟨rfl, hr, hbt⟩
              have HS3 : Hid (StM w.heap.size s (.bad 3) w3) := Lib.hid (rbad_of (show RdAt w.heap.size s i m (.slice p 0 c) 3 w3 from hr) (by decide))
              have HB3 := Lib.hid ((below_drewNj HB2.out _).trans (below_but hbt (show w.heap.size < w2.heap.size from HR2.out.lt)))
              clear hr hbt
              go_wp2_with fail
              go_roundg K
              case measure => omega
              case rel => exact ⟨.bad 3, by show 0 ≤ K; omega, HF3, HI3, HS3, HB3⟩
            · have q1 : ¬ (i : Int) < (s.size : Int) := by omega
              have HF3 : Hid (F = (y, 0)) := Lib.hid (by rw [← HFx2.out, if_pos (by rw [← Hdi.out, drop_end (by omega)])])
              clear HFx2 Hdi hil
              go_wp2_with fail
              go_quiet (fail)
              go_wp2_with fail
              go_ret2
              exact ⟨_, ret_pair (by rw [HF3.out]), ⟨ny, fun T0 hT0 => by rw [HF3.out]; exact (HV2.out.fresh (T' := T0) (fun b hb => .inl ((Hc9.out.low _ Hc9.out.gT).1 b (hT0 b hb)))).keepT (KeepT.drewN _ _)⟩, below_drewNj HB2.out _⟩
          | cons f st =>
            obtain ⟨sb, n, c, hvs⟩ : ∃ sb n c, vst = .slice (some ⟨sb, 0, none⟩) (n + 1) c := by
              cases fs with
              | nil => have := hc.all.len; simp at this
              | cons f' fs =>
                obtain ⟨sb, c, cur, ht⟩ := hc.top
                exact ⟨sb, _, c, ht.v⟩
            subst hvs
            have HC := Lib.hid (goes_any Hrs.out hs HIx.out)
            have HI1 := Lib.hid (JP.goes_inv HIx.out)
            have HF1 : Hid (JP.fin (JP.goesP y r m f st) = F) := Lib.hid (by rw [← JP.fin_whole]; exact HFx.out)
            have hmu := JP.goes_mu y r m f st
            obtain ⟨x1, hx1⟩ : ∃ x1, JP.goesP y r m f st = x1 := ⟨_, rfl⟩
            rw [hx1] at HI1 HF1 hmu HC
            obtain ⟨K2, hK2⟩ : ∃ K, JP.mu x1 = K := ⟨_, rfl⟩
            have hKk2 : K2 < gk := by rw [← hK2]; omega
            have hK3 : JP.mu x1 ≤ K2 := Nat.le_of_eq hK2
            have hK4 : JP.mu x1 ≤ K := by omega
            have e0 : (((n + 1 : Nat) : Int) == 0) = false := by rw [beq_eq_false_iff_ne]; omega
            have e1 : (((n : Int) + 1) == 0) = false := by rw [beq_eq_false_iff_ne]; omega
            clear hc hx1 HIx HFx hmu hxk hxK hK2 Hrs Hr Hv Hda ha
            go_wp2_with fail
            refine HC.out.mono ?_
            intro E w2 he
            obtain ⟨v1, b1, rfl, hb1, hs1⟩ := outE_st he
            have HS1 := Lib.hid hs1
            have HB1 := Lib.hid (HB.out.trans hb1)
            clear he hb1 hs1 HC k4 k3
            go_wp2_with fail
            go_roundg K2
            case measure => omega
            case rel => exact ⟨x1, b1, rfl, hK3, hK4, HF1, HI1, HS1, HB1⟩
theorem read_any (s : ByteArray) (w : World) (hs : s.size ≤ 1048576) :
    Calls Tryz.prog 66 #[.string s] w fun e w' => ∃ v, e = .returned (.tuple #[v, .int .i64 (JP.readL s.data.toList).2]) ∧ (∃ n, JvAt n [] w' v (JP.readL s.data.toList).1) ∧ Below w.heap.size w w' :=
  (read_low s w hs).mono fun _ _ ⟨v, h1, ⟨n, h2⟩, h3⟩ => ⟨v, h1, ⟨n, h2 [] (fun _ h => by cases h)⟩, h3⟩
end Go.Proofs.YtnnceaapodgfbaaGreatDoor
namespace Go.Proofs.YtnnceaapodgfbaaGreatDoor
open Go
theorem as_nil  : (∀ w : World, (Instr.typeAssert (.nilIface) 125 4 true).run Tryz.prog w = .ok (.tuple #[.bool false, .bool false]) w) ∧ (∀ w : World, (Instr.typeAssert (.nilIface) 125 2 true).run Tryz.prog w = .ok (.tuple #[.int .i64 0, .bool false]) w) ∧ (∀ w : World, (Instr.typeAssert (.nilIface) 125 9 true).run Tryz.prog w = .ok (.tuple #[.string ⟨#[]⟩, .bool false]) w) ∧ (∀ w : World, (Instr.typeAssert (.nilIface) 125 188 true).run Tryz.prog w = .ok (.tuple #[.slice none 0 0, .bool false]) w) ∧ (∀ w : World, (Instr.typeAssert (.nilIface) 125 190 true).run Tryz.prog w = .ok (.tuple #[.pointer none, .bool false]) w) := ⟨fun w => by kernel_rfl, fun w => by kernel_rfl, fun w => by kernel_rfl, fun w => by kernel_rfl, fun w => by kernel_rfl⟩
theorem as_bool (u : Value) : (∀ w : World, (Instr.typeAssert (.iface 4 u) 125 4 true).run Tryz.prog w = .ok (.tuple #[u, .bool true]) w) ∧ (∀ w : World, (Instr.typeAssert (.iface 4 u) 125 2 true).run Tryz.prog w = .ok (.tuple #[.int .i64 0, .bool false]) w) ∧ (∀ w : World, (Instr.typeAssert (.iface 4 u) 125 9 true).run Tryz.prog w = .ok (.tuple #[.string ⟨#[]⟩, .bool false]) w) ∧ (∀ w : World, (Instr.typeAssert (.iface 4 u) 125 188 true).run Tryz.prog w = .ok (.tuple #[.slice none 0 0, .bool false]) w) ∧ (∀ w : World, (Instr.typeAssert (.iface 4 u) 125 190 true).run Tryz.prog w = .ok (.tuple #[.pointer none, .bool false]) w) := ⟨fun w => by kernel_rfl, fun w => by kernel_rfl, fun w => by kernel_rfl, fun w => by kernel_rfl, fun w => by kernel_rfl⟩
theorem as_int64 (u : Value) : (∀ w : World, (Instr.typeAssert (.iface 2 u) 125 4 true).run Tryz.prog w = .ok (.tuple #[.bool false, .bool false]) w) ∧ (∀ w : World, (Instr.typeAssert (.iface 2 u) 125 2 true).run Tryz.prog w = .ok (.tuple #[u, .bool true]) w) ∧ (∀ w : World, (Instr.typeAssert (.iface 2 u) 125 9 true).run Tryz.prog w = .ok (.tuple #[.string ⟨#[]⟩, .bool false]) w) ∧ (∀ w : World, (Instr.typeAssert (.iface 2 u) 125 188 true).run Tryz.prog w = .ok (.tuple #[.slice none 0 0, .bool false]) w) ∧ (∀ w : World, (Instr.typeAssert (.iface 2 u) 125 190 true).run Tryz.prog w = .ok (.tuple #[.pointer none, .bool false]) w) := ⟨fun w => by kernel_rfl, fun w => by kernel_rfl, fun w => by kernel_rfl, fun w => by kernel_rfl, fun w => by kernel_rfl⟩
theorem as_string (u : Value) : (∀ w : World, (Instr.typeAssert (.iface 9 u) 125 4 true).run Tryz.prog w = .ok (.tuple #[.bool false, .bool false]) w) ∧ (∀ w : World, (Instr.typeAssert (.iface 9 u) 125 2 true).run Tryz.prog w = .ok (.tuple #[.int .i64 0, .bool false]) w) ∧ (∀ w : World, (Instr.typeAssert (.iface 9 u) 125 9 true).run Tryz.prog w = .ok (.tuple #[u, .bool true]) w) ∧ (∀ w : World, (Instr.typeAssert (.iface 9 u) 125 188 true).run Tryz.prog w = .ok (.tuple #[.slice none 0 0, .bool false]) w) ∧ (∀ w : World, (Instr.typeAssert (.iface 9 u) 125 190 true).run Tryz.prog w = .ok (.tuple #[.pointer none, .bool false]) w) := ⟨fun w => by kernel_rfl, fun w => by kernel_rfl, fun w => by kernel_rfl, fun w => by kernel_rfl, fun w => by kernel_rfl⟩
theorem as_list (u : Value) : (∀ w : World, (Instr.typeAssert (.iface 188 u) 125 4 true).run Tryz.prog w = .ok (.tuple #[.bool false, .bool false]) w) ∧ (∀ w : World, (Instr.typeAssert (.iface 188 u) 125 2 true).run Tryz.prog w = .ok (.tuple #[.int .i64 0, .bool false]) w) ∧ (∀ w : World, (Instr.typeAssert (.iface 188 u) 125 9 true).run Tryz.prog w = .ok (.tuple #[.string ⟨#[]⟩, .bool false]) w) ∧ (∀ w : World, (Instr.typeAssert (.iface 188 u) 125 188 true).run Tryz.prog w = .ok (.tuple #[u, .bool true]) w) ∧ (∀ w : World, (Instr.typeAssert (.iface 188 u) 125 190 true).run Tryz.prog w = .ok (.tuple #[.pointer none, .bool false]) w) := ⟨fun w => by kernel_rfl, fun w => by kernel_rfl, fun w => by kernel_rfl, fun w => by kernel_rfl, fun w => by kernel_rfl⟩
theorem as_obj (u : Value) : (∀ w : World, (Instr.typeAssert (.iface 190 u) 125 4 true).run Tryz.prog w = .ok (.tuple #[.bool false, .bool false]) w) ∧ (∀ w : World, (Instr.typeAssert (.iface 190 u) 125 2 true).run Tryz.prog w = .ok (.tuple #[.int .i64 0, .bool false]) w) ∧ (∀ w : World, (Instr.typeAssert (.iface 190 u) 125 9 true).run Tryz.prog w = .ok (.tuple #[.string ⟨#[]⟩, .bool false]) w) ∧ (∀ w : World, (Instr.typeAssert (.iface 190 u) 125 188 true).run Tryz.prog w = .ok (.tuple #[.slice none 0 0, .bool false]) w) ∧ (∀ w : World, (Instr.typeAssert (.iface 190 u) 125 190 true).run Tryz.prog w = .ok (.tuple #[u, .bool true]) w) := ⟨fun w => by kernel_rfl, fun w => by kernel_rfl, fun w => by kernel_rfl, fun w => by kernel_rfl, fun w => by kernel_rfl⟩
end Go.Proofs.YtnnceaapodgfbaaGreatDoor
namespace Go.Proofs.YtnnceaapodgfbaaGreatDoor
open Go.RowKit
open JP (JV Bs)
theorem joinStrs_any {w : World} {v : Value} {l : List ByteArray} (h : RowAt RString 1 w v l) (hl : l.length ≤ 1073741824) (hj : (Lib.join (l.map (·.data.toList)) [44]).length ≤ 1073741824) :
    Calls Tryz.prog 101 #[v, .string ⟨#[44]⟩] w fun e w' => e = .returned (.string (mkB (Lib.join (l.map (·.data.toList)) [44]))) ∧ Below w.heap.size w w' := by
  by_cases h0 : 0 < l.length
  · obtain ⟨b, o, c, rfl, hc, _, hbs, hcell⟩ := h.form h0 (by omega)
    refine Tryz.strings_Join b o c l ⟨#[44]⟩ w (fun j x hx => ?_) hbs (by omega) hc ?_
    · obtain ⟨cs, _, h2, h3⟩ := hcell j x hx
      rw [h3] at h2
      have := h2 0 _ rfl
      simpa using this
    · show (Lib.join (l.map (·.data.toList)) [44]).length ≤ _; omega
  · have hn : l = [] := List.eq_nil_of_length_eq_zero (by omega)
    subst hn
    obtain ⟨a, c, rfl, _, _⟩ := h.len
    refine (Tryz.strings_Join_none a c ⟨#[44]⟩ w).mono ?_
    rintro e w' ⟨rfl, rfl⟩
    exact ⟨rfl, Below.refl _ _⟩
theorem textL_map (l : List JV) : JP.textL l = l.map JP.text := by
  induction l with
  | nil => rfl
  | cons v r ih => rw [JP.textL, ih]; rfl
theorem textF_map (l : List (Bs × JV)) : JP.textF l = l.map fun x => JP.quote x.1 ++ 58 :: JP.text x.2 := by
  induction l with
  | nil => rfl
  | cons x r ih => obtain ⟨n, v⟩ := x; rw [JP.textF, ih]; rfl
theorem mk_map {α : Type} (f : α → Bs) (l : List α) : (l.map fun x => mkB (f x)).map (·.data.toList) = l.map f := by
  rw [List.map_map]
  exact List.map_congr_left fun x _ => mkB_list (f x)
theorem lenL_mem {l : List JV} {x : JV} (h : x ∈ l) : (JP.text x).length + 1 ≤ JP.lenL l := by
  induction l with
  | nil => cases h
  | cons v r ih =>
    rw [JP.lenL]
    rcases List.mem_cons.1 h with rfl | h
    · omega
    · have := ih h; omega
theorem lenL_len (l : List JV) : l.length ≤ JP.lenL l := by
  induction l with
  | nil => simp
  | cons v r ih => rw [JP.lenL, List.length_cons]; omega
theorem lenF_mem {l : List (Bs × JV)} {x : Bs × JV} (h : x ∈ l) : (JP.quote x.1).length + (JP.text x.2).length + 2 ≤ JP.lenF l := by
  induction l with
  | nil => cases h
  | cons v r ih =>
    obtain ⟨n, v⟩ := v
    rw [JP.lenF]
    rcases List.mem_cons.1 h with rfl | h
    · dsimp only; omega
    · have := ih h; omega
theorem lenF_len (l : List (Bs × JV)) : l.length ≤ JP.lenF l := by
  induction l with
  | nil => simp
  | cons v r ih => obtain ⟨n, v⟩ := v; rw [JP.lenF, List.length_cons]; omega
theorem lenL_text (l : List JV) : JP.lenL l ≤ (JP.text (.list l)).length := by
  rcases JP.join_len l with h | rfl
  · rw [JP.text]; simp only [List.length_cons, List.length_append, List.length_nil]; omega
  · simp [JP.lenL]
theorem lenF_text (l : List (Bs × JV)) : JP.lenF l ≤ (JP.text (.obj l)).length := by
  rcases JP.join_lenF l with h | rfl
  · rw [JP.text]; simp only [List.length_cons, List.length_append, List.length_nil]; omega
  · simp [JP.lenF]
theorem quote_size (s : Bs) : s.length ≤ (JP.quote s).length := by
  rw [JP.quote_len]
  have : s.length ≤ (s.flatMap JP.escB).length := by
    induction s with
    | nil => simp
    | cons c r ih =>
      rw [List.flatMap_cons, List.length_append, List.length_cons]
      have : 1 ≤ (JP.escB c).length := by unfold JP.escB; split; · simp
                                          · split; · simp
                                            · split <;> simp
      omega
  omega
theorem ret_mk {a b : Bs} (h : a = b) : Ending.returned (.string (mkB a)) = .returned (.string (mkB b)) := by rw [h]
theorem wrap_mk (a z : UInt8) (j : Bs) : (⟨#[a]⟩ ++ mkB j ++ ⟨#[z]⟩ : ByteArray) = mkB (a :: (j ++ [z])) := by
  rw [← mkB_of (⟨#[a]⟩ ++ mkB j ++ ⟨#[z]⟩ : ByteArray), mkB_inj]
  simp [mkB]
theorem colon_mk (a b : Bs) : (mkB a ++ ⟨#[58]⟩ ++ mkB b : ByteArray) = mkB (a ++ 58 :: b) := by
  rw [← mkB_of (mkB a ++ ⟨#[58]⟩ ++ mkB b : ByteArray), mkB_inj]
  simp [mkB]
theorem below_drew1 (w : World) : Below w.heap.size w w.drew := ⟨rfl, rfl, rfl, Nat.le_refl _, fun _ _ => rfl⟩
theorem formatBool_text (b : Bool) : Lib.formatBool b = JP.text (.bool b) := by cases b <;> rfl
set_option maxRecDepth 100000 in
set_option maxHeartbeats 6400000 in
theorem text_any : ∀ (n : Nat) (v : Value) (x : JV) (w : World), JvAt n [] w v x → (JP.text x).length ≤ 4194304 → TabOK w →
    Calls Tryz.prog 68 #[v] w fun e w' => e = .returned (.string (mkB (JP.text x))) ∧ Below w.heap.size w w' := by
  intro n
  induction n with
  | zero => intro v x w h; cases h
  | succ n ih =>
    intro v x w h hlen htab
    have IH := Lib.hid ih
    have Htab := Lib.hid htab
    clear ih htab
    obtain ⟨i0, hi0, hz0, hz1, hz2⟩ := info_parts Tryz.infoStr
    cases x with
    | nul =>
      obtain rfl : v = .nilIface := h
      obtain ⟨g1, g2, g3, g4, g5⟩ := as_nil
      clear hlen
      go_enter Tryz.func68, Tryz.ntmps68
      go_wp2_with fail
      go_ret
      exact ⟨rfl, Below.refl _ _⟩
    | bool b =>
      obtain rfl : v = .iface 4 (.bool b) := h
      obtain ⟨g1, g2, g3, g4, g5⟩ := as_bool (.bool b)
      clear hlen
      go_enter Tryz.func68, Tryz.ntmps68
      go_wp2_with fail
      refine (Tryz.strconv_FormatBool b w).mono ?_
      rintro E w1 ⟨rfl, rfl⟩
      go_wp2_with fail
      go_ret
      exact ⟨ret_mk (formatBool_text b), Below.refl _ _⟩
    | num k =>
      obtain ⟨rfl, k0, k1⟩ := h
      obtain ⟨g1, g2, g3, g4, g5⟩ := as_int64 (.int .i64 k)
      clear hlen
      go_enter Tryz.func68, Tryz.ntmps68
      go_wp2_with fail
      refine (Tryz.strconv_FormatInt_10 k k0 k1 w Htab.out).mono ?_
      rintro E w1 ⟨rfl, q, os, hw1⟩
      have hb1 : Below w.heap.size w w1 := by rw [hw1]; exact Lib.below_grow _ _ (Nat.le_refl _) _ _
      have Hb1 := Lib.hid hb1
      clear hw1 hb1
      go_wp2_with fail
      go_ret
      exact ⟨ret_mk (by rw [JP.text]), Hb1.out⟩
    | str s =>
      obtain rfl : v = .iface 9 (.string (mkB s)) := h
      obtain ⟨g1, g2, g3, g4, g5⟩ := as_string (.string (mkB s))
      have hs : (mkB s).size ≤ 4194304 := by
        rw [mkB_size]
        rw [JP.text] at hlen
        have := quote_size s
        omega
      have HQ := Lib.hid (quote_any (mkB s) w hs)
      clear hlen hs
      go_enter Tryz.func68, Tryz.ntmps68
      go_wp2_with fail
      refine HQ.out.mono ?_
      rintro E w1 ⟨rfl, hb1⟩
      have Hb1 := Lib.hid hb1
      clear hb1
      go_wp2_with fail
      go_ret
      exact ⟨ret_mk (by rw [JP.text, mkB_list]), Hb1.out⟩
    | list l =>
      obtain ⟨u, rfl, hrow, _⟩ := h
      obtain ⟨a, c, rfl, _, _⟩ := hrow.len
      obtain ⟨g1, g2, g3, g4, g5⟩ := as_list (.slice a l.length c)
      have h1 := lenL_text l
      have h2 := lenL_len l
      have hll : l.length ≤ 4194304 := by omega
      have Hlen : Hid (JP.lenL l ≤ 4194304) := Lib.hid (by omega)
      have Hrow := Lib.hid hrow
      have hjl : (Lib.join (JP.textL l) [44]).length ≤ 4194304 := by
        have : (JP.text (.list l)).length = (Lib.join (JP.textL l) [44]).length + 2 := by rw [JP.text]; simp
        omega
      have Hjl := Lib.hid hjl
      have HT : Hid (JP.text (.list l) = 91 :: (Lib.join (JP.textL l) [44] ++ [93])) := Lib.hid (by rw [JP.text])
      clear hrow hlen h1 h2 hjl
      go_enter Tryz.func68, Tryz.ntmps68
      go_wp2_with fail
      go_loopg [7, 35] l.length (fun k u7 u35 wr => ∃ i : Nat, i + k = l.length ∧ u35 = .int .i64 (i : Int) ∧ Hid (OwnAt RString 1 wr w.heap.size 9 u7 ((l.take i).map fun x => mkB (JP.text x))) ∧ Hid (Below w.heap.size w wr))
      case atStart => exact ⟨0, by omega, rfl, Lib.hid (OwnAt.nil _), Lib.hid (Below.refl _ _)⟩
      case round =>
        obtain ⟨i, hik, rfl, Hown, Hbel⟩ := hrel
        have hsr := Hbel.out.size
        cases gk with
        | zero =>
          obtain rfl : i = l.length := by omega
          have hown := Hown.out
          rw [List.take_of_length_le (Nat.le_refl _)] at hown
          have HJ := Lib.hid (joinStrs_any hown.row (by rw [List.length_map]; omega) (by rw [mk_map, ← textL_map]; have := Hjl.out; omega))
          obtain ⟨J, HJe⟩ : ∃ J : Bs, Hid (Lib.join (JP.textL l) [44] = J) := ⟨_, Lib.hid rfl⟩
          rw [mk_map, ← textL_map, HJe.out] at HJ
          have hJs : (mkB J).size ≤ 4194304 := by rw [mkB_size, ← HJe.out]; exact Hjl.out
          rw [HJe.out] at HT
          have q1 : ¬ 9223372036854775807 < 1 + (mkB J).size := by omega
          have q2 : ¬ 9223372036854775807 < 1 + (mkB J).size + 1 := by omega
          clear hown hik hsr
          go_wp2_with fail
          refine HJ.out.mono ?_
          rintro E w1 ⟨rfl, hb1⟩
          have Hb1 := Lib.hid (Hbel.out.trans (hb1.mono Hbel.out.size))
          clear hb1
          go_wp2_with fail
          go_ret
          exact ⟨by rw [HT.out, ← wrap_mk]; rfl, Hb1.out⟩
        | succ k =>
          have hil : i < l.length := by omega
          obtain ⟨x, hx⟩ : ∃ x, l[i]? = some x := ⟨l[i]'(by omega), List.getElem?_eq_getElem _⟩
          obtain ⟨b, o, c', hv, _, _, hbs, hcell⟩ := Hrow.out.form (by omega) (by omega)
          injection hv with u1 u2 u3
          subst u1
          clear u2 u3
          obtain ⟨ds, _, hcc, vx, rfl, hvx⟩ := hcell i x hx
          have e0 : wr.cell? ⟨b, o + i, none⟩ = some vx := (Hbel.out.cell (p := ⟨b, _, none⟩) hbs).trans (by simpa using hcc 0 _ rfl)
          have q1 : (0 : Int) ≤ (i : Int) := by omega
          have q2 : (i : Int) < (l.length : Int) := by omega
          have hmem := lenL_mem (List.mem_of_getElem? hx)
          have HC := Lib.hid (IH.out vx x wr (hvx.below Hbel.out) (by have := Hlen.out; omega) (Htab.out.below Hbel.out))
          have Htk : Hid ((l.take (i + 1)).map (fun x => mkB (JP.text x)) = (l.take i).map (fun x => mkB (JP.text x)) ++ [mkB (JP.text x)]) := Lib.hid (by rw [List.take_add_one, hx, List.map_append]; rfl)
          have hol : ((l.take i).map fun x => mkB (JP.text x)).length ≤ 4194304 := by rw [List.length_map, List.length_take]; omega
          obtain ⟨O, HO⟩ : ∃ O, Hid ((l.take i).map (fun x => mkB (JP.text x)) = O) := ⟨_, Lib.hid rfl⟩
          obtain ⟨t, Ht⟩ : ∃ t, Hid (mkB (JP.text x) = t) := ⟨_, Lib.hid rfl⟩
          rw [HO.out, Ht.out] at Htk
          rw [HO.out] at Hown hol
          rw [Ht.out] at HC
          clear hcell hcc hx hvx hmem
          go_wp2_with fail
          refine HC.out.mono ?_
          rintro E w1 ⟨rfl, hb1⟩
          have Ho1 := Lib.hid (Hown.out.below stays_string hb1)
          have Hb1 := Lib.hid (Hbel.out.trans (hb1.mono Hbel.out.size))
          have hs1 := Hb1.out.size
          clear hb1 e0
          go_wp2_with (at_builtin; refine wpList_append_ownAt (R := RString) (k := 1) (e := 9) (B := w.heap.size) (l := O) (m := [t]) _ (by rfl) _ _ _ (by rfl) i0 _ 16 Tryz.underlying28 hi0 hz0 hz1 hz2 rfl (by omega) flat_string one_string _ (by rfl) (Ho1.out.alloc stays_string _) (.slice (some ⟨w1.heap.size, 0, none⟩) 1 1) (by rfl) (RowAt.one (R := RString) (k := 1) (cs := #[.string t]) (heap_alloc_new w1 _) rfl rfl) (by unfold maxLen; simp; omega) (by simp; omega) (by simp; omega) ?_)
          intro v' w2 hv' hg hr _
          have hb2 : Below w.heap.size w w2 := below_of_grown (Hb1.out.alloc hs1 _) (by simp; omega) hg hr
          have Hb2 := Lib.hid hb2
          have Hv : Hid (OwnAt RString 1 w2 w.heap.size 9 v' ((l.take (i + 1)).map fun x => mkB (JP.text x))) := Lib.hid (by rw [Htk.out]; exact hv')
          clear hv' hg hr hb2
          go_wp2_with fail
          go_roundg k
          case measure => omega
          case rel => exact ⟨i + 1, by omega, by go_num, Hv, Hb2⟩
    | obj l =>
      obtain ⟨q, rfl, _, _, vn, vv, cn, cv, hrn, _, hrv, _⟩ := h
      obtain ⟨an, c1, hu1, _, _⟩ := hrn.len
      obtain ⟨av, c2, hu2, _, _⟩ := hrv.len
      rw [List.length_map] at hu1 hu2
      subst hu1
      subst hu2
      obtain ⟨g1, g2, g3, g4, g5⟩ := as_obj (.pointer (some ⟨q, 0, none⟩))
      have h1 := lenF_text l
      have h2 := lenF_len l
      have hll : l.length ≤ 4194304 := by omega
      have Hlen : Hid (JP.lenF l ≤ 4194304) := Lib.hid (by omega)
      have Hrn := Lib.hid hrn
      have Hrv := Lib.hid hrv
      have hjl : (Lib.join (JP.textF l) [44]).length ≤ 4194304 := by
        have : (JP.text (.obj l)).length = (Lib.join (JP.textF l) [44]).length + 2 := by rw [JP.text]; simp
        omega
      have Hjl := Lib.hid hjl
      have HT : Hid (JP.text (.obj l) = 123 :: (Lib.join (JP.textF l) [44] ++ [125])) := Lib.hid (by rw [JP.text])
      have hqw : q < w.heap.size := World.block_lt_of_cell? w ⟨q, 0, none⟩ cn
      have Cv := Lib.hid cv
      clear hrn hrv hlen h1 h2 hjl cv
      go_enter Tryz.func68, Tryz.ntmps68
      go_wp2_with fail
      clear cn
      go_loopg [11, 57] l.length (fun k u11 u57 wr => ∃ i : Nat, i + k = l.length ∧ u57 = .int .i64 (i : Int) ∧ Hid (OwnAt RString 1 wr w.heap.size 9 u11 ((l.take i).map fun x => mkB (JP.quote x.1 ++ 58 :: JP.text x.2))) ∧ Hid (Below w.heap.size w wr))
      case atStart => exact ⟨0, by omega, rfl, Lib.hid (OwnAt.nil _), Lib.hid (Below.refl _ _)⟩
      case round =>
        obtain ⟨i, hik, rfl, Hown, Hbel⟩ := hrel
        have hsr := Hbel.out.size
        cases gk with
        | zero =>
          obtain rfl : i = l.length := by omega
          have hown := Hown.out
          rw [List.take_of_length_le (Nat.le_refl _)] at hown
          have HJ := Lib.hid (joinStrs_any hown.row (by rw [List.length_map]; omega) (by rw [mk_map, ← textF_map]; have := Hjl.out; omega))
          obtain ⟨J, HJe⟩ : ∃ J : Bs, Hid (Lib.join (JP.textF l) [44] = J) := ⟨_, Lib.hid rfl⟩
          rw [mk_map, ← textF_map, HJe.out] at HJ
          have hJs : (mkB J).size ≤ 4194304 := by rw [mkB_size, ← HJe.out]; exact Hjl.out
          rw [HJe.out] at HT
          have q1 : ¬ 9223372036854775807 < 1 + (mkB J).size := by omega
          have q2 : ¬ 9223372036854775807 < 1 + (mkB J).size + 1 := by omega
          clear hown hik hsr
          go_wp2_with fail
          refine HJ.out.mono ?_
          rintro E w1 ⟨rfl, hb1⟩
          have Hb1 := Lib.hid (Hbel.out.trans (hb1.mono Hbel.out.size))
          clear hb1
          go_wp2_with fail
          go_ret
          exact ⟨by rw [HT.out, ← wrap_mk]; rfl, Hb1.out⟩
        | succ k =>
          have hil : i < l.length := by omega
          obtain ⟨y, hx⟩ : ∃ y, l[i]? = some y := ⟨l[i]'(by omega), List.getElem?_eq_getElem _⟩
          have hxn : (l.map fun x => mkB x.1)[i]? = some (mkB y.1) := by rw [List.getElem?_map, hx]; rfl
          have hxv : (l.map (·.2))[i]? = some y.2 := by rw [List.getElem?_map, hx]; rfl
          obtain ⟨b, o, c', hv, _, _, hbs, hcell⟩ := Hrn.out.form (by rw [List.length_map]; omega) (by omega)
          injection hv with u1 u2 u3
          subst u1
          clear u2 u3
          obtain ⟨b2, o2, c2', hv2, _, _, hbs2, hcell2⟩ := Hrv.out.form (by rw [List.length_map]; omega) (by omega)
          injection hv2 with u1 u2 u3
          subst u1
          clear u2 u3
          obtain ⟨ds, _, hcc, rfl⟩ := hcell i _ hxn
          obtain ⟨es, _, hdd, vx, rfl, hvx⟩ := hcell2 i _ hxv
          have e0 : wr.cell? ⟨b, o + i, none⟩ = some (.string (mkB y.1)) := (Hbel.out.cell (p := ⟨b, _, none⟩) hbs).trans (by simpa using hcc 0 _ rfl)
          have f0 : wr.cell? ⟨b2, o2 + i, none⟩ = some vx := (Hbel.out.cell (p := ⟨b2, _, none⟩) hbs2).trans (by simpa using hdd 0 _ rfl)
          have p1 : wr.cell? ⟨q, 1, none⟩ = some (.slice (some ⟨b2, o2, none⟩) l.length c2) := (Hbel.out.cell (p := ⟨q, 1, none⟩) hqw).trans Cv.out
          have hqr : q < wr.heap.size := Nat.lt_of_lt_of_le hqw hsr
          have hbr2 : b2 < wr.heap.size := Nat.lt_of_lt_of_le hbs2 hsr
          have q1 : (0 : Int) ≤ (i : Int) := by omega
          have q2 : (i : Int) < (l.length : Int) := by omega
          have hmem := lenF_mem (List.mem_of_getElem? hx)
          have hl0 := Hlen.out
          have hns : (mkB y.1).size ≤ 4194304 := by rw [mkB_size]; have := quote_size y.1; omega
          obtain ⟨Q, HQ⟩ : ∃ Q : Bs, Hid (JP.quote y.1 = Q) := ⟨_, Lib.hid rfl⟩
          obtain ⟨X, HX⟩ : ∃ X : Bs, Hid (JP.text y.2 = X) := ⟨_, Lib.hid rfl⟩
          have HC1 : Hid (∀ w', Below wr.heap.size wr w' → Calls Tryz.prog 100 #[.string (mkB y.1)] w' fun e w'' => e = .returned (.string (mkB Q)) ∧ Below w'.heap.size w' w'') := Lib.hid fun w' hb' => by
            refine (quote_any (mkB y.1) w' hns).mono ?_
            rintro E w'' ⟨rfl, hb''⟩
            exact ⟨by rw [mkB_list, HQ.out], hb''⟩
          have HC2 : Hid (∀ w', Below wr.heap.size wr w' → Calls Tryz.prog 68 #[vx] w' fun e w'' => e = .returned (.string (mkB X)) ∧ Below w'.heap.size w' w'') := Lib.hid fun w' hb' => by
            have hbw := Hbel.out.trans (hb'.mono hsr)
            refine (IH.out vx y.2 w' (hvx.below hbw) (by omega) (Htab.out.below hbw)).mono ?_
            rintro E w'' ⟨rfl, hb''⟩
            exact ⟨by rw [HX.out], hb''⟩
          have Htk : Hid ((l.take (i + 1)).map (fun x => mkB (JP.quote x.1 ++ 58 :: JP.text x.2)) = (l.take i).map (fun x => mkB (JP.quote x.1 ++ 58 :: JP.text x.2)) ++ [mkB (Q ++ 58 :: X)]) := Lib.hid (by rw [List.take_add_one, hx, List.map_append, ← HQ.out, ← HX.out]; rfl)
          have hol : ((l.take i).map fun x => mkB (JP.quote x.1 ++ 58 :: JP.text x.2)).length ≤ 4194304 := by rw [List.length_map, List.length_take]; omega
          have hQs : (mkB Q).size ≤ 4194304 := by rw [mkB_size, ← HQ.out]; omega
          have hXs : (mkB X).size ≤ 4194304 := by rw [mkB_size, ← HX.out]; omega
          have q4 : ¬ 9223372036854775807 < (mkB Q).size + 1 := by omega
          have q5 : ¬ 9223372036854775807 < (mkB Q).size + 1 + (mkB X).size := by omega
          obtain ⟨O, HO⟩ : ∃ O, Hid ((l.take i).map (fun x => mkB (JP.quote x.1 ++ 58 :: JP.text x.2)) = O) := ⟨_, Lib.hid rfl⟩
          obtain ⟨t, Ht⟩ : ∃ t, Hid (mkB (Q ++ 58 :: X) = t) := ⟨_, Lib.hid rfl⟩
          have Ht2 : Hid ((mkB Q ++ ⟨#[58]⟩ ++ mkB X : ByteArray) = t) := Lib.hid (by rw [colon_mk]; exact Ht.out)
          rw [HO.out, Ht.out] at Htk
          rw [HO.out] at Hown hol
          clear hcell hcc hcell2 hdd hx hxn hxv hvx hmem hl0
          go_upto_region 26 with fail
          refine wp_region_relB 14 (fun ii U w' => match ii with
            | 0 => U 0 = u11
            | 1 => U 1 = .string (mkB y.1)
            | 2 => U 2 = .string (mkB Q)
            | 3 => U 3 = .string (mkB Q ++ ⟨#[58]⟩)
            | 4 => U 4 = .pointer (some ⟨q, 0, none⟩)
            | 5 => U 5 = .pointer (some ⟨q, 0, none⟩)
            | 6 => U 6 = .pointer (some ⟨q, 1, none⟩)
            | 7 => U 7 = .slice (some ⟨b2, o2, none⟩) l.length c2
            | 8 => U 8 = .int .i64 (i : Int)
            | 9 => U 9 = .pointer (some ⟨b2, o2 + i, none⟩)
            | 10 => U 10 = vx
            | 11 => U 11 = .string (mkB X)
            | 12 => U 12 = .string t
            | 13 => ∃ g, U 13 = .slice (some ⟨g, 0, none⟩) 1 1 ∧ w'.heap[g]? = some (.cells #[.string t] 9 (0, 0))
            | _ => True)
            (fun | 2 => [1] | 3 => [2] | 5 => [4] | 6 => [5] | 7 => [6] | 9 => [7, 8] | 10 => [9] | 11 => [10] | 12 => [3, 11] | 13 => [12] | _ => []) (by kernel_rfl) (by kernel_rfl) ?_ ⟨?_, ?_, ?_, ?_, ?_, ?_, ?_, ?_, ?_, ?_, ?_, ?_, ?_, ?_, trivial⟩ ?_
          · intro j u w1 w2 hb h
            match j, h with
            | 0, h => exact h
            | 1, h => exact h
            | 2, h => exact h
            | 3, h => exact h
            | 4, h => exact h
            | 5, h => exact h
            | 6, h => exact h
            | 7, h => exact h
            | 8, h => exact h
            | 9, h => exact h
            | 10, h => exact h
            | 11, h => exact h
            | 12, h => exact h
            | 13, h => exact (by obtain ⟨g, h1, h2⟩ := h; exact ⟨g, h1, below_block hb h2⟩)
            | _ + 14, h => trivial
          · intro x w' hb hd
            have hbr : Below wr.heap.size wr w' := (below_drew1 wr).trans hb
            refine owes_here u11 (by rfl) ?_ rfl
            simp only [putAll, List.take_succ_cons, List.take_zero]
            go_simp
          · intro x w' hb hd
            have hbr : Below wr.heap.size wr w' := (below_drew1 wr).trans hb
            refine owes_here (.string (mkB y.1)) (by rfl) ?_ rfl
            simp only [putAll, List.take_succ_cons, List.take_zero]
            go_simp
          · intro x w' hb hd
            have hbr : Below wr.heap.size wr w' := (below_drew1 wr).trans hb
            have k1 : x 1 = .string (mkB y.1) := hd 1 (by simp)
            refine owes_call 100 #[.string (mkB y.1)] (by rfl) ?_ ((HC1.out w' hbr).mono fun e w2 h => ⟨_, h.1, rfl, h.2⟩)
            simp only [putAll, List.take_succ_cons, List.take_zero]
            go_simp
          · intro x w' hb hd
            have hbr : Below wr.heap.size wr w' := (below_drew1 wr).trans hb
            have k1 : x 2 = .string (mkB Q) := hd 2 (by simp)
            refine owes_here (.string (mkB Q ++ ⟨#[58]⟩)) (by rfl) ?_ rfl
            simp only [putAll, List.take_succ_cons, List.take_zero]
            go_simp
          · intro x w' hb hd
            have hbr : Below wr.heap.size wr w' := (below_drew1 wr).trans hb
            refine owes_here (.pointer (some ⟨q, 0, none⟩)) (by rfl) ?_ rfl
            simp only [putAll, List.take_succ_cons, List.take_zero]
            go_simp
          · intro x w' hb hd
            have hbr : Below wr.heap.size wr w' := (below_drew1 wr).trans hb
            have k1 : x 4 = .pointer (some ⟨q, 0, none⟩) := hd 4 (by simp)
            refine owes_here (.pointer (some ⟨q, 0, none⟩)) (by rfl) ?_ rfl
            simp only [putAll, List.take_succ_cons, List.take_zero]
            go_simp
          · intro x w' hb hd
            have hbr : Below wr.heap.size wr w' := (below_drew1 wr).trans hb
            have k1 : x 5 = .pointer (some ⟨q, 0, none⟩) := hd 5 (by simp)
            refine owes_here (.pointer (some ⟨q, 1, none⟩)) (by rfl) ?_ rfl
            simp only [putAll, List.take_succ_cons, List.take_zero]
            go_simp
          · intro x w' hb hd
            have hbr : Below wr.heap.size wr w' := (below_drew1 wr).trans hb
            have k1 : x 6 = .pointer (some ⟨q, 1, none⟩) := hd 6 (by simp)
            have d1 := (hbr.cell (p := ⟨q, 1, none⟩) hqr).trans p1
            refine owes_here (.slice (some ⟨b2, o2, none⟩) l.length c2) (by rfl) ?_ rfl
            simp only [putAll, List.take_succ_cons, List.take_zero]
            go_simp
          · intro x w' hb hd
            have hbr : Below wr.heap.size wr w' := (below_drew1 wr).trans hb
            refine owes_here (.int .i64 (i : Int)) (by rfl) ?_ rfl
            simp only [putAll, List.take_succ_cons, List.take_zero]
            go_simp
          · intro x w' hb hd
            have hbr : Below wr.heap.size wr w' := (below_drew1 wr).trans hb
            have k1 : x 7 = .slice (some ⟨b2, o2, none⟩) l.length c2 := hd 7 (by simp)
            have k2 : x 8 = .int .i64 (i : Int) := hd 8 (by simp)
            refine owes_here (.pointer (some ⟨b2, o2 + i, none⟩)) (by rfl) ?_ rfl
            simp only [putAll, List.take_succ_cons, List.take_zero]
            go_simp
          · intro x w' hb hd
            have hbr : Below wr.heap.size wr w' := (below_drew1 wr).trans hb
            have k1 : x 9 = .pointer (some ⟨b2, o2 + i, none⟩) := hd 9 (by simp)
            have d1 := (hbr.cell (p := ⟨b2, o2 + i, none⟩) hbr2).trans f0
            refine owes_here vx (by rfl) ?_ rfl
            simp only [putAll, List.take_succ_cons, List.take_zero]
            go_simp
          · intro x w' hb hd
            have hbr : Below wr.heap.size wr w' := (below_drew1 wr).trans hb
            have k1 : x 10 = vx := hd 10 (by simp)
            refine owes_call 68 #[vx] (by rfl) ?_ ((HC2.out w' hbr).mono fun e w2 h => ⟨_, h.1, rfl, h.2⟩)
            simp only [putAll, List.take_succ_cons, List.take_zero]
            go_simp
          · intro x w' hb hd
            have hbr : Below wr.heap.size wr w' := (below_drew1 wr).trans hb
            have k1 : x 3 = .string (mkB Q ++ ⟨#[58]⟩) := hd 3 (by simp)
            have k2 : x 11 = .string (mkB X) := hd 11 (by simp)
            have hS := Ht2.out
            refine owes_here (.string t) (by rfl) ?_ rfl
            simp only [putAll, List.take_succ_cons, List.take_zero]
            go_simp
          · intro x w' hb hd
            have hbr : Below wr.heap.size wr w' := (below_drew1 wr).trans hb
            have k1 : x 12 = .string t := hd 12 (by simp)
            refine owes_makes (.slice (some ⟨w'.heap.size, 0, none⟩) 1 1) (w' := w'.alloc (.cells #[.string t] 9)) (by rfl) ?_ (⟨_, rfl, heap_alloc_new w' _⟩) ((Below.refl _ _).alloc (Nat.le_refl _) _)
            simp only [putAll, List.take_succ_cons, List.take_zero]
            go_simp
          · intro x w' hb hR
            have hbr : Below wr.heap.size wr w' := (below_drew1 wr).trans hb
            have k0 : x 0 = u11 := hR 0 (by omega)
            obtain ⟨g, kg1, kg2⟩ : ∃ g, x 13 = .slice (some ⟨g, 0, none⟩) 1 1 ∧ w'.heap[g]? = some (.cells #[.string t] 9 (0, 0)) := hR 13 (by omega)
            have Ho1 := Lib.hid (Hown.out.below stays_string hbr)
            have Hb1 := Lib.hid (Hbel.out.trans (hbr.mono Hbel.out.size))
            have hs1 := Hb1.out.size
            have Hg := Lib.hid kg2
            clear hR hb hbr e0 f0 p1 kg2
            simp only [putAll, List.take_succ_cons, List.take_zero, List.drop_succ_cons, List.drop_zero]
            try simp only [Act.put, List.setIfInBounds_toArray, List.set_cons_zero, List.set_cons_succ]
            go_wp2_with (at_builtin; refine wpList_append_ownAt (R := RString) (k := 1) (e := 9) (B := w.heap.size) (l := O) (m := [t]) _ (by rfl) _ _ _ (by rfl) i0 _ 16 Tryz.underlying28 hi0 hz0 hz1 hz2 rfl (by omega) flat_string one_string _ (by exact k0) Ho1.out _ (by exact kg1) (RowAt.one (R := RString) (k := 1) (cs := #[.string t]) Hg.out rfl rfl) (by unfold maxLen; simp; omega) (by simp; omega) (by omega) ?_)
            intro v' w2 hv' hg hr _
            have hb2 : Below w.heap.size w w2 := below_of_grown Hb1.out hs1 hg hr
            have Hb2 := Lib.hid hb2
            have Hv : Hid (OwnAt RString 1 w2 w.heap.size 9 v' ((l.take (i + 1)).map fun x => mkB (JP.quote x.1 ++ 58 :: JP.text x.2))) := Lib.hid (by rw [Htk.out]; exact hv')
            clear hv' hg hr hb2
            go_wp2_with fail
            go_roundg k
            case measure => omega
            case rel => exact ⟨i + 1, by omega, by go_num, Hv, Hb2⟩
end Go.Proofs.YtnnceaapodgfbaaGreatDoor
namespace Go.Proofs.YtnnceaapodgfbaaGreatDoor
open Go.RowKit
open JP (JV Bs)
end Go.Proofs.YtnnceaapodgfbaaGreatDoor
namespace Go.Proofs.YtnnceaapodgfbaaGreatDoor
open Go.RowKit
open JP (JV Bs Fr)
namespace JP
theorem readL_good {s : Bs} {v : JV} (h : readL s = (v, 0)) : wf v ∧ size v ≤ 200 ∧ deep v ≤ 10 ∧ (text v).length ≤ s.length ∧ s.length ≤ 2000 := by
  unfold readL at h
  split at h
  · exact absurd (Prod.mk.inj h).2 (by decide)
  · rename_i hl
    have hi : Inv s.length (.more s 0 []) := ⟨by show s.length + 0 ≤ s.length; omega, rfl, by omega, trivial⟩
    obtain ⟨a, b, c, d⟩ := fin_inv _ hi v h
    exact ⟨a, b, c, d, by omega⟩
def canonT (s : Bs) : Bs := if (readL s).2 = 0 then text (readL s).1 else []
def canonE (s : Bs) : Int := (readL s).2
theorem canonT_ok {s : Bs} {v : JV} (h : readL s = (v, 0)) : canonT s = text v := by unfold canonT; rw [h]; exact if_pos rfl
theorem canonT_no {s : Bs} (h : (readL s).2 ≠ 0) : canonT s = [] := if_neg h
theorem canonT_le (s : Bs) : (canonT s).length ≤ 2000 := by
  unfold canonT
  split
  · rename_i h
    obtain ⟨_, _, _, h4, h5⟩ := readL_good (s := s) (v := (readL s).1) (Prod.ext rfl h)
    omega
  · simp
end JP
theorem list_size (s : ByteArray) : s.data.toList.length = s.size := by rw [Array.length_toList]; rfl
set_option maxRecDepth 100000 in
set_option maxHeartbeats 3200000 in
theorem canon_any (s : ByteArray) (w : World) (hs : s.size ≤ 1048576) (ht : TabOK w) :
    Calls Tryz.prog 57 #[.string s] w fun e w' => e = .returned (.tuple #[.string (mkB (JP.canonT s.data.toList)), .int .i64 (JP.canonE s.data.toList)]) ∧ Below w.heap.size w w' := by
  have HR := Lib.hid (read_any s w hs)
  obtain ⟨v, hv⟩ : ∃ v, (JP.readL s.data.toList).1 = v := ⟨_, rfl⟩
  obtain ⟨er, her⟩ : ∃ er, (JP.readL s.data.toList).2 = er := ⟨_, rfl⟩
  have hre : JP.readL s.data.toList = (v, er) := Prod.ext hv her
  have HT := Lib.hid ht
  rw [hv, her] at HR
  have hE : JP.canonE s.data.toList = er := her
  have Hre := Lib.hid hre
  obtain ⟨T, hT⟩ : ∃ T, JP.canonT s.data.toList = T := ⟨_, rfl⟩
  rw [hE, hT]
  have HTx := Lib.hid hT
  clear ht hv her hre hE hT
  go_enter Tryz.func57, Tryz.ntmps57
  go_wp2_with fail
  refine HR.out.mono ?_
  rintro E w1 ⟨u, rfl, ⟨n, hj⟩, hb⟩
  have HJ := Lib.hid hj
  have HB := Lib.hid hb
  clear hj hb HR
  by_cases he : er = 0
  · subst he
    obtain ⟨_, _, _, h4, h5⟩ := JP.readL_good Hre.out
    have HTt : Hid (T = JP.text v) := Lib.hid (by rw [← HTx.out]; exact JP.canonT_ok Hre.out)
    go_wp2_with fail
    refine (text_any n u v w1 HJ.out (by omega) (HT.out.below HB.out)).mono ?_
    rintro E w2 ⟨rfl, hb⟩
    have HB2 := Lib.hid (HB.out.trans (hb.mono HB.out.size))
    clear hb
    go_wp2_with fail
    go_ret2
    exact ⟨by rw [HTt.out] <;> rfl, HB2.out⟩
  · have n0 : (er != 0) = true := by rw [bne_iff_ne]; exact he
    have HTt : Hid (T = []) := Lib.hid (by rw [← HTx.out]; exact JP.canonT_no (by rw [Hre.out]; exact he))
    clear he
    go_wp2_with fail
    go_ret2
    exact ⟨by rw [HTt.out] <;> rfl, HB.out⟩
end Go.Proofs.YtnnceaapodgfbaaGreatDoor
namespace Go.Proofs.YtnnceaapodgfbaaGreatDoor
def says (b e : Int) : Int := if b = 0 then e else b
def firstBad : List Int → Int
  | [] => 0
  | e :: r => says e (firstBad r)
theorem says_zero (b : Int) : says b 0 = b := by unfold says; split <;> simp_all
theorem zero_says (b : Int) : says 0 b = b := by unfold says; simp
theorem says_assoc (a b c : Int) : says (says a b) c = says a (says b c) := by unfold says; by_cases h : a = 0 <;> simp [h]
theorem firstBad_append (l m : List Int) : firstBad (l ++ m) = says (firstBad l) (firstBad m) := by
  induction l with
  | nil => simp [firstBad, zero_says]
  | cons e r ih => simp only [List.cons_append, firstBad, ih, says_assoc]
theorem firstBad_take {l : List Int} {i : Nat} {e : Int} (h : l[i]? = some e) : firstBad (l.take (i + 1)) = says (firstBad (l.take i)) e := by
  rw [List.take_add_one, h, firstBad_append]
  simp [firstBad, says_zero]
end Go.Proofs.YtnnceaapodgfbaaGreatDoor
namespace Go.Proofs.YtnnceaapodgfbaaGreatDoor
open JP (Bs)
namespace AuP
def emptyOr (s : Bs) : Int := if s = [] then 0 else NameP.check s
def keyE (k s n : Bs) : Int := says (NameP.check k) (says (emptyOr s) (NameP.check n))
end AuP
end Go.Proofs.YtnnceaapodgfbaaGreatDoor
namespace Go.Proofs.YtnnceaapodgfbaaGreatDoor
namespace Sto
open Go.RowKit
def IsBad (g : Nat) (w : World) (b : Int) : Prop := w.heap[g]? = some (.cells #[.int .i64 b] 113 (0, 0))
theorem IsBad.below {g : Nat} {w w' : World} {b : Int} (h : IsBad g w b) (hb : Below w.heap.size w w') : IsBad g w' b := below_block hb h
theorem IsBad.lt {g : Nat} {w : World} {b : Int} (h : IsBad g w b) : g < w.heap.size := by
  rcases Nat.lt_or_ge g w.heap.size with h1 | h1
  · exact h1
  · unfold IsBad at h; rw [Array.getElem?_eq_none h1] at h; cases h
def Said (g : Nat) (b : Int) (w : World) (E : Ending) (w' : World) : Prop := E = .returned (.tuple #[]) ∧ IsBad g w' b ∧ But g w w'
set_option maxRecDepth 100000 in
theorem says_any (g : Nat) (b e : Int) (w : World) (h : IsBad g w b) : Calls Tryz.prog 53 #[.pointer (some ⟨g, 0, none⟩), .int .i64 e] w (Said g (says b e) w) := by
  have h' : w.heap[g]? = some (.cells #[.int .i64 b] 113 (0, 0)) := h
  have c0 : w.cell? ⟨g, 0, none⟩ = some (.int .i64 b) := cell_block h' 0
  have z0 : w.frozen? ⟨g, 0, none⟩ = false := free_block h' 0
  have Hh := Lib.hid h'
  clear h h'
  by_cases hb : b = 0
  · subst hb
    go_enter Tryz.func53, Tryz.ntmps53
    go_wp2_with fail
    obtain ⟨t1, t2⟩ := touch_setCell (i := 0) (v := .int .i64 e) Hh.out
    go_end0
    exact ⟨rfl, by rw [zero_says]; exact t1, But.touch t2⟩
  · have q : (b == 0) = false := by rw [beq_eq_false_iff_ne]; exact hb
    have Hs : Hid (says b e = b) := by show _ = _; unfold says; rw [if_neg hb]
    clear hb
    go_enter Tryz.func53, Tryz.ntmps53
    go_wp2_with fail
    go_end0
    exact ⟨rfl, by rw [Hs.out]; exact Hh.out, But.refl _ _⟩
def chk (s : ByteArray) : Int := NameP.check s.data.toList
set_option maxRecDepth 100000 in
set_option maxHeartbeats 800000 in
theorem names_any (g : Nat) (b : Int) (v : Value) (l : List ByteArray) (w : World) (h : IsBad g w b) (hv : StrAt w v l) (hne : 0 < l.length → ∀ a n c, v = .slice (some a) n c → a.block ≠ g) (hx : ∀ x ∈ l, x.size ≤ 1099511627776) (hl : l.length ≤ 1073741824) :
    Calls Tryz.prog 55 #[.pointer (some ⟨g, 0, none⟩), v] w (Said g (says b (firstBad (l.map chk))) w) := by
  have hrow := hv.row
  obtain ⟨a1, c1, rfl, _, _⟩ := hrow.len
  have H := Lib.hid h
  have HV := Lib.hid hrow
  have Hne := Lib.hid hne
  have Hx := Lib.hid hx
  clear h hv hne hx hrow
  go_enter Tryz.func55, Tryz.ntmps55
  go_wp2_with fail
  go_loopg [8] l.length (fun k u8 wr => ∃ i : Nat, i + k = l.length ∧ u8 = .int .i64 (i : Int) ∧ Hid (IsBad g wr (says b (firstBad ((l.map chk).take i)))) ∧ Hid (But g w wr))
  case atStart => exact ⟨0, by omega, rfl, Lib.hid (by rw [List.take_zero]; exact (says_zero b).symm ▸ H.out), Lib.hid (But.refl _ _)⟩
  case round =>
    obtain ⟨i, hig, rfl, Hbad, Hbut⟩ := hrel
    cases gk with
    | zero =>
      obtain rfl : i = l.length := by omega
      have Hend : Hid (IsBad g wr (says b (firstBad (l.map chk)))) := by
        have h9 := Hbad.out
        rw [List.take_of_length_le (by simp)] at h9
        exact Lib.hid h9
      go_wp2_with fail
      go_end0
      exact ⟨rfl, Hend.out, Hbut.out⟩
    | succ k =>
      have hil : i < l.length := by omega
      obtain ⟨s, hsi⟩ : ∃ s, l[i]? = some s := ⟨l[i]'(by omega), List.getElem?_eq_getElem _⟩
      obtain ⟨bk, o, c', hv, _, _, hbs, hcell⟩ := HV.out.form (by omega) (by omega)
      have hbg := Hne.out (by omega) _ _ _ hv
      cases hv
      obtain ⟨ds, _, hcc, hR⟩ := hcell i s hsi
      obtain rfl : ds = [.string s] := hR
      have e0 : wr.cell? ⟨bk, o + i, none⟩ = some (.string s) := (Hbut.out.cell (p := ⟨bk, o + i, none⟩) hbs hbg).trans (by simpa using hcc 0 _ rfl)
      have q1 : (0 : Int) ≤ (i : Int) := by omega
      have q2 : (i : Int) < (l.length : Int) := by omega
      have hss := Hx.out s (List.mem_of_getElem? hsi)
      have Hnext : Hid (says b (firstBad ((l.map chk).take (i + 1))) = says (says b (firstBad ((l.map chk).take i))) (chk s)) := by
        show _ = _
        rw [firstBad_take (e := chk s) (by rw [List.getElem?_map, hsi]; rfl), says_assoc]
      clear hcc hcell hsi hbg
      obtain ⟨cd, Hcd⟩ : ∃ cd, Hid (NameP.check s.data.toList = cd) := ⟨_, Lib.hid rfl⟩
      rw [show chk s = cd from Hcd.out] at Hnext
      go_wp2_with fail
      refine (check_any s wr hss).mono ?_
      rintro E w1 ⟨rfl, rfl⟩
      rw [Hcd.out]
      go_wp2_with fail
      refine (says_any g _ cd wr Hbad.out).mono ?_
      rintro E w1 ⟨rfl, h1, h2⟩
      have H1 := Lib.hid h1
      have H2 := Lib.hid (Hbut.out.trans h2)
      clear h1 h2 e0
      go_wp2_with fail
      go_roundg k
      case measure => omega
      case rel => exact ⟨i + 1, by omega, by go_num, Lib.hid (by rw [Hnext.out]; exact H1.out), H2⟩
theorem one_str {w : World} {g : Nat} {t : TypeId} {a : ByteArray} (h : w.heap[g]? = some (.cells #[.string a] t (0, 0))) : StrAt w (.slice (some ⟨g, 0, none⟩) 1 1) [a] := by
  refine .inr ⟨_, 1, rfl, Nat.le_refl _, by unfold maxLen; decide, fun j x hx => ?_⟩
  have hj : j < 1 := (List.getElem?_eq_some_iff.1 hx).1
  obtain rfl : j = 0 := by omega
  rw [add_plain', Nat.zero_add]
  have : w.cell? ⟨g, 0, none⟩ = #[Value.string a][0]? := cell_block h 0
  rw [this]
  simp at hx; subst hx; rfl
theorem name_one (g : Nat) (b : Int) (s : ByteArray) (w : World) (h : IsBad g w b) (hs : s.size ≤ 1099511627776) :
    Calls Tryz.prog 55 #[.pointer (some ⟨g, 0, none⟩), .slice (some ⟨w.heap.size, 0, none⟩) 1 1] (w.alloc (.cells #[.string s] 9)) (Said g (says b (NameP.check s.data.toList)) w) := by
  have hlt := h.lt
  have hb := (Below.refl w.heap.size w).alloc (Nat.le_refl _) (.cells #[.string s] 9)
  refine (names_any g b _ [s] _ (h.below hb) (one_str (heap_alloc_new w _)) (fun _ a n c e => by cases e; show w.heap.size ≠ g; omega) (fun x hx => by rw [List.mem_singleton.1 hx]; exact hs) (by show 1 ≤ 1073741824; omega)).mono ?_
  rintro E w' ⟨h1, h2, h3⟩
  refine ⟨h1, ?_, (But.of hb).trans h3⟩
  have : firstBad ([s].map chk) = NameP.check s.data.toList := by show says (chk s) 0 = _; rw [says_zero]; rfl
  rw [← this]; exact h2
set_option maxRecDepth 100000 in
theorem space_any (g : Nat) (b : Int) (s : ByteArray) (w : World) (h : IsBad g w b) (hs : s.size ≤ 1099511627776) : Calls Tryz.prog 62 #[.pointer (some ⟨g, 0, none⟩), .string s] w (Said g (says b (AuP.emptyOr s.data.toList)) w) := by
  have H := Lib.hid h
  clear h
  by_cases h0 : s.size = 0
  · have q : s.data.toList = [] := List.eq_nil_of_length_eq_zero (by simpa using h0)
    have q2 : s.toList.isEmpty = true := by rw [ByteArray.toList_eq, q]; rfl
    have Hs : Hid (says b (AuP.emptyOr s.data.toList) = b) := by show _ = _; unfold AuP.emptyOr; rw [if_pos q]; exact says_zero b
    rw [Hs.out]
    clear h0 q
    go_enter Tryz.func62, Tryz.ntmps62
    go_wp2_with fail
    go_end0
    exact ⟨rfl, H.out, But.refl _ _⟩
  · have q : s.data.toList ≠ [] := fun h => by
      have hl : s.data.toList.length = s.size := by simp
      rw [h] at hl
      exact h0 hl.symm
    have q2 : s.toList.isEmpty = false := by rw [ByteArray.toList_eq]; cases hd : s.data.toList with | nil => exact absurd hd q | cons x r => rfl
    have Hs : Hid (says b (AuP.emptyOr s.data.toList) = says b (NameP.check s.data.toList)) := by show _ = _; unfold AuP.emptyOr; rw [if_neg q]
    rw [Hs.out]
    clear h0 q
    go_enter Tryz.func62, Tryz.ntmps62
    go_wp2_with fail
    refine (name_one g b s w H.out hs).mono ?_
    rintro E w1 ⟨rfl, h1, h2⟩
    have H1 := Lib.hid h1
    have H2 := Lib.hid h2
    clear h1 h2 Hs
    go_wp2_with fail
    go_end0
    exact ⟨rfl, H1.out, H2.out⟩
set_option maxRecDepth 100000 in
set_option maxHeartbeats 800000 in
theorem key_any (a b c : ByteArray) (w : World) (ha : a.size ≤ 8388608) (hb : b.size ≤ 8388608) (hc : c.size ≤ 8388608) :
    Calls Tryz.prog 47 #[.agg #[.string a, .string b, .string c]] w fun e w' => e = .returned (.int .i64 (AuP.keyE a.data.toList b.data.toList c.data.toList)) ∧ Below w.heap.size w w' := by
  obtain ⟨R, HR⟩ : ∃ R, Hid (AuP.keyE a.data.toList b.data.toList c.data.toList = R) := ⟨_, Lib.hid rfl⟩
  rw [HR.out]
  go_enter Tryz.func47, Tryz.ntmps47
  go_upto_region 2 with fail
  obtain ⟨w1, hw1⟩ : ∃ w1, w1 = (w.alloc (.cells #[.string a, .string b, .string c] 24)).alloc (.cells #[.int .i64 0] 113) := ⟨_, rfl⟩
  obtain ⟨gc, hgc⟩ : ∃ gc, gc = w.heap.size + 1 := ⟨_, rfl⟩
  obtain ⟨gb, hgb⟩ : ∃ gb, gb = w.heap.size := ⟨_, rfl⟩
  rw [← hw1]
  try rw [← hgc]
  rw [← hgb]
  have b1 : w1.heap[gb]? = some (.cells #[.string a, .string b, .string c] 24 (0, 0)) := by
    rw [hw1, hgb]
    exact below_block ((Below.refl _ _).alloc (Nat.le_refl _) _) (heap_alloc_new w _)
  have h1 : IsBad gc w1 0 := by
    have h9 := heap_alloc_new (w.alloc (.cells #[.string a, .string b, .string c] 24)) (.cells #[.int .i64 0] 113)
    rw [hw1, hgc]
    simpa [IsBad] using h9
  have hb1 : Below w.heap.size w w1 := by rw [hw1]; exact ((Below.refl _ _).alloc (Nat.le_refl _) _).alloc (by simp) _
  have hlt1 := h1.lt
  have hne : gb ≠ gc := by omega
  have hgw : w.heap.size ≤ gb := by omega
  have hgw2 : w.heap.size ≤ gc := by omega
  have hs1 := hb1.size
  have Hb1 := Lib.hid hb1
  have H1 := Lib.hid h1
  have B1 := Lib.hid b1
  have cc := fun i => cell_block b1 i
  clear hw1 hgc hgb b1 h1 hb1
  go_wp2_with fail
  refine (name_one gc 0 a w1 H1.out (by omega)).mono ?_
  rintro E w2 ⟨rfl, h1, h2⟩
  have H2 := Lib.hid h1
  have K2 := Lib.hid h2
  clear cc h1 h2
  have cc := fun i => cell_block (K2.out.keep B1.out hne) i
  go_wp2_with fail
  refine (space_any gc _ b w2 H2.out (by omega)).mono ?_
  rintro E w3 ⟨rfl, h1, h2⟩
  have H3 := Lib.hid h1
  have K3 := Lib.hid (K2.out.trans h2)
  clear cc h1 h2
  have cc := fun i => cell_block (K3.out.keep B1.out hne) i
  go_wp2_with fail
  refine (name_one gc _ c w3 H3.out (by omega)).mono ?_
  rintro E w4 ⟨rfl, h1, h2⟩
  have hR2 : says (says (says 0 (NameP.check a.data.toList)) (AuP.emptyOr b.data.toList)) (NameP.check c.data.toList) = R := by rw [← HR.out, zero_says, says_assoc]; rfl
  rw [hR2] at h1
  have K4 := Lib.hid ((But.of Hb1.out).trans (K3.out.trans h2))
  have c4 : w4.cell? ⟨gc, 0, none⟩ = some (.int .i64 R) := cell_block h1 0
  clear cc h1 h2 hR2 H2 H3
  go_wp2_with fail
  go_ret
  exact ⟨rfl, K4.out.below (Below.refl _ _) (Nat.le_refl _) (by omega)⟩
end Sto
end Go.Proofs.YtnnceaapodgfbaaGreatDoor
namespace Go.Proofs.YtnnceaapodgfbaaGreatDoor
namespace Sto
open Go.RowKit
open JP (Bs)
instance decKey : DecidableEq GKey := fun a b =>
  if h : a.kind = b.kind ∧ a.space = b.space ∧ a.name = b.name then .isTrue (by obtain ⟨a1, a2, a3⟩ := a; obtain ⟨b1, b2, b3⟩ := b; obtain ⟨h1, h2, h3⟩ := h; cases h1; cases h2; cases h3; rfl)
  else .isFalse fun e => h (by subst e; exact ⟨rfl, rfl, rfl⟩)
def noKey : GKey := ⟨ByteArray.empty, ByteArray.empty, ByteArray.empty⟩
def noObj : GObject := ⟨noKey, [], [], [], false, ByteArray.empty, 0, ByteArray.empty⟩
def keyK (k : GKey) : Int := AuP.keyE k.kind.data.toList k.space.data.toList k.name.data.toList
def twiceE (l : List ByteArray) : Int := if l.Nodup then 0 else 5
def firstO (o : GObject) : Int := says (says (keyK o.okey) (labelsE o.labels)) (if 4 < o.owners.length ∨ 4 < o.holds.length then 2 else 0)
def objE (o : GObject) : Int := if firstO o ≠ 0 then firstO o else says (says (says (firstBad (o.owners.map chk)) (firstBad (o.holds.map chk))) (twiceE o.holds)) (JP.canonE o.doc.data.toList)
def keptO (o : GObject) : GObject := { o with doc := mkB (JP.canonT o.doc.data.toList), uid := ByteArray.empty }
structure St where
  log : List GEvent
  comp : Int
def St.rev (S : St) : Nat := S.log.length
def hits (l : List GEvent) (k : GKey) : List GEvent := l.filter fun e => decide (e.object.okey = k)
def cur (l : List GEvent) (k : GKey) : Option GObject := match (hits l k).getLast? with
  | some e => if e.kind = 3 then none else some e.object
  | none => none
def live : List GEvent → Int
  | [] => 0
  | e :: r => live r + (if e.kind = 1 then 1 else if e.kind = 3 then -1 else 0)
def uidOf (n : Nat) : ByteArray := mkB (117 :: Lib.itoa (n : Int))
def putO (n : Nat) (kind : Int) (o : GObject) : GObject := { o with rev := (n : Int), uid := if kind = 1 then uidOf n else o.uid }
def put (S : St) (kind : Int) (o : GObject) : St := { S with log := S.log ++ [⟨kind, (S.rev : Int) + 1, putO (S.rev + 1) kind o⟩] }
abbrev Told := St × GObject × Int
def doPut (S : St) (kind : Int) (o : GObject) : Told := (put S kind o, putO (S.rev + 1) kind o, 0)
def create (S : St) (o : GObject) : Told :=
  if objE o ≠ 0 then (S, noObj, objE o) else if (cur S.log o.okey).isSome = true then (S, noObj, 5) else if live S.log = 60 then (S, noObj, 22) else doPut S 1 { keptO o with ending := false }
def update (S : St) (o : GObject) : Told :=
  if objE o ≠ 0 then (S, noObj, objE o) else match cur S.log o.okey with
  | none => (S, noObj, 7)
  | some was => if o.rev ≠ was.rev then (S, noObj, 12) else if was.ending = true ∧ o.ending = false then (S, noObj, 1) else doPut S 2 { keptO o with uid := was.uid }
def remove (S : St) (k : GKey) (rev : Int) : Told :=
  if keyK k ≠ 0 then (S, noObj, keyK k) else match cur S.log k with
  | none => (S, noObj, 7)
  | some was => if rev ≠ 0 ∧ rev ≠ was.rev then (S, noObj, 12) else doPut S 3 was
def compactE (S : St) (rev : Int) : Int := if (S.rev : Int) < rev ∨ rev < S.comp then 1 else 0
def compact (S : St) (rev : Int) : St := if compactE S rev = 0 then { S with comp := rev } else S
def modI (n m : Int) : Int := n % m
def doS (S : St) (x : GStoreStep) : Told :=
  if modI x.kind 4 = 0 then create S x.o else if modI x.kind 4 = 1 then update S x.o else if modI x.kind 4 = 2 then remove S x.o.okey x.rev else (compact S (modI x.rev 3), noObj, compactE S (modI x.rev 3))
def run (S : St) : List GStoreStep → St
  | [] => S
  | x :: r => run (doS S x).1 r
def timeE (S : St) (rev : Int) : Int := if rev < 0 ∨ (S.rev : Int) < rev then 1 else if rev = 0 then 0 else if rev < S.comp then 13 else 0
def timeT (S : St) (rev : Int) : Nat := if timeE S rev ≠ 0 then 0 else if rev = 0 then S.rev else rev.toNat
def atR (S : St) (k : GKey) (n : Nat) : Option GObject := cur (S.log.take n) k
def getE (S : St) (k : GKey) (rev : Int) : Int := if keyK k ≠ 0 then keyK k else if timeE S rev ≠ 0 then timeE S rev else if (atR S k (timeT S rev)).isSome = true then 0 else 7
def getO (S : St) (k : GKey) (rev : Int) : GObject := if getE S k rev = 0 then (atR S k (timeT S rev)).getD noObj else noObj
def spaceE (s : ByteArray) : Int := AuP.emptyOr s.data.toList
def listE (S : St) (kind space : ByteArray) (rev : Int) : Int := if says (chk kind) (spaceE space) ≠ 0 then says (chk kind) (spaceE space) else timeE S rev
def fitsK (kind space : ByteArray) (k : GKey) : Prop := k.kind = kind ∧ (space = ByteArray.empty ∨ k.space = space)
def lessS (a b : ByteArray) : Prop := Lib.compareBytes a.data.toList b.data.toList < 0
def ahead (a b : GObject) : Prop := lessS a.okey.space b.okey.space ∨ a.okey.space = b.okey.space ∧ lessS a.okey.name b.okey.name
def IsList (l : List GEvent) (kind space : ByteArray) (out : List GObject) : Prop := out.Pairwise ahead ∧ ∀ o, o ∈ out ↔ fitsK kind space o.okey ∧ cur l o.okey = some o
def ListTold (S : St) (kind space : ByteArray) (rev : Int) (out : List GObject) : Prop :=
  (listE S kind space rev ≠ 0 → out = []) ∧ (listE S kind space rev = 0 → IsList (S.log.take (timeT S rev)) kind space out)
end Sto
end Go.Proofs.YtnnceaapodgfbaaGreatDoor
namespace Go.Proofs.YtnnceaapodgfbaaGreatDoor
namespace Pag
open Go.RowKit
open JP (Bs)
structure GMark where
  kind : ByteArray
  space : ByteArray
  most : Nat
  rev : Nat
  lspace : ByteArray
  lname : ByteArray
def markL (m : GMark) : List ByteArray := [m.kind, m.space, mkB (Lib.itoa (m.most : Int)), mkB (Lib.itoa (m.rev : Int)), m.lspace, m.lname]
def markB (m : GMark) : Bs := Lib.join ((markL m).map (·.data.toList)) [47]
def emptyOrName (s : ByteArray) : Prop := s = ByteArray.empty ∨ NameP.check s.data.toList = 0
structure MarkOK (m : GMark) : Prop where
  kind : NameP.check m.kind.data.toList = 0
  space : emptyOrName m.space
  most : 1 ≤ m.most ∧ m.most ≤ 50
  rev : 1 ≤ m.rev ∧ m.rev ≤ 4194304
  lspace : emptyOrName m.lspace
  lname : NameP.check m.lname.data.toList = 0
  size : m.kind.size ≤ 1048576 ∧ m.space.size ≤ 1048576 ∧ m.lspace.size ≤ 1048576 ∧ m.lname.size ≤ 1048576
theorem check_free {s : ByteArray} (h : NameP.check s.data.toList = 0) : (47 : UInt8) ∉ s.data.toList ∧ s.data.toList ≠ [] := by
  have h1 : NameP.isName s.data.toList = true := by
    unfold NameP.check NameP.judge at h
    repeat' split at h
    all_goals first | assumption | (cases h) | simp_all
  exact ⟨(isName_free h1).2.2.1, (isName_free h1).2.2.2⟩
theorem orName_free {s : ByteArray} (h : emptyOrName s) : (47 : UInt8) ∉ s.data.toList := by
  rcases h with rfl | h
  · intro h; cases h
  · exact (check_free h).1
theorem mark_split {m : GMark} (h : MarkOK m) : splitL 47 (markB m) = (markL m).map (·.data.toList) := by
  unfold markB
  refine split_join 47 (by simp [markL]) fun q hq => ?_
  simp only [markL, List.map_cons, List.map_nil, List.mem_cons, List.not_mem_nil, or_false, mkB_list] at hq
  rcases hq with rfl | rfl | rfl | rfl | rfl | rfl
  · exact (check_free h.kind).1
  · exact orName_free h.space
  · exact (itoa_free (by omega)).2.2
  · exact (itoa_free (by omega)).2.2
  · exact orName_free h.lspace
  · exact (check_free h.lname).1
theorem join_len (c : UInt8) : ∀ l : List Bs, (Lib.join l [c]).length ≤ (l.map fun q => q.length + 1).sum
  | [] => by simp [Lib.join, List.intercalate]
  | [p] => by rw [join_one]; simp
  | p :: q :: r => by
    have ih := join_len c (q :: r)
    rw [join_more]
    simp only [List.map_cons, List.sum_cons, List.length_append, List.length_cons, List.length_nil] at ih ⊢
    omega
theorem mark_len (m : GMark) (h1 : m.most ≤ 50) (h2 : m.rev ≤ 4194304) : (markB m).length ≤ m.kind.size + m.space.size + m.lspace.size + m.lname.size + 60 := by
  have h3 := join_len 47 ((markL m).map (·.data.toList))
  have i1 := Lib.itoa_length_le (m.most : Int) (by omega) (by omega)
  have i2 := Lib.itoa_length_le (m.rev : Int) (by omega) (by omega)
  unfold markB
  simp only [markL, List.map_cons, List.map_nil, List.sum_cons, List.sum_nil, list_size, mkB_list] at h3 ⊢
  omega
theorem strAt_block {w : World} {g : Nat} {t : TypeId} {L : List ByteArray} (h : w.heap[g]? = some (.cells (strs L).toArray t (0, 0))) (hl : L.length ≤ maxLen) : StrAt w (.slice (some ⟨g, 0, none⟩) L.length L.length) L := by
  refine .inr ⟨_, _, rfl, Nat.le_refl _, hl, fun j x hx => ?_⟩
  rw [add_plain', Nat.zero_add]
  have : w.cell? ⟨g, j, none⟩ = (strs L).toArray[j]? := cell_block h j
  rw [this, List.getElem?_toArray]
  exact strs_get hx
theorem itoa_any (n : Int) (w : World) (b1 : -9223372036854775808 ≤ n) (b2 : n ≤ 9223372036854775807) (ht : TabOK w) : Calls Tryz.prog 86 #[.int .i64 n] w fun e w' => e = .returned (.string (mkB (Lib.itoa n))) ∧ Below w.heap.size w w' := by
  refine (Tryz.strconv_Itoa n b1 b2 w ht).mono ?_
  rintro e w' ⟨rfl, k, os, rfl⟩
  exact ⟨rfl, Lib.below_grow _ _ (Nat.le_refl _) _ _⟩
set_option maxRecDepth 100000 in
set_option maxHeartbeats 6400000 in
theorem text_any (m : GMark) (lk : ByteArray) (w : World) (h1 : m.most ≤ 50) (h2 : m.rev ≤ 4194304) (hz : m.kind.size ≤ 1048576 ∧ m.space.size ≤ 1048576 ∧ m.lspace.size ≤ 1048576 ∧ m.lname.size ≤ 1048576) (ht : TabOK w) :
    Calls Tryz.prog 104 #[.agg #[.string m.kind, .string m.space, .int .i64 m.most, .int .i64 m.rev, .string lk, .string m.lspace, .string m.lname]] w fun e w' => e = .returned (.string (mkB (markB m))) ∧ Below w.heap.size w w' := by
  have hlen := mark_len m h1 h2
  obtain ⟨I1, hI1⟩ : ∃ I, mkB (Lib.itoa (m.most : Int)) = I := ⟨_, rfl⟩
  obtain ⟨I2, hI2⟩ : ∃ I, mkB (Lib.itoa (m.rev : Int)) = I := ⟨_, rfl⟩
  have hparts : Lib.join (([m.kind, m.space, I1, I2, m.lspace, m.lname] : List ByteArray).map (·.data.toList)) [47] = markB m := by rw [← hI1, ← hI2]; rfl
  obtain ⟨W, hW⟩ : ∃ W, W = w.alloc (.cells #[.string m.kind, .string m.space, .int .i64 m.most, .int .i64 m.rev, .string lk, .string m.lspace, .string m.lname] 139) := ⟨_, rfl⟩
  have b1 : W.heap[w.heap.size]? = some (.cells #[.string m.kind, .string m.space, .int .i64 m.most, .int .i64 m.rev, .string lk, .string m.lspace, .string m.lname] 139 (0, 0)) := by rw [hW]; exact heap_alloc_new w _
  have hb1 : Below w.heap.size w W := by rw [hW]; exact (Below.refl _ w).alloc (Nat.le_refl _) _
  obtain ⟨g, hg⟩ : ∃ g, g = w.heap.size := ⟨_, rfl⟩
  rw [← hg] at b1
  have hlt : g < W.heap.size := by rw [hg, hW, World.size_alloc]; omega
  have hgs : w.heap.size ≤ W.heap.size := hb1.size
  have BG := Lib.hid b1
  have HB1 := Lib.hid hb1
  obtain ⟨nm, hnm⟩ : ∃ n : Int, (m.most : Int) = n := ⟨_, rfl⟩
  obtain ⟨nr, hnr⟩ : ∃ n : Int, (m.rev : Int) = n := ⟨_, rfl⟩
  rw [hnm] at BG hI1 hW ⊢
  rw [hnr] at BG hI2 hW ⊢
  have HT1 : Hid (∀ w', Below W.heap.size W w' → Calls Tryz.prog 86 #[.int .i64 nm] w' fun e w'' => e = .returned (.string I1) ∧ Below w'.heap.size w' w'') := Lib.hid fun w' hb => by have := itoa_any nm w' (by omega) (by omega) (ht.below (hb1.trans (hb.mono hgs))); rw [hI1] at this; exact this
  have HT2 : Hid (∀ w', Below W.heap.size W w' → Calls Tryz.prog 86 #[.int .i64 nr] w' fun e w'' => e = .returned (.string I2) ∧ Below w'.heap.size w' w'') := Lib.hid fun w' hb => by have := itoa_any nr w' (by omega) (by omega) (ht.below (hb1.trans (hb.mono hgs))); rw [hI2] at this; exact this
  have HJ : Hid (∀ (w' : World) (g' : Nat), w'.heap[g']? = some (.cells #[.string m.kind, .string m.space, .string I1, .string I2, .string m.lspace, .string m.lname] 9 (0, 0)) → Calls Tryz.prog 101 #[.slice (some ⟨g', 0, none⟩) 6 6, .string ⟨#[47]⟩] w' fun e w'' => e = .returned (.string (mkB (markB m))) ∧ Below w'.heap.size w' w'') := Lib.hid fun w' g' hb => by
    have h9 : StrAt w' (.slice (some ⟨g', 0, none⟩) 6 6) [m.kind, m.space, I1, I2, m.lspace, m.lname] := strAt_block (L := [m.kind, m.space, I1, I2, m.lspace, m.lname]) hb (by show 6 ≤ maxLen; unfold maxLen; omega)
    have := joinC_any 47 h9.row (by show 6 ≤ 1073741824; omega) (by rw [hparts]; omega)
    rw [hparts] at this
    exact this
  obtain ⟨T, hT⟩ : ∃ T, mkB (markB m) = T := ⟨_, rfl⟩
  rw [hT] at HJ ⊢
  have cc := fun i => cell_block BG.out i
  clear hT hlen hparts hI1 hI2 ht h1 h2 hz hb1 b1 hnm hnr
  go_enter Tryz.func104, Tryz.ntmps104
  go_upto_region 1 with fail
  rw [← hW, ← hg]
  clear hW hg
  refine wp_region_hold 16 (fun w' => Below W.heap.size W w') (by kernel_rfl) (by kernel_rfl) ?_ ?_
  · exact (Below.refl _ W).drew
  simp only [List.take_succ_cons, List.take_zero, List.drop_succ_cons, List.drop_zero]
  (first | (refine wpHold_pure (v := ?_) (by rfl) (fun w => ?_) ?_; rotate_left; focus (first | (go_simp; done) | (go_simp; with_reducible rfl))) | (refine wpHold_skip ?_ ?_; focus (go_simp; done)) | (refine wpHold_pure' (v := ?_) ?_ (fun w => ?_) ?_; rotate_left; focus (go_simp; done); focus (first | (go_simp; done) | (go_simp; with_reducible rfl)))); try simp only [Act.put, List.setIfInBounds_toArray, List.set_cons_zero, List.set_cons_succ]
  refine wpHold_read (v := .string m.kind) (by rfl) (fun w' hI => ?_) ?_
  · have dd := fun i => (hI.cell (p := ⟨g, i, none⟩) hlt).trans (cc i)
    go_simp
    done
  try simp only [Act.put, List.setIfInBounds_toArray, List.set_cons_zero, List.set_cons_succ]
  (first | (refine wpHold_pure (v := ?_) (by rfl) (fun w => ?_) ?_; rotate_left; focus (first | (go_simp; done) | (go_simp; with_reducible rfl))) | (refine wpHold_skip ?_ ?_; focus (go_simp; done)) | (refine wpHold_pure' (v := ?_) ?_ (fun w => ?_) ?_; rotate_left; focus (go_simp; done); focus (first | (go_simp; done) | (go_simp; with_reducible rfl)))); try simp only [Act.put, List.setIfInBounds_toArray, List.set_cons_zero, List.set_cons_succ]
  refine wpHold_read (v := .string m.space) (by rfl) (fun w' hI => ?_) ?_
  · have dd := fun i => (hI.cell (p := ⟨g, i, none⟩) hlt).trans (cc i)
    go_simp
    done
  try simp only [Act.put, List.setIfInBounds_toArray, List.set_cons_zero, List.set_cons_succ]
  (first | (refine wpHold_pure (v := ?_) (by rfl) (fun w => ?_) ?_; rotate_left; focus (first | (go_simp; done) | (go_simp; with_reducible rfl))) | (refine wpHold_skip ?_ ?_; focus (go_simp; done)) | (refine wpHold_pure' (v := ?_) ?_ (fun w => ?_) ?_; rotate_left; focus (go_simp; done); focus (first | (go_simp; done) | (go_simp; with_reducible rfl)))); try simp only [Act.put, List.setIfInBounds_toArray, List.set_cons_zero, List.set_cons_succ]
  refine wpHold_read (v := .int .i64 nm) (by rfl) (fun w' hI => ?_) ?_
  · have dd := fun i => (hI.cell (p := ⟨g, i, none⟩) hlt).trans (cc i)
    go_simp
    done
  try simp only [Act.put, List.setIfInBounds_toArray, List.set_cons_zero, List.set_cons_succ]
  refine wpHold_call (v := .string I1) (f := 86) (args := #[.int .i64 nm]) (by rfl) (fun w' => ?_) (fun w' hI => ?_) ?_
  · go_simp
    done
  · exact (HT1.out w' hI).mono fun e w'' ⟨h1, h2⟩ => ⟨h1, hI.trans (h2.mono hI.size)⟩
  try simp only [Act.put, List.setIfInBounds_toArray, List.set_cons_zero, List.set_cons_succ]
  (first | (refine wpHold_pure (v := ?_) (by rfl) (fun w => ?_) ?_; rotate_left; focus (first | (go_simp; done) | (go_simp; with_reducible rfl))) | (refine wpHold_skip ?_ ?_; focus (go_simp; done)) | (refine wpHold_pure' (v := ?_) ?_ (fun w => ?_) ?_; rotate_left; focus (go_simp; done); focus (first | (go_simp; done) | (go_simp; with_reducible rfl)))); try simp only [Act.put, List.setIfInBounds_toArray, List.set_cons_zero, List.set_cons_succ]
  refine wpHold_read (v := .int .i64 nr) (by rfl) (fun w' hI => ?_) ?_
  · have dd := fun i => (hI.cell (p := ⟨g, i, none⟩) hlt).trans (cc i)
    go_simp
    done
  try simp only [Act.put, List.setIfInBounds_toArray, List.set_cons_zero, List.set_cons_succ]
  refine wpHold_call (v := .string I2) (f := 86) (args := #[.int .i64 nr]) (by rfl) (fun w' => ?_) (fun w' hI => ?_) ?_
  · go_simp
    done
  · exact (HT2.out w' hI).mono fun e w'' ⟨h1, h2⟩ => ⟨h1, hI.trans (h2.mono hI.size)⟩
  try simp only [Act.put, List.setIfInBounds_toArray, List.set_cons_zero, List.set_cons_succ]
  (first | (refine wpHold_pure (v := ?_) (by rfl) (fun w => ?_) ?_; rotate_left; focus (first | (go_simp; done) | (go_simp; with_reducible rfl))) | (refine wpHold_skip ?_ ?_; focus (go_simp; done)) | (refine wpHold_pure' (v := ?_) ?_ (fun w => ?_) ?_; rotate_left; focus (go_simp; done); focus (first | (go_simp; done) | (go_simp; with_reducible rfl)))); try simp only [Act.put, List.setIfInBounds_toArray, List.set_cons_zero, List.set_cons_succ]
  (first | (refine wpHold_pure (v := ?_) (by rfl) (fun w => ?_) ?_; rotate_left; focus (first | (go_simp; done) | (go_simp; with_reducible rfl))) | (refine wpHold_skip ?_ ?_; focus (go_simp; done)) | (refine wpHold_pure' (v := ?_) ?_ (fun w => ?_) ?_; rotate_left; focus (go_simp; done); focus (first | (go_simp; done) | (go_simp; with_reducible rfl)))); try simp only [Act.put, List.setIfInBounds_toArray, List.set_cons_zero, List.set_cons_succ]
  refine wpHold_read (v := .string m.lspace) (by rfl) (fun w' hI => ?_) ?_
  · have dd := fun i => (hI.cell (p := ⟨g, i, none⟩) hlt).trans (cc i)
    go_simp
    done
  try simp only [Act.put, List.setIfInBounds_toArray, List.set_cons_zero, List.set_cons_succ]
  (first | (refine wpHold_pure (v := ?_) (by rfl) (fun w => ?_) ?_; rotate_left; focus (first | (go_simp; done) | (go_simp; with_reducible rfl))) | (refine wpHold_skip ?_ ?_; focus (go_simp; done)) | (refine wpHold_pure' (v := ?_) ?_ (fun w => ?_) ?_; rotate_left; focus (go_simp; done); focus (first | (go_simp; done) | (go_simp; with_reducible rfl)))); try simp only [Act.put, List.setIfInBounds_toArray, List.set_cons_zero, List.set_cons_succ]
  (first | (refine wpHold_pure (v := ?_) (by rfl) (fun w => ?_) ?_; rotate_left; focus (first | (go_simp; done) | (go_simp; with_reducible rfl))) | (refine wpHold_skip ?_ ?_; focus (go_simp; done)) | (refine wpHold_pure' (v := ?_) ?_ (fun w => ?_) ?_; rotate_left; focus (go_simp; done); focus (first | (go_simp; done) | (go_simp; with_reducible rfl)))); try simp only [Act.put, List.setIfInBounds_toArray, List.set_cons_zero, List.set_cons_succ]
  refine wpHold_read (v := .string m.lname) (by rfl) (fun w' hI => ?_) ?_
  · have dd := fun i => (hI.cell (p := ⟨g, i, none⟩) hlt).trans (cc i)
    go_simp
    done
  try simp only [Act.put, List.setIfInBounds_toArray, List.set_cons_zero, List.set_cons_succ]
  refine wpHold_nil ?_
  intro w' hI
  have hs2 := hI.size
  have HB3 := Lib.hid (HB1.out.trans (hI.mono hgs))
  clear hI HT1 HT2 cc BG
  have hb4 := (Below.refl w'.heap.size w').alloc (Nat.le_refl _) (.cells #[.string m.kind, .string m.space, .string I1, .string I2, .string m.lspace, .string m.lname] 9)
  have HJ2 := Lib.hid (HJ.out _ w'.heap.size (heap_alloc_new w' (.cells #[.string m.kind, .string m.space, .string I1, .string I2, .string m.lspace, .string m.lname] 9)))
  have HB4 := Lib.hid hb4
  clear hb4 HJ
  go_wp2_with fail
  refine HJ2.out.mono ?_
  rintro E w5 ⟨rfl, hb⟩
  have HB5 := Lib.hid ((HB3.out.trans (HB4.out.mono HB3.out.size)).trans (hb.mono (Nat.le_trans HB3.out.size HB4.out.size)))
  clear hb HJ2
  go_wp2_with fail
  go_ret
  exact ⟨rfl, HB5.out⟩
end Pag
end Go.Proofs.YtnnceaapodgfbaaGreatDoor
namespace Go.Proofs.YtnnceaapodgfbaaGreatDoor
open Go.RowKit Go.ChangeMaps Go.MapKept
open Go.WideMaps
open Go.WideElems (Fit rd rg pl rd_val rd_key rg_of)
open Go.Maps (Keyed)
abbrev KB := List UInt8
def kb (k : KB) : Lit := .string k
def rawE (v : Value) : Option (DataW Value × List MemPlace) := some (.held v, [])
def rawOf : DataW Value → Option Value
  | .held v => some v
  | _ => none
def lookD (D : DataW Value) (k : KB) : Option Value := if Maps.has D (kb k) = true then rawOf (D.atKey (kb k) .nil) else none
def MapS (P : Program) (K : TypeId) (w : World) (b n : Nat) (f : KB → Option Value) : Prop := ∃ D : DataW Value, w.ownsMap P K rawE b n D ∧ ∀ k, f k = lookD D k
def updF (f : KB → Option Value) (k : KB) (v : Value) : KB → Option Value := fun z => if z = k then some v else f z
def delF (f : KB → Option Value) (k : KB) : KB → Option Value := fun z => if z = k then none else f z
theorem kb_key (k : KB) : WideAt.IsKeyLit (kb k) := trivial
theorem kb_inj {a b : KB} (h : kb a = kb b) : a = b := by unfold kb at h; injection h
theorem kb_same (a b : KB) : (kb a).sameKey (kb b) = decide (a = b) := by
  by_cases h : a = b
  · subst h; rw [WideAt.sameKey_self (kb_key _)]; simp
  · rw [Maps.sameKey_ne (fun e => h (kb_inj e))]; simp [h]
theorem atKey_mem {es : List (Lit × DataW Value)} {k : Lit} (h : Maps.has (DataW.map es) k = true) : ∃ q ∈ es, ∀ z, (DataW.map es).atKey k z = q.2 := by
  rw [Maps.has_eq] at h
  obtain ⟨p, h1, h2⟩ := List.any_eq_true.1 h
  cases hf : es.find? (fun p => p.1.sameKey k) with
  | none => exact absurd h2 (by simpa using List.find?_eq_none.1 hf p h1)
  | some q => exact ⟨q, List.mem_of_find?_eq_some hf, fun z => by unfold DataW.atKey; simp only [hf]⟩
theorem atKey_find {D : DataW Value} {k : Lit} (h : Maps.has D k = true) : ∃ y, ∀ z, D.atKey k z = y := by
  cases D with
  | map es => obtain ⟨q, _, hq⟩ := atKey_mem h; exact ⟨_, hq⟩
  | _ => cases h
section
variable {P : Program} {K e t : TypeId} {w w' : World} {b n : Nat} {f : KB → Option Value}
theorem MapS.mono {n' : Nat} (h : MapS P K w b n f) (hn : n ≤ n') : MapS P K w b n' f := let ⟨D, h1, h2⟩ := h; ⟨D, h1.mono hn, h2⟩
theorem MapS.lt (h : MapS P K w b n f) : b < w.heap.size := let ⟨_, h1, _⟩ := h; h1.lt
theorem MapS.kept {row : Option Nat} (h : MapS P K w b n f) (hg : w.grownBy w' row) (hne : some b ≠ row) : MapS P K w' b n f := let ⟨D, h1, h2⟩ := h; ⟨D, h1.kept hg hne, h2⟩
theorem MapS.block (h : MapS P K w b n f) (hb : w'.heap[b]? = w.heap[b]?) : MapS P K w' b n f := by
  obtain ⟨D, ⟨es, clock, h1, h2⟩, h3⟩ := h
  exact ⟨D, ⟨es, clock, hb.trans h1, h2⟩, h3⟩
theorem MapS.below {B : Nat} (h : MapS P K w b n f) (hb : Below B w w') (hB : b < B) : MapS P K w' b n f := h.block (hb.block b hB)
theorem MapS.belowW (h : MapS P K w b n f) (hb : Below w.heap.size w w') : MapS P K w' b n f := h.block (hb.block b h.lt)
theorem MapS.alloc (h : MapS P K w b n f) (o : Obj) : MapS P K (w.alloc o) b n f := let ⟨D, h1, h2⟩ := h; ⟨D, h1.alloc o, h2⟩
theorem MapS.setCell (h : MapS P K w b n f) {a : Addr} (ha : b ≠ a.block) (u : Value) : MapS P K (w.setCell a u) b n f := let ⟨D, h1, h2⟩ := h; ⟨D, h1.setCell ha u, h2⟩
theorem MapS.isMap (h : MapS P K w b n f) : ∃ es clock, w.heap[b]? = some (.map es clock) := let ⟨_, ⟨es, clock, h1, _⟩, _⟩ := h; ⟨es, clock, h1⟩
theorem MapS.ne (h : MapS P K w b n f) {g : Nat} {cs : Array Value} {T : TypeId} {fr : Nat × Nat} (hg : w.heap[g]? = some (.cells cs T fr)) : b ≠ g := by
  rintro rfl
  obtain ⟨es, clock, h1⟩ := h.isMap
  rw [h1] at hg; cases hg
theorem lookD_at {D : DataW Value} (hown : w.ownsMap P K rawE b n D) (hk : P.underlying K = some .string) (ht : P.underlying t = some (.map K e)) {z : Value} (hz : (zeroValue e).run P w = .ok z w) (s : ByteArray) (hs : s.size ≤ maxLen) :
    (Instr.lookup t (.map (some b)) (.string s) true).run P w = .ok (.tuple #[(lookD D s.data.toList).getD z, .bool (lookD D s.data.toList).isSome]) w ∧ (Instr.lookup t (.map (some b)) (.string s) false).run P w = .ok ((lookD D s.data.toList).getD z) w := by
  have key := keyOf_string_mk (P := P) hk hs
  obtain ⟨v, ps, hrun, hv⟩ := hown.look_ok (Maps.string_keyed hk) ht hz (zd := .held z) (zp := []) rfl key
  obtain ⟨v', ps', hrun', hv'⟩ := hown.lookup (Maps.string_keyed hk) ht hz (zd := .held z) (zp := []) rfl key
  have e1 : DataW.held v = D.atKey (kb s.data.toList) (.held z) := by unfold rawE at hv; exact (Prod.mk.inj (Option.some.inj hv)).1
  have e2 : DataW.held v' = D.atKey (kb s.data.toList) (.held z) := by unfold rawE at hv'; exact (Prod.mk.inj (Option.some.inj hv')).1
  have ev : v = v' := by have := e1.trans e2.symm; injection this
  rw [hrun, hrun', ← ev]
  cases hh : Maps.has D (kb s.data.toList) with
  | false =>
    have h0 : lookD D s.data.toList = none := by unfold lookD; rw [hh]; simp
    rw [Maps.atKey_of_not_has hh] at e1
    injection e1 with e1
    rw [h0, e1]
    exact ⟨by rw [show (Maps.has D (.string s.data.toList)) = false from hh]; rfl, rfl⟩
  | true =>
    obtain ⟨y, hy⟩ := atKey_find hh
    have h0 : lookD D s.data.toList = some v := by
      unfold lookD
      rw [if_pos hh, hy, ← hy (.held z), ← e1]; rfl
    rw [h0]
    exact ⟨by rw [show (Maps.has D (.string s.data.toList)) = true from hh]; rfl, rfl⟩
theorem MapS.look (h : MapS P K w b n f) (hk : P.underlying K = some .string) (ht : P.underlying t = some (.map K e)) {z : Value} (hz : (zeroValue e).run P w = .ok z w) (s : ByteArray) (hs : s.size ≤ maxLen) :
    (Instr.lookup t (.map (some b)) (.string s) true).run P w = .ok (.tuple #[(f s.data.toList).getD z, .bool (f s.data.toList).isSome]) w ∧ (Instr.lookup t (.map (some b)) (.string s) false).run P w = .ok ((f s.data.toList).getD z) w := by
  obtain ⟨D, h1, h2⟩ := h
  rw [h2]
  exact lookD_at h1 hk ht hz s hs
theorem lookD_put {D : DataW Value} (hD : Maps.IsMap D) (k z : KB) (v : Value) : lookD (D.put (kb k) (.held v)) z = updF (lookD D) k v z := by
  unfold updF
  by_cases hz : z = k
  · subst hz
    rw [if_pos rfl]
    unfold lookD
    rw [Maps.has_put_same hD (kb_key _), if_pos rfl, Maps.atKey_put_same hD (kb_key _)]; rfl
  · rw [if_neg hz]
    unfold lookD
    have hne : kb z ≠ kb k := fun e => hz (kb_inj e)
    rw [Maps.has_put_other hne, Maps.atKey_put_other hne]
theorem lookD_del (D : DataW Value) (k z : KB) : lookD (D.del (kb k)) z = delF (lookD D) k z := by
  unfold delF
  by_cases hz : z = k
  · subst hz
    rw [if_pos rfl]
    unfold lookD
    rw [Maps.has_del_same]; rfl
  · rw [if_neg hz]
    unfold lookD
    have hne : kb z ≠ kb k := fun e => hz (kb_inj e)
    rw [Maps.has_del_other hne, Maps.atKey_del_other hne]
theorem MapS.store (h : MapS P K w b n f) (hk : P.underlying K = some .string) (ht : P.underlying t = some (.map K e)) (hn : n < maxLen) (s : ByteArray) (hs : s.size ≤ maxLen) (v : Value) :
    ∃ w', (Instr.mapUpdate t (.map (some b)) (.string s) v).run P w = .ok () w' ∧ MapS P K w' b (n + 1) (updF f s.data.toList v) ∧ w.mapTurned w' b := by
  obtain ⟨D, h1, h2⟩ := h
  obtain ⟨w', r1, r2, r3⟩ := h1.store (Maps.string_keyed hk) ht hn (keyOf_string_mk hk hs) (val := v) (d := .held v) (ps := []) rfl
  refine ⟨w', r1, ⟨_, r2, fun z => ?_⟩, r3⟩
  rw [show (Lit.string s.data.toList) = kb s.data.toList from rfl, lookD_put h1.isMap]
  unfold updF
  rw [h2]
theorem MapS.drop (h : MapS P K w b n f) (hk : P.underlying K = some .string) (ht : P.underlying t = some (.map K e)) (s : ByteArray) (hs : s.size ≤ maxLen) (ty : TypeId) :
    ∃ w', (Builtin.delete_ #[t, K] ty #[.map (some b), .string s]).run P w = .ok (.tuple #[]) w' ∧ MapS P K w' b n (delF f s.data.toList) ∧ w.mapTurned w' b := by
  obtain ⟨D, h1, h2⟩ := h
  obtain ⟨w', r1, r2, r3⟩ := h1.drop (Maps.string_keyed hk) ht (keyOf_string_mk hk hs) ty
  refine ⟨w', r1, ⟨_, r2, fun z => ?_⟩, r3⟩
  rw [show (Lit.string s.data.toList) = kb s.data.toList from rfl, lookD_del]
  unfold delF
  rw [h2]
theorem keyed_is (hk : P.underlying K = some .string) {v : Value} {l : Lit} (h : keyOf P K v = some l) : ∃ s : ByteArray, v = .string s ∧ l = kb s.data.toList ∧ s.size ≤ maxLen := by
  rw [keyOf_string hk] at h
  unfold mapKey at h
  rw [hk] at h
  cases v <;> simp at h
  obtain ⟨h1, rfl⟩ := h
  exact ⟨_, rfl, rfl, h1⟩
theorem MapS.keys (h : MapS P K w b n f) (hk : P.underlying K = some .string) : ∃ ks : List KB, ks.Nodup ∧ (∀ k, k ∈ ks ↔ (f k).isSome = true) ∧ ks.length ≤ n ∧ ∀ (t e ty : TypeId), P.underlying t = some (.map K e) → (Builtin.len_ #[t] ty #[.map (some b)]).run P w = .ok (.int .i64 ks.length) w := by
  obtain ⟨D, h1, h2⟩ := h
  obtain ⟨es, hD, hap, hkk⟩ := h1.entries (Maps.string_keyed hk)
  obtain ⟨ms, clock, hb, F, hs, hD2⟩ := id h1
  have hform : ∀ p ∈ es, ∃ k v, p = (kb k, .held v) := fun p hp => by
    have hp2 : p ∈ (ms.toList.map (rg P K rawE)).foldr DataW.insert [] := by
      have := hD.symm.trans hD2
      injection this with this
      rw [← this]; exact hp
    obtain ⟨x, hx, hx2⟩ := List.mem_map.1 (mem_sorted.1 hp2)
    obtain ⟨y, hy⟩ := F.reads x hx
    obtain ⟨s, hs1, hs2, _⟩ := keyed_is hk (rd_key hy)
    obtain ⟨z, hz, hz2⟩ := rd_val hy
    rw [rg_of hy] at hx2
    refine ⟨s.data.toList, x.val, ?_⟩
    rw [← hx2]
    refine Prod.ext hs2 ?_
    rw [hz2]
    unfold rawE at hz
    rw [← Option.some.inj hz]
  refine ⟨es.map fun p => match p.1 with | .string s => s | _ => [], ?_, fun k => ?_, ?_, fun t e ty ht => ?_⟩
  · rw [List.nodup_iff_pairwise_ne, List.pairwise_map]
    refine hap.imp_of_mem fun {a c} ha hc hne he => hne ?_
    obtain ⟨k1, v1, rfl⟩ := hform a ha
    obtain ⟨k2, v2, rfl⟩ := hform c hc
    exact congrArg kb he
  · rw [h2]
    have hhas : Maps.has D (kb k) = true ↔ ∃ p ∈ es, p.1 = kb k := by
      rw [hD, Maps.has_eq, List.any_eq_true]
      constructor
      · rintro ⟨p, h1, h2⟩; exact ⟨p, h1, WideAt.sameKey_eq h2⟩
      · rintro ⟨p, h1, h2⟩; exact ⟨p, h1, by rw [h2]; exact WideAt.sameKey_self (kb_key _)⟩
    constructor
    · intro hm
      obtain ⟨p, hp, hpk⟩ := List.mem_map.1 hm
      obtain ⟨k1, v1, rfl⟩ := hform p hp
      have h9 : k1 = k := hpk
      subst h9
      have hh := hhas.2 ⟨_, hp, rfl⟩
      rw [hD] at hh
      obtain ⟨q, hq, hq2⟩ := atKey_mem hh
      obtain ⟨k2, v2, rfl⟩ := hform q hq
      unfold lookD
      rw [hD, if_pos hh, hq2]; rfl
    · intro hm
      unfold lookD at hm
      by_cases hh : Maps.has D (kb k) = true
      · obtain ⟨p, hp, hpk⟩ := hhas.1 hh
        obtain ⟨k1, v1, rfl⟩ := hform p hp
        exact List.mem_map.2 ⟨_, hp, kb_inj hpk⟩
      · rw [if_neg hh] at hm; cases hm
  · rw [List.length_map]
    have := h1.size_le
    rw [hD, Maps.size_eq] at this
    exact this
  · rw [h1.len ht ty, hD, Maps.size_eq, List.length_map]
end
end Go.Proofs.YtnnceaapodgfbaaGreatDoor
