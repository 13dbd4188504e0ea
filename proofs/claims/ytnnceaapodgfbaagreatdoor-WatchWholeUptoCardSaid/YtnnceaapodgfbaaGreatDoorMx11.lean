/- Texts of ours joined. -/
import Derived.Test.YtnnceaapodgfbaaGreatDoorMx10
set_option linter.unusedVariables false
set_option linter.unusedSimpArgs false
namespace Go.Proofs.YtnnceaapodgfbaaGreatDoor
namespace Sto
open Go.RowKit
theorem shows_fit {v : GView} {o : GObject} (h : fitsK v.kind v.space o.okey) : showsV v o = matchB v.reqs o.labels := by
 unfold showsV
 unfold fitsK at h
 rw [decide_eq_true h.1, Bool.true_and]
 rcases h.2 with g | g
 ·rw [decide_eq_true g]; rfl
 ·rw [decide_eq_true g, Bool.or_true]; rfl
def LsX (wb : World) (S : St) (kind space : ByteArray) (fr : Nat) (u : Value) (w' : World) : Prop :=
 ∃ E vl A, u = .tuple #[vl, .int .i64 0] ∧ OwnX ObjX 10 E w' 30 vl A ∧ (∀ b, E b → wb.heap.size ≤ b ∧ b < w'.heap.size) ∧ ListTold S kind space (fr : Int) A
theorem LsX.below {wb w w' : World} {S : St} {kind space : ByteArray} {fr : Nat} {u : Value} (h : LsX wb S kind space fr u w) (hb : Below w.heap.size w w') : LsX wb S kind space fr u w' :=
 let ⟨E, vl, A, h1, h2, h3, h4⟩ := h
 ⟨E, vl, A, h1, h2.agree famObj fun b hb9 => hb.block b (h3 b hb9).2, fun b hb9 => ⟨(h3 b hb9).1, Nat.lt_of_lt_of_le (h3 b hb9).2 hb.size⟩, h4⟩
def openF (v : GView) (S : St) (fr : Nat) : Int := says (viewE v) (sinceE S (fr : Int))
def OpenedF (w : World) (gh gs om n mk : Nat) (v : GView) (fr : Nat) (S : St) (M : Int → Option Nat) (oe : Int) (e : Ending) (w' : World) : Prop :=
 (oe ≠ 0 ∧ e = .returned (.tuple #[.int .i64 0, .int .i64 oe]) ∧ Below w.heap.size w w') ∨
 (oe = 0 ∧ ∃ gw hm vr R, e = .returned (.tuple #[.int .i64 ((mk : Int) + 1), .int .i64 0]) ∧ HubAt w' gh gs om (fun k => if k = (mk : Int) + 1 then some gw else M k) ((mk : Int) + 1) (n + 1) ∧ WatchAt w' gw hm vr R v (fr : Int) (isF (curV v (S.log.take fr))) fr ∧ (∀ b, b = gw ∨ b = hm ∨ R b → w.heap.size ≤ b) ∧ Only (fun b => b = gh ∨ b = om) w w')
set_option maxRecDepth 100000 in
set_option maxHeartbeats 12800000 in
theorem open_from {D : Dom} {w : World} {gh gs om n mk : Nat} {va : Value} {v : GView} {M : Int → Option Nat} {S : St} {fr : Nat} (hfr : fr ≤ 4194304) (hst : StoreAt D w gs S) (hS : OkSt S) (hh : HubAt w gh gs om M (mk : Int) n) (hn : n < 8) (hmk : mk ≤ 1000) (hr : RowAt ReqR 3 w va v.reqs) (hv : OkView v) (hm9 : ∃ m, MaxOK m w) :
  Calls Tryz.prog 34 #[.pointer (some ⟨gh, 0, none⟩), .agg #[.string v.kind, .string v.space, va], .int .i64 (fr : Int)] w (OpenedF w gh gs om n mk v fr S M (openF v S fr)) := by
 obtain ⟨ar, cr, rfl, -, -⟩ := hr.len
 obtain ⟨nr, Hnr⟩ : ∃ n, Hid (v.reqs.length = n) := ⟨_, Lib.hid rfl⟩
 rw [Hnr.out] at hr ⊢
 have HR := Lib.hid hr
 have HH := Lib.hid hh
 have HA : Hid (StoreAt D w gs S) := Lib.hid hst
 have HS := Lib.hid hS
 have HV := Lib.hid hv
 have HMx := Lib.hid hm9
 have hgh := hh.lts.1
 have hom := hh.lts.2
 have hgo := hh.ne
 obtain ⟨k1, Hk1⟩ : ∃ x, Hid (viewE v = x) := ⟨_, Lib.hid rfl⟩
 obtain ⟨k2, Hk2⟩ : ∃ x, Hid (sinceE S (fr : Int) = x) := ⟨_, Lib.hid rfl⟩
 obtain ⟨oe, Hoe9⟩ : ∃ x, Hid (openF v S fr = x) := ⟨_, Lib.hid rfl⟩
 have Hoe : Hid (oe = says k1 k2) := Lib.hid (by rw [← Hoe9.out]; unfold openF; rw [Hk1.out, Hk2.out])
 rw [Hoe9.out]
 clear Hoe9
 obtain ⟨W, hW⟩ : ∃ W, W = w.alloc (.cells #[.string v.kind, .string v.space, .slice ar nr cr] 80) := ⟨_, rfl⟩
 obtain ⟨gv, hgv⟩ : ∃ g, g = w.heap.size := ⟨_, rfl⟩
 have BV := Lib.hid (show W.heap[gv]? = some (.cells #[.string v.kind, .string v.space, .slice ar nr cr] 80 (0, 0)) by rw [hW, hgv]; exact heap_alloc_new w _)
 have HB1 : Hid (Below w.heap.size w W) := Lib.hid (by rw [hW]; exact (Below.refl _ w).alloc (Nat.le_refl _) _)
 have hwv : w.heap.size ≤ gv := by omega
 have hvW : gv < W.heap.size := lt_of_some BV.out
 have HC1 := Lib.hid (vcheck_any (HR.out.below stays_req HB1.out) hv (by obtain ⟨m, hm⟩ := hm9; exact ⟨m, hm.below HB1.out⟩))
 rw [Hk1.out] at HC1
 have cv := fun i => cell_block BV.out i
 clear hst hS hh hr hv hm9
 go_enter Tryz.func34, Tryz.ntmps34
 go_upto_region 1 with fail
 rw [← hW]
 try rw [← hgv]
 clear hW hgv
 go_wp2_with fail
 refine HC1.out.mono ?_
 rintro E w2 ⟨rfl, hb2⟩
 have HB2 := Lib.hid (HB1.out.trans (hb2.mono HB1.out.size))
 have BV2 := Lib.hid (below_block hb2 BV.out)
 have hv2 : gv < w2.heap.size := lt_of_some BV2.out
 clear hb2 HC1 HB1 BV cv hvW
 by_cases h1 : k1 = 0
 ·subst h1
  have HC2 := Lib.hid (since_any (StoreAt.belowW HA.out HB2.out) HS.out (fr : Int))
  rw [Hk2.out] at HC2
  have ch := fun i => cell_block (HH.out.belowX HB2.out).box i
  go_wp2_with fail
  refine HC2.out.mono ?_
  rintro E w3 ⟨hb3, E2, v2, rfl, -, -⟩
  have HB3 := Lib.hid (HB2.out.trans (hb3.mono HB2.out.size))
  have BV3 := Lib.hid (below_block hb3 BV2.out)
  have hv3 : gv < w3.heap.size := lt_of_some BV3.out
  clear hb3 HC2 HB2 BV2 ch hv2
  by_cases h2 : k2 = 0
  ·subst h2
   have HH3 := Lib.hid (HH.out.belowX HB3.out)
   obtain ⟨nm, f, hm0, hm1, hm2⟩ := HH3.out.map
   obtain ⟨ks, -, -, hk3, hk4⟩ := MapK.keys hm1
   obtain ⟨kl, hkl⟩ : ∃ n, ks.length = n := ⟨_, rfl⟩
   have hlen := fun ty => hk4 146 150 ty Tryz.underlying146
   rw [hkl] at hk3 hlen
   have q8 : ((kl : Int) == 8) = false := by rw [beq_eq_false_iff_ne]; omega
   have ch := fun i => cell_block HH3.out.box i
   have cv := fun i => cell_block BV3.out i
   have hmm := @run_makeMap Tryz.prog
   clear hk4 hm0 hm1 hm2 hk3 hkl
   obtain ⟨hm, hhm⟩ : ∃ g, g = w3.heap.size := ⟨_, rfl⟩
   obtain ⟨gw, hgw⟩ : ∃ g, g = w3.heap.size + 1 := ⟨_, rfl⟩
   obtain ⟨w4, hw4⟩ : ∃ w4, w4 = (w3.alloc (.map #[] 0)).alloc (.cells #[.string v.kind, .string v.space, .slice ar nr cr, .int .i64 (fr : Int), .map (some hm)] 153) := ⟨_, rfl⟩
   have hs4 : w4.heap.size = w3.heap.size + 2 := by rw [hw4, World.size_alloc, World.size_alloc]
   have BW4 := Lib.hid (show w4.heap[gw]? = some (.cells #[.string v.kind, .string v.space, .slice ar nr cr, .int .i64 (fr : Int), .map (some hm)] 153 (0, 0)) by rw [hw4, hgw]; exact heap_alloc_at (World.size_alloc _ _).symm)
   have MK4 : Hid (MapK keyC w4 hm 0 fun _ => none) := Lib.hid (by rw [hw4, hhm]; exact (mapK_made keyC w3).alloc _)
   have hb4 : Below w3.heap.size w3 w4 := by rw [hw4]; exact ((Below.refl _ w3).alloc (Nat.le_refl _) _).alloc (by rw [World.size_alloc]; omega) _
   have HB4 := Lib.hid (HB3.out.trans (hb4.mono HB3.out.size))
   have BV4 := Lib.hid (below_block hb4 BV3.out)
   have hwhm : w.heap.size ≤ hm := by have := HB3.out.size; omega
   have hhg : hm < gw := by omega
   have hvm : gv < hm := by omega
   have hg4 : gw < w4.heap.size := by omega
   go_upto_region 9 with fail
   rw [← hgw, ← hhm, ← hw4]
   clear hw4 hgw hs4 hb4 HB3 BV3 ch cv hmm hlen q8 HH3 hhm hv3
   have HCl := Lib.hid (cloneReqW_any (flat_atW w ReqR) (one_atW w one_reqW) (.slice ar nr cr) v.reqs w4 (HR.out.atW HB4.out) HV.out.reqs.1)
   have cv := fun i => cell_block BV4.out i
   have cw := fun i => cell_block BW4.out i
   go_wp2_with fail
   refine HCl.out.mono ?_
   rintro E w5 ⟨vn, rfl, ho5, hb5⟩
   obtain ⟨an, cn, hvn, -, -⟩ := ho5.row.len
   rw [Hnr.out] at hvn
   subst hvn
   have HB5 := Lib.hid (HB4.out.trans (hb5.mono HB4.out.size))
   have BV5 := Lib.hid (below_block hb5 BV4.out)
   have BW5 := Lib.hid (below_block hb5 BW4.out)
   have MK5 := Lib.hid (MK4.out.belowW hb5)
   have HN5 : Hid (∀ b, (Value.slice an nr cn).ownBlock = some b → gw < b) := Lib.hid fun b hb => by have := (ho5.at hb).1; omega
   have HO5 : Hid (OwnAt (ReqB (OutD (gw + 1) w5 (.slice an nr cn)) w5) 3 w5 (gw + 1) 97 (.slice an nr cn) (flagL 0 v.reqs)) := Lib.hid (by
    rw [flagL_zero]
    exact (OwnAt.mapL9 (ho5.mono hg4) (fun x => (x, false)) fun cs x _ ⟨v2, e1, e2, e3⟩ => ⟨v2, e1, by obtain ⟨a, c, h9, -, -⟩ := e3.row.len; rw [h9]; rfl, e2, fun e9 => by cases e9⟩))
   clear cv cw ho5 hb5 HCl HB4 BV4 BW4 MK4 hg4
   obtain ⟨w6, hw6⟩ : ∃ w9, w5.setCell ⟨gw, 2, none⟩ (.slice an nr cn) = w9 := ⟨_, rfl⟩
   have t1 := touch_setCell (i := 2) (v := .slice an nr cn) BW5.out
   rw [hw6] at t1
   have cw := fun i => cell_block BW5.out i
   have fw := fun i => free_block BW5.out i
   have BW6 : Hid (w6.heap[gw]? = some (.cells #[.string v.kind, .string v.space, .slice an nr cn, .int .i64 (fr : Int), .map (some hm)] 153 (0, 0))) := Lib.hid t1.1
   have BV6 := Lib.hid (t1.2.block BV5.out (by omega))
   have MK6 := Lib.hid (MK5.out.block (t1.2.other hm (by omega)))
   have HB6 := Lib.hid (t1.2.below HB5.out (by omega))
   have HO6 : Hid (OwnAt (ReqB (OutD (gw + 1) w6 (.slice an nr cn)) w6) 3 w6 (gw + 1) 97 (.slice an nr cn) (flagL 0 v.reqs)) := Lib.hid (by
    have h9 := HO5.out.stay (w' := w6) (famReqB.flat _ _) fun b hb => t1.2.other b (by have := HN5.out b hb; omega)
    exact h9.imp' fun cs y hy => fun ⟨v2, e1, e2, e3, e4⟩ => ⟨v2, e1, e2, e3, fun e9 => by
     rw [flagL_zero] at hy
     obtain ⟨z, -, rfl⟩ := List.mem_map.1 hy
     cases e9⟩)
   go_upto_region 10 with fail
   try rw [hw6]
   clear t1 hw6 cw fw BW5 BV5 MK5 HB5 HO5
   have cv := fun i => cell_block BV6.out i
   go_wp2_with fail
   clear cv
   go_loopg [57] nr (fun k u57 wr => ∃ i : Nat, i + k = nr ∧ u57 = .int .i64 (i : Int) ∧ Hid (Below w.heap.size w wr) ∧ Hid (wr.heap[gw]? = some (.cells #[.string v.kind, .string v.space, .slice an nr cn, .int .i64 (fr : Int), .map (some hm)] 153 (0, 0))) ∧ Hid (MapK keyC wr hm 0 fun _ => none) ∧ Hid (wr.heap[gv]? = some (.cells #[.string v.kind, .string v.space, .slice ar nr cr] 80 (0, 0))) ∧ Hid (OwnAt (ReqB (OutD (gw + 1) wr (.slice an nr cn)) wr) 3 wr (gw + 1) 97 (.slice an nr cn) (flagL i v.reqs)))
   case atStart => exact ⟨0, by omega, rfl, HB6, BW6, MK6, BV6, HO6⟩
   case round =>
    clear HB6 BW6 MK6 HO6 BV6
    obtain ⟨i, hik, rfl, HB, BW, MK, BV, HO⟩ := hrel
    have hsr := HB.out.size
    cases gk with
    | zero =>
     obtain rfl : nr = i := by omega
     have HX : Hid (OwnX ReqX 3 (fun b => gw < b ∧ b < wr.heap.size) wr 97 (.slice an nr cn) v.reqs) := Lib.hid (by
      have h9 := HO.out
      rw [← Hnr.out, flagL_all] at h9
      have h8 := OwnAt.mapL9 (R' := ReqX (fun b => gw < b ∧ b < wr.heap.size) wr) h9 Prod.fst (fun cs y hy h7 => by
       obtain ⟨z, -, rfl⟩ := List.mem_map.1 hy
       obtain ⟨v2, e1, -, e3, e4⟩ := h7
       exact ⟨v2, e1, (e4 rfl).mono famStr fun b hb => ⟨hb.1, hb.2.1⟩, e3⟩)
      rw [List.map_map, show (Prod.fst ∘ fun x : GReq => (x, true)) = id from rfl, List.map_id] at h8
      rw [Hnr.out] at h8
      exact ⟨h8.mono (Nat.zero_le _), fun b hb => ⟨(h8.at hb).1, (h8.at hb).2.1⟩⟩)
     have hsz0 : ∃ z, z = wr.heap.size := ⟨_, rfl⟩
     obtain ⟨sz0, hsz0⟩ := hsz0
     rw [← hsz0] at HX
     have hsz1 : sz0 ≤ wr.heap.size := by omega
     have hgwz : gw < sz0 := by rw [hsz0]; exact lt_of_some BW.out
     clear HO hsz0
     by_cases hf0 : fr = 0
     ·have q0 : ¬ (0 < fr) := by omega
      have MK0 : Hid (∃ m f, m ≤ fr ∧ MapK keyC wr hm m f ∧ ∀ k, (f k).isSome = isF (curV v (S.log.take fr)) k) := Lib.hid ⟨0, _, Nat.zero_le _, MK.out, fun k => by rw [hf0, List.take_zero, curV_nil]; rfl⟩
      clear hf0 MK BV
      have HHr := Lib.hid (HH.out.belowX HB.out)
      have hnw : (Lit.int .i64 ((mk : Int) + 1)).wf = true := i64_wfW (by omega) (by omega)
      have cc := fun i => cell_block HHr.out.box i
      have fc := fun i => free_block HHr.out.box i
      obtain ⟨w7, hw7⟩ : ∃ w9, wr.setCell ⟨gh, 2, none⟩ (.int .i64 ((mk : Int) + 1)) = w9 := ⟨_, rfl⟩
      have t1 := touch_setCell (i := 2) (v := .int .i64 ((mk : Int) + 1)) HHr.out.box
      rw [hw7] at t1
      have HH7 : Hid (HubAt w7 gh gs om M ((mk : Int) + 1) n) := Lib.hid ⟨t1.1, let ⟨m9, f9, h0, h1, h2⟩ := HHr.out.map; ⟨m9, f9, h0, h1.block (t1.2.other om hgo), h2⟩⟩
      have hgwr : gw < wr.heap.size := lt_of_some BW.out
      have hwgw : w.heap.size ≤ gw := by omega
      have HW7 : Hid (WatchAt w7 gw hm (.slice an nr cn) (fun b => gw < b ∧ b < sz0) v (fr : Int) (isF (curV v (S.log.take fr))) fr) := Lib.hid ⟨t1.2.block BW.out (by omega), (let ⟨m9, f9, a1, a2, a3⟩ := MK0.out; ⟨m9, f9, a1, a2.block (t1.2.other hm (by omega)), a3⟩), HX.out.agree famReq fun b hb => t1.2.other b (by have := hb.1; omega), fun b hb => ⟨by rw [t1.2.size]; have := hb.2; omega, by have := hb.1; omega, by have := hb.1; omega⟩⟩
      have HO7 : Hid (Only (fun b => b = gh ∨ b = om) w w7) := Lib.hid (Only.after HB.out (Only.touch (D := fun b => b = gh ∨ b = om) t1.2 (.inl rfl)))
      have hs7 : wr.heap.size ≤ w7.heap.size := by rw [t1.2.size]; exact Nat.le_refl _
      go_upto_region 24 with fail
      try rw [hw7]
      clear t1 hw7 cc fc HHr HX BW MK0
      refine wp_region_hold 9 (fun w' => Below w7.heap.size w7 w') (by kernel_rfl) (by kernel_rfl) ?_ ?_
      ·exact (Below.refl _ w7).drew
      simp only [List.take_succ_cons, List.take_zero, List.drop_succ_cons, List.drop_zero]
      (first | (refine wpHold_pure (v := ?_) (by rfl) (fun w => ?_) ?_; rotate_left; focus (first | (go_simp; done) | (go_simp; with_reducible rfl))) | (refine wpHold_skip ?_ ?_; focus (go_simp; done)) | (refine wpHold_pure' (v := ?_) ?_ (fun w => ?_) ?_; rotate_left; focus (go_simp; done); focus (first | (go_simp; done) | (go_simp; with_reducible rfl)))); try simp only [Act.put, List.setIfInBounds_toArray, List.set_cons_zero, List.set_cons_succ]
      (first | (refine wpHold_pure (v := ?_) (by rfl) (fun w => ?_) ?_; rotate_left; focus (first | (go_simp; done) | (go_simp; with_reducible rfl))) | (refine wpHold_skip ?_ ?_; focus (go_simp; done)) | (refine wpHold_pure' (v := ?_) ?_ (fun w => ?_) ?_; rotate_left; focus (go_simp; done); focus (first | (go_simp; done) | (go_simp; with_reducible rfl)))); try simp only [Act.put, List.setIfInBounds_toArray, List.set_cons_zero, List.set_cons_succ]
      (first | (refine wpHold_pure (v := ?_) (by rfl) (fun w => ?_) ?_; rotate_left; focus (first | (go_simp; done) | (go_simp; with_reducible rfl))) | (refine wpHold_skip ?_ ?_; focus (go_simp; done)) | (refine wpHold_pure' (v := ?_) ?_ (fun w => ?_) ?_; rotate_left; focus (go_simp; done); focus (first | (go_simp; done) | (go_simp; with_reducible rfl)))); try simp only [Act.put, List.setIfInBounds_toArray, List.set_cons_zero, List.set_cons_succ]
      refine wpHold_read (v := .map (some om)) (by rfl) (fun w' hI => ?_) ?_
      ·have d1 := cell_block (HH7.out.belowX hI).box 1
       go_simp
       done
      try simp only [Act.put, List.setIfInBounds_toArray, List.set_cons_zero, List.set_cons_succ]
      (first | (refine wpHold_pure (v := ?_) (by rfl) (fun w => ?_) ?_; rotate_left; focus (first | (go_simp; done) | (go_simp; with_reducible rfl))) | (refine wpHold_skip ?_ ?_; focus (go_simp; done)) | (refine wpHold_pure' (v := ?_) ?_ (fun w => ?_) ?_; rotate_left; focus (go_simp; done); focus (first | (go_simp; done) | (go_simp; with_reducible rfl)))); try simp only [Act.put, List.setIfInBounds_toArray, List.set_cons_zero, List.set_cons_succ]
      (first | (refine wpHold_pure (v := ?_) (by rfl) (fun w => ?_) ?_; rotate_left; focus (first | (go_simp; done) | (go_simp; with_reducible rfl))) | (refine wpHold_skip ?_ ?_; focus (go_simp; done)) | (refine wpHold_pure' (v := ?_) ?_ (fun w => ?_) ?_; rotate_left; focus (go_simp; done); focus (first | (go_simp; done) | (go_simp; with_reducible rfl)))); try simp only [Act.put, List.setIfInBounds_toArray, List.set_cons_zero, List.set_cons_succ]
      (first | (refine wpHold_pure (v := ?_) (by rfl) (fun w => ?_) ?_; rotate_left; focus (first | (go_simp; done) | (go_simp; with_reducible rfl))) | (refine wpHold_skip ?_ ?_; focus (go_simp; done)) | (refine wpHold_pure' (v := ?_) ?_ (fun w => ?_) ?_; rotate_left; focus (go_simp; done); focus (first | (go_simp; done) | (go_simp; with_reducible rfl)))); try simp only [Act.put, List.setIfInBounds_toArray, List.set_cons_zero, List.set_cons_succ]
      refine wpHold_read (v := .int .i64 ((mk : Int) + 1)) (by rfl) (fun w' hI => ?_) ?_
      ·have d2 := cell_block (HH7.out.belowX hI).box 2
       go_simp
       done
      try simp only [Act.put, List.setIfInBounds_toArray, List.set_cons_zero, List.set_cons_succ]
      (first | (refine wpHold_pure (v := ?_) (by rfl) (fun w => ?_) ?_; rotate_left; focus (first | (go_simp; done) | (go_simp; with_reducible rfl))) | (refine wpHold_skip ?_ ?_; focus (go_simp; done)) | (refine wpHold_pure' (v := ?_) ?_ (fun w => ?_) ?_; rotate_left; focus (go_simp; done); focus (first | (go_simp; done) | (go_simp; with_reducible rfl)))); try simp only [Act.put, List.setIfInBounds_toArray, List.set_cons_zero, List.set_cons_succ]
      refine wpHold_nil ?_
      intro w8 hI8
      have HH8 := Lib.hid (HH7.out.belowX hI8)
      have HW8 := Lib.hid (HW7.out.belowX hI8)
      have HO8 := Lib.hid (HO7.out.then hI8)
      clear hI8 HH7 HW7 HO7
      obtain ⟨m9, f9, h0, h1, h2⟩ := HH8.out.map
      obtain ⟨w9, hrun, hm9, ht9⟩ := MapK.store h1 Tryz.underlying146 (Nat.lt_of_le_of_lt (m := 8) (by omega) (by decide)) ((mk : Int) + 1) hnw (.pointer (some ⟨gw, 0, none⟩))
      rw [show intC.val ((mk : Int) + 1) = .int .i64 ((mk : Int) + 1) from rfl] at hrun
      go_upto_region 25 with fail
      have O9 : Only (fun b => b = om) w8 w9 := Only.turned ht9 rfl
      have HB9 := Lib.hid ((O9.block gh HH8.out.lts.1 (Ne.symm hgo)).trans HH8.out.box)
      have HM9 : Hid (HubAt w9 gh gs om (fun k => if k = (mk : Int) + 1 then some gw else M k) ((mk : Int) + 1) (n + 1)) := Lib.hid ⟨HB9.out, m9 + 1, _, Nat.succ_le_succ h0, hm9, fun k => by
       unfold updK
       split
       ·rfl
       ·exact h2 k⟩
      have HW9 : Hid (WatchAt w9 gw hm (.slice an nr cn) (fun b => gw < b ∧ b < sz0) v (fr : Int) (isF (curV v (S.log.take fr))) fr) := Lib.hid (HW8.out.agreeX O9.size fun b hb => O9.block b (by
       rcases hb with rfl | rfl | hb
       ·exact HW8.out.lts.1
       ·exact HW8.out.lts.2
       ·exact (HW8.out.low b hb).1) (by
       rcases hb with rfl | rfl | hb
       ·omega
       ·omega
       ·have := hb.1; omega))
      have HO9 : Hid (Only (fun b => b = gh ∨ b = om) w w9) := Lib.hid (HO8.out.trans O9 fun b hb _ => .inr hb)
      have hoe : oe = 0 := Hoe.out.trans (by rfl)
      have cc := fun i => cell_block HB9.out i
      clear hrun hm9 ht9 h0 h1 h2 O9 HH8 HW8 HO8 Hoe
      subst hoe
      go_wp2_with fail
      go_ret2
      exact .inr ⟨rfl, gw, hm, _, _, rfl, HM9.out, HW9.out, fun b hb => (by
       rcases hb with rfl | rfl | hb
       ·omega
       ·omega
       ·have := hb.1; omega), HO9.out⟩
     ·have q0 : 0 < fr := by omega
      have hsn : sinceE S (fr : Int) = 0 := Hk2.out
      obtain ⟨t1, t2⟩ := list_since hsn (by omega)
      have hve : viewE v = 0 := Hk1.out
      have hle := list_ok hve t1
      have hfl : fr ≤ S.log.length := since_in hsn
      have HHr := Lib.hid (HH.out.belowX HB.out)
      have HL16 : Hid (∀ w', Below wr.heap.size wr w' → Calls Tryz.prog 23 #[.pointer (some ⟨gs, 0, none⟩), .string v.kind, .string v.space, .int .i64 (fr : Int)] w' fun e w2 => ∃ u, e = .returned u ∧ LsX wr S v.kind v.space fr u w2 ∧ Below w'.heap.size w' w2) := Lib.hid fun w' hb6 => by
       refine (list_any (StoreAt.belowW HA.out (HB.out.trans (hb6.mono HB.out.size))) HS.out v.kind v.space HV.out.kind HV.out.space (fr : Int)).mono ?_
       rintro e w2 ⟨hb3, E, vl, A, rfl, hT, k2, k3⟩
       exact ⟨_, rfl, ⟨E, vl, A, by rw [hle], k2, fun b hb => ⟨Nat.le_trans hb6.size (k3 b hb).1, (k3 b hb).2⟩, hT⟩, hb3⟩
      go_upto_region 16 with fail
      refine wp_region_relB 14 (fun ii U w' => match ii with
       | 0 => U 0 = .pointer (some ⟨gh, 0, none⟩)
       | 1 => U 1 = .pointer (some ⟨gh, 0, none⟩)
       | 2 => U 2 = .pointer (some ⟨gh, 0, none⟩)
       | 3 => U 3 = .pointer (some ⟨gs, 0, none⟩)
       | 4 => U 4 = .pointer (some ⟨gv, 0, none⟩)
       | 5 => U 5 = .string v.kind
       | 6 => U 6 = .pointer (some ⟨gv, 1, none⟩)
       | 7 => U 7 = .string v.space
       | 8 => U 8 = .int .i64 (fr : Int)
       | 9 => LsX wr S v.kind v.space fr (U 9) w'
       | 10 => LsX wr S v.kind v.space fr (U 10) w'
       | 11 => U 10 = .tuple #[U 11, .int .i64 0]
       | 12 => U 12 = .int .i64 0
       | 13 => U 13 = U 11
       | _ => True)
       (fun | 1 => [0] | 2 => [1] | 3 => [2] | 5 => [4] | 7 => [6] | 9 => [3, 5, 7, 8] | 10 => [9] | 11 => [10] | 12 => [10] | 13 => [11] | _ => []) (by kernel_rfl) (by kernel_rfl) ?_ ⟨?_, ?_, ?_, ?_, ?_, ?_, ?_, ?_, ?_, ?_, ?_, ?_, ?_, ?_, trivial⟩ ?_
      ·intro j u w1 w2 hb h
       match j, h with
       | 0, h => exact h
       | 1, h => exact h
       | 2, h => exact h
       | 3, h => exact h
       | 4, h => exact h
       | 5, h => exact h
       | 6, h => exact h
       | 7, h => exact h
       | 8, h => exact h
       | 9, h => exact h.below hb
       | 10, h => exact h.below hb
       | 11, h => exact h
       | 12, h => exact h
       | 13, h => exact h
       | _ + 14, h => trivial
      ·intro y w' hb hd
       have hb6 : Below wr.heap.size wr w' := (Below.refl wr.heap.size wr).drew.trans hb
       refine owes_here (.pointer (some ⟨gh, 0, none⟩)) (by rfl) ?_ rfl
       simp only [putAll, List.take_succ_cons, List.take_zero]
       go_simp
      ·intro y w' hb hd
       have hb6 : Below wr.heap.size wr w' := (Below.refl wr.heap.size wr).drew.trans hb
       have h0 : y 0 = .pointer (some ⟨gh, 0, none⟩) := hd 0 (by simp)
       refine owes_here (.pointer (some ⟨gh, 0, none⟩)) (by rfl) ?_ rfl
       simp only [putAll, List.take_succ_cons, List.take_zero]
       go_simp
      ·intro y w' hb hd
       have hb6 : Below wr.heap.size wr w' := (Below.refl wr.heap.size wr).drew.trans hb
       have h1 : y 1 = .pointer (some ⟨gh, 0, none⟩) := hd 1 (by simp)
       refine owes_here (.pointer (some ⟨gh, 0, none⟩)) (by rfl) ?_ rfl
       simp only [putAll, List.take_succ_cons, List.take_zero]
       go_simp
      ·intro y w' hb hd
       have hb6 : Below wr.heap.size wr w' := (Below.refl wr.heap.size wr).drew.trans hb
       have h2 : y 2 = .pointer (some ⟨gh, 0, none⟩) := hd 2 (by simp)
       have d0 := cell_block (HHr.out.belowX hb6).box 0
       refine owes_here (.pointer (some ⟨gs, 0, none⟩)) (by rfl) ?_ rfl
       simp only [putAll, List.take_succ_cons, List.take_zero]
       go_simp
      ·intro y w' hb hd
       have hb6 : Below wr.heap.size wr w' := (Below.refl wr.heap.size wr).drew.trans hb
       refine owes_here (.pointer (some ⟨gv, 0, none⟩)) (by rfl) ?_ rfl
       simp only [putAll, List.take_succ_cons, List.take_zero]
       go_simp
      ·intro y w' hb hd
       have hb6 : Below wr.heap.size wr w' := (Below.refl wr.heap.size wr).drew.trans hb
       have h4 : y 4 = .pointer (some ⟨gv, 0, none⟩) := hd 4 (by simp)
       have d0 := cell_block (below_block hb6 BV.out) 0
       refine owes_here (.string v.kind) (by rfl) ?_ rfl
       simp only [putAll, List.take_succ_cons, List.take_zero]
       go_simp
      ·intro y w' hb hd
       have hb6 : Below wr.heap.size wr w' := (Below.refl wr.heap.size wr).drew.trans hb
       refine owes_here (.pointer (some ⟨gv, 1, none⟩)) (by rfl) ?_ rfl
       simp only [putAll, List.take_succ_cons, List.take_zero]
       go_simp
      ·intro y w' hb hd
       have hb6 : Below wr.heap.size wr w' := (Below.refl wr.heap.size wr).drew.trans hb
       have h6 : y 6 = .pointer (some ⟨gv, 1, none⟩) := hd 6 (by simp)
       have d0 := cell_block (below_block hb6 BV.out) 1
       refine owes_here (.string v.space) (by rfl) ?_ rfl
       simp only [putAll, List.take_succ_cons, List.take_zero]
       go_simp
      ·intro y w' hb hd
       have hb6 : Below wr.heap.size wr w' := (Below.refl wr.heap.size wr).drew.trans hb
       refine owes_here (.int .i64 (fr : Int)) (by rfl) ?_ rfl
       simp only [putAll, List.take_succ_cons, List.take_zero]
       go_simp
      ·intro y w' hb hd
       have hb6 : Below wr.heap.size wr w' := (Below.refl wr.heap.size wr).drew.trans hb
       have h3 : y 3 = .pointer (some ⟨gs, 0, none⟩) := hd 3 (by simp)
       have h5 : y 5 = .string v.kind := hd 5 (by simp)
       have h7 : y 7 = .string v.space := hd 7 (by simp)
       have h8 : y 8 = .int .i64 (fr : Int) := hd 8 (by simp)
       refine owes_call 23 #[.pointer (some ⟨gs, 0, none⟩), .string v.kind, .string v.space, .int .i64 (fr : Int)] (by rfl) ?_ ((HL16.out w' hb6).mono ?_)
       ·simp only [putAll, List.take_succ_cons, List.take_zero]
        go_simp
       ·rintro _ w2 ⟨v2, rfl, ho, hb3⟩
        exact ⟨v2, rfl, ho, hb3⟩
      ·intro y w' hb hd
       have hb6 : Below wr.heap.size wr w' := (Below.refl wr.heap.size wr).drew.trans hb
       have h9 : LsX wr S v.kind v.space fr (y 9) w' := hd 9 (by simp)
       refine owes_here (y 9) (by rfl) ?_ h9
       simp only [putAll, List.take_succ_cons, List.take_zero]
       go_simp
      ·intro y w' hb hd
       have hb6 : Below wr.heap.size wr w' := (Below.refl wr.heap.size wr).drew.trans hb
       have h10 : LsX wr S v.kind v.space fr (y 10) w' := hd 10 (by simp)
       obtain ⟨E, vl, A, g9, -⟩ := h10
       refine owes_here vl (by rfl) ?_ g9
       simp only [putAll, List.take_succ_cons, List.take_zero]
       rw [g9]
       go_simp
      ·intro y w' hb hd
       have hb6 : Below wr.heap.size wr w' := (Below.refl wr.heap.size wr).drew.trans hb
       have h10 : LsX wr S v.kind v.space fr (y 10) w' := hd 10 (by simp)
       obtain ⟨E, vl, A, g9, -⟩ := h10
       refine owes_here (.int .i64 0) (by rfl) ?_ rfl
       simp only [putAll, List.take_succ_cons, List.take_zero]
       rw [g9]
       go_simp
      ·intro y w' hb hd
       have hb6 : Below wr.heap.size wr w' := (Below.refl wr.heap.size wr).drew.trans hb
       refine owes_here (y 11) (by rfl) ?_ rfl
       simp only [putAll, List.take_succ_cons, List.take_zero]
       go_simp
      intro y w' hb hR
      have hb6 : Below wr.heap.size wr w' := (Below.refl wr.heap.size wr).drew.trans hb
      have HB8 := Lib.hid (HB.out.trans (hb6.mono HB.out.size))
      have BW8 := Lib.hid (below_block hb6 BW.out)
      have BV8 := Lib.hid (below_block hb6 BV.out)
      have MK8 := Lib.hid (MK.out.belowW hb6)
      have HX8 := Lib.hid (HX.out.agree famReq fun b hb => hb6.block b (by have := hb.2; omega))
      have hs8 := hb6.size
      have r9 : LsX wr S v.kind v.space fr (y 10) w' := hR 10 (by omega)
      have g11 : y 10 = .tuple #[y 11, .int .i64 0] := hR 11 (by omega)
      have r12 : y 12 = .int .i64 0 := hR 12 (by omega)
      have r13 : y 13 = y 11 := hR 13 (by omega)
      obtain ⟨E, vl, A, g9, k2, k3, hT⟩ := r9
      have g13 : y 13 = vl := by
       rw [g9] at g11
       injection g11 with g11
       have h8 := congrArg (fun a : Array Value => a[0]?) g11
       rw [r13]
       exact (Option.some.inj h8).symm
      have T1 := Lib.hid t2
      have HLe := Lib.hid hle
      have Hfl := Lib.hid hfl
      obtain ⟨w9, hw9⟩ : ∃ w9, w' = w9 := ⟨_, rfl⟩
      rw [hw9] at HB8 BW8 BV8 MK8 HX8 hs8 k2 k3 ⊢
      simp only [putAll, List.take_succ_cons, List.take_zero, List.drop_succ_cons, List.drop_zero]
      rw [g13, r12]
      clear hb hR hb6 HHr HB BW BV MK HX hsn t1 t2 hve hle hfl g9 g11 g13 r12 r13 hw9 HL16
      try simp only [Act.put, List.setIfInBounds_toArray, List.set_cons_zero, List.set_cons_succ]
      have HIL : Hid (IsList (S.log.take fr) v.kind v.space A) := Lib.hid (by have h9 := hT.2 HLe.out; rw [T1.out] at h9; exact h9)
      have hnA9 : A.length ≤ fr := list_len HS.out.good Hfl.out HIL.out
      have okA : Hid (∀ o ∈ A, OkObj o) := Lib.hid (okObj_list9 HS.out (fun e he => List.mem_of_mem_take he) HIL.out)
      have HF : Hid (listM (showsV v) A = curV v (S.log.take fr)) := Lib.hid (listM_curV HIL.out _ fun o ho => shows_fit ((HIL.out.2 o).1 ho).1)
      obtain ⟨aA, cA, rfl, -, -⟩ := k2.own.row.len
      obtain ⟨nA, HnA⟩ : ∃ n, Hid (A.length = n) := ⟨_, Lib.hid rfl⟩
      rw [HnA.out] at k2 hnA9 ⊢
      have RA9 := Lib.hid k2
      have HE : Hid (∀ b, E b → wr.heap.size ≤ b) := Lib.hid fun b hb => (k3 b hb).1
      have HE9 : Hid (∀ b, E b → b < w9.heap.size) := Lib.hid fun b hb => (k3 b hb).2
      have HB9 := HB8
      have BW9 := BW8
      have BV9 := BV8
      have MK9 := MK8
      have HX9 := HX8
      have HK9 : Hid (∀ k, ((fun _ => none : GKey → Option Value) k).isSome = isF (listM (showsV v) (A.take 0)) k) := Lib.hid fun k => by rw [List.take_zero]; rfl
      have h89 : sz0 ≤ wr.heap.size := hsz1
      have h98 : sz0 ≤ w9.heap.size := by omega
      clear hT k2 k3 HIL HB8 BW8 BV8 MK8 HX8 HLe hs8 hsz1 T1 Hfl
      go_wp2_with fail
      go_loopg [91] nA (fun k2 u91 wr2 => ∃ (i : Nat) (f : GKey → Option Value), i + k2 = nA ∧ u91 = .int .i64 (i : Int) ∧ Hid (MapK keyC wr2 hm i f) ∧ Hid (∀ k, (f k).isSome = isF (listM (showsV v) (A.take i)) k) ∧ Hid (Below w.heap.size w wr2) ∧ Hid (wr2.heap[gw]? = some (.cells #[.string v.kind, .string v.space, .slice an nr cn, .int .i64 (fr : Int), .map (some hm)] 153 (0, 0))) ∧ Hid (wr2.heap[gv]? = some (.cells #[.string v.kind, .string v.space, .slice ar nr cr] 80 (0, 0))) ∧ Hid (OwnX ObjX 10 E wr2 30 (.slice aA nA cA) A) ∧ Hid (∀ b, E b → b < wr2.heap.size) ∧ Hid (OwnX ReqX 3 (fun b => gw < b ∧ b < sz0) wr2 97 (.slice an nr cn) v.reqs) ∧ sz0 ≤ wr2.heap.size)
      case atStart => exact ⟨0, _, by omega, rfl, MK9, HK9, HB9, BW9, BV9, RA9, HE9, HX9, h98⟩
      case round =>
       clear MK9 HK9 HB9 BW9 BV9 RA9 HE9 HX9 h98
       obtain ⟨i, f, hik, rfl, MK, HK, HB, BW, BV, RA, HEr, HX, hszr⟩ := hrel
       cases gk with
       | zero =>
        obtain rfl : nA = i := by omega
        have MK0 : Hid (∃ m f, m ≤ fr ∧ MapK keyC wr hm m f ∧ ∀ k, (f k).isSome = isF (curV v (S.log.take fr)) k) := Lib.hid ⟨nA, f, hnA9, MK.out, fun k => by rw [← HF.out]; have h9 := HK.out k; rw [← HnA.out, List.take_length] at h9; exact h9⟩
        clear MK HK BV RA
        have HHr := Lib.hid (HH.out.belowX HB.out)
        have hnw : (Lit.int .i64 ((mk : Int) + 1)).wf = true := i64_wfW (by omega) (by omega)
        have cc := fun i => cell_block HHr.out.box i
        have fc := fun i => free_block HHr.out.box i
        obtain ⟨w7, hw7⟩ : ∃ w9, wr.setCell ⟨gh, 2, none⟩ (.int .i64 ((mk : Int) + 1)) = w9 := ⟨_, rfl⟩
        have t1 := touch_setCell (i := 2) (v := .int .i64 ((mk : Int) + 1)) HHr.out.box
        rw [hw7] at t1
        have HH7 : Hid (HubAt w7 gh gs om M ((mk : Int) + 1) n) := Lib.hid ⟨t1.1, let ⟨m9, f9, h0, h1, h2⟩ := HHr.out.map; ⟨m9, f9, h0, h1.block (t1.2.other om hgo), h2⟩⟩
        have hgwr : gw < wr.heap.size := lt_of_some BW.out
        have hwgw : w.heap.size ≤ gw := by omega
        have HW7 : Hid (WatchAt w7 gw hm (.slice an nr cn) (fun b => gw < b ∧ b < sz0) v (fr : Int) (isF (curV v (S.log.take fr))) fr) := Lib.hid ⟨t1.2.block BW.out (by omega), (let ⟨m9, f9, a1, a2, a3⟩ := MK0.out; ⟨m9, f9, a1, a2.block (t1.2.other hm (by omega)), a3⟩), HX.out.agree famReq fun b hb => t1.2.other b (by have := hb.1; omega), fun b hb => ⟨by rw [t1.2.size]; have := hb.2; omega, by have := hb.1; omega, by have := hb.1; omega⟩⟩
        have HO7 : Hid (Only (fun b => b = gh ∨ b = om) w w7) := Lib.hid (Only.after HB.out (Only.touch (D := fun b => b = gh ∨ b = om) t1.2 (.inl rfl)))
        have hs7 : wr.heap.size ≤ w7.heap.size := by rw [t1.2.size]; exact Nat.le_refl _
        go_upto_region 24 with fail
        try rw [hw7]
        clear t1 hw7 cc fc HHr HX BW MK0
        refine wp_region_hold 9 (fun w' => Below w7.heap.size w7 w') (by kernel_rfl) (by kernel_rfl) ?_ ?_
        ·exact (Below.refl _ w7).drew
        simp only [List.take_succ_cons, List.take_zero, List.drop_succ_cons, List.drop_zero]
        (first | (refine wpHold_pure (v := ?_) (by rfl) (fun w => ?_) ?_; rotate_left; focus (first | (go_simp; done) | (go_simp; with_reducible rfl))) | (refine wpHold_skip ?_ ?_; focus (go_simp; done)) | (refine wpHold_pure' (v := ?_) ?_ (fun w => ?_) ?_; rotate_left; focus (go_simp; done); focus (first | (go_simp; done) | (go_simp; with_reducible rfl)))); try simp only [Act.put, List.setIfInBounds_toArray, List.set_cons_zero, List.set_cons_succ]
        (first | (refine wpHold_pure (v := ?_) (by rfl) (fun w => ?_) ?_; rotate_left; focus (first | (go_simp; done) | (go_simp; with_reducible rfl))) | (refine wpHold_skip ?_ ?_; focus (go_simp; done)) | (refine wpHold_pure' (v := ?_) ?_ (fun w => ?_) ?_; rotate_left; focus (go_simp; done); focus (first | (go_simp; done) | (go_simp; with_reducible rfl)))); try simp only [Act.put, List.setIfInBounds_toArray, List.set_cons_zero, List.set_cons_succ]
        (first | (refine wpHold_pure (v := ?_) (by rfl) (fun w => ?_) ?_; rotate_left; focus (first | (go_simp; done) | (go_simp; with_reducible rfl))) | (refine wpHold_skip ?_ ?_; focus (go_simp; done)) | (refine wpHold_pure' (v := ?_) ?_ (fun w => ?_) ?_; rotate_left; focus (go_simp; done); focus (first | (go_simp; done) | (go_simp; with_reducible rfl)))); try simp only [Act.put, List.setIfInBounds_toArray, List.set_cons_zero, List.set_cons_succ]
        refine wpHold_read (v := .map (some om)) (by rfl) (fun w' hI => ?_) ?_
        ·have d1 := cell_block (HH7.out.belowX hI).box 1
         go_simp
         done
        try simp only [Act.put, List.setIfInBounds_toArray, List.set_cons_zero, List.set_cons_succ]
        (first | (refine wpHold_pure (v := ?_) (by rfl) (fun w => ?_) ?_; rotate_left; focus (first | (go_simp; done) | (go_simp; with_reducible rfl))) | (refine wpHold_skip ?_ ?_; focus (go_simp; done)) | (refine wpHold_pure' (v := ?_) ?_ (fun w => ?_) ?_; rotate_left; focus (go_simp; done); focus (first | (go_simp; done) | (go_simp; with_reducible rfl)))); try simp only [Act.put, List.setIfInBounds_toArray, List.set_cons_zero, List.set_cons_succ]
        (first | (refine wpHold_pure (v := ?_) (by rfl) (fun w => ?_) ?_; rotate_left; focus (first | (go_simp; done) | (go_simp; with_reducible rfl))) | (refine wpHold_skip ?_ ?_; focus (go_simp; done)) | (refine wpHold_pure' (v := ?_) ?_ (fun w => ?_) ?_; rotate_left; focus (go_simp; done); focus (first | (go_simp; done) | (go_simp; with_reducible rfl)))); try simp only [Act.put, List.setIfInBounds_toArray, List.set_cons_zero, List.set_cons_succ]
        (first | (refine wpHold_pure (v := ?_) (by rfl) (fun w => ?_) ?_; rotate_left; focus (first | (go_simp; done) | (go_simp; with_reducible rfl))) | (refine wpHold_skip ?_ ?_; focus (go_simp; done)) | (refine wpHold_pure' (v := ?_) ?_ (fun w => ?_) ?_; rotate_left; focus (go_simp; done); focus (first | (go_simp; done) | (go_simp; with_reducible rfl)))); try simp only [Act.put, List.setIfInBounds_toArray, List.set_cons_zero, List.set_cons_succ]
        refine wpHold_read (v := .int .i64 ((mk : Int) + 1)) (by rfl) (fun w' hI => ?_) ?_
        ·have d2 := cell_block (HH7.out.belowX hI).box 2
         go_simp
         done
        try simp only [Act.put, List.setIfInBounds_toArray, List.set_cons_zero, List.set_cons_succ]
        (first | (refine wpHold_pure (v := ?_) (by rfl) (fun w => ?_) ?_; rotate_left; focus (first | (go_simp; done) | (go_simp; with_reducible rfl))) | (refine wpHold_skip ?_ ?_; focus (go_simp; done)) | (refine wpHold_pure' (v := ?_) ?_ (fun w => ?_) ?_; rotate_left; focus (go_simp; done); focus (first | (go_simp; done) | (go_simp; with_reducible rfl)))); try simp only [Act.put, List.setIfInBounds_toArray, List.set_cons_zero, List.set_cons_succ]
        refine wpHold_nil ?_
        intro w8 hI8
        have HH8 := Lib.hid (HH7.out.belowX hI8)
        have HW8 := Lib.hid (HW7.out.belowX hI8)
        have HO8 := Lib.hid (HO7.out.then hI8)
        clear hI8 HH7 HW7 HO7
        obtain ⟨m9, f9, h0, h1, h2⟩ := HH8.out.map
        obtain ⟨w9, hrun, hm9, ht9⟩ := MapK.store h1 Tryz.underlying146 (Nat.lt_of_le_of_lt (m := 8) (by omega) (by decide)) ((mk : Int) + 1) hnw (.pointer (some ⟨gw, 0, none⟩))
        rw [show intC.val ((mk : Int) + 1) = .int .i64 ((mk : Int) + 1) from rfl] at hrun
        go_upto_region 25 with fail
        have O9 : Only (fun b => b = om) w8 w9 := Only.turned ht9 rfl
        have HB9 := Lib.hid ((O9.block gh HH8.out.lts.1 (Ne.symm hgo)).trans HH8.out.box)
        have HM9 : Hid (HubAt w9 gh gs om (fun k => if k = (mk : Int) + 1 then some gw else M k) ((mk : Int) + 1) (n + 1)) := Lib.hid ⟨HB9.out, m9 + 1, _, Nat.succ_le_succ h0, hm9, fun k => by
         unfold updK
         split
         ·rfl
         ·exact h2 k⟩
        have HW9 : Hid (WatchAt w9 gw hm (.slice an nr cn) (fun b => gw < b ∧ b < sz0) v (fr : Int) (isF (curV v (S.log.take fr))) fr) := Lib.hid (HW8.out.agreeX O9.size fun b hb => O9.block b (by
         rcases hb with rfl | rfl | hb
         ·exact HW8.out.lts.1
         ·exact HW8.out.lts.2
         ·exact (HW8.out.low b hb).1) (by
         rcases hb with rfl | rfl | hb
         ·omega
         ·omega
         ·have := hb.1; omega))
        have HO9 : Hid (Only (fun b => b = gh ∨ b = om) w w9) := Lib.hid (HO8.out.trans O9 fun b hb _ => .inr hb)
        have hoe : oe = 0 := Hoe.out.trans (by rfl)
        have cc := fun i => cell_block HB9.out i
        clear hrun hm9 ht9 h0 h1 h2 O9 HH8 HW8 HO8 Hoe
        subst hoe
        go_wp2_with fail
        go_ret2
        exact .inr ⟨rfl, gw, hm, _, _, rfl, HM9.out, HW9.out, fun b hb => (by
         rcases hb with rfl | rfl | hb
         ·omega
         ·omega
         ·have := hb.1; omega), HO9.out⟩
       | succ k =>
        have hil : i < nA := by omega
        obtain ⟨x, hx⟩ : ∃ x, A[i]? = some x := ⟨A[i]'(by rw [HnA.out]; exact hil), List.getElem?_eq_getElem _⟩
        obtain ⟨bA, oA, v1, v2, v3, hva, hobj, ec⟩ := obj_cells9 RA.out.own.row HnA.out (Below.refl _ _) hx
        subst hva
        obtain ⟨a7, c7, rfl, -, -⟩ := hobj.rowL.len
        obtain ⟨a8, c8, rfl, -, -⟩ := hobj.rowO.row.len
        obtain ⟨a9, c9, rfl, -, -⟩ := hobj.rowH.row.len
        obtain ⟨n7, Hn7⟩ : ∃ n, Hid (x.labels.length = n) := ⟨_, Lib.hid rfl⟩
        obtain ⟨n8, Hn8⟩ : ∃ n, Hid (x.owners.length = n) := ⟨_, Lib.hid rfl⟩
        obtain ⟨n9, Hn9⟩ : ∃ n, Hid (x.holds.length = n) := ⟨_, Lib.hid rfl⟩
        rw [Hn7.out, Hn8.out, Hn9.out] at hobj ec
        have f0 := ec 0 _ rfl
        have f1 := ec 1 _ rfl
        have f2 := ec 2 _ rfl
        have f3 := ec 3 _ rfl
        have f4 := ec 4 _ rfl
        have f5 := ec 5 _ rfl
        have f6 := ec 6 _ rfl
        have f7 := ec 7 _ rfl
        have f8 := ec 8 _ rfl
        have f9 := ec 9 _ rfl
        rw [Nat.add_zero] at f0
        have q1 : (0 : Int) ≤ (i : Int) := by omega
        have q2 : (i : Int) < (nA : Int) := by omega
        have Hx := Lib.hid hx
        have Hok : Hid (OkObj x) := Lib.hid (okA.out x (List.mem_of_getElem? hx))
        have Hkey : Hid (okKey x.okey) := Lib.hid ⟨Nat.le_trans Hok.out.kind (by decide), Nat.le_trans Hok.out.space (by decide), Nat.le_trans Hok.out.name (by decide)⟩
        have H7 := Lib.hid (heap_alloc_new wr (.cells noA 30))
        have hb4 := Lib.hid ((Below.refl wr.heap.size wr).alloc (Nat.le_refl _) (.cells noA 30))
        have hs4 := Lib.hid (World.size_alloc wr (.cells noA 30))
        have Hobj0 := Lib.hid hobj
        clear hx ec hobj
        go_wp2_with (refine wpList_store_box (by rfl) _ _ _ (by rfl) wr.heap.size #[.string x.okey.kind, .string x.okey.space, .string x.okey.name, .slice a7 n7 c7, .slice a8 n8 c8, .slice a9 n9 c9, .bool x.ending, .string x.uid, .int .i64 x.rev, .string x.doc] (by rfl) (by rfl) _ _ (by exact H7.out) (by exact Tryz.sizeObj) (by rfl) (by simp [Value.oneCell']) ?_)
        intro w5 b5 t5
        have hb5 : Below wr.heap.size wr w5 := t5.below hb4.out (Nat.le_refl _)
        obtain ⟨gx, hgx⟩ : ∃ g, wr.heap.size = g := ⟨_, rfl⟩
        rw [hgx] at b5 ⊢
        have BX5 := Lib.hid b5
        have hs5 := hb5.size
        have BV5 := Lib.hid (below_block hb5 BV.out)
        have BW5 := Lib.hid (below_block hb5 BW.out)
        have MK5 := Lib.hid (MK.out.belowW hb5)
        have RA5 := Lib.hid (RA.out.agree famObj fun b hb => hb5.block b (HEr.out b hb))
        have Hobj5 := Lib.hid (Hobj0.out.agree fun b hb => hb5.block b (HEr.out b hb))
        have HE5 : Hid (∀ b, E b → b < w5.heap.size) := Lib.hid fun b hb => Nat.lt_of_lt_of_le (HEr.out b hb) hb5.size
        have HX5 := Lib.hid (HX.out.agree famReq fun b hb => hb5.block b (by have := hb.2; omega))
        have HB5 := Lib.hid (HB.out.trans (hb5.mono HB.out.size))
        have hz5 : sz0 ≤ w5.heap.size := by omega
        clear b5 t5 hb5 hb4 hs4 H7 HB BV BW MK RA HEr HX Hobj0 f0 f1 f2 f3 f4 f5 f6 f7 f8 f9 hgx hs5 hszr
        obtain ⟨fb, Hfb⟩ : ∃ y, Hid (showsV v x = y) := ⟨_, Lib.hid rfl⟩
        have HC : Hid (Calls Tryz.prog 79 #[.agg #[.string v.kind, .string v.space, .slice ar nr cr], .agg #[.string x.okey.kind, .string x.okey.space, .string x.okey.name, .slice a7 n7 c7, .slice a8 n8 c8, .slice a9 n9 c9, .bool x.ending, .string x.uid, .int .i64 x.rev, .string x.doc]] w5 fun e w' => e = .returned (.bool fb) ∧ Below w5.heap.size w5 w') := Lib.hid (by
         rw [← Hfb.out]
         have h9 := shows_any v (.slice ar nr cr) x (.slice a7 n7 c7) (.slice a8 n8 c8) (.slice a9 n9 c9) w5 (by have h8 := HR.out.below stays_req HB5.out; exact h8) HV.out.reqs.1 HV.out.reqs.2 Hobj5.out.rowL Hobj5.out.rowO Hobj5.out.rowH Hok.out (let ⟨m, hm⟩ := HMx.out; ⟨m, hm.below HB5.out⟩)
         exact h9)
        have cv := fun i => cell_block BV5.out i
        have cx := fun i => cell_block BX5.out i
        have HLs : Hid (listM (showsV v) (A.take (i + 1)) = if fb = true then (fun k => if k = x.okey then some x else listM (showsV v) (A.take i) k) else listM (showsV v) (A.take i)) := Lib.hid (by
         rw [take_snoc Hx.out, listM_snoc, Hfb.out])
        go_wp2_with fail
        refine HC.out.mono ?_
        rintro E8 w6 ⟨rfl, hb6⟩
        have hs6 := hb6.size
        have BX6 := Lib.hid (below_block hb6 BX5.out)
        have BV6 := Lib.hid (below_block hb6 BV5.out)
        have BW6 := Lib.hid (below_block hb6 BW5.out)
        have MK6 := Lib.hid (MK5.out.belowW hb6)
        have RA6 := Lib.hid (RA5.out.agree famObj fun b hb => hb6.block b (HE5.out b hb))
        have HE6 : Hid (∀ b, E b → b < w6.heap.size) := Lib.hid fun b hb => Nat.lt_of_lt_of_le (HE5.out b hb) hb6.size
        have HX6 := Lib.hid (HX5.out.agree famReq fun b hb => hb6.block b (by have := hb.2; omega))
        have HB6 := Lib.hid (HB5.out.trans (hb6.mono HB5.out.size))
        have hz6 : sz0 ≤ w6.heap.size := by omega
        clear hb6 hs6 HC cv cx BX5 BV5 BW5 MK5 RA5 Hobj5 HE5 HX5 HB5 Hfb hz5
        cases fb with
        | false =>
         have HK9 : Hid (∀ k, (f k).isSome = isF (listM (showsV v) (A.take (i + 1))) k) := Lib.hid (by rw [HLs.out, if_neg (by decide)]; exact HK.out)
         have MK9 := Lib.hid (MK6.out.mono (Nat.le_succ i))
         clear HLs HK MK6 BX6
         go_wp2_with fail
         go_roundg k
         case measure => omega
         case rel => exact ⟨i + 1, f, by omega, by go_num, MK9, HK9, HB6, BW6, BV6, RA6, HE6, HX6, hz6⟩
        | true =>
         have hgx6 := lt_of_some BX6.out
         go_upto_region 21 with fail
         refine wp_region_hold 8 (fun w' => Below w6.heap.size w6 w') (by kernel_rfl) (by kernel_rfl) ?_ ?_
         ·exact (Below.refl _ w6).drew
         simp only [List.take_succ_cons, List.take_zero, List.drop_succ_cons, List.drop_zero]
         (first | (refine wpHold_pure (v := ?_) (by rfl) (fun w => ?_) ?_; rotate_left; focus (first | (go_simp; done) | (go_simp; with_reducible rfl))) | (refine wpHold_skip ?_ ?_; focus (go_simp; done)) | (refine wpHold_pure' (v := ?_) ?_ (fun w => ?_) ?_; rotate_left; focus (go_simp; done); focus (first | (go_simp; done) | (go_simp; with_reducible rfl)))); try simp only [Act.put, List.setIfInBounds_toArray, List.set_cons_zero, List.set_cons_succ]
         (first | (refine wpHold_pure (v := ?_) (by rfl) (fun w => ?_) ?_; rotate_left; focus (first | (go_simp; done) | (go_simp; with_reducible rfl))) | (refine wpHold_skip ?_ ?_; focus (go_simp; done)) | (refine wpHold_pure' (v := ?_) ?_ (fun w => ?_) ?_; rotate_left; focus (go_simp; done); focus (first | (go_simp; done) | (go_simp; with_reducible rfl)))); try simp only [Act.put, List.setIfInBounds_toArray, List.set_cons_zero, List.set_cons_succ]
         (first | (refine wpHold_pure (v := ?_) (by rfl) (fun w => ?_) ?_; rotate_left; focus (first | (go_simp; done) | (go_simp; with_reducible rfl))) | (refine wpHold_skip ?_ ?_; focus (go_simp; done)) | (refine wpHold_pure' (v := ?_) ?_ (fun w => ?_) ?_; rotate_left; focus (go_simp; done); focus (first | (go_simp; done) | (go_simp; with_reducible rfl)))); try simp only [Act.put, List.setIfInBounds_toArray, List.set_cons_zero, List.set_cons_succ]
         refine wpHold_read (v := .map (some hm)) (by rfl) (fun w' hI => ?_) ?_
         ·have d1 := cell_block (below_block hI BW6.out) 4
          go_simp
          done
         try simp only [Act.put, List.setIfInBounds_toArray, List.set_cons_zero, List.set_cons_succ]
         (first | (refine wpHold_pure (v := ?_) (by rfl) (fun w => ?_) ?_; rotate_left; focus (first | (go_simp; done) | (go_simp; with_reducible rfl))) | (refine wpHold_skip ?_ ?_; focus (go_simp; done)) | (refine wpHold_pure' (v := ?_) ?_ (fun w => ?_) ?_; rotate_left; focus (go_simp; done); focus (first | (go_simp; done) | (go_simp; with_reducible rfl)))); try simp only [Act.put, List.setIfInBounds_toArray, List.set_cons_zero, List.set_cons_succ]
         refine wpHold_read (v := .agg #[.string x.okey.kind, .string x.okey.space, .string x.okey.name]) (by rfl) (fun w' hI => ?_) ?_
         ·have d0 := cell_block (below_block hI BX6.out) 0
          have d1 := cell_block (below_block hI BX6.out) 1
          have d2 := cell_block (below_block hI BX6.out) 2
          go_simp
          done
         try simp only [Act.put, List.setIfInBounds_toArray, List.set_cons_zero, List.set_cons_succ]
         (first | (refine wpHold_pure (v := ?_) (by rfl) (fun w => ?_) ?_; rotate_left; focus (first | (go_simp; done) | (go_simp; with_reducible rfl))) | (refine wpHold_skip ?_ ?_; focus (go_simp; done)) | (refine wpHold_pure' (v := ?_) ?_ (fun w => ?_) ?_; rotate_left; focus (go_simp; done); focus (first | (go_simp; done) | (go_simp; with_reducible rfl)))); try simp only [Act.put, List.setIfInBounds_toArray, List.set_cons_zero, List.set_cons_succ]
         refine wpHold_read (v := .int .i64 x.rev) (by rfl) (fun w' hI => ?_) ?_
         ·have d1 := cell_block (below_block hI BX6.out) 8
          go_simp
          done
         try simp only [Act.put, List.setIfInBounds_toArray, List.set_cons_zero, List.set_cons_succ]
         refine wpHold_nil ?_
         intro w8 hI8
         have hs8 := hI8.size
         have BV8 := Lib.hid (below_block hI8 BV6.out)
         have BW8 := Lib.hid (below_block hI8 BW6.out)
         have MK8 := Lib.hid (MK6.out.belowW hI8)
         have RA8 := Lib.hid (RA6.out.agree famObj fun b hb => hI8.block b (HE6.out b hb))
         have HE8 : Hid (∀ b, E b → b < w8.heap.size) := Lib.hid fun b hb => Nat.lt_of_lt_of_le (HE6.out b hb) hI8.size
         have HX8 := Lib.hid (HX6.out.agree famReq fun b hb => hI8.block b (by have := hb.2; omega))
         have HB8 := Lib.hid (HB6.out.trans (hI8.mono HB6.out.size))
         have hz8 : sz0 ≤ w8.heap.size := by omega
         clear hI8 hs8 BX6 BV6 BW6 MK6 RA6 HE6 HX6 HB6 hz6
         obtain ⟨w7, hrun, hm7, ht7⟩ := MapK.store MK8.out Tryz.underlying151 (Nat.lt_of_le_of_lt (by omega : i ≤ 4194304) (by decide)) x.okey Hkey.out (.int .i64 x.rev)
         rw [show keyC.val x.okey = .agg #[.string x.okey.kind, .string x.okey.space, .string x.okey.name] from rfl] at hrun
         go_upto_region 22 with fail
         have hO : Only (fun b => b = hm) w8 w7 := Only.turned ht7 rfl
         have hEm : ∀ b, E b → b ≠ hm := fun b hb => by have := HE.out b hb; omega
         have MK9 := Lib.hid hm7
         have HK9 : Hid (∀ k, (updK f x.okey (.int .i64 x.rev) k).isSome = isF (listM (showsV v) (A.take (i + 1))) k) := Lib.hid fun k => by
          rw [HLs.out, if_pos trivial]
          unfold isF
          dsimp only
          by_cases hk : k = x.okey
          ·rw [if_pos hk, hk, updK_same]; rfl
          ·rw [if_neg hk, updK_other f _ hk]; exact HK.out k
         have hs9 := hO.size
         have BW9 := Lib.hid ((hO.block gw (lt_of_some BW8.out) (by omega)).trans BW8.out)
         have BV9 := Lib.hid ((hO.block gv (lt_of_some BV8.out) (by omega)).trans BV8.out)
         have RA9 := Lib.hid (RA8.out.agree famObj fun b hb => hO.block b (HE8.out b hb) (hEm b hb))
         have HE9 : Hid (∀ b, E b → b < w7.heap.size) := Lib.hid fun b hb => Nat.lt_of_lt_of_le (HE8.out b hb) hO.size
         have HX9 := Lib.hid (HX8.out.agree famReq fun b hb => hO.block b (by have := hb.2; omega) (by have := hb.1; omega))
         have HB9 := Lib.hid (HB8.out.trans (hO.below (B := w.heap.size) (fun b hb => by have h8 : b = hm := hb; omega) HB8.out.size))
         have hz9 : sz0 ≤ w7.heap.size := by omega
         clear hrun hm7 ht7 hO HLs HK MK8 BW8 BV8 RA8 HE8 HX8 HB8 hz8 hs9
         go_wp2_with fail
         go_roundg k
         case measure => omega
         case rel => exact ⟨i + 1, _, by omega, by go_num, MK9, HK9, HB9, BW9, BV9, RA9, HE9, HX9, hz9⟩
    | succ k =>
     have hil : i < nr := by omega
     have hnrb : nr ≤ 1048576 := by rw [← Hnr.out]; exact HV.out.reqs.1
     obtain ⟨x, hx⟩ : ∃ x, v.reqs[i]? = some x := ⟨v.reqs[i]'(by rw [Hnr.out]; exact hil), List.getElem?_eq_getElem _⟩
     obtain ⟨b, o, c', hva, -, -, hbs, hcell⟩ := HR.out.form (by rw [Hnr.out]; omega) (by omega)
     injection hva with u1 u2 u3
     subst u1
     clear u2 u3
     obtain ⟨ds, -, hcc, vx, rfl, hwf, hsx⟩ := hcell i x hx
     obtain ⟨ax, cx, rfl, -, -⟩ := hsx.row.len
     obtain ⟨nx, Hnx⟩ : ∃ n, Hid (x.vals.length = n) := ⟨_, Lib.hid rfl⟩
     rw [Hnx.out] at hcc hsx
     have f0 := (HB.out.cell (p := ⟨b, _, none⟩) hbs).trans (hcc 0 _ rfl)
     have f1 := (HB.out.cell (p := ⟨b, _, none⟩) hbs).trans (hcc 1 _ rfl)
     have f2 := (HB.out.cell (p := ⟨b, _, none⟩) hbs).trans (hcc 2 _ rfl)
     rw [Nat.add_zero] at f0
     have q1 : (0 : Int) ≤ (i : Int) := by omega
     have q2 : (i : Int) < (nr : Int) := by omega
     have Hx := Lib.hid hx
     have Hxl : Hid (x.vals.length ≤ 1048576) := Lib.hid (HV.out.reqs.2 x (List.mem_of_getElem? hx)).2.1
     have Hsx := Lib.hid hsx
     have Hwf := Lib.hid hwf
     have H7 := Lib.hid (heap_alloc_new wr (.cells #[.string { data := #[] }, .int .i64 0, .slice none 0 0] 97))
     have hb4 := Lib.hid ((Below.refl wr.heap.size wr).alloc (Nat.le_refl _) (.cells #[.string { data := #[] }, .int .i64 0, .slice none 0 0] 97))
     have hs4 : Hid ((wr.alloc (.cells #[.string { data := #[] }, .int .i64 0, .slice none 0 0] 97)).heap.size = wr.heap.size + 1) := Lib.hid (World.size_alloc _ _)
     clear hx hcc hcell hsx hwf
     obtain ⟨nb, han⟩ : ∃ nb, an = some ⟨nb, 0, none⟩ := by
      rcases HO.out.form with ⟨-, e9⟩ | ⟨nb, cb, e9, -⟩
      ·have h9 := flagL_len v.reqs i
       rw [e9, Hnr.out] at h9
       have h8 : 0 = nr := h9
       omega
      ·injection e9 with e9; exact ⟨nb, e9⟩
     subst han
     go_wp2_with (refine wpList_store_box (by rfl) _ _ _ (by rfl) wr.heap.size #[.string x.key, .int .i64 x.kind, .slice ax nx cx] (by rfl) (by rfl) _ _ (by exact H7.out) (by exact Tryz.sizeReqW) (by rfl) (by simp [Value.oneCell']) ?_)
     intro wr5 b5 t5
     have hb5 : Below wr.heap.size wr wr5 := t5.below hb4.out (Nat.le_refl _)
     have hs5 : wr5.heap.size = wr.heap.size + 1 := t5.size.trans hs4.out
     obtain ⟨gx, hgx⟩ : ∃ g, wr.heap.size = g := ⟨_, rfl⟩
     have hgxr : wr.heap.size ≤ gx := by omega
     rw [hgx] at b5 ⊢
     have hgx5 : gx < wr5.heap.size := by omega
     have BX5 := Lib.hid b5
     have HB5 := Lib.hid (HB.out.trans (hb5.mono HB.out.size))
     have BW5 := Lib.hid (below_block hb5 BW.out)
     have MK5 := Lib.hid (MK.out.belowW hb5)
     have BV5 := Lib.hid (below_block hb5 BV.out)
     have hnbr : nb < wr.heap.size := (HO.out.at (g := nb) rfl).2.1
     have hnbw : gw + 1 ≤ nb := (HO.out.at (g := nb) rfl).1
     have hgnb : gw < nb := HN5.out nb rfl
     have HO5 : Hid (OwnAt (ReqB (OutD (gw + 1) wr5 (.slice (some ⟨nb, 0, none⟩) nr cn)) wr5) 3 wr5 (gw + 1) 97 (.slice (some ⟨nb, 0, none⟩) nr cn) (flagL i v.reqs)) := Lib.hid (OutX.belowX famReqB HO.out hb5)
     have HSx : Hid (StrAt wr5 (.slice ax nx cx) x.vals) := Lib.hid ((Hsx.out.below HB.out).below hb5)
     have hgw5 : gw < wr5.heap.size := lt_of_some BW5.out
     have hq5 : (i : Int) < (nr : Int) := by omega
     have hq6 : (0 : Int) ≤ (i : Int) := by omega
     clear b5 t5 hb5 hb4 hs4 H7 HB BW MK BV HO f0 f1 f2 hgx hs5 q1 q2
     go_upto_region 13 with fail
     refine wp_region_relB 11 (fun ii U w' => match ii with
      | 0 => U 0 = .pointer (some ⟨gw, 0, none⟩)
      | 1 => U 1 = .pointer (some ⟨gw, 0, none⟩)
      | 2 => U 2 = .pointer (some ⟨gw, 0, none⟩)
      | 3 => U 3 = .pointer (some ⟨gw, 2, none⟩)
      | 4 => U 4 = .slice (some ⟨nb, 0, none⟩) nr cn
      | 5 => U 5 = .int .i64 (i : Int)
      | 6 => U 6 = .pointer (some ⟨gx, 2, none⟩)
      | 7 => U 7 = .slice ax nx cx
      | 8 => OwnAt RString 1 w' wr5.heap.size 9 (U 8) x.vals
      | 9 => U 9 = .pointer (some ⟨nb, i * 3, none⟩)
      | 10 => U 10 = .pointer (some ⟨nb, i * 3 + 2, none⟩)
      | _ => True)
      (fun | 1 => [0] | 2 => [1] | 3 => [2] | 4 => [3] | 7 => [6] | 8 => [7] | 9 => [4, 5] | 10 => [9] | _ => []) (by kernel_rfl) (by kernel_rfl) ?_ ⟨?_, ?_, ?_, ?_, ?_, ?_, ?_, ?_, ?_, ?_, ?_, trivial⟩ ?_
     ·intro j u w1 w2 hb h
      match j, h with
      | 0, h => exact h
      | 1, h => exact h
      | 2, h => exact h
      | 3, h => exact h
      | 4, h => exact h
      | 5, h => exact h
      | 6, h => exact h
      | 7, h => exact h
      | 8, h => exact OwnAt.below stays_string h hb
      | 9, h => exact h
      | 10, h => exact h
      | _ + 11, h => trivial
     ·intro y w' hb hd
      have hb6 : Below wr5.heap.size wr5 w' := (Below.refl wr5.heap.size wr5).drew.trans hb
      refine owes_here (.pointer (some ⟨gw, 0, none⟩)) (by rfl) ?_ rfl
      simp only [putAll, List.take_succ_cons, List.take_zero]
      go_simp
     ·intro y w' hb hd
      have hb6 : Below wr5.heap.size wr5 w' := (Below.refl wr5.heap.size wr5).drew.trans hb
      have h0 : y 0 = .pointer (some ⟨gw, 0, none⟩) := hd 0 (by simp)
      refine owes_here (.pointer (some ⟨gw, 0, none⟩)) (by rfl) ?_ rfl
      simp only [putAll, List.take_succ_cons, List.take_zero]
      go_simp
     ·intro y w' hb hd
      have hb6 : Below wr5.heap.size wr5 w' := (Below.refl wr5.heap.size wr5).drew.trans hb
      have h1 : y 1 = .pointer (some ⟨gw, 0, none⟩) := hd 1 (by simp)
      refine owes_here (.pointer (some ⟨gw, 0, none⟩)) (by rfl) ?_ rfl
      simp only [putAll, List.take_succ_cons, List.take_zero]
      go_simp
     ·intro y w' hb hd
      have hb6 : Below wr5.heap.size wr5 w' := (Below.refl wr5.heap.size wr5).drew.trans hb
      have h2 : y 2 = .pointer (some ⟨gw, 0, none⟩) := hd 2 (by simp)
      refine owes_here (.pointer (some ⟨gw, 2, none⟩)) (by rfl) ?_ rfl
      simp only [putAll, List.take_succ_cons, List.take_zero]
      go_simp
     ·intro y w' hb hd
      have hb6 : Below wr5.heap.size wr5 w' := (Below.refl wr5.heap.size wr5).drew.trans hb
      have h3 : y 3 = .pointer (some ⟨gw, 2, none⟩) := hd 3 (by simp)
      have d0 := (hb6.cell (p := ⟨gw, 2, none⟩) hgw5).trans (cell_block BW5.out 2)
      refine owes_here (.slice (some ⟨nb, 0, none⟩) nr cn) (by rfl) ?_ rfl
      simp only [putAll, List.take_succ_cons, List.take_zero]
      go_simp
     ·intro y w' hb hd
      have hb6 : Below wr5.heap.size wr5 w' := (Below.refl wr5.heap.size wr5).drew.trans hb
      refine owes_here (.int .i64 (i : Int)) (by rfl) ?_ rfl
      simp only [putAll, List.take_succ_cons, List.take_zero]
      go_simp
     ·intro y w' hb hd
      have hb6 : Below wr5.heap.size wr5 w' := (Below.refl wr5.heap.size wr5).drew.trans hb
      refine owes_here (.pointer (some ⟨gx, 2, none⟩)) (by rfl) ?_ rfl
      simp only [putAll, List.take_succ_cons, List.take_zero]
      go_simp
     ·intro y w' hb hd
      have hb6 : Below wr5.heap.size wr5 w' := (Below.refl wr5.heap.size wr5).drew.trans hb
      have h6 : y 6 = .pointer (some ⟨gx, 2, none⟩) := hd 6 (by simp)
      have d0 := (hb6.cell (p := ⟨gx, 2, none⟩) hgx5).trans (cell_block BX5.out 2)
      refine owes_here (.slice ax nx cx) (by rfl) ?_ rfl
      simp only [putAll, List.take_succ_cons, List.take_zero]
      go_simp
     ·intro y w' hb hd
      have hb6 : Below wr5.heap.size wr5 w' := (Below.refl wr5.heap.size wr5).drew.trans hb
      have h7 : y 7 = .slice ax nx cx := hd 7 (by simp)
      refine owes_call 78 #[.slice ax nx cx] (by rfl) ?_ ((cloneStrs_any (.slice ax nx cx) x.vals w' (HSx.out.below hb6) (Nat.le_trans Hxl.out (by decide))).mono ?_)
      ·simp only [putAll, List.take_succ_cons, List.take_zero]
       go_simp
      ·rintro _ w2 ⟨v2, rfl, ho, hb3⟩
       exact ⟨v2, rfl, ho.mono hb6.size, hb3⟩
     ·intro y w' hb hd
      have hb6 : Below wr5.heap.size wr5 w' := (Below.refl wr5.heap.size wr5).drew.trans hb
      have h4 : y 4 = .slice (some ⟨nb, 0, none⟩) nr cn := hd 4 (by simp)
      have h5 : y 5 = .int .i64 (i : Int) := hd 5 (by simp)
      refine owes_here (.pointer (some ⟨nb, i * 3, none⟩)) (by rfl) ?_ rfl
      simp only [putAll, List.take_succ_cons, List.take_zero]
      go_simp
     ·intro y w' hb hd
      have hb6 : Below wr5.heap.size wr5 w' := (Below.refl wr5.heap.size wr5).drew.trans hb
      have h9 : y 9 = .pointer (some ⟨nb, i * 3, none⟩) := hd 9 (by simp)
      refine owes_here (.pointer (some ⟨nb, i * 3 + 2, none⟩)) (by rfl) ?_ rfl
      simp only [putAll, List.take_succ_cons, List.take_zero]
      go_simp
     intro y w' hb hR
     have hb6 : Below wr5.heap.size wr5 w' := (Below.refl wr5.heap.size wr5).drew.trans hb
     have h8 : OwnAt RString 1 w' wr5.heap.size 9 (y 8) x.vals := hR 8 (by omega)
     have h10 : y 10 = .pointer (some ⟨nb, i * 3 + 2, none⟩) := hR 10 (by omega)
     obtain ⟨ay, cy, hy8, -, -⟩ := h8.row.len
     rw [Hnx.out] at hy8
     rw [hy8] at h8
     obtain ⟨wq, hwq⟩ : ∃ wq, w' = wq := ⟨_, rfl⟩
     rw [hwq] at hb6 h8 ⊢
     clear hwq
     have HY := Lib.hid h8
     have HBq := Lib.hid (HB5.out.trans (hb6.mono HB5.out.size))
     have BWq := Lib.hid (below_block hb6 BW5.out)
     have MKq := Lib.hid (MK5.out.belowW hb6)
     have BVq := Lib.hid (below_block hb6 BV5.out)
     have HOq : Hid (OwnAt (ReqB (OutD (gw + 1) wq (.slice (some ⟨nb, 0, none⟩) nr cn)) wq) 3 wq (gw + 1) 97 (.slice (some ⟨nb, 0, none⟩) nr cn) (flagL i v.reqs)) := Lib.hid (OutX.belowX famReqB HO5.out hb6)
     have hsq := hb6.size
     clear hb hR hb6 h8 HB5 BW5 MK5 BV5 HO5 BX5 HSx hgw5
     simp only [putAll, List.take_succ_cons, List.take_zero, List.drop_succ_cons, List.drop_zero]
     rw [h10, hy8]
     clear h10 hy8
     try simp only [Act.put, List.setIfInBounds_toArray, List.set_cons_zero, List.set_cons_succ]
     obtain ⟨hj1, hj2⟩ := flagL_at v.reqs i x Hx.out
     obtain ⟨gg', oo', cc', hvv, -, -, hgs', hcell⟩ := HOq.out.row.form (by rw [flagL_len, Hnr.out]; omega) (by omega)
     injection hvv with u1 u2 u3
     cases u1
     obtain ⟨ds, -, hcc, v9, rfl, hone, hwf9, -⟩ := hcell i (x, false) hj1
     have f2 : wq.cell? ⟨nb, i * 3 + 2, none⟩ = some v9 := by have h9 := hcc 2 _ rfl; simpa using h9
     obtain ⟨_, _, cur, hblk⟩ := HOq.out.at rfl
     have fz := fun i => free_block hblk i
     obtain ⟨w7, hw7⟩ : ∃ w9, wq.setCell ⟨nb, i * 3 + 2, none⟩ (.slice ay nx cy) = w9 := ⟨_, rfl⟩
     obtain ⟨o7, t7⟩ := OwnAt.store (famReqB.flat _ _) HOq.out hj1 (i := 2) (by omega) (.slice ay nx cy) (x' := (x, true)) (by
      rintro cs ⟨v2, rfl, -, e3, -⟩
      exact ⟨_, rfl, rfl, e3, fun _ => OwnX.ofFlat HY.out fun b hb => ⟨by have := (HY.out.at hb).1; omega, (HY.out.at hb).2.1, fun e9 => by have e8 : nb = b := Option.some.inj e9; have := (HY.out.at hb).1; omega⟩⟩)
     rw [hw7] at o7 t7
     rw [hj2] at o7
     have HO7 : Hid (OwnAt (ReqB (OutD (gw + 1) w7 (.slice (some ⟨nb, 0, none⟩) nr cn)) w7) 3 w7 (gw + 1) 97 (.slice (some ⟨nb, 0, none⟩) nr cn) (flagL (i + 1) v.reqs)) := Lib.hid (o7.imp' fun cs y _ h9 => famReqB.mono _ _ _ _ _ _ (fun b hb => ⟨hb.1, by rw [t7.size]; exact hb.2.1, hb.2.2⟩) (famReqB.agree _ _ _ _ _ _ (fun b hb => t7.other b fun e9 => hb.2.2 (by rw [e9]; rfl)) h9))
     have HB7 := Lib.hid (t7.below HBq.out (by omega))
     have BW7 := Lib.hid (t7.block BWq.out (by omega))
     have MK7 := Lib.hid (MKq.out.block (t7.other hm (by omega)))
     have BV7 := Lib.hid (t7.block BVq.out (by omega))
     clear o7 t7 hblk hcc hcell hj1 hj2 HOq HBq BWq MKq BVq u2 u3 hgs'
     go_wp2_with fail
     try rw [hw7]
     go_roundg k
     case measure => omega
     case rel => exact ⟨i + 1, by omega, by go_num, HB7, BW7, MK7, BV7, HO7⟩
  ·have hoe : oe = k2 := Hoe.out.trans (if_pos rfl)
   have q1 : (k2 == 0) = false := by rw [beq_eq_false_iff_ne]; exact h2
   have q2 : (k2 != 0) = true := by rw [bne_iff_ne]; exact h2
   clear Hoe
   subst hoe
   have H2 := Lib.hid h2
   clear h2
   go_wp2_with fail
   go_ret2
   exact .inl ⟨H2.out, rfl, HB3.out⟩
 ·have hoe : oe = k1 := Hoe.out.trans (if_neg h1)
  have q1 : (k1 == 0) = false := by rw [beq_eq_false_iff_ne]; exact h1
  have q2 : (k1 != 0) = true := by rw [bne_iff_ne]; exact h1
  clear Hoe
  subst hoe
  have H2 := Lib.hid h1
  clear h1
  go_wp2_with fail
  go_ret2
  exact .inl ⟨H2.out, rfl, HB2.out⟩
end Sto
end Go.Proofs.YtnnceaapodgfbaaGreatDoor
namespace Go.Proofs.YtnnceaapodgfbaaGreatDoor
namespace Sto
open Go.RowKit
theorem uidOf_size (n : Nat) (h : n ≤ 4194304) : (uidOf n).size ≤ 32 := by
 unfold uidOf
 rw [mkB_size, List.length_cons]
 have := Lib.itoa_length_le (n : Int) (by omega) (by omega)
 omega
theorem okObj_put {n : Nat} {kind : Int} {o : GObject} (h : OkObj o) (hn : n ≤ 4194304) : OkObj (putO n kind o) :=
 ⟨h.kind, h.space, h.name, h.labels, h.owners, h.holds, by
  unfold putO
  dsimp only
  split
  ·have := uidOf_size n hn; omega
  ·exact h.uid, by unfold putO i64; dsimp only; exact decide_eq_true (by have h1 : IntKind.i64.max = 9223372036854775807 := rfl; have h2 : IntKind.i64.min = -9223372036854775808 := rfl; omega), h.doc⟩
theorem okSt0 : OkSt St0 := ⟨fun _ h => (by cases h), by decide, good0⟩
theorem okSt_put {S : St} {kind : Int} {o : GObject} (h : OkSt S) (ho : OkObj o) (hr : S.rev ≤ 4194303) : ∀ e ∈ (put S kind o).log, OkObj e.object := fun e he => by
 unfold put at he
 rcases List.mem_append.1 he with he | he
 ·exact h.obj e he
 ·rw [List.mem_singleton] at he
  subst he
  exact okObj_put ho (by omega)
theorem okSt_do {S : St} (h : OkSt S) {x : GStoreStep} (hx : OkObj x.o) (hr : S.rev ≤ 4194303) : OkSt (doS S x).1 := by
 refine ⟨?_, by have := (rev_do S x).2; omega, good_do h.good x⟩
 have hk := okObj_kept hx
 unfold doS
 split
 ·rcases create_cases S x.o with ⟨h1, _⟩ | ⟨h1, _⟩
  ·rw [h1]; exact h.obj
  ·rw [h1]; exact okSt_put h ⟨hk.kind, hk.space, hk.name, hk.labels, hk.owners, hk.holds, hk.uid, hk.rev, hk.doc⟩ hr
 ·split
  ·rcases update_cases S x.o with ⟨h1, _⟩ | ⟨was, h1, _, h2, _⟩
   ·rw [h1]; exact h.obj
   ·obtain ⟨e, he, h9⟩ := cur_mem h2
    have hw : OkObj was := h9 ▸ h.obj e he
    rw [h1]; exact okSt_put h ⟨hk.kind, hk.space, hk.name, hk.labels, hk.owners, hk.holds, hw.uid, hk.rev, hk.doc⟩ hr
  ·split
   ·rcases remove_cases S x.o.okey x.rev with ⟨h1, _⟩ | ⟨was, h1, h2⟩
    ·rw [h1]; exact h.obj
    ·obtain ⟨e, he, h9⟩ := cur_mem h2
     rw [h1]; exact okSt_put h (h9 ▸ h.obj e he) hr
   ·show ∀ e ∈ (compact S _).log, _
    rw [grow_compact]; exact h.obj
theorem run_snoc (S : St) (l : List GStoreStep) (x : GStoreStep) : run S (l ++ [x]) = (doS (run S l) x).1 := by
 induction l generalizing S with
 | nil => rfl
 | cons a r ih => exact ih _
theorem okSt_run {S : St} (h : OkSt S) : ∀ (l : List GStoreStep), (∀ x ∈ l, OkObj x.o) → S.rev + l.length ≤ 4194303 → OkSt (run S l)
 | [], _, _ => h
 | x :: r, hl, hn => by
  rw [List.length_cons] at hn
  exact okSt_run (okSt_do h (hl x List.mem_cons_self) (by omega)) r (fun y hy => hl y (List.mem_cons_of_mem _ hy)) (by have := (rev_do S x).2; omega)
theorem Tryz.sizeStep : (Tryz.prog.info? 40).map (·.size) = some 12 := by kernel_rfl
theorem step_cells {w w' : World} {va : Option Addr} {vn vc : Nat} {l : List GStoreStep} (h : RowAt StoreStepR 12 w (.slice va vn vc) l) (hn : l.length = vn) (hb : Below w.heap.size w w') {m : Nat} {x : GStoreStep} (he : l[m]? = some x) :
  ∃ b o v1 v2 v3, va = some ⟨b, o, none⟩ ∧ RowAt LabelR 2 w' v1 x.o.labels ∧ StrAt w' v2 x.o.owners ∧ StrAt w' v3 x.o.holds ∧ ∀ i u, (Value.int .i64 x.kind :: .int .i64 x.rev :: objCs x.o v1 v2 v3)[i]? = some u → w'.cell? ⟨b, o + m * 12 + i, none⟩ = some u := by
 have hm := (List.getElem?_eq_some_iff.1 he).1
 obtain ⟨b, o, c', hv, _, _, hbs, hcell⟩ := h.form (by omega) (by omega)
 injection hv with u1 u2 u3
 obtain ⟨ds, _, hcc, c2, rfl, _, _, v1, v2, v3, rfl, g1, g2, g3, _⟩ := hcell m x he
 exact ⟨b, o, v1, v2, v3, u1, g1.below stays_label hb, g2.below hb, g3.below hb, fun i u hu => (hb.cell (p := ⟨b, _, none⟩) hbs).trans (hcc i u hu)⟩
set_option maxRecDepth 100000 in
set_option maxHeartbeats 3200000 in
theorem stored_any (v : Value) (l : List GStoreStep) (w : World) (h : RowAt StoreStepR 12 w v l) (hl : l.length ≤ 4194303) (hok : ∀ x ∈ l, OkObj x.o) (hE : Env w) :
  Calls Tryz.prog 13 #[v] w fun e w' => ∃ g D, e = .returned (.pointer (some ⟨g, 0, none⟩)) ∧ StoreAt D w' g (run St0 l) ∧ (∀ b, D b → w.heap.size ≤ b) ∧ Below w.heap.size w w' := by
 obtain ⟨a1, c1, rfl, -, -⟩ := h.len
 obtain ⟨n, hn⟩ : ∃ n, l.length = n := ⟨_, rfl⟩
 rw [hn] at h hl ⊢
 have HR := Lib.hid h
 have HN := Lib.hid hn
 have Hok := Lib.hid hok
 have HEn := Lib.hid hE
 have HNew := fun w => Lib.hid (new_any w)
 have HK : ∀ w, Hid (Calls Tryz.prog 47 #[.agg #[.string { data := #[] }, .string { data := #[] }, .string { data := #[] }]] w fun e w' => e = .returned (.int .i64 6) ∧ Below w.heap.size w w') := fun w => Lib.hid (key_any ByteArray.empty ByteArray.empty ByteArray.empty w (by decide) (by decide) (by decide))
 clear h hn hok hE
 go_enter Tryz.func13, Tryz.ntmps13
 go_wp2_with fail
 refine (HNew _).out.mono ?_
 rintro E w1 ⟨g, D, rfl, hst, hlow, hb1⟩
 have HA := Lib.hid hst
 have HD := Lib.hid hlow
 have HB := Lib.hid hb1
 clear hst hlow hb1 HNew
 go_wp2_with fail
 refine (HK _).out.mono ?_
 rintro E w2 ⟨rfl, hb2⟩
 have HA2 := Lib.hid (HA.out.belowW hb2)
 have HB2 := Lib.hid (HB.out.trans (hb2.mono HB.out.size))
 clear hb2 HK HA HB
 go_wp2_with fail
 go_loopg [16] n (fun k u16 wr => ∃ (i : Nat) (D' : Dom), i + k = n ∧ u16 = .int .i64 (i : Int) ∧ Hid (StoreAt D' wr g (run St0 (l.take i))) ∧ Hid (∀ b, D' b → w.heap.size ≤ b) ∧ Hid (Below w.heap.size w wr))
 case atStart => exact ⟨0, D, by omega, rfl, HA2, HD, HB2⟩
 case round =>
  clear HA2 HB2 HD
  obtain ⟨i, D', hik, rfl, HA, HD, HB⟩ := hrel
  cases gk with
  | zero =>
   obtain rfl : n = i := by omega
   have HA9 : Hid (StoreAt D' wr g (run St0 l)) := Lib.hid (by have h9 := HA.out; rw [← HN.out, List.take_length] at h9; exact h9)
   go_wp2_with fail
   go_ret
   exact ⟨g, D', rfl, HA9.out, HD.out, HB.out⟩
  | succ k =>
   have hil : i < n := by omega
   obtain ⟨x, hx⟩ : ∃ x, l[i]? = some x := ⟨l[i]'(by rw [HN.out]; exact hil), List.getElem?_eq_getElem _⟩
   obtain ⟨b, o, v1, v2, v3, hva, g1, g2, g3, ec⟩ := step_cells HR.out HN.out HB.out hx
   subst hva
   obtain ⟨a7, c7, rfl, -, -⟩ := g1.len
   obtain ⟨a8, c8, rfl, -, -⟩ := g2.row.len
   obtain ⟨a9, c9, rfl, -, -⟩ := g3.row.len
   obtain ⟨n7, Hn7⟩ : ∃ n, Hid (x.o.labels.length = n) := ⟨_, Lib.hid rfl⟩
   obtain ⟨n8, Hn8⟩ : ∃ n, Hid (x.o.owners.length = n) := ⟨_, Lib.hid rfl⟩
   obtain ⟨n9, Hn9⟩ : ∃ n, Hid (x.o.holds.length = n) := ⟨_, Lib.hid rfl⟩
   rw [Hn7.out] at g1 ec
   rw [Hn8.out] at g2 ec
   rw [Hn9.out] at g3 ec
   have f0 := ec 0 _ rfl
   have f1 := ec 1 _ rfl
   have f2 := ec 2 _ rfl
   have f3 := ec 3 _ rfl
   have f4 := ec 4 _ rfl
   have f5 := ec 5 _ rfl
   have f6 := ec 6 _ rfl
   have f7 := ec 7 _ rfl
   have f8 := ec 8 _ rfl
   have f9 := ec 9 _ rfl
   have f10 := ec 10 _ rfl
   have f11 := ec 11 _ rfl
   rw [Nat.add_zero] at f0
   have q1 : (0 : Int) ≤ (i : Int) := by omega
   have q2 : (i : Int) < (n : Int) := by omega
   have HX := Lib.hid hx
   have G1 := Lib.hid g1
   have G2 := Lib.hid g2
   have G3 := Lib.hid g3
   have H7 := Lib.hid (heap_alloc_new wr (.cells #[.int .i64 0, .int .i64 0, .string { data := #[] }, .string { data := #[] }, .string { data := #[] }, .slice none 0 0, .slice none 0 0, .slice none 0 0, .bool false, .string { data := #[] }, .int .i64 0, .string { data := #[] }] 40))
   have hb4 : Below wr.heap.size wr (wr.alloc (.cells #[.int .i64 0, .int .i64 0, .string { data := #[] }, .string { data := #[] }, .string { data := #[] }, .slice none 0 0, .slice none 0 0, .slice none 0 0, .bool false, .string { data := #[] }, .int .i64 0, .string { data := #[] }] 40)) := (Below.refl _ wr).alloc (Nat.le_refl _) _
   have HB4 := Lib.hid hb4
   have hs4 : (wr.alloc (.cells #[.int .i64 0, .int .i64 0, .string { data := #[] }, .string { data := #[] }, .string { data := #[] }, .slice none 0 0, .slice none 0 0, .slice none 0 0, .bool false, .string { data := #[] }, .int .i64 0, .string { data := #[] }] 40)).heap.size = wr.heap.size + 1 := World.size_alloc _ _
   have HokX : Hid (OkObj x.o) := Lib.hid (Hok.out x (List.mem_of_getElem? hx))
   have HSi : Hid (OkSt (run St0 (l.take i))) := Lib.hid (okSt_run okSt0 _ (fun y hy => Hok.out y (List.mem_of_mem_take hy)) (by show 0 + _ ≤ _; rw [List.length_take]; have := HN.out; omega))
   have Hrev : Hid ((run St0 (l.take i)).rev ≤ 4194303) := Lib.hid (by have h9 := rev_run St0 (l.take i); have h8 : St0.rev = 0 := rfl; rw [List.length_take] at h9; have := HN.out; omega)
   clear hx ec g1 g2 g3 hb4
   go_wp2_with (refine wpList_store_box (by rfl) _ _ _ (by rfl) wr.heap.size #[.int .i64 x.kind, .int .i64 x.rev, .string x.o.okey.kind, .string x.o.okey.space, .string x.o.okey.name, .slice a7 n7 c7, .slice a8 n8 c8, .slice a9 n9 c9, .bool x.o.ending, .string x.o.uid, .int .i64 x.o.rev, .string x.o.doc] (by rfl) (by rfl) _ _ (by exact H7.out) (by exact Tryz.sizeStep) (by rfl) (by simp [Value.oneCell']) ?_)
   intro w5 b5 t5
   have B5 := Lib.hid b5
   have hbb : Below wr.heap.size wr w5 := t5.below HB4.out (Nat.le_refl _)
   have HB5 := Lib.hid hbb
   have hs5 : w5.heap.size = wr.heap.size + 1 := t5.size.trans hs4
   have HDo := Lib.hid (do_any (w0 := w) (HA.out.belowW hbb) ⟨HEn.out.1, HEn.out.2.2, HB.out.trans (hbb.mono HB.out.size), HD.out⟩ HSi.out Hrev.out x (.slice a7 n7 c7) (.slice a8 n8 c8) (.slice a9 n9 c9) (G1.out.below stays_label hbb) (G2.out.below hbb) (G3.out.below hbb) HokX.out)
   rw [show stepW x (.slice a7 n7 c7) (.slice a8 n8 c8) (.slice a9 n9 c9) = .agg #[.int .i64 x.kind, .int .i64 x.rev, .string x.o.okey.kind, .string x.o.okey.space, .string x.o.okey.name, .slice a7 n7 c7, .slice a8 n8 c8, .slice a9 n9 c9, .bool x.o.ending, .string x.o.uid, .int .i64 x.o.rev, .string x.o.doc] from rfl] at HDo
   clear b5 t5 hs4 H7 HB4 hbb f0 f1 f2 f3 f4 f5 f6 f7 f8 f9 f10 f11
   have cc := fun i => cell_block B5.out i
   go_wp2_with fail
   refine HDo.out.mono ?_
   rintro E w6 ⟨D9, E9, u1, u2, u3, rfl, k1, k2, k3, k4, k5⟩
   have hw := HB.out.size
   have K1 : Hid (StoreAt D9 w6 g (run St0 (l.take (i + 1)))) := Lib.hid (by rw [take_snoc HX.out, run_snoc]; exact k1)
   have K4 : Hid (∀ b, D9 b → w.heap.size ≤ b) := Lib.hid fun b hb => (k4 b hb).elim (HD.out b) fun h9 => by omega
   have K5 : Hid (Below w.heap.size w w6) := Lib.hid ((HB.out.trans (HB5.out.mono hw)).trans (k5.below HD.out (by omega)))
   clear k1 k2 k3 k4 k5 HDo cc
   go_wp2_with fail
   go_roundg k
   case measure => omega
   case rel => exact ⟨i + 1, D9, by omega, by simp, K1, K4, K5⟩
end Sto
end Go.Proofs.YtnnceaapodgfbaaGreatDoor
namespace Go.Proofs.YtnnceaapodgfbaaGreatDoor
namespace Sto
open Go.RowKit
theorem sum_mem {α : Type} {f : α → Nat} : ∀ {l : List α} {x : α}, x ∈ l → f x ≤ (l.map f).sum
 | a :: r, x, h => by
  rw [List.map_cons, List.sum_cons]
  rcases List.mem_cons.1 h with rfl | h
  ·omega
  ·have := sum_mem (f := f) h; omega
theorem sum_length {α : Type} {f : α → Nat} {c : Nat} : ∀ {l : List α}, (∀ x ∈ l, c ≤ f x) → l.length * c ≤ (l.map f).sum
 | [], _ => by simp
 | a :: r, h => by
  rw [List.map_cons, List.sum_cons, List.length_cons, Nat.add_mul, Nat.one_mul]
  have h1 := sum_length (f := f) (c := c) (l := r) fun x hx => h x (List.mem_cons_of_mem _ hx)
  have h2 := h a List.mem_cons_self
  omega
theorem okObj_bulk {o : GObject} (h : objectB o ≤ 1048576) (hr : i64 o.rev) : OkObj o := by
 unfold objectB keyB at h
 have h1 := sum_length (f := labelB) (c := 1) (l := o.labels) fun x _ => by unfold labelB; omega
 have h2 := total_length o.owners
 have h3 := total_length o.holds
 exact ⟨by omega, by omega, by omega, ⟨by omega, fun r hr => by have h5 := sum_mem (f := labelB) hr; have h6 : labelB r = ((r.key.size + 1) + ((r.val.size + 1) + 0)) + 1 := rfl; unfold okLab; omega⟩, ⟨by omega, fun s hs => by have := total_mem hs; omega⟩, ⟨by omega, fun s hs => by have := total_mem hs; omega⟩, by omega, hr, by omega⟩
theorem okSteps_bulk {w : World} {v : Value} {l : List GStoreStep} (h : RowAt StoreStepR 12 w v l) (hb : (l.map storeStepB).sum ≤ 1048576) : (∀ x ∈ l, OkObj x.o) ∧ l.length ≤ 1048576 := by
 have h0 := sum_length (f := storeStepB) (c := 1) (l := l) fun x _ => by unfold storeStepB; omega
 refine ⟨fun x hx => ?_, by omega⟩
 have h1 := sum_mem (f := storeStepB) hx
 have h6 : storeStepB x = (1 + (1 + (objectB x.o + 0))) + 1 := rfl
 refine okObj_bulk (by omega) ?_
 obtain ⟨a, c, rfl, _, _⟩ := h.len
 obtain ⟨i, hi, he⟩ := List.getElem_of_mem hx
 obtain ⟨b, o, c', hv, _, _, hbs, hcell⟩ := h.form (by omega) (by omega)
 obtain ⟨ds, _, hcc, c2, rfl, _, _, v1, v2, v3, rfl, g1, g2, g3, g4⟩ := hcell i x (by rw [List.getElem?_eq_getElem hi, he])
 exact g4
end Sto
end Go.Proofs.YtnnceaapodgfbaaGreatDoor
namespace Go.Proofs.YtnnceaapodgfbaaGreatDoor
namespace Sto
open Go.RowKit
theorem okView_bulk9 {g : GView} (h : viewB g ≤ 1048576) : OkView g := by
 unfold viewB at h
 have h1 := sum_length (f := reqB) (c := 1) (l := g.reqs) fun x _ => by unfold reqB; omega
 refine ⟨by omega, by omega, by omega, fun r hr => ?_⟩
 have h2 := sum_mem (f := reqB) hr
 have h3 : reqB r = ((r.key.size + 1) + (1 + ((total r.vals + 1) + 0))) + 1 := rfl
 have h4 := total_length r.vals
 exact ⟨by omega, by omega, fun s hs => by have := total_mem hs; omega⟩
theorem run_app9 : ∀ (a : List GStoreStep) (S : St) (b : List GStoreStep), run S (a ++ b) = run (run S a) b
 | [], _, _ => rfl
 | x :: a, S, b => run_app9 a (doS S x).1 b
theorem run_part (S : St) (m : List GStoreStep) (i : Nat) : ∃ e, (run S m).log = (run S (m.take i)).log ++ e := by
 have h := grow_run (run S (m.take i)) (m.drop i)
 rw [← run_app9, List.take_append_drop] at h
 exact h
theorem since_later {S : St} {p q : Nat} (h : sinceE S p = 0) (h1 : p ≤ q) (h2 : q ≤ S.log.length) : sinceE S q = 0 := by
 unfold sinceE at h ⊢
 have h3 : ¬ ((p : Int) < 0 ∨ (S.rev : Int) < p) := fun h9 => by rw [if_pos h9] at h; cases h
 rw [if_neg h3] at h
 have h4 : ¬ ((p : Int) < S.comp) := fun h9 => by rw [if_pos h9] at h; cases h
 rw [if_neg (by unfold St.rev; omega), if_neg (by omega)]
theorem since_gone {S : St} {p : Nat} (h : p ≤ S.log.length) (hn : sinceE S p ≠ 0) : sinceE S p = 13 := by
 unfold sinceE at hn ⊢
 have h1 : ¬ ((p : Int) < 0 ∨ (S.rev : Int) < p) := by unfold St.rev; omega
 rw [if_neg h1] at hn ⊢
 by_cases h2 : (p : Int) < S.comp
 ·rw [if_pos h2]
 ·rw [if_neg h2] at hn; exact absurd rfl hn
theorem WSt.more {W w : World} {D : Dom} {g gh om gw hm gm p n n' : Nat} {vr : Value} {R : Dom} {v : GView} {S : St} {M : GKey → Option GObject} (h : WSt W D w g gh om gw hm gm vr R v S p M n) (hn : n ≤ n') : WSt W D w g gh om gw hm gm vr R v S p M n' :=
 ⟨h.st, h.home, h.hub, h.wat, let ⟨f, a, h1, h2⟩ := h.has; ⟨f, a, Nat.le_trans h1 hn, h2⟩, h.ap, h.low, h.dif, h.hp⟩
theorem WSt.step {W w w' : World} {D D2 : Dom} {g gh om gw hm gm p n : Nat} {vr : Value} {R : Dom} {v : GView} {S S2 : St} (h : WSt W D w g gh om gw hm gm vr R v S p (curV v (S.log.take p)) n) (h1 : StoreAt D2 w' g S2) (h2 : ∀ b, D2 b → D b ∨ w.heap.size ≤ b) (h3 : Only D w w') (hl : ∃ m, S2.log = S.log ++ m) : WSt W D2 w' g gh om gw hm gm vr R v S2 p (curV v (S2.log.take p)) n := by
 obtain ⟨m, hm⟩ := hl
 rw [curV_grow v hm h.hp]
 exact h.did h1 h2 h3 ⟨m, hm⟩
structure WSx (E : Dom) (W : World) (D : Dom) (w : World) (g gh om gw hm gm : Nat) (vr : Value) (R : Dom) (v : GView) (S : St) (p : Nat) (M : GKey → Option GObject) (n : Nat) : Prop where
 st : StoreAt D w g S
 home : Home W D w
 hub : HubAt w gh g om (M1 gw) 1 1
 wat : WatchAt w gw hm vr R v (p : Int) (isF (curV v (S.log.take p))) p
 has : HasAt E w gm n M
 hE : ∀ b, E b → OffE (Hx gh om gw hm gm) D w b
 ap : ∀ b, D b → ¬ Hx gh om gw hm gm b ∧ ¬ R b
 low : ∀ b, Hx gh om gw hm gm b → W.heap.size ≤ b
 dif : gm ≠ gh ∧ gm ≠ om ∧ gm ≠ gw ∧ gm ≠ hm ∧ ¬ R gm ∧ gw ≠ gh ∧ gw ≠ om ∧ hm ≠ gh ∧ hm ≠ om
 hp : p ≤ S.log.length
section
variable {E : Dom} {W w w' : World} {D : Dom} {g gh om gw hm gm p n : Nat} {vr : Value} {R : Dom} {v : GView} {S : St} {M : GKey → Option GObject}
theorem WSt.x (h : WSt W D w g gh om gw hm gm vr R v S p M n) : WSx (OffE (Hx gh om gw hm gm) D w) W D w g gh om gw hm gm vr R v S p M n := ⟨h.st, h.home, h.hub, h.wat, h.has, fun _ h => h, h.ap, h.low, h.dif, h.hp⟩
theorem WSx.t (h : WSx E W D w g gh om gw hm gm vr R v S p M n) : WSt W D w g gh om gw hm gm vr R v S p M n := ⟨h.st, h.home, h.hub, h.wat, let ⟨f, a, h1, h2, h3⟩ := h.has; ⟨f, a, h1, h2, h3.mono h.hE⟩, h.ap, h.low, h.dif, h.hp⟩
theorem WSx.only (h : WSx E W D w g gh om gw hm gm vr R v S p M n) {Y : Dom} (h3 : Only Y w w') (hY : ∀ b, Y b → ¬ D b ∧ ¬ Hx gh om gw hm gm b ∧ ¬ R b ∧ ¬ E b ∧ W.heap.size ≤ b) : WSx E W D w' g gh om gw hm gm vr R v S p M n := by
 have hlt := h.t.lts
 have hX : ∀ b, Hx gh om gw hm gm b → w'.heap[b]? = w.heap[b]? := fun b hb => h3.block b (hlt b hb) fun h9 => (hY b h9).2.1 hb
 refine ⟨h.st.agree (fun b hb => h3.block b (h.st.low hb) fun h9 => (hY b h9).1 hb) h3.size, ⟨h.home.tab, h.home.max, h.home.bel.trans (h3.below (fun b hb => (hY b hb).2.2.2.2) h.home.bel.size), h.home.own⟩, h.hub.agreeX fun b hb => hX b (by rcases hb with rfl | rfl <;> simp [Hx]), h.wat.agreeX h3.size fun b hb => ?_, ?_, fun b hb => ⟨Nat.lt_of_lt_of_le (h.hE b hb).1 h3.size, (h.hE b hb).2⟩, h.ap, h.low, h.dif, h.hp⟩
 ·rcases hb with rfl | rfl | hb
  ·exact hX _ (by simp [Hx])
  ·exact hX _ (by simp [Hx])
  ·exact h3.block b (h.wat.low b hb).1 fun h9 => (hY b h9).2.2.1 hb
 ·obtain ⟨f, n', g1, g2, g3⟩ := h.has
  exact ⟨f, n', g1, g2.block (hX gm (by simp [Hx])), g3.agree fun b h9 => h3.block b (h.hE b h9).1 fun h8 => (hY b h8).2.2.2.1 h9⟩
theorem WSx.belowW (h : WSx E W D w g gh om gw hm gm vr R v S p M n) (hb : Below w.heap.size w w') : WSx E W D w' g gh om gw hm gm vr R v S p M n :=
 h.only (Y := fun _ => False) ⟨hb.os, hb.tape, hb.output, hb.size, fun k hk _ => hb.block k hk⟩ fun _ h => h.elim
end
theorem Tryz.zeroObjW (w : World) : (zeroValue 30).run Tryz.prog w = .ok (.agg noA) w := by kernel_rfl
set_option maxRecDepth 100000 in
set_option maxHeartbeats 12800000 in
theorem watchWhole_walk (v : Value) (l : List GStoreStep) (v2 : Value) (m : List GStoreStep) (cs : Array Value) (vw : GView) (fr0 mo0 : Int) (w : World) (hrow : RowAt StoreStepR 12 w v l) (hrow2 : RowAt StoreStepR 12 w v2 m) (hview : ViewR w cs.toList vw) (_ha : (Lit.int .i64 fr0).wf = true) (_hb : (Lit.int .i64 mo0).wf = true)
  (hbulk : (l.map storeStepB).sum + (m.map storeStepB).sum + viewB vw ≤ 1048576) (hE : Env w) :
  Calls Tryz.prog 10 #[v, v2, .agg cs, .int .i64 fr0, .int .i64 mo0] w fun e w' => e = .returned (.bool true) ∧ Below w.heap.size w w' := by
 obtain ⟨va, hcv, hvr⟩ := hview
 obtain rfl : cs = #[.string vw.kind, .string vw.space, va] := by
  have h9 := congrArg List.toArray hcv
  simpa using h9
 clear hcv
 obtain ⟨av, cv, rfl, -, -⟩ := hvr.len
 obtain ⟨nv, Hnv⟩ : ∃ n, Hid (vw.reqs.length = n) := ⟨_, Lib.hid rfl⟩
 rw [Hnv.out] at hvr ⊢
 have HOk := Lib.hid (okView_bulk9 (g := vw) (by omega))
 obtain ⟨hok, hll⟩ := okSteps_bulk hrow (by omega)
 obtain ⟨hok2, hll2⟩ := okSteps_bulk hrow2 (by omega)
 have hlm : l.length + m.length ≤ 1048576 := by
  have h1 := sum_length (f := storeStepB) (c := 1) (l := l) fun x _ => by unfold storeStepB; omega
  have h2 := sum_length (f := storeStepB) (c := 1) (l := m) fun x _ => by unfold storeStepB; omega
  omega
 obtain ⟨W, hW⟩ : ∃ W, W = w.alloc (.cells #[.string vw.kind, .string vw.space, .slice av nv cv] 80) := ⟨_, rfl⟩
 obtain ⟨gv, hgv⟩ : ∃ g, g = w.heap.size := ⟨_, rfl⟩
 have BV := Lib.hid (show W.heap[gv]? = some (.cells #[.string vw.kind, .string vw.space, .slice av nv cv] 80 (0, 0)) by rw [hW, hgv]; exact heap_alloc_new w _)
 have hb1 : Below w.heap.size w W := by rw [hW]; exact (Below.refl _ w).alloc (Nat.le_refl _) _
 have HB1 := Lib.hid hb1
 have hEW := hE.below hb1
 have HEn := Lib.hid hEW
 have HVr := Lib.hid (hvr.below stays_req hb1)
 have HSt := Lib.hid (stored_any v l W (hrow.below stays_storeStep hb1) (by omega) hok hEW)
 obtain ⟨S, HSe⟩ : ∃ S, Hid (run St0 l = S) := ⟨_, Lib.hid rfl⟩
 have HS : Hid (OkSt S) := Lib.hid (by rw [← HSe.out]; exact okSt_run okSt0 l hok (by show 0 + _ ≤ _; omega))
 have HGL : Hid (GoodL S) := Lib.hid (by rw [← HSe.out]; exact goodL_run goodL0 l)
 have Hrev : Hid (S.rev + m.length ≤ 1048576) := Lib.hid (by rw [← HSe.out]; have h9 := rev_run St0 l; have h8 : St0.rev = 0 := rfl; omega)
 rw [HSe.out] at HSt
 obtain ⟨al, cl, rfl, -, -⟩ := hrow.len
 obtain ⟨am, cm, rfl, -, -⟩ := hrow2.len
 obtain ⟨mn, HN2⟩ : ∃ n, Hid (m.length = n) := ⟨_, Lib.hid rfl⟩
 rw [HN2.out] at hrow2 hll2 Hrev ⊢
 have HR2 := Lib.hid (hrow2.below stays_storeStep hb1)
 have Hok2 := Lib.hid hok2
 have HEnW : Hid (∃ m, MaxOK m W) := Lib.hid hEW.2.2
 have HTabW := Lib.hid hEW.1
 clear hrow hrow2 hvr hbulk hE hEW hok hok2 hll hb1 HSe hlm
 go_enter Tryz.func10, Tryz.ntmps10
 go_upto_region 1 with fail
 rw [← hgv, ← hW]
 clear hW hgv
 go_wp2_with fail
 refine HSt.out.mono ?_
 rintro E w2 ⟨g, D, rfl, hst, hlow, hb2⟩
 have HBW_a : Hid (Below W.heap.size W w2) := Lib.hid hb2
 have HA_a : Hid (StoreAt D w2 g S) := Lib.hid hst
 have HDo : Hid (∀ b, D b → W.heap.size ≤ b) := Lib.hid hlow
 have HDl : Hid (∀ b, D b → b < w2.heap.size) := Lib.hid fun b hb => StoreAt.low HA_a.out hb
 clear hst hlow hb2 HSt
 have HX := Lib.hid (hub_any w2 g)
 go_wp2_with fail
 refine HX.out.mono ?_
 rintro E w3 ⟨gh, om, rfl, hhub, hgh, hom, hb3⟩
 have HBW_b : Hid (Below W.heap.size W w3) := Lib.hid (HBW_a.out.trans (hb3.mono HBW_a.out.size))
 have HA_b := Lib.hid (StoreAt.belowW HA_a.out hb3)
 have HU_b := Lib.hid hhub
 have hs3 := hb3.size
 have hs2W : Hid (W.heap.size ≤ w2.heap.size) := Lib.hid HBW_a.out.size
 clear hhub hb3 HX HA_a HBW_a
 have HRv := Lib.hid (rev_any HA_b.out)
 obtain ⟨rv, Hrv⟩ : ∃ n, Hid (S.rev = n) := ⟨_, Lib.hid rfl⟩
 rw [Hrv.out] at HRv Hrev
 have hrv := Hrev.out
 have qw : IntKind.i64.wrap ((rv : Int) + 1) = (rv : Int) + 1 := IntWalk.i64_in _ (by omega)
 obtain ⟨hr1, hr2⟩ := restOf_in (a := fr0) (b := (rv : Int) + 1) (by omega)
 have HRe := fun w => Lib.hid (rest_any fr0 ((rv : Int) + 1) w (by omega) (by omega))
 obtain ⟨rr, Hrr⟩ : ∃ r, Hid (restOf fr0 ((rv : Int) + 1) = r) := ⟨_, Lib.hid rfl⟩
 rw [Hrr.out] at hr1 hr2
 have HRe := fun w => Lib.hid (by have h9 := (HRe w).out; rw [Hrr.out] at h9; exact h9)
 obtain ⟨fr, hfr⟩ : ∃ fr : Nat, rr = (fr : Int) := ⟨rr.toNat, by omega⟩
 subst hfr
 have hfr : fr ≤ rv := by omega
 obtain ⟨hq1, hq2⟩ := restOf_in (a := mo0) (b := 50) (by decide)
 have HRm := fun w => Lib.hid (rest_any mo0 50 w (by decide) (by decide))
 obtain ⟨rm, Hrm⟩ : ∃ r, Hid (restOf mo0 50 = r) := ⟨_, Lib.hid rfl⟩
 rw [Hrm.out] at hq1 hq2
 have HRm := fun w => Lib.hid (by have h9 := (HRm w).out; rw [Hrm.out] at h9; exact h9)
 obtain ⟨mo, hmo⟩ : ∃ mo : Nat, 1 + rm = (mo : Int) := ⟨(1 + rm).toNat, by omega⟩
 have hmo1 : 1 ≤ mo := by omega
 have hmo2 : mo ≤ 50 := by omega
 have Qwm : Hid (IntKind.i64.wrap (1 + rm) = (mo : Int)) := Lib.hid (by rw [hmo]; exact IntWalk.i64_in _ (by omega))
 clear hr1 hr2 hq1 hq2 hmo
 go_wp2_with fail
 refine HRv.out.mono ?_
 rintro E wx ⟨rfl, hwx⟩
 subst hwx
 clear HRv
 go_wp2_with fail
 refine (HRe w3).out.mono ?_
 rintro E wx ⟨rfl, hwx⟩
 subst hwx
 clear HRe qw
 obtain ⟨oe, Hoe⟩ : ∃ e, Hid (openF vw S fr = e) := ⟨_, Lib.hid rfl⟩
 have HX := Lib.hid (open_from (mk := 0) (fr := fr) (by omega) HA_b.out HS.out HU_b.out (by decide) (by decide) (HVr.out.below stays_req HBW_b.out) HOk.out (let ⟨m, hm⟩ := HEnW.out; ⟨m, hm.below HBW_b.out⟩))
 rw [Hoe.out] at HX
 have cv9 := fun i => cell_block (below_block HBW_b.out BV.out) i
 go_wp2_with fail
 refine HX.out.mono ?_
 rintro E w4 (⟨hne, rfl, hb4⟩ | ⟨h0, gw, hm, vr, R, rfl, hhub, hwa, hlo, hon⟩)
 ·-- refused
  have HX2 := Lib.hid (hubAt_none (HU_b.out.belowX hb4) 1 (by decide) rfl)
  have HBf : Hid (Below w.heap.size w w4) := Lib.hid (HB1.out.trans ((HBW_b.out.trans (hb4.mono HBW_b.out.size)).mono HB1.out.size))
  have q1 : (oe != 0) = true := by rw [bne_iff_ne]; exact hne
  clear hb4 HX hne cv9
  go_wp2_with fail
  refine HX2.out.mono ?_
  rintro E w5 ⟨rfl, hwx⟩
  subst hwx
  clear HX2
  go_wp2_with fail
  go_ret
  exact ⟨by first | rfl | simp, HBf.out⟩
 ·obtain rfl : oe = 0 := h0
  have hoe := Hoe.out
  unfold openF at hoe
  obtain ⟨hve, hsi⟩ := (says_eq_zero _ _).1 hoe
  have HVe := Lib.hid hve
  have HSi0 := Lib.hid hsi
  have hgo3 : gh < w3.heap.size ∧ om < w3.heap.size := HU_b.out.lts
  have hon4 : ∀ b, (b = gh ∨ b = om) → w2.heap.size ≤ b := fun b hb => by rcases hb with rfl | rfl <;> assumption
  have HBW_c : Hid (Below W.heap.size W w4) := Lib.hid (HBW_b.out.trans (hon.below (B := W.heap.size) (fun b hb => by have := hon4 b hb; have := hs2W.out; omega) HBW_b.out.size))
  have HA_c : Hid (StoreAt D w4 g S) := Lib.hid (StoreAt.agree HA_b.out (fun b hb => hon.block b (by have := HDl.out b hb; omega) fun h9 => by have := hon4 b h9; have := HDl.out b hb; omega) hon.size)
  have HU_c : Hid (HubAt w4 gh g om (M1 gw) 1 1) := Lib.hid hhub
  have HW_c := Lib.hid hwa
  have HL : Hid (∀ b, b = gw ∨ b = hm ∨ R b → w3.heap.size ≤ b) := Lib.hid hlo
  have hs4 := hon.size
  rw [show (((0 : Nat) : Int) + 1) = 1 from rfl]
  clear hhub hwa hlo hon hon4 HX hoe hve hsi HU_b HA_b cv9 Hoe
  have HX := Lib.hid (viewed_any HA_c.out HS.out HGL.out (HVr.out.below stays_req HBW_c.out) HOk.out HVe.out fr HSi0.out)
  have cv9 := fun i => cell_block (below_block HBW_c.out BV.out) i
  go_wp2_with fail
  refine HX.out.mono ?_
  rintro E w5 ⟨gm, E5, f5, rfl, hmk, ham, he5, hgm, hb5⟩
  have HBW_d : Hid (Below W.heap.size W w5) := Lib.hid (HBW_c.out.trans (hb5.mono HBW_c.out.size))
  have HWS0 : Hid (WSt W D w5 g gh om gw hm gm vr R vw S fr (curV vw (S.log.take fr)) fr) := Lib.hid (by
   have hu := HU_c.out.belowX hb5
   have hwt := HW_c.out.belowX hb5
   have l1 := HW_c.out.lts
   have l2 := fun b hb => (HW_c.out.low b hb).1
   have hs5 := hb5.size
   have h2W := hs2W.out
   have hX : ∀ b, Hx gh om gw hm gm b → w2.heap.size ≤ b ∧ (b = gm ∨ b < w4.heap.size) := fun b hb => by
    rcases hb with rfl | rfl | rfl | rfl | rfl
    ·exact ⟨hgh, .inr (by omega)⟩
    ·exact ⟨hom, .inr (by omega)⟩
    ·exact ⟨by have := HL.out _ (.inl rfl); omega, .inr l1.1⟩
    ·exact ⟨by have := HL.out _ (.inr (.inl rfl)); omega, .inr l1.2⟩
    ·exact ⟨by omega, .inl rfl⟩
   refine WSt.start (B := w2.heap.size) (HA_c.out.belowW hb5) ⟨HTabW.out, HEnW.out, HBW_d.out, HDo.out⟩ hu hwt (by have h9 : S.log.length = rv := Hrv.out; omega) HDl.out ⟨hgh, hom⟩ (fun b hb => ⟨by have := HL.out b hb; omega, by have := HL.out b hb; omega, by have := HL.out b hb; omega⟩) h2W hmk ham ⟨by omega, by omega, by omega, by omega, by omega, fun h9 => by have := l2 gm h9; omega⟩ ?_
   intro b hb
   obtain ⟨e1, e2, e3⟩ := he5 b hb
   exact ⟨e2, fun h9 => by have := HDl.out b h9; omega, fun h9 => by
    rcases (hX b h9).2 with h8 | h8
    ·exact e3 h8
    ·omega⟩)
  clear hmk ham he5 hgm hb5 HX cv9 HU_c HW_c HL HA_c HBW_c HBW_b hs4 hs3 hgo3 hgh hom HDo HDl hs2W HBW_d
  go_wp2_with fail
  refine (HRm w5).out.mono ?_
  rintro E wx ⟨rfl, hwx⟩
  subst hwx
  clear HRm
  obtain ⟨RV, HRV⟩ : ∃ n, Hid ((run S m).rev = n) := ⟨_, Lib.hid rfl⟩
  have hRV : RV ≤ 1048576 := by
   rw [← HRV.out]
   have h9 := rev_run S m
   rw [HN2.out, Hrv.out] at h9
   omega
  have hfrR : fr ≤ RV := by
   obtain ⟨e, he⟩ := grow_run S m
   have h9 := congrArg List.length he
   rw [List.length_append] at h9
   have h8 : (run S m).log.length = RV := HRV.out
   have h7 : S.log.length = rv := Hrv.out
   omega
  have qwm := Qwm.out
  go_wp2_with fail
  clear qwm
  go_loopg [18] (mn + RV + 2) (fun k u18 wr => ∃ (i p : Nat) (D : Dom) (Si : St), i + k = mn + RV + 2 ∧ u18 = .int .i64 (i : Int) ∧ (i ≤ mn + p ∨ p = RV) ∧ p ≤ RV ∧ Hid (run S (m.take i) = Si) ∧ Hid (WSt W D wr g gh om gw hm gm vr R vw Si p (curV vw (Si.log.take p)) p))
  case atStart => exact ⟨0, fr, D, S, by omega, rfl, .inl (by omega), hfrR, Lib.hid rfl, HWS0⟩
  case round =>
   clear HWS0
   obtain ⟨i, p, D, Si, hik, rfl, hip, hpR, HSi, HW⟩ := hrel
   have HSok : Hid (OkSt Si) := Lib.hid (by
    rw [← HSi.out]
    exact okSt_run HS.out _ (fun y hy => Hok2.out y (List.mem_of_mem_take hy)) (by rw [List.length_take, HN2.out, Hrv.out]; omega))
   obtain ⟨ri, Hri⟩ : ∃ n, Hid (Si.rev = n) := ⟨_, Lib.hid rfl⟩
   have hri : ri ≤ RV := by
    obtain ⟨e, he⟩ := run_part S m i
    have h9 := congrArg List.length he
    rw [List.length_append, HSi.out] at h9
    have h8 : (run S m).log.length = RV := HRV.out
    have h7 : Si.log.length = ri := Hri.out
    omega
   have hriE : mn ≤ i → ri = RV := fun h9 => by
    rw [← Hri.out, ← HSi.out, List.take_of_length_le (by rw [HN2.out]; exact h9), HRV.out]
   have hpri : p ≤ ri := by have h9 := HW.out.hp; have h7 : Si.log.length = ri := Hri.out; omega
   have HRv := Lib.hid (rev_any HW.out.st)
   rw [Hri.out] at HRv
   have qw1 : IntKind.i64.wrap ((mn : Int) + (ri : Int)) = (mn : Int) + (ri : Int) := IntWalk.i64_in _ (by omega)
   have qw2 : IntKind.i64.wrap ((mn : Int) + (ri : Int) + 2) = (mn : Int) + (ri : Int) + 2 := IntWalk.i64_in _ (by omega)
   cases gk with
   | zero =>
    have e1 : ri = RV := hriE (by omega)
    have e2 : p = ri := by rcases hip with h | h <;> omega
    have qc : ¬ (i : Int) < (mn : Int) + (ri : Int) + 2 := by omega
    clear hip hik hriE hpri hpR hri e1
    subst e2
    have HBf : Hid (Below w.heap.size w wr) := Lib.hid (HB1.out.trans (HW.out.home.bel.mono HB1.out.size))
    have HX := Lib.hid (hubAt_some HW.out.hub 1 (by decide) rfl HW.out.wat)
    go_wp2_with fail
    refine HRv.out.mono ?_
    rintro E wx ⟨rfl, hwx⟩
    subst hwx
    go_wp2_with fail
    refine HX.out.mono ?_
    rintro E wx ⟨rfl, hwx⟩
    subst hwx
    clear HX
    go_wp2_with fail
    refine HRv.out.mono ?_
    rintro E wx ⟨rfl, hwx⟩
    subst hwx
    go_wp2_with fail
    go_ret
    exact ⟨by first | rfl | simp, HBf.out⟩
   | succ k =>
    have qc : (i : Int) < (mn : Int) + (ri : Int) + 2 := by
     by_cases h9 : mn ≤ i
     ·have := hriE h9; omega
     ·omega
    go_wp2_with fail
    refine HRv.out.mono ?_
    rintro E wx ⟨rfl, hwx⟩
    subst hwx
    clear HRv
    obtain ⟨Sn, HSn⟩ : ∃ S9, Hid (run S (m.take (i + 1)) = S9) := ⟨_, Lib.hid rfl⟩
    go_upto_if 87 with fail
    clear qw1 qw2 qc
    go_cut [] (fun wx => ∃ D9, Hid (WSt W D9 wx g gh om gw hm gm vr R vw Sn p (curV vw (Sn.log.take p)) p))
    case first =>
     by_cases him : i < mn
     ·have q3 : (i : Int) < (mn : Int) := by omega
      have q4 : (0 : Int) ≤ (i : Int) := by omega
      obtain ⟨x, hx⟩ : ∃ x, m[i]? = some x := ⟨m[i]'(by rw [HN2.out]; exact him), List.getElem?_eq_getElem _⟩
      obtain ⟨b9, o9, v1, v2, v3, hva, g1, g2, g3, ec⟩ := step_cells HR2.out HN2.out HW.out.home.bel hx
      subst hva
      obtain ⟨a7, c7, rfl, -, -⟩ := g1.len
      obtain ⟨a8, c8, rfl, -, -⟩ := g2.row.len
      obtain ⟨a9, c9, rfl, -, -⟩ := g3.row.len
      obtain ⟨n7, Hn7⟩ : ∃ n, Hid (x.o.labels.length = n) := ⟨_, Lib.hid rfl⟩
      obtain ⟨n8, Hn8⟩ : ∃ n, Hid (x.o.owners.length = n) := ⟨_, Lib.hid rfl⟩
      obtain ⟨n9, Hn9⟩ : ∃ n, Hid (x.o.holds.length = n) := ⟨_, Lib.hid rfl⟩
      rw [Hn7.out] at g1 ec
      rw [Hn8.out] at g2 ec
      rw [Hn9.out] at g3 ec
      have f0 := ec 0 _ rfl
      have f1 := ec 1 _ rfl
      have f2 := ec 2 _ rfl
      have f3 := ec 3 _ rfl
      have f4 := ec 4 _ rfl
      have f5 := ec 5 _ rfl
      have f6 := ec 6 _ rfl
      have f7 := ec 7 _ rfl
      have f8 := ec 8 _ rfl
      have f9 := ec 9 _ rfl
      have f10 := ec 10 _ rfl
      have f11 := ec 11 _ rfl
      rw [Nat.add_zero] at f0
      have HSn' : Hid ((doS Si x).1 = Sn) := Lib.hid (by rw [← HSn.out, take_snoc hx, run_snoc, HSi.out])
      have HDo := Lib.hid (do_any (w0 := W) HW.out.st HW.out.home HSok.out (by rw [Hri.out]; omega) x (.slice a7 n7 c7) (.slice a8 n8 c8) (.slice a9 n9 c9) g1 g2 g3 (Hok2.out x (List.mem_of_getElem? hx)))
      rw [show stepW x (.slice a7 n7 c7) (.slice a8 n8 c8) (.slice a9 n9 c9) = .agg #[.int .i64 x.kind, .int .i64 x.rev, .string x.o.okey.kind, .string x.o.okey.space, .string x.o.okey.name, .slice a7 n7 c7, .slice a8 n8 c8, .slice a9 n9 c9, .bool x.o.ending, .string x.o.uid, .int .i64 x.o.rev, .string x.o.doc] from rfl] at HDo
      clear ec g1 g2 g3 hx
      go_wp2_with fail
      refine HDo.out.mono ?_
      rintro E w7 ⟨D9, E9, u1, u2, u3, rfl, k1, k2, k3, k4, k5⟩
      have HW9 : Hid (WSt W D9 w7 g gh om gw hm gm vr R vw Sn p (curV vw (Sn.log.take p)) p) := Lib.hid (by
       have hg := grow_do Si x
       rw [HSn'.out] at k1 hg
       exact HW.out.step k1 k4 k5 hg)
      clear k1 k2 k3 k4 k5 HDo f0 f1 f2 f3 f4 f5 f6 f7 f8 f9 f10 f11 HW
      go_wp2_with fail
      go_meet
      exact ⟨D9, HW9⟩
     ·have q3 : ¬ (i : Int) < (mn : Int) := by omega
      have HW9 : Hid (WSt W D wr g gh om gw hm gm vr R vw Sn p (curV vw (Sn.log.take p)) p) := Lib.hid (by
       have h9 : Sn = Si := by rw [← HSn.out, ← HSi.out, List.take_of_length_le (by rw [HN2.out]; omega), List.take_of_length_le (by rw [HN2.out]; omega)]
       rw [h9]
       exact HW.out)
      clear HW
      go_wp2_with fail
      go_meet
      exact ⟨D, HW9⟩
    case rest =>
    obtain ⟨w6, hw6⟩ : ∃ w6, w6 = wc := ⟨_, rfl⟩
    rw [← hw6] at hcut ⊢
    clear hw6 HW HSok hri hpri
    obtain ⟨D9, HW6⟩ := hcut
    have HSok : Hid (OkSt Sn) := Lib.hid (by
     rw [← HSn.out]
     exact okSt_run HS.out _ (fun y hy => Hok2.out y (List.mem_of_mem_take hy)) (by rw [List.length_take, HN2.out, Hrv.out]; omega))
    have HGn : Hid (GoodL Sn) := Lib.hid (by rw [← HSn.out]; exact goodL_run HGL.out _)
    obtain ⟨rn, Hrn⟩ : ∃ n, Hid (Sn.rev = n) := ⟨_, Lib.hid rfl⟩
    have hlog : Sn.log.length = rn := Hrn.out
    have hrnR : rn ≤ RV := by
     obtain ⟨e, he⟩ := run_part S m (i + 1)
     have h9 := congrArg List.length he
     rw [List.length_append, HSn.out] at h9
     have h8 : (run S m).log.length = RV := HRV.out
     omega
    have hrnE : mn ≤ i → rn = RV := fun h9 => by
     rw [← Hrn.out, ← HSn.out, List.take_of_length_le (by rw [HN2.out]; omega), HRV.out]
    have hpn : p ≤ rn := by have h9 := HW6.out.hp; omega
    have hXl : W.heap.size ≤ gw ∧ W.heap.size ≤ hm ∧ W.heap.size ≤ om := ⟨HW6.out.low gw (by simp [Hx]), HW6.out.low hm (by simp [Hx]), HW6.out.low om (by simp [Hx])⟩
    have HX := Lib.hid (take_any (w0 := W) (id := 1) HW6.out.st HSok.out HW6.out.hub (by decide) rfl HW6.out.wat HOk.out (by omega) mo hmo1 hmo2 HEnW.out HW6.out.home.bel ⟨hXl.1, hXl.2.1⟩)
    clear hlog
    obtain ⟨se, Hse⟩ : ∃ e, Hid (sinceE Sn p = e) := ⟨_, Lib.hid rfl⟩
    rw [Hse.out] at HX
    have hse9 : se ≠ 0 → se = 13 := fun h9 => by
     rw [← Hse.out] at h9 ⊢
     exact since_gone HW6.out.hp h9
    obtain ⟨G, HG⟩ : ∃ G, Hid (takeG vw mo (sinceL Sn p) [] (isF (curV vw (Sn.log.take p))) p = G) := ⟨_, Lib.hid rfl⟩
    obtain ⟨tn, Htn⟩ : ∃ n, Hid (takeN vw mo (sinceL Sn p) [] (isF (curV vw (Sn.log.take p))) = n) := ⟨_, Lib.hid rfl⟩
    rw [HG.out, Htn.out] at HX
    go_wp2_with fail
    refine HX.out.mono ?_
    rintro E9 w8 (⟨hs0, rfl, hhub, hon⟩ | ⟨hs0, E, u, rfl, hu, hE2, hw8, ho8⟩)
    ·-- gone
     obtain rfl : se = 13 := hse9 hs0
     have HBf : Hid (Below w.heap.size w w8) := Lib.hid (HB1.out.trans ((HW6.out.home.bel.trans (hon.below (B := W.heap.size) (fun b hb => by have h8 : b = om := hb; omega) HW6.out.home.bel.size)).mono HB1.out.size))
     have HX2 := Lib.hid (hubAt_none hhub 1 (by decide) (if_pos rfl))
     clear hs0 hhub hon HX hse9
     go_wp2_with fail
     refine HX2.out.mono ?_
     rintro E wx ⟨rfl, hwx⟩
     subst hwx
     clear HX2
     go_wp2_with fail
     go_ret
     exact ⟨by first | rfl | simp, HBf.out⟩
    ·obtain rfl : se = 0 := hs0
     obtain ⟨hp9, q, TT, hpq, hqn, hlt, hTm, hTq, hTo, hGe, hNe, hF⟩ := took_is vw mo HSok.out.good p Hse.out hmo1
     rw [HG.out] at hGe
     rw [Htn.out] at hNe
     have HFo := Lib.hid hF
     have HTo := Lib.hid hTo
     have HSq : Hid (sinceE Sn (q : Int) = 0) := Lib.hid (since_later Hse.out hpq hqn)
     rw [show G.2.2 = (q : Int) by rw [hGe], show G.2.1 = isF (curV vw (Sn.log.take q)) by rw [hGe], hNe, show p + (q - p) = q by omega] at hw8
     rw [show G.1 = TT by rw [hGe]] at hu
     have HW8 : Hid (WSt W D9 w8 g gh om gw hm gm vr R vw Sn q (curV vw (Sn.log.take p)) p) := Lib.hid (HW6.out.took hw8 ho8 hqn)
     have HE8 : Hid (∀ b, E b → OffE (Hx gh om gw hm gm) D9 w8 b) := Lib.hid fun b hb => by
      obtain ⟨e1, e2⟩ := hE2 b hb
      exact ⟨e2, fun h9 => by have := HW6.out.st.low h9; omega, fun h9 => by have := HW6.out.lts b h9; omega⟩
     have HU8 := Lib.hid hu
     have hqR : q ≤ RV := by have h9 : Sn.log.length = rn := Hrn.out; omega
     have hqn2 : q ≤ rn := by have h9 : Sn.log.length = rn := Hrn.out; omega
     have hprog : (i + 1 ≤ mn + q ∨ q = RV) := by
      have h9 : Sn.log.length = rn := Hrn.out
      rcases Nat.lt_or_ge i mn with h8 | h8
      ·exact .inl (by omega)
      ·have h7 := hrnE h8
       rcases hip with h6 | h6
       ·rcases Nat.lt_or_ge p rn with h5 | h5
        ·have h4 := hlt (by omega); exact .inl (by omega)
        ·exact .inr (by omega)
       ·exact .inr (by omega)
     clear HX hse9 hu hE2 hw8 ho8 HW6 hGe hNe hF hTo HG Htn hlt hip hrnE hqn hp9
     obtain ⟨ua, uc, hu9, -, -⟩ := HU8.out.own.row.len
     subst hu9
     obtain ⟨nT, HnT⟩ : ∃ n, Hid (TT.length = n) := ⟨_, Lib.hid rfl⟩
     rw [HnT.out] at HU8 hTm hTq ⊢
     have HX := Lib.hid (hubAt_some HW8.out.hub 1 (by decide) rfl HW8.out.wat)
     have HRv := Lib.hid (rev_any HW8.out.st)
     rw [Hrn.out] at HRv
     have qa : ¬ mo < nT := by omega
     have qb : ¬ rn < q := by omega
     go_wp2_with fail
     refine HX.out.mono ?_
     rintro E9 wx ⟨rfl, hwx⟩
     subst hwx
     clear HX
     go_wp2_with fail
     refine HRv.out.mono ?_
     rintro E9 wx ⟨rfl, hwx⟩
     subst hwx
     clear HRv
     go_wp2_with fail
     clear qa qb
     go_loopg [142] nT (fun k2 u142 wr2 => ∃ j : Nat, j + k2 = nT ∧ u142 = .int .i64 (j : Int) ∧ Hid (WSt W D9 wr2 g gh om gw hm gm vr R vw Sn q (appMs (curV vw (Sn.log.take p)) (TT.take j)) (p + j)) ∧ Hid (OwnX EvX 12 E wr2 56 (.slice ua nT uc) TT) ∧ Hid (∀ b, E b → OffE (Hx gh om gw hm gm) D9 wr2 b))
     case atStart => exact ⟨0, by omega, rfl, HW8, HU8, HE8⟩
     case round =>
      clear HW8 HU8 HE8
      obtain ⟨j, hjk, rfl, HW, HU, HE⟩ := hrel
      cases gk with
      | zero =>
       obtain rfl : nT = j := by omega
       have HWq : Hid (WSt W D9 wr g gh om gw hm gm vr R vw Sn q (curV vw (Sn.log.take q)) q) := Lib.hid (by
        have h9 := HW.out
        rw [← HnT.out, List.take_length, HFo.out.all] at h9
        exact h9.more (by rw [HnT.out]; exact hTq))
       clear HW HU HE HFo HTo HnT
       have HX := Lib.hid (viewed_any HWq.out.st HSok.out HGn.out (HVr.out.below stays_req HWq.out.home.bel) HOk.out HVe.out q HSq.out)
       have cv9 := fun i => cell_block (below_block HWq.out.home.bel BV.out) i
       go_wp2_with fail
       refine HX.out.mono ?_
       rintro E9 w9 ⟨gn, E2, f2, rfl, hmk, ham, he2, hgn, hb9⟩
       have HW9 := Lib.hid (HWq.out.belowW hb9)
       have MN := Lib.hid hmk
       have AN := Lib.hid ham
       have HE2 : Hid (∀ b, E2 b → b < w9.heap.size) := Lib.hid fun b hb => (he2 b hb).2.1
       clear hmk ham he2 hgn hb9 HX cv9 HWq
       obtain ⟨f, n', hn', m1, m3⟩ := HW9.out.has
       obtain ⟨ks, hk1, hk2, hk3, hk4⟩ := MapK.keys m1
       obtain ⟨ks2, hj1, hj2, hj3, hj4⟩ := MapK.keys MN.out
       have hkl : ks2.length = ks.length := count_same (M := curV vw (Sn.log.take q)) hj1 hk1 (fun k => (hj2 k).trans (by rw [AN.out.isF])) (fun k => (hk2 k).trans (by rw [m3.isF]))
       obtain ⟨kl, hkl9⟩ : ∃ n, ks.length = n := ⟨_, rfl⟩
       rw [hkl9] at hkl
       have hlen1 := fun ty => hk4 54 30 ty Tryz.underlying54
       have hlen2 := fun ty => hj4 54 30 ty Tryz.underlying54
       rw [hkl9] at hlen1
       rw [hkl] at hlen2
       have qn : ((kl : Int) != (kl : Int)) = false := by simp
       clear m1 m3 hk1 hk2 hk3 hk4 hj1 hj2 hj3 hj4 hkl hkl9
       go_upto_region 39 with fail
       clear hlen1 hlen2 qn
       go_wp2_with (at_range; refine wpList_range_mapK _ (by rfl) _ 54 (by rfl) 30 Tryz.underlying54 gn q f2 (by rfl) MN.out ?_; intro w10 cnt hrg hgr hsz)
       try go_frame
       have hb10 : Below w9.heap.size w9 w10 := ⟨hgr.os, hgr.tape, hgr.output, hgr.size, fun k hk => hgr.block k hk (by simp)⟩
       have HR1 := Lib.hid hrg
       obtain ⟨r, hr⟩ : ∃ r, w9.heap.size = r := ⟨_, rfl⟩
       rw [hr] at HR1 ⊢
       have HW10 := Lib.hid (HW9.out.belowW hb10)
       have AN10 := Lib.hid (AN.out.agree fun b hb => hb10.block b (HE2.out b hb))
       have HE10 : Hid (∀ b, E2 b → b < w10.heap.size) := Lib.hid fun b hb => Nat.lt_of_lt_of_le (HE2.out b hb) hb10.size
       have HX10 : Hid (WSx (OffE (Hx gh om gw hm gm) D9 w9) W D9 w10 g gh om gw hm gm vr R vw Sn q (curV vw (Sn.log.take q)) q) := Lib.hid (HW9.out.x.belowW hb10)
       have hYr : Hid (∀ b, b = r → ¬ D9 b ∧ ¬ Hx gh om gw hm gm b ∧ ¬ R b ∧ ¬ OffE (Hx gh om gw hm gm) D9 w9 b ∧ W.heap.size ≤ b) := Lib.hid fun b hb => by
        subst hb
        exact ⟨fun h9 => by have := HW9.out.st.low h9; omega, fun h9 => by have := HW9.out.lts b h9; omega, fun h9 => by have := (HW9.out.wat.low b h9).1; omega, fun h9 => by have := h9.1; omega, by have := HW9.out.home.bel.size; omega⟩
       have HE9 := HE2
       have hr9 : w9.heap.size ≤ r := by omega
       clear hrg hgr hsz hb10 HW9 MN AN HE2 HE10 HW10 hr
       go_loopg [] cnt (fun c wr3 => ∃ left : GKey → Bool, Hid (RangeK keyC wr3 gn r q f2 left c) ∧ Hid (WSx (OffE (Hx gh om gw hm gm) D9 w9) W D9 wr3 g gh om gw hm gm vr R vw Sn q (curV vw (Sn.log.take q)) q) ∧ Hid (AllM E2 wr3 f2 (curV vw (Sn.log.take q))) ∧ w9.heap.size < wr3.heap.size)
       case atStart => exact ⟨_, HR1, HX10, AN10, by have := HR1.out.lt; omega⟩
       case round =>
        clear HR1 HX10 AN10
        obtain ⟨left, HR, HXw, AN, hsz9⟩ := hrel
        go_wp2_with (at_next; refine wpList_next_rangeK _ (by rfl) _ (by rfl) gn r q f2 left gk (by rfl) HR.out ?_ ?_)
        ·intro hl0
         have HWe : Hid (WSt W D9 wr g gh om gw hm gm vr R vw Sn q (curV vw (Sn.log.take q)) q) := Lib.hid HXw.out.t
         clear hl0 HR AN HXw hYr HE9
         go_wp2_with fail
         go_roundg k
         case measure => omega
         case rel => exact ⟨i + 1, q, D9, Sn, by omega, by go_num, hprog, hqR, HSn, HWe⟩
        ·intro s v w11 cnt2 hs7 hls hv hrg2 hlt hgr2 hsz2 hen
         obtain ⟨o, ho⟩ := AllM.here AN.out hv
         obtain ⟨u1, u2, u3, hf2, hobj⟩ := (AN.out s).2 o ho
         obtain rfl : v = objW o u1 u2 u3 := by rw [hv] at hf2; exact Option.some.inj hf2
         have hos : o.okey = s := curV_key ho
         subst hos
         have O11 : Only (fun b => b = r) wr w11 := Only.grown hgr2 fun g h => (Option.some.inj h).symm
         have HX11 := Lib.hid (HXw.out.only O11 hYr.out)
         have AN11 := Lib.hid (AN.out.agree fun b hb => O11.block b (by have := HE9.out b hb; omega) fun h9 => by have h8 : b = r := h9; have := HE9.out b hb; omega)
         have Hobj := Lib.hid (hobj.agree fun b hb => O11.block b (by have := HE9.out b hb; omega) fun h9 => by have h8 : b = r := h9; have := HE9.out b hb; omega)
         have HR11 := Lib.hid hrg2
         have hsz11 : w9.heap.size < w11.heap.size := by rw [hsz2]; exact hsz9
         have Hok : Hid (OkObj o) := Lib.hid (by
          obtain ⟨e, h1, h2⟩ := cur_mem9 (curV_some.1 ho).1
          exact h2 ▸ HSok.out.obj e (List.mem_of_mem_take h1))
         have Hkey : Hid (okKey o.okey) := Lib.hid ⟨Nat.le_trans Hok.out.kind (by decide), Nat.le_trans Hok.out.space (by decide), Nat.le_trans Hok.out.name (by decide)⟩
         have Ho := Lib.hid ho
         obtain ⟨a7, c7, rfl, -, -⟩ := hobj.rowL.len
         obtain ⟨a8, c8, rfl, -, -⟩ := hobj.rowO.row.len
         obtain ⟨a9, c9, rfl, -, -⟩ := hobj.rowH.row.len
         obtain ⟨n7, Hn7⟩ : ∃ n, Hid (o.labels.length = n) := ⟨_, Lib.hid rfl⟩
         obtain ⟨n8, Hn8⟩ : ∃ n, Hid (o.owners.length = n) := ⟨_, Lib.hid rfl⟩
         obtain ⟨n9, Hn9⟩ : ∃ n, Hid (o.holds.length = n) := ⟨_, Lib.hid rfl⟩
         rw [Hn7.out, Hn8.out, Hn9.out] at hen Hobj ⊢
         rw [show keyC.val o.okey = .agg #[.string o.okey.kind, .string o.okey.space, .string o.okey.name] from rfl, show objW o (.slice a7 n7 c7) (.slice a8 n8 c8) (.slice a9 n9 c9) = .agg #[.string o.okey.kind, .string o.okey.space, .string o.okey.name, .slice a7 n7 c7, .slice a8 n8 c8, .slice a9 n9 c9, .bool o.ending, .string o.uid, .int .i64 o.rev, .string o.doc] from rfl] at hen ⊢
         clear hs7 hls hv hrg2 hgr2 hsz2 hf2 hobj ho HR HXw AN O11
         have H7 := Lib.hid (show ((w11.alloc (.cells #[.string { data := #[] }, .string { data := #[] }, .string { data := #[] }] 24)).alloc (.cells noA 30)).heap[w11.heap.size]? = some (.cells #[.string { data := #[] }, .string { data := #[] }, .string { data := #[] }] 24 (0, 0)) from heap_alloc_old (heap_alloc_new w11 _))
         have H8 := Lib.hid (show ((w11.alloc (.cells #[.string { data := #[] }, .string { data := #[] }, .string { data := #[] }] 24)).alloc (.cells noA 30)).heap[w11.heap.size + 1]? = some (.cells noA 30 (0, 0)) from heap_alloc_at (World.size_alloc _ _).symm)
         have hbA : Hid (Below w11.heap.size w11 ((w11.alloc (.cells #[.string { data := #[] }, .string { data := #[] }, .string { data := #[] }] 24)).alloc (.cells noA 30))) := Lib.hid (((Below.refl _ w11).alloc (Nat.le_refl _) _).alloc (by rw [World.size_alloc]; omega) _)
         go_wp2_with (refine wpList_store_box (by rfl) _ _ _ (by rfl) w11.heap.size #[.string o.okey.kind, .string o.okey.space, .string o.okey.name] (by rfl) (by rfl) _ _ (by exact H7.out) (by exact Tryz.sizeKeyW) (by rfl) (by simp [Value.oneCell']) ?_)
         intro w12 b12 t12
         have H9 := Lib.hid (t12.block H8.out (by omega))
         have hb12 := Lib.hid (t12.below hbA.out (Nat.le_refl _))
         have B12 := Lib.hid b12
         clear b12 t12 H7 H8 hbA
         go_wp2_with (refine wpList_store_box (by rfl) _ _ _ (by rfl) (w11.heap.size + 1) #[.string o.okey.kind, .string o.okey.space, .string o.okey.name, .slice a7 n7 c7, .slice a8 n8 c8, .slice a9 n9 c9, .bool o.ending, .string o.uid, .int .i64 o.rev, .string o.doc] (by rfl) (by rfl) _ _ (by exact H9.out) (by exact Tryz.sizeObj) (by rfl) (by simp [Value.oneCell']) ?_)
         intro w13 b13 t13
         have hb13 : Below w11.heap.size w11 w13 := t13.below hb12.out (Nat.le_succ _)
         obtain ⟨gk1, hgk1⟩ : ∃ x, w11.heap.size = x := ⟨_, rfl⟩
         have BK := Lib.hid (t13.block B12.out (by omega))
         rw [hgk1] at b13 BK ⊢
         have BO := Lib.hid b13
         have HX13 := Lib.hid (HX11.out.belowW hb13)
         have AN13 := Lib.hid (AN11.out.agree fun b hb => hb13.block b (by have := HE9.out b hb; omega))
         have Hobj13 := Lib.hid (Hobj.out.agree fun b hb => hb13.block b (by have := HE9.out b hb; omega))
         have HR13 := Lib.hid (HR11.out.belowW hb13)
         have hsz13 : w9.heap.size < w13.heap.size := by have := hb13.size; omega
         clear b13 t13 hb13 H9 hb12 B12 HX11 AN11 Hobj HR11 hen hgk1 hsz11
         obtain ⟨f, n', hn', m1, m3⟩ := HX13.out.has
         obtain ⟨t1, t2, t3, hfx, hou⟩ := (m3 o.okey).2 o Ho.out
         have hoE := HX13.out.hE
         obtain ⟨b7, d7, rfl, -, -⟩ := hou.rowL.len
         obtain ⟨b8, d8, rfl, -, -⟩ := hou.rowO.row.len
         obtain ⟨b9, d9, rfl, -, -⟩ := hou.rowH.row.len
         rw [Hn7.out, Hn8.out, Hn9.out] at hou hfx
         have Hou := Lib.hid hou
         have HLk : Hid (∀ w', Below w13.heap.size w13 w' → (Instr.lookup 54 (.map (some gm)) (.agg #[.string o.okey.kind, .string o.okey.space, .string o.okey.name]) false).run Tryz.prog w' = .ok (.agg #[.string o.okey.kind, .string o.okey.space, .string o.okey.name, .slice b7 n7 d7, .slice b8 n8 d8, .slice b9 n9 d9, .bool o.ending, .string o.uid, .int .i64 o.rev, .string o.doc]) w') := Lib.hid fun w' hb => by
          have h9 := (MapK.look (m1.belowW hb) Tryz.underlying54 (Tryz.zeroObjW w') o.okey Hkey.out).2
          rw [hfx] at h9
          exact h9
         have HSm : Hid (∀ w', Below w13.heap.size w13 w' → Calls Tryz.prog 19 #[.agg #[.string o.okey.kind, .string o.okey.space, .string o.okey.name, .slice a7 n7 c7, .slice a8 n8 c8, .slice a9 n9 c9, .bool o.ending, .string o.uid, .int .i64 o.rev, .string o.doc], .agg #[.string o.okey.kind, .string o.okey.space, .string o.okey.name, .slice b7 n7 d7, .slice b8 n8 d8, .slice b9 n9 d9, .bool o.ending, .string o.uid, .int .i64 o.rev, .string o.doc]] w' fun e w'' => e = .returned (.bool true) ∧ Below w13.heap.size w13 w'') := Lib.hid fun w' hb => by
          refine (sameObj_yes o (.slice a7 n7 c7) (.slice a8 n8 c8) (.slice a9 n9 c9) (.slice b7 n7 d7) (.slice b8 n8 d8) (.slice b9 n9 d9) w' (Hobj13.out.rowL.below stays_label hb) (Hobj13.out.rowO.below hb) (Hobj13.out.rowH.below hb) (Hou.out.rowL.below stays_label hb) (Hou.out.rowO.below hb) (Hou.out.rowH.below hb) Hok.out).mono ?_
          rintro E w'' ⟨rfl, hb2⟩
          exact ⟨rfl, hb.trans (hb2.mono hb.size)⟩
         have hgk6 : gk1 < w13.heap.size := lt_of_some BK.out
         have hgo6 : gk1 + 1 < w13.heap.size := lt_of_some BO.out
         clear m1 m3 hfx hou hoE
         go_upto_region 42 with fail
         refine wp_region_hold 5 (fun w' => Below w13.heap.size w13 w') (by kernel_rfl) (by kernel_rfl) ?_ ?_
         ·exact (Below.refl _ w13).drew
         simp only [List.take_succ_cons, List.take_zero, List.drop_succ_cons, List.drop_zero]
         refine wpHold_read (v := .agg #[.string o.okey.kind, .string o.okey.space, .string o.okey.name, .slice a7 n7 c7, .slice a8 n8 c8, .slice a9 n9 c9, .bool o.ending, .string o.uid, .int .i64 o.rev, .string o.doc]) (by rfl) (fun w' hI => ?_) ?_
         ·have d0 := (hI.cell (p := ⟨gk1 + 1, 0, none⟩) hgo6).trans (cell_block BO.out 0)
          have d1 := (hI.cell (p := ⟨gk1 + 1, 1, none⟩) hgo6).trans (cell_block BO.out 1)
          have d2 := (hI.cell (p := ⟨gk1 + 1, 2, none⟩) hgo6).trans (cell_block BO.out 2)
          have d3 := (hI.cell (p := ⟨gk1 + 1, 3, none⟩) hgo6).trans (cell_block BO.out 3)
          have d4 := (hI.cell (p := ⟨gk1 + 1, 4, none⟩) hgo6).trans (cell_block BO.out 4)
          have d5 := (hI.cell (p := ⟨gk1 + 1, 5, none⟩) hgo6).trans (cell_block BO.out 5)
          have d6 := (hI.cell (p := ⟨gk1 + 1, 6, none⟩) hgo6).trans (cell_block BO.out 6)
          have d7 := (hI.cell (p := ⟨gk1 + 1, 7, none⟩) hgo6).trans (cell_block BO.out 7)
          have d8 := (hI.cell (p := ⟨gk1 + 1, 8, none⟩) hgo6).trans (cell_block BO.out 8)
          have d9 := (hI.cell (p := ⟨gk1 + 1, 9, none⟩) hgo6).trans (cell_block BO.out 9)
          go_simp
          done
         try simp only [Act.put, List.setIfInBounds_toArray, List.set_cons_zero, List.set_cons_succ]
         (first | (refine wpHold_pure (v := ?_) (by rfl) (fun w => ?_) ?_; rotate_left; focus (first | (go_simp; done) | (go_simp; with_reducible rfl))) | (refine wpHold_skip ?_ ?_; focus (go_simp; done)) | (refine wpHold_pure' (v := ?_) ?_ (fun w => ?_) ?_; rotate_left; focus (go_simp; done); focus (first | (go_simp; done) | (go_simp; with_reducible rfl)))); try simp only [Act.put, List.setIfInBounds_toArray, List.set_cons_zero, List.set_cons_succ]
         refine wpHold_read (v := .agg #[.string o.okey.kind, .string o.okey.space, .string o.okey.name]) (by rfl) (fun w' hI => ?_) ?_
         ·have d0 := (hI.cell (p := ⟨gk1, 0, none⟩) hgk6).trans (cell_block BK.out 0)
          have d1 := (hI.cell (p := ⟨gk1, 1, none⟩) hgk6).trans (cell_block BK.out 1)
          have d2 := (hI.cell (p := ⟨gk1, 2, none⟩) hgk6).trans (cell_block BK.out 2)
          go_simp
          done
         try simp only [Act.put, List.setIfInBounds_toArray, List.set_cons_zero, List.set_cons_succ]
         refine wpHold_read (v := .agg #[.string o.okey.kind, .string o.okey.space, .string o.okey.name, .slice b7 n7 d7, .slice b8 n8 d8, .slice b9 n9 d9, .bool o.ending, .string o.uid, .int .i64 o.rev, .string o.doc]) (by rfl) (fun w' hI => ?_) ?_
         ·have hlk := HLk.out w' hI
          go_simp
          done
         try simp only [Act.put, List.setIfInBounds_toArray, List.set_cons_zero, List.set_cons_succ]
         refine wpHold_call (v := .bool true) (f := 19) (args := #[.agg #[.string o.okey.kind, .string o.okey.space, .string o.okey.name, .slice a7 n7 c7, .slice a8 n8 c8, .slice a9 n9 c9, .bool o.ending, .string o.uid, .int .i64 o.rev, .string o.doc], .agg #[.string o.okey.kind, .string o.okey.space, .string o.okey.name, .slice b7 n7 d7, .slice b8 n8 d8, .slice b9 n9 d9, .bool o.ending, .string o.uid, .int .i64 o.rev, .string o.doc]]) (by rfl) (fun w' => ?_) (fun w' hI => HSm.out w' hI) ?_
         ·simp only [run_sameObjS, go_sem]
          go_simp
          done
         try simp only [Act.put, List.setIfInBounds_toArray, List.set_cons_zero, List.set_cons_succ]
         refine wpHold_nil ?_
         intro w14 hI14
         have HX14 := Lib.hid (HX13.out.belowW hI14)
         have AN14 := Lib.hid (AN13.out.agree fun b hb => hI14.block b (by have := HE9.out b hb; omega))
         have HR14 := Lib.hid (HR13.out.belowW hI14)
         have hsz14 : w9.heap.size < w14.heap.size := by have := hI14.size; omega
         clear hI14 HSm HLk HX13 AN13 HR13 Hobj13 Hou BK BO hgk6 hgo6 hsz13 Ho Hok Hkey
         go_wp2_with fail
         go_roundg cnt2
         case measure => exact hlt
         case rel => exact ⟨_, HR14, HX14, AN14, hsz14⟩
      | succ k2 =>
       have hjl : j < nT := by omega
       obtain ⟨x, hx⟩ : ∃ x, TT[j]? = some x := ⟨TT[j]'(by rw [HnT.out]; exact hjl), List.getElem?_eq_getElem _⟩
       obtain ⟨b9, o9, v1, v2, v3, hva, hobj, ec⟩ := ev_cells HU.out.own.row HnT.out (Below.refl _ _) hx
       subst hva
       obtain ⟨a7, c7, rfl, -, -⟩ := hobj.rowL.len
       obtain ⟨a8, c8, rfl, -, -⟩ := hobj.rowO.row.len
       obtain ⟨a9, c9, rfl, -, -⟩ := hobj.rowH.row.len
       obtain ⟨n7, Hn7⟩ : ∃ n, Hid (x.object.labels.length = n) := ⟨_, Lib.hid rfl⟩
       obtain ⟨n8, Hn8⟩ : ∃ n, Hid (x.object.owners.length = n) := ⟨_, Lib.hid rfl⟩
       obtain ⟨n9, Hn9⟩ : ∃ n, Hid (x.object.holds.length = n) := ⟨_, Lib.hid rfl⟩
       rw [Hn7.out, Hn8.out, Hn9.out] at hobj ec
       have f0 := ec 0 _ rfl
       have f1 := ec 1 _ rfl
       have f2 := ec 2 _ rfl
       have f3 := ec 3 _ rfl
       have f4 := ec 4 _ rfl
       have f5 := ec 5 _ rfl
       have f6 := ec 6 _ rfl
       have f7 := ec 7 _ rfl
       have f8 := ec 8 _ rfl
       have f9 := ec 9 _ rfl
       have f10 := ec 10 _ rfl
       have f11 := ec 11 _ rfl
       rw [Nat.add_zero] at f0
       have q1 : (0 : Int) ≤ (j : Int) := by omega
       have q2 : (j : Int) < (nT : Int) := by omega
       have Hxj := Lib.hid hx
       have Hok : Hid (OkObj x.object) := Lib.hid (by
        obtain ⟨y, h8, h9⟩ := HTo.out x (List.mem_of_getElem? hx)
        rw [h9]
        exact HSok.out.obj y h8)
       have Hkey : Hid (okKey x.object.okey) := Lib.hid ⟨Nat.le_trans Hok.out.kind (by decide), Nat.le_trans Hok.out.space (by decide), Nat.le_trans Hok.out.name (by decide)⟩
       obtain ⟨y3, y4⟩ := HFo.out.one j x hx
       have Hy3 := Lib.hid y3
       have qr : ¬ (q : Int) < x.rev := by omega
       have H7 := Lib.hid (heap_alloc_new wr (.cells #[.int .i64 0, .int .i64 0, .string { data := #[] }, .string { data := #[] }, .string { data := #[] }, .slice none 0 0, .slice none 0 0, .slice none 0 0, .bool false, .string { data := #[] }, .int .i64 0, .string { data := #[] }] 56))
       have hb4 := Lib.hid ((Below.refl wr.heap.size wr).alloc (Nat.le_refl _) (.cells #[.int .i64 0, .int .i64 0, .string { data := #[] }, .string { data := #[] }, .string { data := #[] }, .slice none 0 0, .slice none 0 0, .slice none 0 0, .bool false, .string { data := #[] }, .int .i64 0, .string { data := #[] }] 56))
       have hs4 := Lib.hid (World.size_alloc wr (.cells #[.int .i64 0, .int .i64 0, .string { data := #[] }, .string { data := #[] }, .string { data := #[] }, .slice none 0 0, .slice none 0 0, .slice none 0 0, .bool false, .string { data := #[] }, .int .i64 0, .string { data := #[] }] 56))
       have Hobj0 := Lib.hid hobj
       clear hx ec hobj y3 y4
       go_wp2_with (refine wpList_store_box (by rfl) _ _ _ (by rfl) wr.heap.size #[.int .i64 x.kind, .int .i64 x.rev, .string x.object.okey.kind, .string x.object.okey.space, .string x.object.okey.name, .slice a7 n7 c7, .slice a8 n8 c8, .slice a9 n9 c9, .bool x.object.ending, .string x.object.uid, .int .i64 x.object.rev, .string x.object.doc] (by rfl) (by rfl) _ _ (by exact H7.out) (by exact Tryz.sizeEv) (by rfl) (by simp [Value.oneCell']) ?_)
       intro w5 b5 t5
       have hb5 : Below wr.heap.size wr w5 := t5.below hb4.out (Nat.le_refl _)
       obtain ⟨gx, hgx⟩ : ∃ g, wr.heap.size = g := ⟨_, rfl⟩
       rw [hgx] at b5 ⊢
       have BX5 := Lib.hid b5
       have HW5 := Lib.hid (HW.out.belowW hb5)
       have HU5 := Lib.hid (HU.out.agree famEv fun b hb => hb5.block b (HE.out b hb).1)
       have Hobj5 := Lib.hid (Hobj0.out.agree fun b hb => hb5.block b (HE.out b hb).1)
       have HE5 : Hid (∀ b, E b → OffE (Hx gh om gw hm gm) D9 w5 b) := Lib.hid fun b hb => ⟨Nat.lt_of_lt_of_le (HE.out b hb).1 hb5.size, (HE.out b hb).2⟩
       clear b5 t5 hb5 hb4 hs4 H7 HW HU HE Hobj0 f0 f1 f2 f3 f4 f5 f6 f7 f8 f9 f10 f11 hgx
       obtain ⟨f, n', hn', m1, m3⟩ := HW5.out.has
       have M1 := Lib.hid m1
       have M3 := Lib.hid m3
       clear m1 m3
       have cx := fun i => cell_block BX5.out i
       obtain ⟨kb, hkb⟩ : ∃ kb, (x.kind == 1) = kb := ⟨_, rfl⟩
       have Hkb := Lib.hid hkb
       have Hkd : Hid (decide (x.kind = 1) = kb) := Lib.hid (by rw [← hkb]; by_cases h : x.kind = 1 <;> simp [h])
       obtain ⟨zc, Hc9⟩ : ∃ zc : Array Value, Hid ((f x.object.okey).getD (.agg noA) = .agg zc ∧ (f x.object.okey).isSome = !kb ∧ zc.size = 10 ∧ zc.all (·.oneCell') = true) := by
        have hi : (f x.object.okey).isSome = !kb := by rw [M3.out.isF, Hy3.out, Hkd.out]
        cases hc : appMs (curV vw (Sn.log.take p)) (TT.take j) x.object.okey with
        | none => exact ⟨noA, Lib.hid ⟨by rw [(M3.out x.object.okey).1 hc]; rfl, hi, rfl, by simp [Value.oneCell', noA]⟩⟩
        | some o =>
         obtain ⟨u1, u2, u3, h1, h2⟩ := (M3.out x.object.okey).2 o hc
         exact ⟨(objCs o u1 u2 u3).toArray, Lib.hid ⟨by rw [h1]; rfl, hi, rfl, objA_ones h2⟩⟩
       obtain ⟨isb, his⟩ : ∃ b, (!kb) = b := ⟨_, rfl⟩
       have qd : (isb == kb) = false := by rw [← his]; cases kb <;> rfl
       obtain ⟨z1, z2, hz1, hz2⟩ := Hc9.out
       rw [his] at z2
       have hlk := (MapK.look M1.out Tryz.underlying54 (Tryz.zeroObjW w5) x.object.okey Hkey.out).1
       rw [z1, z2] at hlk
       rw [show keyC.val x.object.okey = .agg #[.string x.object.okey.kind, .string x.object.okey.space, .string x.object.okey.name] from rfl] at hlk
       have Hz1 := Lib.hid hz1
       have Hz2 := Lib.hid hz2
       clear z1 z2 hz1 hz2 his hkb Hc9 M1 M3
       obtain ⟨gz, Hgz⟩ : ∃ g, Hid (w5.heap.size = g) := ⟨_, Lib.hid rfl⟩
       have H7 := Lib.hid (heap_alloc_new w5 (.cells noA 30))
       have hb4 := Lib.hid ((Below.refl w5.heap.size w5).alloc (Nat.le_refl _) (.cells noA 30))
       have hs4 := Lib.hid (World.size_alloc w5 (.cells noA 30))
       go_wp2_with (refine wpList_store_box (by rfl) _ _ _ (by rfl) w5.heap.size zc (by rfl) (by rfl) _ _ (by exact H7.out) (by rw [Hz1.out]; exact Tryz.sizeObj) (by rw [Hz1.out]; rfl) Hz2.out ?_)
       intro w6 b6 t6
       have hb6 : Below w5.heap.size w5 w6 := t6.below hb4.out (Nat.le_refl _)
       have BX6 := Lib.hid (below_block hb6 BX5.out)
       have HW6 := Lib.hid (HW5.out.belowW hb6)
       have HU6 := Lib.hid (HU5.out.agree famEv fun b hb => hb6.block b (HE5.out b hb).1)
       have Hobj6 := Lib.hid (Hobj5.out.agree fun b hb => hb6.block b (HE5.out b hb).1)
       have HE6 : Hid (∀ b, E b → OffE (Hx gh om gw hm gm) D9 w6 b) := Lib.hid fun b hb => ⟨Nat.lt_of_lt_of_le (HE5.out b hb).1 hb6.size, (HE5.out b hb).2⟩
       clear b6 t6 hb6 hb4 hs4 H7 HW5 HU5 Hobj5 HE5 BX5 cx hlk Hgz
       have cx := fun i => cell_block BX6.out i
       obtain ⟨f6, n6, hn6, m1, m3⟩ := HW6.out.has
       have M1 := Lib.hid m1
       have M3 := Lib.hid m3
       clear m1 m3
       have qk := Hkb.out
       have hgm := MapK.lt M1.out
       have hgx : gm ≠ gx := MapK.ne M1.out BX6.out
       have hnm : n6 < maxLen := Nat.lt_of_le_of_lt (by omega : n6 ≤ 2097152) (by decide)
       have HSM : Hid (appMs (curV vw (Sn.log.take p)) (TT.take (j + 1)) = appM (appMs (curV vw (Sn.log.take p)) (TT.take j)) x) := Lib.hid (by rw [take_snoc Hxj.out, appMs_snoc])
       by_cases h3 : x.kind = 3
       ·have e3 : (x.kind == 3) = true := beq_iff_eq.2 h3
        have H3 := Lib.hid h3
        clear h3
        obtain ⟨w7, hrun, hm7, ht7⟩ := MapK.drop M1.out Tryz.underlying54 x.object.okey Hkey.out 0
        rw [show keyC.val x.object.okey = .agg #[.string x.object.okey.kind, .string x.object.okey.space, .string x.object.okey.name] from rfl] at hrun
        go_upto_region 35 with fail
        have hO : Only (fun b => b = gm) w6 w7 := Only.turned ht7 rfl
        have HW7 : Hid (WSt W D9 w7 g gh om gw hm gm vr R vw Sn q (appMs (curV vw (Sn.log.take p)) (TT.take (j + 1))) (p + (j + 1))) := Lib.hid (by
         rw [HSM.out]
         exact (HW6.out.told hO hm7 (AllM.del M3.out H3.out)).more (by omega))
        have hEm : ∀ b, E b → b ≠ gm := fun b hb h9 => (HE6.out b hb).2.2 (by rw [h9]; simp [Hx])
        have HU7 := Lib.hid (HU6.out.agree famEv fun b hb => hO.block b (HE6.out b hb).1 (hEm b hb))
        have HE7 : Hid (∀ b, E b → OffE (Hx gh om gw hm gm) D9 w7 b) := Lib.hid fun b hb => ⟨Nat.lt_of_lt_of_le (HE6.out b hb).1 hO.size, (HE6.out b hb).2⟩
        clear cx hrun hm7 ht7 M1 M3 Hobj6 hO hEm HW6 HU6 HE6 BX6 HSM
        go_wp2_with fail
        go_roundg k2
        case measure => omega
        case rel => exact ⟨j + 1, by omega, by go_num, HW7, HU7, HE7⟩
       ·have e3 : (x.kind == 3) = false := by rw [beq_eq_false_iff_ne]; exact h3
        have H3 := Lib.hid h3
        clear h3
        obtain ⟨w7, hrun, hm7, ht7⟩ := MapK.store M1.out Tryz.underlying54 hnm x.object.okey Hkey.out (objW x.object (.slice a7 n7 c7) (.slice a8 n8 c8) (.slice a9 n9 c9))
        rw [show keyC.val x.object.okey = .agg #[.string x.object.okey.kind, .string x.object.okey.space, .string x.object.okey.name] from rfl, show objW x.object (.slice a7 n7 c7) (.slice a8 n8 c8) (.slice a9 n9 c9) = .agg #[.string x.object.okey.kind, .string x.object.okey.space, .string x.object.okey.name, .slice a7 n7 c7, .slice a8 n8 c8, .slice a9 n9 c9, .bool x.object.ending, .string x.object.uid, .int .i64 x.object.rev, .string x.object.doc] from rfl] at hrun
        go_upto_region 35 with fail
        have hO : Only (fun b => b = gm) w6 w7 := Only.turned ht7 rfl
        have HW7 : Hid (WSt W D9 w7 g gh om gw hm gm vr R vw Sn q (appMs (curV vw (Sn.log.take p)) (TT.take (j + 1))) (p + (j + 1))) := Lib.hid (by
         rw [HSM.out]
         exact (HW6.out.told hO hm7 (AllM.put M3.out H3.out (Hobj6.out.mono HE6.out))).more (by omega))
        have hEm : ∀ b, E b → b ≠ gm := fun b hb h9 => (HE6.out b hb).2.2 (by rw [h9]; simp [Hx])
        have HU7 := Lib.hid (HU6.out.agree famEv fun b hb => hO.block b (HE6.out b hb).1 (hEm b hb))
        have HE7 : Hid (∀ b, E b → OffE (Hx gh om gw hm gm) D9 w7 b) := Lib.hid fun b hb => ⟨Nat.lt_of_lt_of_le (HE6.out b hb).1 hO.size, (HE6.out b hb).2⟩
        clear cx hrun hm7 ht7 M1 M3 Hobj6 hO hEm HW6 HU6 HE6 BX6 HSM
        go_wp2_with fail
        go_roundg k2
        case measure => omega
        case rel => exact ⟨j + 1, by omega, by go_num, HW7, HU7, HE7⟩
end Sto
end Go.Proofs.YtnnceaapodgfbaaGreatDoor
