/- Texts of ours joined. -/
import Derived.Deep.LoopGhost
import Derived.IntWalk
import Derived.Test.YtnnceaapodgfbaaGreatDoorMw9
set_option linter.unusedVariables false
set_option linter.unusedSimpArgs false
namespace Go.Proofs.YtnnceaapodgfbaaGreatDoor
namespace Pag
open Go.RowKit
open JP (Bs)
theorem data_inj {a b : ByteArray} (h : a.data.toList = b.data.toList) : a = b := ByteArray.ext (Array.toList_inj.1 h)
theorem datas_inj : ∀ {a b : List ByteArray}, a.map (·.data.toList) = b.map (·.data.toList) → a = b
  | [], [], _ => rfl
  | [], _ :: _, h => by cases h
  | _ :: _, [], h => by cases h
  | x :: r, y :: s, h => by
    rw [List.map_cons, List.map_cons] at h
    injection h with h1 h2
    rw [data_inj h1, datas_inj h2]
theorem lt_some {w : World} {b : Nat} {o : Obj} (h : w.heap[b]? = some o) : b < w.heap.size := by
  rcases Nat.lt_or_ge b w.heap.size with h1 | h1
  · exact h1
  · rw [Array.getElem?_eq_none h1] at h; cases h
set_option maxRecDepth 100000 in
set_option maxHeartbeats 1600000 in
theorem number_any (n : Nat) (w : World) (h1 : 1 ≤ n) (h2 : n ≤ 4194304) (ht : TabOK w) :
    Calls Tryz.prog 106 #[.string (mkB (Lib.itoa (n : Int)))] w fun e w' => e = .returned (.tuple #[.int .i64 n, .bool true]) ∧ Below w.heap.size w w' := by
  obtain ⟨I, hI⟩ : ∃ I, mkB (Lib.itoa (n : Int)) = I := ⟨_, rfl⟩
  have hA : Lib.atoiAll I.data.toList = .ok (n : Int) := by rw [← hI, mkB_list]; exact atoi_itoa (by omega)
  have hsz : I.size ≤ 13 := by rw [← hI, mkB_size]; exact dec_length13 (by omega) (by omega)
  have hI0 := hI
  obtain ⟨nz, hnz⟩ : ∃ z : Int, (n : Int) = z := ⟨_, rfl⟩
  rw [hnz] at hA hI ⊢
  rw [hI]
  have HAt : Hid (Calls Tryz.prog 139 #[.string I] w fun e w' => e = .returned (.tuple #[.int .i64 nz, .nilIface]) ∧ Below w.heap.size w w') := Lib.hid (by
    refine (Tryz.strconv_Atoi_ok I (by omega) nz hA w).mono ?_
    rintro e w' ⟨rfl, hw⟩
    refine ⟨rfl, ?_⟩
    rcases hw with rfl | ⟨t, rfl⟩
    · exact Below.refl _ _
    · exact Lib.bytesWorld_below _ _ _)
  have HIt : Hid (∀ w', Below w.heap.size w w' → Calls Tryz.prog 86 #[.int .i64 nz] w' fun e w'' => e = .returned (.string I) ∧ Below w'.heap.size w' w'') := Lib.hid fun w' hb => by have := itoa_any nz w' (by omega) (by omega) (ht.below hb); rw [hI] at this; exact this
  have q1 : decide (0 < nz) = true := decide_eq_true (by omega)
  have q2 : decide ((I.size : Int) ≤ 18) = true := decide_eq_true (by omega)
  have q3 : (I.toList == I.toList) = true := beq_self_eq_true _
  clear hA hsz hI hI0 hnz ht h1 h2
  go_enter Tryz.func106, Tryz.ntmps106
  go_wp2_with fail
  refine HAt.out.mono ?_
  rintro E w1 ⟨rfl, hb1⟩
  have HB1 := Lib.hid hb1
  have HI := Lib.hid (HIt.out w1 hb1)
  clear hb1 HAt HIt
  go_wp2_with fail
  refine HI.out.mono ?_
  rintro E w2 ⟨rfl, hb2⟩
  have HB2 := Lib.hid (HB1.out.trans (hb2.mono HB1.out.size))
  clear hb2 HI HB1
  go_wp2_with fail
  go_ret2
  exact ⟨by first | rfl | simp, HB2.out⟩
theorem Tryz.sizeMark : (Tryz.prog.info? 139).map (·.size) = some 7 := by kernel_rfl
set_option maxRecDepth 100000 in
set_option maxHeartbeats 6400000 in
theorem read_good (m : GMark) (h : MarkOK m) (w : World) (ht : TabOK w) (hm : ∃ k, MaxOK k w) :
    Calls Tryz.prog 71 #[.string (mkB (markB m))] w fun e w' => e = .returned (.tuple #[.agg #[.string m.kind, .string m.space, .int .i64 m.most, .int .i64 m.rev, .string { data := #[] }, .string m.lspace, .string m.lname], .bool true]) ∧ Below w.heap.size w w' := by
  have hlen := mark_len m h.most.2 h.rev.2
  have hsplit := mark_split h
  have H := Lib.hid h
  have HT := Lib.hid ht
  obtain ⟨I1, hI1⟩ : ∃ I, Hid (mkB (Lib.itoa (m.most : Int)) = I) := ⟨_, Lib.hid rfl⟩
  obtain ⟨I2, hI2⟩ : ∃ I, Hid (mkB (Lib.itoa (m.rev : Int)) = I) := ⟨_, Lib.hid rfl⟩
  obtain ⟨nm, hnm⟩ : ∃ z : Int, Hid ((m.most : Int) = z) := ⟨_, Lib.hid rfl⟩
  obtain ⟨nr, hnr⟩ : ∃ z : Int, Hid ((m.rev : Int) = z) := ⟨_, Lib.hid rfl⟩
  have HN1 : Hid (∀ w', Below w.heap.size w w' → Calls Tryz.prog 106 #[.string I1] w' fun e w'' => e = .returned (.tuple #[.int .i64 nm, .bool true]) ∧ Below w'.heap.size w' w'') := Lib.hid fun w' hb => by have := number_any m.most w' H.out.most.1 (by have := H.out.most.2; omega) (HT.out.below hb); rw [hI1.out, hnm.out] at this; exact this
  have HN2 : Hid (∀ w', Below w.heap.size w w' → Calls Tryz.prog 106 #[.string I2] w' fun e w'' => e = .returned (.tuple #[.int .i64 nr, .bool true]) ∧ Below w'.heap.size w' w'') := Lib.hid fun w' hb => by have := number_any m.rev w' H.out.rev.1 H.out.rev.2 (HT.out.below hb); rw [hI2.out, hnr.out] at this; exact this
  have q50 : decide (50 < nm) = false := decide_eq_false (by rw [← hnm.out]; have := H.out.most.2; omega)
  obtain ⟨T, hT⟩ : ∃ T, mkB (markB m) = T := ⟨_, rfl⟩
  have hTs : T.size ≤ 16777216 := by rw [← hT, mkB_size]; have := H.out.size; omega
  have hTd : T.data.toList = markB m := by rw [← hT, mkB_list]
  rw [hT, hnm.out, hnr.out]
  obtain ⟨W, hW⟩ : ∃ W, W = w.alloc (.cells #[.string { data := #[] }, .string { data := #[] }, .int .i64 0, .int .i64 0, .string { data := #[] }, .string { data := #[] }, .string { data := #[] }] 139) := ⟨_, rfl⟩
  obtain ⟨g, hg⟩ : ∃ g, g = w.heap.size := ⟨_, rfl⟩
  have BG := Lib.hid (show W.heap[g]? = some (.cells #[.string { data := #[] }, .string { data := #[] }, .int .i64 0, .int .i64 0, .string { data := #[] }, .string { data := #[] }, .string { data := #[] }] 139 (0, 0)) by rw [hW, hg]; exact heap_alloc_new w _)
  have hb1 : Below w.heap.size w W := by rw [hW]; exact (Below.refl _ w).alloc (Nat.le_refl _) _
  have HB1 := Lib.hid hb1
  have hwg : w.heap.size ≤ g := by omega
  obtain ⟨mx, hmx⟩ := hm
  have HS := Lib.hid (split_any T 47 mx W hTs (hmx.below hb1))
  have HSp : Hid (∀ L : List ByteArray, L.map (·.data.toList) = splitL 47 T.data.toList → L = [m.kind, m.space, I1, I2, m.lspace, m.lname]) := Lib.hid fun L hL => by
    rw [hTd, hsplit] at hL
    rw [datas_inj hL, ← hI1.out, ← hI2.out]; rfl
  clear h ht hlen hsplit hT hTs hTd hmx hb1
  go_enter Tryz.func71, Tryz.ntmps71
  go_upto_region 1 with fail
  rw [← hW, ← hg]
  clear hW hg
  go_wp2_with fail
  refine HS.out.mono ?_
  rintro E w2 ⟨L, hL, rfl, hbl, hs2, hb2⟩
  obtain rfl := HSp.out L hL
  obtain ⟨gs, hgs⟩ : ∃ gs, W.heap.size = gs := ⟨_, rfl⟩
  rw [hgs] at hbl hs2 ⊢
  have BS : Hid (w2.heap[gs]? = some (.cells #[.string m.kind, .string m.space, .string I1, .string I2, .string m.lspace, .string m.lname] 9 (0, 0))) := Lib.hid hbl
  have hgl : g < gs := by rw [← hgs]; exact lt_some BG.out
  have BG2 := Lib.hid (below_block hb2 BG.out)
  have HB2 := Lib.hid (HB1.out.trans (hb2.mono HB1.out.size))
  have hgs2 : gs < w2.heap.size := by omega
  clear hL hbl hb2 HS HSp HB1 BG hgs hs2
  have cs := fun i => cell_block BS.out i
  go_upto_region 4 with fail
  go_region
  obtain ⟨w4, hw4⟩ : ∃ w4, w4 = (w2.alloc (.cells #[.string m.kind, .string m.space, .string m.lspace, .string m.lname] 9)).drew := ⟨_, rfl⟩
  obtain ⟨gq, hgq⟩ : ∃ x, x = w2.heap.size := ⟨_, rfl⟩
  have hb4 : Below w2.heap.size w2 w4 := by rw [hw4]; exact ((Below.refl _ w2).alloc (Nat.le_refl _) _).drew
  have BQ4 : Hid (w4.heap[gq]? = some (.cells #[.string m.kind, .string m.space, .string m.lspace, .string m.lname] 9 (0, 0))) := Lib.hid (by rw [hw4, hgq]; exact heap_alloc_new w2 _)
  have BS4 := Lib.hid (below_block hb4 BS.out)
  have BG4 := Lib.hid (below_block hb4 BG2.out)
  have HB4 := Lib.hid (HB2.out.trans (hb4.mono HB2.out.size))
  try rw [← hw4]
  try rw [← hgq]
  clear hw4 hgq hb4 BS BG2 HB2 cs
  go_wp2_with fail
  go_loopg [31] 4 (fun k9 u31 wr => ∃ i : Nat, i + k9 = 4 ∧ u31 = .int .i64 (i : Int) ∧ w4 = wr)
  case atStart => exact ⟨0, by omega, rfl, rfl⟩
  case round =>
    obtain ⟨i, hik, rfl, hwr⟩ := hrel
    subst hwr
    have HCk := fun (s : ByteArray) (hs : s.size ≤ 1048576) => Lib.hid (check_any s w4 (by omega))
    cases gk with
    | zero =>
      obtain rfl : i = 4 := by omega
      clear HCk BQ4
      have hgs4 := lt_some BS4.out
      have cs := fun i => cell_block BS4.out i
      have HN1' := Lib.hid (HN1.out w4 HB4.out)
      go_wp2_with fail
      refine HN1'.out.mono ?_
      rintro E w5 ⟨rfl, hb5⟩
      have BS5 := Lib.hid (below_block hb5 BS4.out)
      have BG5 := Lib.hid (below_block hb5 BG4.out)
      have HB5 := Lib.hid (HB4.out.trans (hb5.mono HB4.out.size))
      clear hb5 HN1 HN1' BS4 BG4 HB4 cs hgs4
      have cs := fun i => cell_block BS5.out i
      have HN2' := Lib.hid (HN2.out w5 HB5.out)
      go_wp2_with fail
      refine HN2'.out.mono ?_
      rintro E w6 ⟨rfl, hb6⟩
      have BS6 := Lib.hid (below_block hb6 BS5.out)
      have BG6 := Lib.hid (below_block hb6 BG5.out)
      have HB6 := Lib.hid (HB5.out.trans (hb6.mono HB5.out.size))
      clear hb6 HN2 HN2' BS5 BG5 HB5 cs
      have hgs6 := lt_some BS6.out
      have cs := fun i => cell_block BS6.out i
      go_upto_region 14 with fail
      refine wp_region_hold 16 (fun w' => Below w6.heap.size w6 w') (by kernel_rfl) (by kernel_rfl) ?_ ?_
      · exact (Below.refl _ w6).drew
      simp only [List.take_succ_cons, List.take_zero, List.drop_succ_cons, List.drop_zero]
      (first | (refine wpHold_pure (v := ?_) (by rfl) (fun w => ?_) ?_; rotate_left; focus (first | (go_simp; done) | (go_simp; with_reducible rfl))) | (refine wpHold_skip ?_ ?_; focus (go_simp; done)) | (refine wpHold_pure' (v := ?_) ?_ (fun w => ?_) ?_; rotate_left; focus (go_simp; done); focus (first | (go_simp; done) | (go_simp; with_reducible rfl)))); try simp only [Act.put, List.setIfInBounds_toArray, List.set_cons_zero, List.set_cons_succ]
      (first | (refine wpHold_pure (v := ?_) (by rfl) (fun w => ?_) ?_; rotate_left; focus (first | (go_simp; done) | (go_simp; with_reducible rfl))) | (refine wpHold_skip ?_ ?_; focus (go_simp; done)) | (refine wpHold_pure' (v := ?_) ?_ (fun w => ?_) ?_; rotate_left; focus (go_simp; done); focus (first | (go_simp; done) | (go_simp; with_reducible rfl)))); try simp only [Act.put, List.setIfInBounds_toArray, List.set_cons_zero, List.set_cons_succ]
      refine wpHold_read (v := .string m.kind) (by rfl) (fun w' hI => ?_) ?_
      · have dd := fun i => (hI.cell (p := ⟨gs, i, none⟩) hgs6).trans (cs i)
        go_simp
        done
      try simp only [Act.put, List.setIfInBounds_toArray, List.set_cons_zero, List.set_cons_succ]
      (first | (refine wpHold_pure (v := ?_) (by rfl) (fun w => ?_) ?_; rotate_left; focus (first | (go_simp; done) | (go_simp; with_reducible rfl))) | (refine wpHold_skip ?_ ?_; focus (go_simp; done)) | (refine wpHold_pure' (v := ?_) ?_ (fun w => ?_) ?_; rotate_left; focus (go_simp; done); focus (first | (go_simp; done) | (go_simp; with_reducible rfl)))); try simp only [Act.put, List.setIfInBounds_toArray, List.set_cons_zero, List.set_cons_succ]
      (first | (refine wpHold_pure (v := ?_) (by rfl) (fun w => ?_) ?_; rotate_left; focus (first | (go_simp; done) | (go_simp; with_reducible rfl))) | (refine wpHold_skip ?_ ?_; focus (go_simp; done)) | (refine wpHold_pure' (v := ?_) ?_ (fun w => ?_) ?_; rotate_left; focus (go_simp; done); focus (first | (go_simp; done) | (go_simp; with_reducible rfl)))); try simp only [Act.put, List.setIfInBounds_toArray, List.set_cons_zero, List.set_cons_succ]
      refine wpHold_read (v := .string m.space) (by rfl) (fun w' hI => ?_) ?_
      · have dd := fun i => (hI.cell (p := ⟨gs, i, none⟩) hgs6).trans (cs i)
        go_simp
        done
      try simp only [Act.put, List.setIfInBounds_toArray, List.set_cons_zero, List.set_cons_succ]
      (first | (refine wpHold_pure (v := ?_) (by rfl) (fun w => ?_) ?_; rotate_left; focus (first | (go_simp; done) | (go_simp; with_reducible rfl))) | (refine wpHold_skip ?_ ?_; focus (go_simp; done)) | (refine wpHold_pure' (v := ?_) ?_ (fun w => ?_) ?_; rotate_left; focus (go_simp; done); focus (first | (go_simp; done) | (go_simp; with_reducible rfl)))); try simp only [Act.put, List.setIfInBounds_toArray, List.set_cons_zero, List.set_cons_succ]
      (first | (refine wpHold_pure (v := ?_) (by rfl) (fun w => ?_) ?_; rotate_left; focus (first | (go_simp; done) | (go_simp; with_reducible rfl))) | (refine wpHold_skip ?_ ?_; focus (go_simp; done)) | (refine wpHold_pure' (v := ?_) ?_ (fun w => ?_) ?_; rotate_left; focus (go_simp; done); focus (first | (go_simp; done) | (go_simp; with_reducible rfl)))); try simp only [Act.put, List.setIfInBounds_toArray, List.set_cons_zero, List.set_cons_succ]
      (first | (refine wpHold_pure (v := ?_) (by rfl) (fun w => ?_) ?_; rotate_left; focus (first | (go_simp; done) | (go_simp; with_reducible rfl))) | (refine wpHold_skip ?_ ?_; focus (go_simp; done)) | (refine wpHold_pure' (v := ?_) ?_ (fun w => ?_) ?_; rotate_left; focus (go_simp; done); focus (first | (go_simp; done) | (go_simp; with_reducible rfl)))); try simp only [Act.put, List.setIfInBounds_toArray, List.set_cons_zero, List.set_cons_succ]
      (first | (refine wpHold_pure (v := ?_) (by rfl) (fun w => ?_) ?_; rotate_left; focus (first | (go_simp; done) | (go_simp; with_reducible rfl))) | (refine wpHold_skip ?_ ?_; focus (go_simp; done)) | (refine wpHold_pure' (v := ?_) ?_ (fun w => ?_) ?_; rotate_left; focus (go_simp; done); focus (first | (go_simp; done) | (go_simp; with_reducible rfl)))); try simp only [Act.put, List.setIfInBounds_toArray, List.set_cons_zero, List.set_cons_succ]
      refine wpHold_read (v := .string m.lspace) (by rfl) (fun w' hI => ?_) ?_
      · have dd := fun i => (hI.cell (p := ⟨gs, i, none⟩) hgs6).trans (cs i)
        go_simp
        done
      try simp only [Act.put, List.setIfInBounds_toArray, List.set_cons_zero, List.set_cons_succ]
      (first | (refine wpHold_pure (v := ?_) (by rfl) (fun w => ?_) ?_; rotate_left; focus (first | (go_simp; done) | (go_simp; with_reducible rfl))) | (refine wpHold_skip ?_ ?_; focus (go_simp; done)) | (refine wpHold_pure' (v := ?_) ?_ (fun w => ?_) ?_; rotate_left; focus (go_simp; done); focus (first | (go_simp; done) | (go_simp; with_reducible rfl)))); try simp only [Act.put, List.setIfInBounds_toArray, List.set_cons_zero, List.set_cons_succ]
      (first | (refine wpHold_pure (v := ?_) (by rfl) (fun w => ?_) ?_; rotate_left; focus (first | (go_simp; done) | (go_simp; with_reducible rfl))) | (refine wpHold_skip ?_ ?_; focus (go_simp; done)) | (refine wpHold_pure' (v := ?_) ?_ (fun w => ?_) ?_; rotate_left; focus (go_simp; done); focus (first | (go_simp; done) | (go_simp; with_reducible rfl)))); try simp only [Act.put, List.setIfInBounds_toArray, List.set_cons_zero, List.set_cons_succ]
      refine wpHold_read (v := .string m.lname) (by rfl) (fun w' hI => ?_) ?_
      · have dd := fun i => (hI.cell (p := ⟨gs, i, none⟩) hgs6).trans (cs i)
        go_simp
        done
      try simp only [Act.put, List.setIfInBounds_toArray, List.set_cons_zero, List.set_cons_succ]
      (first | (refine wpHold_pure (v := ?_) (by rfl) (fun w => ?_) ?_; rotate_left; focus (first | (go_simp; done) | (go_simp; with_reducible rfl))) | (refine wpHold_skip ?_ ?_; focus (go_simp; done)) | (refine wpHold_pure' (v := ?_) ?_ (fun w => ?_) ?_; rotate_left; focus (go_simp; done); focus (first | (go_simp; done) | (go_simp; with_reducible rfl)))); try simp only [Act.put, List.setIfInBounds_toArray, List.set_cons_zero, List.set_cons_succ]
      (first | (refine wpHold_pure (v := ?_) (by rfl) (fun w => ?_) ?_; rotate_left; focus (first | (go_simp; done) | (go_simp; with_reducible rfl))) | (refine wpHold_skip ?_ ?_; focus (go_simp; done)) | (refine wpHold_pure' (v := ?_) ?_ (fun w => ?_) ?_; rotate_left; focus (go_simp; done); focus (first | (go_simp; done) | (go_simp; with_reducible rfl)))); try simp only [Act.put, List.setIfInBounds_toArray, List.set_cons_zero, List.set_cons_succ]
      refine wpHold_nil ?_
      intro w7 hI
      have BG7 := Lib.hid (below_block hI BG6.out)
      have HB7 := Lib.hid (HB6.out.trans (hI.mono HB6.out.size))
      clear hI BS6 BG6 HB6 cs
      go_wp2_with (refine wpList_store_box (by rfl) _ _ _ (by rfl) g #[.string m.kind, .string m.space, .int .i64 nm, .int .i64 nr, .string { data := #[] }, .string m.lspace, .string m.lname] (by rfl) (by rfl) _ _ (by exact BG7.out) (by exact Tryz.sizeMark) (by rfl) (by simp [Value.oneCell']) ?_)
      intro WF bF tF
      have HF := Lib.hid (tF.below HB7.out hwg)
      go_wp2_with fail
      refine bodyPost_ret (v := .tuple #[.agg #[.string m.kind, .string m.space, .int .i64 nm, .int .i64 nr, .string { data := #[] }, .string m.lspace, .string m.lname], .bool true]) ?_ rfl ?_
      · exact results_two_box Tryz.results71 _ _ g _ _ _ _ (by rfl) bF Tryz.underlying139 rfl (by exact Tryz.sizeMark)
      · exact ⟨rfl, HF.out⟩
    | succ k9 =>
      have hil : i < 4 := by omega
      have cq := fun i => cell_block BQ4.out i
      rcases (by omega : i = 0 ∨ i = 1 ∨ i = 2 ∨ i = 3) with h9 | h9 | h9 | h9
      · obtain rfl := h9
        have hc := H.out.kind
        have HC := Lib.hid (by have h9 := (HCk m.kind (by have := H.out.size; omega)).out; rw [hc] at h9; exact h9)
        have hne : m.kind.toList.isEmpty = false := by
          rw [Lib.toList_data]
          cases hx : m.kind.data.toList with
          | nil => exact absurd hx (check_free hc).2
          | cons a b => rfl
        clear hc HCk
        go_wp2_with fail
        refine HC.out.mono ?_
        rintro E w5 ⟨rfl, hw5⟩
        subst hw5
        clear HC
        go_wp2_with fail
        go_roundg k9
        case measure => omega
        case rel => exact ⟨0+1, by omega, by go_num, rfl⟩
      · obtain rfl := h9
        rcases H.out.space with he | hc
        · have hne : m.space.toList.isEmpty = true := by rw [he, Lib.toList_data]; rfl
          clear he HCk
          go_wp2_with fail
          go_roundg k9
          case measure => omega
          case rel => exact ⟨1+1, by omega, by go_num, rfl⟩
        · have HC := Lib.hid (by have h9 := (HCk m.space (by have := H.out.size; omega)).out; rw [hc] at h9; exact h9)
          have hne : m.space.toList.isEmpty = false := by
            rw [Lib.toList_data]
            cases hx : m.space.data.toList with
            | nil => exact absurd hx (check_free hc).2
            | cons a b => rfl
          clear hc HCk
          go_wp2_with fail
          refine HC.out.mono ?_
          rintro E w5 ⟨rfl, hw5⟩
          subst hw5
          clear HC
          go_wp2_with fail
          go_roundg k9
          case measure => omega
          case rel => exact ⟨1+1, by omega, by go_num, rfl⟩
      · obtain rfl := h9
        rcases H.out.lspace with he | hc
        · have hne : m.lspace.toList.isEmpty = true := by rw [he, Lib.toList_data]; rfl
          clear he HCk
          go_wp2_with fail
          go_roundg k9
          case measure => omega
          case rel => exact ⟨2+1, by omega, by go_num, rfl⟩
        · have HC := Lib.hid (by have h9 := (HCk m.lspace (by have := H.out.size; omega)).out; rw [hc] at h9; exact h9)
          have hne : m.lspace.toList.isEmpty = false := by
            rw [Lib.toList_data]
            cases hx : m.lspace.data.toList with
            | nil => exact absurd hx (check_free hc).2
            | cons a b => rfl
          clear hc HCk
          go_wp2_with fail
          refine HC.out.mono ?_
          rintro E w5 ⟨rfl, hw5⟩
          subst hw5
          clear HC
          go_wp2_with fail
          go_roundg k9
          case measure => omega
          case rel => exact ⟨2+1, by omega, by go_num, rfl⟩
      · obtain rfl := h9
        have hc := H.out.lname
        have HC := Lib.hid (by have h9 := (HCk m.lname (by have := H.out.size; omega)).out; rw [hc] at h9; exact h9)
        have hne : m.lname.toList.isEmpty = false := by
          rw [Lib.toList_data]
          cases hx : m.lname.data.toList with
          | nil => exact absurd hx (check_free hc).2
          | cons a b => rfl
        clear hc HCk
        go_wp2_with fail
        refine HC.out.mono ?_
        rintro E w5 ⟨rfl, hw5⟩
        subst hw5
        clear HC
        go_wp2_with fail
        go_roundg k9
        case measure => omega
        case rel => exact ⟨3+1, by omega, by go_num, rfl⟩
end Pag
end Go.Proofs.YtnnceaapodgfbaaGreatDoor
namespace Go.Proofs.YtnnceaapodgfbaaGreatDoor
namespace Sto
open Go.RowKit Pag
open JP (Bs)
def doneB (ls ln : ByteArray) (o : GObject) : Bool := decide (orI (cmpB o.okey.space ls) (cmpB o.okey.name ln) ≤ 0)
set_option maxRecDepth 100000 in
set_option maxHeartbeats 1600000 in
theorem next1_any (x : GObject) (a7 : Option Addr) (n7 c7 : Nat) (a8 : Option Addr) (n8 c8 : Nat) (a9 : Option Addr) (n9 c9 : Nat) (gm : Nat) (mk ms lk ls ln : ByteArray) (mi ri : Int) (w : World) (hm : w.heap[gm]? = some (.cells #[.string mk, .string ms, .int .i64 mi, .int .i64 ri, .string lk, .string ls, .string ln] 139 (0, 0))) :
    Calls Tryz.prog 73 #[.agg #[.string x.okey.kind, .string x.okey.space, .string x.okey.name, .slice a7 n7 c7, .slice a8 n8 c8, .slice a9 n9 c9, .bool x.ending, .string x.uid, .int .i64 x.rev, .string x.doc], .pointer (some ⟨gm, 0, none⟩)] w fun e w' => e = .returned (.bool (doneB ls ln x)) ∧ Below w.heap.size w w' := by
  have HC := fun a b w => Lib.hid (cmpS_any a b w)
  obtain ⟨W, hW⟩ : ∃ W, W = w.alloc (.cells #[.string x.okey.kind, .string x.okey.space, .string x.okey.name, .slice a7 n7 c7, .slice a8 n8 c8, .slice a9 n9 c9, .bool x.ending, .string x.uid, .int .i64 x.rev, .string x.doc] 30) := ⟨_, rfl⟩
  obtain ⟨g, hg⟩ : ∃ g, g = w.heap.size := ⟨_, rfl⟩
  have BX := Lib.hid (show W.heap[g]? = some (.cells #[.string x.okey.kind, .string x.okey.space, .string x.okey.name, .slice a7 n7 c7, .slice a8 n8 c8, .slice a9 n9 c9, .bool x.ending, .string x.uid, .int .i64 x.rev, .string x.doc] 30 (0, 0)) by rw [hW, hg]; exact heap_alloc_new w _)
  have hb1 : Below w.heap.size w W := by rw [hW]; exact (Below.refl _ w).alloc (Nat.le_refl _) _
  have BM := Lib.hid (below_block hb1 hm)
  have HB1 := Lib.hid hb1
  have hgl : g < W.heap.size := by rw [hg, hW, World.size_alloc]; omega
  have hml := lt_of_some BM.out
  obtain ⟨r1, Hr1⟩ : ∃ r, Hid (cmpB x.okey.space ls = r) := ⟨_, Lib.hid rfl⟩
  obtain ⟨r2, Hr2⟩ : ∃ r, Hid (cmpB x.okey.name ln = r) := ⟨_, Lib.hid rfl⟩
  obtain ⟨r3, Hr3⟩ : ∃ r, Hid (orI r1 r2 = r) := ⟨_, Lib.hid rfl⟩
  have Hd : Hid (doneB ls ln x = decide (r3 ≤ 0)) := Lib.hid (by unfold doneB; rw [Hr1.out, Hr2.out, Hr3.out])
  have H1 := fun w => Lib.hid (by have h9 := (HC x.okey.space ls w).out; rw [Hr1.out] at h9; exact h9)
  have H2 := fun w => Lib.hid (by have h9 := (HC x.okey.name ln w).out; rw [Hr2.out] at h9; exact h9)
  clear hb1 hm HC
  go_enter Tryz.func73, Tryz.ntmps73
  go_upto_region 1 with fail
  rw [← hW]
  rw [← hg]
  clear hW hg
  refine wp_region_hold 14 (fun w' => Below W.heap.size W w') (by kernel_rfl) (by kernel_rfl) ?_ ?_
  · exact (Below.refl _ W).drew
  simp only [List.take_succ_cons, List.take_zero, List.drop_succ_cons, List.drop_zero]
  (first | (refine wpHold_pure (v := ?_) (by rfl) (fun w => ?_) ?_; rotate_left; focus (first | (go_simp; done) | (go_simp; with_reducible rfl))) | (refine wpHold_skip ?_ ?_; focus (go_simp; done)) | (refine wpHold_pure' (v := ?_) ?_ (fun w => ?_) ?_; rotate_left; focus (go_simp; done); focus (first | (go_simp; done) | (go_simp; with_reducible rfl)))); try simp only [Act.put, List.setIfInBounds_toArray, List.set_cons_zero, List.set_cons_succ]
  (first | (refine wpHold_pure (v := ?_) (by rfl) (fun w => ?_) ?_; rotate_left; focus (first | (go_simp; done) | (go_simp; with_reducible rfl))) | (refine wpHold_skip ?_ ?_; focus (go_simp; done)) | (refine wpHold_pure' (v := ?_) ?_ (fun w => ?_) ?_; rotate_left; focus (go_simp; done); focus (first | (go_simp; done) | (go_simp; with_reducible rfl)))); try simp only [Act.put, List.setIfInBounds_toArray, List.set_cons_zero, List.set_cons_succ]
  refine wpHold_read (v := .string x.okey.space) (by rfl) (fun w' hI => ?_) ?_
  · have dd := (hI.cell (p := ⟨g, 1, none⟩) hgl).trans (cell_block BX.out 1)
    go_simp
    done
  try simp only [Act.put, List.setIfInBounds_toArray, List.set_cons_zero, List.set_cons_succ]
  (first | (refine wpHold_pure (v := ?_) (by rfl) (fun w => ?_) ?_; rotate_left; focus (first | (go_simp; done) | (go_simp; with_reducible rfl))) | (refine wpHold_skip ?_ ?_; focus (go_simp; done)) | (refine wpHold_pure' (v := ?_) ?_ (fun w => ?_) ?_; rotate_left; focus (go_simp; done); focus (first | (go_simp; done) | (go_simp; with_reducible rfl)))); try simp only [Act.put, List.setIfInBounds_toArray, List.set_cons_zero, List.set_cons_succ]
  (first | (refine wpHold_pure (v := ?_) (by rfl) (fun w => ?_) ?_; rotate_left; focus (first | (go_simp; done) | (go_simp; with_reducible rfl))) | (refine wpHold_skip ?_ ?_; focus (go_simp; done)) | (refine wpHold_pure' (v := ?_) ?_ (fun w => ?_) ?_; rotate_left; focus (go_simp; done); focus (first | (go_simp; done) | (go_simp; with_reducible rfl)))); try simp only [Act.put, List.setIfInBounds_toArray, List.set_cons_zero, List.set_cons_succ]
  refine wpHold_read (v := .string ls) (by rfl) (fun w' hI => ?_) ?_
  · have dd := (hI.cell (p := ⟨gm, 5, none⟩) hml).trans (cell_block BM.out 5)
    go_simp
    done
  try simp only [Act.put, List.setIfInBounds_toArray, List.set_cons_zero, List.set_cons_succ]
  refine wpHold_call (v := .int .i64 r1) (f := 75) (args := #[.string x.okey.space, .string ls]) (by rfl) (fun w' => ?_) (fun w' hI => ?_) ?_
  · go_simp
    done
  · exact (H1 w').out.mono fun e w'' ⟨h1, h2⟩ => ⟨h1, h2 ▸ hI⟩
  try simp only [Act.put, List.setIfInBounds_toArray, List.set_cons_zero, List.set_cons_succ]
  (first | (refine wpHold_pure (v := ?_) (by rfl) (fun w => ?_) ?_; rotate_left; focus (first | (go_simp; done) | (go_simp; with_reducible rfl))) | (refine wpHold_skip ?_ ?_; focus (go_simp; done)) | (refine wpHold_pure' (v := ?_) ?_ (fun w => ?_) ?_; rotate_left; focus (go_simp; done); focus (first | (go_simp; done) | (go_simp; with_reducible rfl)))); try simp only [Act.put, List.setIfInBounds_toArray, List.set_cons_zero, List.set_cons_succ]
  (first | (refine wpHold_pure (v := ?_) (by rfl) (fun w => ?_) ?_; rotate_left; focus (first | (go_simp; done) | (go_simp; with_reducible rfl))) | (refine wpHold_skip ?_ ?_; focus (go_simp; done)) | (refine wpHold_pure' (v := ?_) ?_ (fun w => ?_) ?_; rotate_left; focus (go_simp; done); focus (first | (go_simp; done) | (go_simp; with_reducible rfl)))); try simp only [Act.put, List.setIfInBounds_toArray, List.set_cons_zero, List.set_cons_succ]
  refine wpHold_read (v := .string x.okey.name) (by rfl) (fun w' hI => ?_) ?_
  · have dd := (hI.cell (p := ⟨g, 2, none⟩) hgl).trans (cell_block BX.out 2)
    go_simp
    done
  try simp only [Act.put, List.setIfInBounds_toArray, List.set_cons_zero, List.set_cons_succ]
  (first | (refine wpHold_pure (v := ?_) (by rfl) (fun w => ?_) ?_; rotate_left; focus (first | (go_simp; done) | (go_simp; with_reducible rfl))) | (refine wpHold_skip ?_ ?_; focus (go_simp; done)) | (refine wpHold_pure' (v := ?_) ?_ (fun w => ?_) ?_; rotate_left; focus (go_simp; done); focus (first | (go_simp; done) | (go_simp; with_reducible rfl)))); try simp only [Act.put, List.setIfInBounds_toArray, List.set_cons_zero, List.set_cons_succ]
  (first | (refine wpHold_pure (v := ?_) (by rfl) (fun w => ?_) ?_; rotate_left; focus (first | (go_simp; done) | (go_simp; with_reducible rfl))) | (refine wpHold_skip ?_ ?_; focus (go_simp; done)) | (refine wpHold_pure' (v := ?_) ?_ (fun w => ?_) ?_; rotate_left; focus (go_simp; done); focus (first | (go_simp; done) | (go_simp; with_reducible rfl)))); try simp only [Act.put, List.setIfInBounds_toArray, List.set_cons_zero, List.set_cons_succ]
  refine wpHold_read (v := .string ln) (by rfl) (fun w' hI => ?_) ?_
  · have dd := (hI.cell (p := ⟨gm, 6, none⟩) hml).trans (cell_block BM.out 6)
    go_simp
    done
  try simp only [Act.put, List.setIfInBounds_toArray, List.set_cons_zero, List.set_cons_succ]
  refine wpHold_call (v := .int .i64 r2) (f := 75) (args := #[.string x.okey.name, .string ln]) (by rfl) (fun w' => ?_) (fun w' hI => ?_) ?_
  · go_simp
    done
  · exact (H2 w').out.mono fun e w'' ⟨h1, h2⟩ => ⟨h1, h2 ▸ hI⟩
  try simp only [Act.put, List.setIfInBounds_toArray, List.set_cons_zero, List.set_cons_succ]
  refine wpHold_nil ?_
  intro w3 hI
  have HB3 := Lib.hid (HB1.out.trans (hI.mono HB1.out.size))
  have hb4 := Lib.hid ((Below.refl w3.heap.size w3).alloc (Nat.le_refl _) (.cells #[.int .i64 r1, .int .i64 r2] 3))
  have HO := Lib.hid (or_any w3.heap.size r1 r2 _ 3 (heap_alloc_new w3 _))
  rw [Hr3.out] at HO
  have HB4 := Lib.hid (HB3.out.trans (hb4.out.mono HB3.out.size))
  clear hI H1 H2 BX BM HB3 hb4
  go_wp2_with fail
  refine HO.out.mono ?_
  rintro E w5 ⟨rfl, hw5⟩
  subst hw5
  go_wp2_with fail
  go_ret
  exact ⟨by rw [Hd.out] <;> rfl, HB4.out⟩
set_option maxRecDepth 100000 in
set_option maxHeartbeats 6400000 in
theorem first_any {D : Dom} {w : World} {g : Nat} {S : St} (h : StoreAt D w g S) (hS : OkSt S) (kind space : ByteArray) (hk : kind.size ≤ 1048576) (hs : space.size ≤ 1048576) (most : Nat) (h1 : 1 ≤ most) (h2 : most ≤ 50) (ht : TabOK w) :
    Calls Tryz.prog 31 #[.pointer (some ⟨g, 0, none⟩), .string kind, .string space, .int .i64 most] w fun e w' => Below w.heap.size w w' ∧ ∃ E v' L rv mb, ListTold S kind space 0 L ∧ e = .returned (.tuple #[.agg #[v', .int .i64 (rv : Nat), .string (mkB mb)], .int .i64 (listE S kind space 0)]) ∧ OwnX ObjX 10 E w' 30 v' (L.take most) ∧ (∀ b, E b → w.heap.size ≤ b ∧ b < w'.heap.size) ∧
      (listE S kind space 0 = 0 → rv = S.rev ∧ mb = moreB kind space most S.rev L) := by
  obtain ⟨le, Hle⟩ : ∃ x, Hid (listE S kind space 0 = x) := ⟨_, Lib.hid rfl⟩
  obtain ⟨W, hW⟩ : ∃ W, W = w.alloc (.cells #[.slice none 0 0, .int .i64 0, .string { data := #[] }] 73) := ⟨_, rfl⟩
  obtain ⟨gr, hgr⟩ : ∃ g, g = w.heap.size := ⟨_, rfl⟩
  have BR := Lib.hid (show W.heap[gr]? = some (.cells #[.slice none 0 0, .int .i64 0, .string { data := #[] }] 73 (0, 0)) by rw [hW, hgr]; exact heap_alloc_new w _)
  have hb1 : Below w.heap.size w W := by rw [hW]; exact (Below.refl _ w).alloc (Nat.le_refl _) _
  have HA := Lib.hid (h.belowW hb1)
  have HB1 := Lib.hid hb1
  have hrl : gr < W.heap.size := by rw [hgr, hW, World.size_alloc]; omega
  have hwr : w.heap.size ≤ gr := by omega
  have HT := Lib.hid (ht.below hb1)
  have HS := Lib.hid hS
  obtain ⟨mi, Hmi⟩ : ∃ z : Int, Hid ((most : Int) = z) := ⟨_, Lib.hid rfl⟩
  have q1 : decide (mi < 1) = false := decide_eq_false (by rw [← Hmi.out]; omega)
  have q2 : decide (50 < mi) = false := decide_eq_false (by rw [← Hmi.out]; omega)
  have HX := Lib.hid (list_any HA.out HS.out kind space hk hs 0)
  rw [Hle.out] at HX ⊢
  rw [Hmi.out]
  have Hkz : Hid (kind.size ≤ 1048576 ∧ space.size ≤ 1048576 ∧ 1 ≤ most ∧ most ≤ 50) := Lib.hid ⟨hk, hs, h1, h2⟩
  clear h hS ht hb1 hk hs h1 h2
  go_enter Tryz.func31, Tryz.ntmps31
  go_upto_region 1 with fail
  rw [← hW]
  rw [← hgr]
  clear hW hgr
  go_wp2_with fail
  refine HX.out.mono ?_
  rintro E9 w2 ⟨hb2, E2, v, L, rfl, hT, k2, k3⟩
  have HTo := Lib.hid hT
  have HR2 := Lib.hid k2
  have HE2 : Hid (∀ b, E2 b → w.heap.size ≤ b ∧ b < w2.heap.size) := Lib.hid fun b hb => ⟨by have := (k3 b hb).1; omega, (k3 b hb).2⟩
  have HE2r : Hid (∀ b, E2 b → b ≠ gr) := Lib.hid fun b hb e => by have := (k3 b hb).1; omega
  have BR2 := Lib.hid (below_block hb2 BR.out)
  have HB2 := Lib.hid (HB1.out.trans (hb2.mono HB1.out.size))
  have HA2 := Lib.hid (HA.out.belowW hb2)
  have HT2 := Lib.hid (HT.out.below hb2)
  clear hT k2 k3 hb2 HX BR HB1 HA HT hrl
  obtain ⟨aL, cL, rfl, -, -⟩ := HR2.out.own.row.len
  obtain ⟨nL, HnL⟩ : ∃ n, Hid (L.length = n) := ⟨_, Lib.hid rfl⟩
  rw [HnL.out] at HR2 ⊢
  by_cases hle : le = 0
  · have q3 : (le != 0) = false := by rw [hle]; rfl
    have HRv := Lib.hid (rev_any HA2.out)
    obtain ⟨rv, Hrv⟩ : ∃ rv, Hid (S.rev = rv) := ⟨_, Lib.hid rfl⟩
    rw [Hrv.out] at HRv
    have HP := Lib.hid (page_any HR2.out (fun b hb => (HE2.out b hb).2) (by rw [HnL.out, ← HnL.out]; exact list_short HS.out HTo.out) (okObj_list HS.out HTo.out) kind space ⟨#[]⟩ ⟨#[]⟩ ⟨#[]⟩ most rv Hkz.out.2.2.1 Hkz.out.2.2.2 (by rw [← Hrv.out]; exact HS.out.rev) ⟨Hkz.out.1, Hkz.out.2.1⟩ HT2.out)
    rw [Hmi.out] at HP
    go_wp2_with fail
    refine HRv.out.mono ?_
    rintro E9 w9 ⟨rfl, hw9⟩
    subst hw9
    clear HRv
    go_wp2_with fail
    refine HP.out.mono ?_
    rintro E9 w3 ⟨hb3, E3, v', rfl, hv', hE3⟩
    have BR3 := Lib.hid (below_block hb3 BR2.out)
    have HB3 := Lib.hid (HB2.out.trans (hb3.mono HB2.out.size))
    obtain ⟨a3, c3, rfl, -, -⟩ := hv'.own.row.len
    obtain ⟨n3, Hn3⟩ : ∃ n, Hid ((L.take most).length = n) := ⟨_, Lib.hid rfl⟩
    rw [Hn3.out] at hv' ⊢
    have HV := Lib.hid hv'
    have HE3 : Hid (∀ b, E3 b → w.heap.size ≤ b ∧ b < w3.heap.size ∧ b ≠ gr) := Lib.hid fun b hb => by
      have := HB2.out.size
      have := hb3.size
      rcases hE3 b hb with h9 | h9
      · have := HE2.out b h9; have := HE2r.out b h9; omega
      · have := lt_of_some BR2.out; omega
    obtain ⟨mb, Hmb⟩ : ∃ mb, Hid (moreB kind space most rv L = mb) := ⟨_, Lib.hid rfl⟩
    rw [Hmb.out]
    clear hb3 hv' hE3 HP BR2 HB2
    simp only []
    go_at_K
    refine at_last (by assumption) ?_
    refine wpList_store_box (by rfl) _ _ _ (by rfl) gr #[.slice a3 n3 c3, .int .i64 rv, .string (mkB mb)] (by rfl) (by rfl) _ _ (by exact BR3.out) (by exact Tryz.sizePage) (by rfl) (by simp [Value.oneCell']) ?_
    intro WF bF tF
    have HF := Lib.hid (tF.below HB3.out hwr)
    have hsF := tF.size
    have HVF := Lib.hid (HV.out.agree famObj fun b hb => tF.other b (HE3.out b hb).2.2)
    go_wp2_with fail
    refine bodyPost_ret (v := .tuple #[.agg #[.slice a3 n3 c3, .int .i64 rv, .string (mkB mb)], .int .i64 0]) ?_ rfl ?_
    · exact results_two_box Tryz.results31 _ _ gr _ _ _ _ (by rfl) bF Tryz.underlying73 rfl (by exact Tryz.sizePage)
    · exact ⟨HF.out, E3, _, L, rv, mb, HTo.out, by rw [hle], HVF.out, fun b hb => ⟨(HE3.out b hb).1, by have := (HE3.out b hb).2.1; omega⟩, fun _ => ⟨Hrv.out.symm, by rw [Hrv.out, ← Hmb.out]⟩⟩
  · have q3 : (le != 0) = true := bne_iff_ne.2 hle
    have Hle0 := Lib.hid hle
    have HL0 : Hid (L = []) := Lib.hid (HTo.out.1 (by rw [Hle.out]; exact hle))
    clear hle
    go_wp2_with (refine wpList_store_box (by rfl) _ _ _ (by rfl) gr #[.slice none 0 0, .int .i64 0, .string { data := #[] }] (by rfl) (by rfl) _ _ (by exact BR2.out) (by exact Tryz.sizePage) (by rfl) (by simp [Value.oneCell']) ?_)
    intro WF bF tF
    have HF := Lib.hid (tF.below HB2.out hwr)
    go_wp2_with fail
    refine bodyPost_ret (v := .tuple #[.agg #[.slice none 0 0, .int .i64 0, .string { data := #[] }], .int .i64 le]) ?_ rfl ?_
    · exact results_two_box Tryz.results31 _ _ gr _ _ _ _ (by rfl) bF Tryz.underlying73 rfl (by exact Tryz.sizePage)
    · exact ⟨HF.out, fun _ => False, .slice none 0 0, L, 0, [], HTo.out, rfl, by rw [HL0.out, List.take_nil]; exact OwnX.nil, fun b hb => hb.elim, fun h0 => absurd h0 Hle0.out⟩
theorem OwnAt.raise {α : Type} {R : Rd α} {k B : Nat} {w : World} {e : TypeId} {v : Value} {l : List α} (h : OwnAt R k w 0 e v l) (hb : ∀ b, v.ownBlock = some b → B ≤ b) : OwnAt R k w B e v l := by
  obtain ⟨css, h1, h2, h3, h4⟩ := h
  refine ⟨css, h1, h2, ⟨h3.1, ?_⟩, h4⟩
  rcases h3.2 with h5 | ⟨q, cap, cur, rfl, hB, hh, hr⟩
  · exact .inl h5
  · exact .inr ⟨q, cap, cur, rfl, hb q rfl, hh, hr⟩
theorem ObjIn.butV {E : Dom} {w : World} {v v1 v2 v3 : Value} {x : GObject} (h : ObjIn E w v1 v2 v3 x) (hv : ∀ q, v.ownBlock = some q → ∃ cur, w.heap[q]? = some (.cells cur 30 (0, 0))) : ObjIn (fun b => E b ∧ v.ownBlock ≠ some b) w v1 v2 v3 x := by
  refine ⟨⟨h.labels.1, fun b hb => ⟨h.labels.2 b hb, fun e => ?_⟩⟩, ⟨h.owners.1, fun b hb => ⟨h.owners.2 b hb, fun e => ?_⟩⟩, ⟨h.holds.1, fun b hb => ⟨h.holds.2 b hb, fun e => ?_⟩⟩⟩
  · obtain ⟨cur, hc⟩ := hv b e
    obtain ⟨_, _, c9, h9⟩ := h.labels.1.at hb
    rw [hc] at h9; injection h9 with h9; injection h9 with _ h9; exact absurd h9 (by decide)
  · obtain ⟨cur, hc⟩ := hv b e
    obtain ⟨_, _, c9, h9⟩ := h.owners.1.at hb
    rw [hc] at h9; injection h9 with h9; injection h9 with _ h9; exact absurd h9 (by decide)
  · obtain ⟨cur, hc⟩ := hv b e
    obtain ⟨_, _, c9, h9⟩ := h.holds.1.at hb
    rw [hc] at h9; injection h9 with h9; injection h9 with _ h9; exact absurd h9 (by decide)
theorem row_but {E : Dom} {w : World} {v : Value} {L : List GObject} (h : OwnX ObjX 10 E w 30 v L) : OwnAt (ObjX (fun b => E b ∧ v.ownBlock ≠ some b) w) 10 w 0 30 v L :=
  h.1.imp' fun _ _ _ hx => let ⟨v1, v2, v3, e, hi⟩ := hx
    ⟨v1, v2, v3, e, hi.butV fun _ hq => let ⟨_, _, c, hc⟩ := h.1.at hq; ⟨c, hc⟩⟩
set_option maxRecDepth 100000 in
set_option maxHeartbeats 6400000 in
theorem next_any {D : Dom} {w : World} {g : Nat} {S : St} (h : StoreAt D w g S) (hS : OkSt S) (m : GMark) (hm : MarkOK m) (hEv : Env w) :
    Calls Tryz.prog 32 #[.pointer (some ⟨g, 0, none⟩), .string (mkB (markB m))] w fun e w' => Below w.heap.size w w' ∧ ∃ E v' L rv mb, ListTold S m.kind m.space m.rev L ∧ e = .returned (.tuple #[.agg #[v', .int .i64 (rv : Nat), .string (mkB mb)], .int .i64 (listE S m.kind m.space m.rev)]) ∧ OwnX ObjX 10 E w' 30 v' ((L.filter fun o => !doneB m.lspace m.lname o).take m.most) ∧ (∀ b, E b → w.heap.size ≤ b ∧ b < w'.heap.size) ∧
      (listE S m.kind m.space m.rev = 0 → rv = m.rev ∧ mb = moreB m.kind m.space m.most m.rev (L.filter fun o => !doneB m.lspace m.lname o)) := by
  obtain ⟨le, Hle⟩ : ∃ x, Hid (listE S m.kind m.space m.rev = x) := ⟨_, Lib.hid rfl⟩
  obtain ⟨W, hW⟩ : ∃ W, W = w.alloc (.cells #[.slice none 0 0, .int .i64 0, .string { data := #[] }] 73) := ⟨_, rfl⟩
  obtain ⟨gr, hgr⟩ : ∃ g, g = w.heap.size := ⟨_, rfl⟩
  have BR := Lib.hid (show W.heap[gr]? = some (.cells #[.slice none 0 0, .int .i64 0, .string { data := #[] }] 73 (0, 0)) by rw [hW, hgr]; exact heap_alloc_new w _)
  have hb1 : Below w.heap.size w W := by rw [hW]; exact (Below.refl _ w).alloc (Nat.le_refl _) _
  have HA := Lib.hid (h.belowW hb1)
  have HB1 := Lib.hid hb1
  have hrl : gr < W.heap.size := by rw [hgr, hW, World.size_alloc]; omega
  have hwr : w.heap.size ≤ gr := by omega
  have HEW := Lib.hid (hEv.below hb1)
  have HEv0 := Lib.hid hEv
  have HS := Lib.hid hS
  have HM := Lib.hid hm
  obtain ⟨mi, Hmi⟩ : ∃ z : Int, Hid ((m.most : Int) = z) := ⟨_, Lib.hid rfl⟩
  obtain ⟨ri, Hri⟩ : ∃ z : Int, Hid ((m.rev : Int) = z) := ⟨_, Lib.hid rfl⟩
  have HRd := Lib.hid (Pag.read_good m hm W HEW.out.1 HEW.out.2.2)
  rw [Hmi.out, Hri.out] at HRd
  obtain ⟨T, HTm⟩ : ∃ T, Hid (mkB (markB m) = T) := ⟨_, Lib.hid rfl⟩
  rw [HTm.out] at HRd ⊢
  rw [Hri.out] at Hle
  rw [Hri.out, Hle.out]
  clear h hS hEv hm hb1
  go_enter Tryz.func32, Tryz.ntmps32
  go_upto_region 1 with fail
  rw [← hW]
  rw [← hgr]
  clear hW hgr
  go_wp2_with fail
  refine HRd.out.mono ?_
  rintro E9 w2 ⟨rfl, hb2⟩
  have BR2 := Lib.hid (below_block hb2 BR.out)
  have HB2 := Lib.hid (HB1.out.trans (hb2.mono HB1.out.size))
  have HA2 := Lib.hid (HA.out.belowW hb2)
  have HE2 := Lib.hid (HEW.out.below hb2)
  have hrl2 : gr < w2.heap.size := lt_of_some BR2.out
  clear hb2 HRd BR HB1 HA HEW hrl
  have h7 := Lib.hid (heap_alloc_new w2 (.cells #[.string { data := #[] }, .string { data := #[] }, .int .i64 0, .int .i64 0, .string { data := #[] }, .string { data := #[] }, .string { data := #[] }] 139))
  have h4 := Lib.hid ((Below.refl w2.heap.size w2).alloc (Nat.le_refl _) (.cells #[.string { data := #[] }, .string { data := #[] }, .int .i64 0, .int .i64 0, .string { data := #[] }, .string { data := #[] }, .string { data := #[] }] 139))
  have h9 : Hid ((w2.alloc (.cells #[.string { data := #[] }, .string { data := #[] }, .int .i64 0, .int .i64 0, .string { data := #[] }, .string { data := #[] }, .string { data := #[] }] 139)).heap.size = w2.heap.size + 1) := Lib.hid (World.size_alloc _ _)
  go_wp2_with (refine wpList_store_box (by rfl) _ _ _ (by rfl) w2.heap.size #[.string m.kind, .string m.space, .int .i64 mi, .int .i64 ri, .string { data := #[] }, .string m.lspace, .string m.lname] (by rfl) (by rfl) _ _ (by exact h7.out) (by exact Tryz.sizeMark) (by rfl) (by simp [Value.oneCell']) ?_)
  intro w3 b3 t3
  obtain ⟨gm, hgm⟩ : ∃ g, w2.heap.size = g := ⟨_, rfl⟩
  have hb3 := t3.below h4.out (Nat.le_refl _)
  have hs3 : w3.heap.size = w2.heap.size + 1 := t3.size.trans h9.out
  rw [hgm] at b3 ⊢
  have BM3 := Lib.hid b3
  have BR3 := Lib.hid (below_block hb3 BR2.out)
  have HB3 := Lib.hid (HB2.out.trans (hb3.mono HB2.out.size))
  have HA3 := Lib.hid (HA2.out.belowW hb3)
  have HE3 := Lib.hid (HE2.out.below hb3)
  have hml : gm < w3.heap.size := by omega
  have hrm : gr < gm := by omega
  clear b3 t3 hb3 hs3 hgm h7 h4 h9 BR2 HB2 HA2 HE2 hrl2
  have cm := fun i => cell_block BM3.out i
  have HX := Lib.hid (list_any HA3.out HS.out m.kind m.space HM.out.size.1 HM.out.size.2.1 ri)
  rw [Hle.out] at HX
  go_wp2_with fail
  refine HX.out.mono ?_
  rintro E9 w4 ⟨hb4, E4, v, L, rfl, hT, k2, k3⟩
  have HTo := Lib.hid hT
  have HR4 := Lib.hid k2
  have HE4 := Lib.hid k3
  have BM4 := Lib.hid (below_block hb4 BM3.out)
  have BR4 := Lib.hid (below_block hb4 BR3.out)
  have HB4 := Lib.hid (HB3.out.trans (hb4.mono HB3.out.size))
  have HA4 := Lib.hid (HA3.out.belowW hb4)
  have HEv4 := Lib.hid (HE3.out.below hb4)
  have hs4 := hb4.size
  clear hT k2 k3 hb4 HX BR3 BM3 HB3 HA3 HE3 cm
  obtain ⟨aL, cL, rfl, -, -⟩ := HR4.out.own.row.len
  obtain ⟨nL, HnL⟩ : ∃ n, Hid (L.length = n) := ⟨_, Lib.hid rfl⟩
  rw [HnL.out] at HR4 ⊢
  by_cases hle : le = 0
  · have q3 : (le != 0) = false := by rw [hle]; rfl
    have hnL : nL ≤ 4194304 := by rw [← HnL.out]; exact list_short HS.out HTo.out
    have HOwn : Hid (OwnAt (ObjX (fun b => E4 b ∧ (Value.slice aL nL cL).ownBlock ≠ some b) w4) 10 w4 w3.heap.size 30 (.slice aL nL cL) L) := Lib.hid (OwnAt.raise (row_but HR4.out) fun b hb => (HE4.out b (HR4.out.2 b hb)).1)
    have HDe := Lib.hid (deleteObj_any (f := 73) (cap := .pointer (some ⟨gm, 0, none⟩)) (Cap := fun u => u.heap[gm]? = some (.cells #[.string m.kind, .string m.space, .int .i64 mi, .int .i64 ri, .string { data := #[] }, .string m.lspace, .string m.lname] 139 (0, 0))) (p := doneB m.lspace m.lname) (E := fun b => E4 b ∧ (Value.slice aL nL cL).ownBlock ≠ some b) w4 w3.heap.size (run_callFunc_body Tryz.func73 (by kernel_rfl) (by kernel_rfl))
      (fun u u' hu hb => (hb.block gm hml).trans hu) (fun x a7 n7 c7 a8 n8 c8 a9 n9 c9 u hu => next1_any x a7 n7 c7 a8 n8 c8 a9 n9 c9 gm m.kind m.space ⟨#[]⟩ m.lspace m.lname mi ri u hu) (.slice aL nL cL) L w4 HOwn.out (Agree.refl _ _) hs4 (by rw [HnL.out]; exact hnL) BM4.out)
    obtain ⟨L', HL'⟩ : ∃ L', Hid ((L.filter fun r => !doneB m.lspace m.lname r) = L') := ⟨_, Lib.hid rfl⟩
    rw [HL'.out] at HDe
    have hL'n : L'.length ≤ nL := by rw [← HL'.out, ← HnL.out]; exact List.length_filter_le _ _
    have okL' : Hid (∀ o ∈ L', OkObj o) := Lib.hid fun o ho => okObj_list HS.out HTo.out o (by rw [← HL'.out] at ho; exact (List.mem_filter.1 ho).1)
    go_wp2_with fail
    refine HDe.out.mono ?_
    rintro E9 w5 ⟨v', rfl, hv', hov, hO⟩
    have hs5 := hO.size
    have hgo : ∀ b, (Value.slice aL nL cL).ownBlock = some b → w3.heap.size ≤ b := fun b hb => (HE4.out b (HR4.out.2 b hb)).1
    have BM5 := Lib.hid ((hO.block gm (lt_of_some BM4.out) fun e => by have := hgo gm e; omega).trans BM4.out)
    have BR5 := Lib.hid ((hO.block gr (lt_of_some BR4.out) fun e => by have := hgo gr e; omega).trans BR4.out)
    have hw3 := HB4.out.size
    have HB5 := Lib.hid (HB4.out.trans (hO.below (fun b hb => by have := hgo b hb; omega) hw3))
    have HV5 : Hid (OwnX ObjX 10 (fun b => w3.heap.size ≤ b ∧ b < w5.heap.size) w5 30 v' L') := Lib.hid ⟨(hv'.imp' fun cs y _ hy => famObj.mono _ _ _ _ _ _ (fun b hb => ⟨(HE4.out b hb.1).1, by have := (HE4.out b hb.1).2; omega⟩) (famObj.agree _ _ _ _ _ _ (fun b hb => hO.block b (HE4.out b hb.1).2 hb.2) hy)).mono (Nat.zero_le _), fun b hb => ⟨(hv'.at hb).1, (hv'.at hb).2.1⟩⟩
    clear hv' hov hO HDe HOwn BM4 BR4 HR4 HA4 HB4
    obtain ⟨a5, c5, rfl, -, -⟩ := HV5.out.own.row.len
    obtain ⟨n5, Hn5⟩ : ∃ n, Hid (L'.length = n) := ⟨_, Lib.hid rfl⟩
    rw [Hn5.out] at HV5 hL'n ⊢
    have HP := Lib.hid (page_any HV5.out (fun b hb => hb.2) (by rw [Hn5.out]; omega) okL'.out m.kind m.space ⟨#[]⟩ m.lspace m.lname m.most m.rev HM.out.most.1 HM.out.most.2 HM.out.rev.2 ⟨HM.out.size.1, HM.out.size.2.1⟩ (HEv0.out.below HB5.out).1)
    rw [Hmi.out, Hri.out] at HP
    have cm := fun i => cell_block BM5.out i
    go_wp2_with fail
    refine HP.out.mono ?_
    rintro E9 w6 ⟨hb6, E6, v6, rfl, hv6, hE6⟩
    have BR6 := Lib.hid (below_block hb6 BR5.out)
    have HB6 := Lib.hid (HB5.out.trans (hb6.mono HB5.out.size))
    obtain ⟨a6, c6, rfl, -, -⟩ := hv6.own.row.len
    obtain ⟨n6, Hn6⟩ : ∃ n, Hid ((L'.take m.most).length = n) := ⟨_, Lib.hid rfl⟩
    rw [Hn6.out] at hv6 ⊢
    have HV := Lib.hid hv6
    have HE6 : Hid (∀ b, E6 b → w.heap.size ≤ b ∧ b < w6.heap.size ∧ b ≠ gr) := Lib.hid fun b hb => by
      have := HB5.out.size
      have := hb6.size
      rcases hE6 b hb with h9 | h9
      · omega
      · omega
    obtain ⟨mb, Hmb⟩ : ∃ mb, Hid (moreB m.kind m.space m.most m.rev L' = mb) := ⟨_, Lib.hid rfl⟩
    rw [Hmb.out]
    rw [← Hri.out]
    clear hb6 hv6 hE6 HP BR5 HB5 BM5 cm
    simp only []
    go_at_K
    refine at_last (by assumption) ?_
    refine wpList_store_box (by rfl) _ _ _ (by rfl) gr #[.slice a6 n6 c6, .int .i64 (m.rev : Int), .string (mkB mb)] (by rfl) (by rfl) _ _ (by exact BR6.out) (by exact Tryz.sizePage) (by rfl) (by simp [Value.oneCell']) ?_
    intro WF bF tF
    have HF := Lib.hid (tF.below HB6.out hwr)
    have hsF := tF.size
    have HVF := Lib.hid (HV.out.agree famObj fun b hb => tF.other b (HE6.out b hb).2.2)
    go_wp2_with fail
    refine bodyPost_ret (v := .tuple #[.agg #[.slice a6 n6 c6, .int .i64 (m.rev : Int), .string (mkB mb)], .int .i64 0]) ?_ rfl ?_
    · exact results_two_box Tryz.results32 _ _ gr _ _ _ _ (by rfl) bF Tryz.underlying73 rfl (by exact Tryz.sizePage)
    · exact ⟨HF.out, E6, _, L, m.rev, mb, by first | exact HTo.out | (rw [Hri.out]; exact HTo.out), by rw [hle], by rw [HL'.out]; exact HVF.out, fun b hb => ⟨(HE6.out b hb).1, by have := (HE6.out b hb).2.1; omega⟩, fun _ => ⟨rfl, by rw [HL'.out, Hmb.out]⟩⟩
  · have q3 : (le != 0) = true := bne_iff_ne.2 hle
    have Hle0 := Lib.hid hle
    have HL0 : Hid (L = []) := Lib.hid (HTo.out.1 (by rw [Hle.out]; exact hle))
    clear hle
    go_wp2_with (refine wpList_store_box (by rfl) _ _ _ (by rfl) gr #[.slice none 0 0, .int .i64 0, .string { data := #[] }] (by rfl) (by rfl) _ _ (by exact BR4.out) (by exact Tryz.sizePage) (by rfl) (by simp [Value.oneCell']) ?_)
    intro WF bF tF
    have HF := Lib.hid (tF.below HB4.out hwr)
    go_wp2_with fail
    refine bodyPost_ret (v := .tuple #[.agg #[.slice none 0 0, .int .i64 0, .string { data := #[] }], .int .i64 le]) ?_ rfl ?_
    · exact results_two_box Tryz.results32 _ _ gr _ _ _ _ (by rfl) bF Tryz.underlying73 rfl (by exact Tryz.sizePage)
    · exact ⟨HF.out, fun _ => False, .slice none 0 0, L, 0, [], HTo.out, rfl, by rw [HL0.out, List.filter_nil, List.take_nil]; exact OwnX.nil, fun b hb => hb.elim, fun h0 => absurd h0 Hle0.out⟩
end Sto
end Go.Proofs.YtnnceaapodgfbaaGreatDoor
namespace Go.Proofs.YtnnceaapodgfbaaGreatDoor
namespace Sto
open Go.RowKit Pag
open JP (Bs)
def KeysOK (S : St) : Prop := ∀ e ∈ S.log, keyK e.object.okey = 0
theorem objE_key {o : GObject} (h : objE o = 0) : keyK o.okey = 0 := by
  unfold objE at h
  split at h
  · rename_i h1; exact absurd h h1
  · rename_i h1
    have h2 : firstO o = 0 := Classical.not_not.1 h1
    unfold firstO says at h2
    split at h2
    · exact Classical.byContradiction fun h3 => by simp_all
    · simp_all
theorem keys_put {S : St} (h : KeysOK S) {kind : Int} {o : GObject} (ho : keyK o.okey = 0) : KeysOK (put S kind o) := fun e he => by
  unfold put at he
  rcases List.mem_append.1 he with he | he
  · exact h e he
  · rw [List.mem_singleton] at he; subst he; exact ho
theorem keys_do {S : St} (h : KeysOK S) (x : GStoreStep) : KeysOK (doS S x).1 := by
  unfold doS
  split
  · rcases create_cases S x.o with ⟨e, _⟩ | ⟨e, ho, _⟩
    · rw [e]; exact h
    · rw [e]; exact keys_put h (show keyK x.o.okey = 0 from objE_key ho)
  · split
    · rcases update_cases S x.o with ⟨e, _⟩ | ⟨was, e, ho, _⟩
      · rw [e]; exact h
      · rw [e]; exact keys_put h (show keyK x.o.okey = 0 from objE_key ho)
    · split
      · rcases remove_cases S x.o.okey x.rev with ⟨e, _⟩ | ⟨was, e, hc⟩
        · rw [e]; exact h
        · rw [e]
          obtain ⟨ev, h1, h2⟩ := cur_mem hc
          exact keys_put h (h2 ▸ h ev h1)
      · intro e he
        rw [show (compact S (modI x.rev 3)).log = S.log from grow_compact S _] at he
        exact h e he
theorem keys_run {S : St} (h : KeysOK S) : ∀ (l : List GStoreStep), KeysOK (run S l)
  | [] => h
  | x :: r => keys_run (keys_do h x) r
theorem keys_0 : KeysOK St0 := fun e he => by cases he
theorem key_parts {k : GKey} (h : keyK k = 0) : NameP.check k.kind.data.toList = 0 ∧ emptyOrName k.space ∧ NameP.check k.name.data.toList = 0 := by
  unfold keyK AuP.keyE at h
  have h0 : ∀ {a b : Int}, says a b = 0 → a = 0 ∧ b = 0 := fun {a b} h => by
    unfold says at h
    split at h
    · simp_all
    · simp_all
  obtain ⟨h1, h2⟩ := h0 h
  obtain ⟨h2, h3⟩ := h0 h2
  refine ⟨h1, ?_, h3⟩
  unfold AuP.emptyOr at h2
  split at h2
  · rename_i h9
    exact .inl (ByteArray.ext (Array.toList_inj.1 (by simpa using h9)))
  · exact .inr h2
theorem says0 {a b : Int} (h : says a b = 0) : a = 0 ∧ b = 0 := by
  unfold says at h
  split at h
  · simp_all
  · simp_all
theorem listC_parts {kind space : ByteArray} (h : listC kind space = 0) : NameP.check kind.data.toList = 0 ∧ emptyOrName space := by
  obtain ⟨h1, h⟩ := says0 h
  refine ⟨h1, ?_⟩
  unfold spaceE AuP.emptyOr at h
  split at h
  · rename_i h9
    exact .inl (ByteArray.ext (Array.toList_inj.1 (by simpa using h9)))
  · exact .inr h
theorem filter_drop {α : Type} {p : α → Bool} : ∀ {l : List α} {j : Nat}, (∀ (t : Nat) (x : α), t < j → l[t]? = some x → p x = false) → (∀ (t : Nat) (x : α), j ≤ t → l[t]? = some x → p x = true) → l.filter p = l.drop j
  | [], j, _, _ => by rw [List.drop_nil]; rfl
  | a :: l, 0, _, h2 => by
    rw [List.drop_zero, List.filter_eq_self.2]
    intro x hx
    obtain ⟨t, ht⟩ := List.getElem?_of_mem hx
    exact h2 t x (Nat.zero_le _) ht
  | a :: l, j + 1, h1, h2 => by
    rw [List.filter_cons_of_neg (by rw [h1 0 a (by omega) rfl]; decide), List.drop_succ_cons]
    exact filter_drop (fun t x ht hx => h1 (t + 1) x (by omega) (by rw [List.getElem?_cons_succ]; exact hx)) fun t x ht hx => h2 (t + 1) x (by omega) (by rw [List.getElem?_cons_succ]; exact hx)
theorem done_ahead {x o : GObject} (h : ahead x o) : doneB o.okey.space o.okey.name x = true := by
  unfold doneB orI cmpB
  refine decide_eq_true ?_
  rcases h with h | ⟨h1, h2⟩
  · unfold lessS at h
    rw [if_pos (by omega)]; omega
  · rw [h1, cb_self]
    unfold lessS at h2
    simp; omega
theorem done_self (o : GObject) : doneB o.okey.space o.okey.name o = true := by unfold doneB orI cmpB; rw [cb_self, cb_self]; decide
theorem done_not {x o : GObject} (h : ahead o x) : doneB o.okey.space o.okey.name x = false := by
  unfold doneB orI cmpB
  refine decide_eq_false ?_
  rcases h with h | ⟨h1, h2⟩
  · unfold lessS at h
    have := cb_swap o.okey.space.data.toList x.okey.space.data.toList
    rw [if_pos (by omega)]; omega
  · rw [h1, cb_self]
    unfold lessS at h2
    have := cb_swap o.okey.name.data.toList x.okey.name.data.toList
    simp; omega
theorem filter_behind {L : List GObject} (h : L.Pairwise ahead) {j : Nat} {o : GObject} (ho : L[j]? = some o) : (L.filter fun x => !doneB o.okey.space o.okey.name x) = L.drop (j + 1) := by
  obtain ⟨hj, ej⟩ := List.getElem?_eq_some_iff.1 ho
  refine filter_drop (fun t x ht hx => ?_) fun t x ht hx => ?_
  · obtain ⟨h1, e1⟩ := List.getElem?_eq_some_iff.1 hx
    rcases Nat.lt_or_ge t j with h9 | h9
    · rw [done_ahead (by rw [← e1, ← ej]; exact List.pairwise_iff_getElem.1 h t j h1 hj h9)]; rfl
    · obtain rfl : t = j := by omega
      rw [ho] at hx; cases hx
      rw [done_self]; rfl
  · obtain ⟨h1, e1⟩ := List.getElem?_eq_some_iff.1 hx
    rw [done_not (by rw [← e1, ← ej]; exact List.pairwise_iff_getElem.1 h j t hj h1 (by omega))]; rfl
theorem list_60 {S : St} (h : Good S) {kind space : ByteArray} {a : List GObject} (ha : IsList S.log kind space a) : a.length ≤ 60 := by
  have h2 := live_keys h.fitAll (a.map (·.okey)) (isList_keys ha) fun k hk => by
    obtain ⟨o, ho, rfl⟩ := List.mem_map.1 hk
    rw [((ha.2 o).1 ho).2]; rfl
  have := h.full
  rw [List.length_map] at h2
  omega
structure MoreIs (S : St) (kind space : ByteArray) (most : Nat) (L : List GObject) (i : Nat) (m : GMark) : Prop where
  text : moreB kind space most S.rev (L.drop (i * most)) = markB m
  ok : MarkOK m
  eKind : m.kind = kind
  eSpace : m.space = space
  eMost : m.most = most
  eRev : m.rev = S.rev
  rest : (L.filter fun x => !doneB m.lspace m.lname x) = L.drop ((i + 1) * most)
theorem more_is {S : St} (hS : OkSt S) (hK : KeysOK S) {kind space : ByteArray} {L : List GObject} (hL : IsList S.log kind space L) (hc : listC kind space = 0) (hz : kind.size ≤ 1048576 ∧ space.size ≤ 1048576) {most i : Nat} (h1 : 1 ≤ most) (h2 : most ≤ 50) (hlt : most < (L.drop (i * most)).length) : ∃ m, MoreIs S kind space most L i m := by
  have hlen : i * most + most < L.length := by rw [List.length_drop] at hlt; omega
  obtain ⟨o, ho⟩ : ∃ o, (L.drop (i * most))[most - 1]? = some o := ⟨_, List.getElem?_eq_getElem (by omega)⟩
  have ho2 : L[i * most + (most - 1)]? = some o := by rw [List.getElem?_drop] at ho; exact ho
  have hmem := List.mem_of_getElem? ho2
  obtain ⟨hf, hcur⟩ := (hL.2 o).1 hmem
  obtain ⟨e, he1, he2⟩ := cur_mem hcur
  obtain ⟨k1, k2, k3⟩ := key_parts (by have := hK e he1; rw [he2] at this; exact this)
  have hok : OkObj o := he2 ▸ hS.obj e he1
  obtain ⟨c1, c2⟩ := listC_parts hc
  have hr1 : 1 ≤ S.rev := by unfold St.rev; exact List.length_pos_of_mem he1
  refine ⟨⟨kind, space, most, S.rev, o.okey.space, o.okey.name⟩, ⟨?_, ⟨c1, c2, ⟨h1, h2⟩, ⟨hr1, hS.rev⟩, k2, k3, hz.1, hz.2, hok.space, hok.name⟩, rfl, rfl, rfl, rfl, ?_⟩⟩
  · unfold moreB
    rw [if_pos hlt, ho]
  · have h9 := filter_behind hL.1 ho2
    rw [show i * most + (most - 1) + 1 = (i + 1) * most by rw [Nat.add_mul]; omega] at h9
    exact h9
theorem more_no {kind space : ByteArray} {most rev : Nat} {R : List GObject} (h : R.length ≤ most) : moreB kind space most rev R = [] := by unfold moreB; rw [if_neg (by omega)]
theorem mark_ne (m : GMark) : markB m ≠ [] := by
  unfold markB markL
  simp only [List.map_cons]
  rw [join_more]
  simp
theorem list_later {S T : St} {mm : List GEvent} (hm : T.log = S.log ++ mm) {kind space : ByteArray} {L L' : List GObject} (hL : IsList S.log kind space L) (hc : listC kind space = 0) (h0 : S.rev ≠ 0) (hT : ListTold T kind space S.rev L') : (listE T kind space S.rev = 0 ∧ L' = L) ∨ listE T kind space S.rev = 13 := by
  have e : listE T kind space S.rev = timeE T S.rev := by rw [listE_eq, if_neg (fun h => h hc)]
  rcases time_past hm h0 with ⟨h1, h2⟩ | h1
  · refine .inl ⟨e.trans h1, ?_⟩
    have h3 := hT.2 (e.trans h1)
    rw [h2, hm] at h3
    unfold St.rev at h3
    rw [List.take_append_of_le_length (Nat.le_refl _), List.take_length] at h3
    exact isList_one h3 hL
  · exact .inr (e.trans h1)
end Sto
end Go.Proofs.YtnnceaapodgfbaaGreatDoor
namespace Go.Proofs.YtnnceaapodgfbaaGreatDoor
namespace Sto
open Go.RowKit Pag
open JP (Bs)
def AD (D : Dom) (w : World) (gp : Nat) (v : Value) : Dom := fun b => b < w.heap.size ∧ ¬ D b ∧ b ≠ gp ∧ v.ownBlock ≠ some b
structure AllP (B gp : Nat) (D : Dom) (w : World) (v : Value) (l : List GObject) : Prop where
  row : OwnAt (ObjX (AD D w gp v) w) 10 w B 30 v l
  own : ∀ b, v.ownBlock = some b → ¬ D b ∧ b ≠ gp
section
variable {B gp : Nat} {D D' E : Dom} {w w' : World} {v v' pv : Value} {l ps : List GObject}
theorem AllP.nil : AllP B gp D w (.slice none 0 0) [] := ⟨OwnAt.nil _, fun b h => by cases h⟩
theorem AllP.only (h : AllP B gp D w v l) (hO : Only D w w') (hD : ∀ b, D' b → D b ∨ w.heap.size ≤ b) : AllP B gp D' w' v l :=
  ⟨(h.row.stay (famObj.flat _ _) fun b hb => hO.block b (h.row.at hb).2.1 (h.own b hb).1).imp' fun _ _ _ hx => famObj.mono _ _ _ _ _ _ (fun b hb => ⟨Nat.lt_of_lt_of_le hb.1 hO.size, fun h9 => (hD b h9).elim hb.2.1 fun h8 => by have := hb.1; omega, hb.2.2⟩) (famObj.agree _ _ _ _ _ _ (fun b hb => hO.block b hb.1 hb.2.1) hx),
   fun b hb => ⟨fun h9 => (hD b h9).elim (h.own b hb).1 fun h8 => by have := (h.row.at hb).2.1; omega, (h.own b hb).2⟩⟩
theorem AllP.belowX (h : AllP B gp D w v l) (hb : Below w.heap.size w w') : AllP B gp D w' v l := h.only (Only.of hb) fun _ h9 => .inl h9
theorem AllP.touched (h : AllP B gp D w v l) (t : Touch gp w w') : AllP B gp D w' v l :=
  ⟨(h.row.stay (famObj.flat _ _) fun b hb => t.other b (h.own b hb).2).imp' fun _ _ _ hx => famObj.mono _ _ _ _ _ _ (fun b hb => ⟨by rw [t.size]; exact hb.1, hb.2⟩) (famObj.agree _ _ _ _ _ _ (fun b hb => t.other b hb.2.2.1) hx), h.own⟩
theorem AllP.app (h : AllP B gp D w v l) (hw : ∀ b, D b → b < w.heap.size) (hgp : gp < w.heap.size) (q1 : OwnAt (ObjX (AD D w gp v) w) 10 w' B 30 v' (l ++ ps)) (q2 : w.grownBy w' v.ownBlock) (q4 : v'.ownBlock = v.ownBlock ∨ v'.ownBlock = some w.heap.size) : AllP B gp D w' v' (l ++ ps) :=
  ⟨q1.imp' fun _ _ _ hx => famObj.mono _ _ _ _ _ _ (fun b hb => ⟨Nat.lt_of_lt_of_le hb.1 q2.size, hb.2.1, hb.2.2.1, fun e => by
      rcases q4 with h8 | h8
      · exact hb.2.2.2 (h8 ▸ e)
      · rw [h8] at e; injection e with e; have := hb.1; omega⟩) (famObj.agree _ _ _ _ _ _ (fun b hb => q2.block b hb.1 fun e => hb.2.2.2 e.symm) hx),
   fun b hb => by
    rcases q4 with h8 | h8
    · rw [h8] at hb; exact h.own b hb
    · rw [h8] at hb; injection hb with hb
      exact ⟨fun h9 => by have := hw b h9; omega, by omega⟩⟩
end
structure PageIs (S : St) (kind space : ByteArray) (mo : Nat) (L : List GObject) (i : Nat) (rvp : Int) (mb : Bs) (n : Nat) (k : Nat) : Prop where
  rev : rvp = S.rev
  more : mb = moreB kind space mo S.rev (L.drop (i * mo))
  low : i * mo ≤ L.length
  len : ((L.drop (i * mo)).take mo).length = n
  left : k = L.length - i * mo + 1
set_option maxRecDepth 100000 in
set_option maxHeartbeats 6400000 in
theorem pagesWhole_walk (v : Value) (l : List GStoreStep) (v2 : Value) (m : List GStoreStep) (kind space : ByteArray) (most : Int) (w : World) (hrow : RowAt StoreStepR 12 w v l) (hrow2 : RowAt StoreStepR 12 w v2 m) (_hm : (Lit.int .i64 most).wf = true)
    (hbulk : (l.map storeStepB).sum + (m.map storeStepB).sum + kind.data.toList.length + space.data.toList.length ≤ 1048576) (hE : Env w) :
    Calls Tryz.prog 9 #[v, v2, .string kind, .string space, .int .i64 most] w fun e w' => e = .returned (.bool true) ∧ Below w.heap.size w w' := by
  obtain ⟨hok, hll⟩ := okSteps_bulk hrow (by omega)
  obtain ⟨hok2, hll2⟩ := okSteps_bulk hrow2 (by omega)
  have hd1 : kind.size ≤ 1048576 := by have h9 : kind.data.toList.length = kind.size := rfl; omega
  have hd2 : space.size ≤ 1048576 := by have h9 : space.data.toList.length = space.size := rfl; omega
  have HEn := Lib.hid hE
  have HSt := Lib.hid (stored_any v l w hrow (by omega) hok hE)
  obtain ⟨am, cm, rfl, -, -⟩ := hrow2.len
  obtain ⟨mn, HN2⟩ : ∃ n, Hid (m.length = n) := ⟨_, Lib.hid rfl⟩
  rw [HN2.out] at hrow2 hll2 ⊢
  have HR2 := Lib.hid hrow2
  have Hok2 := Lib.hid hok2
  obtain ⟨S, HSe⟩ : ∃ S, Hid (run St0 l = S) := ⟨_, Lib.hid rfl⟩
  have HS : Hid (OkSt S) := Lib.hid (by rw [← HSe.out]; exact okSt_run okSt0 l hok (by show 0 + _ ≤ _; omega))
  have HK : Hid (KeysOK S) := Lib.hid (by rw [← HSe.out]; exact keys_run keys_0 l)
  have Hrev : Hid (S.rev ≤ 1048576) := Lib.hid (by rw [← HSe.out]; have h9 := rev_run St0 l; have h8 : St0.rev = 0 := rfl; omega)
  rw [HSe.out] at HSt
  obtain ⟨hr1, hr2⟩ := restOf_in (a := most) (b := 50) (by decide)
  have HRe := fun w => Lib.hid (rest_any most 50 w (by decide) (by decide))
  obtain ⟨rr, Hrr⟩ : ∃ r, Hid (restOf most 50 = r) := ⟨_, Lib.hid rfl⟩
  rw [Hrr.out] at hr1 hr2
  have HRe := fun w => Lib.hid (by have h9 := (HRe w).out; rw [Hrr.out] at h9; exact h9)
  obtain ⟨mo, hmo⟩ : ∃ mo : Nat, 1 + rr = (mo : Int) := ⟨(1 + rr).toNat, by omega⟩
  have hmo1 : 1 ≤ mo := by omega
  have hmo2 : mo ≤ 50 := by omega
  have qwm : IntKind.i64.wrap (1 + rr) = (mo : Int) := by rw [hmo]; exact IntWalk.i64_in _ (by omega)
  clear hrow hrow2 hbulk hE hok hok2 hll hr1 hr2
  go_enter Tryz.func9, Tryz.ntmps9
  go_wp2_with fail
  refine HSt.out.mono ?_
  rintro E w2 ⟨g, D, rfl, hst, hlow, hb2⟩
  have HB_a := Lib.hid hb2
  have HA_a := Lib.hid hst
  have hs_a := hb2.size
  have HH_a : Hid (Home w D w2) := Lib.hid ⟨HEn.out.1, HEn.out.2.2, HB_a.out, fun b hb => by have := hlow b hb; omega⟩
  clear hst hlow hb2 HSt
  obtain ⟨la, Hla⟩ : ∃ x, Hid (listE S kind space 0 = x) := ⟨_, Lib.hid rfl⟩
  go_wp2_with fail
  refine (HRe w2).out.mono ?_
  rintro E w9 ⟨rfl, hw9⟩
  subst hw9
  clear HRe
  have HX := Lib.hid (list_any HA_a.out HS.out kind space hd1 hd2 0)
  rw [Hla.out] at HX
  go_upto_region 5 with fail
  clear hmo qwm
  go_wp2_with fail
  refine HX.out.mono ?_
  rintro E9 w3 ⟨hb9, E3, vw, L, rfl, hT_L, k2, k3⟩
  have HT_L := Lib.hid hT_L
  have hlowD : Hid (∀ b, D b → b < w2.heap.size) := Lib.hid fun b hb => HA_a.out.low hb
  clear HX hT_L
  have hs_b := (hb9).size
  have HA_b := Lib.hid (HA_a.out.belowW hb9)
  have HB_b := Lib.hid (HB_a.out.trans ((hb9).mono HB_a.out.size))
  have HH_b := Lib.hid (HH_a.out.below hb9)
  clear HA_a HB_a HH_a
  have RL_b := Lib.hid k2
  have ML_b : Hid (∀ b, E3 b → b < w3.heap.size ∧ ¬ D b) := Lib.hid fun b hb => ⟨(k3 b hb).2, fun h9 => by have := hlowD.out b h9; have := (k3 b hb).1; omega⟩
  clear k2 k3 hb9 hlowD
  obtain ⟨aL, cL, rfl, -, -⟩ := RL_b.out.own.row.len
  obtain ⟨nL, HnL⟩ : ∃ n, Hid (L.length = n) := ⟨_, Lib.hid rfl⟩
  rw [HnL.out] at RL_b ⊢
  have HX := Lib.hid (first_any HA_b.out HS.out kind space hd1 hd2 mo hmo1 hmo2 HH_b.out.tabs)
  rw [Hla.out] at HX
  go_wp2_with fail
  refine HX.out.mono ?_
  rintro E9 w4 ⟨hb9, E4, pv, L2, rv, mb, hT2, rfl, hpv, hE4, hrm⟩
  have hlowD : Hid (∀ b, D b → b < w3.heap.size) := Lib.hid fun b hb => HA_b.out.low hb
  clear HX
  have HL2 : Hid (L2 = L) := Lib.hid (by
    by_cases h0 : la = 0
    · exact isList_one (hT2.2 (by rw [Hla.out]; exact h0)) (HT_L.out.2 (by rw [Hla.out]; exact h0))
    · rw [hT2.1 (by rw [Hla.out]; exact h0), HT_L.out.1 (by rw [Hla.out]; exact h0)])
  rw [HL2.out] at hpv hrm
  have hs_c := (hb9).size
  have HA_c := Lib.hid (HA_b.out.belowW hb9)
  have HB_c := Lib.hid (HB_b.out.trans ((hb9).mono HB_b.out.size))
  have HH_c := Lib.hid (HH_b.out.below hb9)
  have RL_c := Lib.hid (RL_b.out.agree famObj fun b hb => (hb9).block b (ML_b.out b hb).1)
  have ML_c : Hid (∀ b, E3 b → b < w4.heap.size ∧ ¬ D b) := Lib.hid fun b hb => ⟨Nat.lt_of_lt_of_le (ML_b.out b hb).1 hs_c, (ML_b.out b hb).2⟩
  clear HA_b HB_b HH_b RL_b ML_b
  obtain ⟨aP, cP, rfl, -, -⟩ := hpv.own.row.len
  obtain ⟨nP, HnP⟩ : ∃ n, Hid ((L.take mo).length = n) := ⟨_, Lib.hid rfl⟩
  rw [HnP.out] at hpv ⊢
  have HP_c := Lib.hid hpv
  have MP_c : Hid (∀ b, E4 b → b < w4.heap.size ∧ ¬ D b) := Lib.hid fun b hb => ⟨(hE4 b hb).2, fun h9 => by have := hlowD.out b h9; have := (hE4 b hb).1; omega⟩
  have Hrm := Lib.hid hrm
  clear hT2 hpv hE4 hrm hb9 hlowD HL2
  obtain ⟨MS, HMS⟩ : ∃ x, Hid (mkB mb = x) := ⟨_, Lib.hid rfl⟩
  rw [HMS.out]
  have HEg0 : Hid (∀ b, E3 b → b < w4.heap.size) := Lib.hid fun b hb => (ML_c.out b hb).1
  obtain ⟨gp, Hgp⟩ : ∃ gp, Hid (w4.heap.size = gp) := ⟨_, Lib.hid rfl⟩
  have h7_P := Lib.hid (heap_alloc_new w4 (.cells #[.slice none 0 0, .int .i64 0, .string { data := #[] }] 73))
  have h4_P := Lib.hid ((Below.refl w4.heap.size w4).alloc (Nat.le_refl _) (.cells #[.slice none 0 0, .int .i64 0, .string { data := #[] }] 73))
  have hz9_P : Hid ((w4.alloc (.cells #[.slice none 0 0, .int .i64 0, .string { data := #[] }] 73)).heap.size = w4.heap.size + 1) := Lib.hid (World.size_alloc _ _)
  go_wp2_with (refine wpList_store_box (by rfl) _ _ _ (by rfl) w4.heap.size #[.slice aP nP cP, .int .i64 rv, .string MS] (by rfl) (by rfl) _ _ (by exact h7_P.out) (by exact Tryz.sizePage) (by rfl) (by simp [Value.oneCell']) ?_)
  intro w5 b5 t5
  have hbb := t5.below h4_P.out (Nat.le_refl _)
  rw [Hgp.out] at b5 ⊢
  have hz_P : w5.heap.size = gp + 1 := by rw [← Hgp.out]; exact t5.size.trans hz9_P.out
  have hl_P : gp < w5.heap.size := by omega
  have hj_P : w4.heap.size ≤ gp := by rw [Hgp.out]; exact Nat.le_refl _
  have XP := Lib.hid b5
  have YP : Hid (∀ b, D b → b ≠ gp) := Lib.hid fun b hb e => by have := HA_c.out.low hb; omega
  have HP_d := Lib.hid (HP_c.out.agree famObj fun b hb => hbb.block b (MP_c.out b hb).1)
  have hs_d := (hbb).size
  have HA_d := Lib.hid (HA_c.out.belowW hbb)
  have HB_d := Lib.hid (HB_c.out.trans ((hbb).mono HB_c.out.size))
  have HH_d := Lib.hid (HH_c.out.below hbb)
  have RL_d := Lib.hid (RL_c.out.agree famObj fun b hb => (hbb).block b (ML_c.out b hb).1)
  have ML_d : Hid (∀ b, E3 b → b < w5.heap.size ∧ ¬ D b) := Lib.hid fun b hb => ⟨Nat.lt_of_lt_of_le (ML_c.out b hb).1 hs_d, (ML_c.out b hb).2⟩
  clear HA_c HB_c HH_c RL_c ML_c
  have BP_d := XP
  have NP_d := YP
  clear b5 t5 hbb h7_P h4_P hz9_P XP YP hz_P
  have MP_d : Hid (∀ b, E4 b → b < w5.heap.size ∧ ¬ D b ∧ b ≠ gp) := Lib.hid fun b hb => ⟨Nat.lt_of_lt_of_le (MP_c.out b hb).1 hs_d, (MP_c.out b hb).2, by have := (MP_c.out b hb).1; omega⟩
  clear HP_c MP_c
  by_cases hla : la = 0
  · subst hla
    obtain ⟨hrv, hmb⟩ := Hrm.out rfl
    have HIL : Hid (IsList S.log kind space L) := Lib.hid (by have h1 := HT_L.out.2 Hla.out; rw [timeT0, take_rev] at h1; exact h1)
    have HLc : Hid (listC kind space = 0) := Lib.hid (Classical.byContradiction fun h9 => by
      have h8 := Hla.out
      rw [listE_eq, if_pos h9] at h8; exact h9 h8)
    have h60 : nL ≤ 60 := by rw [← HnL.out]; exact list_60 HS.out.good HIL.out
    have HPg : Hid (PageIs S kind space mo L 0 (rv : Int) mb nP (nL + 1)) := Lib.hid ⟨by rw [hrv], by rw [Nat.zero_mul, List.drop_zero]; exact hmb, by omega, by rw [Nat.zero_mul, List.drop_zero]; exact HnP.out, by rw [HnL.out]; omega⟩
    have HP0 : Hid (OwnX ObjX 10 E4 w5 30 (.slice aP nP cP) ((L.drop (0 * mo)).take mo)) := Lib.hid (by rw [Nat.zero_mul, List.drop_zero]; exact HP_d.out)
    have HRw0 : Hid (RowAt StoreStepR 12 w (.slice am mn cm) (m.drop 0)) := HR2
    have HT0 : Hid (StoreAt D w5 g (run S (m.take 0))) := HA_d
    obtain ⟨rn, Hrn⟩ : ∃ rn, Hid (S.rev = rn) := ⟨_, Lib.hid rfl⟩
    have hrvn : rv = rn := by rw [hrv, Hrn.out]
    have cp := fun i => cell_block BP_d.out i
    have HA0 : Hid (AllP w5.heap.size gp D w5 (.slice none 0 0) (L.take (0 * mo))) := Lib.hid (by rw [Nat.zero_mul, List.take_zero]; exact AllP.nil)
    subst hrvn
    clear hrv hmb Hrm HT_L HP_d HA_d
    obtain ⟨BW, hBW⟩ : ∃ x, Hid (w5.heap.size = x) := ⟨_, Lib.hid rfl⟩
    have hgB : gp < BW := by rw [← hBW.out]; exact hl_P
    have hwgp : Hid (w.heap.size ≤ gp) := Lib.hid (by have := HB_d.out.size; have := hj_P; omega)
    have HEg : Hid (∀ b, E3 b → b ≠ gp) := Lib.hid fun b hb e => by have := HEg0.out b hb; have := hj_P; omega
    have HEL : Hid (∀ b, E3 b → b < BW) := Lib.hid fun b hb => by rw [← hBW.out]; exact (ML_d.out b hb).1
    have hbw0 : Hid (BW ≤ w5.heap.size) := Lib.hid (by rw [hBW.out]; exact Nat.le_refl _)
    rw [hBW.out] at HA0
    go_wp2_with fail
    go_loopg [1, 15, 16, 18] (nL + 1) (fun k9 u1 u15 u16 u18 wr => ∃ (i t : Nat) (D' : Dom) (fe : Int) (a1 : Option Addr) (n1 c1 : Nat) (EP : Dom) (aP : Option Addr) (nP cP : Nat) (mb : Bs) (MS : ByteArray) (rvp : Int), u1 = .slice a1 n1 c1 ∧ u15 = .int .i64 fe ∧ u18 = .int .i64 (i : Int) ∧ Hid (RowAt StoreStepR 12 w (.slice a1 n1 c1) (m.drop t)) ∧ Hid (mkB mb = MS) ∧ Hid (AllP BW gp D' wr u16 (L.take (i * mo))) ∧ Hid (BW ≤ wr.heap.size) ∧
        Hid ((fe = 13 ∧ 0 < i) ∨ (fe = 0 ∧ PageIs S kind space mo L i rvp mb nP k9 ∧ OwnX ObjX 10 EP wr 30 (.slice aP nP cP) ((L.drop (i * mo)).take mo) ∧ ∀ b, EP b → b < wr.heap.size ∧ ¬ D' b ∧ b ≠ gp ∧ u16.ownBlock ≠ some b)) ∧ Hid (StoreAt D' wr g (run S (m.take t))) ∧ Hid (Below w.heap.size w wr) ∧ Hid (Home w D' wr) ∧ Hid (wr.heap[gp]? = some (.cells #[.slice aP nP cP, .int .i64 rvp, .string MS] 73 (0, 0))) ∧ Hid (∀ b, D' b → b ≠ gp) ∧ Hid (OwnX ObjX 10 E3 wr 30 (.slice aL nL cL) L) ∧ Hid (∀ b, E3 b → b < wr.heap.size ∧ ¬ D' b))
    case atStart => exact ⟨0, 0, D, 0, am, mn, cm, E4, aP, nP, cP, mb, MS, rv, rfl, rfl, rfl, HRw0, HMS, HA0, hbw0, Lib.hid (.inr ⟨rfl, HPg.out, HP0.out, fun b hb => ⟨(MP_d.out b hb).1, (MP_d.out b hb).2.1, (MP_d.out b hb).2.2, fun h => by cases h⟩⟩), HT0, HB_d, HH_d, BP_d, NP_d, RL_d, ML_d⟩
    case round =>
      clear HRw0 HMS HA0 hbw0 HPg HP0 MP_d HT0 HB_d HH_d BP_d NP_d RL_d ML_d cp HR2 hs_d
      obtain ⟨i, t, D', fe, a1, n1, c1, EP, aP', nP', cP', mb', MS', rvp, rfl, rfl, rfl, HRw, HMS, HAl, hbw9, Hcase, HA_e, HB_e, HH_e, BP_e, NP_e, RL_e, ML_e⟩ := hrel
      have hsw := HB_e.out.size
      rcases Hcase.out with ⟨rfl, hi0⟩ | ⟨rfl, hpg, hpr, hep⟩
      · have q0 : decide (0 < i) = true := decide_eq_true hi0
        clear hi0 Hcase
        go_wp2_with fail
        go_ret
        exact ⟨by first | rfl | simp, HB_e.out⟩
      · have HPg := Lib.hid hpg
        have HPr := Lib.hid hpr
        have HEp := Lib.hid hep
        clear hpg hpr hep Hcase
        obtain rfl : rvp = (rv : Int) := by rw [HPg.out.rev, Hrn.out]
        have hlow := HPg.out.low
        rw [HnL.out] at hlow
        have hi60 : i ≤ 60 := by
          have h9 : i * 1 ≤ i * mo := Nat.mul_le_mul_left i hmo1
          omega
        have hnPm : nP' ≤ mo := by rw [← HPg.out.len]; exact List.length_take_le _ _
        have q1 : decide (mo < nP') = false := decide_eq_false (by omega)
        have q2 : ((rv : Int) != (rv : Int)) = false := by rw [bne_eq_false_iff_eq]
        have q3 : decide ((61 : Int) < (i : Int)) = false := decide_eq_false (by omega)
        have q4 : decide ((i : Int) > 61) = false := decide_eq_false (by omega)
        have cp := fun i => cell_block BP_e.out i
        by_cases hmore : mo < (L.drop (i * mo)).length
        · have HM0 := more_is HS.out HK.out HIL.out HLc.out ⟨hd1, hd2⟩ hmo1 hmo2 hmore
          obtain ⟨⟨kk, ss, mo9, rv9, ls, ln⟩, hMi⟩ := HM0
          obtain rfl : kind = kk := hMi.eKind.symm
          obtain rfl : space = ss := hMi.eSpace.symm
          obtain rfl : mo = mo9 := hMi.eMost.symm
          obtain rfl : rv = rv9 := by
            have h9 := hMi.eRev
            rw [Hrn.out] at h9
            exact h9.symm
          have HMi := Lib.hid hMi
          have hemp : MS'.toList.isEmpty = false := by
            rw [← HMS.out, HPg.out.more, hMi.text, Lib.toList_data, mkB_list]
            cases h9 : markB ⟨kind, space, mo, rv, ls, ln⟩ with
            | nil => exact absurd h9 (mark_ne _)
            | cons a b => rfl
          have hnm : nP' = mo := by rw [← HPg.out.len, List.length_take]; omega
          have q5 : ((nP' : Int) != (mo : Int)) = false := by rw [hnm, bne_eq_false_iff_eq]
          have hrv0 : Hid (rv ≠ 0) := Lib.hid (by have := HMi.out.ok.rev.1; dsimp only at this; omega)
          clear hMi hnm
          obtain ⟨i0, hi0, hy0, hy1, hy2⟩ := info_parts Tryz.infoObjL
          have HProw : Hid (RowAt (ObjX (AD D' wr gp u16) wr) 10 wr (.slice aP' nP' cP') ((L.drop (i * mo)).take mo)) := Lib.hid ((HPr.out.1.imp' fun _ _ _ hx => famObj.mono _ _ _ _ _ _ (fun b hb => HEp.out b hb) hx).row)
          have hlp : gp < wr.heap.size := lt_of_some BP_e.out
          have hbW : BW ≤ wr.heap.size := hbw9.out
          have htl : Hid ((L.take (i * mo)).length ≤ 60) := Lib.hid (by rw [List.length_take, HnL.out]; omega)
          have htp : Hid (((L.drop (i * mo)).take mo).length ≤ 60) := Lib.hid (by rw [List.length_take, List.length_drop, HnL.out]; omega)
          go_wp2_with (at_builtin; refine wpList_append_ownAt (R := (ObjX (AD D' wr gp u16) wr)) (k := 10) (e := 30) (B := BW) (l := L.take (i * mo)) (m := (L.drop (i * mo)).take mo) _ (by rfl) _ _ _ (by rfl) i0 _ 168 Tryz.underlying45 hi0 hy0 hy1 hy2 rfl (by omega) (famObj.flat _ _) (famObj.one _ _) _ (by rfl) HAl.out.row _ (by rfl) HProw.out (by have := htl.out; have := htp.out; unfold maxLen; omega) (by have := htl.out; have := htp.out; omega) hbW ?_)
          intro v' w6 z1 z2 z3 z4
          have HAl6 := Lib.hid (HAl.out.app (fun b hb => HA_e.out.low hb) hlp z1 z2 z4)
          have hs_f := z2.size
          have HA_f := Lib.hid (HA_e.out.agree (fun b hb => z2.block b (HA_e.out.low hb) fun e => (HAl.out.own b e.symm).1 hb) z2.size)
          have HB_f := Lib.hid (HB_e.out.grown z2 HB_e.out.size (fun b hb => by have := z3 b hb; omega))
          have HH_f : Hid (Home w D' w6) := Lib.hid ⟨HH_e.out.tab, HH_e.out.max, HB_f.out, HH_e.out.own⟩
          have BP_f := Lib.hid ((z2.block gp hlp fun e => (HAl.out.own gp e.symm).2 rfl).trans BP_e.out)
          have NP_f := NP_e
          have RL_f := Lib.hid (RL_e.out.agree famObj fun b hb => z2.block b (ML_e.out b hb).1 fun e => by have := z3 b e.symm; have := HEL.out b hb; omega)
          have ML_f : Hid (∀ b, E3 b → b < w6.heap.size ∧ ¬ D' b) := Lib.hid fun b hb => ⟨Nat.lt_of_lt_of_le (ML_e.out b hb).1 hs_f, (ML_e.out b hb).2⟩
          clear z1 z2 z3 z4 HProw htl htp HA_e HB_e HH_e BP_e NP_e RL_e ML_e cp HAl HPr HEp hi0 hy0 hy1 hy2
          have cp := fun i => cell_block BP_f.out i
          have HLL : Hid (L.take (i * mo) ++ (L.drop (i * mo)).take mo = L.take ((i + 1) * mo)) := Lib.hid (by rw [show (i + 1) * mo = i * mo + mo by rw [Nat.add_mul]; omega, List.take_add])
          rw [HLL.out] at HAl6
          clear HLL
          have hwp : w.heap.size ≤ gp := hwgp.out
          by_cases hn1 : n1 = 0
          · subst hn1
            have HSt : Hid (OkSt (run S (m.take t))) := Lib.hid (okSt_run HS.out _ (fun y hy => Hok2.out y (List.mem_of_mem_take hy)) (by rw [List.length_take, HN2.out]; have := Hrev.out; omega))
            obtain ⟨mm, hmm⟩ := grow_run S (m.take t)
            have HGr := Lib.hid hmm
            clear hmm
            have HX := Lib.hid (next_any HA_f.out HSt.out ⟨kind, space, mo, rv, ls, ln⟩ HMi.out.ok (HEn.out.below HB_f.out))
            have htx : mkB (markB ⟨kind, space, mo, rv, ls, ln⟩) = MS' := by rw [← HMi.out.text, ← HMS.out, HPg.out.more]
            rw [htx] at HX
            clear htx
            obtain ⟨fe, Hfe⟩ : ∃ x, Hid (listE (run S (m.take t)) kind space rv = x) := ⟨_, Lib.hid rfl⟩
            have HX : Hid (Calls Tryz.prog 32 #[.pointer (some ⟨g, 0, none⟩), .string MS'] w6 fun e w' => Below w6.heap.size w6 w' ∧ ∃ E v' L rv2 mb, ListTold (run S (m.take t)) kind space rv L ∧ e = .returned (.tuple #[.agg #[v', .int .i64 (rv2 : Nat), .string (mkB mb)], .int .i64 fe]) ∧ OwnX ObjX 10 E w' 30 v' ((L.filter fun o => !doneB ls ln o).take mo) ∧ (∀ b, E b → w6.heap.size ≤ b ∧ b < w'.heap.size) ∧
                  (fe = 0 → rv2 = rv ∧ mb = moreB kind space mo rv (L.filter fun o => !doneB ls ln o))) := Lib.hid (by
              have h9 := HX.out
              dsimp only at h9
              rw [Hfe.out] at h9
              exact h9)
            go_wp2_with fail
            refine HX.out.mono ?_
            rintro E9 w8 ⟨hb9, E8, pv, L2, rv2, mb2, hT2, rfl, hpv, hE8, hrm2⟩
            have hlowD : Hid (∀ b, D' b → b < w6.heap.size) := Lib.hid fun b hb => HA_f.out.low hb
            have hlp8 : gp < w6.heap.size := lt_of_some BP_f.out
            have HAl8 := Lib.hid (HAl6.out.belowX hb9)
            have hown8 : Hid (∀ b, v'.ownBlock = some b → b < w6.heap.size) := Lib.hid fun b hb => (HAl6.out.row.at hb).2.1
            clear HX cp
            have hs_m := (hb9).size
            have HA_m := Lib.hid (HA_f.out.belowW hb9)
            have HB_m := Lib.hid (HB_f.out.trans ((hb9).mono HB_f.out.size))
            have HH_m := Lib.hid (HH_f.out.below hb9)
            have BP_m := Lib.hid (below_block (hb9) BP_f.out)
            have NP_m := NP_f
            have RL_m := Lib.hid (RL_f.out.agree famObj fun b hb => (hb9).block b (ML_f.out b hb).1)
            have ML_m : Hid (∀ b, E3 b → b < w8.heap.size ∧ ¬ D' b) := Lib.hid fun b hb => ⟨Nat.lt_of_lt_of_le (ML_f.out b hb).1 hs_m, (ML_f.out b hb).2⟩
            clear HA_f HB_f HH_f BP_f NP_f RL_f ML_f
            obtain ⟨aQ, cQ, rfl, -, -⟩ := hpv.own.row.len
            obtain ⟨nQ, HnQ⟩ : ∃ n, Hid (((L2.filter fun o => !doneB ls ln o).take mo).length = n) := ⟨_, Lib.hid rfl⟩
            rw [HnQ.out] at hpv ⊢
            obtain ⟨MQ, HMQ⟩ : ∃ x, Hid (mkB mb2 = x) := ⟨_, Lib.hid rfl⟩
            rw [HMQ.out]
            have HPq := Lib.hid hpv
            have HEq : Hid (∀ b, E8 b → b < w8.heap.size ∧ ¬ D' b ∧ b ≠ gp ∧ v'.ownBlock ≠ some b) := Lib.hid fun b hb => ⟨(hE8 b hb).2, fun h9 => by have := hlowD.out b h9; have := (hE8 b hb).1; omega, by have := (hE8 b hb).1; omega, fun e => by have := hown8.out b e; have := (hE8 b hb).1; omega⟩
            have Hrm2 := Lib.hid hrm2
            have HT2 := Lib.hid hT2
            clear hpv hE8 hrm2 hT2 hb9 hlowD HAl6
            go_wp2_with (refine wpList_store_box (by rfl) _ _ _ (by rfl) gp #[.slice aQ nQ cQ, .int .i64 rv2, .string MQ] (by rfl) (by rfl) _ _ (by exact BP_m.out) (by exact Tryz.sizePage) (by rfl) (by simp [Value.oneCell']) ?_)
            intro w9 b9 t9
            have BPn := Lib.hid b9
            have NPn := NP_m
            have HAl9 := Lib.hid (HAl8.out.touched t9)
            have HPq9 := Lib.hid (HPq.out.agree famObj fun b hb => t9.other b (HEq.out b hb).2.2.1)
            have hs9 := t9.size
            have hO : Only (fun b => b = gp) w8 w9 := Only.touch t9 rfl
            have hbp : w.heap.size ≤ gp := hwp
            have hs_n := (hO).size
            have hz_n := HB_m.out.size
            have HA_n := Lib.hid (HA_m.out.agree (fun b hb => (hO).block b (HA_m.out.low hb) (NPn.out b hb)) (hO).size)
            have HB_n := Lib.hid (HB_m.out.trans ((hO).below (fun b hb => by rw [hb]; exact hbp) HB_m.out.size))
            have HH_n : Hid (Home w D' w9) := Lib.hid ⟨HH_m.out.tab, HH_m.out.max, HB_n.out, HH_m.out.own⟩
            have RL_n := Lib.hid (RL_m.out.agree famObj fun b hb => (hO).block b (ML_m.out b hb).1 (HEg.out b hb))
            have ML_n : Hid (∀ b, E3 b → b < w9.heap.size ∧ ¬ D' b) := Lib.hid fun b hb => ⟨Nat.lt_of_lt_of_le (ML_m.out b hb).1 hs_n, (ML_m.out b hb).2⟩
            clear BP_m NP_m HA_m HB_m HH_m RL_m ML_m
            have BP_n := BPn
            have NP_n := NPn
            clear BPn NPn hO b9 t9 HAl8 HPq
            have hk0 : 0 < gk := by rw [HPg.out.left]; omega
            rcases list_later HGr.out HIL.out HLc.out (by rw [Hrn.out]; exact hrv0.out) (by rw [Hrn.out]; exact HT2.out) with ⟨e0, eL⟩ | e13
            · obtain rfl : fe = 0 := by rw [← Hfe.out]; rw [Hrn.out] at e0; exact e0
              have hrest := HMi.out.rest
              dsimp only at hrest
              obtain ⟨hrv2, hmb2⟩ := Hrm2.out rfl
              rw [eL, hrest] at hmb2
              have HPq' : Hid (OwnX ObjX 10 E8 w9 30 (.slice aQ nQ cQ) ((L.drop ((i + 1) * mo)).take mo)) := Lib.hid (by have h9 := HPq9.out; rw [eL, hrest] at h9; exact h9)
              have hnq : ((L.drop ((i + 1) * mo)).take mo).length = nQ := by rw [← HnQ.out, eL, hrest]
              have hlen1 : i * mo + mo < L.length := by rw [List.length_drop] at hmore; omega
              have hmul : (i + 1) * mo = i * mo + mo := by rw [Nat.add_mul]; omega
              have HPgn : Hid (PageIs S kind space mo L (i + 1) (rv2 : Int) mb2 nQ (L.length - (i + 1) * mo + 1)) := Lib.hid ⟨by rw [hrv2, Hrn.out], by rw [hmb2, Hrn.out], by omega, hnq, rfl⟩
              have hms : L.length - (i + 1) * mo + 1 < gk := by rw [HPg.out.left]; omega
              have HEq9 : Hid (∀ b, E8 b → b < w9.heap.size ∧ ¬ D' b ∧ b ≠ gp ∧ v'.ownBlock ≠ some b) := Lib.hid fun b hb => ⟨by rw [hs9]; exact (HEq.out b hb).1, (HEq.out b hb).2⟩
              clear hrv2 hmb2 hnq hrest e0 eL hlen1 hmul HPq9
              go_wp2_with fail
              go_roundg (L.length - (i + 1) * mo + 1)
              case measure => exact hms
              case rel => exact ⟨i + 1, t, D', 0, _, _, _, E8, aQ, nQ, cQ, mb2, MQ, _, rfl, rfl, by go_num, HRw, HMQ, HAl9, Lib.hid (by omega), Lib.hid (.inr ⟨rfl, HPgn.out, HPq'.out, HEq9.out⟩), HA_n, HB_n, HH_n, BP_n, NP_n, RL_n, ML_n⟩
            · obtain rfl : fe = 13 := by rw [← Hfe.out]; rw [Hrn.out] at e13; exact e13
              clear e13
              go_wp2_with fail
              go_roundg 0
              case measure => exact hk0
              case rel => exact ⟨i + 1, t, D', 13, _, _, _, E8, aQ, nQ, cQ, mb2, MQ, _, rfl, rfl, by go_num, HRw, HMQ, HAl9, Lib.hid (by omega), Lib.hid (.inl ⟨rfl, by omega⟩), HA_n, HB_n, HH_n, BP_n, NP_n, RL_n, ML_n⟩
          · have q6 : decide (0 < n1) = true := decide_eq_true (by omega)
            have hln : (m.drop t).length = n1 := by
              obtain ⟨_, _, h9, -, -⟩ := HRw.out.len
              injection h9 with _ h9 _
              exact h9.symm
            have htn : t < mn := by rw [List.length_drop, HN2.out] at hln; omega
            obtain ⟨x, hx⟩ : ∃ x, m[t]? = some x := ⟨m[t]'(by rw [HN2.out]; exact htn), List.getElem?_eq_getElem _⟩
            have hx0 : (m.drop t)[0]? = some x := by rw [List.getElem?_drop, Nat.add_zero]; exact hx
            obtain ⟨b9, o9, v1, v2, v3, hva, g1, g2, g3, ec⟩ := step_cells HRw.out hln HB_f.out hx0
            subst hva
            obtain ⟨a7, c7, rfl, -, -⟩ := g1.len
            obtain ⟨a8, c8, rfl, -, -⟩ := g2.row.len
            obtain ⟨a9, c9, rfl, -, -⟩ := g3.row.len
            obtain ⟨n7, Hn7⟩ : ∃ n, Hid (x.o.labels.length = n) := ⟨_, Lib.hid rfl⟩
            obtain ⟨n8, Hn8⟩ : ∃ n, Hid (x.o.owners.length = n) := ⟨_, Lib.hid rfl⟩
            obtain ⟨n9, Hn9⟩ : ∃ n, Hid (x.o.holds.length = n) := ⟨_, Lib.hid rfl⟩
            rw [Hn7.out] at g1 ec
            rw [Hn8.out] at g2 ec
            rw [Hn9.out] at g3 ec
            have f0 := ec 0 _ rfl
            have f1 := ec 1 _ rfl
            have f2 := ec 2 _ rfl
            have f3 := ec 3 _ rfl
            have f4 := ec 4 _ rfl
            have f5 := ec 5 _ rfl
            have f6 := ec 6 _ rfl
            have f7 := ec 7 _ rfl
            have f8 := ec 8 _ rfl
            have f9 := ec 9 _ rfl
            have f10 := ec 10 _ rfl
            have f11 := ec 11 _ rfl
            simp only [Nat.zero_mul, Nat.add_zero] at f0 f1 f2 f3 f4 f5 f6 f7 f8 f9 f10 f11
            have Hx := Lib.hid hx
            have HokX : Hid (OkObj x.o) := Lib.hid (Hok2.out x (List.mem_of_getElem? hx))
            have HSi : Hid (OkSt (run S (m.take t))) := Lib.hid (okSt_run HS.out _ (fun y hy => Hok2.out y (List.mem_of_mem_take hy)) (by rw [List.length_take, HN2.out]; have := Hrev.out; omega))
            have HSt : Hid (OkSt (run S (m.take (t + 1)))) := Lib.hid (okSt_run HS.out _ (fun y hy => Hok2.out y (List.mem_of_mem_take hy)) (by rw [List.length_take, HN2.out]; have := Hrev.out; omega))
            have Hrev9 : Hid ((run S (m.take t)).rev ≤ 4194303) := Lib.hid (by have h9 := rev_run S (m.take t); rw [List.length_take, HN2.out] at h9; have := Hrev.out; omega)
            obtain ⟨mm, hmm⟩ := grow_run S (m.take (t + 1))
            have HGr := Lib.hid hmm
            obtain ⟨ta, hta⟩ : ∃ ta, (if c1 = 1 then some ⟨b9, o9, none⟩ else some ⟨b9, o9 + 12, none⟩ : Option Addr) = ta := ⟨_, rfl⟩
            have hrw := row_from (by decide) HRw.out (m := 1) (by omega) ta (by rw [← hta]; simp [Addr.add])
            rw [List.drop_drop] at hrw
            obtain ⟨n2, hn2⟩ : ∃ n2, n1 - 1 = n2 := ⟨_, rfl⟩
            obtain ⟨c2, hc2⟩ : ∃ c2, c1 - 1 = c2 := ⟨_, rfl⟩
            rw [hn2, hc2] at hrw
            have HRw2 := Lib.hid hrw
            have hlc1 : n1 ≤ c1 := by
              obtain ⟨_, _, h9, h8, -⟩ := HRw.out.len
              injection h9 with _ _ h9
              omega
            have q7 : (1 : Int) ≤ (n1 : Int) := by omega
            have q8 : (0 : Int) < (n1 : Int) := by omega
            have HDo := Lib.hid (do_any (w0 := w) HA_f.out HH_f.out HSi.out Hrev9.out x (.slice a7 n7 c7) (.slice a8 n8 c8) (.slice a9 n9 c9) g1 g2 g3 HokX.out)
            rw [show stepW x (.slice a7 n7 c7) (.slice a8 n8 c8) (.slice a9 n9 c9) = .agg #[.int .i64 x.kind, .int .i64 x.rev, .string x.o.okey.kind, .string x.o.okey.space, .string x.o.okey.name, .slice a7 n7 c7, .slice a8 n8 c8, .slice a9 n9 c9, .bool x.o.ending, .string x.o.uid, .int .i64 x.o.rev, .string x.o.doc] from rfl] at HDo
            clear hmm hrw hx hx0 ec g1 g2 g3 hln htn hlc1
            go_wp2_with fail
            refine HDo.out.mono ?_
            rintro E w7 ⟨D9, E9, u1, u2, u3, rfl, k1, k2, k3, k4, k5⟩
            clear HDo cp f0 f1 f2 f3 f4 f5 f6 f7 f8 f9 f10 f11
            have HAl7 := Lib.hid (HAl6.out.only k5 k4)
            have hlpf := lt_of_some BP_f.out
            have hs_g := k5.size
            have hz_g := HB_f.out.size
            have HA_g : Hid (StoreAt D9 w7 g (run S (m.take (t + 1)))) := Lib.hid (by rw [take_snoc Hx.out, run_snoc]; exact k1)
            have HB_g := Lib.hid (HB_f.out.trans (k5.below HH_f.out.own HB_f.out.size))
            have HH_g := Lib.hid (HH_f.out.only k5 k4)
            have BP_g := Lib.hid ((k5.block gp (by omega) fun hm => NP_f.out gp hm rfl).trans BP_f.out)
            have NP_g : Hid (∀ b, D9 b → b ≠ gp) := Lib.hid fun b hb e => (k4 b hb).elim (fun h => NP_f.out b h e) fun h => by omega
            have RL_g := Lib.hid (RL_f.out.agree famObj (k5.agree ML_f.out))
            have ML_g : Hid (∀ b, E3 b → b < w7.heap.size ∧ ¬ D9 b) := Lib.hid fun b hb => ⟨Nat.lt_of_lt_of_le (ML_f.out b hb).1 hs_g, fun h9 => (k4 b h9).elim (ML_f.out b hb).2 fun h => by have := (ML_f.out b hb).1; omega⟩
            clear HA_f HB_f HH_f BP_f NP_f RL_f ML_f
            clear k1 k2 k3 k4 k5 HAl6
            have cp := fun i => cell_block BP_g.out i
            go_upto_region 22 with fail
            clear hta hn2 hc2 q7 q8
            have HX := Lib.hid (next_any HA_g.out HSt.out ⟨kind, space, mo, rv, ls, ln⟩ HMi.out.ok (HEn.out.below HB_g.out))
            have htx : mkB (markB ⟨kind, space, mo, rv, ls, ln⟩) = MS' := by rw [← HMi.out.text, ← HMS.out, HPg.out.more]
            rw [htx] at HX
            clear htx
            obtain ⟨fe, Hfe⟩ : ∃ x, Hid (listE (run S (m.take (t + 1))) kind space rv = x) := ⟨_, Lib.hid rfl⟩
            have HX : Hid (Calls Tryz.prog 32 #[.pointer (some ⟨g, 0, none⟩), .string MS'] w7 fun e w' => Below w7.heap.size w7 w' ∧ ∃ E v' L rv2 mb, ListTold (run S (m.take (t + 1))) kind space rv L ∧ e = .returned (.tuple #[.agg #[v', .int .i64 (rv2 : Nat), .string (mkB mb)], .int .i64 fe]) ∧ OwnX ObjX 10 E w' 30 v' ((L.filter fun o => !doneB ls ln o).take mo) ∧ (∀ b, E b → w7.heap.size ≤ b ∧ b < w'.heap.size) ∧
                  (fe = 0 → rv2 = rv ∧ mb = moreB kind space mo rv (L.filter fun o => !doneB ls ln o))) := Lib.hid (by
              have h9 := HX.out
              dsimp only at h9
              rw [Hfe.out] at h9
              exact h9)
            go_wp2_with fail
            refine HX.out.mono ?_
            rintro E9 w8 ⟨hb9, E8, pv, L2, rv2, mb2, hT2, rfl, hpv, hE8, hrm2⟩
            have hlowD : Hid (∀ b, D9 b → b < w7.heap.size) := Lib.hid fun b hb => HA_g.out.low hb
            have hlp8 : gp < w7.heap.size := lt_of_some BP_g.out
            have HAl8 := Lib.hid (HAl7.out.belowX hb9)
            have hown8 : Hid (∀ b, v'.ownBlock = some b → b < w7.heap.size) := Lib.hid fun b hb => (HAl7.out.row.at hb).2.1
            clear HX cp
            have hs_m := (hb9).size
            have HA_m := Lib.hid (HA_g.out.belowW hb9)
            have HB_m := Lib.hid (HB_g.out.trans ((hb9).mono HB_g.out.size))
            have HH_m := Lib.hid (HH_g.out.below hb9)
            have BP_m := Lib.hid (below_block (hb9) BP_g.out)
            have NP_m := NP_g
            have RL_m := Lib.hid (RL_g.out.agree famObj fun b hb => (hb9).block b (ML_g.out b hb).1)
            have ML_m : Hid (∀ b, E3 b → b < w8.heap.size ∧ ¬ D9 b) := Lib.hid fun b hb => ⟨Nat.lt_of_lt_of_le (ML_g.out b hb).1 hs_m, (ML_g.out b hb).2⟩
            clear HA_g HB_g HH_g BP_g NP_g RL_g ML_g
            obtain ⟨aQ, cQ, rfl, -, -⟩ := hpv.own.row.len
            obtain ⟨nQ, HnQ⟩ : ∃ n, Hid (((L2.filter fun o => !doneB ls ln o).take mo).length = n) := ⟨_, Lib.hid rfl⟩
            rw [HnQ.out] at hpv ⊢
            obtain ⟨MQ, HMQ⟩ : ∃ x, Hid (mkB mb2 = x) := ⟨_, Lib.hid rfl⟩
            rw [HMQ.out]
            have HPq := Lib.hid hpv
            have HEq : Hid (∀ b, E8 b → b < w8.heap.size ∧ ¬ D9 b ∧ b ≠ gp ∧ v'.ownBlock ≠ some b) := Lib.hid fun b hb => ⟨(hE8 b hb).2, fun h9 => by have := hlowD.out b h9; have := (hE8 b hb).1; omega, by have := (hE8 b hb).1; omega, fun e => by have := hown8.out b e; have := (hE8 b hb).1; omega⟩
            have Hrm2 := Lib.hid hrm2
            have HT2 := Lib.hid hT2
            clear hpv hE8 hrm2 hT2 hb9 hlowD HAl7
            go_wp2_with (refine wpList_store_box (by rfl) _ _ _ (by rfl) gp #[.slice aQ nQ cQ, .int .i64 rv2, .string MQ] (by rfl) (by rfl) _ _ (by exact BP_m.out) (by exact Tryz.sizePage) (by rfl) (by simp [Value.oneCell']) ?_)
            intro w9 b9 t9
            have BPn := Lib.hid b9
            have NPn := NP_m
            have HAl9 := Lib.hid (HAl8.out.touched t9)
            have HPq9 := Lib.hid (HPq.out.agree famObj fun b hb => t9.other b (HEq.out b hb).2.2.1)
            have hs9 := t9.size
            have hO : Only (fun b => b = gp) w8 w9 := Only.touch t9 rfl
            have hbp : w.heap.size ≤ gp := hwp
            have hs_n := (hO).size
            have hz_n := HB_m.out.size
            have HA_n := Lib.hid (HA_m.out.agree (fun b hb => (hO).block b (HA_m.out.low hb) (NPn.out b hb)) (hO).size)
            have HB_n := Lib.hid (HB_m.out.trans ((hO).below (fun b hb => by rw [hb]; exact hbp) HB_m.out.size))
            have HH_n : Hid (Home w D9 w9) := Lib.hid ⟨HH_m.out.tab, HH_m.out.max, HB_n.out, HH_m.out.own⟩
            have RL_n := Lib.hid (RL_m.out.agree famObj fun b hb => (hO).block b (ML_m.out b hb).1 (HEg.out b hb))
            have ML_n : Hid (∀ b, E3 b → b < w9.heap.size ∧ ¬ D9 b) := Lib.hid fun b hb => ⟨Nat.lt_of_lt_of_le (ML_m.out b hb).1 hs_n, (ML_m.out b hb).2⟩
            clear BP_m NP_m HA_m HB_m HH_m RL_m ML_m
            have BP_n := BPn
            have NP_n := NPn
            clear BPn NPn hO b9 t9 HAl8 HPq
            have hk0 : 0 < gk := by rw [HPg.out.left]; omega
            rcases list_later HGr.out HIL.out HLc.out (by rw [Hrn.out]; exact hrv0.out) (by rw [Hrn.out]; exact HT2.out) with ⟨e0, eL⟩ | e13
            · obtain rfl : fe = 0 := by rw [← Hfe.out]; rw [Hrn.out] at e0; exact e0
              have hrest := HMi.out.rest
              dsimp only at hrest
              obtain ⟨hrv2, hmb2⟩ := Hrm2.out rfl
              rw [eL, hrest] at hmb2
              have HPq' : Hid (OwnX ObjX 10 E8 w9 30 (.slice aQ nQ cQ) ((L.drop ((i + 1) * mo)).take mo)) := Lib.hid (by have h9 := HPq9.out; rw [eL, hrest] at h9; exact h9)
              have hnq : ((L.drop ((i + 1) * mo)).take mo).length = nQ := by rw [← HnQ.out, eL, hrest]
              have hlen1 : i * mo + mo < L.length := by rw [List.length_drop] at hmore; omega
              have hmul : (i + 1) * mo = i * mo + mo := by rw [Nat.add_mul]; omega
              have HPgn : Hid (PageIs S kind space mo L (i + 1) (rv2 : Int) mb2 nQ (L.length - (i + 1) * mo + 1)) := Lib.hid ⟨by rw [hrv2, Hrn.out], by rw [hmb2, Hrn.out], by omega, hnq, rfl⟩
              have hms : L.length - (i + 1) * mo + 1 < gk := by rw [HPg.out.left]; omega
              have HEq9 : Hid (∀ b, E8 b → b < w9.heap.size ∧ ¬ D9 b ∧ b ≠ gp ∧ v'.ownBlock ≠ some b) := Lib.hid fun b hb => ⟨by rw [hs9]; exact (HEq.out b hb).1, (HEq.out b hb).2⟩
              clear hrv2 hmb2 hnq hrest e0 eL hlen1 hmul HPq9
              go_wp2_with fail
              go_roundg (L.length - (i + 1) * mo + 1)
              case measure => exact hms
              case rel => exact ⟨i + 1, t + 1, D9, 0, _, _, _, E8, aQ, nQ, cQ, mb2, MQ, _, rfl, rfl, by go_num, HRw2, HMQ, HAl9, Lib.hid (by omega), Lib.hid (.inr ⟨rfl, HPgn.out, HPq'.out, HEq9.out⟩), HA_n, HB_n, HH_n, BP_n, NP_n, RL_n, ML_n⟩
            · obtain rfl : fe = 13 := by rw [← Hfe.out]; rw [Hrn.out] at e13; exact e13
              clear e13
              go_wp2_with fail
              go_roundg 0
              case measure => exact hk0
              case rel => exact ⟨i + 1, t + 1, D9, 13, _, _, _, E8, aQ, nQ, cQ, mb2, MQ, _, rfl, rfl, by go_num, HRw2, HMQ, HAl9, Lib.hid (by omega), Lib.hid (.inl ⟨rfl, by omega⟩), HA_n, HB_n, HH_n, BP_n, NP_n, RL_n, ML_n⟩
        · have hmore2 : (L.drop (i * mo)).length ≤ mo := by omega
          have hemp : MS'.toList.isEmpty = true := by rw [← HMS.out, HPg.out.more, more_no (by omega), Lib.toList_data, mkB_list]; rfl
          obtain ⟨i0, hi0, hy0, hy1, hy2⟩ := info_parts Tryz.infoObjL
          have HProw : Hid (RowAt (ObjX (AD D' wr gp u16) wr) 10 wr (.slice aP' nP' cP') ((L.drop (i * mo)).take mo)) := Lib.hid ((HPr.out.1.imp' fun _ _ _ hx => famObj.mono _ _ _ _ _ _ (fun b hb => HEp.out b hb) hx).row)
          have hlp : gp < wr.heap.size := lt_of_some BP_e.out
          have hbW : BW ≤ wr.heap.size := hbw9.out
          have htl : Hid ((L.take (i * mo)).length ≤ 60) := Lib.hid (by rw [List.length_take, HnL.out]; omega)
          have htp : Hid (((L.drop (i * mo)).take mo).length ≤ 60) := Lib.hid (by rw [List.length_take, List.length_drop, HnL.out]; omega)
          go_wp2_with (at_builtin; refine wpList_append_ownAt (R := (ObjX (AD D' wr gp u16) wr)) (k := 10) (e := 30) (B := BW) (l := L.take (i * mo)) (m := (L.drop (i * mo)).take mo) _ (by rfl) _ _ _ (by rfl) i0 _ 168 Tryz.underlying45 hi0 hy0 hy1 hy2 rfl (by omega) (famObj.flat _ _) (famObj.one _ _) _ (by rfl) HAl.out.row _ (by rfl) HProw.out (by have := htl.out; have := htp.out; unfold maxLen; omega) (by have := htl.out; have := htp.out; omega) hbW ?_)
          intro v' w6 z1 z2 z3 z4
          have HAl6 := Lib.hid (HAl.out.app (fun b hb => HA_e.out.low hb) hlp z1 z2 z4)
          have hs_f := z2.size
          have HA_f := Lib.hid (HA_e.out.agree (fun b hb => z2.block b (HA_e.out.low hb) fun e => (HAl.out.own b e.symm).1 hb) z2.size)
          have HB_f := Lib.hid (HB_e.out.grown z2 HB_e.out.size (fun b hb => by have := z3 b hb; omega))
          have HH_f : Hid (Home w D' w6) := Lib.hid ⟨HH_e.out.tab, HH_e.out.max, HB_f.out, HH_e.out.own⟩
          have BP_f := Lib.hid ((z2.block gp hlp fun e => (HAl.out.own gp e.symm).2 rfl).trans BP_e.out)
          have NP_f := NP_e
          have RL_f := Lib.hid (RL_e.out.agree famObj fun b hb => z2.block b (ML_e.out b hb).1 fun e => by have := z3 b e.symm; have := HEL.out b hb; omega)
          have ML_f : Hid (∀ b, E3 b → b < w6.heap.size ∧ ¬ D' b) := Lib.hid fun b hb => ⟨Nat.lt_of_lt_of_le (ML_e.out b hb).1 hs_f, (ML_e.out b hb).2⟩
          clear z1 z2 z3 z4 HProw htl htp HA_e HB_e HH_e BP_e NP_e RL_e ML_e cp HAl HPr HEp hi0 hy0 hy1 hy2
          have cp := fun i => cell_block BP_f.out i
          have HLL : Hid (L.take (i * mo) ++ (L.drop (i * mo)).take mo = L) := Lib.hid (by rw [List.take_of_length_le (l := L.drop (i * mo)) (by omega), List.take_append_drop])
          rw [HLL.out] at HAl6
          obtain ⟨aA, cA, rfl, -, -⟩ := HAl6.out.row.row.len
          rw [HnL.out]
          have okL : Hid (∀ o ∈ L, OkObj o) := Lib.hid fun o ho => by
            obtain ⟨e, he1, he2⟩ := cur_mem ((HIL.out.2 o).1 ho).2
            exact he2 ▸ HS.out.obj e he1
          have HC : Hid (Calls Tryz.prog 24 #[.slice aA nL cA, .slice aL nL cL, .func (.func 19) #[] #[]] w6 fun e w' => e = .returned (.bool true) ∧ Below w6.heap.size w6 w') := Lib.hid (by
            have h9 : RowAt ObjectR 10 w6 (.slice aA L.length cA) L := (HAl6.out.row.imp' fun cs x hx ⟨v1, v2, v3, e, hi⟩ => ⟨v1, v2, v3, e, hi.rowL, hi.rowO, hi.rowH, (okL.out x hx).rev⟩).row
            rw [HnL.out] at h9
            exact sameObjSs_yes (.slice aA nL cA) (.slice aL nL cL) L w6 h9 (objs_row RL_f.out okL.out) (by rw [HnL.out]; omega) okL.out)
          clear HAl6 HLL hmore
          go_wp2_with fail
          refine HC.out.mono ?_
          rintro E w7 ⟨rfl, hb7⟩
          have HB7 := Lib.hid (HB_f.out.trans (hb7.mono HB_f.out.size))
          clear hb7 HC cp
          go_wp2_with fail
          go_ret
          exact ⟨by first | rfl | simp, HB7.out⟩
  · have q0 : (la != 0) = true := bne_iff_ne.2 hla
    have q1 : (la == la) = true := beq_self_eq_true _
    clear hla
    go_wp2_with fail
    go_ret
    exact ⟨by first | rfl | simp, HB_d.out⟩
end Sto
end Go.Proofs.YtnnceaapodgfbaaGreatDoor
