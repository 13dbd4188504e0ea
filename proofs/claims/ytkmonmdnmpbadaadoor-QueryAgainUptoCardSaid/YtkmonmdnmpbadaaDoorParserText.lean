/- query.text: its contract. -/
import Derived.Test.YtkmonmdnmpbadaaDoorParseLaws
import Derived.Test.YtkmonmdnmpbadaaDoorParserPart
import Derived.Test.YtkmonmdnmpbadaaDoorHold
import Derived.Test.YtkmonmdnmpbadaaDoorQueryCheck
namespace Go.Proofs.YtkmonmdnmpbadaaDoor
open Go.RowKit
open QP

theorem key_short {s : ByteArray} (h : keyE s = 0) : s.size ≤ 64 := by
  unfold keyE NameP.checkKey at h
  have := (judge_zero h).1
  have hl : s.data.toList.length = s.size := by simp
  omega
theorem val_short' {s : ByteArray} (h : valE s = 0) : s.size ≤ 63 := by
  unfold valE NameP.checkVal at h
  have := (judge_zero h).1
  have hl : s.data.toList.length = s.size := by simp
  omega
theorem valsT_len : ∀ l : List ByteArray, (∀ v ∈ l, v.size ≤ 63) → (valsT l).length ≤ 64 * l.length
  | [], _ => by simp [valsT, Lib.join, List.intercalate]
  | [v], h => by
    have h1 := h v (List.mem_cons_self ..)
    have hl : v.data.toList.length = v.size := by simp
    rw [show valsT [v] = v.data.toList from join_one _ _, hl]
    simp; omega
  | v :: x :: r, h => by
    have h1 := h v (List.mem_cons_self ..)
    have hl : v.data.toList.length = v.size := by simp
    have ih := valsT_len (x :: r) (fun y hy => h y (List.mem_cons_of_mem _ hy))
    have h2 : valsT (v :: x :: r) = v.data.toList ++ ([44] ++ valsT (x :: r)) := join_more _ _ _ _
    rw [h2]
    simp only [List.length_append, List.length_cons, List.length_nil] at ih ⊢
    omega
theorem str_mk {a : ByteArray} {l : List UInt8} (h : a.data.toList = l) : a = ⟨l.toArray⟩ := by subst h; cases a; simp
theorem ret_text {a : ByteArray} {l : List UInt8} (h : a.data.toList = l) : Ending.returned (.string a) = .returned (.string ⟨l.toArray⟩) := by rw [str_mk h]
theorem join_strs {w : World} {v : Value} {l : List ByteArray} (h : RowAt RString 1 w v l) (hl : l.length ≤ 8) (h1 : ∀ x ∈ l, x.size ≤ 63) :
    Calls Tryd.prog 23 #[v, .string ⟨#[44]⟩] w fun e w' => e = .returned (.string ⟨(valsT l).toArray⟩) ∧ Below w.heap.size w w' := by
  have hlen := valsT_len l h1
  by_cases h0 : 0 < l.length
  · obtain ⟨b, o, c, rfl, hc, _, hbs, hcell⟩ := h.form h0 (by omega)
    refine Tryd.strings_Join b o c l ⟨#[44]⟩ w (fun j x hx => ?_) hbs (by omega) hc ?_
    · obtain ⟨cs, _, h2, h3⟩ := hcell j x hx
      rw [h3] at h2
      have := h2 0 _ rfl
      simpa using this
    · show (valsT l).length ≤ _; omega
  · have hn : l = [] := List.eq_nil_of_length_eq_zero (by omega)
    subst hn
    obtain ⟨a, c, rfl, _, _⟩ := h.len
    refine (Tryd.strings_Join_none a c ⟨#[44]⟩ w).mono ?_
    rintro e w' ⟨rfl, rfl⟩
    exact ⟨rfl, Below.refl _ _⟩
theorem below_drewN2 {B : Nat} {a w : World} (h : Below B a w) (n : Nat) : Below B a (w.drewN n) := ⟨h.os, h.tape, h.output, h.size, h.block⟩
theorem below_drew1 (w : World) : Below w.heap.size w w.drew := ⟨rfl, rfl, rfl, Nat.le_refl _, fun _ _ => rfl⟩
set_option maxRecDepth 100000 in
set_option maxHeartbeats 6400000 in
theorem text_any (q : GReq) (v2 : Value) (w : World) (h : RowAt RString 1 w v2 q.vals) (hq : reqE q = 0) :
    Calls Tryd.prog 22 #[.agg #[.string q.key, .int .i64 q.kind, v2]] w fun e w' => e = .returned (.string ⟨(textT q).toArray⟩) ∧ Below w.heap.size w w' := by
  obtain ⟨hk, k1, k4, hls, hl, hv⟩ := reqE_parts hq
  obtain ⟨key, kd, vals⟩ := q
  dsimp only at h hk k1 k4 hls hl hv ⊢
  have hks := key_short hk
  have hvs : ∀ x ∈ vals, x.size ≤ 63 := fun x hx => val_short' (hv x hx)
  obtain ⟨av, cv, rfl, _, _⟩ := h.len
  obtain ⟨T, HT⟩ : ∃ T, Hid (textT ⟨key, kd, vals⟩ = T) := ⟨_, Lib.hid rfl⟩
  rw [HT.out]
  obtain ⟨nv, hnv⟩ : ∃ nv, vals.length = nv := ⟨_, rfl⟩
  rw [hnv] at h ⊢
  obtain ⟨W, hW⟩ : ∃ W, W = w.alloc (.cells #[.string key, .int .i64 kd, .slice av nv cv] 33) := ⟨_, rfl⟩
  have b1 : W.heap[w.heap.size]? = some (.cells #[.string key, .int .i64 kd, .slice av nv cv] 33 (0, 0)) := by rw [hW]; exact heap_alloc_new w _
  have hb1 : Below w.heap.size w W := by rw [hW]; exact (Below.refl _ w).alloc (Nat.le_refl _) _
  have hrow := h.below stays_string hb1
  have hws := block_lt b1
  have cc := fun i => cell_block b1 i
  have Hrow := Lib.hid hrow
  have Hb := Lib.hid hb1
  have Hvs := Lib.hid hvs
  have Hnv := Lib.hid hnv
  have hvt := valsT_len vals hvs
  rw [hnv] at hls hl hvt
  clear hrow hb1 hvs h b1 hnv
  have way : kd = 3 ∨ kd = 4 ∨ kd = 1 ∨ kd = 2 := by omega
  rcases way with rfl | rfl | rfl | rfl
  · have HT2 : Hid (key.data.toList = T) := Lib.hid (by rw [← HT.out]; rfl)
    clear hk k1 k4 hls hv HT hvt
    go_enter Tryd.func22, Tryd.ntmps22
    go_upto_region 1 with fail
    rw [← hW]
    clear hW
    go_wp2_with fail
    go_ret
    exact ⟨ret_text HT2.out, Hb.out⟩
  · have HT2 : Hid ((⟨#[33]⟩ ++ key : ByteArray).data.toList = T) := Lib.hid (by rw [← HT.out]; simp [textT])
    have q1 : ¬ 9223372036854775807 < 1 + key.size := by omega
    clear hk k1 k4 hls hv HT hvt
    go_enter Tryd.func22, Tryd.ntmps22
    go_upto_region 1 with fail
    rw [← hW]
    clear hW
    go_wp2_with fail
    go_ret
    exact ⟨ret_text HT2.out, Hb.out⟩
  · by_cases c1 : nv = 1
    · subst c1
      obtain ⟨v, rfl⟩ := vals_one Hnv.out
      obtain ⟨b, o, c, hv, _, _, hbs, hcell⟩ := Hrow.out.form (by simp) (by omega)
      injection hv with u1 u2 u3
      subst u1
      clear u2 u3
      obtain ⟨ds, _, hcc, hR⟩ := hcell 0 v rfl
      obtain rfl : ds = [.string v] := hR
      have e0 : W.cell? ⟨b, o, none⟩ = some (.string v) := by simpa using hcc 0 _ rfl
      have hvsz := Hvs.out v (List.mem_cons_self ..)
      have HT2 : Hid ((key ++ ⟨#[61]⟩ ++ v : ByteArray).data.toList = T) := Lib.hid (by
        rw [← HT.out]
        simp [textT, show valsT [v] = v.data.toList from join_one _ _])
      have q1 : ¬ 9223372036854775807 < key.size + 1 := by omega
      have q2 : ¬ 9223372036854775807 < key.size + 1 + v.size := by omega
      clear hk k1 k4 hls HT hcc hcell hvt
      go_enter Tryd.func22, Tryd.ntmps22
      go_upto_region 1 with fail
      rw [← hW]
      clear hW
      go_wp2_with fail
      go_quiet (fail)
      go_wp2_with fail
      go_ret
      exact ⟨ret_text HT2.out, below_drewN2 Hb.out _⟩
    · have q0 : ((nv : Int) == 1) = false := by rw [beq_eq_false_iff_ne]; omega
      have HT2 : Hid ((key ++ ⟨#[32, 105, 110, 32, 40]⟩ ++ ⟨(valsT vals).toArray⟩ ++ ⟨#[41]⟩ : ByteArray).data.toList = T) := Lib.hid (by
        rw [← HT.out]
        have h9 : vals.length ≠ 1 := by rw [Hnv.out]; exact c1
        simp [textT, h9])
      obtain ⟨J, HJ⟩ : ∃ J : ByteArray, Hid ((⟨(valsT vals).toArray⟩ : ByteArray) = J) := ⟨_, Lib.hid rfl⟩
      have hJ : J.size ≤ 512 := by rw [← HJ.out]; show (valsT vals).toArray.size ≤ _; rw [List.size_toArray]; omega
      rw [HJ.out] at HT2
      have q1 : ¬ 9223372036854775807 < key.size + 5 := by omega
      have q2 : ¬ 9223372036854775807 < key.size + 5 + J.size := by omega
      have q3 : ¬ 9223372036854775807 < key.size + 5 + J.size + 1 := by omega
      have hJoin : ∀ w', Below W.heap.size W w' → Calls Tryd.prog 23 #[.slice av nv cv, .string ⟨#[44]⟩] w' fun e w'' => e = .returned (.string J) ∧ Below w'.heap.size w' w'' := fun w' hb => by
        have := join_strs (Hrow.out.below stays_string hb) (by rw [Hnv.out]; omega) Hvs.out
        rw [HJ.out] at this
        exact this
      have HJoin := Lib.hid hJoin
      clear hk k1 k4 hls hv HT hvt hJoin c1
      go_enter Tryd.func22, Tryd.ntmps22
      go_upto_region 1 with fail
      rw [← hW]
      clear hW
      go_upto_region 8 with fail
      refine wp_region_hold 8 (fun w' => Below W.heap.size W w') (by kernel_rfl) (by kernel_rfl) ?_ ?_
      · exact below_drew1 W
      simp only [List.take_succ_cons, List.take_zero, List.drop_succ_cons, List.drop_zero]
      (first | (refine wpHold_pure (v := ?_) (by rfl) (fun w => ?_) ?_; rotate_left; focus (first | (go_simp; done) | (go_simp; with_reducible rfl))) | (refine wpHold_skip ?_ ?_; focus (go_simp; done)) | (refine wpHold_pure' (v := ?_) ?_ (fun w => ?_) ?_; rotate_left; focus (go_simp; done); focus (first | (go_simp; done) | (go_simp; with_reducible rfl)))); try simp only [Act.put, List.setIfInBounds_toArray, List.set_cons_zero, List.set_cons_succ]
      refine wpHold_read (v := .string key) (by rfl) (fun w' hI => ?_) ?_
      · have dd := fun i => (hI.cell (p := ⟨w.heap.size, i, none⟩) hws).trans (cc i)
        go_simp
        done
      try simp only [Act.put, List.setIfInBounds_toArray, List.set_cons_zero, List.set_cons_succ]
      (first | (refine wpHold_pure (v := ?_) (by rfl) (fun w => ?_) ?_; rotate_left; focus (first | (go_simp; done) | (go_simp; with_reducible rfl))) | (refine wpHold_skip ?_ ?_; focus (go_simp; done)) | (refine wpHold_pure' (v := ?_) ?_ (fun w => ?_) ?_; rotate_left; focus (go_simp; done); focus (first | (go_simp; done) | (go_simp; with_reducible rfl)))); try simp only [Act.put, List.setIfInBounds_toArray, List.set_cons_zero, List.set_cons_succ]
      (first | (refine wpHold_pure (v := ?_) (by rfl) (fun w => ?_) ?_; rotate_left; focus (first | (go_simp; done) | (go_simp; with_reducible rfl))) | (refine wpHold_skip ?_ ?_; focus (go_simp; done)) | (refine wpHold_pure' (v := ?_) ?_ (fun w => ?_) ?_; rotate_left; focus (go_simp; done); focus (first | (go_simp; done) | (go_simp; with_reducible rfl)))); try simp only [Act.put, List.setIfInBounds_toArray, List.set_cons_zero, List.set_cons_succ]
      refine wpHold_read (v := .slice av nv cv) (by rfl) (fun w' hI => ?_) ?_
      · have dd := fun i => (hI.cell (p := ⟨w.heap.size, i, none⟩) hws).trans (cc i)
        go_simp
        done
      try simp only [Act.put, List.setIfInBounds_toArray, List.set_cons_zero, List.set_cons_succ]
      refine wpHold_call (v := .string J) (f := 23) (args := #[.slice av nv cv, .string ⟨#[44]⟩]) (by rfl) (fun w' => ?_) (fun w' hI => ?_) ?_
      · go_simp
        done
      · exact (HJoin.out w' hI).mono fun e w'' ⟨h1, h2⟩ => ⟨h1, below_then hI h2⟩
      try simp only [Act.put, List.setIfInBounds_toArray, List.set_cons_zero, List.set_cons_succ]
      repeat ((first | (refine wpHold_pure (v := ?_) (by rfl) (fun w => ?_) ?_; rotate_left; focus (first | (go_simp; done) | (go_simp; with_reducible rfl))) | (refine wpHold_skip ?_ ?_; focus (go_simp; done)) | (refine wpHold_pure' (v := ?_) ?_ (fun w => ?_) ?_; rotate_left; focus (go_simp; done); focus (first | (go_simp; done) | (go_simp; with_reducible rfl)))); try simp only [Act.put, List.setIfInBounds_toArray, List.set_cons_zero, List.set_cons_succ])
      refine wpHold_nil ?_
      intro w' hI
      have Hb2 := Lib.hid (Hb.out.trans (hI.mono Hb.out.size))
      clear hI
      go_wp2_with fail
      go_ret
      exact ⟨ret_text HT2.out, Hb2.out⟩
  · by_cases c1 : nv = 1
    · subst c1
      obtain ⟨v, rfl⟩ := vals_one Hnv.out
      obtain ⟨b, o, c, hv, _, _, hbs, hcell⟩ := Hrow.out.form (by simp) (by omega)
      injection hv with u1 u2 u3
      subst u1
      clear u2 u3
      obtain ⟨ds, _, hcc, hR⟩ := hcell 0 v rfl
      obtain rfl : ds = [.string v] := hR
      have e0 : W.cell? ⟨b, o, none⟩ = some (.string v) := by simpa using hcc 0 _ rfl
      have hvsz := Hvs.out v (List.mem_cons_self ..)
      have HT2 : Hid ((key ++ ⟨#[33, 61]⟩ ++ v : ByteArray).data.toList = T) := Lib.hid (by
        rw [← HT.out]
        simp [textT, show valsT [v] = v.data.toList from join_one _ _])
      have q1 : ¬ 9223372036854775807 < key.size + 2 := by omega
      have q2 : ¬ 9223372036854775807 < key.size + 2 + v.size := by omega
      clear hk k1 k4 hls HT hcc hcell hvt
      go_enter Tryd.func22, Tryd.ntmps22
      go_upto_region 1 with fail
      rw [← hW]
      clear hW
      go_wp2_with fail
      go_quiet (fail)
      go_wp2_with fail
      go_ret
      exact ⟨ret_text HT2.out, below_drewN2 Hb.out _⟩
    · have q0 : ((nv : Int) == 1) = false := by rw [beq_eq_false_iff_ne]; omega
      have HT2 : Hid ((key ++ ⟨#[32, 110, 111, 116, 105, 110, 32, 40]⟩ ++ ⟨(valsT vals).toArray⟩ ++ ⟨#[41]⟩ : ByteArray).data.toList = T) := Lib.hid (by
        rw [← HT.out]
        have h9 : vals.length ≠ 1 := by rw [Hnv.out]; exact c1
        simp [textT, h9])
      obtain ⟨J, HJ⟩ : ∃ J : ByteArray, Hid ((⟨(valsT vals).toArray⟩ : ByteArray) = J) := ⟨_, Lib.hid rfl⟩
      have hJ : J.size ≤ 512 := by rw [← HJ.out]; show (valsT vals).toArray.size ≤ _; rw [List.size_toArray]; omega
      rw [HJ.out] at HT2
      have q1 : ¬ 9223372036854775807 < key.size + 8 := by omega
      have q2 : ¬ 9223372036854775807 < key.size + 8 + J.size := by omega
      have q3 : ¬ 9223372036854775807 < key.size + 8 + J.size + 1 := by omega
      have hJoin : ∀ w', Below W.heap.size W w' → Calls Tryd.prog 23 #[.slice av nv cv, .string ⟨#[44]⟩] w' fun e w'' => e = .returned (.string J) ∧ Below w'.heap.size w' w'' := fun w' hb => by
        have := join_strs (Hrow.out.below stays_string hb) (by rw [Hnv.out]; omega) Hvs.out
        rw [HJ.out] at this
        exact this
      have HJoin := Lib.hid hJoin
      clear hk k1 k4 hls hv HT hvt hJoin c1
      go_enter Tryd.func22, Tryd.ntmps22
      go_upto_region 1 with fail
      rw [← hW]
      clear hW
      go_upto_region 11 with fail
      refine wp_region_hold 8 (fun w' => Below W.heap.size W w') (by kernel_rfl) (by kernel_rfl) ?_ ?_
      · exact below_drew1 W
      simp only [List.take_succ_cons, List.take_zero, List.drop_succ_cons, List.drop_zero]
      (first | (refine wpHold_pure (v := ?_) (by rfl) (fun w => ?_) ?_; rotate_left; focus (first | (go_simp; done) | (go_simp; with_reducible rfl))) | (refine wpHold_skip ?_ ?_; focus (go_simp; done)) | (refine wpHold_pure' (v := ?_) ?_ (fun w => ?_) ?_; rotate_left; focus (go_simp; done); focus (first | (go_simp; done) | (go_simp; with_reducible rfl)))); try simp only [Act.put, List.setIfInBounds_toArray, List.set_cons_zero, List.set_cons_succ]
      refine wpHold_read (v := .string key) (by rfl) (fun w' hI => ?_) ?_
      · have dd := fun i => (hI.cell (p := ⟨w.heap.size, i, none⟩) hws).trans (cc i)
        go_simp
        done
      try simp only [Act.put, List.setIfInBounds_toArray, List.set_cons_zero, List.set_cons_succ]
      (first | (refine wpHold_pure (v := ?_) (by rfl) (fun w => ?_) ?_; rotate_left; focus (first | (go_simp; done) | (go_simp; with_reducible rfl))) | (refine wpHold_skip ?_ ?_; focus (go_simp; done)) | (refine wpHold_pure' (v := ?_) ?_ (fun w => ?_) ?_; rotate_left; focus (go_simp; done); focus (first | (go_simp; done) | (go_simp; with_reducible rfl)))); try simp only [Act.put, List.setIfInBounds_toArray, List.set_cons_zero, List.set_cons_succ]
      (first | (refine wpHold_pure (v := ?_) (by rfl) (fun w => ?_) ?_; rotate_left; focus (first | (go_simp; done) | (go_simp; with_reducible rfl))) | (refine wpHold_skip ?_ ?_; focus (go_simp; done)) | (refine wpHold_pure' (v := ?_) ?_ (fun w => ?_) ?_; rotate_left; focus (go_simp; done); focus (first | (go_simp; done) | (go_simp; with_reducible rfl)))); try simp only [Act.put, List.setIfInBounds_toArray, List.set_cons_zero, List.set_cons_succ]
      refine wpHold_read (v := .slice av nv cv) (by rfl) (fun w' hI => ?_) ?_
      · have dd := fun i => (hI.cell (p := ⟨w.heap.size, i, none⟩) hws).trans (cc i)
        go_simp
        done
      try simp only [Act.put, List.setIfInBounds_toArray, List.set_cons_zero, List.set_cons_succ]
      refine wpHold_call (v := .string J) (f := 23) (args := #[.slice av nv cv, .string ⟨#[44]⟩]) (by rfl) (fun w' => ?_) (fun w' hI => ?_) ?_
      · go_simp
        done
      · exact (HJoin.out w' hI).mono fun e w'' ⟨h1, h2⟩ => ⟨h1, below_then hI h2⟩
      try simp only [Act.put, List.setIfInBounds_toArray, List.set_cons_zero, List.set_cons_succ]
      repeat ((first | (refine wpHold_pure (v := ?_) (by rfl) (fun w => ?_) ?_; rotate_left; focus (first | (go_simp; done) | (go_simp; with_reducible rfl))) | (refine wpHold_skip ?_ ?_; focus (go_simp; done)) | (refine wpHold_pure' (v := ?_) ?_ (fun w => ?_) ?_; rotate_left; focus (go_simp; done); focus (first | (go_simp; done) | (go_simp; with_reducible rfl)))); try simp only [Act.put, List.setIfInBounds_toArray, List.set_cons_zero, List.set_cons_succ])
      refine wpHold_nil ?_
      intro w' hI
      have Hb2 := Lib.hid (Hb.out.trans (hI.mono Hb.out.size))
      clear hI
      go_wp2_with fail
      go_ret
      exact ⟨ret_text HT2.out, Hb2.out⟩
end Go.Proofs.YtkmonmdnmpbadaaDoor
