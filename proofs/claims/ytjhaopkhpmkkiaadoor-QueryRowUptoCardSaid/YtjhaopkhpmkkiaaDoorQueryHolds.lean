/- query.holds: its contract. -/
import Derived.Test.YtjhaopkhpmkkiaaDoorQueryLabs
import Derived.Test.YtjhaopkhpmkkiaaDoorQueryIdx
import Derived.Test.YtjhaopkhpmkkiaaDoorSlStr
import Derived.Test.YtjhaopkhpmkkiaaDoorHold
namespace Go.Proofs.YtjhaopkhpmkkiaaDoor
open Go.RowKit

/-- the part that the closure has captured -/
def CapReq (g : Nat) (key : ByteArray) (kd : Int) (v : Value) (w : World) : Prop := w.heap[g]? = some (.cells #[.string key, .int .i64 kd, v] 33 (0, 0))
theorem run_holds1 : ∀ (a : Array Value) (w : World), (callFunc 63 a).run Tryd.prog w = .ok (.enter 63 a) w := run_callFunc_body Tryd.func63 (by kernel_rfl) (by kernel_rfl)
set_option maxRecDepth 100000 in
set_option maxHeartbeats 800000 in
theorem holds1_any (g : Nat) (key : ByteArray) (kd : Int) (v : Value) (x : GLabel) (w : World) (hc : CapReq g key kd v w) :
    Calls Tryd.prog 63 #[.agg #[.string x.key, .string x.val], .pointer (some ⟨g, 0, none⟩)] w fun e w' => e = .returned (.bool (decide (x.key = key))) ∧ Below w.heap.size w w' := by
  have Hc := Lib.hid hc
  obtain ⟨w1, hw1⟩ : ∃ w1, w1 = w.alloc (.cells #[.string x.key, .string x.val] 78) := ⟨_, rfl⟩
  obtain ⟨gb, hgb⟩ : ∃ gb, gb = w.heap.size := ⟨_, rfl⟩
  have b1 : w1.heap[gb]? = some (.cells #[.string x.key, .string x.val] 78 (0, 0)) := by rw [hw1, hgb]; exact heap_alloc_new w _
  have hb1 : Below w.heap.size w w1 := by rw [hw1]; exact (Below.refl _ _).alloc (Nat.le_refl _) _
  have c1 := below_block hb1 hc
  have Hb1 := Lib.hid hb1
  have cc := fun i => cell_block b1 i
  have dd := fun i => cell_block c1 i
  clear hc b1 hb1 c1
  obtain ⟨b, Hb⟩ : ∃ b, Hid (decide (x.key = key) = b) := ⟨_, Lib.hid rfl⟩
  rw [Hb.out]
  have hb : (x.key.toList == key.toList) = b := by
    rw [← Hb.out]
    by_cases h : x.key = key
    · rw [h]; simp
    · rw [decide_eq_false h, beq_eq_false_iff_ne]; exact fun e => h (toList_inj e)
  go_enter Tryd.func63, Tryd.ntmps63
  go_upto_region 1 with fail
  rw [← hw1]
  try rw [← hgb]
  clear hw1 hgb
  cases b with
  | true =>
    go_wp2_with fail
    go_ret
    exact ⟨rfl, Hb1.out⟩
  | false =>
    go_wp2_with fail
    go_ret
    exact ⟨rfl, Hb1.out⟩
set_option maxRecDepth 100000 in
set_option maxHeartbeats 3200000 in
theorem holds_any (r : GReq) (v2 v : Value) (labels : List GLabel) (w : World) (h : ReqR w [.string r.key, .int .i64 r.kind, v2] r) (hok : okReq r) (hlab : RowAt LabelR 2 w v labels) (hl : labels.length ≤ 1048576) :
    Calls Tryd.prog 42 #[.agg #[.string r.key, .int .i64 r.kind, v2], v] w fun e w' => e = .returned (.bool (holdsB labels r)) ∧ Below w.heap.size w w' := by
  obtain ⟨v2', h1, _, hst⟩ := h
  obtain rfl : v2 = v2' := by injection h1 with _ h1; injection h1 with _ h1; injection h1
  clear h1
  obtain ⟨ao, c, rfl, _, _⟩ := hst.row.len
  obtain ⟨a1, c1, rfl, _, _⟩ := hlab.len
  obtain ⟨_, ok2, _⟩ := hok
  obtain ⟨R, HR⟩ : ∃ R, Hid (holdsB labels r = R) := ⟨_, Lib.hid rfl⟩
  rw [HR.out]
  have hE : R = match labels.find? fun x => decide (x.key = r.key) with
    | some x => if r.kind = 1 then Lib.containsS r.vals x.val else if r.kind = 2 then !Lib.containsS r.vals x.val else decide (r.kind = 3)
    | none => if r.kind = 1 then false else if r.kind = 2 then true else decide (r.kind ≠ 3) := by rw [← HR.out]; rfl
  have HE := Lib.hid hE
  have Hst := Lib.hid hst
  have Hlab := Lib.hid hlab
  obtain ⟨nv, Hnv⟩ : ∃ nv, Hid (r.vals.length = nv) := ⟨_, Lib.hid rfl⟩
  rw [Hnv.out] at ok2 ⊢
  obtain ⟨kd, Hkd⟩ : ∃ kd, Hid (r.kind = kd) := ⟨_, Lib.hid rfl⟩
  rw [Hkd.out]
  obtain ⟨ky, Hky⟩ : ∃ ky, Hid (r.key = ky) := ⟨_, Lib.hid rfl⟩
  rw [Hky.out]
  clear hE hst hlab
  obtain ⟨w1, hw1⟩ : ∃ w1, w1 = w.alloc (.cells #[.string ky, .int .i64 kd, .slice ao nv c] 33) := ⟨_, rfl⟩
  obtain ⟨g, hg⟩ : ∃ g, g = w.heap.size := ⟨_, rfl⟩
  have b1 : w1.heap[g]? = some (.cells #[.string ky, .int .i64 kd, .slice ao nv c] 33 (0, 0)) := by rw [hw1, hg]; exact heap_alloc_new w _
  have hb1 : Below w.heap.size w w1 := by rw [hw1]; exact (Below.refl _ _).alloc (Nat.le_refl _) _
  have Hb1 := Lib.hid hb1
  have B1 := Lib.hid b1
  clear b1 hb1
  go_enter Tryd.func42, Tryd.ntmps42
  go_upto_region 1 with fail
  rw [← hw1]
  try rw [← hg]
  clear hw1 hg
  go_wp2_with fail
  refine (idxLabel_any (p := fun x => decide (x.key = ky)) (Cap := CapReq g ky kd (.slice ao nv c)) (OK := fun _ => True) run_holds1 (fun w w' h hb => below_block hb h) (fun x w _ _ hc => holds1_any g ky kd _ x w hc) _ labels w1 (Hlab.out.below stays_label Hb1.out) (by omega) (fun _ _ => trivial) B1.out).mono ?_
  rintro E w2 ⟨n, rfl, hn, hb2⟩
  have Hb2 := Lib.hid (Hb1.out.trans (hb2.mono Hb1.out.size))
  have b2 := below_block hb2 B1.out
  have cc := fun i => cell_block b2 i
  clear b2 hb2
  rcases hn with ⟨rfl, hf⟩ | ⟨i, x, rfl, hxi, hf, _⟩
  · have HR2 : Hid (R = if kd = 1 then false else if kd = 2 then true else decide (kd ≠ 3)) := Lib.hid (by rw [HE.out, Hky.out, hf, Hkd.out])
    clear hf
    by_cases k1 : kd = 1
    · subst k1
      have HR3 : Hid (false = R) := Lib.hid (by rw [HR2.out]; rfl)
      clear HR2
      go_wp2_with fail
      go_region
      go_wp2_with fail
      go_ret
      exact ⟨congrArg (fun b => Ending.returned (Value.bool b)) HR3.out, Hb2.out.trans (below_drew _ _)⟩
    · have q1 : (kd == 1) = false := by rw [beq_eq_false_iff_ne]; exact k1
      by_cases k2 : kd = 2
      · subst k2
        have HR3 : Hid (true = R) := Lib.hid (by rw [HR2.out]; rfl)
        clear HR2 k1
        go_wp2_with fail
        go_region
        go_wp2_with fail
        go_ret
        exact ⟨congrArg (fun b => Ending.returned (Value.bool b)) HR3.out, Hb2.out.trans (below_drew _ _)⟩
      · have q2 : (kd == 2) = false := by rw [beq_eq_false_iff_ne]; exact k2
        by_cases k3 : kd = 3
        · subst k3
          have HR3 : Hid (false = R) := Lib.hid (by rw [HR2.out]; rfl)
          clear HR2 k1 k2
          go_wp2_with fail
          go_ret
          exact ⟨congrArg (fun b => Ending.returned (Value.bool b)) HR3.out, Hb2.out⟩
        · have q3 : (kd == 3) = false := by rw [beq_eq_false_iff_ne]; exact k3
          have HR3 : Hid (true = R) := Lib.hid (by rw [HR2.out, if_neg k1, if_neg k2, decide_eq_true k3])
          clear HR2 k1 k2 k3
          go_wp2_with fail
          go_ret
          exact ⟨congrArg (fun b => Ending.returned (Value.bool b)) HR3.out, Hb2.out⟩
  · have HR2 : Hid (R = if kd = 1 then Lib.containsS r.vals x.val else if kd = 2 then !Lib.containsS r.vals x.val else decide (kd = 3)) := Lib.hid (by rw [HE.out, Hky.out, hf, Hkd.out])
    have hil : i < labels.length := (List.getElem?_eq_some_iff.1 hxi).1
    have hlb := Hlab.out.below stays_label Hb2.out
    obtain ⟨b, o, c', hv, _, _, hbs, hcell⟩ := hlb.form (by omega) (by omega)
    injection hv with u1 u2 u3
    subst u1
    clear u2 u3
    obtain ⟨ds, _, hcc, hR⟩ := hcell i x hxi
    obtain rfl : ds = [.string x.key, .string x.val] := hR
    have e1 : w2.cell? ⟨b, o + i * 2 + 1, none⟩ = some (.string x.val) := hcc 1 _ rfl
    have p1 : (0 : Int) ≤ (i : Int) := by omega
    have p2 : (i : Int) < (labels.length : Int) := by omega
    have p3 : ¬ (i : Int) < 0 := by omega
    have Hst2 := Lib.hid (Hst.out.below Hb2.out)
    clear hf hlb hcc hcell hxi
    obtain ⟨cv, Hcv⟩ : ∃ cv, Hid (Lib.containsS r.vals x.val = cv) := ⟨_, Lib.hid rfl⟩
    rw [Hcv.out] at HR2
    have hC : ∀ q, Calls Tryd.prog 64 #[.slice ao nv c, .string x.val] (w2.drewN q) fun e w' => e = .returned (.bool cv) ∧ ∃ q, w' = w2.drewN q := fun q => by
      rw [← Hcv.out, ← Hnv.out]
      exact (contains_any _ r.vals x.val _ (Hst2.out.below (below_drewN _ _ q)) (by rw [Hnv.out]; omega)).mono fun e w' h => ⟨h.1, q, h.2.symm⟩
    have HC := Lib.hid hC
    clear hC
    by_cases k1 : kd = 1
    · subst k1
      have HR3 : Hid (cv = R) := Lib.hid (by rw [HR2.out]; rfl)
      clear HR2
      go_wp2_with fail
      refine wp_region_hold 12 (fun w' => ∃ q, w' = w2.drewN q) (by kernel_rfl) (by kernel_rfl) ?_ ?_
      · exact ⟨1, rfl⟩
      simp only [List.take_succ_cons, List.take_zero, List.drop_succ_cons, List.drop_zero]
      (first | (refine wpHold_pure (v := ?_) (by rfl) (fun w => ?_) ?_; rotate_left; focus (first | (go_simp; done) | (go_simp; with_reducible rfl))) | (refine wpHold_skip ?_ ?_; focus (go_simp; done)) | (refine wpHold_pure' (v := ?_) ?_ (fun w => ?_) ?_; rotate_left; focus (go_simp; done); focus (first | (go_simp; done) | (go_simp; with_reducible rfl)))); try simp only [Act.put, List.setIfInBounds_toArray, List.set_cons_zero, List.set_cons_succ]
      (first | (refine wpHold_pure (v := ?_) (by rfl) (fun w => ?_) ?_; rotate_left; focus (first | (go_simp; done) | (go_simp; with_reducible rfl))) | (refine wpHold_skip ?_ ?_; focus (go_simp; done)) | (refine wpHold_pure' (v := ?_) ?_ (fun w => ?_) ?_; rotate_left; focus (go_simp; done); focus (first | (go_simp; done) | (go_simp; with_reducible rfl)))); try simp only [Act.put, List.setIfInBounds_toArray, List.set_cons_zero, List.set_cons_succ]
      (first | (refine wpHold_pure (v := ?_) (by rfl) (fun w => ?_) ?_; rotate_left; focus (first | (go_simp; done) | (go_simp; with_reducible rfl))) | (refine wpHold_skip ?_ ?_; focus (go_simp; done)) | (refine wpHold_pure' (v := ?_) ?_ (fun w => ?_) ?_; rotate_left; focus (go_simp; done); focus (first | (go_simp; done) | (go_simp; with_reducible rfl)))); try simp only [Act.put, List.setIfInBounds_toArray, List.set_cons_zero, List.set_cons_succ]
      refine wpHold_pure' (v := ?_) ?_ (fun w => ?_) ?_
      rotate_left
      focus (go_simp; done)
      focus (first | (go_simp; done) | (go_simp; with_reducible rfl))
      try simp only [Act.put, List.setIfInBounds_toArray, List.set_cons_zero, List.set_cons_succ]
      refine wpHold_read' (v := .slice ao nv c) (by first | rfl | (go_simp; done)) (fun w' hI => ?_) ?_
      · obtain ⟨q, rfl⟩ := hI
        have dd := fun i => (show (w2.drewN q).cell? ⟨g, i, none⟩ = _ from cc i)
        go_simp
        done
      try simp only [Act.put, List.setIfInBounds_toArray, List.set_cons_zero, List.set_cons_succ]
      refine wpHold_pure' (v := ?_) ?_ (fun w => ?_) ?_
      rotate_left
      focus (go_simp; done)
      focus (first | (go_simp; done) | (go_simp; with_reducible rfl))
      try simp only [Act.put, List.setIfInBounds_toArray, List.set_cons_zero, List.set_cons_succ]
      refine wpHold_pure' (v := ?_) ?_ (fun w => ?_) ?_
      rotate_left
      focus (go_simp; done)
      focus (first | (go_simp; done) | (go_simp; with_reducible rfl))
      try simp only [Act.put, List.setIfInBounds_toArray, List.set_cons_zero, List.set_cons_succ]
      refine wpHold_pure' (v := ?_) ?_ (fun w => ?_) ?_
      rotate_left
      focus (go_simp; done)
      focus (first | (go_simp; done) | (go_simp; with_reducible rfl))
      try simp only [Act.put, List.setIfInBounds_toArray, List.set_cons_zero, List.set_cons_succ]
      refine wpHold_pure' (v := ?_) ?_ (fun w => ?_) ?_
      rotate_left
      focus (go_simp; done)
      focus (first | (go_simp; done) | (go_simp; with_reducible rfl))
      try simp only [Act.put, List.setIfInBounds_toArray, List.set_cons_zero, List.set_cons_succ]
      refine wpHold_read' (v := .string x.val) (by first | rfl | (go_simp; done)) (fun w' hI => ?_) ?_
      · obtain ⟨q, rfl⟩ := hI
        have dd : (w2.drewN q).cell? ⟨b, o + i * 2 + 1, none⟩ = some (.string x.val) := e1
        go_simp
        done
      try simp only [Act.put, List.setIfInBounds_toArray, List.set_cons_zero, List.set_cons_succ]
      refine wpHold_call' (v := .bool cv) (f := 64) (args := #[.slice ao nv c, .string x.val]) (by first | rfl | (go_simp; done)) (fun w' => ?_) (fun w' hI => ?_) ?_
      · go_simp
        done
      · obtain ⟨q, rfl⟩ := hI
        exact HC.out q
      try simp only [Act.put, List.setIfInBounds_toArray, List.set_cons_zero, List.set_cons_succ]
      (first | (refine wpHold_pure (v := ?_) (by rfl) (fun w => ?_) ?_; rotate_left; focus (first | (go_simp; done) | (go_simp; with_reducible rfl))) | (refine wpHold_skip ?_ ?_; focus (go_simp; done)) | (refine wpHold_pure' (v := ?_) ?_ (fun w => ?_) ?_; rotate_left; focus (go_simp; done); focus (first | (go_simp; done) | (go_simp; with_reducible rfl)))); try simp only [Act.put, List.setIfInBounds_toArray, List.set_cons_zero, List.set_cons_succ]
      refine wpHold_nil ?_
      rintro w' ⟨q, rfl⟩
      go_wp2_with fail
      go_ret
      exact ⟨congrArg (fun b => Ending.returned (Value.bool b)) HR3.out, Hb2.out.trans (below_drewN _ _ _)⟩
    · have q1 : (kd == 1) = false := by rw [beq_eq_false_iff_ne]; exact k1
      by_cases k2 : kd = 2
      · subst k2
        have HR3 : Hid ((!cv) = R) := Lib.hid (by rw [HR2.out]; rfl)
        clear HR2 k1
        go_wp2_with fail
        refine wp_region_hold 13 (fun w' => ∃ q, w' = w2.drewN q) (by kernel_rfl) (by kernel_rfl) ?_ ?_
        · exact ⟨1, rfl⟩
        simp only [List.take_succ_cons, List.take_zero, List.drop_succ_cons, List.drop_zero]
        (first | (refine wpHold_pure (v := ?_) (by rfl) (fun w => ?_) ?_; rotate_left; focus (first | (go_simp; done) | (go_simp; with_reducible rfl))) | (refine wpHold_skip ?_ ?_; focus (go_simp; done)) | (refine wpHold_pure' (v := ?_) ?_ (fun w => ?_) ?_; rotate_left; focus (go_simp; done); focus (first | (go_simp; done) | (go_simp; with_reducible rfl)))); try simp only [Act.put, List.setIfInBounds_toArray, List.set_cons_zero, List.set_cons_succ]
        (first | (refine wpHold_pure (v := ?_) (by rfl) (fun w => ?_) ?_; rotate_left; focus (first | (go_simp; done) | (go_simp; with_reducible rfl))) | (refine wpHold_skip ?_ ?_; focus (go_simp; done)) | (refine wpHold_pure' (v := ?_) ?_ (fun w => ?_) ?_; rotate_left; focus (go_simp; done); focus (first | (go_simp; done) | (go_simp; with_reducible rfl)))); try simp only [Act.put, List.setIfInBounds_toArray, List.set_cons_zero, List.set_cons_succ]
        (first | (refine wpHold_pure (v := ?_) (by rfl) (fun w => ?_) ?_; rotate_left; focus (first | (go_simp; done) | (go_simp; with_reducible rfl))) | (refine wpHold_skip ?_ ?_; focus (go_simp; done)) | (refine wpHold_pure' (v := ?_) ?_ (fun w => ?_) ?_; rotate_left; focus (go_simp; done); focus (first | (go_simp; done) | (go_simp; with_reducible rfl)))); try simp only [Act.put, List.setIfInBounds_toArray, List.set_cons_zero, List.set_cons_succ]
        refine wpHold_pure' (v := ?_) ?_ (fun w => ?_) ?_
        rotate_left
        focus (go_simp; done)
        focus (first | (go_simp; done) | (go_simp; with_reducible rfl))
        try simp only [Act.put, List.setIfInBounds_toArray, List.set_cons_zero, List.set_cons_succ]
        refine wpHold_read' (v := .slice ao nv c) (by first | rfl | (go_simp; done)) (fun w' hI => ?_) ?_
        · obtain ⟨q, rfl⟩ := hI
          have dd := fun i => (show (w2.drewN q).cell? ⟨g, i, none⟩ = _ from cc i)
          go_simp
          done
        try simp only [Act.put, List.setIfInBounds_toArray, List.set_cons_zero, List.set_cons_succ]
        refine wpHold_pure' (v := ?_) ?_ (fun w => ?_) ?_
        rotate_left
        focus (go_simp; done)
        focus (first | (go_simp; done) | (go_simp; with_reducible rfl))
        try simp only [Act.put, List.setIfInBounds_toArray, List.set_cons_zero, List.set_cons_succ]
        refine wpHold_pure' (v := ?_) ?_ (fun w => ?_) ?_
        rotate_left
        focus (go_simp; done)
        focus (first | (go_simp; done) | (go_simp; with_reducible rfl))
        try simp only [Act.put, List.setIfInBounds_toArray, List.set_cons_zero, List.set_cons_succ]
        refine wpHold_pure' (v := ?_) ?_ (fun w => ?_) ?_
        rotate_left
        focus (go_simp; done)
        focus (first | (go_simp; done) | (go_simp; with_reducible rfl))
        try simp only [Act.put, List.setIfInBounds_toArray, List.set_cons_zero, List.set_cons_succ]
        refine wpHold_pure' (v := ?_) ?_ (fun w => ?_) ?_
        rotate_left
        focus (go_simp; done)
        focus (first | (go_simp; done) | (go_simp; with_reducible rfl))
        try simp only [Act.put, List.setIfInBounds_toArray, List.set_cons_zero, List.set_cons_succ]
        refine wpHold_read' (v := .string x.val) (by first | rfl | (go_simp; done)) (fun w' hI => ?_) ?_
        · obtain ⟨q, rfl⟩ := hI
          have dd : (w2.drewN q).cell? ⟨b, o + i * 2 + 1, none⟩ = some (.string x.val) := e1
          go_simp
          done
        try simp only [Act.put, List.setIfInBounds_toArray, List.set_cons_zero, List.set_cons_succ]
        refine wpHold_call' (v := .bool cv) (f := 64) (args := #[.slice ao nv c, .string x.val]) (by first | rfl | (go_simp; done)) (fun w' => ?_) (fun w' hI => ?_) ?_
        · go_simp
          done
        · obtain ⟨q, rfl⟩ := hI
          exact HC.out q
        try simp only [Act.put, List.setIfInBounds_toArray, List.set_cons_zero, List.set_cons_succ]
        refine wpHold_pure' (v := ?_) ?_ (fun w => ?_) ?_
        rotate_left
        focus (go_simp; done)
        focus (first | (go_simp; done) | (go_simp; with_reducible rfl))
        try simp only [Act.put, List.setIfInBounds_toArray, List.set_cons_zero, List.set_cons_succ]
        (first | (refine wpHold_pure (v := ?_) (by rfl) (fun w => ?_) ?_; rotate_left; focus (first | (go_simp; done) | (go_simp; with_reducible rfl))) | (refine wpHold_skip ?_ ?_; focus (go_simp; done)) | (refine wpHold_pure' (v := ?_) ?_ (fun w => ?_) ?_; rotate_left; focus (go_simp; done); focus (first | (go_simp; done) | (go_simp; with_reducible rfl)))); try simp only [Act.put, List.setIfInBounds_toArray, List.set_cons_zero, List.set_cons_succ]
        refine wpHold_nil ?_
        rintro w' ⟨q, rfl⟩
        go_wp2_with fail
        go_ret
        exact ⟨congrArg (fun b => Ending.returned (Value.bool b)) HR3.out, Hb2.out.trans (below_drewN _ _ _)⟩
      · have q2 : (kd == 2) = false := by rw [beq_eq_false_iff_ne]; exact k2
        by_cases k3 : kd = 3
        · subst k3
          have HR3 : Hid (true = R) := Lib.hid (by rw [HR2.out]; rfl)
          clear HR2 k1 k2
          go_wp2_with fail
          go_ret
          exact ⟨congrArg (fun b => Ending.returned (Value.bool b)) HR3.out, Hb2.out⟩
        · have q3 : (kd == 3) = false := by rw [beq_eq_false_iff_ne]; exact k3
          have HR3 : Hid (false = R) := Lib.hid (by rw [HR2.out, if_neg k1, if_neg k2, decide_eq_false k3])
          clear HR2 k1 k2 k3
          go_wp2_with fail
          go_ret
          exact ⟨congrArg (fun b => Ending.returned (Value.bool b)) HR3.out, Hb2.out⟩
end Go.Proofs.YtjhaopkhpmkkiaaDoor
