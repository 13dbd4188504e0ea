/- query.opposite: its contract. -/
import Derived.Test.YtjhaopkhpmkkiaaDoorSolveF
import Derived.Deep.LoopGhost
namespace Go.Proofs.YtjhaopkhpmkkiaaDoor
open Go.RowKit

set_option maxRecDepth 100000 in
set_option maxHeartbeats 3200000 in
theorem opposite_any (r : GReq) (ao : Option Addr) (c : Nat) (w : World) (hk : 1 ≤ r.kind ∧ r.kind ≤ 4) :
    Calls Tryd.prog 28 #[.agg #[.string r.key, .int .i64 r.kind, .slice ao r.vals.length c]] w fun e w' => e = .returned (.agg #[.string r.key, .int .i64 (oppK r.kind), .slice ao r.vals.length c]) ∧ Below w.heap.size w w' := by
  obtain ⟨kd, Hkd⟩ : ∃ kd, Hid (r.kind = kd) := ⟨_, Lib.hid rfl⟩
  rw [Hkd.out] at hk ⊢
  obtain ⟨w2, hw⟩ : ∃ w2, w2 = (w.alloc (.cells #[.string r.key, .int .i64 kd, .slice ao r.vals.length c] 33)).alloc (.cells #[.string ⟨#[]⟩, .int .i64 0, .slice none 0 0] 33) := ⟨_, rfl⟩
  have b1 : w2.heap[w.heap.size]? = some (.cells #[.string r.key, .int .i64 kd, .slice ao r.vals.length c] 33 (0, 0)) := by rw [hw]; exact heap_alloc_old (heap_alloc_new w _)
  have b2 : w2.heap[w.heap.size + 1]? = some (.cells #[.string ⟨#[]⟩, .int .i64 0, .slice none 0 0] 33 (0, 0)) := by rw [hw]; exact heap_alloc_at (World.size_alloc _ _).symm
  have hb2 : Below w.heap.size w w2 := by rw [hw]; exact ((Below.refl _ w).alloc (Nat.le_refl _) _).alloc (by rw [World.size_alloc]; omega) _
  have Hb2 := Lib.hid hb2
  have cc := fun i => cell_block b1 i
  have B2 := Lib.hid b2
  clear b1 b2 hb2
  have way : kd = 1 ∨ kd = 2 ∨ kd = 3 ∨ kd = 4 := by omega
  go_enter Tryd.func28, Tryd.ntmps28
  go_upto_region 1 with fail
  rw [← hw]
  clear hw
  refine wp_region_hold 9 (fun w' => ∃ q, w' = w2.drewN q) (by kernel_rfl) (by kernel_rfl) ?_ ?_
  · exact ⟨1, rfl⟩
  simp only [List.take_succ_cons, List.take_zero, List.drop_succ_cons, List.drop_zero]
  (first | (refine wpHold_pure (v := ?_) (by rfl) (fun w => ?_) ?_; rotate_left; focus (first | (go_simp; done) | (go_simp; with_reducible rfl))) | (refine wpHold_skip ?_ ?_; focus (go_simp; done)) | (refine wpHold_pure' (v := ?_) ?_ (fun w => ?_) ?_; rotate_left; focus (go_simp; done); focus (first | (go_simp; done) | (go_simp; with_reducible rfl)))); try simp only [Act.put, List.setIfInBounds_toArray, List.set_cons_zero, List.set_cons_succ]
  refine wpHold_read (v := .string r.key) (by rfl) (fun w' hI => ?_) ?_
  · obtain ⟨q, rfl⟩ := hI
    have dd := fun i => (show (w2.drewN q).cell? ⟨w.heap.size, i, none⟩ = _ from cc i)
    go_simp
    done
  try simp only [Act.put, List.setIfInBounds_toArray, List.set_cons_zero, List.set_cons_succ]
  (first | (refine wpHold_pure (v := ?_) (by rfl) (fun w => ?_) ?_; rotate_left; focus (first | (go_simp; done) | (go_simp; with_reducible rfl))) | (refine wpHold_skip ?_ ?_; focus (go_simp; done)) | (refine wpHold_pure' (v := ?_) ?_ (fun w => ?_) ?_; rotate_left; focus (go_simp; done); focus (first | (go_simp; done) | (go_simp; with_reducible rfl)))); try simp only [Act.put, List.setIfInBounds_toArray, List.set_cons_zero, List.set_cons_succ]
  refine wpHold_read (v := .slice ao r.vals.length c) (by rfl) (fun w' hI => ?_) ?_
  · obtain ⟨q, rfl⟩ := hI
    have dd := fun i => (show (w2.drewN q).cell? ⟨w.heap.size, i, none⟩ = _ from cc i)
    go_simp
    done
  try simp only [Act.put, List.setIfInBounds_toArray, List.set_cons_zero, List.set_cons_succ]
  (first | (refine wpHold_pure (v := ?_) (by rfl) (fun w => ?_) ?_; rotate_left; focus (first | (go_simp; done) | (go_simp; with_reducible rfl))) | (refine wpHold_skip ?_ ?_; focus (go_simp; done)) | (refine wpHold_pure' (v := ?_) ?_ (fun w => ?_) ?_; rotate_left; focus (go_simp; done); focus (first | (go_simp; done) | (go_simp; with_reducible rfl)))); try simp only [Act.put, List.setIfInBounds_toArray, List.set_cons_zero, List.set_cons_succ]
  (first | (refine wpHold_pure (v := ?_) (by rfl) (fun w => ?_) ?_; rotate_left; focus (first | (go_simp; done) | (go_simp; with_reducible rfl))) | (refine wpHold_skip ?_ ?_; focus (go_simp; done)) | (refine wpHold_pure' (v := ?_) ?_ (fun w => ?_) ?_; rotate_left; focus (go_simp; done); focus (first | (go_simp; done) | (go_simp; with_reducible rfl)))); try simp only [Act.put, List.setIfInBounds_toArray, List.set_cons_zero, List.set_cons_succ]
  refine wpHold_read (v := .int .i64 kd) (by rfl) (fun w' hI => ?_) ?_
  · obtain ⟨q, rfl⟩ := hI
    have dd := fun i => (show (w2.drewN q).cell? ⟨w.heap.size, i, none⟩ = _ from cc i)
    go_simp
    done
  try simp only [Act.put, List.setIfInBounds_toArray, List.set_cons_zero, List.set_cons_succ]
  rcases way with rfl | rfl | rfl | rfl
  · refine wpHold_pure (v := .int .i64 2) (by rfl) (fun w => ?_) ?_
    · first
        | (go_simp; done)
        | rfl
    try simp only [Act.put, List.setIfInBounds_toArray, List.set_cons_zero, List.set_cons_succ]
    refine wpHold_pure (v := .agg #[.string r.key, .int .i64 2, .slice ao r.vals.length c]) (by rfl) (fun w => ?_) ?_
    · first
        | (go_simp; done)
        | rfl
    try simp only [Act.put, List.setIfInBounds_toArray, List.set_cons_zero, List.set_cons_succ]
    refine wpHold_nil ?_
    rintro w' ⟨q, rfl⟩
    have B2' : (w2.drewN q).heap[w.heap.size + 1]? = some (.cells #[.string ⟨#[]⟩, .int .i64 0, .slice none 0 0] 33 (0, 0)) := B2.out
    refine wpList_store_box (by rfl) _ _ _ (by rfl) (w.heap.size + 1) #[.string r.key, .int .i64 2, .slice ao r.vals.length c] (by rfl) (by rfl) _ _ B2' Tryd.sizeReq (by rfl) (by simp [Value.oneCell']) ?_
    intro W b4 t4
    have Hb4 := Lib.hid (t4.below (Hb2.out.trans (below_drewN _ w2 q)) (Nat.le_succ _))
    clear t4 B2'
    have c4 := fun i => cell_block b4 i
    go_wp2_with fail
    refine bodyPost_ret (v := .agg #[.string r.key, .int .i64 2, .slice ao r.vals.length c]) (by simp [results, Tryd.results28, go_sem, c4]) rfl ⟨by rw [show oppK 1 = 2 from rfl], Hb4.out⟩
  · refine wpHold_pure (v := .int .i64 1) (by rfl) (fun w => ?_) ?_
    · first
        | (go_simp; done)
        | rfl
    try simp only [Act.put, List.setIfInBounds_toArray, List.set_cons_zero, List.set_cons_succ]
    refine wpHold_pure (v := .agg #[.string r.key, .int .i64 1, .slice ao r.vals.length c]) (by rfl) (fun w => ?_) ?_
    · first
        | (go_simp; done)
        | rfl
    try simp only [Act.put, List.setIfInBounds_toArray, List.set_cons_zero, List.set_cons_succ]
    refine wpHold_nil ?_
    rintro w' ⟨q, rfl⟩
    have B2' : (w2.drewN q).heap[w.heap.size + 1]? = some (.cells #[.string ⟨#[]⟩, .int .i64 0, .slice none 0 0] 33 (0, 0)) := B2.out
    refine wpList_store_box (by rfl) _ _ _ (by rfl) (w.heap.size + 1) #[.string r.key, .int .i64 1, .slice ao r.vals.length c] (by rfl) (by rfl) _ _ B2' Tryd.sizeReq (by rfl) (by simp [Value.oneCell']) ?_
    intro W b4 t4
    have Hb4 := Lib.hid (t4.below (Hb2.out.trans (below_drewN _ w2 q)) (Nat.le_succ _))
    clear t4 B2'
    have c4 := fun i => cell_block b4 i
    go_wp2_with fail
    refine bodyPost_ret (v := .agg #[.string r.key, .int .i64 1, .slice ao r.vals.length c]) (by simp [results, Tryd.results28, go_sem, c4]) rfl ⟨by rw [show oppK 2 = 1 from rfl], Hb4.out⟩
  · refine wpHold_pure (v := .int .i64 4) (by rfl) (fun w => ?_) ?_
    · first
        | (go_simp; done)
        | rfl
    try simp only [Act.put, List.setIfInBounds_toArray, List.set_cons_zero, List.set_cons_succ]
    refine wpHold_pure (v := .agg #[.string r.key, .int .i64 4, .slice ao r.vals.length c]) (by rfl) (fun w => ?_) ?_
    · first
        | (go_simp; done)
        | rfl
    try simp only [Act.put, List.setIfInBounds_toArray, List.set_cons_zero, List.set_cons_succ]
    refine wpHold_nil ?_
    rintro w' ⟨q, rfl⟩
    have B2' : (w2.drewN q).heap[w.heap.size + 1]? = some (.cells #[.string ⟨#[]⟩, .int .i64 0, .slice none 0 0] 33 (0, 0)) := B2.out
    refine wpList_store_box (by rfl) _ _ _ (by rfl) (w.heap.size + 1) #[.string r.key, .int .i64 4, .slice ao r.vals.length c] (by rfl) (by rfl) _ _ B2' Tryd.sizeReq (by rfl) (by simp [Value.oneCell']) ?_
    intro W b4 t4
    have Hb4 := Lib.hid (t4.below (Hb2.out.trans (below_drewN _ w2 q)) (Nat.le_succ _))
    clear t4 B2'
    have c4 := fun i => cell_block b4 i
    go_wp2_with fail
    refine bodyPost_ret (v := .agg #[.string r.key, .int .i64 4, .slice ao r.vals.length c]) (by simp [results, Tryd.results28, go_sem, c4]) rfl ⟨by rw [show oppK 3 = 4 from rfl], Hb4.out⟩
  · refine wpHold_pure (v := .int .i64 3) (by rfl) (fun w => ?_) ?_
    · first
        | (go_simp; done)
        | rfl
    try simp only [Act.put, List.setIfInBounds_toArray, List.set_cons_zero, List.set_cons_succ]
    refine wpHold_pure (v := .agg #[.string r.key, .int .i64 3, .slice ao r.vals.length c]) (by rfl) (fun w => ?_) ?_
    · first
        | (go_simp; done)
        | rfl
    try simp only [Act.put, List.setIfInBounds_toArray, List.set_cons_zero, List.set_cons_succ]
    refine wpHold_nil ?_
    rintro w' ⟨q, rfl⟩
    have B2' : (w2.drewN q).heap[w.heap.size + 1]? = some (.cells #[.string ⟨#[]⟩, .int .i64 0, .slice none 0 0] 33 (0, 0)) := B2.out
    refine wpList_store_box (by rfl) _ _ _ (by rfl) (w.heap.size + 1) #[.string r.key, .int .i64 3, .slice ao r.vals.length c] (by rfl) (by rfl) _ _ B2' Tryd.sizeReq (by rfl) (by simp [Value.oneCell']) ?_
    intro W b4 t4
    have Hb4 := Lib.hid (t4.below (Hb2.out.trans (below_drewN _ w2 q)) (Nat.le_succ _))
    clear t4 B2'
    have c4 := fun i => cell_block b4 i
    go_wp2_with fail
    refine bodyPost_ret (v := .agg #[.string r.key, .int .i64 3, .slice ao r.vals.length c]) (by simp [results, Tryd.results28, go_sem, c4]) rfl ⟨by rw [show oppK 4 = 3 from rfl], Hb4.out⟩
end Go.Proofs.YtjhaopkhpmkkiaaDoor
