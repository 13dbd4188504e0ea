/- Texts of ours joined: PatchRead, WayIns, PatchDo, PatchLaws. -/
import Derived.Test.YtlbolbkikkiifaaGreatDoorMw7
set_option linter.unusedVariables false
set_option linter.unusedSimpArgs false
/- patch: a step is read. -/
namespace Go.Proofs.YtlbolbkikkiifaaGreatDoor
open Go.RowKit
open JP (JV Bs)

theorem Tryz.sizeStep : (Tryz.prog.info? 81).map (·.size) = some 4 := by kernel_rfl
/-- texts lie in no block that holds none -/
theorem off_str {w : World} {g : Nat} {cs : Array Value} {t : TypeId} {fr : Nat × Nat} {sv : Value} {L : List ByteArray} (h : StrAt w sv L) (hg : w.heap[g]? = some (.cells cs t fr)) (hn : ∀ (i : Nat) (s : ByteArray), cs[i]? ≠ some (.string s)) : OffT [g] sv L := by
  intro hl b hb hm
  obtain rfl := List.mem_singleton.1 hm
  obtain ⟨b', o, c, rfl, _, _, hlt, hcell⟩ := h.row.form (List.length_pos_iff.2 hl) (by decide)
  have : b' = b := by simpa [Value.ownBlock] using hb
  subst this
  obtain ⟨x, hx⟩ : ∃ x, L[0]? = some x := ⟨L[0]'(List.length_pos_iff.2 hl), List.getElem?_eq_getElem _⟩
  obtain ⟨ds, _, hcc, hR⟩ := hcell 0 x hx
  obtain rfl : ds = [.string x] := hR
  have h1 := hcc 0 _ rfl
  rw [cell_block hg] at h1
  exact hn _ _ h1
theorem str_keep {w w' : World} {g : Nat} {sv : Value} {L : List ByteArray} (h : StrAt w sv L) (ho : OffT [g] sv L) (ht : Touch g w w') : StrAt w' sv L :=
  RowAt.strs (h.row.keepT (KeepT.but (But.touch ht) (List.mem_singleton.2 rfl)) ho (fun _ _ h => h))
def StepAt (w : World) (s1 s2 s3 : Value) (s : JP.PS) : Prop := StrAt w s1 (s.path.map mkB) ∧ StrAt w s2 (s.frm.map mkB) ∧ ∃ n, JvAt n [] w s3 s.val
def ReadAt (k : Int) (r : Int × JP.PS) (w : World) (e : Ending) (w' : World) : Prop :=
  ∃ s1 s2 s3, e = .returned (.tuple #[.agg #[.int .i64 k, s1, s2, s3], .int .i64 r.1]) ∧ (r.1 = 0 → StepAt w' s1 s2 s3 r.2) ∧ (s1.oneCell' = true ∧ s2.oneCell' = true ∧ s3.oneCell' = true) ∧ Below w.heap.size w w'
theorem jv_nostr {n : Nat} {T : List Nat} {w : World} {s : ByteArray} {x : JV} (h : JvAt n T w (.string s) x) : False := by
  cases n with
  | zero => cases h
  | succ n => cases x with
    | nul => cases h
    | bool b => cases h
    | num k => cases h.1
    | str s => cases h
    | list l => obtain ⟨u, e, _⟩ := h; cases e
    | obj l => obtain ⟨q, e, _⟩ := h; cases e
theorem str_one {w : World} {v : Value} {L : List ByteArray} (h : StrAt w v L) : v.oneCell' = true := by obtain ⟨a, c, rfl, _⟩ := h.len; rfl
theorem str_nil (w : World) : StrAt w (.slice none 0 0) [] := RowAt.strs (.inl ⟨rfl, rfl⟩)
theorem nul_at (w : World) : JvAt 1 [] w .nilIface .nul := rfl
theorem bs_back {L : List ByteArray} {l : List Bs} (h : L.map (·.data.toList) = l) : L = l.map mkB := by rw [← h, map_mk]

set_option maxRecDepth 100000 in
set_option maxHeartbeats 6400000 in
theorem pread_out (kd : Int) (p f v : ByteArray) (w : World) (hp : p.size ≤ 1048576) (hf : f.size ≤ 1048576) (hv : v.size ≤ 1048576) (hE : Env w) (hk : kd < 1 ∨ 6 < kd) :
    Calls Tryz.prog 60 #[.agg #[.int .i64 kd, .string p, .string f, .string v]] w (ReadAt kd (JP.readO ⟨kd, p.data.toList, f.data.toList, v.data.toList⟩) w) := by
  obtain ⟨m, hm⟩ := hE.2.2
  have HSp := Lib.hid (fun (w' : World) (hb : Below w.heap.size w w') => ptrSteps_any p m w' (by omega) (hm.below hb))
  have HSf := Lib.hid (fun (w' : World) (hb : Below w.heap.size w w') => ptrSteps_any f m w' (by omega) (hm.below hb))
  have HRd := Lib.hid (fun (w' : World) => read_low v w' hv)
  obtain ⟨R, hR⟩ : ∃ R, JP.readO ⟨kd, p.data.toList, f.data.toList, v.data.toList⟩ = R := ⟨_, rfl⟩
  rw [hR]
  unfold JP.readO at hR
  dsimp only at hR
  obtain ⟨ep, l, hsp⟩ : ∃ e l, stepsP p.data.toList = (e, l) := ⟨_, _, rfl⟩
  obtain ⟨ef, lf, hsf⟩ : ∃ e l, stepsP f.data.toList = (e, l) := ⟨_, _, rfl⟩
  obtain ⟨x, ev, hrv⟩ : ∃ x e, JP.readL v.data.toList = (x, e) := ⟨_, _, rfl⟩
  rw [hsp] at HSp hR
  rw [hsf] at HSf hR
  rw [hrv] at HRd hR
  dsimp only at hR HRd
  obtain ⟨W, hW⟩ : ∃ W, W = (w.alloc (.cells #[.int .i64 kd, .string p, .string f, .string v] 52)).alloc (.cells #[.int .i64 kd, .slice none 0 0, .slice none 0 0, .nilIface] 81) := ⟨_, rfl⟩
  have c1 : W.heap[w.heap.size]? = some (.cells #[.int .i64 kd, .string p, .string f, .string v] 52 (0, 0)) := by rw [hW]; exact heap_alloc_old (heap_alloc_new w _)
  have c2 : W.heap[w.heap.size + 1]? = some (.cells #[.int .i64 kd, .slice none 0 0, .slice none 0 0, .nilIface] 81 (0, 0)) := by rw [hW]; exact heap_alloc_at (World.size_alloc _ _).symm
  have HB : Hid (Below w.heap.size w W) := Lib.hid (by rw [hW]; exact ((Below.refl _ w).alloc (Nat.le_refl _) _).alloc (by rw [World.size_alloc]; omega) _)
  have C1 := Lib.hid c1
  have C2 := Lib.hid c2
  have Hlt : Hid (w.heap.size + 1 < W.heap.size) := Lib.hid (blk_lt c2)
  clear hm hE hp hf hv hrv hsp hsf c1 c2
  have HRx : Hid (R = (1, ⟨kd, [], [], .nul⟩)) := Lib.hid (by rw [← hR, if_pos hk])
  clear HSp HSf HRd hR
  rcases hk with hk | hk
  · go_enter Tryz.func60, Tryz.ntmps60
    go_upto_region 2 with fail
    rw [← hW]
    clear hW
    have q1 := fun i => cell_block C1.out i
    have q2 := fun i => cell_block C2.out i
    go_upto_region 3 with fail
    go_wp2_with (first | (refine wpList_load_row (by rfl) _ _ (by rfl) (w.heap.size + 1) (by rfl) _ _ _ _ (by exact C2.out) Tryz.underlying81 rfl (by exact Tryz.sizeStep) ?_) | (refine wpList_store_box (by rfl) _ _ _ (by rfl) (w.heap.size + 1) #[.int .i64 kd, .slice none 0 0, .slice none 0 0, .nilIface] (by rfl) (by rfl) _ _ (by exact C2.out) (by exact Tryz.sizeStep) (by rfl) (by simp [Value.oneCell', ]) ?_))
    intro WF bF tF
    have HF := Lib.hid (tF.below HB.out (by omega))
    go_wp2_with fail
    refine bodyPost_ret (v := .tuple #[.agg #[.int .i64 kd, .slice none 0 0, .slice none 0 0, .nilIface], .int .i64 1]) ?_ rfl ?_
    · exact results_two_box Tryz.results60 _ _ (w.heap.size + 1) _ _ _ _ (by rfl) bF Tryz.underlying81 rfl (by exact Tryz.sizeStep)
    · exact ⟨_, _, _, by rw [HRx.out], fun h => (by rw [HRx.out] at h; cases h), ⟨rfl, rfl, rfl⟩, HF.out⟩
  · go_enter Tryz.func60, Tryz.ntmps60
    go_upto_region 2 with fail
    rw [← hW]
    clear hW
    have q1 := fun i => cell_block C1.out i
    have q2 := fun i => cell_block C2.out i
    go_upto_region 3 with fail
    go_wp2_with (first | (refine wpList_load_row (by rfl) _ _ (by rfl) (w.heap.size + 1) (by rfl) _ _ _ _ (by exact C2.out) Tryz.underlying81 rfl (by exact Tryz.sizeStep) ?_) | (refine wpList_store_box (by rfl) _ _ _ (by rfl) (w.heap.size + 1) #[.int .i64 kd, .slice none 0 0, .slice none 0 0, .nilIface] (by rfl) (by rfl) _ _ (by exact C2.out) (by exact Tryz.sizeStep) (by rfl) (by simp [Value.oneCell', ]) ?_))
    intro WF bF tF
    have HF := Lib.hid (tF.below HB.out (by omega))
    go_wp2_with fail
    refine bodyPost_ret (v := .tuple #[.agg #[.int .i64 kd, .slice none 0 0, .slice none 0 0, .nilIface], .int .i64 1]) ?_ rfl ?_
    · exact results_two_box Tryz.results60 _ _ (w.heap.size + 1) _ _ _ _ (by rfl) bF Tryz.underlying81 rfl (by exact Tryz.sizeStep)
    · exact ⟨_, _, _, by rw [HRx.out], fun h => (by rw [HRx.out] at h; cases h), ⟨rfl, rfl, rfl⟩, HF.out⟩

set_option maxRecDepth 100000 in
set_option maxHeartbeats 6400000 in
theorem pread_err (kd : Int) (p f v : ByteArray) (w : World) (hp : p.size ≤ 1048576) (hf : f.size ≤ 1048576) (hv : v.size ≤ 1048576) (hE : Env w) (hk : 1 ≤ kd ∧ kd ≤ 6) (he : (stepsP p.data.toList).1 ≠ 0) :
    Calls Tryz.prog 60 #[.agg #[.int .i64 kd, .string p, .string f, .string v]] w (ReadAt kd (JP.readO ⟨kd, p.data.toList, f.data.toList, v.data.toList⟩) w) := by
  obtain ⟨m, hm⟩ := hE.2.2
  have HSp := Lib.hid (fun (w' : World) (hb : Below w.heap.size w w') => ptrSteps_any p m w' (by omega) (hm.below hb))
  have HSf := Lib.hid (fun (w' : World) (hb : Below w.heap.size w w') => ptrSteps_any f m w' (by omega) (hm.below hb))
  have HRd := Lib.hid (fun (w' : World) => read_low v w' hv)
  obtain ⟨R, hR⟩ : ∃ R, JP.readO ⟨kd, p.data.toList, f.data.toList, v.data.toList⟩ = R := ⟨_, rfl⟩
  rw [hR]
  unfold JP.readO at hR
  dsimp only at hR
  obtain ⟨ep, l, hsp⟩ : ∃ e l, stepsP p.data.toList = (e, l) := ⟨_, _, rfl⟩
  obtain ⟨ef, lf, hsf⟩ : ∃ e l, stepsP f.data.toList = (e, l) := ⟨_, _, rfl⟩
  obtain ⟨x, ev, hrv⟩ : ∃ x e, JP.readL v.data.toList = (x, e) := ⟨_, _, rfl⟩
  rw [hsp] at HSp hR he
  rw [hsf] at HSf hR
  rw [hrv] at HRd hR
  dsimp only at hR HRd he
  obtain ⟨W, hW⟩ : ∃ W, W = (w.alloc (.cells #[.int .i64 kd, .string p, .string f, .string v] 52)).alloc (.cells #[.int .i64 kd, .slice none 0 0, .slice none 0 0, .nilIface] 81) := ⟨_, rfl⟩
  have c1 : W.heap[w.heap.size]? = some (.cells #[.int .i64 kd, .string p, .string f, .string v] 52 (0, 0)) := by rw [hW]; exact heap_alloc_old (heap_alloc_new w _)
  have c2 : W.heap[w.heap.size + 1]? = some (.cells #[.int .i64 kd, .slice none 0 0, .slice none 0 0, .nilIface] 81 (0, 0)) := by rw [hW]; exact heap_alloc_at (World.size_alloc _ _).symm
  have HB : Hid (Below w.heap.size w W) := Lib.hid (by rw [hW]; exact ((Below.refl _ w).alloc (Nat.le_refl _) _).alloc (by rw [World.size_alloc]; omega) _)
  have C1 := Lib.hid c1
  have C2 := Lib.hid c2
  have Hlt : Hid (w.heap.size + 1 < W.heap.size) := Lib.hid (blk_lt c2)
  clear hm hE hp hf hv hrv hsp hsf c1 c2
  have HRx : Hid (R = (ep, ⟨kd, [], [], .nul⟩)) := Lib.hid (by rw [← hR, if_neg (by omega), if_pos he])
  have n0 : (ep != 0) = true := by rw [bne_iff_ne]; exact he
  have hk1 : ¬ kd < 1 := by omega
  have hk2 : ¬ 6 < kd := by omega
  have Hne := Lib.hid he
  clear HSf HRd hR he hk
  go_enter Tryz.func60, Tryz.ntmps60
  go_upto_region 2 with fail
  rw [← hW]
  clear hW
  have q1 := fun i => cell_block C1.out i
  have q2 := fun i => cell_block C2.out i

  go_upto_region 3 with fail
  go_wp2_with fail
  refine (HSp.out W HB.out).mono ?_
  rintro E w3 ⟨sv, rfl, ⟨L, hst, hL⟩, hb⟩
  have hL2 := bs_back hL
  subst hL2
  obtain ⟨av, cs, e9, _, _⟩ := hst.len
  obtain ⟨nl, hnl⟩ : ∃ n, (l.map mkB).length = n := ⟨_, rfl⟩
  rw [hnl] at e9
  subst e9
  have d1 : w3.heap[w.heap.size]? = _ := below_block hb C1.out
  have d2 : w3.heap[w.heap.size + 1]? = _ := below_block hb C2.out
  obtain ⟨w4, hw4⟩ : ∃ w4, w4 = w3.setCell ⟨w.heap.size + 1, 1, none⟩ (.slice av nl cs) := ⟨_, rfl⟩
  obtain ⟨t1, t2⟩ := touch_setCell (i := 1) (v := (.slice av nl cs)) d2
  rw [← hw4] at t1 t2
  have hB4 : Below w.heap.size w w4 := t2.below (HB.out.trans (hb.mono HB.out.size)) (by omega)
  have HB4 := Lib.hid hB4
  have C14 : Hid (w4.heap[w.heap.size]? = some (.cells #[.int .i64 kd, .string p, .string f, .string v] 52 (0, 0))) := Lib.hid (t2.block d1 (by omega))
  have C24 : Hid (w4.heap[w.heap.size + 1]? = some (.cells #[.int .i64 kd, (.slice av nl cs), .slice none 0 0, .nilIface] 81 (0, 0))) := Lib.hid t1
  have HSt : Hid (StrAt w4 (.slice av nl cs) (l.map mkB)) := Lib.hid (str_keep hst (off_str hst d2 (by intro i s; rcases i with _ | _ | _ | _ | i <;> simp)) t2)
  have z2 := fun i => free_block d2 i
  have z3 := fun i => cell_block d2 i
  clear hb hst hL d1 t1 t2 hB4 C1 C2 q1 q2
  go_upto_region 5 with fail
  rw [← hw4]
  clear hw4 z2 z3 d2 HB Hlt
  have q1 := fun i => cell_block C14.out i
  have q2 := fun i => cell_block C24.out i
  go_upto_region 6 with fail
  go_wp2_with (first | (refine wpList_load_row (by rfl) _ _ (by rfl) (w.heap.size + 1) (by rfl) _ _ _ _ (by exact C24.out) Tryz.underlying81 rfl (by exact Tryz.sizeStep) ?_) | (refine wpList_store_box (by rfl) _ _ _ (by rfl) (w.heap.size + 1) #[.int .i64 kd, (.slice av nl cs), .slice none 0 0, .nilIface] (by rfl) (by rfl) _ _ (by exact C24.out) (by exact Tryz.sizeStep) (by rfl) (by simp [Value.oneCell']) ?_))
  intro WF bF tF
  have HF := Lib.hid (tF.below HB4.out (by omega))
  go_wp2_with fail
  refine bodyPost_ret (v := .tuple #[.agg #[.int .i64 kd, (.slice av nl cs), .slice none 0 0, .nilIface], .int .i64 ep]) ?_ rfl ?_
  · exact results_two_box Tryz.results60 _ _ (w.heap.size + 1) _ _ _ _ (by rfl) bF Tryz.underlying81 rfl (by exact Tryz.sizeStep)
  · exact ⟨_, _, _, by rw [HRx.out], fun h => absurd h (by rw [HRx.out]; exact Hne.out), ⟨rfl, rfl, rfl⟩, HF.out⟩

set_option maxRecDepth 100000 in
set_option maxHeartbeats 6400000 in
theorem pread_cut (kd : Int) (p f v : ByteArray) (w : World) (hp : p.size ≤ 1048576) (hf : f.size ≤ 1048576) (hv : v.size ≤ 1048576) (hE : Env w) (hk : kd = 2) (he : (stepsP p.data.toList).1 = 0) :
    Calls Tryz.prog 60 #[.agg #[.int .i64 kd, .string p, .string f, .string v]] w (ReadAt kd (JP.readO ⟨kd, p.data.toList, f.data.toList, v.data.toList⟩) w) := by
  obtain ⟨m, hm⟩ := hE.2.2
  have HSp := Lib.hid (fun (w' : World) (hb : Below w.heap.size w w') => ptrSteps_any p m w' (by omega) (hm.below hb))
  have HSf := Lib.hid (fun (w' : World) (hb : Below w.heap.size w w') => ptrSteps_any f m w' (by omega) (hm.below hb))
  have HRd := Lib.hid (fun (w' : World) => read_low v w' hv)
  obtain ⟨R, hR⟩ : ∃ R, JP.readO ⟨kd, p.data.toList, f.data.toList, v.data.toList⟩ = R := ⟨_, rfl⟩
  rw [hR]
  unfold JP.readO at hR
  dsimp only at hR
  obtain ⟨ep, l, hsp⟩ : ∃ e l, stepsP p.data.toList = (e, l) := ⟨_, _, rfl⟩
  obtain ⟨ef, lf, hsf⟩ : ∃ e l, stepsP f.data.toList = (e, l) := ⟨_, _, rfl⟩
  obtain ⟨x, ev, hrv⟩ : ∃ x e, JP.readL v.data.toList = (x, e) := ⟨_, _, rfl⟩
  rw [hsp] at HSp hR he
  rw [hsf] at HSf hR
  rw [hrv] at HRd hR
  dsimp only at hR HRd he
  obtain ⟨W, hW⟩ : ∃ W, W = (w.alloc (.cells #[.int .i64 kd, .string p, .string f, .string v] 52)).alloc (.cells #[.int .i64 kd, .slice none 0 0, .slice none 0 0, .nilIface] 81) := ⟨_, rfl⟩
  have c1 : W.heap[w.heap.size]? = some (.cells #[.int .i64 kd, .string p, .string f, .string v] 52 (0, 0)) := by rw [hW]; exact heap_alloc_old (heap_alloc_new w _)
  have c2 : W.heap[w.heap.size + 1]? = some (.cells #[.int .i64 kd, .slice none 0 0, .slice none 0 0, .nilIface] 81 (0, 0)) := by rw [hW]; exact heap_alloc_at (World.size_alloc _ _).symm
  have HB : Hid (Below w.heap.size w W) := Lib.hid (by rw [hW]; exact ((Below.refl _ w).alloc (Nat.le_refl _) _).alloc (by rw [World.size_alloc]; omega) _)
  have C1 := Lib.hid c1
  have C2 := Lib.hid c2
  have Hlt : Hid (w.heap.size + 1 < W.heap.size) := Lib.hid (blk_lt c2)
  clear hm hE hp hf hv hrv hsp hsf c1 c2
  subst hk
  subst he
  have HRx : Hid (R = (0, ⟨2, l, [], .nul⟩)) := Lib.hid (by rw [← hR, if_neg (by decide), if_neg (by decide), if_neg (by decide), if_pos rfl])
  clear HSf HRd hR
  go_enter Tryz.func60, Tryz.ntmps60
  go_upto_region 2 with fail
  rw [← hW]
  clear hW
  have q1 := fun i => cell_block C1.out i
  have q2 := fun i => cell_block C2.out i

  go_upto_region 3 with fail
  go_wp2_with fail
  refine (HSp.out W HB.out).mono ?_
  rintro E w3 ⟨sv, rfl, ⟨L, hst, hL⟩, hb⟩
  have hL2 := bs_back hL
  subst hL2
  obtain ⟨av, cs, e9, _, _⟩ := hst.len
  obtain ⟨nl, hnl⟩ : ∃ n, (l.map mkB).length = n := ⟨_, rfl⟩
  rw [hnl] at e9
  subst e9
  have d1 : w3.heap[w.heap.size]? = _ := below_block hb C1.out
  have d2 : w3.heap[w.heap.size + 1]? = _ := below_block hb C2.out
  obtain ⟨w4, hw4⟩ : ∃ w4, w4 = w3.setCell ⟨w.heap.size + 1, 1, none⟩ (.slice av nl cs) := ⟨_, rfl⟩
  obtain ⟨t1, t2⟩ := touch_setCell (i := 1) (v := (.slice av nl cs)) d2
  rw [← hw4] at t1 t2
  have hB4 : Below w.heap.size w w4 := t2.below (HB.out.trans (hb.mono HB.out.size)) (by omega)
  have HB4 := Lib.hid hB4
  have C14 : Hid (w4.heap[w.heap.size]? = some (.cells #[.int .i64 2, .string p, .string f, .string v] 52 (0, 0))) := Lib.hid (t2.block d1 (by omega))
  have C24 : Hid (w4.heap[w.heap.size + 1]? = some (.cells #[.int .i64 2, (.slice av nl cs), .slice none 0 0, .nilIface] 81 (0, 0))) := Lib.hid t1
  have HSt : Hid (StrAt w4 (.slice av nl cs) (l.map mkB)) := Lib.hid (str_keep hst (off_str hst d2 (by intro i s; rcases i with _ | _ | _ | _ | i <;> simp)) t2)
  have z2 := fun i => free_block d2 i
  have z3 := fun i => cell_block d2 i
  clear hb hst hL d1 t1 t2 hB4 C1 C2 q1 q2
  go_upto_region 5 with fail
  rw [← hw4]
  clear hw4 z2 z3 d2 HB Hlt
  have q1 := fun i => cell_block C14.out i
  have q2 := fun i => cell_block C24.out i
  have hsv : ∀ s, (Value.slice av nl cs) ≠ .string s := fun s h => (by cases h)
  go_upto_region 15 with fail
  go_wp2_with (first | (refine wpList_load_row (by rfl) _ _ (by rfl) (w.heap.size + 1) (by rfl) _ _ _ _ (by exact C24.out) Tryz.underlying81 rfl (by exact Tryz.sizeStep) ?_) | (refine wpList_store_box (by rfl) _ _ _ (by rfl) (w.heap.size + 1) #[.int .i64 2, (.slice av nl cs), .slice none 0 0, .nilIface] (by rfl) (by rfl) _ _ (by exact C24.out) (by exact Tryz.sizeStep) (by rfl) (by simp [Value.oneCell']) ?_))
  intro WF bF tF
  have HF := Lib.hid (tF.below HB4.out (by omega))
  go_wp2_with fail
  refine bodyPost_ret (v := .tuple #[.agg #[.int .i64 2, (.slice av nl cs), .slice none 0 0, .nilIface], .int .i64 0]) ?_ rfl ?_
  · exact results_two_box Tryz.results60 _ _ (w.heap.size + 1) _ _ _ _ (by rfl) bF Tryz.underlying81 rfl (by exact Tryz.sizeStep)
  · exact ⟨_, _, _, by rw [HRx.out], fun h => by rw [HRx.out]; exact ⟨str_keep HSt.out (off_str HSt.out C24.out (by intro i s; rcases i with _ | _ | _ | _ | i <;> simp [hsv])) tF, str_nil _, 1, nul_at _⟩, ⟨rfl, rfl, rfl⟩, HF.out⟩

set_option maxRecDepth 100000 in
set_option maxHeartbeats 6400000 in
theorem pread_from (kd : Int) (p f v : ByteArray) (w : World) (hp : p.size ≤ 1048576) (hf : f.size ≤ 1048576) (hv : v.size ≤ 1048576) (hE : Env w) (hk : kd = 4 ∨ kd = 5) (he : (stepsP p.data.toList).1 = 0) :
    Calls Tryz.prog 60 #[.agg #[.int .i64 kd, .string p, .string f, .string v]] w (ReadAt kd (JP.readO ⟨kd, p.data.toList, f.data.toList, v.data.toList⟩) w) := by
  obtain ⟨m, hm⟩ := hE.2.2
  have HSp := Lib.hid (fun (w' : World) (hb : Below w.heap.size w w') => ptrSteps_any p m w' (by omega) (hm.below hb))
  have HSf := Lib.hid (fun (w' : World) (hb : Below w.heap.size w w') => ptrSteps_any f m w' (by omega) (hm.below hb))
  have HRd := Lib.hid (fun (w' : World) => read_low v w' hv)
  obtain ⟨R, hR⟩ : ∃ R, JP.readO ⟨kd, p.data.toList, f.data.toList, v.data.toList⟩ = R := ⟨_, rfl⟩
  rw [hR]
  unfold JP.readO at hR
  dsimp only at hR
  obtain ⟨ep, l, hsp⟩ : ∃ e l, stepsP p.data.toList = (e, l) := ⟨_, _, rfl⟩
  obtain ⟨ef, lf, hsf⟩ : ∃ e l, stepsP f.data.toList = (e, l) := ⟨_, _, rfl⟩
  obtain ⟨x, ev, hrv⟩ : ∃ x e, JP.readL v.data.toList = (x, e) := ⟨_, _, rfl⟩
  rw [hsp] at HSp hR he
  rw [hsf] at HSf hR
  rw [hrv] at HRd hR
  dsimp only at hR HRd he
  obtain ⟨W, hW⟩ : ∃ W, W = (w.alloc (.cells #[.int .i64 kd, .string p, .string f, .string v] 52)).alloc (.cells #[.int .i64 kd, .slice none 0 0, .slice none 0 0, .nilIface] 81) := ⟨_, rfl⟩
  have c1 : W.heap[w.heap.size]? = some (.cells #[.int .i64 kd, .string p, .string f, .string v] 52 (0, 0)) := by rw [hW]; exact heap_alloc_old (heap_alloc_new w _)
  have c2 : W.heap[w.heap.size + 1]? = some (.cells #[.int .i64 kd, .slice none 0 0, .slice none 0 0, .nilIface] 81 (0, 0)) := by rw [hW]; exact heap_alloc_at (World.size_alloc _ _).symm
  have HB : Hid (Below w.heap.size w W) := Lib.hid (by rw [hW]; exact ((Below.refl _ w).alloc (Nat.le_refl _) _).alloc (by rw [World.size_alloc]; omega) _)
  have C1 := Lib.hid c1
  have C2 := Lib.hid c2
  have Hlt : Hid (w.heap.size + 1 < W.heap.size) := Lib.hid (blk_lt c2)
  clear hm hE hp hf hv hrv hsp hsf c1 c2
  subst he
  have HRx : Hid (R = (ef, ⟨kd, l, lf, .nul⟩)) := Lib.hid (by rw [← hR, if_neg (by omega), if_neg (by decide), if_pos hk])
  clear HRd hR
  rcases hk with rfl | rfl
  · go_enter Tryz.func60, Tryz.ntmps60
    go_upto_region 2 with fail
    rw [← hW]
    clear hW
    have q1 := fun i => cell_block C1.out i
    have q2 := fun i => cell_block C2.out i

    go_upto_region 3 with fail
    go_wp2_with fail
    refine (HSp.out W HB.out).mono ?_
    rintro E w3 ⟨sv, rfl, ⟨L, hst, hL⟩, hb⟩
    have hL2 := bs_back hL
    subst hL2
    obtain ⟨av, cs, e9, _, _⟩ := hst.len
    obtain ⟨nl, hnl⟩ : ∃ n, (l.map mkB).length = n := ⟨_, rfl⟩
    rw [hnl] at e9
    subst e9
    have d1 : w3.heap[w.heap.size]? = _ := below_block hb C1.out
    have d2 : w3.heap[w.heap.size + 1]? = _ := below_block hb C2.out
    obtain ⟨w4, hw4⟩ : ∃ w4, w4 = w3.setCell ⟨w.heap.size + 1, 1, none⟩ (.slice av nl cs) := ⟨_, rfl⟩
    obtain ⟨t1, t2⟩ := touch_setCell (i := 1) (v := (.slice av nl cs)) d2
    rw [← hw4] at t1 t2
    have hB4 : Below w.heap.size w w4 := t2.below (HB.out.trans (hb.mono HB.out.size)) (by omega)
    have HB4 := Lib.hid hB4
    have C14 : Hid (w4.heap[w.heap.size]? = some (.cells #[.int .i64 4, .string p, .string f, .string v] 52 (0, 0))) := Lib.hid (t2.block d1 (by omega))
    have C24 : Hid (w4.heap[w.heap.size + 1]? = some (.cells #[.int .i64 4, (.slice av nl cs), .slice none 0 0, .nilIface] 81 (0, 0))) := Lib.hid t1
    have HSt : Hid (StrAt w4 (.slice av nl cs) (l.map mkB)) := Lib.hid (str_keep hst (off_str hst d2 (by intro i s; rcases i with _ | _ | _ | _ | i <;> simp)) t2)
    have z2 := fun i => free_block d2 i
    have z3 := fun i => cell_block d2 i
    clear hb hst hL d1 t1 t2 hB4 C1 C2 q1 q2
    go_upto_region 5 with fail
    rw [← hw4]
    clear hw4 z2 z3 d2 HB Hlt
    have q1 := fun i => cell_block C14.out i
    have q2 := fun i => cell_block C24.out i

    go_upto_region 10 with fail
    go_wp2_with fail
    refine (HSf.out w4 HB4.out).mono ?_
    rintro E w5 ⟨sf, rfl, ⟨L, hst, hL⟩, hb⟩
    have hL2 := bs_back hL
    subst hL2
    obtain ⟨af, cf, e9, _, _⟩ := hst.len
    obtain ⟨nf, hnf⟩ : ∃ n, (lf.map mkB).length = n := ⟨_, rfl⟩
    rw [hnf] at e9
    subst e9
    have d2 : w5.heap[w.heap.size + 1]? = _ := below_block hb C24.out
    obtain ⟨w6, hw6⟩ : ∃ w6, w6 = w5.setCell ⟨w.heap.size + 1, 2, none⟩ (.slice af nf cf) := ⟨_, rfl⟩
    obtain ⟨t1, t2⟩ := touch_setCell (i := 2) (v := (.slice af nf cf)) d2
    rw [← hw6] at t1 t2
    have hB6 : Below w.heap.size w w6 := t2.below (HB4.out.trans (hb.mono HB4.out.size)) (by omega)
    have HB6 := Lib.hid hB6
    have hsv : ∀ s, (Value.slice av nl cs) ≠ .string s := fun s h => (by cases h)
    have C26 : Hid (w6.heap[w.heap.size + 1]? = some (.cells #[.int .i64 4, (.slice av nl cs), (.slice af nf cf), .nilIface] 81 (0, 0))) := Lib.hid t1
    have HSt2 : Hid (StrAt w6 (.slice af nf cf) (lf.map mkB)) := Lib.hid (str_keep hst (off_str hst d2 (by intro i s; rcases i with _ | _ | _ | _ | i <;> simp [hsv])) t2)
    have HSt1 : Hid (StrAt w6 (.slice av nl cs) (l.map mkB)) := Lib.hid (str_keep (HSt.out.below hb) (off_str (HSt.out.below hb) d2 (by intro i s; rcases i with _ | _ | _ | _ | i <;> simp [hsv])) t2)
    have hsf2 : ∀ s, (Value.slice af nf cf) ≠ .string s := fun s h => (by cases h)
    have z2 := fun i => free_block d2 i
    have z3 := fun i => cell_block d2 i
    clear hb hst hL t1 t2 hB6 C14 C24 q1 q2 HSt
    go_upto_region 15 with fail
    rw [← hw6]
    clear hw6 z2 z3 d2 HB4
    go_wp2_with (first | (refine wpList_load_row (by rfl) _ _ (by rfl) (w.heap.size + 1) (by rfl) _ _ _ _ (by exact C26.out) Tryz.underlying81 rfl (by exact Tryz.sizeStep) ?_) | (refine wpList_store_box (by rfl) _ _ _ (by rfl) (w.heap.size + 1) #[.int .i64 4, (.slice av nl cs), (.slice af nf cf), .nilIface] (by rfl) (by rfl) _ _ (by exact C26.out) (by exact Tryz.sizeStep) (by rfl) (by simp [Value.oneCell']) ?_))
    intro WF bF tF
    have HF := Lib.hid (tF.below HB6.out (by omega))
    go_wp2_with fail
    refine bodyPost_ret (v := .tuple #[.agg #[.int .i64 4, (.slice av nl cs), (.slice af nf cf), .nilIface], .int .i64 ef]) ?_ rfl ?_
    · exact results_two_box Tryz.results60 _ _ (w.heap.size + 1) _ _ _ _ (by rfl) bF Tryz.underlying81 rfl (by exact Tryz.sizeStep)
    · exact ⟨_, _, _, by rw [HRx.out], fun h => by rw [HRx.out]; exact ⟨str_keep HSt1.out (off_str HSt1.out C26.out (by intro i s; rcases i with _ | _ | _ | _ | i <;> simp [hsv, hsf2])) tF, str_keep HSt2.out (off_str HSt2.out C26.out (by intro i s; rcases i with _ | _ | _ | _ | i <;> simp [hsv, hsf2])) tF, 1, nul_at _⟩, ⟨rfl, rfl, rfl⟩, HF.out⟩
  · go_enter Tryz.func60, Tryz.ntmps60
    go_upto_region 2 with fail
    rw [← hW]
    clear hW
    have q1 := fun i => cell_block C1.out i
    have q2 := fun i => cell_block C2.out i

    go_upto_region 3 with fail
    go_wp2_with fail
    refine (HSp.out W HB.out).mono ?_
    rintro E w3 ⟨sv, rfl, ⟨L, hst, hL⟩, hb⟩
    have hL2 := bs_back hL
    subst hL2
    obtain ⟨av, cs, e9, _, _⟩ := hst.len
    obtain ⟨nl, hnl⟩ : ∃ n, (l.map mkB).length = n := ⟨_, rfl⟩
    rw [hnl] at e9
    subst e9
    have d1 : w3.heap[w.heap.size]? = _ := below_block hb C1.out
    have d2 : w3.heap[w.heap.size + 1]? = _ := below_block hb C2.out
    obtain ⟨w4, hw4⟩ : ∃ w4, w4 = w3.setCell ⟨w.heap.size + 1, 1, none⟩ (.slice av nl cs) := ⟨_, rfl⟩
    obtain ⟨t1, t2⟩ := touch_setCell (i := 1) (v := (.slice av nl cs)) d2
    rw [← hw4] at t1 t2
    have hB4 : Below w.heap.size w w4 := t2.below (HB.out.trans (hb.mono HB.out.size)) (by omega)
    have HB4 := Lib.hid hB4
    have C14 : Hid (w4.heap[w.heap.size]? = some (.cells #[.int .i64 5, .string p, .string f, .string v] 52 (0, 0))) := Lib.hid (t2.block d1 (by omega))
    have C24 : Hid (w4.heap[w.heap.size + 1]? = some (.cells #[.int .i64 5, (.slice av nl cs), .slice none 0 0, .nilIface] 81 (0, 0))) := Lib.hid t1
    have HSt : Hid (StrAt w4 (.slice av nl cs) (l.map mkB)) := Lib.hid (str_keep hst (off_str hst d2 (by intro i s; rcases i with _ | _ | _ | _ | i <;> simp)) t2)
    have z2 := fun i => free_block d2 i
    have z3 := fun i => cell_block d2 i
    clear hb hst hL d1 t1 t2 hB4 C1 C2 q1 q2
    go_upto_region 5 with fail
    rw [← hw4]
    clear hw4 z2 z3 d2 HB Hlt
    have q1 := fun i => cell_block C14.out i
    have q2 := fun i => cell_block C24.out i

    go_upto_region 10 with fail
    go_wp2_with fail
    refine (HSf.out w4 HB4.out).mono ?_
    rintro E w5 ⟨sf, rfl, ⟨L, hst, hL⟩, hb⟩
    have hL2 := bs_back hL
    subst hL2
    obtain ⟨af, cf, e9, _, _⟩ := hst.len
    obtain ⟨nf, hnf⟩ : ∃ n, (lf.map mkB).length = n := ⟨_, rfl⟩
    rw [hnf] at e9
    subst e9
    have d2 : w5.heap[w.heap.size + 1]? = _ := below_block hb C24.out
    obtain ⟨w6, hw6⟩ : ∃ w6, w6 = w5.setCell ⟨w.heap.size + 1, 2, none⟩ (.slice af nf cf) := ⟨_, rfl⟩
    obtain ⟨t1, t2⟩ := touch_setCell (i := 2) (v := (.slice af nf cf)) d2
    rw [← hw6] at t1 t2
    have hB6 : Below w.heap.size w w6 := t2.below (HB4.out.trans (hb.mono HB4.out.size)) (by omega)
    have HB6 := Lib.hid hB6
    have hsv : ∀ s, (Value.slice av nl cs) ≠ .string s := fun s h => (by cases h)
    have C26 : Hid (w6.heap[w.heap.size + 1]? = some (.cells #[.int .i64 5, (.slice av nl cs), (.slice af nf cf), .nilIface] 81 (0, 0))) := Lib.hid t1
    have HSt2 : Hid (StrAt w6 (.slice af nf cf) (lf.map mkB)) := Lib.hid (str_keep hst (off_str hst d2 (by intro i s; rcases i with _ | _ | _ | _ | i <;> simp [hsv])) t2)
    have HSt1 : Hid (StrAt w6 (.slice av nl cs) (l.map mkB)) := Lib.hid (str_keep (HSt.out.below hb) (off_str (HSt.out.below hb) d2 (by intro i s; rcases i with _ | _ | _ | _ | i <;> simp [hsv])) t2)
    have hsf2 : ∀ s, (Value.slice af nf cf) ≠ .string s := fun s h => (by cases h)
    have z2 := fun i => free_block d2 i
    have z3 := fun i => cell_block d2 i
    clear hb hst hL t1 t2 hB6 C14 C24 q1 q2 HSt
    go_upto_region 15 with fail
    rw [← hw6]
    clear hw6 z2 z3 d2 HB4
    go_wp2_with (first | (refine wpList_load_row (by rfl) _ _ (by rfl) (w.heap.size + 1) (by rfl) _ _ _ _ (by exact C26.out) Tryz.underlying81 rfl (by exact Tryz.sizeStep) ?_) | (refine wpList_store_box (by rfl) _ _ _ (by rfl) (w.heap.size + 1) #[.int .i64 5, (.slice av nl cs), (.slice af nf cf), .nilIface] (by rfl) (by rfl) _ _ (by exact C26.out) (by exact Tryz.sizeStep) (by rfl) (by simp [Value.oneCell']) ?_))
    intro WF bF tF
    have HF := Lib.hid (tF.below HB6.out (by omega))
    go_wp2_with fail
    refine bodyPost_ret (v := .tuple #[.agg #[.int .i64 5, (.slice av nl cs), (.slice af nf cf), .nilIface], .int .i64 ef]) ?_ rfl ?_
    · exact results_two_box Tryz.results60 _ _ (w.heap.size + 1) _ _ _ _ (by rfl) bF Tryz.underlying81 rfl (by exact Tryz.sizeStep)
    · exact ⟨_, _, _, by rw [HRx.out], fun h => by rw [HRx.out]; exact ⟨str_keep HSt1.out (off_str HSt1.out C26.out (by intro i s; rcases i with _ | _ | _ | _ | i <;> simp [hsv, hsf2])) tF, str_keep HSt2.out (off_str HSt2.out C26.out (by intro i s; rcases i with _ | _ | _ | _ | i <;> simp [hsv, hsf2])) tF, 1, nul_at _⟩, ⟨rfl, rfl, rfl⟩, HF.out⟩

set_option maxRecDepth 100000 in
set_option maxHeartbeats 6400000 in
theorem pread_val (kd : Int) (p f v : ByteArray) (w : World) (hp : p.size ≤ 1048576) (hf : f.size ≤ 1048576) (hv : v.size ≤ 1048576) (hE : Env w) (hk : kd = 1 ∨ kd = 3 ∨ kd = 6) (he : (stepsP p.data.toList).1 = 0) :
    Calls Tryz.prog 60 #[.agg #[.int .i64 kd, .string p, .string f, .string v]] w (ReadAt kd (JP.readO ⟨kd, p.data.toList, f.data.toList, v.data.toList⟩) w) := by
  obtain ⟨m, hm⟩ := hE.2.2
  have HSp := Lib.hid (fun (w' : World) (hb : Below w.heap.size w w') => ptrSteps_any p m w' (by omega) (hm.below hb))
  have HSf := Lib.hid (fun (w' : World) (hb : Below w.heap.size w w') => ptrSteps_any f m w' (by omega) (hm.below hb))
  have HRd := Lib.hid (fun (w' : World) => read_low v w' hv)
  obtain ⟨R, hR⟩ : ∃ R, JP.readO ⟨kd, p.data.toList, f.data.toList, v.data.toList⟩ = R := ⟨_, rfl⟩
  rw [hR]
  unfold JP.readO at hR
  dsimp only at hR
  obtain ⟨ep, l, hsp⟩ : ∃ e l, stepsP p.data.toList = (e, l) := ⟨_, _, rfl⟩
  obtain ⟨ef, lf, hsf⟩ : ∃ e l, stepsP f.data.toList = (e, l) := ⟨_, _, rfl⟩
  obtain ⟨x, ev, hrv⟩ : ∃ x e, JP.readL v.data.toList = (x, e) := ⟨_, _, rfl⟩
  rw [hsp] at HSp hR he
  rw [hsf] at HSf hR
  rw [hrv] at HRd hR
  dsimp only at hR HRd he
  obtain ⟨W, hW⟩ : ∃ W, W = (w.alloc (.cells #[.int .i64 kd, .string p, .string f, .string v] 52)).alloc (.cells #[.int .i64 kd, .slice none 0 0, .slice none 0 0, .nilIface] 81) := ⟨_, rfl⟩
  have c1 : W.heap[w.heap.size]? = some (.cells #[.int .i64 kd, .string p, .string f, .string v] 52 (0, 0)) := by rw [hW]; exact heap_alloc_old (heap_alloc_new w _)
  have c2 : W.heap[w.heap.size + 1]? = some (.cells #[.int .i64 kd, .slice none 0 0, .slice none 0 0, .nilIface] 81 (0, 0)) := by rw [hW]; exact heap_alloc_at (World.size_alloc _ _).symm
  have HB : Hid (Below w.heap.size w W) := Lib.hid (by rw [hW]; exact ((Below.refl _ w).alloc (Nat.le_refl _) _).alloc (by rw [World.size_alloc]; omega) _)
  have C1 := Lib.hid c1
  have C2 := Lib.hid c2
  have Hlt : Hid (w.heap.size + 1 < W.heap.size) := Lib.hid (blk_lt c2)
  clear hm hE hp hf hv hrv hsp hsf c1 c2
  subst he
  have HRx : Hid (R = (ev, ⟨kd, l, [], x⟩)) := Lib.hid (by rw [← hR, if_neg (by omega), if_neg (by decide), if_neg (by omega), if_neg (by omega)])
  clear HSf hR
  rcases hk with rfl | rfl | rfl
  · go_enter Tryz.func60, Tryz.ntmps60
    go_upto_region 2 with fail
    rw [← hW]
    clear hW
    have q1 := fun i => cell_block C1.out i
    have q2 := fun i => cell_block C2.out i

    go_upto_region 3 with fail
    go_wp2_with fail
    refine (HSp.out W HB.out).mono ?_
    rintro E w3 ⟨sv, rfl, ⟨L, hst, hL⟩, hb⟩
    have hL2 := bs_back hL
    subst hL2
    obtain ⟨av, cs, e9, _, _⟩ := hst.len
    obtain ⟨nl, hnl⟩ : ∃ n, (l.map mkB).length = n := ⟨_, rfl⟩
    rw [hnl] at e9
    subst e9
    have d1 : w3.heap[w.heap.size]? = _ := below_block hb C1.out
    have d2 : w3.heap[w.heap.size + 1]? = _ := below_block hb C2.out
    obtain ⟨w4, hw4⟩ : ∃ w4, w4 = w3.setCell ⟨w.heap.size + 1, 1, none⟩ (.slice av nl cs) := ⟨_, rfl⟩
    obtain ⟨t1, t2⟩ := touch_setCell (i := 1) (v := (.slice av nl cs)) d2
    rw [← hw4] at t1 t2
    have hB4 : Below w.heap.size w w4 := t2.below (HB.out.trans (hb.mono HB.out.size)) (by omega)
    have HB4 := Lib.hid hB4
    have C14 : Hid (w4.heap[w.heap.size]? = some (.cells #[.int .i64 1, .string p, .string f, .string v] 52 (0, 0))) := Lib.hid (t2.block d1 (by omega))
    have C24 : Hid (w4.heap[w.heap.size + 1]? = some (.cells #[.int .i64 1, (.slice av nl cs), .slice none 0 0, .nilIface] 81 (0, 0))) := Lib.hid t1
    have HSt : Hid (StrAt w4 (.slice av nl cs) (l.map mkB)) := Lib.hid (str_keep hst (off_str hst d2 (by intro i s; rcases i with _ | _ | _ | _ | i <;> simp)) t2)
    have z2 := fun i => free_block d2 i
    have z3 := fun i => cell_block d2 i
    clear hb hst hL d1 t1 t2 hB4 C1 C2 q1 q2
    go_upto_region 5 with fail
    rw [← hw4]
    clear hw4 z2 z3 d2 HB Hlt
    have q1 := fun i => cell_block C14.out i
    have q2 := fun i => cell_block C24.out i

    go_upto_region 14 with fail
    go_wp2_with fail
    refine (HRd.out w4).mono ?_
    rintro E w5 ⟨sx, rfl, ⟨n, hj⟩, hb⟩
    have hJ := hj [w.heap.size + 1] (fun b hb => by rw [List.mem_singleton.1 hb]; exact blk_lt C24.out)
    have hJ0 := hj [] (fun b hb => by cases hb)
    have d2 : w5.heap[w.heap.size + 1]? = _ := below_block hb C24.out
    have z2 := fun i => free_block d2 i
    have z3 := fun i => cell_block d2 i
    have hsv : ∀ s, (Value.slice av nl cs) ≠ .string s := fun s h => (by cases h)
    rcases jv_form hJ0 with rfl | ⟨ty, y, rfl⟩
    · obtain ⟨w6, hw6⟩ : ∃ w6, w6 = w5.setCell ⟨w.heap.size + 1, 3, none⟩ .nilIface := ⟨_, rfl⟩
      obtain ⟨t1, t2⟩ := touch_setCell (i := 3) (v := .nilIface) d2
      rw [← hw6] at t1 t2
      have hB6 : Below w.heap.size w w6 := t2.below (HB4.out.trans (hb.mono HB4.out.size)) (by omega)
      have HB6 := Lib.hid hB6
      have C26 : Hid (w6.heap[w.heap.size + 1]? = some (.cells #[.int .i64 1, (.slice av nl cs), .slice none 0 0, .nilIface] 81 (0, 0))) := Lib.hid t1
      have HSt1 : Hid (StrAt w6 (.slice av nl cs) (l.map mkB)) := Lib.hid (str_keep (HSt.out.below hb) (off_str (HSt.out.below hb) d2 (by intro i s; rcases i with _ | _ | _ | _ | i <;> simp [hsv])) t2)
      have HJ : Hid (JvAt n [w.heap.size + 1] w6 .nilIface x) := Lib.hid (hJ.keepT (KeepT.but (But.touch t2) (List.mem_singleton.2 rfl)))
      clear hb hj hJ hJ0 t1 t2 hB6 C14 C24 q1 q2 HSt
      go_upto_region 15 with fail
      rw [← hw6]
      clear hw6 z2 z3 d2 HB4
      go_wp2_with (first | (refine wpList_load_row (by rfl) _ _ (by rfl) (w.heap.size + 1) (by rfl) _ _ _ _ (by exact C26.out) Tryz.underlying81 rfl (by exact Tryz.sizeStep) ?_) | (refine wpList_store_box (by rfl) _ _ _ (by rfl) (w.heap.size + 1) #[.int .i64 1, (.slice av nl cs), .slice none 0 0, .nilIface] (by rfl) (by rfl) _ _ (by exact C26.out) (by exact Tryz.sizeStep) (by rfl) (by simp [Value.oneCell', ]) ?_))
      intro WF bF tF
      have HF := Lib.hid (tF.below HB6.out (by omega))
      go_wp2_with fail
      refine bodyPost_ret (v := .tuple #[.agg #[.int .i64 1, (.slice av nl cs), .slice none 0 0, .nilIface], .int .i64 ev]) ?_ rfl ?_
      · exact results_two_box Tryz.results60 _ _ (w.heap.size + 1) _ _ _ _ (by rfl) bF Tryz.underlying81 rfl (by exact Tryz.sizeStep)
      · exact ⟨_, _, _, by rw [HRx.out], fun h => by rw [HRx.out]; exact ⟨str_keep HSt1.out (off_str HSt1.out C26.out (by intro i s; rcases i with _ | _ | _ | _ | i <;> simp [hsv])) tF, str_nil _, n, (HJ.out.keepT (KeepT.but (But.touch tF) (List.mem_singleton.2 rfl))).fresh (fun b hb => by cases hb)⟩, ⟨rfl, rfl, rfl⟩, HF.out⟩
    · obtain ⟨w6, hw6⟩ : ∃ w6, w6 = w5.setCell ⟨w.heap.size + 1, 3, none⟩ (.iface ty y) := ⟨_, rfl⟩
      obtain ⟨t1, t2⟩ := touch_setCell (i := 3) (v := (.iface ty y)) d2
      rw [← hw6] at t1 t2
      have hB6 : Below w.heap.size w w6 := t2.below (HB4.out.trans (hb.mono HB4.out.size)) (by omega)
      have HB6 := Lib.hid hB6
      have C26 : Hid (w6.heap[w.heap.size + 1]? = some (.cells #[.int .i64 1, (.slice av nl cs), .slice none 0 0, (.iface ty y)] 81 (0, 0))) := Lib.hid t1
      have HSt1 : Hid (StrAt w6 (.slice av nl cs) (l.map mkB)) := Lib.hid (str_keep (HSt.out.below hb) (off_str (HSt.out.below hb) d2 (by intro i s; rcases i with _ | _ | _ | _ | i <;> simp [hsv])) t2)
      have HJ : Hid (JvAt n [w.heap.size + 1] w6 (.iface ty y) x) := Lib.hid (hJ.keepT (KeepT.but (But.touch t2) (List.mem_singleton.2 rfl)))
      clear hb hj hJ hJ0 t1 t2 hB6 C14 C24 q1 q2 HSt
      go_upto_region 15 with fail
      rw [← hw6]
      clear hw6 z2 z3 d2 HB4
      go_wp2_with (first | (refine wpList_load_row (by rfl) _ _ (by rfl) (w.heap.size + 1) (by rfl) _ _ _ _ (by exact C26.out) Tryz.underlying81 rfl (by exact Tryz.sizeStep) ?_) | (refine wpList_store_box (by rfl) _ _ _ (by rfl) (w.heap.size + 1) #[.int .i64 1, (.slice av nl cs), .slice none 0 0, (.iface ty y)] (by rfl) (by rfl) _ _ (by exact C26.out) (by exact Tryz.sizeStep) (by rfl) (by simp [Value.oneCell', ]) ?_))
      intro WF bF tF
      have HF := Lib.hid (tF.below HB6.out (by omega))
      go_wp2_with fail
      refine bodyPost_ret (v := .tuple #[.agg #[.int .i64 1, (.slice av nl cs), .slice none 0 0, (.iface ty y)], .int .i64 ev]) ?_ rfl ?_
      · exact results_two_box Tryz.results60 _ _ (w.heap.size + 1) _ _ _ _ (by rfl) bF Tryz.underlying81 rfl (by exact Tryz.sizeStep)
      · exact ⟨_, _, _, by rw [HRx.out], fun h => by rw [HRx.out]; exact ⟨str_keep HSt1.out (off_str HSt1.out C26.out (by intro i s; rcases i with _ | _ | _ | _ | i <;> simp [hsv])) tF, str_nil _, n, (HJ.out.keepT (KeepT.but (But.touch tF) (List.mem_singleton.2 rfl))).fresh (fun b hb => by cases hb)⟩, ⟨rfl, rfl, rfl⟩, HF.out⟩
  · go_enter Tryz.func60, Tryz.ntmps60
    go_upto_region 2 with fail
    rw [← hW]
    clear hW
    have q1 := fun i => cell_block C1.out i
    have q2 := fun i => cell_block C2.out i

    go_upto_region 3 with fail
    go_wp2_with fail
    refine (HSp.out W HB.out).mono ?_
    rintro E w3 ⟨sv, rfl, ⟨L, hst, hL⟩, hb⟩
    have hL2 := bs_back hL
    subst hL2
    obtain ⟨av, cs, e9, _, _⟩ := hst.len
    obtain ⟨nl, hnl⟩ : ∃ n, (l.map mkB).length = n := ⟨_, rfl⟩
    rw [hnl] at e9
    subst e9
    have d1 : w3.heap[w.heap.size]? = _ := below_block hb C1.out
    have d2 : w3.heap[w.heap.size + 1]? = _ := below_block hb C2.out
    obtain ⟨w4, hw4⟩ : ∃ w4, w4 = w3.setCell ⟨w.heap.size + 1, 1, none⟩ (.slice av nl cs) := ⟨_, rfl⟩
    obtain ⟨t1, t2⟩ := touch_setCell (i := 1) (v := (.slice av nl cs)) d2
    rw [← hw4] at t1 t2
    have hB4 : Below w.heap.size w w4 := t2.below (HB.out.trans (hb.mono HB.out.size)) (by omega)
    have HB4 := Lib.hid hB4
    have C14 : Hid (w4.heap[w.heap.size]? = some (.cells #[.int .i64 3, .string p, .string f, .string v] 52 (0, 0))) := Lib.hid (t2.block d1 (by omega))
    have C24 : Hid (w4.heap[w.heap.size + 1]? = some (.cells #[.int .i64 3, (.slice av nl cs), .slice none 0 0, .nilIface] 81 (0, 0))) := Lib.hid t1
    have HSt : Hid (StrAt w4 (.slice av nl cs) (l.map mkB)) := Lib.hid (str_keep hst (off_str hst d2 (by intro i s; rcases i with _ | _ | _ | _ | i <;> simp)) t2)
    have z2 := fun i => free_block d2 i
    have z3 := fun i => cell_block d2 i
    clear hb hst hL d1 t1 t2 hB4 C1 C2 q1 q2
    go_upto_region 5 with fail
    rw [← hw4]
    clear hw4 z2 z3 d2 HB Hlt
    have q1 := fun i => cell_block C14.out i
    have q2 := fun i => cell_block C24.out i

    go_upto_region 14 with fail
    go_wp2_with fail
    refine (HRd.out w4).mono ?_
    rintro E w5 ⟨sx, rfl, ⟨n, hj⟩, hb⟩
    have hJ := hj [w.heap.size + 1] (fun b hb => by rw [List.mem_singleton.1 hb]; exact blk_lt C24.out)
    have hJ0 := hj [] (fun b hb => by cases hb)
    have d2 : w5.heap[w.heap.size + 1]? = _ := below_block hb C24.out
    have z2 := fun i => free_block d2 i
    have z3 := fun i => cell_block d2 i
    have hsv : ∀ s, (Value.slice av nl cs) ≠ .string s := fun s h => (by cases h)
    rcases jv_form hJ0 with rfl | ⟨ty, y, rfl⟩
    · obtain ⟨w6, hw6⟩ : ∃ w6, w6 = w5.setCell ⟨w.heap.size + 1, 3, none⟩ .nilIface := ⟨_, rfl⟩
      obtain ⟨t1, t2⟩ := touch_setCell (i := 3) (v := .nilIface) d2
      rw [← hw6] at t1 t2
      have hB6 : Below w.heap.size w w6 := t2.below (HB4.out.trans (hb.mono HB4.out.size)) (by omega)
      have HB6 := Lib.hid hB6
      have C26 : Hid (w6.heap[w.heap.size + 1]? = some (.cells #[.int .i64 3, (.slice av nl cs), .slice none 0 0, .nilIface] 81 (0, 0))) := Lib.hid t1
      have HSt1 : Hid (StrAt w6 (.slice av nl cs) (l.map mkB)) := Lib.hid (str_keep (HSt.out.below hb) (off_str (HSt.out.below hb) d2 (by intro i s; rcases i with _ | _ | _ | _ | i <;> simp [hsv])) t2)
      have HJ : Hid (JvAt n [w.heap.size + 1] w6 .nilIface x) := Lib.hid (hJ.keepT (KeepT.but (But.touch t2) (List.mem_singleton.2 rfl)))
      clear hb hj hJ hJ0 t1 t2 hB6 C14 C24 q1 q2 HSt
      go_upto_region 15 with fail
      rw [← hw6]
      clear hw6 z2 z3 d2 HB4
      go_wp2_with (first | (refine wpList_load_row (by rfl) _ _ (by rfl) (w.heap.size + 1) (by rfl) _ _ _ _ (by exact C26.out) Tryz.underlying81 rfl (by exact Tryz.sizeStep) ?_) | (refine wpList_store_box (by rfl) _ _ _ (by rfl) (w.heap.size + 1) #[.int .i64 3, (.slice av nl cs), .slice none 0 0, .nilIface] (by rfl) (by rfl) _ _ (by exact C26.out) (by exact Tryz.sizeStep) (by rfl) (by simp [Value.oneCell', ]) ?_))
      intro WF bF tF
      have HF := Lib.hid (tF.below HB6.out (by omega))
      go_wp2_with fail
      refine bodyPost_ret (v := .tuple #[.agg #[.int .i64 3, (.slice av nl cs), .slice none 0 0, .nilIface], .int .i64 ev]) ?_ rfl ?_
      · exact results_two_box Tryz.results60 _ _ (w.heap.size + 1) _ _ _ _ (by rfl) bF Tryz.underlying81 rfl (by exact Tryz.sizeStep)
      · exact ⟨_, _, _, by rw [HRx.out], fun h => by rw [HRx.out]; exact ⟨str_keep HSt1.out (off_str HSt1.out C26.out (by intro i s; rcases i with _ | _ | _ | _ | i <;> simp [hsv])) tF, str_nil _, n, (HJ.out.keepT (KeepT.but (But.touch tF) (List.mem_singleton.2 rfl))).fresh (fun b hb => by cases hb)⟩, ⟨rfl, rfl, rfl⟩, HF.out⟩
    · obtain ⟨w6, hw6⟩ : ∃ w6, w6 = w5.setCell ⟨w.heap.size + 1, 3, none⟩ (.iface ty y) := ⟨_, rfl⟩
      obtain ⟨t1, t2⟩ := touch_setCell (i := 3) (v := (.iface ty y)) d2
      rw [← hw6] at t1 t2
      have hB6 : Below w.heap.size w w6 := t2.below (HB4.out.trans (hb.mono HB4.out.size)) (by omega)
      have HB6 := Lib.hid hB6
      have C26 : Hid (w6.heap[w.heap.size + 1]? = some (.cells #[.int .i64 3, (.slice av nl cs), .slice none 0 0, (.iface ty y)] 81 (0, 0))) := Lib.hid t1
      have HSt1 : Hid (StrAt w6 (.slice av nl cs) (l.map mkB)) := Lib.hid (str_keep (HSt.out.below hb) (off_str (HSt.out.below hb) d2 (by intro i s; rcases i with _ | _ | _ | _ | i <;> simp [hsv])) t2)
      have HJ : Hid (JvAt n [w.heap.size + 1] w6 (.iface ty y) x) := Lib.hid (hJ.keepT (KeepT.but (But.touch t2) (List.mem_singleton.2 rfl)))
      clear hb hj hJ hJ0 t1 t2 hB6 C14 C24 q1 q2 HSt
      go_upto_region 15 with fail
      rw [← hw6]
      clear hw6 z2 z3 d2 HB4
      go_wp2_with (first | (refine wpList_load_row (by rfl) _ _ (by rfl) (w.heap.size + 1) (by rfl) _ _ _ _ (by exact C26.out) Tryz.underlying81 rfl (by exact Tryz.sizeStep) ?_) | (refine wpList_store_box (by rfl) _ _ _ (by rfl) (w.heap.size + 1) #[.int .i64 3, (.slice av nl cs), .slice none 0 0, (.iface ty y)] (by rfl) (by rfl) _ _ (by exact C26.out) (by exact Tryz.sizeStep) (by rfl) (by simp [Value.oneCell', ]) ?_))
      intro WF bF tF
      have HF := Lib.hid (tF.below HB6.out (by omega))
      go_wp2_with fail
      refine bodyPost_ret (v := .tuple #[.agg #[.int .i64 3, (.slice av nl cs), .slice none 0 0, (.iface ty y)], .int .i64 ev]) ?_ rfl ?_
      · exact results_two_box Tryz.results60 _ _ (w.heap.size + 1) _ _ _ _ (by rfl) bF Tryz.underlying81 rfl (by exact Tryz.sizeStep)
      · exact ⟨_, _, _, by rw [HRx.out], fun h => by rw [HRx.out]; exact ⟨str_keep HSt1.out (off_str HSt1.out C26.out (by intro i s; rcases i with _ | _ | _ | _ | i <;> simp [hsv])) tF, str_nil _, n, (HJ.out.keepT (KeepT.but (But.touch tF) (List.mem_singleton.2 rfl))).fresh (fun b hb => by cases hb)⟩, ⟨rfl, rfl, rfl⟩, HF.out⟩
  · go_enter Tryz.func60, Tryz.ntmps60
    go_upto_region 2 with fail
    rw [← hW]
    clear hW
    have q1 := fun i => cell_block C1.out i
    have q2 := fun i => cell_block C2.out i

    go_upto_region 3 with fail
    go_wp2_with fail
    refine (HSp.out W HB.out).mono ?_
    rintro E w3 ⟨sv, rfl, ⟨L, hst, hL⟩, hb⟩
    have hL2 := bs_back hL
    subst hL2
    obtain ⟨av, cs, e9, _, _⟩ := hst.len
    obtain ⟨nl, hnl⟩ : ∃ n, (l.map mkB).length = n := ⟨_, rfl⟩
    rw [hnl] at e9
    subst e9
    have d1 : w3.heap[w.heap.size]? = _ := below_block hb C1.out
    have d2 : w3.heap[w.heap.size + 1]? = _ := below_block hb C2.out
    obtain ⟨w4, hw4⟩ : ∃ w4, w4 = w3.setCell ⟨w.heap.size + 1, 1, none⟩ (.slice av nl cs) := ⟨_, rfl⟩
    obtain ⟨t1, t2⟩ := touch_setCell (i := 1) (v := (.slice av nl cs)) d2
    rw [← hw4] at t1 t2
    have hB4 : Below w.heap.size w w4 := t2.below (HB.out.trans (hb.mono HB.out.size)) (by omega)
    have HB4 := Lib.hid hB4
    have C14 : Hid (w4.heap[w.heap.size]? = some (.cells #[.int .i64 6, .string p, .string f, .string v] 52 (0, 0))) := Lib.hid (t2.block d1 (by omega))
    have C24 : Hid (w4.heap[w.heap.size + 1]? = some (.cells #[.int .i64 6, (.slice av nl cs), .slice none 0 0, .nilIface] 81 (0, 0))) := Lib.hid t1
    have HSt : Hid (StrAt w4 (.slice av nl cs) (l.map mkB)) := Lib.hid (str_keep hst (off_str hst d2 (by intro i s; rcases i with _ | _ | _ | _ | i <;> simp)) t2)
    have z2 := fun i => free_block d2 i
    have z3 := fun i => cell_block d2 i
    clear hb hst hL d1 t1 t2 hB4 C1 C2 q1 q2
    go_upto_region 5 with fail
    rw [← hw4]
    clear hw4 z2 z3 d2 HB Hlt
    have q1 := fun i => cell_block C14.out i
    have q2 := fun i => cell_block C24.out i

    go_upto_region 14 with fail
    go_wp2_with fail
    refine (HRd.out w4).mono ?_
    rintro E w5 ⟨sx, rfl, ⟨n, hj⟩, hb⟩
    have hJ := hj [w.heap.size + 1] (fun b hb => by rw [List.mem_singleton.1 hb]; exact blk_lt C24.out)
    have hJ0 := hj [] (fun b hb => by cases hb)
    have d2 : w5.heap[w.heap.size + 1]? = _ := below_block hb C24.out
    have z2 := fun i => free_block d2 i
    have z3 := fun i => cell_block d2 i
    have hsv : ∀ s, (Value.slice av nl cs) ≠ .string s := fun s h => (by cases h)
    rcases jv_form hJ0 with rfl | ⟨ty, y, rfl⟩
    · obtain ⟨w6, hw6⟩ : ∃ w6, w6 = w5.setCell ⟨w.heap.size + 1, 3, none⟩ .nilIface := ⟨_, rfl⟩
      obtain ⟨t1, t2⟩ := touch_setCell (i := 3) (v := .nilIface) d2
      rw [← hw6] at t1 t2
      have hB6 : Below w.heap.size w w6 := t2.below (HB4.out.trans (hb.mono HB4.out.size)) (by omega)
      have HB6 := Lib.hid hB6
      have C26 : Hid (w6.heap[w.heap.size + 1]? = some (.cells #[.int .i64 6, (.slice av nl cs), .slice none 0 0, .nilIface] 81 (0, 0))) := Lib.hid t1
      have HSt1 : Hid (StrAt w6 (.slice av nl cs) (l.map mkB)) := Lib.hid (str_keep (HSt.out.below hb) (off_str (HSt.out.below hb) d2 (by intro i s; rcases i with _ | _ | _ | _ | i <;> simp [hsv])) t2)
      have HJ : Hid (JvAt n [w.heap.size + 1] w6 .nilIface x) := Lib.hid (hJ.keepT (KeepT.but (But.touch t2) (List.mem_singleton.2 rfl)))
      clear hb hj hJ hJ0 t1 t2 hB6 C14 C24 q1 q2 HSt
      go_upto_region 15 with fail
      rw [← hw6]
      clear hw6 z2 z3 d2 HB4
      go_wp2_with (first | (refine wpList_load_row (by rfl) _ _ (by rfl) (w.heap.size + 1) (by rfl) _ _ _ _ (by exact C26.out) Tryz.underlying81 rfl (by exact Tryz.sizeStep) ?_) | (refine wpList_store_box (by rfl) _ _ _ (by rfl) (w.heap.size + 1) #[.int .i64 6, (.slice av nl cs), .slice none 0 0, .nilIface] (by rfl) (by rfl) _ _ (by exact C26.out) (by exact Tryz.sizeStep) (by rfl) (by simp [Value.oneCell', ]) ?_))
      intro WF bF tF
      have HF := Lib.hid (tF.below HB6.out (by omega))
      go_wp2_with fail
      refine bodyPost_ret (v := .tuple #[.agg #[.int .i64 6, (.slice av nl cs), .slice none 0 0, .nilIface], .int .i64 ev]) ?_ rfl ?_
      · exact results_two_box Tryz.results60 _ _ (w.heap.size + 1) _ _ _ _ (by rfl) bF Tryz.underlying81 rfl (by exact Tryz.sizeStep)
      · exact ⟨_, _, _, by rw [HRx.out], fun h => by rw [HRx.out]; exact ⟨str_keep HSt1.out (off_str HSt1.out C26.out (by intro i s; rcases i with _ | _ | _ | _ | i <;> simp [hsv])) tF, str_nil _, n, (HJ.out.keepT (KeepT.but (But.touch tF) (List.mem_singleton.2 rfl))).fresh (fun b hb => by cases hb)⟩, ⟨rfl, rfl, rfl⟩, HF.out⟩
    · obtain ⟨w6, hw6⟩ : ∃ w6, w6 = w5.setCell ⟨w.heap.size + 1, 3, none⟩ (.iface ty y) := ⟨_, rfl⟩
      obtain ⟨t1, t2⟩ := touch_setCell (i := 3) (v := (.iface ty y)) d2
      rw [← hw6] at t1 t2
      have hB6 : Below w.heap.size w w6 := t2.below (HB4.out.trans (hb.mono HB4.out.size)) (by omega)
      have HB6 := Lib.hid hB6
      have C26 : Hid (w6.heap[w.heap.size + 1]? = some (.cells #[.int .i64 6, (.slice av nl cs), .slice none 0 0, (.iface ty y)] 81 (0, 0))) := Lib.hid t1
      have HSt1 : Hid (StrAt w6 (.slice av nl cs) (l.map mkB)) := Lib.hid (str_keep (HSt.out.below hb) (off_str (HSt.out.below hb) d2 (by intro i s; rcases i with _ | _ | _ | _ | i <;> simp [hsv])) t2)
      have HJ : Hid (JvAt n [w.heap.size + 1] w6 (.iface ty y) x) := Lib.hid (hJ.keepT (KeepT.but (But.touch t2) (List.mem_singleton.2 rfl)))
      clear hb hj hJ hJ0 t1 t2 hB6 C14 C24 q1 q2 HSt
      go_upto_region 15 with fail
      rw [← hw6]
      clear hw6 z2 z3 d2 HB4
      go_wp2_with (first | (refine wpList_load_row (by rfl) _ _ (by rfl) (w.heap.size + 1) (by rfl) _ _ _ _ (by exact C26.out) Tryz.underlying81 rfl (by exact Tryz.sizeStep) ?_) | (refine wpList_store_box (by rfl) _ _ _ (by rfl) (w.heap.size + 1) #[.int .i64 6, (.slice av nl cs), .slice none 0 0, (.iface ty y)] (by rfl) (by rfl) _ _ (by exact C26.out) (by exact Tryz.sizeStep) (by rfl) (by simp [Value.oneCell', ]) ?_))
      intro WF bF tF
      have HF := Lib.hid (tF.below HB6.out (by omega))
      go_wp2_with fail
      refine bodyPost_ret (v := .tuple #[.agg #[.int .i64 6, (.slice av nl cs), .slice none 0 0, (.iface ty y)], .int .i64 ev]) ?_ rfl ?_
      · exact results_two_box Tryz.results60 _ _ (w.heap.size + 1) _ _ _ _ (by rfl) bF Tryz.underlying81 rfl (by exact Tryz.sizeStep)
      · exact ⟨_, _, _, by rw [HRx.out], fun h => by rw [HRx.out]; exact ⟨str_keep HSt1.out (off_str HSt1.out C26.out (by intro i s; rcases i with _ | _ | _ | _ | i <;> simp [hsv])) tF, str_nil _, n, (HJ.out.keepT (KeepT.but (But.touch tF) (List.mem_singleton.2 rfl))).fresh (fun b hb => by cases hb)⟩, ⟨rfl, rfl, rfl⟩, HF.out⟩

theorem pread_any (kd : Int) (p f v : ByteArray) (w : World) (hp : p.size ≤ 1048576) (hf : f.size ≤ 1048576) (hv : v.size ≤ 1048576) (hE : Env w) :
    Calls Tryz.prog 60 #[.agg #[.int .i64 kd, .string p, .string f, .string v]] w (ReadAt kd (JP.readO ⟨kd, p.data.toList, f.data.toList, v.data.toList⟩) w) := by
  by_cases hk : kd < 1 ∨ 6 < kd
  · exact pread_out kd p f v w hp hf hv hE hk
  by_cases he : (stepsP p.data.toList).1 = 0
  · by_cases h2 : kd = 2
    · exact pread_cut kd p f v w hp hf hv hE h2 he
    by_cases h4 : kd = 4 ∨ kd = 5
    · exact pread_from kd p f v w hp hf hv hE h4 he
    · exact pread_val kd p f v w hp hf hv hE (by omega) he
  · exact pread_err kd p f v w hp hf hv hE (by omega) he
end Go.Proofs.YtlbolbkikkiifaaGreatDoor
/- tree.Insert: its contract (printed by gen_put.py). -/
namespace Go.Proofs.YtlbolbkikkiifaaGreatDoor
open Go.RowKit
open JP (JV Bs)

set_option maxRecDepth 100000 in
set_option maxHeartbeats 6400000 in
theorem tinsL_any {cb : Nat} {y : JV} (n : Nat) (v : Value) (x : JV) (s : Bs) (w : World) (h : JvAt n [] w v x) (hz : (JP.text x).length ≤ 1000000) (hs : s.length ≤ 1048576) (ht : TabOK w) (he : ErrOK w) (hc : BoxOf cb y w) :
    Calls Tryz.prog 147 #[v, .string (mkB s), .pointer (some ⟨cb, 0, none⟩)] w (MadeE (JP.insL y x s) w) := by
  obtain ⟨R0, hR⟩ : ∃ R, JP.insL y x s = R := ⟨_, rfl⟩
  rw [hR]
  have HR := Lib.hid hR
  clear hR
  obtain ⟨wv, m, ec, hy⟩ := hc
  have hcb : cb < w.heap.size := World.block_lt_of_cell? w ⟨cb, 0, none⟩ ec
  cases n with
  | zero => cases h
  | succ n =>
    rcases three_ways x with ⟨l, rfl⟩ | ⟨l, rfl⟩ | ⟨h1, h2⟩
    · obtain ⟨q, rfl, ho⟩ := h
      have G1 := (as_obj (.pointer (some ⟨q, 0, none⟩))).2.2.2.2
      have hl : l.length ≤ 1000000 := by have := lenF_len l; have := JP.obj_len_ge l; omega
      have HWi := Lib.hid (with_any (x := s) (ho.upsJ (Nat.le_max_left n m)) (hy.ups (Nat.le_max_right n m)) (fun b hb => by cases hb) (by omega))
      have HN : Hid (R0 = some (.obj (JP.put s y l))) := Lib.hid HR.out.symm
      clear ho hy ht he hz hs hl
      go_enter Tryz.func147, Tryz.ntmps147
      go_wp2_with fail
      refine HWi.out.mono ?_
      rintro E w1 ⟨q', rfl, ho, hb⟩
      have HB := Lib.hid hb
      have HO := Lib.hid ho
      clear hb ho
      go_wp2_with fail
      go_ret2
      exact MadeE.yes (k := max n m + 1) HN.out ⟨q', rfl, HO.out⟩ HB.out
    · have hj := h
      obtain ⟨u, rfl, hr, _⟩ := h
      obtain ⟨a1, c1, rfl, _, _⟩ := hr.len
      obtain ⟨G1, G2⟩ := (as_list (.slice a1 l.length c1)).2.2.2
      have hl : l.length ≤ 1000000 := by have := lenL_len l; have := JP.list_len_ge l; omega
      cases hpl : JP.place s l.length with
      | none =>
        have HI := Lib.hid (place_no hpl hs (by omega) ht he)
        have HN : Hid (R0 = none) := Lib.hid (by rw [← HR.out, JP.insL, hpl])
        clear hpl ht he hs hr hz hj hy HR
        go_enter Tryz.func147, Tryz.ntmps147
        go_wp2_with fail
        refine HI.out.mono ?_
        rintro E w1 ⟨z, rfl, hb⟩
        have HB := Lib.hid hb
        clear hb
        go_wp2_with fail
        go_ret2
        exact MadeE.no HN.out HB.out
      | some k =>
        have HI := Lib.hid (place_yes hpl hs (by omega) ht he)
        have hkl := place_le hpl
        obtain ⟨xs, x1, x2, x3⟩ := list_raw hr
        obtain ⟨i0, hi0, hz0, hz1, hz2⟩ := info_parts Tryz.infoVal
        have HC1 := Lib.hid (fun w' (hb : Below w.heap.size w w') => cloneVal_any (.slice a1 l.length c1) xs w' (x2.below stays_val hb) (by omega))
        have HX3 := Lib.hid x3
        have HX1 := Lib.hid x1
        have HY := Lib.hid hy
        have hv1 := jv_cell hy
        have HVf := Lib.hid (jv_form hy)
        have HN : Hid (R0 = some (.list (l.take k ++ y :: l.drop k))) := Lib.hid (by rw [← HR.out, JP.insL, hpl])
        clear ht he hs hr x2 x3 hz HR x1 hy hpl hj
        go_enter Tryz.func147, Tryz.ntmps147
        go_wp2_with fail
        refine HI.out.mono ?_
        rintro E w1 ⟨rfl, hb⟩
        have HB1 := Lib.hid hb
        have ec1 : w1.cell? ⟨cb, 0, none⟩ = some wv := (hb.cell (p := ⟨cb, 0, none⟩) hcb).trans ec
        clear hb
        go_upto_region 9 with fail
        refine wp_region_relB 5 (fun ii U w' => match ii with
          | 0 => U 0 = .slice a1 l.length c1
          | 1 => OwnAt RVal 1 w' w.heap.size 77 (U 1) xs
          | 2 => U 2 = .int .i64 (k : Int)
          | 3 => U 3 = wv
          | 4 => ∃ g, U 4 = .slice (some ⟨g, 0, none⟩) 1 1 ∧ w'.heap[g]? = some (.cells #[wv] 77 (0, 0))
          | _ => True)
          (fun | 1 => [0] | 4 => [3] | _ => []) (by kernel_rfl) (by kernel_rfl) ?_ ⟨?_, ?_, ?_, ?_, ?_, trivial⟩ ?_
        · intro j u w1 w2 hb h
          match j, h with
          | 0, h => exact h
          | 1, h => exact OwnAt.below stays_val h hb
          | 2, h => exact h
          | 3, h => exact h
          | 4, h => exact (by obtain ⟨g, h1, h2⟩ := h; exact ⟨g, h1, below_block hb h2⟩)
          | _ + 5, h => trivial
        · intro x' w' hb hd
          have hbr : Below w.heap.size w w' := HB1.out.trans (((below_drew1 w1).trans hb).mono HB1.out.size)
          have e0 : w'.cell? ⟨cb, 0, none⟩ = some wv := (hbr.cell (p := ⟨cb, 0, none⟩) hcb).trans ec
          refine owes_here (.slice a1 l.length c1) (by rfl) ?_ rfl
          simp only [putAll, List.take_succ_cons, List.take_zero]
          go_simp
        · intro x' w' hb hd
          have hbr : Below w.heap.size w w' := HB1.out.trans (((below_drew1 w1).trans hb).mono HB1.out.size)
          have e0 : w'.cell? ⟨cb, 0, none⟩ = some wv := (hbr.cell (p := ⟨cb, 0, none⟩) hcb).trans ec
          have k0 : x' 0 = .slice a1 l.length c1 := hd 0 (by simp)
          refine owes_call 115 #[.slice a1 l.length c1] (by rfl) ?_ ((HC1.out w' hbr).mono fun e w2 ⟨v', h1, h2, h3⟩ => ⟨v', h1, h2.mono hbr.size, h3⟩)
          simp only [putAll, List.take_succ_cons, List.take_zero]
          go_simp
        · intro x' w' hb hd
          have hbr : Below w.heap.size w w' := HB1.out.trans (((below_drew1 w1).trans hb).mono HB1.out.size)
          have e0 : w'.cell? ⟨cb, 0, none⟩ = some wv := (hbr.cell (p := ⟨cb, 0, none⟩) hcb).trans ec
          refine owes_here (.int .i64 (k : Int)) (by rfl) ?_ rfl
          simp only [putAll, List.take_succ_cons, List.take_zero]
          go_simp
        · intro x' w' hb hd
          have hbr : Below w.heap.size w w' := HB1.out.trans (((below_drew1 w1).trans hb).mono HB1.out.size)
          have e0 : w'.cell? ⟨cb, 0, none⟩ = some wv := (hbr.cell (p := ⟨cb, 0, none⟩) hcb).trans ec
          refine owes_here wv (by rfl) ?_ rfl
          simp only [putAll, List.take_succ_cons, List.take_zero]
          go_simp
        · intro x' w' hb hd
          have hbr : Below w.heap.size w w' := HB1.out.trans (((below_drew1 w1).trans hb).mono HB1.out.size)
          have e0 : w'.cell? ⟨cb, 0, none⟩ = some wv := (hbr.cell (p := ⟨cb, 0, none⟩) hcb).trans ec
          have k0 : x' 3 = wv := hd 3 (by simp)
          have hf := HVf.out
          refine owes_makes (.slice (some ⟨w'.heap.size, 0, none⟩) 1 1) (w' := w'.alloc (.cells #[wv] 77)) (by rfl) ?_ (⟨_, rfl, heap_alloc_new w' _⟩) ((Below.refl _ _).alloc (Nat.le_refl _) _)
          simp only [putAll, List.take_succ_cons, List.take_zero]
          rcases hf with rfl | ⟨t, u, rfl⟩
          · go_simp
          · go_simp
        · intro x' w' hb hR
          have hbr : Below w.heap.size w w' := HB1.out.trans (((below_drew1 w1).trans hb).mono HB1.out.size)
          have e0 : w'.cell? ⟨cb, 0, none⟩ = some wv := (hbr.cell (p := ⟨cb, 0, none⟩) hcb).trans ec
          have k1 : OwnAt RVal 1 w' w.heap.size 77 (x' 1) xs := hR 1 (by omega)
          have k2 : x' 2 = .int .i64 (k : Int) := hR 2 (by omega)
          obtain ⟨g, kg1, kg2⟩ : ∃ g, x' 4 = .slice (some ⟨g, 0, none⟩) 1 1 ∧ w'.heap[g]? = some (.cells #[wv] 77 (0, 0)) := hR 4 (by omega)
          have hs1 := hbr.size
          have HIn := Lib.hid (insVal_any (x' 1) xs w.heap.size k wv g w' k1 (by rw [HX1.out]; exact hkl) hv1 kg2 hs1 (by rw [HX1.out]; omega))
          have Hb1 := Lib.hid hbr
          clear hR hb hbr kg2 k1 e0
          simp only [putAll, List.take_succ_cons, List.take_zero, List.drop_succ_cons, List.drop_zero]
          try simp only [Act.put, List.setIfInBounds_toArray, List.set_cons_zero, List.set_cons_succ]
          rw [k2, kg1]
          go_wp2_with fail
          refine HIn.out.mono ?_
          rintro E w2 ⟨v', rfl, hv', hb2, _⟩
          have Hb2 := Lib.hid (Hb1.out.trans hb2)
          have Hv := Lib.hid hv'
          clear hv' hb2
          go_wp2_with fail
          go_ret2
          refine MadeE.yes (k := max n m + 1) HN.out ?_ Hb2.out
          refine jv_list Hv.out.row (by rw [putin_len (by rw [HX1.out]; exact hkl), List.length_append, List.length_take, List.length_cons, List.length_drop, HX1.out]; omega) fun j u z hu hz => ?_
          exact pairs_get (P := fun u z => JvAt (max n m) [] w2 u z) (fun j u z hu hz => ((HX3.out j u z hu hz).below Hb2.out).ups (Nat.le_max_left n m)) ((HY.out.below Hb2.out).ups (Nat.le_max_right n m)) HX1.out hkl j u z hu hz
    · have G1 := as_other h h1
      have G2 := as_nolist h h2
      have HN : Hid (R0 = none) := Lib.hid (by rw [← HR.out]; exact (putL_no (w := y) h1 h2).2.1)
      clear h h1 h2 ht he hz hs HR hy
      go_enter Tryz.func147, Tryz.ntmps147
      go_wp2_with fail
      go_ret2
      exact MadeE.no HN.out (Below.refl _ _)
theorem enter_tins (a : Array Value) (w : World) : (callFunc 147 a).run Tryz.prog w = .ok (.enter 147 a) w := by kernel_rfl
set_option maxRecDepth 100000 in
set_option maxHeartbeats 3200000 in
theorem tins_any {n m : Nat} {v sv wv : Value} {x y : JV} {l : List Bs} {w : World} (h : JvAt n [] w v x) (hy : JvAt m [] w wv y) (hz : (JP.text x).length ≤ 1000000) (hs : StrAt w sv (l.map mkB)) (hl : ∀ s ∈ l, s.length ≤ 1048576) (hll : l.length ≤ 1048576) (ht : TabOK w) (he : ErrOK w) :
    Calls Tryz.prog 101 #[v, sv, wv] w (MadeE (JP.insW x l y) w) := by
  obtain ⟨a1, c1, hu, _, _⟩ := hs.len
  rw [List.length_map] at hu
  subst hu
  obtain ⟨W, hW⟩ : ∃ W, w.alloc (.cells #[wv] 77) = W := ⟨_, rfl⟩
  have hf := jv_form hy
  have hb : Below w.heap.size w W := by rw [← hW]; exact (Below.refl _ _).alloc (Nat.le_refl _) _
  have hcell : W.cell? ⟨w.heap.size, 0, none⟩ = some wv := by rw [← hW, cell_block (heap_alloc_new w _)]; rfl
  have HB := Lib.hid hb
  by_cases h0 : l = []
  · subst h0
    have HJ := Lib.hid (hy.below hb)
    have HN : Hid (JP.insW x [] y = some y) := Lib.hid (if_pos rfl)
    clear h hy hz hs hl hll ht he hb
    go_enter Tryz.func101, Tryz.ntmps101
    rcases hf with rfl | ⟨t, u, rfl⟩
    all_goals
      go_wp2_with fail
      go_ret2
      exact MadeE.yes HN.out HJ.out HB.out
  · have hU := under1_any (cap := .pointer (some ⟨w.heap.size, 0, none⟩)) (F := JP.insL y) enter_tins (Cap := BoxOf w.heap.size y) (fun w' w2 h hb => h.below hb) (fun n v x s w' h1 h2 h3 h4 h5 h6 => tinsL_any n v x s w' h1 h2 h3 h4 h5 h6) l n v (.slice a1 l.length c1) x W h0 (h.below hb) hz (hs.below hb) hl hll (ht.below hb) (he.below hb) ⟨wv, m, hcell, hy.below hb⟩
    have HU := Lib.hid hU
    have HN : Hid (JP.insW x l y = JP.under (JP.insL y) x l) := Lib.hid (if_neg h0)
    have q1 : ((l.length : Int) == 0) = false := by
      rw [beq_eq_false_iff_ne]
      intro e
      exact h0 (List.eq_nil_of_length_eq_zero (by omega))
    clear h hy hz hs hl hll ht he hb hU h0
    rw [HN.out]
    go_enter Tryz.func101, Tryz.ntmps101
    rcases hf with rfl | ⟨t, u, rfl⟩
    all_goals
      go_wp2_with fail
      refine HU.out.mono ?_
      rintro E w1 ⟨u, rfl, hu, hb1⟩
      have HB1 := Lib.hid (HB.out.trans (hb1.mono HB.out.size))
      have Hu := Lib.hid hu
      clear hb1 hu
      go_wp2_with fail
      go_ret2
      exact ⟨u, rfl, Hu.out, HB1.out⟩
end Go.Proofs.YtlbolbkikkiifaaGreatDoor
/- patch: what a step does. -/
namespace Go.Proofs.YtlbolbkikkiifaaGreatDoor
open Go.RowKit
open JP (JV Bs)

theorem row_take {α : Type} {R : Rd α} {k : Nat} {w : World} {a : Option Addr} {n c m : Nat} {l : List α} (h : RowAt R k w (.slice a n c) l) (hm : m ≤ l.length) : RowAt R k w (.slice a m c) (l.take m) := by
  rcases h with ⟨h1, rfl⟩ | ⟨b, c', h1, h2, h3, h4⟩
  · cases h1
    obtain rfl : m = 0 := by simpa using hm
    exact .inl ⟨rfl, rfl⟩
  · cases h1
    refine .inr ⟨b, c, by rw [List.length_take, Nat.min_eq_left hm], by rw [List.length_take]; omega, h3, fun j x hx => ?_⟩
    refine h4 j x ?_
    rw [List.getElem?_take] at hx
    split at hx
    · exact hx
    · cases hx
theorem mk_eq (a b : List Bs) : (a.map mkB = b.map mkB) = (a = b) := by
  apply propext
  refine ⟨fun h => ?_, fun h => by rw [h]⟩
  have := congrArg (List.map (·.data.toList)) h
  rw [List.map_map, List.map_map] at this
  have e : ((fun s : ByteArray => s.data.toList) ∘ mkB) = id := by funext s; exact mkB_list s
  rwa [e, List.map_id, List.map_id] at this
theorem dec_mk (a b : List Bs) : decide (a.map mkB = b.map mkB) = decide (a = b) := decide_eq_decide.2 (by rw [mk_eq])
/-- slices.Equal at texts -/
theorem equalS_any {a1 a2 : Option Addr} {n1 n2 c1 c2 : Nat} {L1 L2 : List ByteArray} {w : World} (h1 : StrAt w (.slice a1 n1 c1) L1) (h2 : StrAt w (.slice a2 n2 c2) L2) (l1 : L1.length ≤ 1048576) (l2 : L2.length ≤ 1048576) :
    Calls Tryz.prog 69 #[.slice a1 n1 c1, .slice a2 n2 c2] w fun e w' => e = .returned (.bool (decide (L1 = L2))) ∧ Below w.heap.size w w' := by
  obtain ⟨x1, y1, e1, _⟩ := h1.len
  obtain ⟨x2, y2, e2, _⟩ := h2.len
  injection e1 with _ e1
  injection e2 with _ e2
  subst e1; subst e2
  by_cases hn : L1.length = L2.length
  · by_cases h0 : L1.length = 0
    · obtain rfl := List.eq_nil_of_length_eq_zero h0
      obtain rfl := List.eq_nil_of_length_eq_zero (hn.symm.trans h0)
      refine (Tryz.slices_Equal_string_empty a1 a2 c1 0 c2 w (by omega)).mono ?_
      rintro E w' ⟨rfl, rfl⟩
      exact ⟨by simp, Below.refl _ _⟩
    · obtain ⟨b1, o1, d1, hv1, _, _, _, k1⟩ := h1.row.form (by omega) (by decide)
      obtain ⟨b2, o2, d2, hv2, _, _, _, k2⟩ := h2.row.form (by omega) (by decide)
      cases hv1
      cases hv2
      have cell : ∀ {b o : Nat} {L : List ByteArray}, (∀ j x, L[j]? = some x → ∃ cs, cs.length = 1 ∧ (∀ i u, cs[i]? = some u → w.cell? ⟨b, o + j * 1 + i, none⟩ = some u) ∧ RString w cs x) → ∀ j, j < L.length → w.cell? ⟨b, o + j, none⟩ = some (.string (L.getD j ByteArray.empty)) := fun {b o L} k j hj => by
        obtain ⟨ds, _, hcc, hR⟩ := k j L[j] (List.getElem?_eq_getElem hj)
        obtain rfl : ds = [.string L[j]] := hR
        have := hcc 0 _ rfl
        rw [List.getD_eq_getElem?_getD, List.getElem?_eq_getElem hj]
        simpa using this
      refine (Tryz.slices_Equal_string b1 o1 L1.length c1 b2 o2 L2.length c2 L1 L2 w (Nat.le_refl _) (Nat.le_refl _) (by omega) (by omega) (cell k1) (cell k2)).mono ?_
      rintro E w' ⟨rfl, q, rfl⟩
      exact ⟨by rw [List.take_length, List.take_length], below_drewNj (Below.refl _ _) q⟩
  · refine (Tryz.slices_Equal_string_lens a1 a2 L1.length c1 L2.length c2 w hn).mono ?_
    rintro E w' ⟨rfl, rfl⟩
    exact ⟨by rw [decide_eq_false (fun e => hn (by rw [e]))], Below.refl _ _⟩
set_option maxRecDepth 100000 in
set_option maxHeartbeats 1600000 in
theorem begins_any {sa sb : Value} {a b : List Bs} {w : World} (ha : StrAt w sa (a.map mkB)) (hb : StrAt w sb (b.map mkB)) (la : a.length ≤ 1048576) (lb : b.length ≤ 1048576) :
    Calls Tryz.prog 152 #[sa, sb] w fun e w' => e = .returned (.bool (JP.beginsP a b)) ∧ Below w.heap.size w w' := by
  obtain ⟨a1, c1, e1, _⟩ := ha.len
  obtain ⟨a2, c2, e2, k2, _⟩ := hb.len
  rw [List.length_map] at e1 e2 k2
  subst e1; subst e2
  obtain ⟨B0, hB0⟩ : ∃ B, JP.beginsP a b = B := ⟨_, rfl⟩
  rw [hB0]
  unfold JP.beginsP at hB0
  by_cases hl : a.length < b.length
  · rw [decide_eq_true hl, Bool.true_and] at hB0
    have htk := row_take hb.row (m := a.length) (by rw [List.length_map]; omega)
    rw [← List.map_take] at htk
    have hst : StrAt w (.slice a2 a.length c2) ((b.take a.length).map mkB) := RowAt.strs htk
    have HQ := Lib.hid (equalS_any ha hst (by rw [List.length_map]; exact la) (by rw [List.length_map, List.length_take]; omega))
    rw [dec_mk, hB0] at HQ
    obtain ⟨n, hn⟩ : ∃ n, a.length = n := ⟨_, rfl⟩
    obtain ⟨m, hm⟩ : ∃ n, b.length = n := ⟨_, rfl⟩
    rw [hn] at HQ hl
    rw [hm] at hl k2
    rw [hn, hm]
    have q1 : (n : Int) < (m : Int) := by omega
    have q2 : (0 : Int) ≤ (n : Int) := by omega
    have q3 : (n : Int) ≤ (c2 : Int) := by omega
    clear ha hb hst htk hB0 hn hm
    go_enter Tryz.func152, Tryz.ntmps152
    go_wp2_with fail
    refine HQ.out.mono ?_
    rintro E w1 ⟨rfl, hb⟩
    have HB := Lib.hid hb
    clear hb
    go_wp2_with fail
    go_ret
    exact ⟨rfl, HB.out⟩
  · rw [decide_eq_false hl, Bool.false_and] at hB0
    subst hB0
    have q1 : ¬ (a.length : Int) < (b.length : Int) := by omega
    clear ha hb
    go_enter Tryz.func152, Tryz.ntmps152
    go_wp2_with fail
    go_ret
    exact ⟨rfl, Below.refl _ _⟩
def DoneAt (r : Int × JV) (w : World) (e : Ending) (w' : World) : Prop := ∃ u, e = .returned (.tuple #[u, .int .i64 r.1]) ∧ (r.1 = 0 → ∃ k, JvAt k [] w' u r.2) ∧ Below w.heap.size w w'
theorem DoneAt.of {r : Int × JV} {w w' : World} {u : Value} {c : Int} (h1 : r.1 = c) (h2 : r.1 = 0 → ∃ k, JvAt k [] w' u r.2) (hb : Below w.heap.size w w') : DoneAt r w (.returned (.tuple #[u, .int .i64 c])) w' := ⟨u, by rw [h1], h2, hb⟩
theorem DoneAt.no {r : Int × JV} {w w' : World} {u : Value} {c : Int} (h1 : r.1 = c) (hc : c ≠ 0) (hb : Below w.heap.size w w') : DoneAt r w (.returned (.tuple #[u, .int .i64 c])) w' := .of h1 (fun h => absurd (h1.symm.trans h) hc) hb
theorem toI_code (c : Int) (o : Option JV) : (JP.toI c o).1 = JP.codE c o := by cases o <;> rfl
theorem toI_jv {o : Option JV} {w' : World} {u : Value} (h : ∀ z, o = some z → ∃ k, JvAt k [] w' u z) : (JP.toI 7 o).1 = 0 → ∃ k, JvAt k [] w' u (JP.toI 7 o).2 := fun h0 => by
  cases o with
  | none => cases h0
  | some z => exact h z rfl
set_option maxRecDepth 100000 in
set_option maxHeartbeats 6400000 in
theorem pcarry4 (kd : Int) (pa fr : List Bs) (val x : JV) (s1 s2 s3 v : Value) (n : Nat) (w : World) (hs : StepAt w s1 s2 s3 ⟨kd, pa, fr, val⟩) (ok : JP.PSOK ⟨kd, pa, fr, val⟩ 1048576) (hj : JvAt n [] w v x) (hx : JP.Fit x) (hE : Env w) (hk : kd = 4) :
    Calls Tryz.prog 104 #[.agg #[.int .i64 kd, s1, s2, s3], v] w (DoneAt (JP.carryP ⟨kd, pa, fr, val⟩ x) w) := by
  obtain ⟨hs1, hs2, n3, hs3⟩ := hs
  have hs1 : StrAt w s1 (pa.map mkB) := hs1
  have hs2 : StrAt w s2 (fr.map mkB) := hs2
  have hs3 : JvAt n3 [] w s3 val := hs3
  obtain ⟨k1, k2, k3, k4, k5, k6, k7⟩ := ok
  dsimp only at k1 k2 k3 k4 k5 k6 k7
  obtain ⟨D, hD⟩ : ∃ D, JP.carryP ⟨kd, pa, fr, val⟩ x = D := ⟨_, rfl⟩
  rw [hD]
  unfold JP.carryP at hD
  dsimp only at hD
  obtain ⟨w2, hw⟩ : ∃ w2, w2 = w.alloc (.cells #[.int .i64 kd, s1, s2, s3] 81) := ⟨_, rfl⟩
  have b1 : w2.heap[w.heap.size]? = some (.cells #[.int .i64 kd, s1, s2, s3] 81 (0, 0)) := by rw [hw]; exact heap_alloc_new w _
  have hb2 : Below w.heap.size w w2 := by rw [hw]; exact (Below.refl _ w).alloc (Nat.le_refl _) _
  have HB2 := Lib.hid hb2
  have C1 := Lib.hid b1
  have HE := Lib.hid (hE.below hb2)
  have HS1 := Lib.hid (hs1.below hb2)
  have HS2 := Lib.hid (hs2.below hb2)
  have HS3 := Lib.hid (hs3.below hb2)
  have HJ := Lib.hid (hj.below hb2)
  have Hx := Lib.hid hx
  have Hz : Hid ((JP.text x).length ≤ 1000000) := Lib.hid (by have h9 : (JP.text x).length ≤ 2000 := hx.2.2.2; show _ ≤ _; omega)
  have K1 := Lib.hid k1
  have K2 := Lib.hid k2
  have K3 := Lib.hid k3
  have K4 := Lib.hid k4
  have K5 := Lib.hid k5
  have K6 := Lib.hid k6
  have K7 := Lib.hid k7
  have q1 := fun i => cell_block b1 i
  clear hb2 hs1 hs2 hs3 hj hE hx k1 k2 k5 k6 k7 b1
  subst hk
  obtain ⟨Bg, hBg⟩ : ∃ B, JP.beginsP fr pa = B := ⟨_, rfl⟩
  have HBg := Lib.hid (begins_any HS2.out HS1.out (by omega) (by omega))
  rw [hBg] at HBg hD
  obtain ⟨A, hA⟩ : ∃ A, JP.atW x fr = A := ⟨_, rfl⟩
  rw [hA] at hD
  have HA := Lib.hid hA
  cases Bg with
  | true =>
    rw [if_pos ⟨rfl, rfl⟩] at hD
    have HD : Hid (D.1 = 1) := Lib.hid (by rw [← hD])
    clear hD hA hBg
    go_enter Tryz.func104, Tryz.ntmps104
    go_upto_region 1 with fail
    rw [← hw]
    clear hw
    go_wp2_with fail
    refine HBg.out.mono ?_
    rintro E w3 ⟨rfl, hb⟩
    have HB3 := Lib.hid (HB2.out.trans (hb.mono HB2.out.size))
    clear hb q1
    go_wp2_with fail
    go_ret2
    exact .no HD.out (by decide) HB3.out
  | false =>
    rw [if_neg (fun e => by cases e.2)] at hD
    have HBg2 := Lib.hid hBg
    clear hBg hA
    have HAt := Lib.hid (fun (w3 : World) (hb : Below w2.heap.size w2 w3) => at_any (HJ.out.below hb) Hz.out (HS2.out.below hb) K2.out (by have := K4.out; omega) (HE.out.below hb).1 (HE.out.below hb).2.1)
    rw [HA.out] at HAt
    cases A with
    | none =>
      have HD : Hid (D.1 = 7) := Lib.hid (by rw [← hD])
      clear hD
      go_enter Tryz.func104, Tryz.ntmps104
      go_upto_region 1 with fail
      rw [← hw]
      clear hw
      go_wp2_with fail
      refine HBg.out.mono ?_
      rintro E w3 ⟨rfl, hb⟩
      have HB3 := Lib.hid (HB2.out.trans (hb.mono HB2.out.size))
      have d1 := below_block hb C1.out
      have HBx := Lib.hid hb
      have q2 := fun i => cell_block d1 i
      clear hb d1 q1
      go_wp2_with fail
      refine (HAt.out w3 HBx.out).mono ?_
      rintro E w4 ⟨u, rfl, hu, hb⟩
      have HB4 := Lib.hid (HB3.out.trans (hb.mono HB3.out.size))
      clear hb hu q2
      go_wp2_with fail
      go_ret2
      exact .no HD.out (by decide) HB4.out
    | some y =>
      dsimp only at hD
      rw [if_pos rfl] at hD
      have HEq := Lib.hid (fun (w3 : World) (hb : Below w2.heap.size w2 w3) => HS2.out.below hb)
      have HEp := Lib.hid (fun (w3 : World) (hb : Below w2.heap.size w2 w3) => HS1.out.below hb)
      obtain ⟨a1, c1, e1, _⟩ := HS1.out.len
      obtain ⟨a2, c2, e2, _⟩ := HS2.out.len
      subst e1; subst e2
      simp only [List.length_map] at HEq HEp HAt C1 q1 HS1 HS2 HBg hw
      rw [List.length_map, List.length_map]
      have HQ := Lib.hid (fun (w3 : World) (hb : Below w2.heap.size w2 w3) => equalS_any (HEq.out w3 hb) (HEp.out w3 hb) (by rw [List.length_map]; have := K4.out; omega) (by rw [List.length_map]; have := K3.out; omega))
      rw [dec_mk] at HQ
      obtain ⟨n1, hn1⟩ : ∃ n, pa.length = n := ⟨_, rfl⟩
      obtain ⟨n2, hn2⟩ : ∃ n, fr.length = n := ⟨_, rfl⟩
      rw [hn1, hn2] at HQ C1 q1 HBg hw
      rw [hn2] at HAt HS2 HEq k4
      rw [hn1] at HS1 HEp k3
      rw [hn1, hn2]
      have Hn1 := Lib.hid hn1
      have Hn2 := Lib.hid hn2
      clear hn1 hn2 k3 k4
      by_cases hfp : fr = pa
      · rw [if_pos hfp] at hD
        rw [decide_eq_true hfp] at HQ
        have HD : Hid (D = (0, x)) := Lib.hid hD.symm
        clear hD hfp
        go_enter Tryz.func104, Tryz.ntmps104
        go_upto_region 1 with fail
        rw [← hw]
        clear hw
        go_wp2_with fail
        refine HBg.out.mono ?_
        rintro E w3 ⟨rfl, hb⟩
        have HB3 := Lib.hid (HB2.out.trans (hb.mono HB2.out.size))
        have d1 := below_block hb C1.out
        have HBx := Lib.hid hb
        have q2 := fun i => cell_block d1 i
        clear hb q1
        go_wp2_with fail
        refine (HAt.out w3 HBx.out).mono ?_
        rintro E w4 ⟨u, rfl, hu, hb⟩
        obtain ⟨ku, hju⟩ := hu y rfl
        have hJu := Lib.hid hju
        have HB4 := Lib.hid (HB3.out.trans (hb.mono HB3.out.size))
        have HB4r := Lib.hid (HBx.out.trans (hb.mono HBx.out.size))
        have d4 := below_block hb d1
        have q3 := fun i => cell_block d4 i
        clear hb hu q2 d1 hju
        go_wp2_with fail
        refine (HQ.out w4 HB4r.out).mono ?_
        rintro E w5 ⟨rfl, hb⟩
        have hb5 := Lib.hid hb
        have HB5 := Lib.hid (HB4.out.trans (hb.mono HB4.out.size))
        have HB5r := Lib.hid (HB4r.out.trans (hb.mono HB4r.out.size))
        have d5 := below_block hb d4
        have q4 := fun i => cell_block d5 i
        clear hb q3 d4
        go_wp2_with fail
        go_ret2
        exact .of (by rw [HD.out]) (fun _ => ⟨n, by rw [HD.out]; exact (HJ.out.below HB5r.out)⟩) HB5.out
      · rw [if_neg hfp] at hD
        rw [decide_eq_false hfp] at HQ
        have hne : fr ≠ [] := fun e => by
          have h9 := HBg2.out
          rw [e] at h9 hfp
          unfold JP.beginsP at h9
          have : 0 < pa.length := List.length_pos_iff.2 (fun e2 => hfp e2.symm)
          rw [List.length_nil, decide_eq_true this] at h9
          simp at h9
        have HC := Lib.hid (fun (w3 : World) (hb : Below w2.heap.size w2 w3) => tcut_any (HJ.out.below hb) Hz.out (HEq.out w3 hb) K2.out (by have := K4.out; omega) hne (HE.out.below hb).1 (HE.out.below hb).2.1)
        cases hc : JP.cutW x fr with
        | none =>
          rw [hc] at HC hD
          have HD : Hid (D.1 = 7) := Lib.hid (by rw [← hD])
          clear hD hc hfp hne
          go_enter Tryz.func104, Tryz.ntmps104
          go_upto_region 1 with fail
          rw [← hw]
          clear hw
          go_wp2_with fail
          refine HBg.out.mono ?_
          rintro E w3 ⟨rfl, hb⟩
          have HB3 := Lib.hid (HB2.out.trans (hb.mono HB2.out.size))
          have d1 := below_block hb C1.out
          have HBx := Lib.hid hb
          have q2 := fun i => cell_block d1 i
          clear hb q1
          go_wp2_with fail
          refine (HAt.out w3 HBx.out).mono ?_
          rintro E w4 ⟨u, rfl, hu, hb⟩
          obtain ⟨ku, hju⟩ := hu y rfl
          have hJu := Lib.hid hju
          have HB4 := Lib.hid (HB3.out.trans (hb.mono HB3.out.size))
          have HB4r := Lib.hid (HBx.out.trans (hb.mono HBx.out.size))
          have d4 := below_block hb d1
          have q3 := fun i => cell_block d4 i
          clear hb hu q2 d1 hju
          go_wp2_with fail
          refine (HQ.out w4 HB4r.out).mono ?_
          rintro E w5 ⟨rfl, hb⟩
          have hb5 := Lib.hid hb
          have HB5 := Lib.hid (HB4.out.trans (hb.mono HB4.out.size))
          have HB5r := Lib.hid (HB4r.out.trans (hb.mono HB4r.out.size))
          have d5 := below_block hb d4
          have q4 := fun i => cell_block d5 i
          clear hb q3 d4
          go_wp2_with fail
          refine (HC.out w5 HB5r.out).mono ?_
          rintro E w6 ⟨u2, rfl, _, hb⟩
          have HB6 := Lib.hid (HB5.out.trans (hb.mono HB5.out.size))
          have e0 : (JP.codE 7 (none : Option JV) != 0) = true := rfl
          clear hb q4
          go_wp2_with fail
          go_ret2
          exact .no HD.out (by decide) HB6.out
        | some rest =>
          rw [hc] at HC hD
          dsimp only at hD
          have fr1 := (JP.cutW_less Hx.out hc).1
          have Hzr : Hid ((JP.text rest).length ≤ 1000000) := Lib.hid (by have h9 : (JP.text rest).length ≤ 2000 := fr1.2.2.2; show _ ≤ _; omega)
          obtain ⟨O, hO⟩ : ∃ O, JP.insW rest pa y = O := ⟨_, rfl⟩
          rw [hO] at hD
          have HO := Lib.hid hO
          have HD : Hid (D = JP.toI 7 O) := Lib.hid hD.symm
          clear hD hc hfp hne fr1 hO
          go_enter Tryz.func104, Tryz.ntmps104
          go_upto_region 1 with fail
          rw [← hw]
          clear hw
          go_wp2_with fail
          refine HBg.out.mono ?_
          rintro E w3 ⟨rfl, hb⟩
          have HB3 := Lib.hid (HB2.out.trans (hb.mono HB2.out.size))
          have d1 := below_block hb C1.out
          have HBx := Lib.hid hb
          have q2 := fun i => cell_block d1 i
          clear hb q1
          go_wp2_with fail
          refine (HAt.out w3 HBx.out).mono ?_
          rintro E w4 ⟨u, rfl, hu, hb⟩
          obtain ⟨ku, hju⟩ := hu y rfl
          have hJu := Lib.hid hju
          have HB4 := Lib.hid (HB3.out.trans (hb.mono HB3.out.size))
          have HB4r := Lib.hid (HBx.out.trans (hb.mono HBx.out.size))
          have d4 := below_block hb d1
          have q3 := fun i => cell_block d4 i
          clear hb hu q2 d1 hju
          go_wp2_with fail
          refine (HQ.out w4 HB4r.out).mono ?_
          rintro E w5 ⟨rfl, hb⟩
          have hb5 := Lib.hid hb
          have HB5 := Lib.hid (HB4.out.trans (hb.mono HB4.out.size))
          have HB5r := Lib.hid (HB4r.out.trans (hb.mono HB4r.out.size))
          have d5 := below_block hb d4
          have q4 := fun i => cell_block d5 i
          clear hb q3 d4
          go_wp2_with fail
          refine (HC.out w5 HB5r.out).mono ?_
          rintro E w6 ⟨u2, rfl, hz2, hb⟩
          obtain ⟨k6, hj6⟩ := hz2 rest rfl
          have HB6 := Lib.hid (HB5.out.trans (hb.mono HB5.out.size))
          have HB6r := Lib.hid (HB5r.out.trans (hb.mono HB5r.out.size))
          have d6 := below_block hb d5
          have q6 := fun i => cell_block d6 i
          have e0 : (JP.codE 7 (some rest) != 0) = false := rfl
          have HI := Lib.hid (tins_any hj6 (hJu.out.below (hb5.out.trans (hb.mono hb5.out.size))) Hzr.out (HEp.out w6 HB6r.out) K1.out (by have := K3.out; omega) (HE.out.below HB6r.out).1 (HE.out.below HB6r.out).2.1)
          rw [HO.out] at HI
          clear hb hz2 hj6 q4 d6
          go_wp2_with fail
          refine HI.out.mono ?_
          rintro E w7 ⟨u3, rfl, hz, hb⟩
          have HZ := Lib.hid hz
          have HB7 := Lib.hid (HB6.out.trans (hb.mono HB6.out.size))
          clear hb hz
          go_wp2_with fail
          go_ret2
          exact .of (by rw [HD.out]; exact toI_code 7 O) (by rw [HD.out]; exact toI_jv HZ.out) HB7.out
set_option maxRecDepth 100000 in
set_option maxHeartbeats 6400000 in
theorem pcarry5 (kd : Int) (pa fr : List Bs) (val x : JV) (s1 s2 s3 v : Value) (n : Nat) (w : World) (hs : StepAt w s1 s2 s3 ⟨kd, pa, fr, val⟩) (ok : JP.PSOK ⟨kd, pa, fr, val⟩ 1048576) (hj : JvAt n [] w v x) (hx : JP.Fit x) (hE : Env w) (hk : kd = 5) :
    Calls Tryz.prog 104 #[.agg #[.int .i64 kd, s1, s2, s3], v] w (DoneAt (JP.carryP ⟨kd, pa, fr, val⟩ x) w) := by
  obtain ⟨hs1, hs2, n3, hs3⟩ := hs
  have hs1 : StrAt w s1 (pa.map mkB) := hs1
  have hs2 : StrAt w s2 (fr.map mkB) := hs2
  have hs3 : JvAt n3 [] w s3 val := hs3
  obtain ⟨k1, k2, k3, k4, k5, k6, k7⟩ := ok
  dsimp only at k1 k2 k3 k4 k5 k6 k7
  obtain ⟨D, hD⟩ : ∃ D, JP.carryP ⟨kd, pa, fr, val⟩ x = D := ⟨_, rfl⟩
  rw [hD]
  unfold JP.carryP at hD
  dsimp only at hD
  obtain ⟨w2, hw⟩ : ∃ w2, w2 = w.alloc (.cells #[.int .i64 kd, s1, s2, s3] 81) := ⟨_, rfl⟩
  have b1 : w2.heap[w.heap.size]? = some (.cells #[.int .i64 kd, s1, s2, s3] 81 (0, 0)) := by rw [hw]; exact heap_alloc_new w _
  have hb2 : Below w.heap.size w w2 := by rw [hw]; exact (Below.refl _ w).alloc (Nat.le_refl _) _
  have HB2 := Lib.hid hb2
  have C1 := Lib.hid b1
  have HE := Lib.hid (hE.below hb2)
  have HS1 := Lib.hid (hs1.below hb2)
  have HS2 := Lib.hid (hs2.below hb2)
  have HS3 := Lib.hid (hs3.below hb2)
  have HJ := Lib.hid (hj.below hb2)
  have Hx := Lib.hid hx
  have Hz : Hid ((JP.text x).length ≤ 1000000) := Lib.hid (by have h9 : (JP.text x).length ≤ 2000 := hx.2.2.2; show _ ≤ _; omega)
  have K1 := Lib.hid k1
  have K2 := Lib.hid k2
  have K3 := Lib.hid k3
  have K4 := Lib.hid k4
  have K5 := Lib.hid k5
  have K6 := Lib.hid k6
  have K7 := Lib.hid k7
  have q1 := fun i => cell_block b1 i
  clear hb2 hs1 hs2 hs3 hj hE hx k1 k2 k5 k6 k7 b1
  subst hk
  rw [if_neg (fun e => by cases e.1)] at hD
  obtain ⟨A, hA⟩ : ∃ A, JP.atW x fr = A := ⟨_, rfl⟩
  rw [hA] at hD
  have HAt := Lib.hid (at_any HJ.out Hz.out HS2.out K2.out (by have := K4.out; omega) HE.out.1 HE.out.2.1)
  rw [hA] at HAt
  clear hA
  cases A with
  | none =>
    have HD : Hid (D.1 = 7) := Lib.hid (by rw [← hD])
    clear hD
    go_enter Tryz.func104, Tryz.ntmps104
    go_upto_region 1 with fail
    rw [← hw]
    clear hw
    go_wp2_with fail
    refine HAt.out.mono ?_
    rintro E w4 ⟨u, rfl, hu, hb⟩
    have HB4 := Lib.hid (HB2.out.trans (hb.mono HB2.out.size))
    clear hb hu q1
    go_wp2_with fail
    go_ret2
    exact .no HD.out (by decide) HB4.out
  | some y =>
    dsimp only at hD
    rw [if_neg (by decide)] at hD
    obtain ⟨O, hO⟩ : ∃ O, JP.insW x pa y = O := ⟨_, rfl⟩
    rw [hO] at hD
    have HO := Lib.hid hO
    have HD : Hid (D = JP.toI 7 O) := Lib.hid hD.symm
    clear hD hO
    go_enter Tryz.func104, Tryz.ntmps104
    go_upto_region 1 with fail
    rw [← hw]
    clear hw
    go_wp2_with fail
    refine HAt.out.mono ?_
    rintro E w4 ⟨u, rfl, hu, hb⟩
    obtain ⟨ku, hju⟩ := hu y rfl
    have HB4 := Lib.hid (HB2.out.trans (hb.mono HB2.out.size))
    have HI := Lib.hid (tins_any (HJ.out.below hb) hju Hz.out (HS1.out.below hb) K1.out (by have := K3.out; omega) (HE.out.below hb).1 (HE.out.below hb).2.1)
    rw [HO.out] at HI
    have d1 := below_block hb C1.out
    have q2 := fun i => cell_block d1 i
    clear hb hu hju q1 d1
    go_wp2_with fail
    refine HI.out.mono ?_
    rintro E w5 ⟨u3, rfl, hz, hb⟩
    have HZ := Lib.hid hz
    have HB5 := Lib.hid (HB4.out.trans (hb.mono HB4.out.size))
    clear hb hz
    go_wp2_with fail
    go_ret2
    exact .of (by rw [HD.out]; exact toI_code 7 O) (by rw [HD.out]; exact toI_jv HZ.out) HB5.out
set_option maxRecDepth 100000 in
set_option maxHeartbeats 6400000 in
theorem pdo1 (kd : Int) (pa fr : List Bs) (val x : JV) (s1 s2 s3 v : Value) (n : Nat) (w : World) (hs : StepAt w s1 s2 s3 ⟨kd, pa, fr, val⟩) (ok : JP.PSOK ⟨kd, pa, fr, val⟩ 1048576) (hj : JvAt n [] w v x) (hx : JP.Fit x) (hE : Env w) (hk : kd = 1) :
    Calls Tryz.prog 61 #[.agg #[.int .i64 kd, s1, s2, s3], v] w (DoneAt (JP.doP ⟨kd, pa, fr, val⟩ x) w) := by
  obtain ⟨hs1, hs2, n3, hs3⟩ := hs
  have hs1 : StrAt w s1 (pa.map mkB) := hs1
  have hs2 : StrAt w s2 (fr.map mkB) := hs2
  have hs3 : JvAt n3 [] w s3 val := hs3
  obtain ⟨k1, k2, k3, k4, k5, k6, k7⟩ := ok
  dsimp only at k1 k2 k3 k4 k5 k6 k7
  obtain ⟨D, hD⟩ : ∃ D, JP.doP ⟨kd, pa, fr, val⟩ x = D := ⟨_, rfl⟩
  rw [hD]
  unfold JP.doP at hD
  dsimp only at hD
  obtain ⟨w2, hw⟩ : ∃ w2, w2 = w.alloc (.cells #[.int .i64 kd, s1, s2, s3] 81) := ⟨_, rfl⟩
  have b1 : w2.heap[w.heap.size]? = some (.cells #[.int .i64 kd, s1, s2, s3] 81 (0, 0)) := by rw [hw]; exact heap_alloc_new w _
  have hb2 : Below w.heap.size w w2 := by rw [hw]; exact (Below.refl _ w).alloc (Nat.le_refl _) _
  have HB2 := Lib.hid hb2
  have C1 := Lib.hid b1
  have HE := Lib.hid (hE.below hb2)
  have HS1 := Lib.hid (hs1.below hb2)
  have HS2 := Lib.hid (hs2.below hb2)
  have HS3 := Lib.hid (hs3.below hb2)
  have HJ := Lib.hid (hj.below hb2)
  have Hx := Lib.hid hx
  have Hz : Hid ((JP.text x).length ≤ 1000000) := Lib.hid (by have h9 : (JP.text x).length ≤ 2000 := hx.2.2.2; show _ ≤ _; omega)
  have K1 := Lib.hid k1
  have K2 := Lib.hid k2
  have K3 := Lib.hid k3
  have K4 := Lib.hid k4
  have K5 := Lib.hid k5
  have K6 := Lib.hid k6
  have K7 := Lib.hid k7
  have q1 := fun i => cell_block b1 i
  clear hb2 hs1 hs2 hs3 hj hE hx k1 k2 k5 k6 k7 b1
  subst hk
  obtain ⟨A, hA⟩ : ∃ A, JP.atW x pa = A := ⟨_, rfl⟩
  have HAt := Lib.hid (at_any HJ.out Hz.out HS1.out K1.out (by have := K3.out; omega) HE.out.1 HE.out.2.1)
  rw [hA] at HAt
  clear hA
  rw [if_pos rfl] at hD
  obtain ⟨O, hO⟩ : ∃ O, JP.insW x pa val = O := ⟨_, rfl⟩
  rw [hO] at hD
  have HO := Lib.hid hO
  have HD : Hid (D = JP.toI 7 O) := Lib.hid hD.symm
  clear hD hO

  go_enter Tryz.func61, Tryz.ntmps61
  go_upto_region 1 with fail
  rw [← hw]
  clear hw
  go_wp2_with fail
  refine HAt.out.mono ?_
  rintro E w3 ⟨u, rfl, hu, hb⟩
  have HB3 := Lib.hid (HB2.out.trans (hb.mono HB2.out.size))
  have HB3r := Lib.hid hb
  have d1 := below_block hb C1.out
  have q2 := fun i => cell_block d1 i
  have HI := Lib.hid (tins_any (HJ.out.below hb) (HS3.out.below hb) Hz.out (HS1.out.below hb) K1.out (by have := K3.out; omega) (HE.out.below hb).1 (HE.out.below hb).2.1)
  rw [HO.out] at HI
  clear hb hu q1 d1
  go_wp2_with fail
  refine HI.out.mono ?_
  rintro E w4 ⟨u3, rfl, hz, hb⟩
  have HZ := Lib.hid hz
  have HB4 := Lib.hid (HB3.out.trans (hb.mono HB3.out.size))
  clear hb hz
  go_wp2_with fail
  go_ret2
  exact .of (by rw [HD.out]; exact toI_code 7 O) (by rw [HD.out]; exact toI_jv HZ.out) HB4.out
set_option maxRecDepth 100000 in
set_option maxHeartbeats 6400000 in
theorem pdo2 (kd : Int) (pa fr : List Bs) (val x : JV) (s1 s2 s3 v : Value) (n : Nat) (w : World) (hs : StepAt w s1 s2 s3 ⟨kd, pa, fr, val⟩) (ok : JP.PSOK ⟨kd, pa, fr, val⟩ 1048576) (hj : JvAt n [] w v x) (hx : JP.Fit x) (hE : Env w) (hk : kd = 2) :
    Calls Tryz.prog 61 #[.agg #[.int .i64 kd, s1, s2, s3], v] w (DoneAt (JP.doP ⟨kd, pa, fr, val⟩ x) w) := by
  obtain ⟨hs1, hs2, n3, hs3⟩ := hs
  have hs1 : StrAt w s1 (pa.map mkB) := hs1
  have hs2 : StrAt w s2 (fr.map mkB) := hs2
  have hs3 : JvAt n3 [] w s3 val := hs3
  obtain ⟨k1, k2, k3, k4, k5, k6, k7⟩ := ok
  dsimp only at k1 k2 k3 k4 k5 k6 k7
  obtain ⟨D, hD⟩ : ∃ D, JP.doP ⟨kd, pa, fr, val⟩ x = D := ⟨_, rfl⟩
  rw [hD]
  unfold JP.doP at hD
  dsimp only at hD
  obtain ⟨w2, hw⟩ : ∃ w2, w2 = w.alloc (.cells #[.int .i64 kd, s1, s2, s3] 81) := ⟨_, rfl⟩
  have b1 : w2.heap[w.heap.size]? = some (.cells #[.int .i64 kd, s1, s2, s3] 81 (0, 0)) := by rw [hw]; exact heap_alloc_new w _
  have hb2 : Below w.heap.size w w2 := by rw [hw]; exact (Below.refl _ w).alloc (Nat.le_refl _) _
  have HB2 := Lib.hid hb2
  have C1 := Lib.hid b1
  have HE := Lib.hid (hE.below hb2)
  have HS1 := Lib.hid (hs1.below hb2)
  have HS2 := Lib.hid (hs2.below hb2)
  have HS3 := Lib.hid (hs3.below hb2)
  have HJ := Lib.hid (hj.below hb2)
  have Hx := Lib.hid hx
  have Hz : Hid ((JP.text x).length ≤ 1000000) := Lib.hid (by have h9 : (JP.text x).length ≤ 2000 := hx.2.2.2; show _ ≤ _; omega)
  have K1 := Lib.hid k1
  have K2 := Lib.hid k2
  have K3 := Lib.hid k3
  have K4 := Lib.hid k4
  have K5 := Lib.hid k5
  have K6 := Lib.hid k6
  have K7 := Lib.hid k7
  have q1 := fun i => cell_block b1 i
  clear hb2 hs1 hs2 hs3 hj hE hx k1 k2 k5 k6 k7 b1
  subst hk
  obtain ⟨A, hA⟩ : ∃ A, JP.atW x pa = A := ⟨_, rfl⟩
  have HAt := Lib.hid (at_any HJ.out Hz.out HS1.out K1.out (by have := K3.out; omega) HE.out.1 HE.out.2.1)
  rw [hA] at HAt
  clear hA
  rw [if_neg (by decide), if_pos rfl] at hD
  obtain ⟨a1, c1, e1, _⟩ := HS1.out.len
  subst e1
  rw [List.length_map] at HAt C1 q1 HS1 hw
  rw [List.length_map]
  obtain ⟨n1, hn1⟩ : ∃ n, pa.length = n := ⟨_, rfl⟩
  rw [hn1] at HAt C1 q1 HS1 hw
  rw [hn1]
  by_cases hp : pa = []
  · rw [if_pos hp] at hD
    have h0 : n1 = 0 := by rw [← hn1, hp]; rfl
    subst h0
    have HD : Hid (D.1 = 1) := Lib.hid (by rw [← hD])
    clear hD hp hn1
    go_enter Tryz.func61, Tryz.ntmps61
    go_upto_region 1 with fail
    rw [← hw]
    clear hw
    go_wp2_with fail
    refine HAt.out.mono ?_
    rintro E w3 ⟨u, rfl, hu, hb⟩
    have HB3 := Lib.hid (HB2.out.trans (hb.mono HB2.out.size))
    have HB3r := Lib.hid hb
    have d1 := below_block hb C1.out
    have q2 := fun i => cell_block d1 i
    clear hb hu q1 d1
    go_wp2_with fail
    go_ret2
    exact .no HD.out (by decide) HB3.out
  · rw [if_neg hp] at hD
    have h0 : ((n1 : Int) == 0) = false := by rw [beq_eq_false_iff_ne]; intro e; exact hp (List.eq_nil_of_length_eq_zero (by omega))
    have Hne := Lib.hid hp
    obtain ⟨O, hO⟩ : ∃ O, JP.cutW x pa = O := ⟨_, rfl⟩
    rw [hO] at hD
    have HO := Lib.hid hO
    have HD : Hid (D = JP.toI 7 O) := Lib.hid hD.symm
    clear hD hO
    clear hp hn1

    go_enter Tryz.func61, Tryz.ntmps61
    go_upto_region 1 with fail
    rw [← hw]
    clear hw
    go_wp2_with fail
    refine HAt.out.mono ?_
    rintro E w3 ⟨u, rfl, hu, hb⟩
    have HB3 := Lib.hid (HB2.out.trans (hb.mono HB2.out.size))
    have HB3r := Lib.hid hb
    have d1 := below_block hb C1.out
    have q2 := fun i => cell_block d1 i
    have HI := Lib.hid (tcut_any (HJ.out.below hb) Hz.out (HS1.out.below hb) K1.out (by have := K3.out; omega) Hne.out (HE.out.below hb).1 (HE.out.below hb).2.1)
    rw [HO.out] at HI
    clear hb hu q1 d1
    go_wp2_with fail
    refine HI.out.mono ?_
    rintro E w4 ⟨u3, rfl, hz, hb⟩
    have HZ := Lib.hid hz
    have HB4 := Lib.hid (HB3.out.trans (hb.mono HB3.out.size))
    clear hb hz
    go_wp2_with fail
    go_ret2
    exact .of (by rw [HD.out]; exact toI_code 7 O) (by rw [HD.out]; exact toI_jv HZ.out) HB4.out
set_option maxRecDepth 100000 in
set_option maxHeartbeats 6400000 in
theorem pdo3 (kd : Int) (pa fr : List Bs) (val x : JV) (s1 s2 s3 v : Value) (n : Nat) (w : World) (hs : StepAt w s1 s2 s3 ⟨kd, pa, fr, val⟩) (ok : JP.PSOK ⟨kd, pa, fr, val⟩ 1048576) (hj : JvAt n [] w v x) (hx : JP.Fit x) (hE : Env w) (hk : kd = 3) :
    Calls Tryz.prog 61 #[.agg #[.int .i64 kd, s1, s2, s3], v] w (DoneAt (JP.doP ⟨kd, pa, fr, val⟩ x) w) := by
  obtain ⟨hs1, hs2, n3, hs3⟩ := hs
  have hs1 : StrAt w s1 (pa.map mkB) := hs1
  have hs2 : StrAt w s2 (fr.map mkB) := hs2
  have hs3 : JvAt n3 [] w s3 val := hs3
  obtain ⟨k1, k2, k3, k4, k5, k6, k7⟩ := ok
  dsimp only at k1 k2 k3 k4 k5 k6 k7
  obtain ⟨D, hD⟩ : ∃ D, JP.doP ⟨kd, pa, fr, val⟩ x = D := ⟨_, rfl⟩
  rw [hD]
  unfold JP.doP at hD
  dsimp only at hD
  obtain ⟨w2, hw⟩ : ∃ w2, w2 = w.alloc (.cells #[.int .i64 kd, s1, s2, s3] 81) := ⟨_, rfl⟩
  have b1 : w2.heap[w.heap.size]? = some (.cells #[.int .i64 kd, s1, s2, s3] 81 (0, 0)) := by rw [hw]; exact heap_alloc_new w _
  have hb2 : Below w.heap.size w w2 := by rw [hw]; exact (Below.refl _ w).alloc (Nat.le_refl _) _
  have HB2 := Lib.hid hb2
  have C1 := Lib.hid b1
  have HE := Lib.hid (hE.below hb2)
  have HS1 := Lib.hid (hs1.below hb2)
  have HS2 := Lib.hid (hs2.below hb2)
  have HS3 := Lib.hid (hs3.below hb2)
  have HJ := Lib.hid (hj.below hb2)
  have Hx := Lib.hid hx
  have Hz : Hid ((JP.text x).length ≤ 1000000) := Lib.hid (by have h9 : (JP.text x).length ≤ 2000 := hx.2.2.2; show _ ≤ _; omega)
  have K1 := Lib.hid k1
  have K2 := Lib.hid k2
  have K3 := Lib.hid k3
  have K4 := Lib.hid k4
  have K5 := Lib.hid k5
  have K6 := Lib.hid k6
  have K7 := Lib.hid k7
  have q1 := fun i => cell_block b1 i
  clear hb2 hs1 hs2 hs3 hj hE hx k1 k2 k5 k6 k7 b1
  subst hk
  obtain ⟨A, hA⟩ : ∃ A, JP.atW x pa = A := ⟨_, rfl⟩
  have HAt := Lib.hid (at_any HJ.out Hz.out HS1.out K1.out (by have := K3.out; omega) HE.out.1 HE.out.2.1)
  rw [hA] at HAt hD
  clear hA
  rw [if_neg (by decide), if_neg (by decide), if_pos rfl] at hD
  cases A with
  | none =>
    have HD : Hid (D.1 = 7) := Lib.hid (by rw [← hD])
    clear hD
    go_enter Tryz.func61, Tryz.ntmps61
    go_upto_region 1 with fail
    rw [← hw]
    clear hw
    go_wp2_with fail
    refine HAt.out.mono ?_
    rintro E w3 ⟨u, rfl, hu, hb⟩
    have HB3 := Lib.hid (HB2.out.trans (hb.mono HB2.out.size))
    have HB3r := Lib.hid hb
    have d1 := below_block hb C1.out
    have q2 := fun i => cell_block d1 i
    clear hb hu q1 d1
    go_wp2_with fail
    go_ret2
    exact .no HD.out (by decide) HB3.out
  | some y =>
    dsimp only at hD
    obtain ⟨O, hO⟩ : ∃ O, JP.putW x pa val = O := ⟨_, rfl⟩
    rw [hO] at hD
    have HO := Lib.hid hO
    have HD : Hid (D = JP.toI 7 O) := Lib.hid hD.symm
    clear hD hO

    go_enter Tryz.func61, Tryz.ntmps61
    go_upto_region 1 with fail
    rw [← hw]
    clear hw
    go_wp2_with fail
    refine HAt.out.mono ?_
    rintro E w3 ⟨u, rfl, hu, hb⟩
    have HB3 := Lib.hid (HB2.out.trans (hb.mono HB2.out.size))
    have HB3r := Lib.hid hb
    have d1 := below_block hb C1.out
    have q2 := fun i => cell_block d1 i
    have HI := Lib.hid (tput_any (HJ.out.below hb) (HS3.out.below hb) Hz.out (HS1.out.below hb) K1.out (by have := K3.out; omega) (HE.out.below hb).1 (HE.out.below hb).2.1)
    rw [HO.out] at HI
    clear hb hu q1 d1
    go_wp2_with fail
    refine HI.out.mono ?_
    rintro E w4 ⟨u3, rfl, hz, hb⟩
    have HZ := Lib.hid hz
    have HB4 := Lib.hid (HB3.out.trans (hb.mono HB3.out.size))
    clear hb hz
    go_wp2_with fail
    go_ret2
    exact .of (by rw [HD.out]; exact toI_code 7 O) (by rw [HD.out]; exact toI_jv HZ.out) HB4.out
set_option maxRecDepth 100000 in
set_option maxHeartbeats 6400000 in
theorem pdo4 (kd : Int) (pa fr : List Bs) (val x : JV) (s1 s2 s3 v : Value) (n : Nat) (w : World) (hs : StepAt w s1 s2 s3 ⟨kd, pa, fr, val⟩) (ok : JP.PSOK ⟨kd, pa, fr, val⟩ 1048576) (hj : JvAt n [] w v x) (hx : JP.Fit x) (hE : Env w) (hk : kd = 4) :
    Calls Tryz.prog 61 #[.agg #[.int .i64 kd, s1, s2, s3], v] w (DoneAt (JP.doP ⟨kd, pa, fr, val⟩ x) w) := by
  obtain ⟨hs1, hs2, n3, hs3⟩ := hs
  have hs1 : StrAt w s1 (pa.map mkB) := hs1
  have hs2 : StrAt w s2 (fr.map mkB) := hs2
  have hs3 : JvAt n3 [] w s3 val := hs3
  obtain ⟨k1, k2, k3, k4, k5, k6, k7⟩ := ok
  dsimp only at k1 k2 k3 k4 k5 k6 k7
  obtain ⟨D, hD⟩ : ∃ D, JP.doP ⟨kd, pa, fr, val⟩ x = D := ⟨_, rfl⟩
  rw [hD]
  unfold JP.doP at hD
  dsimp only at hD
  obtain ⟨w2, hw⟩ : ∃ w2, w2 = w.alloc (.cells #[.int .i64 kd, s1, s2, s3] 81) := ⟨_, rfl⟩
  have b1 : w2.heap[w.heap.size]? = some (.cells #[.int .i64 kd, s1, s2, s3] 81 (0, 0)) := by rw [hw]; exact heap_alloc_new w _
  have hb2 : Below w.heap.size w w2 := by rw [hw]; exact (Below.refl _ w).alloc (Nat.le_refl _) _
  have HB2 := Lib.hid hb2
  have C1 := Lib.hid b1
  have HE := Lib.hid (hE.below hb2)
  have HS1 := Lib.hid (hs1.below hb2)
  have HS2 := Lib.hid (hs2.below hb2)
  have HS3 := Lib.hid (hs3.below hb2)
  have HJ := Lib.hid (hj.below hb2)
  have Hx := Lib.hid hx
  have Hz : Hid ((JP.text x).length ≤ 1000000) := Lib.hid (by have h9 : (JP.text x).length ≤ 2000 := hx.2.2.2; show _ ≤ _; omega)
  have K1 := Lib.hid k1
  have K2 := Lib.hid k2
  have K3 := Lib.hid k3
  have K4 := Lib.hid k4
  have K5 := Lib.hid k5
  have K6 := Lib.hid k6
  have K7 := Lib.hid k7
  have q1 := fun i => cell_block b1 i
  clear hb2 hs1 hs2 hs3 hj hE hx k1 k2 k5 k6 k7 b1
  subst hk
  obtain ⟨A, hA⟩ : ∃ A, JP.atW x pa = A := ⟨_, rfl⟩
  have HAt := Lib.hid (at_any HJ.out Hz.out HS1.out K1.out (by have := K3.out; omega) HE.out.1 HE.out.2.1)
  rw [hA] at HAt
  clear hA
  rw [if_neg (by decide), if_neg (by decide), if_neg (by decide), if_neg (by decide)] at hD
  have HD := Lib.hid hD
  clear hD
  go_enter Tryz.func61, Tryz.ntmps61
  go_upto_region 1 with fail
  rw [← hw]
  clear hw
  go_wp2_with fail
  refine HAt.out.mono ?_
  rintro E w3 ⟨u, rfl, hu, hb⟩
  have HB3 := Lib.hid (HB2.out.trans (hb.mono HB2.out.size))
  have HB3r := Lib.hid hb
  have d1 := below_block hb C1.out
  have q2 := fun i => cell_block d1 i
  have HI := Lib.hid (pcarry4 4 pa fr val x s1 s2 s3 v n w3 ⟨HS1.out.below hb, HS2.out.below hb, n3, HS3.out.below hb⟩ ⟨K1.out, K2.out, K3.out, K4.out, K5.out, K6.out, K7.out⟩ (HJ.out.below hb) Hx.out (HE.out.below hb) rfl)
  rw [HD.out] at HI
  have D1 := Lib.hid d1
  clear hb hu q1 d1
  go_upto_region 19 with fail
  go_wp2_with (refine wpList_load_row (by rfl) _ _ (by rfl) w.heap.size (by rfl) _ _ _ _ (by exact D1.out) Tryz.underlying81 rfl (by exact Tryz.sizeStep) ?_)
  clear q2
  refine HI.out.mono ?_
  rintro E w4 ⟨u3, rfl, hz, hb⟩
  have HZ := Lib.hid hz
  have HB4 := Lib.hid (HB3.out.trans (hb.mono HB3.out.size))
  clear hb hz
  go_wp2_with fail
  go_ret2
  exact .of rfl HZ.out HB4.out
set_option maxRecDepth 100000 in
set_option maxHeartbeats 6400000 in
theorem pdo5 (kd : Int) (pa fr : List Bs) (val x : JV) (s1 s2 s3 v : Value) (n : Nat) (w : World) (hs : StepAt w s1 s2 s3 ⟨kd, pa, fr, val⟩) (ok : JP.PSOK ⟨kd, pa, fr, val⟩ 1048576) (hj : JvAt n [] w v x) (hx : JP.Fit x) (hE : Env w) (hk : kd = 5) :
    Calls Tryz.prog 61 #[.agg #[.int .i64 kd, s1, s2, s3], v] w (DoneAt (JP.doP ⟨kd, pa, fr, val⟩ x) w) := by
  obtain ⟨hs1, hs2, n3, hs3⟩ := hs
  have hs1 : StrAt w s1 (pa.map mkB) := hs1
  have hs2 : StrAt w s2 (fr.map mkB) := hs2
  have hs3 : JvAt n3 [] w s3 val := hs3
  obtain ⟨k1, k2, k3, k4, k5, k6, k7⟩ := ok
  dsimp only at k1 k2 k3 k4 k5 k6 k7
  obtain ⟨D, hD⟩ : ∃ D, JP.doP ⟨kd, pa, fr, val⟩ x = D := ⟨_, rfl⟩
  rw [hD]
  unfold JP.doP at hD
  dsimp only at hD
  obtain ⟨w2, hw⟩ : ∃ w2, w2 = w.alloc (.cells #[.int .i64 kd, s1, s2, s3] 81) := ⟨_, rfl⟩
  have b1 : w2.heap[w.heap.size]? = some (.cells #[.int .i64 kd, s1, s2, s3] 81 (0, 0)) := by rw [hw]; exact heap_alloc_new w _
  have hb2 : Below w.heap.size w w2 := by rw [hw]; exact (Below.refl _ w).alloc (Nat.le_refl _) _
  have HB2 := Lib.hid hb2
  have C1 := Lib.hid b1
  have HE := Lib.hid (hE.below hb2)
  have HS1 := Lib.hid (hs1.below hb2)
  have HS2 := Lib.hid (hs2.below hb2)
  have HS3 := Lib.hid (hs3.below hb2)
  have HJ := Lib.hid (hj.below hb2)
  have Hx := Lib.hid hx
  have Hz : Hid ((JP.text x).length ≤ 1000000) := Lib.hid (by have h9 : (JP.text x).length ≤ 2000 := hx.2.2.2; show _ ≤ _; omega)
  have K1 := Lib.hid k1
  have K2 := Lib.hid k2
  have K3 := Lib.hid k3
  have K4 := Lib.hid k4
  have K5 := Lib.hid k5
  have K6 := Lib.hid k6
  have K7 := Lib.hid k7
  have q1 := fun i => cell_block b1 i
  clear hb2 hs1 hs2 hs3 hj hE hx k1 k2 k5 k6 k7 b1
  subst hk
  obtain ⟨A, hA⟩ : ∃ A, JP.atW x pa = A := ⟨_, rfl⟩
  have HAt := Lib.hid (at_any HJ.out Hz.out HS1.out K1.out (by have := K3.out; omega) HE.out.1 HE.out.2.1)
  rw [hA] at HAt
  clear hA
  rw [if_neg (by decide), if_neg (by decide), if_neg (by decide), if_neg (by decide)] at hD
  have HD := Lib.hid hD
  clear hD
  go_enter Tryz.func61, Tryz.ntmps61
  go_upto_region 1 with fail
  rw [← hw]
  clear hw
  go_wp2_with fail
  refine HAt.out.mono ?_
  rintro E w3 ⟨u, rfl, hu, hb⟩
  have HB3 := Lib.hid (HB2.out.trans (hb.mono HB2.out.size))
  have HB3r := Lib.hid hb
  have d1 := below_block hb C1.out
  have q2 := fun i => cell_block d1 i
  have HI := Lib.hid (pcarry5 5 pa fr val x s1 s2 s3 v n w3 ⟨HS1.out.below hb, HS2.out.below hb, n3, HS3.out.below hb⟩ ⟨K1.out, K2.out, K3.out, K4.out, K5.out, K6.out, K7.out⟩ (HJ.out.below hb) Hx.out (HE.out.below hb) rfl)
  rw [HD.out] at HI
  have D1 := Lib.hid d1
  clear hb hu q1 d1
  go_upto_region 19 with fail
  go_wp2_with (refine wpList_load_row (by rfl) _ _ (by rfl) w.heap.size (by rfl) _ _ _ _ (by exact D1.out) Tryz.underlying81 rfl (by exact Tryz.sizeStep) ?_)
  clear q2
  refine HI.out.mono ?_
  rintro E w4 ⟨u3, rfl, hz, hb⟩
  have HZ := Lib.hid hz
  have HB4 := Lib.hid (HB3.out.trans (hb.mono HB3.out.size))
  clear hb hz
  go_wp2_with fail
  go_ret2
  exact .of rfl HZ.out HB4.out
set_option maxRecDepth 100000 in
set_option maxHeartbeats 6400000 in
theorem pdo6 (kd : Int) (pa fr : List Bs) (val x : JV) (s1 s2 s3 v : Value) (n : Nat) (w : World) (hs : StepAt w s1 s2 s3 ⟨kd, pa, fr, val⟩) (ok : JP.PSOK ⟨kd, pa, fr, val⟩ 1048576) (hj : JvAt n [] w v x) (hx : JP.Fit x) (hE : Env w) (hk : kd = 6) :
    Calls Tryz.prog 61 #[.agg #[.int .i64 kd, s1, s2, s3], v] w (DoneAt (JP.doP ⟨kd, pa, fr, val⟩ x) w) := by
  obtain ⟨hs1, hs2, n3, hs3⟩ := hs
  have hs1 : StrAt w s1 (pa.map mkB) := hs1
  have hs2 : StrAt w s2 (fr.map mkB) := hs2
  have hs3 : JvAt n3 [] w s3 val := hs3
  obtain ⟨k1, k2, k3, k4, k5, k6, k7⟩ := ok
  dsimp only at k1 k2 k3 k4 k5 k6 k7
  obtain ⟨D, hD⟩ : ∃ D, JP.doP ⟨kd, pa, fr, val⟩ x = D := ⟨_, rfl⟩
  rw [hD]
  unfold JP.doP at hD
  dsimp only at hD
  obtain ⟨w2, hw⟩ : ∃ w2, w2 = w.alloc (.cells #[.int .i64 kd, s1, s2, s3] 81) := ⟨_, rfl⟩
  have b1 : w2.heap[w.heap.size]? = some (.cells #[.int .i64 kd, s1, s2, s3] 81 (0, 0)) := by rw [hw]; exact heap_alloc_new w _
  have hb2 : Below w.heap.size w w2 := by rw [hw]; exact (Below.refl _ w).alloc (Nat.le_refl _) _
  have HB2 := Lib.hid hb2
  have C1 := Lib.hid b1
  have HE := Lib.hid (hE.below hb2)
  have HS1 := Lib.hid (hs1.below hb2)
  have HS2 := Lib.hid (hs2.below hb2)
  have HS3 := Lib.hid (hs3.below hb2)
  have HJ := Lib.hid (hj.below hb2)
  have Hx := Lib.hid hx
  have Hz : Hid ((JP.text x).length ≤ 1000000) := Lib.hid (by have h9 : (JP.text x).length ≤ 2000 := hx.2.2.2; show _ ≤ _; omega)
  have K1 := Lib.hid k1
  have K2 := Lib.hid k2
  have K3 := Lib.hid k3
  have K4 := Lib.hid k4
  have K5 := Lib.hid k5
  have K6 := Lib.hid k6
  have K7 := Lib.hid k7
  have q1 := fun i => cell_block b1 i
  clear hb2 hs1 hs2 hs3 hj hE hx k1 k2 k5 k6 k7 b1
  subst hk
  obtain ⟨A, hA⟩ : ∃ A, JP.atW x pa = A := ⟨_, rfl⟩
  have HAt := Lib.hid (at_any HJ.out Hz.out HS1.out K1.out (by have := K3.out; omega) HE.out.1 HE.out.2.1)
  rw [hA] at HAt hD
  have hA2 := hA
  clear hA
  rw [if_neg (by decide), if_neg (by decide), if_neg (by decide), if_pos rfl] at hD
  cases hAc : A with
  | none =>
    rw [hAc] at hD HAt
    have HD : Hid (D.1 = 7) := Lib.hid (by rw [← hD])
    clear hD hAc
    go_enter Tryz.func61, Tryz.ntmps61
    go_upto_region 1 with fail
    rw [← hw]
    clear hw
    go_wp2_with fail
    refine HAt.out.mono ?_
    rintro E w3 ⟨u, rfl, hu, hb⟩
    have HB3 := Lib.hid (HB2.out.trans (hb.mono HB2.out.size))
    have HB3r := Lib.hid hb
    have d1 := below_block hb C1.out
    have q2 := fun i => cell_block d1 i
    clear hb hu q1 d1
    go_wp2_with fail
    go_ret2
    exact .no HD.out (by decide) HB3.out
  | some y =>
    rw [hAc] at hD HAt hA2
    dsimp only at hD
    have fy := JP.at_fit Hx.out hA2
    have Hy : Hid ((JP.text y).length ≤ 4194304) := Lib.hid (by have h9 : (JP.text y).length ≤ 2000 := fy.2.2.2; show _ ≤ _; omega)
    have Hvl : Hid ((JP.text val).length ≤ 4194304) := Lib.hid (by have h9 : (JP.text val).length ≤ 2000 := K5.out.2.2.2; show _ ≤ _; omega)
    clear hAc hA2 fy
    by_cases ht : JP.text y = JP.text val
    · rw [if_pos ht] at hD
      have HD : Hid (D = (0, x)) := Lib.hid hD.symm
      have hdec : decide (JP.text y = JP.text val) = true := decide_eq_true ht
      clear hD ht
      go_enter Tryz.func61, Tryz.ntmps61
      go_upto_region 1 with fail
      rw [← hw]
      clear hw
      go_wp2_with fail
      refine HAt.out.mono ?_
      rintro E w3 ⟨u, rfl, hu, hb⟩
      have HB3 := Lib.hid (HB2.out.trans (hb.mono HB2.out.size))
      have HB3r := Lib.hid hb
      have d1 := below_block hb C1.out
      have q2 := fun i => cell_block d1 i
      obtain ⟨ku, hju⟩ := hu y rfl
      have HSm := Lib.hid (same_any hju (HS3.out.below hb) Hy.out Hvl.out (HE.out.below hb).1)
      rw [hdec] at HSm
      clear hb hu hju q1 d1 hdec
      go_wp2_with fail
      refine HSm.out.mono ?_
      rintro E w4 ⟨rfl, hb⟩
      have HB4 := Lib.hid (HB3.out.trans (hb.mono HB3.out.size))
      have HB4r := Lib.hid (HB3r.out.trans (hb.mono HB3r.out.size))
      clear hb
      go_wp2_with fail
      go_ret2
      exact .of (by rw [HD.out]) (fun _ => ⟨n, by rw [HD.out]; exact HJ.out.below HB4r.out⟩) HB4.out
    · rw [if_neg ht] at hD
      have HD : Hid (D = (10, .nul)) := Lib.hid hD.symm
      have hdec : decide (JP.text y = JP.text val) = false := decide_eq_false ht
      clear hD ht
      go_enter Tryz.func61, Tryz.ntmps61
      go_upto_region 1 with fail
      rw [← hw]
      clear hw
      go_wp2_with fail
      refine HAt.out.mono ?_
      rintro E w3 ⟨u, rfl, hu, hb⟩
      have HB3 := Lib.hid (HB2.out.trans (hb.mono HB2.out.size))
      have HB3r := Lib.hid hb
      have d1 := below_block hb C1.out
      have q2 := fun i => cell_block d1 i
      obtain ⟨ku, hju⟩ := hu y rfl
      have HSm := Lib.hid (same_any hju (HS3.out.below hb) Hy.out Hvl.out (HE.out.below hb).1)
      rw [hdec] at HSm
      clear hb hu hju q1 d1 hdec
      go_wp2_with fail
      refine HSm.out.mono ?_
      rintro E w4 ⟨rfl, hb⟩
      have HB4 := Lib.hid (HB3.out.trans (hb.mono HB3.out.size))
      have HB4r := Lib.hid (HB3r.out.trans (hb.mono HB3r.out.size))
      clear hb
      go_wp2_with fail
      go_ret2
      exact .no (by rw [HD.out]) (by decide) HB4.out
theorem pdo_any (kd : Int) (pa fr : List Bs) (val x : JV) (s1 s2 s3 v : Value) (n : Nat) (w : World) (hs : StepAt w s1 s2 s3 ⟨kd, pa, fr, val⟩) (ok : JP.PSOK ⟨kd, pa, fr, val⟩ 1048576) (hj : JvAt n [] w v x) (hx : JP.Fit x) (hE : Env w) (hk : 1 ≤ kd ∧ kd ≤ 6) :
    Calls Tryz.prog 61 #[.agg #[.int .i64 kd, s1, s2, s3], v] w (DoneAt (JP.doP ⟨kd, pa, fr, val⟩ x) w) := by
  have : kd = 1 ∨ kd = 2 ∨ kd = 3 ∨ kd = 4 ∨ kd = 5 ∨ kd = 6 := by omega
  rcases this with h | h | h | h | h | h
  · exact pdo1 kd pa fr val x s1 s2 s3 v n w hs ok hj hx hE h
  · exact pdo2 kd pa fr val x s1 s2 s3 v n w hs ok hj hx hE h
  · exact pdo3 kd pa fr val x s1 s2 s3 v n w hs ok hj hx hE h
  · exact pdo4 kd pa fr val x s1 s2 s3 v n w hs ok hj hx hE h
  · exact pdo5 kd pa fr val x s1 s2 s3 v n w hs ok hj hx hE h
  · exact pdo6 kd pa fr val x s1 s2 s3 v n w hs ok hj hx hE h
end Go.Proofs.YtlbolbkikkiifaaGreatDoor
/- patch: the laws of what is answered, in plain Lean. -/
namespace Go.Proofs.YtlbolbkikkiifaaGreatDoor
open Go.RowKit
open JP (JV Bs)

namespace JP
/-! PatchTests -/
theorem readO_val {k : Int} {p v : Bs} {l : List Bs} {u : JV} (hk : k = 1 ∨ k = 3 ∨ k = 6) (hp : stepsP p = (0, l)) (hv : readL v = (u, 0)) : readO ⟨k, p, [], v⟩ = (0, ⟨k, l, [], u⟩) := by
  unfold readO
  dsimp only
  rw [if_neg (by omega), hp, hv, if_neg (by simp), if_neg (by omega), if_neg (by omega)]
theorem readO_gone {p v f : Bs} {l : List Bs} (hp : stepsP p = (0, l)) : readO ⟨2, p, f, v⟩ = (0, ⟨2, l, [], .nul⟩) := by
  unfold readO
  dsimp only
  rw [if_neg (by decide), hp, if_neg (by simp), if_neg (by decide), if_pos rfl]
theorem stepP_of {o : PO} {s : PS} {v w : JV} (hr : readO o = (0, s)) (hd : doP s v = (0, w)) (hw : Fit w) : stepP o v = (0, w) := by
  unfold stepP
  rw [hr, if_neg (by simp), hd, if_neg (by simp), (tell_fit hw).1]
theorem patch_tests {d p v : Bs} {a b : List PO} (hl : (a ++ b).length ≤ 30) (h : applyE d a = 0) (hg : getE (applyT d a) p = 0) (hs : sameE (getT (applyT d a) p) v = 0) :
    (sameT (getT (applyT d a) p) v = false → applyE d (a ++ [⟨6, p, [], v⟩] ++ b) = 10 ∧ applyN d (a ++ [⟨6, p, [], v⟩] ++ b) = a.length ∧ applyT d (a ++ [⟨6, p, [], v⟩] ++ b) = []) ∧
    (sameT (getT (applyT d a) p) v = true → applyE d (a ++ [⟨6, p, [], v⟩] ++ b) = applyE d (a ++ b) ∧ applyT d (a ++ [⟨6, p, [], v⟩] ++ b) = applyT d (a ++ b) ∧ applyN d (a ++ [⟨6, p, [], v⟩] ++ b) = applyN d (a ++ b) + 1) := by
  obtain ⟨x, h1, h2, h3, h4, h5⟩ := runO_ok h
  have hf := runP_fit h4 h3
  have ht : applyT d a = text (runP a x 0).2.2 := by unfold applyT; rw [h5, if_pos h3]
  have hn : (runP a x 0).2.1 = a.length := by rw [runP_len a x 0 h3]; omega
  have hrun : runP a x 0 = (0, a.length, (runP a x 0).2.2) := Prod.ext h3 (Prod.ext hn rfl)
  obtain ⟨y, hy⟩ : ∃ y, (runP a x 0).2.2 = y := ⟨_, rfl⟩
  rw [hy] at hrun ht hf
  have hr := fit_read hf
  rw [ht] at hg hs ⊢
  obtain ⟨y2, l, c, r1, r2, r3, r4, r5⟩ := get_ok hg
  rw [hr] at r1
  obtain rfl : y = y2 := (Prod.mk.inj r1).1
  rw [r5] at hs ⊢
  have hrc := fit_read (at_fit r3 r4)
  have hu : readL v = ((readL v).1, 0) := by
    unfold sameE at hs
    rw [hrc, if_pos rfl] at hs
    exact Prod.ext rfl hs
  have hsame : sameT (text c) v = decide (text c = text (readL v).1) := by
    unfold sameT
    rw [hrc, if_pos ⟨rfl, by rw [hu]⟩]
  rw [hsame]
  have hro : readO ⟨6, p, [], v⟩ = (0, ⟨6, l, [], (readL v).1⟩) := readO_val (.inr (.inr rfl)) r2 hu
  have hl1 : (a ++ [(⟨6, p, [], v⟩ : PO)] ++ b).length ≤ 40 := by
    simp only [List.length_append, List.length_cons, List.length_nil] at hl ⊢; omega
  have hl2 : (a ++ b).length ≤ 40 := by omega
  have e1 : runO d (a ++ [(⟨6, p, [], v⟩ : PO)] ++ b) = runP (⟨6, p, [], v⟩ :: b) y a.length := by
    rw [runO_of h1 hl1, List.append_assoc, runP_append, hrun, if_pos rfl]; rfl
  have e2 : runO d (a ++ b) = runP b y a.length := by
    rw [runO_of h1 hl2, runP_append, hrun, if_pos rfl]
  have hdo : doP ⟨6, l, [], (readL v).1⟩ y = if text c = text (readL v).1 then (0, y) else (10, .nul) := by
    unfold doP
    dsimp only
    rw [if_neg (by decide), if_neg (by decide), if_neg (by decide), if_pos rfl, r4]
  unfold applyE applyN applyT
  rw [e1, e2]
  refine ⟨fun hF => ?_, fun hT => ?_⟩
  · have hne : ¬ text c = text (readL v).1 := of_decide_eq_false hF
    rw [if_neg hne] at hdo
    have hst : stepP ⟨6, p, [], v⟩ y = (10, .nul) := by
      unfold stepP
      rw [hro, if_neg (by simp), hdo, if_pos (by simp)]
    rw [runP, hst, if_neg (by simp)]
    exact ⟨rfl, rfl, rfl⟩
  · have he : text c = text (readL v).1 := of_decide_eq_true hT
    rw [if_pos he] at hdo
    have hst := stepP_of hro hdo hf
    rw [runP, hst, if_pos rfl, runP_shift]
    exact ⟨rfl, rfl, rfl⟩
theorem patch_const2 : applyE [49] [⟨6, [], [], [50]⟩] = 10 := by
  have h1 : readL [49] = (.num 1, 0) := by
    have := fit_read (v := .num 1) ⟨by rw [wf]; exact ⟨by decide, by decide⟩, by decide, by decide, by decide +kernel⟩
    rw [show text (.num 1) = [49] from by decide +kernel] at this; exact this
  have h2 : readL [50] = (.num 2, 0) := by
    have := fit_read (v := .num 2) ⟨by rw [wf]; exact ⟨by decide, by decide⟩, by decide, by decide, by decide +kernel⟩
    rw [show text (.num 2) = [50] from by decide +kernel] at this; exact this
  unfold applyE
  rw [runO_of h1 (by decide), runP]
  have hro : readO ⟨6, [], [], [50]⟩ = (0, ⟨6, [], [], .num 2⟩) := readO_val (.inr (.inr rfl)) (steps_join [] (by decide)) h2
  have hst : (stepP ⟨6, [], [], [50]⟩ (.num 1)).1 = 10 := by
    unfold stepP
    rw [hro, if_neg (by simp)]
    have : doP ⟨6, [], [], .num 2⟩ (.num 1) = (10, .nul) := by
      unfold doP
      dsimp only
      rw [if_neg (by decide), if_neg (by decide), if_neg (by decide), if_pos rfl, atW]
      dsimp only
      rw [if_neg (by decide +kernel)]
    rw [this]; rfl
  rw [hst]; rfl

/-! PatchBack -/
theorem under_cons {f : JV → Bs → Option JV} {v : JV} {a : Bs} {l : List Bs} (hl : l ≠ []) : under f v (a :: l) = (child v a).bind fun c => (under f c l).map (repl v a) := by
  cases l with
  | nil => exact absurd rfl hl
  | cons t r => exact under_more f v a t r
theorem under_split {f : JV → Bs → Option JV} {s : Bs} : ∀ {l : List Bs} {v u : JV}, Few v → under f v (l ++ [s]) = some u → ∃ p q, atW v l = some p ∧ f p s = some q ∧ putW v l q = some u
  | [], v, u, _, h => ⟨v, u, by rw [atW], by rw [List.nil_append, under_one] at h; exact h, putW_nil v u⟩
  | a :: r, v, u, hf, h => by
    rw [List.cons_append, under_cons (by simp)] at h
    obtain ⟨c, hc, h⟩ := Option.bind_eq_some_iff.1 h
    obtain ⟨x, hx, rfl⟩ := Option.map_eq_some_iff.1 h
    obtain ⟨p, q, h1, h2, h3⟩ := under_split (few_child hf hc) hx
    exact ⟨p, q, by rw [atW_cons, hc]; exact h1, h2, by rw [put_cons hf hc, h3]; rfl⟩
theorem under_join {f : JV → Bs → Option JV} {s : Bs} : ∀ {l : List Bs} {v u p q : JV}, Few v → atW v l = some p → f p s = some q → putW v l q = some u → under f v (l ++ [s]) = some u
  | [], v, u, p, q, _, h1, h2, h3 => by
    rw [atW] at h1
    rw [putW_nil] at h3
    rw [List.nil_append, under_one, ← h3, Option.some.inj h1, h2]
  | a :: r, v, u, p, q, hf, h1, h2, h3 => by
    rw [atW_cons] at h1
    obtain ⟨c, hc, h1⟩ := Option.bind_eq_some_iff.1 h1
    rw [put_cons hf hc] at h3
    obtain ⟨x, hx, rfl⟩ := Option.map_eq_some_iff.1 h3
    rw [List.cons_append, under_cons (by simp), hc]
    show (under f c (r ++ [s])).map _ = _
    rw [under_join (few_child hf hc) h1 h2 hx]
    rfl
theorem at_put : ∀ {l : List Bs} {v u p q : JV}, wfS v → Few v → Few u → atW v l = some p → putW v l q = some u → atW u l = some q ∧ ∀ z, putW u l z = putW v l z
  | [], v, u, p, q, _, _, _, h1, h2 => by
    rw [putW_nil] at h2
    rw [atW, Option.some.inj h2]
    exact ⟨rfl, fun z => by rw [putW_nil, putW_nil]⟩
  | a :: r, v, u, p, q, hw, hf, hu, h1, h2 => by
    rw [atW_cons] at h1
    obtain ⟨c, hc, h1⟩ := Option.bind_eq_some_iff.1 h1
    rw [put_cons hf hc] at h2
    obtain ⟨x, hx, rfl⟩ := Option.map_eq_some_iff.1 h2
    have hc2 := child_repl (w := x) hc
    obtain ⟨g1, g2⟩ := at_put (childS_wf hw hc) (few_child hf hc) (few_child hu hc2) h1 hx
    refine ⟨by rw [atW_cons, hc2]; exact g1, fun z => ?_⟩
    rw [put_cons hu hc2, put_cons hf hc, g2 z]
    cases putW c r z with
    | none => rfl
    | some y => exact congrArg some (repl_repl hw hc)
theorem cut_put_none {n : Bs} {v : JV} {d : Fs} (h : Srt d) (hg : get n d = none) : cut n (put n v d) = d :=
  fs_ext (srt_cut n (put_srt h)) h fun k => by
    rw [get_cut, get_put]
    by_cases e : k = n
    · rw [if_pos e, e, hg]
    · rw [if_neg e, if_neg e]
theorem erase_ins (l : List JV) (n : Nat) (x : JV) (h : n ≤ l.length) : (l.take n ++ x :: l.drop n).eraseIdx n = l := by
  have e : (l.take n).length = n := by rw [List.length_take]; omega
  rw [List.eraseIdx_append_of_length_le (by omega), e, Nat.sub_self, List.eraseIdx_cons_zero, List.take_append_drop]
theorem ins_erase (l : List JV) (n : Nat) (x : JV) (h : l[n]? = some x) : (l.eraseIdx n).take n ++ x :: (l.eraseIdx n).drop n = l := by
  obtain ⟨h1, h2⟩ := List.getElem?_eq_some_iff.1 h
  rw [List.eraseIdx_eq_take_drop_succ]
  have e : (l.take n).length = n := by rw [List.length_take]; omega
  rw [List.take_append_of_le_length (by omega), List.drop_append_of_le_length (by omega), List.take_of_length_le (by omega), List.drop_of_length_le (by omega), List.nil_append, ← h2, List.getElem_cons_drop, List.take_append_drop]
/-- what leads back behind something was put -/
def unputP (v : JV) (path : List Bs) : PO :=
  if path = [] then ⟨3, [], [], text v⟩
  else match atW v path.dropLast with
    | some (.list l) => ⟨2, joinK (if path.getLast? = some [45] then path.dropLast ++ [Lib.itoa (l.length : Int)] else path), [], []⟩
    | _ => match atW v path with
      | some was => ⟨3, joinK path, [], text was⟩
      | none => ⟨2, joinK path, [], []⟩
theorem atW_append : ∀ {l : List Bs} {v p : JV} {k : List Bs}, atW v l = some p → atW v (l ++ k) = atW p k
  | [], v, p, k, h => by rw [atW] at h; rw [List.nil_append, Option.some.inj h]
  | s :: r, v, p, k, h => by
    rw [atW_cons] at h
    obtain ⟨c, hc, h⟩ := Option.bind_eq_some_iff.1 h
    rw [List.cons_append, atW_cons, hc]
    exact atW_append h
theorem atW_one (v : JV) (s : Bs) : atW v [s] = child v s := by rw [atW_cons]; cases child v s <;> rfl
theorem do_gone {l : List Bs} {u v : JV} (h0 : l ≠ []) (h : cutW u l = some v) : doP ⟨2, l, [], .nul⟩ u = (0, v) := by
  unfold doP
  rw [if_neg (by dsimp only; decide), if_pos rfl]
  dsimp only
  rw [if_neg h0, h]; rfl
theorem do_put {l : List Bs} {u v x p : JV} (h0 : atW u l = some p) (h : putW u l x = some v) : doP ⟨3, l, [], x⟩ u = (0, v) := by
  unfold doP
  rw [if_neg (by dsimp only; decide), if_neg (by dsimp only; decide), if_pos rfl]
  dsimp only
  rw [h0]
  dsimp only
  rw [h]; rfl
theorem do_add {l : List Bs} {u v x : JV} (h : insW u l x = some v) : doP ⟨1, l, [], x⟩ u = (0, v) := by
  unfold doP
  rw [if_pos rfl]
  dsimp only
  rw [h]; rfl
theorem nil_or_snoc (l : List Bs) : l = [] ∨ ∃ r s, l = r ++ [s] := by
  rcases List.eq_nil_or_concat l with h | ⟨r, s, h⟩
  · exact .inl h
  · exact .inr ⟨r, s, by rw [h, List.concat_eq_append]⟩
theorem snoc_ne (l : List Bs) (s : Bs) : l ++ [s] ≠ [] := by simp
theorem unput_back {v u x : JV} {path : List Bs} (hv : Fit v) (hu : Few u) (hl : path.length ≤ 10) (h : insW v path x = some u) : stepP (unputP v path) u = (0, v) := by
  unfold insW at h
  rcases nil_or_snoc path with rfl | ⟨l, s, rfl⟩
  · have : unputP v [] = ⟨3, [], [], text v⟩ := by unfold unputP; rw [if_pos rfl]
    rw [this]
    exact stepP_of (readO_val (.inr (.inl rfl)) (steps_join [] (by decide)) (fit_read hv)) (do_put (p := u) (by rw [atW]) (putW_nil u v)) hv
  · rw [if_neg (snoc_ne l s)] at h
    have fv := fit_few hv
    have wv := fit_S hv
    obtain ⟨p, q, h1, h2, h3⟩ := under_split fv h
    obtain ⟨g1, g2⟩ := at_put wv fv hu h1 h3
    have hback := put_at wv fv h1
    have fp := at_fit hv h1
    have hlen : (l ++ [s]).length ≤ 10 := hl
    have hd : (l ++ [s]).dropLast = l := List.dropLast_concat
    have hg : (l ++ [s]).getLast? = some s := List.getLast?_concat
    unfold unputP
    rw [if_neg (snoc_ne l s), hd, hg, h1]
    cases p with
    | obj fl =>
      cases h2
      dsimp only
      rw [atW_append h1, atW_one]
      obtain ⟨srt, _⟩ := wfS_obj (fit_S fp)
      cases hc : child (.obj fl) s with
      | some was =>
        dsimp only
        have hc' : get s fl = some was := hc
        have ew : under (putL was) u (l ++ [s]) = some v := under_join hu g1 (show putL was (.obj (put s x fl)) s = some (.obj fl) from congrArg (fun z => some (JV.obj z)) (by rw [put_put s x was srt]; exact put_get srt hc')) (by rw [g2]; exact hback)
        have fwas := child_fit fp hc
        refine stepP_of (readO_val (.inr (.inl rfl)) (steps_join _ hlen) (fit_read fwas)) (do_put (p := x) ?_ ?_) hv
        · rw [atW_append g1, atW_one]; exact get_put_same s x fl
        · unfold putW; rw [if_neg (snoc_ne l s)]; exact ew
      | none =>
        dsimp only
        have hc' : get s fl = none := hc
        have ew : under cutL u (l ++ [s]) = some v := under_join hu g1 (show cutL (.obj (put s x fl)) s = some (.obj fl) from by
          rw [cutL, get_put_same, if_pos (show (some x).isSome = true from rfl), cut_put_none srt hc']) (by rw [g2]; exact hback)
        exact stepP_of (readO_gone (steps_join _ hlen)) (do_gone (snoc_ne l s) ew) hv
    | list ls =>
      dsimp only
      have fl := few_list (fit_few fp)
      rw [insL] at h2
      cases hp : place s ls.length with
      | none => rw [hp] at h2; cases h2
      | some n =>
        rw [hp] at h2
        obtain rfl := Option.some.inj h2
        have hn : n ≤ ls.length ∧ Lib.itoa (n : Int) = (if s = [45] then Lib.itoa (ls.length : Int) else s) := by
          unfold place at hp
          by_cases hs : s = [45]
          · rw [if_pos hs] at hp ⊢
            obtain rfl := Option.some.inj hp
            exact ⟨Nat.le_refl _, rfl⟩
          · rw [if_neg hs] at hp ⊢
            obtain ⟨a, b⟩ := idx_some hp
            exact ⟨by omega, b⟩
        have ep : (if some s = some [45] then l ++ [Lib.itoa (ls.length : Int)] else l ++ [s]) = l ++ [if s = [45] then Lib.itoa (ls.length : Int) else s] := by
          by_cases hs : s = [45]
          · rw [if_pos (by rw [hs]), if_pos hs]
          · rw [if_neg (fun e => hs (Option.some.inj e)), if_neg hs]
        rw [ep, ← hn.2]
        have hll : (ls.take n ++ x :: ls.drop n).length = ls.length + 1 := by simp; omega
        have hc : cutL (.list (ls.take n ++ x :: ls.drop n)) (Lib.itoa (n : Int)) = some (.list ls) := by
          rw [cutL, hll, idx_of (n := n) (by omega) (by omega) rfl]
          dsimp only
          rw [erase_ins ls n x hn.1]
        have ew := under_join hu g1 hc (by rw [g2]; exact hback)
        exact stepP_of (readO_gone (steps_join _ (by simp only [List.length_append, List.length_cons, List.length_nil] at hlen ⊢; exact hlen))) (do_gone (snoc_ne l _) ew) hv
    | _ => cases h2
theorem uncut_back {v u : JV} {path : List Bs} (hv : Fit v) (hu : Few u) (h : cutW v path = some u) : ∃ was, atW v path = some was ∧ insW u path was = some v := by
  unfold cutW at h
  rcases nil_or_snoc path with rfl | ⟨l, s, rfl⟩
  · rw [under] at h; cases h
  · have fv := fit_few hv
    have wv := fit_S hv
    obtain ⟨p, q, h1, h2, h3⟩ := under_split fv h
    obtain ⟨g1, g2⟩ := at_put wv fv hu h1 h3
    have hback := put_at wv fv h1
    have fp := at_fit hv h1
    rw [atW_append h1, atW_one]
    have hins : ∀ y, insW u (l ++ [s]) y = under (insL y) u (l ++ [s]) := fun y => if_neg (snoc_ne l s)
    cases p with
    | obj fl =>
      obtain ⟨srt, _⟩ := wfS_obj (fit_S fp)
      rw [cutL] at h2
      cases hg : get s fl with
      | none => rw [hg] at h2; cases h2
      | some was =>
        rw [hg] at h2
        cases h2
        refine ⟨was, hg, (hins was).trans <| under_join hu g1 (show insL was (.obj (cut s fl)) s = some (.obj fl) from congrArg (fun z => some (JV.obj z)) (put_cut srt hg)) (by rw [g2]; exact hback)⟩
    | list ls =>
      have fl := few_list (fit_few fp)
      rw [cutL] at h2
      cases hp : idx s ls.length with
      | none => rw [hp] at h2; cases h2
      | some n =>
        rw [hp] at h2
        cases h2
        obtain ⟨a, b⟩ := idx_some hp
        have hw : ls[n]? = some ls[n] := List.getElem?_eq_getElem a
        refine ⟨ls[n], by show (idx s ls.length).bind _ = _; rw [hp]; exact hw, (hins _).trans <| under_join hu g1 (show insL ls[n] (.list (ls.eraseIdx n)) s = some (.list ls) from ?_) (by rw [g2]; exact hback)⟩
        have e1 : (ls.eraseIdx n).length + 1 = ls.length := by rw [List.length_eraseIdx, if_pos a]; omega
        have e2 : place s (ls.eraseIdx n).length = some n := by
          unfold place
          rw [if_neg (fun e => by rw [e, idx_dash] at hp; cases hp), e1, hp]
        rw [insL, e2]
        dsimp only
        rw [ins_erase ls n _ hw]
    | _ => cases h2
/-- what leads back behind a step that was done -/
def textO : Option JV → Bs
  | some x => text x
  | none => text .nul
def backP (v : JV) (s : PS) : List PO :=
  if s.kind = 1 ∨ s.kind = 5 then [unputP v s.path]
  else if s.kind = 2 then [⟨1, joinK s.path, [], textO (atW v s.path)⟩]
  else if s.kind = 3 then [⟨3, joinK s.path, [], textO (atW v s.path)⟩]
  else if s.kind = 4 then
    if s.frm = s.path then [] else match cutW v s.frm with
      | some rest => [unputP rest s.path, ⟨1, joinK s.frm, [], textO (atW v s.frm)⟩]
      | none => []
  else []
theorem run_one {o : PO} {v w : JV} {i : Nat} (h : stepP o v = (0, w)) : runP [o] v i = (0, i + 1, w) := by rw [runP, h, if_pos rfl]; rfl
theorem back_back {s : PS} {v w : JV} {i B : Nat} (hs : PSOK s B) (hv : Fit v) (hw : Fit w) (h : doP s v = (0, w)) (hk : 1 ≤ s.kind ∧ s.kind ≤ 6) : runP (backP v s) w i = (0, i + (backP v s).length, v) := by
  have fw := fit_few hw
  unfold doP at h
  unfold backP
  by_cases k1 : s.kind = 1
  · rw [if_pos k1] at h
    rw [if_pos (.inl k1)]
    have h' : insW v s.path s.val = some w := by
      have := toI_ok (c := 7) (by decide) (by rw [h])
      rw [h] at this; exact this
    exact run_one (unput_back hv fw hs.lp h')
  rw [if_neg k1] at h
  by_cases k2 : s.kind = 2
  · rw [if_pos k2] at h
    rw [if_neg (by omega), if_pos k2]
    by_cases hp : s.path = []
    · rw [if_pos hp] at h; cases h
    · rw [if_neg hp] at h
      have h' : cutW v s.path = some w := by
        have := toI_ok (c := 7) (by decide) (by rw [h])
        rw [h] at this; exact this
      obtain ⟨was, g1, g2⟩ := uncut_back hv fw h'
      rw [g1]
      exact run_one (stepP_of (readO_val (.inl rfl) (steps_join _ hs.lp) (fit_read (at_fit hv g1))) (do_add g2) hv)
  rw [if_neg k2] at h
  by_cases k3 : s.kind = 3
  · rw [if_pos k3] at h
    rw [if_neg (by omega), if_neg k2, if_pos k3]
    cases hp : atW v s.path with
    | none => rw [hp] at h; cases h
    | some was =>
      rw [hp] at h
      dsimp only at h
      have h' : putW v s.path s.val = some w := by
        have := toI_ok (c := 7) (by decide) (by rw [h])
        rw [h] at this; exact this
      obtain ⟨g1, g2⟩ := at_put (fit_S hv) (fit_few hv) fw hp h'
      exact run_one (stepP_of (readO_val (.inr (.inl rfl)) (steps_join _ hs.lp) (fit_read (at_fit hv hp))) (do_put g1 (by rw [g2]; exact put_at (fit_S hv) (fit_few hv) hp)) hv)
  rw [if_neg k3] at h
  by_cases k6 : s.kind = 6
  · rw [if_pos k6] at h
    rw [if_neg (by omega), if_neg k2, if_neg k3, if_neg (by omega)]
    cases hp : atW v s.path with
    | none => rw [hp] at h; cases h
    | some c =>
      rw [hp] at h
      dsimp only at h
      by_cases ht : text c = text s.val
      · rw [if_pos ht] at h
        obtain rfl := (Prod.mk.inj h).2
        rfl
      · rw [if_neg ht] at h; cases h
  rw [if_neg k6] at h
  unfold carryP at h
  by_cases k4 : s.kind = 4
  · rw [if_neg (by omega), if_neg k2, if_neg k3, if_pos k4]
    by_cases hb : s.kind = 4 ∧ beginsP s.frm s.path = true
    · rw [if_pos hb] at h; cases h
    rw [if_neg hb] at h
    cases ha : atW v s.frm with
    | none => rw [ha] at h; cases h
    | some x =>
      rw [ha] at h
      dsimp only at h
      rw [if_pos k4] at h
      by_cases hp : s.frm = s.path
      · rw [if_pos hp] at h ⊢
        obtain rfl := (Prod.mk.inj h).2
        rfl
      · rw [if_neg hp] at h ⊢
        cases hc : cutW v s.frm with
        | none => rw [hc] at h; cases h
        | some rest =>
          rw [hc] at h
          dsimp only at h ⊢
          have h' : insW rest s.path x = some w := by
            have := toI_ok (c := 7) (by decide) (by rw [h])
            rw [h] at this; exact this
          have fr := (cutW_less hv hc).1
          have e1 := unput_back fr fw hs.lp h'
          obtain ⟨was, g1, g2⟩ := uncut_back hv (fit_few fr) hc
          rw [ha] at g1
          obtain rfl := Option.some.inj g1
          have e2 : stepP ⟨1, joinK s.frm, [], textO (some x)⟩ rest = (0, v) := stepP_of (readO_val (.inl rfl) (steps_join _ hs.lf) (fit_read (at_fit hv ha))) (do_add g2) hv
          rw [runP, e1, if_pos rfl]
          exact run_one e2
  · have k5 : s.kind = 5 := by omega
    rw [if_pos (.inr k5)]
    rw [if_neg (fun e => k4 e.1)] at h
    cases ha : atW v s.frm with
    | none => rw [ha] at h; cases h
    | some x =>
      rw [ha] at h
      dsimp only at h
      rw [if_neg k4] at h
      have h' : insW v s.path x = some w := by
        have := toI_ok (c := 7) (by decide) (by rw [h])
        rw [h] at this; exact this
      exact run_one (unput_back hv fw hs.lp h')
theorem backP_len (v : JV) (s : PS) : (backP v s).length ≤ 2 := by
  unfold backP
  split
  · exact Nat.le_succ 1
  · split
    · exact Nat.le_succ 1
    · split
      · exact Nat.le_succ 1
      · split
        · split
          · exact Nat.zero_le _
          · split
            · exact Nat.le_refl _
            · exact Nat.zero_le _
        · exact Nat.zero_le _
/-- what leads back behind all that was done -/
def bkP : List PO → JV → List PO → List PO
  | [], _, out => out
  | o :: r, v, out => if (stepP o v).1 = 0 then bkP r (stepP o v).2 (backP v (readO o).2 ++ out) else out
theorem readO_kind {o : PO} (h : (readO o).1 = 0) : 1 ≤ (readO o).2.kind ∧ (readO o).2.kind ≤ 6 := by
  unfold readO at h ⊢
  by_cases h0 : o.kind < 1 ∨ 6 < o.kind
  · rw [if_pos h0] at h; cases h
  rw [if_neg h0] at h ⊢
  split
  · exact ⟨by dsimp only; omega, by dsimp only; omega⟩
  · split
    · exact ⟨by dsimp only; omega, by dsimp only; omega⟩
    · split <;> exact ⟨by dsimp only; omega, by dsimp only; omega⟩
theorem step_back {o : PO} {v : JV} (hv : Fit v) (h : (stepP o v).1 = 0) (i : Nat) : runP (backP v (readO o).2) (stepP o v).2 i = (0, i + (backP v (readO o).2).length, v) := by
  have hf := stepP_fit hv h
  unfold stepP at h hf ⊢
  by_cases h1 : (readO o).1 ≠ 0
  · rw [if_pos h1] at h; exact absurd h h1
  rw [if_neg h1] at h hf ⊢
  by_cases h2 : (doP (readO o).2 v).1 ≠ 0
  · rw [if_pos h2] at h; exact absurd h h2
  rw [if_neg h2] at h hf ⊢
  have h3 : (readO o).1 = 0 := by simpa using h1
  have h4 : (doP (readO o).2 v).1 = 0 := by simpa using h2
  exact back_back (readO_ok (B := o.path.length + o.frm.length) h3 (by omega) (by omega)) hv hf (Prod.ext h4 rfl) (readO_kind h3)
theorem bk_runs : ∀ {ops : List PO} {v : JV} {i : Nat} (out : List PO) (j : Nat), Fit v → (runP ops v i).1 = 0 → ∃ m, m ≤ 2 * ops.length ∧ (bkP ops v out).length = m + out.length ∧ runP (bkP ops v out) (runP ops v i).2.2 j = runP out v (j + m)
  | [], v, i, out, j, _, _ => ⟨0, Nat.le_refl _, by rw [bkP]; omega, rfl⟩
  | o :: r, v, i, out, j, hv, h => by
    rw [runP] at h ⊢
    by_cases h1 : (stepP o v).1 = 0
    · rw [if_pos h1] at h ⊢
      obtain ⟨m, m1, m2, m3⟩ := bk_runs (backP v (readO o).2 ++ out) j (stepP_fit hv h1) h
      have hb := step_back hv h1 (j + m)
      have hl := backP_len v (readO o).2
      refine ⟨m + (backP v (readO o).2).length, by rw [List.length_cons]; omega, by rw [bkP, if_pos h1, m2, List.length_append]; omega, ?_⟩
      rw [bkP, if_pos h1, m3, runP_append, hb, if_pos rfl]
      show runP out v _ = _
      rw [Nat.add_assoc]
    · rw [if_neg h1] at h; exact absurd h h1
/-- what 'Invert' answers -/
def invL (d : Bs) (ops : List PO) : List PO := if applyE d ops = 0 then bkP ops (readL d).1 [] else []
theorem patch_back {d : Bs} {ops : List PO} (hl : ops.length ≤ 20) (h : applyE d ops = 0) : applyE (applyT d ops) (invL d ops) = 0 ∧ applyT (applyT d ops) (invL d ops) = canonT d ∧ applyN (applyT d ops) (invL d ops) = (invL d ops).length := by
  obtain ⟨x, h1, h2, h3, h4, h5⟩ := runO_ok h
  have hf := runP_fit h4 h3
  have ht : applyT d ops = text (runP ops x 0).2.2 := by unfold applyT; rw [h5, if_pos h3]
  have hi : invL d ops = bkP ops x [] := by unfold invL; rw [if_pos h, h1]
  obtain ⟨m, m1, m2, m3⟩ := bk_runs (i := 0) [] 0 h4 h3
  rw [ht, hi]
  have hlen : (bkP ops x []).length ≤ 40 := by rw [m2, List.length_nil]; omega
  have e : runO (text (runP ops x 0).2.2) (bkP ops x []) = (0, m, x) := by
    rw [runO_of (fit_read hf) hlen, m3, runP]; simp
  unfold applyE applyT applyN
  rw [e, if_pos rfl, canonT_ok h1, m2]
  exact ⟨rfl, rfl, by simp⟩
end JP
end Go.Proofs.YtlbolbkikkiifaaGreatDoor
