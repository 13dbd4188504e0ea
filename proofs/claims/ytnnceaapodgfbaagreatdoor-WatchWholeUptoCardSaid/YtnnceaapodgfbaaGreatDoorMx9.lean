/- Texts of ours joined. -/
import Derived.Maps.RangeWalk
import Derived.Lib.Hide
import Derived.IntWalk
import Derived.Test.YtnnceaapodgfbaaGreatDoorMx8
set_option linter.unusedVariables false
set_option linter.unusedSimpArgs false
namespace Go.Proofs.YtnnceaapodgfbaaGreatDoor
namespace Sto
open Go.RowKit
def ReqX (D : Dom) (w : World) : Rd GReq := fun _ cs x => ∃ v2, cs = [.string x.key, .int .i64 x.kind, v2] ∧ OwnX StrF 1 D w 9 v2 x.vals ∧ (Lit.int .i64 x.kind).wf = true
theorem famReq : Fam ReqX :=
 ⟨fun _ _ _ _ _ _ h => h, fun _ _ _ cs x ⟨v2, h1, h2, _⟩ u hu => by
  rw [h1] at hu
  simp only [List.mem_cons, List.not_mem_nil, or_false] at hu
  rcases hu with rfl | rfl | rfl
  ·rfl
  ·rfl
  ·exact own_one h2.own,
  fun _ _ _ _ _ _ ha ⟨v2, h1, h2, h3⟩ => ⟨v2, h1, h2.agree famStr ha, h3⟩, fun _ _ _ _ _ _ hd ⟨v2, h1, h2, h3⟩ => ⟨v2, h1, h2.mono famStr hd, h3⟩⟩
theorem reqs_row {D : Dom} {w : World} {v : Value} {l : List GReq} (h : OwnX ReqX 3 D w 97 v l) : RowAt ReqR 3 w v l :=
 (show OwnAt ReqR 3 w 0 97 v l from h.1.imp' fun _ _ _ ⟨v2, e, hi, hk⟩ => ⟨v2, e, hk, hi.own.row.strs⟩).row
structure WatchAt (w : World) (gw hm : Nat) (vr : Value) (R : Dom) (v : GView) (at9 : Int) (H : GKey → Bool) (n : Nat) : Prop where
 box : w.heap[gw]? = some (.cells #[.string v.kind, .string v.space, vr, .int .i64 at9, .map (some hm)] 153 (0, 0))
 map : ∃ m f, m ≤ n ∧ MapK keyC w hm m f ∧ ∀ k, (f k).isSome = H k
 row : OwnX ReqX 3 R w 97 vr v.reqs
 low : ∀ b, R b → b < w.heap.size ∧ b ≠ gw ∧ b ≠ hm
structure OkView (v : GView) : Prop where
 kind : v.kind.size ≤ 1048576
 space : v.space.size ≤ 1048576
 reqs : v.reqs.length ≤ 1048576 ∧ ∀ r ∈ v.reqs, okReq r
section
variable {w w' : World} {gw hm n : Nat} {vr : Value} {R D : Dom} {v : GView} {at9 : Int} {H : GKey → Bool}
theorem WatchAt.ne (h : WatchAt w gw hm vr R v at9 H n) : hm ≠ gw := let ⟨_, _, _, h1, _⟩ := h.map; MapK.ne h1 h.box
theorem WatchAt.lts (h : WatchAt w gw hm vr R v at9 H n) : gw < w.heap.size ∧ hm < w.heap.size := ⟨lt_of_some h.box, let ⟨_, _, _, h1, _⟩ := h.map; MapK.lt h1⟩
theorem WatchAt.agreeX (h : WatchAt w gw hm vr R v at9 H n) (hs : w.heap.size ≤ w'.heap.size) (ha : ∀ b, b = gw ∨ b = hm ∨ R b → w'.heap[b]? = w.heap[b]?) : WatchAt w' gw hm vr R v at9 H n :=
 ⟨(ha gw (.inl rfl)).trans h.box, let ⟨m, f, h0, h1, h2⟩ := h.map; ⟨m, f, h0, h1.block (ha hm (.inr (.inl rfl))), h2⟩, h.row.agree famReq fun b hb => ha b (.inr (.inr hb)), fun b hb => ⟨Nat.lt_of_lt_of_le (h.low b hb).1 hs, (h.low b hb).2⟩⟩
theorem WatchAt.belowX (h : WatchAt w gw hm vr R v at9 H n) (hb : Below w.heap.size w w') : WatchAt w' gw hm vr R v at9 H n := h.agreeX hb.size fun b h9 => by
 rcases h9 with rfl | rfl | h9
 ·exact hb.block _ h.lts.1
 ·exact hb.block _ h.lts.2
 ·exact hb.block _ (h.low b h9).1
end
theorem Only.thenT {D : Dom} {w w' w'' : World} {g : Nat} (h : Only D w w') (t : Touch g w' w'') (hg : w.heap.size ≤ g) : Only D w w'' :=
 ⟨t.os.trans h.os, t.tape.trans h.tape, t.output.trans h.output, Nat.le_trans h.size (Nat.le_of_eq t.size.symm), fun k hk hn => (t.other k (by omega)).trans (h.block k hk hn)⟩
theorem bne_eq_dec (a b : Int) : (a != b) = decide (a ≠ b) := by
 rw [Bool.eq_iff_iff, bne_iff_ne, decide_eq_true_iff]
theorem Tryz.zeroIntW (w : World) : (zeroValue 3).run Tryz.prog w = .ok (.int .i64 0) w := by kernel_rfl
theorem Tryz.sizeKeyW : (Tryz.prog.info? 24).map (·.size) = some 3 := by kernel_rfl
set_option maxRecDepth 100000 in
set_option maxHeartbeats 12800000 in
theorem sees_any {w : World} {gw hm n : Nat} {vr : Value} {R : Dom} {v : GView} {at9 : Int} {H : GKey → Bool} (h : WatchAt w gw hm vr R v at9 H n) (hv : OkView v) (hn : n ≤ 1073741824) (e : GEvent) (v1 v2 v3 : Value) (hl : RowAt LabelR 2 w v1 e.object.labels) (ho : StrAt w v2 e.object.owners) (hh : StrAt w v3 e.object.holds) (hok : OkObj e.object) (hm9 : ∃ m, MaxOK m w) :
  Calls Tryz.prog 81 #[.pointer (some ⟨gw, 0, none⟩), .agg (#[.int .i64 e.kind, .int .i64 e.rev] ++ (objCs e.object v1 v2 v3).toArray)] w fun x w' => x = .returned (.tuple #[.agg (#[.int .i64 ((seenK v H e).getD e.kind), .int .i64 e.rev] ++ (objCs e.object v1 v2 v3).toArray), .bool (seenK v H e).isSome]) ∧ WatchAt w' gw hm vr R v at9 (seenH v H e) (n + 1) ∧ Only (fun b => b = hm) w w' := by
 obtain ⟨ar, cr, rfl, -, -⟩ := h.row.own.row.len
 obtain ⟨a1, c1, rfl, -, -⟩ := hl.len
 obtain ⟨a2, c2, rfl, -, -⟩ := ho.row.len
 obtain ⟨a3, c3, rfl, -, -⟩ := hh.row.len
 obtain ⟨nr, Hnr⟩ : ∃ n, Hid (v.reqs.length = n) := ⟨_, Lib.hid rfl⟩
 obtain ⟨n1, Hn1⟩ : ∃ n, Hid (e.object.labels.length = n) := ⟨_, Lib.hid rfl⟩
 obtain ⟨n2, Hn2⟩ : ∃ n, Hid (e.object.owners.length = n) := ⟨_, Lib.hid rfl⟩
 obtain ⟨n3, Hn3⟩ : ∃ n, Hid (e.object.holds.length = n) := ⟨_, Lib.hid rfl⟩
 rw [Hnr.out] at h ⊢
 rw [Hn1.out] at hl ⊢
 rw [Hn2.out] at ho ⊢
 rw [Hn3.out] at hh ⊢
 have HW := Lib.hid h
 have HN := Lib.hid hn
 clear hn
 have hKey : Hid (okKey e.object.okey) := Lib.hid ⟨Nat.le_trans hok.kind (by decide), Nat.le_trans hok.space (by decide), Nat.le_trans hok.name (by decide)⟩
 obtain ⟨nm, f, hmn, m1, m2⟩ := h.map
 have HMN := Lib.hid hmn
 have M2 := Lib.hid m2
 obtain ⟨W, hW⟩ : ∃ W, W = (w.alloc (.cells #[.int .i64 e.kind, .int .i64 e.rev, .string e.object.okey.kind, .string e.object.okey.space, .string e.object.okey.name, .slice a1 n1 c1, .slice a2 n2 c2, .slice a3 n3 c3, .bool e.object.ending, .string e.object.uid, .int .i64 e.object.rev, .string e.object.doc] 56)).alloc (.cells #[.int .i64 0, .int .i64 0, .string { data := #[] }, .string { data := #[] }, .string { data := #[] }, .slice none 0 0, .slice none 0 0, .slice none 0 0, .bool false, .string { data := #[] }, .int .i64 0, .string { data := #[] }] 56) := ⟨_, rfl⟩
 obtain ⟨ge, hge⟩ : ∃ g, g = w.heap.size := ⟨_, rfl⟩
 obtain ⟨gr, hgr⟩ : ∃ g, g = w.heap.size + 1 := ⟨_, rfl⟩
 have BE := Lib.hid (show W.heap[ge]? = some (.cells #[.int .i64 e.kind, .int .i64 e.rev, .string e.object.okey.kind, .string e.object.okey.space, .string e.object.okey.name, .slice a1 n1 c1, .slice a2 n2 c2, .slice a3 n3 c3, .bool e.object.ending, .string e.object.uid, .int .i64 e.object.rev, .string e.object.doc] 56 (0, 0)) by rw [hW, hge]; exact heap_alloc_old (heap_alloc_new w _))
 have BR := Lib.hid (show W.heap[gr]? = some (.cells #[.int .i64 0, .int .i64 0, .string { data := #[] }, .string { data := #[] }, .string { data := #[] }, .slice none 0 0, .slice none 0 0, .slice none 0 0, .bool false, .string { data := #[] }, .int .i64 0, .string { data := #[] }] 56 (0, 0)) by rw [hW, hgr]; exact heap_alloc_at (World.size_alloc _ _).symm)
 have hb1 : Below w.heap.size w W := by rw [hW]; exact ((Below.refl _ w).alloc (Nat.le_refl _) _).alloc (by rw [World.size_alloc]; omega) _
 have hs1 : W.heap.size = w.heap.size + 2 := by rw [hW, World.size_alloc, World.size_alloc]
 have HB1 := Lib.hid hb1
 have hwe : w.heap.size ≤ ge := by omega
 have hwr : w.heap.size ≤ gr := by omega
 have her : ge ≠ gr := by omega
 have hWs : gr < W.heap.size := by omega
 have hWe : ge < W.heap.size := by omega
 have hgw := h.lts.1
 have hhm := h.lts.2
 have hShow : Hid (∀ w', Below w.heap.size w w' → Calls Tryz.prog 79 #[.agg #[.string v.kind, .string v.space, .slice ar nr cr], .agg #[.string e.object.okey.kind, .string e.object.okey.space, .string e.object.okey.name, .slice a1 n1 c1, .slice a2 n2 c2, .slice a3 n3 c3, .bool e.object.ending, .string e.object.uid, .int .i64 e.object.rev, .string e.object.doc]] w' fun x w'' => x = .returned (.bool (showsV v e.object)) ∧ Below w'.heap.size w' w'') := Lib.hid fun w' hb => by
  have hrow := (reqs_row h.row).below stays_req hb
  exact shows_any v (.slice ar nr cr) e.object (.slice a1 n1 c1) (.slice a2 n2 c2) (.slice a3 n3 c3) w' hrow hv.reqs.1 hv.reqs.2 (hl.below stays_label hb) (ho.below hb) (hh.below hb) hok (by obtain ⟨m, hm⟩ := hm9; exact ⟨m, hm.below hb⟩)
 have hgx : Hid (∀ w', Below w.heap.size w w' → w'.heap[gw]? = some (.cells #[.string v.kind, .string v.space, .slice ar nr cr, .int .i64 at9, .map (some hm)] 153 (0, 0)) ∧ MapK keyC w' hm nm f) := Lib.hid fun w' hb => ⟨(hb.block gw hgw).trans h.box, m1.belowW hb⟩
 rw [show (.agg (#[Value.int .i64 e.kind, .int .i64 e.rev] ++ (objCs e.object (.slice a1 n1 c1) (.slice a2 n2 c2) (.slice a3 n3 c3)).toArray) : Value) = .agg #[.int .i64 e.kind, .int .i64 e.rev, .string e.object.okey.kind, .string e.object.okey.space, .string e.object.okey.name, .slice a1 n1 c1, .slice a2 n2 c2, .slice a3 n3 c3, .bool e.object.ending, .string e.object.uid, .int .i64 e.object.rev, .string e.object.doc] from rfl]
 obtain ⟨k9, Hk9⟩ : ∃ k, Hid ((seenK v H e).getD e.kind = k) := ⟨_, Lib.hid rfl⟩
 obtain ⟨b9, Hb9⟩ : ∃ b, Hid ((seenK v H e).isSome = b) := ⟨_, Lib.hid rfl⟩
 rw [Hk9.out, Hb9.out]
 rw [show (.agg (#[Value.int .i64 k9, .int .i64 e.rev] ++ (objCs e.object (.slice a1 n1 c1) (.slice a2 n2 c2) (.slice a3 n3 c3)).toArray) : Value) = .agg #[.int .i64 k9, .int .i64 e.rev, .string e.object.okey.kind, .string e.object.okey.space, .string e.object.okey.name, .slice a1 n1 c1, .slice a2 n2 c2, .slice a3 n3 c3, .bool e.object.ending, .string e.object.uid, .int .i64 e.object.rev, .string e.object.doc] from rfl]
 obtain ⟨had, hhad⟩ : ∃ b, H e.object.okey = b := ⟨_, rfl⟩
 obtain ⟨sv, hsv⟩ : ∃ b, showsV v e.object = b := ⟨_, rfl⟩
 rw [hsv] at hShow
 have HK9 : Hid (seenK v H e = if (decide (e.kind ≠ 3) && sv) = true then some (if had = true then 2 else 1) else if had = true then some 3 else none) := Lib.hid (by unfold seenK nowHas; rw [hhad, hsv])
 have HNow : Hid (nowHas v e = (decide (e.kind ≠ 3) && sv)) := Lib.hid (by unfold nowHas; rw [hsv])
 have Hhad := Lib.hid hhad
 clear h hv hl ho hh hok hm9 m1 m2 hmn hb1 hsv hhad
 go_enter Tryz.func81, Tryz.ntmps81
 go_upto_region 1 with fail
 have hex : ((w.alloc (.cells #[.int .i64 e.kind, .int .i64 e.rev, .string e.object.okey.kind, .string e.object.okey.space, .string e.object.okey.name, .slice a1 n1 c1, .slice a2 n2 c2, .slice a3 n3 c3, .bool e.object.ending, .string e.object.uid, .int .i64 e.object.rev, .string e.object.doc] 56)).alloc (.cells #[.int .i64 0, .int .i64 0, .string { data := #[] }, .string { data := #[] }, .string { data := #[] }, .slice none 0 0, .slice none 0 0, .slice none 0 0, .bool false, .string { data := #[] }, .int .i64 0, .string { data := #[] }] 56)) = W := hW.symm
 rw [hex]
 try rw [← hgr]
 rw [← hge]
 clear hW hex hge hgr hs1
 have ce := fun i => cell_block BE.out i
 have h7 := Lib.hid (heap_alloc_new W (.cells #[.string { data := #[] }, .string { data := #[] }, .string { data := #[] }] 24))
 have h4 := Lib.hid ((Below.refl W.heap.size W).alloc (Nat.le_refl _) (.cells #[.string { data := #[] }, .string { data := #[] }, .string { data := #[] }] 24))
 have h9 : Hid ((W.alloc (.cells #[.string { data := #[] }, .string { data := #[] }, .string { data := #[] }] 24)).heap.size = W.heap.size + 1) := Lib.hid (World.size_alloc _ _)
 go_wp2_with (refine wpList_store_box (by rfl) _ _ _ (by rfl) W.heap.size #[.string e.object.okey.kind, .string e.object.okey.space, .string e.object.okey.name] (by rfl) (by rfl) _ _ (by exact h7.out) (by exact Tryz.sizeKeyW) (by rfl) (by simp [Value.oneCell']) ?_)
 intro w2 b2 t2
 obtain ⟨gk9, hgk⟩ : ∃ g, W.heap.size = g := ⟨_, rfl⟩
 have hb2 := t2.below h4.out (Nat.le_refl _)
 have hs2 : w2.heap.size = W.heap.size + 1 := t2.size.trans h9.out
 rw [hgk] at b2 hs2 hWs hWe ⊢
 have BK := Lib.hid b2
 have BE2 := Lib.hid (below_block hb2 BE.out)
 have BR2 := Lib.hid (below_block hb2 BR.out)
 have HB2 := Lib.hid (HB1.out.trans (hb2.mono HB1.out.size))
 have hkl : gk9 < w2.heap.size := by omega
 clear b2 t2 hb2 h7 h4 h9 BE BR HB1 ce hgk hs2
 have hlk : ∀ q, (Instr.lookup 151 (.map (some hm)) (.agg #[.string e.object.okey.kind, .string e.object.okey.space, .string e.object.okey.name]) true).run Tryz.prog (w2.drewN q) = .ok (.tuple #[(f e.object.okey).getD (.int .i64 0), .bool had]) (w2.drewN q) := fun q => by
  have hbq : Below w.heap.size w (w2.drewN q) := drewB HB2.out q
  have h9 := (MapK.look (hgx.out _ hbq).2 Tryz.underlying151 (Tryz.zeroIntW (w2.drewN q)) e.object.okey hKey.out).1
  rw [M2.out, Hhad.out] at h9
  exact h9
 obtain ⟨u7, Hu7⟩ : ∃ u, Hid ((f e.object.okey).getD (.int .i64 0) = u) := ⟨_, Lib.hid rfl⟩
 rw [Hu7.out] at hlk
 have cw := fun i => cell_block (hgx.out _ HB2.out).1 i
 have ck := fun i => cell_block BK.out i
 go_upto_region 2 with fail
 go_quiet (fail)
 have BK3 := Lib.hid (show (w2.drewN nq).heap[gk9]? = some (.cells #[.string e.object.okey.kind, .string e.object.okey.space, .string e.object.okey.name] 24 (0, 0)) from BK.out)
 have BE3 := Lib.hid (show (w2.drewN nq).heap[ge]? = some (.cells #[.int .i64 e.kind, .int .i64 e.rev, .string e.object.okey.kind, .string e.object.okey.space, .string e.object.okey.name, .slice a1 n1 c1, .slice a2 n2 c2, .slice a3 n3 c3, .bool e.object.ending, .string e.object.uid, .int .i64 e.object.rev, .string e.object.doc] 56 (0, 0)) from BE2.out)
 have BR3 := Lib.hid (show (w2.drewN nq).heap[gr]? = some (.cells #[.int .i64 0, .int .i64 0, .string { data := #[] }, .string { data := #[] }, .string { data := #[] }, .slice none 0 0, .slice none 0 0, .slice none 0 0, .bool false, .string { data := #[] }, .int .i64 0, .string { data := #[] }] 56 (0, 0)) from BR2.out)
 have HB3 := Lib.hid (drewB HB2.out nq)
 clear BK BE2 BR2 HB2 hlk cw ck hkl
 generalize w2.drewN nq = w3 at BK3 BE3 BR3 HB3 ⊢
 clear hWs hWe
 have hge3 := lt_of_some BE3.out
 have hgk3 := lt_of_some BK3.out
 have hgr3 := lt_of_some BR3.out
 have hgw3 : gw < w3.heap.size := Nat.lt_of_lt_of_le hgw HB3.out.size
 have hhm3 : hm < w3.heap.size := Nat.lt_of_lt_of_le hhm HB3.out.size
 obtain ⟨has, Hhas⟩ : ∃ b, Hid (nowHas v e = b) := ⟨_, Lib.hid rfl⟩
 have H3 : Hid (∀ P : Prop, (∀ w4, Below w3.heap.size w3 w4 → P) → (P → P)) := Lib.hid fun _ _ h => h
 clear H3
 go_upto_region 3 with fail
 cases k3 : (e.kind != 3) with
 | false =>
  have hhas : has = false := by rw [← Hhas.out, HNow.out, show decide (e.kind ≠ 3) = false from by rw [← k3]; exact (bne_eq_dec e.kind 3).symm]; rfl
  subst hhas
  refine wp_region_hold 12 (fun w' => Below w3.heap.size w3 w') (by kernel_rfl) (by kernel_rfl) ?_ ?_
  ·exact (Below.refl _ w3).drew
  simp only [List.take_succ_cons, List.take_zero, List.drop_succ_cons, List.drop_zero]
  (first | (refine wpHold_pure (v := ?_) (by rfl) (fun w => ?_) ?_; rotate_left; focus (first | (go_simp; done) | (go_simp; with_reducible rfl))) | (refine wpHold_skip ?_ ?_; focus (go_simp; done)) | (refine wpHold_pure' (v := ?_) ?_ (fun w => ?_) ?_; rotate_left; focus (go_simp; done); focus (first | (go_simp; done) | (go_simp; with_reducible rfl)))); try simp only [Act.put, List.setIfInBounds_toArray, List.set_cons_zero, List.set_cons_succ]
  refine wpHold_read (v := .int .i64 e.kind) (by rfl) (fun w' hI => ?_) ?_
  ·have dd := (hI.cell (p := ⟨ge, 0, none⟩) hge3).trans (cell_block BE3.out 0)
   go_simp
   done
  try simp only [Act.put, List.setIfInBounds_toArray, List.set_cons_zero, List.set_cons_succ]
  refine wpHold_pure' (v := ?_) ?_ (fun w => ?_) ?_
  rotate_left
  focus (go_simp; done)
  focus (first | (go_simp; done) | (go_simp; with_reducible rfl))
  try simp only [Act.put, List.setIfInBounds_toArray, List.set_cons_zero, List.set_cons_succ]
  refine wpHold_pure' (v := ?_) ?_ (fun w => ?_) ?_
  rotate_left
  focus (go_simp; done)
  focus (first | (go_simp; done) | (go_simp; with_reducible rfl))
  try simp only [Act.put, List.setIfInBounds_toArray, List.set_cons_zero, List.set_cons_succ]
  refine wpHold_skip ?_ ?_
  focus (go_simp; done)
  try simp only [Act.put, List.setIfInBounds_toArray, List.set_cons_zero, List.set_cons_succ]
  refine wpHold_skip ?_ ?_
  focus (go_simp; done)
  try simp only [Act.put, List.setIfInBounds_toArray, List.set_cons_zero, List.set_cons_succ]
  refine wpHold_skip ?_ ?_
  focus (go_simp; done)
  try simp only [Act.put, List.setIfInBounds_toArray, List.set_cons_zero, List.set_cons_succ]
  refine wpHold_skip ?_ ?_
  focus (go_simp; done)
  try simp only [Act.put, List.setIfInBounds_toArray, List.set_cons_zero, List.set_cons_succ]
  refine wpHold_skip ?_ ?_
  focus (go_simp; done)
  try simp only [Act.put, List.setIfInBounds_toArray, List.set_cons_zero, List.set_cons_succ]
  refine wpHold_skip ?_ ?_
  focus (go_simp; done)
  try simp only [Act.put, List.setIfInBounds_toArray, List.set_cons_zero, List.set_cons_succ]
  refine wpHold_skip ?_ ?_
  focus (go_simp; done)
  try simp only [Act.put, List.setIfInBounds_toArray, List.set_cons_zero, List.set_cons_succ]
  refine wpHold_pure' (v := ?_) ?_ (fun w => ?_) ?_
  rotate_left
  focus (go_simp; done)
  focus (first | (go_simp; done) | (go_simp; with_reducible rfl))
  try simp only [Act.put, List.setIfInBounds_toArray, List.set_cons_zero, List.set_cons_succ]
  refine wpHold_nil ?_
  intro w4 hI4
  have BK4 := Lib.hid (below_block hI4 BK3.out)
  have BE4 := Lib.hid (below_block hI4 BE3.out)
  have BR4 := Lib.hid (below_block hI4 BR3.out)
  have HB4 := Lib.hid (HB3.out.trans (hI4.mono HB3.out.size))
  have hge4 := lt_of_some BE4.out
  have hgk4 := lt_of_some BK4.out
  clear hI4 BK3 BE3 BR3 HB3 HNow k3
  clear hShow
  cases had with
  | true =>
   go_upto_region 10 with fail
   refine wp_region_hold 5 (fun w' => Below w4.heap.size w4 w') (by kernel_rfl) (by kernel_rfl) ?_ ?_
   ·exact (Below.refl _ w4).drew
   simp only [List.take_succ_cons, List.take_zero, List.drop_succ_cons, List.drop_zero]
   (first | (refine wpHold_pure (v := ?_) (by rfl) (fun w => ?_) ?_; rotate_left; focus (first | (go_simp; done) | (go_simp; with_reducible rfl))) | (refine wpHold_skip ?_ ?_; focus (go_simp; done)) | (refine wpHold_pure' (v := ?_) ?_ (fun w => ?_) ?_; rotate_left; focus (go_simp; done); focus (first | (go_simp; done) | (go_simp; with_reducible rfl)))); try simp only [Act.put, List.setIfInBounds_toArray, List.set_cons_zero, List.set_cons_succ]
   (first | (refine wpHold_pure (v := ?_) (by rfl) (fun w => ?_) ?_; rotate_left; focus (first | (go_simp; done) | (go_simp; with_reducible rfl))) | (refine wpHold_skip ?_ ?_; focus (go_simp; done)) | (refine wpHold_pure' (v := ?_) ?_ (fun w => ?_) ?_; rotate_left; focus (go_simp; done); focus (first | (go_simp; done) | (go_simp; with_reducible rfl)))); try simp only [Act.put, List.setIfInBounds_toArray, List.set_cons_zero, List.set_cons_succ]
   (first | (refine wpHold_pure (v := ?_) (by rfl) (fun w => ?_) ?_; rotate_left; focus (first | (go_simp; done) | (go_simp; with_reducible rfl))) | (refine wpHold_skip ?_ ?_; focus (go_simp; done)) | (refine wpHold_pure' (v := ?_) ?_ (fun w => ?_) ?_; rotate_left; focus (go_simp; done); focus (first | (go_simp; done) | (go_simp; with_reducible rfl)))); try simp only [Act.put, List.setIfInBounds_toArray, List.set_cons_zero, List.set_cons_succ]
   refine wpHold_read (v := .map (some hm)) (by rfl) (fun w' hI => ?_) ?_
   ·have hbx := (hgx.out w' (HB4.out.trans (hI.mono HB4.out.size))).1
    have d4 := cell_block hbx 4
    go_simp
    done
   try simp only [Act.put, List.setIfInBounds_toArray, List.set_cons_zero, List.set_cons_succ]
   refine wpHold_read (v := .agg #[.string e.object.okey.kind, .string e.object.okey.space, .string e.object.okey.name]) (by rfl) (fun w' hI => ?_) ?_
   ·have d0 := (hI.cell (p := ⟨gk9, 0, none⟩) hgk4).trans (cell_block BK4.out 0)
    have d1 := (hI.cell (p := ⟨gk9, 1, none⟩) hgk4).trans (cell_block BK4.out 1)
    have d2 := (hI.cell (p := ⟨gk9, 2, none⟩) hgk4).trans (cell_block BK4.out 2)
    go_simp
    done
   try simp only [Act.put, List.setIfInBounds_toArray, List.set_cons_zero, List.set_cons_succ]
   refine wpHold_nil ?_
   intro w5 hI5
   have BK5 := Lib.hid (below_block hI5 BK4.out)
   have BE5 := Lib.hid (below_block hI5 BE4.out)
   have BR5 := Lib.hid (below_block hI5 BR4.out)
   have HB5 := Lib.hid (HB4.out.trans (hI5.mono HB4.out.size))
   have hge5 := lt_of_some BE5.out
   have hgr5 := lt_of_some BR5.out
   clear hI5 BK4 BE4 BR4 HB4
   obtain ⟨w6, hrun, hm6, ht6⟩ := MapK.drop (hgx.out w5 HB5.out).2 Tryz.underlying151 e.object.okey hKey.out 0
   rw [show keyC.val e.object.okey = .agg #[.string e.object.okey.kind, .string e.object.okey.space, .string e.object.okey.name] from rfl] at hrun
   go_upto_region 11 with fail
   have O6 : Only (fun b => b = hm) w5 w6 := Only.turned ht6 rfl
   have BE6 := Lib.hid ((O6.block ge hge5 (by omega)).trans BE5.out)
   have BR6 := Lib.hid ((O6.block gr hgr5 (by omega)).trans BR5.out)
   have OW6 := Lib.hid (Only.after HB5.out O6)
   have M6 := Lib.hid hm6
   clear O6 hrun hm6 ht6 BK5 BE5 BR5 HB5
   have fb := fun i => free_block BE6.out i
   have cb := fun i => cell_block BE6.out i
   obtain ⟨w7, hw7⟩ : ∃ w9, w6.setCell ⟨ge, 0, none⟩ (.int .i64 3) = w9 := ⟨_, rfl⟩
   have t1 := touch_setCell (i := 0) (v := .int .i64 3) BE6.out
   rw [hw7] at t1
   have BE7 : Hid (w7.heap[ge]? = some (.cells #[.int .i64 3, .int .i64 e.rev, .string e.object.okey.kind, .string e.object.okey.space, .string e.object.okey.name, .slice a1 n1 c1, .slice a2 n2 c2, .slice a3 n3 c3, .bool e.object.ending, .string e.object.uid, .int .i64 e.object.rev, .string e.object.doc] 56 (0, 0))) := Lib.hid t1.1
   have BR7 := Lib.hid (t1.2.block BR6.out (Ne.symm her))
   have OW7 := Lib.hid (Only.thenT OW6.out t1.2 hwe)
   have M7 := Lib.hid (M6.out.block (t1.2.other hm (by omega)))
   go_upto_region 12 with fail
   try rw [hw7]
   clear t1 hw7 fb cb BE6 BR6 OW6 M6
   have hk9 : k9 = 3 := by rw [← Hk9.out]; unfold seenK; rw [Hhas.out, Hhad.out]; rfl
   have hb9 : b9 = true := by rw [← Hb9.out]; unfold seenK; rw [Hhas.out, Hhad.out]; rfl
   clear Hk9 Hb9
   subst hk9 hb9
   have ce := fun i => cell_block BE7.out i
   go_wp2_with (refine wpList_store_box (by rfl) _ _ _ (by rfl) gr #[.int .i64 3, .int .i64 e.rev, .string e.object.okey.kind, .string e.object.okey.space, .string e.object.okey.name, .slice a1 n1 c1, .slice a2 n2 c2, .slice a3 n3 c3, .bool e.object.ending, .string e.object.uid, .int .i64 e.object.rev, .string e.object.doc] (by rfl) (by rfl) _ _ (by exact BR7.out) (by exact Tryz.sizeEv) (by rfl) (by simp [Value.oneCell']) ?_)
   intro WF bF tF
   have OWF : Hid (Only (fun b => b = hm) w WF) := Lib.hid (Only.thenT OW7.out tF hwr)
   go_wp2_with fail
   refine bodyPost_ret (v := .tuple #[.agg #[.int .i64 3, .int .i64 e.rev, .string e.object.okey.kind, .string e.object.okey.space, .string e.object.okey.name, .slice a1 n1 c1, .slice a2 n2 c2, .slice a3 n3 c3, .bool e.object.ending, .string e.object.uid, .int .i64 e.object.rev, .string e.object.doc], .bool true]) ?_ rfl ?_
   ·exact results_two_box Tryz.results81 _ _ gr _ _ _ _ (by rfl) bF Tryz.underlying56 rfl (by exact Tryz.sizeEv)
   ·refine ⟨rfl, ⟨(OWF.out.block _ hgw (Ne.symm HW.out.ne)).trans HW.out.box, ?_, HW.out.row.agree famReq fun b hb => OWF.out.block b (HW.out.low b hb).1 (HW.out.low b hb).2.2, fun b hb => ⟨Nat.lt_of_lt_of_le (HW.out.low b hb).1 OWF.out.size, (HW.out.low b hb).2⟩⟩, OWF.out⟩
    refine ⟨nm, _, Nat.le_succ_of_le HMN.out, M7.out.block (tF.other hm (by omega)), fun k => ?_⟩
    unfold delK seenH
    split
    next => exact Hhas.out.symm
    next => exact M2.out k
  | false =>
   have hk9 : k9 = e.kind := by rw [← Hk9.out]; unfold seenK; rw [Hhas.out, Hhad.out]; rfl
   have hb9 : b9 = false := by rw [← Hb9.out]; unfold seenK; rw [Hhas.out, Hhad.out]; rfl
   clear Hk9 Hb9
   subst hk9 hb9
   have ce := fun i => cell_block BE4.out i
   go_wp2_with (refine wpList_store_box (by rfl) _ _ _ (by rfl) gr #[.int .i64 e.kind, .int .i64 e.rev, .string e.object.okey.kind, .string e.object.okey.space, .string e.object.okey.name, .slice a1 n1 c1, .slice a2 n2 c2, .slice a3 n3 c3, .bool e.object.ending, .string e.object.uid, .int .i64 e.object.rev, .string e.object.doc] (by rfl) (by rfl) _ _ (by exact BR4.out) (by exact Tryz.sizeEv) (by rfl) (by simp [Value.oneCell']) ?_)
   intro WF bF tF
   have OWF : Hid (Only (fun b => b = hm) w WF) := Lib.hid (Only.thenT (Only.of HB4.out) tF hwr)
   go_wp2_with fail
   refine bodyPost_ret (v := .tuple #[.agg #[.int .i64 e.kind, .int .i64 e.rev, .string e.object.okey.kind, .string e.object.okey.space, .string e.object.okey.name, .slice a1 n1 c1, .slice a2 n2 c2, .slice a3 n3 c3, .bool e.object.ending, .string e.object.uid, .int .i64 e.object.rev, .string e.object.doc], .bool false]) ?_ rfl ?_
   ·exact results_two_box Tryz.results81 _ _ gr _ _ _ _ (by rfl) bF Tryz.underlying56 rfl (by exact Tryz.sizeEv)
   ·refine ⟨rfl, ⟨(OWF.out.block _ hgw (Ne.symm HW.out.ne)).trans HW.out.box, ?_, HW.out.row.agree famReq fun b hb => OWF.out.block b (HW.out.low b hb).1 (HW.out.low b hb).2.2, fun b hb => ⟨Nat.lt_of_lt_of_le (HW.out.low b hb).1 OWF.out.size, (HW.out.low b hb).2⟩⟩, OWF.out⟩
    refine ⟨nm, f, Nat.le_succ_of_le HMN.out, (hgx.out w4 HB4.out).2.block (tF.other hm (by omega)), fun k => ?_⟩
    unfold seenH
    split
    next h => rw [h, M2.out, Hhad.out, Hhas.out]
    next => exact M2.out k
 | true =>
  have hhas : sv = has := by rw [← Hhas.out, HNow.out, show decide (e.kind ≠ 3) = true from by rw [← k3]; exact (bne_eq_dec e.kind 3).symm]; rfl
  subst hhas
  refine wp_region_hold 12 (fun w' => Below w3.heap.size w3 w') (by kernel_rfl) (by kernel_rfl) ?_ ?_
  ·exact (Below.refl _ w3).drew
  simp only [List.take_succ_cons, List.take_zero, List.drop_succ_cons, List.drop_zero]
  (first | (refine wpHold_pure (v := ?_) (by rfl) (fun w => ?_) ?_; rotate_left; focus (first | (go_simp; done) | (go_simp; with_reducible rfl))) | (refine wpHold_skip ?_ ?_; focus (go_simp; done)) | (refine wpHold_pure' (v := ?_) ?_ (fun w => ?_) ?_; rotate_left; focus (go_simp; done); focus (first | (go_simp; done) | (go_simp; with_reducible rfl)))); try simp only [Act.put, List.setIfInBounds_toArray, List.set_cons_zero, List.set_cons_succ]
  refine wpHold_read (v := .int .i64 e.kind) (by rfl) (fun w' hI => ?_) ?_
  ·have dd := (hI.cell (p := ⟨ge, 0, none⟩) hge3).trans (cell_block BE3.out 0)
   go_simp
   done
  try simp only [Act.put, List.setIfInBounds_toArray, List.set_cons_zero, List.set_cons_succ]
  refine wpHold_pure' (v := ?_) ?_ (fun w => ?_) ?_
  rotate_left
  focus (go_simp; done)
  focus (first | (go_simp; done) | (go_simp; with_reducible rfl))
  try simp only [Act.put, List.setIfInBounds_toArray, List.set_cons_zero, List.set_cons_succ]
  refine wpHold_pure' (v := ?_) ?_ (fun w => ?_) ?_
  rotate_left
  focus (go_simp; done)
  focus (first | (go_simp; done) | (go_simp; with_reducible rfl))
  try simp only [Act.put, List.setIfInBounds_toArray, List.set_cons_zero, List.set_cons_succ]
  refine wpHold_pure' (v := ?_) ?_ (fun w => ?_) ?_
  rotate_left
  focus (go_simp; done)
  focus (first | (go_simp; done) | (go_simp; with_reducible rfl))
  try simp only [Act.put, List.setIfInBounds_toArray, List.set_cons_zero, List.set_cons_succ]
  refine wpHold_pure' (v := ?_) ?_ (fun w => ?_) ?_
  rotate_left
  focus (go_simp; done)
  focus (first | (go_simp; done) | (go_simp; with_reducible rfl))
  try simp only [Act.put, List.setIfInBounds_toArray, List.set_cons_zero, List.set_cons_succ]
  refine wpHold_pure' (v := ?_) ?_ (fun w => ?_) ?_
  rotate_left
  focus (go_simp; done)
  focus (first | (go_simp; done) | (go_simp; with_reducible rfl))
  try simp only [Act.put, List.setIfInBounds_toArray, List.set_cons_zero, List.set_cons_succ]
  refine wpHold_read' (v := .agg #[.string v.kind, .string v.space, .slice ar nr cr]) (by focus (go_simp; done)) (fun w' hI => ?_) ?_
  ·have hbx := (hgx.out w' (HB3.out.trans (hI.mono HB3.out.size))).1
   have d0 := cell_block hbx 0
   have d1 := cell_block hbx 1
   have d2 := cell_block hbx 2
   go_simp
   done
  try simp only [Act.put, List.setIfInBounds_toArray, List.set_cons_zero, List.set_cons_succ]
  refine wpHold_pure' (v := ?_) ?_ (fun w => ?_) ?_
  rotate_left
  focus (go_simp; done)
  focus (first | (go_simp; done) | (go_simp; with_reducible rfl))
  try simp only [Act.put, List.setIfInBounds_toArray, List.set_cons_zero, List.set_cons_succ]
  refine wpHold_read' (v := .agg #[.string e.object.okey.kind, .string e.object.okey.space, .string e.object.okey.name, .slice a1 n1 c1, .slice a2 n2 c2, .slice a3 n3 c3, .bool e.object.ending, .string e.object.uid, .int .i64 e.object.rev, .string e.object.doc]) (by focus (go_simp; done)) (fun w' hI => ?_) ?_
  ·have d0 := (hI.cell (p := ⟨ge, 2, none⟩) hge3).trans (cell_block BE3.out 2)
   have d1 := (hI.cell (p := ⟨ge, 3, none⟩) hge3).trans (cell_block BE3.out 3)
   have d2 := (hI.cell (p := ⟨ge, 4, none⟩) hge3).trans (cell_block BE3.out 4)
   have d3 := (hI.cell (p := ⟨ge, 5, none⟩) hge3).trans (cell_block BE3.out 5)
   have d4 := (hI.cell (p := ⟨ge, 6, none⟩) hge3).trans (cell_block BE3.out 6)
   have d5 := (hI.cell (p := ⟨ge, 7, none⟩) hge3).trans (cell_block BE3.out 7)
   have d6 := (hI.cell (p := ⟨ge, 8, none⟩) hge3).trans (cell_block BE3.out 8)
   have d7 := (hI.cell (p := ⟨ge, 9, none⟩) hge3).trans (cell_block BE3.out 9)
   have d8 := (hI.cell (p := ⟨ge, 10, none⟩) hge3).trans (cell_block BE3.out 10)
   have d9 := (hI.cell (p := ⟨ge, 11, none⟩) hge3).trans (cell_block BE3.out 11)
   go_simp
   done
  try simp only [Act.put, List.setIfInBounds_toArray, List.set_cons_zero, List.set_cons_succ]
  refine wpHold_call' (v := .bool sv) (f := 79) (args := #[.agg #[.string v.kind, .string v.space, .slice ar nr cr], .agg #[.string e.object.okey.kind, .string e.object.okey.space, .string e.object.okey.name, .slice a1 n1 c1, .slice a2 n2 c2, .slice a3 n3 c3, .bool e.object.ending, .string e.object.uid, .int .i64 e.object.rev, .string e.object.doc]]) (by focus (go_simp; done)) (fun w' => ?_) (fun w' hI => ?_) ?_
  ·go_simp
   done
  ·exact (hShow.out w' (HB3.out.trans (hI.mono HB3.out.size))).mono fun x w'' ⟨h1, h2⟩ => ⟨h1, hI.trans (h2.mono hI.size)⟩
  try simp only [Act.put, List.setIfInBounds_toArray, List.set_cons_zero, List.set_cons_succ]
  refine wpHold_pure' (v := ?_) ?_ (fun w => ?_) ?_
  rotate_left
  focus (go_simp; done)
  focus (first | (go_simp; done) | (go_simp; with_reducible rfl))
  try simp only [Act.put, List.setIfInBounds_toArray, List.set_cons_zero, List.set_cons_succ]
  refine wpHold_nil ?_
  intro w4 hI4
  have BK4 := Lib.hid (below_block hI4 BK3.out)
  have BE4 := Lib.hid (below_block hI4 BE3.out)
  have BR4 := Lib.hid (below_block hI4 BR3.out)
  have HB4 := Lib.hid (HB3.out.trans (hI4.mono HB3.out.size))
  have hge4 := lt_of_some BE4.out
  have hgk4 := lt_of_some BK4.out
  clear hI4 BK3 BE3 BR3 HB3 HNow k3
  clear hShow
  cases sv with
  | true =>
   go_upto_region 5 with fail
   refine wp_region_hold 7 (fun w' => Below w4.heap.size w4 w') (by kernel_rfl) (by kernel_rfl) ?_ ?_
   ·exact (Below.refl _ w4).drew
   simp only [List.take_succ_cons, List.take_zero, List.drop_succ_cons, List.drop_zero]
   (first | (refine wpHold_pure (v := ?_) (by rfl) (fun w => ?_) ?_; rotate_left; focus (first | (go_simp; done) | (go_simp; with_reducible rfl))) | (refine wpHold_skip ?_ ?_; focus (go_simp; done)) | (refine wpHold_pure' (v := ?_) ?_ (fun w => ?_) ?_; rotate_left; focus (go_simp; done); focus (first | (go_simp; done) | (go_simp; with_reducible rfl)))); try simp only [Act.put, List.setIfInBounds_toArray, List.set_cons_zero, List.set_cons_succ]
   (first | (refine wpHold_pure (v := ?_) (by rfl) (fun w => ?_) ?_; rotate_left; focus (first | (go_simp; done) | (go_simp; with_reducible rfl))) | (refine wpHold_skip ?_ ?_; focus (go_simp; done)) | (refine wpHold_pure' (v := ?_) ?_ (fun w => ?_) ?_; rotate_left; focus (go_simp; done); focus (first | (go_simp; done) | (go_simp; with_reducible rfl)))); try simp only [Act.put, List.setIfInBounds_toArray, List.set_cons_zero, List.set_cons_succ]
   (first | (refine wpHold_pure (v := ?_) (by rfl) (fun w => ?_) ?_; rotate_left; focus (first | (go_simp; done) | (go_simp; with_reducible rfl))) | (refine wpHold_skip ?_ ?_; focus (go_simp; done)) | (refine wpHold_pure' (v := ?_) ?_ (fun w => ?_) ?_; rotate_left; focus (go_simp; done); focus (first | (go_simp; done) | (go_simp; with_reducible rfl)))); try simp only [Act.put, List.setIfInBounds_toArray, List.set_cons_zero, List.set_cons_succ]
   refine wpHold_read (v := .map (some hm)) (by rfl) (fun w' hI => ?_) ?_
   ·have hbx := (hgx.out w' (HB4.out.trans (hI.mono HB4.out.size))).1
    have d4 := cell_block hbx 4
    go_simp
    done
   try simp only [Act.put, List.setIfInBounds_toArray, List.set_cons_zero, List.set_cons_succ]
   refine wpHold_read (v := .agg #[.string e.object.okey.kind, .string e.object.okey.space, .string e.object.okey.name]) (by rfl) (fun w' hI => ?_) ?_
   ·have d0 := (hI.cell (p := ⟨gk9, 0, none⟩) hgk4).trans (cell_block BK4.out 0)
    have d1 := (hI.cell (p := ⟨gk9, 1, none⟩) hgk4).trans (cell_block BK4.out 1)
    have d2 := (hI.cell (p := ⟨gk9, 2, none⟩) hgk4).trans (cell_block BK4.out 2)
    go_simp
    done
   try simp only [Act.put, List.setIfInBounds_toArray, List.set_cons_zero, List.set_cons_succ]
   (first | (refine wpHold_pure (v := ?_) (by rfl) (fun w => ?_) ?_; rotate_left; focus (first | (go_simp; done) | (go_simp; with_reducible rfl))) | (refine wpHold_skip ?_ ?_; focus (go_simp; done)) | (refine wpHold_pure' (v := ?_) ?_ (fun w => ?_) ?_; rotate_left; focus (go_simp; done); focus (first | (go_simp; done) | (go_simp; with_reducible rfl)))); try simp only [Act.put, List.setIfInBounds_toArray, List.set_cons_zero, List.set_cons_succ]
   refine wpHold_read (v := .int .i64 e.rev) (by rfl) (fun w' hI => ?_) ?_
   ·have dd := (hI.cell (p := ⟨ge, 1, none⟩) hge4).trans (cell_block BE4.out 1)
    go_simp
    done
   try simp only [Act.put, List.setIfInBounds_toArray, List.set_cons_zero, List.set_cons_succ]
   refine wpHold_nil ?_
   intro w5 hI5
   have BK5 := Lib.hid (below_block hI5 BK4.out)
   have BE5 := Lib.hid (below_block hI5 BE4.out)
   have BR5 := Lib.hid (below_block hI5 BR4.out)
   have HB5 := Lib.hid (HB4.out.trans (hI5.mono HB4.out.size))
   have hge5 := lt_of_some BE5.out
   have hgr5 := lt_of_some BR5.out
   clear hI5 BK4 BE4 BR4 HB4
   obtain ⟨w6, hrun, hm6, ht6⟩ := MapK.store (hgx.out w5 HB5.out).2 Tryz.underlying151 (Nat.lt_of_le_of_lt (Nat.le_trans HMN.out HN.out) (by decide)) e.object.okey hKey.out (.int .i64 e.rev)
   rw [show keyC.val e.object.okey = .agg #[.string e.object.okey.kind, .string e.object.okey.space, .string e.object.okey.name] from rfl] at hrun
   go_upto_region 6 with fail
   have O6 : Only (fun b => b = hm) w5 w6 := Only.turned ht6 rfl
   have BE6 := Lib.hid ((O6.block ge hge5 (by omega)).trans BE5.out)
   have BR6 := Lib.hid ((O6.block gr hgr5 (by omega)).trans BR5.out)
   have OW6 := Lib.hid (Only.after HB5.out O6)
   have M6 := Lib.hid hm6
   clear O6 hrun hm6 ht6 BK5 BE5 BR5 HB5
   cases had with
   | true =>
    have fb := fun i => free_block BE6.out i
    have cb := fun i => cell_block BE6.out i
    obtain ⟨w7, hw7⟩ : ∃ w9, w6.setCell ⟨ge, 0, none⟩ (.int .i64 1) = w9 := ⟨_, rfl⟩
    have t1 := touch_setCell (i := 0) (v := .int .i64 1) BE6.out
    rw [hw7] at t1
    have BE7 : Hid (w7.heap[ge]? = some (.cells #[.int .i64 1, .int .i64 e.rev, .string e.object.okey.kind, .string e.object.okey.space, .string e.object.okey.name, .slice a1 n1 c1, .slice a2 n2 c2, .slice a3 n3 c3, .bool e.object.ending, .string e.object.uid, .int .i64 e.object.rev, .string e.object.doc] 56 (0, 0))) := Lib.hid t1.1
    have BR7 := Lib.hid (t1.2.block BR6.out (Ne.symm her))
    have OW7 := Lib.hid (Only.thenT OW6.out t1.2 hwe)
    have M7 := Lib.hid (M6.out.block (t1.2.other hm (by omega)))
    go_upto_region 8 with fail
    try rw [hw7]
    clear t1 hw7 fb cb BE6 BR6 OW6 M6
    have fb := fun i => free_block BE7.out i
    have cb := fun i => cell_block BE7.out i
    obtain ⟨w8, hw8⟩ : ∃ w9, w7.setCell ⟨ge, 0, none⟩ (.int .i64 2) = w9 := ⟨_, rfl⟩
    have t1 := touch_setCell (i := 0) (v := .int .i64 2) BE7.out
    rw [hw8] at t1
    have BE8 : Hid (w8.heap[ge]? = some (.cells #[.int .i64 2, .int .i64 e.rev, .string e.object.okey.kind, .string e.object.okey.space, .string e.object.okey.name, .slice a1 n1 c1, .slice a2 n2 c2, .slice a3 n3 c3, .bool e.object.ending, .string e.object.uid, .int .i64 e.object.rev, .string e.object.doc] 56 (0, 0))) := Lib.hid t1.1
    have BR8 := Lib.hid (t1.2.block BR7.out (Ne.symm her))
    have OW8 := Lib.hid (Only.thenT OW7.out t1.2 hwe)
    have M8 := Lib.hid (M7.out.block (t1.2.other hm (by omega)))
    go_upto_region 12 with fail
    try rw [hw8]
    clear t1 hw8 fb cb BE7 BR7 OW7 M7
    have hk9 : k9 = 2 := by rw [← Hk9.out]; unfold seenK; rw [Hhas.out, Hhad.out]; rfl
    have hb9 : b9 = true := by rw [← Hb9.out]; unfold seenK; rw [Hhas.out, Hhad.out]; rfl
    clear Hk9 Hb9
    subst hk9 hb9
    have ce := fun i => cell_block BE8.out i
    go_wp2_with (refine wpList_store_box (by rfl) _ _ _ (by rfl) gr #[.int .i64 2, .int .i64 e.rev, .string e.object.okey.kind, .string e.object.okey.space, .string e.object.okey.name, .slice a1 n1 c1, .slice a2 n2 c2, .slice a3 n3 c3, .bool e.object.ending, .string e.object.uid, .int .i64 e.object.rev, .string e.object.doc] (by rfl) (by rfl) _ _ (by exact BR8.out) (by exact Tryz.sizeEv) (by rfl) (by simp [Value.oneCell']) ?_)
    intro WF bF tF
    have OWF : Hid (Only (fun b => b = hm) w WF) := Lib.hid (Only.thenT OW8.out tF hwr)
    go_wp2_with fail
    refine bodyPost_ret (v := .tuple #[.agg #[.int .i64 2, .int .i64 e.rev, .string e.object.okey.kind, .string e.object.okey.space, .string e.object.okey.name, .slice a1 n1 c1, .slice a2 n2 c2, .slice a3 n3 c3, .bool e.object.ending, .string e.object.uid, .int .i64 e.object.rev, .string e.object.doc], .bool true]) ?_ rfl ?_
    ·exact results_two_box Tryz.results81 _ _ gr _ _ _ _ (by rfl) bF Tryz.underlying56 rfl (by exact Tryz.sizeEv)
    ·refine ⟨rfl, ⟨(OWF.out.block _ hgw (Ne.symm HW.out.ne)).trans HW.out.box, ?_, HW.out.row.agree famReq fun b hb => OWF.out.block b (HW.out.low b hb).1 (HW.out.low b hb).2.2, fun b hb => ⟨Nat.lt_of_lt_of_le (HW.out.low b hb).1 OWF.out.size, (HW.out.low b hb).2⟩⟩, OWF.out⟩
     refine ⟨nm + 1, _, Nat.succ_le_succ HMN.out, M8.out.block (tF.other hm (by omega)), fun k => ?_⟩
     unfold updK seenH
     split
     next => exact Hhas.out.symm
     next => exact M2.out k
   | false =>
    have fb := fun i => free_block BE6.out i
    have cb := fun i => cell_block BE6.out i
    obtain ⟨w7, hw7⟩ : ∃ w9, w6.setCell ⟨ge, 0, none⟩ (.int .i64 1) = w9 := ⟨_, rfl⟩
    have t1 := touch_setCell (i := 0) (v := .int .i64 1) BE6.out
    rw [hw7] at t1
    have BE7 : Hid (w7.heap[ge]? = some (.cells #[.int .i64 1, .int .i64 e.rev, .string e.object.okey.kind, .string e.object.okey.space, .string e.object.okey.name, .slice a1 n1 c1, .slice a2 n2 c2, .slice a3 n3 c3, .bool e.object.ending, .string e.object.uid, .int .i64 e.object.rev, .string e.object.doc] 56 (0, 0))) := Lib.hid t1.1
    have BR7 := Lib.hid (t1.2.block BR6.out (Ne.symm her))
    have OW7 := Lib.hid (Only.thenT OW6.out t1.2 hwe)
    have M7 := Lib.hid (M6.out.block (t1.2.other hm (by omega)))
    go_upto_region 12 with fail
    try rw [hw7]
    clear t1 hw7 fb cb BE6 BR6 OW6 M6
    have hk9 : k9 = 1 := by rw [← Hk9.out]; unfold seenK; rw [Hhas.out, Hhad.out]; rfl
    have hb9 : b9 = true := by rw [← Hb9.out]; unfold seenK; rw [Hhas.out, Hhad.out]; rfl
    clear Hk9 Hb9
    subst hk9 hb9
    have ce := fun i => cell_block BE7.out i
    go_wp2_with (refine wpList_store_box (by rfl) _ _ _ (by rfl) gr #[.int .i64 1, .int .i64 e.rev, .string e.object.okey.kind, .string e.object.okey.space, .string e.object.okey.name, .slice a1 n1 c1, .slice a2 n2 c2, .slice a3 n3 c3, .bool e.object.ending, .string e.object.uid, .int .i64 e.object.rev, .string e.object.doc] (by rfl) (by rfl) _ _ (by exact BR7.out) (by exact Tryz.sizeEv) (by rfl) (by simp [Value.oneCell']) ?_)
    intro WF bF tF
    have OWF : Hid (Only (fun b => b = hm) w WF) := Lib.hid (Only.thenT OW7.out tF hwr)
    go_wp2_with fail
    refine bodyPost_ret (v := .tuple #[.agg #[.int .i64 1, .int .i64 e.rev, .string e.object.okey.kind, .string e.object.okey.space, .string e.object.okey.name, .slice a1 n1 c1, .slice a2 n2 c2, .slice a3 n3 c3, .bool e.object.ending, .string e.object.uid, .int .i64 e.object.rev, .string e.object.doc], .bool true]) ?_ rfl ?_
    ·exact results_two_box Tryz.results81 _ _ gr _ _ _ _ (by rfl) bF Tryz.underlying56 rfl (by exact Tryz.sizeEv)
    ·refine ⟨rfl, ⟨(OWF.out.block _ hgw (Ne.symm HW.out.ne)).trans HW.out.box, ?_, HW.out.row.agree famReq fun b hb => OWF.out.block b (HW.out.low b hb).1 (HW.out.low b hb).2.2, fun b hb => ⟨Nat.lt_of_lt_of_le (HW.out.low b hb).1 OWF.out.size, (HW.out.low b hb).2⟩⟩, OWF.out⟩
     refine ⟨nm + 1, _, Nat.succ_le_succ HMN.out, M7.out.block (tF.other hm (by omega)), fun k => ?_⟩
     unfold updK seenH
     split
     next => exact Hhas.out.symm
     next => exact M2.out k
  | false =>
   cases had with
   | true =>
    go_upto_region 10 with fail
    refine wp_region_hold 5 (fun w' => Below w4.heap.size w4 w') (by kernel_rfl) (by kernel_rfl) ?_ ?_
    ·exact (Below.refl _ w4).drew
    simp only [List.take_succ_cons, List.take_zero, List.drop_succ_cons, List.drop_zero]
    (first | (refine wpHold_pure (v := ?_) (by rfl) (fun w => ?_) ?_; rotate_left; focus (first | (go_simp; done) | (go_simp; with_reducible rfl))) | (refine wpHold_skip ?_ ?_; focus (go_simp; done)) | (refine wpHold_pure' (v := ?_) ?_ (fun w => ?_) ?_; rotate_left; focus (go_simp; done); focus (first | (go_simp; done) | (go_simp; with_reducible rfl)))); try simp only [Act.put, List.setIfInBounds_toArray, List.set_cons_zero, List.set_cons_succ]
    (first | (refine wpHold_pure (v := ?_) (by rfl) (fun w => ?_) ?_; rotate_left; focus (first | (go_simp; done) | (go_simp; with_reducible rfl))) | (refine wpHold_skip ?_ ?_; focus (go_simp; done)) | (refine wpHold_pure' (v := ?_) ?_ (fun w => ?_) ?_; rotate_left; focus (go_simp; done); focus (first | (go_simp; done) | (go_simp; with_reducible rfl)))); try simp only [Act.put, List.setIfInBounds_toArray, List.set_cons_zero, List.set_cons_succ]
    (first | (refine wpHold_pure (v := ?_) (by rfl) (fun w => ?_) ?_; rotate_left; focus (first | (go_simp; done) | (go_simp; with_reducible rfl))) | (refine wpHold_skip ?_ ?_; focus (go_simp; done)) | (refine wpHold_pure' (v := ?_) ?_ (fun w => ?_) ?_; rotate_left; focus (go_simp; done); focus (first | (go_simp; done) | (go_simp; with_reducible rfl)))); try simp only [Act.put, List.setIfInBounds_toArray, List.set_cons_zero, List.set_cons_succ]
    refine wpHold_read (v := .map (some hm)) (by rfl) (fun w' hI => ?_) ?_
    ·have hbx := (hgx.out w' (HB4.out.trans (hI.mono HB4.out.size))).1
     have d4 := cell_block hbx 4
     go_simp
     done
    try simp only [Act.put, List.setIfInBounds_toArray, List.set_cons_zero, List.set_cons_succ]
    refine wpHold_read (v := .agg #[.string e.object.okey.kind, .string e.object.okey.space, .string e.object.okey.name]) (by rfl) (fun w' hI => ?_) ?_
    ·have d0 := (hI.cell (p := ⟨gk9, 0, none⟩) hgk4).trans (cell_block BK4.out 0)
     have d1 := (hI.cell (p := ⟨gk9, 1, none⟩) hgk4).trans (cell_block BK4.out 1)
     have d2 := (hI.cell (p := ⟨gk9, 2, none⟩) hgk4).trans (cell_block BK4.out 2)
     go_simp
     done
    try simp only [Act.put, List.setIfInBounds_toArray, List.set_cons_zero, List.set_cons_succ]
    refine wpHold_nil ?_
    intro w5 hI5
    have BK5 := Lib.hid (below_block hI5 BK4.out)
    have BE5 := Lib.hid (below_block hI5 BE4.out)
    have BR5 := Lib.hid (below_block hI5 BR4.out)
    have HB5 := Lib.hid (HB4.out.trans (hI5.mono HB4.out.size))
    have hge5 := lt_of_some BE5.out
    have hgr5 := lt_of_some BR5.out
    clear hI5 BK4 BE4 BR4 HB4
    obtain ⟨w6, hrun, hm6, ht6⟩ := MapK.drop (hgx.out w5 HB5.out).2 Tryz.underlying151 e.object.okey hKey.out 0
    rw [show keyC.val e.object.okey = .agg #[.string e.object.okey.kind, .string e.object.okey.space, .string e.object.okey.name] from rfl] at hrun
    go_upto_region 11 with fail
    have O6 : Only (fun b => b = hm) w5 w6 := Only.turned ht6 rfl
    have BE6 := Lib.hid ((O6.block ge hge5 (by omega)).trans BE5.out)
    have BR6 := Lib.hid ((O6.block gr hgr5 (by omega)).trans BR5.out)
    have OW6 := Lib.hid (Only.after HB5.out O6)
    have M6 := Lib.hid hm6
    clear O6 hrun hm6 ht6 BK5 BE5 BR5 HB5
    have fb := fun i => free_block BE6.out i
    have cb := fun i => cell_block BE6.out i
    obtain ⟨w7, hw7⟩ : ∃ w9, w6.setCell ⟨ge, 0, none⟩ (.int .i64 3) = w9 := ⟨_, rfl⟩
    have t1 := touch_setCell (i := 0) (v := .int .i64 3) BE6.out
    rw [hw7] at t1
    have BE7 : Hid (w7.heap[ge]? = some (.cells #[.int .i64 3, .int .i64 e.rev, .string e.object.okey.kind, .string e.object.okey.space, .string e.object.okey.name, .slice a1 n1 c1, .slice a2 n2 c2, .slice a3 n3 c3, .bool e.object.ending, .string e.object.uid, .int .i64 e.object.rev, .string e.object.doc] 56 (0, 0))) := Lib.hid t1.1
    have BR7 := Lib.hid (t1.2.block BR6.out (Ne.symm her))
    have OW7 := Lib.hid (Only.thenT OW6.out t1.2 hwe)
    have M7 := Lib.hid (M6.out.block (t1.2.other hm (by omega)))
    go_upto_region 12 with fail
    try rw [hw7]
    clear t1 hw7 fb cb BE6 BR6 OW6 M6
    have hk9 : k9 = 3 := by rw [← Hk9.out]; unfold seenK; rw [Hhas.out, Hhad.out]; rfl
    have hb9 : b9 = true := by rw [← Hb9.out]; unfold seenK; rw [Hhas.out, Hhad.out]; rfl
    clear Hk9 Hb9
    subst hk9 hb9
    have ce := fun i => cell_block BE7.out i
    go_wp2_with (refine wpList_store_box (by rfl) _ _ _ (by rfl) gr #[.int .i64 3, .int .i64 e.rev, .string e.object.okey.kind, .string e.object.okey.space, .string e.object.okey.name, .slice a1 n1 c1, .slice a2 n2 c2, .slice a3 n3 c3, .bool e.object.ending, .string e.object.uid, .int .i64 e.object.rev, .string e.object.doc] (by rfl) (by rfl) _ _ (by exact BR7.out) (by exact Tryz.sizeEv) (by rfl) (by simp [Value.oneCell']) ?_)
    intro WF bF tF
    have OWF : Hid (Only (fun b => b = hm) w WF) := Lib.hid (Only.thenT OW7.out tF hwr)
    go_wp2_with fail
    refine bodyPost_ret (v := .tuple #[.agg #[.int .i64 3, .int .i64 e.rev, .string e.object.okey.kind, .string e.object.okey.space, .string e.object.okey.name, .slice a1 n1 c1, .slice a2 n2 c2, .slice a3 n3 c3, .bool e.object.ending, .string e.object.uid, .int .i64 e.object.rev, .string e.object.doc], .bool true]) ?_ rfl ?_
    ·exact results_two_box Tryz.results81 _ _ gr _ _ _ _ (by rfl) bF Tryz.underlying56 rfl (by exact Tryz.sizeEv)
    ·refine ⟨rfl, ⟨(OWF.out.block _ hgw (Ne.symm HW.out.ne)).trans HW.out.box, ?_, HW.out.row.agree famReq fun b hb => OWF.out.block b (HW.out.low b hb).1 (HW.out.low b hb).2.2, fun b hb => ⟨Nat.lt_of_lt_of_le (HW.out.low b hb).1 OWF.out.size, (HW.out.low b hb).2⟩⟩, OWF.out⟩
     refine ⟨nm, _, Nat.le_succ_of_le HMN.out, M7.out.block (tF.other hm (by omega)), fun k => ?_⟩
     unfold delK seenH
     split
     next => exact Hhas.out.symm
     next => exact M2.out k
   | false =>
    have hk9 : k9 = e.kind := by rw [← Hk9.out]; unfold seenK; rw [Hhas.out, Hhad.out]; rfl
    have hb9 : b9 = false := by rw [← Hb9.out]; unfold seenK; rw [Hhas.out, Hhad.out]; rfl
    clear Hk9 Hb9
    subst hk9 hb9
    have ce := fun i => cell_block BE4.out i
    go_wp2_with (refine wpList_store_box (by rfl) _ _ _ (by rfl) gr #[.int .i64 e.kind, .int .i64 e.rev, .string e.object.okey.kind, .string e.object.okey.space, .string e.object.okey.name, .slice a1 n1 c1, .slice a2 n2 c2, .slice a3 n3 c3, .bool e.object.ending, .string e.object.uid, .int .i64 e.object.rev, .string e.object.doc] (by rfl) (by rfl) _ _ (by exact BR4.out) (by exact Tryz.sizeEv) (by rfl) (by simp [Value.oneCell']) ?_)
    intro WF bF tF
    have OWF : Hid (Only (fun b => b = hm) w WF) := Lib.hid (Only.thenT (Only.of HB4.out) tF hwr)
    go_wp2_with fail
    refine bodyPost_ret (v := .tuple #[.agg #[.int .i64 e.kind, .int .i64 e.rev, .string e.object.okey.kind, .string e.object.okey.space, .string e.object.okey.name, .slice a1 n1 c1, .slice a2 n2 c2, .slice a3 n3 c3, .bool e.object.ending, .string e.object.uid, .int .i64 e.object.rev, .string e.object.doc], .bool false]) ?_ rfl ?_
    ·exact results_two_box Tryz.results81 _ _ gr _ _ _ _ (by rfl) bF Tryz.underlying56 rfl (by exact Tryz.sizeEv)
    ·refine ⟨rfl, ⟨(OWF.out.block _ hgw (Ne.symm HW.out.ne)).trans HW.out.box, ?_, HW.out.row.agree famReq fun b hb => OWF.out.block b (HW.out.low b hb).1 (HW.out.low b hb).2.2, fun b hb => ⟨Nat.lt_of_lt_of_le (HW.out.low b hb).1 OWF.out.size, (HW.out.low b hb).2⟩⟩, OWF.out⟩
     refine ⟨nm, f, Nat.le_succ_of_le HMN.out, (hgx.out w4 HB4.out).2.block (tF.other hm (by omega)), fun k => ?_⟩
     unfold seenH
     split
     next h => rw [h, M2.out, Hhad.out, Hhas.out]
     next => exact M2.out k
end Sto
end Go.Proofs.YtnnceaapodgfbaaGreatDoor
namespace Go.Proofs.YtnnceaapodgfbaaGreatDoor
namespace Sto
open Go.RowKit
def intC : KeyCode Tryz.prog 3 Int := ⟨Value.int .i64, Lit.int .i64, fun x => (Lit.int .i64 x).wf = true, Maps.int_keyed Tryz.underlying3, fun _ h => Maps.keyOf_int_mk Tryz.underlying3 h,
 fun h => by obtain ⟨x, h1, h2, h3⟩ := Maps.keyOf_int_inv Tryz.underlying3 h; exact ⟨x, h3, h1, h2⟩, fun h => by injection h⟩
theorem Tryz.zeroWatchP (w : World) : (zeroValue 150).run Tryz.prog w = .ok (.pointer none) w := by kernel_rfl
def ptrO (o : Option Nat) : Value := .pointer (o.map fun g => ⟨g, 0, none⟩)
structure HubAt (w : World) (gh gs om : Nat) (M : Int → Option Nat) (made : Int) (n : Nat) : Prop where
 box : w.heap[gh]? = some (.cells #[.pointer (some ⟨gs, 0, none⟩), .map (some om), .int .i64 made] 148 (0, 0))
 map : ∃ m f, m ≤ n ∧ MapK intC w om m f ∧ ∀ k, f k = (M k).map fun g => .pointer (some ⟨g, 0, none⟩)
section
variable {w w' : World} {gh gs om n : Nat} {M : Int → Option Nat} {made : Int}
theorem HubAt.ne (h : HubAt w gh gs om M made n) : om ≠ gh := let ⟨_, _, _, h1, _⟩ := h.map; MapK.ne h1 h.box
theorem HubAt.lts (h : HubAt w gh gs om M made n) : gh < w.heap.size ∧ om < w.heap.size := ⟨lt_of_some h.box, let ⟨_, _, _, h1, _⟩ := h.map; MapK.lt h1⟩
theorem HubAt.agreeX (h : HubAt w gh gs om M made n) (ha : ∀ b, b = gh ∨ b = om → w'.heap[b]? = w.heap[b]?) : HubAt w' gh gs om M made n :=
 ⟨(ha gh (.inl rfl)).trans h.box, let ⟨m, f, h0, h1, h2⟩ := h.map; ⟨m, f, h0, h1.block (ha om (.inr rfl)), h2⟩⟩
theorem HubAt.belowX (h : HubAt w gh gs om M made n) (hb : Below w.heap.size w w') : HubAt w' gh gs om M made n := h.agreeX fun b h9 => by
 rcases h9 with rfl | rfl
 ·exact hb.block _ h.lts.1
 ·exact hb.block _ h.lts.2
theorem HubAt.look (h : HubAt w gh gs om M made n) (id : Int) (hid : (Lit.int .i64 id).wf = true) :
  (Instr.lookup 146 (.map (some om)) (.int .i64 id) false).run Tryz.prog w = .ok (ptrO (M id)) w := by
 obtain ⟨m, f, h0, h1, h2⟩ := h.map
 have h9 := (MapK.look h1 Tryz.underlying146 (Tryz.zeroWatchP w) id hid).2
 rw [h2 id] at h9
 cases hM : M id with
 | none => rw [hM] at h9; exact h9
 | some g => rw [hM] at h9; exact h9
end
set_option maxRecDepth 100000 in
theorem hub_any (w : World) (gs : Nat) : Calls Tryz.prog 33 #[.pointer (some ⟨gs, 0, none⟩)] w fun e w' => ∃ gh om, e = .returned (.pointer (some ⟨gh, 0, none⟩)) ∧ HubAt w' gh gs om (fun _ => none) 0 0 ∧ w.heap.size ≤ gh ∧ w.heap.size ≤ om ∧ Below w.heap.size w w' := by
 have hmm := @run_makeMap Tryz.prog
 go_enter Tryz.func33, Tryz.ntmps33
 go_wp2_with fail
 go_ret
 have h1 := mapK_made intC w
 have hb1 : Below w.heap.size w (w.alloc (.map #[] 0)) := (Below.refl _ _).alloc (Nat.le_refl _) _
 have hs1 : (w.alloc (.map #[] 0)).heap.size = w.heap.size + 1 := World.size_alloc _ _
 have h2 := heap_alloc_new (w.alloc (.map #[] 0)) (.cells #[.pointer (some ⟨gs, 0, none⟩), .map (some w.heap.size), .int .i64 0] 148)
 rw [hs1] at h2
 refine ⟨_, w.heap.size, rfl, ⟨?_, 0, _, Nat.le_refl _, h1.alloc _, fun _ => rfl⟩, Nat.le_succ _, Nat.le_refl _, hb1.alloc (by rw [hs1]; omega) _⟩
 exact h2
set_option maxRecDepth 100000 in
theorem hubAt_some {w : World} {gh gs om n : Nat} {M : Int → Option Nat} {made : Int} (h : HubAt w gh gs om M made n) (id : Int) (hid : (Lit.int .i64 id).wf = true) {gw : Nat} (hM : M id = some gw) {hm k : Nat} {vr : Value} {R : Dom} {v : GView} {at9 : Int} {H : GKey → Bool} (hw : WatchAt w gw hm vr R v at9 H k) :
  Calls Tryz.prog 35 #[.pointer (some ⟨gh, 0, none⟩), .int .i64 id] w fun e w' => e = .returned (.tuple #[.int .i64 at9, .int .i64 0]) ∧ w = w' := by
 have hl := h.look id hid
 rw [hM] at hl
 have hl2 : (Instr.lookup 146 (.map (some om)) (.int .i64 id) false).run Tryz.prog w = .ok (.pointer (some ⟨gw, 0, none⟩)) w := hl
 have cc := fun i => cell_block h.box i
 have cw := fun i => cell_block hw.box i
 clear h hl hM hw
 go_enter Tryz.func35, Tryz.ntmps35
 go_wp2_with fail
 go_ret2
 exact ⟨rfl, rfl⟩
set_option maxRecDepth 100000 in
theorem hubAt_none {w : World} {gh gs om n : Nat} {M : Int → Option Nat} {made : Int} (h : HubAt w gh gs om M made n) (id : Int) (hid : (Lit.int .i64 id).wf = true) (hM : M id = none) :
  Calls Tryz.prog 35 #[.pointer (some ⟨gh, 0, none⟩), .int .i64 id] w fun e w' => e = .returned (.tuple #[.int .i64 0, .int .i64 7]) ∧ w = w' := by
 have hl := h.look id hid
 rw [hM] at hl
 have hl2 : (Instr.lookup 146 (.map (some om)) (.int .i64 id) false).run Tryz.prog w = .ok (.pointer none) w := hl
 have cc := fun i => cell_block h.box i
 clear h hl hM
 go_enter Tryz.func35, Tryz.ntmps35
 go_wp2_with fail
 go_ret2
 exact ⟨rfl, rfl⟩
end Sto
end Go.Proofs.YtnnceaapodgfbaaGreatDoor
namespace Go.Proofs.YtnnceaapodgfbaaGreatDoor
namespace Sto
open Go.RowKit
def takeG (v : GView) (most : Nat) : List GEvent → List GEvent → (GKey → Bool) → Int → List GEvent × (GKey → Bool) × Int
 | [], out, H, at9 => (out, H, at9)
 | x :: l, out, H, at9 => if out.length = most then (out, H, at9) else takeG v most l (out ++ seenE v H x) (seenH v H x) x.rev
def takeN (v : GView) (most : Nat) : List GEvent → List GEvent → (GKey → Bool) → Nat
 | [], _, _ => 0
 | x :: l, out, H => if out.length = most then 0 else takeN v most l (out ++ seenE v H x) (seenH v H x) + 1
theorem since_mem {S : St} {r : Int} {x : GEvent} (h : x ∈ sinceL S r) : x ∈ S.log := by
 unfold sinceL at h
 split at h
 ·exact List.mem_of_mem_drop h
 ·cases h
theorem since_len (S : St) (r : Int) : (sinceL S r).length ≤ S.log.length := by
 unfold sinceL
 split
 ·rw [List.length_drop]; omega
 ·exact Nat.zero_le _
theorem drop_one9 {α : Type} {l : List α} {i : Nat} {x : α} (h : l[i]? = some x) : l.drop i = x :: l.drop (i + 1) := by
 obtain ⟨h1, h2⟩ := List.getElem?_eq_some_iff.1 h
 rw [List.drop_eq_getElem_cons h1, h2]
theorem WatchAt.moved {w w' : World} {gw hm n : Nat} {vr : Value} {R : Dom} {v : GView} {at9 a2 : Int} {H : GKey → Bool} (h : WatchAt w gw hm vr R v at9 H n) (t : Touch gw w w') (hb : w'.heap[gw]? = some (.cells #[.string v.kind, .string v.space, vr, .int .i64 a2, .map (some hm)] 153 (0, 0))) : WatchAt w' gw hm vr R v a2 H n :=
 ⟨hb, let ⟨m, f, h0, h1, h2⟩ := h.map; ⟨m, f, h0, h1.block (t.other hm h.ne), h2⟩, h.row.agree famReq fun b hb => t.other b (h.low b hb).2.1, fun b hb => ⟨by rw [t.size]; exact (h.low b hb).1, (h.low b hb).2⟩⟩
theorem WatchAt.more {w : World} {gw hm n n' : Nat} {vr : Value} {R : Dom} {v : GView} {at9 : Int} {H : GKey → Bool} (h : WatchAt w gw hm vr R v at9 H n) (hn : n ≤ n') : WatchAt w gw hm vr R v at9 H n' :=
 ⟨h.box, let ⟨m, f, h0, h1, h2⟩ := h.map; ⟨m, f, Nat.le_trans h0 hn, h1, h2⟩, h.row, h.low⟩
def Took (w : World) (gh gs om gw hm n nw : Nat) (vr : Value) (R : Dom) (v : GView) (made : Int) (M : Int → Option Nat) (id se : Int) (G : List GEvent × (GKey → Bool) × Int) (e : Ending) (w' : World) : Prop :=
 (se ≠ 0 ∧ e = .returned (.tuple #[.slice none 0 0, .int .i64 se]) ∧ HubAt w' gh gs om (fun k => if k = id then none else M k) made n ∧ Only (fun b => b = om) w w') ∨
 (se = 0 ∧ ∃ E u, e = .returned (.tuple #[u, .int .i64 0]) ∧ OwnX EvX 12 E w' 56 u G.1 ∧ (∀ b, E b → w.heap.size ≤ b ∧ b < w'.heap.size) ∧ WatchAt w' gw hm vr R v G.2.2 G.2.1 nw ∧ Only (fun b => b = hm ∨ b = gw) w w')
set_option maxRecDepth 100000 in
set_option maxHeartbeats 12800000 in
theorem take_any {D : Dom} {w0 w : World} {gh gs om gw hm n nw : Nat} {vr : Value} {R : Dom} {v : GView} {at9 made id : Int} {M : Int → Option Nat} {H : GKey → Bool} {S : St} (hst : StoreAt D w gs S) (hS : OkSt S) (hh : HubAt w gh gs om M made n) (hid : (Lit.int .i64 id).wf = true) (hM : M id = some gw) (hw : WatchAt w gw hm vr R v at9 H nw) (hv : OkView v)
  (hnw : nw + S.log.length ≤ 1073741824) (most : Nat) (h1 : 1 ≤ most) (h50 : most ≤ 50) (hmx : ∃ m, MaxOK m w0) (hb0 : Below w0.heap.size w0 w) (hg0 : w0.heap.size ≤ gw ∧ w0.heap.size ≤ hm) :
  Calls Tryz.prog 37 #[.pointer (some ⟨gh, 0, none⟩), .int .i64 id, .int .i64 (most : Int)] w (Took w gh gs om gw hm n (nw + takeN v most (sinceL S at9) [] H) vr R v made M id (sinceE S at9) (takeG v most (sinceL S at9) [] H at9)) := by
 have HW := Lib.hid hw
 have HH := Lib.hid hh
 have HA := Lib.hid hst
 have HS := Lib.hid hS
 have HV := Lib.hid hv
 have HMx := Lib.hid hmx
 have HB0 := Lib.hid hb0
 have hgh := hh.lts.1
 have hom := hh.lts.2
 have hgw := hw.lts.1
 have hhm := hw.lts.2
 obtain ⟨hgw0, hhm0⟩ := hg0
 have hl := hh.look id hid
 rw [hM] at hl
 have hl2 : (Instr.lookup 146 (.map (some om)) (.int .i64 id) false).run Tryz.prog w = .ok (.pointer (some ⟨gw, 0, none⟩)) w := hl
 have cc := fun i => cell_block hh.box i
 have cw := fun i => cell_block hw.box i
 have hln := since_len S at9
 have HMem : Hid (∀ x ∈ sinceL S at9, OkObj x.object) := Lib.hid fun x hx => hS.obj x (since_mem hx)
 obtain ⟨G, HG⟩ : ∃ G, Hid (takeG v most (sinceL S at9) [] H at9 = G) := ⟨_, Lib.hid rfl⟩
 obtain ⟨N, HN⟩ : ∃ N, Hid (takeN v most (sinceL S at9) [] H = N) := ⟨_, Lib.hid rfl⟩
 rw [HN.out]
 obtain ⟨se, Hse⟩ : ∃ e, Hid (sinceE S at9 = e) := ⟨_, Lib.hid rfl⟩
 obtain ⟨L, HL⟩ : ∃ L, Hid (sinceL S at9 = L) := ⟨_, Lib.hid rfl⟩
 rw [HG.out, Hse.out]
 rw [HL.out] at HG HN HMem hln
 obtain ⟨m, Hm⟩ : ∃ m, Hid (L.length = m) := ⟨_, Lib.hid rfl⟩
 rw [Hm.out] at hln
 obtain ⟨nS, HnS⟩ : ∃ n, Hid (S.log.length = n) := ⟨_, Lib.hid rfl⟩
 rw [HnS.out] at hln hnw
 have q1 : decide ((most : Int) < 1) = false := decide_eq_false (by omega)
 have q2 : decide ((50 : Int) < (most : Int)) = false := decide_eq_false (by omega)
 have HMid := Lib.hid hM
 have Hid9 := Lib.hid hid
 clear hst hS hh hw hv hmx hb0 hl hM hid
 go_enter Tryz.func37, Tryz.ntmps37
 go_upto_region 6 with fail
 clear cc cw hl2 q1 q2
 refine wp_region_relB 13 (fun ii U w' => match ii with
  | 0 => U 0 = .pointer (some ⟨gh, 0, none⟩)
  | 1 => U 1 = .pointer (some ⟨gh, 0, none⟩)
  | 2 => U 2 = .pointer (some ⟨gh, 0, none⟩)
  | 3 => U 3 = .pointer (some ⟨gs, 0, none⟩)
  | 4 => U 4 = .pointer (some ⟨gw, 0, none⟩)
  | 5 => U 5 = .pointer (some ⟨gw, 0, none⟩)
  | 6 => U 6 = .pointer (some ⟨gw, 3, none⟩)
  | 7 => U 7 = .int .i64 at9
  | 8 => ∃ E v2, U 8 = .tuple #[v2, .int .i64 se] ∧ OwnX EvX 12 E w' 56 v2 L ∧ ∀ b, E b → w.heap.size ≤ b ∧ b < w'.heap.size
  | 9 => ∃ E v2, U 9 = .tuple #[v2, .int .i64 se] ∧ OwnX EvX 12 E w' 56 v2 L ∧ ∀ b, E b → w.heap.size ≤ b ∧ b < w'.heap.size
  | 10 => ∃ E, OwnX EvX 12 E w' 56 (U 10) L ∧ ∀ b, E b → w.heap.size ≤ b ∧ b < w'.heap.size
  | 11 => U 11 = .int .i64 se
  | 12 => ∃ E, OwnX EvX 12 E w' 56 (U 12) L ∧ ∀ b, E b → w.heap.size ≤ b ∧ b < w'.heap.size
  | _ => True)
  (fun | 1 => [0] | 2 => [1] | 3 => [2] | 5 => [4] | 6 => [5] | 7 => [6] | 8 => [3, 7] | 9 => [8] | 10 => [9] | 11 => [9] | 12 => [10] | _ => []) (by kernel_rfl) (by kernel_rfl) ?_ ⟨?_, ?_, ?_, ?_, ?_, ?_, ?_, ?_, ?_, ?_, ?_, ?_, ?_, trivial⟩ ?_
 ·intro j u w1 w2 hb h
  match j, h with
  | 0, h => exact h
  | 1, h => exact h
  | 2, h => exact h
  | 3, h => exact h
  | 4, h => exact h
  | 5, h => exact h
  | 6, h => exact h
  | 7, h => exact h
  | 8, h => obtain ⟨E, v2, e1, e2, e3⟩ := h; exact ⟨E, v2, e1, e2.agree famEv fun b hb9 => hb.block b (e3 b hb9).2, fun b hb9 => ⟨(e3 b hb9).1, Nat.lt_of_lt_of_le (e3 b hb9).2 hb.size⟩⟩
  | 9, h => obtain ⟨E, v2, e1, e2, e3⟩ := h; exact ⟨E, v2, e1, e2.agree famEv fun b hb9 => hb.block b (e3 b hb9).2, fun b hb9 => ⟨(e3 b hb9).1, Nat.lt_of_lt_of_le (e3 b hb9).2 hb.size⟩⟩
  | 10, h => obtain ⟨E, e2, e3⟩ := h; exact ⟨E, e2.agree famEv fun b hb9 => hb.block b (e3 b hb9).2, fun b hb9 => ⟨(e3 b hb9).1, Nat.lt_of_lt_of_le (e3 b hb9).2 hb.size⟩⟩
  | 11, h => exact h
  | 12, h => obtain ⟨E, e2, e3⟩ := h; exact ⟨E, e2.agree famEv fun b hb9 => hb.block b (e3 b hb9).2, fun b hb9 => ⟨(e3 b hb9).1, Nat.lt_of_lt_of_le (e3 b hb9).2 hb.size⟩⟩
  | _ + 13, h => trivial
 ·intro x w' hb hd
  have hb6 : Below w.heap.size w w' := (Below.refl w.heap.size w).drew.trans hb
  refine owes_here (.pointer (some ⟨gh, 0, none⟩)) (by rfl) ?_ rfl
  simp only [putAll, List.take_succ_cons, List.take_zero]
  go_simp
 ·intro x w' hb hd
  have hb6 : Below w.heap.size w w' := (Below.refl w.heap.size w).drew.trans hb
  have h0 : x 0 = .pointer (some ⟨gh, 0, none⟩) := hd 0 (by simp)
  refine owes_here (.pointer (some ⟨gh, 0, none⟩)) (by rfl) ?_ rfl
  simp only [putAll, List.take_succ_cons, List.take_zero]
  go_simp
 ·intro x w' hb hd
  have hb6 : Below w.heap.size w w' := (Below.refl w.heap.size w).drew.trans hb
  have h1 : x 1 = .pointer (some ⟨gh, 0, none⟩) := hd 1 (by simp)
  refine owes_here (.pointer (some ⟨gh, 0, none⟩)) (by rfl) ?_ rfl
  simp only [putAll, List.take_succ_cons, List.take_zero]
  go_simp
 ·intro x w' hb hd
  have hb6 : Below w.heap.size w w' := (Below.refl w.heap.size w).drew.trans hb
  have h2 : x 2 = .pointer (some ⟨gh, 0, none⟩) := hd 2 (by simp)
  have d0 := (hb6.cell (p := ⟨gh, 0, none⟩) hgh).trans (cell_block HH.out.box 0)
  refine owes_here (.pointer (some ⟨gs, 0, none⟩)) (by rfl) ?_ rfl
  simp only [putAll, List.take_succ_cons, List.take_zero]
  go_simp
 ·intro x w' hb hd
  have hb6 : Below w.heap.size w w' := (Below.refl w.heap.size w).drew.trans hb
  refine owes_here (.pointer (some ⟨gw, 0, none⟩)) (by rfl) ?_ rfl
  simp only [putAll, List.take_succ_cons, List.take_zero]
  go_simp
 ·intro x w' hb hd
  have hb6 : Below w.heap.size w w' := (Below.refl w.heap.size w).drew.trans hb
  have h4 : x 4 = .pointer (some ⟨gw, 0, none⟩) := hd 4 (by simp)
  refine owes_here (.pointer (some ⟨gw, 0, none⟩)) (by rfl) ?_ rfl
  simp only [putAll, List.take_succ_cons, List.take_zero]
  go_simp
 ·intro x w' hb hd
  have hb6 : Below w.heap.size w w' := (Below.refl w.heap.size w).drew.trans hb
  have h5 : x 5 = .pointer (some ⟨gw, 0, none⟩) := hd 5 (by simp)
  refine owes_here (.pointer (some ⟨gw, 3, none⟩)) (by rfl) ?_ rfl
  simp only [putAll, List.take_succ_cons, List.take_zero]
  go_simp
 ·intro x w' hb hd
  have hb6 : Below w.heap.size w w' := (Below.refl w.heap.size w).drew.trans hb
  have h6 : x 6 = .pointer (some ⟨gw, 3, none⟩) := hd 6 (by simp)
  have d0 := (hb6.cell (p := ⟨gw, 3, none⟩) hgw).trans (cell_block HW.out.box 3)
  refine owes_here (.int .i64 at9) (by rfl) ?_ rfl
  simp only [putAll, List.take_succ_cons, List.take_zero]
  go_simp
 ·intro x w' hb hd
  have hb6 : Below w.heap.size w w' := (Below.refl w.heap.size w).drew.trans hb
  have h3 : x 3 = .pointer (some ⟨gs, 0, none⟩) := hd 3 (by simp)
  have h7 : x 7 = .int .i64 at9 := hd 7 (by simp)
  refine owes_call 25 #[.pointer (some ⟨gs, 0, none⟩), .int .i64 at9] (by rfl) ?_ ((since_any (StoreAt.belowW HA.out hb6) HS.out at9).mono ?_)
  ·simp only [putAll, List.take_succ_cons, List.take_zero]
   go_simp
  ·rintro _ w2 ⟨hb3, E, v2, rfl, e2, e3⟩
   rw [Hse.out, HL.out] at *
   exact ⟨_, rfl, ⟨E, v2, rfl, e2, fun b hb9 => ⟨Nat.le_trans hb6.size (e3 b hb9).1, (e3 b hb9).2⟩⟩, hb3⟩
 ·intro x w' hb hd
  have hb6 : Below w.heap.size w w' := (Below.refl w.heap.size w).drew.trans hb
  have h8 : ∃ E v2, x 8 = .tuple #[v2, .int .i64 se] ∧ OwnX EvX 12 E w' 56 v2 L ∧ ∀ b, E b → w.heap.size ≤ b ∧ b < w'.heap.size := hd 8 (by simp)
  obtain ⟨E, v2, e1, e2, e3⟩ := h8
  refine owes_here (.tuple #[v2, .int .i64 se]) (by rfl) ?_ ⟨E, v2, rfl, e2, e3⟩
  simp only [putAll, List.take_succ_cons, List.take_zero]
  go_simp
 ·intro x w' hb hd
  have hb6 : Below w.heap.size w w' := (Below.refl w.heap.size w).drew.trans hb
  have h9 : ∃ E v2, x 9 = .tuple #[v2, .int .i64 se] ∧ OwnX EvX 12 E w' 56 v2 L ∧ ∀ b, E b → w.heap.size ≤ b ∧ b < w'.heap.size := hd 9 (by simp)
  obtain ⟨E, v2, e1, e2, e3⟩ := h9
  refine owes_here v2 (by rfl) ?_ ⟨E, e2, e3⟩
  simp only [putAll, List.take_succ_cons, List.take_zero]
  go_simp
 ·intro x w' hb hd
  have hb6 : Below w.heap.size w w' := (Below.refl w.heap.size w).drew.trans hb
  have h9 : ∃ E v2, x 9 = .tuple #[v2, .int .i64 se] ∧ OwnX EvX 12 E w' 56 v2 L ∧ ∀ b, E b → w.heap.size ≤ b ∧ b < w'.heap.size := hd 9 (by simp)
  obtain ⟨E, v2, e1, e2, e3⟩ := h9
  refine owes_here (.int .i64 se) (by rfl) ?_ rfl
  simp only [putAll, List.take_succ_cons, List.take_zero]
  go_simp
 ·intro x w' hb hd
  have hb6 : Below w.heap.size w w' := (Below.refl w.heap.size w).drew.trans hb
  have h10 : ∃ E, OwnX EvX 12 E w' 56 (x 10) L ∧ ∀ b, E b → w.heap.size ≤ b ∧ b < w'.heap.size := hd 10 (by simp)
  obtain ⟨E, e2, e3⟩ := h10
  obtain ⟨va, vc, hv2, -, -⟩ := e2.own.row.len
  rw [Hm.out] at hv2
  rw [hv2] at e2
  refine owes_here (.slice va m vc) (by rfl) ?_ ⟨E, e2, e3⟩
  simp only [putAll, List.take_succ_cons, List.take_zero]
  go_simp
 ·intro x w' hb hR
  have hb6 : Below w.heap.size w w' := (Below.refl w.heap.size w).drew.trans hb
  have h10 : ∃ E, OwnX EvX 12 E w' 56 (x 12) L ∧ ∀ b, E b → w.heap.size ≤ b ∧ b < w'.heap.size := hR 12 (by omega)
  have h11 : x 11 = .int .i64 se := hR 11 (by omega)
  obtain ⟨E, e2, e3⟩ := h10
  obtain ⟨w1, hw1⟩ : ∃ w1, w' = w1 := ⟨_, rfl⟩
  rw [hw1] at hb6 e2 e3 ⊢
  clear hw1
  obtain ⟨va, vc, hv2, -, -⟩ := e2.own.row.len
  rw [Hm.out] at hv2
  rw [hv2] at e2
  have HA1 : Hid (Below w.heap.size w w1) := Lib.hid hb6
  have HT := Lib.hid e2
  have HE : Hid (∀ b, E b → w.heap.size ≤ b ∧ b < w1.heap.size) := Lib.hid e3
  have hs1 := hb6.size
  clear hb hR hb6 e2 e3
  simp only [putAll, List.take_succ_cons, List.take_zero, List.drop_succ_cons, List.drop_zero]
  rw [h11, hv2]
  clear h11 hv2
  try simp only [Act.put, List.setIfInBounds_toArray, List.set_cons_zero, List.set_cons_succ]
  by_cases hse : se = 0
  ·subst hse
   go_upto_region 11 with fail
   go_wp2_with fail
   go_loopg [54, 11] m (fun k u54 u11 wr => ∃ (i : Nat) (ati : Int) (Hi : GKey → Bool) (out : List GEvent), i + k = m ∧ u54 = .int .i64 (i : Int) ∧ Hid (OutX EvX 12 w.heap.size wr 56 u11 out) ∧ Hid (∀ b, u11.ownBlock = some b → w1.heap.size ≤ b) ∧ Hid (WatchAt wr gw hm vr R v ati Hi (nw + i)) ∧ Hid (takeG v most (L.drop i) out Hi ati = G) ∧ Hid (takeN v most (L.drop i) out Hi + i = N) ∧ Hid (Only (fun b => b = hm ∨ b = gw) w1 wr) ∧ out.length ≤ most)
   case atStart => exact ⟨0, at9, H, [], by omega, rfl, Lib.hid OutX.nil, Lib.hid (fun b hb => by cases hb), Lib.hid (HW.out.belowX HA1.out), HG, Lib.hid HN.out, Lib.hid (Only.refl _ _), Nat.zero_le _⟩
   case round =>
    clear HG HN
    obtain ⟨i, ati, Hi, out, hik, rfl, HO, HOb, HWr, HGi, HNi, HOn, hol⟩ := hrel
    have hsr := HOn.out.size
    obtain ⟨ua, uc, hu11, -, -⟩ := (HO.out.own famEv).own.row.len
    obtain ⟨no, Hno⟩ : ∃ n, Hid (out.length = n) := ⟨_, Lib.hid rfl⟩
    rw [Hno.out] at hu11 hol
    subst hu11
    cases gk with
    | zero =>
     obtain rfl : m = i := by omega
     have hG9 : G = (out, Hi, ati) := by rw [← HGi.out, List.drop_of_length_le (Nat.le_of_eq Hm.out)]; rfl
     subst hG9
     have hN9 : m = N := by have h9 := HNi.out; rw [List.drop_of_length_le (Nat.le_of_eq Hm.out)] at h9; have h8 : takeN v most [] out Hi = 0 := rfl; omega
     have HN9 := Lib.hid hN9
     clear hN9
     have hout : out.length = no := Hno.out
     go_wp2_with fail
     go_ret2
     exact .inr ⟨rfl, _, _, rfl, HO.out.own famEv, fun b hb => hb, HWr.out.more (by have := HN9.out; omega), Only.after HA1.out HOn.out⟩
    | succ k =>
     have hil : i < m := by omega
     obtain ⟨x, hx⟩ : ∃ x, L[i]? = some x := ⟨L[i]'(by rw [Hm.out]; exact hil), List.getElem?_eq_getElem _⟩
     have hrx : OwnX EvX 12 E wr 56 (.slice va m vc) L := HT.out.agree famEv fun b hb => HOn.out.block b (HE.out b hb).2 (by have := (HE.out b hb).1; omega)
     obtain ⟨b, o, v1, v3, v4, hva, hobj, ec⟩ := ev_cells hrx.own.row Hm.out (Below.refl _ _) hx
     subst hva
     obtain ⟨a1, c1, rfl, -, -⟩ := hobj.rowL.len
     obtain ⟨a2, c2, rfl, -, -⟩ := hobj.rowO.row.len
     obtain ⟨a3, c3, rfl, -, -⟩ := hobj.rowH.row.len
     obtain ⟨n1, Hn1⟩ : ∃ n, Hid (x.object.labels.length = n) := ⟨_, Lib.hid rfl⟩
     obtain ⟨n2, Hn2⟩ : ∃ n, Hid (x.object.owners.length = n) := ⟨_, Lib.hid rfl⟩
     obtain ⟨n3, Hn3⟩ : ∃ n, Hid (x.object.holds.length = n) := ⟨_, Lib.hid rfl⟩
     rw [Hn1.out, Hn2.out, Hn3.out] at hobj ec
     have f0 := ec 0 _ rfl
     have f1 := ec 1 _ rfl
     have f2 := ec 2 _ rfl
     have f3 := ec 3 _ rfl
     have f4 := ec 4 _ rfl
     have f5 := ec 5 _ rfl
     have f6 := ec 6 _ rfl
     have f7 := ec 7 _ rfl
     have f8 := ec 8 _ rfl
     have f9 := ec 9 _ rfl
     have f10 := ec 10 _ rfl
     have f11 := ec 11 _ rfl
     rw [Nat.add_zero] at f0
     have q1 : (0 : Int) ≤ (i : Int) := by omega
     have q2 : (i : Int) < (m : Int) := by omega
     have Hx := Lib.hid hx
     have Hok : Hid (OkObj x.object) := Lib.hid (HMem.out x (List.mem_of_getElem? hx))
     have Hobj := Lib.hid hobj
     have H7 := Lib.hid (heap_alloc_new wr (.cells #[.int .i64 0, .int .i64 0, .string { data := #[] }, .string { data := #[] }, .string { data := #[] }, .slice none 0 0, .slice none 0 0, .slice none 0 0, .bool false, .string { data := #[] }, .int .i64 0, .string { data := #[] }] 56))
     have hb4 := Lib.hid ((Below.refl wr.heap.size wr).alloc (Nat.le_refl _) (.cells #[.int .i64 0, .int .i64 0, .string { data := #[] }, .string { data := #[] }, .string { data := #[] }, .slice none 0 0, .slice none 0 0, .slice none 0 0, .bool false, .string { data := #[] }, .int .i64 0, .string { data := #[] }] 56))
     have hs4 : Hid ((wr.alloc (.cells #[.int .i64 0, .int .i64 0, .string { data := #[] }, .string { data := #[] }, .string { data := #[] }, .slice none 0 0, .slice none 0 0, .slice none 0 0, .bool false, .string { data := #[] }, .int .i64 0, .string { data := #[] }] 56)).heap.size = wr.heap.size + 1) := Lib.hid (World.size_alloc _ _)
     clear hx ec hobj hrx
     go_wp2_with (refine wpList_store_box (by rfl) _ _ _ (by rfl) wr.heap.size #[.int .i64 x.kind, .int .i64 x.rev, .string x.object.okey.kind, .string x.object.okey.space, .string x.object.okey.name, .slice a1 n1 c1, .slice a2 n2 c2, .slice a3 n3 c3, .bool x.object.ending, .string x.object.uid, .int .i64 x.object.rev, .string x.object.doc] (by rfl) (by rfl) _ _ (by exact H7.out) (by exact Tryz.sizeEv) (by rfl) (by simp [Value.oneCell']) ?_)
     intro w5 b5 t5
     have hb5 : Below wr.heap.size wr w5 := t5.below hb4.out (Nat.le_refl _)
     have hs5 : w5.heap.size = wr.heap.size + 1 := t5.size.trans hs4.out
     obtain ⟨ge, hge⟩ : ∃ ge, wr.heap.size = ge := ⟨_, rfl⟩
     have hger : wr.heap.size ≤ ge := by omega
     rw [hge] at b5 ⊢
     have hgl : ge < w5.heap.size := by omega
     have hgw9 : w.heap.size ≤ ge := by omega
     have B5 := Lib.hid b5
     have HB5 := Lib.hid hb5
     have HO5 := Lib.hid (HO.out.belowX famEv hb5)
     have HW5 := Lib.hid (HWr.out.belowX hb5)
     have HOb5 : Hid (∀ b, (Value.slice ua no uc).ownBlock = some b → w1.heap.size ≤ b ∧ b < ge) := Lib.hid fun b hb => ⟨HOb.out b hb, by rw [← hge]; exact (HO.out.at hb).2⟩
     have hs5' : wr.heap.size ≤ w5.heap.size := by omega
     clear b5 t5 hb5 hb4 hs4 H7 HO HWr HOb f0 f1 f2 f3 f4 f5 f6 f7 f8 f9 f10 f11 hge hs5 q1 q2
     have hd : L.drop i = x :: L.drop (i + 1) := drop_one9 Hx.out
     have HGx : Hid ((if out.length = most then (out, Hi, ati) else takeG v most (L.drop (i + 1)) (out ++ seenE v Hi x) (seenH v Hi x) x.rev) = G) := Lib.hid (by rw [← HGi.out, hd]; rfl)
     have HNx : Hid ((if out.length = most then 0 else takeN v most (L.drop (i + 1)) (out ++ seenE v Hi x) (seenH v Hi x) + 1) + i = N) := Lib.hid (by rw [← HNi.out, hd]; rfl)
     clear hd HGi HNi
     by_cases hno : no = most
     ·have hG9 : G = (out, Hi, ati) := by rw [← HGx.out, if_pos (Hno.out.trans hno)]
      subst hG9
      have HN9 : Hid (i = N) := Lib.hid (by have h9 := HNx.out; rw [if_pos (Hno.out.trans hno)] at h9; omega)
      subst hno
      go_wp2_with fail
      go_ret2
      exact .inr ⟨rfl, _, _, rfl, HO5.out.own famEv, fun b hb => hb, HW5.out.more (by have := HN9.out; omega), (Only.after HA1.out HOn.out).then HB5.out⟩
     ·have HG7 : Hid (takeG v most (L.drop (i + 1)) (out ++ seenE v Hi x) (seenH v Hi x) x.rev = G) := Lib.hid (by rw [← HGx.out, if_neg (by rw [Hno.out]; exact hno)])
      have HN7 : Hid (takeN v most (L.drop (i + 1)) (out ++ seenE v Hi x) (seenH v Hi x) + 1 + i = N) := Lib.hid (by have h9 := HNx.out; rw [if_neg (by rw [Hno.out]; exact hno)] at h9; exact h9)
      have hnol : no < most := by omega
      have qn : ((no : Int) == (most : Int)) = false := by rw [beq_eq_false_iff_ne]; omega
      clear HGx HNx
      have ce := fun i => cell_block B5.out i
      have cw := fun i => cell_block HW5.out.box i
      have fw := fun i => free_block HW5.out.box i
      obtain ⟨w6, hw6⟩ : ∃ w9, w5.setCell ⟨gw, 3, none⟩ (.int .i64 x.rev) = w9 := ⟨_, rfl⟩
      have t1 := touch_setCell (i := 3) (v := .int .i64 x.rev) HW5.out.box
      rw [hw6] at t1
      have hgeg : ge ≠ gw := by omega
      have HW6 : Hid (WatchAt w6 gw hm vr R v x.rev Hi (nw + i)) := Lib.hid (HW5.out.moved t1.2 t1.1)
      have B6 := Lib.hid (t1.2.block B5.out hgeg)
      have HO6 : Hid (OutX EvX 12 w.heap.size w6 56 (.slice ua no uc) out) := Lib.hid (HO5.out.agreeX famEv (by rw [t1.2.size]; exact Nat.le_refl _) fun b h1 h2 => t1.2.other b (by omega))
      have HOn6 : Hid (Only (fun b => b = hm ∨ b = gw) w1 w6) := Lib.hid ((HOn.out.then HB5.out).trans (Only.touch (D := fun b => b = hm ∨ b = gw) t1.2 (.inr rfl)) fun b hb _ => hb)
      have Hobj6 : Hid (ObjIn E w6 (.slice a1 n1 c1) (.slice a2 n2 c2) (.slice a3 n3 c3) x.object) := Lib.hid (Hobj.out.agree fun b hb => (t1.2.other b (by have := (HE.out b hb).1; omega)).trans (HB5.out.block b (by have := (HE.out b hb).2; omega)))
      have hs6 : w6.heap.size = w5.heap.size := t1.2.size
      have hs6a : ge < w6.heap.size := by omega
      have hs6b : w1.heap.size ≤ w6.heap.size := by omega
      clear hs6
      go_upto_region 17 with fail
      try rw [hw6]
      clear t1 hw6 ce cw fw B5 HW5 HO5 HOn HB5 Hobj qn
      obtain ⟨k9, Hk9⟩ : ∃ k, Hid ((seenK v Hi x).getD x.kind = k) := ⟨_, Lib.hid rfl⟩
      obtain ⟨b9, Hb9⟩ : ∃ b, Hid ((seenK v Hi x).isSome = b) := ⟨_, Lib.hid rfl⟩
      have HB06 : Hid (Below w0.heap.size w0 w6) := Lib.hid ((HB0.out.trans (HA1.out.mono HB0.out.size)).trans (HOn6.out.below (fun b hb => by rcases hb with rfl | rfl <;> assumption) (by have := HB0.out.size; omega)))
      have HSees : Hid (Calls Tryz.prog 81 #[.pointer (some ⟨gw, 0, none⟩), .agg #[.int .i64 x.kind, .int .i64 x.rev, .string x.object.okey.kind, .string x.object.okey.space, .string x.object.okey.name, .slice a1 n1 c1, .slice a2 n2 c2, .slice a3 n3 c3, .bool x.object.ending, .string x.object.uid, .int .i64 x.object.rev, .string x.object.doc]] w6 fun e w7 => e = .returned (.tuple #[.agg #[.int .i64 k9, .int .i64 x.rev, .string x.object.okey.kind, .string x.object.okey.space, .string x.object.okey.name, .slice a1 n1 c1, .slice a2 n2 c2, .slice a3 n3 c3, .bool x.object.ending, .string x.object.uid, .int .i64 x.object.rev, .string x.object.doc], .bool b9]) ∧ WatchAt w7 gw hm vr R v x.rev (seenH v Hi x) (nw + i + 1) ∧ Only (fun b => b = hm) w6 w7) := Lib.hid (by
       have h9 := sees_any HW6.out HV.out (by omega) x _ _ _ Hobj6.out.rowL Hobj6.out.rowO Hobj6.out.rowH Hok.out (by obtain ⟨m9, hm9⟩ := HMx.out; exact ⟨m9, hm9.below HB06.out⟩)
       rw [Hk9.out, Hb9.out] at h9
       exact h9)
      have ce := fun i => cell_block B6.out i
      clear HB06
      go_wp2_with fail
      refine HSees.out.mono ?_
      rintro e7 w7 ⟨rfl, hw7, ho7⟩
      have HW7 := Lib.hid hw7
      have HOn7 : Hid (Only (fun b => b = hm ∨ b = gw) w1 w7) := Lib.hid (HOn6.out.trans ho7 fun b hb _ => .inl hb)
      have HO7 : Hid (OutX EvX 12 w.heap.size w7 56 (.slice ua no uc) out) := Lib.hid (HO6.out.agreeX famEv ho7.size fun b h1 h2 => ho7.block b h2 (by omega))
      have Hobj7 : Hid (ObjIn E w7 (.slice a1 n1 c1) (.slice a2 n2 c2) (.slice a3 n3 c3) x.object) := Lib.hid (Hobj6.out.agree fun b hb => ho7.block b (by have := (HE.out b hb).2; omega) (by have := (HE.out b hb).1; omega))
      have hs7 := ho7.size
      clear hw7 ho7 HSees ce B6 HW6 HO6 HOn6 Hobj6
      have H7 := Lib.hid (heap_alloc_new w7 (.cells #[.int .i64 0, .int .i64 0, .string { data := #[] }, .string { data := #[] }, .string { data := #[] }, .slice none 0 0, .slice none 0 0, .slice none 0 0, .bool false, .string { data := #[] }, .int .i64 0, .string { data := #[] }] 56))
      have hb4 := Lib.hid ((Below.refl w7.heap.size w7).alloc (Nat.le_refl _) (.cells #[.int .i64 0, .int .i64 0, .string { data := #[] }, .string { data := #[] }, .string { data := #[] }, .slice none 0 0, .slice none 0 0, .slice none 0 0, .bool false, .string { data := #[] }, .int .i64 0, .string { data := #[] }] 56))
      have hs4 : Hid ((w7.alloc (.cells #[.int .i64 0, .int .i64 0, .string { data := #[] }, .string { data := #[] }, .string { data := #[] }, .slice none 0 0, .slice none 0 0, .slice none 0 0, .bool false, .string { data := #[] }, .int .i64 0, .string { data := #[] }] 56)).heap.size = w7.heap.size + 1) := Lib.hid (World.size_alloc _ _)
      go_wp2_with (refine wpList_store_box (by rfl) _ _ _ (by rfl) w7.heap.size #[.int .i64 k9, .int .i64 x.rev, .string x.object.okey.kind, .string x.object.okey.space, .string x.object.okey.name, .slice a1 n1 c1, .slice a2 n2 c2, .slice a3 n3 c3, .bool x.object.ending, .string x.object.uid, .int .i64 x.object.rev, .string x.object.doc] (by rfl) (by rfl) _ _ (by exact H7.out) (by exact Tryz.sizeEv) (by rfl) (by simp [Value.oneCell']) ?_)
      intro w8 b8 t8
      have hb8 : Below w7.heap.size w7 w8 := t8.below hb4.out (Nat.le_refl _)
      have hs8 : w8.heap.size = w7.heap.size + 1 := t8.size.trans hs4.out
      obtain ⟨gy, hgy⟩ : ∃ g, w7.heap.size = g := ⟨_, rfl⟩
      rw [hgy] at b8 ⊢
      have B8 := Lib.hid b8
      have HW8 := Lib.hid (HW7.out.belowX hb8)
      have HOn8 := Lib.hid (HOn7.out.then hb8)
      have HO8 := Lib.hid (HO7.out.belowX famEv hb8)
      have Hobj8 : Hid (ObjIn E w8 (.slice a1 n1 c1) (.slice a2 n2 c2) (.slice a3 n3 c3) x.object) := Lib.hid (Hobj7.out.agree fun b hb => hb8.block b (by have := (HE.out b hb).2; omega))
      have hgy1 : gy < w8.heap.size := by omega
      have hgy2 : ge < gy := by omega
      have hgy3 : w1.heap.size ≤ gy := by omega
      clear b8 t8 hb8 hb4 hs4 H7 HW7 HO7 HOn7 Hobj7 hgy hs8 hs7
      cases b9 with
      | false =>
       have hsn : seenE v Hi x = [] := by
        unfold seenE
        cases hsk : seenK v Hi x with
        | none => rfl
        | some k => exact absurd (by rw [← Hb9.out, hsk]; rfl) Bool.false_ne_true
       have HG8 : Hid (takeG v most (L.drop (i + 1)) out (seenH v Hi x) x.rev = G) := Lib.hid (by have h9 := HG7.out; rw [hsn, List.append_nil] at h9; exact h9)
       have HN8 : Hid (takeN v most (L.drop (i + 1)) out (seenH v Hi x) + (i + 1) = N) := Lib.hid (by have h9 := HN7.out; rw [hsn, List.append_nil] at h9; omega)
       clear hsn HG7 HN7
       have hnl : out.length ≤ most := by rw [Hno.out]; omega
       have HOb8 : Hid (∀ b, (Value.slice ua no uc).ownBlock = some b → w1.heap.size ≤ b) := Lib.hid fun b hb => (HOb5.out b hb).1
       go_wp2_with fail
       go_roundg k
       case measure => omega
       case rel => exact ⟨i + 1, x.rev, seenH v Hi x, out, by omega, by go_num, HO8, HOb8, HW8, HG8, HN8, HOn8, hnl⟩
      | true =>
       have hsk : seenE v Hi x = [{ x with kind := k9 }] := by
        unfold seenE
        cases hsk : seenK v Hi x with
        | none => exact absurd (by rw [← Hb9.out, hsk]; rfl) Bool.false_ne_true
        | some k => have h9 := Hk9.out; rw [hsk] at h9; obtain rfl : k = k9 := h9; rfl
       have HG8 : Hid (takeG v most (L.drop (i + 1)) (out ++ [{ x with kind := k9 }]) (seenH v Hi x) x.rev = G) := Lib.hid (by have h9 := HG7.out; rw [hsk] at h9; exact h9)
       have HN8 : Hid (takeN v most (L.drop (i + 1)) (out ++ [{ x with kind := k9 }]) (seenH v Hi x) + (i + 1) = N) := Lib.hid (by have h9 := HN7.out; rw [hsk] at h9; omega)
       clear hsk HG7 HN7
       have cf := fun i => cell_block B8.out i
       obtain ⟨gl, hgz⟩ : ∃ gl, w8.heap.size = gl := ⟨_, rfl⟩
       obtain ⟨w9, hw9⟩ : ∃ w9, w9 = w8.alloc (.cells #[.int .i64 k9, .int .i64 x.rev, .string x.object.okey.kind, .string x.object.okey.space, .string x.object.okey.name, .slice a1 n1 c1, .slice a2 n2 c2, .slice a3 n3 c3, .bool x.object.ending, .string x.object.uid, .int .i64 x.object.rev, .string x.object.doc] 56) := ⟨_, rfl⟩
       have hb9 : Below w8.heap.size w8 w9 := by rw [hw9]; exact (Below.refl _ w8).alloc (Nat.le_refl _) _
       have hs9 : w9.heap.size = w8.heap.size + 1 := by rw [hw9, World.size_alloc]
       have HO9 := Lib.hid (HO8.out.belowX famEv hb9)
       have HW9 := Lib.hid (HW8.out.belowX hb9)
       have HOn9 := Lib.hid (HOn8.out.then hb9)
       have HRow : Hid (RowAt (EvX (OutD w.heap.size w9 (.slice ua no uc)) w9) 12 w9 (.slice (some ⟨gl, 0, none⟩) 1 1) [{ x with kind := k9 }]) := Lib.hid (RowAt.one (R := (EvX (OutD w.heap.size w9 (.slice ua no uc)) w9)) (k := 12) (cs := #[.int .i64 k9, .int .i64 x.rev, .string x.object.okey.kind, .string x.object.okey.space, .string x.object.okey.name, .slice a1 n1 c1, .slice a2 n2 c2, .slice a3 n3 c3, .bool x.object.ending, .string x.object.uid, .int .i64 x.object.rev, .string x.object.doc]) (x := { x with kind := k9 }) (by rw [hw9, ← hgz]; exact heap_alloc_new w8 _) rfl ⟨_, _, _, rfl, (Hobj8.out.agree fun b hb => hb9.block b (by have := (HE.out b hb).2; omega)).mono fun b hb => ⟨(HE.out b hb).1, by have := (HE.out b hb).2; omega, fun e9 => by have := (HOb5.out b e9).1; have := (HE.out b hb).2; omega⟩⟩)
       have hbase : w.heap.size ≤ w9.heap.size := by omega
       have hnl : (out ++ [{ x with kind := k9 }]).length ≤ most := by rw [List.length_append, Hno.out]; exact hnol
       obtain ⟨i0, hi0, hy0, hy1, hy2⟩ := info_parts Tryz.infoEv
       have hsl : w9.heap.size = gl + 1 := by omega
       have hgl9 : w1.heap.size ≤ gl := by omega
       clear hb9 hs9 HO8 HW8 HOn8 Hobj8 B8
       go_wp2_with (at_builtin; rw [← hw9]; refine wpList_append_ownAt (R := (EvX (OutD w.heap.size w9 (.slice ua no uc)) w9)) (k := 12) (e := 56) (B := w.heap.size) (l := out) (m := [{ x with kind := k9 }]) _ (by rfl) _ _ _ (by rfl) i0 _ 184 Tryz.underlying51 hi0 hy0 hy1 hy2 rfl (by omega) (famEv.flat _ _) (famEv.one _ _) _ (by rfl) HO9.out _ (by rfl) HRow.out (by rw [Hno.out, List.length_singleton]; unfold maxLen; omega) (by rw [Hno.out, List.length_singleton]; omega) hbase ?_)
       intro v' wA p1 p2 p3 p4
       rw [← hw9] at p1 p2
       rw [show gl + 1 = w9.heap.size from hsl.symm] at p4
       have HOA := Lib.hid (OutX.appended famEv p1 p2 p4)
       have HWA : Hid (WatchAt wA gw hm vr R v x.rev (seenH v Hi x) (nw + i + 1)) := Lib.hid (HW9.out.agreeX p2.size fun b hb => p2.block b (by
        rcases hb with rfl | rfl | hb
        ·exact HW9.out.lts.1
        ·exact HW9.out.lts.2
        ·exact (HW9.out.low b hb).1) fun e9 => by
        have h9 := (HOb5.out b e9.symm).1
        rcases hb with rfl | rfl | hb
        ·omega
        ·omega
        ·have := (HW.out.low b hb).1; omega)
       have HOnA : Hid (Only (fun b => b = hm ∨ b = gw) w1 wA) := Lib.hid ⟨p2.os.trans HOn9.out.os, p2.tape.trans HOn9.out.tape, p2.output.trans HOn9.out.output, Nat.le_trans HOn9.out.size p2.size, fun b hb hn => (p2.block b (Nat.lt_of_lt_of_le hb HOn9.out.size) fun e9 => by have := (HOb5.out b e9.symm).1; omega).trans (HOn9.out.block b hb hn)⟩
       have HObA : Hid (∀ b, v'.ownBlock = some b → w1.heap.size ≤ b) := Lib.hid fun b hb => by
        rcases p4 with h8 | h8
        ·exact (HOb5.out b (h8 ▸ hb)).1
        ·rw [h8] at hb; injection hb with hb; omega
       clear p1 p2 p3 p4 cf HO9 HRow HW9 HOn9 hw9 hsl hgz
       go_wp2_with fail
       go_roundg k
       case measure => omega
       case rel => exact ⟨i + 1, x.rev, seenH v Hi x, _, by omega, by go_num, HOA, HObA, HWA, HG8, HN8, HOnA, hnl⟩
  ·have qs : (se != 0) = true := by rw [bne_iff_ne]; exact hse
   have HH1 := Lib.hid (HH.out.belowX HA1.out)
   obtain ⟨nm, f, hm0, hm1, hm2⟩ := HH1.out.map
   obtain ⟨w2, hrun, hmm2, ht2⟩ := MapK.drop hm1 Tryz.underlying146 id Hid9.out 0
   rw [show intC.val id = .int .i64 id from rfl] at hrun
   have HM2 := Lib.hid hmm2
   have HF := Lib.hid hm2
   have H0 := Lib.hid hm0
   have HO : Hid (Only (fun b => b = om) w1 w2) := Lib.hid (Only.turned ht2 rfl)
   have cc := fun i => cell_block HH1.out.box i
   clear hm0 hm1 hm2 hmm2 ht2
   go_wp2_with fail
   go_ret2
   refine .inl ⟨hse, rfl, ⟨(HO.out.block _ HH1.out.lts.1 (Ne.symm HH1.out.ne)).trans HH1.out.box, nm, _, H0.out, HM2.out, fun k => ?_⟩, Only.after HA1.out HO.out⟩
   unfold delK
   split
   ·rfl
   ·exact HF.out k
end Sto
end Go.Proofs.YtnnceaapodgfbaaGreatDoor
namespace Go.Proofs.YtnnceaapodgfbaaGreatDoor
namespace Sto
def foldT (v : GView) : List GEvent → (GKey → Bool) → List GEvent × (GKey → Bool)
 | [], H => ([], H)
 | x :: l, H => (seenE v H x ++ (foldT v l (seenH v H x)).1, (foldT v l (seenH v H x)).2)
theorem foldT_append (v : GView) : ∀ (l m : List GEvent) (H : GKey → Bool), foldT v (l ++ m) H = ((foldT v l H).1 ++ (foldT v m (foldT v l H).2).1, (foldT v m (foldT v l H).2).2)
 | [], m, H => by show foldT v m H = ([] ++ _, _); rw [List.nil_append]; rfl
 | x :: l, m, H => by
  show (seenE v H x ++ (foldT v (l ++ m) (seenH v H x)).1, (foldT v (l ++ m) (seenH v H x)).2) = _
  rw [foldT_append v l m]
  show (seenE v H x ++ ((foldT v l (seenH v H x)).1 ++ _), _) = ((seenE v H x ++ (foldT v l (seenH v H x)).1) ++ _, _)
  rw [List.append_assoc]
  rfl
theorem seenE_len (v : GView) (H : GKey → Bool) (x : GEvent) : (seenE v H x).length ≤ 1 := by
 unfold seenE
 split
 ·exact Nat.le_refl _
 ·exact Nat.zero_le _
theorem take_is (v : GView) (most : Nat) : ∀ (l out : List GEvent) (H : GKey → Bool) (a : Int), out.length ≤ most → ∃ j, j ≤ l.length ∧ (0 < l.length → out.length < most → 0 < j) ∧
  (takeG v most l out H a).1 = out ++ (foldT v (l.take j) H).1 ∧ (takeG v most l out H a).2.1 = (foldT v (l.take j) H).2 ∧ (takeG v most l out H a).2.2 = (if j = 0 then a else ((l[j - 1]?).map (·.rev)).getD a) ∧ (takeG v most l out H a).1.length ≤ most ∧ takeN v most l out H = j
 | [], out, H, a, ho => ⟨0, Nat.le_refl _, fun h => absurd h (Nat.lt_irrefl 0), (List.append_nil out).symm, rfl, rfl, ho, rfl⟩
 | x :: l, out, H, a, ho => by
  by_cases hm : out.length = most
  ·refine ⟨0, Nat.zero_le _, fun _ h => by omega, ?_⟩
   show (if out.length = most then _ else _ : List GEvent × (GKey → Bool) × Int).1 = _ ∧ (if out.length = most then _ else _ : List GEvent × (GKey → Bool) × Int).2.1 = _ ∧ (if out.length = most then _ else _ : List GEvent × (GKey → Bool) × Int).2.2 = _ ∧ (if out.length = most then _ else _ : List GEvent × (GKey → Bool) × Int).1.length ≤ most ∧ (if out.length = most then 0 else _ : Nat) = _
   rw [if_pos hm, if_pos hm]
   exact ⟨(List.append_nil out).symm, rfl, rfl, ho, rfl⟩
  ·have h9 := seenE_len v H x
   obtain ⟨j, h1, -, h3, h4, h5, h6, h7⟩ := take_is v most l (out ++ seenE v H x) (seenH v H x) x.rev (by rw [List.length_append]; omega)
   refine ⟨j + 1, Nat.succ_le_succ h1, fun _ _ => Nat.succ_pos _, ?_⟩
   show (if out.length = most then _ else _ : List GEvent × (GKey → Bool) × Int).1 = _ ∧ (if out.length = most then _ else _ : List GEvent × (GKey → Bool) × Int).2.1 = _ ∧ (if out.length = most then _ else _ : List GEvent × (GKey → Bool) × Int).2.2 = _ ∧ (if out.length = most then _ else _ : List GEvent × (GKey → Bool) × Int).1.length ≤ most ∧ (if out.length = most then 0 else _ : Nat) = _
   rw [if_neg hm, if_neg hm]
   refine ⟨by rw [h3, List.append_assoc]; rfl, by rw [h4]; rfl, ?_, h6, by rw [h7]⟩
   rw [h5, if_neg (Nat.succ_ne_zero j)]
   cases j with
   | zero => rfl
   | succ j =>
    rw [if_neg (Nat.succ_ne_zero j)]
    show ((l[j]?).map (·.rev)).getD x.rev = (((x :: l)[j + 1]?).map (·.rev)).getD a
    rw [List.getElem?_cons_succ]
    have hj : j < l.length := h1
    rw [List.getElem?_eq_getElem hj]
    rfl
end Sto
end Go.Proofs.YtnnceaapodgfbaaGreatDoor
namespace Go.Proofs.YtnnceaapodgfbaaGreatDoor
namespace Sto
open Go.RowKit
open JP (Bs)
structure OnceIs (S : St) (k : GKey) (doc other : ByteArray) : Prop where
 no : getE S k 0 ≠ 0 → (remove S k 0).2.2 = getE S k 0
 yes : getE S k 0 = 0 → ∀ o Ua Ub, o = getO S k 0 → Ua = update S { o with doc := doc } → Ub = update Ua.1 { o with doc := other } →
  getE Ub.1 k 0 = 0 ∧ (Ua.2.2 = 0 → (Ub.2.2 = 12 ∨ objE { o with doc := other } = Ub.2.2) ∧ Ub.2.2 ≠ 0 ∧ Ub.1.rev = S.rev + 1 ∧ getO Ub.1 k 0 = Ua.2.1 ∧ Ua.2.1.rev = (S.rev : Int) + 1) ∧
  (Ua.2.2 ≠ 0 → Ub.2.2 = 0 → Ub.1.rev = S.rev + 1 ∧ getO Ub.1 k 0 = Ub.2.1) ∧ (Ua.2.2 ≠ 0 → Ub.2.2 ≠ 0 → Ub.1.rev = S.rev ∧ (getO Ub.1 k 0).rev = o.rev)
theorem replay_step {S : St} (h : Good S) {i : Nat} {e : GEvent} (he : S.log[i]? = some e) :
  e.rev = (i : Int) + 1 ∧ e.object.rev = (i : Int) + 1 ∧ ((cur (S.log.take i) e.object.okey).isSome = !decide (e.kind = 1)) ∧ ∀ k, cur (S.log.take (i + 1)) k = if e.object.okey = k then shown e else cur (S.log.take i) k := by
 obtain ⟨h1, h2, h3⟩ := h.step i e he
 have hl := (List.getElem?_eq_some_iff.1 he).1
 rw [List.length_take, Nat.min_eq_left (by omega)] at h1 h2
 refine ⟨h1, h2, ?_, fun k => by rw [take_snoc he, cur_snoc]⟩
 rcases h3 with ⟨g1, g2, _⟩ | ⟨g1, o, g2, _⟩
 ·rw [g2, g1]; rfl
 ·rw [g2]
  have : ¬ e.kind = 1 := by omega
  rw [decide_eq_false this]; rfl
end Sto
end Go.Proofs.YtnnceaapodgfbaaGreatDoor
namespace Go.Proofs.YtnnceaapodgfbaaGreatDoor
namespace Sto
open Go.RowKit
structure Gathered (L : List GEvent) (kind space : ByteArray) (left : GKey → Bool) (l : List GObject) : Prop where
 mem : ∀ o, o ∈ l ↔ fitsK kind space o.okey ∧ cur L o.okey = some o ∧ left o.okey = false
 one : (l.map (·.okey)).Nodup
section
variable {L : List GEvent} {kind space : ByteArray} {left : GKey → Bool} {l : List GObject}
theorem Gathered.start (h : ∀ k o, cur L k = some o → left k = true) : Gathered L kind space left [] :=
 ⟨fun o => ⟨fun h9 => (by cases h9), fun ⟨_, h2, h3⟩ => by rw [h _ _ h2] at h3; cases h3⟩, List.nodup_nil⟩
theorem Gathered.pass (h : Gathered L kind space left l) {k : GKey} (hk : ¬ fitsK kind space k ∨ cur L k = none) : Gathered L kind space (fun z => left z && !decide (z = k)) l := by
 refine ⟨fun o => (h.mem o).trans ⟨fun ⟨h1, h2, h3⟩ => ⟨h1, h2, by show (left o.okey && _) = false; rw [h3]; rfl⟩, fun ⟨h1, h2, h3⟩ => ⟨h1, h2, ?_⟩⟩, h.one⟩
 have h4 : (left o.okey && !decide (o.okey = k)) = false := h3
 by_cases e : o.okey = k
 ·rcases hk with hk | hk
  ·rw [e] at h1; exact absurd h1 hk
  ·rw [e, hk] at h2; cases h2
 ·rw [decide_eq_false e] at h4; simpa using h4
theorem Gathered.more (h : Gathered L kind space left l) {k : GKey} {o : GObject} (hf : fitsK kind space k) (hc : cur L k = some o) (hl : left k = true) : Gathered L kind space (fun z => left z && !decide (z = k)) (l ++ [o]) := by
 have hk : o.okey = k := cur_key hc
 have hno : ∀ x ∈ l, x.okey ≠ k := fun x hx e => by
  have h1 := ((h.mem x).1 hx).2.2
  rw [e, hl] at h1; cases h1
 refine ⟨fun x => ?_, ?_⟩
 ·rw [List.mem_append, List.mem_singleton]
  constructor
  ·rintro (hx | rfl)
   ·obtain ⟨h1, h2, h3⟩ := (h.mem x).1 hx
    exact ⟨h1, h2, by show (left x.okey && _) = false; rw [h3]; rfl⟩
   ·exact ⟨hk ▸ hf, by rw [hk]; exact hc, by show (left x.okey && !decide (x.okey = k)) = false; rw [decide_eq_true hk]; simp⟩
  ·rintro ⟨h1, h2, h3⟩
   have h4 : (left x.okey && !decide (x.okey = k)) = false := h3
   by_cases e : x.okey = k
   ·right
    rw [e, hc] at h2
    exact (Option.some.inj h2).symm
   ·left
    rw [decide_eq_false e] at h4
    exact (h.mem x).2 ⟨h1, h2, by simpa using h4⟩
 ·rw [List.map_append, List.nodup_append]
  refine ⟨h.one, List.nodup_cons.2 ⟨fun h => (by cases h), List.nodup_nil⟩, fun a ha b hb => ?_⟩
  obtain ⟨x, hx, rfl⟩ := List.mem_map.1 ha
  obtain rfl := List.mem_singleton.1 hb
  show x.okey ≠ o.okey
  rw [hk]
  exact hno x hx
theorem lessS_total {a b : ByteArray} (h1 : ¬ lessS a b) (h2 : ¬ lessS b a) : a = b := by
 unfold lessS at h1 h2
 have s1 := cb_swap a.data.toList b.data.toList
 have h9 := cb_eq _ _ (by omega : Lib.compareBytes a.data.toList b.data.toList = 0)
 rw [← mkB_of a, ← mkB_of b, h9]
theorem ahead_of {a b : GObject} (hk : a.okey.kind = b.okey.kind) (hne : a.okey ≠ b.okey) (h : ¬ ahead b a) : ahead a b := by
 unfold ahead at h ⊢
 by_cases h1 : lessS a.okey.space b.okey.space
 ·exact .inl h1
 ·have h2 : a.okey.space = b.okey.space := lessS_total h1 fun h9 => h (.inl h9)
  refine .inr ⟨h2, Classical.byContradiction fun h3 => hne ?_⟩
  have h4 : a.okey.name = b.okey.name := lessS_total h3 fun h9 => h (.inr ⟨h2.symm, h9⟩)
  have e : ∀ x y : GKey, x.kind = y.kind → x.space = y.space → x.name = y.name → x = y := fun x y p q r => by
   obtain ⟨a1, a2, a3⟩ := x
   obtain ⟨b1, b2, b3⟩ := y
   cases p; cases q; cases r; rfl
  exact e _ _ hk h2 h4
theorem Gathered.done (h : Gathered L kind space (fun _ => false) l) {l' : List GObject} (hp : l'.Perm l) (hr : l'.Pairwise fun x y => ¬ ahead y x) : IsList L kind space l' := by
 have hm : ∀ o, o ∈ l' ↔ fitsK kind space o.okey ∧ cur L o.okey = some o := fun o => (hp.mem_iff).trans ((h.mem o).trans ⟨fun ⟨a, b, _⟩ => ⟨a, b⟩, fun ⟨a, b⟩ => ⟨a, b, rfl⟩⟩)
 have hn : (l'.map (·.okey)).Nodup := ((hp.map (·.okey)).nodup_iff).2 h.one
 refine ⟨?_, hm⟩
 have hn2 : l'.Pairwise fun x y => x.okey ≠ y.okey := List.pairwise_map.1 hn
 refine List.Pairwise.imp_of_mem (fun {a b} ha hb h9 => ?_) (hr.and hn2)
 exact ahead_of (((hm a).1 ha).1.1.trans ((hm b).1 hb).1.1.symm) h9.2 h9.1
end
end Sto
end Go.Proofs.YtnnceaapodgfbaaGreatDoor
namespace Go.Proofs.YtnnceaapodgfbaaGreatDoor
namespace Sto
open Go.RowKit
section
variable {E : Dom} {w w' : World} {f : GKey → Option Value} {log : List GEvent} {S : St} {L : List GObject} {kind space : ByteArray}
end
end Sto
end Go.Proofs.YtnnceaapodgfbaaGreatDoor
namespace Go.Proofs.YtnnceaapodgfbaaGreatDoor
open Go.RowKit
def lastL (labels : List GLabel) (k : ByteArray) : Option GLabel := labels.foldl (fun a x => if x.key = k then some x else a) none
def amongO (vals : List ByteArray) (o : Option GLabel) : Bool := match o with
 | some x => Lib.containsS vals x.val
 | none => false
def fitK (kd : Int) (there among : Bool) : Bool := if kd = 1 then among else if kd = 2 then !among else if kd = 3 then there else if kd = 4 then !there else true
def fitR (labels : List GLabel) (r : GReq) : Bool := fitK r.kind (lastL labels r.key).isSome (amongO r.vals (lastL labels r.key))
def fitsL (l : List GReq) (labels : List GLabel) : Bool := l.all (fitR labels)
theorem lastL_snoc (l : List GLabel) (x : GLabel) (k : ByteArray) : lastL (l ++ [x]) k = if x.key = k then some x else lastL l k := by
 unfold lastL
 rw [List.foldl_append]
 rfl
theorem lastL_acc (k : ByteArray) : ∀ (l : List GLabel) (acc : Option GLabel), l.Pairwise (fun a b => a.key ≠ b.key) → l.foldl (fun a x => if x.key = k then some x else a) acc = ((l.find? fun x => decide (x.key = k)).or acc)
 | [], acc, _ => by simp
 | a :: r, acc, h => by
  rw [List.pairwise_cons] at h
  rw [List.foldl_cons, lastL_acc k r _ h.2, List.find?_cons]
  by_cases ha : a.key = k
  ·have h1 : r.find? (fun x => decide (x.key = k)) = none := List.find?_eq_none.2 fun x hx => by
    have := h.1 x hx
    rw [ha] at this
    simp [Ne.symm this]
   rw [if_pos ha, h1, decide_eq_true ha]
   rfl
  ·rw [if_neg ha, decide_eq_false ha]
theorem lastL_find {l : List GLabel} (h : l.Pairwise (fun a b => a.key ≠ b.key)) (k : ByteArray) : lastL l k = l.find? fun x => decide (x.key = k) := by
 unfold lastL
 rw [lastL_acc k l none h, Option.or_none]
theorem lab_zero {x : Option ByteArray × GLabel} (h : labE x = 0) : prevE x.1 x.2.key = 0 := by
 unfold labE at h
 by_cases h1 : keyE x.2.key ≠ 0
 ·rw [if_pos h1] at h; exact absurd h h1
 ·rw [if_neg h1] at h
  by_cases h2 : valE x.2.val ≠ 0
  ·rw [if_pos h2] at h; exact absurd h h2
  ·rw [if_neg h2] at h; exact h
theorem prev_zero {k key : ByteArray} (h : prevE (some k) key = 0) : lessB k key = true := by
 unfold prevE at h
 dsimp only at h
 by_cases h1 : lessB k key = true
 ·exact h1
 ·rw [if_neg h1] at h; cases h
theorem labZ_rise : ∀ (l : List GLabel) (p : Option ByteArray), (∀ x ∈ (p :: l.map (some ·.key)).zip l, prevE x.1 x.2.key = 0) → (∀ k, p = some k → ∀ x ∈ l, lessB k x.key = true) ∧ l.Pairwise fun a b => lessB a.key b.key = true
 | [], p, _ => ⟨fun _ _ _ h => (by cases h), List.Pairwise.nil⟩
 | a :: r, p, h => by
  have hz : (p :: (a :: r).map (some ·.key)).zip (a :: r) = (p, a) :: ((some a.key :: r.map (some ·.key)).zip r) := rfl
  rw [hz] at h
  have h1 := h (p, a) (List.mem_cons_self ..)
  obtain ⟨i1, i2⟩ := labZ_rise r (some a.key) fun x hx => h x (List.mem_cons_of_mem _ hx)
  refine ⟨fun k hk x hx => ?_, List.pairwise_cons.2 ⟨fun x hx => i1 _ rfl x hx, i2⟩⟩
  subst hk
  have h2 : lessB k a.key = true := prev_zero h1
  rcases List.mem_cons.1 hx with rfl | hx
  ·exact h2
  ·exact lessB_trans h2 (i1 _ rfl x hx)
theorem labels_rise {l : List GLabel} (h : labelsE l = 0) : l.Pairwise fun a b => lessB a.key b.key = true := by
 unfold labelsE at h
 by_cases h1 : 10 < l.length
 ·rw [if_pos h1] at h; cases h
 ·rw [if_neg h1] at h
  exact (labZ_rise l none fun x hx => lab_zero (errF_zero.1 h x hx)).2
theorem labels_apart {l : List GLabel} (h : labelsE l = 0) : l.Pairwise fun a b => a.key ≠ b.key :=
 (labels_rise h).imp fun h1 e => by rw [e, lessB_irrefl] at h1; cases h1
theorem fit_holds {labels : List GLabel} (h : labelsE labels = 0) {r : GReq} (hr : 1 ≤ r.kind ∧ r.kind ≤ 4) : fitR labels r = holdsB labels r := by
 unfold fitR holdsB
 rw [lastL_find (labels_apart h)]
 have hk : r.kind = 1 ∨ r.kind = 2 ∨ r.kind = 3 ∨ r.kind = 4 := by omega
 cases labels.find? fun x => decide (x.key = r.key) with
 | none => rcases hk with h | h | h | h <;> rw [h] <;> rfl
 | some x => rcases hk with h | h | h | h <;> rw [h] <;> rfl
theorem reqs_kinds {l : List GReq} (h : reqsE l = 0) : ∀ r ∈ l, 1 ≤ r.kind ∧ r.kind ≤ 4 := by
 unfold reqsE at h
 by_cases h1 : 8 < l.length
 ·rw [if_pos h1] at h; cases h
 ·rw [if_neg h1] at h
  exact fun r hr => argR_kind (errF_zero.1 h r hr)
theorem all_congr9 {α : Type} {f g : α → Bool} : ∀ {l : List α}, (∀ x ∈ l, f x = g x) → l.all f = l.all g
 | [], _ => rfl
 | a :: r, h => by rw [List.all_cons, List.all_cons, h a (List.mem_cons_self ..), all_congr9 fun x hx => h x (List.mem_cons_of_mem _ hx)]
theorem fits_match {l : List GReq} {labels : List GLabel} (hl : reqsE l = 0) (h : labelsE labels = 0) : fitsL l labels = matchB l labels := by
 unfold fitsL matchB
 rw [matchE_zero.2 ⟨hl, h⟩]
 simp only [decide_true, Bool.true_and]
 exact all_congr9 fun r hr => fit_holds h (reqs_kinds hl r hr)
end Go.Proofs.YtnnceaapodgfbaaGreatDoor
namespace Go.Proofs.YtnnceaapodgfbaaGreatDoor
namespace Sto
open Go.RowKit
def GoodL (S : St) : Prop := ∀ e ∈ S.log, labelsE e.object.labels = 0
theorem goodL0 : GoodL St0 := fun e h => by cases h
theorem goodL_put {S : St} (h : GoodL S) {kind : Int} {o : GObject} (ho : labelsE o.labels = 0) : GoodL (put S kind o) := fun e he => by
  unfold put at he
  dsimp only at he
  rcases List.mem_append.1 he with he | he
  · exact h e he
  · rw [List.mem_singleton] at he
    subst he
    exact ho
theorem obj_labels {o : GObject} (h : objE o = 0) : labelsE o.labels = 0 := by
  unfold objE at h
  by_cases h1 : firstO o ≠ 0
  · rw [if_pos h1] at h; exact absurd h h1
  · have h2 : firstO o = 0 := Decidable.not_not.1 h1
    unfold firstO at h2
    exact ((says_eq_zero _ _).1 ((says_eq_zero _ _).1 h2).1).2
theorem cur_mem9 {l : List GEvent} {k : GKey} {o : GObject} (h : cur l k = some o) : ∃ e ∈ l, e.object = o := by
  unfold cur at h
  cases hg : (hits l k).getLast? with
  | none => rw [hg] at h; cases h
  | some e =>
    rw [hg] at h
    dsimp only at h
    by_cases h3 : e.kind = 3
    · rw [if_pos h3] at h; cases h
    · rw [if_neg h3] at h
      injection h with h
      have h4 := List.mem_of_getLast? hg
      exact ⟨e, (List.mem_filter.1 h4).1, h⟩
theorem goodL_do {S : St} (h : GoodL S) (x : GStoreStep) : GoodL (doS S x).1 := by
  unfold doS
  split
  · rcases create_cases S x.o with ⟨e, _⟩ | ⟨e, g, _⟩
    · rw [e]; exact h
    · rw [e]; have h9 := obj_labels g; exact goodL_put h h9
  · split
    · rcases update_cases S x.o with ⟨e, _⟩ | ⟨was, e, g, _⟩
      · rw [e]; exact h
      · rw [e]; have h9 := obj_labels g; exact goodL_put h h9
    · split
      · rcases remove_cases S x.o.okey x.rev with ⟨e, _⟩ | ⟨was, e, g⟩
        · rw [e]; exact h
        · rw [e]
          obtain ⟨ev, h1, h2⟩ := cur_mem9 g
          exact goodL_put h (h2 ▸ h ev h1)
      · intro e he
        rw [show (compact S (modI x.rev 3), noObj, compactE S (modI x.rev 3)).1 = compact S (modI x.rev 3) from rfl, grow_compact] at he
        exact h e he
theorem goodL_run {S : St} (h : GoodL S) : ∀ l : List GStoreStep, GoodL (run S l)
  | [] => h
  | x :: r => goodL_run (goodL_do h x) r
def curV (v : GView) (l : List GEvent) (k : GKey) : Option GObject := (cur l k).filter (showsV v)
theorem curV_nil (v : GView) : curV v [] = fun _ => none := rfl
theorem curV_some {v : GView} {l : List GEvent} {k : GKey} {o : GObject} : curV v l k = some o ↔ cur l k = some o ∧ showsV v o = true := by
  unfold curV
  rw [Option.filter_eq_some_iff]
theorem curV_key {v : GView} {l : List GEvent} {k : GKey} {o : GObject} (h : curV v l k = some o) : o.okey = k := cur_key (curV_some.1 h).1
def isF (M : GKey → Option GObject) (k : GKey) : Bool := (M k).isSome
def appM (M : GKey → Option GObject) (e : GEvent) : GKey → Option GObject := fun k => if k = e.object.okey then shown e else M k
def appMs (M : GKey → Option GObject) (l : List GEvent) : GKey → Option GObject := l.foldl appM M
theorem appMs_snoc (M : GKey → Option GObject) (l : List GEvent) (e : GEvent) : appMs M (l ++ [e]) = appM (appMs M l) e := by unfold appMs; rw [List.foldl_append]; rfl
theorem appMs_append (M : GKey → Option GObject) (l m : List GEvent) : appMs M (l ++ m) = appMs (appMs M l) m := List.foldl_append ..
structure Folds (a : Int) (M : GKey → Option GObject) (T : List GEvent) (M' : GKey → Option GObject) : Prop where
  all : appMs M T = M'
  one : ∀ i x, T[i]? = some x → isF (appMs M (T.take i)) x.object.okey = !decide (x.kind = 1) ∧ x.rev ≤ a
theorem Folds.nil (a : Int) (M : GKey → Option GObject) : Folds a M [] M := ⟨rfl, fun i x h => by simp at h⟩
theorem Folds.one1 {a : Int} {M : GKey → Option GObject} {x : GEvent} (h1 : isF M x.object.okey = !decide (x.kind = 1)) (h2 : x.rev ≤ a) : Folds a M [x] (appM M x) :=
  ⟨rfl, fun i y h => by
    cases i with
    | zero => have h9 : x = y := by simpa using h
              subst h9; exact ⟨h1, h2⟩
    | succ i => simp at h⟩
theorem Folds.trans {a b : Int} {M M' M2 : GKey → Option GObject} {T T' : List GEvent} (h : Folds a M T M') (k : Folds b M' T' M2) (hab : a ≤ b) : Folds b M (T ++ T') M2 :=
  ⟨by rw [appMs_append, h.all, k.all], fun i x hx => by
    by_cases hi : i < T.length
    · rw [List.getElem?_append_left hi] at hx
      rw [List.take_append_of_le_length (by omega)]
      exact ⟨(h.one i x hx).1, by have := (h.one i x hx).2; omega⟩
    · rw [List.getElem?_append_right (by omega)] at hx
      have h9 : (T ++ T').take i = T ++ T'.take (i - T.length) := by
        rw [List.take_append, List.take_of_length_le (by omega)]
      rw [h9, appMs_append, h.all]
      exact k.one _ x hx⟩
theorem curV_step (v : GView) {S : St} (hG : Good S) {i : Nat} {e : GEvent} (he : S.log[i]? = some e) :
    seenH v (isF (curV v (S.log.take i))) e = isF (curV v (S.log.take (i + 1))) ∧ Folds ((i : Int) + 1) (curV v (S.log.take i)) (seenE v (isF (curV v (S.log.take i))) e) (curV v (S.log.take (i + 1))) := by
  have hc := (replay_step hG he).2.2.2
  have hr := (replay_step hG he).1
  have hcv : ∀ k, curV v (S.log.take (i + 1)) k = if k = e.object.okey then (shown e).filter (showsV v) else curV v (S.log.take i) k := fun k => by
    unfold curV
    rw [hc k]
    by_cases h : k = e.object.okey
    · rw [if_pos h, if_pos h.symm]
    · rw [if_neg h, if_neg fun h9 => h h9.symm]
  have hn : ((shown e).filter (showsV v)).isSome = nowHas v e := by
    unfold shown nowHas
    by_cases h3 : e.kind = 3
    · rw [if_pos h3, decide_eq_false (fun h9 => h9 h3)]; rfl
    · rw [if_neg h3, decide_eq_true h3, Option.filter_some]
      cases showsV v e.object <;> rfl
  refine ⟨?_, ?_⟩
  · funext k
    unfold seenH isF
    rw [hcv k]
    by_cases h : k = e.object.okey
    · rw [if_pos h, if_pos h, hn]
    · rw [if_neg h, if_neg h]
  · generalize hM : curV v (S.log.take i) = M at hcv ⊢
    generalize curV v (S.log.take (i + 1)) = M' at hcv ⊢
    have hMe : ∀ y : GEvent, y.object = e.object → (shown y = (shown e).filter (showsV v)) → appM M y = M' := fun y hy hs => by
      funext k
      unfold appM
      rw [hcv k, hy, hs]
    unfold seenE seenK
    by_cases hb : nowHas v e = true
    · rw [if_pos hb]
      have hb9 := hb
      unfold nowHas at hb9
      rw [Bool.and_eq_true, decide_eq_true_iff] at hb9
      have hsh : (shown e).filter (showsV v) = some e.object := by
        unfold shown
        rw [if_neg hb9.1, Option.filter_some, hb9.2]
        rfl
      cases hh : isF M e.object.okey with
      | true =>
        have h9 := Folds.one1 (a := (i : Int) + 1) (M := M) (x := { e with kind := 2 }) (by rw [show ({ e with kind := 2 } : GEvent).object.okey = e.object.okey from rfl, hh]; rfl) (by show e.rev ≤ _; omega)
        rw [hMe { e with kind := 2 } rfl (by rw [hsh]; rfl)] at h9
        exact h9
      | false =>
        have h9 := Folds.one1 (a := (i : Int) + 1) (M := M) (x := { e with kind := 1 }) (by rw [show ({ e with kind := 1 } : GEvent).object.okey = e.object.okey from rfl, hh]; rfl) (by show e.rev ≤ _; omega)
        rw [hMe { e with kind := 1 } rfl (by rw [hsh]; rfl)] at h9
        exact h9
    · rw [if_neg hb]
      have hsh : (shown e).filter (showsV v) = none := by
        cases h9 : (shown e).filter (showsV v) with
        | none => rfl
        | some o => rw [h9] at hn; exact absurd hn.symm hb
      cases hh : isF M e.object.okey with
      | true =>
        rw [if_pos rfl]
        have h9 := Folds.one1 (a := (i : Int) + 1) (M := M) (x := { e with kind := 3 }) (by rw [show ({ e with kind := 3 } : GEvent).object.okey = e.object.okey from rfl, hh]; rfl) (by show e.rev ≤ _; omega)
        rw [hMe { e with kind := 3 } rfl (by rw [hsh]; rfl)] at h9
        exact h9
      | false =>
        rw [if_neg (by decide)]
        have h8 : M = M' := by
          funext k
          rw [hcv k]
          by_cases h : k = e.object.okey
          · rw [if_pos h, hsh, h]
            unfold isF at hh
            cases hm : M e.object.okey with
            | none => rfl
            | some o => rw [hm] at hh; cases hh
          · rw [if_neg h]
        rw [← h8]
        exact Folds.nil _ _
theorem curV_steps (v : GView) {S : St} (hG : Good S) (p : Nat) : ∀ j, p + j ≤ S.log.length →
    (foldT v ((S.log.drop p).take j) (isF (curV v (S.log.take p)))).2 = isF (curV v (S.log.take (p + j))) ∧ Folds (((p + j : Nat) : Int)) (curV v (S.log.take p)) (foldT v ((S.log.drop p).take j) (isF (curV v (S.log.take p)))).1 (curV v (S.log.take (p + j)))
  | 0, _ => ⟨by simp [foldT], by rw [List.take_zero, Nat.add_zero]; exact Folds.nil _ _⟩
  | j + 1, hj => by
    obtain ⟨h1, h2⟩ := curV_steps v hG p j (by omega)
    obtain ⟨e, he⟩ : ∃ e, S.log[p + j]? = some e := ⟨S.log[p + j]'(by omega), List.getElem?_eq_getElem _⟩
    have hd : (S.log.drop p)[j]? = some e := by rw [List.getElem?_drop]; exact he
    obtain ⟨g1, g2⟩ := curV_step v hG he
    rw [take_snoc hd, foldT_append, h1]
    have h3 : foldT v [e] (isF (curV v (S.log.take (p + j)))) = (seenE v (isF (curV v (S.log.take (p + j)))) e ++ [], seenH v (isF (curV v (S.log.take (p + j)))) e) := rfl
    rw [h3, List.append_nil]
    refine ⟨g1, ?_⟩
    have h9 := h2.trans g2 (by omega)
    exact h9
theorem foldT_len9 (v : GView) : ∀ (l : List GEvent) (H : GKey → Bool), (foldT v l H).1.length ≤ l.length
  | [], _ => Nat.le_refl _
  | x :: l, H => by
    show (seenE v H x ++ (foldT v l (seenH v H x)).1).length ≤ l.length + 1
    have h1 := seenE_len v H x
    have h2 := foldT_len9 v l (seenH v H x)
    rw [List.length_append]
    omega
theorem foldT_obj9 (v : GView) : ∀ (l : List GEvent) (H : GKey → Bool) (y : GEvent), y ∈ (foldT v l H).1 → ∃ x ∈ l, y.object = x.object
  | [], _, y, h => by cases h
  | x :: l, H, y, h => by
    rcases List.mem_append.1 (show y ∈ seenE v H x ++ (foldT v l (seenH v H x)).1 from h) with h | h
    · unfold seenE at h
      split at h
      · rw [List.mem_singleton] at h
        exact ⟨x, List.mem_cons_self, by rw [h]⟩
      · cases h
    · obtain ⟨z, h1, h2⟩ := foldT_obj9 v l (seenH v H x) y h
      exact ⟨z, List.mem_cons_of_mem _ h1, h2⟩
theorem took_is (v : GView) (most : Nat) {S : St} (hG : Good S) (p : Nat) (he : sinceE S p = 0) (h1 : 1 ≤ most) :
    p ≤ S.log.length ∧ ∃ q T, p ≤ q ∧ q ≤ S.log.length ∧ (p < S.log.length → p < q) ∧ T.length ≤ most ∧ p + T.length ≤ q ∧ (∀ y ∈ T, ∃ x ∈ S.log, y.object = x.object) ∧
      takeG v most (sinceL S p) [] (isF (curV v (S.log.take p))) p = (T, isF (curV v (S.log.take q)), (q : Int)) ∧ takeN v most (sinceL S p) [] (isF (curV v (S.log.take p))) = q - p ∧ Folds (q : Int) (curV v (S.log.take p)) T (curV v (S.log.take q)) := by
  have hp : p ≤ S.log.length := by
    unfold sinceE at he
    by_cases h : (p : Int) < 0 ∨ (S.rev : Int) < p
    · rw [if_pos h] at he; cases he
    · unfold St.rev at h; omega
  refine ⟨hp, ?_⟩
  have hl : sinceL S p = S.log.drop p := by unfold sinceL; rw [he]; rfl
  rw [hl]
  obtain ⟨j, g1, g2, g3, g4, g5, g6, g7⟩ := take_is v most (S.log.drop p) [] (isF (curV v (S.log.take p))) p (Nat.zero_le _)
  rw [List.length_drop] at g1 g2
  obtain ⟨f1, f2⟩ := curV_steps v hG p j (by omega)
  refine ⟨p + j, (foldT v ((S.log.drop p).take j) (isF (curV v (S.log.take p)))).1, Nat.le_add_right _ _, by omega, fun h => by have := g2 (by omega) h1; omega, ?_, by have h9 := foldT_len9 v ((S.log.drop p).take j) (isF (curV v (S.log.take p))); rw [List.length_take] at h9; omega, fun y hy => by obtain ⟨x, h8, h9⟩ := foldT_obj9 v _ _ y hy; exact ⟨x, List.mem_of_mem_drop (List.mem_of_mem_take h8), h9⟩, ?_, by rw [g7]; omega, f2⟩
  · rw [g3] at g6; exact g6
  · refine Prod.ext g3 (Prod.ext (g4.trans f1) (g5.trans ?_))
    by_cases hj : j = 0
    · rw [if_pos hj, hj]; rfl
    · rw [if_neg hj, List.getElem?_drop]
      have hlt : p + (j - 1) < S.log.length := by omega
      rw [List.getElem?_eq_getElem hlt]
      have hx := (hG.step (p + (j - 1)) _ (List.getElem?_eq_getElem hlt)).1
      rw [List.length_take] at hx
      show (S.log[p + (j - 1)]).rev = ((p + j : Nat) : Int)
      rw [hx]
      omega
def AllM (E : Dom) (w : World) (f : GKey → Option Value) (M : GKey → Option GObject) : Prop :=
  ∀ k, (M k = none → f k = none) ∧ ∀ o, M k = some o → ∃ v1 v2 v3, f k = some (objW o v1 v2 v3) ∧ ObjIn E w v1 v2 v3 o
section
variable {E : Dom} {w w' : World} {f : GKey → Option Value} {M : GKey → Option GObject}
theorem AllM.nil : AllM E w (fun _ => none) (fun _ => none) := fun k => ⟨fun _ => rfl, fun o h => by cases h⟩
theorem AllM.agree (h : AllM E w f M) (ha : Agree E w w') : AllM E w' f M := fun k => ⟨(h k).1, fun o ho => let ⟨v1, v2, v3, h1, h2⟩ := (h k).2 o ho; ⟨v1, v2, v3, h1, h2.agree ha⟩⟩
theorem AllM.mono {E' : Dom} (h : AllM E w f M) (hd : ∀ b, E b → E' b) : AllM E' w f M := fun k => ⟨(h k).1, fun o ho => let ⟨v1, v2, v3, h1, h2⟩ := (h k).2 o ho; ⟨v1, v2, v3, h1, h2.mono hd⟩⟩
theorem AllM.isF (h : AllM E w f M) (k : GKey) : (f k).isSome = isF M k := by
  unfold Sto.isF
  cases hm : M k with
  | none => rw [(h k).1 hm]; rfl
  | some o => obtain ⟨v1, v2, v3, h1, _⟩ := (h k).2 o hm; rw [h1]; rfl
theorem AllM.put (h : AllM E w f M) {e : GEvent} (hk : e.kind ≠ 3) {v1 v2 v3 : Value} (ho : ObjIn E w v1 v2 v3 e.object) : AllM E w (updK f e.object.okey (objW e.object v1 v2 v3)) (appM M e) := fun k => by
  unfold appM
  by_cases hek : k = e.object.okey
  · subst hek
    rw [if_pos rfl, updK_same]
    unfold shown
    rw [if_neg hk]
    exact ⟨(fun h9 => by cases h9), fun o h9 => by cases h9; exact ⟨v1, v2, v3, rfl, ho⟩⟩
  · rw [if_neg hek, updK_other f _ hek]
    exact h k
theorem AllM.del (h : AllM E w f M) {e : GEvent} (hk : e.kind = 3) : AllM E w (delK f e.object.okey) (appM M e) := fun k => by
  unfold appM
  by_cases hek : k = e.object.okey
  · subst hek
    rw [if_pos rfl, delK_same]
    unfold shown
    rw [if_pos hk]
    exact ⟨(fun _ => rfl), fun o h9 => by cases h9⟩
  · rw [if_neg hek, delK_other f hek]
    exact h k
theorem AllM.set (h : AllM E w f M) {o : GObject} {v1 v2 v3 : Value} (ho : ObjIn E w v1 v2 v3 o) : AllM E w (updK f o.okey (objW o v1 v2 v3)) (fun k => if k = o.okey then some o else M k) := fun k => by
  by_cases hek : k = o.okey
  · subst hek
    rw [updK_same]
    dsimp only
    rw [if_pos rfl]
    exact ⟨(fun h9 => by cases h9), fun o h9 => by cases h9; exact ⟨v1, v2, v3, rfl, ho⟩⟩
  · dsimp only
    rw [if_neg hek, updK_other f _ hek]
    exact h k
theorem AllM.here (h : AllM E w f M) {k : GKey} {v : Value} (hk : f k = some v) : ∃ o, M k = some o := by
  cases hc : M k with
  | none => rw [(h k).1 hc] at hk; cases hk
  | some o => exact ⟨o, rfl⟩
end
def listM (p : GObject → Bool) (l : List GObject) : GKey → Option GObject := l.foldl (fun M o => if p o = true then (fun k => if k = o.okey then some o else M k) else M) (fun _ => none)
theorem listM_snoc (p : GObject → Bool) (l : List GObject) (o : GObject) : listM p (l ++ [o]) = if p o = true then (fun k => if k = o.okey then some o else listM p l k) else listM p l := by
  unfold listM
  rw [List.foldl_append]
  rfl
theorem listM_part (p : GObject → Bool) (l : List GObject) (hn : (l.map (·.okey)).Nodup) : ∀ n, ∀ k o, listM p (l.take n) k = some o ↔ (o ∈ l.take n ∧ p o = true ∧ o.okey = k)
  | 0, k, o => by
    rw [List.take_zero]
    exact ⟨fun h => (by cases h), fun h => (by cases h.1)⟩
  | n + 1, k, o => by
    have ih := listM_part p l hn n
    by_cases hlt : n < l.length
    · obtain ⟨a, ha⟩ : ∃ a, l[n]? = some a := ⟨l[n], List.getElem?_eq_getElem hlt⟩
      have hn2 : ((l.take n ++ [a]).map (·.okey)).Nodup := by rw [← take_snoc ha]; exact hn.sublist ((List.take_sublist _ _).map _)
      rw [take_snoc ha]
      rw [List.map_append, List.nodup_append] at hn2
      obtain ⟨-, -, h2⟩ := hn2
      have h3 : ∀ o ∈ l.take n, o.okey ≠ a.okey := fun o ho => h2 o.okey (List.mem_map.2 ⟨o, ho, rfl⟩) a.okey (List.mem_map.2 ⟨a, List.mem_singleton.2 rfl, rfl⟩)
      rw [listM_snoc]
      by_cases hp : p a = true
      · rw [if_pos hp]
        by_cases hk : k = a.okey
        · rw [if_pos hk]
          constructor
          · intro h9
            injection h9 with h9
            subst h9
            exact ⟨List.mem_append_right _ (List.mem_singleton.2 rfl), hp, hk.symm⟩
          · rintro ⟨h9, h8, h7⟩
            rcases List.mem_append.1 h9 with h9 | h9
            · exact absurd (h7.trans hk) (h3 o h9)
            · rw [List.mem_singleton] at h9; rw [h9]
        · rw [if_neg hk, ih]
          constructor
          · rintro ⟨h9, h8, h7⟩
            exact ⟨List.mem_append_left _ h9, h8, h7⟩
          · rintro ⟨h9, h8, h7⟩
            rcases List.mem_append.1 h9 with h9 | h9
            · exact ⟨h9, h8, h7⟩
            · rw [List.mem_singleton] at h9; subst h9; exact absurd h7.symm hk
      · rw [if_neg hp, ih]
        constructor
        · rintro ⟨h9, h8, h7⟩
          exact ⟨List.mem_append_left _ h9, h8, h7⟩
        · rintro ⟨h9, h8, h7⟩
          rcases List.mem_append.1 h9 with h9 | h9
          · exact ⟨h9, h8, h7⟩
          · rw [List.mem_singleton] at h9; subst h9; exact absurd h8 hp
    · have h1 : l.take (n + 1) = l.take n := by rw [List.take_of_length_le (by omega), List.take_of_length_le (by omega)]
      rw [h1]
      exact ih k o
theorem listM_is (p : GObject → Bool) (l : List GObject) (hn : (l.map (·.okey)).Nodup) (k : GKey) (o : GObject) : listM p l k = some o ↔ (o ∈ l ∧ p o = true ∧ o.okey = k) := by
  have h := listM_part p l hn l.length k o
  rw [List.take_length] at h
  exact h
theorem listM_curV {v : GView} {l : List GEvent} {out : List GObject} (h : IsList l v.kind v.space out) (p : GObject → Bool) (hp : ∀ o ∈ out, p o = matchB v.reqs o.labels) : listM p out = curV v l := by
  funext k
  have h1 := listM_is p out (isList_keys h) k
  have h2 : ∀ o, listM p out k = some o ↔ curV v l k = some o := fun o => by
    rw [h1 o, curV_some]
    constructor
    · rintro ⟨g1, g2, g3⟩
      have g4 := (h.2 o).1 g1
      rw [g3] at g4
      refine ⟨g4.2, ?_⟩
      rw [hp o g1] at g2
      unfold showsV
      rw [g3]
      have g5 := g4.1
      unfold fitsK at g5
      rw [decide_eq_true g5.1, g2, Bool.true_and, Bool.and_true]
      rcases g5.2 with g6 | g6
      · rw [decide_eq_true g6]; rfl
      · rw [decide_eq_true g6, Bool.or_true]
    · rintro ⟨g1, g2⟩
      have g3 := cur_key g1
      unfold showsV at g2
      rw [Bool.and_eq_true, decide_eq_true_iff, Bool.and_eq_true, Bool.or_eq_true, decide_eq_true_iff, decide_eq_true_iff] at g2
      obtain ⟨g4, g5, g6⟩ := g2
      have g7 : o ∈ out := (h.2 o).2 ⟨⟨g4, g5⟩, by rw [g3]; exact g1⟩
      exact ⟨g7, by rw [hp o g7]; exact g6, g3⟩
  cases hc : curV v l k with
  | none =>
    cases hd : listM p out k with
    | none => rfl
    | some o => rw [(h2 o).1 hd] at hc; cases hc
  | some o => exact (h2 o).2 hc
theorem count_same {M : GKey → Option GObject} {ks ks' : List GKey} (h1 : ks.Nodup) (h2 : ks'.Nodup) (g1 : ∀ k, k ∈ ks ↔ isF M k = true) (g2 : ∀ k, k ∈ ks' ↔ isF M k = true) : ks.length = ks'.length :=
  ((List.perm_ext_iff_of_nodup h1 h2).2 fun k => (g1 k).trans (g2 k).symm).length_eq
theorem list_since {S : St} {p : Nat} (h : sinceE S p = 0) (hp : 0 < p) : timeE S p = 0 ∧ timeT S p = p := by
  unfold sinceE at h
  have h1 : ¬ ((p : Int) < 0 ∨ (S.rev : Int) < p) := fun h9 => by rw [if_pos h9] at h; cases h
  rw [if_neg h1] at h
  have h2 : ¬ ((p : Int) < S.comp) := fun h9 => by rw [if_pos h9] at h; cases h
  have h3 : timeE S p = 0 := by unfold timeE; rw [if_neg h1, if_neg (by omega), if_neg h2]
  refine ⟨h3, ?_⟩
  unfold timeT
  rw [h3, if_neg (by decide), if_neg (by omega)]
  rfl
theorem live_len : ∀ l : List GEvent, live l ≤ (l.length : Int)
  | [] => Int.le_refl _
  | e :: r => by
    have h1 := live_len r
    show live r + (if e.kind = 1 then 1 else if e.kind = 3 then -1 else 0) ≤ ((r.length + 1 : Nat) : Int)
    split
    · omega
    · split <;> omega
theorem list_len {S : St} (h : Good S) {n : Nat} (hn : n ≤ S.log.length) {kind space : ByteArray} {a : List GObject} (ha : IsList (S.log.take n) kind space a) : a.length ≤ n := by
  have h2 := live_keys (h.fit n hn) (a.map (·.okey)) (isList_keys ha) fun k hk => by
    obtain ⟨o, ho, rfl⟩ := List.mem_map.1 hk
    rw [((ha.2 o).1 ho).2]; rfl
  have h3 := live_len (S.log.take n)
  rw [List.length_map] at h2
  rw [List.length_take] at h3
  omega
end Sto
end Go.Proofs.YtnnceaapodgfbaaGreatDoor
namespace Go.Proofs.YtnnceaapodgfbaaGreatDoor
open Go.RowKit
def restOf (a b : Int) : Int := if a.tmod b < 0 then a.tmod b + b else a.tmod b
theorem restOf_in {a b : Int} (hb : 0 < b) : 0 ≤ restOf a b ∧ restOf a b < b := by
 have h1 := Int.tmod_lt_of_pos a hb
 have h2 : -b < a.tmod b := by
  have := Int.lt_tmod_of_pos a hb
  omega
 unfold restOf
 split <;> omega
theorem rest_any (a b : Int) (w : World) (hb : 0 < b) (hb2 : b ≤ 1073741824) : Calls Tryz.prog 29 #[.int .i64 a, .int .i64 b] w fun e w' => e = .returned (.int .i64 (restOf a b)) ∧ w = w' := by
 have h1 := Int.tmod_lt_of_pos a hb
 have h2 : -b < a.tmod b := by
  have := Int.lt_tmod_of_pos a hb
  omega
 have hb0 : (b == 0) = false := by rw [beq_eq_false_iff_ne]; omega
 by_cases h : a.tmod b < 0
 ·have hr : restOf a b = a.tmod b + b := by unfold restOf; rw [if_pos h]
  have Hr := Lib.hid hr
  have q1 : IntKind.i64.wrap (a.tmod b) = a.tmod b := IntWalk.i64_in _ (by omega)
  have q2 : IntKind.i64.wrap (a.tmod b + b) = a.tmod b + b := IntWalk.i64_in _ (by omega)
  clear hr
  go_enter Tryz.func29, Tryz.ntmps29
  go_wp2_with fail
  go_ret
  exact ⟨congrArg (fun x => Ending.returned (Value.int .i64 x)) Hr.out.symm, rfl⟩
 ·have hr : restOf a b = a.tmod b := by unfold restOf; rw [if_neg h]
  have Hr := Lib.hid hr
  have q1 : IntKind.i64.wrap (a.tmod b) = a.tmod b := IntWalk.i64_in _ (by omega)
  clear hr
  go_enter Tryz.func29, Tryz.ntmps29
  go_wp2_with fail
  go_ret
  exact ⟨congrArg (fun x => Ending.returned (Value.int .i64 x)) Hr.out.symm, rfl⟩
end Go.Proofs.YtnnceaapodgfbaaGreatDoor
