/- Texts of ours joined. -/
import Derived.Lib.Hide
import Derived.IntWalk
import Derived.Test.YtnnceaapodgfbaaGreatDoorMv9
set_option linter.unusedVariables false
set_option linter.unusedSimpArgs false
namespace Go.Proofs.YtnnceaapodgfbaaGreatDoor
namespace Sto
open Go.RowKit
def EvR : Rd GEvent := fun w cs x => ∃ v1 v2 v3, cs = [.int .i64 x.kind, .int .i64 x.rev, .string x.object.okey.kind, .string x.object.okey.space, .string x.object.okey.name, v1, v2, v3, .bool x.object.ending, .string x.object.uid, .int .i64 x.object.rev, .string x.object.doc] ∧ RowAt LabelR 2 w v1 x.object.labels ∧ StrAt w v2 x.object.owners ∧ StrAt w v3 x.object.holds
theorem stays_ev : Stays EvR := fun w w' cs x hk ⟨v1, v2, v3, h, h1, h2, h3⟩ => ⟨v1, v2, v3, h, h1.keep stays_label hk, h2.keep hk, h3.keep hk⟩
abbrev okEvS (x : GEvent) : Prop := OkObj x.object
set_option maxRecDepth 100000 in
set_option maxHeartbeats 3200000 in
theorem sameEvS_yes (x : GEvent) (y1 z1 y2 z2 y3 z3 : Value) (w : World) (hx : EvR w [.int .i64 x.kind, .int .i64 x.rev, .string x.object.okey.kind, .string x.object.okey.space, .string x.object.okey.name, y1, y2, y3, .bool x.object.ending, .string x.object.uid, .int .i64 x.object.rev, .string x.object.doc] x) (hy : EvR w [.int .i64 x.kind, .int .i64 x.rev, .string x.object.okey.kind, .string x.object.okey.space, .string x.object.okey.name, z1, z2, z3, .bool x.object.ending, .string x.object.uid, .int .i64 x.object.rev, .string x.object.doc] x) (ok : okEvS x) :
    Calls Tryz.prog 39 #[.agg #[.int .i64 x.kind, .int .i64 x.rev, .string x.object.okey.kind, .string x.object.okey.space, .string x.object.okey.name, y1, y2, y3, .bool x.object.ending, .string x.object.uid, .int .i64 x.object.rev, .string x.object.doc], .agg #[.int .i64 x.kind, .int .i64 x.rev, .string x.object.okey.kind, .string x.object.okey.space, .string x.object.okey.name, z1, z2, z3, .bool x.object.ending, .string x.object.uid, .int .i64 x.object.rev, .string x.object.doc]] w fun e w' => e = .returned (.bool true) ∧ Below w.heap.size w w' := by
  obtain ⟨v1, v2, v3, hcs, p1, p2, p3⟩ := hx
  obtain ⟨u1, u2, u3, hdd, r1, r2, r3⟩ := hy
  simp only [List.cons.injEq, and_true, true_and] at hcs hdd
  obtain ⟨rfl, rfl, rfl⟩ := hcs
  obtain ⟨rfl, rfl, rfl⟩ := hdd
  obtain ⟨W, hW⟩ : ∃ W, W = (w.alloc (.cells #[.int .i64 x.kind, .int .i64 x.rev, .string x.object.okey.kind, .string x.object.okey.space, .string x.object.okey.name, y1, y2, y3, .bool x.object.ending, .string x.object.uid, .int .i64 x.object.rev, .string x.object.doc] 56)).alloc (.cells #[.int .i64 x.kind, .int .i64 x.rev, .string x.object.okey.kind, .string x.object.okey.space, .string x.object.okey.name, z1, z2, z3, .bool x.object.ending, .string x.object.uid, .int .i64 x.object.rev, .string x.object.doc] 56) := ⟨_, rfl⟩
  obtain ⟨ga, hga⟩ : ∃ g, g = w.heap.size := ⟨_, rfl⟩
  obtain ⟨gb, hgb⟩ : ∃ g, g = w.heap.size + 1 := ⟨_, rfl⟩
  have BA := Lib.hid (show W.heap[ga]? = some (.cells #[.int .i64 x.kind, .int .i64 x.rev, .string x.object.okey.kind, .string x.object.okey.space, .string x.object.okey.name, y1, y2, y3, .bool x.object.ending, .string x.object.uid, .int .i64 x.object.rev, .string x.object.doc] 56 (0, 0)) by rw [hW, hga]; exact heap_alloc_old (heap_alloc_new w _))
  have BB := Lib.hid (show W.heap[gb]? = some (.cells #[.int .i64 x.kind, .int .i64 x.rev, .string x.object.okey.kind, .string x.object.okey.space, .string x.object.okey.name, z1, z2, z3, .bool x.object.ending, .string x.object.uid, .int .i64 x.object.rev, .string x.object.doc] 56 (0, 0)) by rw [hW, hgb]; exact heap_alloc_at (World.size_alloc _ _).symm)
  have hb1 : Below w.heap.size w W := by rw [hW]; exact ((Below.refl _ w).alloc (Nat.le_refl _) _).alloc (by rw [World.size_alloc]; omega) _
  have HB1 := Lib.hid hb1
  have HS := Lib.hid (sameObj_yes x.object y1 y2 y3 z1 z2 z3 W (p1.below stays_label hb1) (p2.below hb1) (p3.below hb1) (r1.below stays_label hb1) (r2.below hb1) (r3.below hb1) ok)
  rw [show objW x.object y1 y2 y3 = .agg #[.string x.object.okey.kind, .string x.object.okey.space, .string x.object.okey.name, y1, y2, y3, .bool x.object.ending, .string x.object.uid, .int .i64 x.object.rev, .string x.object.doc] from rfl, show objW x.object z1 z2 z3 = .agg #[.string x.object.okey.kind, .string x.object.okey.space, .string x.object.okey.name, z1, z2, z3, .bool x.object.ending, .string x.object.uid, .int .i64 x.object.rev, .string x.object.doc] from rfl] at HS
  have ca := fun i => cell_block BA.out i
  have cb := fun i => cell_block BB.out i
  obtain ⟨a1, c1, rfl, -, -⟩ := p1.len
  obtain ⟨a2, c2, rfl, -, -⟩ := p2.row.len
  obtain ⟨a3, c3, rfl, -, -⟩ := p3.row.len
  obtain ⟨b1, d1, rfl, -, -⟩ := r1.len
  obtain ⟨b2, d2, rfl, -, -⟩ := r2.row.len
  obtain ⟨b3, d3, rfl, -, -⟩ := r3.row.len
  clear p1 p2 p3 r1 r2 r3 ok hb1
  go_enter Tryz.func39, Tryz.ntmps39
  go_upto_region 1 with fail
  rw [← hgb, ← hga, ← hW]
  clear hW hga hgb
  go_wp2_with fail
  refine HS.out.mono ?_
  rintro E w3 ⟨rfl, hb3⟩
  have HB3 := Lib.hid (HB1.out.trans (hb3.mono HB1.out.size))
  clear hb3
  go_wp2_with fail
  go_ret
  exact ⟨by first | rfl | simp, HB3.out⟩
theorem run_sameEvS : ∀ (a : Array Value) (w : World), (callFunc 39 a).run Tryz.prog w = .ok (.enter 39 a) w := run_callFunc_body Tryz.func39 (by kernel_rfl) (by kernel_rfl)
set_option maxRecDepth 100000 in
set_option maxHeartbeats 3200000 in
theorem sameEvSs_yes (v1 v2 : Value) (l : List GEvent) (w : World) (h1 : RowAt EvR 12 w v1 l) (h2 : RowAt EvR 12 w v2 l) (hl : l.length ≤ 8388608) (ok : ∀ r ∈ l, okEvS r) :
    Calls Tryz.prog 38 #[v1, v2, .func (.func 39) #[] #[]] w fun e w' => e = .returned (.bool true) ∧ Below w.heap.size w w' := by
  obtain ⟨a1, c1, rfl, _, _⟩ := h1.len
  obtain ⟨a2, c2, rfl, _, _⟩ := h2.len
  have H1 := Lib.hid h1
  have H2 := Lib.hid h2
  have Ok := Lib.hid ok
  obtain ⟨n, hn⟩ : ∃ n, l.length = n := ⟨_, rfl⟩
  rw [hn] at H1 H2 hl ⊢
  have Hn := Lib.hid hn
  clear h1 h2 ok hn
  have q1 : ((n : Int) != (n : Int)) = false := by rw [bne_eq_false_iff_eq]
  go_enter Tryz.func38, Tryz.ntmps38
  go_wp2_with fail
  clear q1
  go_loopg [15] n (fun g u15 wr => ∃ i : Nat, i + g = n ∧ u15 = .int .i64 (i : Int) ∧ Hid (Below w.heap.size w wr))
  case atStart => exact ⟨0, by omega, rfl, Lib.hid (Below.refl _ _)⟩
  case round =>
    obtain ⟨i, hig, rfl, Hbel⟩ := hrel
    cases gk with
    | zero =>
      obtain rfl : n = i := by omega
      go_wp2_with fail
      go_ret
      exact ⟨rfl, Hbel.out⟩
    | succ k =>
      have hil : i < n := by omega
      obtain ⟨x, hx⟩ : ∃ x, l[i]? = some x := ⟨l[i]'(by rw [Hn.out]; exact hil), List.getElem?_eq_getElem _⟩
      obtain ⟨b, o, c', hv, _, _, hbs, hcell⟩ := H1.out.form (by rw [Hn.out]; omega) (by omega)
      injection hv with u1 u2 u3
      subst u1
      clear u2 u3
      obtain ⟨b', o', c'', hv, _, _, hbs', hcell'⟩ := H2.out.form (by rw [Hn.out]; omega) (by omega)
      injection hv with u1 u2 u3
      subst u1
      clear u2 u3
      obtain ⟨ds, _, hcc, hR⟩ := hcell i x hx
      obtain ⟨es, _, hdd, hS⟩ := hcell' i x hx
      have SR := stays_ev _ _ _ _ (keeps_below Hbel.out) hR
      have SS := stays_ev _ _ _ _ (keeps_below Hbel.out) hS
      have SR2 := SR
      have SS2 := SS
      obtain ⟨y1, y2, y3, rfl, _⟩ := SR2
      obtain ⟨z1, z2, z3, rfl, _⟩ := SS2
      have e0 : wr.cell? ⟨b, o + i * 12, none⟩ = some (.int .i64 x.kind) := (Hbel.out.cell (p := ⟨b, _, none⟩) hbs).trans (by simpa using hcc 0 _ rfl)
      have f0 : wr.cell? ⟨b', o' + i * 12, none⟩ = some (.int .i64 x.kind) := (Hbel.out.cell (p := ⟨b', _, none⟩) hbs').trans (by simpa using hdd 0 _ rfl)
      have e1 : wr.cell? ⟨b, o + i * 12 + 1, none⟩ = some (.int .i64 x.rev) := (Hbel.out.cell (p := ⟨b, _, none⟩) hbs).trans (hcc 1 _ rfl)
      have f1 : wr.cell? ⟨b', o' + i * 12 + 1, none⟩ = some (.int .i64 x.rev) := (Hbel.out.cell (p := ⟨b', _, none⟩) hbs').trans (hdd 1 _ rfl)
      have e2 : wr.cell? ⟨b, o + i * 12 + 2, none⟩ = some (.string x.object.okey.kind) := (Hbel.out.cell (p := ⟨b, _, none⟩) hbs).trans (hcc 2 _ rfl)
      have f2 : wr.cell? ⟨b', o' + i * 12 + 2, none⟩ = some (.string x.object.okey.kind) := (Hbel.out.cell (p := ⟨b', _, none⟩) hbs').trans (hdd 2 _ rfl)
      have e3 : wr.cell? ⟨b, o + i * 12 + 3, none⟩ = some (.string x.object.okey.space) := (Hbel.out.cell (p := ⟨b, _, none⟩) hbs).trans (hcc 3 _ rfl)
      have f3 : wr.cell? ⟨b', o' + i * 12 + 3, none⟩ = some (.string x.object.okey.space) := (Hbel.out.cell (p := ⟨b', _, none⟩) hbs').trans (hdd 3 _ rfl)
      have e4 : wr.cell? ⟨b, o + i * 12 + 4, none⟩ = some (.string x.object.okey.name) := (Hbel.out.cell (p := ⟨b, _, none⟩) hbs).trans (hcc 4 _ rfl)
      have f4 : wr.cell? ⟨b', o' + i * 12 + 4, none⟩ = some (.string x.object.okey.name) := (Hbel.out.cell (p := ⟨b', _, none⟩) hbs').trans (hdd 4 _ rfl)
      have e5 : wr.cell? ⟨b, o + i * 12 + 5, none⟩ = some (y1) := (Hbel.out.cell (p := ⟨b, _, none⟩) hbs).trans (hcc 5 _ rfl)
      have f5 : wr.cell? ⟨b', o' + i * 12 + 5, none⟩ = some (z1) := (Hbel.out.cell (p := ⟨b', _, none⟩) hbs').trans (hdd 5 _ rfl)
      have e6 : wr.cell? ⟨b, o + i * 12 + 6, none⟩ = some (y2) := (Hbel.out.cell (p := ⟨b, _, none⟩) hbs).trans (hcc 6 _ rfl)
      have f6 : wr.cell? ⟨b', o' + i * 12 + 6, none⟩ = some (z2) := (Hbel.out.cell (p := ⟨b', _, none⟩) hbs').trans (hdd 6 _ rfl)
      have e7 : wr.cell? ⟨b, o + i * 12 + 7, none⟩ = some (y3) := (Hbel.out.cell (p := ⟨b, _, none⟩) hbs).trans (hcc 7 _ rfl)
      have f7 : wr.cell? ⟨b', o' + i * 12 + 7, none⟩ = some (z3) := (Hbel.out.cell (p := ⟨b', _, none⟩) hbs').trans (hdd 7 _ rfl)
      have e8 : wr.cell? ⟨b, o + i * 12 + 8, none⟩ = some (.bool x.object.ending) := (Hbel.out.cell (p := ⟨b, _, none⟩) hbs).trans (hcc 8 _ rfl)
      have f8 : wr.cell? ⟨b', o' + i * 12 + 8, none⟩ = some (.bool x.object.ending) := (Hbel.out.cell (p := ⟨b', _, none⟩) hbs').trans (hdd 8 _ rfl)
      have e9 : wr.cell? ⟨b, o + i * 12 + 9, none⟩ = some (.string x.object.uid) := (Hbel.out.cell (p := ⟨b, _, none⟩) hbs).trans (hcc 9 _ rfl)
      have f9 : wr.cell? ⟨b', o' + i * 12 + 9, none⟩ = some (.string x.object.uid) := (Hbel.out.cell (p := ⟨b', _, none⟩) hbs').trans (hdd 9 _ rfl)
      have e10 : wr.cell? ⟨b, o + i * 12 + 10, none⟩ = some (.int .i64 x.object.rev) := (Hbel.out.cell (p := ⟨b, _, none⟩) hbs).trans (hcc 10 _ rfl)
      have f10 : wr.cell? ⟨b', o' + i * 12 + 10, none⟩ = some (.int .i64 x.object.rev) := (Hbel.out.cell (p := ⟨b', _, none⟩) hbs').trans (hdd 10 _ rfl)
      have e11 : wr.cell? ⟨b, o + i * 12 + 11, none⟩ = some (.string x.object.doc) := (Hbel.out.cell (p := ⟨b, _, none⟩) hbs).trans (hcc 11 _ rfl)
      have f11 : wr.cell? ⟨b', o' + i * 12 + 11, none⟩ = some (.string x.object.doc) := (Hbel.out.cell (p := ⟨b', _, none⟩) hbs').trans (hdd 11 _ rfl)
      have q1 : (0 : Int) ≤ (i : Int) := by omega
      have q2 : (i : Int) < (n : Int) := by omega
      have hb0 : b < wr.heap.size := Nat.lt_of_lt_of_le hbs Hbel.out.size
      have hb1 : b' < wr.heap.size := Nat.lt_of_lt_of_le hbs' Hbel.out.size
      have hokx := Ok.out x (List.mem_of_getElem? hx)
      have HC : Hid (∀ w', Below wr.heap.size wr w' → Calls Tryz.prog 39 #[.agg #[.int .i64 x.kind, .int .i64 x.rev, .string x.object.okey.kind, .string x.object.okey.space, .string x.object.okey.name, y1, y2, y3, .bool x.object.ending, .string x.object.uid, .int .i64 x.object.rev, .string x.object.doc], .agg #[.int .i64 x.kind, .int .i64 x.rev, .string x.object.okey.kind, .string x.object.okey.space, .string x.object.okey.name, z1, z2, z3, .bool x.object.ending, .string x.object.uid, .int .i64 x.object.rev, .string x.object.doc]] w' fun e w'' => e = .returned (.bool true) ∧ Below wr.heap.size wr w'') := Lib.hid fun w' hb' => by
        refine (sameEvS_yes x y1 z1 y2 z2 y3 z3 w' (stays_ev _ _ _ _ (keeps_below hb') SR) (stays_ev _ _ _ _ (keeps_below hb') SS) hokx).mono ?_
        rintro E w'' ⟨rfl, hb''⟩
        exact ⟨rfl, hb'.trans (hb''.mono hb'.size)⟩
      clear hcell hcell' hx hcc hdd hR hS SR SS hokx hbs hbs'
      go_upto_region 6 with fail
      refine wp_region_hold 10 (fun w' => Below wr.heap.size wr w') (by kernel_rfl) (by kernel_rfl) ?_ ?_
      · exact below_drew1' wr
      simp only [List.take_succ_cons, List.take_zero, List.drop_succ_cons, List.drop_zero]
      (first | (refine wpHold_pure (v := ?_) (by rfl) (fun w => ?_) ?_; rotate_left; focus (first | (go_simp; done) | (go_simp; with_reducible rfl))) | (refine wpHold_skip ?_ ?_; focus (go_simp; done)) | (refine wpHold_pure' (v := ?_) ?_ (fun w => ?_) ?_; rotate_left; focus (go_simp; done); focus (first | (go_simp; done) | (go_simp; with_reducible rfl)))); try simp only [Act.put, List.setIfInBounds_toArray, List.set_cons_zero, List.set_cons_succ]
      (first | (refine wpHold_pure (v := ?_) (by rfl) (fun w => ?_) ?_; rotate_left; focus (first | (go_simp; done) | (go_simp; with_reducible rfl))) | (refine wpHold_skip ?_ ?_; focus (go_simp; done)) | (refine wpHold_pure' (v := ?_) ?_ (fun w => ?_) ?_; rotate_left; focus (go_simp; done); focus (first | (go_simp; done) | (go_simp; with_reducible rfl)))); try simp only [Act.put, List.setIfInBounds_toArray, List.set_cons_zero, List.set_cons_succ]
      (first | (refine wpHold_pure (v := ?_) (by rfl) (fun w => ?_) ?_; rotate_left; focus (first | (go_simp; done) | (go_simp; with_reducible rfl))) | (refine wpHold_skip ?_ ?_; focus (go_simp; done)) | (refine wpHold_pure' (v := ?_) ?_ (fun w => ?_) ?_; rotate_left; focus (go_simp; done); focus (first | (go_simp; done) | (go_simp; with_reducible rfl)))); try simp only [Act.put, List.setIfInBounds_toArray, List.set_cons_zero, List.set_cons_succ]
      refine wpHold_pure (v := .pointer (some ⟨b, o + i * 12, none⟩)) (by rfl) (fun w' => ?_) ?_
      · go_simp
        done
      try simp only [Act.put, List.setIfInBounds_toArray, List.set_cons_zero, List.set_cons_succ]
      refine wpHold_read (v := .agg #[.int .i64 x.kind, .int .i64 x.rev, .string x.object.okey.kind, .string x.object.okey.space, .string x.object.okey.name, y1, y2, y3, .bool x.object.ending, .string x.object.uid, .int .i64 x.object.rev, .string x.object.doc]) (by rfl) (fun w' hI => ?_) ?_
      · have d0 := (hI.cell (p := ⟨b, o + i * 12, none⟩) hb0).trans e0
        have d1 := (hI.cell (p := ⟨b, o + i * 12 + 1, none⟩) hb0).trans e1
        have d2 := (hI.cell (p := ⟨b, o + i * 12 + 2, none⟩) hb0).trans e2
        have d3 := (hI.cell (p := ⟨b, o + i * 12 + 3, none⟩) hb0).trans e3
        have d4 := (hI.cell (p := ⟨b, o + i * 12 + 4, none⟩) hb0).trans e4
        have d5 := (hI.cell (p := ⟨b, o + i * 12 + 5, none⟩) hb0).trans e5
        have d6 := (hI.cell (p := ⟨b, o + i * 12 + 6, none⟩) hb0).trans e6
        have d7 := (hI.cell (p := ⟨b, o + i * 12 + 7, none⟩) hb0).trans e7
        have d8 := (hI.cell (p := ⟨b, o + i * 12 + 8, none⟩) hb0).trans e8
        have d9 := (hI.cell (p := ⟨b, o + i * 12 + 9, none⟩) hb0).trans e9
        have d10 := (hI.cell (p := ⟨b, o + i * 12 + 10, none⟩) hb0).trans e10
        have d11 := (hI.cell (p := ⟨b, o + i * 12 + 11, none⟩) hb0).trans e11
        go_simp
        done
      try simp only [Act.put, List.setIfInBounds_toArray, List.set_cons_zero, List.set_cons_succ]
      (first | (refine wpHold_pure (v := ?_) (by rfl) (fun w => ?_) ?_; rotate_left; focus (first | (go_simp; done) | (go_simp; with_reducible rfl))) | (refine wpHold_skip ?_ ?_; focus (go_simp; done)) | (refine wpHold_pure' (v := ?_) ?_ (fun w => ?_) ?_; rotate_left; focus (go_simp; done); focus (first | (go_simp; done) | (go_simp; with_reducible rfl)))); try simp only [Act.put, List.setIfInBounds_toArray, List.set_cons_zero, List.set_cons_succ]
      (first | (refine wpHold_pure (v := ?_) (by rfl) (fun w => ?_) ?_; rotate_left; focus (first | (go_simp; done) | (go_simp; with_reducible rfl))) | (refine wpHold_skip ?_ ?_; focus (go_simp; done)) | (refine wpHold_pure' (v := ?_) ?_ (fun w => ?_) ?_; rotate_left; focus (go_simp; done); focus (first | (go_simp; done) | (go_simp; with_reducible rfl)))); try simp only [Act.put, List.setIfInBounds_toArray, List.set_cons_zero, List.set_cons_succ]
      refine wpHold_pure (v := .pointer (some ⟨b', o' + i * 12, none⟩)) (by rfl) (fun w' => ?_) ?_
      · go_simp
        done
      try simp only [Act.put, List.setIfInBounds_toArray, List.set_cons_zero, List.set_cons_succ]
      refine wpHold_read (v := .agg #[.int .i64 x.kind, .int .i64 x.rev, .string x.object.okey.kind, .string x.object.okey.space, .string x.object.okey.name, z1, z2, z3, .bool x.object.ending, .string x.object.uid, .int .i64 x.object.rev, .string x.object.doc]) (by rfl) (fun w' hI => ?_) ?_
      · have d0 := (hI.cell (p := ⟨b', o' + i * 12, none⟩) hb1).trans f0
        have d1 := (hI.cell (p := ⟨b', o' + i * 12 + 1, none⟩) hb1).trans f1
        have d2 := (hI.cell (p := ⟨b', o' + i * 12 + 2, none⟩) hb1).trans f2
        have d3 := (hI.cell (p := ⟨b', o' + i * 12 + 3, none⟩) hb1).trans f3
        have d4 := (hI.cell (p := ⟨b', o' + i * 12 + 4, none⟩) hb1).trans f4
        have d5 := (hI.cell (p := ⟨b', o' + i * 12 + 5, none⟩) hb1).trans f5
        have d6 := (hI.cell (p := ⟨b', o' + i * 12 + 6, none⟩) hb1).trans f6
        have d7 := (hI.cell (p := ⟨b', o' + i * 12 + 7, none⟩) hb1).trans f7
        have d8 := (hI.cell (p := ⟨b', o' + i * 12 + 8, none⟩) hb1).trans f8
        have d9 := (hI.cell (p := ⟨b', o' + i * 12 + 9, none⟩) hb1).trans f9
        have d10 := (hI.cell (p := ⟨b', o' + i * 12 + 10, none⟩) hb1).trans f10
        have d11 := (hI.cell (p := ⟨b', o' + i * 12 + 11, none⟩) hb1).trans f11
        go_simp
        done
      try simp only [Act.put, List.setIfInBounds_toArray, List.set_cons_zero, List.set_cons_succ]
      refine wpHold_call (v := .bool true) (f := 39) (args := #[.agg #[.int .i64 x.kind, .int .i64 x.rev, .string x.object.okey.kind, .string x.object.okey.space, .string x.object.okey.name, y1, y2, y3, .bool x.object.ending, .string x.object.uid, .int .i64 x.object.rev, .string x.object.doc], .agg #[.int .i64 x.kind, .int .i64 x.rev, .string x.object.okey.kind, .string x.object.okey.space, .string x.object.okey.name, z1, z2, z3, .bool x.object.ending, .string x.object.uid, .int .i64 x.object.rev, .string x.object.doc]]) (by rfl) (fun w' => ?_) (fun w' hI => HC.out w' hI) ?_
      · simp only [run_sameEvS, go_sem]
        go_simp
        done
      try simp only [Act.put, List.setIfInBounds_toArray, List.set_cons_zero, List.set_cons_succ]
      refine wpHold_nil ?_
      intro w' hI
      have Hb' := Lib.hid (Hbel.out.trans (hI.mono Hbel.out.size))
      clear hI e0 f0 e1 f1 e2 f2 e3 f3 e4 f4 e5 f5 e6 f6 e7 f7 e8 f8 e9 f9 e10 f10 e11 f11 HC
      go_wp2_with fail
      go_roundg k
      case measure => omega
      case rel => exact ⟨i + 1, by omega, by go_num, Hb'⟩
theorem evs_row {D : Dom} {w : World} {T : TypeId} {v : Value} {l : List GEvent} (h : OwnX EvX 12 D w T v l) : RowAt EvR 12 w v l := by
  have h1 : OwnAt EvR 12 w 0 T v l := h.1.imp' fun cs x hx ⟨v1, v2, v3, e, hi⟩ => ⟨v1, v2, v3, e, hi.rowL, hi.rowO, hi.rowH⟩
  exact h1.row
end Sto
end Go.Proofs.YtnnceaapodgfbaaGreatDoor
namespace Go.Proofs.YtnnceaapodgfbaaGreatDoor
namespace Sto
open Go.RowKit
open JP (Bs)
structure OnceIs (S : St) (k : GKey) (doc other : ByteArray) : Prop where
  no : getE S k 0 ≠ 0 → (remove S k 0).2.2 = getE S k 0
  yes : getE S k 0 = 0 → ∀ o Ua Ub, o = getO S k 0 → Ua = update S { o with doc := doc } → Ub = update Ua.1 { o with doc := other } →
    getE Ub.1 k 0 = 0 ∧ (Ua.2.2 = 0 → (Ub.2.2 = 12 ∨ objE { o with doc := other } = Ub.2.2) ∧ Ub.2.2 ≠ 0 ∧ Ub.1.rev = S.rev + 1 ∧ getO Ub.1 k 0 = Ua.2.1 ∧ Ua.2.1.rev = (S.rev : Int) + 1) ∧
    (Ua.2.2 ≠ 0 → Ub.2.2 = 0 → Ub.1.rev = S.rev + 1 ∧ getO Ub.1 k 0 = Ub.2.1) ∧ (Ua.2.2 ≠ 0 → Ub.2.2 ≠ 0 → Ub.1.rev = S.rev ∧ (getO Ub.1 k 0).rev = o.rev)
end Sto
end Go.Proofs.YtnnceaapodgfbaaGreatDoor
namespace Go.Proofs.YtnnceaapodgfbaaGreatDoor
open Go.RowKit
def restOf (a b : Int) : Int := if a.tmod b < 0 then a.tmod b + b else a.tmod b
theorem restOf_in {a b : Int} (hb : 0 < b) : 0 ≤ restOf a b ∧ restOf a b < b := by
  have h1 := Int.tmod_lt_of_pos a hb
  have h2 : -b < a.tmod b := by
    have := Int.lt_tmod_of_pos a hb
    omega
  unfold restOf
  split <;> omega
theorem rest_any (a b : Int) (w : World) (hb : 0 < b) (hb2 : b ≤ 1073741824) : Calls Tryz.prog 29 #[.int .i64 a, .int .i64 b] w fun e w' => e = .returned (.int .i64 (restOf a b)) ∧ w = w' := by
  have h1 := Int.tmod_lt_of_pos a hb
  have h2 : -b < a.tmod b := by
    have := Int.lt_tmod_of_pos a hb
    omega
  have hb0 : (b == 0) = false := by rw [beq_eq_false_iff_ne]; omega
  by_cases h : a.tmod b < 0
  · have hr : restOf a b = a.tmod b + b := by unfold restOf; rw [if_pos h]
    have Hr := Lib.hid hr
    have q1 : IntKind.i64.wrap (a.tmod b) = a.tmod b := IntWalk.i64_in _ (by omega)
    have q2 : IntKind.i64.wrap (a.tmod b + b) = a.tmod b + b := IntWalk.i64_in _ (by omega)
    clear hr
    go_enter Tryz.func29, Tryz.ntmps29
    go_wp2_with fail
    go_ret
    exact ⟨congrArg (fun x => Ending.returned (Value.int .i64 x)) Hr.out.symm, rfl⟩
  · have hr : restOf a b = a.tmod b := by unfold restOf; rw [if_neg h]
    have Hr := Lib.hid hr
    have q1 : IntKind.i64.wrap (a.tmod b) = a.tmod b := IntWalk.i64_in _ (by omega)
    clear hr
    go_enter Tryz.func29, Tryz.ntmps29
    go_wp2_with fail
    go_ret
    exact ⟨congrArg (fun x => Ending.returned (Value.int .i64 x)) Hr.out.symm, rfl⟩
end Go.Proofs.YtnnceaapodgfbaaGreatDoor
namespace Go.Proofs.YtnnceaapodgfbaaGreatDoor
namespace Sto
open Go.RowKit
theorem restOf_mod {a b : Int} (hb : 0 < b) : restOf a b = a % b := by
  unfold restOf
  rw [Int.tmod_eq_emod]
  have h1 := Int.emod_nonneg a (by omega : b ≠ 0)
  have h2 := Int.emod_lt_of_pos a hb
  have h3 : (b.natAbs : Int) = b := by omega
  (repeat' split) <;> omega
theorem step_any (a b : Int) (w : World) (hb : 0 < b) (hb2 : b ≤ 1073741824) : Calls Tryz.prog 21 #[.int .i64 a, .int .i64 b] w fun e w' => e = .returned (.int .i64 (modI a b)) ∧ w = w' := by
  have H := Lib.hid (rest_any a b w hb hb2)
  rw [restOf_mod hb] at H
  have h1 := Int.emod_nonneg a (by omega : b ≠ 0)
  have h2 := Int.emod_lt_of_pos a hb
  have q1 : IntKind.i64.wrap (a % b) = a % b := IntWalk.i64_in _ (by omega)
  clear h1 h2
  go_enter Tryz.func21, Tryz.ntmps21
  go_wp2_with fail
  refine H.out.mono ?_
  rintro E w1 ⟨rfl, rfl⟩
  go_wp2_with fail
  go_ret
  exact ⟨rfl, rfl⟩
theorem did_box {D D' E : Dom} {w w2 w3 w4 : World} {g go : Nat} {T : Told} {u1 u2 u3 : Value} (hb : Below w.heap.size w w2) (hD : ∀ b, D b → b < w.heap.size) (hgo : w.heap.size ≤ go ∧ go < w2.heap.size) (h1 : StoreAt D' w3 g T.1) (h2 : ObjIn E w3 u1 u2 u3 T.2.1) (h3 : ∀ b, E b → w2.heap.size ≤ b ∧ b < w3.heap.size ∧ ¬ D' b) (h4 : ∀ b, D' b → D b ∨ w2.heap.size ≤ b) (h5 : Only D w2 w3) (ht : Touch go w3 w4) :
    Did D w g T (.returned (.tuple #[objW T.2.1 u1 u2 u3, .int .i64 T.2.2])) w4 := by
  have s1 := hb.size
  have s2 := ht.size
  have n1 : ∀ b, D' b → b ≠ go := fun b hb9 e => by
    rcases h4 b hb9 with h | h
    · have := hD b h; omega
    · omega
  refine ⟨D', E, u1, u2, u3, rfl, h1.agree (fun b hb9 => ht.other b (n1 b hb9)) (by omega), h2.agree fun b hb9 => ht.other b fun e => by have := (h3 b hb9).1; omega, fun b hb9 => ?_, fun b hb9 => ?_, ?_⟩
  · obtain ⟨e1, e2, e3⟩ := h3 b hb9
    exact ⟨by omega, by omega, e3⟩
  · rcases h4 b hb9 with h | h
    · exact .inl h
    · exact .inr (by omega)
  · have x1 : Only D w w3 := Only.after hb h5
    exact x1.trans (Only.touch (D := fun b => b = go) ht rfl) fun b hb hl => by omega
def stepW (x : GStoreStep) (v1 v2 v3 : Value) : Value := .agg (.int .i64 x.kind :: .int .i64 x.rev :: objCs x.o v1 v2 v3).toArray
set_option maxRecDepth 100000 in
set_option maxHeartbeats 3200000 in
theorem do_any {D : Dom} {w0 w : World} {g : Nat} {S : St} (h : StoreAt D w g S) (hH : Home w0 D w) (hS : OkSt S) (hrv : S.rev ≤ 4194303) (x : GStoreStep) (v1 v2 v3 : Value) (hl : RowAt LabelR 2 w v1 x.o.labels) (ho : StrAt w v2 x.o.owners) (hh : StrAt w v3 x.o.holds) (hok : OkObj x.o) :
    Calls Tryz.prog 20 #[.pointer (some ⟨g, 0, none⟩), stepW x v1 v2 v3] w (Did D w g (doS S x)) := by
  obtain ⟨a1, c1, rfl, -, -⟩ := hl.len
  obtain ⟨a2, c2, rfl, -, -⟩ := ho.row.len
  obtain ⟨a3, c3, rfl, -, -⟩ := hh.row.len
  obtain ⟨n1, Hn1⟩ : ∃ n, Hid (x.o.labels.length = n) := ⟨_, Lib.hid rfl⟩
  obtain ⟨n2, Hn2⟩ : ∃ n, Hid (x.o.owners.length = n) := ⟨_, Lib.hid rfl⟩
  obtain ⟨n3, Hn3⟩ : ∃ n, Hid (x.o.holds.length = n) := ⟨_, Lib.hid rfl⟩
  rw [Hn1.out] at hl
  rw [Hn2.out] at ho
  rw [Hn3.out] at hh
  rw [Hn1.out, Hn2.out, Hn3.out]
  obtain ⟨T, HT⟩ : ∃ T, Hid (doS S x = T) := ⟨_, Lib.hid rfl⟩
  rw [HT.out]
  obtain ⟨w1, hw1⟩ : ∃ w1, w1 = (w.alloc (.cells #[.int .i64 x.kind, .int .i64 x.rev, .string x.o.okey.kind, .string x.o.okey.space, .string x.o.okey.name, .slice a1 n1 c1, .slice a2 n2 c2, .slice a3 n3 c3, .bool x.o.ending, .string x.o.uid, .int .i64 x.o.rev, .string x.o.doc] 40)).alloc (.cells noA 30) := ⟨_, rfl⟩
  obtain ⟨gx, hgx⟩ : ∃ gx, gx = w.heap.size := ⟨_, rfl⟩
  obtain ⟨go, hgo⟩ : ∃ go, go = w.heap.size + 1 := ⟨_, rfl⟩
  have XO : Hid (w1.heap[gx]? = some (.cells #[.int .i64 x.kind, .int .i64 x.rev, .string x.o.okey.kind, .string x.o.okey.space, .string x.o.okey.name, .slice a1 n1 c1, .slice a2 n2 c2, .slice a3 n3 c3, .bool x.o.ending, .string x.o.uid, .int .i64 x.o.rev, .string x.o.doc] 40 (0, 0))) := Lib.hid (by rw [hw1, hgx]; exact heap_alloc_old (heap_alloc_new w _))
  have RO : Hid (w1.heap[go]? = some (.cells noA 30 (0, 0))) := Lib.hid (by rw [hw1, hgo]; exact heap_alloc_at (World.size_alloc _ _).symm)
  have hb1 : Below w.heap.size w w1 := by rw [hw1]; exact ((Below.refl _ w).alloc (Nat.le_refl _) _).alloc (by rw [World.size_alloc]; omega) _
  have hgw : w.heap.size ≤ go := by omega
  have hs1 : go < w1.heap.size := by rw [hw1, World.size_alloc, World.size_alloc]; omega
  have HB := Lib.hid hb1
  have HS := Lib.hid hS
  have HA := Lib.hid h
  have HH := Lib.hid (hH.below hb1)
  have HA1 := Lib.hid (h.belowW hb1)
  have HL := Lib.hid (hl.below stays_label hb1)
  have HO := Lib.hid (ho.below hb1)
  have HHh := Lib.hid (hh.below hb1)
  have Hok := Lib.hid hok
  have HSt := fun w => Lib.hid (step_any x.kind 4 w (by decide) (by decide))
  obtain ⟨kd, Hkd⟩ : ∃ kd, Hid (modI x.kind 4 = kd) := ⟨_, Lib.hid rfl⟩
  rw [Hkd.out] at HSt
  clear hb1 h hS hH hl ho hh hok
  rw [show stepW x (.slice a1 n1 c1) (.slice a2 n2 c2) (.slice a3 n3 c3) = .agg #[.int .i64 x.kind, .int .i64 x.rev, .string x.o.okey.kind, .string x.o.okey.space, .string x.o.okey.name, .slice a1 n1 c1, .slice a2 n2 c2, .slice a3 n3 c3, .bool x.o.ending, .string x.o.uid, .int .i64 x.o.rev, .string x.o.doc] from rfl]
  go_enter Tryz.func20, Tryz.ntmps20
  go_upto_region 1 with fail
  have hex : ((w.alloc (.cells #[.int .i64 x.kind, .int .i64 x.rev, .string x.o.okey.kind, .string x.o.okey.space, .string x.o.okey.name, .slice a1 n1 c1, .slice a2 n2 c2, .slice a3 n3 c3, .bool x.o.ending, .string x.o.uid, .int .i64 x.o.rev, .string x.o.doc] 40)).alloc (.cells #[.string { data := #[] }, .string { data := #[] }, .string { data := #[] }, .slice none 0 0, .slice none 0 0, .slice none 0 0, .bool false, .string { data := #[] }, .int .i64 0, .string { data := #[] }] 30)) = w1 := hw1.symm
  rw [hex]
  try rw [← hgo]
  rw [← hgx]
  clear hw1 hex hgx hgo
  have cc := fun i => cell_block XO.out i
  go_wp2_with fail
  refine (HSt _).out.mono ?_
  rintro E w2 ⟨rfl, hw2⟩
  subst hw2
  clear HSt
  by_cases hk0 : kd = 0
  · subst hk0
    have HTE : Hid (T = create S x.o) := Lib.hid (by rw [← HT.out]; unfold doS; rw [Hkd.out, if_pos rfl])
    have HX := Lib.hid (by have h9 := create_any HA1.out HH.out HS.out hrv x.o (.slice a1 n1 c1) (.slice a2 n2 c2) (.slice a3 n3 c3) HL.out HO.out HHh.out Hok.out; rw [show objW x.o (.slice a1 n1 c1) (.slice a2 n2 c2) (.slice a3 n3 c3) = .agg #[.string x.o.okey.kind, .string x.o.okey.space, .string x.o.okey.name, .slice a1 n1 c1, .slice a2 n2 c2, .slice a3 n3 c3, .bool x.o.ending, .string x.o.uid, .int .i64 x.o.rev, .string x.o.doc] from rfl] at h9; exact h9)
    clear HT
    go_wp2_with fail
    refine HX.out.mono ?_
    rintro E w3 ⟨D9, E9, u1, u2, u3, rfl, k1, k2, k3, k4, k5⟩
    have K1 := Lib.hid k1
    have K2 := Lib.hid k2
    have K3 := Lib.hid k3
    have K4 := Lib.hid k4
    have K5 := Lib.hid k5
    have R3 : Hid (w3.heap[go]? = some (.cells noA 30 (0, 0))) := Lib.hid ((k5.block go (by omega) fun hm => by have := HA.out.low hm; omega).trans RO.out)
    clear k1 k2 k3 k4 k5 HX
    rw [← HTE.out] at K1 K2 ⊢
    obtain ⟨TO9, HTO⟩ : ∃ y, Hid (T.2.1 = y) := ⟨_, Lib.hid rfl⟩
    obtain ⟨TE9, HTE9⟩ : ∃ y, Hid (T.2.2 = y) := ⟨_, Lib.hid rfl⟩
    rw [HTO.out, HTE9.out]
    go_wp2_with (refine wpList_store_box (by rfl) _ _ _ (by rfl) go (objCs TO9 u1 u2 u3).toArray (by rfl) (by rfl) _ _ (by exact R3.out) (by exact Tryz.sizeObj) (by rfl) (by rw [← HTO.out]; exact objA_ones K2.out) ?_)
    intro WF bF tF
    have BF := Lib.hid bF
    have TF := Lib.hid tF
    clear bF tF
    go_wp2_with fail
    refine bodyPost_ret (v := .tuple #[objW TO9 u1 u2 u3, .int .i64 TE9]) ?_ rfl ?_
    · exact results_two_obj Tryz.results20 _ _ go _ (by rfl) BF.out rfl
    · rw [← HTO.out, ← HTE9.out]
      exact did_box HB.out (fun b hb => HA.out.low hb) ⟨hgw, hs1⟩ K1.out K2.out K3.out K4.out K5.out TF.out
  · have p0 : (kd == 0) = false := by rw [beq_eq_false_iff_ne]; exact hk0
    by_cases hk1 : kd = 1
    · subst hk1
      clear p0
      have HTE : Hid (T = update S x.o) := Lib.hid (by rw [← HT.out]; unfold doS; rw [Hkd.out, if_neg (by decide), if_pos rfl])
      have HX := Lib.hid (by have h9 := update_any HA1.out HH.out HS.out hrv x.o (.slice a1 n1 c1) (.slice a2 n2 c2) (.slice a3 n3 c3) HL.out HO.out HHh.out Hok.out; rw [show objW x.o (.slice a1 n1 c1) (.slice a2 n2 c2) (.slice a3 n3 c3) = .agg #[.string x.o.okey.kind, .string x.o.okey.space, .string x.o.okey.name, .slice a1 n1 c1, .slice a2 n2 c2, .slice a3 n3 c3, .bool x.o.ending, .string x.o.uid, .int .i64 x.o.rev, .string x.o.doc] from rfl] at h9; exact h9)
      clear HT
      go_wp2_with fail
      refine HX.out.mono ?_
      rintro E w3 ⟨D9, E9, u1, u2, u3, rfl, k1, k2, k3, k4, k5⟩
      have K1 := Lib.hid k1
      have K2 := Lib.hid k2
      have K3 := Lib.hid k3
      have K4 := Lib.hid k4
      have K5 := Lib.hid k5
      have R3 : Hid (w3.heap[go]? = some (.cells noA 30 (0, 0))) := Lib.hid ((k5.block go (by omega) fun hm => by have := HA.out.low hm; omega).trans RO.out)
      clear k1 k2 k3 k4 k5 HX
      rw [← HTE.out] at K1 K2 ⊢
      obtain ⟨TO9, HTO⟩ : ∃ y, Hid (T.2.1 = y) := ⟨_, Lib.hid rfl⟩
      obtain ⟨TE9, HTE9⟩ : ∃ y, Hid (T.2.2 = y) := ⟨_, Lib.hid rfl⟩
      rw [HTO.out, HTE9.out]
      go_wp2_with (refine wpList_store_box (by rfl) _ _ _ (by rfl) go (objCs TO9 u1 u2 u3).toArray (by rfl) (by rfl) _ _ (by exact R3.out) (by exact Tryz.sizeObj) (by rfl) (by rw [← HTO.out]; exact objA_ones K2.out) ?_)
      intro WF bF tF
      have BF := Lib.hid bF
      have TF := Lib.hid tF
      clear bF tF
      go_wp2_with fail
      refine bodyPost_ret (v := .tuple #[objW TO9 u1 u2 u3, .int .i64 TE9]) ?_ rfl ?_
      · exact results_two_obj Tryz.results20 _ _ go _ (by rfl) BF.out rfl
      · rw [← HTO.out, ← HTE9.out]
        exact did_box HB.out (fun b hb => HA.out.low hb) ⟨hgw, hs1⟩ K1.out K2.out K3.out K4.out K5.out TF.out
    · have p1 : (kd == 1) = false := by rw [beq_eq_false_iff_ne]; exact hk1
      by_cases hk2 : kd = 2
      · subst hk2
        clear p0 p1
        have HTE : Hid (T = remove S x.o.okey x.rev) := Lib.hid (by rw [← HT.out]; unfold doS; rw [Hkd.out, if_neg (by decide), if_neg (by decide), if_pos rfl])
        have HX := Lib.hid (remove_any HA1.out HH.out HS.out hrv x.o.okey x.rev ⟨Hok.out.kind, Hok.out.space, Hok.out.name⟩)
        clear HT
        go_wp2_with fail
        refine HX.out.mono ?_
        rintro E w3 ⟨D9, E9, u1, u2, u3, rfl, k1, k2, k3, k4, k5⟩
        have K1 := Lib.hid k1
        have K2 := Lib.hid k2
        have K3 := Lib.hid k3
        have K4 := Lib.hid k4
        have K5 := Lib.hid k5
        have R3 : Hid (w3.heap[go]? = some (.cells noA 30 (0, 0))) := Lib.hid ((k5.block go (by omega) fun hm => by have := HA.out.low hm; omega).trans RO.out)
        clear k1 k2 k3 k4 k5 HX
        rw [← HTE.out] at K1 K2 ⊢
        obtain ⟨TO9, HTO⟩ : ∃ y, Hid (T.2.1 = y) := ⟨_, Lib.hid rfl⟩
        obtain ⟨TE9, HTE9⟩ : ∃ y, Hid (T.2.2 = y) := ⟨_, Lib.hid rfl⟩
        rw [HTO.out, HTE9.out]
        go_wp2_with (refine wpList_store_box (by rfl) _ _ _ (by rfl) go (objCs TO9 u1 u2 u3).toArray (by rfl) (by rfl) _ _ (by exact R3.out) (by exact Tryz.sizeObj) (by rfl) (by rw [← HTO.out]; exact objA_ones K2.out) ?_)
        intro WF bF tF
        have BF := Lib.hid bF
        have TF := Lib.hid tF
        clear bF tF
        go_wp2_with fail
        refine bodyPost_ret (v := .tuple #[objW TO9 u1 u2 u3, .int .i64 TE9]) ?_ rfl ?_
        · exact results_two_obj Tryz.results20 _ _ go _ (by rfl) BF.out rfl
        · rw [← HTO.out, ← HTE9.out]
          exact did_box HB.out (fun b hb => HA.out.low hb) ⟨hgw, hs1⟩ K1.out K2.out K3.out K4.out K5.out TF.out
      · have p2 : (kd == 2) = false := by rw [beq_eq_false_iff_ne]; exact hk2
        obtain ⟨rv, Hrv⟩ : ∃ rv, Hid (modI x.rev 3 = rv) := ⟨_, Lib.hid rfl⟩
        have HTE : Hid (T = (compact S rv, noObj, compactE S rv)) := Lib.hid (by rw [← HT.out, ← Hrv.out]; unfold doS; rw [Hkd.out, if_neg hk0, if_neg hk1, if_neg hk2])
        have HRe := fun w => Lib.hid (rest_any x.rev 3 w (by decide) (by decide))
        rw [restOf_mod (by decide), show x.rev % 3 = rv from Hrv.out] at HRe
        have HC := Lib.hid (compact_any HA1.out rv)
        have hr1 : 0 ≤ rv ∧ rv < 3 := by rw [← Hrv.out]; exact ⟨Int.emod_nonneg _ (by decide), Int.emod_lt_of_pos _ (by decide)⟩
        have q1 : IntKind.i64.wrap rv = rv := IntWalk.i64_in _ (by omega)
        clear HT hk0 hk1 hk2 hr1
        go_wp2_with fail
        refine (HRe _).out.mono ?_
        rintro E w2 ⟨rfl, hw2⟩
        subst hw2
        go_wp2_with fail
        refine HC.out.mono ?_
        rintro E w3 ⟨rfl, k1, k5⟩
        have K1 := Lib.hid k1
        have K5 := Lib.hid k5
        have R3 : Hid (w3.heap[go]? = some (.cells noA 30 (0, 0))) := Lib.hid ((k5.block go (by omega) fun hm => by have := HA.out.low hm; omega).trans RO.out)
        clear k1 k5 HC HRe q1
        go_wp2_with (refine wpList_store_box (by rfl) _ _ _ (by rfl) go noA (by rfl) (by rfl) _ _ (by exact R3.out) (by exact Tryz.sizeObj) (by rfl) (by simp [Value.oneCell', noA]) ?_)
        intro WF bF tF
        have BF := Lib.hid bF
        have TF := Lib.hid tF
        clear bF tF
        go_wp2_with fail
        refine bodyPost_ret (v := .tuple #[.agg noA, .int .i64 (compactE S rv)]) ?_ rfl ?_
        · exact results_two_obj Tryz.results20 _ _ go _ (by rfl) BF.out rfl
        · rw [HTE.out]
          exact did_box (T := (compact S rv, noObj, compactE S rv)) (u1 := nilS) (u2 := nilS) (u3 := nilS) (E := fun _ => False) HB.out (fun b hb => HA.out.low hb) ⟨hgw, hs1⟩ K1.out (objIn_no _) (fun b hb => hb.elim) (fun b hb => .inl hb) K5.out TF.out
end Sto
end Go.Proofs.YtnnceaapodgfbaaGreatDoor
namespace Go.Proofs.YtnnceaapodgfbaaGreatDoor
namespace Sto
open Go.RowKit
theorem uidOf_size (n : Nat) (h : n ≤ 4194304) : (uidOf n).size ≤ 32 := by
  unfold uidOf
  rw [mkB_size, List.length_cons]
  have := Lib.itoa_length_le (n : Int) (by omega) (by omega)
  omega
theorem okObj_put {n : Nat} {kind : Int} {o : GObject} (h : OkObj o) (hn : n ≤ 4194304) : OkObj (putO n kind o) :=
  ⟨h.kind, h.space, h.name, h.labels, h.owners, h.holds, by
    unfold putO
    dsimp only
    split
    · have := uidOf_size n hn; omega
    · exact h.uid, by unfold putO i64; dsimp only; exact decide_eq_true (by have h1 : IntKind.i64.max = 9223372036854775807 := rfl; have h2 : IntKind.i64.min = -9223372036854775808 := rfl; omega), h.doc⟩
theorem okSt0 : OkSt St0 := ⟨fun _ h => (by cases h), by decide, good0⟩
theorem okSt_put {S : St} {kind : Int} {o : GObject} (h : OkSt S) (ho : OkObj o) (hr : S.rev ≤ 4194303) : ∀ e ∈ (put S kind o).log, OkObj e.object := fun e he => by
  unfold put at he
  rcases List.mem_append.1 he with he | he
  · exact h.obj e he
  · rw [List.mem_singleton] at he
    subst he
    exact okObj_put ho (by omega)
theorem okSt_do {S : St} (h : OkSt S) {x : GStoreStep} (hx : OkObj x.o) (hr : S.rev ≤ 4194303) : OkSt (doS S x).1 := by
  refine ⟨?_, by have := (rev_do S x).2; omega, good_do h.good x⟩
  have hk := okObj_kept hx
  unfold doS
  split
  · rcases create_cases S x.o with ⟨h1, _⟩ | ⟨h1, _⟩
    · rw [h1]; exact h.obj
    · rw [h1]; exact okSt_put h ⟨hk.kind, hk.space, hk.name, hk.labels, hk.owners, hk.holds, hk.uid, hk.rev, hk.doc⟩ hr
  · split
    · rcases update_cases S x.o with ⟨h1, _⟩ | ⟨was, h1, _, h2, _⟩
      · rw [h1]; exact h.obj
      · obtain ⟨e, he, h9⟩ := cur_mem h2
        have hw : OkObj was := h9 ▸ h.obj e he
        rw [h1]; exact okSt_put h ⟨hk.kind, hk.space, hk.name, hk.labels, hk.owners, hk.holds, hw.uid, hk.rev, hk.doc⟩ hr
    · split
      · rcases remove_cases S x.o.okey x.rev with ⟨h1, _⟩ | ⟨was, h1, h2⟩
        · rw [h1]; exact h.obj
        · obtain ⟨e, he, h9⟩ := cur_mem h2
          rw [h1]; exact okSt_put h (h9 ▸ h.obj e he) hr
      · show ∀ e ∈ (compact S _).log, _
        rw [grow_compact]; exact h.obj
theorem run_snoc (S : St) (l : List GStoreStep) (x : GStoreStep) : run S (l ++ [x]) = (doS (run S l) x).1 := by
  induction l generalizing S with
  | nil => rfl
  | cons a r ih => exact ih _
theorem okSt_run {S : St} (h : OkSt S) : ∀ (l : List GStoreStep), (∀ x ∈ l, OkObj x.o) → S.rev + l.length ≤ 4194303 → OkSt (run S l)
  | [], _, _ => h
  | x :: r, hl, hn => by
    rw [List.length_cons] at hn
    exact okSt_run (okSt_do h (hl x List.mem_cons_self) (by omega)) r (fun y hy => hl y (List.mem_cons_of_mem _ hy)) (by have := (rev_do S x).2; omega)
theorem Tryz.sizeStep : (Tryz.prog.info? 40).map (·.size) = some 12 := by kernel_rfl
theorem step_cells {w w' : World} {va : Option Addr} {vn vc : Nat} {l : List GStoreStep} (h : RowAt StoreStepR 12 w (.slice va vn vc) l) (hn : l.length = vn) (hb : Below w.heap.size w w') {m : Nat} {x : GStoreStep} (he : l[m]? = some x) :
    ∃ b o v1 v2 v3, va = some ⟨b, o, none⟩ ∧ RowAt LabelR 2 w' v1 x.o.labels ∧ StrAt w' v2 x.o.owners ∧ StrAt w' v3 x.o.holds ∧ ∀ i u, (Value.int .i64 x.kind :: .int .i64 x.rev :: objCs x.o v1 v2 v3)[i]? = some u → w'.cell? ⟨b, o + m * 12 + i, none⟩ = some u := by
  have hm := (List.getElem?_eq_some_iff.1 he).1
  obtain ⟨b, o, c', hv, _, _, hbs, hcell⟩ := h.form (by omega) (by omega)
  injection hv with u1 u2 u3
  obtain ⟨ds, _, hcc, c2, rfl, _, _, v1, v2, v3, rfl, g1, g2, g3, _⟩ := hcell m x he
  exact ⟨b, o, v1, v2, v3, u1, g1.below stays_label hb, g2.below hb, g3.below hb, fun i u hu => (hb.cell (p := ⟨b, _, none⟩) hbs).trans (hcc i u hu)⟩
set_option maxRecDepth 100000 in
set_option maxHeartbeats 3200000 in
theorem stored_any (v : Value) (l : List GStoreStep) (w : World) (h : RowAt StoreStepR 12 w v l) (hl : l.length ≤ 4194303) (hok : ∀ x ∈ l, OkObj x.o) (hE : Env w) :
    Calls Tryz.prog 13 #[v] w fun e w' => ∃ g D, e = .returned (.pointer (some ⟨g, 0, none⟩)) ∧ StoreAt D w' g (run St0 l) ∧ (∀ b, D b → w.heap.size ≤ b) ∧ Below w.heap.size w w' := by
  obtain ⟨a1, c1, rfl, -, -⟩ := h.len
  obtain ⟨n, hn⟩ : ∃ n, l.length = n := ⟨_, rfl⟩
  rw [hn] at h hl ⊢
  have HR := Lib.hid h
  have HN := Lib.hid hn
  have Hok := Lib.hid hok
  have HEn := Lib.hid hE
  have HNew := fun w => Lib.hid (new_any w)
  have HK : ∀ w, Hid (Calls Tryz.prog 47 #[.agg #[.string { data := #[] }, .string { data := #[] }, .string { data := #[] }]] w fun e w' => e = .returned (.int .i64 6) ∧ Below w.heap.size w w') := fun w => Lib.hid (key_any ByteArray.empty ByteArray.empty ByteArray.empty w (by decide) (by decide) (by decide))
  clear h hn hok hE
  go_enter Tryz.func13, Tryz.ntmps13
  go_wp2_with fail
  refine (HNew _).out.mono ?_
  rintro E w1 ⟨g, D, rfl, hst, hlow, hb1⟩
  have HA := Lib.hid hst
  have HD := Lib.hid hlow
  have HB := Lib.hid hb1
  clear hst hlow hb1 HNew
  go_wp2_with fail
  refine (HK _).out.mono ?_
  rintro E w2 ⟨rfl, hb2⟩
  have HA2 := Lib.hid (HA.out.belowW hb2)
  have HB2 := Lib.hid (HB.out.trans (hb2.mono HB.out.size))
  clear hb2 HK HA HB
  go_wp2_with fail
  go_loopg [16] n (fun k u16 wr => ∃ (i : Nat) (D' : Dom), i + k = n ∧ u16 = .int .i64 (i : Int) ∧ Hid (StoreAt D' wr g (run St0 (l.take i))) ∧ Hid (∀ b, D' b → w.heap.size ≤ b) ∧ Hid (Below w.heap.size w wr))
  case atStart => exact ⟨0, D, by omega, rfl, HA2, HD, HB2⟩
  case round =>
    clear HA2 HB2 HD
    obtain ⟨i, D', hik, rfl, HA, HD, HB⟩ := hrel
    cases gk with
    | zero =>
      obtain rfl : n = i := by omega
      have HA9 : Hid (StoreAt D' wr g (run St0 l)) := Lib.hid (by have h9 := HA.out; rw [← HN.out, List.take_length] at h9; exact h9)
      go_wp2_with fail
      go_ret
      exact ⟨g, D', rfl, HA9.out, HD.out, HB.out⟩
    | succ k =>
      have hil : i < n := by omega
      obtain ⟨x, hx⟩ : ∃ x, l[i]? = some x := ⟨l[i]'(by rw [HN.out]; exact hil), List.getElem?_eq_getElem _⟩
      obtain ⟨b, o, v1, v2, v3, hva, g1, g2, g3, ec⟩ := step_cells HR.out HN.out HB.out hx
      subst hva
      obtain ⟨a7, c7, rfl, -, -⟩ := g1.len
      obtain ⟨a8, c8, rfl, -, -⟩ := g2.row.len
      obtain ⟨a9, c9, rfl, -, -⟩ := g3.row.len
      obtain ⟨n7, Hn7⟩ : ∃ n, Hid (x.o.labels.length = n) := ⟨_, Lib.hid rfl⟩
      obtain ⟨n8, Hn8⟩ : ∃ n, Hid (x.o.owners.length = n) := ⟨_, Lib.hid rfl⟩
      obtain ⟨n9, Hn9⟩ : ∃ n, Hid (x.o.holds.length = n) := ⟨_, Lib.hid rfl⟩
      rw [Hn7.out] at g1 ec
      rw [Hn8.out] at g2 ec
      rw [Hn9.out] at g3 ec
      have f0 := ec 0 _ rfl
      have f1 := ec 1 _ rfl
      have f2 := ec 2 _ rfl
      have f3 := ec 3 _ rfl
      have f4 := ec 4 _ rfl
      have f5 := ec 5 _ rfl
      have f6 := ec 6 _ rfl
      have f7 := ec 7 _ rfl
      have f8 := ec 8 _ rfl
      have f9 := ec 9 _ rfl
      have f10 := ec 10 _ rfl
      have f11 := ec 11 _ rfl
      rw [Nat.add_zero] at f0
      have q1 : (0 : Int) ≤ (i : Int) := by omega
      have q2 : (i : Int) < (n : Int) := by omega
      have HX := Lib.hid hx
      have G1 := Lib.hid g1
      have G2 := Lib.hid g2
      have G3 := Lib.hid g3
      have H7 := Lib.hid (heap_alloc_new wr (.cells #[.int .i64 0, .int .i64 0, .string { data := #[] }, .string { data := #[] }, .string { data := #[] }, .slice none 0 0, .slice none 0 0, .slice none 0 0, .bool false, .string { data := #[] }, .int .i64 0, .string { data := #[] }] 40))
      have hb4 : Below wr.heap.size wr (wr.alloc (.cells #[.int .i64 0, .int .i64 0, .string { data := #[] }, .string { data := #[] }, .string { data := #[] }, .slice none 0 0, .slice none 0 0, .slice none 0 0, .bool false, .string { data := #[] }, .int .i64 0, .string { data := #[] }] 40)) := (Below.refl _ wr).alloc (Nat.le_refl _) _
      have HB4 := Lib.hid hb4
      have hs4 : (wr.alloc (.cells #[.int .i64 0, .int .i64 0, .string { data := #[] }, .string { data := #[] }, .string { data := #[] }, .slice none 0 0, .slice none 0 0, .slice none 0 0, .bool false, .string { data := #[] }, .int .i64 0, .string { data := #[] }] 40)).heap.size = wr.heap.size + 1 := World.size_alloc _ _
      have HokX : Hid (OkObj x.o) := Lib.hid (Hok.out x (List.mem_of_getElem? hx))
      have HSi : Hid (OkSt (run St0 (l.take i))) := Lib.hid (okSt_run okSt0 _ (fun y hy => Hok.out y (List.mem_of_mem_take hy)) (by show 0 + _ ≤ _; rw [List.length_take]; have := HN.out; omega))
      have Hrev : Hid ((run St0 (l.take i)).rev ≤ 4194303) := Lib.hid (by have h9 := rev_run St0 (l.take i); have h8 : St0.rev = 0 := rfl; rw [List.length_take] at h9; have := HN.out; omega)
      clear hx ec g1 g2 g3 hb4
      go_wp2_with (refine wpList_store_box (by rfl) _ _ _ (by rfl) wr.heap.size #[.int .i64 x.kind, .int .i64 x.rev, .string x.o.okey.kind, .string x.o.okey.space, .string x.o.okey.name, .slice a7 n7 c7, .slice a8 n8 c8, .slice a9 n9 c9, .bool x.o.ending, .string x.o.uid, .int .i64 x.o.rev, .string x.o.doc] (by rfl) (by rfl) _ _ (by exact H7.out) (by exact Tryz.sizeStep) (by rfl) (by simp [Value.oneCell']) ?_)
      intro w5 b5 t5
      have B5 := Lib.hid b5
      have hbb : Below wr.heap.size wr w5 := t5.below HB4.out (Nat.le_refl _)
      have HB5 := Lib.hid hbb
      have hs5 : w5.heap.size = wr.heap.size + 1 := t5.size.trans hs4
      have HDo := Lib.hid (do_any (w0 := w) (HA.out.belowW hbb) ⟨HEn.out.1, HEn.out.2.2, HB.out.trans (hbb.mono HB.out.size), HD.out⟩ HSi.out Hrev.out x (.slice a7 n7 c7) (.slice a8 n8 c8) (.slice a9 n9 c9) (G1.out.below stays_label hbb) (G2.out.below hbb) (G3.out.below hbb) HokX.out)
      rw [show stepW x (.slice a7 n7 c7) (.slice a8 n8 c8) (.slice a9 n9 c9) = .agg #[.int .i64 x.kind, .int .i64 x.rev, .string x.o.okey.kind, .string x.o.okey.space, .string x.o.okey.name, .slice a7 n7 c7, .slice a8 n8 c8, .slice a9 n9 c9, .bool x.o.ending, .string x.o.uid, .int .i64 x.o.rev, .string x.o.doc] from rfl] at HDo
      clear b5 t5 hs4 H7 HB4 hbb f0 f1 f2 f3 f4 f5 f6 f7 f8 f9 f10 f11
      have cc := fun i => cell_block B5.out i
      go_wp2_with fail
      refine HDo.out.mono ?_
      rintro E w6 ⟨D9, E9, u1, u2, u3, rfl, k1, k2, k3, k4, k5⟩
      have hw := HB.out.size
      have K1 : Hid (StoreAt D9 w6 g (run St0 (l.take (i + 1)))) := Lib.hid (by rw [take_snoc HX.out, run_snoc]; exact k1)
      have K4 : Hid (∀ b, D9 b → w.heap.size ≤ b) := Lib.hid fun b hb => (k4 b hb).elim (HD.out b) fun h9 => by omega
      have K5 : Hid (Below w.heap.size w w6) := Lib.hid ((HB.out.trans (HB5.out.mono hw)).trans (k5.below HD.out (by omega)))
      clear k1 k2 k3 k4 k5 HDo cc
      go_wp2_with fail
      go_roundg k
      case measure => omega
      case rel => exact ⟨i + 1, D9, by omega, by simp, K1, K4, K5⟩
end Sto
end Go.Proofs.YtnnceaapodgfbaaGreatDoor
namespace Go.Proofs.YtnnceaapodgfbaaGreatDoor
namespace Sto
open Go.RowKit
theorem sum_mem {α : Type} {f : α → Nat} : ∀ {l : List α} {x : α}, x ∈ l → f x ≤ (l.map f).sum
  | a :: r, x, h => by
    rw [List.map_cons, List.sum_cons]
    rcases List.mem_cons.1 h with rfl | h
    · omega
    · have := sum_mem (f := f) h; omega
theorem sum_length {α : Type} {f : α → Nat} {c : Nat} : ∀ {l : List α}, (∀ x ∈ l, c ≤ f x) → l.length * c ≤ (l.map f).sum
  | [], _ => by simp
  | a :: r, h => by
    rw [List.map_cons, List.sum_cons, List.length_cons, Nat.add_mul, Nat.one_mul]
    have h1 := sum_length (f := f) (c := c) (l := r) fun x hx => h x (List.mem_cons_of_mem _ hx)
    have h2 := h a List.mem_cons_self
    omega
theorem okObj_bulk {o : GObject} (h : objectB o ≤ 1048576) (hr : i64 o.rev) : OkObj o := by
  unfold objectB keyB at h
  have h1 := sum_length (f := labelB) (c := 1) (l := o.labels) fun x _ => by unfold labelB; omega
  have h2 := total_length o.owners
  have h3 := total_length o.holds
  exact ⟨by omega, by omega, by omega, ⟨by omega, fun r hr => by have h5 := sum_mem (f := labelB) hr; have h6 : labelB r = ((r.key.size + 1) + ((r.val.size + 1) + 0)) + 1 := rfl; unfold okLab; omega⟩, ⟨by omega, fun s hs => by have := total_mem hs; omega⟩, ⟨by omega, fun s hs => by have := total_mem hs; omega⟩, by omega, hr, by omega⟩
theorem okSteps_bulk {w : World} {v : Value} {l : List GStoreStep} (h : RowAt StoreStepR 12 w v l) (hb : (l.map storeStepB).sum ≤ 1048576) : (∀ x ∈ l, OkObj x.o) ∧ l.length ≤ 1048576 := by
  have h0 := sum_length (f := storeStepB) (c := 1) (l := l) fun x _ => by unfold storeStepB; omega
  refine ⟨fun x hx => ?_, by omega⟩
  have h1 := sum_mem (f := storeStepB) hx
  have h6 : storeStepB x = (1 + (1 + (objectB x.o + 0))) + 1 := rfl
  refine okObj_bulk (by omega) ?_
  obtain ⟨a, c, rfl, _, _⟩ := h.len
  obtain ⟨i, hi, he⟩ := List.getElem_of_mem hx
  obtain ⟨b, o, c', hv, _, _, hbs, hcell⟩ := h.form (by omega) (by omega)
  obtain ⟨ds, _, hcc, c2, rfl, _, _, v1, v2, v3, rfl, g1, g2, g3, g4⟩ := hcell i x (by rw [List.getElem?_eq_getElem hi, he])
  exact g4
end Sto
end Go.Proofs.YtnnceaapodgfbaaGreatDoor
namespace Go.Proofs.YtnnceaapodgfbaaGreatDoor
namespace Sto
open Go.RowKit
theorem okView_bulk {g : GView} (h : viewB g ≤ 1048576) : OkView g := by
  unfold viewB at h
  have h1 := sum_length (f := reqB) (c := 1) (l := g.reqs) fun x _ => by unfold reqB; omega
  refine ⟨by omega, by omega, by omega, fun r hr => ?_⟩
  have h2 := sum_mem (f := reqB) hr
  have h3 : reqB r = ((r.key.size + 1) + (1 + ((total r.vals + 1) + 0))) + 1 := rfl
  have h4 := total_length r.vals
  exact ⟨by omega, by omega, fun s hs => by have := total_mem hs; omega⟩
theorem foldT_len (v : GView) : ∀ (l : List GEvent) (H : GKey → Bool), (foldT v l H).1.length ≤ l.length
  | [], _ => Nat.le_refl _
  | x :: l, H => by
    show (seenE v H x ++ (foldT v l (seenH v H x)).1).length ≤ l.length + 1
    have h1 := seenE_len v H x
    have h2 := foldT_len v l (seenH v H x)
    rw [List.length_append]
    omega
theorem foldT_obj (v : GView) : ∀ (l : List GEvent) (H : GKey → Bool) (y : GEvent), y ∈ (foldT v l H).1 → ∃ x ∈ l, y.object = x.object
  | [], _, y, h => by cases h
  | x :: l, H, y, h => by
    rcases List.mem_append.1 (show y ∈ seenE v H x ++ (foldT v l (seenH v H x)).1 from h) with h | h
    · unfold seenE at h
      split at h
      · rw [List.mem_singleton] at h
        exact ⟨x, List.mem_cons_self, by rw [h]⟩
      · cases h
    · obtain ⟨z, h1, h2⟩ := foldT_obj v l (seenH v H x) y h
      exact ⟨z, List.mem_cons_of_mem _ h1, h2⟩
def H0 : GKey → Bool := fun _ => false
set_option maxRecDepth 100000 in
set_option maxHeartbeats 12800000 in
theorem watchPieces_walk (v : Value) (l : List GStoreStep) (cs : Array Value) (vw : GView) (a b : Int) (w : World) (hrow : RowAt StoreStepR 12 w v l) (hview : ViewR w cs.toList vw) (_ha : (Lit.int .i64 a).wf = true) (_hb : (Lit.int .i64 b).wf = true)
    (hbulk : (l.map storeStepB).sum + viewB vw ≤ 1048576) (hE : Env w) :
    Calls Tryz.prog 11 #[v, .agg cs, .int .i64 a, .int .i64 b] w fun e w' => e = .returned (.bool true) ∧ Below w.heap.size w w' := by
  obtain ⟨va, hcv, hvr⟩ := hview
  obtain rfl : cs = #[.string vw.kind, .string vw.space, va] := by
    have h9 := congrArg List.toArray hcv
    simpa using h9
  clear hcv
  obtain ⟨av, cv, rfl, -, -⟩ := hvr.len
  obtain ⟨nv, Hnv⟩ : ∃ n, Hid (vw.reqs.length = n) := ⟨_, Lib.hid rfl⟩
  rw [Hnv.out] at hvr ⊢
  have HOk := Lib.hid (okView_bulk (g := vw) (by omega))
  obtain ⟨hok, hll⟩ := okSteps_bulk hrow (by omega)
  obtain ⟨W, hW⟩ : ∃ W, W = w.alloc (.cells #[.string vw.kind, .string vw.space, .slice av nv cv] 80) := ⟨_, rfl⟩
  obtain ⟨gv, hgv⟩ : ∃ g, g = w.heap.size := ⟨_, rfl⟩
  have BV := Lib.hid (show W.heap[gv]? = some (.cells #[.string vw.kind, .string vw.space, .slice av nv cv] 80 (0, 0)) by rw [hW, hgv]; exact heap_alloc_new w _)
  have hb1 : Below w.heap.size w W := by rw [hW]; exact (Below.refl _ w).alloc (Nat.le_refl _) _
  have HB1 := Lib.hid hb1
  have hwv : w.heap.size ≤ gv := by omega
  have hEW := hE.below hb1
  have HEn := Lib.hid hEW
  have HVr := Lib.hid (hvr.below stays_req hb1)
  have HSt := Lib.hid (stored_any v l W (hrow.below stays_storeStep hb1) (by omega) hok hEW)
  obtain ⟨S, HSe⟩ : ∃ S, Hid (run St0 l = S) := ⟨_, Lib.hid rfl⟩
  have HS : Hid (OkSt S) := Lib.hid (by rw [← HSe.out]; exact okSt_run okSt0 l hok (by show 0 + _ ≤ _; omega))
  have Hrev : Hid (S.rev ≤ 1048576) := Lib.hid (by rw [← HSe.out]; have h9 := rev_run St0 l; have h8 : St0.rev = 0 := rfl; omega)
  rw [HSe.out] at HSt
  obtain ⟨al, cl, rfl, -, -⟩ := hrow.len
  clear hrow hvr hbulk hE hEW hok hll hb1 HSe
  go_enter Tryz.func11, Tryz.ntmps11
  go_upto_region 1 with fail
  rw [← hgv, ← hW]
  clear hW hgv
  go_wp2_with fail
  refine HSt.out.mono ?_
  rintro E w2 ⟨g, D, rfl, hst, hlow, hb2⟩
  have HB_a := Lib.hid (HB1.out.trans (hb2.mono HB1.out.size))
  have HA_a : Hid (StoreAt D w2 g S) := Lib.hid hst
  have BV_a := Lib.hid (below_block hb2 BV.out)
  have HEn_a := Lib.hid (HEn.out.below hb2)
  have HVr_a := Lib.hid (HVr.out.below stays_req hb2)
  have HDl : Hid (∀ b, D b → gv < b ∧ b < w2.heap.size) := Lib.hid fun b hb => ⟨by have := hlow b hb; have := lt_of_some BV.out; omega, StoreAt.low HA_a.out hb⟩
  have hw2s : Hid (w.heap.size ≤ w2.heap.size) := Lib.hid HB_a.out.size
  have hw2v : Hid (gv < w2.heap.size) := Lib.hid (lt_of_some BV_a.out)
  have hw2W : Hid (W.heap.size ≤ w2.heap.size) := Lib.hid hb2.size
  have HBW_a := Lib.hid hb2
  have HEnW := Lib.hid HEn.out
  have HVrW := Lib.hid HVr.out
  clear hst hlow hb2 HSt HB1 BV HEn HVr
  have HX := Lib.hid (hub_any w2 g)
  go_wp2_with fail
  refine HX.out.mono ?_
  rintro E w3 ⟨gh, om, rfl, hhub, hgh, hom, hb3⟩
  have HB_b := Lib.hid (HB_a.out.trans (hb3.mono HB_a.out.size))
  have HA_b := Lib.hid (StoreAt.belowW HA_a.out hb3)
  have HU_b := Lib.hid hhub
  have BV_b := Lib.hid (below_block hb3 BV_a.out)
  have HEn_b := Lib.hid (HEn_a.out.below hb3)
  have HVr_b := Lib.hid (HVr_a.out.below stays_req hb3)
  have hs3 := hb3.size
  have hgo := hhub.ne
  have HBW_b : Hid (Below W.heap.size W w3) := Lib.hid (HBW_a.out.trans (hb3.mono HBW_a.out.size))
  clear hhub hb3 HX HB_a HA_a BV_a HEn_a HVr_a
  obtain ⟨oe, Hoe⟩ : ∃ e, Hid (openE vw S = e) := ⟨_, Lib.hid rfl⟩
  have HX := Lib.hid (open_any (mk := 0) HA_b.out HS.out HU_b.out (by decide) (by decide) HVr_b.out HOk.out HEn_b.out.2.2)
  rw [Hoe.out] at HX
  have cv9 := fun i => cell_block BV_b.out i
  go_wp2_with fail
  refine HX.out.mono ?_
  rintro E w4 (⟨hne, rfl, hb4⟩ | ⟨h0, gw1, hm1, vr1, R1, rfl, hhub, hwa, hlo, hon⟩)
  · -- refused twice
    have HB_c := Lib.hid (HB_b.out.trans (hb4.mono HB_b.out.size))
    have HX2 := Lib.hid (open_any (mk := 0) (StoreAt.belowW HA_b.out hb4) HS.out (HU_b.out.belowX hb4) (by decide) (by decide) (HVr_b.out.below stays_req hb4) HOk.out (HEn_b.out.below hb4).2.2)
    rw [Hoe.out] at HX2
    have BV_c := Lib.hid (below_block hb4 BV_b.out)
    have cv9 := fun i => cell_block BV_c.out i
    clear hb4 HX
    go_wp2_with fail
    refine HX2.out.mono ?_
    rintro E w5 (⟨-, rfl, hb5⟩ | ⟨h0, -⟩)
    · have HB_d := Lib.hid (HB_c.out.trans (hb5.mono HB_c.out.size))
      have q1 : (oe != 0) = true := by rw [bne_iff_ne]; exact hne
      clear hb5 HX2 hne cv9
      go_wp2_with fail
      go_ret
      exact ⟨by first | rfl | simp, HB_d.out⟩
    · exact absurd h0 hne
  · obtain rfl : oe = 0 := h0
    have hlowc : ∀ b, (b = gh ∨ b = om) → w2.heap.size ≤ b := fun b hb => by
      rcases hb with rfl | rfl
      · exact hgh
      · exact hom
    have HB_c := Lib.hid (HB_b.out.trans (hon.below (B := w.heap.size) (fun b hb => by have := hlowc b hb; have := hw2s.out; omega) (by have := HB_b.out.size; omega)))
    have HA_c : Hid (StoreAt D w4 g S) := Lib.hid (StoreAt.agree HA_b.out (fun b hb => hon.block b (by have := (HDl.out b hb).2; omega) fun h9 => by have := hlowc b h9; have := (HDl.out b hb).2; omega) hon.size)
    have BV_c := Lib.hid ((hon.block gv (by have := lt_of_some BV_b.out; omega) (fun h9 => by have := hlowc gv h9; have := hw2v.out; omega)).trans BV_b.out)
    have HX9 := Lib.hid (hon.below (B := W.heap.size) (fun b hb => by have := hlowc b hb; have := hw2W.out; omega) (by have := hw2W.out; omega))
    have HBW_c := Lib.hid (HBW_b.out.trans HX9.out)
    have HEn_c := Lib.hid (HEnW.out.below (HBW_b.out.trans HX9.out))
    have HVr_c := Lib.hid (HVrW.out.below stays_req (HBW_b.out.trans HX9.out))
    have HU_c : Hid (HubAt w4 gh g om (fun k => if k = ((0 : Nat) : Int) + 1 then some gw1 else none) ((1 : Nat) : Int) 1) := Lib.hid hhub
    have HW1_c := Lib.hid hwa
    have HL1 : Hid (∀ b, b = gw1 ∨ b = hm1 ∨ R1 b → w3.heap.size ≤ b) := Lib.hid hlo
    have hs4 := hon.size
    have cv9 := fun i => cell_block BV_c.out i
    have HX := Lib.hid (open_any (mk := 1) HA_c.out HS.out HU_c.out (by decide) (by decide) HVr_c.out HOk.out HEn_c.out.2.2)
    rw [Hoe.out] at HX
    rw [show (((0 : Nat) : Int) + 1) = 1 from rfl] 
    clear hhub hwa hlo hon HX9
    go_wp2_with fail
    refine HX.out.mono ?_
    rintro E w5 (⟨hne, -⟩ | ⟨-, gw2, hm2, vr2, R2, rfl, hhub, hwa, hlo, hon⟩)
    · exact absurd rfl hne
    have hlowd : ∀ b, (b = gh ∨ b = om) → w2.heap.size ≤ b ∧ b < w3.heap.size := fun b hb => by
      rcases hb with rfl | rfl
      · exact ⟨hgh, HU_b.out.lts.1⟩
      · exact ⟨hom, HU_b.out.lts.2⟩
    have HB_d := Lib.hid (HB_c.out.trans (hon.below (B := w.heap.size) (fun b hb => by have := (hlowd b hb).1; have := hw2s.out; omega) (by have := HB_c.out.size; omega)))
    have HA_d : Hid (StoreAt D w5 g S) := Lib.hid (StoreAt.agree HA_c.out (fun b hb => hon.block b (by have := (HDl.out b hb).2; omega) fun h9 => by have := (hlowd b h9).1; have := (HDl.out b hb).2; omega) hon.size)
    have HBW_d : Hid (Below W.heap.size W w5) := Lib.hid (HBW_c.out.trans (hon.below (B := W.heap.size) (fun b hb => by have := (hlowd b hb).1; have := hw2W.out; omega) (by have := hw2W.out; omega)))
    have HM1 : Hid ((fun k : Int => if k = ((1 : Nat) : Int) + 1 then some gw2 else if k = ((0 : Nat) : Int) + 1 then some gw1 else none) 1 = some gw1) := Lib.hid rfl
    have HM2 : Hid ((fun k : Int => if k = ((1 : Nat) : Int) + 1 then some gw2 else if k = ((0 : Nat) : Int) + 1 then some gw1 else none) 2 = some gw2) := Lib.hid rfl
    obtain ⟨M2, hM2⟩ : ∃ M : Int → Option Nat, (fun k : Int => if k = ((1 : Nat) : Int) + 1 then some gw2 else if k = ((0 : Nat) : Int) + 1 then some gw1 else none) = M := ⟨_, rfl⟩
    rw [hM2] at HM1 HM2 hhub
    clear hM2
    have HU_d : Hid (HubAt w5 gh g om M2 ((2 : Nat) : Int) 2) := Lib.hid hhub
    have HW1_d : Hid (WatchAt w5 gw1 hm1 vr1 R1 vw 0 H0 0) := Lib.hid (HW1_c.out.agreeX hon.size fun b hb => hon.block b (by
      rcases hb with rfl | rfl | hb
      · exact HW1_c.out.lts.1
      · exact HW1_c.out.lts.2
      · exact (HW1_c.out.low b hb).1) fun h9 => by have := (hlowd b h9).2; have := HL1.out b hb; omega)
    have HW2_d : Hid (WatchAt w5 gw2 hm2 vr2 R2 vw 0 H0 0) := Lib.hid hwa
    have HL2 : Hid (∀ b, b = gw2 ∨ b = hm2 ∨ R2 b → w4.heap.size ≤ b) := Lib.hid hlo
    have HL1b : Hid (∀ b, b = gw1 ∨ b = hm1 ∨ R1 b → b < w4.heap.size) := Lib.hid fun b hb => by
      rcases hb with rfl | rfl | hb
      · exact HW1_c.out.lts.1
      · exact HW1_c.out.lts.2
      · exact (HW1_c.out.low b hb).1
    have hs5 := hon.size
    rw [show (((1 : Nat) : Int) + 1) = 2 from rfl]
    have hltgh := (hlowd gh (.inl rfl)).2
    have hltom := (hlowd om (.inr rfl)).2
    clear hhub hwa hlo hon hlowd hlowc cv9 HX HB_c HA_c BV_c HEn_c HVr_c HU_c HW1_c HU_b HA_b HB_b BV_b HEn_b HVr_b
    obtain ⟨ha1, ha2⟩ := restOf_in (a := a) (b := 50) (by decide)
    have HRa0 := fun w => Lib.hid (rest_any a 50 w (by decide) (by decide))
    obtain ⟨ra9, Hra⟩ : ∃ r, Hid (restOf a 50 = r) := ⟨_, Lib.hid rfl⟩
    rw [Hra.out] at ha1 ha2
    have HRa := fun w => Lib.hid (by have h9 := (HRa0 w).out; rw [Hra.out] at h9; exact h9)
    obtain ⟨ma, hma⟩ : ∃ mo : Nat, 1 + ra9 = (mo : Int) := ⟨(1 + ra9).toNat, by omega⟩
    have hma1 : 1 ≤ ma := by omega
    have hma2 : ma ≤ 50 := by omega
    have Qwa : Hid (IntKind.i64.wrap (1 + ra9) = (ma : Int)) := Lib.hid (by rw [hma]; exact IntWalk.i64_in _ (by omega))
    have Hma := Lib.hid hma
    clear HRa0 ha1 ha2 hma
    obtain ⟨hb1, hb2⟩ := restOf_in (a := b) (b := 50) (by decide)
    have HRb0 := fun w => Lib.hid (rest_any b 50 w (by decide) (by decide))
    obtain ⟨rb9, Hrb⟩ : ∃ r, Hid (restOf b 50 = r) := ⟨_, Lib.hid rfl⟩
    rw [Hrb.out] at hb1 hb2
    have HRb := fun w => Lib.hid (by have h9 := (HRb0 w).out; rw [Hrb.out] at h9; exact h9)
    obtain ⟨mb, hmb⟩ : ∃ mo : Nat, 1 + rb9 = (mo : Int) := ⟨(1 + rb9).toNat, by omega⟩
    have hmb1 : 1 ≤ mb := by omega
    have hmb2 : mb ≤ 50 := by omega
    have Qwb : Hid (IntKind.i64.wrap (1 + rb9) = (mb : Int)) := Lib.hid (by rw [hmb]; exact IntWalk.i64_in _ (by omega))
    have Hmb := Lib.hid hmb
    clear HRb0 hb1 hb2 hmb
    have Hcomp : Hid (S.comp = 0) := Lib.hid (comp_zero HS.out.good (by
      have h9 := Hoe.out
      unfold openE says at h9
      split at h9
      · exact h9
      · next h8 => exact absurd h9 h8))
    obtain ⟨n, Hn⟩ : ∃ n, Hid (S.rev = n) := ⟨_, Lib.hid rfl⟩
    have hn9 : n ≤ 1048576 := by rw [← Hn.out]; exact Hrev.out
    obtain ⟨F, HF⟩ : ∃ F, Hid ((foldT vw S.log H0).1 = F) := ⟨_, Lib.hid rfl⟩
    obtain ⟨gg, hgg⟩ : ∃ g, g = w5.heap.size := ⟨_, rfl⟩
    obtain ⟨gi, hgi⟩ : ∃ g, g = w5.heap.size + 1 := ⟨_, rfl⟩
    obtain ⟨w6, hw6⟩ : ∃ w6, w6 = (w5.alloc (.cells #[.slice none 0 0, .slice none 0 0] 89)).alloc (.cells #[.int .i64 1, .int .i64 2] 3) := ⟨_, rfl⟩
    have hb6 : Below w5.heap.size w5 w6 := by rw [hw6]; exact ((Below.refl _ w5).alloc (Nat.le_refl _) _).alloc (by rw [World.size_alloc]; omega) _
    have hs6 : w6.heap.size = w5.heap.size + 2 := by rw [hw6, World.size_alloc, World.size_alloc]
    have BG := Lib.hid (show w6.heap[gg]? = some (.cells #[.slice none 0 0, .slice none 0 0] 89 (0, 0)) by rw [hw6, hgg]; exact heap_alloc_old (heap_alloc_new w5 _))
    have BI := Lib.hid (show w6.heap[gi]? = some (.cells #[.int .i64 1, .int .i64 2] 3 (0, 0)) by rw [hw6, hgi]; exact heap_alloc_at (World.size_alloc _ _).symm)
    have HB_e := Lib.hid (HB_d.out.trans (hb6.mono HB_d.out.size))
    have HA_e := Lib.hid (StoreAt.belowW HA_d.out hb6)
    have HU_e := Lib.hid (HU_d.out.belowX hb6)
    have HW1_e := Lib.hid (HW1_d.out.belowX hb6)
    have HW2_e := Lib.hid (HW2_d.out.belowX hb6)
    have HBW_e := Lib.hid (HBW_d.out.trans (hb6.mono HBW_d.out.size))
    have hggb : w5.heap.size ≤ gg ∧ gg < w6.heap.size := by omega
    have hgib : w5.heap.size < gi ∧ gi < w6.heap.size ∧ gi ≠ gg := by omega
    have HL2b : Hid (∀ b, b = gw2 ∨ b = hm2 ∨ R2 b → b < w5.heap.size) := Lib.hid fun b hb => by
      rcases hb with rfl | rfl | hb
      · exact HW2_d.out.lts.1
      · exact HW2_d.out.lts.2
      · exact (HW2_d.out.low b hb).1
    go_wp2_with fail
    rw [← hgi, ← hgg, ← hw6]
    have hgo3 : gh < w3.heap.size ∧ om < w3.heap.size := ⟨hltgh, hltom⟩
    clear hgi hgg hw6 hb6 hs6 HB_d HA_d HU_d HW1_d HW2_d HBW_d
    go_loopg [65] 2 (fun k u65 wr => ∃ i : Nat, i + k = 2 ∧ u65 = .int .i64 (i : Int) ∧ Hid (Below w.heap.size w wr) ∧ Hid (StoreAt D wr g S) ∧ Hid (HubAt wr gh g om M2 ((2 : Nat) : Int) 2) ∧ Hid (wr.heap[gi]? = some (.cells #[.int .i64 1, .int .i64 2] 3 (0, 0))) ∧ Hid (Below W.heap.size W wr) ∧ ((i = 0 ∧ Hid (wr.heap[gg]? = some (.cells #[.slice none 0 0, .slice none 0 0] 89 (0, 0))) ∧ Hid (WatchAt wr gw1 hm1 vr1 R1 vw 0 H0 0) ∧ Hid (WatchAt wr gw2 hm2 vr2 R2 vw 0 H0 0)) ∨ (i = 1 ∧ ∃ E0 r0, Hid (wr.heap[gg]? = some (.cells #[r0, .slice none 0 0] 89 (0, 0))) ∧ Hid (OwnX EvX 12 E0 wr 56 r0 F) ∧ Hid (∀ b, E0 b → w6.heap.size ≤ b ∧ b < wr.heap.size) ∧ Hid (WatchAt wr gw2 hm2 vr2 R2 vw 0 H0 0)) ∨ (i = 2 ∧ ∃ E0 r0 E1 r1, Hid (wr.heap[gg]? = some (.cells #[r0, r1] 89 (0, 0))) ∧ Hid (OwnX EvX 12 E0 wr 56 r0 F) ∧ Hid (∀ b, E0 b → w6.heap.size ≤ b ∧ b < wr.heap.size) ∧ Hid (OwnX EvX 12 E1 wr 56 r1 F) ∧ Hid (∀ b, E1 b → w6.heap.size ≤ b ∧ b < wr.heap.size))) ∧ Hid (w6.heap.size ≤ wr.heap.size))
    case atStart => exact ⟨0, rfl, rfl, HB_e, HA_e, HU_e, BI, HBW_e, .inl ⟨rfl, BG, HW1_e, HW2_e⟩, Lib.hid (Nat.le_refl _)⟩
    case round =>
      clear HB_e HA_e HU_e BI HBW_e BG HW1_e HW2_e
      obtain ⟨i, hik, rfl, HBr, HAr, HUr, HIr, HWr, hrel, HSr⟩ := hrel
      rcases hrel with ⟨rfl, HG, HW1, HW2⟩ | ⟨rfl, E0, r0, HG, HP0, HP1, HW2⟩ | ⟨rfl, E0, r0, E1, r1, HG, HP0, HP1, HQ0, HQ1⟩
      · obtain rfl : gk = 2 := by omega
        have hci := fun i => cell_block HIr.out i
        have qwm := Qwa.out
        have hmo := Hma.out
        have hwr6 : w6.heap.size ≤ wr.heap.size := HSr.out
        have hgn1 : w3.heap.size ≤ gw1 ∧ w3.heap.size ≤ hm1 := ⟨HL1.out _ (.inl rfl), HL1.out _ (.inr (.inl rfl))⟩
        have hgn2 : gw1 < w5.heap.size ∧ hm1 < w5.heap.size := ⟨Nat.lt_of_lt_of_le (HL1b.out _ (.inl rfl)) hs5, Nat.lt_of_lt_of_le (HL1b.out _ (.inr (.inl rfl))) hs5⟩
        have hgn3 : gw1 < w4.heap.size ∧ hm1 < w4.heap.size := ⟨HL1b.out _ (.inl rfl), HL1b.out _ (.inr (.inl rfl))⟩
        go_wp2_with fail
        refine (HRa _).out.mono ?_
        rintro E9 wx ⟨rfl, hwx⟩
        subst hwx
        obtain ⟨wa, hwa⟩ : ∃ wa, wa = wr.alloc (.cells #[.int .i64 a, .int .i64 b] 3) := ⟨_, rfl⟩
        rw [← hwa]
        have hba : Below wr.heap.size wr wa := by rw [hwa]; exact (Below.refl _ wr).alloc (Nat.le_refl _) _
        have hsa : wr.heap.size ≤ wa.heap.size := hba.size
        have HBa := Lib.hid (HBr.out.trans (hba.mono HBr.out.size))
        have HWBa : Hid (Below W.heap.size W wa) := Lib.hid (HWr.out.trans (hba.mono HWr.out.size))
        have HAa : Hid (StoreAt D wa g S) := Lib.hid (StoreAt.belowW HAr.out hba)
        have HUa := Lib.hid (HUr.out.belowX hba)
        have HIa := Lib.hid (below_block hba HIr.out)
        have HGa := Lib.hid (below_block hba HG.out)
        have HTa := Lib.hid (HW1.out.belowX hba)
        have HVa := Lib.hid (HW2.out.belowX hba)

        have HRv := Lib.hid (rev_any HAa.out)
        rw [Hn.out] at HRv
        clear hwa hci HBr HWr HAr HUr HIr HG HW1 HW2 hba HSr
        go_wp2_with fail
        refine HRv.out.mono ?_
        rintro E9 wx ⟨rfl, hwx⟩
        subst hwx
        clear qwm hmo HRv
        go_wp2_with fail
        go_loopg [81] (n + 1) (fun k2 u81 wq => ∃ (j p : Nat) (r : Value), j + k2 = n + 1 ∧ u81 = .int .i64 (j : Int) ∧ p ≤ n ∧ (j ≤ p ∨ p = n) ∧ Hid (Below w.heap.size w wq) ∧ Hid (StoreAt D wq g S) ∧ Hid (HubAt wq gh g om M2 ((2 : Nat) : Int) 2) ∧ Hid (wq.heap[gi]? = some (.cells #[.int .i64 1, .int .i64 2] 3 (0, 0))) ∧ Hid (Below W.heap.size W wq) ∧ Hid (wq.heap[gg]? = some (.cells #[r, .slice none 0 0] 89 (0, 0))) ∧ Hid (OutX EvX 12 wa.heap.size wq 56 r (foldT vw (S.log.take p) H0).1) ∧ Hid (WatchAt wq gw1 hm1 vr1 R1 vw (p : Int) (foldT vw (S.log.take p) H0).2 p) ∧ Hid (WatchAt wq gw2 hm2 vr2 R2 vw 0 H0 0) ∧ wa.heap.size ≤ wq.heap.size)
        case atStart => exact ⟨0, 0, .slice none 0 0, by omega, rfl, Nat.zero_le _, .inl (Nat.le_refl _), HBa, HAa, HUa, HIa, HWBa, HGa, Lib.hid OutX.nil, HTa, HVa, Nat.le_refl _⟩
        case round =>
          clear HBa HAa HUa HIa HWBa HGa HTa HVa
          obtain ⟨j, p, r, hjk, rfl, hp, hjp, HB7, HA7, HU7, HI7, HWB7, HG7, HO7, HT7, HV7, hsq⟩ := hrel
          have hlog : S.log.length = n := Hn.out
          cases gk with
          | zero =>
            obtain rfl : p = n := by omega
            have HF9 : Hid ((foldT vw (S.log.take p) H0).1 = F) := Lib.hid (by rw [← HF.out, ← hlog, List.take_length])
            have HOw : Hid (OwnX EvX 12 (fun b => wa.heap.size ≤ b ∧ b < wr.heap.size) wr 56 r F) := Lib.hid (by have h9 := HO7.out.own famEv; rw [HF9.out] at h9; exact h9)
            clear hlog
            go_wp2_with fail
            go_roundg 1
            case measure => omega
            case rel => exact ⟨1, by omega, by go_num, HB7, HA7, HU7, HI7, HWB7, .inr (.inl ⟨rfl, _, r, HG7, HOw, Lib.hid fun b hb => ⟨by have := hb.1; omega, hb.2⟩, HV7⟩), Lib.hid (by omega)⟩
          | succ k2 =>
            obtain ⟨he, q, hpq, hqn, hlt, G, hG, hF1, hH1, hq1, hlen, hcnt⟩ := taken vw ma HS.out.good Hcomp.out p (by omega) hma1 H0
            have HX := Lib.hid (take_any (w0 := W) HA7.out HS.out HU7.out (id := 1) (by decide) HM1.out HT7.out HOk.out (by omega) ma hma1 hma2 HEnW.out.2.2 HWB7.out ⟨by have := hw2W.out; omega, by have := hw2W.out; omega⟩)
            rw [hG, he, hcnt] at HX
            clear he hG
            go_wp2_with fail
            refine HX.out.mono ?_
            rintro E9 w8 (⟨h0, -⟩ | ⟨-, E2, u, rfl, hu, hE2, hw8, ho8⟩)
            · exact absurd rfl h0
            have HU2 := Lib.hid hu
            have HE2 := Lib.hid hE2
            rw [hq1, hH1] at hw8
            have HT8 := Lib.hid hw8
            have hs8 := ho8.size
            have hsz7 : w6.heap.size ≤ wr.heap.size := by omega
            have HB8 := Lib.hid (HB7.out.trans (ho8.below (B := w.heap.size) (fun b hb => by have := hw2s.out; have := hw2W.out; rcases hb with rfl | rfl <;> omega) (by have := HB7.out.size; omega)))
            have HWB8 : Hid (Below W.heap.size W w8) := Lib.hid (HWB7.out.trans (ho8.below (B := W.heap.size) (fun b hb => by have := hw2s.out; have := hw2W.out; rcases hb with rfl | rfl <;> omega) (by have := HWB7.out.size; omega)))
            have HA8 : Hid (StoreAt D w8 g S) := Lib.hid (StoreAt.agree HA7.out (fun b hb => ho8.block b (by have := (HDl.out b hb).2; omega) (fun h9 => by have := (HDl.out b hb).2; rcases h9 with rfl | rfl <;> omega)) ho8.size)
            have HU8 : Hid (HubAt w8 gh g om M2 ((2 : Nat) : Int) 2) := Lib.hid (HU7.out.agreeX fun b hb => ho8.block b (by rcases hb with rfl | rfl <;> omega) (fun h9 => by have hb9 : b < w3.heap.size := (by rcases hb with rfl | rfl <;> omega); rcases h9 with rfl | rfl <;> omega))
            have HI8 := Lib.hid ((ho8.block gi (by omega) (fun h9 => by skip; rcases h9 with rfl | rfl <;> omega)).trans HI7.out)
            have HV8 : Hid (WatchAt w8 gw2 hm2 vr2 R2 vw 0 H0 0) := Lib.hid (HV7.out.agreeX ho8.size fun b hb => ho8.block b (by have := HL2b.out b hb; omega) (fun h9 => by have := HL2b.out b hb; have := HL2.out b hb; rcases h9 with rfl | rfl <;> omega))
            have HG8 := Lib.hid ((ho8.block gg (by omega) (fun h9 => by skip; rcases h9 with rfl | rfl <;> omega)).trans HG7.out)
            have HO8 : Hid (OutX EvX 12 wa.heap.size w8 56 r (foldT vw (S.log.take p) H0).1) := Lib.hid (HO7.out.agreeX famEv hs8 fun b h1 h2 => ho8.block b h2 (fun h9 => by skip; rcases h9 with rfl | rfl <;> omega))
            have HRb : Hid (∀ b, r.ownBlock = some b → b < wr.heap.size) := Lib.hid fun b hb => (HO7.out.at hb).2
            clear hw8 ho8 hu hE2 HX HB7 HA7 HU7 HI7 HWB7 HG7 HO7 HT7 HV7 hq1 hH1
            obtain ⟨ua, uc, hu9, -, -⟩ := HU2.out.own.row.len
            subst hu9
            obtain ⟨r9, rc, hr9, -, -⟩ := (HO8.out.own famEv).own.row.len
            subst hr9
            obtain ⟨m1, Hm1⟩ : ∃ n, Hid ((foldT vw (S.log.take p) H0).1.length = n) := ⟨_, Lib.hid rfl⟩
            obtain ⟨m2, Hm2⟩ : ∃ n, Hid (G.1.length = n) := ⟨_, Lib.hid rfl⟩
            rw [Hm1.out] at HO8 HG8 HRb
            rw [Hm2.out] at HU2 ⊢
            have hmq : m1 + m2 ≤ 1048576 := by
              have h9 := congrArg List.length hF1
              rw [List.length_append, Hm1.out, Hm2.out] at h9
              have h8 := foldT_len vw (S.log.take q) H0
              rw [List.length_take] at h8
              omega
            have HRow : Hid (RowAt (EvX (OutD wa.heap.size w8 (.slice r9 m1 rc)) w8) 12 w8 (.slice ua m2 uc) G.1) := Lib.hid (OwnAt.row (HU2.out.own.imp' fun cs x _ h9 => famEv.mono _ _ _ _ _ _ (fun b hb => ⟨by have := (HE2.out b hb).1; omega, (HE2.out b hb).2, fun e9 => by have := HRb.out b e9; have := (HE2.out b hb).1; omega⟩) h9))
            have cb := fun i => cell_block HG8.out i
            have fb := fun i => free_block HG8.out i
            obtain ⟨i0, hi0, hy0, hy1, hy2⟩ := info_parts Tryz.infoEv
            have hbase : wa.heap.size ≤ w8.heap.size := by omega
            have HF1 := Lib.hid hF1
            clear hF1 hlog
            go_wp2_with (at_builtin; refine wpList_append_ownAt (R := (EvX (OutD wa.heap.size w8 (.slice r9 m1 rc)) w8)) (k := 12) (e := 56) (B := wa.heap.size) (l := (foldT vw (S.log.take p) H0).1) (m := G.1) _ (by rfl) _ _ _ (by rfl) i0 _ 184 Tryz.underlying51 hi0 hy0 hy1 hy2 rfl (by omega) (famEv.flat _ _) (famEv.one _ _) _ (by rfl) HO8.out _ (by rfl) HRow.out (by rw [Hm1.out, Hm2.out]; unfold maxLen; omega) (by rw [Hm1.out, Hm2.out]; omega) hbase ?_)
            intro v' w9 p1 p2 p3 p4
            have HO9 := Lib.hid (OutX.appended famEv p1 p2 p4)
            rw [HF1.out] at HO9
            have O9 : Only (fun b => (Value.slice r9 m1 rc).ownBlock = some b) w8 w9 := Only.grown p2 fun g h => h
            have HPB : Hid (∀ b, (Value.slice r9 m1 rc).ownBlock = some b → wa.heap.size ≤ b) := Lib.hid p3
            have hs9 : w8.heap.size ≤ w9.heap.size := O9.size
            have HB9 := Lib.hid (HB8.out.trans (O9.below (B := w.heap.size) (fun b hb => by have := (HO8.out.at hb).1; have := hw2s.out; have := hw2W.out; omega) (by have := HB8.out.size; omega)))
            have HWB9 : Hid (Below W.heap.size W w9) := Lib.hid (HWB8.out.trans (O9.below (B := W.heap.size) (fun b hb => by have := (HO8.out.at hb).1; have := hw2s.out; have := hw2W.out; omega) (by have := HWB8.out.size; omega)))
            have HA9 : Hid (StoreAt D w9 g S) := Lib.hid (StoreAt.agree HA8.out (fun b hb => O9.block b (by have := (HDl.out b hb).2; omega) (fun h9 => by have := (HDl.out b hb).2; have := (HO8.out.at h9).1; omega)) O9.size)
            have HU9 : Hid (HubAt w9 gh g om M2 ((2 : Nat) : Int) 2) := Lib.hid (HU8.out.agreeX fun b hb => O9.block b (by rcases hb with rfl | rfl <;> omega) (fun h9 => by have hb9 : b < w3.heap.size := (by rcases hb with rfl | rfl <;> omega); have := (HO8.out.at h9).1; omega))
            have HI9 := Lib.hid ((O9.block gi (by omega) (fun h9 => by skip; have := (HO8.out.at h9).1; omega)).trans HI8.out)
            have HV9 : Hid (WatchAt w9 gw2 hm2 vr2 R2 vw 0 H0 0) := Lib.hid (HV8.out.agreeX O9.size fun b hb => O9.block b (by have := HL2b.out b hb; omega) (fun h9 => by have := HL2b.out b hb; have := HL2.out b hb; have := (HO8.out.at h9).1; omega))
            have HG9 := Lib.hid ((O9.block gg (by omega) (fun h9 => by skip; have := (HO8.out.at h9).1; omega)).trans HG8.out)
            have HT9 := Lib.hid (HT8.out.agreeX O9.size fun b hb => O9.block b (by
              rcases hb with rfl | rfl | hb
              · exact HT8.out.lts.1
              · exact HT8.out.lts.2
              · exact (HT8.out.low b hb).1) (fun h9 => by have := HL1b.out b hb; have := (HO8.out.at h9).1; omega))
            obtain ⟨a9, c9, hv9, -, -⟩ := (HO9.out.own famEv).own.row.len
            obtain ⟨m3, Hm3⟩ : ∃ n, Hid ((foldT vw (S.log.take q) H0).1.length = n) := ⟨_, Lib.hid rfl⟩
            rw [Hm3.out] at hv9
            subst hv9
            clear O9 p1 p2 p3 p4 cb fb HPB HRow HU2 HE2 HB8 HWB8 HA8 HU8 HI8 HG8 HT8 HO8 HRb HV8
            have cb := fun i => cell_block HG9.out i
            have fb := fun i => free_block HG9.out i
            obtain ⟨w10, hw10⟩ : ∃ w', w9.setCell ⟨gg, 0, none⟩ (.slice a9 m3 c9) = w' := ⟨_, rfl⟩
            have t1 := touch_setCell (i := 0) (v := .slice a9 m3 c9) HG9.out
            rw [hw10] at t1
            have HG10 : Hid (w10.heap[gg]? = some (.cells #[(.slice a9 m3 c9), .slice none 0 0] 89 (0, 0))) := Lib.hid t1.1
            have O10 : Only (fun b => b = gg) w9 w10 := Only.touch (D := fun b => b = gg) t1.2 rfl
            have hs10 : w9.heap.size ≤ w10.heap.size := O10.size
            have HB10 := Lib.hid (HB9.out.trans (O10.below (B := w.heap.size) (fun b hb => by have h8 : b = gg := hb; have := hw2s.out; have := hw2W.out; omega) (by have := HB9.out.size; omega)))
            have HWB10 : Hid (Below W.heap.size W w10) := Lib.hid (HWB9.out.trans (O10.below (B := W.heap.size) (fun b hb => by have h8 : b = gg := hb; have := hw2s.out; have := hw2W.out; omega) (by have := HWB9.out.size; omega)))
            have HA10 : Hid (StoreAt D w10 g S) := Lib.hid (StoreAt.agree HA9.out (fun b hb => O10.block b (by have := (HDl.out b hb).2; omega) (fun h9 => by have := (HDl.out b hb).2; have h8 : _ = gg := h9; omega)) O10.size)
            have HU10 : Hid (HubAt w10 gh g om M2 ((2 : Nat) : Int) 2) := Lib.hid (HU9.out.agreeX fun b hb => O10.block b (by rcases hb with rfl | rfl <;> omega) (fun h9 => by have hb9 : b < w3.heap.size := (by rcases hb with rfl | rfl <;> omega); have h8 : _ = gg := h9; omega))
            have HI10 := Lib.hid ((O10.block gi (by omega) (fun h9 => by skip; have h8 : _ = gg := h9; omega)).trans HI9.out)
            have HV10 : Hid (WatchAt w10 gw2 hm2 vr2 R2 vw 0 H0 0) := Lib.hid (HV9.out.agreeX O10.size fun b hb => O10.block b (by have := HL2b.out b hb; omega) (fun h9 => by have := HL2b.out b hb; have := HL2.out b hb; have h8 : _ = gg := h9; omega))
            have HT10 := Lib.hid (HT9.out.agreeX O10.size fun b hb => O10.block b (by
              rcases hb with rfl | rfl | hb
              · exact HT9.out.lts.1
              · exact HT9.out.lts.2
              · exact (HT9.out.low b hb).1) (fun h9 => by have := HL1b.out b hb; have h8 : _ = gg := h9; omega))
            have HO10 : Hid (OutX EvX 12 wa.heap.size w10 56 (.slice a9 m3 c9) (foldT vw (S.log.take q) H0).1) := Lib.hid (HO9.out.agreeX famEv hs10 fun b h1 h2 => O10.block b h2 (fun h9 => by skip; have h8 : _ = gg := h9; omega))
            have hlog : S.log.length = n := Hn.out
            have hqq : q ≤ n ∧ (j + 1 ≤ q ∨ q = n) := by omega
            clear hlog
            go_wp2_with fail
            try rw [hw10]
            clear t1 hw10 cb fb O10
            go_roundg k2
            case measure => omega
            case rel => exact ⟨j + 1, q, _, by omega, by go_num, hqq.1, hqq.2, HB10, HA10, HU10, HI10, HWB10, HG10, HO10, HT10, HV10, by omega⟩
      · obtain rfl : gk = 1 := by omega
        have hci := fun i => cell_block HIr.out i
        have qwm := Qwb.out
        have hmo := Hmb.out
        have hwr6 : w6.heap.size ≤ wr.heap.size := HSr.out
        have hgn1 : w3.heap.size ≤ gw2 ∧ w3.heap.size ≤ hm2 := ⟨Nat.le_trans hs4 (HL2.out _ (.inl rfl)), Nat.le_trans hs4 (HL2.out _ (.inr (.inl rfl)))⟩
        have hgn2 : gw2 < w5.heap.size ∧ hm2 < w5.heap.size := ⟨HL2b.out _ (.inl rfl), HL2b.out _ (.inr (.inl rfl))⟩

        go_wp2_with fail
        refine (HRb _).out.mono ?_
        rintro E9 wx ⟨rfl, hwx⟩
        subst hwx
        obtain ⟨wa, hwa⟩ : ∃ wa, wa = wr.alloc (.cells #[.int .i64 a, .int .i64 b] 3) := ⟨_, rfl⟩
        rw [← hwa]
        have hba : Below wr.heap.size wr wa := by rw [hwa]; exact (Below.refl _ wr).alloc (Nat.le_refl _) _
        have hsa : wr.heap.size ≤ wa.heap.size := hba.size
        have HBa := Lib.hid (HBr.out.trans (hba.mono HBr.out.size))
        have HWBa : Hid (Below W.heap.size W wa) := Lib.hid (HWr.out.trans (hba.mono HWr.out.size))
        have HAa : Hid (StoreAt D wa g S) := Lib.hid (StoreAt.belowW HAr.out hba)
        have HUa := Lib.hid (HUr.out.belowX hba)
        have HIa := Lib.hid (below_block hba HIr.out)
        have HGa := Lib.hid (below_block hba HG.out)
        have HTa := Lib.hid (HW2.out.belowX hba)
        have HPa := Lib.hid (HP0.out.agree famEv fun b hb => hba.block b (HP1.out b hb).2)
        have HE0 : Hid (∀ b, E0 b → w6.heap.size ≤ b ∧ b < wa.heap.size) := Lib.hid fun b hb => ⟨(HP1.out b hb).1, Nat.lt_of_lt_of_le (HP1.out b hb).2 hsa⟩
        have HRv := Lib.hid (rev_any HAa.out)
        rw [Hn.out] at HRv
        clear hwa hci HBr HWr HAr HUr HIr HG HW2 HP0 HP1 hba HSr
        go_wp2_with fail
        refine HRv.out.mono ?_
        rintro E9 wx ⟨rfl, hwx⟩
        subst hwx
        clear qwm hmo HRv
        go_wp2_with fail
        go_loopg [81] (n + 1) (fun k2 u81 wq => ∃ (j p : Nat) (r : Value), j + k2 = n + 1 ∧ u81 = .int .i64 (j : Int) ∧ p ≤ n ∧ (j ≤ p ∨ p = n) ∧ Hid (Below w.heap.size w wq) ∧ Hid (StoreAt D wq g S) ∧ Hid (HubAt wq gh g om M2 ((2 : Nat) : Int) 2) ∧ Hid (wq.heap[gi]? = some (.cells #[.int .i64 1, .int .i64 2] 3 (0, 0))) ∧ Hid (Below W.heap.size W wq) ∧ Hid (wq.heap[gg]? = some (.cells #[r0, r] 89 (0, 0))) ∧ Hid (OutX EvX 12 wa.heap.size wq 56 r (foldT vw (S.log.take p) H0).1) ∧ Hid (WatchAt wq gw2 hm2 vr2 R2 vw (p : Int) (foldT vw (S.log.take p) H0).2 p) ∧ Hid (OwnX EvX 12 E0 wq 56 r0 F) ∧ wa.heap.size ≤ wq.heap.size)
        case atStart => exact ⟨0, 0, .slice none 0 0, by omega, rfl, Nat.zero_le _, .inl (Nat.le_refl _), HBa, HAa, HUa, HIa, HWBa, HGa, Lib.hid OutX.nil, HTa, HPa, Nat.le_refl _⟩
        case round =>
          clear HBa HAa HUa HIa HWBa HGa HTa HPa
          obtain ⟨j, p, r, hjk, rfl, hp, hjp, HB7, HA7, HU7, HI7, HWB7, HG7, HO7, HT7, HP7, hsq⟩ := hrel
          have hlog : S.log.length = n := Hn.out
          cases gk with
          | zero =>
            obtain rfl : p = n := by omega
            have HF9 : Hid ((foldT vw (S.log.take p) H0).1 = F) := Lib.hid (by rw [← HF.out, ← hlog, List.take_length])
            have HOw : Hid (OwnX EvX 12 (fun b => wa.heap.size ≤ b ∧ b < wr.heap.size) wr 56 r F) := Lib.hid (by have h9 := HO7.out.own famEv; rw [HF9.out] at h9; exact h9)
            clear hlog
            go_wp2_with fail
            go_roundg 0
            case measure => omega
            case rel => exact ⟨2, by omega, by go_num, HB7, HA7, HU7, HI7, HWB7, .inr (.inr ⟨rfl, _, r0, _, r, HG7, HP7, Lib.hid fun b hb => ⟨(HE0.out b hb).1, Nat.lt_of_lt_of_le (HE0.out b hb).2 hsq⟩, HOw, Lib.hid fun b hb => ⟨by have := hb.1; omega, hb.2⟩⟩), Lib.hid (by omega)⟩
          | succ k2 =>
            obtain ⟨he, q, hpq, hqn, hlt, G, hG, hF1, hH1, hq1, hlen, hcnt⟩ := taken vw mb HS.out.good Hcomp.out p (by omega) hmb1 H0
            have HX := Lib.hid (take_any (w0 := W) HA7.out HS.out HU7.out (id := 2) (by decide) HM2.out HT7.out HOk.out (by omega) mb hmb1 hmb2 HEnW.out.2.2 HWB7.out ⟨by have := hw2W.out; omega, by have := hw2W.out; omega⟩)
            rw [hG, he, hcnt] at HX
            clear he hG
            go_wp2_with fail
            refine HX.out.mono ?_
            rintro E9 w8 (⟨h0, -⟩ | ⟨-, E2, u, rfl, hu, hE2, hw8, ho8⟩)
            · exact absurd rfl h0
            have HU2 := Lib.hid hu
            have HE2 := Lib.hid hE2
            rw [hq1, hH1] at hw8
            have HT8 := Lib.hid hw8
            have hs8 := ho8.size
            have hsz7 : w6.heap.size ≤ wr.heap.size := by omega
            have HB8 := Lib.hid (HB7.out.trans (ho8.below (B := w.heap.size) (fun b hb => by have := hw2s.out; have := hw2W.out; rcases hb with rfl | rfl <;> omega) (by have := HB7.out.size; omega)))
            have HWB8 : Hid (Below W.heap.size W w8) := Lib.hid (HWB7.out.trans (ho8.below (B := W.heap.size) (fun b hb => by have := hw2s.out; have := hw2W.out; rcases hb with rfl | rfl <;> omega) (by have := HWB7.out.size; omega)))
            have HA8 : Hid (StoreAt D w8 g S) := Lib.hid (StoreAt.agree HA7.out (fun b hb => ho8.block b (by have := (HDl.out b hb).2; omega) (fun h9 => by have := (HDl.out b hb).2; rcases h9 with rfl | rfl <;> omega)) ho8.size)
            have HU8 : Hid (HubAt w8 gh g om M2 ((2 : Nat) : Int) 2) := Lib.hid (HU7.out.agreeX fun b hb => ho8.block b (by rcases hb with rfl | rfl <;> omega) (fun h9 => by have hb9 : b < w3.heap.size := (by rcases hb with rfl | rfl <;> omega); rcases h9 with rfl | rfl <;> omega))
            have HI8 := Lib.hid ((ho8.block gi (by omega) (fun h9 => by skip; rcases h9 with rfl | rfl <;> omega)).trans HI7.out)
            have HP8 : Hid (OwnX EvX 12 E0 w8 56 r0 F) := Lib.hid (HP7.out.agree famEv fun b hb => ho8.block b (by have := HE0.out b hb; omega) (fun h9 => by have := HE0.out b hb; rcases h9 with rfl | rfl <;> omega))
            have HG8 := Lib.hid ((ho8.block gg (by omega) (fun h9 => by skip; rcases h9 with rfl | rfl <;> omega)).trans HG7.out)
            have HO8 : Hid (OutX EvX 12 wa.heap.size w8 56 r (foldT vw (S.log.take p) H0).1) := Lib.hid (HO7.out.agreeX famEv hs8 fun b h1 h2 => ho8.block b h2 (fun h9 => by skip; rcases h9 with rfl | rfl <;> omega))
            have HRb : Hid (∀ b, r.ownBlock = some b → b < wr.heap.size) := Lib.hid fun b hb => (HO7.out.at hb).2
            clear hw8 ho8 hu hE2 HX HB7 HA7 HU7 HI7 HWB7 HG7 HO7 HT7 HP7 hq1 hH1
            obtain ⟨ua, uc, hu9, -, -⟩ := HU2.out.own.row.len
            subst hu9
            obtain ⟨r9, rc, hr9, -, -⟩ := (HO8.out.own famEv).own.row.len
            subst hr9
            obtain ⟨m1, Hm1⟩ : ∃ n, Hid ((foldT vw (S.log.take p) H0).1.length = n) := ⟨_, Lib.hid rfl⟩
            obtain ⟨m2, Hm2⟩ : ∃ n, Hid (G.1.length = n) := ⟨_, Lib.hid rfl⟩
            rw [Hm1.out] at HO8 HG8 HRb
            rw [Hm2.out] at HU2 ⊢
            have hmq : m1 + m2 ≤ 1048576 := by
              have h9 := congrArg List.length hF1
              rw [List.length_append, Hm1.out, Hm2.out] at h9
              have h8 := foldT_len vw (S.log.take q) H0
              rw [List.length_take] at h8
              omega
            have HRow : Hid (RowAt (EvX (OutD wa.heap.size w8 (.slice r9 m1 rc)) w8) 12 w8 (.slice ua m2 uc) G.1) := Lib.hid (OwnAt.row (HU2.out.own.imp' fun cs x _ h9 => famEv.mono _ _ _ _ _ _ (fun b hb => ⟨by have := (HE2.out b hb).1; omega, (HE2.out b hb).2, fun e9 => by have := HRb.out b e9; have := (HE2.out b hb).1; omega⟩) h9))
            have cb := fun i => cell_block HG8.out i
            have fb := fun i => free_block HG8.out i
            obtain ⟨i0, hi0, hy0, hy1, hy2⟩ := info_parts Tryz.infoEv
            have hbase : wa.heap.size ≤ w8.heap.size := by omega
            have HF1 := Lib.hid hF1
            clear hF1 hlog
            go_wp2_with (at_builtin; refine wpList_append_ownAt (R := (EvX (OutD wa.heap.size w8 (.slice r9 m1 rc)) w8)) (k := 12) (e := 56) (B := wa.heap.size) (l := (foldT vw (S.log.take p) H0).1) (m := G.1) _ (by rfl) _ _ _ (by rfl) i0 _ 184 Tryz.underlying51 hi0 hy0 hy1 hy2 rfl (by omega) (famEv.flat _ _) (famEv.one _ _) _ (by rfl) HO8.out _ (by rfl) HRow.out (by rw [Hm1.out, Hm2.out]; unfold maxLen; omega) (by rw [Hm1.out, Hm2.out]; omega) hbase ?_)
            intro v' w9 p1 p2 p3 p4
            have HO9 := Lib.hid (OutX.appended famEv p1 p2 p4)
            rw [HF1.out] at HO9
            have O9 : Only (fun b => (Value.slice r9 m1 rc).ownBlock = some b) w8 w9 := Only.grown p2 fun g h => h
            have HPB : Hid (∀ b, (Value.slice r9 m1 rc).ownBlock = some b → wa.heap.size ≤ b) := Lib.hid p3
            have hs9 : w8.heap.size ≤ w9.heap.size := O9.size
            have HB9 := Lib.hid (HB8.out.trans (O9.below (B := w.heap.size) (fun b hb => by have := (HO8.out.at hb).1; have := hw2s.out; have := hw2W.out; omega) (by have := HB8.out.size; omega)))
            have HWB9 : Hid (Below W.heap.size W w9) := Lib.hid (HWB8.out.trans (O9.below (B := W.heap.size) (fun b hb => by have := (HO8.out.at hb).1; have := hw2s.out; have := hw2W.out; omega) (by have := HWB8.out.size; omega)))
            have HA9 : Hid (StoreAt D w9 g S) := Lib.hid (StoreAt.agree HA8.out (fun b hb => O9.block b (by have := (HDl.out b hb).2; omega) (fun h9 => by have := (HDl.out b hb).2; have := (HO8.out.at h9).1; omega)) O9.size)
            have HU9 : Hid (HubAt w9 gh g om M2 ((2 : Nat) : Int) 2) := Lib.hid (HU8.out.agreeX fun b hb => O9.block b (by rcases hb with rfl | rfl <;> omega) (fun h9 => by have hb9 : b < w3.heap.size := (by rcases hb with rfl | rfl <;> omega); have := (HO8.out.at h9).1; omega))
            have HI9 := Lib.hid ((O9.block gi (by omega) (fun h9 => by skip; have := (HO8.out.at h9).1; omega)).trans HI8.out)
            have HP9 : Hid (OwnX EvX 12 E0 w9 56 r0 F) := Lib.hid (HP8.out.agree famEv fun b hb => O9.block b (by have := HE0.out b hb; omega) (fun h9 => by have := HE0.out b hb; have := (HO8.out.at h9).1; omega))
            have HG9 := Lib.hid ((O9.block gg (by omega) (fun h9 => by skip; have := (HO8.out.at h9).1; omega)).trans HG8.out)
            have HT9 := Lib.hid (HT8.out.agreeX O9.size fun b hb => O9.block b (by
              rcases hb with rfl | rfl | hb
              · exact HT8.out.lts.1
              · exact HT8.out.lts.2
              · exact (HT8.out.low b hb).1) (fun h9 => by have := HL2b.out b hb; have := (HO8.out.at h9).1; omega))
            obtain ⟨a9, c9, hv9, -, -⟩ := (HO9.out.own famEv).own.row.len
            obtain ⟨m3, Hm3⟩ : ∃ n, Hid ((foldT vw (S.log.take q) H0).1.length = n) := ⟨_, Lib.hid rfl⟩
            rw [Hm3.out] at hv9
            subst hv9
            clear O9 p1 p2 p3 p4 cb fb HPB HRow HU2 HE2 HB8 HWB8 HA8 HU8 HI8 HG8 HT8 HO8 HRb HP8
            have cb := fun i => cell_block HG9.out i
            have fb := fun i => free_block HG9.out i
            obtain ⟨w10, hw10⟩ : ∃ w', w9.setCell ⟨gg, 1, none⟩ (.slice a9 m3 c9) = w' := ⟨_, rfl⟩
            have t1 := touch_setCell (i := 1) (v := .slice a9 m3 c9) HG9.out
            rw [hw10] at t1
            have HG10 : Hid (w10.heap[gg]? = some (.cells #[r0, (.slice a9 m3 c9)] 89 (0, 0))) := Lib.hid t1.1
            have O10 : Only (fun b => b = gg) w9 w10 := Only.touch (D := fun b => b = gg) t1.2 rfl
            have hs10 : w9.heap.size ≤ w10.heap.size := O10.size
            have HB10 := Lib.hid (HB9.out.trans (O10.below (B := w.heap.size) (fun b hb => by have h8 : b = gg := hb; have := hw2s.out; have := hw2W.out; omega) (by have := HB9.out.size; omega)))
            have HWB10 : Hid (Below W.heap.size W w10) := Lib.hid (HWB9.out.trans (O10.below (B := W.heap.size) (fun b hb => by have h8 : b = gg := hb; have := hw2s.out; have := hw2W.out; omega) (by have := HWB9.out.size; omega)))
            have HA10 : Hid (StoreAt D w10 g S) := Lib.hid (StoreAt.agree HA9.out (fun b hb => O10.block b (by have := (HDl.out b hb).2; omega) (fun h9 => by have := (HDl.out b hb).2; have h8 : _ = gg := h9; omega)) O10.size)
            have HU10 : Hid (HubAt w10 gh g om M2 ((2 : Nat) : Int) 2) := Lib.hid (HU9.out.agreeX fun b hb => O10.block b (by rcases hb with rfl | rfl <;> omega) (fun h9 => by have hb9 : b < w3.heap.size := (by rcases hb with rfl | rfl <;> omega); have h8 : _ = gg := h9; omega))
            have HI10 := Lib.hid ((O10.block gi (by omega) (fun h9 => by skip; have h8 : _ = gg := h9; omega)).trans HI9.out)
            have HP10 : Hid (OwnX EvX 12 E0 w10 56 r0 F) := Lib.hid (HP9.out.agree famEv fun b hb => O10.block b (by have := HE0.out b hb; omega) (fun h9 => by have := HE0.out b hb; have h8 : _ = gg := h9; omega))
            have HT10 := Lib.hid (HT9.out.agreeX O10.size fun b hb => O10.block b (by
              rcases hb with rfl | rfl | hb
              · exact HT9.out.lts.1
              · exact HT9.out.lts.2
              · exact (HT9.out.low b hb).1) (fun h9 => by have := HL2b.out b hb; have h8 : _ = gg := h9; omega))
            have HO10 : Hid (OutX EvX 12 wa.heap.size w10 56 (.slice a9 m3 c9) (foldT vw (S.log.take q) H0).1) := Lib.hid (HO9.out.agreeX famEv hs10 fun b h1 h2 => O10.block b h2 (fun h9 => by skip; have h8 : _ = gg := h9; omega))
            have hlog : S.log.length = n := Hn.out
            have hqq : q ≤ n ∧ (j + 1 ≤ q ∨ q = n) := by omega
            clear hlog
            go_wp2_with fail
            try rw [hw10]
            clear t1 hw10 cb fb O10
            go_roundg k2
            case measure => omega
            case rel => exact ⟨j + 1, q, _, by omega, by go_num, hqq.1, hqq.2, HB10, HA10, HU10, HI10, HWB10, HG10, HO10, HT10, HP10, by omega⟩
      · obtain rfl : gk = 0 := by omega
        have HM9 : Hid ((fun k : Int => if k = 1 then none else M2 k) 1 = none) := Lib.hid (if_pos rfl)
        have hFl : F.length ≤ 1048576 := by
          rw [← HF.out]
          have h9 := foldT_len vw S.log H0
          have h8 : S.log.length = n := Hn.out
          omega
        have HFok : Hid (∀ y ∈ F, okEvS y) := Lib.hid fun y hy => by
          rw [← HF.out] at hy
          obtain ⟨x, h1, h2⟩ := foldT_obj vw S.log H0 y hy
          unfold okEvS
          rw [h2]
          exact HS.out.obj x h1
        have HSame := Lib.hid (sameEvSs_yes r0 r1 F wr (evs_row HP0.out) (evs_row HQ0.out) (by omega) HFok.out)
        have cb := fun i => cell_block HG.out i
        go_wp2_with fail
        refine HSame.out.mono ?_
        rintro E9 wx ⟨rfl, hbx⟩
        have HBx := Lib.hid (HBr.out.trans (hbx.mono HBr.out.size))
        have HUx := Lib.hid (HUr.out.belowX hbx)
        clear cb hbx HSame
        have HX := Lib.hid (close_some HUx.out 1 (by decide) HM1.out)
        go_wp2_with fail
        refine HX.out.mono ?_
        rintro E9 wy ⟨rfl, huy, hoy⟩
        have HUy := Lib.hid huy
        have HBy := Lib.hid (HBx.out.trans (hoy.below (B := w.heap.size) (fun b hb => by have h8 : b = om := hb; have := hw2s.out; omega) HBx.out.size))
        clear huy hoy HX
        have HX := Lib.hid (close_none HUy.out 1 (by decide) HM9.out)
        go_wp2_with fail
        refine HX.out.mono ?_
        rintro E9 wz ⟨rfl, hwz⟩
        subst hwz
        go_wp2_with fail
        go_ret
        exact ⟨by first | rfl | simp, HBy.out⟩
end Sto
end Go.Proofs.YtnnceaapodgfbaaGreatDoor
