/- final.Free: its contract. -/
import Derived.Test.YteadfpbkhledlaaFinalWalk
namespace Go.Proofs.Yteadfpbkhledlaa
open Go.RowKit

theorem ObjOwn.drew {w : World} {B : Nat} {vl vo vh : Value} {labels : List GLabel} {owners holds : List ByteArray} (h : ObjOwn w B vl vo vh labels owners holds) : ObjOwn w.drew B vl vo vh labels owners holds := h
set_option maxRecDepth 100000 in
set_option maxHeartbeats 800000 in
theorem finalFree_no (k : GKey) (vl vo vh : Value) (e : Bool) (u : ByteArray) (r : Int) (d : ByteArray) (holds : List ByteArray) (x : ByteArray) (w : World) (h : StrAt w vh holds) (hl : holds.length ≤ 1048576) (hx : x ∉ holds) :
    Calls Try.prog 35 #[objV k vl vo vh e u r d, .string x] w fun E w' => E = .returned (.tuple #[zeroObj, .bool false, .int .i64 7]) ∧ Below w.heap.size w w' := by
  have H := Lib.hid h
  have Hi := Lib.hid (idx_none hx)
  clear h hx
  unfold objV zeroObj
  have hb2 : ∀ A B : Obj, Below w.heap.size w ((w.alloc A).alloc B) := fun A B => ((Below.refl _ _).alloc (Nat.le_refl _) _).alloc (by simp) _
  have Hb2 := Lib.hid hb2
  clear hb2
  obtain ⟨ah, ch, rfl, _, _⟩ := H.out.len
  go_enter Try.func35, Try.ntmps35
  go_wp2_with fail
  refine (index_any _ holds x _ (H.out.below (Hb2.out _ _)) (by omega)).mono ?_
  rintro E w1 ⟨rfl, rfl⟩
  rw [Hi.out]
  go_wp2_with fail
  refine bodyPost_ret (v := .tuple #[.agg #[.string { data := #[] }, .string { data := #[] }, .string { data := #[] }, .slice none 0 0, .slice none 0 0, .slice none 0 0, .bool false, .string { data := #[] }, .int .i64 0, .string { data := #[] }], .bool false, .int .i64 7]) ?_ rfl ⟨rfl, Hb2.out _ _⟩
  simp [results, Try.results35, go_sem]

set_option maxRecDepth 100000 in
set_option maxHeartbeats 1600000 in
theorem finalFree_ok (k : GKey) (vl vo vh : Value) (e : Bool) (u : ByteArray) (r : Int) (d : ByteArray) (labels : List GLabel) (owners holds : List ByteArray) (x : ByteArray) (i : Nat) (w : World) (h : ObjAt w vl vo vh labels owners holds) (hx : holds[i]? = some x) (hn : holds.Nodup) :
    Calls Try.prog 35 #[objV k vl vo vh e u r d, .string x] w fun E w' => ∃ vl' vo' vh', E = .returned (.tuple #[objV k vl' vo' vh' e u r d, .bool (e && (((holds.length - 1 : Nat) : Int) == 0)), .int .i64 0]) ∧ ObjOwn w' w.heap.size vl' vo' vh' labels owners (holds.eraseIdx i) ∧ Below w.heap.size w w' := by
  have Hi := Lib.hid (idx_at hx hn)
  have hil : i < holds.length := (List.getElem?_eq_some_iff.1 hx).1
  have hlb := h.2.2.2.2.2
  have hel : (holds.eraseIdx i).length = holds.length - 1 := List.length_eraseIdx_of_lt hil
  have Hel := Lib.hid hel
  have q1 : ¬ (i : Int) < 0 := by omega
  have hb2 : ∀ A B : Obj, Below w.heap.size w ((w.alloc A).alloc B) := fun A B => ((Below.refl _ _).alloc (Nat.le_refl _) _).alloc (by simp) _
  have Hb2 := Lib.hid hb2
  have H := Lib.hid h
  obtain ⟨ah0, ch0, hv, _, _⟩ := h.2.2.1.len
  subst hv
  clear hb2 h hx hn hel
  unfold objV
  go_enter Try.func35, Try.ntmps35
  go_wp2_with fail
  refine (index_any _ holds x _ (H.out.2.2.1.below (Hb2.out _ _)) (by omega)).mono ?_
  rintro E w1 ⟨rfl, rfl⟩
  rw [Hi.out]
  go_wp2_with fail
  refine (storeCopy_obj k _ _ _ _ _ _ _ labels owners holds _ (H.out.below (Hb2.out _ _))).mono ?_
  rintro E w1 ⟨al, bl, cl, ao, bo, co, ah, bh, ch, rfl, hown, rfl, hb⟩
  have b0 := below_block hb (heap_alloc_old (heap_alloc_at rfl))
  have b1 := below_block hb (heap_alloc_at (n := w.heap.size + 1) (by simp))
  have hbw : Below w.heap.size w w1 := (Hb2.out _ _).trans (hb.mono (by simp; omega))
  have hs1 := hb.size
  simp only [World.size_alloc] at hown b0 b1 hs1
  clear hb
  unfold objV
  simp only []
  go_at_K
  refine at_last (by assumption) ?_
  refine wpList_store_box (by rfl) _ _ _ (by rfl) _ _ (by rfl) (by rfl) _ _ (by first | assumption | exact (touch_setCell (by assumption)).2.block (by assumption) (by omega)) (by exact Try.sizeObj) (by rfl) (by simp [Value.oneCell']) ?_
  intro W2 b2 t2
  have d1 := t2.block b1 (by omega)
  have hown2 := hown.touchLow t2 (by omega)
  have Hown := Lib.hid hown2
  have Hbw := Lib.hid (t2.below hbw (by omega))
  have hs2 : w.heap.size + 2 ≤ W2.heap.size := by have := t2.size; omega
  clear hown hbw b0 b1 t2 hown2 hs1
  have c2 := fun i => cell_block b2 i
  go_wp2_with fail
  refine (deleteAt_any _ holds _ i W2 Hown.out.2.2.1 hil (by omega)).mono ?_
  rintro E w3 ⟨g, c, hv3, hg, rfl, hown3, t3⟩
  obtain ⟨rfl, rfl⟩ : ah = some ⟨g, 0, none⟩ ∧ ch = c := by injection hv3 with e1 _ e3; exact ⟨e1, e3⟩
  have hob : ObjOwn w3 (w.heap.size + 2) (.slice al bl cl) (.slice ao bo co) (.slice (some ⟨g, 0, none⟩) (holds.length - 1) ch) labels owners (holds.eraseIdx i) :=
    ⟨Hown.out.1.touch flat_label t3 fun q hq e => Hown.out.1.other Hown.out.2.2.1 (by decide) hq (by rw [e]; rfl), Hown.out.2.1.touch flat_string t3 fun q hq e => Hown.out.2.2.2 q (by rw [e]; rfl) hq, hown3, fun q hq => Hown.out.2.2.2 q hq⟩
  have Hob := Lib.hid hob
  have b3 := t3.block b2 (by omega)
  have d3 := t3.block d1 (by omega)
  have Hbw3 := Lib.hid (t3.below Hbw.out (by omega))
  have c3 := fun i => cell_block b3 i
  have f3 := fun i => free_block b3 i
  clear c2 hown3 t3 hob hv3
  go_upto_region 6 with fail
  have b4 := (touch_setCell (i := 5) (v := .slice (some ⟨g, 0, none⟩) (holds.length - 1) ch) b3).1
  simp only [List.setIfInBounds_toArray, List.set_cons_zero, List.set_cons_succ] at b4
  have t4 := (touch_setCell (i := 5) (v := .slice (some ⟨g, 0, none⟩) (holds.length - 1) ch) b3).2
  generalize hW : w3.setCell _ _ = W4 at b4 t4
  clear hW
  have d4 := t4.block d3 (by omega)
  have Hob4 := Lib.hid (Hob.out.touchLow t4 (by omega))
  have Hbw4 := Lib.hid (t4.below Hbw3.out (by omega))
  clear c3 f3 b3 d3 Hob Hbw3 t4 d1
  have c4 := fun i => cell_block b4 i
  have d5 := fun i => cell_block d4 i
  have f5 := fun i => free_block d4 i
  cases e with
  | false =>
    go_region
    all_goals go_wp2_with fail
    all_goals refine bodyPost_ret (v := .tuple #[.agg #[.string k.kind, .string k.space, .string k.name, .slice al bl cl, .slice ao bo co, .slice (some ⟨g, 0, none⟩) (holds.length - 1) ch, .bool false, .string u, .int .i64 r, .string d], .bool false, .int .i64 0]) ?_ rfl ⟨_, _, _, rfl, ?_, ?_⟩
    · simp [results, Try.results35, go_sem, c4, d5, f5]
    · have h9 := Hob4.out
      refine ObjOwn.mono (B := w.heap.size + 2) (ObjOwn.drew ?_) (by omega)
      repeat (first | with_reducible exact h9 | refine ObjOwn.setLow ?_ (by dsimp only; omega) _)
    · have h9 := Hbw4.out
      refine Below.drew ?_
      repeat (first | with_reducible exact h9 | refine Below.setCell ?_ (by dsimp only; omega) _)
  | true =>
    go_region
    all_goals go_wp2_with fail
    all_goals refine bodyPost_ret (v := .tuple #[.agg #[.string k.kind, .string k.space, .string k.name, .slice al bl cl, .slice ao bo co, .slice (some ⟨g, 0, none⟩) (holds.length - 1) ch, .bool true, .string u, .int .i64 r, .string d], .bool (((holds.length - 1 : Nat) : Int) == 0), .int .i64 0]) ?_ rfl ⟨_, _, _, rfl, ?_, ?_⟩
    · simp [results, Try.results35, go_sem, c4, d5, f5]
    · have h9 := Hob4.out
      refine ObjOwn.mono (B := w.heap.size + 2) (ObjOwn.drew ?_) (by omega)
      repeat (first | with_reducible exact h9 | refine ObjOwn.setLow ?_ (by dsimp only; omega) _)
    · have h9 := Hbw4.out
      refine Below.drew ?_
      repeat (first | with_reducible exact h9 | refine Below.setCell ?_ (by dsimp only; omega) _)
end Go.Proofs.Yteadfpbkhledlaa
