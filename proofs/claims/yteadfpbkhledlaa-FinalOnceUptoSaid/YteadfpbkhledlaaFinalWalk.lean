/- final.Delete, final.Hold, final.Free: their contracts. -/
import Derived.Test.YteadfpbkhledlaaStoreCopy
import Derived.Test.YteadfpbkhledlaaBox
import Derived.Test.YteadfpbkhledlaaBox
import Derived.Test.YteadfpbkhledlaaBox
import Derived.Test.YteadfpbkhledlaaBox
import Derived.Test.YteadfpbkhledlaaBox
import Derived.Test.YteadfpbkhledlaaBox
import Derived.Test.YteadfpbkhledlaaBox
import Derived.Test.YteadfpbkhledlaaBox
import Derived.Test.YteadfpbkhledlaaBox
import Derived.Test.YteadfpbkhledlaaBox
import Derived.Test.YteadfpbkhledlaaBox
import Derived.Test.YteadfpbkhledlaaBox
import Derived.Test.YteadfpbkhledlaaMadeWalk
import Derived.Test.YteadfpbkhledlaaSlStr
namespace Go.Proofs.Yteadfpbkhledlaa
open Go.RowKit

/-- the objects' parts in memory: labels, owners, holds; all of the call's own from B on; the holds' row is no other's -/
def ObjOwn (w : World) (B : Nat) (vl vo vh : Value) (labels : List GLabel) (owners holds : List ByteArray) : Prop :=
  OwnAt LabelR 2 w B 139 vl labels ∧ OwnAt RString 1 w B 9 vo owners ∧ OwnAt RString 1 w B 9 vh holds ∧ ∀ g, vh.ownBlock = some g → vo.ownBlock ≠ some g
def ObjAt (w : World) (vl vo vh : Value) (labels : List GLabel) (owners holds : List ByteArray) : Prop :=
  RowAt LabelR 2 w vl labels ∧ StrAt w vo owners ∧ StrAt w vh holds ∧ labels.length ≤ 1048576 ∧ owners.length ≤ 1048576 ∧ holds.length ≤ 1048576
theorem ObjOwn.at {w : World} {B : Nat} {vl vo vh : Value} {labels : List GLabel} {owners holds : List ByteArray} (h : ObjOwn w B vl vo vh labels owners holds) (b1 : labels.length ≤ 1048576) (b2 : owners.length ≤ 1048576) (b3 : holds.length ≤ 1048576) :
    ObjAt w vl vo vh labels owners holds := ⟨h.1.row, h.2.1.row.strs, h.2.2.1.row.strs, b1, b2, b3⟩
theorem ObjAt.below {w w' : World} {vl vo vh : Value} {labels : List GLabel} {owners holds : List ByteArray} (h : ObjAt w vl vo vh labels owners holds) (hb : Below w.heap.size w w') : ObjAt w' vl vo vh labels owners holds :=
  ⟨h.1.below stays_label hb, h.2.1.below hb, h.2.2.1.below hb, h.2.2.2⟩
theorem ObjOwn.below {w w' : World} {B : Nat} {vl vo vh : Value} {labels : List GLabel} {owners holds : List ByteArray} (h : ObjOwn w B vl vo vh labels owners holds) (hb : Below w.heap.size w w') : ObjOwn w' B vl vo vh labels owners holds :=
  ⟨h.1.below stays_label hb, h.2.1.below stays_string hb, h.2.2.1.below stays_string hb, h.2.2.2⟩
theorem ObjOwn.setLow {w : World} {B : Nat} {vl vo vh : Value} {labels : List GLabel} {owners holds : List ByteArray} (h : ObjOwn w B vl vo vh labels owners holds) {p : Addr} (hp : p.block < B) (x : Value) : ObjOwn (w.setCell p x) B vl vo vh labels owners holds :=
  ⟨h.1.setLow flat_label hp x, h.2.1.setLow flat_string hp x, h.2.2.1.setLow flat_string hp x, h.2.2.2⟩
theorem ObjOwn.mono {w : World} {B B' : Nat} {vl vo vh : Value} {labels : List GLabel} {owners holds : List ByteArray} (h : ObjOwn w B vl vo vh labels owners holds) (hB : B' ≤ B) : ObjOwn w B' vl vo vh labels owners holds :=
  ⟨h.1.mono hB, h.2.1.mono hB, h.2.2.1.mono hB, h.2.2.2⟩
theorem storeCopy_obj (k : GKey) (vl vo vh : Value) (e : Bool) (u : ByteArray) (r : Int) (d : ByteArray) (labels : List GLabel) (owners holds : List ByteArray) (w : World) (h : ObjAt w vl vo vh labels owners holds) :
    Calls Try.prog 60 #[objV k vl vo vh e u r d] w fun E w' => ∃ al bl cl ao bo co ah bh ch, E = .returned (objV k (.slice al bl cl) (.slice ao bo co) (.slice ah bh ch) e u r d) ∧
      ObjOwn w' w.heap.size (.slice al bl cl) (.slice ao bo co) (.slice ah bh ch) labels owners holds ∧ bh = holds.length ∧ Below w.heap.size w w' :=
  (storeCopy_any k vl vo vh e u r d labels owners holds w h.1 h.2.1 h.2.2.1 (by have := h.2.2.2.1; omega) (by have := h.2.2.2.2.1; omega) (by have := h.2.2.2.2.2; omega)).mono fun E w' ⟨vl', vo', vh', he, h1, h2, h3, h4, hb⟩ => by
    obtain ⟨al, cl, rfl, _, _⟩ := h1.row.len
    obtain ⟨ao, co, rfl, _, _⟩ := h2.row.len
    obtain ⟨ah, ch, rfl, _, _⟩ := h3.row.len
    exact ⟨al, _, cl, ao, _, co, ah, _, ch, he, ⟨h1, h2, h3, h4⟩, rfl, hb⟩
theorem ObjOwn.touchLow {w W : World} {B g : Nat} {vl vo vh : Value} {labels : List GLabel} {owners holds : List ByteArray} (h : ObjOwn w B vl vo vh labels owners holds) (ht : Touch g w W) (hg : g < B) : ObjOwn W B vl vo vh labels owners holds :=
  ⟨h.1.touchLow flat_label ht hg, h.2.1.touchLow flat_string ht hg, h.2.2.1.touchLow flat_string ht hg, h.2.2.2⟩
theorem Try.sizeObj : (Try.prog.info? 52).map (·.size) = some 10 := by kernel_rfl

set_option maxRecDepth 100000 in
set_option maxHeartbeats 800000 in
theorem finalDelete_any (k : GKey) (vl vo vh : Value) (e : Bool) (u : ByteArray) (r : Int) (d : ByteArray) (labels : List GLabel) (owners holds : List ByteArray) (w : World) (h : ObjAt w vl vo vh labels owners holds) :
    Calls Try.prog 34 #[objV k vl vo vh e u r d] w fun E w' => ∃ vl' vo' vh', E = .returned (.tuple #[objV k vl' vo' vh' (if holds.length = 0 then e else true) u r d, .bool (decide (holds.length = 0))]) ∧
      ObjOwn w' w.heap.size vl' vo' vh' labels owners holds ∧ Below w.heap.size w w' := by
  have H := Lib.hid h
  clear h
  unfold objV
  by_cases h0 : holds.length = 0
  · rw [if_pos h0, decide_eq_true h0]
    have q0 : ((holds.length : Int) == 0) = true := by rw [beq_iff_eq]; omega
    clear h0
    go_enter Try.func34, Try.ntmps34
    go_wp2_with fail
    refine (storeCopy_obj k _ _ _ _ _ _ _ labels owners holds _ (H.out.below (((Below.refl _ _).alloc (Nat.le_refl _) _).alloc (by simp) _))).mono ?_
    rintro E w1 ⟨al, bl, cl, ao, bo, co, ah, bh, ch, rfl, hown, rfl, hb⟩
    have b0 := below_block hb (heap_alloc_old (heap_alloc_at rfl))
    have b1 := below_block hb (heap_alloc_at (n := w.heap.size + 1) (by simp))
    have hbw : Below w.heap.size w w1 := (((Below.refl _ _).alloc (Nat.le_refl _) _).alloc (by simp) _).trans (hb.mono (by simp; omega))
    simp only [World.size_alloc] at hown b0 b1
    clear hb
    unfold objV
    simp only []
    go_at_K
    refine at_last (by assumption) ?_
    refine wpList_store_box (by rfl) _ _ _ (by rfl) _ _ (by rfl) (by rfl) _ _ (by first | assumption | exact (touch_setCell (by assumption)).2.block (by assumption) (by omega)) (by exact Try.sizeObj) (by rfl) (by simp [Value.oneCell']) ?_
    intro W2 b2 t2
    have d1 := t2.block b1 (by omega)
    have Hown := Lib.hid (hown.touchLow t2 (by omega))
    have Hbw := Lib.hid (t2.below hbw (by omega))
    clear hown hbw b0 b1 t2
    have c2 := fun i => cell_block b2 i
    have f2 := fun i => free_block b2 i
    go_wp2_with (refine wpList_copy_box (by rfl) _ _ (by rfl) (by rfl) _ _ (by rfl) _ _ (by rfl) _ _ _ _ (by first | assumption | exact (touch_setCell (by assumption)).1) (by rfl) (by rfl) _ _ (by first | assumption | exact (touch_setCell (by assumption)).2.block (by assumption) (by omega)) Try.underlying52 (by rfl) (by exact Try.sizeObj) (by rfl) (by simp [Value.oneCell']) ?_)
    intro W3 b3 t3
    have z3 := t3.size
    go_wp2_with fail
    refine bodyPost_ret (v := .tuple #[.agg #[.string k.kind, .string k.space, .string k.name, .slice al bl cl, .slice ao bo co, .slice ah holds.length ch, .bool e, .string u, .int .i64 r, .string d], .bool true]) ?_ rfl ⟨_, _, _, rfl, ?_, ?_⟩
    · have c3 := fun i => cell_block b3 i
      simp [results, Try.results34, go_sem, c3]
    · exact (Hown.out.touchLow t3 (by omega)).mono (by omega)
    · exact t3.below Hbw.out (by omega)
  · rw [if_neg h0, decide_eq_false h0]
    have q0 : ((holds.length : Int) == 0) = false := by rw [beq_eq_false_iff_ne]; omega
    clear h0
    go_enter Try.func34, Try.ntmps34
    go_wp2_with fail
    refine (storeCopy_obj k _ _ _ _ _ _ _ labels owners holds _ (H.out.below (((Below.refl _ _).alloc (Nat.le_refl _) _).alloc (by simp) _))).mono ?_
    rintro E w1 ⟨al, bl, cl, ao, bo, co, ah, bh, ch, rfl, hown, rfl, hb⟩
    have b0 := below_block hb (heap_alloc_old (heap_alloc_at rfl))
    have b1 := below_block hb (heap_alloc_at (n := w.heap.size + 1) (by simp))
    have hbw : Below w.heap.size w w1 := (((Below.refl _ _).alloc (Nat.le_refl _) _).alloc (by simp) _).trans (hb.mono (by simp; omega))
    simp only [World.size_alloc] at hown b0 b1
    clear hb
    unfold objV
    simp only []
    go_at_K
    refine at_last (by assumption) ?_
    refine wpList_store_box (by rfl) _ _ _ (by rfl) _ _ (by rfl) (by rfl) _ _ (by first | assumption | exact (touch_setCell (by assumption)).2.block (by assumption) (by omega)) (by exact Try.sizeObj) (by rfl) (by simp [Value.oneCell']) ?_
    intro W2 b2 t2
    have d1 := t2.block b1 (by omega)
    have Hown := Lib.hid (hown.touchLow t2 (by omega))
    have Hbw := Lib.hid (t2.below hbw (by omega))
    clear hown hbw b0 b1 t2
    have c2 := fun i => cell_block b2 i
    have f2 := fun i => free_block b2 i
    have e2 := (touch_setCell (i := 6) (v := .bool true) b2).1
    simp only [List.setIfInBounds_toArray, List.set_cons_zero, List.set_cons_succ] at e2
    go_wp2_with (refine wpList_copy_box (by rfl) _ _ (by rfl) (by rfl) _ _ (by rfl) _ _ (by rfl) _ _ _ _ (by first | assumption | exact (touch_setCell (by assumption)).1) (by rfl) (by rfl) _ _ (by first | assumption | exact (touch_setCell (by assumption)).2.block (by assumption) (by omega)) Try.underlying52 (by rfl) (by exact Try.sizeObj) (by rfl) (by simp [Value.oneCell']) ?_)
    intro W3 b3 t3
    have z3 := t3.size
    go_wp2_with fail
    refine bodyPost_ret (v := .tuple #[.agg #[.string k.kind, .string k.space, .string k.name, .slice al bl cl, .slice ao bo co, .slice ah holds.length ch, .bool true, .string u, .int .i64 r, .string d], .bool false]) ?_ rfl ⟨_, _, _, rfl, ?_, ?_⟩
    · have c3 := fun i => cell_block b3 i
      simp [results, Try.results34, go_sem, c3]
    · exact ((Hown.out.touchLow (touch_setCell b2).2 (by omega)).touchLow t3 (by omega)).mono (by omega)
    · exact t3.below ((touch_setCell b2).2.below Hbw.out (by omega)) (by omega)

def zeroObj : Value := .agg #[.string { data := #[] }, .string { data := #[] }, .string { data := #[] }, .slice none 0 0, .slice none 0 0, .slice none 0 0, .bool false, .string { data := #[] }, .int .i64 0, .string { data := #[] }]
/-- what final.Hold says -/
def holdCode (e : Bool) (holds : List ByteArray) (x : ByteArray) : Int :=
  if NameP.check x.data.toList ≠ 0 then NameP.check x.data.toList else if e = true then 20 else if Lib.containsS holds x = true then 5 else if 4 ≤ holds.length then 2 else 0
theorem ObjOwn.grown {w w' : World} {B : Nat} {vl vo vh vh' : Value} {labels : List GLabel} {owners holds holds' : List ByteArray} (h : ObjOwn w B vl vo vh labels owners holds) (hg : w.grownBy w' vh.ownBlock)
    (hn : OwnAt RString 1 w' B 9 vh' holds') (hat : vh'.ownBlock = vh.ownBlock ∨ vh'.ownBlock = some w.heap.size) : ObjOwn w' B vl vo vh' labels owners holds' := by
  refine ⟨h.1.grown flat_label hg fun q hq e => ?_, h.2.1.grown flat_string hg fun q hq e => h.2.2.2 q e.symm hq, hn, fun g hg2 hq => ?_⟩
  · exact h.1.other h.2.2.1 (by decide) hq e.symm
  · rcases hat with h1 | h1
    · exact h.2.2.2 g (by rw [← h1]; exact hg2) hq
    · have := (h.2.1.at hq).2.1
      rw [hg2] at h1
      cases h1
      omega

set_option maxRecDepth 100000 in
set_option maxHeartbeats 800000 in
theorem finalHold_bad (k : GKey) (vl vo vh : Value) (e : Bool) (u : ByteArray) (r : Int) (d : ByteArray) (holds : List ByteArray) (x : ByteArray) (w : World) (h : StrAt w vh holds) (hl : holds.length ≤ 1048576) (hx : x.size ≤ 1048576) (hc : holdCode e holds x ≠ 0) :
    Calls Try.prog 32 #[objV k vl vo vh e u r d, .string x] w fun E w' => E = .returned (.tuple #[zeroObj, .int .i64 (holdCode e holds x)]) ∧ Below w.heap.size w w' := by
  have H := Lib.hid h
  clear h
  unfold objV zeroObj
  have hb2 : ∀ A B : Obj, Below w.heap.size w ((w.alloc A).alloc B) := fun A B => ((Below.refl _ _).alloc (Nat.le_refl _) _).alloc (by simp) _
  have Hb2 := Lib.hid hb2
  clear hb2
  obtain ⟨c, Hc⟩ : ∃ c, Hid (NameP.check x.data.toList = c) := ⟨_, Lib.hid rfl⟩
  obtain ⟨C, HC⟩ : ∃ C, Hid (holdCode e holds x = C) := ⟨_, Lib.hid rfl⟩
  have HC2 := Lib.hid HC.out
  unfold holdCode at HC2
  rw [HC.out] at hc ⊢
  rw [Hc.out] at HC2
  by_cases h1 : c ≠ 0
  · have q1 : (c != 0) = true := by rw [bne_iff_ne]; exact h1
    have e1 : c = C := by have := HC2.out; rwa [if_pos h1] at this
    subst e1
    clear HC HC2 hc h1
    go_enter Try.func32, Try.ntmps32
    go_wp2_with fail
    refine (check_any _ _ (by omega)).mono ?_
    rintro E w1 ⟨rfl, rfl⟩
    rw [Hc.out]
    go_wp2_with fail
    refine bodyPost_ret (v := .tuple #[.agg #[.string { data := #[] }, .string { data := #[] }, .string { data := #[] }, .slice none 0 0, .slice none 0 0, .slice none 0 0, .bool false, .string { data := #[] }, .int .i64 0, .string { data := #[] }], .int .i64 c]) ?_ rfl ⟨rfl, Hb2.out _ _⟩
    simp [results, Try.results32, go_sem]
  have h1' : c = 0 := by omega
  have HC3 := Lib.hid HC2.out
  rw [if_neg h1] at HC3
  subst h1'
  clear HC2 h1
  have Hch := Lib.hid (H.out.below (Hb2.out (.cells #[.string k.kind, .string k.space, .string k.name, vl, vo, vh, .bool e, .string u, .int .i64 r, .string d] 52) (.cells #[.string { data := #[] }, .string { data := #[] }, .string { data := #[] }, .slice none 0 0, .slice none 0 0, .slice none 0 0, .bool false, .string { data := #[] }, .int .i64 0, .string { data := #[] }] 52)))
  obtain ⟨ah, ch, rfl, _, _⟩ := H.out.len
  by_cases h2 : e = true
  · subst h2
    have e1 : (20 : Int) = C := by have := HC3.out; rwa [if_pos rfl] at this
    subst e1
    clear HC HC3 hc
    go_enter Try.func32, Try.ntmps32
    go_wp2_with fail
    refine (check_any _ _ (by omega)).mono ?_
    rintro E w1 ⟨rfl, rfl⟩
    rw [Hc.out]
    go_wp2_with fail
    refine bodyPost_ret (v := .tuple #[.agg #[.string { data := #[] }, .string { data := #[] }, .string { data := #[] }, .slice none 0 0, .slice none 0 0, .slice none 0 0, .bool false, .string { data := #[] }, .int .i64 0, .string { data := #[] }], .int .i64 20]) ?_ rfl ⟨rfl, Hb2.out _ _⟩
    simp [results, Try.results32, go_sem]
  have h2' : e = false := by cases e <;> simp_all
  subst h2'
  rw [if_neg h2] at HC3
  clear h2
  by_cases h3 : Lib.containsS holds x = true
  · have e1 : (5 : Int) = C := by have := HC3.out; rwa [if_pos h3] at this
    subst e1
    have hd := h3
    have Hd := Lib.hid hd
    clear HC HC3 hc h3 hd
    go_enter Try.func32, Try.ntmps32
    go_wp2_with fail
    refine (check_any _ _ (by omega)).mono ?_
    rintro E w1 ⟨rfl, rfl⟩
    rw [Hc.out]
    go_wp2_with fail
    refine (contains_any _ holds x _ Hch.out (by omega)).mono ?_
    rintro E w1 ⟨rfl, rfl⟩
    rw [Hd.out]
    go_wp2_with fail
    refine bodyPost_ret (v := .tuple #[.agg #[.string { data := #[] }, .string { data := #[] }, .string { data := #[] }, .slice none 0 0, .slice none 0 0, .slice none 0 0, .bool false, .string { data := #[] }, .int .i64 0, .string { data := #[] }], .int .i64 5]) ?_ rfl ⟨rfl, Hb2.out _ _⟩
    simp [results, Try.results32, go_sem]
  rw [if_neg h3] at HC3
  by_cases h4 : 4 ≤ holds.length
  · have e1 : (2 : Int) = C := by have := HC3.out; rwa [if_pos h4] at this
    subst e1
    have hd : Lib.containsS holds x = false := by simpa using h3
    have Hd := Lib.hid hd
    have q4 : (4 : Int) ≤ (holds.length : Int) := by omega
    clear HC HC3 hc h3 hd
    go_enter Try.func32, Try.ntmps32
    go_wp2_with fail
    refine (check_any _ _ (by omega)).mono ?_
    rintro E w1 ⟨rfl, rfl⟩
    rw [Hc.out]
    go_wp2_with fail
    refine (contains_any _ holds x _ Hch.out (by omega)).mono ?_
    rintro E w1 ⟨rfl, rfl⟩
    rw [Hd.out]
    go_wp2_with fail
    refine bodyPost_ret (v := .tuple #[.agg #[.string { data := #[] }, .string { data := #[] }, .string { data := #[] }, .slice none 0 0, .slice none 0 0, .slice none 0 0, .bool false, .string { data := #[] }, .int .i64 0, .string { data := #[] }], .int .i64 2]) ?_ rfl ⟨rfl, Hb2.out _ _⟩
    simp [results, Try.results32, go_sem]
  · rw [if_neg h4] at HC3
    exact absurd HC3.out.symm hc

set_option maxRecDepth 100000 in
set_option maxHeartbeats 800000 in
theorem finalHold_ok (k : GKey) (vl vo vh : Value) (e : Bool) (u : ByteArray) (r : Int) (d : ByteArray) (labels : List GLabel) (owners holds : List ByteArray) (x : ByteArray) (w : World) (h : ObjAt w vl vo vh labels owners holds) (hx : x.size ≤ 1048576) (hc : holdCode e holds x = 0) :
    Calls Try.prog 32 #[objV k vl vo vh e u r d, .string x] w fun E w' => ∃ vl' vo' vh', E = .returned (.tuple #[objV k vl' vo' vh' false u r d, .int .i64 0]) ∧ ObjOwn w' w.heap.size vl' vo' vh' labels owners (holds ++ [x]) ∧ Below w.heap.size w w' := by
  obtain ⟨i0, hi0, hz0, hz1, hz2⟩ := info_parts Try.infoStr
  unfold holdCode at hc
  by_cases h1 : NameP.check x.data.toList ≠ 0
  · rw [if_pos h1] at hc; exact absurd hc h1
  rw [if_neg h1] at hc
  by_cases h2 : e = true
  · rw [if_pos h2] at hc; cases hc
  rw [if_neg h2] at hc
  by_cases h3 : Lib.containsS holds x = true
  · rw [if_pos h3] at hc; cases hc
  rw [if_neg h3] at hc
  by_cases h4 : 4 ≤ holds.length
  · rw [if_pos h4] at hc; cases hc
  have h2' : e = false := by cases e <;> simp_all
  subst h2'
  have Hc : Hid (NameP.check x.data.toList = 0) := by show _ = _; omega
  have Hd : Hid (Lib.containsS holds x = false) := by show _ = _; simpa using h3
  have q4 : ¬ (4 : Int) ≤ (holds.length : Int) := by omega
  have hb2 : ∀ A B : Obj, Below w.heap.size w ((w.alloc A).alloc B) := fun A B => ((Below.refl _ _).alloc (Nat.le_refl _) _).alloc (by simp) _
  have Hb2 := Lib.hid hb2
  have H := Lib.hid h
  obtain ⟨ah, ch, hv, _, _⟩ := h.2.2.1.len
  subst hv
  clear hb2 h hc h1 h2 h3 h4
  unfold objV
  go_enter Try.func32, Try.ntmps32
  go_wp2_with fail
  refine (check_any _ _ (by omega)).mono ?_
  rintro E w1 ⟨rfl, rfl⟩
  rw [Hc.out]
  go_wp2_with fail
  refine (contains_any _ holds x _ (H.out.2.2.1.below (Hb2.out _ _)) (by omega)).mono ?_
  rintro E w1 ⟨rfl, rfl⟩
  rw [Hd.out]
  go_wp2_with fail
  refine (storeCopy_obj k _ _ _ _ _ _ _ labels owners holds _ (H.out.below (Hb2.out _ _))).mono ?_
  rintro E w1 ⟨al, bl, cl, ao, bo, co, ah, bh, ch, rfl, hown, rfl, hb⟩
  have b0 := below_block hb (heap_alloc_old (heap_alloc_at rfl))
  have b1 := below_block hb (heap_alloc_at (n := w.heap.size + 1) (by simp))
  have hbw : Below w.heap.size w w1 := (Hb2.out _ _).trans (hb.mono (by simp; omega))
  have hs1 := hb.size
  simp only [World.size_alloc] at hown b0 b1 hs1
  clear hb
  unfold objV
  simp only []
  go_at_K
  refine at_last (by assumption) ?_
  refine wpList_store_box (by rfl) _ _ _ (by rfl) _ _ (by rfl) (by rfl) _ _ (by first | assumption | exact (touch_setCell (by assumption)).2.block (by assumption) (by omega)) (by exact Try.sizeObj) (by rfl) (by simp [Value.oneCell']) ?_
  intro W2 b2 t2
  have d1 := t2.block b1 (by omega)
  have hown2 := hown.touchLow t2 (by omega)
  have Hown := Lib.hid hown2
  have Hbw := Lib.hid (t2.below hbw (by omega))
  have hs2 : w.heap.size + 2 ≤ W2.heap.size := by have := t2.size; omega
  clear hown hbw b0 b1 t2 hown2
  have c2 := fun i => cell_block b2 i
  have f2 := fun i => free_block b2 i
  go_wp2_with (at_builtin; refine wpList_append_ownAt (R := RString) (k := 1) (e := 9) (B := w.heap.size + 2) (l := holds) (m := [x]) _ (by rfl) _ _ _ (by rfl) i0 _ 16 Try.underlying29 hi0 hz0 hz1 hz2 rfl (by omega) flat_string one_string _ (by rfl) (Hown.out.2.2.1.alloc stays_string _) (.slice (some ⟨W2.heap.size, 0, none⟩) 1 1) (by rfl) (RowAt.one (R := RString) (k := 1) (cs := #[.string x]) (heap_alloc_new W2 _) rfl rfl) (by unfold maxLen; simp; omega) (by simp; omega) (by simp; omega) ?_)
  intro v3 w3 hv3 hg3 hr3 hat3
  have hown3 := (Hown.out.below ((Below.refl _ _).alloc (Nat.le_refl _) _)).grown hg3 hv3 (by rw [World.size_alloc]; exact hat3)
  have hbw3 : Below w.heap.size w w3 := below_of_grown (Hbw.out.alloc (by omega) _) (by simp; omega) hg3 fun g hg => by have := hr3 g hg; omega
  have b3 := (hg3.block w.heap.size (by simp; omega) (fun e => by have := hr3 _ e.symm; omega)).trans (heap_alloc_old b2)
  have d3 := (hg3.block (w.heap.size + 1) (by simp; omega) (fun e => by have := hr3 _ e.symm; omega)).trans (heap_alloc_old d1)
  have c3 := fun i => cell_block b3 i
  have f3 := fun i => free_block b3 i
  obtain ⟨a3, q3, hv3e, _, _⟩ := hown3.2.2.1.row.len
  rw [show (holds ++ [x]).length = holds.length + 1 by simp] at hv3e
  subst hv3e
  have Hown3 := Lib.hid hown3
  have Hbw3 := Lib.hid hbw3
  have e3 := (touch_setCell (i := 5) (v := .slice a3 (holds.length + 1) q3) b3).1
  simp only [List.setIfInBounds_toArray, List.set_cons_zero, List.set_cons_succ] at e3
  have t3 := (touch_setCell (i := 5) (v := .slice a3 (holds.length + 1) q3) b3).2
  have g3 := t3.block d3 (by omega)
  have T3 := Lib.hid t3
  clear hv3 hg3 hr3 hat3 hown3 hbw3 c2 f2 t3
  go_wp2_with (refine wpList_copy_box (by rfl) _ _ (by rfl) (by rfl) _ _ (by rfl) _ _ (by rfl) _ _ _ _ (by first | assumption | exact (touch_setCell (by assumption)).1) (by rfl) (by rfl) _ _ (by first | assumption | exact (touch_setCell (by assumption)).2.block (by assumption) (by omega)) Try.underlying52 (by rfl) (by exact Try.sizeObj) (by rfl) (by simp [Value.oneCell']) ?_)
  intro W4 b4 t4
  go_wp2_with fail
  refine bodyPost_ret (v := .tuple #[.agg #[.string k.kind, .string k.space, .string k.name, .slice al bl cl, .slice ao bo co, .slice a3 (holds.length + 1) q3, .bool false, .string u, .int .i64 r, .string d], .int .i64 0]) ?_ rfl ⟨_, _, _, rfl, ?_, ?_⟩
  · have c4 := fun i => cell_block b4 i
    simp [results, Try.results32, go_sem, c4]
  · exact ((Hown3.out.touchLow T3.out (by omega)).touchLow t4 (by omega)).mono (by omega)
  · exact t4.below (T3.out.below Hbw3.out (by omega)) (by omega)
end Go.Proofs.Yteadfpbkhledlaa
