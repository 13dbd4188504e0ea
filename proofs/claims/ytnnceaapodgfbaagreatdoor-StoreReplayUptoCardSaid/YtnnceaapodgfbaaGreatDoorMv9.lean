/- Texts of ours joined. -/
import Derived.Shelf.SlSortCmp.Kit1
import Derived.Shelf.SlSortCmp.NoneTotal
import Derived.Deep.MidRow
import Derived.Deep.LoopGhost
import Derived.Laws.StructEq
import Derived.WalkSpells
import Derived.Deep.DeepCutAuto
import Derived.Test.YtnnceaapodgfbaaGreatDoorMv8
set_option linter.unusedVariables false
set_option linter.unusedSimpArgs false
namespace Go.Proofs.YtnnceaapodgfbaaGreatDoor
namespace Sto
open Go.RowKit
theorem bl_cb : ∀ a b : List UInt8, Op.bytesLess a b = decide (Lib.compareBytes a b < 0)
  | [], [] => rfl
  | [], _ :: _ => rfl
  | _ :: _, [] => rfl
  | x :: xs, y :: ys => by
    have ih := bl_cb xs ys
    unfold Op.bytesLess Lib.compareBytes
    by_cases h1 : x < y
    · simp [h1]
    · by_cases h2 : y < x
      · have h3 : ¬ x = y := fun e => by subst e; exact UInt8.lt_irrefl _ h2
        simp [h1, h2, h3]
      · have h3 : x = y := by
          rw [UInt8.lt_iff_toNat_lt] at h1 h2
          exact UInt8.toNat_inj.1 (by omega)
        subst h3
        simp [h1, ih]
theorem nanS_any (x : ByteArray) (w : World) : Calls Tryz.prog 108 #[.string x] w fun e w' => e = .returned (.bool false) ∧ w = w' := by
  go_enter Tryz.func108, Tryz.ntmps108
  go_wp2_with fail
  go_ret
  exact ⟨by simp, rfl⟩
def cmpB (a b : ByteArray) : Int := Lib.compareBytes a.data.toList b.data.toList
theorem cmpB_lt {a b : ByteArray} (h : Op.bytesLess a.toList b.toList = true) : cmpB a b = -1 := by
  rw [bl_cb, decide_eq_true_iff, Lib.toList_data, Lib.toList_data] at h
  unfold cmpB
  rcases cb_range a.data.toList b.data.toList with e | e | e <;> omega
theorem cmpS_any (a b : ByteArray) (w : World) : Calls Tryz.prog 75 #[.string a, .string b] w fun e w' => e = .returned (.int .i64 (cmpB a b)) ∧ w = w' := by
  have H := fun x (w : World) => Lib.hid (nanS_any x w)
  obtain ⟨r, Hr⟩ : ∃ r, Hid (cmpB a b = r) := ⟨_, Lib.hid rfl⟩
  rw [Hr.out]
  go_enter Tryz.func75, Tryz.ntmps75
  go_wp2_with fail
  refine (H a w).out.mono ?_
  rintro E w1 ⟨rfl, rfl⟩
  go_wp2_with fail
  refine (H b w).out.mono ?_
  rintro E w1 ⟨rfl, rfl⟩
  cases h1 : Op.bytesLess a.toList b.toList with
  | true =>
    obtain rfl : r = -1 := by rw [← Hr.out]; exact cmpB_lt h1
    go_wp2_with fail
    go_ret
    exact ⟨rfl, rfl⟩
  | false =>
    have q9 : (binOp .gtr 9 (.string a) (.string b)).run Tryz.prog w = .ok (.bool (!(Op.bytesLess a.toList b.toList || a.toList == b.toList))) w := by simp [binOp, Op.stringOp]
    cases h2 : (a.toList == b.toList) with
    | true =>
      have Hr0 : Hid (r = 0) := Lib.hid (by
        rw [← Hr.out]
        unfold cmpB
        have h3 := eq_of_beq h2
        rw [Lib.toList_data, Lib.toList_data] at h3
        rw [h3, cb_self])
      rw [h1, h2] at q9
      go_wp2_with fail
      go_ret
      exact ⟨by rw [Hr0.out]; rfl, rfl⟩
    | false =>
      have Hr1 : Hid (r = 1) := Lib.hid (by
        rw [← Hr.out]
        unfold cmpB
        rw [bl_cb, decide_eq_false_iff_not, Lib.toList_data, Lib.toList_data] at h1
        rw [beq_eq_false_iff_ne, Lib.toList_data, Lib.toList_data] at h2
        rcases cb_range a.data.toList b.data.toList with e | e | e
        · omega
        · exact absurd (cb_eq _ _ e) h2
        · exact e)
      rw [h1, h2] at q9
      go_wp2_with fail
      go_ret
      exact ⟨by rw [Hr1.out]; rfl, rfl⟩
def orI (a b : Int) : Int := if a ≠ 0 then a else b
set_option maxRecDepth 100000 in
theorem or_any (g : Nat) (a b : Int) (w : World) (T : TypeId) (h : w.heap[g]? = some (.cells #[.int .i64 a, .int .i64 b] T (0, 0))) : Calls Tryz.prog 74 #[.slice (some ⟨g, 0, none⟩) 2 2] w fun e w' => e = .returned (.int .i64 (orI a b)) ∧ w = w' := by
  have cc := fun i => cell_block h i
  have c0 : w.cell? ⟨g, 0, none⟩ = some (.int .i64 a) := cc 0
  have c1 : w.cell? ⟨g, 0 + 1 * 1, none⟩ = some (.int .i64 b) := cc 1
  have c2 : w.cell? ⟨g, 1, none⟩ = some (.int .i64 b) := cc 1
  have c3 : w.cell? ⟨g, 0 + 1, none⟩ = some (.int .i64 b) := cc 1
  obtain ⟨r, Hr⟩ : ∃ r, Hid (orI a b = r) := ⟨_, Lib.hid rfl⟩
  rw [Hr.out]
  clear cc h
  go_enter Tryz.func74, Tryz.ntmps74
  go_wp2_with fail
  go_loopg [5, 8] 2 (fun k u5 u8 wr => wr = w ∧ ∃ i : Nat, i + k = 2 ∧ u8 = .int .i64 (i : Int) ∧ (i ≠ 0 → Hid (a = 0)) ∧ (i = 2 → Hid (b = 0)))
  case atStart => exact ⟨rfl, 0, rfl, rfl, fun h => absurd rfl h, fun h => by cases h⟩
  case round =>
    obtain ⟨rfl, i, hik, rfl, h1, h2⟩ := hrel
    match gk, hik with
    | 0, hik =>
      obtain rfl : i = 2 := by omega
      have Ha := h1 (by decide)
      have Hb := h2 rfl
      have Hr0 : Hid (r = 0) := Lib.hid (by rw [← Hr.out, Ha.out, Hb.out]; rfl)
      clear h1 h2 Ha Hb hik
      go_wp2_with fail
      go_ret
      exact ⟨by rw [Hr0.out]; rfl, rfl⟩
    | 1, hik =>
      obtain rfl : i = 1 := by omega
      have Ha := h1 (by decide)
      clear h1 h2 hik
      by_cases hb : b = 0
      · subst hb
        go_wp2_with fail
        go_roundg 0
        case measure => omega
        case rel => exact ⟨rfl, 2, rfl, rfl, fun _ => Ha, fun _ => Lib.hid trivial⟩
      · have q1 : (b != 0) = true := bne_iff_ne.2 hb
        have Hr1 : Hid (r = b) := Lib.hid (by rw [← Hr.out, Ha.out]; rfl)
        clear hb
        go_wp2_with fail
        go_ret
        exact ⟨by rw [Hr1.out]; rfl, rfl⟩
    | k + 2, hik =>
      obtain rfl : i = 0 := by omega
      obtain rfl : k = 0 := by omega
      clear h1 h2 hik
      by_cases ha : a = 0
      · subst ha
        go_wp2_with fail
        go_roundg 1
        case measure => omega
        case rel => exact ⟨rfl, 1, rfl, rfl, fun _ => Lib.hid trivial, fun h => by cases h⟩
      · have q1 : (a != 0) = true := bne_iff_ne.2 ha
        have Hr1 : Hid (r = a) := Lib.hid (by rw [← Hr.out]; unfold orI; rw [if_pos ha])
        clear ha
        go_wp2_with fail
        go_ret
        exact ⟨by rw [Hr1.out]; rfl, rfl⟩
set_option maxRecDepth 100000 in
set_option maxHeartbeats 1600000 in
theorem order_any (a1 a2 a3 b1 b2 b3 : ByteArray) (x1 x2 x3 x4 x5 x6 x7 y1 y2 y3 y4 y5 y6 y7 : Value) (W : World) : Calls Tryz.prog 64 #[.agg #[.string a1, .string a2, .string a3, x1, x2, x3, x4, x5, x6, x7], .agg #[.string b1, .string b2, .string b3, y1, y2, y3, y4, y5, y6, y7]] W fun e w' => e = .returned (.int .i64 (orI (cmpB a2 b2) (cmpB a3 b3))) ∧ ∃ q os', w' = Go.Sort.grow (W.drewN q) os' := by
  have HC := fun a b w => Lib.hid (cmpS_any a b w)
  obtain ⟨W2, hW2⟩ : ∃ W2, W2 = (W.alloc (.cells #[.string a1, .string a2, .string a3, x1, x2, x3, x4, x5, x6, x7] 30)).alloc (.cells #[.string b1, .string b2, .string b3, y1, y2, y3, y4, y5, y6, y7] 30) := ⟨_, rfl⟩
  obtain ⟨ga, hga⟩ : ∃ ga, ga = W.heap.size := ⟨_, rfl⟩
  obtain ⟨gb, hgb⟩ : ∃ gb, gb = W.heap.size + 1 := ⟨_, rfl⟩
  have XA : Hid (W2.heap[ga]? = some (.cells #[.string a1, .string a2, .string a3, x1, x2, x3, x4, x5, x6, x7] 30 (0, 0))) := Lib.hid (by rw [hW2, hga]; exact heap_alloc_old (heap_alloc_new W _))
  have XB : Hid (W2.heap[gb]? = some (.cells #[.string b1, .string b2, .string b3, y1, y2, y3, y4, y5, y6, y7] 30 (0, 0))) := Lib.hid (by rw [hW2, hgb]; exact heap_alloc_at (World.size_alloc _ _).symm)
  have HW2 := Lib.hid hW2
  go_enter Tryz.func64, Tryz.ntmps64
  go_upto_region 1 with fail
  rw [← hW2]
  try rw [← hgb]
  rw [← hga]
  clear hW2 hga hgb
  refine wp_region_hold 14 (fun w' => ∃ q, w' = W2.drewN q) (by kernel_rfl) (by kernel_rfl) ?_ ?_
  · exact ⟨1, rfl⟩
  simp only [List.take_succ_cons, List.take_zero, List.drop_succ_cons, List.drop_zero]
  (first | (refine wpHold_pure (v := ?_) (by rfl) (fun w => ?_) ?_; rotate_left; focus (first | (go_simp; done) | (go_simp; with_reducible rfl))) | (refine wpHold_skip ?_ ?_; focus (go_simp; done)) | (refine wpHold_pure' (v := ?_) ?_ (fun w => ?_) ?_; rotate_left; focus (go_simp; done); focus (first | (go_simp; done) | (go_simp; with_reducible rfl)))); try simp only [Act.put, List.setIfInBounds_toArray, List.set_cons_zero, List.set_cons_succ]
  (first | (refine wpHold_pure (v := ?_) (by rfl) (fun w => ?_) ?_; rotate_left; focus (first | (go_simp; done) | (go_simp; with_reducible rfl))) | (refine wpHold_skip ?_ ?_; focus (go_simp; done)) | (refine wpHold_pure' (v := ?_) ?_ (fun w => ?_) ?_; rotate_left; focus (go_simp; done); focus (first | (go_simp; done) | (go_simp; with_reducible rfl)))); try simp only [Act.put, List.setIfInBounds_toArray, List.set_cons_zero, List.set_cons_succ]
  refine wpHold_read (v := .string a2) (by rfl) (fun w' hI => ?_) ?_
  · obtain ⟨q, rfl⟩ := hI
    have ca : ∀ i, (W2.drewN q).cell? ⟨ga, i, none⟩ = _ := fun i => cell_block XA.out i
    have cb : ∀ i, (W2.drewN q).cell? ⟨gb, i, none⟩ = _ := fun i => cell_block XB.out i
    go_simp
    done
  try simp only [Act.put, List.setIfInBounds_toArray, List.set_cons_zero, List.set_cons_succ]
  (first | (refine wpHold_pure (v := ?_) (by rfl) (fun w => ?_) ?_; rotate_left; focus (first | (go_simp; done) | (go_simp; with_reducible rfl))) | (refine wpHold_skip ?_ ?_; focus (go_simp; done)) | (refine wpHold_pure' (v := ?_) ?_ (fun w => ?_) ?_; rotate_left; focus (go_simp; done); focus (first | (go_simp; done) | (go_simp; with_reducible rfl)))); try simp only [Act.put, List.setIfInBounds_toArray, List.set_cons_zero, List.set_cons_succ]
  (first | (refine wpHold_pure (v := ?_) (by rfl) (fun w => ?_) ?_; rotate_left; focus (first | (go_simp; done) | (go_simp; with_reducible rfl))) | (refine wpHold_skip ?_ ?_; focus (go_simp; done)) | (refine wpHold_pure' (v := ?_) ?_ (fun w => ?_) ?_; rotate_left; focus (go_simp; done); focus (first | (go_simp; done) | (go_simp; with_reducible rfl)))); try simp only [Act.put, List.setIfInBounds_toArray, List.set_cons_zero, List.set_cons_succ]
  refine wpHold_read (v := .string b2) (by rfl) (fun w' hI => ?_) ?_
  · obtain ⟨q, rfl⟩ := hI
    have ca : ∀ i, (W2.drewN q).cell? ⟨ga, i, none⟩ = _ := fun i => cell_block XA.out i
    have cb : ∀ i, (W2.drewN q).cell? ⟨gb, i, none⟩ = _ := fun i => cell_block XB.out i
    go_simp
    done
  try simp only [Act.put, List.setIfInBounds_toArray, List.set_cons_zero, List.set_cons_succ]
  refine wpHold_call (v := .int .i64 (cmpB a2 b2)) (f := 75) (args := #[.string a2, .string b2]) (by rfl) (fun w' => ?_) (fun w' hI => ?_) ?_
  · go_simp
    done
  · exact (HC a2 b2 w').out.mono fun e w'' ⟨h1, h2⟩ => ⟨h1, h2 ▸ hI⟩
  try simp only [Act.put, List.setIfInBounds_toArray, List.set_cons_zero, List.set_cons_succ]
  (first | (refine wpHold_pure (v := ?_) (by rfl) (fun w => ?_) ?_; rotate_left; focus (first | (go_simp; done) | (go_simp; with_reducible rfl))) | (refine wpHold_skip ?_ ?_; focus (go_simp; done)) | (refine wpHold_pure' (v := ?_) ?_ (fun w => ?_) ?_; rotate_left; focus (go_simp; done); focus (first | (go_simp; done) | (go_simp; with_reducible rfl)))); try simp only [Act.put, List.setIfInBounds_toArray, List.set_cons_zero, List.set_cons_succ]
  (first | (refine wpHold_pure (v := ?_) (by rfl) (fun w => ?_) ?_; rotate_left; focus (first | (go_simp; done) | (go_simp; with_reducible rfl))) | (refine wpHold_skip ?_ ?_; focus (go_simp; done)) | (refine wpHold_pure' (v := ?_) ?_ (fun w => ?_) ?_; rotate_left; focus (go_simp; done); focus (first | (go_simp; done) | (go_simp; with_reducible rfl)))); try simp only [Act.put, List.setIfInBounds_toArray, List.set_cons_zero, List.set_cons_succ]
  refine wpHold_read (v := .string a3) (by rfl) (fun w' hI => ?_) ?_
  · obtain ⟨q, rfl⟩ := hI
    have ca : ∀ i, (W2.drewN q).cell? ⟨ga, i, none⟩ = _ := fun i => cell_block XA.out i
    have cb : ∀ i, (W2.drewN q).cell? ⟨gb, i, none⟩ = _ := fun i => cell_block XB.out i
    go_simp
    done
  try simp only [Act.put, List.setIfInBounds_toArray, List.set_cons_zero, List.set_cons_succ]
  (first | (refine wpHold_pure (v := ?_) (by rfl) (fun w => ?_) ?_; rotate_left; focus (first | (go_simp; done) | (go_simp; with_reducible rfl))) | (refine wpHold_skip ?_ ?_; focus (go_simp; done)) | (refine wpHold_pure' (v := ?_) ?_ (fun w => ?_) ?_; rotate_left; focus (go_simp; done); focus (first | (go_simp; done) | (go_simp; with_reducible rfl)))); try simp only [Act.put, List.setIfInBounds_toArray, List.set_cons_zero, List.set_cons_succ]
  (first | (refine wpHold_pure (v := ?_) (by rfl) (fun w => ?_) ?_; rotate_left; focus (first | (go_simp; done) | (go_simp; with_reducible rfl))) | (refine wpHold_skip ?_ ?_; focus (go_simp; done)) | (refine wpHold_pure' (v := ?_) ?_ (fun w => ?_) ?_; rotate_left; focus (go_simp; done); focus (first | (go_simp; done) | (go_simp; with_reducible rfl)))); try simp only [Act.put, List.setIfInBounds_toArray, List.set_cons_zero, List.set_cons_succ]
  refine wpHold_read (v := .string b3) (by rfl) (fun w' hI => ?_) ?_
  · obtain ⟨q, rfl⟩ := hI
    have ca : ∀ i, (W2.drewN q).cell? ⟨ga, i, none⟩ = _ := fun i => cell_block XA.out i
    have cb : ∀ i, (W2.drewN q).cell? ⟨gb, i, none⟩ = _ := fun i => cell_block XB.out i
    go_simp
    done
  try simp only [Act.put, List.setIfInBounds_toArray, List.set_cons_zero, List.set_cons_succ]
  refine wpHold_call (v := .int .i64 (cmpB a3 b3)) (f := 75) (args := #[.string a3, .string b3]) (by rfl) (fun w' => ?_) (fun w' hI => ?_) ?_
  · go_simp
    done
  · exact (HC a3 b3 w').out.mono fun e w'' ⟨h1, h2⟩ => ⟨h1, h2 ▸ hI⟩
  try simp only [Act.put, List.setIfInBounds_toArray, List.set_cons_zero, List.set_cons_succ]
  refine wpHold_nil ?_
  intro w' hI
  obtain ⟨q, rfl⟩ := hI
  go_wp2_with fail
  refine (or_any W2.heap.size (cmpB a2 b2) (cmpB a3 b3) _ 3 (heap_alloc_new (W2.drewN q) _)).mono ?_
  rintro E w2 ⟨rfl, hw⟩
  subst hw
  go_wp2_with fail
  go_ret
  have hgrow : ∀ o1 o2 o3 : Obj, (((W.drewN q).alloc o1).alloc o2).alloc o3 = Go.Sort.grow (W.drewN q) (#[o1] ++ (#[o2] ++ #[o3])) := fun o1 o2 o3 => by
    rw [Go.Sort.alloc_eq_grow, Go.Sort.alloc_eq_grow, Go.Sort.alloc_eq_grow, Go.Sort.grow_grow, Go.Sort.grow_grow]
  exact ⟨rfl, q, _, by rw [HW2.out]; exact hgrow _ _ _⟩
end Sto
end Go.Proofs.YtnnceaapodgfbaaGreatDoor
namespace Go.Proofs.YtnnceaapodgfbaaGreatDoor
namespace Sto
open Go.RowKit Go.Shelf Go.Sort
instance inhKey : Inhabited GKey := ⟨noKey⟩
instance inhOb : Inhabited GObject := ⟨noObj⟩
def oneV (v : Value) : Value := if v.oneCell' = true then v else .nilIface
theorem oneV_one (v : Value) : (oneV v).oneCell' = true := by
  unfold oneV
  split
  · assumption
  · rfl
theorem oneV_of {v : Value} (h : v.oneCell' = true) : oneV v = v := if_pos h
abbrev OC := (Value × Value × Value) × GObject
def encOw (p : OC) : List Value := objCs p.2 (oneV p.1.1) (oneV p.1.2.1) (oneV p.1.2.2)
def cfOb (a b : GObject) : Int := orI (cmpB a.okey.space b.okey.space) (cmpB a.okey.name b.okey.name)
def cfOw (p q : OC) : Int := cfOb p.2 q.2
theorem ltOw (p q : OC) : ltOf cfOw p q = decide (cfOb p.2 q.2 < 0) := rfl
theorem cfOb_lt (a b : GObject) : cfOb a b < 0 ↔ ahead a b := by
  unfold cfOb orI ahead lessS cmpB
  by_cases h : Lib.compareBytes a.okey.space.data.toList b.okey.space.data.toList = 0
  · have e : a.okey.space = b.okey.space := by have h9 := cb_eq _ _ h; exact toList_inj (by rw [Lib.toList_data, Lib.toList_data]; exact h9)
    rw [if_neg (fun h9 => h9 h)]
    constructor
    · exact fun h9 => .inr ⟨e, h9⟩
    · rintro (h9 | ⟨_, h9⟩)
      · omega
      · exact h9
  · rw [if_pos h]
    constructor
    · exact fun h9 => .inl h9
    · rintro (h9 | ⟨e, _⟩)
      · exact h9
      · rw [e, cb_self] at h; exact absurd rfl h
theorem cfOb_nlt_trans (a b c : GObject) (h1 : ¬ cfOb a b < 0) (h2 : ¬ cfOb b c < 0) : ¬ cfOb a c < 0 := by
  have n2 := cb_ntrans a.okey.name.data.toList b.okey.name.data.toList c.okey.name.data.toList
  have s1 := cb_swap a.okey.space.data.toList b.okey.space.data.toList
  have s2 := cb_swap b.okey.space.data.toList c.okey.space.data.toList
  have s3 := cb_swap a.okey.space.data.toList c.okey.space.data.toList
  have t1 := cb_trans c.okey.space.data.toList b.okey.space.data.toList a.okey.space.data.toList
  have z1 : Lib.compareBytes a.okey.space.data.toList b.okey.space.data.toList = 0 → Lib.compareBytes a.okey.space.data.toList c.okey.space.data.toList = Lib.compareBytes b.okey.space.data.toList c.okey.space.data.toList := fun h => by rw [cb_eq _ _ h]
  have z2 : Lib.compareBytes b.okey.space.data.toList c.okey.space.data.toList = 0 → Lib.compareBytes a.okey.space.data.toList c.okey.space.data.toList = Lib.compareBytes a.okey.space.data.toList b.okey.space.data.toList := fun h => by rw [cb_eq _ _ h]
  unfold cfOb orI cmpB at *
  split at h1 <;> split at h2 <;> split <;> omega
theorem swoOw : SWO (ltOf cfOw) where
  irrefl x := by
    rw [ltOw, decide_eq_false_iff_not, cfOb_lt]
    exact ahead_irrefl _
  trans x y z h1 h2 := by
    rw [ltOw, decide_eq_true_iff, cfOb_lt] at *
    exact ahead_trans h1 h2
  ntrans x y z h1 h2 := by
    rw [ltOw, decide_eq_false_iff_not] at *
    exact cfOb_nlt_trans _ _ _ h1 h2
theorem ownedCmp (x y : OC) (W : World) : Calls Tryz.prog 64 #[.agg (encOw x).toArray, .agg (encOw y).toArray] W fun e w' => e = .returned (.int .i64 (cfOw x y)) ∧ ∃ q os', w' = Go.Sort.grow (W.drewN q) os' :=
  order_any x.2.okey.kind x.2.okey.space x.2.okey.name y.2.okey.kind y.2.okey.space y.2.okey.name _ _ _ _ _ _ _ _ _ _ _ _ _ _ W
theorem ownedLays (blk off size : Nat) (w : World) : CmpLays Tryz.prog 64 #[] encOw 10 cfOw blk off size w := fun _ _ _ _ x y => ownedCmp x y _
theorem sorted_pairs {α : Type} [Inhabited α] {cf : α → α → Int} (c : α → α → Int) (hc : ∀ p q, ltOf cf p q = decide (c p q < 0)) {d : Array α} {n : Nat} (hn : d.size = n) (h : SortedIn (ltOf cf) 0 n d) : d.toList.Pairwise fun p q => ¬ c q p < 0 := by
  rw [List.pairwise_iff_getElem]
  intro i j hi hj hij
  have h1 := h i j (Nat.zero_le _) hij (by rw [← hn]; simpa using hj)
  rw [hc, decide_eq_false_iff_not] at h1
  rw [getElem!_pos d j (by simpa using hj), getElem!_pos d i (by simpa using hi)] at h1
  simpa using h1
theorem encOw_len (x : OC) : (encOw x).length = 10 := rfl
theorem encOw_one (x : OC) : ∀ v ∈ encOw x, v.oneCell' = true := fun v hv => by
  unfold encOw objCs at hv
  simp only [List.mem_cons, List.not_mem_nil, or_false] at hv
  rcases hv with rfl | rfl | rfl | rfl | rfl | rfl | rfl | rfl | rfl | rfl
  · rfl
  · rfl
  · rfl
  · exact oneV_one _
  · exact oneV_one _
  · exact oneV_one _
  · rfl
  · rfl
  · rfl
  · rfl
theorem flatK_getOw (d : List OC) : (flatK encOw 10 d.toArray).toList = (d.map encOw).flatten := by
  have hk : ∀ cs ∈ d.map encOw, cs.length = 10 := fun cs h => by
    obtain ⟨x, _, rfl⟩ := List.mem_map.1 h
    rfl
  have hl : (d.map encOw).flatten.length = d.length * 10 := by rw [flat_len hk, List.length_map]
  refine List.ext_getElem? fun t => ?_
  by_cases ht : t < d.length * 10
  · have e1 : t = t / 10 * 10 + t % 10 := by omega
    have hj : t / 10 < d.length := by omega
    have hi : t % 10 < 10 := by omega
    have e2 : (d.map encOw).flatten[t]? = some (encOw d[t / 10])[t % 10] := by
      conv => lhs; rw [e1]
      exact get_flat hk (by rw [List.getElem?_map, List.getElem?_eq_getElem hj]; rfl) (List.getElem?_eq_getElem (by rw [encOw_len]; exact hi))
    rw [e2]
    have e3 := get_flatK encOw 10 d.toArray t (by simpa using ht)
    have e4 : t < (flatK encOw 10 d.toArray).size := by rw [size_flatK]; simpa using ht
    rw [getElem!_pos _ t e4] at e3
    rw [Array.getElem?_toList, Array.getElem?_eq_getElem e4, e3, getElem!_pos d.toArray (t / 10) (by simpa using hj), getElem!_pos _ (t % 10) (by rw [encOw_len]; exact hi)]
    rfl
  · rw [List.getElem?_eq_none (by rw [Array.length_toList, size_flatK]; simp; omega), List.getElem?_eq_none (by rw [hl]; omega)]
theorem ow_sorted {E : Dom} {w0 w : World} {B g n c : Nat} {l : List GObject} (h : OwnAt (ObjX E w0) 10 w B 30 (.slice (some ⟨g, 0, none⟩) n c) l) :
    n = l.length ∧ g < w.heap.size ∧ ∃ d : List OC, d.length = l.length ∧ HoldsK encOw 10 w g 0 d.toArray ∧ ∀ (q : Nat) (d' : List OC), d'.Perm d → (d'.map (·.2)).Perm l ∧
      OwnAt (ObjX E w0) 10 (putRowK encOw 10 (Go.Sort.ahead w q) g 0 d'.toArray) B 30 (.slice (some ⟨g, 0, none⟩) n c) (d'.map (·.2)) ∧ RowKit.Below B w (putRowK encOw 10 (Go.Sort.ahead w q) g 0 d'.toArray) ∧ (∀ k, k ≠ g → (putRowK encOw 10 (Go.Sort.ahead w q) g 0 d'.toArray).heap[k]? = w.heap[k]?) ∧ (putRowK encOw 10 (Go.Sort.ahead w q) g 0 d'.toArray).heap.size = w.heap.size := by
  obtain ⟨css, c1, c2, ⟨c3, c4⟩, c5⟩ := h
  rcases c4 with ⟨h0, _⟩ | ⟨g', cap, cur, hv, hB, hh, hle, hm, hzc, ht⟩
  · cases h0
  · injection hv with u1 u2 u3
    injection u1 with u1
    injection u1 with u1
    subst u1; subst u2; subst u3
    have hgl : g < w.heap.size := by
      rcases Nat.lt_or_ge g w.heap.size with h1 | h1
      · exact h1
      · rw [Array.getElem?_eq_none h1] at hh; cases hh
    obtain ⟨d, hd1, hd2⟩ := pick_each (fun j (p : OC) => ∃ cs x, css[j]? = some cs ∧ l[j]? = some x ∧ p.2 = x ∧ encOw p = cs) l.length (fun j hj => by
      have hj1 : css[j]? = some (css[j]'(by omega)) := List.getElem?_eq_getElem _
      have hj2 : l[j]? = some l[j] := List.getElem?_eq_getElem _
      obtain ⟨s1, s2, s3, e1, e2⟩ := c5 j _ _ hj1 hj2
      refine ⟨((s1, s2, s3), l[j]), _, _, hj1, hj2, rfl, ?_⟩
      rw [e1]
      unfold encOw
      rw [oneV_of (own_one e2.labels.own), oneV_of (own_one e2.owners.own), oneV_of (own_one e2.holds.own)])
    have hdl : d.map (·.2) = l := by
      refine List.ext_getElem? fun j => ?_
      rw [List.getElem?_map]
      by_cases hj : j < l.length
      · have hp : d[j]? = some (d[j]'(by omega)) := List.getElem?_eq_getElem _
        obtain ⟨cs, x, _, e2, e3, _⟩ := hd2 j _ hp
        rw [hp, e2, ← e3]
        rfl
      · rw [List.getElem?_eq_none (by omega), List.getElem?_eq_none (by omega)]; rfl
    have hdc : d.map encOw = css := by
      refine List.ext_getElem? fun j => ?_
      rw [List.getElem?_map]
      by_cases hj : j < l.length
      · have hp : d[j]? = some (d[j]'(by omega)) := List.getElem?_eq_getElem _
        obtain ⟨cs, x, e1, _, _, e4⟩ := hd2 j _ hp
        rw [hp, e1, ← e4]
        rfl
      · rw [List.getElem?_eq_none (by omega), List.getElem?_eq_none (by omega)]; rfl
    have hR : ∀ p ∈ d, ObjX E w0 w (encOw p) p.2 := fun p hp => by
      obtain ⟨j, hj, rfl⟩ := List.getElem_of_mem hp
      obtain ⟨cs, x, e1, e2, e3, e4⟩ := hd2 j _ (List.getElem?_eq_getElem hj)
      rw [e3, e4]
      exact c5 j cs x e1 e2
    refine ⟨rfl, hgl, d, hd1, ?_, ?_⟩
    · intro j hj
      rw [size_flatK] at hj
      have hj3 : j < l.length * 10 := by simpa [hd1] using hj
      refine ⟨?_, free_block hh _⟩
      have e4 : j < (flatK encOw 10 d.toArray).size := by rw [size_flatK]; exact hj
      rw [getElem!_pos _ j e4, Nat.zero_add, cell_block hh]
      have e5 : (flatK encOw 10 d.toArray).toList[j]? = cur.toList[j]? := by
        rw [flatK_getOw, hdc, ← ht, List.getElem?_take_of_lt hj3]
      rw [Array.getElem?_toList, Array.getElem?_toList, Array.getElem?_eq_getElem e4] at e5
      exact e5.symm
    · intro q d' hp
      have hl' : d'.length = l.length := by rw [hp.length_eq, hd1]
      obtain ⟨W, hW⟩ : ∃ W, putRowK encOw 10 (Go.Sort.ahead w q) g 0 d'.toArray = W := ⟨_, rfl⟩
      rw [hW]
      have hw : W.heap[g]? = some (.cells (putCells id 0 (flatK encOw 10 d'.toArray) cur) 30 (0, 0)) := by
        rw [← hW]
        unfold putRowK putRow mapBlock
        show (Array.modify w.heap g _)[g]? = _
        rw [Array.getElem?_modify, if_pos rfl, hh]
        rfl
      have ho : ∀ k, k ≠ g → W.heap[k]? = w.heap[k]? := fun k hk => by
        rw [← hW]
        unfold putRowK putRow mapBlock
        show (Array.modify w.heap g _)[k]? = _
        rw [Array.getElem?_modify, if_neg (Ne.symm hk)]
      have hs : W.heap.size = w.heap.size := by
        rw [← hW]
        unfold putRowK putRow mapBlock
        show (Array.modify w.heap g _).size = _
        rw [Array.size_modify]
      have hk' : ∀ cs ∈ d'.map encOw, cs.length = 10 := fun cs h => by
        obtain ⟨x, _, rfl⟩ := List.mem_map.1 h
        rfl
      refine ⟨by rw [← hdl]; exact hp.map _, ⟨d'.map encOw, by rw [List.length_map, List.length_map], hk', ⟨by rw [flat_len hk', List.length_map, List.length_map], .inr ⟨g, c, _, by rw [List.length_map, hl'], hB, hw, by rw [List.length_map, hl']; exact hle, hm, by unfold putCells; rw [Array.size_mapIdx]; exact hzc, ?_⟩⟩, ?_⟩, ⟨by rw [← hW]; rfl, by rw [← hW]; rfl, by rw [← hW]; rfl, by rw [hs]; exact Nat.le_refl _, fun k hk => ho k (by omega)⟩, ho, hs⟩
      · rw [← flatK_getOw, List.length_map, hl']
        apply List.ext_getElem?
        intro t
        by_cases htl : t < l.length * 10
        · have htc : t < cur.size := by rw [hzc]; omega
          have e4 : t < (flatK encOw 10 d'.toArray).size := by rw [size_flatK]; simp [hl']; omega
          rw [List.getElem?_take_of_lt htl, Array.getElem?_toList, Array.getElem?_toList]
          unfold putCells
          rw [Array.getElem?_mapIdx, Array.getElem?_eq_getElem htc, Option.map_some, if_pos ⟨by omega, by omega⟩, Nat.sub_zero, getElem!_pos _ t e4, Array.getElem?_eq_getElem e4]
          rfl
        · rw [List.getElem?_eq_none (by rw [List.length_take]; omega), List.getElem?_eq_none (by rw [Array.length_toList, size_flatK]; simp [hl']; omega)]
      · intro j cs x hcs hx
        rw [List.getElem?_map] at hcs hx
        obtain ⟨p, hp1, rfl⟩ := Option.map_eq_some_iff.1 hcs
        rw [hp1] at hx
        obtain rfl : p.2 = x := by simpa using hx
        exact hR p (hp.mem_iff.1 (List.mem_of_getElem? hp1))
def RiseB (l : List GObject) : Prop := l.Pairwise fun x y => ¬ ahead y x
theorem objSort_any (v : Value) (l : List GObject) (B : Nat) (E : Dom) (w0 w : World) (h : OwnAt (ObjX E w0) 10 w B 30 v l) (hB : B ≤ w.heap.size) (hl : l.length ≤ 1073741824) :
    Calls Tryz.prog 63 #[v, .func (.func 64) #[] #[]] w fun e w' => e = .returned (.tuple #[]) ∧ ∃ l', l'.Perm l ∧ RiseB l' ∧ OwnAt (ObjX E w0) 10 w' B 30 v l' ∧ RowKit.Below B w w' ∧ Only (fun b => v.ownBlock = some b) w w' := by
  rcases h.form with ⟨rfl, rfl⟩ | ⟨g, c, rfl, _, hg, _, _⟩
  · refine (AnyF.slices_SortFunc_none Tryz.objSort none 0 _ w).mono fun e w' ⟨h1, h2⟩ => ?_
    subst h2
    exact ⟨h1, [], List.Perm.refl _, List.Pairwise.nil, OwnAt.nil _, Below.refl _ _, Only.refl _ _⟩
  · obtain ⟨_, _, d, hd1, hH, ho⟩ := ow_sorted h
    have eg : ∀ args w, (callFunc 64 args).run Tryz.prog w = .ok (.enter 64 args) w := enters_of Tryz.func64 (by kernel_rfl) rfl
    have hs := AnyQ.slices_SortFunc Tryz.objSort 10 Tryz.isAgg30 Tryz.sizeOf30 encOw encOw_len encOw_one cfOw swoOw 64 #[] g 0 c d.toArray w eg (ownedLays g 0 _ w) hH hg (by simp [hd1]; omega)
    have hsz : d.toArray.size = l.length := by simp [hd1]
    rw [hsz] at hs
    refine hs.mono fun e w' ⟨h1, d', n, os, hp, hso, h2⟩ => ?_
    have hpp : d'.toList.Perm d := by
      obtain ⟨p1, _, p3⟩ := hp
      have e1 : d'.size = l.length := by rw [p1, hsz]
      have e2 : d'.extract 0 l.length = d' := by rw [← e1]; exact Array.extract_size
      have e3 : d.toArray.extract 0 l.length = d.toArray := by rw [← hsz]; exact Array.extract_size
      rw [e2, e3] at p3
      exact p3
    obtain ⟨o0, o1, o2, o3, o4⟩ := ho n d'.toList hpp
    rw [Array.toArray_toList] at o1 o2 o3 o4
    have hgr : RowKit.Below (putRowK encOw 10 (Go.Sort.ahead w n) g 0 d').heap.size (putRowK encOw 10 (Go.Sort.ahead w n) g 0 d') w' := by
      rw [h2]
      exact Lib.below_grow _ _ (Nat.le_refl _) 0 os
    have hrise : RiseB (d'.toList.map (·.2)) := by
      unfold RiseB
      rw [List.pairwise_map]
      exact (sorted_pairs (fun p q : OC => cfOb p.2 q.2) (fun p q => ltOw p q) (by rw [hp.1, hsz]) hso).imp fun h h9 => h ((cfOb_lt _ _).2 h9)
    refine ⟨h1, _, o0, hrise, o1.stay (fun _ _ _ _ h => h) fun b hb => hgr.block b (o1.at hb).2.1, o2.trans (hgr.mono (by rw [o4]; exact hB)), ?_⟩
    have x1 : Only (fun b => (Value.slice (some ⟨g, 0, none⟩) l.length c).ownBlock = some b) w (putRowK encOw 10 (Go.Sort.ahead w n) g 0 d') := ⟨o2.os, o2.tape, o2.output, by rw [o4]; exact Nat.le_refl _, fun k _ hk => o3 k fun e => hk (by rw [e]; rfl)⟩
    exact x1.then hgr
end Sto
end Go.Proofs.YtnnceaapodgfbaaGreatDoor
namespace Go.Proofs.YtnnceaapodgfbaaGreatDoor
namespace Sto
open Go.RowKit
structure Gathered (L : List GEvent) (kind space : ByteArray) (left : GKey → Bool) (l : List GObject) : Prop where
  mem : ∀ o, o ∈ l ↔ fitsK kind space o.okey ∧ cur L o.okey = some o ∧ left o.okey = false
  one : (l.map (·.okey)).Nodup
section
variable {L : List GEvent} {kind space : ByteArray} {left : GKey → Bool} {l : List GObject}
theorem Gathered.start (h : ∀ k o, cur L k = some o → left k = true) : Gathered L kind space left [] :=
  ⟨fun o => ⟨fun h9 => (by cases h9), fun ⟨_, h2, h3⟩ => by rw [h _ _ h2] at h3; cases h3⟩, List.nodup_nil⟩
theorem Gathered.pass (h : Gathered L kind space left l) {k : GKey} (hk : ¬ fitsK kind space k ∨ cur L k = none) : Gathered L kind space (fun z => left z && !decide (z = k)) l := by
  refine ⟨fun o => (h.mem o).trans ⟨fun ⟨h1, h2, h3⟩ => ⟨h1, h2, by show (left o.okey && _) = false; rw [h3]; rfl⟩, fun ⟨h1, h2, h3⟩ => ⟨h1, h2, ?_⟩⟩, h.one⟩
  have h4 : (left o.okey && !decide (o.okey = k)) = false := h3
  by_cases e : o.okey = k
  · rcases hk with hk | hk
    · rw [e] at h1; exact absurd h1 hk
    · rw [e, hk] at h2; cases h2
  · rw [decide_eq_false e] at h4; simpa using h4
theorem Gathered.more (h : Gathered L kind space left l) {k : GKey} {o : GObject} (hf : fitsK kind space k) (hc : cur L k = some o) (hl : left k = true) : Gathered L kind space (fun z => left z && !decide (z = k)) (l ++ [o]) := by
  have hk : o.okey = k := cur_key hc
  have hno : ∀ x ∈ l, x.okey ≠ k := fun x hx e => by
    have h1 := ((h.mem x).1 hx).2.2
    rw [e, hl] at h1; cases h1
  refine ⟨fun x => ?_, ?_⟩
  · rw [List.mem_append, List.mem_singleton]
    constructor
    · rintro (hx | rfl)
      · obtain ⟨h1, h2, h3⟩ := (h.mem x).1 hx
        exact ⟨h1, h2, by show (left x.okey && _) = false; rw [h3]; rfl⟩
      · exact ⟨hk ▸ hf, by rw [hk]; exact hc, by show (left x.okey && !decide (x.okey = k)) = false; rw [decide_eq_true hk]; simp⟩
    · rintro ⟨h1, h2, h3⟩
      have h4 : (left x.okey && !decide (x.okey = k)) = false := h3
      by_cases e : x.okey = k
      · right
        rw [e, hc] at h2
        exact (Option.some.inj h2).symm
      · left
        rw [decide_eq_false e] at h4
        exact (h.mem x).2 ⟨h1, h2, by simpa using h4⟩
  · rw [List.map_append, List.nodup_append]
    refine ⟨h.one, List.nodup_cons.2 ⟨fun h => (by cases h), List.nodup_nil⟩, fun a ha b hb => ?_⟩
    obtain ⟨x, hx, rfl⟩ := List.mem_map.1 ha
    obtain rfl := List.mem_singleton.1 hb
    show x.okey ≠ o.okey
    rw [hk]
    exact hno x hx
theorem lessS_total {a b : ByteArray} (h1 : ¬ lessS a b) (h2 : ¬ lessS b a) : a = b := by
  unfold lessS at h1 h2
  have s1 := cb_swap a.data.toList b.data.toList
  have h9 := cb_eq _ _ (by omega : Lib.compareBytes a.data.toList b.data.toList = 0)
  rw [← mkB_of a, ← mkB_of b, h9]
theorem ahead_of {a b : GObject} (hk : a.okey.kind = b.okey.kind) (hne : a.okey ≠ b.okey) (h : ¬ ahead b a) : ahead a b := by
  unfold ahead at h ⊢
  by_cases h1 : lessS a.okey.space b.okey.space
  · exact .inl h1
  · have h2 : a.okey.space = b.okey.space := lessS_total h1 fun h9 => h (.inl h9)
    refine .inr ⟨h2, Classical.byContradiction fun h3 => hne ?_⟩
    have h4 : a.okey.name = b.okey.name := lessS_total h3 fun h9 => h (.inr ⟨h2.symm, h9⟩)
    have e : ∀ x y : GKey, x.kind = y.kind → x.space = y.space → x.name = y.name → x = y := fun x y p q r => by
      obtain ⟨a1, a2, a3⟩ := x
      obtain ⟨b1, b2, b3⟩ := y
      cases p; cases q; cases r; rfl
    exact e _ _ hk h2 h4
theorem Gathered.done (h : Gathered L kind space (fun _ => false) l) {l' : List GObject} (hp : l'.Perm l) (hr : l'.Pairwise fun x y => ¬ ahead y x) : IsList L kind space l' := by
  have hm : ∀ o, o ∈ l' ↔ fitsK kind space o.okey ∧ cur L o.okey = some o := fun o => (hp.mem_iff).trans ((h.mem o).trans ⟨fun ⟨a, b, _⟩ => ⟨a, b⟩, fun ⟨a, b⟩ => ⟨a, b, rfl⟩⟩)
  have hn : (l'.map (·.okey)).Nodup := ((hp.map (·.okey)).nodup_iff).2 h.one
  refine ⟨?_, hm⟩
  have hn2 : l'.Pairwise fun x y => x.okey ≠ y.okey := List.pairwise_map.1 hn
  refine List.Pairwise.imp_of_mem (fun {a b} ha hb h9 => ?_) (hr.and hn2)
  exact ahead_of (((hm a).1 ha).1.1.trans ((hm b).1 hb).1.1.symm) h9.2 h9.1
end
end Sto
end Go.Proofs.YtnnceaapodgfbaaGreatDoor
namespace Go.Proofs.YtnnceaapodgfbaaGreatDoor
open Go.RowKit
def OutD (B : Nat) (w : World) (v : Value) : Dom := fun b => B ≤ b ∧ b < w.heap.size ∧ v.ownBlock ≠ some b
def OutX {α : Type} (X : Dom → World → Rd α) (k B : Nat) (w : World) (e : TypeId) (v : Value) (l : List α) : Prop := OwnAt (X (OutD B w v) w) k w B e v l
section
variable {α : Type} {X : Dom → World → Rd α} {k B : Nat} {w w' : World} {e : TypeId} {v v' : Value} {l : List α}
theorem OutX.nil : OutX X k B w e (.slice none 0 0) [] := OwnAt.nil _
theorem OutX.agreeX (hX : Fam X) (h : OutX X k B w e v l) (hs : w.heap.size ≤ w'.heap.size) (ha : ∀ b, B ≤ b → b < w.heap.size → w'.heap[b]? = w.heap[b]?) : OutX X k B w' e v l :=
  (OwnAt.stay (hX.flat _ _) h fun b hb9 => ha b (OwnAt.at h hb9).1 (OwnAt.at h hb9).2.1).imp' fun _ _ _ hx => hX.mono _ _ _ _ _ _ (fun _ h9 => ⟨h9.1, Nat.lt_of_lt_of_le h9.2.1 hs, h9.2.2⟩) (hX.agree _ _ _ _ _ _ (fun b h9 => ha b h9.1 h9.2.1) hx)
theorem OutX.appended (hX : Fam X) (h : OwnAt (X (OutD B w v) w) k w' B e v' l) (hg : w.grownBy w' v.ownBlock) (hv : v'.ownBlock = v.ownBlock ∨ v'.ownBlock = some w.heap.size) : OutX X k B w' e v' l :=
  OwnAt.imp' h fun _ _ _ hx => hX.mono _ _ _ _ _ _ (fun b h9 => ⟨h9.1, Nat.lt_of_lt_of_le h9.2.1 hg.size, fun e9 => by
    rcases hv with h8 | h8
    · exact h9.2.2 (h8 ▸ e9)
    · rw [h8] at e9; injection e9 with e9; have := h9.2.1; omega⟩) (hX.agree _ _ _ _ _ _ (fun b h9 => hg.block b h9.2.1 fun e9 => h9.2.2 e9.symm) hx)
theorem OutX.own (hX : Fam X) (h : OutX X k B w e v l) : OwnX X k (fun b => B ≤ b ∧ b < w.heap.size) w e v l :=
  ⟨(OwnAt.imp' h fun _ _ _ hx => hX.mono _ _ _ _ _ _ (fun _ h9 => ⟨h9.1, h9.2.1⟩) hx).mono (Nat.zero_le _), fun _ hb => ⟨(OwnAt.at h hb).1, (OwnAt.at h hb).2.1⟩⟩
theorem OutX.at (h : OutX X k B w e v l) {b : Nat} (hb : v.ownBlock = some b) : B ≤ b ∧ b < w.heap.size := ⟨(OwnAt.at h hb).1, (OwnAt.at h hb).2.1⟩
end
end Go.Proofs.YtnnceaapodgfbaaGreatDoor
namespace Go.Proofs.YtnnceaapodgfbaaGreatDoor
namespace Sto
open Go.RowKit
theorem Tryz.infoObjL : (Tryz.prog.info? 30).map (fun i => (i.zero, i.size, i.bytes)) = some (some (.agg #[.string ByteArray.empty, .string ByteArray.empty, .string ByteArray.empty, .slice none 0 0, .slice none 0 0, .slice none 0 0, .bool false, .string ByteArray.empty, .int .i64 0, .string ByteArray.empty]), 10, 168) := by kernel_rfl
theorem timeT_le (S : St) (rev : Int) : timeT S rev ≤ S.log.length := by
  unfold timeT
  by_cases h : rev < 0 ∨ (S.rev : Int) < rev
  · have h1 : timeE S rev = 1 := by unfold timeE; rw [if_pos h]
    rw [h1, if_pos (by decide)]
    omega
  · have h2 : rev.toNat ≤ S.log.length := by unfold St.rev at h; omega
    split
    · omega
    · split
      · exact Nat.le_refl _
      · exact h2
theorem live_le : ∀ l : List GEvent, live l ≤ (l.length : Int)
  | [] => by decide
  | e :: r => by
    have h := live_le r
    unfold live
    rw [List.length_cons]
    split
    · omega
    · split <;> omega
set_option maxRecDepth 100000 in
set_option maxHeartbeats 6400000 in
theorem list_any {D : Dom} {w : World} {g : Nat} {S : St} (h : StoreAt D w g S) (hS : OkSt S) (kind space : ByteArray) (hk : kind.size ≤ 1048576) (hs : space.size ≤ 1048576) (rev : Int) :
    Calls Tryz.prog 23 #[.pointer (some ⟨g, 0, none⟩), .string kind, .string space, .int .i64 rev] w fun e w' => Below w.heap.size w w' ∧ ∃ E v out, e = .returned (.tuple #[v, .int .i64 (listE S kind space rev)]) ∧ ListTold S kind space rev out ∧ OwnX ObjX 10 E w' 30 v out ∧ ∀ b, E b → w.heap.size ≤ b ∧ b < w'.heap.size := by
  obtain ⟨R, HR⟩ : ∃ R, Hid (says (chk kind) (spaceE space) = R) := ⟨_, Lib.hid rfl⟩
  obtain ⟨le, Hle⟩ : ∃ x, Hid (listE S kind space rev = x) := ⟨_, Lib.hid rfl⟩
  rw [Hle.out]
  have HA := Lib.hid h
  have HS := Lib.hid hS
  have hgl := h.lt
  clear h hS
  go_enter Tryz.func23, Tryz.ntmps23
  go_upto_region 2 with fail
  obtain ⟨w1, hw1⟩ : ∃ w1, w1 = w.alloc (.cells #[.int .i64 0] 113) := ⟨_, rfl⟩
  obtain ⟨gc, hgc⟩ : ∃ gc, gc = w.heap.size := ⟨_, rfl⟩
  have C1 : Hid (IsBad gc w1 0) := Lib.hid (by rw [hw1, hgc]; exact heap_alloc_new w _)
  have HB1 : Hid (Below w.heap.size w w1) := Lib.hid (by rw [hw1]; exact (Below.refl _ w).alloc (Nat.le_refl _) _)
  have hs1 : gc < w1.heap.size := by rw [hw1, World.size_alloc]; omega
  have hgw : w.heap.size ≤ gc := by omega
  have hd : ∀ b, D b → b < gc := fun b hb => by have := HA.out.low hb; omega
  have Hd := Lib.hid hd
  rw [← hw1, ← hgc]
  clear hw1 hgc hd
  go_wp2_with fail
  refine (name_one gc 0 kind w1 C1.out (by omega)).mono ?_
  rintro E w2 ⟨rfl, h1, h2⟩
  rw [zero_says] at h1
  have C2 := Lib.hid h1
  have K2 := Lib.hid h2
  clear h1 h2
  go_wp2_with fail
  refine (space_any gc _ space w2 C2.out (by omega)).mono ?_
  rintro E w3 ⟨rfl, h1, h2⟩
  have C3 : Hid (IsBad gc w3 R) := Lib.hid (by rw [← HR.out]; exact h1)
  have K3 := Lib.hid (K2.out.trans h2)
  have HB := Lib.hid (K3.out.below HB1.out HB1.out.size hgw)
  have HA3 : Hid (StoreAt D w3 g S) := Lib.hid ((HA.out.belowW HB1.out).agree (fun b hb => K3.out.block b (by have := Hd.out b hb; omega) (by have := Hd.out b hb; omega)) K3.out.size)
  clear h1 h2 C1 C2 K2 K3 HA HB1
  have cc : w3.cell? ⟨gc, 0, none⟩ = some (.int .i64 R) := cell_block C3.out 0
  by_cases hR : R = 0
  · subst hR
    have HTi := Lib.hid (time_any HA3.out rev)
    go_wp2_with fail
    refine HTi.out.mono ?_
    rintro E w4 ⟨rfl, hw4⟩
    subst hw4
    clear HTi cc
    obtain ⟨te, Hte⟩ : ∃ x, Hid (timeE S rev = x) := ⟨_, Lib.hid rfl⟩
    obtain ⟨tt, Htt⟩ : ∃ x, Hid (timeT S rev = x) := ⟨_, Lib.hid rfl⟩
    rw [Hte.out, Htt.out]
    have Hl : Hid (le = te) := Lib.hid (by rw [← Hle.out, ← Hte.out]; unfold listE; rw [HR.out, if_neg (by decide)])
    by_cases hte : te = 0
    · subst hte
      obtain ⟨M, I, mb, nn, f, vlog, hin, hDD⟩ := HA3.out
      have HIn := Lib.hid hin
      have HDD := Lib.hid hDD
      have cg := fun i => cell_block hin.box i
      clear hin hDD
      go_wp2_with (at_range; refine wpList_range_mapK _ (by rfl) _ 108 (by rfl) 159 Tryz.underlying108 mb nn f (by rfl) HIn.out.map ?_; intro w4 cnt hrg hgr hsz)
      try go_frame
      have hb4 : Below w3.heap.size w3 w4 := ⟨hgr.os, hgr.tape, hgr.output, hgr.size, fun k hk => hgr.block k hk (by simp)⟩
      have HR1 := Lib.hid hrg
      have HB4 := Lib.hid (HB.out.trans (hb4.mono HB.out.size))
      have HA4 := Lib.hid (HA3.out.belowW hb4)
      have hsr : w3.heap.size < w4.heap.size := by omega
      obtain ⟨r, hr⟩ : ∃ r, w3.heap.size = r := ⟨_, rfl⟩
      rw [hr] at HR1 hsr ⊢
      have hwr : w.heap.size ≤ r := by rw [← hr]; exact HB.out.size
      have hdr : Hid (∀ b, D b → b < r) := Lib.hid fun b hb => by rw [← hr]; exact HA3.out.low hb
      have hmr : mb < r := hdr.out mb ((HDD.out mb).2 (.inl HIn.out.mbM))
      clear hrg hgr hsz hb4 hr cg
      go_loopg [12, 13, 14, 15] cnt (fun c u12 u13 u14 u15 wr => ∃ (left : GKey → Bool) (l1 : List GObject), Hid (RangeK keyC wr mb r nn f left c) ∧ Hid (OwnAt (ObjX (fun b => r < b ∧ b < wr.heap.size ∧ u12.ownBlock ≠ some b) wr) 10 wr (r + 1) 30 u12 l1) ∧ Hid (Gathered (S.log.take tt) kind space left l1) ∧ Hid (Below w.heap.size w wr) ∧ Hid (StoreAt D wr g S))
      case atStart =>
        exact ⟨_, [], HR1, Lib.hid (OwnAt.nil _), Lib.hid (.start fun k o hc => by
          cases hf : f k with
          | some v => rfl
          | none =>
            have h9 := HIn.out.no k hf
            have h8 : hits (S.log.take tt) k = [] := List.eq_nil_iff_forall_not_mem.2 fun e he => by
              unfold hits at he h9
              obtain ⟨h1, h2⟩ := List.mem_filter.1 he
              have := (List.mem_filter (p := fun e : GEvent => decide (e.object.okey = k))).2 ⟨List.mem_of_mem_take h1, h2⟩
              rw [h9] at this; cases this
            unfold cur at hc
            rw [h8] at hc; cases hc), HB4, HA4⟩
      case round =>
        obtain ⟨left, l1, HR2, HO, HG, HBr, HAr⟩ := hrel
        clear HR1 HB4 HA4
        go_wp2_with (at_next; refine wpList_next_rangeK _ (by rfl) _ (by rfl) mb r nn f left gk (by rfl) HR2.out ?_ ?_)
        · intro hl0
          have HGf : Hid (Gathered (S.log.take tt) kind space (fun _ => false) l1) := Lib.hid (by
            have : left = fun _ => false := funext hl0
            rw [← this]; exact HG.out)
          have hlen : l1.length ≤ 4194304 := by
            have h1 := live_keys (HS.out.good.fit tt (by rw [← Htt.out]; exact timeT_le S rev)) (l1.map (·.okey)) HGf.out.one fun k hk => by
              obtain ⟨o, ho, rfl⟩ := List.mem_map.1 hk
              rw [((HGf.out.mem o).1 ho).2.1]; rfl
            have h2 := live_le (S.log.take tt)
            rw [List.length_take] at h2
            rw [List.length_map] at h1
            have := HS.out.rev
            unfold St.rev at this
            omega
          have hrw : r + 1 ≤ wr.heap.size := by have := HR2.out.lt; omega
          have HSo := Lib.hid (objSort_any u12 l1 (r + 1) _ wr wr HO.out hrw (by omega))
          have hrow := HO.out.row.len
          have HBs := HBr
          clear hl0 HG HO HR2 hlen hrw HAr
          obtain ⟨a3, c3, e3, -, -⟩ := hrow
          obtain ⟨n3, hn3⟩ : ∃ n, l1.length = n := ⟨_, rfl⟩
          rw [hn3] at e3
          subst e3
          clear hn3
          go_wp2_with fail
          refine HSo.out.mono ?_
          rintro E w6 ⟨rfl, L, hp, hri, ho, hb6, ho6⟩
          have HLs : Hid (ListTold S kind space rev L) := Lib.hid ⟨fun h9 => absurd (by rw [Hle.out, Hl.out]) h9, fun _ => by rw [Htt.out]; exact HGf.out.done hp hri⟩
          have hwB := HBs.out.size
          have HB6 : Hid (Below w.heap.size w w6) := Lib.hid (HBs.out.trans (hb6.mono (by omega)))
          have HX : Hid (OwnX ObjX 10 (fun b => w.heap.size ≤ b ∧ b < w6.heap.size) w6 30 (.slice a3 n3 c3) L) := Lib.hid ⟨(ho.imp' fun cs x _ hx => famObj.mono _ _ _ _ _ _ (fun b hb => ⟨by have := hb.1; omega, Nat.lt_of_lt_of_le hb.2.1 ho6.size⟩) (famObj.agree _ _ _ _ _ _ (ho6.agree fun b hb => ⟨hb.2.1, hb.2.2⟩) hx)).mono (Nat.zero_le _), fun b hb => ⟨by have := (ho.at hb).1; omega, (ho.at hb).2.1⟩⟩
          clear hp hri ho hb6 ho6 HSo
          go_wp2_with fail
          go_ret2
          exact ⟨HB6.out, _, _, L, by rw [Hl.out]; rfl, HLs.out, HX.out, fun b hb => hb⟩
        · intro s v w5 cnt2 hs5 hlk hv hrg2 hlt hgr2 hsz2 hen
          have hrl := HR2.out.lt
          have HR5 := Lib.hid hrg2
          have HB5 : Hid (Below w.heap.size w w5) := Lib.hid (HBr.out.grown hgr2 HBr.out.size (fun j hj => by cases hj; exact hwr))
          have hne : ∀ b, b < wr.heap.size → b ≠ r → w5.heap[b]? = wr.heap[b]? := fun b hb hn => hgr2.block b hb fun e => hn (by cases e; rfl)
          have HA5 : Hid (StoreAt D w5 g S) := Lib.hid (HAr.out.agree (fun b hb => hne b (HAr.out.low hb) (by have := hdr.out b hb; omega)) (by omega))
          have HO5 : Hid (OwnAt (ObjX (fun b => r < b ∧ b < w5.heap.size ∧ u12.ownBlock ≠ some b) w5) 10 w5 (r + 1) 30 u12 l1) := Lib.hid ((HO.out.stay (fun _ _ _ _ h => h) fun b hb => hne b (HO.out.at hb).2.1 (by have := (HO.out.at hb).1; omega)).imp' fun cs x _ hx => famObj.mono _ _ _ _ _ _ (fun b hb => ⟨hb.1, by rw [hsz2]; exact hb.2.1, hb.2.2⟩) (famObj.agree _ _ _ _ _ _ (fun b hb => hne b hb.2.1 (by have := hb.1; omega)) hx))
          have Hlk := Lib.hid hlk
          have Hs := Lib.hid hs5
          have hs5' := hsz2
          rw [show keyC.val s = .agg #[.string s.kind, .string s.space, .string s.name] from rfl] at hen ⊢
          clear hrg2 hgr2 hsz2 hne hlk hs5 HR2 HO HBr HAr
          go_upto_region 13 with fail
          obtain ⟨w6, hw6⟩ : ∃ w6, w6 = w5.alloc (.cells #[.string s.kind, .string s.space, .string s.name] 24) := ⟨_, rfl⟩
          obtain ⟨gk', hgk⟩ : ∃ x, x = w5.heap.size := ⟨_, rfl⟩
          have KB : Hid (w6.heap[gk']? = some (.cells #[.string s.kind, .string s.space, .string s.name] 24 (0, 0))) := Lib.hid (by rw [hw6, hgk]; exact heap_alloc_new w5 _)
          have hb56 : Below w5.heap.size w5 w6 := by rw [hw6]; exact (Below.refl _ w5).alloc (Nat.le_refl _) _
          have hs6 : w6.heap.size = w5.heap.size + 1 := by rw [hw6, World.size_alloc]
          rw [hs5'] at hgk
          rw [← hw6]
          rw [← hgk]
          have hs6' := hs6
          have hgw' : w.heap.size ≤ gk' := by omega
          have Hb56 := Lib.hid hb56
          clear hw6 hgk hb56 hen
          have ck := fun i => cell_block KB.out i
          have HB6 := Lib.hid (HB5.out.trans (Hb56.out.mono HB5.out.size))
          have HA6 := Lib.hid (HA5.out.belowW Hb56.out)
          have HR6 := Lib.hid (HR5.out.belowW Hb56.out)
          have HO6 : Hid (OwnAt (ObjX (fun b => r < b ∧ b < w6.heap.size ∧ u12.ownBlock ≠ some b) w6) 10 w6 (r + 1) 30 u12 l1) := Lib.hid ((HO5.out.stay (fun _ _ _ _ h => h) fun b hb => Hb56.out.block b (HO5.out.at hb).2.1).imp' fun cs x _ hx => famObj.mono _ _ _ _ _ _ (fun b hb => ⟨hb.1, by rw [hs6]; have := hb.2.1; omega, hb.2.2⟩) (famObj.agree _ _ _ _ _ _ (fun b hb => Hb56.out.block b hb.2.1) hx))
          clear HB5 HA5 HR5 HO5 Hb56
          cases kb : (s.kind.toList == kind.toList) with
          | false =>
            have HNF : Hid (¬ fitsK kind space s) := Lib.hid fun h9 => by rw [h9.1, beq_self_eq_true] at kb; cases kb
            have HL6 := Lib.hid (HG.out.pass (k := s) (.inl HNF.out))
            clear HG HNF
            go_wp2_with fail
            go_roundg cnt2
            case measure => exact hlt
            case rel => exact ⟨_, l1, HR6, HO6, HL6, HB6, HA6⟩
          | true =>
            cases eb : space.toList.isEmpty with
            | true =>
              have HNF : Hid (fitsK kind space s) := Lib.hid ⟨toList_inj (eq_of_beq kb), .inl (by have h9 : space.toList = [] := List.isEmpty_iff.1 eb; exact toList_inj (h9.trans (by rw [Lib.toList_data]; rfl)))⟩
              have HAt := Lib.hid (at_any HA6.out HS.out s Hs.out tt)
              have HOL : Hid (∀ b, u12.ownBlock = some b → b < w6.heap.size) := Lib.hid fun b hb => (HO6.out.at hb).2.1
              have Hlen : Hid (l1.length ≤ 4194304) := Lib.hid (by
                have h1 := live_keys (HS.out.good.fit tt (by rw [← Htt.out]; exact timeT_le S rev)) (l1.map (·.okey)) HG.out.one fun k hk => by
                  obtain ⟨o, ho, rfl⟩ := List.mem_map.1 hk
                  rw [((HG.out.mem o).1 ho).2.1]; rfl
                have h2 := live_le (S.log.take tt)
                rw [List.length_take] at h2
                rw [List.length_map] at h1
                have := HS.out.rev
                unfold St.rev at this
                omega)
              go_wp2_with fail
              refine HAt.out.mono ?_
              rintro E w7 ⟨hb7, hat⟩
              clear HAt ck
              have hz7 := (hb7).size
              have HB7 := Lib.hid (HB6.out.trans ((hb7).mono HB6.out.size))
              have HA7 := Lib.hid (HA6.out.belowW (hb7))
              have HR7 := Lib.hid (HR6.out.belowW (hb7))
              have HO7 : Hid (OwnAt (ObjX (fun b => r < b ∧ b < w7.heap.size ∧ u12.ownBlock ≠ some b) w7) 10 w7 (r + 1) 30 u12 l1) := Lib.hid ((HO6.out.stay (fun _ _ _ _ h => h) fun b hb => (hb7).block b (HO6.out.at hb).2.1).imp' fun cs x _ hx => famObj.mono _ _ _ _ _ _ (fun b hb => ⟨hb.1, Nat.lt_of_lt_of_le hb.2.1 hz7, hb.2.2⟩) (famObj.agree _ _ _ _ _ _ (fun b hb => (hb7).block b hb.2.1) hx))
              clear HB6 HA6 HR6 HO6
              rcases hat with ⟨hc, rfl⟩ | ⟨o, D3, u1, u2, u3, hc, rfl, ho, hD⟩
              · have HL8 := Lib.hid (HG.out.pass (k := s) (.inr hc))
                rw [show noW = .agg noA from rfl]
                clear HG HNF hc hb7
                have H7 := Lib.hid (heap_alloc_new w7 (.cells noA 30))
                have hb8 := Lib.hid ((Below.refl w7.heap.size w7).alloc (Nat.le_refl _) (.cells noA 30))
                go_wp2_with (refine wpList_store_box (by rfl) _ _ _ (by rfl) w7.heap.size noA (by rfl) (by rfl) _ _ (by exact H7.out) (by exact Tryz.sizeObj) (by rfl) (by simp [Value.oneCell', noA]) ?_)
                intro w8 b8 t8
                have hbb : Below w7.heap.size w7 w8 := t8.below hb8.out (Nat.le_refl _)
                have hs8 : w8.heap.size = w7.heap.size + 1 := t8.size.trans (World.size_alloc _ _)
                have hz8 := (hbb).size
                have HB8 := Lib.hid (HB7.out.trans ((hbb).mono HB7.out.size))
                have HA8 := Lib.hid (HA7.out.belowW (hbb))
                have HR8 := Lib.hid (HR7.out.belowW (hbb))
                have HO8 : Hid (OwnAt (ObjX (fun b => r < b ∧ b < w8.heap.size ∧ u12.ownBlock ≠ some b) w8) 10 w8 (r + 1) 30 u12 l1) := Lib.hid ((HO7.out.stay (fun _ _ _ _ h => h) fun b hb => (hbb).block b (HO7.out.at hb).2.1).imp' fun cs x _ hx => famObj.mono _ _ _ _ _ _ (fun b hb => ⟨hb.1, Nat.lt_of_lt_of_le hb.2.1 hz8, hb.2.2⟩) (famObj.agree _ _ _ _ _ _ (fun b hb => (hbb).block b hb.2.1) hx))
                clear HB7 HA7 HR7 HO7
                clear b8 t8 hbb H7 hb8
                go_wp2_with fail
                go_roundg cnt2
                case measure => exact hlt
                case rel => exact ⟨_, l1, HR8, HO8, HL8, HB8, HA8⟩
              · have HL8 := Lib.hid (HG.out.more HNF.out hc Hlk.out)
                have hD9 : Hid (∀ b, D3 b → w6.heap.size ≤ b ∧ b < w7.heap.size) := Lib.hid hD
                have HOo := Lib.hid ho
                clear HG HNF hc hb7 ho hD
                obtain ⟨a1, c1, rfl, -, -⟩ := HOo.out.rowL.len
                obtain ⟨a2, c2, rfl, -, -⟩ := HOo.out.rowO.row.len
                obtain ⟨a3, c3, rfl, -, -⟩ := HOo.out.rowH.row.len
                obtain ⟨n1, Hn1⟩ : ∃ n, Hid (o.labels.length = n) := ⟨_, Lib.hid rfl⟩
                obtain ⟨n2, Hn2⟩ : ∃ n, Hid (o.owners.length = n) := ⟨_, Lib.hid rfl⟩
                obtain ⟨n3, Hn3⟩ : ∃ n, Hid (o.holds.length = n) := ⟨_, Lib.hid rfl⟩
                rw [Hn1.out, Hn2.out, Hn3.out] at HOo ⊢
                have H7 := Lib.hid (heap_alloc_new w7 (.cells noA 30))
                have hb8 := Lib.hid ((Below.refl w7.heap.size w7).alloc (Nat.le_refl _) (.cells noA 30))
                go_wp2_with (refine wpList_store_box (by rfl) _ _ _ (by rfl) w7.heap.size #[.string o.okey.kind, .string o.okey.space, .string o.okey.name, .slice a1 n1 c1, .slice a2 n2 c2, .slice a3 n3 c3, .bool o.ending, .string o.uid, .int .i64 o.rev, .string o.doc] (by rfl) (by rfl) _ _ (by exact H7.out) (by exact Tryz.sizeObj) (by rfl) (by simp [Value.oneCell']) ?_)
                intro w8 b8 t8
                have hbb : Below w7.heap.size w7 w8 := t8.below hb8.out (Nat.le_refl _)
                have hs8 : w8.heap.size = w7.heap.size + 1 := t8.size.trans (World.size_alloc _ _)
                have hz8 := (hbb).size
                have HB8 := Lib.hid (HB7.out.trans ((hbb).mono HB7.out.size))
                have HA8 := Lib.hid (HA7.out.belowW (hbb))
                have HR8 := Lib.hid (HR7.out.belowW (hbb))
                have HO8 : Hid (OwnAt (ObjX (fun b => r < b ∧ b < w8.heap.size ∧ u12.ownBlock ≠ some b) w8) 10 w8 (r + 1) 30 u12 l1) := Lib.hid ((HO7.out.stay (fun _ _ _ _ h => h) fun b hb => (hbb).block b (HO7.out.at hb).2.1).imp' fun cs x _ hx => famObj.mono _ _ _ _ _ _ (fun b hb => ⟨hb.1, Nat.lt_of_lt_of_le hb.2.1 hz8, hb.2.2⟩) (famObj.agree _ _ _ _ _ _ (fun b hb => (hbb).block b hb.2.1) hx))
                clear HB7 HA7 HR7 HO7
                have HOo8 := Lib.hid (HOo.out.agree fun b hb => hbb.block b (hD9.out b hb).2)
                obtain ⟨go, hgo⟩ : ∃ go, w7.heap.size = go := ⟨_, rfl⟩
                rw [hgo] at b8 ⊢
                have BO := Lib.hid b8
                have hgl : go < w8.heap.size := by omega
                clear b8 t8 hbb H7 hb8 HOo hgo
                have co := fun i => cell_block BO.out i
                obtain ⟨gl, hgz⟩ : ∃ gl, w8.heap.size = gl := ⟨_, rfl⟩
                obtain ⟨w9, hw9⟩ : ∃ w9, w9 = w8.alloc (.cells #[.string o.okey.kind, .string o.okey.space, .string o.okey.name, .slice a1 n1 c1, .slice a2 n2 c2, .slice a3 n3 c3, .bool o.ending, .string o.uid, .int .i64 o.rev, .string o.doc] 30) := ⟨_, rfl⟩
                have hb9 : Below w8.heap.size w8 w9 := by rw [hw9]; exact (Below.refl _ w8).alloc (Nat.le_refl _) _
                have hs9 : w9.heap.size = w8.heap.size + 1 := by rw [hw9, World.size_alloc]
                have HOo9 : Hid (ObjIn (fun b => r < b ∧ b < w9.heap.size ∧ u12.ownBlock ≠ some b) w9 (.slice a1 n1 c1) (.slice a2 n2 c2) (.slice a3 n3 c3) o) := Lib.hid ((HOo8.out.agree fun b hb => hb9.block b (by have := (hD9.out b hb).2; omega)).mono fun b hb => ⟨by have := (hD9.out b hb).1; have := HR8.out.lt; omega, by have := (hD9.out b hb).2; omega, fun e => by have := (HOL.out b e); have := (hD9.out b hb).1; omega⟩)
                have hz9 := (hb9).size
                have HB9 := Lib.hid (HB8.out.trans ((hb9).mono HB8.out.size))
                have HA9 := Lib.hid (HA8.out.belowW (hb9))
                have HR9 := Lib.hid (HR8.out.belowW (hb9))
                have HO9 : Hid (OwnAt (ObjX (fun b => r < b ∧ b < w9.heap.size ∧ u12.ownBlock ≠ some b) w9) 10 w9 (r + 1) 30 u12 l1) := Lib.hid ((HO8.out.stay (fun _ _ _ _ h => h) fun b hb => (hb9).block b (HO8.out.at hb).2.1).imp' fun cs x _ hx => famObj.mono _ _ _ _ _ _ (fun b hb => ⟨hb.1, Nat.lt_of_lt_of_le hb.2.1 hz9, hb.2.2⟩) (famObj.agree _ _ _ _ _ _ (fun b hb => (hb9).block b hb.2.1) hx))
                clear HB8 HA8 HR8 HO8
                have HRow : Hid (RowAt (ObjX (fun b => r < b ∧ b < w9.heap.size ∧ u12.ownBlock ≠ some b) w9) 10 w9 (.slice (some ⟨gl, 0, none⟩) 1 1) [o]) := Lib.hid (RowAt.one (R := ObjX (fun b => r < b ∧ b < w9.heap.size ∧ u12.ownBlock ≠ some b) w9) (k := 10) (cs := #[.string o.okey.kind, .string o.okey.space, .string o.okey.name, .slice a1 n1 c1, .slice a2 n2 c2, .slice a3 n3 c3, .bool o.ending, .string o.uid, .int .i64 o.rev, .string o.doc]) (x := o) (by rw [hw9, ← hgz]; exact heap_alloc_new w8 _) rfl ⟨_, _, _, rfl, HOo9.out⟩)
                have hbase : r + 1 ≤ w9.heap.size := by omega
                obtain ⟨i0, hi0, hy0, hy1, hy2⟩ := info_parts Tryz.infoObjL
                have hl1 := Hlen.out
                have hsl : w9.heap.size = gl + 1 := by omega
                have hgl9 : go < gl := by omega
                clear hs8 hs9 hb9
                go_wp2_with (at_builtin; rw [← hw9]; refine wpList_append_ownAt (R := ObjX (fun b => r < b ∧ b < w9.heap.size ∧ u12.ownBlock ≠ some b) w9) (k := 10) (e := 30) (B := r + 1) (l := l1) (m := [o]) _ (by rfl) _ _ _ (by rfl) i0 _ 168 Tryz.underlying45 hi0 hy0 hy1 hy2 rfl (by omega) (famObj.flat _ _) (famObj.one _ _) _ (by rfl) HO9.out _ (by rfl) HRow.out (by rw [List.length_singleton]; unfold maxLen; omega) (by rw [List.length_singleton]; omega) hbase ?_)
                intro v' w10 q1 q2 q3 q4
                rw [← hw9] at q1 q2
                rw [show gl + 1 = w9.heap.size from hsl.symm] at q4
                have hwl : w.heap.size ≤ w9.heap.size := by have := HB9.out.size; omega
                have HB10 := Lib.hid (HB9.out.grown q2 hwl fun b hb => by have := q3 b hb; omega)
                have HA10 : Hid (StoreAt D w10 g S) := Lib.hid (HA9.out.agree (fun b hb => q2.block b (HA9.out.low hb) fun e9 => by have := q3 b e9.symm; have := hdr.out b hb; omega) q2.size)
                have HR10 := Lib.hid (HR9.out.kept q2 (fun e9 => by have := q3 mb e9.symm; omega) (fun e9 => by have := q3 r e9.symm; omega))
                have HO10 : Hid (OwnAt (ObjX (fun b => r < b ∧ b < w10.heap.size ∧ v'.ownBlock ≠ some b) w10) 10 w10 (r + 1) 30 v' (l1 ++ [o])) := Lib.hid (OutX.appended (X := ObjX) (B := r + 1) (w := w9) (v := u12) famObj (by rw [← hsl] at q1; exact q1) q2 q4)
                clear q1 q2 q3 q4 HO9 HRow HB9 HA9 HR9 hw9 hgz
                go_wp2_with fail
                go_roundg cnt2
                case measure => exact hlt
                case rel => exact ⟨_, l1 ++ [o], HR10, HO10, HL8, HB10, HA10⟩
            | false =>
              cases sb : (s.space.toList == space.toList) with
              | true =>
                have HNF : Hid (fitsK kind space s) := Lib.hid ⟨toList_inj (eq_of_beq kb), .inr (toList_inj (eq_of_beq sb))⟩
                have HAt := Lib.hid (at_any HA6.out HS.out s Hs.out tt)
                have HOL : Hid (∀ b, u12.ownBlock = some b → b < w6.heap.size) := Lib.hid fun b hb => (HO6.out.at hb).2.1
                have Hlen : Hid (l1.length ≤ 4194304) := Lib.hid (by
                  have h1 := live_keys (HS.out.good.fit tt (by rw [← Htt.out]; exact timeT_le S rev)) (l1.map (·.okey)) HG.out.one fun k hk => by
                    obtain ⟨o, ho, rfl⟩ := List.mem_map.1 hk
                    rw [((HG.out.mem o).1 ho).2.1]; rfl
                  have h2 := live_le (S.log.take tt)
                  rw [List.length_take] at h2
                  rw [List.length_map] at h1
                  have := HS.out.rev
                  unfold St.rev at this
                  omega)
                go_wp2_with fail
                refine HAt.out.mono ?_
                rintro E w7 ⟨hb7, hat⟩
                clear HAt ck
                have hz7 := (hb7).size
                have HB7 := Lib.hid (HB6.out.trans ((hb7).mono HB6.out.size))
                have HA7 := Lib.hid (HA6.out.belowW (hb7))
                have HR7 := Lib.hid (HR6.out.belowW (hb7))
                have HO7 : Hid (OwnAt (ObjX (fun b => r < b ∧ b < w7.heap.size ∧ u12.ownBlock ≠ some b) w7) 10 w7 (r + 1) 30 u12 l1) := Lib.hid ((HO6.out.stay (fun _ _ _ _ h => h) fun b hb => (hb7).block b (HO6.out.at hb).2.1).imp' fun cs x _ hx => famObj.mono _ _ _ _ _ _ (fun b hb => ⟨hb.1, Nat.lt_of_lt_of_le hb.2.1 hz7, hb.2.2⟩) (famObj.agree _ _ _ _ _ _ (fun b hb => (hb7).block b hb.2.1) hx))
                clear HB6 HA6 HR6 HO6
                rcases hat with ⟨hc, rfl⟩ | ⟨o, D3, u1, u2, u3, hc, rfl, ho, hD⟩
                · have HL8 := Lib.hid (HG.out.pass (k := s) (.inr hc))
                  rw [show noW = .agg noA from rfl]
                  clear HG HNF hc hb7
                  have H7 := Lib.hid (heap_alloc_new w7 (.cells noA 30))
                  have hb8 := Lib.hid ((Below.refl w7.heap.size w7).alloc (Nat.le_refl _) (.cells noA 30))
                  go_wp2_with (refine wpList_store_box (by rfl) _ _ _ (by rfl) w7.heap.size noA (by rfl) (by rfl) _ _ (by exact H7.out) (by exact Tryz.sizeObj) (by rfl) (by simp [Value.oneCell', noA]) ?_)
                  intro w8 b8 t8
                  have hbb : Below w7.heap.size w7 w8 := t8.below hb8.out (Nat.le_refl _)
                  have hs8 : w8.heap.size = w7.heap.size + 1 := t8.size.trans (World.size_alloc _ _)
                  have hz8 := (hbb).size
                  have HB8 := Lib.hid (HB7.out.trans ((hbb).mono HB7.out.size))
                  have HA8 := Lib.hid (HA7.out.belowW (hbb))
                  have HR8 := Lib.hid (HR7.out.belowW (hbb))
                  have HO8 : Hid (OwnAt (ObjX (fun b => r < b ∧ b < w8.heap.size ∧ u12.ownBlock ≠ some b) w8) 10 w8 (r + 1) 30 u12 l1) := Lib.hid ((HO7.out.stay (fun _ _ _ _ h => h) fun b hb => (hbb).block b (HO7.out.at hb).2.1).imp' fun cs x _ hx => famObj.mono _ _ _ _ _ _ (fun b hb => ⟨hb.1, Nat.lt_of_lt_of_le hb.2.1 hz8, hb.2.2⟩) (famObj.agree _ _ _ _ _ _ (fun b hb => (hbb).block b hb.2.1) hx))
                  clear HB7 HA7 HR7 HO7
                  clear b8 t8 hbb H7 hb8
                  go_wp2_with fail
                  go_roundg cnt2
                  case measure => exact hlt
                  case rel => exact ⟨_, l1, HR8, HO8, HL8, HB8, HA8⟩
                · have HL8 := Lib.hid (HG.out.more HNF.out hc Hlk.out)
                  have hD9 : Hid (∀ b, D3 b → w6.heap.size ≤ b ∧ b < w7.heap.size) := Lib.hid hD
                  have HOo := Lib.hid ho
                  clear HG HNF hc hb7 ho hD
                  obtain ⟨a1, c1, rfl, -, -⟩ := HOo.out.rowL.len
                  obtain ⟨a2, c2, rfl, -, -⟩ := HOo.out.rowO.row.len
                  obtain ⟨a3, c3, rfl, -, -⟩ := HOo.out.rowH.row.len
                  obtain ⟨n1, Hn1⟩ : ∃ n, Hid (o.labels.length = n) := ⟨_, Lib.hid rfl⟩
                  obtain ⟨n2, Hn2⟩ : ∃ n, Hid (o.owners.length = n) := ⟨_, Lib.hid rfl⟩
                  obtain ⟨n3, Hn3⟩ : ∃ n, Hid (o.holds.length = n) := ⟨_, Lib.hid rfl⟩
                  rw [Hn1.out, Hn2.out, Hn3.out] at HOo ⊢
                  have H7 := Lib.hid (heap_alloc_new w7 (.cells noA 30))
                  have hb8 := Lib.hid ((Below.refl w7.heap.size w7).alloc (Nat.le_refl _) (.cells noA 30))
                  go_wp2_with (refine wpList_store_box (by rfl) _ _ _ (by rfl) w7.heap.size #[.string o.okey.kind, .string o.okey.space, .string o.okey.name, .slice a1 n1 c1, .slice a2 n2 c2, .slice a3 n3 c3, .bool o.ending, .string o.uid, .int .i64 o.rev, .string o.doc] (by rfl) (by rfl) _ _ (by exact H7.out) (by exact Tryz.sizeObj) (by rfl) (by simp [Value.oneCell']) ?_)
                  intro w8 b8 t8
                  have hbb : Below w7.heap.size w7 w8 := t8.below hb8.out (Nat.le_refl _)
                  have hs8 : w8.heap.size = w7.heap.size + 1 := t8.size.trans (World.size_alloc _ _)
                  have hz8 := (hbb).size
                  have HB8 := Lib.hid (HB7.out.trans ((hbb).mono HB7.out.size))
                  have HA8 := Lib.hid (HA7.out.belowW (hbb))
                  have HR8 := Lib.hid (HR7.out.belowW (hbb))
                  have HO8 : Hid (OwnAt (ObjX (fun b => r < b ∧ b < w8.heap.size ∧ u12.ownBlock ≠ some b) w8) 10 w8 (r + 1) 30 u12 l1) := Lib.hid ((HO7.out.stay (fun _ _ _ _ h => h) fun b hb => (hbb).block b (HO7.out.at hb).2.1).imp' fun cs x _ hx => famObj.mono _ _ _ _ _ _ (fun b hb => ⟨hb.1, Nat.lt_of_lt_of_le hb.2.1 hz8, hb.2.2⟩) (famObj.agree _ _ _ _ _ _ (fun b hb => (hbb).block b hb.2.1) hx))
                  clear HB7 HA7 HR7 HO7
                  have HOo8 := Lib.hid (HOo.out.agree fun b hb => hbb.block b (hD9.out b hb).2)
                  obtain ⟨go, hgo⟩ : ∃ go, w7.heap.size = go := ⟨_, rfl⟩
                  rw [hgo] at b8 ⊢
                  have BO := Lib.hid b8
                  have hgl : go < w8.heap.size := by omega
                  clear b8 t8 hbb H7 hb8 HOo hgo
                  have co := fun i => cell_block BO.out i
                  obtain ⟨gl, hgz⟩ : ∃ gl, w8.heap.size = gl := ⟨_, rfl⟩
                  obtain ⟨w9, hw9⟩ : ∃ w9, w9 = w8.alloc (.cells #[.string o.okey.kind, .string o.okey.space, .string o.okey.name, .slice a1 n1 c1, .slice a2 n2 c2, .slice a3 n3 c3, .bool o.ending, .string o.uid, .int .i64 o.rev, .string o.doc] 30) := ⟨_, rfl⟩
                  have hb9 : Below w8.heap.size w8 w9 := by rw [hw9]; exact (Below.refl _ w8).alloc (Nat.le_refl _) _
                  have hs9 : w9.heap.size = w8.heap.size + 1 := by rw [hw9, World.size_alloc]
                  have HOo9 : Hid (ObjIn (fun b => r < b ∧ b < w9.heap.size ∧ u12.ownBlock ≠ some b) w9 (.slice a1 n1 c1) (.slice a2 n2 c2) (.slice a3 n3 c3) o) := Lib.hid ((HOo8.out.agree fun b hb => hb9.block b (by have := (hD9.out b hb).2; omega)).mono fun b hb => ⟨by have := (hD9.out b hb).1; have := HR8.out.lt; omega, by have := (hD9.out b hb).2; omega, fun e => by have := (HOL.out b e); have := (hD9.out b hb).1; omega⟩)
                  have hz9 := (hb9).size
                  have HB9 := Lib.hid (HB8.out.trans ((hb9).mono HB8.out.size))
                  have HA9 := Lib.hid (HA8.out.belowW (hb9))
                  have HR9 := Lib.hid (HR8.out.belowW (hb9))
                  have HO9 : Hid (OwnAt (ObjX (fun b => r < b ∧ b < w9.heap.size ∧ u12.ownBlock ≠ some b) w9) 10 w9 (r + 1) 30 u12 l1) := Lib.hid ((HO8.out.stay (fun _ _ _ _ h => h) fun b hb => (hb9).block b (HO8.out.at hb).2.1).imp' fun cs x _ hx => famObj.mono _ _ _ _ _ _ (fun b hb => ⟨hb.1, Nat.lt_of_lt_of_le hb.2.1 hz9, hb.2.2⟩) (famObj.agree _ _ _ _ _ _ (fun b hb => (hb9).block b hb.2.1) hx))
                  clear HB8 HA8 HR8 HO8
                  have HRow : Hid (RowAt (ObjX (fun b => r < b ∧ b < w9.heap.size ∧ u12.ownBlock ≠ some b) w9) 10 w9 (.slice (some ⟨gl, 0, none⟩) 1 1) [o]) := Lib.hid (RowAt.one (R := ObjX (fun b => r < b ∧ b < w9.heap.size ∧ u12.ownBlock ≠ some b) w9) (k := 10) (cs := #[.string o.okey.kind, .string o.okey.space, .string o.okey.name, .slice a1 n1 c1, .slice a2 n2 c2, .slice a3 n3 c3, .bool o.ending, .string o.uid, .int .i64 o.rev, .string o.doc]) (x := o) (by rw [hw9, ← hgz]; exact heap_alloc_new w8 _) rfl ⟨_, _, _, rfl, HOo9.out⟩)
                  have hbase : r + 1 ≤ w9.heap.size := by omega
                  obtain ⟨i0, hi0, hy0, hy1, hy2⟩ := info_parts Tryz.infoObjL
                  have hl1 := Hlen.out
                  have hsl : w9.heap.size = gl + 1 := by omega
                  have hgl9 : go < gl := by omega
                  clear hs8 hs9 hb9
                  go_wp2_with (at_builtin; rw [← hw9]; refine wpList_append_ownAt (R := ObjX (fun b => r < b ∧ b < w9.heap.size ∧ u12.ownBlock ≠ some b) w9) (k := 10) (e := 30) (B := r + 1) (l := l1) (m := [o]) _ (by rfl) _ _ _ (by rfl) i0 _ 168 Tryz.underlying45 hi0 hy0 hy1 hy2 rfl (by omega) (famObj.flat _ _) (famObj.one _ _) _ (by rfl) HO9.out _ (by rfl) HRow.out (by rw [List.length_singleton]; unfold maxLen; omega) (by rw [List.length_singleton]; omega) hbase ?_)
                  intro v' w10 q1 q2 q3 q4
                  rw [← hw9] at q1 q2
                  rw [show gl + 1 = w9.heap.size from hsl.symm] at q4
                  have hwl : w.heap.size ≤ w9.heap.size := by have := HB9.out.size; omega
                  have HB10 := Lib.hid (HB9.out.grown q2 hwl fun b hb => by have := q3 b hb; omega)
                  have HA10 : Hid (StoreAt D w10 g S) := Lib.hid (HA9.out.agree (fun b hb => q2.block b (HA9.out.low hb) fun e9 => by have := q3 b e9.symm; have := hdr.out b hb; omega) q2.size)
                  have HR10 := Lib.hid (HR9.out.kept q2 (fun e9 => by have := q3 mb e9.symm; omega) (fun e9 => by have := q3 r e9.symm; omega))
                  have HO10 : Hid (OwnAt (ObjX (fun b => r < b ∧ b < w10.heap.size ∧ v'.ownBlock ≠ some b) w10) 10 w10 (r + 1) 30 v' (l1 ++ [o])) := Lib.hid (OutX.appended (X := ObjX) (B := r + 1) (w := w9) (v := u12) famObj (by rw [← hsl] at q1; exact q1) q2 q4)
                  clear q1 q2 q3 q4 HO9 HRow HB9 HA9 HR9 hw9 hgz
                  go_wp2_with fail
                  go_roundg cnt2
                  case measure => exact hlt
                  case rel => exact ⟨_, l1 ++ [o], HR10, HO10, HL8, HB10, HA10⟩
              | false =>
                have HNF : Hid (¬ fitsK kind space s) := Lib.hid fun h9 => by
                  rcases h9.2 with h8 | h8
                  · rw [h8, Lib.toList_data] at eb; cases eb
                  · rw [h8, beq_self_eq_true] at sb; cases sb
                have HL6 := Lib.hid (HG.out.pass (k := s) (.inl HNF.out))
                clear HG HNF
                go_wp2_with fail
                go_roundg cnt2
                case measure => exact hlt
                case rel => exact ⟨_, l1, HR6, HO6, HL6, HB6, HA6⟩
    · have q0 : (te != 0) = true := bne_iff_ne.2 hte
      have Hlt : Hid (ListTold S kind space rev []) := Lib.hid ⟨fun _ => rfl, fun h9 => absurd (by rw [← Hl.out, ← Hle.out]; exact h9) hte⟩
      clear hte
      go_wp2_with fail
      go_ret2
      exact ⟨HB.out, fun _ => False, nilS, [], by rw [Hl.out]; rfl, Hlt.out, OwnX.nil, fun b hb => hb.elim⟩
  · have q0 : (R == 0) = false := by rw [beq_eq_false_iff_ne]; exact hR
    have q1 : (R != 0) = true := bne_iff_ne.2 hR
    have Hl : Hid (le = R) := Lib.hid (by rw [← Hle.out]; unfold listE; rw [HR.out, if_pos hR])
    have Hlt : Hid (ListTold S kind space rev []) := Lib.hid ⟨fun _ => rfl, fun h9 => absurd (by rw [← Hl.out, ← Hle.out]; exact h9) hR⟩
    clear hR
    go_wp2_with fail
    go_ret2
    exact ⟨HB.out, fun _ => False, nilS, [], by rw [Hl.out]; rfl, Hlt.out, OwnX.nil, fun b hb => hb.elim⟩
end Sto
end Go.Proofs.YtnnceaapodgfbaaGreatDoor
namespace Go.Proofs.YtnnceaapodgfbaaGreatDoor
open Go.RowKit
theorem setCells_all (g : Nat) (t : TypeId) : ∀ (vs : List Value) (i : Nat) (cur : Array Value) (w : World), w.heap[g]? = some (.cells cur t (0, 0)) → i + vs.length ≤ cur.size →
    ∃ cur', (w.setCells g i vs).heap[g]? = some (.cells cur' t (0, 0)) ∧ cur'.size = cur.size ∧ (∀ j, j < i ∨ i + vs.length ≤ j → cur'[j]? = cur[j]?) ∧ (∀ j u, vs[j]? = some u → cur'[i + j]? = some u) ∧ Touch g w (w.setCells g i vs)
  | [], i, cur, w, hg, _ => ⟨cur, hg, rfl, fun _ _ => rfl, fun j u h => by simp at h, ⟨rfl, rfl, rfl, rfl, fun _ _ => rfl⟩⟩
  | v :: r, i, cur, w, hg, hl => by
    simp only [List.length_cons] at hl
    obtain ⟨h1, h2⟩ := touch_setCell (w := w) (i := i) (v := v) hg
    obtain ⟨cur', g1, g2, g3, g4, g5⟩ := setCells_all g t r (i + 1) _ _ h1 (by simp; omega)
    refine ⟨cur', g1, by simpa using g2, fun j hj => ?_, fun j u hu => ?_, ?_⟩
    · simp only [List.length_cons] at hj
      rw [g3 j (by omega), Array.getElem?_setIfInBounds, if_neg (by omega)]
    · cases j with
      | zero =>
        simp only [List.getElem?_cons_zero, Option.some.injEq] at hu
        subst hu
        rw [Nat.add_zero, g3 i (by omega), Array.getElem?_setIfInBounds, if_pos rfl, if_pos (by omega)]
      | succ j =>
        have := g4 j u (by simpa using hu)
        rwa [show i + 1 + j = i + (j + 1) by omega] at this
    · show Touch g w ((w.setCell ⟨g, i, none⟩ v).setCells g (i + 1) r)
      exact ⟨g5.os.trans h2.os, g5.tape.trans h2.tape, g5.output.trans h2.output, g5.size.trans h2.size, fun b hb => (g5.other b hb).trans (h2.other b hb)⟩
section
variable {α : Type} {R : Rd α} {k B : Nat} {e : TypeId} {w : World} {g n c : Nat} {l : List α}
theorem OwnAt.there (h : OwnAt R k w B e (.slice (some ⟨g, 0, none⟩) n c) l) {o m : Nat} (hm : o + m ≤ c * k) : w.there g o m := by
  obtain ⟨css, h1, h2, h3, h4⟩ := h
  rcases h3.2 with ⟨h5, _⟩ | ⟨g', cap, cur, hv, hB, hh, hle, hmx, hz, ht⟩
  · cases h5
  · cases hv
    intro j hj
    refine ⟨?_, free_block hh _⟩
    rw [cell_block hh, Array.getElem?_eq_getElem (by omega)]
    rfl
theorem OwnAt.behind (hf : Flat R) (h : OwnAt R k w B e (.slice (some ⟨g, 0, none⟩) n c) l) {i : Nat} (hi : i ≤ l.length) {vs : List Value} (hvs : i * k + vs.length ≤ c * k) :
    OwnAt R k (w.setCells g (i * k) vs) B e (.slice (some ⟨g, 0, none⟩) i c) (l.take i) ∧ Touch g w (w.setCells g (i * k) vs) := by
  obtain ⟨css, h1, h2, h3, h4⟩ := h
  rcases h3.2 with ⟨h5, _⟩ | ⟨g', cap, cur, hv, hB, hh, hle, hmx, hz, ht⟩
  · cases h5
  · cases hv
    obtain ⟨cur', g1, g2, g3, g4, g5⟩ := setCells_all g e vs (i * k) cur w hh (by rw [hz]; exact hvs)
    have hik : i * k ≤ l.length * k := Nat.mul_le_mul_right k hi
    have hlk : (l.take i).length = i := by rw [List.length_take]; omega
    have hk2 : ∀ q ∈ css.take i, q.length = k := fun q hq => h2 q (List.mem_of_mem_take hq)
    have hfl : (css.take i).flatten.length = i * k := by rw [flat_len hk2, List.length_take, h1]; congr 1; omega
    have hpre : (css.take i).flatten = css.flatten.take (i * k) := by
      have h7 : css.flatten = (css.take i).flatten ++ (css.drop i).flatten := by rw [← List.flatten_append, List.take_append_drop]
      rw [h7, ← hfl, List.take_left]
    refine ⟨⟨css.take i, by rw [List.length_take, List.length_take, h1], hk2, ?_, fun j q y hq hy => ?_⟩, g5⟩
    · rw [hlk]
      refine ⟨hfl, .inr ⟨g, c, cur', rfl, hB, g1, by omega, hmx, by rw [g2]; exact hz, ?_⟩⟩
      rw [hpre, ← ht]
      apply List.ext_getElem?
      intro t
      by_cases htl : t < i * k
      · rw [List.getElem?_take_of_lt htl, Array.getElem?_toList, g3 t (.inl htl), List.getElem?_take_of_lt htl, List.getElem?_take_of_lt (by omega), Array.getElem?_toList]
      · rw [List.getElem?_eq_none (by rw [List.length_take]; omega), List.getElem?_eq_none (by rw [List.length_take]; omega)]
    · have hj : j < i := by have := (List.getElem?_eq_some_iff.1 hy).1; omega
      rw [List.getElem?_take_of_lt hj] at hq hy
      exact hf _ _ _ _ (h4 j q y hq hy)
end
end Go.Proofs.YtnnceaapodgfbaaGreatDoor
namespace Go.Proofs.YtnnceaapodgfbaaGreatDoor
open Go.RowKit
section
variable {P : Program} {ops : Array Oper} {rest : List Oper} {o : Oper} {a : Act} {w : World} {Q : Exit → Act → World → Prop}
def partPut (old cells : Array Value) (i : Nat) : Array Value := (old.toList.take i ++ (cells.toList ++ old.toList.drop (i + cells.size))).toArray
theorem wpList_store_part (hgd : o.guard = none) (ty : TypeId) (x y : Operand) (ho : o.op = .store ty x y) (g i : Nat) (cells : Array Value) (hx : a.eval x = .pointer (some ⟨g, i, none⟩)) (hy : a.eval y = .agg cells)
    (t : TypeId) (old : Array Value) (hg : w.heap[g]? = some (.cells old t (0, 0))) (hi : (P.info? ty).map (·.size) = some cells.size) (hsz : i + cells.size ≤ old.size) (h1 : cells.all (·.oneCell') = true)
    (h : ∀ W, W.heap[g]? = some (.cells (partPut old cells i) t (0, 0)) → Touch g w W → wpList P ops Q rest (a.put o.dst undef) W) : wpList P ops Q (o :: rest) a w := by
  have ht : w.there g i cells.size := fun j hj => by
    refine ⟨?_, free_block hg _⟩
    rw [cell_block hg, Array.getElem?_eq_getElem (by omega)]
    rfl
  refine wpList_store_mid hgd ty x y ho g i cells hx hy ht hi h1 ?_
  obtain ⟨cur, g1, g2, g3, g4, g5⟩ := setCells_all g t cells.toList i old w hg (by simpa using hsz)
  refine h _ ?_ g5
  rw [g1]
  have : cur = partPut old cells i := by
    apply Array.ext_getElem?
    intro j
    have hlt : (old.toList.take i).length = i := by rw [List.length_take, Array.length_toList]; omega
    have e : (partPut old cells i)[j]? = (old.toList.take i ++ (cells.toList ++ old.toList.drop (i + cells.size)))[j]? := by unfold partPut; simp
    rw [e]
    rcases Nat.lt_or_ge j i with hj | hj
    · rw [g3 j (.inl hj), List.getElem?_append_left (by omega), List.getElem?_take_of_lt hj, Array.getElem?_toList]
    · rw [List.getElem?_append_right (by omega), hlt]
      rcases Nat.lt_or_ge j (i + cells.size) with hk | hk
      · have hk2 : j - i < cells.toList.length := by rw [Array.length_toList]; omega
        rw [List.getElem?_append_left hk2]
        have := g4 (j - i) _ (List.getElem?_eq_getElem hk2)
        rw [show i + (j - i) = j by omega] at this
        rw [this, List.getElem?_eq_getElem hk2]
      · rw [g3 j (.inr (by rw [Array.length_toList]; exact hk)), List.getElem?_append_right (by rw [Array.length_toList]; omega), List.getElem?_drop, Array.length_toList, Array.getElem?_toList]
        congr 1
        omega
  rw [this]
end
theorem row_from {α : Type} {R : Rd α} {k : Nat} {w : World} {a : Option Addr} {c n : Nat} {l : List α} (hk : 0 < k) (h : RowAt R k w (.slice a n c) l) {m : Nat} (hm : m ≤ n) : ∀ ta, (if c = m then a else a.map (·.add (m * k))) = ta → RowAt R k w (.slice ta (n - m) (c - m)) (l.drop m) := by
  rintro ta rfl
  obtain ⟨a', c', e1, h1, h2⟩ := h.len
  injection e1 with _ e1 e2
  subst e1; subst e2
  have hnil : l.length ≤ m → l.drop m = [] := fun h => List.drop_eq_nil_of_le h
  cases a with
  | none =>
    have h0 : l = [] := by
      rcases h with ⟨_, h0⟩ | ⟨_, _, h0, _⟩
      · exact h0
      · cases h0
    subst h0
    have hm0 : m = 0 := by simpa using hm
    subst hm0
    have hc0 : c = 0 := by
      rcases h with ⟨h0, _⟩ | ⟨_, _, h0, _⟩
      · injection h0
      · cases h0
    subst hc0
    exact .inl ⟨rfl, rfl⟩
  | some b =>
    by_cases hc : c = m
    · rw [if_pos hc, hnil (by omega)]
      exact .inr ⟨b, c - m, by rw [show l.length - m = 0 by omega]; rfl, Nat.zero_le _, by omega, fun j x hx => by rw [List.getElem?_nil] at hx; cases hx⟩
    · rw [if_neg hc]
      by_cases h0 : l.length = 0
      · have hm0 : m = 0 := by omega
        subst hm0
        rw [hnil (by omega)]
        exact .inr ⟨_, c - 0, by rw [show l.length - 0 = 0 by omega]; rfl, Nat.zero_le _, by omega, fun j x hx => by rw [List.getElem?_nil] at hx; cases hx⟩
      · obtain ⟨b', o, c', hv, _⟩ := h.form (by omega) hk
        injection hv with e1 e2 e3
        injection e1 with e1
        subst e1
        have h9 := h.cut rfl (i := m) (j := l.length) hm (Nat.le_refl _)
        rw [List.take_length] at h9
        have e : (Addr.add ⟨b', o, none⟩ (m * k)) = ⟨b', o + m * k, none⟩ := by simp [Addr.add]
        show RowAt R k w (.slice (some (Addr.add ⟨b', o, none⟩ (m * k))) (l.length - m) (c - m)) (l.drop m)
        rw [e]
        exact h9
end Go.Proofs.YtnnceaapodgfbaaGreatDoor
namespace Go.Proofs.YtnnceaapodgfbaaGreatDoor
namespace Sto
open Go.RowKit
theorem ev_cells {I : Dom} {w w' : World} {va : Option Addr} {vn vc : Nat} {vs : List GEvent} (h : RowAt (EvX I w) 12 w (.slice va vn vc) vs) (hn : vs.length = vn) (hb : Below w.heap.size w w') {m : Nat} {e : GEvent} (he : vs[m]? = some e) :
    ∃ b o v1 v2 v3, va = some ⟨b, o, none⟩ ∧ ObjIn I w v1 v2 v3 e.object ∧ ∀ i u, (Value.int .i64 e.kind :: .int .i64 e.rev :: objCs e.object v1 v2 v3)[i]? = some u → w'.cell? ⟨b, o + m * 12 + i, none⟩ = some u := by
  have hm := (List.getElem?_eq_some_iff.1 he).1
  obtain ⟨b, o, c', hv, _, _, hbs, hcell⟩ := h.form (by omega) (by omega)
  injection hv with u1 u2 u3
  obtain ⟨ds, _, hcc, v1, v2, v3, rfl, hobj⟩ := hcell m e he
  exact ⟨b, o, v1, v2, v3, u1, hobj, fun i u hu => (hb.cell (p := ⟨b, _, none⟩) hbs).trans (hcc i u hu)⟩
theorem Tryz.sizeEv : (Tryz.prog.info? 56).map (·.size) = some 12 := by kernel_rfl
set_option maxRecDepth 100000 in
set_option maxHeartbeats 6400000 in
theorem since_any {D : Dom} {w : World} {g : Nat} {S : St} (h : StoreAt D w g S) (hS : OkSt S) (rev : Int) :
    Calls Tryz.prog 25 #[.pointer (some ⟨g, 0, none⟩), .int .i64 rev] w fun e w' => Below w.heap.size w w' ∧ ∃ E v, e = .returned (.tuple #[v, .int .i64 (sinceE S rev)]) ∧ OwnX EvX 12 E w' 56 v (sinceL S rev) ∧ ∀ b, E b → w.heap.size ≤ b ∧ b < w'.heap.size := by
  obtain ⟨M, I, mb, nn, f, vlog, hin, hDD⟩ := h
  obtain ⟨n, Hn⟩ : ∃ n, Hid (S.rev = n) := ⟨_, Lib.hid rfl⟩
  obtain ⟨cm, Hcm⟩ : ∃ n, Hid (S.comp = n) := ⟨_, Lib.hid rfl⟩
  have hln : S.log.length = n := Hn.out
  have hrow := hin.log.row
  obtain ⟨la, lc, hvl, -, -⟩ := hrow.len
  rw [hln] at hvl
  subst hvl
  have HR := Lib.hid hrow
  have hbox := hin.box
  rw [Hn.out, Hcm.out] at hbox
  have BX := Lib.hid hbox
  have HS := Lib.hid hS
  have hnl : n ≤ 4194304 := by rw [← Hn.out]; exact hS.rev
  have Hln := Lib.hid hln
  have cg := fun i => cell_block BX.out i
  clear hin hDD hrow hbox hS hln
  go_enter Tryz.func25, Tryz.ntmps25
  by_cases h1 : rev < 0
  · have He : Hid (sinceE S rev = 1) := Lib.hid (by unfold sinceE; rw [if_pos (.inl h1)])
    have Hl : Hid (sinceL S rev = []) := Lib.hid (by unfold sinceL; rw [He.out]; rfl)
    rw [He.out, Hl.out]
    have q1 : decide (rev < 0) = true := decide_eq_true h1
    clear h1
    go_wp2_with fail
    go_ret2
    exact ⟨Below.refl _ _, fun _ => False, nilS, rfl, OwnX.nil, fun b hb => hb.elim⟩
  · obtain ⟨r, rfl⟩ : ∃ r : Nat, rev = r := ⟨rev.toNat, by omega⟩
    by_cases h2 : (n : Int) < (r : Int)
    · have He : Hid (sinceE S r = 1) := Lib.hid (by unfold sinceE; rw [if_pos (.inr (by rw [Hn.out]; exact h2))])
      have Hl : Hid (sinceL S r = []) := Lib.hid (by unfold sinceL; rw [He.out]; rfl)
      rw [He.out, Hl.out]
      have q1 : decide ((r : Int) < 0) = false := decide_eq_false h1
      have q2 : decide (n < r) = true := decide_eq_true (by omega)
      clear h1 h2
      go_wp2_with fail
      go_ret2
      exact ⟨Below.refl _ _, fun _ => False, nilS, rfl, OwnX.nil, fun b hb => hb.elim⟩
    · by_cases h3 : (r : Int) < cm
      · have He : Hid (sinceE S r = 13) := Lib.hid (by unfold sinceE; rw [if_neg (by rw [Hn.out]; omega), if_pos (by rw [Hcm.out]; exact h3)])
        have Hl : Hid (sinceL S r = []) := Lib.hid (by unfold sinceL; rw [He.out]; rfl)
        rw [He.out, Hl.out]
        have q1 : decide ((r : Int) < 0) = false := decide_eq_false h1
        have q2 : decide (n < r) = false := decide_eq_false (by omega)
        have q3 : decide ((r : Int) < cm) = true := decide_eq_true h3
        clear h1 h2 h3
        go_wp2_with fail
        go_ret2
        exact ⟨Below.refl _ _, fun _ => False, nilS, rfl, OwnX.nil, fun b hb => hb.elim⟩
      · have He : Hid (sinceE S r = 0) := Lib.hid (by unfold sinceE; rw [if_neg (by rw [Hn.out]; omega), if_neg (by rw [Hcm.out]; exact h3)])
        obtain ⟨L, HL⟩ : ∃ L, Hid (sinceL S r = L) := ⟨_, Lib.hid rfl⟩
        have HLd : Hid (S.log.drop r = L) := Lib.hid (by rw [← HL.out]; unfold sinceL; rw [He.out, if_pos rfl]; rfl)
        rw [He.out, HL.out]
        have q1 : decide ((r : Int) < 0) = false := decide_eq_false h1
        have q2 : decide (n < r) = false := decide_eq_false (by omega)
        have q3 : decide ((r : Int) < cm) = false := decide_eq_false h3
        have hrn : r ≤ n := by omega
        obtain ⟨ta, hta⟩ : ∃ ta, (if lc = r then la else la.map (·.add (r * 12))) = ta := ⟨_, rfl⟩
        have HT := Lib.hid (row_from (by decide) HR.out hrn ta hta)
        rw [HLd.out] at HT
        obtain ⟨m, hm⟩ : ∃ m, n - r = m := ⟨_, rfl⟩
        obtain ⟨tc, htc⟩ : ∃ m, lc - r = m := ⟨_, rfl⟩
        rw [hm, htc] at HT
        have HLn : Hid (L.length = m) := Lib.hid (by rw [← HLd.out, List.length_drop, Hln.out]; exact hm)
        have h0r : (0 : Int) ≤ (r : Int) := by omega
        have hrn' : (r : Int) ≤ (n : Int) := by omega
        clear h1 h2 h3
        go_upto_region 7 with fail
        have HB0 := Lib.hid (Below.refl w.heap.size w)
        have hml : m ≤ 4194304 := by omega
        clear q1 q2 q3 hta hm htc h0r hrn' cg hrn
        go_loopg [6, 34] m (fun k u6 u34 wr => ∃ i : Nat, i + k = m ∧ u34 = .int .i64 (i : Int) ∧ Hid (OutX EvX 12 w.heap.size wr 56 u6 (L.take i)) ∧ Hid (Below w.heap.size w wr))
        case atStart => exact ⟨0, by omega, rfl, Lib.hid OutX.nil, HB0⟩
        case round =>
          clear HB0
          obtain ⟨i, hik, rfl, HO, HB⟩ := hrel
          cases gk with
          | zero =>
            obtain rfl : m = i := by omega
            have HO9 : Hid (OutX EvX 12 w.heap.size wr 56 u6 L) := Lib.hid (by have h9 := HO.out; rw [← HLn.out, List.take_length] at h9; exact h9)
            go_wp2_with fail
            go_ret2
            exact ⟨HB.out, _, _, rfl, HO9.out.own famEv, fun b hb => hb⟩
          | succ k =>
            have hil : i < m := by omega
            obtain ⟨x, hx⟩ : ∃ x, L[i]? = some x := ⟨L[i]'(by rw [HLn.out]; exact hil), List.getElem?_eq_getElem _⟩
            obtain ⟨b, o, v1, v2, v3, hva, hobj, ec⟩ := ev_cells HT.out HLn.out HB.out hx
            subst hva
            obtain ⟨a1, c1, rfl, -, -⟩ := hobj.rowL.len
            obtain ⟨a2, c2, rfl, -, -⟩ := hobj.rowO.row.len
            obtain ⟨a3, c3, rfl, -, -⟩ := hobj.rowH.row.len
            obtain ⟨n1, Hn1⟩ : ∃ n, Hid (x.object.labels.length = n) := ⟨_, Lib.hid rfl⟩
            obtain ⟨n2, Hn2⟩ : ∃ n, Hid (x.object.owners.length = n) := ⟨_, Lib.hid rfl⟩
            obtain ⟨n3, Hn3⟩ : ∃ n, Hid (x.object.holds.length = n) := ⟨_, Lib.hid rfl⟩
            rw [Hn1.out, Hn2.out, Hn3.out] at hobj ec
            have f0 := ec 0 _ rfl
            have f1 := ec 1 _ rfl
            have f2 := ec 2 _ rfl
            have f3 := ec 3 _ rfl
            have f4 := ec 4 _ rfl
            have f5 := ec 5 _ rfl
            have f6 := ec 6 _ rfl
            have f7 := ec 7 _ rfl
            have f8 := ec 8 _ rfl
            have f9 := ec 9 _ rfl
            have f10 := ec 10 _ rfl
            have f11 := ec 11 _ rfl
            rw [Nat.add_zero] at f0
            have q1 : (0 : Int) ≤ (i : Int) := by omega
            have q2 : (i : Int) < (m : Int) := by omega
            have Hx := Lib.hid hx
            have Hok : Hid (OkObj x.object) := Lib.hid (HS.out.obj x (by have h9 := List.mem_of_getElem? hx; rw [← HLd.out] at h9; exact List.mem_of_mem_drop h9))
            have Hobj := Lib.hid hobj
            have H7 := Lib.hid (heap_alloc_new wr (.cells #[.int .i64 0, .int .i64 0, .string { data := #[] }, .string { data := #[] }, .string { data := #[] }, .slice none 0 0, .slice none 0 0, .slice none 0 0, .bool false, .string { data := #[] }, .int .i64 0, .string { data := #[] }] 56))
            have hb4 := Lib.hid ((Below.refl wr.heap.size wr).alloc (Nat.le_refl _) (.cells #[.int .i64 0, .int .i64 0, .string { data := #[] }, .string { data := #[] }, .string { data := #[] }, .slice none 0 0, .slice none 0 0, .slice none 0 0, .bool false, .string { data := #[] }, .int .i64 0, .string { data := #[] }] 56))
            have hs4 : Hid ((wr.alloc (.cells #[.int .i64 0, .int .i64 0, .string { data := #[] }, .string { data := #[] }, .string { data := #[] }, .slice none 0 0, .slice none 0 0, .slice none 0 0, .bool false, .string { data := #[] }, .int .i64 0, .string { data := #[] }] 56)).heap.size = wr.heap.size + 1) := Lib.hid (World.size_alloc _ _)
            clear hx ec hobj
            go_wp2_with (refine wpList_store_box (by rfl) _ _ _ (by rfl) wr.heap.size #[.int .i64 x.kind, .int .i64 x.rev, .string x.object.okey.kind, .string x.object.okey.space, .string x.object.okey.name, .slice a1 n1 c1, .slice a2 n2 c2, .slice a3 n3 c3, .bool x.object.ending, .string x.object.uid, .int .i64 x.object.rev, .string x.object.doc] (by rfl) (by rfl) _ _ (by exact H7.out) (by exact Tryz.sizeEv) (by rfl) (by simp [Value.oneCell']) ?_)
            intro w5 b5 t5
            have hb5 : Below wr.heap.size wr w5 := t5.below hb4.out (Nat.le_refl _)
            have hs5 : w5.heap.size = wr.heap.size + 1 := t5.size.trans hs4.out
            obtain ⟨ge, hge⟩ : ∃ ge, wr.heap.size = ge := ⟨_, rfl⟩
            rw [hge] at b5 ⊢
            have hgl : ge < w5.heap.size := by omega
            have hgw : w.heap.size ≤ ge := by rw [← hge]; exact HB.out.size
            have B5 := Lib.hid b5
            have HB5 := Lib.hid (HB.out.trans (hb5.mono HB.out.size))
            have HC5 : Hid (Below ge wr w5) := Lib.hid (by rw [← hge]; exact hb5)
            have hgr : wr.heap.size = ge := hge
            have HOw : Hid (∀ b, u6.ownBlock = some b → b < ge) := Lib.hid fun b hb => by rw [← hge]; exact (HO.out.at hb).2
            have HCo := Lib.hid (copyO_any (hobj9 Hobj.out HB5.out) Hok.out)
            rw [show objW x.object (.slice a1 n1 c1) (.slice a2 n2 c2) (.slice a3 n3 c3) = .agg (objCs x.object (.slice a1 n1 c1) (.slice a2 n2 c2) (.slice a3 n3 c3)).toArray from rfl] at HCo
            unfold objCs at HCo
            clear b5 t5 hb5 hb4 hs4 H7 HB f0 f1 f2 f3 f4 f5 f6 f7 f8 f9 f10 f11
            have ce := fun i => cell_block B5.out i
            go_wp2_with fail
            refine HCo.out.mono ?_
            rintro E w6 ⟨D3, u1, u2, u3, rfl, k1, k2, hb6⟩
            obtain ⟨b1, d1, rfl, -, -⟩ := k1.rowL.len
            obtain ⟨b2, d2, rfl, -, -⟩ := k1.rowO.row.len
            obtain ⟨b3, d3, rfl, -, -⟩ := k1.rowH.row.len
            rw [Hn1.out, Hn2.out, Hn3.out] at k1 ⊢
            have B6 := Lib.hid (below_block hb6 B5.out)
            have HB6 := Lib.hid (HB5.out.trans (hb6.mono HB5.out.size))
            have HC6 : Hid (Below ge wr w6) := Lib.hid (HC5.out.trans (hb6.mono (by omega)))
            have hs6 := hb6.size
            have K1 := Lib.hid k1
            have K2 := Lib.hid k2
            clear k1 k2 hb6 HCo HB5 HC5 ce B5
            rw [show objW x.object (.slice b1 n1 d1) (.slice b2 n2 d2) (.slice b3 n3 d3) = .agg #[.string x.object.okey.kind, .string x.object.okey.space, .string x.object.okey.name, .slice b1 n1 d1, .slice b2 n2 d2, .slice b3 n3 d3, .bool x.object.ending, .string x.object.uid, .int .i64 x.object.rev, .string x.object.doc] from rfl]
            simp only []
            go_at_K
            refine at_last (by assumption) ?_
            iterate 3 go_step
            refine wpList_store_part (by rfl) _ _ _ (by rfl) ge 2 #[.string x.object.okey.kind, .string x.object.okey.space, .string x.object.okey.name, .slice b1 n1 d1, .slice b2 n2 d2, .slice b3 n3 d3, .bool x.object.ending, .string x.object.uid, .int .i64 x.object.rev, .string x.object.doc] (by rfl) (by rfl) _ #[.int .i64 x.kind, .int .i64 x.rev, .string x.object.okey.kind, .string x.object.okey.space, .string x.object.okey.name, .slice a1 n1 c1, .slice a2 n2 c2, .slice a3 n3 c3, .bool x.object.ending, .string x.object.uid, .int .i64 x.object.rev, .string x.object.doc] (by exact B6.out) (by exact Tryz.sizeObj) (by exact (by decide : 2 + 10 ≤ 12)) (by simp [Value.oneCell']) ?_
            intro w7 b7 t7
            have B7 : Hid (w7.heap[ge]? = some (.cells #[.int .i64 x.kind, .int .i64 x.rev, .string x.object.okey.kind, .string x.object.okey.space, .string x.object.okey.name, .slice b1 n1 d1, .slice b2 n2 d2, .slice b3 n3 d3, .bool x.object.ending, .string x.object.uid, .int .i64 x.object.rev, .string x.object.doc] 56 (0, 0))) := Lib.hid b7
            have HC7 : Hid (Below ge wr w7) := Lib.hid (t7.below HC6.out (Nat.le_refl _))
            have hs7 : w7.heap.size = w6.heap.size := t7.size
            have KA : Hid (ObjIn D3 w7 (.slice b1 n1 d1) (.slice b2 n2 d2) (.slice b3 n3 d3) x.object) := Lib.hid (K1.out.agree fun b hb => t7.other b (by have := (K2.out b hb).1; omega))
            have cf := fun i => cell_block B7.out i
            obtain ⟨gl, hgz⟩ : ∃ gl, w7.heap.size = gl := ⟨_, rfl⟩
            obtain ⟨w8, hw8⟩ : ∃ w8, w8 = w7.alloc (.cells #[.int .i64 x.kind, .int .i64 x.rev, .string x.object.okey.kind, .string x.object.okey.space, .string x.object.okey.name, .slice b1 n1 d1, .slice b2 n2 d2, .slice b3 n3 d3, .bool x.object.ending, .string x.object.uid, .int .i64 x.object.rev, .string x.object.doc] 56) := ⟨_, rfl⟩
            have hb8 : Below w7.heap.size w7 w8 := by rw [hw8]; exact (Below.refl _ w7).alloc (Nat.le_refl _) _
            have hs8 : w8.heap.size = w7.heap.size + 1 := by rw [hw8, World.size_alloc]
            have HC8 : Hid (Below ge wr w8) := Lib.hid (HC7.out.trans (hb8.mono (by omega)))
            have HB8 : Hid (Below w.heap.size w w8) := Lib.hid (HB6.out.trans ((t7.below (Below.refl ge w6) (Nat.le_refl _)).mono (by omega) |>.trans (hb8.mono (by omega))))
            have HO8 : Hid (OutX EvX 12 w.heap.size w8 56 u6 (L.take i)) := Lib.hid (HO.out.agreeX famEv (by omega) fun b h1 h2 => HC8.out.block b (by omega))
            have HRow : Hid (RowAt (EvX (OutD w.heap.size w8 u6) w8) 12 w8 (.slice (some ⟨gl, 0, none⟩) 1 1) [x]) := Lib.hid (RowAt.one (R := (EvX (OutD w.heap.size w8 u6) w8)) (k := 12) (cs := #[.int .i64 x.kind, .int .i64 x.rev, .string x.object.okey.kind, .string x.object.okey.space, .string x.object.okey.name, .slice b1 n1 d1, .slice b2 n2 d2, .slice b3 n3 d3, .bool x.object.ending, .string x.object.uid, .int .i64 x.object.rev, .string x.object.doc]) (x := x) (by rw [hw8, ← hgz]; exact heap_alloc_new w7 _) rfl ⟨_, _, _, rfl, (KA.out.agree fun b hb => hb8.block b (by have := (K2.out b hb).2; omega)).mono fun b hb => ⟨by have := (K2.out b hb).1; omega, by have := (K2.out b hb).2; omega, fun e9 => by have := HOw.out b e9; have := (K2.out b hb).1; omega⟩⟩)
            have hbase : w.heap.size ≤ w8.heap.size := by omega
            have htl : Hid ((L.take i).length = i) := Lib.hid (by rw [List.length_take, HLn.out]; omega)
            have hL1 : Hid (L.take i ++ [x] = L.take (i + 1)) := Lib.hid (take_snoc Hx.out).symm
            obtain ⟨i0, hi0, hy0, hy1, hy2⟩ := info_parts Tryz.infoEv
            have hs9 : w6.heap.size ≤ gl := by omega
            have hsl : w8.heap.size = gl + 1 := by omega
            clear b7 t7 K1 K2 KA hb8 HC6 HC7 HB6 HO hs7 hs8
            go_wp2_with (at_builtin; rw [← hw8]; refine wpList_append_ownAt (R := (EvX (OutD w.heap.size w8 u6) w8)) (k := 12) (e := 56) (B := w.heap.size) (l := L.take i) (m := [x]) _ (by rfl) _ _ _ (by rfl) i0 _ 184 Tryz.underlying51 hi0 hy0 hy1 hy2 rfl (by omega) (famEv.flat _ _) (famEv.one _ _) _ (by rfl) HO8.out _ (by rfl) HRow.out (by rw [htl.out, List.length_singleton]; unfold maxLen; omega) (by rw [htl.out, List.length_singleton]; omega) hbase ?_)
            intro v' w9 q1 q2 q3 q4
            rw [← hw8] at q1 q2
            rw [show gl + 1 = w8.heap.size from hsl.symm] at q4
            have HO9 := Lib.hid (OutX.appended famEv q1 q2 q4)
            rw [hL1.out] at HO9
            have HB9 := Lib.hid (HB8.out.grown q2 hbase q3)
            clear q1 q2 q3 q4 cf HO8 HRow HB8 HC8 B7 B6 hw8
            go_wp2_with fail
            go_roundg k
            case measure => omega
            case rel => exact ⟨i + 1, by omega, by go_num, HO9, HB9⟩
end Sto
end Go.Proofs.YtnnceaapodgfbaaGreatDoor
namespace Go.Proofs.YtnnceaapodgfbaaGreatDoor
open Go.RowKit
theorem eqS_no {l m : List ByteArray} {i : Nat} {x y : ByteArray} (hx : l[i]? = some x) (hy : m[i]? = some y) (h : x ≠ y) : decide (l = m) = false := by
  rw [decide_eq_false_iff_not]
  intro e
  subst e
  rw [hx] at hy
  cases hy
  exact h rfl
theorem eqS_yes {l m : List ByteArray} (h : l.length = m.length) (k : ∀ (i : Nat) (x y : ByteArray), i < l.length → l[i]? = some x → m[i]? = some y → x = y) : decide (l = m) = true := by
  rw [decide_eq_true_iff]
  apply List.ext_getElem h
  intro i hi hj
  exact k i _ _ hi (List.getElem?_eq_getElem hi) (List.getElem?_eq_getElem hj)
set_option maxRecDepth 100000 in
set_option maxHeartbeats 800000 in
theorem eqStrs_any (v1 v2 : Value) (l m : List ByteArray) (w : World) (h1 : StrAt w v1 l) (h2 : StrAt w v2 m) (hl : l.length ≤ 8388608) (hm : m.length ≤ 8388608) :
    Calls Tryz.prog 59 #[v1, v2] w fun e w' => e = .returned (.bool (decide (l = m))) ∧ w = w' := by
  obtain ⟨a1, c1, rfl, _, _⟩ := h1.len
  obtain ⟨a2, c2, rfl, _, _⟩ := h2.len
  have H1 := Lib.hid h1
  have H2 := Lib.hid h2
  clear h1 h2
  by_cases hlen : l.length = m.length
  · have q1 : ((l.length : Int) != (m.length : Int)) = false := by rw [bne_eq_false_iff_eq]; omega
    have Hlen := Lib.hid hlen
    clear hlen
    go_enter Tryz.func59, Tryz.ntmps59
    go_wp2_with fail
    clear q1
    go_loopg [14] l.length (fun g u14 wr => ∃ i : Nat, i + g = l.length ∧ u14 = .int .i64 (i : Int) ∧ Hid (∀ (k : Nat) (x y : ByteArray), k < i → l[k]? = some x → m[k]? = some y → x = y) ∧ w = wr)
    case atStart => exact ⟨0, by omega, rfl, Lib.hid (fun k _ _ hk => by omega), rfl⟩
    case round =>
      obtain ⟨i, hig, rfl, Hall, rfl⟩ := hrel
      cases gk with
      | zero =>
        obtain rfl : i = l.length := by omega
        have Hyes : Hid (decide (l = m) = true) := eqS_yes Hlen.out fun k x y hk hx hy => Hall.out k x y hk hx hy
        go_wp2_with fail
        go_ret
        exact ⟨congrArg (fun b => Ending.returned (Value.bool b)) Hyes.out.symm, rfl⟩
      | succ g =>
        have hil : i < l.length := by omega
        have him : i < m.length := by have := Hlen.out; omega
        obtain ⟨x, hx⟩ : ∃ x, l[i]? = some x := ⟨l[i]'(by omega), List.getElem?_eq_getElem _⟩
        obtain ⟨y, hy⟩ : ∃ y, m[i]? = some y := ⟨m[i]'(by omega), List.getElem?_eq_getElem _⟩
        obtain ⟨b, o, c', hv, _, _, hbs, hcell⟩ := H1.out.form (by omega)
        injection hv with u1 u2 u3
        subst u1
        clear u2 u3
        obtain ⟨b', o', c'', hv, _, _, hbs', hcell'⟩ := H2.out.form (by omega)
        injection hv with u1 u2 u3
        subst u1
        clear u2 u3
        have e0 : w.cell? ⟨b, o + i, none⟩ = some (.string x) := hcell i x hx
        have f0 : w.cell? ⟨b', o' + i, none⟩ = some (.string y) := hcell' i y hy
        have q1 : (0 : Int) ≤ (i : Int) := by omega
        have q2 : (i : Int) < (l.length : Int) := by omega
        have q3 : (i : Int) < (m.length : Int) := by omega
        have Hx := Lib.hid hx
        have Hy := Lib.hid hy
        clear hcell hcell' hx hy
        by_cases he : x = y
        · have Hall2 : Hid (∀ (k : Nat) (x y : ByteArray), k < i + 1 → l[k]? = some x → m[k]? = some y → x = y) := Lib.hid fun k x' y' hk hx' hy' => by
            rcases Nat.lt_or_ge k i with h | h
            · exact Hall.out k x' y' h hx' hy'
            · obtain rfl : k = i := by omega
              have a := Hx.out; have b := Hy.out
              rw [a] at hx'; rw [b] at hy'
              cases hx'; cases hy'
              exact he
          have q4 : (x.toList == y.toList) = true := by rw [he]; simp
          clear he
          go_wp2_with fail
          go_roundg g
          case measure => omega
          case rel => exact ⟨i + 1, by omega, by go_num, Hall2, rfl⟩
        · have Hno : Hid (decide (l = m) = false) := Lib.hid (eqS_no Hx.out Hy.out he)
          have q4 : (x.toList == y.toList) = false := by rw [beq_eq_false_iff_ne]; exact fun h => he (toList_inj h)
          clear he
          go_wp2_with fail
          go_ret
          exact ⟨congrArg (fun b => Ending.returned (Value.bool b)) Hno.out.symm, rfl⟩
  · have q1 : ((l.length : Int) != (m.length : Int)) = true := by rw [bne_iff_ne]; omega
    have Hno : Hid (decide (l = m) = false) := by show _ = _; rw [decide_eq_false_iff_not]; exact fun h => hlen (congrArg _ h)
    clear hlen
    go_enter Tryz.func59, Tryz.ntmps59
    go_wp2_with fail
    go_ret
    exact ⟨congrArg (fun b => Ending.returned (Value.bool b)) Hno.out.symm, rfl⟩
end Go.Proofs.YtnnceaapodgfbaaGreatDoor
namespace Go.Proofs.YtnnceaapodgfbaaGreatDoor
namespace Sto
open Go.RowKit
theorem below_drewN2 {B : Nat} {a w : World} (h : Below B a w) (n : Nat) : Below B a (w.drewN n) := ⟨h.os, h.tape, h.output, h.size, h.block⟩
theorem Tryz.fieldsLabQ : Tryz.prog.underlying 66 = some (.struct (Tryz.prog.fieldsOf 66)) := by kernel_rfl
theorem Tryz.heldLabQ : Tryz.prog.stoodInHeld 66 = false := by kernel_rfl
theorem run_neqLab (a b : ByteArray) (w : World) : (binOp .neq 66 (.agg #[.string a, .string b]) (.agg #[.string a, .string b])).run Tryz.prog w = .ok (.bool false) w := by
  rw [run_neq_struct, run_equalIn_agg w 9999 _ _ _ Tryz.fieldsLabQ Tryz.heldLabQ]
  simp [Op.eqFields, Program.fieldsOf, Tryz.underlying66]
  go_simp
set_option maxRecDepth 100000 in
set_option maxHeartbeats 1600000 in
theorem eqLab_yes (v1 v2 : Value) (l : List GLabel) (w : World) (h1 : RowAt LabelR 2 w v1 l) (h2 : RowAt LabelR 2 w v2 l) (hl : l.length ≤ 1048576) :
    Calls Tryz.prog 58 #[v1, v2] w fun e w' => e = .returned (.bool true) ∧ Below w.heap.size w w' := by
  obtain ⟨a1, c1, rfl, _, _⟩ := h1.len
  obtain ⟨a2, c2, rfl, _, _⟩ := h2.len
  have H1 := Lib.hid h1
  have H2 := Lib.hid h2
  clear h1 h2
  have q1 : ((l.length : Int) != (l.length : Int)) = false := by rw [bne_eq_false_iff_eq]
  go_enter Tryz.func58, Tryz.ntmps58
  go_wp2_with fail
  clear q1
  go_loopg [14] l.length (fun g u14 wr => ∃ i : Nat, i + g = l.length ∧ u14 = .int .i64 (i : Int) ∧ Below w.heap.size w wr)
  case atStart => exact ⟨0, by omega, rfl, Below.refl _ _⟩
  case round =>
    obtain ⟨i, hig, rfl, hbel⟩ := hrel
    cases gk with
    | zero =>
      obtain rfl : i = l.length := by omega
      go_wp2_with fail
      go_ret
      exact ⟨rfl, hbel⟩
    | succ g =>
      have hil : i < l.length := by omega
      obtain ⟨x, hx⟩ : ∃ x, l[i]? = some x := ⟨l[i]'(by omega), List.getElem?_eq_getElem _⟩
      obtain ⟨b, o, c', hv, _, _, hbs, hcell⟩ := H1.out.form (by omega) (by omega)
      cases hv
      obtain ⟨cs, _, hcc, hR⟩ := hcell i x hx
      obtain rfl : cs = [.string x.key, .string x.val] := hR
      obtain ⟨b', o', c'', hv, _, _, hbs', hcell'⟩ := H2.out.form (by omega) (by omega)
      cases hv
      obtain ⟨cs', _, hcc', hR'⟩ := hcell' i x hx
      obtain rfl : cs' = [.string x.key, .string x.val] := hR'
      have e0 : wr.cell? ⟨b, o + i * 2, none⟩ = some (.string x.key) := (hbel.cell (p := ⟨b, _, none⟩) hbs).trans (by simpa using hcc 0 _ rfl)
      have e1 : wr.cell? ⟨b, o + i * 2 + 1, none⟩ = some (.string x.val) := (hbel.cell (p := ⟨b, _, none⟩) hbs).trans (hcc 1 _ rfl)
      have f0 : wr.cell? ⟨b', o' + i * 2, none⟩ = some (.string x.key) := (hbel.cell (p := ⟨b', _, none⟩) hbs').trans (by simpa using hcc' 0 _ rfl)
      have f1 : wr.cell? ⟨b', o' + i * 2 + 1, none⟩ = some (.string x.val) := (hbel.cell (p := ⟨b', _, none⟩) hbs').trans (hcc' 1 _ rfl)
      have hbs2 : b' < wr.heap.size := by have := hbel.size; omega
      have q1 : (0 : Int) ≤ (i : Int) := by omega
      have q2 : (i : Int) < (l.length : Int) := by omega
      have hne := run_neqLab x.key x.val
      have Hbel : ∀ o : Obj, Hid (Below w.heap.size w (wr.alloc o)) := fun o => Lib.hid (hbel.alloc hbel.size o)
      clear hcc hcc' hcell hcell' hx hbel
      go_wp2_with fail
      go_quiet (fail)
      go_wp2_with fail
      go_roundg g
      case measure => omega
      case rel => exact ⟨i + 1, by omega, by go_num, below_drewN2 (Hbel _).out _⟩
theorem Tryz.fieldsKeyQ : Tryz.prog.underlying 24 = some (.struct (Tryz.prog.fieldsOf 24)) := by kernel_rfl
theorem Tryz.heldKeyQ : Tryz.prog.stoodInHeld 24 = false := by kernel_rfl
theorem run_eqKey (a b c : ByteArray) (w : World) : (binOp .eql 24 (.agg #[.string a, .string b, .string c]) (.agg #[.string a, .string b, .string c])).run Tryz.prog w = .ok (.bool true) w := by
  rw [run_eql_struct, run_equalIn_agg w 9999 _ _ _ Tryz.fieldsKeyQ Tryz.heldKeyQ]
  simp [Op.eqFields, Program.fieldsOf, Tryz.underlying24]
  go_simp
set_option maxRecDepth 100000 in
set_option maxHeartbeats 3200000 in
theorem sameObj_yes (o : GObject) (v1 v2 v3 z1 z2 z3 : Value) (w : World) (hl : RowAt LabelR 2 w v1 o.labels) (ho : StrAt w v2 o.owners) (hh : StrAt w v3 o.holds) (kl : RowAt LabelR 2 w z1 o.labels) (ko : StrAt w z2 o.owners) (kh : StrAt w z3 o.holds) (hok : OkObj o) :
    Calls Tryz.prog 19 #[objW o v1 v2 v3, objW o z1 z2 z3] w fun e w' => e = .returned (.bool true) ∧ Below w.heap.size w w' := by
  obtain ⟨a1, c1, rfl, -, -⟩ := hl.len
  obtain ⟨a2, c2, rfl, -, -⟩ := ho.row.len
  obtain ⟨a3, c3, rfl, -, -⟩ := hh.row.len
  obtain ⟨b1, d1, rfl, -, -⟩ := kl.len
  obtain ⟨b2, d2, rfl, -, -⟩ := ko.row.len
  obtain ⟨b3, d3, rfl, -, -⟩ := kh.row.len
  obtain ⟨n1, Hn1⟩ : ∃ n, Hid (o.labels.length = n) := ⟨_, Lib.hid rfl⟩
  obtain ⟨n2, Hn2⟩ : ∃ n, Hid (o.owners.length = n) := ⟨_, Lib.hid rfl⟩
  obtain ⟨n3, Hn3⟩ : ∃ n, Hid (o.holds.length = n) := ⟨_, Lib.hid rfl⟩
  rw [Hn1.out] at hl kl ⊢
  rw [Hn2.out] at ho ko ⊢
  rw [Hn3.out] at hh kh ⊢
  have bl := hok.labels.1
  have bo := hok.owners.1
  have bh := hok.holds.1
  obtain ⟨w1, hw1⟩ : ∃ w1, w1 = (w.alloc (.cells #[.string o.okey.kind, .string o.okey.space, .string o.okey.name, .slice a1 n1 c1, .slice a2 n2 c2, .slice a3 n3 c3, .bool o.ending, .string o.uid, .int .i64 o.rev, .string o.doc] 30)).alloc (.cells #[.string o.okey.kind, .string o.okey.space, .string o.okey.name, .slice b1 n1 d1, .slice b2 n2 d2, .slice b3 n3 d3, .bool o.ending, .string o.uid, .int .i64 o.rev, .string o.doc] 30) := ⟨_, rfl⟩
  obtain ⟨ga, hga⟩ : ∃ ga, ga = w.heap.size := ⟨_, rfl⟩
  obtain ⟨gb, hgb⟩ : ∃ gb, gb = w.heap.size + 1 := ⟨_, rfl⟩
  have XA : Hid (w1.heap[ga]? = some (.cells #[.string o.okey.kind, .string o.okey.space, .string o.okey.name, .slice a1 n1 c1, .slice a2 n2 c2, .slice a3 n3 c3, .bool o.ending, .string o.uid, .int .i64 o.rev, .string o.doc] 30 (0, 0))) := Lib.hid (by rw [hw1, hga]; exact heap_alloc_old (heap_alloc_new w _))
  have XB : Hid (w1.heap[gb]? = some (.cells #[.string o.okey.kind, .string o.okey.space, .string o.okey.name, .slice b1 n1 d1, .slice b2 n2 d2, .slice b3 n3 d3, .bool o.ending, .string o.uid, .int .i64 o.rev, .string o.doc] 30 (0, 0))) := Lib.hid (by rw [hw1, hgb]; exact heap_alloc_at (World.size_alloc _ _).symm)
  have hb1 : Below w.heap.size w w1 := by rw [hw1]; exact ((Below.refl _ w).alloc (Nat.le_refl _) _).alloc (by rw [World.size_alloc]; omega) _
  have HB := Lib.hid hb1
  have E1 := fun w' (hb : Below w1.heap.size w1 w') => Lib.hid (eqLab_yes (.slice a1 n1 c1) (.slice b1 n1 d1) o.labels w' (hl.below stays_label (hb1.trans (hb.mono hb1.size))) (kl.below stays_label (hb1.trans (hb.mono hb1.size))) bl)
  have E2 : ∀ w', Below w1.heap.size w1 w' → Hid (Calls Tryz.prog 59 #[.slice a2 n2 c2, .slice b2 n2 d2] w' fun e w'' => e = .returned (.bool true) ∧ w' = w'') := fun w' hb => Lib.hid (by
    have h9 := eqStrs_any (.slice a2 n2 c2) (.slice b2 n2 d2) o.owners o.owners w' (ho.below (hb1.trans (hb.mono hb1.size))) (ko.below (hb1.trans (hb.mono hb1.size))) (by omega) (by omega)
    rw [decide_eq_true rfl] at h9; exact h9)
  have E3 : ∀ w', Below w1.heap.size w1 w' → Hid (Calls Tryz.prog 59 #[.slice a3 n3 c3, .slice b3 n3 d3] w' fun e w'' => e = .returned (.bool true) ∧ w' = w'') := fun w' hb => Lib.hid (by
    have h9 := eqStrs_any (.slice a3 n3 c3) (.slice b3 n3 d3) o.holds o.holds w' (hh.below (hb1.trans (hb.mono hb1.size))) (kh.below (hb1.trans (hb.mono hb1.size))) (by omega) (by omega)
    rw [decide_eq_true rfl] at h9; exact h9)
  have hk := run_eqKey o.okey.kind o.okey.space o.okey.name
  clear hl ho hh kl ko kh hok bl bo bh hb1
  rw [show objW o (.slice a1 n1 c1) (.slice a2 n2 c2) (.slice a3 n3 c3) = .agg #[.string o.okey.kind, .string o.okey.space, .string o.okey.name, .slice a1 n1 c1, .slice a2 n2 c2, .slice a3 n3 c3, .bool o.ending, .string o.uid, .int .i64 o.rev, .string o.doc] from rfl, show objW o (.slice b1 n1 d1) (.slice b2 n2 d2) (.slice b3 n3 d3) = .agg #[.string o.okey.kind, .string o.okey.space, .string o.okey.name, .slice b1 n1 d1, .slice b2 n2 d2, .slice b3 n3 d3, .bool o.ending, .string o.uid, .int .i64 o.rev, .string o.doc] from rfl]
  go_enter Tryz.func19, Tryz.ntmps19
  go_upto_region 1 with fail
  rw [← hw1]
  try rw [← hgb]
  rw [← hga]
  clear hw1 hga hgb
  have ca := fun i => cell_block XA.out i
  have cb := fun i => cell_block XB.out i
  go_wp2_with fail
  refine (E1 w1 (Below.refl _ _)).out.mono ?_
  rintro E w2 ⟨rfl, hb2⟩
  have A2 := Lib.hid (below_block hb2 XA.out)
  have B2 := Lib.hid (below_block hb2 XB.out)
  have HB2 := Lib.hid (HB.out.trans (hb2.mono HB.out.size))
  have F2 := E2 w2 hb2
  have F3 := E3 w2 hb2
  clear hb2 ca cb E1 E2 E3 XA XB HB
  have ca := fun i => cell_block A2.out i
  have cb := fun i => cell_block B2.out i
  go_wp2_with fail
  refine F2.out.mono ?_
  rintro E w3 ⟨rfl, hw3⟩
  subst hw3
  go_wp2_with fail
  refine F3.out.mono ?_
  rintro E w3 ⟨rfl, hw3⟩
  subst hw3
  go_wp2_with fail
  go_ret
  exact ⟨rfl, HB2.out⟩
end Sto
end Go.Proofs.YtnnceaapodgfbaaGreatDoor
namespace Go.Proofs.YtnnceaapodgfbaaGreatDoor
namespace Sto
open Go.RowKit
theorem below_drew1' (w : World) : Below w.heap.size w w.drew := ⟨rfl, rfl, rfl, Nat.le_refl _, fun _ _ => rfl⟩
theorem run_sameObjS : ∀ (a : Array Value) (w : World), (callFunc 19 a).run Tryz.prog w = .ok (.enter 19 a) w := run_callFunc_body Tryz.func19 (by kernel_rfl) (by kernel_rfl)
end Sto
end Go.Proofs.YtnnceaapodgfbaaGreatDoor
namespace Go.Proofs.YtnnceaapodgfbaaGreatDoor
namespace Sto
open Go.RowKit
theorem okObj_list {S : St} (h : OkSt S) {kind space : ByteArray} {r : Int} {a : List GObject} (ha : ListTold S kind space r a) : ∀ o ∈ a, OkObj o := fun o ho => by
  by_cases he : listE S kind space r = 0
  · obtain ⟨-, hc⟩ := ((ha.2 he).2 o).1 ho
    obtain ⟨e, h1, h2⟩ := cur_mem hc
    exact h2 ▸ h.obj e (List.mem_of_mem_take h1)
  · rw [ha.1 he] at ho; cases ho
theorem list_short {S : St} (h : OkSt S) {kind space : ByteArray} {r : Int} {a : List GObject} (ha : ListTold S kind space r a) : a.length ≤ 4194304 := by
  by_cases he : listE S kind space r = 0
  · have h1 := ha.2 he
    have hn : (a.map (·.okey)).Nodup := by
      rw [List.nodup_iff_pairwise_ne, List.pairwise_map]
      refine h1.1.imp_of_mem fun {x y} hx hy hxy hk => ?_
      have h2 : x = y := by
        have e1 := ((h1.2 x).1 hx).2
        have e2 := ((h1.2 y).1 hy).2
        rw [hk, e2] at e1; cases e1; rfl
      subst h2
      exact ahead_irrefl _ hxy
    have h2 := live_keys (h.good.fit (timeT S r) (timeT_le S r)) (a.map (·.okey)) hn fun k hk => by
      obtain ⟨o, ho, rfl⟩ := List.mem_map.1 hk
      rw [((h1.2 o).1 ho).2]; rfl
    have h3 := live_le (S.log.take (timeT S r))
    rw [List.length_take] at h3
    rw [List.length_map] at h2
    have := h.rev
    unfold St.rev at this
    omega
  · rw [ha.1 he]; exact Nat.zero_le _
end Sto
end Go.Proofs.YtnnceaapodgfbaaGreatDoor
namespace Go.Proofs.YtnnceaapodgfbaaGreatDoor
namespace Sto
open Go.RowKit
structure Seen (log : List GEvent) (kinds : List ByteArray) (A : List GObject) : Prop where
  keys : (A.map (·.okey)).Nodup
  here : ∀ o ∈ A, cur log o.okey = some o
  kind : ∀ o ∈ A, o.okey.kind ∈ kinds
section
variable {log : List GEvent} {ks ks' : List ByteArray} {A B L : List GObject} {kind : ByteArray}
theorem Seen.nil : Seen log ks [] := ⟨List.nodup_nil, (fun _ h => by cases h), (fun _ h => by cases h)⟩
theorem Seen.mono (h : Seen log ks A) (hk : ∀ k ∈ ks, k ∈ ks') : Seen log ks' A := ⟨h.keys, h.here, fun o ho => hk _ (h.kind o ho)⟩
theorem list_keys {space : ByteArray} (h : IsList log kind space L) : (L.map (·.okey)).Nodup := by
  rw [List.nodup_iff_pairwise_ne, List.pairwise_map]
  refine h.1.imp_of_mem fun {x y} hx hy hxy hk => ?_
  have h2 : x = y := by
    have e1 := ((h.2 x).1 hx).2
    have e2 := ((h.2 y).1 hy).2
    rw [hk, e2] at e1; cases e1; rfl
  subst h2
  exact ahead_irrefl _ hxy
theorem Seen.add (h : Seen log ks A) (hn : kind ∉ ks) (hL : IsList log kind ByteArray.empty L) : Seen log (ks ++ [kind]) (A ++ L) := by
  refine ⟨?_, fun o ho => ?_, fun o ho => ?_⟩
  · rw [List.map_append, List.nodup_append]
    refine ⟨h.keys, list_keys hL, fun a ha b hb e => ?_⟩
    obtain ⟨x, hx, rfl⟩ := List.mem_map.1 ha
    obtain ⟨y, hy, rfl⟩ := List.mem_map.1 hb
    have h1 := h.kind x hx
    rw [e, ((hL.2 y).1 hy).1.1] at h1
    exact hn h1
  · rcases List.mem_append.1 ho with ho | ho
    · exact h.here o ho
    · exact ((hL.2 o).1 ho).2
  · rcases List.mem_append.1 ho with ho | ho
    · exact List.mem_append_left _ (h.kind o ho)
    · rw [((hL.2 o).1 ho).1.1]; exact List.mem_append_right _ (List.mem_singleton_self _)
end
end Sto
end Go.Proofs.YtnnceaapodgfbaaGreatDoor
namespace Go.Proofs.YtnnceaapodgfbaaGreatDoor
open Go.RowKit
end Go.Proofs.YtnnceaapodgfbaaGreatDoor
namespace Go.Proofs.YtnnceaapodgfbaaGreatDoor
namespace Sto
open Go.RowKit
theorem obj_cells {I : Dom} {w w' : World} {va : Option Addr} {vn vc : Nat} {vs : List GObject} (h : RowAt (ObjX I w) 10 w (.slice va vn vc) vs) (hn : vs.length = vn) (hb : Below w.heap.size w w') {m : Nat} {e : GObject} (he : vs[m]? = some e) :
    ∃ b o v1 v2 v3, va = some ⟨b, o, none⟩ ∧ ObjIn I w v1 v2 v3 e ∧ ∀ i u, (objCs e v1 v2 v3)[i]? = some u → w'.cell? ⟨b, o + m * 10 + i, none⟩ = some u := by
  have hm := (List.getElem?_eq_some_iff.1 he).1
  obtain ⟨b, o, c', hv, _, _, hbs, hcell⟩ := h.form (by omega) (by omega)
  injection hv with u1 u2 u3
  obtain ⟨ds, _, hcc, v1, v2, v3, rfl, hobj⟩ := hcell m e he
  exact ⟨b, o, v1, v2, v3, u1, hobj, fun i u hu => (hb.cell (p := ⟨b, _, none⟩) hbs).trans (hcc i u hu)⟩
end Sto
end Go.Proofs.YtnnceaapodgfbaaGreatDoor
namespace Go.Proofs.YtnnceaapodgfbaaGreatDoor
namespace Sto
open Go.RowKit
def AllAt (E : Dom) (w : World) (f : GKey → Option Value) (log : List GEvent) : Prop :=
  ∀ k, (cur log k = none → f k = none) ∧ ∀ o, cur log k = some o → ∃ v1 v2 v3, f k = some (objW o v1 v2 v3) ∧ ObjIn E w v1 v2 v3 o
section
variable {E : Dom} {w w' : World} {f : GKey → Option Value} {log : List GEvent} {S : St} {L : List GObject} {kind space : ByteArray}
theorem AllAt.nil : AllAt E w (fun _ => none) [] := fun k => ⟨fun _ => rfl, fun o h => by rw [cur_nil] at h; cases h⟩
theorem AllAt.agree (h : AllAt E w f log) (ha : Agree E w w') : AllAt E w' f log := fun k => ⟨(h k).1, fun o ho => let ⟨v1, v2, v3, h1, h2⟩ := (h k).2 o ho; ⟨v1, v2, v3, h1, h2.agree ha⟩⟩
theorem AllAt.put (hS : Good S) {i : Nat} {e : GEvent} (he : S.log[i]? = some e) (h : AllAt E w f (S.log.take i)) (hk : e.kind ≠ 3) {v1 v2 v3 : Value} (ho : ObjIn E w v1 v2 v3 e.object) : AllAt E w (updK f e.object.okey (objW e.object v1 v2 v3)) (S.log.take (i + 1)) := fun k => by
  have hc := (replay_step hS he).2.2.2 k
  rw [hc]
  by_cases hek : e.object.okey = k
  · subst hek
    rw [if_pos rfl, updK_same]
    unfold shown
    rw [if_neg hk]
    exact ⟨(fun h9 => by cases h9), fun o h9 => by cases h9; exact ⟨v1, v2, v3, rfl, ho⟩⟩
  · rw [if_neg hek, updK_other f _ fun e9 => hek e9.symm]
    exact h k
theorem AllAt.del (hS : Good S) {i : Nat} {e : GEvent} (he : S.log[i]? = some e) (h : AllAt E w f (S.log.take i)) (hk : e.kind = 3) : AllAt E w (delK f e.object.okey) (S.log.take (i + 1)) := fun k => by
  have hc := (replay_step hS he).2.2.2 k
  rw [hc]
  by_cases hek : e.object.okey = k
  · subst hek
    rw [if_pos rfl, delK_same]
    unfold shown
    rw [if_pos hk]
    exact ⟨(fun _ => rfl), fun o h9 => by cases h9⟩
  · rw [if_neg hek, delK_other f fun e9 => hek e9.symm]
    exact h k
theorem AllAt.here (h : AllAt E w f log) {k : GKey} {v : Value} (hk : f k = some v) : ∃ o, cur log k = some o := by
  cases hc : cur log k with
  | none => rw [(h k).1 hc] at hk; cases hk
  | some o => exact ⟨o, rfl⟩
theorem kind_cases (hS : Good S) {i : Nat} {e : GEvent} (he : S.log[i]? = some e) : e.kind = 1 ∨ e.kind = 2 ∨ e.kind = 3 := by
  obtain ⟨_, _, h3⟩ := hS.step i e he
  rcases h3 with ⟨g1, _⟩ | ⟨g1, _⟩
  · exact .inl g1
  · exact .inr g1
def leftN (left : GKey → Bool) (L : List GObject) : Nat := L.countP fun o => left o.okey
theorem leftN_all {left : GKey → Bool} (h : ∀ o ∈ L, left o.okey = true) : leftN left L = L.length := List.countP_eq_length.2 h
theorem leftN_none : leftN (fun _ => false) L = 0 := by unfold leftN; exact List.countP_eq_zero.2 fun _ _ h => by cases h
theorem leftN_miss {left : GKey → Bool} {s : GKey} (h : ∀ o ∈ L, o.okey ≠ s) : leftN (fun k => left k && !decide (k = s)) L = leftN left L := by
  unfold leftN
  refine List.countP_congr fun o ho => ?_
  simp [h o ho]
theorem leftN_hit {left : GKey → Bool} : ∀ {L : List GObject}, (L.map (·.okey)).Nodup → ∀ {o : GObject}, o ∈ L → left o.okey = true → leftN left L = leftN (fun k => left k && !decide (k = o.okey)) L + 1
  | a :: r, hn, o, ho, hl => by
    rw [List.map_cons, List.nodup_cons] at hn
    rcases List.mem_cons.1 ho with rfl | ho
    · have h1 : leftN (fun k => left k && !decide (k = o.okey)) r = leftN left r := leftN_miss fun x hx e => hn.1 (List.mem_map.2 ⟨x, hx, e⟩)
      unfold leftN at h1 ⊢
      simp only [List.countP_cons]
      simp only [h1, hl, decide_true, Bool.not_true, Bool.and_false]
      simp
    · have h1 := leftN_hit (left := left) hn.2 ho hl
      have hne : a.okey ≠ o.okey := fun e => hn.1 (List.mem_map.2 ⟨o, ho, e.symm⟩)
      unfold leftN at h1 ⊢
      simp only [List.countP_cons]
      dsimp only at h1 ⊢
      rw [h1]
      have h2 : (left a.okey && !decide (a.okey = o.okey)) = left a.okey := by simp [hne]
      rw [h2]
      omega
theorem list_hit (hL : IsList log kind space L) {s : GKey} {o : GObject} (hc : cur log s = some o) (hf : fitsK kind space s) : o ∈ L ∧ o.okey = s := by
  have hk := cur_key hc
  exact ⟨(hL.2 o).2 ⟨by rw [hk]; exact hf, by rw [hk]; exact hc⟩, hk⟩
theorem list_miss (hL : IsList log kind space L) {s : GKey} (hf : ¬ fitsK kind space s) : ∀ o ∈ L, o.okey ≠ s := fun o ho e => hf (e ▸ ((hL.2 o).1 ho).1)
end
def noComp (l : List GStoreStep) : List GStoreStep := l.filter fun x => decide (modI x.kind 4 ≠ 3)
theorem noComp_snoc (l : List GStoreStep) {i : Nat} {x : GStoreStep} (hx : l[i]? = some x) : noComp (l.take (i + 1)) = noComp (l.take i) ++ if modI x.kind 4 = 3 then [] else [x] := by
  unfold noComp
  rw [take_snoc hx, List.filter_append]
  congr 1
  by_cases h : modI x.kind 4 = 3 <;> simp [h]
theorem since0 {S : St} (h : S.comp = 0) : sinceE S 0 = 0 ∧ sinceL S 0 = S.log := by
  have h1 : sinceE S 0 = 0 := by unfold sinceE; rw [if_neg (by omega), if_neg (by rw [h]; omega)]
  refine ⟨h1, ?_⟩
  unfold sinceL
  rw [h1, if_pos rfl]; rfl
end Sto
end Go.Proofs.YtnnceaapodgfbaaGreatDoor
