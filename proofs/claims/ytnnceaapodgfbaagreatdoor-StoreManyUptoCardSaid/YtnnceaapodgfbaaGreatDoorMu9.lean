/- Texts of ours joined. -/
import Derived.Shelf.SlSortCmp.Kit1
import Derived.Shelf.SlSortCmp.NoneTotal
import Derived.Deep.MidRow
import Derived.Deep.LoopGhost
import Derived.Laws.StructEq
import Derived.WalkSpells
import Derived.Deep.DeepCutAuto
import Derived.Test.YtnnceaapodgfbaaGreatDoorMu8
set_option linter.unusedVariables false
set_option linter.unusedSimpArgs false
namespace Go.Proofs.YtnnceaapodgfbaaGreatDoor
namespace Sto
open Go.RowKit
theorem bl_cb : ∀ a b : List UInt8, Op.bytesLess a b = decide (Lib.compareBytes a b < 0)
  | [], [] => rfl
  | [], _ :: _ => rfl
  | _ :: _, [] => rfl
  | x :: xs, y :: ys => by
    have ih := bl_cb xs ys
    unfold Op.bytesLess Lib.compareBytes
    by_cases h1 : x < y
    · simp [h1]
    · by_cases h2 : y < x
      · have h3 : ¬ x = y := fun e => by subst e; exact UInt8.lt_irrefl _ h2
        simp [h1, h2, h3]
      · have h3 : x = y := by
          rw [UInt8.lt_iff_toNat_lt] at h1 h2
          exact UInt8.toNat_inj.1 (by omega)
        subst h3
        simp [h1, ih]
theorem nanS_any (x : ByteArray) (w : World) : Calls Tryz.prog 108 #[.string x] w fun e w' => e = .returned (.bool false) ∧ w = w' := by
  go_enter Tryz.func108, Tryz.ntmps108
  go_wp2_with fail
  go_ret
  exact ⟨by simp, rfl⟩
def cmpB (a b : ByteArray) : Int := Lib.compareBytes a.data.toList b.data.toList
theorem cmpB_lt {a b : ByteArray} (h : Op.bytesLess a.toList b.toList = true) : cmpB a b = -1 := by
  rw [bl_cb, decide_eq_true_iff, Lib.toList_data, Lib.toList_data] at h
  unfold cmpB
  rcases cb_range a.data.toList b.data.toList with e | e | e <;> omega
theorem cmpS_any (a b : ByteArray) (w : World) : Calls Tryz.prog 75 #[.string a, .string b] w fun e w' => e = .returned (.int .i64 (cmpB a b)) ∧ w = w' := by
  have H := fun x (w : World) => Lib.hid (nanS_any x w)
  obtain ⟨r, Hr⟩ : ∃ r, Hid (cmpB a b = r) := ⟨_, Lib.hid rfl⟩
  rw [Hr.out]
  go_enter Tryz.func75, Tryz.ntmps75
  go_wp2_with fail
  refine (H a w).out.mono ?_
  rintro E w1 ⟨rfl, rfl⟩
  go_wp2_with fail
  refine (H b w).out.mono ?_
  rintro E w1 ⟨rfl, rfl⟩
  cases h1 : Op.bytesLess a.toList b.toList with
  | true =>
    obtain rfl : r = -1 := by rw [← Hr.out]; exact cmpB_lt h1
    go_wp2_with fail
    go_ret
    exact ⟨rfl, rfl⟩
  | false =>
    have q9 : (binOp .gtr 9 (.string a) (.string b)).run Tryz.prog w = .ok (.bool (!(Op.bytesLess a.toList b.toList || a.toList == b.toList))) w := by simp [binOp, Op.stringOp]
    cases h2 : (a.toList == b.toList) with
    | true =>
      have Hr0 : Hid (r = 0) := Lib.hid (by
        rw [← Hr.out]
        unfold cmpB
        have h3 := eq_of_beq h2
        rw [Lib.toList_data, Lib.toList_data] at h3
        rw [h3, cb_self])
      rw [h1, h2] at q9
      go_wp2_with fail
      go_ret
      exact ⟨by rw [Hr0.out]; rfl, rfl⟩
    | false =>
      have Hr1 : Hid (r = 1) := Lib.hid (by
        rw [← Hr.out]
        unfold cmpB
        rw [bl_cb, decide_eq_false_iff_not, Lib.toList_data, Lib.toList_data] at h1
        rw [beq_eq_false_iff_ne, Lib.toList_data, Lib.toList_data] at h2
        rcases cb_range a.data.toList b.data.toList with e | e | e
        · omega
        · exact absurd (cb_eq _ _ e) h2
        · exact e)
      rw [h1, h2] at q9
      go_wp2_with fail
      go_ret
      exact ⟨by rw [Hr1.out]; rfl, rfl⟩
def orI (a b : Int) : Int := if a ≠ 0 then a else b
set_option maxRecDepth 100000 in
theorem or_any (g : Nat) (a b : Int) (w : World) (T : TypeId) (h : w.heap[g]? = some (.cells #[.int .i64 a, .int .i64 b] T (0, 0))) : Calls Tryz.prog 74 #[.slice (some ⟨g, 0, none⟩) 2 2] w fun e w' => e = .returned (.int .i64 (orI a b)) ∧ w = w' := by
  have cc := fun i => cell_block h i
  have c0 : w.cell? ⟨g, 0, none⟩ = some (.int .i64 a) := cc 0
  have c1 : w.cell? ⟨g, 0 + 1 * 1, none⟩ = some (.int .i64 b) := cc 1
  have c2 : w.cell? ⟨g, 1, none⟩ = some (.int .i64 b) := cc 1
  have c3 : w.cell? ⟨g, 0 + 1, none⟩ = some (.int .i64 b) := cc 1
  obtain ⟨r, Hr⟩ : ∃ r, Hid (orI a b = r) := ⟨_, Lib.hid rfl⟩
  rw [Hr.out]
  clear cc h
  go_enter Tryz.func74, Tryz.ntmps74
  go_wp2_with fail
  go_loopg [5, 8] 2 (fun k u5 u8 wr => wr = w ∧ ∃ i : Nat, i + k = 2 ∧ u8 = .int .i64 (i : Int) ∧ (i ≠ 0 → Hid (a = 0)) ∧ (i = 2 → Hid (b = 0)))
  case atStart => exact ⟨rfl, 0, rfl, rfl, fun h => absurd rfl h, fun h => by cases h⟩
  case round =>
    obtain ⟨rfl, i, hik, rfl, h1, h2⟩ := hrel
    match gk, hik with
    | 0, hik =>
      obtain rfl : i = 2 := by omega
      have Ha := h1 (by decide)
      have Hb := h2 rfl
      have Hr0 : Hid (r = 0) := Lib.hid (by rw [← Hr.out, Ha.out, Hb.out]; rfl)
      clear h1 h2 Ha Hb hik
      go_wp2_with fail
      go_ret
      exact ⟨by rw [Hr0.out]; rfl, rfl⟩
    | 1, hik =>
      obtain rfl : i = 1 := by omega
      have Ha := h1 (by decide)
      clear h1 h2 hik
      by_cases hb : b = 0
      · subst hb
        go_wp2_with fail
        go_roundg 0
        case measure => omega
        case rel => exact ⟨rfl, 2, rfl, rfl, fun _ => Ha, fun _ => Lib.hid trivial⟩
      · have q1 : (b != 0) = true := bne_iff_ne.2 hb
        have Hr1 : Hid (r = b) := Lib.hid (by rw [← Hr.out, Ha.out]; rfl)
        clear hb
        go_wp2_with fail
        go_ret
        exact ⟨by rw [Hr1.out]; rfl, rfl⟩
    | k + 2, hik =>
      obtain rfl : i = 0 := by omega
      obtain rfl : k = 0 := by omega
      clear h1 h2 hik
      by_cases ha : a = 0
      · subst ha
        go_wp2_with fail
        go_roundg 1
        case measure => omega
        case rel => exact ⟨rfl, 1, rfl, rfl, fun _ => Lib.hid trivial, fun h => by cases h⟩
      · have q1 : (a != 0) = true := bne_iff_ne.2 ha
        have Hr1 : Hid (r = a) := Lib.hid (by rw [← Hr.out]; unfold orI; rw [if_pos ha])
        clear ha
        go_wp2_with fail
        go_ret
        exact ⟨by rw [Hr1.out]; rfl, rfl⟩
set_option maxRecDepth 100000 in
set_option maxHeartbeats 1600000 in
theorem order_any (a1 a2 a3 b1 b2 b3 : ByteArray) (x1 x2 x3 x4 x5 x6 x7 y1 y2 y3 y4 y5 y6 y7 : Value) (W : World) : Calls Tryz.prog 64 #[.agg #[.string a1, .string a2, .string a3, x1, x2, x3, x4, x5, x6, x7], .agg #[.string b1, .string b2, .string b3, y1, y2, y3, y4, y5, y6, y7]] W fun e w' => e = .returned (.int .i64 (orI (cmpB a2 b2) (cmpB a3 b3))) ∧ ∃ q os', w' = Go.Sort.grow (W.drewN q) os' := by
  have HC := fun a b w => Lib.hid (cmpS_any a b w)
  obtain ⟨W2, hW2⟩ : ∃ W2, W2 = (W.alloc (.cells #[.string a1, .string a2, .string a3, x1, x2, x3, x4, x5, x6, x7] 30)).alloc (.cells #[.string b1, .string b2, .string b3, y1, y2, y3, y4, y5, y6, y7] 30) := ⟨_, rfl⟩
  obtain ⟨ga, hga⟩ : ∃ ga, ga = W.heap.size := ⟨_, rfl⟩
  obtain ⟨gb, hgb⟩ : ∃ gb, gb = W.heap.size + 1 := ⟨_, rfl⟩
  have XA : Hid (W2.heap[ga]? = some (.cells #[.string a1, .string a2, .string a3, x1, x2, x3, x4, x5, x6, x7] 30 (0, 0))) := Lib.hid (by rw [hW2, hga]; exact heap_alloc_old (heap_alloc_new W _))
  have XB : Hid (W2.heap[gb]? = some (.cells #[.string b1, .string b2, .string b3, y1, y2, y3, y4, y5, y6, y7] 30 (0, 0))) := Lib.hid (by rw [hW2, hgb]; exact heap_alloc_at (World.size_alloc _ _).symm)
  have HW2 := Lib.hid hW2
  go_enter Tryz.func64, Tryz.ntmps64
  go_upto_region 1 with fail
  rw [← hW2]
  try rw [← hgb]
  rw [← hga]
  clear hW2 hga hgb
  refine wp_region_hold 14 (fun w' => ∃ q, w' = W2.drewN q) (by kernel_rfl) (by kernel_rfl) ?_ ?_
  · exact ⟨1, rfl⟩
  simp only [List.take_succ_cons, List.take_zero, List.drop_succ_cons, List.drop_zero]
  (first | (refine wpHold_pure (v := ?_) (by rfl) (fun w => ?_) ?_; rotate_left; focus (first | (go_simp; done) | (go_simp; with_reducible rfl))) | (refine wpHold_skip ?_ ?_; focus (go_simp; done)) | (refine wpHold_pure' (v := ?_) ?_ (fun w => ?_) ?_; rotate_left; focus (go_simp; done); focus (first | (go_simp; done) | (go_simp; with_reducible rfl)))); try simp only [Act.put, List.setIfInBounds_toArray, List.set_cons_zero, List.set_cons_succ]
  (first | (refine wpHold_pure (v := ?_) (by rfl) (fun w => ?_) ?_; rotate_left; focus (first | (go_simp; done) | (go_simp; with_reducible rfl))) | (refine wpHold_skip ?_ ?_; focus (go_simp; done)) | (refine wpHold_pure' (v := ?_) ?_ (fun w => ?_) ?_; rotate_left; focus (go_simp; done); focus (first | (go_simp; done) | (go_simp; with_reducible rfl)))); try simp only [Act.put, List.setIfInBounds_toArray, List.set_cons_zero, List.set_cons_succ]
  refine wpHold_read (v := .string a2) (by rfl) (fun w' hI => ?_) ?_
  · obtain ⟨q, rfl⟩ := hI
    have ca : ∀ i, (W2.drewN q).cell? ⟨ga, i, none⟩ = _ := fun i => cell_block XA.out i
    have cb : ∀ i, (W2.drewN q).cell? ⟨gb, i, none⟩ = _ := fun i => cell_block XB.out i
    go_simp
    done
  try simp only [Act.put, List.setIfInBounds_toArray, List.set_cons_zero, List.set_cons_succ]
  (first | (refine wpHold_pure (v := ?_) (by rfl) (fun w => ?_) ?_; rotate_left; focus (first | (go_simp; done) | (go_simp; with_reducible rfl))) | (refine wpHold_skip ?_ ?_; focus (go_simp; done)) | (refine wpHold_pure' (v := ?_) ?_ (fun w => ?_) ?_; rotate_left; focus (go_simp; done); focus (first | (go_simp; done) | (go_simp; with_reducible rfl)))); try simp only [Act.put, List.setIfInBounds_toArray, List.set_cons_zero, List.set_cons_succ]
  (first | (refine wpHold_pure (v := ?_) (by rfl) (fun w => ?_) ?_; rotate_left; focus (first | (go_simp; done) | (go_simp; with_reducible rfl))) | (refine wpHold_skip ?_ ?_; focus (go_simp; done)) | (refine wpHold_pure' (v := ?_) ?_ (fun w => ?_) ?_; rotate_left; focus (go_simp; done); focus (first | (go_simp; done) | (go_simp; with_reducible rfl)))); try simp only [Act.put, List.setIfInBounds_toArray, List.set_cons_zero, List.set_cons_succ]
  refine wpHold_read (v := .string b2) (by rfl) (fun w' hI => ?_) ?_
  · obtain ⟨q, rfl⟩ := hI
    have ca : ∀ i, (W2.drewN q).cell? ⟨ga, i, none⟩ = _ := fun i => cell_block XA.out i
    have cb : ∀ i, (W2.drewN q).cell? ⟨gb, i, none⟩ = _ := fun i => cell_block XB.out i
    go_simp
    done
  try simp only [Act.put, List.setIfInBounds_toArray, List.set_cons_zero, List.set_cons_succ]
  refine wpHold_call (v := .int .i64 (cmpB a2 b2)) (f := 75) (args := #[.string a2, .string b2]) (by rfl) (fun w' => ?_) (fun w' hI => ?_) ?_
  · go_simp
    done
  · exact (HC a2 b2 w').out.mono fun e w'' ⟨h1, h2⟩ => ⟨h1, h2 ▸ hI⟩
  try simp only [Act.put, List.setIfInBounds_toArray, List.set_cons_zero, List.set_cons_succ]
  (first | (refine wpHold_pure (v := ?_) (by rfl) (fun w => ?_) ?_; rotate_left; focus (first | (go_simp; done) | (go_simp; with_reducible rfl))) | (refine wpHold_skip ?_ ?_; focus (go_simp; done)) | (refine wpHold_pure' (v := ?_) ?_ (fun w => ?_) ?_; rotate_left; focus (go_simp; done); focus (first | (go_simp; done) | (go_simp; with_reducible rfl)))); try simp only [Act.put, List.setIfInBounds_toArray, List.set_cons_zero, List.set_cons_succ]
  (first | (refine wpHold_pure (v := ?_) (by rfl) (fun w => ?_) ?_; rotate_left; focus (first | (go_simp; done) | (go_simp; with_reducible rfl))) | (refine wpHold_skip ?_ ?_; focus (go_simp; done)) | (refine wpHold_pure' (v := ?_) ?_ (fun w => ?_) ?_; rotate_left; focus (go_simp; done); focus (first | (go_simp; done) | (go_simp; with_reducible rfl)))); try simp only [Act.put, List.setIfInBounds_toArray, List.set_cons_zero, List.set_cons_succ]
  refine wpHold_read (v := .string a3) (by rfl) (fun w' hI => ?_) ?_
  · obtain ⟨q, rfl⟩ := hI
    have ca : ∀ i, (W2.drewN q).cell? ⟨ga, i, none⟩ = _ := fun i => cell_block XA.out i
    have cb : ∀ i, (W2.drewN q).cell? ⟨gb, i, none⟩ = _ := fun i => cell_block XB.out i
    go_simp
    done
  try simp only [Act.put, List.setIfInBounds_toArray, List.set_cons_zero, List.set_cons_succ]
  (first | (refine wpHold_pure (v := ?_) (by rfl) (fun w => ?_) ?_; rotate_left; focus (first | (go_simp; done) | (go_simp; with_reducible rfl))) | (refine wpHold_skip ?_ ?_; focus (go_simp; done)) | (refine wpHold_pure' (v := ?_) ?_ (fun w => ?_) ?_; rotate_left; focus (go_simp; done); focus (first | (go_simp; done) | (go_simp; with_reducible rfl)))); try simp only [Act.put, List.setIfInBounds_toArray, List.set_cons_zero, List.set_cons_succ]
  (first | (refine wpHold_pure (v := ?_) (by rfl) (fun w => ?_) ?_; rotate_left; focus (first | (go_simp; done) | (go_simp; with_reducible rfl))) | (refine wpHold_skip ?_ ?_; focus (go_simp; done)) | (refine wpHold_pure' (v := ?_) ?_ (fun w => ?_) ?_; rotate_left; focus (go_simp; done); focus (first | (go_simp; done) | (go_simp; with_reducible rfl)))); try simp only [Act.put, List.setIfInBounds_toArray, List.set_cons_zero, List.set_cons_succ]
  refine wpHold_read (v := .string b3) (by rfl) (fun w' hI => ?_) ?_
  · obtain ⟨q, rfl⟩ := hI
    have ca : ∀ i, (W2.drewN q).cell? ⟨ga, i, none⟩ = _ := fun i => cell_block XA.out i
    have cb : ∀ i, (W2.drewN q).cell? ⟨gb, i, none⟩ = _ := fun i => cell_block XB.out i
    go_simp
    done
  try simp only [Act.put, List.setIfInBounds_toArray, List.set_cons_zero, List.set_cons_succ]
  refine wpHold_call (v := .int .i64 (cmpB a3 b3)) (f := 75) (args := #[.string a3, .string b3]) (by rfl) (fun w' => ?_) (fun w' hI => ?_) ?_
  · go_simp
    done
  · exact (HC a3 b3 w').out.mono fun e w'' ⟨h1, h2⟩ => ⟨h1, h2 ▸ hI⟩
  try simp only [Act.put, List.setIfInBounds_toArray, List.set_cons_zero, List.set_cons_succ]
  refine wpHold_nil ?_
  intro w' hI
  obtain ⟨q, rfl⟩ := hI
  go_wp2_with fail
  refine (or_any W2.heap.size (cmpB a2 b2) (cmpB a3 b3) _ 3 (heap_alloc_new (W2.drewN q) _)).mono ?_
  rintro E w2 ⟨rfl, hw⟩
  subst hw
  go_wp2_with fail
  go_ret
  have hgrow : ∀ o1 o2 o3 : Obj, (((W.drewN q).alloc o1).alloc o2).alloc o3 = Go.Sort.grow (W.drewN q) (#[o1] ++ (#[o2] ++ #[o3])) := fun o1 o2 o3 => by
    rw [Go.Sort.alloc_eq_grow, Go.Sort.alloc_eq_grow, Go.Sort.alloc_eq_grow, Go.Sort.grow_grow, Go.Sort.grow_grow]
  exact ⟨rfl, q, _, by rw [HW2.out]; exact hgrow _ _ _⟩
end Sto
end Go.Proofs.YtnnceaapodgfbaaGreatDoor
namespace Go.Proofs.YtnnceaapodgfbaaGreatDoor
namespace Sto
open Go.RowKit Go.Shelf Go.Sort
instance inhKey : Inhabited GKey := ⟨noKey⟩
instance inhOb : Inhabited GObject := ⟨noObj⟩
def oneV (v : Value) : Value := if v.oneCell' = true then v else .nilIface
theorem oneV_one (v : Value) : (oneV v).oneCell' = true := by
  unfold oneV
  split
  · assumption
  · rfl
theorem oneV_of {v : Value} (h : v.oneCell' = true) : oneV v = v := if_pos h
abbrev OC := (Value × Value × Value) × GObject
def encOw (p : OC) : List Value := objCs p.2 (oneV p.1.1) (oneV p.1.2.1) (oneV p.1.2.2)
def cfOb (a b : GObject) : Int := orI (cmpB a.okey.space b.okey.space) (cmpB a.okey.name b.okey.name)
def cfOw (p q : OC) : Int := cfOb p.2 q.2
theorem ltOw (p q : OC) : ltOf cfOw p q = decide (cfOb p.2 q.2 < 0) := rfl
theorem cfOb_lt (a b : GObject) : cfOb a b < 0 ↔ ahead a b := by
  unfold cfOb orI ahead lessS cmpB
  by_cases h : Lib.compareBytes a.okey.space.data.toList b.okey.space.data.toList = 0
  · have e : a.okey.space = b.okey.space := by have h9 := cb_eq _ _ h; exact toList_inj (by rw [Lib.toList_data, Lib.toList_data]; exact h9)
    rw [if_neg (fun h9 => h9 h)]
    constructor
    · exact fun h9 => .inr ⟨e, h9⟩
    · rintro (h9 | ⟨_, h9⟩)
      · omega
      · exact h9
  · rw [if_pos h]
    constructor
    · exact fun h9 => .inl h9
    · rintro (h9 | ⟨e, _⟩)
      · exact h9
      · rw [e, cb_self] at h; exact absurd rfl h
theorem cfOb_nlt_trans (a b c : GObject) (h1 : ¬ cfOb a b < 0) (h2 : ¬ cfOb b c < 0) : ¬ cfOb a c < 0 := by
  have n2 := cb_ntrans a.okey.name.data.toList b.okey.name.data.toList c.okey.name.data.toList
  have s1 := cb_swap a.okey.space.data.toList b.okey.space.data.toList
  have s2 := cb_swap b.okey.space.data.toList c.okey.space.data.toList
  have s3 := cb_swap a.okey.space.data.toList c.okey.space.data.toList
  have t1 := cb_trans c.okey.space.data.toList b.okey.space.data.toList a.okey.space.data.toList
  have z1 : Lib.compareBytes a.okey.space.data.toList b.okey.space.data.toList = 0 → Lib.compareBytes a.okey.space.data.toList c.okey.space.data.toList = Lib.compareBytes b.okey.space.data.toList c.okey.space.data.toList := fun h => by rw [cb_eq _ _ h]
  have z2 : Lib.compareBytes b.okey.space.data.toList c.okey.space.data.toList = 0 → Lib.compareBytes a.okey.space.data.toList c.okey.space.data.toList = Lib.compareBytes a.okey.space.data.toList b.okey.space.data.toList := fun h => by rw [cb_eq _ _ h]
  unfold cfOb orI cmpB at *
  split at h1 <;> split at h2 <;> split <;> omega
theorem swoOw : SWO (ltOf cfOw) where
  irrefl x := by
    rw [ltOw, decide_eq_false_iff_not, cfOb_lt]
    exact ahead_irrefl _
  trans x y z h1 h2 := by
    rw [ltOw, decide_eq_true_iff, cfOb_lt] at *
    exact ahead_trans h1 h2
  ntrans x y z h1 h2 := by
    rw [ltOw, decide_eq_false_iff_not] at *
    exact cfOb_nlt_trans _ _ _ h1 h2
theorem ownedCmp (x y : OC) (W : World) : Calls Tryz.prog 64 #[.agg (encOw x).toArray, .agg (encOw y).toArray] W fun e w' => e = .returned (.int .i64 (cfOw x y)) ∧ ∃ q os', w' = Go.Sort.grow (W.drewN q) os' :=
  order_any x.2.okey.kind x.2.okey.space x.2.okey.name y.2.okey.kind y.2.okey.space y.2.okey.name _ _ _ _ _ _ _ _ _ _ _ _ _ _ W
theorem ownedLays (blk off size : Nat) (w : World) : CmpLays Tryz.prog 64 #[] encOw 10 cfOw blk off size w := fun _ _ _ _ x y => ownedCmp x y _
theorem sorted_pairs {α : Type} [Inhabited α] {cf : α → α → Int} (c : α → α → Int) (hc : ∀ p q, ltOf cf p q = decide (c p q < 0)) {d : Array α} {n : Nat} (hn : d.size = n) (h : SortedIn (ltOf cf) 0 n d) : d.toList.Pairwise fun p q => ¬ c q p < 0 := by
  rw [List.pairwise_iff_getElem]
  intro i j hi hj hij
  have h1 := h i j (Nat.zero_le _) hij (by rw [← hn]; simpa using hj)
  rw [hc, decide_eq_false_iff_not] at h1
  rw [getElem!_pos d j (by simpa using hj), getElem!_pos d i (by simpa using hi)] at h1
  simpa using h1
theorem encOw_len (x : OC) : (encOw x).length = 10 := rfl
theorem encOw_one (x : OC) : ∀ v ∈ encOw x, v.oneCell' = true := fun v hv => by
  unfold encOw objCs at hv
  simp only [List.mem_cons, List.not_mem_nil, or_false] at hv
  rcases hv with rfl | rfl | rfl | rfl | rfl | rfl | rfl | rfl | rfl | rfl
  · rfl
  · rfl
  · rfl
  · exact oneV_one _
  · exact oneV_one _
  · exact oneV_one _
  · rfl
  · rfl
  · rfl
  · rfl
theorem flatK_getOw (d : List OC) : (flatK encOw 10 d.toArray).toList = (d.map encOw).flatten := by
  have hk : ∀ cs ∈ d.map encOw, cs.length = 10 := fun cs h => by
    obtain ⟨x, _, rfl⟩ := List.mem_map.1 h
    rfl
  have hl : (d.map encOw).flatten.length = d.length * 10 := by rw [flat_len hk, List.length_map]
  refine List.ext_getElem? fun t => ?_
  by_cases ht : t < d.length * 10
  · have e1 : t = t / 10 * 10 + t % 10 := by omega
    have hj : t / 10 < d.length := by omega
    have hi : t % 10 < 10 := by omega
    have e2 : (d.map encOw).flatten[t]? = some (encOw d[t / 10])[t % 10] := by
      conv => lhs; rw [e1]
      exact get_flat hk (by rw [List.getElem?_map, List.getElem?_eq_getElem hj]; rfl) (List.getElem?_eq_getElem (by rw [encOw_len]; exact hi))
    rw [e2]
    have e3 := get_flatK encOw 10 d.toArray t (by simpa using ht)
    have e4 : t < (flatK encOw 10 d.toArray).size := by rw [size_flatK]; simpa using ht
    rw [getElem!_pos _ t e4] at e3
    rw [Array.getElem?_toList, Array.getElem?_eq_getElem e4, e3, getElem!_pos d.toArray (t / 10) (by simpa using hj), getElem!_pos _ (t % 10) (by rw [encOw_len]; exact hi)]
    rfl
  · rw [List.getElem?_eq_none (by rw [Array.length_toList, size_flatK]; simp; omega), List.getElem?_eq_none (by rw [hl]; omega)]
theorem ow_sorted {E : Dom} {w0 w : World} {B g n c : Nat} {l : List GObject} (h : OwnAt (ObjX E w0) 10 w B 30 (.slice (some ⟨g, 0, none⟩) n c) l) :
    n = l.length ∧ g < w.heap.size ∧ ∃ d : List OC, d.length = l.length ∧ HoldsK encOw 10 w g 0 d.toArray ∧ ∀ (q : Nat) (d' : List OC), d'.Perm d → (d'.map (·.2)).Perm l ∧
      OwnAt (ObjX E w0) 10 (putRowK encOw 10 (Go.Sort.ahead w q) g 0 d'.toArray) B 30 (.slice (some ⟨g, 0, none⟩) n c) (d'.map (·.2)) ∧ RowKit.Below B w (putRowK encOw 10 (Go.Sort.ahead w q) g 0 d'.toArray) ∧ (∀ k, k ≠ g → (putRowK encOw 10 (Go.Sort.ahead w q) g 0 d'.toArray).heap[k]? = w.heap[k]?) ∧ (putRowK encOw 10 (Go.Sort.ahead w q) g 0 d'.toArray).heap.size = w.heap.size := by
  obtain ⟨css, c1, c2, ⟨c3, c4⟩, c5⟩ := h
  rcases c4 with ⟨h0, _⟩ | ⟨g', cap, cur, hv, hB, hh, hle, hm, hzc, ht⟩
  · cases h0
  · injection hv with u1 u2 u3
    injection u1 with u1
    injection u1 with u1
    subst u1; subst u2; subst u3
    have hgl : g < w.heap.size := by
      rcases Nat.lt_or_ge g w.heap.size with h1 | h1
      · exact h1
      · rw [Array.getElem?_eq_none h1] at hh; cases hh
    obtain ⟨d, hd1, hd2⟩ := pick_each (fun j (p : OC) => ∃ cs x, css[j]? = some cs ∧ l[j]? = some x ∧ p.2 = x ∧ encOw p = cs) l.length (fun j hj => by
      have hj1 : css[j]? = some (css[j]'(by omega)) := List.getElem?_eq_getElem _
      have hj2 : l[j]? = some l[j] := List.getElem?_eq_getElem _
      obtain ⟨s1, s2, s3, e1, e2⟩ := c5 j _ _ hj1 hj2
      refine ⟨((s1, s2, s3), l[j]), _, _, hj1, hj2, rfl, ?_⟩
      rw [e1]
      unfold encOw
      rw [oneV_of (own_one e2.labels.own), oneV_of (own_one e2.owners.own), oneV_of (own_one e2.holds.own)])
    have hdl : d.map (·.2) = l := by
      refine List.ext_getElem? fun j => ?_
      rw [List.getElem?_map]
      by_cases hj : j < l.length
      · have hp : d[j]? = some (d[j]'(by omega)) := List.getElem?_eq_getElem _
        obtain ⟨cs, x, _, e2, e3, _⟩ := hd2 j _ hp
        rw [hp, e2, ← e3]
        rfl
      · rw [List.getElem?_eq_none (by omega), List.getElem?_eq_none (by omega)]; rfl
    have hdc : d.map encOw = css := by
      refine List.ext_getElem? fun j => ?_
      rw [List.getElem?_map]
      by_cases hj : j < l.length
      · have hp : d[j]? = some (d[j]'(by omega)) := List.getElem?_eq_getElem _
        obtain ⟨cs, x, e1, _, _, e4⟩ := hd2 j _ hp
        rw [hp, e1, ← e4]
        rfl
      · rw [List.getElem?_eq_none (by omega), List.getElem?_eq_none (by omega)]; rfl
    have hR : ∀ p ∈ d, ObjX E w0 w (encOw p) p.2 := fun p hp => by
      obtain ⟨j, hj, rfl⟩ := List.getElem_of_mem hp
      obtain ⟨cs, x, e1, e2, e3, e4⟩ := hd2 j _ (List.getElem?_eq_getElem hj)
      rw [e3, e4]
      exact c5 j cs x e1 e2
    refine ⟨rfl, hgl, d, hd1, ?_, ?_⟩
    · intro j hj
      rw [size_flatK] at hj
      have hj3 : j < l.length * 10 := by simpa [hd1] using hj
      refine ⟨?_, free_block hh _⟩
      have e4 : j < (flatK encOw 10 d.toArray).size := by rw [size_flatK]; exact hj
      rw [getElem!_pos _ j e4, Nat.zero_add, cell_block hh]
      have e5 : (flatK encOw 10 d.toArray).toList[j]? = cur.toList[j]? := by
        rw [flatK_getOw, hdc, ← ht, List.getElem?_take_of_lt hj3]
      rw [Array.getElem?_toList, Array.getElem?_toList, Array.getElem?_eq_getElem e4] at e5
      exact e5.symm
    · intro q d' hp
      have hl' : d'.length = l.length := by rw [hp.length_eq, hd1]
      obtain ⟨W, hW⟩ : ∃ W, putRowK encOw 10 (Go.Sort.ahead w q) g 0 d'.toArray = W := ⟨_, rfl⟩
      rw [hW]
      have hw : W.heap[g]? = some (.cells (putCells id 0 (flatK encOw 10 d'.toArray) cur) 30 (0, 0)) := by
        rw [← hW]
        unfold putRowK putRow mapBlock
        show (Array.modify w.heap g _)[g]? = _
        rw [Array.getElem?_modify, if_pos rfl, hh]
        rfl
      have ho : ∀ k, k ≠ g → W.heap[k]? = w.heap[k]? := fun k hk => by
        rw [← hW]
        unfold putRowK putRow mapBlock
        show (Array.modify w.heap g _)[k]? = _
        rw [Array.getElem?_modify, if_neg (Ne.symm hk)]
      have hs : W.heap.size = w.heap.size := by
        rw [← hW]
        unfold putRowK putRow mapBlock
        show (Array.modify w.heap g _).size = _
        rw [Array.size_modify]
      have hk' : ∀ cs ∈ d'.map encOw, cs.length = 10 := fun cs h => by
        obtain ⟨x, _, rfl⟩ := List.mem_map.1 h
        rfl
      refine ⟨by rw [← hdl]; exact hp.map _, ⟨d'.map encOw, by rw [List.length_map, List.length_map], hk', ⟨by rw [flat_len hk', List.length_map, List.length_map], .inr ⟨g, c, _, by rw [List.length_map, hl'], hB, hw, by rw [List.length_map, hl']; exact hle, hm, by unfold putCells; rw [Array.size_mapIdx]; exact hzc, ?_⟩⟩, ?_⟩, ⟨by rw [← hW]; rfl, by rw [← hW]; rfl, by rw [← hW]; rfl, by rw [hs]; exact Nat.le_refl _, fun k hk => ho k (by omega)⟩, ho, hs⟩
      · rw [← flatK_getOw, List.length_map, hl']
        apply List.ext_getElem?
        intro t
        by_cases htl : t < l.length * 10
        · have htc : t < cur.size := by rw [hzc]; omega
          have e4 : t < (flatK encOw 10 d'.toArray).size := by rw [size_flatK]; simp [hl']; omega
          rw [List.getElem?_take_of_lt htl, Array.getElem?_toList, Array.getElem?_toList]
          unfold putCells
          rw [Array.getElem?_mapIdx, Array.getElem?_eq_getElem htc, Option.map_some, if_pos ⟨by omega, by omega⟩, Nat.sub_zero, getElem!_pos _ t e4, Array.getElem?_eq_getElem e4]
          rfl
        · rw [List.getElem?_eq_none (by rw [List.length_take]; omega), List.getElem?_eq_none (by rw [Array.length_toList, size_flatK]; simp [hl']; omega)]
      · intro j cs x hcs hx
        rw [List.getElem?_map] at hcs hx
        obtain ⟨p, hp1, rfl⟩ := Option.map_eq_some_iff.1 hcs
        rw [hp1] at hx
        obtain rfl : p.2 = x := by simpa using hx
        exact hR p (hp.mem_iff.1 (List.mem_of_getElem? hp1))
def RiseB (l : List GObject) : Prop := l.Pairwise fun x y => ¬ ahead y x
theorem objSort_any (v : Value) (l : List GObject) (B : Nat) (E : Dom) (w0 w : World) (h : OwnAt (ObjX E w0) 10 w B 30 v l) (hB : B ≤ w.heap.size) (hl : l.length ≤ 1073741824) :
    Calls Tryz.prog 63 #[v, .func (.func 64) #[] #[]] w fun e w' => e = .returned (.tuple #[]) ∧ ∃ l', l'.Perm l ∧ RiseB l' ∧ OwnAt (ObjX E w0) 10 w' B 30 v l' ∧ RowKit.Below B w w' ∧ Only (fun b => v.ownBlock = some b) w w' := by
  rcases h.form with ⟨rfl, rfl⟩ | ⟨g, c, rfl, _, hg, _, _⟩
  · refine (AnyF.slices_SortFunc_none Tryz.objSort none 0 _ w).mono fun e w' ⟨h1, h2⟩ => ?_
    subst h2
    exact ⟨h1, [], List.Perm.refl _, List.Pairwise.nil, OwnAt.nil _, Below.refl _ _, Only.refl _ _⟩
  · obtain ⟨_, _, d, hd1, hH, ho⟩ := ow_sorted h
    have eg : ∀ args w, (callFunc 64 args).run Tryz.prog w = .ok (.enter 64 args) w := enters_of Tryz.func64 (by kernel_rfl) rfl
    have hs := AnyQ.slices_SortFunc Tryz.objSort 10 Tryz.isAgg30 Tryz.sizeOf30 encOw encOw_len encOw_one cfOw swoOw 64 #[] g 0 c d.toArray w eg (ownedLays g 0 _ w) hH hg (by simp [hd1]; omega)
    have hsz : d.toArray.size = l.length := by simp [hd1]
    rw [hsz] at hs
    refine hs.mono fun e w' ⟨h1, d', n, os, hp, hso, h2⟩ => ?_
    have hpp : d'.toList.Perm d := by
      obtain ⟨p1, _, p3⟩ := hp
      have e1 : d'.size = l.length := by rw [p1, hsz]
      have e2 : d'.extract 0 l.length = d' := by rw [← e1]; exact Array.extract_size
      have e3 : d.toArray.extract 0 l.length = d.toArray := by rw [← hsz]; exact Array.extract_size
      rw [e2, e3] at p3
      exact p3
    obtain ⟨o0, o1, o2, o3, o4⟩ := ho n d'.toList hpp
    rw [Array.toArray_toList] at o1 o2 o3 o4
    have hgr : RowKit.Below (putRowK encOw 10 (Go.Sort.ahead w n) g 0 d').heap.size (putRowK encOw 10 (Go.Sort.ahead w n) g 0 d') w' := by
      rw [h2]
      exact Lib.below_grow _ _ (Nat.le_refl _) 0 os
    have hrise : RiseB (d'.toList.map (·.2)) := by
      unfold RiseB
      rw [List.pairwise_map]
      exact (sorted_pairs (fun p q : OC => cfOb p.2 q.2) (fun p q => ltOw p q) (by rw [hp.1, hsz]) hso).imp fun h h9 => h ((cfOb_lt _ _).2 h9)
    refine ⟨h1, _, o0, hrise, o1.stay (fun _ _ _ _ h => h) fun b hb => hgr.block b (o1.at hb).2.1, o2.trans (hgr.mono (by rw [o4]; exact hB)), ?_⟩
    have x1 : Only (fun b => (Value.slice (some ⟨g, 0, none⟩) l.length c).ownBlock = some b) w (putRowK encOw 10 (Go.Sort.ahead w n) g 0 d') := ⟨o2.os, o2.tape, o2.output, by rw [o4]; exact Nat.le_refl _, fun k _ hk => o3 k fun e => hk (by rw [e]; rfl)⟩
    exact x1.then hgr
end Sto
end Go.Proofs.YtnnceaapodgfbaaGreatDoor
namespace Go.Proofs.YtnnceaapodgfbaaGreatDoor
namespace Sto
open Go.RowKit
structure Gathered (L : List GEvent) (kind space : ByteArray) (left : GKey → Bool) (l : List GObject) : Prop where
  mem : ∀ o, o ∈ l ↔ fitsK kind space o.okey ∧ cur L o.okey = some o ∧ left o.okey = false
  one : (l.map (·.okey)).Nodup
section
variable {L : List GEvent} {kind space : ByteArray} {left : GKey → Bool} {l : List GObject}
theorem Gathered.start (h : ∀ k o, cur L k = some o → left k = true) : Gathered L kind space left [] :=
  ⟨fun o => ⟨fun h9 => (by cases h9), fun ⟨_, h2, h3⟩ => by rw [h _ _ h2] at h3; cases h3⟩, List.nodup_nil⟩
theorem Gathered.pass (h : Gathered L kind space left l) {k : GKey} (hk : ¬ fitsK kind space k ∨ cur L k = none) : Gathered L kind space (fun z => left z && !decide (z = k)) l := by
  refine ⟨fun o => (h.mem o).trans ⟨fun ⟨h1, h2, h3⟩ => ⟨h1, h2, by show (left o.okey && _) = false; rw [h3]; rfl⟩, fun ⟨h1, h2, h3⟩ => ⟨h1, h2, ?_⟩⟩, h.one⟩
  have h4 : (left o.okey && !decide (o.okey = k)) = false := h3
  by_cases e : o.okey = k
  · rcases hk with hk | hk
    · rw [e] at h1; exact absurd h1 hk
    · rw [e, hk] at h2; cases h2
  · rw [decide_eq_false e] at h4; simpa using h4
theorem Gathered.more (h : Gathered L kind space left l) {k : GKey} {o : GObject} (hf : fitsK kind space k) (hc : cur L k = some o) (hl : left k = true) : Gathered L kind space (fun z => left z && !decide (z = k)) (l ++ [o]) := by
  have hk : o.okey = k := cur_key hc
  have hno : ∀ x ∈ l, x.okey ≠ k := fun x hx e => by
    have h1 := ((h.mem x).1 hx).2.2
    rw [e, hl] at h1; cases h1
  refine ⟨fun x => ?_, ?_⟩
  · rw [List.mem_append, List.mem_singleton]
    constructor
    · rintro (hx | rfl)
      · obtain ⟨h1, h2, h3⟩ := (h.mem x).1 hx
        exact ⟨h1, h2, by show (left x.okey && _) = false; rw [h3]; rfl⟩
      · exact ⟨hk ▸ hf, by rw [hk]; exact hc, by show (left x.okey && !decide (x.okey = k)) = false; rw [decide_eq_true hk]; simp⟩
    · rintro ⟨h1, h2, h3⟩
      have h4 : (left x.okey && !decide (x.okey = k)) = false := h3
      by_cases e : x.okey = k
      · right
        rw [e, hc] at h2
        exact (Option.some.inj h2).symm
      · left
        rw [decide_eq_false e] at h4
        exact (h.mem x).2 ⟨h1, h2, by simpa using h4⟩
  · rw [List.map_append, List.nodup_append]
    refine ⟨h.one, List.nodup_cons.2 ⟨fun h => (by cases h), List.nodup_nil⟩, fun a ha b hb => ?_⟩
    obtain ⟨x, hx, rfl⟩ := List.mem_map.1 ha
    obtain rfl := List.mem_singleton.1 hb
    show x.okey ≠ o.okey
    rw [hk]
    exact hno x hx
theorem lessS_total {a b : ByteArray} (h1 : ¬ lessS a b) (h2 : ¬ lessS b a) : a = b := by
  unfold lessS at h1 h2
  have s1 := cb_swap a.data.toList b.data.toList
  have h9 := cb_eq _ _ (by omega : Lib.compareBytes a.data.toList b.data.toList = 0)
  rw [← mkB_of a, ← mkB_of b, h9]
theorem ahead_of {a b : GObject} (hk : a.okey.kind = b.okey.kind) (hne : a.okey ≠ b.okey) (h : ¬ ahead b a) : ahead a b := by
  unfold ahead at h ⊢
  by_cases h1 : lessS a.okey.space b.okey.space
  · exact .inl h1
  · have h2 : a.okey.space = b.okey.space := lessS_total h1 fun h9 => h (.inl h9)
    refine .inr ⟨h2, Classical.byContradiction fun h3 => hne ?_⟩
    have h4 : a.okey.name = b.okey.name := lessS_total h3 fun h9 => h (.inr ⟨h2.symm, h9⟩)
    have e : ∀ x y : GKey, x.kind = y.kind → x.space = y.space → x.name = y.name → x = y := fun x y p q r => by
      obtain ⟨a1, a2, a3⟩ := x
      obtain ⟨b1, b2, b3⟩ := y
      cases p; cases q; cases r; rfl
    exact e _ _ hk h2 h4
theorem Gathered.done (h : Gathered L kind space (fun _ => false) l) {l' : List GObject} (hp : l'.Perm l) (hr : l'.Pairwise fun x y => ¬ ahead y x) : IsList L kind space l' := by
  have hm : ∀ o, o ∈ l' ↔ fitsK kind space o.okey ∧ cur L o.okey = some o := fun o => (hp.mem_iff).trans ((h.mem o).trans ⟨fun ⟨a, b, _⟩ => ⟨a, b⟩, fun ⟨a, b⟩ => ⟨a, b, rfl⟩⟩)
  have hn : (l'.map (·.okey)).Nodup := ((hp.map (·.okey)).nodup_iff).2 h.one
  refine ⟨?_, hm⟩
  have hn2 : l'.Pairwise fun x y => x.okey ≠ y.okey := List.pairwise_map.1 hn
  refine List.Pairwise.imp_of_mem (fun {a b} ha hb h9 => ?_) (hr.and hn2)
  exact ahead_of (((hm a).1 ha).1.1.trans ((hm b).1 hb).1.1.symm) h9.2 h9.1
end
end Sto
end Go.Proofs.YtnnceaapodgfbaaGreatDoor
namespace Go.Proofs.YtnnceaapodgfbaaGreatDoor
open Go.RowKit
def OutD (B : Nat) (w : World) (v : Value) : Dom := fun b => B ≤ b ∧ b < w.heap.size ∧ v.ownBlock ≠ some b
def OutX {α : Type} (X : Dom → World → Rd α) (k B : Nat) (w : World) (e : TypeId) (v : Value) (l : List α) : Prop := OwnAt (X (OutD B w v) w) k w B e v l
section
variable {α : Type} {X : Dom → World → Rd α} {k B : Nat} {w w' : World} {e : TypeId} {v v' : Value} {l : List α}
theorem OutX.nil : OutX X k B w e (.slice none 0 0) [] := OwnAt.nil _
theorem OutX.appended (hX : Fam X) (h : OwnAt (X (OutD B w v) w) k w' B e v' l) (hg : w.grownBy w' v.ownBlock) (hv : v'.ownBlock = v.ownBlock ∨ v'.ownBlock = some w.heap.size) : OutX X k B w' e v' l :=
  OwnAt.imp' h fun _ _ _ hx => hX.mono _ _ _ _ _ _ (fun b h9 => ⟨h9.1, Nat.lt_of_lt_of_le h9.2.1 hg.size, fun e9 => by
    rcases hv with h8 | h8
    · exact h9.2.2 (h8 ▸ e9)
    · rw [h8] at e9; injection e9 with e9; have := h9.2.1; omega⟩) (hX.agree _ _ _ _ _ _ (fun b h9 => hg.block b h9.2.1 fun e9 => h9.2.2 e9.symm) hx)
theorem OutX.own (hX : Fam X) (h : OutX X k B w e v l) : OwnX X k (fun b => B ≤ b ∧ b < w.heap.size) w e v l :=
  ⟨(OwnAt.imp' h fun _ _ _ hx => hX.mono _ _ _ _ _ _ (fun _ h9 => ⟨h9.1, h9.2.1⟩) hx).mono (Nat.zero_le _), fun _ hb => ⟨(OwnAt.at h hb).1, (OwnAt.at h hb).2.1⟩⟩
theorem OutX.at (h : OutX X k B w e v l) {b : Nat} (hb : v.ownBlock = some b) : B ≤ b ∧ b < w.heap.size := ⟨(OwnAt.at h hb).1, (OwnAt.at h hb).2.1⟩
end
end Go.Proofs.YtnnceaapodgfbaaGreatDoor
namespace Go.Proofs.YtnnceaapodgfbaaGreatDoor
namespace Sto
open Go.RowKit
theorem Tryz.infoObjL : (Tryz.prog.info? 30).map (fun i => (i.zero, i.size, i.bytes)) = some (some (.agg #[.string ByteArray.empty, .string ByteArray.empty, .string ByteArray.empty, .slice none 0 0, .slice none 0 0, .slice none 0 0, .bool false, .string ByteArray.empty, .int .i64 0, .string ByteArray.empty]), 10, 168) := by kernel_rfl
theorem timeT_le (S : St) (rev : Int) : timeT S rev ≤ S.log.length := by
  unfold timeT
  by_cases h : rev < 0 ∨ (S.rev : Int) < rev
  · have h1 : timeE S rev = 1 := by unfold timeE; rw [if_pos h]
    rw [h1, if_pos (by decide)]
    omega
  · have h2 : rev.toNat ≤ S.log.length := by unfold St.rev at h; omega
    split
    · omega
    · split
      · exact Nat.le_refl _
      · exact h2
theorem live_le : ∀ l : List GEvent, live l ≤ (l.length : Int)
  | [] => by decide
  | e :: r => by
    have h := live_le r
    unfold live
    rw [List.length_cons]
    split
    · omega
    · split <;> omega
set_option maxRecDepth 100000 in
set_option maxHeartbeats 6400000 in
theorem list_any {D : Dom} {w : World} {g : Nat} {S : St} (h : StoreAt D w g S) (hS : OkSt S) (kind space : ByteArray) (hk : kind.size ≤ 1048576) (hs : space.size ≤ 1048576) (rev : Int) :
    Calls Tryz.prog 23 #[.pointer (some ⟨g, 0, none⟩), .string kind, .string space, .int .i64 rev] w fun e w' => Below w.heap.size w w' ∧ ∃ E v out, e = .returned (.tuple #[v, .int .i64 (listE S kind space rev)]) ∧ ListTold S kind space rev out ∧ OwnX ObjX 10 E w' 30 v out ∧ ∀ b, E b → w.heap.size ≤ b ∧ b < w'.heap.size := by
  obtain ⟨R, HR⟩ : ∃ R, Hid (says (chk kind) (spaceE space) = R) := ⟨_, Lib.hid rfl⟩
  obtain ⟨le, Hle⟩ : ∃ x, Hid (listE S kind space rev = x) := ⟨_, Lib.hid rfl⟩
  rw [Hle.out]
  have HA := Lib.hid h
  have HS := Lib.hid hS
  have hgl := h.lt
  clear h hS
  go_enter Tryz.func23, Tryz.ntmps23
  go_upto_region 2 with fail
  obtain ⟨w1, hw1⟩ : ∃ w1, w1 = w.alloc (.cells #[.int .i64 0] 113) := ⟨_, rfl⟩
  obtain ⟨gc, hgc⟩ : ∃ gc, gc = w.heap.size := ⟨_, rfl⟩
  have C1 : Hid (IsBad gc w1 0) := Lib.hid (by rw [hw1, hgc]; exact heap_alloc_new w _)
  have HB1 : Hid (Below w.heap.size w w1) := Lib.hid (by rw [hw1]; exact (Below.refl _ w).alloc (Nat.le_refl _) _)
  have hs1 : gc < w1.heap.size := by rw [hw1, World.size_alloc]; omega
  have hgw : w.heap.size ≤ gc := by omega
  have hd : ∀ b, D b → b < gc := fun b hb => by have := HA.out.low hb; omega
  have Hd := Lib.hid hd
  rw [← hw1, ← hgc]
  clear hw1 hgc hd
  go_wp2_with fail
  refine (name_one gc 0 kind w1 C1.out (by omega)).mono ?_
  rintro E w2 ⟨rfl, h1, h2⟩
  rw [zero_says] at h1
  have C2 := Lib.hid h1
  have K2 := Lib.hid h2
  clear h1 h2
  go_wp2_with fail
  refine (space_any gc _ space w2 C2.out (by omega)).mono ?_
  rintro E w3 ⟨rfl, h1, h2⟩
  have C3 : Hid (IsBad gc w3 R) := Lib.hid (by rw [← HR.out]; exact h1)
  have K3 := Lib.hid (K2.out.trans h2)
  have HB := Lib.hid (K3.out.below HB1.out HB1.out.size hgw)
  have HA3 : Hid (StoreAt D w3 g S) := Lib.hid ((HA.out.belowW HB1.out).agree (fun b hb => K3.out.block b (by have := Hd.out b hb; omega) (by have := Hd.out b hb; omega)) K3.out.size)
  clear h1 h2 C1 C2 K2 K3 HA HB1
  have cc : w3.cell? ⟨gc, 0, none⟩ = some (.int .i64 R) := cell_block C3.out 0
  by_cases hR : R = 0
  · subst hR
    have HTi := Lib.hid (time_any HA3.out rev)
    go_wp2_with fail
    refine HTi.out.mono ?_
    rintro E w4 ⟨rfl, hw4⟩
    subst hw4
    clear HTi cc
    obtain ⟨te, Hte⟩ : ∃ x, Hid (timeE S rev = x) := ⟨_, Lib.hid rfl⟩
    obtain ⟨tt, Htt⟩ : ∃ x, Hid (timeT S rev = x) := ⟨_, Lib.hid rfl⟩
    rw [Hte.out, Htt.out]
    have Hl : Hid (le = te) := Lib.hid (by rw [← Hle.out, ← Hte.out]; unfold listE; rw [HR.out, if_neg (by decide)])
    by_cases hte : te = 0
    · subst hte
      obtain ⟨M, I, mb, nn, f, vlog, hin, hDD⟩ := HA3.out
      have HIn := Lib.hid hin
      have HDD := Lib.hid hDD
      have cg := fun i => cell_block hin.box i
      clear hin hDD
      go_wp2_with (at_range; refine wpList_range_mapK _ (by rfl) _ 108 (by rfl) 159 Tryz.underlying108 mb nn f (by rfl) HIn.out.map ?_; intro w4 cnt hrg hgr hsz)
      try go_frame
      have hb4 : Below w3.heap.size w3 w4 := ⟨hgr.os, hgr.tape, hgr.output, hgr.size, fun k hk => hgr.block k hk (by simp)⟩
      have HR1 := Lib.hid hrg
      have HB4 := Lib.hid (HB.out.trans (hb4.mono HB.out.size))
      have HA4 := Lib.hid (HA3.out.belowW hb4)
      have hsr : w3.heap.size < w4.heap.size := by omega
      obtain ⟨r, hr⟩ : ∃ r, w3.heap.size = r := ⟨_, rfl⟩
      rw [hr] at HR1 hsr ⊢
      have hwr : w.heap.size ≤ r := by rw [← hr]; exact HB.out.size
      have hdr : Hid (∀ b, D b → b < r) := Lib.hid fun b hb => by rw [← hr]; exact HA3.out.low hb
      have hmr : mb < r := hdr.out mb ((HDD.out mb).2 (.inl HIn.out.mbM))
      clear hrg hgr hsz hb4 hr cg
      go_loopg [12, 13, 14, 15] cnt (fun c u12 u13 u14 u15 wr => ∃ (left : GKey → Bool) (l1 : List GObject), Hid (RangeK keyC wr mb r nn f left c) ∧ Hid (OwnAt (ObjX (fun b => r < b ∧ b < wr.heap.size ∧ u12.ownBlock ≠ some b) wr) 10 wr (r + 1) 30 u12 l1) ∧ Hid (Gathered (S.log.take tt) kind space left l1) ∧ Hid (Below w.heap.size w wr) ∧ Hid (StoreAt D wr g S))
      case atStart =>
        exact ⟨_, [], HR1, Lib.hid (OwnAt.nil _), Lib.hid (.start fun k o hc => by
          cases hf : f k with
          | some v => rfl
          | none =>
            have h9 := HIn.out.no k hf
            have h8 : hits (S.log.take tt) k = [] := List.eq_nil_iff_forall_not_mem.2 fun e he => by
              unfold hits at he h9
              obtain ⟨h1, h2⟩ := List.mem_filter.1 he
              have := (List.mem_filter (p := fun e : GEvent => decide (e.object.okey = k))).2 ⟨List.mem_of_mem_take h1, h2⟩
              rw [h9] at this; cases this
            unfold cur at hc
            rw [h8] at hc; cases hc), HB4, HA4⟩
      case round =>
        obtain ⟨left, l1, HR2, HO, HG, HBr, HAr⟩ := hrel
        clear HR1 HB4 HA4
        go_wp2_with (at_next; refine wpList_next_rangeK _ (by rfl) _ (by rfl) mb r nn f left gk (by rfl) HR2.out ?_ ?_)
        · intro hl0
          have HGf : Hid (Gathered (S.log.take tt) kind space (fun _ => false) l1) := Lib.hid (by
            have : left = fun _ => false := funext hl0
            rw [← this]; exact HG.out)
          have hlen : l1.length ≤ 4194304 := by
            have h1 := live_keys (HS.out.good.fit tt (by rw [← Htt.out]; exact timeT_le S rev)) (l1.map (·.okey)) HGf.out.one fun k hk => by
              obtain ⟨o, ho, rfl⟩ := List.mem_map.1 hk
              rw [((HGf.out.mem o).1 ho).2.1]; rfl
            have h2 := live_le (S.log.take tt)
            rw [List.length_take] at h2
            rw [List.length_map] at h1
            have := HS.out.rev
            unfold St.rev at this
            omega
          have hrw : r + 1 ≤ wr.heap.size := by have := HR2.out.lt; omega
          have HSo := Lib.hid (objSort_any u12 l1 (r + 1) _ wr wr HO.out hrw (by omega))
          have hrow := HO.out.row.len
          have HBs := HBr
          clear hl0 HG HO HR2 hlen hrw HAr
          obtain ⟨a3, c3, e3, -, -⟩ := hrow
          obtain ⟨n3, hn3⟩ : ∃ n, l1.length = n := ⟨_, rfl⟩
          rw [hn3] at e3
          subst e3
          clear hn3
          go_wp2_with fail
          refine HSo.out.mono ?_
          rintro E w6 ⟨rfl, L, hp, hri, ho, hb6, ho6⟩
          have HLs : Hid (ListTold S kind space rev L) := Lib.hid ⟨fun h9 => absurd (by rw [Hle.out, Hl.out]) h9, fun _ => by rw [Htt.out]; exact HGf.out.done hp hri⟩
          have hwB := HBs.out.size
          have HB6 : Hid (Below w.heap.size w w6) := Lib.hid (HBs.out.trans (hb6.mono (by omega)))
          have HX : Hid (OwnX ObjX 10 (fun b => w.heap.size ≤ b ∧ b < w6.heap.size) w6 30 (.slice a3 n3 c3) L) := Lib.hid ⟨(ho.imp' fun cs x _ hx => famObj.mono _ _ _ _ _ _ (fun b hb => ⟨by have := hb.1; omega, Nat.lt_of_lt_of_le hb.2.1 ho6.size⟩) (famObj.agree _ _ _ _ _ _ (ho6.agree fun b hb => ⟨hb.2.1, hb.2.2⟩) hx)).mono (Nat.zero_le _), fun b hb => ⟨by have := (ho.at hb).1; omega, (ho.at hb).2.1⟩⟩
          clear hp hri ho hb6 ho6 HSo
          go_wp2_with fail
          go_ret2
          exact ⟨HB6.out, _, _, L, by rw [Hl.out]; rfl, HLs.out, HX.out, fun b hb => hb⟩
        · intro s v w5 cnt2 hs5 hlk hv hrg2 hlt hgr2 hsz2 hen
          have hrl := HR2.out.lt
          have HR5 := Lib.hid hrg2
          have HB5 : Hid (Below w.heap.size w w5) := Lib.hid (HBr.out.grown hgr2 HBr.out.size (fun j hj => by cases hj; exact hwr))
          have hne : ∀ b, b < wr.heap.size → b ≠ r → w5.heap[b]? = wr.heap[b]? := fun b hb hn => hgr2.block b hb fun e => hn (by cases e; rfl)
          have HA5 : Hid (StoreAt D w5 g S) := Lib.hid (HAr.out.agree (fun b hb => hne b (HAr.out.low hb) (by have := hdr.out b hb; omega)) (by omega))
          have HO5 : Hid (OwnAt (ObjX (fun b => r < b ∧ b < w5.heap.size ∧ u12.ownBlock ≠ some b) w5) 10 w5 (r + 1) 30 u12 l1) := Lib.hid ((HO.out.stay (fun _ _ _ _ h => h) fun b hb => hne b (HO.out.at hb).2.1 (by have := (HO.out.at hb).1; omega)).imp' fun cs x _ hx => famObj.mono _ _ _ _ _ _ (fun b hb => ⟨hb.1, by rw [hsz2]; exact hb.2.1, hb.2.2⟩) (famObj.agree _ _ _ _ _ _ (fun b hb => hne b hb.2.1 (by have := hb.1; omega)) hx))
          have Hlk := Lib.hid hlk
          have Hs := Lib.hid hs5
          have hs5' := hsz2
          rw [show keyC.val s = .agg #[.string s.kind, .string s.space, .string s.name] from rfl] at hen ⊢
          clear hrg2 hgr2 hsz2 hne hlk hs5 HR2 HO HBr HAr
          go_upto_region 13 with fail
          obtain ⟨w6, hw6⟩ : ∃ w6, w6 = w5.alloc (.cells #[.string s.kind, .string s.space, .string s.name] 24) := ⟨_, rfl⟩
          obtain ⟨gk', hgk⟩ : ∃ x, x = w5.heap.size := ⟨_, rfl⟩
          have KB : Hid (w6.heap[gk']? = some (.cells #[.string s.kind, .string s.space, .string s.name] 24 (0, 0))) := Lib.hid (by rw [hw6, hgk]; exact heap_alloc_new w5 _)
          have hb56 : Below w5.heap.size w5 w6 := by rw [hw6]; exact (Below.refl _ w5).alloc (Nat.le_refl _) _
          have hs6 : w6.heap.size = w5.heap.size + 1 := by rw [hw6, World.size_alloc]
          rw [hs5'] at hgk
          rw [← hw6]
          rw [← hgk]
          have hs6' := hs6
          have hgw' : w.heap.size ≤ gk' := by omega
          have Hb56 := Lib.hid hb56
          clear hw6 hgk hb56 hen
          have ck := fun i => cell_block KB.out i
          have HB6 := Lib.hid (HB5.out.trans (Hb56.out.mono HB5.out.size))
          have HA6 := Lib.hid (HA5.out.belowW Hb56.out)
          have HR6 := Lib.hid (HR5.out.belowW Hb56.out)
          have HO6 : Hid (OwnAt (ObjX (fun b => r < b ∧ b < w6.heap.size ∧ u12.ownBlock ≠ some b) w6) 10 w6 (r + 1) 30 u12 l1) := Lib.hid ((HO5.out.stay (fun _ _ _ _ h => h) fun b hb => Hb56.out.block b (HO5.out.at hb).2.1).imp' fun cs x _ hx => famObj.mono _ _ _ _ _ _ (fun b hb => ⟨hb.1, by rw [hs6]; have := hb.2.1; omega, hb.2.2⟩) (famObj.agree _ _ _ _ _ _ (fun b hb => Hb56.out.block b hb.2.1) hx))
          clear HB5 HA5 HR5 HO5 Hb56
          cases kb : (s.kind.toList == kind.toList) with
          | false =>
            have HNF : Hid (¬ fitsK kind space s) := Lib.hid fun h9 => by rw [h9.1, beq_self_eq_true] at kb; cases kb
            have HL6 := Lib.hid (HG.out.pass (k := s) (.inl HNF.out))
            clear HG HNF
            go_wp2_with fail
            go_roundg cnt2
            case measure => exact hlt
            case rel => exact ⟨_, l1, HR6, HO6, HL6, HB6, HA6⟩
          | true =>
            cases eb : space.toList.isEmpty with
            | true =>
              have HNF : Hid (fitsK kind space s) := Lib.hid ⟨toList_inj (eq_of_beq kb), .inl (by have h9 : space.toList = [] := List.isEmpty_iff.1 eb; exact toList_inj (h9.trans (by rw [Lib.toList_data]; rfl)))⟩
              have HAt := Lib.hid (at_any HA6.out HS.out s Hs.out tt)
              have HOL : Hid (∀ b, u12.ownBlock = some b → b < w6.heap.size) := Lib.hid fun b hb => (HO6.out.at hb).2.1
              have Hlen : Hid (l1.length ≤ 4194304) := Lib.hid (by
                have h1 := live_keys (HS.out.good.fit tt (by rw [← Htt.out]; exact timeT_le S rev)) (l1.map (·.okey)) HG.out.one fun k hk => by
                  obtain ⟨o, ho, rfl⟩ := List.mem_map.1 hk
                  rw [((HG.out.mem o).1 ho).2.1]; rfl
                have h2 := live_le (S.log.take tt)
                rw [List.length_take] at h2
                rw [List.length_map] at h1
                have := HS.out.rev
                unfold St.rev at this
                omega)
              go_wp2_with fail
              refine HAt.out.mono ?_
              rintro E w7 ⟨hb7, hat⟩
              clear HAt ck
              have hz7 := (hb7).size
              have HB7 := Lib.hid (HB6.out.trans ((hb7).mono HB6.out.size))
              have HA7 := Lib.hid (HA6.out.belowW (hb7))
              have HR7 := Lib.hid (HR6.out.belowW (hb7))
              have HO7 : Hid (OwnAt (ObjX (fun b => r < b ∧ b < w7.heap.size ∧ u12.ownBlock ≠ some b) w7) 10 w7 (r + 1) 30 u12 l1) := Lib.hid ((HO6.out.stay (fun _ _ _ _ h => h) fun b hb => (hb7).block b (HO6.out.at hb).2.1).imp' fun cs x _ hx => famObj.mono _ _ _ _ _ _ (fun b hb => ⟨hb.1, Nat.lt_of_lt_of_le hb.2.1 hz7, hb.2.2⟩) (famObj.agree _ _ _ _ _ _ (fun b hb => (hb7).block b hb.2.1) hx))
              clear HB6 HA6 HR6 HO6
              rcases hat with ⟨hc, rfl⟩ | ⟨o, D3, u1, u2, u3, hc, rfl, ho, hD⟩
              · have HL8 := Lib.hid (HG.out.pass (k := s) (.inr hc))
                rw [show noW = .agg noA from rfl]
                clear HG HNF hc hb7
                have H7 := Lib.hid (heap_alloc_new w7 (.cells noA 30))
                have hb8 := Lib.hid ((Below.refl w7.heap.size w7).alloc (Nat.le_refl _) (.cells noA 30))
                go_wp2_with (refine wpList_store_box (by rfl) _ _ _ (by rfl) w7.heap.size noA (by rfl) (by rfl) _ _ (by exact H7.out) (by exact Tryz.sizeObj) (by rfl) (by simp [Value.oneCell', noA]) ?_)
                intro w8 b8 t8
                have hbb : Below w7.heap.size w7 w8 := t8.below hb8.out (Nat.le_refl _)
                have hs8 : w8.heap.size = w7.heap.size + 1 := t8.size.trans (World.size_alloc _ _)
                have hz8 := (hbb).size
                have HB8 := Lib.hid (HB7.out.trans ((hbb).mono HB7.out.size))
                have HA8 := Lib.hid (HA7.out.belowW (hbb))
                have HR8 := Lib.hid (HR7.out.belowW (hbb))
                have HO8 : Hid (OwnAt (ObjX (fun b => r < b ∧ b < w8.heap.size ∧ u12.ownBlock ≠ some b) w8) 10 w8 (r + 1) 30 u12 l1) := Lib.hid ((HO7.out.stay (fun _ _ _ _ h => h) fun b hb => (hbb).block b (HO7.out.at hb).2.1).imp' fun cs x _ hx => famObj.mono _ _ _ _ _ _ (fun b hb => ⟨hb.1, Nat.lt_of_lt_of_le hb.2.1 hz8, hb.2.2⟩) (famObj.agree _ _ _ _ _ _ (fun b hb => (hbb).block b hb.2.1) hx))
                clear HB7 HA7 HR7 HO7
                clear b8 t8 hbb H7 hb8
                go_wp2_with fail
                go_roundg cnt2
                case measure => exact hlt
                case rel => exact ⟨_, l1, HR8, HO8, HL8, HB8, HA8⟩
              · have HL8 := Lib.hid (HG.out.more HNF.out hc Hlk.out)
                have hD9 : Hid (∀ b, D3 b → w6.heap.size ≤ b ∧ b < w7.heap.size) := Lib.hid hD
                have HOo := Lib.hid ho
                clear HG HNF hc hb7 ho hD
                obtain ⟨a1, c1, rfl, -, -⟩ := HOo.out.rowL.len
                obtain ⟨a2, c2, rfl, -, -⟩ := HOo.out.rowO.row.len
                obtain ⟨a3, c3, rfl, -, -⟩ := HOo.out.rowH.row.len
                obtain ⟨n1, Hn1⟩ : ∃ n, Hid (o.labels.length = n) := ⟨_, Lib.hid rfl⟩
                obtain ⟨n2, Hn2⟩ : ∃ n, Hid (o.owners.length = n) := ⟨_, Lib.hid rfl⟩
                obtain ⟨n3, Hn3⟩ : ∃ n, Hid (o.holds.length = n) := ⟨_, Lib.hid rfl⟩
                rw [Hn1.out, Hn2.out, Hn3.out] at HOo ⊢
                have H7 := Lib.hid (heap_alloc_new w7 (.cells noA 30))
                have hb8 := Lib.hid ((Below.refl w7.heap.size w7).alloc (Nat.le_refl _) (.cells noA 30))
                go_wp2_with (refine wpList_store_box (by rfl) _ _ _ (by rfl) w7.heap.size #[.string o.okey.kind, .string o.okey.space, .string o.okey.name, .slice a1 n1 c1, .slice a2 n2 c2, .slice a3 n3 c3, .bool o.ending, .string o.uid, .int .i64 o.rev, .string o.doc] (by rfl) (by rfl) _ _ (by exact H7.out) (by exact Tryz.sizeObj) (by rfl) (by simp [Value.oneCell']) ?_)
                intro w8 b8 t8
                have hbb : Below w7.heap.size w7 w8 := t8.below hb8.out (Nat.le_refl _)
                have hs8 : w8.heap.size = w7.heap.size + 1 := t8.size.trans (World.size_alloc _ _)
                have hz8 := (hbb).size
                have HB8 := Lib.hid (HB7.out.trans ((hbb).mono HB7.out.size))
                have HA8 := Lib.hid (HA7.out.belowW (hbb))
                have HR8 := Lib.hid (HR7.out.belowW (hbb))
                have HO8 : Hid (OwnAt (ObjX (fun b => r < b ∧ b < w8.heap.size ∧ u12.ownBlock ≠ some b) w8) 10 w8 (r + 1) 30 u12 l1) := Lib.hid ((HO7.out.stay (fun _ _ _ _ h => h) fun b hb => (hbb).block b (HO7.out.at hb).2.1).imp' fun cs x _ hx => famObj.mono _ _ _ _ _ _ (fun b hb => ⟨hb.1, Nat.lt_of_lt_of_le hb.2.1 hz8, hb.2.2⟩) (famObj.agree _ _ _ _ _ _ (fun b hb => (hbb).block b hb.2.1) hx))
                clear HB7 HA7 HR7 HO7
                have HOo8 := Lib.hid (HOo.out.agree fun b hb => hbb.block b (hD9.out b hb).2)
                obtain ⟨go, hgo⟩ : ∃ go, w7.heap.size = go := ⟨_, rfl⟩
                rw [hgo] at b8 ⊢
                have BO := Lib.hid b8
                have hgl : go < w8.heap.size := by omega
                clear b8 t8 hbb H7 hb8 HOo hgo
                have co := fun i => cell_block BO.out i
                obtain ⟨gl, hgz⟩ : ∃ gl, w8.heap.size = gl := ⟨_, rfl⟩
                obtain ⟨w9, hw9⟩ : ∃ w9, w9 = w8.alloc (.cells #[.string o.okey.kind, .string o.okey.space, .string o.okey.name, .slice a1 n1 c1, .slice a2 n2 c2, .slice a3 n3 c3, .bool o.ending, .string o.uid, .int .i64 o.rev, .string o.doc] 30) := ⟨_, rfl⟩
                have hb9 : Below w8.heap.size w8 w9 := by rw [hw9]; exact (Below.refl _ w8).alloc (Nat.le_refl _) _
                have hs9 : w9.heap.size = w8.heap.size + 1 := by rw [hw9, World.size_alloc]
                have HOo9 : Hid (ObjIn (fun b => r < b ∧ b < w9.heap.size ∧ u12.ownBlock ≠ some b) w9 (.slice a1 n1 c1) (.slice a2 n2 c2) (.slice a3 n3 c3) o) := Lib.hid ((HOo8.out.agree fun b hb => hb9.block b (by have := (hD9.out b hb).2; omega)).mono fun b hb => ⟨by have := (hD9.out b hb).1; have := HR8.out.lt; omega, by have := (hD9.out b hb).2; omega, fun e => by have := (HOL.out b e); have := (hD9.out b hb).1; omega⟩)
                have hz9 := (hb9).size
                have HB9 := Lib.hid (HB8.out.trans ((hb9).mono HB8.out.size))
                have HA9 := Lib.hid (HA8.out.belowW (hb9))
                have HR9 := Lib.hid (HR8.out.belowW (hb9))
                have HO9 : Hid (OwnAt (ObjX (fun b => r < b ∧ b < w9.heap.size ∧ u12.ownBlock ≠ some b) w9) 10 w9 (r + 1) 30 u12 l1) := Lib.hid ((HO8.out.stay (fun _ _ _ _ h => h) fun b hb => (hb9).block b (HO8.out.at hb).2.1).imp' fun cs x _ hx => famObj.mono _ _ _ _ _ _ (fun b hb => ⟨hb.1, Nat.lt_of_lt_of_le hb.2.1 hz9, hb.2.2⟩) (famObj.agree _ _ _ _ _ _ (fun b hb => (hb9).block b hb.2.1) hx))
                clear HB8 HA8 HR8 HO8
                have HRow : Hid (RowAt (ObjX (fun b => r < b ∧ b < w9.heap.size ∧ u12.ownBlock ≠ some b) w9) 10 w9 (.slice (some ⟨gl, 0, none⟩) 1 1) [o]) := Lib.hid (RowAt.one (R := ObjX (fun b => r < b ∧ b < w9.heap.size ∧ u12.ownBlock ≠ some b) w9) (k := 10) (cs := #[.string o.okey.kind, .string o.okey.space, .string o.okey.name, .slice a1 n1 c1, .slice a2 n2 c2, .slice a3 n3 c3, .bool o.ending, .string o.uid, .int .i64 o.rev, .string o.doc]) (x := o) (by rw [hw9, ← hgz]; exact heap_alloc_new w8 _) rfl ⟨_, _, _, rfl, HOo9.out⟩)
                have hbase : r + 1 ≤ w9.heap.size := by omega
                obtain ⟨i0, hi0, hy0, hy1, hy2⟩ := info_parts Tryz.infoObjL
                have hl1 := Hlen.out
                have hsl : w9.heap.size = gl + 1 := by omega
                have hgl9 : go < gl := by omega
                clear hs8 hs9 hb9
                go_wp2_with (at_builtin; rw [← hw9]; refine wpList_append_ownAt (R := ObjX (fun b => r < b ∧ b < w9.heap.size ∧ u12.ownBlock ≠ some b) w9) (k := 10) (e := 30) (B := r + 1) (l := l1) (m := [o]) _ (by rfl) _ _ _ (by rfl) i0 _ 168 Tryz.underlying45 hi0 hy0 hy1 hy2 rfl (by omega) (famObj.flat _ _) (famObj.one _ _) _ (by rfl) HO9.out _ (by rfl) HRow.out (by rw [List.length_singleton]; unfold maxLen; omega) (by rw [List.length_singleton]; omega) hbase ?_)
                intro v' w10 q1 q2 q3 q4
                rw [← hw9] at q1 q2
                rw [show gl + 1 = w9.heap.size from hsl.symm] at q4
                have hwl : w.heap.size ≤ w9.heap.size := by have := HB9.out.size; omega
                have HB10 := Lib.hid (HB9.out.grown q2 hwl fun b hb => by have := q3 b hb; omega)
                have HA10 : Hid (StoreAt D w10 g S) := Lib.hid (HA9.out.agree (fun b hb => q2.block b (HA9.out.low hb) fun e9 => by have := q3 b e9.symm; have := hdr.out b hb; omega) q2.size)
                have HR10 := Lib.hid (HR9.out.kept q2 (fun e9 => by have := q3 mb e9.symm; omega) (fun e9 => by have := q3 r e9.symm; omega))
                have HO10 : Hid (OwnAt (ObjX (fun b => r < b ∧ b < w10.heap.size ∧ v'.ownBlock ≠ some b) w10) 10 w10 (r + 1) 30 v' (l1 ++ [o])) := Lib.hid (OutX.appended (X := ObjX) (B := r + 1) (w := w9) (v := u12) famObj (by rw [← hsl] at q1; exact q1) q2 q4)
                clear q1 q2 q3 q4 HO9 HRow HB9 HA9 HR9 hw9 hgz
                go_wp2_with fail
                go_roundg cnt2
                case measure => exact hlt
                case rel => exact ⟨_, l1 ++ [o], HR10, HO10, HL8, HB10, HA10⟩
            | false =>
              cases sb : (s.space.toList == space.toList) with
              | true =>
                have HNF : Hid (fitsK kind space s) := Lib.hid ⟨toList_inj (eq_of_beq kb), .inr (toList_inj (eq_of_beq sb))⟩
                have HAt := Lib.hid (at_any HA6.out HS.out s Hs.out tt)
                have HOL : Hid (∀ b, u12.ownBlock = some b → b < w6.heap.size) := Lib.hid fun b hb => (HO6.out.at hb).2.1
                have Hlen : Hid (l1.length ≤ 4194304) := Lib.hid (by
                  have h1 := live_keys (HS.out.good.fit tt (by rw [← Htt.out]; exact timeT_le S rev)) (l1.map (·.okey)) HG.out.one fun k hk => by
                    obtain ⟨o, ho, rfl⟩ := List.mem_map.1 hk
                    rw [((HG.out.mem o).1 ho).2.1]; rfl
                  have h2 := live_le (S.log.take tt)
                  rw [List.length_take] at h2
                  rw [List.length_map] at h1
                  have := HS.out.rev
                  unfold St.rev at this
                  omega)
                go_wp2_with fail
                refine HAt.out.mono ?_
                rintro E w7 ⟨hb7, hat⟩
                clear HAt ck
                have hz7 := (hb7).size
                have HB7 := Lib.hid (HB6.out.trans ((hb7).mono HB6.out.size))
                have HA7 := Lib.hid (HA6.out.belowW (hb7))
                have HR7 := Lib.hid (HR6.out.belowW (hb7))
                have HO7 : Hid (OwnAt (ObjX (fun b => r < b ∧ b < w7.heap.size ∧ u12.ownBlock ≠ some b) w7) 10 w7 (r + 1) 30 u12 l1) := Lib.hid ((HO6.out.stay (fun _ _ _ _ h => h) fun b hb => (hb7).block b (HO6.out.at hb).2.1).imp' fun cs x _ hx => famObj.mono _ _ _ _ _ _ (fun b hb => ⟨hb.1, Nat.lt_of_lt_of_le hb.2.1 hz7, hb.2.2⟩) (famObj.agree _ _ _ _ _ _ (fun b hb => (hb7).block b hb.2.1) hx))
                clear HB6 HA6 HR6 HO6
                rcases hat with ⟨hc, rfl⟩ | ⟨o, D3, u1, u2, u3, hc, rfl, ho, hD⟩
                · have HL8 := Lib.hid (HG.out.pass (k := s) (.inr hc))
                  rw [show noW = .agg noA from rfl]
                  clear HG HNF hc hb7
                  have H7 := Lib.hid (heap_alloc_new w7 (.cells noA 30))
                  have hb8 := Lib.hid ((Below.refl w7.heap.size w7).alloc (Nat.le_refl _) (.cells noA 30))
                  go_wp2_with (refine wpList_store_box (by rfl) _ _ _ (by rfl) w7.heap.size noA (by rfl) (by rfl) _ _ (by exact H7.out) (by exact Tryz.sizeObj) (by rfl) (by simp [Value.oneCell', noA]) ?_)
                  intro w8 b8 t8
                  have hbb : Below w7.heap.size w7 w8 := t8.below hb8.out (Nat.le_refl _)
                  have hs8 : w8.heap.size = w7.heap.size + 1 := t8.size.trans (World.size_alloc _ _)
                  have hz8 := (hbb).size
                  have HB8 := Lib.hid (HB7.out.trans ((hbb).mono HB7.out.size))
                  have HA8 := Lib.hid (HA7.out.belowW (hbb))
                  have HR8 := Lib.hid (HR7.out.belowW (hbb))
                  have HO8 : Hid (OwnAt (ObjX (fun b => r < b ∧ b < w8.heap.size ∧ u12.ownBlock ≠ some b) w8) 10 w8 (r + 1) 30 u12 l1) := Lib.hid ((HO7.out.stay (fun _ _ _ _ h => h) fun b hb => (hbb).block b (HO7.out.at hb).2.1).imp' fun cs x _ hx => famObj.mono _ _ _ _ _ _ (fun b hb => ⟨hb.1, Nat.lt_of_lt_of_le hb.2.1 hz8, hb.2.2⟩) (famObj.agree _ _ _ _ _ _ (fun b hb => (hbb).block b hb.2.1) hx))
                  clear HB7 HA7 HR7 HO7
                  clear b8 t8 hbb H7 hb8
                  go_wp2_with fail
                  go_roundg cnt2
                  case measure => exact hlt
                  case rel => exact ⟨_, l1, HR8, HO8, HL8, HB8, HA8⟩
                · have HL8 := Lib.hid (HG.out.more HNF.out hc Hlk.out)
                  have hD9 : Hid (∀ b, D3 b → w6.heap.size ≤ b ∧ b < w7.heap.size) := Lib.hid hD
                  have HOo := Lib.hid ho
                  clear HG HNF hc hb7 ho hD
                  obtain ⟨a1, c1, rfl, -, -⟩ := HOo.out.rowL.len
                  obtain ⟨a2, c2, rfl, -, -⟩ := HOo.out.rowO.row.len
                  obtain ⟨a3, c3, rfl, -, -⟩ := HOo.out.rowH.row.len
                  obtain ⟨n1, Hn1⟩ : ∃ n, Hid (o.labels.length = n) := ⟨_, Lib.hid rfl⟩
                  obtain ⟨n2, Hn2⟩ : ∃ n, Hid (o.owners.length = n) := ⟨_, Lib.hid rfl⟩
                  obtain ⟨n3, Hn3⟩ : ∃ n, Hid (o.holds.length = n) := ⟨_, Lib.hid rfl⟩
                  rw [Hn1.out, Hn2.out, Hn3.out] at HOo ⊢
                  have H7 := Lib.hid (heap_alloc_new w7 (.cells noA 30))
                  have hb8 := Lib.hid ((Below.refl w7.heap.size w7).alloc (Nat.le_refl _) (.cells noA 30))
                  go_wp2_with (refine wpList_store_box (by rfl) _ _ _ (by rfl) w7.heap.size #[.string o.okey.kind, .string o.okey.space, .string o.okey.name, .slice a1 n1 c1, .slice a2 n2 c2, .slice a3 n3 c3, .bool o.ending, .string o.uid, .int .i64 o.rev, .string o.doc] (by rfl) (by rfl) _ _ (by exact H7.out) (by exact Tryz.sizeObj) (by rfl) (by simp [Value.oneCell']) ?_)
                  intro w8 b8 t8
                  have hbb : Below w7.heap.size w7 w8 := t8.below hb8.out (Nat.le_refl _)
                  have hs8 : w8.heap.size = w7.heap.size + 1 := t8.size.trans (World.size_alloc _ _)
                  have hz8 := (hbb).size
                  have HB8 := Lib.hid (HB7.out.trans ((hbb).mono HB7.out.size))
                  have HA8 := Lib.hid (HA7.out.belowW (hbb))
                  have HR8 := Lib.hid (HR7.out.belowW (hbb))
                  have HO8 : Hid (OwnAt (ObjX (fun b => r < b ∧ b < w8.heap.size ∧ u12.ownBlock ≠ some b) w8) 10 w8 (r + 1) 30 u12 l1) := Lib.hid ((HO7.out.stay (fun _ _ _ _ h => h) fun b hb => (hbb).block b (HO7.out.at hb).2.1).imp' fun cs x _ hx => famObj.mono _ _ _ _ _ _ (fun b hb => ⟨hb.1, Nat.lt_of_lt_of_le hb.2.1 hz8, hb.2.2⟩) (famObj.agree _ _ _ _ _ _ (fun b hb => (hbb).block b hb.2.1) hx))
                  clear HB7 HA7 HR7 HO7
                  have HOo8 := Lib.hid (HOo.out.agree fun b hb => hbb.block b (hD9.out b hb).2)
                  obtain ⟨go, hgo⟩ : ∃ go, w7.heap.size = go := ⟨_, rfl⟩
                  rw [hgo] at b8 ⊢
                  have BO := Lib.hid b8
                  have hgl : go < w8.heap.size := by omega
                  clear b8 t8 hbb H7 hb8 HOo hgo
                  have co := fun i => cell_block BO.out i
                  obtain ⟨gl, hgz⟩ : ∃ gl, w8.heap.size = gl := ⟨_, rfl⟩
                  obtain ⟨w9, hw9⟩ : ∃ w9, w9 = w8.alloc (.cells #[.string o.okey.kind, .string o.okey.space, .string o.okey.name, .slice a1 n1 c1, .slice a2 n2 c2, .slice a3 n3 c3, .bool o.ending, .string o.uid, .int .i64 o.rev, .string o.doc] 30) := ⟨_, rfl⟩
                  have hb9 : Below w8.heap.size w8 w9 := by rw [hw9]; exact (Below.refl _ w8).alloc (Nat.le_refl _) _
                  have hs9 : w9.heap.size = w8.heap.size + 1 := by rw [hw9, World.size_alloc]
                  have HOo9 : Hid (ObjIn (fun b => r < b ∧ b < w9.heap.size ∧ u12.ownBlock ≠ some b) w9 (.slice a1 n1 c1) (.slice a2 n2 c2) (.slice a3 n3 c3) o) := Lib.hid ((HOo8.out.agree fun b hb => hb9.block b (by have := (hD9.out b hb).2; omega)).mono fun b hb => ⟨by have := (hD9.out b hb).1; have := HR8.out.lt; omega, by have := (hD9.out b hb).2; omega, fun e => by have := (HOL.out b e); have := (hD9.out b hb).1; omega⟩)
                  have hz9 := (hb9).size
                  have HB9 := Lib.hid (HB8.out.trans ((hb9).mono HB8.out.size))
                  have HA9 := Lib.hid (HA8.out.belowW (hb9))
                  have HR9 := Lib.hid (HR8.out.belowW (hb9))
                  have HO9 : Hid (OwnAt (ObjX (fun b => r < b ∧ b < w9.heap.size ∧ u12.ownBlock ≠ some b) w9) 10 w9 (r + 1) 30 u12 l1) := Lib.hid ((HO8.out.stay (fun _ _ _ _ h => h) fun b hb => (hb9).block b (HO8.out.at hb).2.1).imp' fun cs x _ hx => famObj.mono _ _ _ _ _ _ (fun b hb => ⟨hb.1, Nat.lt_of_lt_of_le hb.2.1 hz9, hb.2.2⟩) (famObj.agree _ _ _ _ _ _ (fun b hb => (hb9).block b hb.2.1) hx))
                  clear HB8 HA8 HR8 HO8
                  have HRow : Hid (RowAt (ObjX (fun b => r < b ∧ b < w9.heap.size ∧ u12.ownBlock ≠ some b) w9) 10 w9 (.slice (some ⟨gl, 0, none⟩) 1 1) [o]) := Lib.hid (RowAt.one (R := ObjX (fun b => r < b ∧ b < w9.heap.size ∧ u12.ownBlock ≠ some b) w9) (k := 10) (cs := #[.string o.okey.kind, .string o.okey.space, .string o.okey.name, .slice a1 n1 c1, .slice a2 n2 c2, .slice a3 n3 c3, .bool o.ending, .string o.uid, .int .i64 o.rev, .string o.doc]) (x := o) (by rw [hw9, ← hgz]; exact heap_alloc_new w8 _) rfl ⟨_, _, _, rfl, HOo9.out⟩)
                  have hbase : r + 1 ≤ w9.heap.size := by omega
                  obtain ⟨i0, hi0, hy0, hy1, hy2⟩ := info_parts Tryz.infoObjL
                  have hl1 := Hlen.out
                  have hsl : w9.heap.size = gl + 1 := by omega
                  have hgl9 : go < gl := by omega
                  clear hs8 hs9 hb9
                  go_wp2_with (at_builtin; rw [← hw9]; refine wpList_append_ownAt (R := ObjX (fun b => r < b ∧ b < w9.heap.size ∧ u12.ownBlock ≠ some b) w9) (k := 10) (e := 30) (B := r + 1) (l := l1) (m := [o]) _ (by rfl) _ _ _ (by rfl) i0 _ 168 Tryz.underlying45 hi0 hy0 hy1 hy2 rfl (by omega) (famObj.flat _ _) (famObj.one _ _) _ (by rfl) HO9.out _ (by rfl) HRow.out (by rw [List.length_singleton]; unfold maxLen; omega) (by rw [List.length_singleton]; omega) hbase ?_)
                  intro v' w10 q1 q2 q3 q4
                  rw [← hw9] at q1 q2
                  rw [show gl + 1 = w9.heap.size from hsl.symm] at q4
                  have hwl : w.heap.size ≤ w9.heap.size := by have := HB9.out.size; omega
                  have HB10 := Lib.hid (HB9.out.grown q2 hwl fun b hb => by have := q3 b hb; omega)
                  have HA10 : Hid (StoreAt D w10 g S) := Lib.hid (HA9.out.agree (fun b hb => q2.block b (HA9.out.low hb) fun e9 => by have := q3 b e9.symm; have := hdr.out b hb; omega) q2.size)
                  have HR10 := Lib.hid (HR9.out.kept q2 (fun e9 => by have := q3 mb e9.symm; omega) (fun e9 => by have := q3 r e9.symm; omega))
                  have HO10 : Hid (OwnAt (ObjX (fun b => r < b ∧ b < w10.heap.size ∧ v'.ownBlock ≠ some b) w10) 10 w10 (r + 1) 30 v' (l1 ++ [o])) := Lib.hid (OutX.appended (X := ObjX) (B := r + 1) (w := w9) (v := u12) famObj (by rw [← hsl] at q1; exact q1) q2 q4)
                  clear q1 q2 q3 q4 HO9 HRow HB9 HA9 HR9 hw9 hgz
                  go_wp2_with fail
                  go_roundg cnt2
                  case measure => exact hlt
                  case rel => exact ⟨_, l1 ++ [o], HR10, HO10, HL8, HB10, HA10⟩
              | false =>
                have HNF : Hid (¬ fitsK kind space s) := Lib.hid fun h9 => by
                  rcases h9.2 with h8 | h8
                  · rw [h8, Lib.toList_data] at eb; cases eb
                  · rw [h8, beq_self_eq_true] at sb; cases sb
                have HL6 := Lib.hid (HG.out.pass (k := s) (.inl HNF.out))
                clear HG HNF
                go_wp2_with fail
                go_roundg cnt2
                case measure => exact hlt
                case rel => exact ⟨_, l1, HR6, HO6, HL6, HB6, HA6⟩
    · have q0 : (te != 0) = true := bne_iff_ne.2 hte
      have Hlt : Hid (ListTold S kind space rev []) := Lib.hid ⟨fun _ => rfl, fun h9 => absurd (by rw [← Hl.out, ← Hle.out]; exact h9) hte⟩
      clear hte
      go_wp2_with fail
      go_ret2
      exact ⟨HB.out, fun _ => False, nilS, [], by rw [Hl.out]; rfl, Hlt.out, OwnX.nil, fun b hb => hb.elim⟩
  · have q0 : (R == 0) = false := by rw [beq_eq_false_iff_ne]; exact hR
    have q1 : (R != 0) = true := bne_iff_ne.2 hR
    have Hl : Hid (le = R) := Lib.hid (by rw [← Hle.out]; unfold listE; rw [HR.out, if_pos hR])
    have Hlt : Hid (ListTold S kind space rev []) := Lib.hid ⟨fun _ => rfl, fun h9 => absurd (by rw [← Hl.out, ← Hle.out]; exact h9) hR⟩
    clear hR
    go_wp2_with fail
    go_ret2
    exact ⟨HB.out, fun _ => False, nilS, [], by rw [Hl.out]; rfl, Hlt.out, OwnX.nil, fun b hb => hb.elim⟩
end Sto
end Go.Proofs.YtnnceaapodgfbaaGreatDoor
namespace Go.Proofs.YtnnceaapodgfbaaGreatDoor
open Go.RowKit
theorem setCells_all (g : Nat) (t : TypeId) : ∀ (vs : List Value) (i : Nat) (cur : Array Value) (w : World), w.heap[g]? = some (.cells cur t (0, 0)) → i + vs.length ≤ cur.size →
    ∃ cur', (w.setCells g i vs).heap[g]? = some (.cells cur' t (0, 0)) ∧ cur'.size = cur.size ∧ (∀ j, j < i ∨ i + vs.length ≤ j → cur'[j]? = cur[j]?) ∧ (∀ j u, vs[j]? = some u → cur'[i + j]? = some u) ∧ Touch g w (w.setCells g i vs)
  | [], i, cur, w, hg, _ => ⟨cur, hg, rfl, fun _ _ => rfl, fun j u h => by simp at h, ⟨rfl, rfl, rfl, rfl, fun _ _ => rfl⟩⟩
  | v :: r, i, cur, w, hg, hl => by
    simp only [List.length_cons] at hl
    obtain ⟨h1, h2⟩ := touch_setCell (w := w) (i := i) (v := v) hg
    obtain ⟨cur', g1, g2, g3, g4, g5⟩ := setCells_all g t r (i + 1) _ _ h1 (by simp; omega)
    refine ⟨cur', g1, by simpa using g2, fun j hj => ?_, fun j u hu => ?_, ?_⟩
    · simp only [List.length_cons] at hj
      rw [g3 j (by omega), Array.getElem?_setIfInBounds, if_neg (by omega)]
    · cases j with
      | zero =>
        simp only [List.getElem?_cons_zero, Option.some.injEq] at hu
        subst hu
        rw [Nat.add_zero, g3 i (by omega), Array.getElem?_setIfInBounds, if_pos rfl, if_pos (by omega)]
      | succ j =>
        have := g4 j u (by simpa using hu)
        rwa [show i + 1 + j = i + (j + 1) by omega] at this
    · show Touch g w ((w.setCell ⟨g, i, none⟩ v).setCells g (i + 1) r)
      exact ⟨g5.os.trans h2.os, g5.tape.trans h2.tape, g5.output.trans h2.output, g5.size.trans h2.size, fun b hb => (g5.other b hb).trans (h2.other b hb)⟩
section
variable {α : Type} {R : Rd α} {k B : Nat} {e : TypeId} {w : World} {g n c : Nat} {l : List α}
theorem OwnAt.there (h : OwnAt R k w B e (.slice (some ⟨g, 0, none⟩) n c) l) {o m : Nat} (hm : o + m ≤ c * k) : w.there g o m := by
  obtain ⟨css, h1, h2, h3, h4⟩ := h
  rcases h3.2 with ⟨h5, _⟩ | ⟨g', cap, cur, hv, hB, hh, hle, hmx, hz, ht⟩
  · cases h5
  · cases hv
    intro j hj
    refine ⟨?_, free_block hh _⟩
    rw [cell_block hh, Array.getElem?_eq_getElem (by omega)]
    rfl
theorem OwnAt.behind (hf : Flat R) (h : OwnAt R k w B e (.slice (some ⟨g, 0, none⟩) n c) l) {i : Nat} (hi : i ≤ l.length) {vs : List Value} (hvs : i * k + vs.length ≤ c * k) :
    OwnAt R k (w.setCells g (i * k) vs) B e (.slice (some ⟨g, 0, none⟩) i c) (l.take i) ∧ Touch g w (w.setCells g (i * k) vs) := by
  obtain ⟨css, h1, h2, h3, h4⟩ := h
  rcases h3.2 with ⟨h5, _⟩ | ⟨g', cap, cur, hv, hB, hh, hle, hmx, hz, ht⟩
  · cases h5
  · cases hv
    obtain ⟨cur', g1, g2, g3, g4, g5⟩ := setCells_all g e vs (i * k) cur w hh (by rw [hz]; exact hvs)
    have hik : i * k ≤ l.length * k := Nat.mul_le_mul_right k hi
    have hlk : (l.take i).length = i := by rw [List.length_take]; omega
    have hk2 : ∀ q ∈ css.take i, q.length = k := fun q hq => h2 q (List.mem_of_mem_take hq)
    have hfl : (css.take i).flatten.length = i * k := by rw [flat_len hk2, List.length_take, h1]; congr 1; omega
    have hpre : (css.take i).flatten = css.flatten.take (i * k) := by
      have h7 : css.flatten = (css.take i).flatten ++ (css.drop i).flatten := by rw [← List.flatten_append, List.take_append_drop]
      rw [h7, ← hfl, List.take_left]
    refine ⟨⟨css.take i, by rw [List.length_take, List.length_take, h1], hk2, ?_, fun j q y hq hy => ?_⟩, g5⟩
    · rw [hlk]
      refine ⟨hfl, .inr ⟨g, c, cur', rfl, hB, g1, by omega, hmx, by rw [g2]; exact hz, ?_⟩⟩
      rw [hpre, ← ht]
      apply List.ext_getElem?
      intro t
      by_cases htl : t < i * k
      · rw [List.getElem?_take_of_lt htl, Array.getElem?_toList, g3 t (.inl htl), List.getElem?_take_of_lt htl, List.getElem?_take_of_lt (by omega), Array.getElem?_toList]
      · rw [List.getElem?_eq_none (by rw [List.length_take]; omega), List.getElem?_eq_none (by rw [List.length_take]; omega)]
    · have hj : j < i := by have := (List.getElem?_eq_some_iff.1 hy).1; omega
      rw [List.getElem?_take_of_lt hj] at hq hy
      exact hf _ _ _ _ (h4 j q y hq hy)
end
end Go.Proofs.YtnnceaapodgfbaaGreatDoor
namespace Go.Proofs.YtnnceaapodgfbaaGreatDoor
open Go.RowKit
section
variable {P : Program} {ops : Array Oper} {rest : List Oper} {o : Oper} {a : Act} {w : World} {Q : Exit → Act → World → Prop}
end
end Go.Proofs.YtnnceaapodgfbaaGreatDoor
namespace Go.Proofs.YtnnceaapodgfbaaGreatDoor
namespace Sto
open Go.RowKit
end Sto
end Go.Proofs.YtnnceaapodgfbaaGreatDoor
namespace Go.Proofs.YtnnceaapodgfbaaGreatDoor
open Go.RowKit
end Go.Proofs.YtnnceaapodgfbaaGreatDoor
namespace Go.Proofs.YtnnceaapodgfbaaGreatDoor
namespace Sto
open Go.RowKit
end Sto
end Go.Proofs.YtnnceaapodgfbaaGreatDoor
namespace Go.Proofs.YtnnceaapodgfbaaGreatDoor
namespace Sto
open Go.RowKit
end Sto
end Go.Proofs.YtnnceaapodgfbaaGreatDoor
namespace Go.Proofs.YtnnceaapodgfbaaGreatDoor
namespace Sto
open Go.RowKit
theorem okObj_list {S : St} (h : OkSt S) {kind space : ByteArray} {r : Int} {a : List GObject} (ha : ListTold S kind space r a) : ∀ o ∈ a, OkObj o := fun o ho => by
  by_cases he : listE S kind space r = 0
  · obtain ⟨-, hc⟩ := ((ha.2 he).2 o).1 ho
    obtain ⟨e, h1, h2⟩ := cur_mem hc
    exact h2 ▸ h.obj e (List.mem_of_mem_take h1)
  · rw [ha.1 he] at ho; cases ho
theorem list_short {S : St} (h : OkSt S) {kind space : ByteArray} {r : Int} {a : List GObject} (ha : ListTold S kind space r a) : a.length ≤ 4194304 := by
  by_cases he : listE S kind space r = 0
  · have h1 := ha.2 he
    have hn : (a.map (·.okey)).Nodup := by
      rw [List.nodup_iff_pairwise_ne, List.pairwise_map]
      refine h1.1.imp_of_mem fun {x y} hx hy hxy hk => ?_
      have h2 : x = y := by
        have e1 := ((h1.2 x).1 hx).2
        have e2 := ((h1.2 y).1 hy).2
        rw [hk, e2] at e1; cases e1; rfl
      subst h2
      exact ahead_irrefl _ hxy
    have h2 := live_keys (h.good.fit (timeT S r) (timeT_le S r)) (a.map (·.okey)) hn fun k hk => by
      obtain ⟨o, ho, rfl⟩ := List.mem_map.1 hk
      rw [((h1.2 o).1 ho).2]; rfl
    have h3 := live_le (S.log.take (timeT S r))
    rw [List.length_take] at h3
    rw [List.length_map] at h2
    have := h.rev
    unfold St.rev at this
    omega
  · rw [ha.1 he]; exact Nat.zero_le _
end Sto
end Go.Proofs.YtnnceaapodgfbaaGreatDoor
namespace Go.Proofs.YtnnceaapodgfbaaGreatDoor
namespace Sto
open Go.RowKit
structure Seen (log : List GEvent) (kinds : List ByteArray) (A : List GObject) : Prop where
  keys : (A.map (·.okey)).Nodup
  here : ∀ o ∈ A, cur log o.okey = some o
  kind : ∀ o ∈ A, o.okey.kind ∈ kinds
section
variable {log : List GEvent} {ks ks' : List ByteArray} {A B L : List GObject} {kind : ByteArray}
theorem data_inj {a b : ByteArray} (h : a.data.toList = b.data.toList) : a = b := ByteArray.ext (Array.toList_inj.1 h)
theorem Seen.nil : Seen log ks [] := ⟨List.nodup_nil, (fun _ h => by cases h), (fun _ h => by cases h)⟩
theorem Seen.mono (h : Seen log ks A) (hk : ∀ k ∈ ks, k ∈ ks') : Seen log ks' A := ⟨h.keys, h.here, fun o ho => hk _ (h.kind o ho)⟩
theorem list_keys {space : ByteArray} (h : IsList log kind space L) : (L.map (·.okey)).Nodup := by
  rw [List.nodup_iff_pairwise_ne, List.pairwise_map]
  refine h.1.imp_of_mem fun {x y} hx hy hxy hk => ?_
  have h2 : x = y := by
    have e1 := ((h.2 x).1 hx).2
    have e2 := ((h.2 y).1 hy).2
    rw [hk, e2] at e1; cases e1; rfl
  subst h2
  exact ahead_irrefl _ hxy
theorem Seen.add (h : Seen log ks A) (hn : kind ∉ ks) (hL : IsList log kind ByteArray.empty L) : Seen log (ks ++ [kind]) (A ++ L) := by
  refine ⟨?_, fun o ho => ?_, fun o ho => ?_⟩
  · rw [List.map_append, List.nodup_append]
    refine ⟨h.keys, list_keys hL, fun a ha b hb e => ?_⟩
    obtain ⟨x, hx, rfl⟩ := List.mem_map.1 ha
    obtain ⟨y, hy, rfl⟩ := List.mem_map.1 hb
    have h1 := h.kind x hx
    rw [e, ((hL.2 y).1 hy).1.1] at h1
    exact hn h1
  · rcases List.mem_append.1 ho with ho | ho
    · exact h.here o ho
    · exact ((hL.2 o).1 ho).2
  · rcases List.mem_append.1 ho with ho | ho
    · exact List.mem_append_left _ (h.kind o ho)
    · rw [((hL.2 o).1 ho).1.1]; exact List.mem_append_right _ (List.mem_singleton_self _)
theorem Seen.prefix (h : Seen log ks (A ++ B)) : Seen log ks A := ⟨by have h1 := h.keys; rw [List.map_append, List.nodup_append] at h1; exact h1.1, fun o ho => h.here o (List.mem_append_left _ ho), fun o ho => h.kind o (List.mem_append_left _ ho)⟩
noncomputable def uidF (A : List GObject) : KB → Option Value := fun b => if b ∈ A.map (fun o => o.uid.data.toList) then some (.int .i64 1) else none
theorem uidF_nil : uidF [] = fun _ => none := by funext b; unfold uidF; rw [if_neg (by simp)]
theorem uid_new {S : St} (hG : Good S) {x : GObject} (h : Seen S.log ks (A ++ [x])) : uidF A x.uid.data.toList = none := by
  unfold uidF
  refine if_neg fun hm => ?_
  have h1 := (many_uids hG h.keys h.here).2
  rw [List.map_append, List.nodup_append] at h1
  obtain ⟨o, ho, he⟩ := List.mem_map.1 hm
  exact h1.2.2 o.uid (List.mem_map.2 ⟨o, ho, rfl⟩) x.uid (by simp) (data_inj he)
theorem uid_put (A : List GObject) (x : GObject) : updF (uidF A) x.uid.data.toList (.int .i64 1) = uidF (A ++ [x]) := by
  funext b
  unfold updF uidF
  by_cases h : b = x.uid.data.toList
  · subst h; simp
  · have h' : ¬ x.uid.data.toList = b := fun e => h e.symm
    simp [h, h']
theorem uid_len {S : St} (hG : Good S) (h : Seen S.log ks A) {us : List KB} (hn : us.Nodup) (hm : ∀ k, k ∈ us ↔ (uidF A k).isSome = true) : us.length = A.length := by
  have h1 := (many_uids hG h.keys h.here).2
  have h2 : (A.map fun o => o.uid.data.toList).Nodup := by
    rw [List.nodup_iff_pairwise_ne, List.pairwise_map] at h1 ⊢
    exact h1.imp fun hne e => hne (data_inj e)
  have h3 : us.Perm (A.map fun o => o.uid.data.toList) := (List.perm_ext_iff_of_nodup hn h2).2 fun k => by
    rw [hm k]; unfold uidF
    constructor
    · intro h9
      split at h9
      · assumption
      · cases h9
    · intro h9; rw [if_pos h9]; rfl
  rw [h3.length_eq, List.length_map]
theorem seen_le {S : St} (hG : Good S) (h : Seen S.log ks A) : (A.length : Int) ≤ live S.log := (many_uids hG h.keys h.here).1
end
end Sto
end Go.Proofs.YtnnceaapodgfbaaGreatDoor
namespace Go.Proofs.YtnnceaapodgfbaaGreatDoor
open Go.RowKit
set_option maxRecDepth 100000 in
theorem hasStr_any (v : Value) (l : List ByteArray) (x : ByteArray) (w : World) (h : StrAt w v l) (hl : l.length ≤ 1073741824) :
    Calls Tryz.prog 22 #[v, .string x] w fun e w' => e = .returned (.bool (Lib.containsS l x)) ∧ w = w' := by
  obtain ⟨ao, c, rfl, _, _⟩ := h.len
  have H := Lib.hid h
  clear h
  go_enter Tryz.func22, Tryz.ntmps22
  go_wp2_with fail
  go_loopg [9] l.length (fun g u9 wr => ∃ k : Nat, k + g = l.length ∧ u9 = .int .i64 (k : Int) ∧ Hid (x ∉ l.take k) ∧ w = wr)
  case atStart => exact ⟨0, by omega, rfl, (by show x ∉ _; simp), rfl⟩
  case round =>
    obtain ⟨k, hkg, rfl, Hno, rfl⟩ := hrel
    cases gk with
    | zero =>
      obtain rfl : k = l.length := by omega
      go_wp2_with fail
      go_ret
      refine ⟨congrArg (fun b => Ending.returned (Value.bool b)) ?_, rfl⟩
      have h1 : x ∉ l := by have := Hno.out; rwa [List.take_of_length_le (Nat.le_refl _)] at this
      have h2 : ¬ Lib.containsS l x = true := fun h => h1 ((Lib.containsS_iff l x).1 h)
      simpa using h2
    | succ g =>
      have hkl : k < l.length := by omega
      obtain ⟨b, o, c', hv, _, _, _, hc⟩ := H.out.form (by omega)
      cases hv
      obtain ⟨y, hy⟩ : ∃ y, l[k]? = some y := ⟨l[k], by simp [hkl]⟩
      have e0 := hc k y hy
      clear hc
      have q1 : (0 : Int) ≤ (k : Int) := by omega
      have q2 : (k : Int) < (l.length : Int) := by omega
      by_cases hxy : x = y
      · subst hxy
        have h1 : Lib.containsS l x = true := (Lib.containsS_iff l x).2 (List.mem_of_getElem? hy)
        have H1 := Lib.hid h1
        have q3 : (x.toList == x.toList) = true := by simp
        clear h1 hy
        go_wp2_with fail
        go_ret
        exact ⟨congrArg (fun b => Ending.returned (Value.bool b)) H1.out.symm, rfl⟩
      · have q3 : (x.toList == y.toList) = false := by
          rw [beq_eq_false_iff_ne, ByteArray.toList_eq, ByteArray.toList_eq]
          intro h
          apply hxy
          cases x; cases y
          simp only [ByteArray.mk.injEq]
          exact Array.toList_inj.1 h
        have Hno2 : Hid (x ∉ l.take (k + 1)) := by
          show x ∉ l.take (k + 1)
          rw [List.take_add_one, hy]
          intro h
          rcases List.mem_append.1 h with h | h
          · exact Hno.out h
          · simp at h; exact hxy h
        clear hy Hno
        go_wp2_with fail
        go_roundg g
        case measure => omega
        case rel => exact ⟨k + 1, by omega, by go_num, Hno2, rfl⟩
end Go.Proofs.YtnnceaapodgfbaaGreatDoor
namespace Go.Proofs.YtnnceaapodgfbaaGreatDoor
namespace Sto
open Go.RowKit
theorem obj_cells {I : Dom} {w w' : World} {va : Option Addr} {vn vc : Nat} {vs : List GObject} (h : RowAt (ObjX I w) 10 w (.slice va vn vc) vs) (hn : vs.length = vn) (hb : Below w.heap.size w w') {m : Nat} {e : GObject} (he : vs[m]? = some e) :
    ∃ b o v1 v2 v3, va = some ⟨b, o, none⟩ ∧ ObjIn I w v1 v2 v3 e ∧ ∀ i u, (objCs e v1 v2 v3)[i]? = some u → w'.cell? ⟨b, o + m * 10 + i, none⟩ = some u := by
  have hm := (List.getElem?_eq_some_iff.1 he).1
  obtain ⟨b, o, c', hv, _, _, hbs, hcell⟩ := h.form (by omega) (by omega)
  injection hv with u1 u2 u3
  obtain ⟨ds, _, hcc, v1, v2, v3, rfl, hobj⟩ := hcell m e he
  exact ⟨b, o, v1, v2, v3, u1, hobj, fun i u hu => (hb.cell (p := ⟨b, _, none⟩) hbs).trans (hcc i u hu)⟩
theorem row_takeS {α : Type} {R : Rd α} {k : Nat} {w : World} {ao : Option Addr} {n c : Nat} {l : List α} (h : RowAt R k w (.slice ao n c) l) {i : Nat} (hi : i ≤ l.length) : RowAt R k w (.slice ao i c) (l.take i) := by
  rcases h with ⟨h1, rfl⟩ | ⟨a, c', h1, h2, h3, h4⟩
  · cases h1
    obtain rfl : i = 0 := by simpa using hi
    exact .inl ⟨rfl, by simp⟩
  · injection h1 with u1 u2 u3
    subst u1 u3
    have hlen : (l.take i).length = i := by rw [List.length_take]; omega
    refine .inr ⟨a, c, by rw [hlen], by omega, h3, fun j x hx => ?_⟩
    have hj : j < i := by have := (List.getElem?_eq_some_iff.1 hx).1; omega
    rw [List.getElem?_take_of_lt hj] at hx
    exact h4 j x hx
theorem str_cellM {w wr : World} {l : List ByteArray} {i n c : Nat} {a : Option Addr} {y : ByteArray} (h : StrAt w (.slice a n c) l) (_hn : l.length = n) (hb : Below w.heap.size w wr) (hy : l[i]? = some y) : ∃ b o, a = some ⟨b, o, none⟩ ∧ wr.cell? ⟨b, o + i, none⟩ = some (.string y) := by
  have hil := (List.getElem?_eq_some_iff.1 hy).1
  obtain ⟨b1, o1, c', hv1, _, _, hbs1, hcell1⟩ := h.row.form (by omega) (by omega)
  injection hv1 with u1 u2 u3
  obtain ⟨ds1, _, hcc1, hR1⟩ := hcell1 i y hy
  obtain rfl : ds1 = [.string y] := hR1
  exact ⟨b1, o1, u1, (hb.cell (p := ⟨b1, _, none⟩) hbs1).trans (by simpa using hcc1 0 _ rfl)⟩
theorem Tryz.zeroIntM (w : World) : (zeroValue 3).run Tryz.prog w = .ok (.int .i64 0) w := by kernel_rfl
set_option maxRecDepth 100000 in
set_option maxHeartbeats 6400000 in
theorem storeMany_walk (v : Value) (l : List GStoreStep) (v2 : Value) (m : List ByteArray) (w : World) (hrow : RowAt StoreStepR 12 w v l) (hstr : StrAt w v2 m)
    (hbulk : (l.map storeStepB).sum + total m ≤ 1048576) (hE : Env w) :
    Calls Tryz.prog 4 #[v, v2] w fun e w' => e = .returned (.bool true) ∧ Below w.heap.size w w' := by
  obtain ⟨hok2, hll2⟩ := okSteps_bulk hrow (by omega)
  have htot := total_length m
  have hmem : Hid (∀ s ∈ m, s.size ≤ 1048576) := Lib.hid fun s hs => by have := total_mem hs; omega
  have HEn := Lib.hid hE
  have HSt := Lib.hid (stored_any (.slice none 0 0) [] w (.inl ⟨rfl, rfl⟩) (by show 0 ≤ _; omega) (fun _ h => by cases h) hE)
  have HSz : Hid (run St0 (l.take 0) = run St0 []) := Lib.hid (by rw [List.take_zero])
  rw [← HSz.out] at HSt
  obtain ⟨am, cm, rfl, -, -⟩ := hrow.len
  obtain ⟨mn, HN2⟩ : ∃ n, Hid (l.length = n) := ⟨_, Lib.hid rfl⟩
  rw [HN2.out] at hrow hll2 ⊢
  obtain ⟨ak, ck9, rfl, -, -⟩ := hstr.len
  obtain ⟨kn, HKn⟩ : ∃ n, Hid (m.length = n) := ⟨_, Lib.hid rfl⟩
  rw [HKn.out] at hstr htot ⊢
  have HKs := Lib.hid hstr
  have hkn : kn ≤ 1048576 := by omega
  have HR2 := Lib.hid hrow
  have Hok2 := Lib.hid hok2
  have Hlv0 : Hid (live (run St0 (l.take 0)).log = 0) := Lib.hid (by rw [HSz.out]; rfl)
  clear hrow hstr hbulk hE hok2 htot
  go_enter Tryz.func4, Tryz.ntmps4
  go_wp2_with fail
  refine HSt.out.mono ?_
  rintro E w2 ⟨g, D, rfl, hst, hlow, hb2⟩
  have HB_a := Lib.hid hb2
  have HA_a := Lib.hid hst
  have hs_a := hb2.size
  have HH_a : Hid (Home w D w2) := Lib.hid ⟨HEn.out.1, HEn.out.2.2, HB_a.out, fun b hb => by have := hlow b hb; omega⟩
  clear hst hlow hb2 HSt
  go_wp2_with fail
  go_loopg [6, 25] mn (fun k9 u6 u25 wr => ∃ (i : Nat) (D' : Dom) (q : Int), i + k9 = mn ∧ u25 = .int .i64 (i : Int) ∧ u6 = .int .i64 q ∧ Hid (live (run St0 (l.take i)).log = q) ∧ Hid (StoreAt D' wr g (run St0 (l.take i))) ∧ Hid (Below w.heap.size w wr) ∧ Hid (Home w D' wr))
  case atStart => exact ⟨0, D, 0, by omega, rfl, rfl, Hlv0, HA_a, HB_a, HH_a⟩
  case round =>
    clear HA_a HB_a HH_a
    obtain ⟨i, D', q, hik, rfl, rfl, Hq, HA_e, HB_e, HH_e⟩ := hrel
    have hsw := HB_e.out.size
    cases gk with
    | zero =>
      obtain rfl : mn = i := by omega
      obtain ⟨T, HT9⟩ : ∃ T, Hid (run St0 l = T) := ⟨_, Lib.hid rfl⟩
      have HA_e : Hid (StoreAt D' wr g T) := Lib.hid (by have h9 := HA_e.out; rw [← HN2.out, List.take_length, HT9.out] at h9; exact h9)
      have HTo : Hid (OkSt T) := Lib.hid (by rw [← HT9.out]; exact okSt_run okSt0 l Hok2.out (by show 0 + _ ≤ _; rw [HN2.out]; omega))
      have Hq : Hid (live T.log = q) := Lib.hid (by have h9 := Hq.out; rw [← HN2.out, List.take_length, HT9.out] at h9; exact h9)
      have hq1 := live_range HTo.out.good
      rw [Hq.out] at hq1
      obtain ⟨hq1, hq1'⟩ := hq1
      clear HR2 Hok2
      have hmm := @run_makeMap Tryz.prog
      go_upto_region 18 with fail
      obtain ⟨gm, Hgm⟩ : ∃ gm, Hid (wr.heap.size = gm) := ⟨_, Lib.hid rfl⟩
      obtain ⟨w3, hw3⟩ : ∃ w3, w3 = wr.alloc (.map #[] 0) := ⟨_, rfl⟩
      have MP_f : Hid (MapS Tryz.prog 9 w3 gm 0 (uidF [])) := Lib.hid (by rw [hw3, uidF_nil, ← Hgm.out]; exact mapS_made _ _ _)
      have hb3 : Below wr.heap.size wr w3 := by rw [hw3]; exact (Below.refl _ wr).alloc (Nat.le_refl _) _
      have hgD : Hid (∀ b, D' b → b ≠ gm) := Lib.hid fun b hb e => by have := HA_e.out.low hb; have := Hgm.out; omega
      have hwm : w.heap.size ≤ gm := by rw [← Hgm.out]; exact HB_e.out.size
      rw [← hw3]
      try rw [Hgm.out]
      have hs_f := (hb3).size
      have HA_f := Lib.hid (HA_e.out.belowW hb3)
      have HB_f := Lib.hid (HB_e.out.trans ((hb3).mono HB_e.out.size))
      have HH_f := Lib.hid (HH_e.out.below hb3)
      clear HA_e HB_e HH_e
      clear hb3 hw3 Hgm hmm
      go_wp2_with fail
      go_loopg [13, 64] kn (fun k9 u13 u64 wr2 => ∃ (j : Nat) (A : List GObject) (an : Nat), j + k9 = kn ∧ u64 = .int .i64 (j : Int) ∧ u13 = .int .i64 (an : Int) ∧ Hid (Seen T.log (m.take j) A) ∧ Hid (A.length = an) ∧ Hid (MapS Tryz.prog 9 wr2 gm an (uidF A)) ∧ Hid (StoreAt D' wr2 g T) ∧ Hid (Below w.heap.size w wr2) ∧ Hid (Home w D' wr2))
      case atStart => exact ⟨0, [], 0, by omega, rfl, rfl, Lib.hid Seen.nil, Lib.hid rfl, MP_f, HA_f, HB_f, HH_f⟩
      case round =>
        clear HA_f HB_f HH_f MP_f
        obtain ⟨j, A, an, hjk, rfl, rfl, HSe, Han, MP_g, HA_g, HB_g, HH_g⟩ := hrel
        cases gk with
        | zero =>
          obtain rfl : kn = j := by omega
          have hle := seen_le HTo.out.good HSe.out
          rw [Hq.out] at hle
          obtain ⟨us, hu1, hu2, -, hu4⟩ := MapS.keys MP_g.out Tryz.underlying9
          have hul := uid_len HTo.out.good HSe.out hu1 hu2
          have hlen := fun ty => hu4 43 3 ty Tryz.underlying43
          rw [hul] at hlen
          rw [Han.out] at hle hlen
          have e1 : decide ((an : Int) ≤ q) = true := decide_eq_true hle
          clear hu1 hu2 hu4 hul hle
          go_wp2_with fail
          go_ret
          exact ⟨by first | rfl | simp, HB_g.out⟩
        | succ k9 =>
          have hjl : j < kn := by omega
          obtain ⟨kd, hkd⟩ : ∃ x, m[j]? = some x := ⟨m[j]'(by rw [HKn.out]; exact hjl), List.getElem?_eq_getElem _⟩
          obtain ⟨bk, ok, hak, f0⟩ := str_cellM HKs.out HKn.out HB_g.out hkd
          have Hkd := Lib.hid hkd
          have hkz : Hid (kd.size ≤ 1048576) := Lib.hid (hmem.out kd (List.mem_of_getElem? hkd))
          have hq3 : (0 : Int) ≤ (j : Int) := by omega
          have hq4 : (j : Int) < (kn : Int) := by omega
          have hq5 : (j : Int) ≤ (ck9 : Int) := by obtain ⟨_, _, h9, h8, -⟩ := HKs.out.len; injection h9 with _ _ h9; rw [HKn.out] at h8; omega
          have HSr := HKs.out
          subst hak
          have HC := Lib.hid (hasStr_any (.slice (some ⟨bk, ok, none⟩) j ck9) (m.take j) kd wr (row_takeS (HSr.row.below stays_string HB_g.out) (by rw [HKn.out]; omega)).strs (by rw [List.length_take, HKn.out]; omega))
          have HA0 := HA_g
          have hsn := HB_g.out.size
          obtain ⟨cb, Hcb⟩ : ∃ cb, Hid (Lib.containsS (m.take j) kd = cb) := ⟨_, Lib.hid rfl⟩
          rw [Hcb.out] at HC
          have Htk : Hid (m.take (j + 1) = m.take j ++ [kd]) := Lib.hid (take_snoc Hkd.out)
          clear hkd HSr
          go_wp2_with fail
          refine HC.out.mono ?_
          rintro E w9 ⟨rfl, hw9⟩
          subst hw9
          clear HC f0 HA0
          cases cb with
          | true =>
            have HSe' : Hid (Seen T.log (m.take (j + 1)) A) := Lib.hid (HSe.out.mono fun k hk => by rw [Htk.out]; exact List.mem_append_left _ hk)
            go_wp2_with fail
            go_roundg k9
            case measure => omega
            case rel => exact ⟨j + 1, A, an, by omega, by go_num, rfl, HSe', Han, MP_g, HA_g, HB_g, HH_g⟩
          | false =>
            have hni : Hid (kd ∉ m.take j) := Lib.hid fun h9 => by have := (Lib.containsS_iff _ _).2 h9; rw [Hcb.out] at this; cases this
            obtain ⟨le, Hle⟩ : ∃ x, Hid (listE T kd ⟨#[]⟩ 0 = x) := ⟨_, Lib.hid rfl⟩
            have HX := Lib.hid (list_any HA_g.out HTo.out kd ⟨#[]⟩ hkz.out (by decide) 0)
            rw [Hle.out] at HX
            go_wp2_with fail
            refine HX.out.mono ?_
            rintro E9 w5 ⟨hb9, E5, vl, L, rfl, hT_L, k2, k3⟩
            have HT_L := Lib.hid hT_L
            have hlowD : Hid (∀ b, D' b → b < wr.heap.size) := Lib.hid fun b hb => HA_g.out.low hb
            clear HX hT_L
            have hs_h := (hb9).size
            have HA_h := Lib.hid (HA_g.out.belowW hb9)
            have HB_h := Lib.hid (HB_g.out.trans ((hb9).mono HB_g.out.size))
            have HH_h := Lib.hid (HH_g.out.below hb9)
            clear HA_g HB_g HH_g
            have RL_h := Lib.hid k2
            have ML_h : Hid (∀ b, E5 b → b < w5.heap.size ∧ ¬ D' b) := Lib.hid fun b hb => ⟨(k3 b hb).2, fun h9 => by have := hlowD.out b h9; have := (k3 b hb).1; omega⟩
            have HEm : Hid (∀ b, E5 b → b ≠ gm) := Lib.hid fun b hb e => by have := (k3 b hb).1; have := MapS.lt MP_g.out; omega
            have MP_h := Lib.hid (MapS.belowW MP_g.out hb9)
            clear k2 k3 hb9 hlowD MP_g
            obtain ⟨aL, cL, rfl, -, -⟩ := RL_h.out.own.row.len
            obtain ⟨nL, HnL⟩ : ∃ n, Hid (L.length = n) := ⟨_, Lib.hid rfl⟩
            rw [HnL.out] at RL_h ⊢
            have HSA : Hid (Seen T.log (m.take (j + 1)) (A ++ L)) := Lib.hid (by
              rw [Htk.out]
              by_cases h0 : listE T kd ⟨#[]⟩ 0 = 0
              · have h1 := HT_L.out.2 h0
                rw [timeT0, take_rev] at h1
                exact HSe.out.add hni.out h1
              · rw [HT_L.out.1 h0, List.append_nil]
                exact HSe.out.mono fun k hk => List.mem_append_left _ hk)
            have okL : Hid (∀ o ∈ L, OkObj o) := Lib.hid (okObj_list HTo.out HT_L.out)
            have hnL : nL ≤ 4194304 := by rw [← HnL.out]; exact list_short HTo.out HT_L.out
            clear HSe hni HT_L
            go_wp2_with fail
            go_loopg [13, 82] nL (fun k8 u13 u82 wr3 => ∃ (t bn : Nat), t + k8 = nL ∧ u82 = .int .i64 (t : Int) ∧ u13 = .int .i64 (bn : Int) ∧ Hid ((A ++ L.take t).length = bn) ∧ Hid (MapS Tryz.prog 9 wr3 gm bn (uidF (A ++ L.take t))) ∧ Hid (StoreAt D' wr3 g T) ∧ Hid (Below w.heap.size w wr3) ∧ Hid (Home w D' wr3) ∧ Hid (OwnX ObjX 10 E5 wr3 30 (.slice aL nL cL) L) ∧ Hid (∀ b, E5 b → b < wr3.heap.size ∧ ¬ D' b))
            case atStart => exact ⟨0, an, by omega, rfl, rfl, Lib.hid (by rw [List.take_zero, List.append_nil]; exact Han.out), Lib.hid (by rw [List.take_zero, List.append_nil]; exact MP_h.out), HA_h, HB_h, HH_h, RL_h, ML_h⟩
            case round =>
              clear HA_h HB_h HH_h RL_h ML_h MP_h
              obtain ⟨t, bn, htk, rfl, rfl, Hbn, MP_i, HA_i, HB_i, HH_i, RL_i, ML_i⟩ := hrel
              cases gk with
              | zero =>
                obtain rfl : nL = t := by omega
                have eL : Hid (L.take nL = L) := Lib.hid (by rw [← HnL.out, List.take_length])
                rw [eL.out] at Hbn MP_i
                clear eL
                go_wp2_with fail
                go_roundg k9
                case measure => omega
                case rel => exact ⟨j + 1, A ++ L, bn, by omega, by go_num, rfl, HSA, Hbn, MP_i, HA_i, HB_i, HH_i⟩
              | succ k8 =>
                have htl : t < nL := by omega
                obtain ⟨x, hx⟩ : ∃ x, L[t]? = some x := ⟨L[t]'(by rw [HnL.out]; exact htl), List.getElem?_eq_getElem _⟩
                obtain ⟨bx, ox, v1, v2, v3, hva, hobj, ec⟩ := obj_cells RL_i.out.own.row HnL.out (Below.refl _ _) hx
                subst hva
                obtain ⟨a7, c7, rfl, -, -⟩ := hobj.rowL.len
                obtain ⟨a8, c8, rfl, -, -⟩ := hobj.rowO.row.len
                obtain ⟨a9, c9, rfl, -, -⟩ := hobj.rowH.row.len
                obtain ⟨n7, Hn7⟩ : ∃ n, Hid (x.labels.length = n) := ⟨_, Lib.hid rfl⟩
                obtain ⟨n8, Hn8⟩ : ∃ n, Hid (x.owners.length = n) := ⟨_, Lib.hid rfl⟩
                obtain ⟨n9, Hn9⟩ : ∃ n, Hid (x.holds.length = n) := ⟨_, Lib.hid rfl⟩
                rw [Hn7.out, Hn8.out, Hn9.out] at ec
                have g0 := ec 0 _ rfl
                have g1 := ec 1 _ rfl
                have g2 := ec 2 _ rfl
                have g3 := ec 3 _ rfl
                have g4 := ec 4 _ rfl
                have g5 := ec 5 _ rfl
                have g6 := ec 6 _ rfl
                have g7 := ec 7 _ rfl
                have g8 := ec 8 _ rfl
                have g9 := ec 9 _ rfl
                rw [Nat.add_zero] at g0
                have q1 : (0 : Int) ≤ (t : Int) := by omega
                have q2 : (t : Int) < (nL : Int) := by omega
                have htx : Hid (L.take (t + 1) = L.take t ++ [x]) := Lib.hid (take_snoc hx)
                have Hux : Hid (x.uid.size ≤ 1048576) := Lib.hid (okL.out x (List.mem_of_getElem? hx)).uid
                have HSx : Hid (Seen T.log (m.take (j + 1)) (A ++ L.take (t + 1))) := Lib.hid (by
                  have h9 := HSA.out
                  rw [← List.take_append_drop (t + 1) L, ← List.append_assoc] at h9
                  exact h9.prefix)
                have Hne : Hid (uidF (A ++ L.take t) x.uid.data.toList = none) := Lib.hid (by
                  have h9 := HSx.out
                  rw [htx.out, ← List.append_assoc] at h9
                  exact uid_new HTo.out.good h9)
                have Hpt : Hid (updF (uidF (A ++ L.take t)) x.uid.data.toList (.int .i64 1) = uidF (A ++ L.take (t + 1))) := Lib.hid (by rw [uid_put, htx.out, List.append_assoc])
                have Hbn' : Hid ((A ++ L.take (t + 1)).length = bn + 1) := Lib.hid (by
                  rw [htx.out, ← List.append_assoc, List.length_append, Hbn.out]; rfl)
                have hbs : bn ≤ 1073741824 := by
                  have h9 := seen_le HTo.out.good HSx.out
                  rw [Hq.out, Hbn'.out] at h9; omega
                clear hx ec hobj HSx htx
                obtain ⟨gx, Hgx⟩ : ∃ gx, Hid (wr.heap.size = gx) := ⟨_, Lib.hid rfl⟩
                have h7_X := Lib.hid (heap_alloc_new wr (.cells noA 30))
                have h4_X := Lib.hid ((Below.refl wr.heap.size wr).alloc (Nat.le_refl _) (.cells noA 30))
                have hz9_X : Hid ((wr.alloc (.cells noA 30)).heap.size = wr.heap.size + 1) := Lib.hid (World.size_alloc _ _)
                go_wp2_with (refine wpList_store_box (by rfl) _ _ _ (by rfl) wr.heap.size #[.string x.okey.kind, .string x.okey.space, .string x.okey.name, .slice a7 n7 c7, .slice a8 n8 c8, .slice a9 n9 c9, .bool x.ending, .string x.uid, .int .i64 x.rev, .string x.doc] (by rfl) (by rfl) _ _ (by exact h7_X.out) (by exact Tryz.sizeObj) (by rfl) (by simp [Value.oneCell']) ?_)
                intro w6 b5 t5
                have hbb := t5.below h4_X.out (Nat.le_refl _)
                rw [Hgx.out] at b5 ⊢
                have hz_X : w6.heap.size = gx + 1 := by rw [← Hgx.out]; exact t5.size.trans hz9_X.out
                have hl_X : gx < w6.heap.size := by omega
                have hj_X : wr.heap.size ≤ gx := by rw [Hgx.out]; exact Nat.le_refl _
                have XX := Lib.hid b5
                have YX : Hid (∀ b, D' b → b ≠ gx) := Lib.hid fun b hb e => by have := HA_i.out.low hb; omega
                have hs_j := (hbb).size
                have HA_j := Lib.hid (HA_i.out.belowW hbb)
                have HB_j := Lib.hid (HB_i.out.trans ((hbb).mono HB_i.out.size))
                have HH_j := Lib.hid (HH_i.out.below hbb)
                have RL_j := Lib.hid (RL_i.out.agree famObj fun b hb => (hbb).block b (ML_i.out b hb).1)
                have ML_j : Hid (∀ b, E5 b → b < w6.heap.size ∧ ¬ D' b) := Lib.hid fun b hb => ⟨Nat.lt_of_lt_of_le (ML_i.out b hb).1 hs_j, (ML_i.out b hb).2⟩
                clear HA_i HB_i HH_i RL_i ML_i
                have BX_j := XX
                have NX_j := YX
                have MP_j := Lib.hid (MapS.belowW MP_i.out hbb)
                clear b5 t5 hbb h7_X h4_X hz9_X XX YX hz_X
                clear g0 g1 g2 g3 g4 g5 g6 g7 g8 g9 MP_i
                have cx := fun i => cell_block BX_j.out i
                have hlk := (MapS.look MP_j.out Tryz.underlying9 Tryz.underlying43 (Tryz.zeroIntM w6) x.uid (Nat.le_trans Hux.out (by decide))).2
                rw [Hne.out] at hlk
                have hlk : (Instr.lookup 43 (.map (some gm)) (.string x.uid) false).run Tryz.prog w6 = .ok (.int .i64 0) w6 := hlk
                have hbs2 : bn < maxLen := Nat.lt_of_le_of_lt hbs (by decide)
                have hus2 : x.uid.size ≤ maxLen := Nat.le_trans Hux.out (by decide)
                have hgm := MapS.lt MP_j.out
                have hgx : gm ≠ gx := MapS.ne MP_j.out BX_j.out
                go_wp2_with (at_mapUpdate; refine wpList_store_mapS _ (by rfl) _ _ _ 43 (by rfl) 9 3 Tryz.underlying9 Tryz.underlying43 gm bn (uidF (A ++ L.take t)) (by rfl) MP_j.out hbs2 x.uid hus2 (by rfl) (.int .i64 1) (by rfl) ?_; intro w7 hm7 ht7)
                have MP_k : Hid (MapS Tryz.prog 9 w7 gm (bn + 1) (uidF (A ++ L.take (t + 1)))) := Lib.hid (by rw [← Hpt.out]; exact hm7)
                have hO : Only (fun b => b = gm) w6 w7 := Only.turned ht7 rfl
                clear BX_j NX_j cx hlk
                have hs_k := (hO).size
                have hz_k := HB_j.out.size
                have HA_k := Lib.hid (HA_j.out.agree (fun b hb => (hO).block b (HA_j.out.low hb) (hgD.out b hb)) (hO).size)
                have HB_k := Lib.hid (HB_j.out.trans ((hO).below (fun b hb => by rw [hb]; exact hwm) HB_j.out.size))
                have HH_k : Hid (Home w D' w7) := Lib.hid ⟨HH_j.out.tab, HH_j.out.max, HB_k.out, HH_j.out.own⟩
                have RL_k := Lib.hid (RL_j.out.agree famObj fun b hb => (hO).block b (ML_j.out b hb).1 (HEm.out b hb))
                have ML_k : Hid (∀ b, E5 b → b < w7.heap.size ∧ ¬ D' b) := Lib.hid fun b hb => ⟨Nat.lt_of_lt_of_le (ML_j.out b hb).1 hs_k, (ML_j.out b hb).2⟩
                clear HA_j HB_j HH_j RL_j ML_j
                clear hO hm7 ht7 MP_j hlk hgm hgx
                go_wp2_with fail
                go_roundg k8
                case measure => omega
                case rel => exact ⟨t + 1, bn + 1, by omega, by go_num, by go_num, Hbn', MP_k, HA_k, HB_k, HH_k, RL_k, ML_k⟩
    | succ k9 =>
      have hil : i < mn := by omega
      have HSi : Hid (OkSt (run St0 (l.take i))) := Lib.hid (okSt_run okSt0 _ (fun y hy => Hok2.out y (List.mem_of_mem_take hy)) (by show 0 + _ ≤ _; rw [List.length_take]; omega))
      have Hrev9 : Hid ((run St0 (l.take i)).rev ≤ 4194303) := Lib.hid (by have h9 := rev_run St0 (l.take i); have h8 : St0.rev = 0 := rfl; rw [List.length_take] at h9; omega)
      have HSj : Hid (OkSt (run St0 (l.take (i + 1)))) := Lib.hid (okSt_run okSt0 _ (fun y hy => Hok2.out y (List.mem_of_mem_take hy)) (by show 0 + _ ≤ _; rw [List.length_take]; omega))
      obtain ⟨x, hx⟩ : ∃ x, l[i]? = some x := ⟨l[i]'(by rw [HN2.out]; exact hil), List.getElem?_eq_getElem _⟩
      obtain ⟨b9, o9, v1, v2, v3, hva, g1, g2, g3, ec⟩ := step_cells HR2.out HN2.out HB_e.out hx
      subst hva
      obtain ⟨a7, c7, rfl, -, -⟩ := g1.len
      obtain ⟨a8, c8, rfl, -, -⟩ := g2.row.len
      obtain ⟨a9, c9, rfl, -, -⟩ := g3.row.len
      obtain ⟨n7, Hn7⟩ : ∃ n, Hid (x.o.labels.length = n) := ⟨_, Lib.hid rfl⟩
      obtain ⟨n8, Hn8⟩ : ∃ n, Hid (x.o.owners.length = n) := ⟨_, Lib.hid rfl⟩
      obtain ⟨n9, Hn9⟩ : ∃ n, Hid (x.o.holds.length = n) := ⟨_, Lib.hid rfl⟩
      rw [Hn7.out] at g1 ec
      rw [Hn8.out] at g2 ec
      rw [Hn9.out] at g3 ec
      have f0 := ec 0 _ rfl
      have f1 := ec 1 _ rfl
      have f2 := ec 2 _ rfl
      have f3 := ec 3 _ rfl
      have f4 := ec 4 _ rfl
      have f5 := ec 5 _ rfl
      have f6 := ec 6 _ rfl
      have f7 := ec 7 _ rfl
      have f8 := ec 8 _ rfl
      have f9 := ec 9 _ rfl
      have f10 := ec 10 _ rfl
      have f11 := ec 11 _ rfl
      rw [Nat.add_zero] at f0
      have q1 : (0 : Int) ≤ (i : Int) := by omega
      have q2 : (i : Int) < (mn : Int) := by omega
      have Hx := Lib.hid hx
      have G1 := Lib.hid g1
      have G2 := Lib.hid g2
      have G3 := Lib.hid g3
      have HokX : Hid (OkObj x.o) := Lib.hid (Hok2.out x (List.mem_of_getElem? hx))
      clear hx ec g1 g2 g3
      obtain ⟨gx, Hgx⟩ : ∃ gx, Hid (wr.heap.size = gx) := ⟨_, Lib.hid rfl⟩
      have h7_X := Lib.hid (heap_alloc_new wr (.cells #[.int .i64 0, .int .i64 0, .string { data := #[] }, .string { data := #[] }, .string { data := #[] }, .slice none 0 0, .slice none 0 0, .slice none 0 0, .bool false, .string { data := #[] }, .int .i64 0, .string { data := #[] }] 40))
      have h4_X := Lib.hid ((Below.refl wr.heap.size wr).alloc (Nat.le_refl _) (.cells #[.int .i64 0, .int .i64 0, .string { data := #[] }, .string { data := #[] }, .string { data := #[] }, .slice none 0 0, .slice none 0 0, .slice none 0 0, .bool false, .string { data := #[] }, .int .i64 0, .string { data := #[] }] 40))
      have hz9_X : Hid ((wr.alloc (.cells #[.int .i64 0, .int .i64 0, .string { data := #[] }, .string { data := #[] }, .string { data := #[] }, .slice none 0 0, .slice none 0 0, .slice none 0 0, .bool false, .string { data := #[] }, .int .i64 0, .string { data := #[] }] 40)).heap.size = wr.heap.size + 1) := Lib.hid (World.size_alloc _ _)
      go_wp2_with (refine wpList_store_box (by rfl) _ _ _ (by rfl) wr.heap.size #[.int .i64 x.kind, .int .i64 x.rev, .string x.o.okey.kind, .string x.o.okey.space, .string x.o.okey.name, .slice a7 n7 c7, .slice a8 n8 c8, .slice a9 n9 c9, .bool x.o.ending, .string x.o.uid, .int .i64 x.o.rev, .string x.o.doc] (by rfl) (by rfl) _ _ (by exact h7_X.out) (by exact Tryz.sizeStep) (by rfl) (by simp [Value.oneCell']) ?_)
      intro w6 b5 t5
      have hbb := t5.below h4_X.out (Nat.le_refl _)
      rw [Hgx.out] at b5 ⊢
      have hz_X : w6.heap.size = gx + 1 := by rw [← Hgx.out]; exact t5.size.trans hz9_X.out
      have hl_X : gx < w6.heap.size := by omega
      have hj_X : wr.heap.size ≤ gx := by rw [Hgx.out]; exact Nat.le_refl _
      have XX := Lib.hid b5
      have YX : Hid (∀ b, D' b → b ≠ gx) := Lib.hid fun b hb e => by have := HA_e.out.low hb; omega
      have hs_f := (hbb).size
      have HA_f := Lib.hid (HA_e.out.belowW hbb)
      have HB_f := Lib.hid (HB_e.out.trans ((hbb).mono HB_e.out.size))
      have HH_f := Lib.hid (HH_e.out.below hbb)
      clear HA_e HB_e HH_e
      have BX_f := XX
      have NX_f := YX
      have hbx := Lib.hid hbb
      clear b5 t5 hbb h7_X h4_X hz9_X XX YX hz_X

      have G1 := Lib.hid (G1.out.below stays_label hbx.out)
      have G2 := Lib.hid (G2.out.below hbx.out)
      have G3 := Lib.hid (G3.out.below hbx.out)
      have HDo := Lib.hid (do_any (w0 := w) HA_f.out HH_f.out HSi.out Hrev9.out x (.slice a7 n7 c7) (.slice a8 n8 c8) (.slice a9 n9 c9) G1.out G2.out G3.out HokX.out)
      rw [show stepW x (.slice a7 n7 c7) (.slice a8 n8 c8) (.slice a9 n9 c9) = .agg #[.int .i64 x.kind, .int .i64 x.rev, .string x.o.okey.kind, .string x.o.okey.space, .string x.o.okey.name, .slice a7 n7 c7, .slice a8 n8 c8, .slice a9 n9 c9, .bool x.o.ending, .string x.o.uid, .int .i64 x.o.rev, .string x.o.doc] from rfl] at HDo
      clear f0 f1 f2 f3 f4 f5 f6 f7 f8 f9 f10 f11 G1 G2 G3 hbx
      have cc := fun i => cell_block BX_f.out i
      go_wp2_with fail
      refine HDo.out.mono ?_
      rintro E w7 ⟨D9, E9, u1, u2, u3, rfl, k1, k2, k3, k4, k5⟩
      clear HDo cc
      obtain ⟨Y, HOY⟩ : ∃ y, Hid ((doS (run St0 (l.take i)) x).2.1 = y) := ⟨_, Lib.hid rfl⟩
      obtain ⟨er, HEr⟩ : ∃ y, Hid ((doS (run St0 (l.take i)) x).2.2 = y) := ⟨_, Lib.hid rfl⟩
      rw [HOY.out] at k2
      rw [HOY.out, HEr.out]
      have hs_h := k5.size
      have hz_h := HB_f.out.size
      have HA_h : Hid (StoreAt D9 w7 g (run St0 (l.take (i + 1)))) := Lib.hid (by rw [take_snoc Hx.out, run_snoc]; exact k1)
      have HB_h := Lib.hid (HB_f.out.trans (k5.below HH_f.out.own HB_f.out.size))
      have HH_h := Lib.hid (HH_f.out.only k5 k4)
      have BX_h := Lib.hid ((k5.block gx (by omega) fun hm => NX_f.out gx hm rfl).trans BX_f.out)
      have NX_h : Hid (∀ b, D9 b → b ≠ gx) := Lib.hid fun b hb e => (k4 b hb).elim (fun h => NX_f.out b h e) fun h => by omega
      have OY_h := Lib.hid k2
      have LY_h : Hid (∀ b, E9 b → b < w7.heap.size ∧ ¬ D9 b) := Lib.hid fun b hb => (k3 b hb).2
      clear HA_f HB_f HH_f BX_f NX_f
      clear k1 k2 k3 k4 k5
      obtain ⟨a1Y, c1Y, rfl, -, -⟩ := OY_h.out.rowL.len
      obtain ⟨a2Y, c2Y, rfl, -, -⟩ := OY_h.out.rowO.row.len
      obtain ⟨a3Y, c3Y, rfl, -, -⟩ := OY_h.out.rowH.row.len
      obtain ⟨n1Y, Hn1Y⟩ : ∃ n, Hid (Y.labels.length = n) := ⟨_, Lib.hid rfl⟩
      obtain ⟨n2Y, Hn2Y⟩ : ∃ n, Hid (Y.owners.length = n) := ⟨_, Lib.hid rfl⟩
      obtain ⟨n3Y, Hn3Y⟩ : ∃ n, Hid (Y.holds.length = n) := ⟨_, Lib.hid rfl⟩
      rw [Hn1Y.out, Hn2Y.out, Hn3Y.out] at OY_h ⊢
      obtain ⟨gy, Hgy⟩ : ∃ gy, Hid (w7.heap.size = gy) := ⟨_, Lib.hid rfl⟩
      have h7_Y := Lib.hid (heap_alloc_new w7 (.cells noA 30))
      have h4_Y := Lib.hid ((Below.refl w7.heap.size w7).alloc (Nat.le_refl _) (.cells noA 30))
      have hz9_Y : Hid ((w7.alloc (.cells noA 30)).heap.size = w7.heap.size + 1) := Lib.hid (World.size_alloc _ _)
      go_wp2_with (refine wpList_store_box (by rfl) _ _ _ (by rfl) w7.heap.size #[.string Y.okey.kind, .string Y.okey.space, .string Y.okey.name, .slice a1Y n1Y c1Y, .slice a2Y n2Y c2Y, .slice a3Y n3Y c3Y, .bool Y.ending, .string Y.uid, .int .i64 Y.rev, .string Y.doc] (by rfl) (by rfl) _ _ (by exact h7_Y.out) (by exact Tryz.sizeObj) (by rfl) (by simp [Value.oneCell']) ?_)
      intro w8 b5 t5
      have hbb := t5.below h4_Y.out (Nat.le_refl _)
      rw [Hgy.out] at b5 ⊢
      have hz_Y : w8.heap.size = gy + 1 := by rw [← Hgy.out]; exact t5.size.trans hz9_Y.out
      have hl_Y : gy < w8.heap.size := by omega
      have hj_Y : w7.heap.size ≤ gy := by rw [Hgy.out]; exact Nat.le_refl _
      have XY := Lib.hid b5
      have YY : Hid (∀ b, D9 b → b ≠ gy) := Lib.hid fun b hb e => by have := HA_h.out.low hb; omega
      have hs_i := (hbb).size
      have HA_i := Lib.hid (HA_h.out.belowW hbb)
      have HB_i := Lib.hid (HB_h.out.trans ((hbb).mono HB_h.out.size))
      have HH_i := Lib.hid (HH_h.out.below hbb)
      have BX_i := Lib.hid (below_block (hbb) BX_h.out)
      have NX_i := NX_h
      have OY_i := Lib.hid (OY_h.out.agree fun b hb => (hbb).block b (LY_h.out b hb).1)
      have LY_i : Hid (∀ b, E9 b → b < w8.heap.size ∧ ¬ D9 b) := Lib.hid fun b hb => ⟨Nat.lt_of_lt_of_le (LY_h.out b hb).1 hs_i, (LY_h.out b hb).2⟩
      clear HA_h HB_h HH_h BX_h NX_h OY_h LY_h
      have BY_i := XY
      have NY_i := YY
      clear b5 t5 hbb h7_Y h4_Y hz9_Y XY YY hz_Y
      obtain ⟨kk, Hkk⟩ : ∃ y, Hid (modI x.kind 4 = y) := ⟨_, Lib.hid rfl⟩
      have HSp : Hid (Calls Tryz.prog 21 #[.int .i64 x.kind, .int .i64 4] w8 fun e w' => e = .returned (.int .i64 kk) ∧ w8 = w') := Lib.hid (by rw [← Hkk.out]; exact step_any x.kind 4 w8 (by decide) (by decide))
      obtain ⟨q', Hq'⟩ : ∃ y, Hid (live (run St0 (l.take (i + 1))).log = y) := ⟨_, Lib.hid rfl⟩
      have hq1 := live_range HSi.out.good
      have hq2 := live_range HSj.out.good
      rw [Hq.out] at hq1
      rw [Hq'.out] at hq2
      obtain ⟨hq1, hq1'⟩ := hq1
      obtain ⟨hq2, hq2'⟩ := hq2
      have hdl : q' = q + if er = 0 then (if kk = 0 then 1 else if kk = 2 then -1 else 0) else 0 := by
        rw [← Hq'.out, take_snoc Hx.out, run_snoc, live_do, Hq.out]; unfold deltaS; rw [HEr.out, Hkk.out]
      have cx := fun i => cell_block BX_i.out i
      go_wp2_with fail
      refine HSp.out.mono ?_
      rintro E w9 ⟨rfl, hw9⟩
      subst hw9
      clear HSp cx
      by_cases he : er = 0
      · have e1 : (er == 0) = true := beq_iff_eq.2 he
        by_cases h0 : kk = 0
        · have e2 : (kk == 0) = true := beq_iff_eq.2 h0
          obtain rfl : q' = q + 1 := by rw [hdl, if_pos he, if_pos h0]
          have qw : IntKind.i64.wrap (q + 1) = q + 1 := IntWalk.i64_in _ (by omega)
          have e4 : decide (60 < q + 1) = false := decide_eq_false (by omega)
          have e5 : decide (q + 1 < 0) = false := decide_eq_false (by omega)
          clear hdl he h0
          go_wp2_with fail
          go_roundg k9
          case measure => omega
          case rel => exact ⟨i + 1, D9, _, by omega, by simp, rfl, Hq', HA_i, HB_i, HH_i⟩
        · have e2 : (kk == 0) = false := by rw [beq_eq_false_iff_ne]; exact h0
          by_cases h2 : kk = 2
          · have e3 : (kk == 2) = true := beq_iff_eq.2 h2
            obtain rfl : q' = q - 1 := by rw [hdl, if_pos he, if_neg h0, if_pos h2]; omega
            have qw : IntKind.i64.wrap (q - 1) = q - 1 := IntWalk.i64_in _ (by omega)
            have e4 : decide (60 < q - 1) = false := decide_eq_false (by omega)
            have e5 : decide (q - 1 < 0) = false := decide_eq_false (by omega)
            clear hdl he h0 h2
            go_wp2_with fail
            go_roundg k9
            case measure => omega
            case rel => exact ⟨i + 1, D9, _, by omega, by simp, rfl, Hq', HA_i, HB_i, HH_i⟩
          · have e3 : (kk == 2) = false := by rw [beq_eq_false_iff_ne]; exact h2
            obtain rfl : q' = q := by rw [hdl, if_pos he, if_neg h0, if_neg h2]; omega
            have e4 : decide (60 < q') = false := decide_eq_false (by omega)
            have e5 : decide (q' < 0) = false := decide_eq_false (by omega)
            clear hdl he h0 h2
            go_wp2_with fail
            go_roundg k9
            case measure => omega
            case rel => exact ⟨i + 1, D9, _, by omega, by simp, rfl, Hq', HA_i, HB_i, HH_i⟩
      · have e1 : (er == 0) = false := by rw [beq_eq_false_iff_ne]; exact he
        obtain rfl : q' = q := by rw [hdl, if_neg he]; omega
        have e4 : decide (60 < q') = false := decide_eq_false (by omega)
        have e5 : decide (q' < 0) = false := decide_eq_false (by omega)
        clear hdl he
        go_wp2_with fail
        go_roundg k9
        case measure => omega
        case rel => exact ⟨i + 1, D9, _, by omega, by simp, rfl, Hq', HA_i, HB_i, HH_i⟩
end Sto
end Go.Proofs.YtnnceaapodgfbaaGreatDoor
