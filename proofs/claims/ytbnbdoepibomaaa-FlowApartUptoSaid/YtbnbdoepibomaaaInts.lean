/- Slices of ints of the call's own; slices.Insert of one number: its contract. -/
import Derived.Test.YtbnbdoepibomaaaRowX
import Derived.Test.YtbnbdoepibomaaaShelf
import Derived.Shelf.Spec.SlicesInsertGrow
namespace Go.Proofs.Ytbnbdoepibomaaa
open Go.RowKit

def insRen : Go.Shelf.Ren := ⟨fun | 21 => 22 | 27 => 28 | 28 => 29 | 35 => 31 | 39 => 32 | n => n, fun | 0 => 0 | 3 => 3 | 4 => 4 | 22 => 22 | n => n, fun | n => n⟩
theorem insLays : Go.Proofs.Lays2.n21 Try.prog insRen := {
  mixed := by kernel_rfl
  f21 := Try.func22.trans (congrArg some (by kernel_rfl))
  f27 := Try.func28.trans (congrArg some (by kernel_rfl))
  f28 := Try.func29.trans (congrArg some (by kernel_rfl))
  f35 := Try.func31.trans (congrArg some (by kernel_rfl))
  f39 := Try.func32.trans (congrArg some (by kernel_rfl))
  t0 := Try.underlying0
  a0 := Try.isAgg0
  z0 := Try.sizeOf0
  v0 := Try.zeroValue0
  t3 := Try.underlying3
  a3 := Try.isAgg3
  z3 := Try.sizeOf3
  v3 := Try.zeroValue3
  t4 := Try.underlying4
  a4 := Try.isAgg4
  z4 := Try.sizeOf4
  v4 := Try.zeroValue4
  t22 := Try.underlying22
  a22 := Try.isAgg22
  z22 := Try.sizeOf22
  v22 := Try.zeroValue22
  i3 := by kernel_rfl }
abbrev RI : Rd Int := RInt .i64
theorem flat_int : Flat RI := fun _ _ _ _ h => h
theorem one_int : OneR RI := fun _ _ _ h u hu => by obtain ⟨h, _⟩ := h; rw [h] at hu; simp at hu; subst hu; rfl
theorem stays_int' : Stays RI := stays_int .i64
def ints (l : List Int) : List Value := l.map fun n => .int .i64 n
theorem ints_length (l : List Int) : (ints l).length = l.length := by simp [ints]
theorem ints_get {l : List Int} {j : Nat} {x : Int} (h : l[j]? = some x) : (ints l)[j]? = some (.int .i64 x) := by simp [ints, h]
def wfI (l : List Int) : Prop := ∀ x ∈ l, (Lit.int .i64 x).wf = true
theorem OwnAt.wfI {w : World} {B : Nat} {e : TypeId} {v : Value} {l : List Int} (h : OwnAt RI 1 w B e v l) : wfI l := fun x hx => by
  obtain ⟨css, h1, h2, h3, h4⟩ := h
  obtain ⟨j, hj⟩ := List.getElem?_of_mem hx
  have hjl := (List.getElem?_eq_some_iff.1 hj).1
  exact (h4 j (css[j]'(by omega)) x (List.getElem?_eq_getElem _) hj).2
theorem own_ints {w : World} {B : Nat} {e : TypeId} {v : Value} {l : List Int} (h : OwnAt RI 1 w B e v l) : w.ownsRow B e 1 v l.length (ints l) := by
  obtain ⟨css, h1, h2, h3, h4⟩ := h
  have : css.flatten = ints l := by
    apply List.ext_getElem?
    intro j
    by_cases hj : j < l.length
    · have hcs : css[j]? = some css[j] := List.getElem?_eq_getElem (by omega)
      have hR : css[j] = [.int .i64 l[j]] := (h4 j _ _ hcs (List.getElem?_eq_getElem hj)).1
      have := get_flat h2 (j := j) (i := 0) hcs (u := .int .i64 l[j]) (by rw [hR]; rfl)
      rw [Nat.mul_one, Nat.add_zero] at this
      rw [this]
      simp [ints, hj]
    · rw [List.getElem?_eq_none (by rw [flat_len h2]; omega), List.getElem?_eq_none (by rw [ints_length]; omega)]
  rwa [this] at h3
theorem ownAt_ints {w : World} {B n : Nat} {e : TypeId} {v : Value} {l : List Int} (h : w.ownsRow B e 1 v n (ints l)) (hn : l.length = n) (hw : wfI l) : OwnAt RI 1 w B e v l := by
  subst hn
  refine ⟨l.map fun x => [.int .i64 x], by simp, fun cs hcs => ?_, ?_, fun j cs x hcs hx => ?_⟩
  · obtain ⟨x, _, rfl⟩ := List.mem_map.1 hcs; rfl
  · have key : ∀ m : List Int, (m.map fun x => [Value.int .i64 x]).flatten = ints m := fun m => by
      induction m with
      | nil => rfl
      | cons y r ih => rw [List.map_cons, List.flatten_cons, ih]; rfl
    rw [key]; exact h
  · simp only [List.getElem?_map, hx, Option.map_some, Option.some.injEq] at hcs
    exact ⟨hcs.symm, hw x (List.mem_of_getElem? hx)⟩
/-- a block whose first cells are these numbers -/
theorem own_of_block {w : World} {B g c : Nat} {e : TypeId} {cur : Array Value} {l : List Int} (hh : w.heap[g]? = some (.cells cur e (0, 0))) (hB : B ≤ g) (hc : l.length ≤ c) (hm : c ≤ maxLen) (hz : cur.size = c) (hcell : ∀ (j : Nat) (x : Int), l[j]? = some x → cur[j]? = some (Value.int .i64 x)) (hw : wfI l) :
    OwnAt RI 1 w B e (.slice (some ⟨g, 0, none⟩) l.length c) l := by
  refine ownAt_ints (n := l.length) ⟨by simp [ints], .inr ⟨g, c, cur, rfl, hB, hh, hc, hm, by rw [hz, Nat.mul_one], ?_⟩⟩ rfl hw
  apply List.ext_getElem?
  intro j
  by_cases hj : j < l.length
  · have hx : l[j]? = some l[j] := List.getElem?_eq_getElem hj
    rw [List.getElem?_take_of_lt (by omega), Array.getElem?_toList, hcell j _ hx, ints_get hx]
  · rw [List.getElem?_eq_none (by simp; omega), List.getElem?_eq_none (by rw [ints_length]; omega)]
theorem insert_get {l : List Int} {k : Nat} (hk : k ≤ l.length) (x : Int) (j : Nat) : (l.take k ++ x :: l.drop k)[j]? = if j < k then l[j]? else if j = k then some x else l[j - 1]? := by
  have hl : (l.take k).length = k := by rw [List.length_take]; omega
  by_cases h1 : j < k
  · rw [if_pos h1, List.getElem?_append_left (by omega), List.getElem?_take_of_lt h1]
  · rw [if_neg h1, List.getElem?_append_right (by omega), hl]
    by_cases h2 : j = k
    · rw [if_pos h2, h2, Nat.sub_self]; rfl
    · rw [if_neg h2, show j - k = (j - 1 - k) + 1 by omega, List.getElem?_cons_succ, List.getElem?_drop]
      congr 1; omega
theorem insert_len {l : List Int} {k : Nat} (hk : k ≤ l.length) (x : Int) : (l.take k ++ x :: l.drop k).length = l.length + 1 := by
  rw [List.length_append, List.length_take, List.length_cons, List.length_drop]; omega
theorem wfI_insert {l : List Int} {k : Nat} {x : Int} (h : wfI l) (hx : (Lit.int .i64 x).wf = true) : wfI (l.take k ++ x :: l.drop k) := fun y hy => by
  rcases List.mem_append.1 hy with h1 | h1
  · exact h y (List.mem_of_mem_take h1)
  · rcases List.mem_cons.1 h1 with rfl | h1
    · exact hx
    · exact h y (List.mem_of_mem_drop h1)
/-- stores into a row of the call's own, one behind the other -/
theorem setCells_rowI (g : Nat) (t : TypeId) : ∀ (vs : List Value) (i : Nat) (cur : Array Value) (w : World), w.heap[g]? = some (.cells cur t (0, 0)) → i + vs.length ≤ cur.size →
    ∃ cur', (w.setCells g i vs).heap[g]? = some (.cells cur' t (0, 0)) ∧ cur'.size = cur.size ∧ (∀ j, j < i → cur'[j]? = cur[j]?) ∧ (∀ j u, vs[j]? = some u → cur'[i + j]? = some u) ∧ Touch g w (w.setCells g i vs)
  | [], i, cur, w, hg, _ => ⟨cur, hg, rfl, fun _ _ => rfl, fun j u h => by simp at h, ⟨rfl, rfl, rfl, rfl, fun _ _ => rfl⟩⟩
  | v :: r, i, cur, w, hg, hl => by
    simp only [List.length_cons] at hl
    obtain ⟨h1, h2⟩ := touch_setCell (w := w) (i := i) (v := v) hg
    obtain ⟨cur', g1, g2, g3, g4, g5⟩ := setCells_rowI g t r (i + 1) _ _ h1 (by simp; omega)
    refine ⟨cur', g1, by simpa using g2, fun j hj => ?_, fun j u hu => ?_, ?_⟩
    · rw [g3 j (by omega), Array.getElem?_setIfInBounds, if_neg (by omega)]
    · cases j with
      | zero =>
        simp only [List.getElem?_cons_zero, Option.some.injEq] at hu
        subst hu
        rw [Nat.add_zero, g3 i (by omega), Array.getElem?_setIfInBounds, if_pos rfl, if_pos (by omega)]
      | succ j =>
        have := g4 j u (by simpa using hu)
        rwa [show i + 1 + j = i + (j + 1) by omega] at this
    · show Touch g w ((w.setCell ⟨g, i, none⟩ v).setCells g (i + 1) r)
      exact ⟨g5.os.trans h2.os, g5.tape.trans h2.tape, g5.output.trans h2.output, g5.size.trans h2.size, fun b hb => (g5.other b hb).trans (h2.other b hb)⟩
/-- only a row of the call's own has turned, or a new block has come -/
def GrowI (v : Value) (w w' : World) : Prop := ∃ r : Option Nat, w.grownBy w' r ∧ ∀ g, r = some g → v.ownBlock = some g
theorem growI_touch {g n c : Nat} {w w' : World} (h : Touch g w w') : GrowI (.slice (some ⟨g, 0, none⟩) n c) w w' :=
  ⟨some g, ⟨h.os, h.tape, h.output, by rw [h.size]; exact Nat.le_refl _, fun k _ hk => h.other k (fun e => hk (by rw [e]))⟩, fun q hq => by cases hq; rfl⟩
theorem growI_below {v : Value} {w w' : World} (h : Below w.heap.size w w') : GrowI v w w' :=
  ⟨none, ⟨h.os, h.tape, h.output, h.size, fun k hk _ => h.block k hk⟩, fun q hq => by cases hq⟩
set_option maxRecDepth 100000 in
set_option maxHeartbeats 800000 in
theorem insertInt_any (v : Value) (l : List Int) (B k : Nat) (x : Int) (g2 : Nat) (w : World) (h : OwnAt RI 1 w B 3 v l) (hk : k ≤ l.length) (hx : (Lit.int .i64 x).wf = true) (h2 : w.heap[g2]? = some (.cells #[.int .i64 x] 3 (0, 0))) (hBw : B ≤ w.heap.size)
    (hne : ∀ g, v.ownBlock = some g → g ≠ g2) (hl : l.length ≤ 1048576) :
    Calls Try.prog 22 #[v, .int .i64 (k : Int), .slice (some ⟨g2, 0, none⟩) 1 1] w fun e w' => ∃ v', e = .returned v' ∧ OwnAt RI 1 w' B 3 v' (l.take k ++ x :: l.drop k) ∧ GrowI v w w' ∧ (v'.ownBlock = v.ownBlock ∨ v'.ownBlock = some w.heap.size) := by
  have hwf := wfI_insert (k := k) h.wfI hx
  have ho := own_ints h
  have hvs : ∀ (j : Nat) (u : Value), [Value.int .i64 x][j]? = some u → w.cell? ⟨g2, 0 + j, none⟩ = some u := fun j u hu => by
    rw [Nat.zero_add, cell_block h2]
    simpa using hu
  have h1v : ∀ u ∈ [Value.int .i64 x], u.oneCell' = true := fun u hu => by simp at hu; subst hu; rfl
  have h1c : ∀ u ∈ ints l, u.oneCell' = true := fun u hu => by obtain ⟨y, _, rfl⟩ := List.mem_map.1 hu; rfl
  have hap : ints l ++ [Value.int .i64 x] = ints (l ++ [x]) := by simp [ints]
  rcases ho.2 with ⟨rfl, h0⟩ | ⟨g, c, cur, rfl, hB, hh, hlc, hc, hcs, htk⟩
  · obtain rfl : l = [] := List.eq_nil_of_length_eq_zero h0
    obtain rfl : k = 0 := by simpa using hk
    refine (Any2.slices_Insert_int_end_grow insLays none 0 0 g2 0 1 1 [] [.int .i64 x] w (by omega) (by omega) (by omega) (by omega) rfl rfl (fun _ => rfl) (fun a ha => by cases ha) hvs h1v).mono ?_
    rintro e w' ⟨rfl, rfl⟩
    try rw [show insRen.t 3 = 3 from rfl]
    have hg1 := grownCap_ge w (0 + 1) 0 3
    have hg2 := grownCap_le_maxLen w (0 + 1) 0 3 (by unfold maxLen; omega)
    refine ⟨_, rfl, own_of_block (l := [x]) (c := grownCap w (0 + 1) 0 3) (heap_alloc_new w.drew _) hBw (by simpa using hg1) hg2 ?_ ?_ (by simpa using hwf), growI_below (Below.alloc (Below.refl _ w).drew (Nat.le_refl _) _), .inr rfl⟩
    · rw [Array.size_append, size_zeroCells]
      have hvc : (Value.int .i64 0).cells.size = 1 := rfl
      rw [hvc]
      show 1 + _ = _
      omega
    · intro j y hj
      match j, hj with
      | 0, hj =>
        simp at hj
        subst hj
        rw [Array.getElem?_append_left (by simp)]
        rfl
  · have hcell : ∀ (j : Nat) (u : Value), (ints l)[j]? = some u → w.cell? ⟨g, 0 + j, none⟩ = some u := fun j u hu => by
      have := ho.cells (g := g) rfl j u hu
      rwa [add_plain'] at this
    have hcur : ∀ (j : Nat) (y : Int), l[j]? = some y → cur[j]? = some (.int .i64 y) := fun j y hy => by
      have := hcell j _ (ints_get hy)
      rwa [Nat.zero_add, cell_block hh] at this
    have hfz : ∀ j, w.frozen? ⟨g, j, none⟩ = false := fun j => free_block hh j
    have hsome : ∀ j, j < c → (w.cell? ⟨g, j, none⟩).isSome = true := fun j hj => by rw [cell_block hh]; simp; omega
    have hgw : g < w.heap.size := by
      rcases Nat.lt_or_ge g w.heap.size with h9 | h9
      · exact h9
      · rw [Array.getElem?_eq_none h9] at hh; cases hh
    rcases Nat.lt_or_ge k l.length with hkl | hkl
    · rcases Nat.lt_or_ge l.length c with hroom | hroom
      · refine (Any2.slices_Insert_int_shift insLays g 0 l.length c k g2 0 1 1 (ints l) [.int .i64 x] w hkl (by omega) (by omega) (by unfold maxLen at hc; omega) (fun e => hne g rfl e.symm) (ints_length l) rfl hcell (fun j hj => by rw [Nat.zero_add]; exact hsome j (by omega)) (fun j _ => by rw [Nat.zero_add]; exact hfz j) hvs h1c h1v
          3 3 1 c (by unfold World.shape?; rw [h2]; rfl) (by unfold World.shape?; rw [hh]; simp; omega) (by omega) (free_block h2 _) (free_block h2 _)).mono ?_
        rintro e w' ⟨rfl, rfl⟩
        try rw [show insRen.t 3 = 3 from rfl]
        have hh1 : w.drew.heap[g]? = some (.cells cur 3 (0, 0)) := hh
        have hdl : ((ints l).drop k).length = l.length - k := by rw [List.length_drop, ints_length]
        obtain ⟨cur1, p1, p2, p3, p4, p5⟩ := setCells_rowI g 3 ((ints l).drop k) (0 + (k + 1)) cur w.drew hh1 (by rw [hdl]; omega)
        obtain ⟨cur2, r1, r2, r3, r4, r5⟩ := setCells_rowI g 3 [.int .i64 x] (0 + k) cur1 _ p1 (by simp; omega)
        have hr6 : ∀ j, k + 1 ≤ j → cur2[j]? = cur1[j]? := fun j hj => by
          have h8 : ((w.drew.setCells g (0 + (k + 1)) ((ints l).drop k)).setCells g (0 + k) [.int .i64 x]).cell? ⟨g, j, none⟩ = (w.drew.setCells g (0 + (k + 1)) ((ints l).drop k)).cell? ⟨g, j, none⟩ :=
            World.cell?_setCells_out g _ _ _ _ (fun _ _ => .inr (by simp; omega))
          rwa [cell_block r1, cell_block p1] at h8
        refine ⟨_, rfl, ?_, growI_touch (⟨r5.os.trans p5.os, r5.tape.trans p5.tape, r5.output.trans p5.output, r5.size.trans p5.size, fun b hb => (r5.other b hb).trans (p5.other b hb)⟩ : Touch g w _), .inl rfl⟩
        have hI := own_of_block (l := l.take k ++ x :: l.drop k) (c := c) (B := B) r1 hB (by rw [insert_len hk]; omega) hc (by rw [r2, p2, hcs, Nat.mul_one]) (fun j y hj => by
          rw [insert_get hk] at hj
          by_cases h5 : j < k
          · rw [if_pos h5] at hj
            rw [r3 j (by omega), p3 j (by omega)]
            exact hcur j y hj
          · rw [if_neg h5] at hj
            by_cases h6 : j = k
            · rw [if_pos h6] at hj
              cases hj
              subst h6
              have := r4 0 _ rfl
              rwa [Nat.zero_add, Nat.add_zero] at this
            · rw [if_neg h6] at hj
              rw [hr6 j (by omega)]
              have := p4 (j - (k + 1)) (.int .i64 y) (by rw [List.getElem?_drop, show k + (j - (k + 1)) = j - 1 by omega]; exact ints_get hj)
              rwa [Nat.zero_add, show k + 1 + (j - (k + 1)) = j by omega] at this) hwf
        rw [insert_len hk] at hI
        exact hI
      · obtain rfl : c = l.length := by omega
        refine (Any2.slices_Insert_int_grow insLays g 0 l.length l.length k g2 0 1 1 (ints l) [.int .i64 x] w hkl (by omega) (by omega) (by omega) (by omega) (ints_length l) rfl hcell hvs h1c h1v).mono ?_
        rintro e w' ⟨rfl, rfl⟩
        try rw [show insRen.t 3 = 3 from rfl]
        have hg1 := grownCap_ge w (l.length + 1) l.length 3
        have hg2 := grownCap_le_maxLen w (l.length + 1) l.length 3 (by unfold maxLen; omega)
        obtain ⟨C, hC⟩ : ∃ C, C = grownCap w (l.length + 1) l.length 3 := ⟨_, rfl⟩
        rw [← hC] at hg1 hg2 ⊢
        obtain ⟨cs0, hcs0⟩ : ∃ cs0, cs0 = ((ints l).take k).toArray ++ Builtin.zeroCells (Value.int .i64 0).cells (l.length + 1 - k) ++ Builtin.zeroCells (Value.int .i64 0).cells (C - (l.length + 1)) := ⟨_, rfl⟩
        rw [← hcs0]
        have hz0 : cs0.size = C := by rw [hcs0, Array.size_append, Array.size_append, size_zeroCells, size_zeroCells]; simp [ints, Value.cells]; omega
        have hlow : ∀ (j : Nat) (y : Int), j < k → l[j]? = some y → cs0[j]? = some (.int .i64 y) := fun j y hj hy => by
          rw [hcs0, Array.append_assoc, Array.getElem?_append_left (by simp [ints]; omega)]
          simp only [List.getElem?_toArray]
          rw [List.getElem?_take_of_lt hj]
          exact ints_get hy
        obtain ⟨w1, hw1⟩ : ∃ w1, w1 = (w.alloc (.cells cs0 3)).drew := ⟨_, rfl⟩
        have hb1 : w1.heap[w.heap.size]? = some (.cells cs0 3 (0, 0)) := by rw [hw1]; exact heap_alloc_new w _
        have hB1 : Below w.heap.size w w1 := by rw [hw1]; exact ((Below.refl _ w).alloc (Nat.le_refl _) _).drew
        rw [← hw1]
        obtain ⟨cur1, p1, p2, p3, p4, p5⟩ := setCells_rowI w.heap.size 3 [.int .i64 x] k cs0 w1 hb1 (by simp; omega)
        have p1' : ((w1.setCells w.heap.size k [.int .i64 x]).drew).heap[w.heap.size]? = some (.cells cur1 3 (0, 0)) := p1
        have hdl : ((ints l).drop k).length = l.length - k := by rw [List.length_drop, ints_length]
        obtain ⟨cur2, r1, r2, r3, r4, r5⟩ := setCells_rowI w.heap.size 3 ((ints l).drop k) (k + 1) cur1 _ p1' (by rw [hdl]; omega)
        have hbT : Below w.heap.size w ((w1.setCells w.heap.size k [.int .i64 x]).drew.setCells w.heap.size (k + 1) ((ints l).drop k)) :=
          Touch.below r5 (Below.drew (Touch.below p5 hB1 (Nat.le_refl _))) (Nat.le_refl _)
        refine ⟨_, rfl, ?_, growI_below hbT, .inr rfl⟩
        have hI := own_of_block (l := l.take k ++ x :: l.drop k) (c := C) (B := B) r1 hBw (by rw [insert_len hk]; omega) hg2 (by rw [r2, p2, hz0]) (fun j y hj => by
          rw [insert_get hk] at hj
          by_cases h5 : j < k
          · rw [if_pos h5] at hj
            rw [r3 j (by omega), p3 j (by omega)]
            exact hlow j y h5 hj
          · rw [if_neg h5] at hj
            by_cases h6 : j = k
            · rw [if_pos h6] at hj
              cases hj
              subst h6
              rw [r3 j (by omega)]
              have := p4 0 _ rfl
              rwa [Nat.add_zero] at this
            · rw [if_neg h6] at hj
              have := r4 (j - (k + 1)) (.int .i64 y) (by rw [List.getElem?_drop, show k + (j - (k + 1)) = j - 1 by omega]; exact ints_get hj)
              rwa [show k + 1 + (j - (k + 1)) = j by omega] at this) hwf
        rw [insert_len hk] at hI
        exact hI
    · obtain rfl : k = l.length := by omega
      have hend : l.take l.length ++ x :: l.drop l.length = l ++ [x] := by rw [List.take_length, List.drop_length]
      rw [hend] at hwf ⊢
      have hget : ∀ (j : Nat) (y : Int), (l ++ [x])[j]? = some y → (j < l.length ∧ l[j]? = some y) ∨ (j = l.length ∧ y = x) := fun j y hj => by
        by_cases h5 : j < l.length
        · rw [List.getElem?_append_left h5] at hj; exact .inl ⟨h5, hj⟩
        · rw [List.getElem?_append_right (by omega)] at hj
          have h6 := (List.getElem?_eq_some_iff.1 hj).1
          have h7 : j = l.length := by simp at h6; omega
          subst h7
          rw [Nat.sub_self] at hj
          exact .inr ⟨rfl, by simpa using hj.symm⟩
      rcases Nat.lt_or_ge l.length c with hroom | hroom
      · refine (Any2.slices_Insert_int_end_room insLays g 0 l.length c g2 0 1 1 [.int .i64 x] w (by omega) (by omega) (by unfold maxLen at hc; omega) rfl (fun j hj => by rw [Nat.zero_add]; exact hsome _ (by omega)) (fun j _ => by rw [Nat.zero_add]; exact hfz _) hvs h1v).mono ?_
        rintro e w' ⟨rfl, rfl⟩
        try rw [show insRen.t 3 = 3 from rfl]
        obtain ⟨cur1, p1, p2, p3, p4, p5⟩ := setCells_rowI g 3 [.int .i64 x] (0 + l.length) cur w hh (by simp; omega)
        refine ⟨_, rfl, ?_, growI_touch p5, .inl rfl⟩
        have hI := own_of_block (l := l ++ [x]) (c := c) (B := B) p1 hB (by simp; omega) hc (by rw [p2, hcs, Nat.mul_one]) (fun j y hj => by
          rcases hget j y hj with ⟨h5, h6⟩ | ⟨rfl, rfl⟩
          · rw [p3 j (by omega)]; exact hcur j y h6
          · have := p4 0 _ rfl
            rwa [Nat.zero_add, Nat.add_zero] at this) hwf
        rw [List.length_append] at hI
        exact hI
      · obtain rfl : c = l.length := by omega
        refine (Any2.slices_Insert_int_end_grow insLays (some ⟨g, 0, none⟩) l.length l.length g2 0 1 1 (ints l) [.int .i64 x] w (by omega) (by omega) (by omega) (by omega) (ints_length l) rfl (fun e => by cases e) (fun a ha j u hu => by cases ha; rw [add_plain']; exact hcell j u hu) hvs h1v).mono ?_
        rintro e w' ⟨rfl, rfl⟩
        try rw [show insRen.t 3 = 3 from rfl]
        have hg1 := grownCap_ge w (l.length + 1) l.length 3
        have hg2 := grownCap_le_maxLen w (l.length + 1) l.length 3 (by unfold maxLen; omega)
        refine ⟨_, rfl, ?_, growI_below (Below.alloc (Below.refl _ w).drew (Nat.le_refl _) _), .inr rfl⟩
        have hI := own_of_block (l := l ++ [x]) (c := grownCap w (l.length + 1) l.length 3) (B := B) (heap_alloc_new w.drew (.cells ((ints l ++ [Value.int .i64 x]).toArray ++ Builtin.zeroCells (Value.int .i64 0).cells (grownCap w (l.length + 1) l.length 3 - (l.length + 1))) 3)) hBw (by simpa using hg1) hg2 (by rw [Array.size_append, size_zeroCells]; simp [ints, Value.cells]; omega) (fun j y hj => by
          have hjl := (List.getElem?_eq_some_iff.1 hj).1
          rw [Array.getElem?_append_left (by simp [ints] at hjl ⊢; omega), hap]
          simp only [List.getElem?_toArray]
          exact ints_get hj) hwf
        rw [List.length_append] at hI
        exact hI
end Go.Proofs.Ytbnbdoepibomaaa
