/- Blocks of the call's own that hold one thing each (boxes): stores and loads of the whole and of a field. Any program. -/
import Derived.Test.YtaddcchpidpbfaaDoorRow
import Derived.Test.YtaddcchpidpbfaaDoorRel
import Derived.Laws.Tables
import Derived.Laws.Rows
namespace Go.Proofs.YtaddcchpidpbfaaDoor
open Go.RowKit

/-- one block has turned, no other -/
structure Touch (g : Nat) (w W : World) : Prop where
  os : W.os = w.os
  tape : W.tape = w.tape
  output : W.output = w.output
  size : W.heap.size = w.heap.size
  other : ∀ b, b ≠ g → W.heap[b]? = w.heap[b]?

section
variable {g B : Nat} {a w W : World}
theorem Touch.below (h : Touch g w W) (hb : Below B a w) (hg : B ≤ g) : Below B a W :=
  hb.trans ⟨h.os, h.tape, h.output, by rw [h.size]; exact Nat.le_refl _, fun k hk => h.other k (by omega)⟩
theorem Touch.block (h : Touch g w W) {b : Nat} {x : Obj} (hx : w.heap[b]? = some x) (hne : b ≠ g) : W.heap[b]? = some x := (h.other b hne).trans hx
theorem below_block (h : Below w.heap.size w W) {b : Nat} {x : Obj} (hx : w.heap[b]? = some x) : W.heap[b]? = some x := by
  have hb : b < w.heap.size := by
    rcases Nat.lt_or_ge b w.heap.size with h1 | h1
    · exact h1
    · rw [Array.getElem?_eq_none h1] at hx; cases hx
  exact (h.block b hb).trans hx
theorem touch_setRow (w : World) (g : Nat) (cs : Array Value) : Touch g w (w.setRow g cs) := ⟨rfl, rfl, rfl, by simp, fun b hb => setRow_other w g b cs hb⟩
theorem OwnAt.touch {α : Type} {R : Rd α} {k : Nat} {e : TypeId} {v : Value} {l : List α} (hf : Flat R) (h : OwnAt R k w B e v l) (ht : Touch g w W) (hne : ∀ q, v.ownBlock = some q → q ≠ g) : OwnAt R k W B e v l := by
  obtain ⟨css, h1, h2, h3, h4⟩ := h
  refine ⟨css, h1, h2, ⟨h3.1, ?_⟩, fun j cs y hcs hy => hf _ _ _ _ (h4 j cs y hcs hy)⟩
  rcases h3.2 with h5 | ⟨q, cap, cur, rfl, hB, hh, hr⟩
  · exact .inl h5
  · exact .inr ⟨q, cap, cur, rfl, hB, (ht.other q (hne q rfl)).trans hh, hr⟩
theorem OwnAt.touchLow {α : Type} {R : Rd α} {k : Nat} {e : TypeId} {v : Value} {l : List α} (hf : Flat R) (h : OwnAt R k w B e v l) (ht : Touch g w W) (hg : g < B) : OwnAt R k W B e v l :=
  h.touch hf ht fun q hq => by have := (h.at hq).1; omega
end

section
variable {P : Program} {ops : Array Oper} {rest : List Oper} {o : Oper} {a : Act} {w : World} {Q : Exit → Act → World → Prop}
/-- (the walk stands at a continuation: on to the operations that are left) -/
theorem at_last {l : List Oper} {K : Act → World → Prop} (hK : ∀ a w, wpList P ops Q l a w → K a w) (h : wpList P ops Q l a w) : K a w := hK _ _ h
/-- the whole is stored -/
theorem wpList_store_box (hgd : o.guard = none) (ty : TypeId) (x y : Operand) (ho : o.op = .store ty x y) (g : Nat) (cells : Array Value) (hx : a.eval x = .pointer (some ⟨g, 0, none⟩)) (hy : a.eval y = .agg cells)
    (t : TypeId) (old : Array Value) (hg : w.heap[g]? = some (.cells old t (0, 0))) (hi : (P.info? ty).map (·.size) = some cells.size) (hold : old.size = cells.size) (h1 : cells.all (·.oneCell') = true)
    (h : ∀ W, W.heap[g]? = some (.cells cells t (0, 0)) → Touch g w W → wpList P ops Q rest (a.put o.dst undef) W) : wpList P ops Q (o :: rest) a w :=
  wpList_store_row hgd ty x y ho g cells hx hy t old hg hi hold h1 (h _ (setRow_heap w g old cells t (0, 0) hg) (touch_setRow w g cells))
/-- the whole of one box is loaded and stored into another -/
theorem wpList_copy_box {o2 : Oper} (hgd : o.guard = none) (ty : TypeId) (x : Operand) (ho : o.op = .load ty x) (hgd2 : o2.guard = none) (y z : Operand) (ho2 : o2.op = .store ty y z) (g1 g2 : Nat) (hx : a.eval x = .pointer (some ⟨g1, 0, none⟩))
    (t1 : TypeId) (cells : Array Value) (fr : Nat × Nat) (d : TypeDesc) (hg1 : w.heap[g1]? = some (.cells cells t1 fr)) (hy : (a.put o.dst (.agg cells)).eval y = .pointer (some ⟨g2, 0, none⟩)) (hz : (a.put o.dst (.agg cells)).eval z = .agg cells)
    (t : TypeId) (old : Array Value) (hg : w.heap[g2]? = some (.cells old t (0, 0))) (hu : P.underlying ty = some d) (hd : (match d with | .struct _ | .array _ _ => true | _ => false) = true)
    (hi : (P.info? ty).map (·.size) = some cells.size) (hold : old.size = cells.size) (h1 : cells.all (·.oneCell') = true)
    (h : ∀ W, W.heap[g2]? = some (.cells cells t (0, 0)) → Touch g2 w W → wpList P ops Q rest ((a.put o.dst (.agg cells)).put o2.dst undef) W) : wpList P ops Q (o :: o2 :: rest) a w :=
  wpList_load_row hgd ty x ho g1 hx t1 cells fr d hg1 hu hd hi (wpList_store_box hgd2 ty y z ho2 g2 cells hy hz t old hg hi hold h1 h)
/-- a store into one cell of a box -/
theorem touch_setCell {g i : Nat} {cs : Array Value} {t : TypeId} {v : Value} (hg : w.heap[g]? = some (.cells cs t (0, 0))) : (w.setCell ⟨g, i, none⟩ v).heap[g]? = some (.cells (cs.setIfInBounds i v) t (0, 0)) ∧ Touch g w (w.setCell ⟨g, i, none⟩ v) := by
  rw [setCell_eq_setRow w g i cs t (0, 0) v hg]
  exact ⟨setRow_heap w g _ _ t _ hg, touch_setRow w g _⟩
theorem results_two_box {fn : Func} {p q : Tmp} {ty : TypeId} (h : fn.results = #[.cell p ty, .tmp q]) (tmps : Array Value) (w : World) (g : Nat) (t : TypeId) (cs : Array Value) (fr : Nat × Nat) (d : TypeDesc)
    (hp : tmps.getD p undef = .pointer (some ⟨g, 0, none⟩)) (hg : w.heap[g]? = some (.cells cs t fr))
    (hu : P.underlying ty = some d) (hd : (match d with | .struct _ | .array _ _ => true | _ => false) = true) (hi : (P.info? ty).map (·.size) = some cs.size) :
    (results fn tmps).run P w = .ok (.tuple #[.agg cs, tmps.getD q undef]) w := by
  have hp' : tmps[p]?.getD undef = .pointer (some ⟨g, 0, none⟩) := by simpa using hp
  simp [results, h, hp', asAddr, run_loadVar_row w g t ty cs fr d hg hu hd hi]
theorem results_three_box {fn : Func} {p q r : Tmp} {ty : TypeId} (h : fn.results = #[.cell p ty, .tmp q, .tmp r]) (tmps : Array Value) (w : World) (g : Nat) (t : TypeId) (cs : Array Value) (fr : Nat × Nat) (d : TypeDesc)
    (hp : tmps.getD p undef = .pointer (some ⟨g, 0, none⟩)) (hg : w.heap[g]? = some (.cells cs t fr))
    (hu : P.underlying ty = some d) (hd : (match d with | .struct _ | .array _ _ => true | _ => false) = true) (hi : (P.info? ty).map (·.size) = some cs.size) :
    (results fn tmps).run P w = .ok (.tuple #[.agg cs, tmps.getD q undef, tmps.getD r undef]) w := by
  have hp' : tmps[p]?.getD undef = .pointer (some ⟨g, 0, none⟩) := by simpa using hp
  simp [results, h, hp', asAddr, run_loadVar_row w g t ty cs fr d hg hu hd hi]

/-- (in a region that draws) the whole of a box is stored -/
theorem owesK_store {Ri : Value → World → Prop} {Ki : World → World → Prop} (hgd : o.guard = none) (ty : TypeId) (x y : Operand) (ho : o.op = .store ty x y) (g : Nat) (cells : Array Value) (hx : a.eval x = .pointer (some ⟨g, 0, none⟩)) (hy : a.eval y = .agg cells)
    (t : TypeId) (old : Array Value) (hg : w.heap[g]? = some (.cells old t (0, 0))) (hi : (P.info? ty).map (·.size) = some cells.size) (hold : old.size = cells.size) (h1 : cells.all (·.oneCell') = true)
    (h : ∀ W, W.heap[g]? = some (.cells cells t (0, 0)) → Touch g w W → Ri undef W ∧ Ki w W) : owesK P ops Ri Ki a o w := by
  have h2 := h _ (setRow_heap w g old cells t (0, 0) hg) (touch_setRow w g cells)
  refine owesK_skip (w' := w.setRow g cells) hgd ?_ h2.1 h2.2
  unfold execOp
  simp only [ho, hx, hy, Instr.storeAt, Instr.sureAddr, Sem.run_bind, Sem.run_pure, Result.andThen_ok, run_storeVar_row w g t ty old cells hg hi hold h1]
end
theorem flat_set {β : Type} {k : Nat} : ∀ {css : List (List β)}, (∀ cs ∈ css, cs.length = k) → ∀ {j i : Nat} {cs : List β} (u : β), css[j]? = some cs → i < k → css.flatten.set (j * k + i) u = (css.set j (cs.set i u)).flatten
  | [], _, j, i, cs, u, h, _ => by simp at h
  | c :: r, hk, j, i, cs, u, h, hi => by
    have hc : c.length = k := hk c (List.mem_cons_self ..)
    cases j with
    | zero =>
      simp only [List.getElem?_cons_zero, Option.some.injEq] at h
      subst h
      rw [List.flatten_cons, List.set_cons_zero, List.flatten_cons, Nat.zero_mul, Nat.zero_add, List.set_append_left _ _ (by omega)]
    | succ j =>
      rw [List.flatten_cons, List.set_cons_succ, List.flatten_cons, List.set_append_right _ _ (by rw [Nat.add_mul]; omega), show (j + 1) * k + i - c.length = j * k + i by rw [Nat.add_mul]; omega,
        flat_set (fun cs hcs => hk cs (List.mem_cons_of_mem _ hcs)) u (by simpa using h) hi]
/-- a cell of an own row is stored -/
theorem OwnAt.store {α : Type} {R : Rd α} {k : Nat} {l : List α} {B : Nat} {e : TypeId} (hf : Flat R) {w : World} {g c n : Nat} (h : OwnAt R k w B e (.slice (some ⟨g, 0, none⟩) n c) l) {j i : Nat} {x x' : α} (hj : l[j]? = some x) (hi : i < k) (u : Value) (hR : ∀ cs, R w cs x → R w (cs.set i u) x') :
    OwnAt R k (w.setCell ⟨g, j * k + i, none⟩ u) B e (.slice (some ⟨g, 0, none⟩) n c) (l.set j x') ∧ Touch g w (w.setCell ⟨g, j * k + i, none⟩ u) := by
  obtain ⟨css, h1, h2, h3, h4⟩ := h
  have hjl := (List.getElem?_eq_some_iff.1 hj).1
  have hcs : css[j]? = some (css[j]'(by omega)) := List.getElem?_eq_getElem _
  have hck : (css[j]'(by omega)).length = k := h2 _ (List.getElem_mem _)
  rcases h3.2 with ⟨h5, _⟩ | ⟨g', cap, cur, hv, hB, hh, hle, hm, hz, ht⟩
  · cases h5
  · cases hv
    obtain ⟨t1, t2⟩ := touch_setCell (i := j * k + i) (v := u) hh
    refine ⟨⟨css.set j ((css[j]'(by omega)).set i u), by simp [h1], fun cs hcs' => ?_, ?_, fun q cs y hq hy => ?_⟩, t2⟩
    · rcases List.mem_or_eq_of_mem_set hcs' with h6 | h6
      · exact h2 cs h6
      · rw [h6, List.length_set]; exact hck
    · rw [List.length_set]
      refine ⟨?_, .inr ⟨g, c, _, rfl, hB, t1, hle, hm, by simpa using hz, ?_⟩⟩
      · rw [← flat_set h2 u hcs hi, List.length_set]; exact h3.1
      · rw [← flat_set h2 u hcs hi, ← ht, Array.toList_setIfInBounds, List.take_set]
    · by_cases hqj : j = q
      · subst hqj
        rw [List.getElem?_set, if_pos rfl, if_pos (by omega)] at hq hy
        cases hq; cases hy
        exact hf _ _ _ _ (hR _ (h4 j _ x hcs hj))
      · rw [List.getElem?_set, if_neg hqj] at hq hy
        exact hf _ _ _ _ (h4 q cs y hq hy)
end Go.Proofs.YtaddcchpidpbfaaDoor
