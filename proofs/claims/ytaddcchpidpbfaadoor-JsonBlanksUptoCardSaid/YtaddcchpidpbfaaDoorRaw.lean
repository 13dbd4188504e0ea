/- Slices of things of one cell, as their cells: of the call's own, cloned, put in between. Any program. -/
import Derived.Test.YtaddcchpidpbfaaDoorRow
import Derived.Test.YtaddcchpidpbfaaDoorBox
import Derived.Test.YtaddcchpidpbfaaDoorRowX
import Derived.Shelf.Spec.SlicesInsertGrow
namespace Go.Proofs.YtaddcchpidpbfaaDoor
open Go.RowKit

/-- a cell as it is -/
def RVal : Rd Value := fun _ cs x => cs = [x] ∧ x.oneCell' = true
theorem flat_val : Flat RVal := fun _ _ _ _ h => h
theorem one_val : OneR RVal := fun _ _ _ h u hu => by obtain ⟨h, h1⟩ := h; rw [h] at hu; simp at hu; subst hu; exact h1
theorem stays_val : Stays RVal := fun _ _ _ _ _ h => h
section
variable {w w' : World} {B n : Nat} {e : TypeId} {v : Value} {xs : List Value}
theorem OwnAt.ones (h : OwnAt RVal 1 w B e v xs) : ∀ x ∈ xs, x.oneCell' = true := fun x hx => by
  obtain ⟨css, h1, h2, h3, h4⟩ := h
  obtain ⟨j, hj⟩ := List.getElem?_of_mem hx
  have hjl := (List.getElem?_eq_some_iff.1 hj).1
  exact (h4 j (css[j]'(by omega)) x (List.getElem?_eq_getElem _) hj).2
theorem own_raw (h : OwnAt RVal 1 w B e v xs) : w.ownsRow B e 1 v xs.length xs := by
  obtain ⟨css, h1, h2, h3, h4⟩ := h
  have : css.flatten = xs := by
    apply List.ext_getElem?
    intro j
    by_cases hj : j < xs.length
    · have hcs : css[j]? = some css[j] := List.getElem?_eq_getElem (by omega)
      have hR : css[j] = [xs[j]] := (h4 j _ _ hcs (List.getElem?_eq_getElem hj)).1
      have := get_flat h2 (j := j) (i := 0) hcs (u := xs[j]) (by rw [hR]; rfl)
      rw [Nat.mul_one, Nat.add_zero] at this
      rw [this, List.getElem?_eq_getElem hj]
    · rw [List.getElem?_eq_none (by rw [flat_len h2]; omega), List.getElem?_eq_none (by omega)]
  rwa [this] at h3
theorem ownAt_raw (h : w.ownsRow B e 1 v n xs) (hn : xs.length = n) (ho : ∀ x ∈ xs, x.oneCell' = true) : OwnAt RVal 1 w B e v xs := by
  subst hn
  refine ⟨xs.map fun x => [x], by simp, fun cs hcs => ?_, ?_, fun j cs x hcs hx => ?_⟩
  · obtain ⟨x, _, rfl⟩ := List.mem_map.1 hcs; rfl
  · have key : ∀ m : List Value, (m.map fun x => [x]).flatten = m := fun m => by
      induction m with
      | nil => rfl
      | cons y r ih => rw [List.map_cons, List.flatten_cons, ih]; rfl
    rw [key]; exact h
  · simp only [List.getElem?_map, hx, Option.map_some, Option.some.injEq] at hcs
    exact ⟨hcs.symm, ho x (List.mem_of_getElem? hx)⟩
/-- a block whose first cells are these -/
theorem own_of_cells {g c : Nat} {cur : Array Value} (hh : w.heap[g]? = some (.cells cur e (0, 0))) (hB : B ≤ g) (hc : xs.length ≤ c) (hm : c ≤ maxLen) (hz : cur.size = c) (hcell : ∀ (j : Nat) (x : Value), xs[j]? = some x → cur[j]? = some x) (ho : ∀ x ∈ xs, x.oneCell' = true) :
    OwnAt RVal 1 w B e (.slice (some ⟨g, 0, none⟩) xs.length c) xs := by
  refine ownAt_raw (n := xs.length) ⟨by simp, .inr ⟨g, c, cur, rfl, hB, hh, hc, hm, by rw [hz, Nat.mul_one], ?_⟩⟩ rfl ho
  apply List.ext_getElem?
  intro j
  by_cases hj : j < xs.length
  · have hx : xs[j]? = some xs[j] := List.getElem?_eq_getElem hj
    rw [List.getElem?_take_of_lt (by omega), Array.getElem?_toList, hcell j _ hx, hx]
  · rw [List.getElem?_eq_none (by simp; omega), List.getElem?_eq_none (by omega)]
/-- a row, as its cells -/
theorem RowAt.raw {α : Type} {R : Rd α} {l : List α} (h : RowAt R 1 w v l) (h1 : OneR R) : ∃ xs, xs.length = l.length ∧ RowAt RVal 1 w v xs ∧ ∀ (j : Nat) (u : Value) (x : α), xs[j]? = some u → l[j]? = some x → R w [u] x := by
  rcases h with ⟨rfl, rfl⟩ | ⟨a, c, rfl, h2, h3, h4⟩
  · exact ⟨[], rfl, .inl ⟨rfl, rfl⟩, fun j u x hu => by simp at hu⟩
  · obtain ⟨xs, k1, k2⟩ := pick_each (fun j u => ∃ x, l[j]? = some x ∧ w.cell? (a.add j) = some u ∧ R w [u] x) l.length (fun j hj => by
      obtain ⟨cs, g1, g2, g3⟩ := h4 j l[j] (by simp [hj])
      obtain ⟨u, rfl⟩ : ∃ u, cs = [u] := by
        match cs, g1 with
        | [u], _ => exact ⟨u, rfl⟩
      exact ⟨u, l[j], by simp [hj], by simpa using g2 0 u rfl, g3⟩)
    refine ⟨xs, k1, .inr ⟨a, c, by rw [k1], by omega, h3, fun j u hu => ?_⟩, fun j u x hu hx => ?_⟩
    · obtain ⟨x, hx, hc, hR⟩ := k2 j u hu
      exact ⟨[u], rfl, fun i z hz => by
        match i, hz with
        | 0, hz => simp at hz; subst hz; simpa using hc, rfl, h1 _ _ _ hR u (List.mem_singleton.2 rfl)⟩
    · obtain ⟨y, hy, _, hR⟩ := k2 j u hu
      rw [hy] at hx
      cases hx
      exact hR
theorem RowAt.ofRaw {α : Type} {R : Rd α} {l : List α} (h : RowAt RVal 1 w v xs) (hl : xs.length = l.length) (hR : ∀ (j : Nat) (u : Value) (x : α), xs[j]? = some u → l[j]? = some x → R w [u] x) : RowAt R 1 w v l := by
  rcases h with ⟨rfl, rfl⟩ | ⟨a, c, rfl, h2, h3, h4⟩
  · exact .inl ⟨rfl, List.eq_nil_of_length_eq_zero (by simpa using hl.symm)⟩
  · refine .inr ⟨a, c, by rw [hl], by omega, h3, fun j x hx => ?_⟩
    have hj : j < xs.length := by rw [hl]; exact (List.getElem?_eq_some_iff.1 hx).1
    obtain ⟨cs, g1, g2, g3, _⟩ := h4 j xs[j] (by simp [hj])
    subst g3
    exact ⟨_, rfl, g2, hR j _ x (by simp [hj]) hx⟩
end
theorem putin_get {l : List Value} {k : Nat} (hk : k ≤ l.length) (x : Value) (j : Nat) : (l.take k ++ x :: l.drop k)[j]? = if j < k then l[j]? else if j = k then some x else l[j - 1]? := by
  have hl : (l.take k).length = k := by rw [List.length_take]; omega
  by_cases h1 : j < k
  · rw [if_pos h1, List.getElem?_append_left (by omega), List.getElem?_take_of_lt h1]
  · rw [if_neg h1, List.getElem?_append_right (by omega), hl]
    by_cases h2 : j = k
    · rw [if_pos h2, h2, Nat.sub_self]; rfl
    · rw [if_neg h2, show j - k = (j - 1 - k) + 1 by omega, List.getElem?_cons_succ, List.getElem?_drop]
      congr 1; omega
theorem putin_len {l : List Value} {k : Nat} (hk : k ≤ l.length) (x : Value) : (l.take k ++ x :: l.drop k).length = l.length + 1 := by
  rw [List.length_append, List.length_take, List.length_cons, List.length_drop]; omega
theorem putin_ones {l : List Value} {k : Nat} {x : Value} (h : ∀ y ∈ l, y.oneCell' = true) (hx : x.oneCell' = true) : ∀ y ∈ l.take k ++ x :: l.drop k, y.oneCell' = true := fun y hy => by
  rcases List.mem_append.1 hy with h1 | h1
  · exact h y (List.mem_of_mem_take h1)
  · rcases List.mem_cons.1 h1 with rfl | h1
    · exact hx
    · exact h y (List.mem_of_mem_drop h1)
/-- stores into a row of the call's own, one behind the other -/
theorem setCells_row (g : Nat) (t : TypeId) : ∀ (vs : List Value) (i : Nat) (cur : Array Value) (w : World), w.heap[g]? = some (.cells cur t (0, 0)) → i + vs.length ≤ cur.size →
    ∃ cur', (w.setCells g i vs).heap[g]? = some (.cells cur' t (0, 0)) ∧ cur'.size = cur.size ∧ (∀ j, j < i → cur'[j]? = cur[j]?) ∧ (∀ j u, vs[j]? = some u → cur'[i + j]? = some u) ∧ (∀ j, i + vs.length ≤ j → cur'[j]? = cur[j]?) ∧ Touch g w (w.setCells g i vs)
  | [], i, cur, w, hg, _ => ⟨cur, hg, rfl, fun _ _ => rfl, fun j u h => by simp at h, fun _ _ => rfl, ⟨rfl, rfl, rfl, rfl, fun _ _ => rfl⟩⟩
  | v :: r, i, cur, w, hg, hl => by
    simp only [List.length_cons] at hl
    obtain ⟨h1, h2⟩ := touch_setCell (w := w) (i := i) (v := v) hg
    obtain ⟨cur', g1, g2, g3, g4, g6, g5⟩ := setCells_row g t r (i + 1) _ _ h1 (by simp; omega)
    refine ⟨cur', g1, by simpa using g2, fun j hj => ?_, fun j u hu => ?_, fun j hj => ?_, ?_⟩
    · rw [g3 j (by omega), Array.getElem?_setIfInBounds, if_neg (by omega)]
    · cases j with
      | zero =>
        simp only [List.getElem?_cons_zero, Option.some.injEq] at hu
        subst hu
        rw [Nat.add_zero, g3 i (by omega), Array.getElem?_setIfInBounds, if_pos rfl, if_pos (by omega)]
      | succ j =>
        have := g4 j u (by simpa using hu)
        rwa [show i + 1 + j = i + (j + 1) by omega] at this
    · simp only [List.length_cons] at hj
      rw [g6 j (by omega), Array.getElem?_setIfInBounds, if_neg (by omega)]
    · show Touch g w ((w.setCell ⟨g, i, none⟩ v).setCells g (i + 1) r)
      exact ⟨g5.os.trans h2.os, g5.tape.trans h2.tape, g5.output.trans h2.output, g5.size.trans h2.size, fun b hb => (g5.other b hb).trans (h2.other b hb)⟩
theorem setCells_cell (g : Nat) : ∀ (vs : List Value) (i : Nat) (w : World) (p : Addr), p.block ≠ g → (w.setCells g i vs).cell? p = w.cell? p := fun _ _ _ _ hp => World.cell?_setCells_out g _ _ _ _ (fun h _ => absurd h hp)
end Go.Proofs.YtaddcchpidpbfaaDoor
