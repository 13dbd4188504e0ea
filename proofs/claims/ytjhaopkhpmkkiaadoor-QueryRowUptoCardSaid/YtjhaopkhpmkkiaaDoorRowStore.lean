/- Rows of the call's own: a whole element is stored; the tail is cleared; cut short. Any program. -/
import Derived.Test.YtjhaopkhpmkkiaaDoorRow
import Derived.Test.YtjhaopkhpmkkiaaDoorBox
import Derived.Deep.MidRow
namespace Go.Proofs.YtjhaopkhpmkkiaaDoor
open Go.RowKit

/-- stores into a row of the call's own, one behind the other: all else stays -/
theorem setCells_all (g : Nat) (t : TypeId) : ∀ (vs : List Value) (i : Nat) (cur : Array Value) (w : World), w.heap[g]? = some (.cells cur t (0, 0)) → i + vs.length ≤ cur.size →
    ∃ cur', (w.setCells g i vs).heap[g]? = some (.cells cur' t (0, 0)) ∧ cur'.size = cur.size ∧ (∀ j, j < i ∨ i + vs.length ≤ j → cur'[j]? = cur[j]?) ∧ (∀ j u, vs[j]? = some u → cur'[i + j]? = some u) ∧ Touch g w (w.setCells g i vs)
  | [], i, cur, w, hg, _ => ⟨cur, hg, rfl, fun _ _ => rfl, fun j u h => by simp at h, ⟨rfl, rfl, rfl, rfl, fun _ _ => rfl⟩⟩
  | v :: r, i, cur, w, hg, hl => by
    simp only [List.length_cons] at hl
    obtain ⟨h1, h2⟩ := touch_setCell (w := w) (i := i) (v := v) hg
    obtain ⟨cur', g1, g2, g3, g4, g5⟩ := setCells_all g t r (i + 1) _ _ h1 (by simp; omega)
    refine ⟨cur', g1, by simpa using g2, fun j hj => ?_, fun j u hu => ?_, ?_⟩
    · simp only [List.length_cons] at hj
      rw [g3 j (by omega), Array.getElem?_setIfInBounds, if_neg (by omega)]
    · cases j with
      | zero =>
        simp only [List.getElem?_cons_zero, Option.some.injEq] at hu
        subst hu
        rw [Nat.add_zero, g3 i (by omega), Array.getElem?_setIfInBounds, if_pos rfl, if_pos (by omega)]
      | succ j =>
        have := g4 j u (by simpa using hu)
        rwa [show i + 1 + j = i + (j + 1) by omega] at this
    · show Touch g w ((w.setCell ⟨g, i, none⟩ v).setCells g (i + 1) r)
      exact ⟨g5.os.trans h2.os, g5.tape.trans h2.tape, g5.output.trans h2.output, g5.size.trans h2.size, fun b hb => (g5.other b hb).trans (h2.other b hb)⟩
section
variable {α : Type} {R : Rd α} {k B : Nat} {e : TypeId} {w : World} {g n c : Nat} {l : List α}
/-- its cells may be written -/
theorem OwnAt.there (h : OwnAt R k w B e (.slice (some ⟨g, 0, none⟩) n c) l) {o m : Nat} (hm : o + m ≤ c * k) : w.there g o m := by
  obtain ⟨css, h1, h2, h3, h4⟩ := h
  rcases h3.2 with ⟨h5, _⟩ | ⟨g', cap, cur, hv, hB, hh, hle, hmx, hz, ht⟩
  · cases h5
  · cases hv
    intro j hj
    refine ⟨?_, free_block hh _⟩
    rw [cell_block hh, Array.getElem?_eq_getElem (by omega)]
    rfl
/-- a whole element is stored -/
theorem OwnAt.storeElem (hf : Flat R) (h : OwnAt R k w B e (.slice (some ⟨g, 0, none⟩) n c) l) {i : Nat} (hi : i < l.length) {cs : List Value} (hk : cs.length = k) {x : α} (hR : R w cs x) :
    OwnAt R k (w.setCells g (i * k) cs) B e (.slice (some ⟨g, 0, none⟩) n c) (l.set i x) ∧ Touch g w (w.setCells g (i * k) cs) := by
  obtain ⟨css, h1, h2, h3, h4⟩ := h
  rcases h3.2 with ⟨h5, _⟩ | ⟨g', cap, cur, hv, hB, hh, hle, hmx, hz, ht⟩
  · cases h5
  · have hlen : css.flatten.length = l.length * k := by rw [flat_len h2, h1]
    cases hv
    have hik : i * k + k ≤ l.length * k := by rw [← Nat.succ_mul]; exact Nat.mul_le_mul_right k hi
    have hlc : l.length * k ≤ c * k := Nat.mul_le_mul_right k hle
    obtain ⟨cur', g1, g2, g3, g4, g5⟩ := setCells_all g e cs (i * k) cur w hh (by rw [hk, hz]; omega)
    have hk2 : ∀ q ∈ css.set i cs, q.length = k := fun q hq => by
      rcases List.mem_or_eq_of_mem_set hq with h6 | h6
      · exact h2 q h6
      · rw [h6]; exact hk
    have hfl : ∀ t, t < l.length * k → cur'[t]? = (css.set i cs).flatten[t]? := fun t htl => by
      have hk0 : 0 < k := by
        rcases Nat.eq_zero_or_pos k with h0 | h0
        · subst h0; simp at htl
        · exact h0
      have hdm : t = t / k * k + t % k := by rw [Nat.mul_comm]; exact (Nat.div_add_mod t k).symm
      have hmod : t % k < k := Nat.mod_lt _ hk0
      have hdiv : t / k < css.length := by rw [h1]; exact (Nat.div_lt_iff_lt_mul hk0).2 htl
      by_cases hti : t / k = i
      · have hu : cs[t % k]? = some (cs[t % k]'(by omega)) := List.getElem?_eq_getElem _
        have e1 := get_flat hk2 (j := i) (i := t % k) (cs := cs) (by rw [List.getElem?_set, if_pos rfl, if_pos (by omega)]) hu
        have e2 := g4 (t % k) _ hu
        rw [← hti, ← hdm] at e2
        rw [← hti, ← hdm] at e1
        rw [hti] at e1
        rw [e2, e1]
      · have hq : css[t / k]? = some css[t / k] := List.getElem?_eq_getElem hdiv
        have hu : (css[t / k])[t % k]? = some ((css[t / k])[t % k]'(by rw [h2 _ (List.getElem_mem _)]; exact hmod)) := List.getElem?_eq_getElem _
        have e1 := get_flat hk2 (j := t / k) (i := t % k) (by rw [List.getElem?_set, if_neg (fun h => hti h.symm)]; exact hq) hu
        have e3 := get_flat h2 (j := t / k) (i := t % k) hq hu
        rw [← hdm] at e1 e3
        have hout : t < i * k ∨ i * k + cs.length ≤ t := by
          rw [hk]
          rcases Nat.lt_or_gt_of_ne hti with h7 | h7
          · left
            have : (t / k + 1) * k ≤ i * k := Nat.mul_le_mul_right k h7
            rw [Nat.succ_mul] at this; omega
          · right
            have : (i + 1) * k ≤ t / k * k := Nat.mul_le_mul_right k h7
            rw [Nat.succ_mul] at this; omega
        rw [g3 t hout, e1, ← e3, ← ht, List.getElem?_take_of_lt htl, Array.getElem?_toList]
    refine ⟨⟨css.set i cs, by simp [h1], hk2, ?_, fun j q y hq hy => ?_⟩, g5⟩
    · rw [List.length_set]
      refine ⟨by rw [flat_len hk2, List.length_set, h1], .inr ⟨g, c, cur', rfl, hB, g1, hle, hmx, by rw [g2]; exact hz, ?_⟩⟩
      apply List.ext_getElem?
      intro t
      by_cases htl : t < l.length * k
      · rw [List.getElem?_take_of_lt htl, Array.getElem?_toList, hfl t htl]
      · rw [List.getElem?_eq_none (by rw [List.length_take]; omega), List.getElem?_eq_none (by rw [flat_len hk2, List.length_set, h1]; omega)]
    · by_cases hij : i = j
      · subst hij
        rw [List.getElem?_set, if_pos rfl, if_pos (by omega)] at hq
        rw [List.getElem?_set, if_pos rfl, if_pos hi] at hy
        cases hq; cases hy
        exact hf _ _ _ _ hR
      · rw [List.getElem?_set, if_neg hij] at hq hy
        exact hf _ _ _ _ (h4 j q y hq hy)
/-- stores behind the first i; cut short there -/
theorem OwnAt.behind (hf : Flat R) (h : OwnAt R k w B e (.slice (some ⟨g, 0, none⟩) n c) l) {i : Nat} (hi : i ≤ l.length) {vs : List Value} (hvs : i * k + vs.length ≤ c * k) :
    OwnAt R k (w.setCells g (i * k) vs) B e (.slice (some ⟨g, 0, none⟩) i c) (l.take i) ∧ Touch g w (w.setCells g (i * k) vs) := by
  obtain ⟨css, h1, h2, h3, h4⟩ := h
  rcases h3.2 with ⟨h5, _⟩ | ⟨g', cap, cur, hv, hB, hh, hle, hmx, hz, ht⟩
  · cases h5
  · cases hv
    obtain ⟨cur', g1, g2, g3, g4, g5⟩ := setCells_all g e vs (i * k) cur w hh (by rw [hz]; exact hvs)
    have hik : i * k ≤ l.length * k := Nat.mul_le_mul_right k hi
    have hlk : (l.take i).length = i := by rw [List.length_take]; omega
    have hk2 : ∀ q ∈ css.take i, q.length = k := fun q hq => h2 q (List.mem_of_mem_take hq)
    have hfl : (css.take i).flatten.length = i * k := by rw [flat_len hk2, List.length_take, h1]; congr 1; omega
    have hpre : (css.take i).flatten = css.flatten.take (i * k) := by
      have h7 : css.flatten = (css.take i).flatten ++ (css.drop i).flatten := by rw [← List.flatten_append, List.take_append_drop]
      rw [h7, ← hfl, List.take_left]
    refine ⟨⟨css.take i, by rw [List.length_take, List.length_take, h1], hk2, ?_, fun j q y hq hy => ?_⟩, g5⟩
    · rw [hlk]
      refine ⟨hfl, .inr ⟨g, c, cur', rfl, hB, g1, by omega, hmx, by rw [g2]; exact hz, ?_⟩⟩
      rw [hpre, ← ht]
      apply List.ext_getElem?
      intro t
      by_cases htl : t < i * k
      · rw [List.getElem?_take_of_lt htl, Array.getElem?_toList, g3 t (.inl htl), List.getElem?_take_of_lt htl, List.getElem?_take_of_lt (by omega), Array.getElem?_toList]
      · rw [List.getElem?_eq_none (by rw [List.length_take]; omega), List.getElem?_eq_none (by rw [List.length_take]; omega)]
    · have hj : j < i := by have := (List.getElem?_eq_some_iff.1 hy).1; omega
      rw [List.getElem?_take_of_lt hj] at hq hy
      exact hf _ _ _ _ (h4 j q y hq hy)
end
/-- 'clear(s)' at elements of several cells -/
theorem run_clear_rows {P : Program} (w : World) (t e ty : TypeId) (z : Value) (ht : P.underlying t = some (.slice e)) (hv : ∀ w, (zeroValue e).run P w = .ok z w) (h1 : ∀ u ∈ z.cells, u.oneCell' = true) (b o n c : Nat) (hn : 0 < n)
    (hc : w.there b o (Builtin.zeroCells z.cells n).size) :
    (Builtin.clear_ #[t] ty #[.slice (some ⟨b, o, none⟩) n c]).run P w = .ok (.tuple #[]) (w.setCells b o (Builtin.zeroCells z.cells n).toList) := by
  have hone : ∀ u ∈ (Builtin.zeroCells z.cells n).toList, u.oneCell' = true := fun u hu => by
    unfold Builtin.zeroCells at hu
    rw [Array.toList_map] at hu
    obtain ⟨i, hi, rfl⟩ := List.mem_map.1 hu
    have hi2 : i < n * z.cells.size := by simpa using hi
    have h0 : 0 < z.cells.size := by
      rcases Nat.eq_zero_or_pos z.cells.size with h | h
      · rw [h] at hi2; simp at hi2
      · exact h
    have hlt : i % z.cells.size < z.cells.size := Nat.mod_lt _ h0
    rw [getElem!_pos z.cells _ hlt]
    exact h1 _ (Array.getElem_mem hlt)
  have hst := run_storeCells_cells (P := P) b o (Builtin.zeroCells z.cells n).toList 0 w (fun j hj => by simpa using (hc j (by simpa using hj)).1) (fun j hj => by simpa using (hc j (by simpa using hj)).2) hone
  simp only [Nat.add_zero] at hst
  obtain ⟨m, rfl⟩ : ∃ m, n = m + 1 := ⟨n - 1, by omega⟩
  simp [Builtin.clear_, run_underlying ht, hv, hst]
theorem wpList_clear_rows {P : Program} (w : World) {ops : Array Oper} {rest : List Oper} {o : Oper} {a : Act} {Q : Exit → Act → World → Prop} (hg : o.guard = none) (s : Operand) (t e : TypeId)
    (ho : o.op = .call { callee := .builtin .clear, args := #[s], argTypes := #[t] }) (z : Value) (ht : P.underlying t = some (.slice e)) (hv : ∀ w, (zeroValue e).run P w = .ok z w) (h1 : ∀ u ∈ z.cells, u.oneCell' = true) (b i n c : Nat) (hn : 0 < n)
    (hs : a.eval s = .slice (some ⟨b, i, none⟩) n c) (hc : w.there b i (Builtin.zeroCells z.cells n).size)
    (h : wpList P ops Q rest (a.put o.dst (.tuple #[])) (w.setCells b i (Builtin.zeroCells z.cells n).toList)) : wpList P ops Q (o :: rest) a w := by
  refine wpList_plain hg fun K hK' => ?_
  have hrun := run_clear_rows w t e o.type z ht hv h1 b i n c hn hc
  unfold Oper.wp
  simp [execOp, ho, resolve, invoke, builtin, hs, hrun, Result.andThen]
  exact hK' _ _ h
theorem zeroCells_size (z : Array Value) (n : Nat) : (Builtin.zeroCells z n).size = n * z.size := by simp [Builtin.zeroCells]
end Go.Proofs.YtjhaopkhpmkkiaaDoor
