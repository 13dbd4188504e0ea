/- Texts of ours joined: RowStore, WayRepl, WayUnder, DelVal, DelStr, JsonWithout, WayPut, PtrDo. -/
import Derived.Deep.MidRow
import Derived.ArgAppend
import Derived.BigQuiet
import Derived.Deep.DeepCutAuto
import Derived.Deep.LoopGhost
import Derived.Test.YtlbolbkikkiifaaGreatDoorMw6
set_option linter.unusedVariables false
set_option linter.unusedSimpArgs false
/- Rows of the call's own: a whole element is stored; the tail is cleared; cut short. Any program. -/
namespace Go.Proofs.YtlbolbkikkiifaaGreatDoor
open Go.RowKit

/-- stores into a row of the call's own, one behind the other: all else stays -/
theorem setCells_all (g : Nat) (t : TypeId) : ∀ (vs : List Value) (i : Nat) (cur : Array Value) (w : World), w.heap[g]? = some (.cells cur t (0, 0)) → i + vs.length ≤ cur.size →
    ∃ cur', (w.setCells g i vs).heap[g]? = some (.cells cur' t (0, 0)) ∧ cur'.size = cur.size ∧ (∀ j, j < i ∨ i + vs.length ≤ j → cur'[j]? = cur[j]?) ∧ (∀ j u, vs[j]? = some u → cur'[i + j]? = some u) ∧ Touch g w (w.setCells g i vs)
  | [], i, cur, w, hg, _ => ⟨cur, hg, rfl, fun _ _ => rfl, fun j u h => by simp at h, ⟨rfl, rfl, rfl, rfl, fun _ _ => rfl⟩⟩
  | v :: r, i, cur, w, hg, hl => by
    simp only [List.length_cons] at hl
    obtain ⟨h1, h2⟩ := touch_setCell (w := w) (i := i) (v := v) hg
    obtain ⟨cur', g1, g2, g3, g4, g5⟩ := setCells_all g t r (i + 1) _ _ h1 (by simp; omega)
    refine ⟨cur', g1, by simpa using g2, fun j hj => ?_, fun j u hu => ?_, ?_⟩
    · simp only [List.length_cons] at hj
      rw [g3 j (by omega), Array.getElem?_setIfInBounds, if_neg (by omega)]
    · cases j with
      | zero =>
        simp only [List.getElem?_cons_zero, Option.some.injEq] at hu
        subst hu
        rw [Nat.add_zero, g3 i (by omega), Array.getElem?_setIfInBounds, if_pos rfl, if_pos (by omega)]
      | succ j =>
        have := g4 j u (by simpa using hu)
        rwa [show i + 1 + j = i + (j + 1) by omega] at this
    · show Touch g w ((w.setCell ⟨g, i, none⟩ v).setCells g (i + 1) r)
      exact ⟨g5.os.trans h2.os, g5.tape.trans h2.tape, g5.output.trans h2.output, g5.size.trans h2.size, fun b hb => (g5.other b hb).trans (h2.other b hb)⟩
section
variable {α : Type} {R : Rd α} {k B : Nat} {e : TypeId} {w : World} {g n c : Nat} {l : List α}
/-- its cells may be written -/
theorem OwnAt.there (h : OwnAt R k w B e (.slice (some ⟨g, 0, none⟩) n c) l) {o m : Nat} (hm : o + m ≤ c * k) : w.there g o m := by
  obtain ⟨css, h1, h2, h3, h4⟩ := h
  rcases h3.2 with ⟨h5, _⟩ | ⟨g', cap, cur, hv, hB, hh, hle, hmx, hz, ht⟩
  · cases h5
  · cases hv
    intro j hj
    refine ⟨?_, free_block hh _⟩
    rw [cell_block hh, Array.getElem?_eq_getElem (by omega)]
    rfl
/-- a whole element is stored -/
theorem OwnAt.storeElem (hf : Flat R) (h : OwnAt R k w B e (.slice (some ⟨g, 0, none⟩) n c) l) {i : Nat} (hi : i < l.length) {cs : List Value} (hk : cs.length = k) {x : α} (hR : R w cs x) :
    OwnAt R k (w.setCells g (i * k) cs) B e (.slice (some ⟨g, 0, none⟩) n c) (l.set i x) ∧ Touch g w (w.setCells g (i * k) cs) := by
  obtain ⟨css, h1, h2, h3, h4⟩ := h
  rcases h3.2 with ⟨h5, _⟩ | ⟨g', cap, cur, hv, hB, hh, hle, hmx, hz, ht⟩
  · cases h5
  · have hlen : css.flatten.length = l.length * k := by rw [flat_len h2, h1]
    cases hv
    have hik : i * k + k ≤ l.length * k := by rw [← Nat.succ_mul]; exact Nat.mul_le_mul_right k hi
    have hlc : l.length * k ≤ c * k := Nat.mul_le_mul_right k hle
    obtain ⟨cur', g1, g2, g3, g4, g5⟩ := setCells_all g e cs (i * k) cur w hh (by rw [hk, hz]; omega)
    have hk2 : ∀ q ∈ css.set i cs, q.length = k := fun q hq => by
      rcases List.mem_or_eq_of_mem_set hq with h6 | h6
      · exact h2 q h6
      · rw [h6]; exact hk
    have hfl : ∀ t, t < l.length * k → cur'[t]? = (css.set i cs).flatten[t]? := fun t htl => by
      have hk0 : 0 < k := by
        rcases Nat.eq_zero_or_pos k with h0 | h0
        · subst h0; simp at htl
        · exact h0
      have hdm : t = t / k * k + t % k := by rw [Nat.mul_comm]; exact (Nat.div_add_mod t k).symm
      have hmod : t % k < k := Nat.mod_lt _ hk0
      have hdiv : t / k < css.length := by rw [h1]; exact (Nat.div_lt_iff_lt_mul hk0).2 htl
      by_cases hti : t / k = i
      · have hu : cs[t % k]? = some (cs[t % k]'(by omega)) := List.getElem?_eq_getElem _
        have e1 := get_flat hk2 (j := i) (i := t % k) (cs := cs) (by rw [List.getElem?_set, if_pos rfl, if_pos (by omega)]) hu
        have e2 := g4 (t % k) _ hu
        rw [← hti, ← hdm] at e2
        rw [← hti, ← hdm] at e1
        rw [hti] at e1
        rw [e2, e1]
      · have hq : css[t / k]? = some css[t / k] := List.getElem?_eq_getElem hdiv
        have hu : (css[t / k])[t % k]? = some ((css[t / k])[t % k]'(by rw [h2 _ (List.getElem_mem _)]; exact hmod)) := List.getElem?_eq_getElem _
        have e1 := get_flat hk2 (j := t / k) (i := t % k) (by rw [List.getElem?_set, if_neg (fun h => hti h.symm)]; exact hq) hu
        have e3 := get_flat h2 (j := t / k) (i := t % k) hq hu
        rw [← hdm] at e1 e3
        have hout : t < i * k ∨ i * k + cs.length ≤ t := by
          rw [hk]
          rcases Nat.lt_or_gt_of_ne hti with h7 | h7
          · left
            have : (t / k + 1) * k ≤ i * k := Nat.mul_le_mul_right k h7
            rw [Nat.succ_mul] at this; omega
          · right
            have : (i + 1) * k ≤ t / k * k := Nat.mul_le_mul_right k h7
            rw [Nat.succ_mul] at this; omega
        rw [g3 t hout, e1, ← e3, ← ht, List.getElem?_take_of_lt htl, Array.getElem?_toList]
    refine ⟨⟨css.set i cs, by simp [h1], hk2, ?_, fun j q y hq hy => ?_⟩, g5⟩
    · rw [List.length_set]
      refine ⟨by rw [flat_len hk2, List.length_set, h1], .inr ⟨g, c, cur', rfl, hB, g1, hle, hmx, by rw [g2]; exact hz, ?_⟩⟩
      apply List.ext_getElem?
      intro t
      by_cases htl : t < l.length * k
      · rw [List.getElem?_take_of_lt htl, Array.getElem?_toList, hfl t htl]
      · rw [List.getElem?_eq_none (by rw [List.length_take]; omega), List.getElem?_eq_none (by rw [flat_len hk2, List.length_set, h1]; omega)]
    · by_cases hij : i = j
      · subst hij
        rw [List.getElem?_set, if_pos rfl, if_pos (by omega)] at hq
        rw [List.getElem?_set, if_pos rfl, if_pos hi] at hy
        cases hq; cases hy
        exact hf _ _ _ _ hR
      · rw [List.getElem?_set, if_neg hij] at hq hy
        exact hf _ _ _ _ (h4 j q y hq hy)
/-- stores behind the first i; cut short there -/
theorem OwnAt.behind (hf : Flat R) (h : OwnAt R k w B e (.slice (some ⟨g, 0, none⟩) n c) l) {i : Nat} (hi : i ≤ l.length) {vs : List Value} (hvs : i * k + vs.length ≤ c * k) :
    OwnAt R k (w.setCells g (i * k) vs) B e (.slice (some ⟨g, 0, none⟩) i c) (l.take i) ∧ Touch g w (w.setCells g (i * k) vs) := by
  obtain ⟨css, h1, h2, h3, h4⟩ := h
  rcases h3.2 with ⟨h5, _⟩ | ⟨g', cap, cur, hv, hB, hh, hle, hmx, hz, ht⟩
  · cases h5
  · cases hv
    obtain ⟨cur', g1, g2, g3, g4, g5⟩ := setCells_all g e vs (i * k) cur w hh (by rw [hz]; exact hvs)
    have hik : i * k ≤ l.length * k := Nat.mul_le_mul_right k hi
    have hlk : (l.take i).length = i := by rw [List.length_take]; omega
    have hk2 : ∀ q ∈ css.take i, q.length = k := fun q hq => h2 q (List.mem_of_mem_take hq)
    have hfl : (css.take i).flatten.length = i * k := by rw [flat_len hk2, List.length_take, h1]; congr 1; omega
    have hpre : (css.take i).flatten = css.flatten.take (i * k) := by
      have h7 : css.flatten = (css.take i).flatten ++ (css.drop i).flatten := by rw [← List.flatten_append, List.take_append_drop]
      rw [h7, ← hfl, List.take_left]
    refine ⟨⟨css.take i, by rw [List.length_take, List.length_take, h1], hk2, ?_, fun j q y hq hy => ?_⟩, g5⟩
    · rw [hlk]
      refine ⟨hfl, .inr ⟨g, c, cur', rfl, hB, g1, by omega, hmx, by rw [g2]; exact hz, ?_⟩⟩
      rw [hpre, ← ht]
      apply List.ext_getElem?
      intro t
      by_cases htl : t < i * k
      · rw [List.getElem?_take_of_lt htl, Array.getElem?_toList, g3 t (.inl htl), List.getElem?_take_of_lt htl, List.getElem?_take_of_lt (by omega), Array.getElem?_toList]
      · rw [List.getElem?_eq_none (by rw [List.length_take]; omega), List.getElem?_eq_none (by rw [List.length_take]; omega)]
    · have hj : j < i := by have := (List.getElem?_eq_some_iff.1 hy).1; omega
      rw [List.getElem?_take_of_lt hj] at hq hy
      exact hf _ _ _ _ (h4 j q y hq hy)
end
/-- 'clear(s)' at elements of several cells -/
theorem run_clear_rows {P : Program} (w : World) (t e ty : TypeId) (z : Value) (ht : P.underlying t = some (.slice e)) (hv : ∀ w, (zeroValue e).run P w = .ok z w) (h1 : ∀ u ∈ z.cells, u.oneCell' = true) (b o n c : Nat) (hn : 0 < n)
    (hc : w.there b o (Builtin.zeroCells z.cells n).size) :
    (Builtin.clear_ #[t] ty #[.slice (some ⟨b, o, none⟩) n c]).run P w = .ok (.tuple #[]) (w.setCells b o (Builtin.zeroCells z.cells n).toList) := by
  have hone : ∀ u ∈ (Builtin.zeroCells z.cells n).toList, u.oneCell' = true := fun u hu => by
    unfold Builtin.zeroCells at hu
    rw [Array.toList_map] at hu
    obtain ⟨i, hi, rfl⟩ := List.mem_map.1 hu
    have hi2 : i < n * z.cells.size := by simpa using hi
    have h0 : 0 < z.cells.size := by
      rcases Nat.eq_zero_or_pos z.cells.size with h | h
      · rw [h] at hi2; simp at hi2
      · exact h
    have hlt : i % z.cells.size < z.cells.size := Nat.mod_lt _ h0
    rw [getElem!_pos z.cells _ hlt]
    exact h1 _ (Array.getElem_mem hlt)
  have hst := run_storeCells_cells (P := P) b o (Builtin.zeroCells z.cells n).toList 0 w (fun j hj => by simpa using (hc j (by simpa using hj)).1) (fun j hj => by simpa using (hc j (by simpa using hj)).2) hone
  simp only [Nat.add_zero] at hst
  obtain ⟨m, rfl⟩ : ∃ m, n = m + 1 := ⟨n - 1, by omega⟩
  simp [Builtin.clear_, run_underlying ht, hv, hst]
theorem wpList_clear_rows {P : Program} (w : World) {ops : Array Oper} {rest : List Oper} {o : Oper} {a : Act} {Q : Exit → Act → World → Prop} (hg : o.guard = none) (s : Operand) (t e : TypeId)
    (ho : o.op = .call { callee := .builtin .clear, args := #[s], argTypes := #[t] }) (z : Value) (ht : P.underlying t = some (.slice e)) (hv : ∀ w, (zeroValue e).run P w = .ok z w) (h1 : ∀ u ∈ z.cells, u.oneCell' = true) (b i n c : Nat) (hn : 0 < n)
    (hs : a.eval s = .slice (some ⟨b, i, none⟩) n c) (hc : w.there b i (Builtin.zeroCells z.cells n).size)
    (h : wpList P ops Q rest (a.put o.dst (.tuple #[])) (w.setCells b i (Builtin.zeroCells z.cells n).toList)) : wpList P ops Q (o :: rest) a w := by
  refine wpList_plain hg fun K hK' => ?_
  have hrun := run_clear_rows w t e o.type z ht hv h1 b i n c hn hc
  unfold Oper.wp
  simp [execOp, ho, resolve, invoke, builtin, hs, hrun, Result.andThen]
  exact hK' _ _ h
theorem zeroCells_size (z : Array Value) (n : Nat) : (Builtin.zeroCells z n).size = n * z.size := by simp [Builtin.zeroCells]
end Go.Proofs.YtlbolbkikkiifaaGreatDoor
/- tree.replaced, place. -/
namespace Go.Proofs.YtlbolbkikkiifaaGreatDoor
open Go.RowKit
open JP (JV Bs)

/-- one value stored into a row of the call's own -/
theorem store_val {w : World} {B g n c i : Nat} {e : TypeId} {xs : List Value} {v : Value} (h : OwnAt RVal 1 w B e (.slice (some ⟨g, 0, none⟩) n c) xs) (hi : i < xs.length) (hv : v.oneCell' = true) :
    ∃ w3, (storeCells ⟨g, i, none⟩ [v]).run Tryz.prog w = .ok () w3 ∧ OwnAt RVal 1 w3 B e (.slice (some ⟨g, 0, none⟩) n c) (xs.set i v) ∧ Touch g w w3 := by
  obtain ⟨css, hc1, hc2, hc3, hc4⟩ := h
  have h : OwnAt RVal 1 w B e (.slice (some ⟨g, 0, none⟩) n c) xs := ⟨css, hc1, hc2, hc3, hc4⟩
  obtain ⟨o1, o2⟩ := h.storeElem flat_val hi (cs := [v]) rfl (x := v) ⟨rfl, hv⟩
  have hle : xs.length ≤ c := by
    rcases h.form with ⟨h5, _⟩ | ⟨g', c', h5, _, _, h6, _⟩
    · cases h5
    · cases h5; exact h6
  have ht := h.there (o := i) (m := 1) (by omega)
  have e1 : w.setCells g (i * 1) [v] = w.setCell ⟨g, i, none⟩ v := by rw [Nat.mul_one]; rfl
  rw [e1] at o1 o2
  refine ⟨_, ?_, o1, o2⟩
  have h9 := run_storeCells_cells (P := Tryz.prog) g i [v] 0 w (fun j hj => by
    obtain rfl : j = 0 := by simpa using hj
    exact (ht 0 (by omega)).1) (fun j hj => by
    obtain rfl : j = 0 := by simpa using hj
    exact (ht 0 (by omega)).2) (fun u hu => by rw [List.mem_singleton.1 hu]; exact hv)
  rw [h9]; rfl
/-- a row of values is a list -/
theorem jv_list {n : Nat} {w : World} {v : Value} {xs : List Value} {l : List JV} (h : RowAt RVal 1 w v xs) (hl : xs.length = l.length) (hx : ∀ (j : Nat) (u : Value) (y : JV), xs[j]? = some u → l[j]? = some y → JvAt n [] w u y) : JvAt (n + 1) [] w (.iface 114 v) (.list l) :=
  ⟨v, rfl, h.ofRaw hl fun j u y hu hy => ⟨u, rfl, hx j u y hu hy⟩, fun _ b _ hm => by cases hm⟩
/-- a list is a row of values -/
theorem list_raw {n : Nat} {w : World} {u : Value} {l : List JV} (h : RowAt (JvR n []) 1 w u l) : ∃ xs, xs.length = l.length ∧ RowAt RVal 1 w u xs ∧ ∀ (j : Nat) (v : Value) (x : JV), xs[j]? = some v → l[j]? = some x → JvAt n [] w v x := by
  obtain ⟨xs, h1, h2, h3⟩ := h.raw (one_jv n [])
  exact ⟨xs, h1, h2, fun j v x hv hx => by obtain ⟨v', e, h⟩ := h3 j v x hv hx; cases e; exact h⟩
theorem jv_cell {n : Nat} {w : World} {v : Value} {x : JV} (h : JvAt n [] w v x) : v.oneCell' = true := one_jv n [] w [v] x ⟨v, rfl, h⟩ v (List.mem_singleton.2 rfl)
def MadeAt (x : JV) (w : World) (e : Ending) (w' : World) : Prop := ∃ u, e = .returned u ∧ (∃ k, JvAt k [] w' u x) ∧ Below w.heap.size w w'
set_option maxRecDepth 100000 in
set_option maxHeartbeats 3200000 in
theorem replaced_any {n m : Nat} {v wv : Value} {x y c : JV} {s : Bs} {w : World} (h : JvAt n [] w v x) (hy : JvAt m [] w wv y) (hc : JP.child x s = some c) (hz : (JP.text x).length ≤ 1000000) (hs : s.length ≤ 1048576) (ht : TabOK w) (he : ErrOK w) :
    Calls Tryz.prog 151 #[v, .string (mkB s), wv] w (MadeAt (JP.repl x s y) w) := by
  obtain ⟨R0, hR⟩ : ∃ R, JP.repl x s y = R := ⟨_, rfl⟩
  rw [hR]
  have HR := Lib.hid hR
  clear hR
  cases n with
  | zero => cases h
  | succ n =>
    have way : (∃ l, x = .obj l) ∨ (∃ l, x = .list l) := by
      cases x with
      | obj l => exact .inl ⟨l, rfl⟩
      | list l => exact .inr ⟨l, rfl⟩
      | _ => cases hc
    rcases way with ⟨l, rfl⟩ | ⟨l, rfl⟩
    · obtain ⟨q, rfl, ho⟩ := h
      have G1 := (as_obj (.pointer (some ⟨q, 0, none⟩))).2.2.2.2
      have hl : l.length ≤ 1000000 := by have := lenF_len l; have := JP.obj_len_ge l; omega
      have HWi := Lib.hid (with_any (x := s) (ho.upsJ (Nat.le_max_left n m)) (hy.ups (Nat.le_max_right n m)) (fun b hb => by cases hb) (by omega))
      clear ho hy ht he hz hs hl hc
      go_enter Tryz.func151, Tryz.ntmps151
      go_wp2_with fail
      refine HWi.out.mono ?_
      rintro E w1 ⟨q', rfl, ho, hb⟩
      have HB := Lib.hid hb
      have HO := Lib.hid ho
      clear hb ho
      go_wp2_with fail
      go_ret
      exact ⟨_, rfl, ⟨max n m + 1, by rw [← HR.out]; exact ⟨q', rfl, HO.out⟩⟩, HB.out⟩
    · obtain ⟨u, rfl, hr, _⟩ := h
      obtain ⟨a1, c1, rfl, _, _⟩ := hr.len
      obtain ⟨G1, G2⟩ := (as_list (.slice a1 l.length c1)).2.2.2
      have hl : l.length ≤ 1000000 := by have := lenL_len l; have := JP.list_len_ge l; omega
      obtain ⟨k, hix, _⟩ := Option.bind_eq_some_iff.1 (show (JP.idx s l.length).bind (fun n => l[n]?) = some c from hc)
      have HI := Lib.hid (index_yes hix hs (by omega) ht he)
      obtain ⟨k1, _⟩ := JP.idx_some hix
      have HR2 : Hid (R0 = .list (l.set k y)) := Lib.hid (by rw [← HR.out, JP.repl, hix])
      obtain ⟨xs, x1, x2, x3⟩ := list_raw hr
      have HC := Lib.hid (fun w' (hb : Below w.heap.size w w') => cloneVal_any (.slice a1 l.length c1) xs w' (x2.below stays_val hb) (by omega))
      have HX3 := Lib.hid x3
      have HX1 := Lib.hid x1
      have HY := Lib.hid hy
      have hv1 := jv_cell hy
      have q1 : (0 : Int) ≤ (k : Int) := by omega
      clear ht he hs hr x2 x3 hc hz HR hix x1 hy
      go_enter Tryz.func151, Tryz.ntmps151
      go_wp2_with fail
      refine HI.out.mono ?_
      rintro E w1 ⟨rfl, hb⟩
      have HB1 := Lib.hid hb
      clear hb
      go_wp2_with fail
      refine (HC.out w1 HB1.out).mono ?_
      rintro E w2 ⟨v9, rfl, hown, hb⟩
      have HB2 := Lib.hid (HB1.out.trans (hb.mono HB1.out.size))
      rcases hown.form with ⟨_, h0⟩ | ⟨g, c9, rfl, hB, hg, _, _⟩
      · have := HX1.out; rw [h0] at this; simp only [List.length_nil] at this; omega
      · obtain ⟨w3, hst, hown3, t3⟩ := store_val hown (i := k) (by rw [HX1.out]; exact k1) hv1
        have hb3 : Below w.heap.size w w3 := t3.below HB2.out (by have := HB1.out.size; omega)
        have HB3 := Lib.hid hb3
        have HO3 := Lib.hid hown3
        rw [HX1.out]
        have q2 : (k : Int) < (l.length : Int) := by omega
        have Hst := Lib.hid hst
        clear hst hown hb hown3 t3 hb3
        go_wp2_with fail
        rw [Hst.out]
        go_wp2_with fail
        go_ret
        refine ⟨_, rfl, ⟨max n m + 1, ?_⟩, HB3.out⟩
        rw [HR2.out]
        have hrow := HO3.out.row
        rw [HX1.out] at hrow
        refine jv_list hrow (by rw [List.length_set, List.length_set, HX1.out]) fun j u z hu hz => ?_
        by_cases hjk : j = k
        · subst hjk
          rw [List.getElem?_set_self (by rw [HX1.out]; omega)] at hu
          rw [List.getElem?_set_self k1] at hz
          cases hu
          cases hz
          exact (HY.out.below HB3.out).ups (Nat.le_max_right n m)
        · rw [List.getElem?_set_ne (fun e => hjk e.symm)] at hu hz
          exact ((HX3.out j u z hu hz).below HB3.out).ups (Nat.le_max_left n m)
end Go.Proofs.YtlbolbkikkiifaaGreatDoor
/- tree.under: for whatever is done there (printed by gen_under.py). -/
namespace Go.Proofs.YtlbolbkikkiifaaGreatDoor
open Go.RowKit
open JP (JV Bs)

namespace JP
def codE (c : Int) : Option JV → Int
  | some _ => 0
  | none => c
end JP
def MadeE (o : Option JV) (w : World) (e : Ending) (w' : World) : Prop := ∃ u, e = .returned (.tuple #[u, .int .i64 (JP.codE 7 o)]) ∧ (∀ z, o = some z → ∃ k, JvAt k [] w' u z) ∧ Below w.heap.size w w'
theorem MadeE.no {w w' : World} {o : Option JV} {u : Value} (ho : o = none) (hb : Below w.heap.size w w') : MadeE o w (.returned (.tuple #[u, .int .i64 7])) w' := by
  subst ho
  exact ⟨_, rfl, fun c h => (by cases h), hb⟩
theorem MadeE.yes {w w' : World} {o : Option JV} {k : Nat} {c : JV} {u : Value} (ho : o = some c) (h : JvAt k [] w' u c) (hb : Below w.heap.size w w') : MadeE o w (.returned (.tuple #[u, .int .i64 0])) w' := by
  subst ho
  exact ⟨_, rfl, fun d e => (by cases e; exact ⟨k, h⟩), hb⟩
theorem str_cell {w wr : World} {l : List Bs} {i c : Nat} {a : Option Addr} {y : Bs} {n : Nat} (h : StrAt w (.slice a n c) (l.map mkB)) (hb : Below w.heap.size w wr) (hy : l[i]? = some y) : ∃ b o, a = some ⟨b, o, none⟩ ∧ wr.cell? ⟨b, o + i, none⟩ = some (.string (mkB y)) := by
  have hil := (List.getElem?_eq_some_iff.1 hy).1
  obtain ⟨b1, o1, c', hv1, _, _, hbs1, hcell1⟩ := h.row.form (by rw [List.length_map]; omega) (by omega)
  injection hv1 with u1 u2 u3
  obtain ⟨ds1, _, hcc1, hR1⟩ := hcell1 i (mkB y) (by rw [List.getElem?_map, hy]; rfl)
  obtain rfl : ds1 = [.string (mkB y)] := hR1
  exact ⟨b1, o1, u1, (hb.cell (p := ⟨b1, _, none⟩) hbs1).trans (by simpa using hcc1 0 _ rfl)⟩

set_option maxRecDepth 100000 in
set_option maxHeartbeats 6400000 in
theorem under1_any {f : FuncId} {cap : Value} {Cap : World → Prop} {F : JV → Bs → Option JV} (enter : ∀ (a : Array Value) (w : World), (callFunc f a).run Tryz.prog w = .ok (.enter f a) w)
    (keepC : ∀ w w' : World, Cap w → Below w.heap.size w w' → Cap w')
    (clo : ∀ (n : Nat) (v : Value) (x : JV) (s : Bs) (w : World), JvAt n [] w v x → (JP.text x).length ≤ 1000000 → s.length ≤ 1048576 → TabOK w → ErrOK w → Cap w → Calls Tryz.prog f #[v, .string (mkB s), cap] w (MadeE (F x s) w)) :
    ∀ (l : List Bs) (n : Nat) (v sv : Value) (x : JV) (w : World), l ≠ [] → JvAt n [] w v x → (JP.text x).length ≤ 1000000 → StrAt w sv (l.map mkB) → (∀ s ∈ l, s.length ≤ 1048576) → l.length ≤ 1048576 → TabOK w → ErrOK w → Cap w →
      Calls Tryz.prog 110 #[v, sv, .func (.func f) #[] #[cap]] w (MadeE (JP.under F x l) w) := by
  have HClo := Lib.hid clo
  have HK := Lib.hid keepC
  have ep := enter
  clear clo keepC enter
  intro l
  induction l with
  | nil => intro n v sv x w h; exact absurd rfl h
  | cons s r ih =>
    intro n v sv x w _ h hz hs hl hll ht he hc
    obtain ⟨a1, c1, hu, hlc, _⟩ := hs.len
    rw [List.length_map] at hu hlc
    subst hu
    obtain ⟨b, o, ea, e0⟩ := str_cell (wr := w) hs (Below.refl _ _) (i := 0) (y := s) rfl
    subst ea
    have e0 : w.cell? ⟨b, o, none⟩ = some (.string (mkB s)) := e0
    have hsl := hl s (List.mem_cons_self ..)
    cases r with
    | nil =>
      have HC := Lib.hid (HClo.out n v x s w h hz hsl ht he hc)
      rw [JP.under_one]
      clear ih h hz hs hl hll ht he hc hsl hlc
      go_enter Tryz.func110, Tryz.ntmps110
      go_wp2_with fail
      refine HC.out.mono ?_
      rintro E w1 ⟨u, rfl, hu, hb⟩
      have HU := Lib.hid hu
      have HB := Lib.hid hb
      clear hb hu
      go_wp2_with fail
      go_ret2
      exact ⟨u, rfl, HU.out, HB.out⟩
    | cons t r =>
      obtain ⟨R0, hR⟩ : ∃ R, JP.under F x (s :: t :: r) = R := ⟨_, rfl⟩
      rw [hR]
      have HR : Hid (R0 = (JP.child x s).bind fun c => (JP.under F c (t :: r)).map (JP.repl x s)) := Lib.hid (by rw [← hR, JP.under_more])
      clear hR
      have hlen : (s :: t :: r).length = (t :: r).length + 1 := rfl
      obtain ⟨m, hm⟩ : ∃ m, (t :: r).length = m := ⟨_, rfl⟩
      have hm1 : 1 ≤ m := by rw [← hm, List.length_cons]; omega
      rw [hm] at hlen
      rw [hlen] at hs hll hlc ⊢
      have hcut := hs.cut (i := 1) (j := m + 1) (b := b) (o := o) (c := c1) (by rw [List.length_map, hlen]) (by omega) (by rw [List.length_map, hlen]; omega)
      rw [List.take_of_length_le (by rw [List.length_map, hlen]; omega), List.map_cons, List.drop_one, List.tail_cons] at hcut
      have HCut := Lib.hid hcut
      have HCh := Lib.hid (child_any (s := s) h hz hsl ht he)
      have H := Lib.hid h
      have Hz := Lib.hid hz
      have Hl := Lib.hid hl
      have HT := Lib.hid ht
      have HE := Lib.hid he
      have HCp := Lib.hid hc
      have IH := Lib.hid ih
      have Hm := Lib.hid hm
      have q1 : ((m : Int) + 1 == 1) = false := by rw [beq_eq_false_iff_ne]; omega
      have q2 : (0 : Int) < (m : Int) + 1 := by omega
      have q3 : (1 : Int) ≤ (m : Int) + 1 := by omega
      have q4 : (m : Int) + 1 ≤ (c1 : Int) := by omega
      have q5 : ((m : Int) + 1).toNat = m + 1 := by omega
      clear ih h hz hs hl ht he hc hcut hm hlen
      cases hcd : JP.child x s with
      | none =>
        rw [hcd] at HCh
        have HN : Hid (R0 = none) := Lib.hid (by rw [HR.out, hcd]; rfl)
        clear hcd
        go_enter Tryz.func110, Tryz.ntmps110
        go_wp2_with fail
        refine HCh.out.mono ?_
        rintro E w1 ⟨u, rfl, _, hb⟩
        have HB := Lib.hid hb
        clear hb
        go_wp2_with fail
        go_ret2
        exact MadeE.no HN.out HB.out
      | some c =>
        rw [hcd] at HCh
        have HRc : Hid (R0 = (JP.under F c (t :: r)).map (JP.repl x s)) := Lib.hid (by rw [HR.out, hcd]; rfl)
        have Hcd := Lib.hid hcd
        have hcl := (JP.child_len hcd).1
        have Hcl : Hid ((JP.text c).length ≤ 1000000) := Lib.hid (by have := Hz.out; omega)
        clear hcd hcl
        go_enter Tryz.func110, Tryz.ntmps110
        go_wp2_with fail
        refine HCh.out.mono ?_
        rintro E w1 ⟨u, rfl, hu, hb⟩
        obtain ⟨k1, hk1⟩ := hu c rfl
        have HB := Lib.hid hb
        have hcall := IH.out k1 u (.slice (some ⟨b, o + 1, none⟩) (m + 1 - 1) (c1 - 1)) c w1 (by intro e; cases e) hk1 Hcl.out (HCut.out.below hb) (fun s' hs' => Hl.out s' (List.mem_cons_of_mem _ hs')) (by rw [Hm.out]; omega) (HT.out.below hb) (HE.out.below hb) (HK.out _ _ HCp.out hb)
        obtain ⟨R1, hR1⟩ : ∃ R, JP.under F c (t :: r) = R := ⟨_, rfl⟩
        rw [hR1] at hcall
        have HRR : Hid (R0 = R1.map (JP.repl x s)) := Lib.hid (by rw [HRc.out, hR1])
        have HCa := Lib.hid hcall
        clear hcall hR1 hk1 hu hb
        go_wp2_with fail
        refine HCa.out.mono ?_
        rintro E w2 ⟨u2, rfl, hu2, hb2⟩
        have HB2 := Lib.hid (HB.out.trans (hb2.mono HB.out.size))
        cases R1 with
        | none =>
          have HN : Hid (R0 = none) := Lib.hid HRR.out
          have hq : JP.codE 7 none = 7 := rfl
          rw [hq]
          clear hb2 hu2 hq
          go_wp2_with fail
          go_ret2
          exact MadeE.no HN.out HB2.out
        | some z =>
          have HN : Hid (R0 = some (JP.repl x s z)) := Lib.hid HRR.out
          obtain ⟨k2, hk2⟩ := hu2 z rfl
          have hrep := replaced_any (s := s) (H.out.below HB2.out) hk2 Hcd.out Hz.out hsl (HT.out.below HB2.out) (HE.out.below HB2.out)
          have HRp := Lib.hid hrep
          have hq : JP.codE 7 (some z) = 0 := rfl
          have e2 : w2.cell? ⟨b, o, none⟩ = some (.string (mkB s)) := (HB2.out.cell (p := ⟨b, o, none⟩) (World.block_lt_of_cell? w ⟨b, o, none⟩ e0)).trans e0
          rw [hq]
          clear hb2 hu2 hq hk2 hrep
          go_wp2_with fail
          refine HRp.out.mono ?_
          rintro E w3 ⟨u3, rfl, ⟨k3, hk3⟩, hb3⟩
          have HB3 := Lib.hid (HB2.out.trans (hb3.mono HB2.out.size))
          have HJ := Lib.hid hk3
          clear hb3 hk3
          go_wp2_with fail
          go_ret2
          exact MadeE.yes HN.out HJ.out HB3.out

set_option maxRecDepth 100000 in
set_option maxHeartbeats 6400000 in
theorem under0_any {f : FuncId} {Cap : World → Prop} {F : JV → Bs → Option JV} (enter : ∀ (a : Array Value) (w : World), (callFunc f a).run Tryz.prog w = .ok (.enter f a) w)
    (keepC : ∀ w w' : World, Cap w → Below w.heap.size w w' → Cap w')
    (clo : ∀ (n : Nat) (v : Value) (x : JV) (s : Bs) (w : World), JvAt n [] w v x → (JP.text x).length ≤ 1000000 → s.length ≤ 1048576 → TabOK w → ErrOK w → Cap w → Calls Tryz.prog f #[v, .string (mkB s)] w (MadeE (F x s) w)) :
    ∀ (l : List Bs) (n : Nat) (v sv : Value) (x : JV) (w : World), l ≠ [] → JvAt n [] w v x → (JP.text x).length ≤ 1000000 → StrAt w sv (l.map mkB) → (∀ s ∈ l, s.length ≤ 1048576) → l.length ≤ 1048576 → TabOK w → ErrOK w → Cap w →
      Calls Tryz.prog 110 #[v, sv, .func (.func f) #[] #[]] w (MadeE (JP.under F x l) w) := by
  have HClo := Lib.hid clo
  have HK := Lib.hid keepC
  have ep := enter
  clear clo keepC enter
  intro l
  induction l with
  | nil => intro n v sv x w h; exact absurd rfl h
  | cons s r ih =>
    intro n v sv x w _ h hz hs hl hll ht he hc
    obtain ⟨a1, c1, hu, hlc, _⟩ := hs.len
    rw [List.length_map] at hu hlc
    subst hu
    obtain ⟨b, o, ea, e0⟩ := str_cell (wr := w) hs (Below.refl _ _) (i := 0) (y := s) rfl
    subst ea
    have e0 : w.cell? ⟨b, o, none⟩ = some (.string (mkB s)) := e0
    have hsl := hl s (List.mem_cons_self ..)
    cases r with
    | nil =>
      have HC := Lib.hid (HClo.out n v x s w h hz hsl ht he hc)
      rw [JP.under_one]
      clear ih h hz hs hl hll ht he hc hsl hlc
      go_enter Tryz.func110, Tryz.ntmps110
      go_wp2_with fail
      refine HC.out.mono ?_
      rintro E w1 ⟨u, rfl, hu, hb⟩
      have HU := Lib.hid hu
      have HB := Lib.hid hb
      clear hb hu
      go_wp2_with fail
      go_ret2
      exact ⟨u, rfl, HU.out, HB.out⟩
    | cons t r =>
      obtain ⟨R0, hR⟩ : ∃ R, JP.under F x (s :: t :: r) = R := ⟨_, rfl⟩
      rw [hR]
      have HR : Hid (R0 = (JP.child x s).bind fun c => (JP.under F c (t :: r)).map (JP.repl x s)) := Lib.hid (by rw [← hR, JP.under_more])
      clear hR
      have hlen : (s :: t :: r).length = (t :: r).length + 1 := rfl
      obtain ⟨m, hm⟩ : ∃ m, (t :: r).length = m := ⟨_, rfl⟩
      have hm1 : 1 ≤ m := by rw [← hm, List.length_cons]; omega
      rw [hm] at hlen
      rw [hlen] at hs hll hlc ⊢
      have hcut := hs.cut (i := 1) (j := m + 1) (b := b) (o := o) (c := c1) (by rw [List.length_map, hlen]) (by omega) (by rw [List.length_map, hlen]; omega)
      rw [List.take_of_length_le (by rw [List.length_map, hlen]; omega), List.map_cons, List.drop_one, List.tail_cons] at hcut
      have HCut := Lib.hid hcut
      have HCh := Lib.hid (child_any (s := s) h hz hsl ht he)
      have H := Lib.hid h
      have Hz := Lib.hid hz
      have Hl := Lib.hid hl
      have HT := Lib.hid ht
      have HE := Lib.hid he
      have HCp := Lib.hid hc
      have IH := Lib.hid ih
      have Hm := Lib.hid hm
      have q1 : ((m : Int) + 1 == 1) = false := by rw [beq_eq_false_iff_ne]; omega
      have q2 : (0 : Int) < (m : Int) + 1 := by omega
      have q3 : (1 : Int) ≤ (m : Int) + 1 := by omega
      have q4 : (m : Int) + 1 ≤ (c1 : Int) := by omega
      have q5 : ((m : Int) + 1).toNat = m + 1 := by omega
      clear ih h hz hs hl ht he hc hcut hm hlen
      cases hcd : JP.child x s with
      | none =>
        rw [hcd] at HCh
        have HN : Hid (R0 = none) := Lib.hid (by rw [HR.out, hcd]; rfl)
        clear hcd
        go_enter Tryz.func110, Tryz.ntmps110
        go_wp2_with fail
        refine HCh.out.mono ?_
        rintro E w1 ⟨u, rfl, _, hb⟩
        have HB := Lib.hid hb
        clear hb
        go_wp2_with fail
        go_ret2
        exact MadeE.no HN.out HB.out
      | some c =>
        rw [hcd] at HCh
        have HRc : Hid (R0 = (JP.under F c (t :: r)).map (JP.repl x s)) := Lib.hid (by rw [HR.out, hcd]; rfl)
        have Hcd := Lib.hid hcd
        have hcl := (JP.child_len hcd).1
        have Hcl : Hid ((JP.text c).length ≤ 1000000) := Lib.hid (by have := Hz.out; omega)
        clear hcd hcl
        go_enter Tryz.func110, Tryz.ntmps110
        go_wp2_with fail
        refine HCh.out.mono ?_
        rintro E w1 ⟨u, rfl, hu, hb⟩
        obtain ⟨k1, hk1⟩ := hu c rfl
        have HB := Lib.hid hb
        have hcall := IH.out k1 u (.slice (some ⟨b, o + 1, none⟩) (m + 1 - 1) (c1 - 1)) c w1 (by intro e; cases e) hk1 Hcl.out (HCut.out.below hb) (fun s' hs' => Hl.out s' (List.mem_cons_of_mem _ hs')) (by rw [Hm.out]; omega) (HT.out.below hb) (HE.out.below hb) (HK.out _ _ HCp.out hb)
        obtain ⟨R1, hR1⟩ : ∃ R, JP.under F c (t :: r) = R := ⟨_, rfl⟩
        rw [hR1] at hcall
        have HRR : Hid (R0 = R1.map (JP.repl x s)) := Lib.hid (by rw [HRc.out, hR1])
        have HCa := Lib.hid hcall
        clear hcall hR1 hk1 hu hb
        go_wp2_with fail
        refine HCa.out.mono ?_
        rintro E w2 ⟨u2, rfl, hu2, hb2⟩
        have HB2 := Lib.hid (HB.out.trans (hb2.mono HB.out.size))
        cases R1 with
        | none =>
          have HN : Hid (R0 = none) := Lib.hid HRR.out
          have hq : JP.codE 7 none = 7 := rfl
          rw [hq]
          clear hb2 hu2 hq
          go_wp2_with fail
          go_ret2
          exact MadeE.no HN.out HB2.out
        | some z =>
          have HN : Hid (R0 = some (JP.repl x s z)) := Lib.hid HRR.out
          obtain ⟨k2, hk2⟩ := hu2 z rfl
          have hrep := replaced_any (s := s) (H.out.below HB2.out) hk2 Hcd.out Hz.out hsl (HT.out.below HB2.out) (HE.out.below HB2.out)
          have HRp := Lib.hid hrep
          have hq : JP.codE 7 (some z) = 0 := rfl
          have e2 : w2.cell? ⟨b, o, none⟩ = some (.string (mkB s)) := (HB2.out.cell (p := ⟨b, o, none⟩) (World.block_lt_of_cell? w ⟨b, o, none⟩ e0)).trans e0
          rw [hq]
          clear hb2 hu2 hq hk2 hrep
          go_wp2_with fail
          refine HRp.out.mono ?_
          rintro E w3 ⟨u3, rfl, ⟨k3, hk3⟩, hb3⟩
          have HB3 := Lib.hid (HB2.out.trans (hb3.mono HB2.out.size))
          have HJ := Lib.hid hk3
          clear hb3 hk3
          go_wp2_with fail
          go_ret2
          exact MadeE.yes HN.out HJ.out HB3.out
end Go.Proofs.YtlbolbkikkiifaaGreatDoor
/- slices.Delete at a row of values: one element. -/
namespace Go.Proofs.YtlbolbkikkiifaaGreatDoor
open Go.RowKit

theorem wpList_append_here {P : Program} (w : World) {ops : Array Oper} {rest : List Oper} {o : Oper} {a : Act} {Q : Exit → Act → World → Prop} (hg : o.guard = none) (s x : Operand) (t : TypeId)
    (ho : o.op = .call { callee := .builtin .append, args := #[s, x], argTypes := #[t, t] }) (e : TypeId) (i : TypeInfo) (ht : P.underlying t = some (.slice e)) (hi : P.info? e = some i) (h1s : i.size = 1)
    (b n c p m c2 : Nat) (hs : a.eval s = .slice (some ⟨b, 0, none⟩) n c) (hx : a.eval x = .slice (some ⟨b, p, none⟩) m c2) (news : List Value) (hl : news.length = m) (hn : ∀ j u, news[j]? = some u → w.cell? ⟨b, p + j, none⟩ = some u) (h1 : ∀ u ∈ news, u.oneCell' = true)
    (hroom : n + m ≤ c) (hc : ∀ j, j < m → (w.cell? ⟨b, n + j, none⟩).isSome = true) (hf : ∀ j, j < m → w.frozen? ⟨b, n + j, none⟩ = false)
    (h : wpList P ops Q rest (a.put o.dst (.slice (some ⟨b, 0, none⟩) (n + m) c)) (w.setCells b n news)) : wpList P ops Q (o :: rest) a w := by
  refine wpList_plain hg fun K hK' => ?_
  have hrun := run_append_room_cells (P := P) w t o.type e i ht hi b 0 n c ⟨b, p, none⟩ m c2 news (by rw [h1s, Nat.mul_one]; exact hl) (fun j u hu => by rw [add_plain']; exact hn j u hu) h1 hroom (fun j hj => by rw [h1s, Nat.mul_one, Nat.zero_add]; exact hc j (by omega)) (fun j hj => by rw [h1s, Nat.mul_one, Nat.zero_add]; exact hf j (by omega))
  rw [h1s, Nat.mul_one, Nat.zero_add] at hrun
  unfold Oper.wp
  simp [execOp, ho, resolve, invoke, builtin, hs, hx, hrun, Result.andThen]
  exact hK' _ _ h
set_option maxRecDepth 100000 in
set_option maxHeartbeats 3200000 in
theorem delVal_any (v : Value) (xs : List Value) (B i : Nat) (w : World) (h : OwnAt RVal 1 w B 77 v xs) (hi : i < xs.length) (hl : xs.length ≤ 1048576) :
    Calls Tryz.prog 114 #[v, .int .i64 (i : Int), .int .i64 ((i : Int) + 1)] w fun e w' => ∃ g c, v = .slice (some ⟨g, 0, none⟩) xs.length c ∧ B ≤ g ∧ e = .returned (.slice (some ⟨g, 0, none⟩) (xs.length - 1) c) ∧ OwnAt RVal 1 w' B 77 (.slice (some ⟨g, 0, none⟩) (xs.length - 1) c) (xs.eraseIdx i) ∧ Touch g w w' := by
  obtain ⟨i0, hi0, hz0, hz1, hz2⟩ := info_parts Tryz.infoVal
  have h1c := h.ones
  have ho := own_raw h
  rcases ho.2 with ⟨_, h0⟩ | ⟨g, c, cur, rfl, hB, hh, hlc, hc, hcs, htk⟩
  · omega
  have hcur : ∀ (j : Nat) (y : Value), xs[j]? = some y → cur[j]? = some y := fun j y hy => by
    have := ho.cells (g := g) rfl j y hy
    rw [add_plain', Nat.zero_add, cell_block hh] at this
    exact this
  obtain ⟨n, hn⟩ : ∃ n, xs.length = n := ⟨_, rfl⟩
  obtain ⟨m, hm⟩ : ∃ m, n - (i + 1) = m := ⟨_, rfl⟩
  have Hn := Lib.hid hn
  have Hh := Lib.hid hh
  have Hcur := Lib.hid hcur
  have H1 := Lib.hid h1c
  have Hcs := Lib.hid hcs
  have hin : i < n := by omega
  have him : i + m + 1 ≤ n := by omega
  have him2 : n ≤ i + m + 1 := by omega
  have hnc : n ≤ c := by rw [← hn]; exact hlc
  have hcm : c ≤ 9223372036854775807 := by unfold maxLen at hc; omega
  have hn2 : n ≤ 1048576 := by omega
  rw [hn]
  have q1 : (0 : Int) ≤ (i : Int) := by omega
  have q2 : (i : Int) ≤ (i : Int) + 1 := by omega
  have q3 : (i : Int) + 1 ≤ (n : Int) := by omega
  have q4 : (n : Int) ≤ (c : Int) := by omega
  have q5 : (0 : Int) ≤ (i : Int) + 1 := by omega
  have q6 : ((i : Int) + 1).toNat = i + 1 := by omega
  have q7 : ((i : Int) == (i : Int) + 1) = false := by rw [beq_eq_false_iff_ne]; omega
  have q8 : (i : Int) ≤ (c : Int) := by omega
  clear h ho hcur h1c hh hn hl hi htk hlc
  go_enter Tryz.func114, Tryz.ntmps114
  go_upto_region 5 with fail
  refine wp_region_hold 6 (fun w' => ∃ q, w' = w.drewN q) (by kernel_rfl) (by kernel_rfl) ?_ ?_
  · exact ⟨1, rfl⟩
  simp only [List.take_succ_cons, List.take_zero, List.drop_succ_cons, List.drop_zero]
  (first | (refine wpHold_pure (v := ?_) (by rfl) (fun w => ?_) ?_; rotate_left; focus (first | (go_simp; done) | (go_simp; with_reducible rfl))) | (refine wpHold_skip ?_ ?_; focus (go_simp; done)) | (refine wpHold_pure' (v := ?_) ?_ (fun w => ?_) ?_; rotate_left; focus (go_simp; done); focus (first | (go_simp; done) | (go_simp; with_reducible rfl)))); try simp only [Act.put, List.setIfInBounds_toArray, List.set_cons_zero, List.set_cons_succ]
  (first | (refine wpHold_pure (v := ?_) (by rfl) (fun w => ?_) ?_; rotate_left; focus (first | (go_simp; done) | (go_simp; with_reducible rfl))) | (refine wpHold_skip ?_ ?_; focus (go_simp; done)) | (refine wpHold_pure' (v := ?_) ?_ (fun w => ?_) ?_; rotate_left; focus (go_simp; done); focus (first | (go_simp; done) | (go_simp; with_reducible rfl)))); try simp only [Act.put, List.setIfInBounds_toArray, List.set_cons_zero, List.set_cons_succ]
  refine wpHold_pure (v := .slice (some ⟨g, 0, none⟩) i c) (by rfl) (fun w => ?_) ?_
  · go_simp
    done
  try simp only [Act.put, List.setIfInBounds_toArray, List.set_cons_zero, List.set_cons_succ]
  (first | (refine wpHold_pure (v := ?_) (by rfl) (fun w => ?_) ?_; rotate_left; focus (first | (go_simp; done) | (go_simp; with_reducible rfl))) | (refine wpHold_skip ?_ ?_; focus (go_simp; done)) | (refine wpHold_pure' (v := ?_) ?_ (fun w => ?_) ?_; rotate_left; focus (go_simp; done); focus (first | (go_simp; done) | (go_simp; with_reducible rfl)))); try simp only [Act.put, List.setIfInBounds_toArray, List.set_cons_zero, List.set_cons_succ]
  (first | (refine wpHold_pure (v := ?_) (by rfl) (fun w => ?_) ?_; rotate_left; focus (first | (go_simp; done) | (go_simp; with_reducible rfl))) | (refine wpHold_skip ?_ ?_; focus (go_simp; done)) | (refine wpHold_pure' (v := ?_) ?_ (fun w => ?_) ?_; rotate_left; focus (go_simp; done); focus (first | (go_simp; done) | (go_simp; with_reducible rfl)))); try simp only [Act.put, List.setIfInBounds_toArray, List.set_cons_zero, List.set_cons_succ]
  obtain ⟨p, hp⟩ : ∃ p, (c = i + 1 ∧ p = 0) ∨ (c ≠ i + 1 ∧ p = i + 1) := by
    by_cases h : c = i + 1
    · exact ⟨0, .inl ⟨h, rfl⟩⟩
    · exact ⟨i + 1, .inr ⟨h, rfl⟩⟩
  refine wpHold_pure (v := .slice (some ⟨g, p, none⟩) m (c - (i + 1))) (by rfl) (fun w => ?_) ?_
  · rcases hp with ⟨h1, rfl⟩ | ⟨h1, rfl⟩
    · have h2 : n = i + 1 := by omega
      rw [← hm]
      go_simp
    · rw [← hm]
      go_simp
  try simp only [Act.put, List.setIfInBounds_toArray, List.set_cons_zero, List.set_cons_succ]
  refine wpHold_nil ?_
  rintro w' ⟨q, rfl⟩
  try simp only [Act.put, List.setIfInBounds_toArray, List.set_cons_zero, List.set_cons_succ]
  have hml : (xs.drop (i + 1)).length = m := by rw [List.length_drop, Hn.out]; exact hm
  have Hml := Lib.hid hml
  have hnews : ∀ (j : Nat) (u : Value), (xs.drop (i + 1))[j]? = some u → (w.drewN q).cell? ⟨g, p + j, none⟩ = some u := fun j u hu => by
    have hj : j < m := by have := (List.getElem?_eq_some_iff.1 hu).1; omega
    rcases hp with ⟨h1, _⟩ | ⟨_, rfl⟩
    · omega
    · rw [List.getElem?_drop] at hu
      exact (cell_block (w := w.drewN q) Hh.out (i + 1 + j)).trans (Hcur.out _ _ hu)
  have hth : ∀ j, j < m → ((w.drewN q).cell? ⟨g, i + j, none⟩).isSome = true ∧ (w.drewN q).frozen? ⟨g, i + j, none⟩ = false := fun j hj => by
    refine ⟨?_, free_block (w := w.drewN q) Hh.out _⟩
    rw [cell_block (w := w.drewN q) Hh.out, Array.getElem?_eq_getElem (by rw [Hcs.out]; omega)]
    rfl
  have Hnews := Lib.hid hnews
  have Hth := Lib.hid hth
  clear hnews hth hml hp
  obtain ⟨k, hk⟩ : ∃ k, i + m = k := ⟨_, rfl⟩
  have Hk := Lib.hid hk
  have hkn : k + 1 ≤ n := by omega
  have hkn2 : n ≤ k + 1 := by omega
  refine (wpList_append_here _ (by rfl) _ _ _ (by rfl) 77 i0 Tryz.underlying114 hi0 hz1 g i c p m (c - (i + 1)) (by rfl) (by rfl) (xs.drop (i + 1)) Hml.out Hnews.out (fun u hu => H1.out u (List.mem_of_mem_drop hu)) (by omega) (fun j hj => (Hth.out j hj).1) (fun j hj => (Hth.out j hj).2) ?_)
  obtain ⟨cur2, k1, k2, k3, k4, k5⟩ := setCells_all g 77 (xs.drop (i + 1)) i cur (w.drewN q) Hh.out (by rw [Hml.out, Hcs.out]; omega)
  rw [Hml.out, hk] at k3
  rw [hk]
  generalize hW : World.setCells (w.drewN q) g i (xs.drop (i + 1)) = W at k1 k5 ⊢
  have K1 := Lib.hid k1
  have K2 := Lib.hid k2
  have K3 := Lib.hid k3
  have K4 := Lib.hid k4
  have K5 : Hid (Touch g w W) := Lib.hid ⟨k5.os, k5.tape, k5.output, k5.size, k5.other⟩
  clear hW k1 k2 k3 k4 k5 hk
  have r1 : (0 : Int) ≤ (k : Int) := by omega
  have r2 : (k : Int) ≤ (n : Int) := by omega
  have r3 : ¬ c = k := by omega
  go_upto_region 6 with fail
  iterate 16 go_step
  have hzs : (Builtin.zeroCells (Value.nilIface).cells (n - k)).size = n - k := (zeroCells_size _ _).trans (Nat.mul_one _)
  have hthere : W.there g k (Builtin.zeroCells (Value.nilIface).cells (n - k)).size := fun j hj => by
    refine ⟨?_, free_block K1.out _⟩
    rw [cell_block K1.out, Array.getElem?_eq_getElem (by rw [K2.out, Hcs.out]; omega)]
    rfl
  have Hthere := Lib.hid hthere
  have Hzs := Lib.hid hzs
  clear hthere hzs
  refine wpList_clear_rows W (by rfl) _ _ 77 (by rfl) .nilIface Tryz.underlying114 Tryz.zeroValue77 (by simp [Value.cells, Value.oneCell']) g k (n - k) (c - k) (by omega) (by rfl) Hthere.out ?_
  obtain ⟨cur3, k1, k2, k3, k4, k5⟩ := setCells_all g 77 (Builtin.zeroCells (Value.nilIface).cells (n - k)).toList k cur2 W K1.out (by rw [Array.length_toList, Hzs.out, K2.out, Hcs.out]; omega)
  generalize hW : World.setCells W g k _ = W2 at k1 k5 ⊢
  have L1 := Lib.hid k1
  have L2 := Lib.hid k2
  have L3 := Lib.hid k3
  have L5 : Hid (Touch g w W2) := Lib.hid ⟨k5.os.trans K5.out.os, k5.tape.trans K5.out.tape, k5.output.trans K5.out.output, k5.size.trans K5.out.size, fun b hb => (k5.other b hb).trans (K5.out.other b hb)⟩
  clear hW k1 k2 k3 k4 k5
  go_wp2_with fail
  go_ret
  have hel : (xs.eraseIdx i).length = k := by rw [List.length_eraseIdx_of_lt (by rw [Hn.out]; exact hin), Hn.out]; omega
  have hnk : n - 1 = k := by omega
  refine ⟨g, c, rfl, hB, by rw [hnk] <;> rfl, ?_, L5.out⟩
  rw [hnk]
  have hres := own_of_cells (xs := xs.eraseIdx i) (B := B) (c := c) L1.out hB (by rw [hel]; omega) hc (by rw [L2.out, K2.out, Hcs.out, Nat.mul_one]) (fun j u hu => ?_) (fun u hu => H1.out u (List.mem_of_mem_eraseIdx hu))
  · rw [hel] at hres
    exact hres
  · have hjk : j < k := by rw [← hel]; exact (List.getElem?_eq_some_iff.1 hu).1
    rw [L3.out j (.inl hjk)]
    rw [List.getElem?_eraseIdx] at hu
    by_cases hji : j < i
    · rw [if_pos hji] at hu
      rw [K3.out j (.inl hji)]
      exact Hcur.out j u hu
    · rw [if_neg hji] at hu
      have := K4.out (j - i) u (by rw [List.getElem?_drop, show i + 1 + (j - i) = j + 1 by omega]; exact hu)
      rw [show i + (j - i) = j by omega] at this
      exact this
end Go.Proofs.YtlbolbkikkiifaaGreatDoor
/- slices.Delete at a row of texts, as their cells: one element. -/
namespace Go.Proofs.YtlbolbkikkiifaaGreatDoor
open Go.RowKit

set_option maxRecDepth 100000 in
set_option maxHeartbeats 3200000 in
theorem delStr_any (v : Value) (xs : List Value) (B i : Nat) (w : World) (h : OwnAt RVal 1 w B 9 v xs) (hi : i < xs.length) (hl : xs.length ≤ 1048576) :
    Calls Tryz.prog 162 #[v, .int .i64 (i : Int), .int .i64 ((i : Int) + 1)] w fun e w' => ∃ g c, v = .slice (some ⟨g, 0, none⟩) xs.length c ∧ B ≤ g ∧ e = .returned (.slice (some ⟨g, 0, none⟩) (xs.length - 1) c) ∧ OwnAt RVal 1 w' B 9 (.slice (some ⟨g, 0, none⟩) (xs.length - 1) c) (xs.eraseIdx i) ∧ Touch g w w' := by
  obtain ⟨i0, hi0, hz0, hz1, hz2⟩ := info_parts Tryz.infoStr
  have h1c := h.ones
  have ho := own_raw h
  rcases ho.2 with ⟨_, h0⟩ | ⟨g, c, cur, rfl, hB, hh, hlc, hc, hcs, htk⟩
  · omega
  have hcur : ∀ (j : Nat) (y : Value), xs[j]? = some y → cur[j]? = some y := fun j y hy => by
    have := ho.cells (g := g) rfl j y hy
    rw [add_plain', Nat.zero_add, cell_block hh] at this
    exact this
  obtain ⟨n, hn⟩ : ∃ n, xs.length = n := ⟨_, rfl⟩
  obtain ⟨m, hm⟩ : ∃ m, n - (i + 1) = m := ⟨_, rfl⟩
  have Hn := Lib.hid hn
  have Hh := Lib.hid hh
  have Hcur := Lib.hid hcur
  have H1 := Lib.hid h1c
  have Hcs := Lib.hid hcs
  have hin : i < n := by omega
  have him : i + m + 1 ≤ n := by omega
  have him2 : n ≤ i + m + 1 := by omega
  have hnc : n ≤ c := by rw [← hn]; exact hlc
  have hcm : c ≤ 9223372036854775807 := by unfold maxLen at hc; omega
  have hn2 : n ≤ 1048576 := by omega
  rw [hn]
  have q1 : (0 : Int) ≤ (i : Int) := by omega
  have q2 : (i : Int) ≤ (i : Int) + 1 := by omega
  have q3 : (i : Int) + 1 ≤ (n : Int) := by omega
  have q4 : (n : Int) ≤ (c : Int) := by omega
  have q5 : (0 : Int) ≤ (i : Int) + 1 := by omega
  have q6 : ((i : Int) + 1).toNat = i + 1 := by omega
  have q7 : ((i : Int) == (i : Int) + 1) = false := by rw [beq_eq_false_iff_ne]; omega
  have q8 : (i : Int) ≤ (c : Int) := by omega
  clear h ho hcur h1c hh hn hl hi htk hlc
  go_enter Tryz.func162, Tryz.ntmps162
  go_upto_region 5 with fail
  refine wp_region_hold 6 (fun w' => ∃ q, w' = w.drewN q) (by kernel_rfl) (by kernel_rfl) ?_ ?_
  · exact ⟨1, rfl⟩
  simp only [List.take_succ_cons, List.take_zero, List.drop_succ_cons, List.drop_zero]
  (first | (refine wpHold_pure (v := ?_) (by rfl) (fun w => ?_) ?_; rotate_left; focus (first | (go_simp; done) | (go_simp; with_reducible rfl))) | (refine wpHold_skip ?_ ?_; focus (go_simp; done)) | (refine wpHold_pure' (v := ?_) ?_ (fun w => ?_) ?_; rotate_left; focus (go_simp; done); focus (first | (go_simp; done) | (go_simp; with_reducible rfl)))); try simp only [Act.put, List.setIfInBounds_toArray, List.set_cons_zero, List.set_cons_succ]
  (first | (refine wpHold_pure (v := ?_) (by rfl) (fun w => ?_) ?_; rotate_left; focus (first | (go_simp; done) | (go_simp; with_reducible rfl))) | (refine wpHold_skip ?_ ?_; focus (go_simp; done)) | (refine wpHold_pure' (v := ?_) ?_ (fun w => ?_) ?_; rotate_left; focus (go_simp; done); focus (first | (go_simp; done) | (go_simp; with_reducible rfl)))); try simp only [Act.put, List.setIfInBounds_toArray, List.set_cons_zero, List.set_cons_succ]
  refine wpHold_pure (v := .slice (some ⟨g, 0, none⟩) i c) (by rfl) (fun w => ?_) ?_
  · go_simp
    done
  try simp only [Act.put, List.setIfInBounds_toArray, List.set_cons_zero, List.set_cons_succ]
  (first | (refine wpHold_pure (v := ?_) (by rfl) (fun w => ?_) ?_; rotate_left; focus (first | (go_simp; done) | (go_simp; with_reducible rfl))) | (refine wpHold_skip ?_ ?_; focus (go_simp; done)) | (refine wpHold_pure' (v := ?_) ?_ (fun w => ?_) ?_; rotate_left; focus (go_simp; done); focus (first | (go_simp; done) | (go_simp; with_reducible rfl)))); try simp only [Act.put, List.setIfInBounds_toArray, List.set_cons_zero, List.set_cons_succ]
  (first | (refine wpHold_pure (v := ?_) (by rfl) (fun w => ?_) ?_; rotate_left; focus (first | (go_simp; done) | (go_simp; with_reducible rfl))) | (refine wpHold_skip ?_ ?_; focus (go_simp; done)) | (refine wpHold_pure' (v := ?_) ?_ (fun w => ?_) ?_; rotate_left; focus (go_simp; done); focus (first | (go_simp; done) | (go_simp; with_reducible rfl)))); try simp only [Act.put, List.setIfInBounds_toArray, List.set_cons_zero, List.set_cons_succ]
  obtain ⟨p, hp⟩ : ∃ p, (c = i + 1 ∧ p = 0) ∨ (c ≠ i + 1 ∧ p = i + 1) := by
    by_cases h : c = i + 1
    · exact ⟨0, .inl ⟨h, rfl⟩⟩
    · exact ⟨i + 1, .inr ⟨h, rfl⟩⟩
  refine wpHold_pure (v := .slice (some ⟨g, p, none⟩) m (c - (i + 1))) (by rfl) (fun w => ?_) ?_
  · rcases hp with ⟨h1, rfl⟩ | ⟨h1, rfl⟩
    · have h2 : n = i + 1 := by omega
      rw [← hm]
      go_simp
    · rw [← hm]
      go_simp
  try simp only [Act.put, List.setIfInBounds_toArray, List.set_cons_zero, List.set_cons_succ]
  refine wpHold_nil ?_
  rintro w' ⟨q, rfl⟩
  try simp only [Act.put, List.setIfInBounds_toArray, List.set_cons_zero, List.set_cons_succ]
  have hml : (xs.drop (i + 1)).length = m := by rw [List.length_drop, Hn.out]; exact hm
  have Hml := Lib.hid hml
  have hnews : ∀ (j : Nat) (u : Value), (xs.drop (i + 1))[j]? = some u → (w.drewN q).cell? ⟨g, p + j, none⟩ = some u := fun j u hu => by
    have hj : j < m := by have := (List.getElem?_eq_some_iff.1 hu).1; omega
    rcases hp with ⟨h1, _⟩ | ⟨_, rfl⟩
    · omega
    · rw [List.getElem?_drop] at hu
      exact (cell_block (w := w.drewN q) Hh.out (i + 1 + j)).trans (Hcur.out _ _ hu)
  have hth : ∀ j, j < m → ((w.drewN q).cell? ⟨g, i + j, none⟩).isSome = true ∧ (w.drewN q).frozen? ⟨g, i + j, none⟩ = false := fun j hj => by
    refine ⟨?_, free_block (w := w.drewN q) Hh.out _⟩
    rw [cell_block (w := w.drewN q) Hh.out, Array.getElem?_eq_getElem (by rw [Hcs.out]; omega)]
    rfl
  have Hnews := Lib.hid hnews
  have Hth := Lib.hid hth
  clear hnews hth hml hp
  obtain ⟨k, hk⟩ : ∃ k, i + m = k := ⟨_, rfl⟩
  have Hk := Lib.hid hk
  have hkn : k + 1 ≤ n := by omega
  have hkn2 : n ≤ k + 1 := by omega
  refine (wpList_append_here _ (by rfl) _ _ _ (by rfl) 9 i0 Tryz.underlying24 hi0 hz1 g i c p m (c - (i + 1)) (by rfl) (by rfl) (xs.drop (i + 1)) Hml.out Hnews.out (fun u hu => H1.out u (List.mem_of_mem_drop hu)) (by omega) (fun j hj => (Hth.out j hj).1) (fun j hj => (Hth.out j hj).2) ?_)
  obtain ⟨cur2, k1, k2, k3, k4, k5⟩ := setCells_all g 9 (xs.drop (i + 1)) i cur (w.drewN q) Hh.out (by rw [Hml.out, Hcs.out]; omega)
  rw [Hml.out, hk] at k3
  rw [hk]
  generalize hW : World.setCells (w.drewN q) g i (xs.drop (i + 1)) = W at k1 k5 ⊢
  have K1 := Lib.hid k1
  have K2 := Lib.hid k2
  have K3 := Lib.hid k3
  have K4 := Lib.hid k4
  have K5 : Hid (Touch g w W) := Lib.hid ⟨k5.os, k5.tape, k5.output, k5.size, k5.other⟩
  clear hW k1 k2 k3 k4 k5 hk
  have r1 : (0 : Int) ≤ (k : Int) := by omega
  have r2 : (k : Int) ≤ (n : Int) := by omega
  have r3 : ¬ c = k := by omega
  go_upto_region 6 with fail
  iterate 16 go_step
  have hzs : (Builtin.zeroCells (Value.string ByteArray.empty).cells (n - k)).size = n - k := (zeroCells_size _ _).trans (Nat.mul_one _)
  have hthere : W.there g k (Builtin.zeroCells (Value.string ByteArray.empty).cells (n - k)).size := fun j hj => by
    refine ⟨?_, free_block K1.out _⟩
    rw [cell_block K1.out, Array.getElem?_eq_getElem (by rw [K2.out, Hcs.out]; omega)]
    rfl
  have Hthere := Lib.hid hthere
  have Hzs := Lib.hid hzs
  clear hthere hzs
  refine wpList_clear_rows W (by rfl) _ _ 9 (by rfl) (.string ByteArray.empty) Tryz.underlying24 Tryz.zeroValue9 (by simp [Value.cells, Value.oneCell']) g k (n - k) (c - k) (by omega) (by rfl) Hthere.out ?_
  obtain ⟨cur3, k1, k2, k3, k4, k5⟩ := setCells_all g 9 (Builtin.zeroCells (Value.string ByteArray.empty).cells (n - k)).toList k cur2 W K1.out (by rw [Array.length_toList, Hzs.out, K2.out, Hcs.out]; omega)
  generalize hW : World.setCells W g k _ = W2 at k1 k5 ⊢
  have L1 := Lib.hid k1
  have L2 := Lib.hid k2
  have L3 := Lib.hid k3
  have L5 : Hid (Touch g w W2) := Lib.hid ⟨k5.os.trans K5.out.os, k5.tape.trans K5.out.tape, k5.output.trans K5.out.output, k5.size.trans K5.out.size, fun b hb => (k5.other b hb).trans (K5.out.other b hb)⟩
  clear hW k1 k2 k3 k4 k5
  go_wp2_with fail
  go_ret
  have hel : (xs.eraseIdx i).length = k := by rw [List.length_eraseIdx_of_lt (by rw [Hn.out]; exact hin), Hn.out]; omega
  have hnk : n - 1 = k := by omega
  refine ⟨g, c, rfl, hB, by rw [hnk] <;> rfl, ?_, L5.out⟩
  rw [hnk]
  have hres := own_of_cells (xs := xs.eraseIdx i) (B := B) (c := c) L1.out hB (by rw [hel]; omega) hc (by rw [L2.out, K2.out, Hcs.out, Nat.mul_one]) (fun j u hu => ?_) (fun u hu => H1.out u (List.mem_of_mem_eraseIdx hu))
  · rw [hel] at hres
    exact hres
  · have hjk : j < k := by rw [← hel]; exact (List.getElem?_eq_some_iff.1 hu).1
    rw [L3.out j (.inl hjk)]
    rw [List.getElem?_eraseIdx] at hu
    by_cases hji : j < i
    · rw [if_pos hji] at hu
      rw [K3.out j (.inl hji)]
      exact Hcur.out j u hu
    · rw [if_neg hji] at hu
      have := K4.out (j - i) u (by rw [List.getElem?_drop, show i + 1 + (j - i) = j + 1 by omega]; exact hu)
      rw [show i + (j - i) = j by omega] at this
      exact this
end Go.Proofs.YtlbolbkikkiifaaGreatDoor
/- json: (*Object).Without: its contract. -/
namespace Go.Proofs.YtlbolbkikkiifaaGreatDoor
open Go.RowKit
open JP (JV Bs)

theorem del_same {w w' : World} {B : Nat} {e : TypeId} {v : Value} {xs : List Value} {g n c : Nat} (h : OwnAt RVal 1 w B e v xs) (hv : v = .slice (some ⟨g, 0, none⟩) n c) (hB : B ≤ g) (ht : Touch g w w') (_hs : B ≤ w.heap.size) : SameBut e w w' ∧ Below B w w' := by
  refine ⟨fun b cur e' fr hb hne => (ht.other b fun eq => ?_).trans hb, ht.below (Below.refl _ _) hB⟩
  obtain ⟨_, _, cur', k⟩ := h.at (g := g) (by rw [hv]; rfl)
  rw [eq, k] at hb
  injection hb with hb
  injection hb with _ hb
  exact hne hb.symm
theorem cut_none {x : Bs} : ∀ {d : List (Bs × JV)}, JP.get x d = none → JP.cut x d = d
  | [], _ => rfl
  | (m, y) :: r, h => by
    unfold JP.get at h
    by_cases hm : m = x
    · rw [if_pos hm] at h; cases h
    · rw [if_neg hm] at h
      unfold JP.cut
      rw [List.filter_cons_of_pos (by simpa using hm)]
      exact congrArg _ (cut_none h)
theorem cut_at {x : Bs} : ∀ {d : List (Bs × JV)} {p : Nat} {y : JV}, JP.Srt d → d[p]? = some (x, y) → JP.cut x d = d.eraseIdx p
  | [], _, _, _, h => by simp at h
  | (m, z) :: r, 0, y, hs, h => by
    simp only [List.getElem?_cons_zero, Option.some.injEq] at h
    cases h
    obtain ⟨h1, _⟩ := List.pairwise_cons.1 hs
    unfold JP.cut
    rw [List.filter_cons_of_neg (by simp), List.eraseIdx_cons_zero, List.filter_eq_self]
    intro a ha
    have := h1 a ha
    rw [bne_iff_ne]
    intro e
    rw [e] at this
    exact List.lt_irrefl _ this
  | (m, z) :: r, p + 1, y, hs, h => by
    obtain ⟨h1, h2⟩ := List.pairwise_cons.1 hs
    rw [List.getElem?_cons_succ] at h
    have hlt := h1 (x, y) (List.mem_of_getElem? h)
    have ih := cut_at h2 h
    unfold JP.cut at ih ⊢
    rw [List.filter_cons_of_pos (by
      rw [bne_iff_ne]
      intro e
      rw [e] at hlt
      exact List.lt_irrefl _ hlt), ih, List.eraseIdx_cons_succ]
theorem cut_srt {x : Bs} {d : List (Bs × JV)} (h : JP.Srt d) : JP.Srt (JP.cut x d) := List.Pairwise.sublist (List.filter_sublist) h
theorem map_erase {α β : Type} (f : α → β) (l : List α) (p : Nat) : (l.eraseIdx p).map f = (l.map f).eraseIdx p := by
  apply List.ext_getElem?
  intro j
  rw [List.getElem?_map, List.getElem?_eraseIdx, List.getElem?_eraseIdx]
  split <;> rw [List.getElem?_map]
theorem pairs_erase {α : Type} {xs : List Value} {l : List α} {P : Value → α → Prop} (h : ∀ (j : Nat) (u : Value) (x : α), xs[j]? = some u → l[j]? = some x → P u x) (p : Nat) :
    ∀ (j : Nat) (u : Value) (x : α), (xs.eraseIdx p)[j]? = some u → (l.eraseIdx p)[j]? = some x → P u x := fun j u x hu hx => by
  rw [List.getElem?_eraseIdx] at hu hx
  by_cases hj : j < p
  · rw [if_pos hj] at hu hx; exact h j u x hu hx
  · rw [if_neg hj] at hu hx; exact h (j + 1) u x hu hx
set_option maxRecDepth 100000 in
set_option maxHeartbeats 6400000 in
theorem without_any {n : Nat} {T : List Nat} {q : Nat} {d : List (Bs × JV)} {x : Bs} {w : World} (h : ObR (JvR n T) T w q d) (hT : ∀ b ∈ T, b < w.heap.size) (hl : d.length ≤ 1048575) :
    Calls Tryz.prog 112 #[.pointer (some ⟨q, 0, none⟩), .string (mkB x)] w fun e w' => ∃ q', e = .returned (.pointer (some ⟨q', 0, none⟩)) ∧ ObR (JvR n T) T w' q' (JP.cut x d) ∧ Below w.heap.size w w' := by
  have hob := h
  obtain ⟨hqT, hs, vn, vv, cn, cv, hrn, hon, hrv, hov⟩ := h
  have HS := Lib.hid (search_any (x := x) hs hrn (by omega))
  have hsp := cut_srt (x := x) hs
  have hF := JP.find_spec (n := x) hs
  obtain ⟨xs, hxl, hxr, hxR⟩ := hrn.raw one_string
  obtain ⟨ys, hyl, hyr, hyR⟩ := hrv.raw (one_jv n T)
  rw [List.length_map] at hxl hyl
  obtain ⟨an, c1, hu1, _, _⟩ := hrn.len
  obtain ⟨av, c2, hu2, _, _⟩ := hrv.len
  obtain ⟨ln, hln⟩ : ∃ n, (d.map fun y => mkB y.1).length = n := ⟨_, rfl⟩
  obtain ⟨lv, hlv⟩ : ∃ n, (d.map (·.2)).length = n := ⟨_, rfl⟩
  rw [hln] at hu1
  rw [hlv] at hu2
  subst hu1
  subst hu2
  clear hln hlv
  have hqw : q < w.heap.size := World.block_lt_of_cell? w ⟨q, 0, none⟩ cn
  rcases hF with ⟨y0, hy0, hg, _⟩ | ⟨_, hg, _⟩
  · have hcut := cut_at hs hy0
    rw [hg] at HS
    have hpn : (JP.cut x d).map (fun z => mkB z.1) = (d.map fun z => mkB z.1).eraseIdx (JP.pos x d) := by rw [hcut]; exact map_erase _ _ _
    have hpv : (JP.cut x d).map (·.2) = (d.map (·.2)).eraseIdx (JP.pos x d) := by rw [hcut]; exact map_erase _ _ _
    have hlt : JP.pos x d < d.length := (List.getElem?_eq_some_iff.1 hy0).1
    obtain ⟨D, hD⟩ : ∃ D, JP.cut x d = D := ⟨_, rfl⟩
    rw [hD] at hpn hpv hsp ⊢
    obtain ⟨p, hp⟩ : ∃ p, JP.pos x d = p := ⟨_, rfl⟩
    rw [hp] at HS hpn hpv hlt
    have HC1 := Lib.hid (fun w' (hb : Below w.heap.size w w') => cloneStr_any (.slice an ln c1) xs w' (hxr.below stays_val hb) (by omega))
    have HC2 := Lib.hid (fun w' (hb : Below w.heap.size w w') => cloneVal_any (.slice av lv c2) ys w' (hyr.below stays_val hb) (by omega))
    have hfin : ∀ w' (q' : Nat) (v8 v9 : Value), KeepT T w w' → q' ∉ T → w'.cell? ⟨q', 0, none⟩ = some v8 → w'.cell? ⟨q', 1, none⟩ = some v9 → RowAt RVal 1 w' v8 (xs.eraseIdx p) → OffT T v8 D → RowAt RVal 1 w' v9 (ys.eraseIdx p) → OffT T v9 D → ObR (JvR n T) T w' q' D := fun w' q' v8 v9 hk hq' k0 k1 hr8 ho8 hr9 ho9 => by
      refine ⟨hq', hsp, v8, v9, k0, k1, ?_, ho8, ?_, ho9⟩
      · rw [hpn]
        refine hr8.ofRaw (by rw [List.length_eraseIdx_of_lt (by omega), List.length_eraseIdx_of_lt (by rw [List.length_map]; omega), List.length_map]; omega) fun j u z hu hz => ?_
        have := pairs_erase (P := fun u z => u = .string z) (strs_raw hxR) p j u z hu hz
        rw [this]; rfl
      · rw [hpv]
        refine hr9.ofRaw (by rw [List.length_eraseIdx_of_lt (by omega), List.length_eraseIdx_of_lt (by rw [List.length_map]; omega), List.length_map]; omega) fun j u z hu hz => ?_
        obtain ⟨v1, e1, h1⟩ := pairs_erase (P := fun u z => JvR n T w [u] z) hyR p j u z hu hz
        exact ⟨v1, e1, h1.keepT hk⟩
    have Hfin := Lib.hid hfin
    have HT := Lib.hid hT
    have hxp : p < xs.length := by omega
    have hyp : p < ys.length := by omega
    have hxs : xs.length ≤ 1048576 := by omega
    have hys : ys.length ≤ 1048576 := by omega
    have hpw : IntKind.i64.wrap ((p : Int) + 1) = (p : Int) + 1 := IntWalk.i64_in _ (by omega)
    clear hg hfin hT hrn hrv hxr hyr hxR hyR hon hov hpn hpv hD hsp hs hxl hyl hp hob hcut hy0 hlt
    go_enter Tryz.func112, Tryz.ntmps112
    go_wp2_with fail
    refine HS.out.mono ?_
    rintro E w1 ⟨rfl, k, rfl⟩
    have Hb1 : Hid (Below w.heap.size w (w.drewN k)) := Lib.hid ((below_drewN0 w k))
    go_upto_region 4 with fail
    refine wp_region_relY 20 (fun w' => Below w.heap.size (w.drewN k) w') (fun i wa wb => if i = 8 then SameBut 9 wa wb ∧ Below w.heap.size wa wb else (if i = 17 then SameBut 77 wa wb ∧ Below w.heap.size wa wb else Below wa.heap.size wa wb)) (fun ii U w' => match ii with
      | 0 => U 0 = .pointer (some ⟨q, 0, none⟩)
      | 1 => U 1 = .pointer (some ⟨q, 0, none⟩)
      | 2 => U 2 = .pointer (some ⟨q, 0, none⟩)
      | 3 => U 3 = .slice an ln c1
      | 4 => OwnAt RVal 1 w' w.heap.size 9 (U 4) xs
      | 5 => U 5 = .int .i64 (p : Int)
      | 6 => U 6 = .int .i64 (p : Int)
      | 7 => U 7 = .int .i64 ((p : Int) + 1)
      | 8 => OwnAt RVal 1 w' w.heap.size 9 (U 8) (xs.eraseIdx p)
      | 9 => U 9 = .pointer (some ⟨q, 0, none⟩)
      | 10 => U 10 = .pointer (some ⟨q, 0, none⟩)
      | 11 => U 11 = .pointer (some ⟨q, 1, none⟩)
      | 12 => U 12 = .slice av lv c2
      | 13 => OwnAt RVal 1 w' w.heap.size 77 (U 13) ys
      | 14 => U 14 = .int .i64 (p : Int)
      | 15 => U 15 = .int .i64 (p : Int)
      | 16 => U 16 = .int .i64 ((p : Int) + 1)
      | 17 => OwnAt RVal 1 w' w.heap.size 77 (U 17) (ys.eraseIdx p)
      | 18 => U 18 = .agg #[U 8, U 17]
      | 19 => ∃ g, U 19 = .pointer (some ⟨g, 0, none⟩) ∧ w.heap.size ≤ g ∧ w'.heap[g]? = some (.cells #[U 8, U 17] 117 (0, 0))
      | _ => True)
      (fun | 1 => [0] | 2 => [1] | 3 => [2] | 4 => [3] | 7 => [6] | 8 => [4, 5, 7] | 10 => [9] | 11 => [10] | 12 => [11] | 13 => [12] | 16 => [15] | 17 => [13, 14, 16] | 18 => [8, 17] | 19 => [18, 8, 17] | _ => [])
      (fun | 4 => [8] | 13 => [17] | _ => []) (by kernel_rfl) (by kernel_rfl) (Below.refl _ _).drew ?_ ?_ ⟨?_, ?_, ?_, ?_, ?_, ?_, ?_, ?_, ?_, ?_, ?_, ?_, ?_, ?_, ?_, ?_, ?_, ?_, ?_, ?_, trivial⟩ ?_
    · intro i wa wb hk hi
      by_cases h8 : i = 8
      · rw [if_pos h8] at hk
        exact hi.trans hk.2
      · rw [if_neg h8] at hk
        by_cases h17 : i = 17
        · rw [if_pos h17] at hk
          exact hi.trans hk.2
        · rw [if_neg h17] at hk
          exact below_then' hi hk
    · intro i j U wa wb hji hkl hk hi h
      by_cases h8 : i = 8
      · rw [if_pos h8] at hk
        subst h8
        have hsm := hk.1
        match j, hji, hkl, h with
        | 0, _, _, h => exact h
        | 1, _, _, h => exact h
        | 2, _, _, h => exact h
        | 3, _, _, h => exact h
        | 4, _, hkl, h => exact absurd (by simp) hkl
        | 5, _, _, h => exact h
        | 6, _, _, h => exact h
        | 7, _, _, h => exact h
        | 8, hji, _, h => exact absurd rfl hji
        | 9, _, _, h => exact h
        | 10, _, _, h => exact h
        | 11, _, _, h => exact h
        | 12, _, _, h => exact h
        | 13, _, _, h => exact OwnAt.same' flat_val h hsm (by decide)
        | 14, _, _, h => exact h
        | 15, _, _, h => exact h
        | 16, _, _, h => exact h
        | 17, _, _, h => exact OwnAt.same' flat_val h hsm (by decide)
        | 18, _, _, h => exact h
        | 19, _, _, h => exact (by obtain ⟨g, h1, h0, h2⟩ := h; exact ⟨g, h1, h0, hsm g _ _ _ h2 (by decide)⟩)
        | _ + 20, _, _, h => trivial
      · rw [if_neg h8] at hk
        by_cases h17 : i = 17
        · rw [if_pos h17] at hk
          subst h17
          have hsm := hk.1
          match j, hji, hkl, h with
          | 0, _, _, h => exact h
          | 1, _, _, h => exact h
          | 2, _, _, h => exact h
          | 3, _, _, h => exact h
          | 4, _, _, h => exact OwnAt.same' flat_val h hsm (by decide)
          | 5, _, _, h => exact h
          | 6, _, _, h => exact h
          | 7, _, _, h => exact h
          | 8, _, _, h => exact OwnAt.same' flat_val h hsm (by decide)
          | 9, _, _, h => exact h
          | 10, _, _, h => exact h
          | 11, _, _, h => exact h
          | 12, _, _, h => exact h
          | 13, _, hkl, h => exact absurd (by simp) hkl
          | 14, _, _, h => exact h
          | 15, _, _, h => exact h
          | 16, _, _, h => exact h
          | 17, hji, _, h => exact absurd rfl hji
          | 18, _, _, h => exact h
          | 19, _, _, h => exact (by obtain ⟨g, h1, h0, h2⟩ := h; exact ⟨g, h1, h0, hsm g _ _ _ h2 (by decide)⟩)
          | _ + 20, _, _, h => trivial
        · rw [if_neg h17] at hk
          match j, h with
          | 0, h => exact h
          | 1, h => exact h
          | 2, h => exact h
          | 3, h => exact h
          | 4, h => exact OwnAt.below stays_val h hk
          | 5, h => exact h
          | 6, h => exact h
          | 7, h => exact h
          | 8, h => exact OwnAt.below stays_val h hk
          | 9, h => exact h
          | 10, h => exact h
          | 11, h => exact h
          | 12, h => exact h
          | 13, h => exact OwnAt.below stays_val h hk
          | 14, h => exact h
          | 15, h => exact h
          | 16, h => exact h
          | 17, h => exact OwnAt.below stays_val h hk
          | 18, h => exact h
          | 19, h => exact (by obtain ⟨g, h1, h0, h2⟩ := h; exact ⟨g, h1, h0, below_block hk h2⟩)
          | _ + 20, h => trivial
    · intro x' w' hb hd
      have hbw : Below w.heap.size w w' := (below_drewN0 w k).trans hb
      have e0 : w'.cell? ⟨q, 0, none⟩ = some (.slice an ln c1) := (hbw.cell (p := ⟨q, 0, none⟩) hqw).trans cn
      have e1 : w'.cell? ⟨q, 1, none⟩ = some (.slice av lv c2) := (hbw.cell (p := ⟨q, 1, none⟩) hqw).trans cv
      refine owesK_here (.pointer (some ⟨q, 0, none⟩)) (by rfl) ?_ rfl (else_of (by decide) (else_of (by decide) (Below.refl _ _)))
      simp only [putAll, List.take_succ_cons, List.take_zero]
      go_simp
    · intro x' w' hb hd
      have hbw : Below w.heap.size w w' := (below_drewN0 w k).trans hb
      have e0 : w'.cell? ⟨q, 0, none⟩ = some (.slice an ln c1) := (hbw.cell (p := ⟨q, 0, none⟩) hqw).trans cn
      have e1 : w'.cell? ⟨q, 1, none⟩ = some (.slice av lv c2) := (hbw.cell (p := ⟨q, 1, none⟩) hqw).trans cv
      have k0 : x' 0 = .pointer (some ⟨q, 0, none⟩) := hd 0 (by simp)
      refine owesK_here (.pointer (some ⟨q, 0, none⟩)) (by rfl) ?_ rfl (else_of (by decide) (else_of (by decide) (Below.refl _ _)))
      simp only [putAll, List.take_succ_cons, List.take_zero]
      go_simp
    · intro x' w' hb hd
      have hbw : Below w.heap.size w w' := (below_drewN0 w k).trans hb
      have e0 : w'.cell? ⟨q, 0, none⟩ = some (.slice an ln c1) := (hbw.cell (p := ⟨q, 0, none⟩) hqw).trans cn
      have e1 : w'.cell? ⟨q, 1, none⟩ = some (.slice av lv c2) := (hbw.cell (p := ⟨q, 1, none⟩) hqw).trans cv
      have k0 : x' 1 = .pointer (some ⟨q, 0, none⟩) := hd 1 (by simp)
      refine owesK_here (.pointer (some ⟨q, 0, none⟩)) (by rfl) ?_ rfl (else_of (by decide) (else_of (by decide) (Below.refl _ _)))
      simp only [putAll, List.take_succ_cons, List.take_zero]
      go_simp
    · intro x' w' hb hd
      have hbw : Below w.heap.size w w' := (below_drewN0 w k).trans hb
      have e0 : w'.cell? ⟨q, 0, none⟩ = some (.slice an ln c1) := (hbw.cell (p := ⟨q, 0, none⟩) hqw).trans cn
      have e1 : w'.cell? ⟨q, 1, none⟩ = some (.slice av lv c2) := (hbw.cell (p := ⟨q, 1, none⟩) hqw).trans cv
      have k0 : x' 2 = .pointer (some ⟨q, 0, none⟩) := hd 2 (by simp)
      refine owesK_here (.slice an ln c1) (by rfl) ?_ rfl (else_of (by decide) (else_of (by decide) (Below.refl _ _)))
      simp only [putAll, List.take_succ_cons, List.take_zero]
      go_simp
    · intro x' w' hb hd
      have hbw : Below w.heap.size w w' := (below_drewN0 w k).trans hb
      have e0 : w'.cell? ⟨q, 0, none⟩ = some (.slice an ln c1) := (hbw.cell (p := ⟨q, 0, none⟩) hqw).trans cn
      have e1 : w'.cell? ⟨q, 1, none⟩ = some (.slice av lv c2) := (hbw.cell (p := ⟨q, 1, none⟩) hqw).trans cv
      have k0 : x' 3 = .slice an ln c1 := hd 3 (by simp)
      refine owesK_call 86 #[.slice an ln c1] (by rfl) ?_ ((HC1.out w' hbw).mono fun e w2 ⟨v', h1, h2, h3⟩ => ⟨v', h1, h2.mono hbw.size, else_of (by decide) (else_of (by decide) h3)⟩)
      simp only [putAll, List.take_succ_cons, List.take_zero]
      go_simp
    · intro x' w' hb hd
      have hbw : Below w.heap.size w w' := (below_drewN0 w k).trans hb
      have e0 : w'.cell? ⟨q, 0, none⟩ = some (.slice an ln c1) := (hbw.cell (p := ⟨q, 0, none⟩) hqw).trans cn
      have e1 : w'.cell? ⟨q, 1, none⟩ = some (.slice av lv c2) := (hbw.cell (p := ⟨q, 1, none⟩) hqw).trans cv
      refine owesK_here (.int .i64 (p : Int)) (by rfl) ?_ rfl (else_of (by decide) (else_of (by decide) (Below.refl _ _)))
      simp only [putAll, List.take_succ_cons, List.take_zero]
      go_simp
    · intro x' w' hb hd
      have hbw : Below w.heap.size w w' := (below_drewN0 w k).trans hb
      have e0 : w'.cell? ⟨q, 0, none⟩ = some (.slice an ln c1) := (hbw.cell (p := ⟨q, 0, none⟩) hqw).trans cn
      have e1 : w'.cell? ⟨q, 1, none⟩ = some (.slice av lv c2) := (hbw.cell (p := ⟨q, 1, none⟩) hqw).trans cv
      refine owesK_here (.int .i64 (p : Int)) (by rfl) ?_ rfl (else_of (by decide) (else_of (by decide) (Below.refl _ _)))
      simp only [putAll, List.take_succ_cons, List.take_zero]
      go_simp
    · intro x' w' hb hd
      have hbw : Below w.heap.size w w' := (below_drewN0 w k).trans hb
      have e0 : w'.cell? ⟨q, 0, none⟩ = some (.slice an ln c1) := (hbw.cell (p := ⟨q, 0, none⟩) hqw).trans cn
      have e1 : w'.cell? ⟨q, 1, none⟩ = some (.slice av lv c2) := (hbw.cell (p := ⟨q, 1, none⟩) hqw).trans cv
      have k0 : x' 6 = .int .i64 (p : Int) := hd 6 (by simp)
      refine owesK_here (.int .i64 ((p : Int) + 1)) (by rfl) ?_ rfl (else_of (by decide) (else_of (by decide) (Below.refl _ _)))
      simp only [putAll, List.take_succ_cons, List.take_zero]
      go_simp
    · intro x' w' hb hd
      have hbw : Below w.heap.size w w' := (below_drewN0 w k).trans hb
      have e0 : w'.cell? ⟨q, 0, none⟩ = some (.slice an ln c1) := (hbw.cell (p := ⟨q, 0, none⟩) hqw).trans cn
      have e1 : w'.cell? ⟨q, 1, none⟩ = some (.slice av lv c2) := (hbw.cell (p := ⟨q, 1, none⟩) hqw).trans cv
      have k4 : OwnAt RVal 1 w' w.heap.size 9 (x' 4) xs := hd 4 (by simp)
      have k5 : x' 5 = .int .i64 (p : Int) := hd 5 (by simp)
      have k7 : x' 7 = .int .i64 ((p : Int) + 1) := hd 7 (by simp)
      refine owesK_call 162 #[x' 4, .int .i64 (p : Int), .int .i64 ((p : Int) + 1)] (by rfl) ?_ ((delStr_any (x' 4) xs w.heap.size p w' k4 hxp hxs).mono fun e w2 ⟨g, c, h0, hB, h1, h2, h3⟩ => ⟨_, h1, h2, then_of rfl (del_same k4 h0 hB h3 hbw.size)⟩)
      simp only [putAll, List.take_succ_cons, List.take_zero]
      go_simp
    · intro x' w' hb hd
      have hbw : Below w.heap.size w w' := (below_drewN0 w k).trans hb
      have e0 : w'.cell? ⟨q, 0, none⟩ = some (.slice an ln c1) := (hbw.cell (p := ⟨q, 0, none⟩) hqw).trans cn
      have e1 : w'.cell? ⟨q, 1, none⟩ = some (.slice av lv c2) := (hbw.cell (p := ⟨q, 1, none⟩) hqw).trans cv
      refine owesK_here (.pointer (some ⟨q, 0, none⟩)) (by rfl) ?_ rfl (else_of (by decide) (else_of (by decide) (Below.refl _ _)))
      simp only [putAll, List.take_succ_cons, List.take_zero]
      go_simp
    · intro x' w' hb hd
      have hbw : Below w.heap.size w w' := (below_drewN0 w k).trans hb
      have e0 : w'.cell? ⟨q, 0, none⟩ = some (.slice an ln c1) := (hbw.cell (p := ⟨q, 0, none⟩) hqw).trans cn
      have e1 : w'.cell? ⟨q, 1, none⟩ = some (.slice av lv c2) := (hbw.cell (p := ⟨q, 1, none⟩) hqw).trans cv
      have k0 : x' 9 = .pointer (some ⟨q, 0, none⟩) := hd 9 (by simp)
      refine owesK_here (.pointer (some ⟨q, 0, none⟩)) (by rfl) ?_ rfl (else_of (by decide) (else_of (by decide) (Below.refl _ _)))
      simp only [putAll, List.take_succ_cons, List.take_zero]
      go_simp
    · intro x' w' hb hd
      have hbw : Below w.heap.size w w' := (below_drewN0 w k).trans hb
      have e0 : w'.cell? ⟨q, 0, none⟩ = some (.slice an ln c1) := (hbw.cell (p := ⟨q, 0, none⟩) hqw).trans cn
      have e1 : w'.cell? ⟨q, 1, none⟩ = some (.slice av lv c2) := (hbw.cell (p := ⟨q, 1, none⟩) hqw).trans cv
      have k0 : x' 10 = .pointer (some ⟨q, 0, none⟩) := hd 10 (by simp)
      refine owesK_here (.pointer (some ⟨q, 1, none⟩)) (by rfl) ?_ rfl (else_of (by decide) (else_of (by decide) (Below.refl _ _)))
      simp only [putAll, List.take_succ_cons, List.take_zero]
      go_simp
    · intro x' w' hb hd
      have hbw : Below w.heap.size w w' := (below_drewN0 w k).trans hb
      have e0 : w'.cell? ⟨q, 0, none⟩ = some (.slice an ln c1) := (hbw.cell (p := ⟨q, 0, none⟩) hqw).trans cn
      have e1 : w'.cell? ⟨q, 1, none⟩ = some (.slice av lv c2) := (hbw.cell (p := ⟨q, 1, none⟩) hqw).trans cv
      have k0 : x' 11 = .pointer (some ⟨q, 1, none⟩) := hd 11 (by simp)
      refine owesK_here (.slice av lv c2) (by rfl) ?_ rfl (else_of (by decide) (else_of (by decide) (Below.refl _ _)))
      simp only [putAll, List.take_succ_cons, List.take_zero]
      go_simp
    · intro x' w' hb hd
      have hbw : Below w.heap.size w w' := (below_drewN0 w k).trans hb
      have e0 : w'.cell? ⟨q, 0, none⟩ = some (.slice an ln c1) := (hbw.cell (p := ⟨q, 0, none⟩) hqw).trans cn
      have e1 : w'.cell? ⟨q, 1, none⟩ = some (.slice av lv c2) := (hbw.cell (p := ⟨q, 1, none⟩) hqw).trans cv
      have k0 : x' 12 = .slice av lv c2 := hd 12 (by simp)
      refine owesK_call 115 #[.slice av lv c2] (by rfl) ?_ ((HC2.out w' hbw).mono fun e w2 ⟨v', h1, h2, h3⟩ => ⟨v', h1, h2.mono hbw.size, else_of (by decide) (else_of (by decide) h3)⟩)
      simp only [putAll, List.take_succ_cons, List.take_zero]
      go_simp
    · intro x' w' hb hd
      have hbw : Below w.heap.size w w' := (below_drewN0 w k).trans hb
      have e0 : w'.cell? ⟨q, 0, none⟩ = some (.slice an ln c1) := (hbw.cell (p := ⟨q, 0, none⟩) hqw).trans cn
      have e1 : w'.cell? ⟨q, 1, none⟩ = some (.slice av lv c2) := (hbw.cell (p := ⟨q, 1, none⟩) hqw).trans cv
      refine owesK_here (.int .i64 (p : Int)) (by rfl) ?_ rfl (else_of (by decide) (else_of (by decide) (Below.refl _ _)))
      simp only [putAll, List.take_succ_cons, List.take_zero]
      go_simp
    · intro x' w' hb hd
      have hbw : Below w.heap.size w w' := (below_drewN0 w k).trans hb
      have e0 : w'.cell? ⟨q, 0, none⟩ = some (.slice an ln c1) := (hbw.cell (p := ⟨q, 0, none⟩) hqw).trans cn
      have e1 : w'.cell? ⟨q, 1, none⟩ = some (.slice av lv c2) := (hbw.cell (p := ⟨q, 1, none⟩) hqw).trans cv
      refine owesK_here (.int .i64 (p : Int)) (by rfl) ?_ rfl (else_of (by decide) (else_of (by decide) (Below.refl _ _)))
      simp only [putAll, List.take_succ_cons, List.take_zero]
      go_simp
    · intro x' w' hb hd
      have hbw : Below w.heap.size w w' := (below_drewN0 w k).trans hb
      have e0 : w'.cell? ⟨q, 0, none⟩ = some (.slice an ln c1) := (hbw.cell (p := ⟨q, 0, none⟩) hqw).trans cn
      have e1 : w'.cell? ⟨q, 1, none⟩ = some (.slice av lv c2) := (hbw.cell (p := ⟨q, 1, none⟩) hqw).trans cv
      have k0 : x' 15 = .int .i64 (p : Int) := hd 15 (by simp)
      refine owesK_here (.int .i64 ((p : Int) + 1)) (by rfl) ?_ rfl (else_of (by decide) (else_of (by decide) (Below.refl _ _)))
      simp only [putAll, List.take_succ_cons, List.take_zero]
      go_simp
    · intro x' w' hb hd
      have hbw : Below w.heap.size w w' := (below_drewN0 w k).trans hb
      have e0 : w'.cell? ⟨q, 0, none⟩ = some (.slice an ln c1) := (hbw.cell (p := ⟨q, 0, none⟩) hqw).trans cn
      have e1 : w'.cell? ⟨q, 1, none⟩ = some (.slice av lv c2) := (hbw.cell (p := ⟨q, 1, none⟩) hqw).trans cv
      have k4 : OwnAt RVal 1 w' w.heap.size 77 (x' 13) ys := hd 13 (by simp)
      have k5 : x' 14 = .int .i64 (p : Int) := hd 14 (by simp)
      have k7 : x' 16 = .int .i64 ((p : Int) + 1) := hd 16 (by simp)
      refine owesK_call 114 #[x' 13, .int .i64 (p : Int), .int .i64 ((p : Int) + 1)] (by rfl) ?_ ((delVal_any (x' 13) ys w.heap.size p w' k4 hyp hys).mono fun e w2 ⟨g, c, h0, hB, h1, h2, h3⟩ => ⟨_, h1, h2, else_of (by decide) (then_of rfl (del_same k4 h0 hB h3 hbw.size))⟩)
      simp only [putAll, List.take_succ_cons, List.take_zero]
      go_simp
    · intro x' w' hb hd
      have hbw : Below w.heap.size w w' := (below_drewN0 w k).trans hb
      have e0 : w'.cell? ⟨q, 0, none⟩ = some (.slice an ln c1) := (hbw.cell (p := ⟨q, 0, none⟩) hqw).trans cn
      have e1 : w'.cell? ⟨q, 1, none⟩ = some (.slice av lv c2) := (hbw.cell (p := ⟨q, 1, none⟩) hqw).trans cv
      have k8 : OwnAt RVal 1 w' w.heap.size 9 (x' 8) (xs.eraseIdx p) := hd 8 (by simp)
      have k17 : OwnAt RVal 1 w' w.heap.size 77 (x' 17) (ys.eraseIdx p) := hd 17 (by simp)
      obtain ⟨a8, c8, e8, _, _⟩ := k8.row.len
      obtain ⟨a17, c17, e17, _, _⟩ := k17.row.len
      refine owesK_here (.agg #[x' 8, x' 17]) (by rfl) ?_ rfl (else_of (by decide) (else_of (by decide) (Below.refl _ _)))
      simp only [putAll, List.take_succ_cons, List.take_zero]
      go_simp
    · intro x' w' hb hd
      have hbw : Below w.heap.size w w' := (below_drewN0 w k).trans hb
      have e0 : w'.cell? ⟨q, 0, none⟩ = some (.slice an ln c1) := (hbw.cell (p := ⟨q, 0, none⟩) hqw).trans cn
      have e1 : w'.cell? ⟨q, 1, none⟩ = some (.slice av lv c2) := (hbw.cell (p := ⟨q, 1, none⟩) hqw).trans cv
      have k8 : OwnAt RVal 1 w' w.heap.size 9 (x' 8) (xs.eraseIdx p) := hd 8 (by simp)
      have k17 : OwnAt RVal 1 w' w.heap.size 77 (x' 17) (ys.eraseIdx p) := hd 17 (by simp)
      have k18 : x' 18 = .agg #[x' 8, x' 17] := hd 18 (by simp)
      obtain ⟨a8, c8, e8, _, _⟩ := k8.row.len
      obtain ⟨a17, c17, e17, _, _⟩ := k17.row.len
      refine owesK_makes (.pointer (some ⟨w'.heap.size, 0, none⟩)) (w' := w'.alloc (.cells #[x' 8, x' 17] 117)) (by rfl) ?_ (⟨_, rfl, hbw.size, heap_alloc_new w' _⟩) (else_of (by decide) (else_of (by decide) ((Below.refl _ _).alloc (Nat.le_refl _) _)))
      simp only [putAll, List.take_succ_cons, List.take_zero]
      go_simp
    · intro x' w' hb hR
      have hbw : Below w.heap.size w w' := (below_drewN0 w k).trans hb
      have e0 : w'.cell? ⟨q, 0, none⟩ = some (.slice an ln c1) := (hbw.cell (p := ⟨q, 0, none⟩) hqw).trans cn
      have e1 : w'.cell? ⟨q, 1, none⟩ = some (.slice av lv c2) := (hbw.cell (p := ⟨q, 1, none⟩) hqw).trans cv
      have k8 : OwnAt RVal 1 w' w.heap.size 9 (x' 8) (xs.eraseIdx p) := hR 8 (by omega) rfl
      have k17 : OwnAt RVal 1 w' w.heap.size 77 (x' 17) (ys.eraseIdx p) := hR 17 (by omega) rfl
      obtain ⟨q', k19, hq1, kq⟩ : ∃ g, x' 19 = .pointer (some ⟨g, 0, none⟩) ∧ w.heap.size ≤ g ∧ w'.heap[g]? = some (.cells #[x' 8, x' 17] 117 (0, 0)) := hR 19 (by omega) rfl
      have Hb := Lib.hid hbw
      have K8 := Lib.hid k8
      have K17 := Lib.hid k17
      have Kq := Lib.hid kq
      clear hR hb hbw k8 k17 kq e0 e1
      simp only [putAll, List.take_succ_cons, List.take_zero, List.drop_succ_cons, List.drop_zero]
      try simp only [Act.put, List.setIfInBounds_toArray, List.set_cons_zero, List.set_cons_succ]
      go_wp2_with fail
      go_ret
      refine ⟨q', ?_, ?_, Hb.out⟩
      · show Ending.returned (x' 19) = _
        rw [k19]
      · refine Hfin.out w' q' (x' 8) (x' 17) (KeepT.of Hb.out) (fun hm => by have h9 := HT.out _ hm; omega) ?_ ?_ K8.out.row (off_new K8.out HT.out) K17.out.row (off_new K17.out HT.out)
        · rw [cell_block Kq.out]; rfl
        · rw [cell_block Kq.out]; rfl
  · rw [hg] at HS
    have hcut := cut_none hg
    rw [hcut]
    have Hob := Lib.hid hob
    clear hg hrn hrv hxr hyr hxR hyR hon hov hsp hs hxl hyl hob hcut hT
    go_enter Tryz.func112, Tryz.ntmps112
    go_wp2_with fail
    refine HS.out.mono ?_
    rintro E w1 ⟨rfl, k, rfl⟩
    go_wp2_with fail
    go_ret
    exact ⟨q, rfl, Hob.out.keepT (KeepT.drewN w k) (fun _ _ ⟨v, e, hv⟩ => ⟨v, e, hv.keepT (KeepT.drewN w k)⟩), below_drewN0 w k⟩
end Go.Proofs.YtlbolbkikkiifaaGreatDoor
/- tree.Put, Cut: their contracts (printed by gen_put.py). -/
namespace Go.Proofs.YtlbolbkikkiifaaGreatDoor
open Go.RowKit
open JP (JV Bs)

theorem place_no {s : Bs} {many : Nat} {w : World} (h : JP.place s many = none) (hs : s.length ≤ 1048576) (hm : many ≤ 1048576) (ht : TabOK w) (he : ErrOK w) :
    Calls Tryz.prog 148 #[.string (mkB s), .int .i64 (many : Int)] w fun e w' => ∃ z : Int, e = .returned (.tuple #[.int .i64 z, .bool false]) ∧ Below w.heap.size w w' := by
  unfold JP.place at h
  have hne : s ≠ [45] := fun e => by rw [if_pos e] at h; cases h
  rw [if_neg hne] at h
  have HI := Lib.hid (index_no h hs (by omega) ht he)
  have hp : ((mkB s).toList == [45]) = false := by
    rw [ByteArray.toList_eq, mkB_list, beq_eq_false_iff_ne]
    exact hne
  rw [show ((many + 1 : Nat) : Int) = (many : Int) + 1 from by omega] at HI
  clear h hs ht he hne
  go_enter Tryz.func148, Tryz.ntmps148
  go_wp2_with fail
  refine HI.out.mono ?_
  rintro E w1 ⟨z, rfl, hb⟩
  have HB := Lib.hid hb
  clear hb
  go_wp2_with fail
  go_ret2
  exact ⟨z, rfl, HB.out⟩
theorem place_yes {s : Bs} {many k : Nat} {w : World} (h : JP.place s many = some k) (hs : s.length ≤ 1048576) (hm : many ≤ 1048576) (ht : TabOK w) (he : ErrOK w) :
    Calls Tryz.prog 148 #[.string (mkB s), .int .i64 (many : Int)] w fun e w' => e = .returned (.tuple #[.int .i64 (k : Int), .bool true]) ∧ Below w.heap.size w w' := by
  unfold JP.place at h
  by_cases hd : s = [45]
  · rw [if_pos hd] at h
    cases h
    have hp : ((mkB s).toList == [45]) = true := by
      rw [ByteArray.toList_eq, mkB_list, beq_iff_eq]
      exact hd
    clear hd hs ht he
    go_enter Tryz.func148, Tryz.ntmps148
    go_wp2_with fail
    go_ret2
    exact ⟨rfl, Below.refl _ _⟩
  · rw [if_neg hd] at h
    have HI := Lib.hid (index_yes h hs (by omega) ht he)
    have hp : ((mkB s).toList == [45]) = false := by
      rw [ByteArray.toList_eq, mkB_list, beq_eq_false_iff_ne]
      exact hd
    rw [show ((many + 1 : Nat) : Int) = (many : Int) + 1 from by omega] at HI
    clear h hs ht he hd
    go_enter Tryz.func148, Tryz.ntmps148
    go_wp2_with fail
    refine HI.out.mono ?_
    rintro E w1 ⟨rfl, hb⟩
    have HB := Lib.hid hb
    clear hb
    go_wp2_with fail
    go_ret2
    exact ⟨rfl, HB.out⟩
theorem place_le {s : Bs} {many k : Nat} (h : JP.place s many = some k) : k ≤ many := by
  unfold JP.place at h
  split at h
  · cases h; exact Nat.le_refl _
  · have := (JP.idx_some h).1; omega
/-- what the closure has captured: a box that holds a value -/
def BoxOf (cb : Nat) (y : JV) (w : World) : Prop := ∃ wv m, w.cell? ⟨cb, 0, none⟩ = some wv ∧ JvAt m [] w wv y
theorem BoxOf.below {cb : Nat} {y : JV} {w w' : World} (h : BoxOf cb y w) (hb : Below w.heap.size w w') : BoxOf cb y w' := by
  obtain ⟨wv, m, h1, h2⟩ := h
  exact ⟨wv, m, (hb.cell (p := ⟨cb, 0, none⟩) (World.block_lt_of_cell? w ⟨cb, 0, none⟩ h1)).trans h1, h2.below hb⟩
theorem three_ways (x : JV) : (∃ l, x = .obj l) ∨ (∃ l, x = .list l) ∨ ((∀ l, x ≠ .obj l) ∧ (∀ l, x ≠ .list l)) := by
  cases x with
  | obj l => exact .inl ⟨l, rfl⟩
  | list l => exact .inr (.inl ⟨l, rfl⟩)
  | _ => exact .inr (.inr ⟨fun l e => (by cases e), fun l e => (by cases e)⟩)
theorem putL_no {w x : JV} {s : Bs} (h1 : ∀ l, x ≠ .obj l) (h2 : ∀ l, x ≠ .list l) : JP.putL w x s = none ∧ JP.insL w x s = none ∧ JP.cutL x s = none := by
  cases x with
  | obj l => exact absurd rfl (h1 l)
  | list l => exact absurd rfl (h2 l)
  | _ => exact ⟨rfl, rfl, rfl⟩
set_option maxRecDepth 100000 in
set_option maxHeartbeats 6400000 in
theorem tputL_any {cb : Nat} {y : JV} (n : Nat) (v : Value) (x : JV) (s : Bs) (w : World) (h : JvAt n [] w v x) (hz : (JP.text x).length ≤ 1000000) (hs : s.length ≤ 1048576) (ht : TabOK w) (he : ErrOK w) (hc : BoxOf cb y w) :
    Calls Tryz.prog 150 #[v, .string (mkB s), .pointer (some ⟨cb, 0, none⟩)] w (MadeE (JP.putL y x s) w) := by
  obtain ⟨R0, hR⟩ : ∃ R, JP.putL y x s = R := ⟨_, rfl⟩
  rw [hR]
  have HR := Lib.hid hR
  clear hR
  obtain ⟨wv, m, ec, hy⟩ := hc
  have hcb : cb < w.heap.size := World.block_lt_of_cell? w ⟨cb, 0, none⟩ ec
  cases n with
  | zero => cases h
  | succ n =>
    rcases three_ways x with ⟨l, rfl⟩ | ⟨l, rfl⟩ | ⟨h1, h2⟩
    · obtain ⟨q, rfl, ho⟩ := h
      have G1 := (as_obj (.pointer (some ⟨q, 0, none⟩))).2.2.2.2
      have hl : l.length ≤ 1000000 := by have := lenF_len l; have := JP.obj_len_ge l; omega
      have HWi := Lib.hid (with_any (x := s) (ho.upsJ (Nat.le_max_left n m)) (hy.ups (Nat.le_max_right n m)) (fun b hb => by cases hb) (by omega))
      have HN : Hid (R0 = some (.obj (JP.put s y l))) := Lib.hid HR.out.symm
      clear ho hy ht he hz hs hl
      go_enter Tryz.func150, Tryz.ntmps150
      go_wp2_with fail
      refine HWi.out.mono ?_
      rintro E w1 ⟨q', rfl, ho, hb⟩
      have HB := Lib.hid hb
      have HO := Lib.hid ho
      clear hb ho
      go_wp2_with fail
      go_ret2
      exact MadeE.yes (k := max n m + 1) HN.out ⟨q', rfl, HO.out⟩ HB.out
    · have hj := h
      obtain ⟨u, rfl, hr, _⟩ := h
      obtain ⟨a1, c1, rfl, _, _⟩ := hr.len
      obtain ⟨G1, G2⟩ := (as_list (.slice a1 l.length c1)).2.2.2
      have hl : l.length ≤ 1000000 := by have := lenL_len l; have := JP.list_len_ge l; omega
      cases hpl : JP.place s l.length with
      | none =>
        have HI := Lib.hid (place_no hpl hs (by omega) ht he)
        have HN : Hid (R0 = none) := Lib.hid (by rw [← HR.out, JP.putL, hpl])
        clear hpl ht he hs hr hz hj hy HR
        go_enter Tryz.func150, Tryz.ntmps150
        go_wp2_with fail
        refine HI.out.mono ?_
        rintro E w1 ⟨z, rfl, hb⟩
        have HB := Lib.hid hb
        clear hb
        go_wp2_with fail
        go_ret2
        exact MadeE.no HN.out HB.out
      | some k =>
        have HI := Lib.hid (place_yes hpl hs (by omega) ht he)
        have hkl := place_le hpl
        obtain ⟨xs, x1, x2, x3⟩ := list_raw hr
        obtain ⟨i0, hi0, hz0, hz1, hz2⟩ := info_parts Tryz.infoVal
        have HC1 := Lib.hid (fun w' (hb : Below w.heap.size w w') => cloneVal_any (.slice a1 l.length c1) xs w' (x2.below stays_val hb) (by omega))
        have HX3 := Lib.hid x3
        have HX1 := Lib.hid x1
        have HY := Lib.hid hy
        have hv1 := jv_cell hy
        have HVf := Lib.hid (jv_form hy)
        by_cases hkn : k = l.length
        · subst hkn
          have HN : Hid (R0 = some (.list (l ++ [y]))) := Lib.hid (by rw [← HR.out, JP.putL, hpl]; dsimp only; rw [if_pos rfl])
          clear ht he hs hr x2 x3 hz HR x1 hy hpl hj hkl
          go_enter Tryz.func150, Tryz.ntmps150
          go_wp2_with fail
          refine HI.out.mono ?_
          rintro E w1 ⟨rfl, hb⟩
          have HB1 := Lib.hid hb
          have ec1 : w1.cell? ⟨cb, 0, none⟩ = some wv := (hb.cell (p := ⟨cb, 0, none⟩) hcb).trans ec
          clear hb
          go_upto_region 9 with fail
          refine wp_region_relB 4 (fun ii U w' => match ii with
            | 0 => U 0 = .slice a1 l.length c1
            | 1 => OwnAt RVal 1 w' w.heap.size 77 (U 1) xs
            | 2 => U 2 = wv
            | 3 => ∃ g, U 3 = .slice (some ⟨g, 0, none⟩) 1 1 ∧ w'.heap[g]? = some (.cells #[wv] 77 (0, 0))
            | _ => True)
            (fun | 1 => [0] | 3 => [2] | _ => []) (by kernel_rfl) (by kernel_rfl) ?_ ⟨?_, ?_, ?_, ?_, trivial⟩ ?_
          · intro j u w1 w2 hb h
            match j, h with
            | 0, h => exact h
            | 1, h => exact OwnAt.below stays_val h hb
            | 2, h => exact h
            | 3, h => exact (by obtain ⟨g, h1, h2⟩ := h; exact ⟨g, h1, below_block hb h2⟩)
            | _ + 4, h => trivial
          · intro x' w' hb hd
            have hbr : Below w.heap.size w w' := HB1.out.trans (((below_drew1 w1).trans hb).mono HB1.out.size)
            have e0 : w'.cell? ⟨cb, 0, none⟩ = some wv := (hbr.cell (p := ⟨cb, 0, none⟩) hcb).trans ec
            refine owes_here (.slice a1 l.length c1) (by rfl) ?_ rfl
            simp only [putAll, List.take_succ_cons, List.take_zero]
            go_simp
          · intro x' w' hb hd
            have hbr : Below w.heap.size w w' := HB1.out.trans (((below_drew1 w1).trans hb).mono HB1.out.size)
            have e0 : w'.cell? ⟨cb, 0, none⟩ = some wv := (hbr.cell (p := ⟨cb, 0, none⟩) hcb).trans ec
            have k0 : x' 0 = .slice a1 l.length c1 := hd 0 (by simp)
            refine owes_call 115 #[.slice a1 l.length c1] (by rfl) ?_ ((HC1.out w' hbr).mono fun e w2 ⟨v', h1, h2, h3⟩ => ⟨v', h1, h2.mono hbr.size, h3⟩)
            simp only [putAll, List.take_succ_cons, List.take_zero]
            go_simp
          · intro x' w' hb hd
            have hbr : Below w.heap.size w w' := HB1.out.trans (((below_drew1 w1).trans hb).mono HB1.out.size)
            have e0 : w'.cell? ⟨cb, 0, none⟩ = some wv := (hbr.cell (p := ⟨cb, 0, none⟩) hcb).trans ec
            refine owes_here wv (by rfl) ?_ rfl
            simp only [putAll, List.take_succ_cons, List.take_zero]
            go_simp
          · intro x' w' hb hd
            have hbr : Below w.heap.size w w' := HB1.out.trans (((below_drew1 w1).trans hb).mono HB1.out.size)
            have e0 : w'.cell? ⟨cb, 0, none⟩ = some wv := (hbr.cell (p := ⟨cb, 0, none⟩) hcb).trans ec
            have k0 : x' 2 = wv := hd 2 (by simp)
            have hf := HVf.out
            refine owes_makes (.slice (some ⟨w'.heap.size, 0, none⟩) 1 1) (w' := w'.alloc (.cells #[wv] 77)) (by rfl) ?_ (⟨_, rfl, heap_alloc_new w' _⟩) ((Below.refl _ _).alloc (Nat.le_refl _) _)
            simp only [putAll, List.take_succ_cons, List.take_zero]
            rcases hf with rfl | ⟨t, u, rfl⟩
            · go_simp
            · go_simp
          · intro x' w' hb hR
            have hbr : Below w.heap.size w w' := HB1.out.trans (((below_drew1 w1).trans hb).mono HB1.out.size)
            have e0 : w'.cell? ⟨cb, 0, none⟩ = some wv := (hbr.cell (p := ⟨cb, 0, none⟩) hcb).trans ec
            have k1 : OwnAt RVal 1 w' w.heap.size 77 (x' 1) xs := hR 1 (by omega)
            obtain ⟨g, kg1, kg2⟩ : ∃ g, x' 3 = .slice (some ⟨g, 0, none⟩) 1 1 ∧ w'.heap[g]? = some (.cells #[wv] 77 (0, 0)) := hR 3 (by omega)
            have Ho1 := Lib.hid k1
            have Hb1 := Lib.hid hbr
            have hs1 := hbr.size
            have Hg := Lib.hid kg2
            clear hR hb hbr kg2 k1 e0
            simp only [putAll, List.take_succ_cons, List.take_zero, List.drop_succ_cons, List.drop_zero]
            try simp only [Act.put, List.setIfInBounds_toArray, List.set_cons_zero, List.set_cons_succ]
            go_wp2_with (at_builtin; refine wpList_append_ownAt (R := RVal) (k := 1) (e := 77) (B := w.heap.size) (l := xs) (m := [wv]) _ (by rfl) _ _ _ (by rfl) i0 _ 16 Tryz.underlying114 hi0 hz0 hz1 hz2 rfl (by omega) flat_val one_val _ (by rfl) Ho1.out _ (by exact kg1) (RowAt.one (R := RVal) (k := 1) (cs := #[wv]) Hg.out rfl ⟨rfl, hv1⟩) (by unfold maxLen; rw [HX1.out]; simp; omega) (by rw [HX1.out]; simp; omega) (by omega) ?_)
            intro v' w2 hv' hg hr _
            have hb2 : Below w.heap.size w w2 := below_of_grown Hb1.out hs1 hg hr
            have Hb2 := Lib.hid hb2
            have Hv := Lib.hid hv'
            clear hv' hg hr hb2
            go_wp2_with fail
            go_ret2
            refine MadeE.yes (k := max n m + 1) HN.out ?_ Hb2.out
            refine jv_list Hv.out.row (by rw [List.length_append, List.length_append, HX1.out]; rfl) fun j u z hu hz => ?_
            by_cases hj : j < l.length
            · rw [List.getElem?_append_left (by rw [HX1.out]; exact hj)] at hu
              rw [List.getElem?_append_left hj] at hz
              exact ((HX3.out j u z hu hz).below Hb2.out).ups (Nat.le_max_left n m)
            · rw [List.getElem?_append_right (by rw [HX1.out]; omega), HX1.out] at hu
              rw [List.getElem?_append_right (by omega)] at hz
              by_cases hj2 : j - l.length = 0
              · rw [hj2] at hu hz
                cases hu
                cases hz
                exact (HY.out.below Hb2.out).ups (Nat.le_max_right n m)
              · rw [List.getElem?_eq_none (by simp; omega)] at hu
                cases hu
        · have hidx : JP.idx s l.length = some k := by
            have hne : s ≠ [45] := fun e => by
              unfold JP.place at hpl
              rw [if_pos e] at hpl
              exact hkn (Option.some.inj hpl).symm
            exact (JP.put_dash hne (by omega) hpl).2.resolve_left hkn
          have hcd : JP.child (.list l) s = some (l[k]'(JP.idx_some hidx).1) := by
            show (JP.idx s l.length).bind (fun n => l[n]?) = _
            rw [hidx]
            exact List.getElem?_eq_getElem _
          have HRp := Lib.hid (fun (w' : World) (hb : Below w.heap.size w w') => replaced_any (s := s) (hj.below hb) (hy.below hb) hcd hz hs (ht.below hb) (he.below hb))
          have HN : Hid (R0 = some (JP.repl (.list l) s y)) := Lib.hid (by rw [← HR.out, JP.putL, hpl, JP.repl, hidx]; dsimp only; rw [if_neg hkn])
          have q1 : ((k : Int) == (l.length : Int)) = false := by rw [beq_eq_false_iff_ne]; omega
          clear ht he hs hr x2 x3 hz HR x1 hy hpl hj hkl hcd hidx hkn
          go_enter Tryz.func150, Tryz.ntmps150
          go_wp2_with fail
          refine HI.out.mono ?_
          rintro E w1 ⟨rfl, hb⟩
          have HB1 := Lib.hid hb
          have ec1 : w1.cell? ⟨cb, 0, none⟩ = some wv := (hb.cell (p := ⟨cb, 0, none⟩) hcb).trans ec
          clear hb
          go_wp2_with fail
          refine (HRp.out w1 HB1.out).mono ?_
          rintro E w2 ⟨u2, rfl, ⟨k2, hk2⟩, hb2⟩
          have HB2 := Lib.hid (HB1.out.trans (hb2.mono HB1.out.size))
          have HJ := Lib.hid hk2
          clear hb2 hk2
          go_wp2_with fail
          go_ret2
          exact MadeE.yes HN.out HJ.out HB2.out
    · have G1 := as_other h h1
      have G2 := as_nolist h h2
      have HN : Hid (R0 = none) := Lib.hid (by rw [← HR.out]; exact (putL_no (w := y) h1 h2).1)
      clear h h1 h2 ht he hz hs HR hy
      go_enter Tryz.func150, Tryz.ntmps150
      go_wp2_with fail
      go_ret2
      exact MadeE.no HN.out (Below.refl _ _)
theorem enter_tput (a : Array Value) (w : World) : (callFunc 150 a).run Tryz.prog w = .ok (.enter 150 a) w := by kernel_rfl
set_option maxRecDepth 100000 in
set_option maxHeartbeats 3200000 in
theorem tput_any {n m : Nat} {v sv wv : Value} {x y : JV} {l : List Bs} {w : World} (h : JvAt n [] w v x) (hy : JvAt m [] w wv y) (hz : (JP.text x).length ≤ 1000000) (hs : StrAt w sv (l.map mkB)) (hl : ∀ s ∈ l, s.length ≤ 1048576) (hll : l.length ≤ 1048576) (ht : TabOK w) (he : ErrOK w) :
    Calls Tryz.prog 102 #[v, sv, wv] w (MadeE (JP.putW x l y) w) := by
  obtain ⟨a1, c1, hu, _, _⟩ := hs.len
  rw [List.length_map] at hu
  subst hu
  obtain ⟨W, hW⟩ : ∃ W, w.alloc (.cells #[wv] 77) = W := ⟨_, rfl⟩
  have hf := jv_form hy
  have hb : Below w.heap.size w W := by rw [← hW]; exact (Below.refl _ _).alloc (Nat.le_refl _) _
  have hcell : W.cell? ⟨w.heap.size, 0, none⟩ = some wv := by rw [← hW, cell_block (heap_alloc_new w _)]; rfl
  have HB := Lib.hid hb
  by_cases h0 : l = []
  · subst h0
    have HJ := Lib.hid (hy.below hb)
    have HN : Hid (JP.putW x [] y = some y) := Lib.hid (if_pos rfl)
    clear h hy hz hs hl hll ht he hb
    go_enter Tryz.func102, Tryz.ntmps102
    rcases hf with rfl | ⟨t, u, rfl⟩
    all_goals
      go_wp2_with fail
      go_ret2
      exact MadeE.yes HN.out HJ.out HB.out
  · have hU := under1_any (cap := .pointer (some ⟨w.heap.size, 0, none⟩)) (F := JP.putL y) enter_tput (Cap := BoxOf w.heap.size y) (fun w' w2 h hb => h.below hb) (fun n v x s w' h1 h2 h3 h4 h5 h6 => tputL_any n v x s w' h1 h2 h3 h4 h5 h6) l n v (.slice a1 l.length c1) x W h0 (h.below hb) hz (hs.below hb) hl hll (ht.below hb) (he.below hb) ⟨wv, m, hcell, hy.below hb⟩
    have HU := Lib.hid hU
    have HN : Hid (JP.putW x l y = JP.under (JP.putL y) x l) := Lib.hid (if_neg h0)
    have q1 : ((l.length : Int) == 0) = false := by
      rw [beq_eq_false_iff_ne]
      intro e
      exact h0 (List.eq_nil_of_length_eq_zero (by omega))
    clear h hy hz hs hl hll ht he hb hU h0
    rw [HN.out]
    go_enter Tryz.func102, Tryz.ntmps102
    rcases hf with rfl | ⟨t, u, rfl⟩
    all_goals
      go_wp2_with fail
      refine HU.out.mono ?_
      rintro E w1 ⟨u, rfl, hu, hb1⟩
      have HB1 := Lib.hid (HB.out.trans (hb1.mono HB.out.size))
      have Hu := Lib.hid hu
      clear hb1 hu
      go_wp2_with fail
      go_ret2
      exact ⟨u, rfl, Hu.out, HB1.out⟩
set_option maxRecDepth 100000 in
set_option maxHeartbeats 6400000 in
theorem tcutL_any (n : Nat) (v : Value) (x : JV) (s : Bs) (w : World) (h : JvAt n [] w v x) (hz : (JP.text x).length ≤ 1000000) (hs : s.length ≤ 1048576) (ht : TabOK w) (he : ErrOK w) :
    Calls Tryz.prog 111 #[v, .string (mkB s)] w (MadeE (JP.cutL x s) w) := by
  obtain ⟨R0, hR⟩ : ∃ R, JP.cutL x s = R := ⟨_, rfl⟩
  rw [hR]
  have HR := Lib.hid hR
  clear hR
  have HCh := Lib.hid (child_any (s := s) h hz hs ht he)
  cases n with
  | zero => cases h
  | succ n =>
    have G1o : ∀ hh : (∀ l, x ≠ .obj l), _ := fun hh => as_other h hh
    cases hcd : JP.child x s with
    | none =>
      rw [hcd] at HCh
      have HN : Hid (R0 = none) := Lib.hid (by
        rw [← HR.out]
        cases x with
        | obj l => rw [JP.cutL, if_neg (by rw [show JP.get s l = none from hcd]; decide)]
        | list l =>
          rw [JP.cutL]
          cases hi : JP.idx s l.length with
          | none => rfl
          | some k =>
            have h9 : (JP.idx s l.length).bind (fun n => l[n]?) = none := hcd
            rw [hi] at h9
            have := (JP.idx_some hi).1
            have h8 : l[k]? = none := h9
            rw [List.getElem?_eq_getElem this] at h8
            cases h8
        | _ => rfl)
      clear hcd G1o h hz hs ht he HR
      go_enter Tryz.func111, Tryz.ntmps111
      go_wp2_with fail
      refine HCh.out.mono ?_
      rintro E w1 ⟨u, rfl, _, hb⟩
      have HB := Lib.hid hb
      clear hb
      go_wp2_with fail
      go_ret2
      exact MadeE.no HN.out HB.out
    | some c =>
      rw [hcd] at HCh
      clear G1o
      rcases three_ways x with ⟨l, rfl⟩ | ⟨l, rfl⟩ | ⟨h1, h2⟩
      · obtain ⟨q, rfl, ho⟩ := h
        have G1 := (as_obj (.pointer (some ⟨q, 0, none⟩))).2.2.2.2
        have hl : l.length ≤ 1000000 := by have := lenF_len l; have := JP.obj_len_ge l; omega
        have HWi := Lib.hid (fun (w' : World) (hb : Below w.heap.size w w') => without_any (x := s) (ho.keepJ (KeepT.of hb)) (fun b hb => by cases hb) (by omega))
        have HN : Hid (R0 = some (.obj (JP.cut s l))) := Lib.hid (by rw [← HR.out, JP.cutL, if_pos (by rw [show JP.get s l = some c from hcd]; rfl)])
        clear ho ht he hz hs hl hcd HR
        go_enter Tryz.func111, Tryz.ntmps111
        go_wp2_with fail
        refine HCh.out.mono ?_
        rintro E w1 ⟨u, rfl, _, hb⟩
        have HB1 := Lib.hid hb
        clear hb
        go_wp2_with fail
        refine (HWi.out w1 HB1.out).mono ?_
        rintro E w2 ⟨q', rfl, ho, hb⟩
        have HB := Lib.hid (HB1.out.trans (hb.mono HB1.out.size))
        have HO := Lib.hid ho
        clear hb ho
        go_wp2_with fail
        go_ret2
        exact MadeE.yes (k := n + 1) HN.out ⟨q', rfl, HO.out⟩ HB.out
      · obtain ⟨u, rfl, hr, _⟩ := h
        obtain ⟨a1, c1, rfl, _, _⟩ := hr.len
        obtain ⟨G1, G2⟩ := (as_list (.slice a1 l.length c1)).2.2.2
        have hl : l.length ≤ 1000000 := by have := lenL_len l; have := JP.list_len_ge l; omega
        obtain ⟨k, hix, _⟩ := Option.bind_eq_some_iff.1 (show (JP.idx s l.length).bind (fun n => l[n]?) = some c from hcd)
        have k1 := (JP.idx_some hix).1
        have HI := Lib.hid (fun (w' : World) (hb : Below w.heap.size w w') => index_yes hix hs (by omega) (ht.below hb) (he.below hb))
        have HN : Hid (R0 = some (.list (l.eraseIdx k))) := Lib.hid (by rw [← HR.out, JP.cutL, hix])
        obtain ⟨xs, x1, x2, x3⟩ := list_raw hr
        have HC1 := Lib.hid (fun w' (hb : Below w.heap.size w w') => cloneVal_any (.slice a1 l.length c1) xs w' (x2.below stays_val hb) (by omega))
        have HX3 := Lib.hid x3
        have HX1 := Lib.hid x1
        clear ht he hs hr x2 x3 hz HR hix x1 hcd
        go_enter Tryz.func111, Tryz.ntmps111
        go_wp2_with fail
        refine HCh.out.mono ?_
        rintro E w1 ⟨u, rfl, _, hb⟩
        have HB1 := Lib.hid hb
        clear hb
        go_wp2_with fail
        refine (HI.out w1 HB1.out).mono ?_
        rintro E w2 ⟨rfl, hb⟩
        have HB2 := Lib.hid (HB1.out.trans (hb.mono HB1.out.size))
        clear hb
        go_wp2_with fail
        refine (HC1.out w2 HB2.out).mono ?_
        rintro E w3 ⟨v9, rfl, hown, hb⟩
        have HB3 := Lib.hid (HB2.out.trans (hb.mono HB2.out.size))
        have HD := Lib.hid (delVal_any v9 xs w2.heap.size k w3 hown (by rw [HX1.out]; exact k1) (by rw [HX1.out]; omega))
        have hs2 := HB2.out.size
        clear hown hb
        go_wp2_with fail
        refine HD.out.mono ?_
        rintro E w4 ⟨g, c9, _, hB, rfl, hown, t4⟩
        have HB4 : Hid (Below w.heap.size w w4) := Lib.hid (t4.below HB3.out (by omega))
        have HO := Lib.hid hown
        clear hown t4
        go_wp2_with fail
        go_ret2
        refine MadeE.yes (k := n + 1) HN.out ?_ HB4.out
        refine jv_list HO.out.row (by rw [List.length_eraseIdx_of_lt (by rw [HX1.out]; exact k1), List.length_eraseIdx_of_lt k1, HX1.out]) fun j u z hu hz => ?_
        exact pairs_erase (P := fun u z => JvAt n [] w4 u z) (fun j u z hu hz => (HX3.out j u z hu hz).below HB4.out) k j u z hu hz
      · exfalso
        cases x with
        | obj l => exact absurd rfl (h1 l)
        | list l => exact absurd rfl (h2 l)
        | _ => cases hcd
theorem enter_tcut (a : Array Value) (w : World) : (callFunc 111 a).run Tryz.prog w = .ok (.enter 111 a) w := by kernel_rfl
set_option maxRecDepth 100000 in
set_option maxHeartbeats 3200000 in
theorem tcut_any {n : Nat} {v sv : Value} {x : JV} {l : List Bs} {w : World} (h : JvAt n [] w v x) (hz : (JP.text x).length ≤ 1000000) (hs : StrAt w sv (l.map mkB)) (hl : ∀ s ∈ l, s.length ≤ 1048576) (hll : l.length ≤ 1048576) (h0 : l ≠ []) (ht : TabOK w) (he : ErrOK w) :
    Calls Tryz.prog 70 #[v, sv] w (MadeE (JP.cutW x l) w) := by
  have HU := Lib.hid (under0_any (F := JP.cutL) enter_tcut (Cap := fun _ => True) (fun _ _ _ _ => trivial) (fun n v x s w' h1 h2 h3 h4 h5 _ => tcutL_any n v x s w' h1 h2 h3 h4 h5) l n v sv x w h0 h hz hs hl hll ht he trivial)
  unfold JP.cutW
  clear h hz hs hl hll ht he h0
  go_enter Tryz.func70, Tryz.ntmps70
  go_wp2_with fail
  refine HU.out.mono ?_
  rintro E w1 ⟨u, rfl, hu, hb1⟩
  have HB1 := Lib.hid hb1
  have Hu := Lib.hid hu
  clear hb1 hu
  go_wp2_with fail
  go_ret2
  exact ⟨u, rfl, Hu.out, HB1.out⟩
end Go.Proofs.YtlbolbkikkiifaaGreatDoor
/- ptr.Put, Cut: their contracts. -/
namespace Go.Proofs.YtlbolbkikkiifaaGreatDoor
open Go.RowKit
open JP (JV Bs)

end Go.Proofs.YtlbolbkikkiifaaGreatDoor
