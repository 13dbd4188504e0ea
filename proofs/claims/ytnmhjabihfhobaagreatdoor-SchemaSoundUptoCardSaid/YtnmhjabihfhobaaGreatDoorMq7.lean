/- Texts of ours joined: RowStore, DelVal, DelStr, JsonWithout, ThreePlain, ThreeSteps, JsonNames, Gather, SchemaLow, SchemaPlain, SchemaLook, SchemaPrune, SchemaFit. -/
import Derived.Deep.MidRow
import Derived.ArgAppend
import Derived.BigQuiet
import Derived.Deep.DeepCutAuto
import Derived.Deep.LoopGhost
import Derived.Test.YtnmhjabihfhobaaGreatDoorMq6
set_option linter.unusedVariables false
set_option linter.unusedSimpArgs false
/- Rows of the call's own: a whole element is stored; the tail is cleared; cut short. Any program. -/
namespace Go.Proofs.YtnmhjabihfhobaaGreatDoor
open Go.RowKit

/-- stores into a row of the call's own, one behind the other: all else stays -/
theorem setCells_all (g : Nat) (t : TypeId) : ∀ (vs : List Value) (i : Nat) (cur : Array Value) (w : World), w.heap[g]? = some (.cells cur t (0, 0)) → i + vs.length ≤ cur.size →
    ∃ cur', (w.setCells g i vs).heap[g]? = some (.cells cur' t (0, 0)) ∧ cur'.size = cur.size ∧ (∀ j, j < i ∨ i + vs.length ≤ j → cur'[j]? = cur[j]?) ∧ (∀ j u, vs[j]? = some u → cur'[i + j]? = some u) ∧ Touch g w (w.setCells g i vs)
  | [], i, cur, w, hg, _ => ⟨cur, hg, rfl, fun _ _ => rfl, fun j u h => by simp at h, ⟨rfl, rfl, rfl, rfl, fun _ _ => rfl⟩⟩
  | v :: r, i, cur, w, hg, hl => by
    simp only [List.length_cons] at hl
    obtain ⟨h1, h2⟩ := touch_setCell (w := w) (i := i) (v := v) hg
    obtain ⟨cur', g1, g2, g3, g4, g5⟩ := setCells_all g t r (i + 1) _ _ h1 (by simp; omega)
    refine ⟨cur', g1, by simpa using g2, fun j hj => ?_, fun j u hu => ?_, ?_⟩
    · simp only [List.length_cons] at hj
      rw [g3 j (by omega), Array.getElem?_setIfInBounds, if_neg (by omega)]
    · cases j with
      | zero =>
        simp only [List.getElem?_cons_zero, Option.some.injEq] at hu
        subst hu
        rw [Nat.add_zero, g3 i (by omega), Array.getElem?_setIfInBounds, if_pos rfl, if_pos (by omega)]
      | succ j =>
        have := g4 j u (by simpa using hu)
        rwa [show i + 1 + j = i + (j + 1) by omega] at this
    · show Touch g w ((w.setCell ⟨g, i, none⟩ v).setCells g (i + 1) r)
      exact ⟨g5.os.trans h2.os, g5.tape.trans h2.tape, g5.output.trans h2.output, g5.size.trans h2.size, fun b hb => (g5.other b hb).trans (h2.other b hb)⟩
section
variable {α : Type} {R : Rd α} {k B : Nat} {e : TypeId} {w : World} {g n c : Nat} {l : List α}
/-- its cells may be written -/
theorem OwnAt.there (h : OwnAt R k w B e (.slice (some ⟨g, 0, none⟩) n c) l) {o m : Nat} (hm : o + m ≤ c * k) : w.there g o m := by
  obtain ⟨css, h1, h2, h3, h4⟩ := h
  rcases h3.2 with ⟨h5, _⟩ | ⟨g', cap, cur, hv, hB, hh, hle, hmx, hz, ht⟩
  · cases h5
  · cases hv
    intro j hj
    refine ⟨?_, free_block hh _⟩
    rw [cell_block hh, Array.getElem?_eq_getElem (by omega)]
    rfl
/-- a whole element is stored -/
theorem OwnAt.storeElem (hf : Flat R) (h : OwnAt R k w B e (.slice (some ⟨g, 0, none⟩) n c) l) {i : Nat} (hi : i < l.length) {cs : List Value} (hk : cs.length = k) {x : α} (hR : R w cs x) :
    OwnAt R k (w.setCells g (i * k) cs) B e (.slice (some ⟨g, 0, none⟩) n c) (l.set i x) ∧ Touch g w (w.setCells g (i * k) cs) := by
  obtain ⟨css, h1, h2, h3, h4⟩ := h
  rcases h3.2 with ⟨h5, _⟩ | ⟨g', cap, cur, hv, hB, hh, hle, hmx, hz, ht⟩
  · cases h5
  · have hlen : css.flatten.length = l.length * k := by rw [flat_len h2, h1]
    cases hv
    have hik : i * k + k ≤ l.length * k := by rw [← Nat.succ_mul]; exact Nat.mul_le_mul_right k hi
    have hlc : l.length * k ≤ c * k := Nat.mul_le_mul_right k hle
    obtain ⟨cur', g1, g2, g3, g4, g5⟩ := setCells_all g e cs (i * k) cur w hh (by rw [hk, hz]; omega)
    have hk2 : ∀ q ∈ css.set i cs, q.length = k := fun q hq => by
      rcases List.mem_or_eq_of_mem_set hq with h6 | h6
      · exact h2 q h6
      · rw [h6]; exact hk
    have hfl : ∀ t, t < l.length * k → cur'[t]? = (css.set i cs).flatten[t]? := fun t htl => by
      have hk0 : 0 < k := by
        rcases Nat.eq_zero_or_pos k with h0 | h0
        · subst h0; simp at htl
        · exact h0
      have hdm : t = t / k * k + t % k := by rw [Nat.mul_comm]; exact (Nat.div_add_mod t k).symm
      have hmod : t % k < k := Nat.mod_lt _ hk0
      have hdiv : t / k < css.length := by rw [h1]; exact (Nat.div_lt_iff_lt_mul hk0).2 htl
      by_cases hti : t / k = i
      · have hu : cs[t % k]? = some (cs[t % k]'(by omega)) := List.getElem?_eq_getElem _
        have e1 := get_flat hk2 (j := i) (i := t % k) (cs := cs) (by rw [List.getElem?_set, if_pos rfl, if_pos (by omega)]) hu
        have e2 := g4 (t % k) _ hu
        rw [← hti, ← hdm] at e2
        rw [← hti, ← hdm] at e1
        rw [hti] at e1
        rw [e2, e1]
      · have hq : css[t / k]? = some css[t / k] := List.getElem?_eq_getElem hdiv
        have hu : (css[t / k])[t % k]? = some ((css[t / k])[t % k]'(by rw [h2 _ (List.getElem_mem _)]; exact hmod)) := List.getElem?_eq_getElem _
        have e1 := get_flat hk2 (j := t / k) (i := t % k) (by rw [List.getElem?_set, if_neg (fun h => hti h.symm)]; exact hq) hu
        have e3 := get_flat h2 (j := t / k) (i := t % k) hq hu
        rw [← hdm] at e1 e3
        have hout : t < i * k ∨ i * k + cs.length ≤ t := by
          rw [hk]
          rcases Nat.lt_or_gt_of_ne hti with h7 | h7
          · left
            have : (t / k + 1) * k ≤ i * k := Nat.mul_le_mul_right k h7
            rw [Nat.succ_mul] at this; omega
          · right
            have : (i + 1) * k ≤ t / k * k := Nat.mul_le_mul_right k h7
            rw [Nat.succ_mul] at this; omega
        rw [g3 t hout, e1, ← e3, ← ht, List.getElem?_take_of_lt htl, Array.getElem?_toList]
    refine ⟨⟨css.set i cs, by simp [h1], hk2, ?_, fun j q y hq hy => ?_⟩, g5⟩
    · rw [List.length_set]
      refine ⟨by rw [flat_len hk2, List.length_set, h1], .inr ⟨g, c, cur', rfl, hB, g1, hle, hmx, by rw [g2]; exact hz, ?_⟩⟩
      apply List.ext_getElem?
      intro t
      by_cases htl : t < l.length * k
      · rw [List.getElem?_take_of_lt htl, Array.getElem?_toList, hfl t htl]
      · rw [List.getElem?_eq_none (by rw [List.length_take]; omega), List.getElem?_eq_none (by rw [flat_len hk2, List.length_set, h1]; omega)]
    · by_cases hij : i = j
      · subst hij
        rw [List.getElem?_set, if_pos rfl, if_pos (by omega)] at hq
        rw [List.getElem?_set, if_pos rfl, if_pos hi] at hy
        cases hq; cases hy
        exact hf _ _ _ _ hR
      · rw [List.getElem?_set, if_neg hij] at hq hy
        exact hf _ _ _ _ (h4 j q y hq hy)
/-- stores behind the first i; cut short there -/
theorem OwnAt.behind (hf : Flat R) (h : OwnAt R k w B e (.slice (some ⟨g, 0, none⟩) n c) l) {i : Nat} (hi : i ≤ l.length) {vs : List Value} (hvs : i * k + vs.length ≤ c * k) :
    OwnAt R k (w.setCells g (i * k) vs) B e (.slice (some ⟨g, 0, none⟩) i c) (l.take i) ∧ Touch g w (w.setCells g (i * k) vs) := by
  obtain ⟨css, h1, h2, h3, h4⟩ := h
  rcases h3.2 with ⟨h5, _⟩ | ⟨g', cap, cur, hv, hB, hh, hle, hmx, hz, ht⟩
  · cases h5
  · cases hv
    obtain ⟨cur', g1, g2, g3, g4, g5⟩ := setCells_all g e vs (i * k) cur w hh (by rw [hz]; exact hvs)
    have hik : i * k ≤ l.length * k := Nat.mul_le_mul_right k hi
    have hlk : (l.take i).length = i := by rw [List.length_take]; omega
    have hk2 : ∀ q ∈ css.take i, q.length = k := fun q hq => h2 q (List.mem_of_mem_take hq)
    have hfl : (css.take i).flatten.length = i * k := by rw [flat_len hk2, List.length_take, h1]; congr 1; omega
    have hpre : (css.take i).flatten = css.flatten.take (i * k) := by
      have h7 : css.flatten = (css.take i).flatten ++ (css.drop i).flatten := by rw [← List.flatten_append, List.take_append_drop]
      rw [h7, ← hfl, List.take_left]
    refine ⟨⟨css.take i, by rw [List.length_take, List.length_take, h1], hk2, ?_, fun j q y hq hy => ?_⟩, g5⟩
    · rw [hlk]
      refine ⟨hfl, .inr ⟨g, c, cur', rfl, hB, g1, by omega, hmx, by rw [g2]; exact hz, ?_⟩⟩
      rw [hpre, ← ht]
      apply List.ext_getElem?
      intro t
      by_cases htl : t < i * k
      · rw [List.getElem?_take_of_lt htl, Array.getElem?_toList, g3 t (.inl htl), List.getElem?_take_of_lt htl, List.getElem?_take_of_lt (by omega), Array.getElem?_toList]
      · rw [List.getElem?_eq_none (by rw [List.length_take]; omega), List.getElem?_eq_none (by rw [List.length_take]; omega)]
    · have hj : j < i := by have := (List.getElem?_eq_some_iff.1 hy).1; omega
      rw [List.getElem?_take_of_lt hj] at hq hy
      exact hf _ _ _ _ (h4 j q y hq hy)
end
/-- 'clear(s)' at elements of several cells -/
theorem run_clear_rows {P : Program} (w : World) (t e ty : TypeId) (z : Value) (ht : P.underlying t = some (.slice e)) (hv : ∀ w, (zeroValue e).run P w = .ok z w) (h1 : ∀ u ∈ z.cells, u.oneCell' = true) (b o n c : Nat) (hn : 0 < n)
    (hc : w.there b o (Builtin.zeroCells z.cells n).size) :
    (Builtin.clear_ #[t] ty #[.slice (some ⟨b, o, none⟩) n c]).run P w = .ok (.tuple #[]) (w.setCells b o (Builtin.zeroCells z.cells n).toList) := by
  have hone : ∀ u ∈ (Builtin.zeroCells z.cells n).toList, u.oneCell' = true := fun u hu => by
    unfold Builtin.zeroCells at hu
    rw [Array.toList_map] at hu
    obtain ⟨i, hi, rfl⟩ := List.mem_map.1 hu
    have hi2 : i < n * z.cells.size := by simpa using hi
    have h0 : 0 < z.cells.size := by
      rcases Nat.eq_zero_or_pos z.cells.size with h | h
      · rw [h] at hi2; simp at hi2
      · exact h
    have hlt : i % z.cells.size < z.cells.size := Nat.mod_lt _ h0
    rw [getElem!_pos z.cells _ hlt]
    exact h1 _ (Array.getElem_mem hlt)
  have hst := run_storeCells_cells (P := P) b o (Builtin.zeroCells z.cells n).toList 0 w (fun j hj => by simpa using (hc j (by simpa using hj)).1) (fun j hj => by simpa using (hc j (by simpa using hj)).2) hone
  simp only [Nat.add_zero] at hst
  obtain ⟨m, rfl⟩ : ∃ m, n = m + 1 := ⟨n - 1, by omega⟩
  simp [Builtin.clear_, run_underlying ht, hv, hst]
theorem wpList_clear_rows {P : Program} (w : World) {ops : Array Oper} {rest : List Oper} {o : Oper} {a : Act} {Q : Exit → Act → World → Prop} (hg : o.guard = none) (s : Operand) (t e : TypeId)
    (ho : o.op = .call { callee := .builtin .clear, args := #[s], argTypes := #[t] }) (z : Value) (ht : P.underlying t = some (.slice e)) (hv : ∀ w, (zeroValue e).run P w = .ok z w) (h1 : ∀ u ∈ z.cells, u.oneCell' = true) (b i n c : Nat) (hn : 0 < n)
    (hs : a.eval s = .slice (some ⟨b, i, none⟩) n c) (hc : w.there b i (Builtin.zeroCells z.cells n).size)
    (h : wpList P ops Q rest (a.put o.dst (.tuple #[])) (w.setCells b i (Builtin.zeroCells z.cells n).toList)) : wpList P ops Q (o :: rest) a w := by
  refine wpList_plain hg fun K hK' => ?_
  have hrun := run_clear_rows w t e o.type z ht hv h1 b i n c hn hc
  unfold Oper.wp
  simp [execOp, ho, resolve, invoke, builtin, hs, hrun, Result.andThen]
  exact hK' _ _ h
theorem zeroCells_size (z : Array Value) (n : Nat) : (Builtin.zeroCells z n).size = n * z.size := by simp [Builtin.zeroCells]
end Go.Proofs.YtnmhjabihfhobaaGreatDoor
/- slices.Delete at a row of values: one element. -/
namespace Go.Proofs.YtnmhjabihfhobaaGreatDoor
open Go.RowKit

theorem wpList_append_here {P : Program} (w : World) {ops : Array Oper} {rest : List Oper} {o : Oper} {a : Act} {Q : Exit → Act → World → Prop} (hg : o.guard = none) (s x : Operand) (t : TypeId)
    (ho : o.op = .call { callee := .builtin .append, args := #[s, x], argTypes := #[t, t] }) (e : TypeId) (i : TypeInfo) (ht : P.underlying t = some (.slice e)) (hi : P.info? e = some i) (h1s : i.size = 1)
    (b n c p m c2 : Nat) (hs : a.eval s = .slice (some ⟨b, 0, none⟩) n c) (hx : a.eval x = .slice (some ⟨b, p, none⟩) m c2) (news : List Value) (hl : news.length = m) (hn : ∀ j u, news[j]? = some u → w.cell? ⟨b, p + j, none⟩ = some u) (h1 : ∀ u ∈ news, u.oneCell' = true)
    (hroom : n + m ≤ c) (hc : ∀ j, j < m → (w.cell? ⟨b, n + j, none⟩).isSome = true) (hf : ∀ j, j < m → w.frozen? ⟨b, n + j, none⟩ = false)
    (h : wpList P ops Q rest (a.put o.dst (.slice (some ⟨b, 0, none⟩) (n + m) c)) (w.setCells b n news)) : wpList P ops Q (o :: rest) a w := by
  refine wpList_plain hg fun K hK' => ?_
  have hrun := run_append_room_cells (P := P) w t o.type e i ht hi b 0 n c ⟨b, p, none⟩ m c2 news (by rw [h1s, Nat.mul_one]; exact hl) (fun j u hu => by rw [add_plain']; exact hn j u hu) h1 hroom (fun j hj => by rw [h1s, Nat.mul_one, Nat.zero_add]; exact hc j (by omega)) (fun j hj => by rw [h1s, Nat.mul_one, Nat.zero_add]; exact hf j (by omega))
  rw [h1s, Nat.mul_one, Nat.zero_add] at hrun
  unfold Oper.wp
  simp [execOp, ho, resolve, invoke, builtin, hs, hx, hrun, Result.andThen]
  exact hK' _ _ h
set_option maxRecDepth 100000 in
set_option maxHeartbeats 3200000 in
theorem delVal_any (v : Value) (xs : List Value) (B i : Nat) (w : World) (h : OwnAt RVal 1 w B 53 v xs) (hi : i < xs.length) (hl : xs.length ≤ 1048576) :
    Calls Tryz.prog 72 #[v, .int .i64 (i : Int), .int .i64 ((i : Int) + 1)] w fun e w' => ∃ g c, v = .slice (some ⟨g, 0, none⟩) xs.length c ∧ B ≤ g ∧ e = .returned (.slice (some ⟨g, 0, none⟩) (xs.length - 1) c) ∧ OwnAt RVal 1 w' B 53 (.slice (some ⟨g, 0, none⟩) (xs.length - 1) c) (xs.eraseIdx i) ∧ Touch g w w' := by
  obtain ⟨i0, hi0, hz0, hz1, hz2⟩ := info_parts Tryz.infoVal
  have h1c := h.ones
  have ho := own_raw h
  rcases ho.2 with ⟨_, h0⟩ | ⟨g, c, cur, rfl, hB, hh, hlc, hc, hcs, htk⟩
  · omega
  have hcur : ∀ (j : Nat) (y : Value), xs[j]? = some y → cur[j]? = some y := fun j y hy => by
    have := ho.cells (g := g) rfl j y hy
    rw [add_plain', Nat.zero_add, cell_block hh] at this
    exact this
  obtain ⟨n, hn⟩ : ∃ n, xs.length = n := ⟨_, rfl⟩
  obtain ⟨m, hm⟩ : ∃ m, n - (i + 1) = m := ⟨_, rfl⟩
  have Hn := Lib.hid hn
  have Hh := Lib.hid hh
  have Hcur := Lib.hid hcur
  have H1 := Lib.hid h1c
  have Hcs := Lib.hid hcs
  have hin : i < n := by omega
  have him : i + m + 1 ≤ n := by omega
  have him2 : n ≤ i + m + 1 := by omega
  have hnc : n ≤ c := by rw [← hn]; exact hlc
  have hcm : c ≤ 9223372036854775807 := by unfold maxLen at hc; omega
  have hn2 : n ≤ 1048576 := by omega
  rw [hn]
  have q1 : (0 : Int) ≤ (i : Int) := by omega
  have q2 : (i : Int) ≤ (i : Int) + 1 := by omega
  have q3 : (i : Int) + 1 ≤ (n : Int) := by omega
  have q4 : (n : Int) ≤ (c : Int) := by omega
  have q5 : (0 : Int) ≤ (i : Int) + 1 := by omega
  have q6 : ((i : Int) + 1).toNat = i + 1 := by omega
  have q7 : ((i : Int) == (i : Int) + 1) = false := by rw [beq_eq_false_iff_ne]; omega
  have q8 : (i : Int) ≤ (c : Int) := by omega
  clear h ho hcur h1c hh hn hl hi htk hlc
  go_enter Tryz.func72, Tryz.ntmps72
  go_upto_region 5 with fail
  refine wp_region_hold 6 (fun w' => ∃ q, w' = w.drewN q) (by kernel_rfl) (by kernel_rfl) ?_ ?_
  · exact ⟨1, rfl⟩
  simp only [List.take_succ_cons, List.take_zero, List.drop_succ_cons, List.drop_zero]
  (first | (refine wpHold_pure (v := ?_) (by rfl) (fun w => ?_) ?_; rotate_left; focus (first | (go_simp; done) | (go_simp; with_reducible rfl))) | (refine wpHold_skip ?_ ?_; focus (go_simp; done)) | (refine wpHold_pure' (v := ?_) ?_ (fun w => ?_) ?_; rotate_left; focus (go_simp; done); focus (first | (go_simp; done) | (go_simp; with_reducible rfl)))); try simp only [Act.put, List.setIfInBounds_toArray, List.set_cons_zero, List.set_cons_succ]
  (first | (refine wpHold_pure (v := ?_) (by rfl) (fun w => ?_) ?_; rotate_left; focus (first | (go_simp; done) | (go_simp; with_reducible rfl))) | (refine wpHold_skip ?_ ?_; focus (go_simp; done)) | (refine wpHold_pure' (v := ?_) ?_ (fun w => ?_) ?_; rotate_left; focus (go_simp; done); focus (first | (go_simp; done) | (go_simp; with_reducible rfl)))); try simp only [Act.put, List.setIfInBounds_toArray, List.set_cons_zero, List.set_cons_succ]
  refine wpHold_pure (v := .slice (some ⟨g, 0, none⟩) i c) (by rfl) (fun w => ?_) ?_
  · go_simp
    done
  try simp only [Act.put, List.setIfInBounds_toArray, List.set_cons_zero, List.set_cons_succ]
  (first | (refine wpHold_pure (v := ?_) (by rfl) (fun w => ?_) ?_; rotate_left; focus (first | (go_simp; done) | (go_simp; with_reducible rfl))) | (refine wpHold_skip ?_ ?_; focus (go_simp; done)) | (refine wpHold_pure' (v := ?_) ?_ (fun w => ?_) ?_; rotate_left; focus (go_simp; done); focus (first | (go_simp; done) | (go_simp; with_reducible rfl)))); try simp only [Act.put, List.setIfInBounds_toArray, List.set_cons_zero, List.set_cons_succ]
  (first | (refine wpHold_pure (v := ?_) (by rfl) (fun w => ?_) ?_; rotate_left; focus (first | (go_simp; done) | (go_simp; with_reducible rfl))) | (refine wpHold_skip ?_ ?_; focus (go_simp; done)) | (refine wpHold_pure' (v := ?_) ?_ (fun w => ?_) ?_; rotate_left; focus (go_simp; done); focus (first | (go_simp; done) | (go_simp; with_reducible rfl)))); try simp only [Act.put, List.setIfInBounds_toArray, List.set_cons_zero, List.set_cons_succ]
  obtain ⟨p, hp⟩ : ∃ p, (c = i + 1 ∧ p = 0) ∨ (c ≠ i + 1 ∧ p = i + 1) := by
    by_cases h : c = i + 1
    · exact ⟨0, .inl ⟨h, rfl⟩⟩
    · exact ⟨i + 1, .inr ⟨h, rfl⟩⟩
  refine wpHold_pure (v := .slice (some ⟨g, p, none⟩) m (c - (i + 1))) (by rfl) (fun w => ?_) ?_
  · rcases hp with ⟨h1, rfl⟩ | ⟨h1, rfl⟩
    · have h2 : n = i + 1 := by omega
      rw [← hm]
      go_simp
    · rw [← hm]
      go_simp
  try simp only [Act.put, List.setIfInBounds_toArray, List.set_cons_zero, List.set_cons_succ]
  refine wpHold_nil ?_
  rintro w' ⟨q, rfl⟩
  try simp only [Act.put, List.setIfInBounds_toArray, List.set_cons_zero, List.set_cons_succ]
  have hml : (xs.drop (i + 1)).length = m := by rw [List.length_drop, Hn.out]; exact hm
  have Hml := Lib.hid hml
  have hnews : ∀ (j : Nat) (u : Value), (xs.drop (i + 1))[j]? = some u → (w.drewN q).cell? ⟨g, p + j, none⟩ = some u := fun j u hu => by
    have hj : j < m := by have := (List.getElem?_eq_some_iff.1 hu).1; omega
    rcases hp with ⟨h1, _⟩ | ⟨_, rfl⟩
    · omega
    · rw [List.getElem?_drop] at hu
      exact (cell_block (w := w.drewN q) Hh.out (i + 1 + j)).trans (Hcur.out _ _ hu)
  have hth : ∀ j, j < m → ((w.drewN q).cell? ⟨g, i + j, none⟩).isSome = true ∧ (w.drewN q).frozen? ⟨g, i + j, none⟩ = false := fun j hj => by
    refine ⟨?_, free_block (w := w.drewN q) Hh.out _⟩
    rw [cell_block (w := w.drewN q) Hh.out, Array.getElem?_eq_getElem (by rw [Hcs.out]; omega)]
    rfl
  have Hnews := Lib.hid hnews
  have Hth := Lib.hid hth
  clear hnews hth hml hp
  obtain ⟨k, hk⟩ : ∃ k, i + m = k := ⟨_, rfl⟩
  have Hk := Lib.hid hk
  have hkn : k + 1 ≤ n := by omega
  have hkn2 : n ≤ k + 1 := by omega
  refine (wpList_append_here _ (by rfl) _ _ _ (by rfl) 53 i0 Tryz.underlying49 hi0 hz1 g i c p m (c - (i + 1)) (by rfl) (by rfl) (xs.drop (i + 1)) Hml.out Hnews.out (fun u hu => H1.out u (List.mem_of_mem_drop hu)) (by omega) (fun j hj => (Hth.out j hj).1) (fun j hj => (Hth.out j hj).2) ?_)
  obtain ⟨cur2, k1, k2, k3, k4, k5⟩ := setCells_all g 53 (xs.drop (i + 1)) i cur (w.drewN q) Hh.out (by rw [Hml.out, Hcs.out]; omega)
  rw [Hml.out, hk] at k3
  rw [hk]
  generalize hW : World.setCells (w.drewN q) g i (xs.drop (i + 1)) = W at k1 k5 ⊢
  have K1 := Lib.hid k1
  have K2 := Lib.hid k2
  have K3 := Lib.hid k3
  have K4 := Lib.hid k4
  have K5 : Hid (Touch g w W) := Lib.hid ⟨k5.os, k5.tape, k5.output, k5.size, k5.other⟩
  clear hW k1 k2 k3 k4 k5 hk
  have r1 : (0 : Int) ≤ (k : Int) := by omega
  have r2 : (k : Int) ≤ (n : Int) := by omega
  have r3 : ¬ c = k := by omega
  go_upto_region 6 with fail
  iterate 16 go_step
  have hzs : (Builtin.zeroCells (Value.nilIface).cells (n - k)).size = n - k := (zeroCells_size _ _).trans (Nat.mul_one _)
  have hthere : W.there g k (Builtin.zeroCells (Value.nilIface).cells (n - k)).size := fun j hj => by
    refine ⟨?_, free_block K1.out _⟩
    rw [cell_block K1.out, Array.getElem?_eq_getElem (by rw [K2.out, Hcs.out]; omega)]
    rfl
  have Hthere := Lib.hid hthere
  have Hzs := Lib.hid hzs
  clear hthere hzs
  refine wpList_clear_rows W (by rfl) _ _ 53 (by rfl) .nilIface Tryz.underlying49 Tryz.zeroValue53 (by simp [Value.cells, Value.oneCell']) g k (n - k) (c - k) (by omega) (by rfl) Hthere.out ?_
  obtain ⟨cur3, k1, k2, k3, k4, k5⟩ := setCells_all g 53 (Builtin.zeroCells (Value.nilIface).cells (n - k)).toList k cur2 W K1.out (by rw [Array.length_toList, Hzs.out, K2.out, Hcs.out]; omega)
  generalize hW : World.setCells W g k _ = W2 at k1 k5 ⊢
  have L1 := Lib.hid k1
  have L2 := Lib.hid k2
  have L3 := Lib.hid k3
  have L5 : Hid (Touch g w W2) := Lib.hid ⟨k5.os.trans K5.out.os, k5.tape.trans K5.out.tape, k5.output.trans K5.out.output, k5.size.trans K5.out.size, fun b hb => (k5.other b hb).trans (K5.out.other b hb)⟩
  clear hW k1 k2 k3 k4 k5
  go_wp2_with fail
  go_ret
  have hel : (xs.eraseIdx i).length = k := by rw [List.length_eraseIdx_of_lt (by rw [Hn.out]; exact hin), Hn.out]; omega
  have hnk : n - 1 = k := by omega
  refine ⟨g, c, rfl, hB, by rw [hnk] <;> rfl, ?_, L5.out⟩
  rw [hnk]
  have hres := own_of_cells (xs := xs.eraseIdx i) (B := B) (c := c) L1.out hB (by rw [hel]; omega) hc (by rw [L2.out, K2.out, Hcs.out, Nat.mul_one]) (fun j u hu => ?_) (fun u hu => H1.out u (List.mem_of_mem_eraseIdx hu))
  · rw [hel] at hres
    exact hres
  · have hjk : j < k := by rw [← hel]; exact (List.getElem?_eq_some_iff.1 hu).1
    rw [L3.out j (.inl hjk)]
    rw [List.getElem?_eraseIdx] at hu
    by_cases hji : j < i
    · rw [if_pos hji] at hu
      rw [K3.out j (.inl hji)]
      exact Hcur.out j u hu
    · rw [if_neg hji] at hu
      have := K4.out (j - i) u (by rw [List.getElem?_drop, show i + 1 + (j - i) = j + 1 by omega]; exact hu)
      rw [show i + (j - i) = j by omega] at this
      exact this
end Go.Proofs.YtnmhjabihfhobaaGreatDoor
/- slices.Delete at a row of texts, as their cells: one element. -/
namespace Go.Proofs.YtnmhjabihfhobaaGreatDoor
open Go.RowKit

set_option maxRecDepth 100000 in
set_option maxHeartbeats 3200000 in
theorem delStr_any (v : Value) (xs : List Value) (B i : Nat) (w : World) (h : OwnAt RVal 1 w B 9 v xs) (hi : i < xs.length) (hl : xs.length ≤ 1048576) :
    Calls Tryz.prog 71 #[v, .int .i64 (i : Int), .int .i64 ((i : Int) + 1)] w fun e w' => ∃ g c, v = .slice (some ⟨g, 0, none⟩) xs.length c ∧ B ≤ g ∧ e = .returned (.slice (some ⟨g, 0, none⟩) (xs.length - 1) c) ∧ OwnAt RVal 1 w' B 9 (.slice (some ⟨g, 0, none⟩) (xs.length - 1) c) (xs.eraseIdx i) ∧ Touch g w w' := by
  obtain ⟨i0, hi0, hz0, hz1, hz2⟩ := info_parts Tryz.infoStr
  have h1c := h.ones
  have ho := own_raw h
  rcases ho.2 with ⟨_, h0⟩ | ⟨g, c, cur, rfl, hB, hh, hlc, hc, hcs, htk⟩
  · omega
  have hcur : ∀ (j : Nat) (y : Value), xs[j]? = some y → cur[j]? = some y := fun j y hy => by
    have := ho.cells (g := g) rfl j y hy
    rw [add_plain', Nat.zero_add, cell_block hh] at this
    exact this
  obtain ⟨n, hn⟩ : ∃ n, xs.length = n := ⟨_, rfl⟩
  obtain ⟨m, hm⟩ : ∃ m, n - (i + 1) = m := ⟨_, rfl⟩
  have Hn := Lib.hid hn
  have Hh := Lib.hid hh
  have Hcur := Lib.hid hcur
  have H1 := Lib.hid h1c
  have Hcs := Lib.hid hcs
  have hin : i < n := by omega
  have him : i + m + 1 ≤ n := by omega
  have him2 : n ≤ i + m + 1 := by omega
  have hnc : n ≤ c := by rw [← hn]; exact hlc
  have hcm : c ≤ 9223372036854775807 := by unfold maxLen at hc; omega
  have hn2 : n ≤ 1048576 := by omega
  rw [hn]
  have q1 : (0 : Int) ≤ (i : Int) := by omega
  have q2 : (i : Int) ≤ (i : Int) + 1 := by omega
  have q3 : (i : Int) + 1 ≤ (n : Int) := by omega
  have q4 : (n : Int) ≤ (c : Int) := by omega
  have q5 : (0 : Int) ≤ (i : Int) + 1 := by omega
  have q6 : ((i : Int) + 1).toNat = i + 1 := by omega
  have q7 : ((i : Int) == (i : Int) + 1) = false := by rw [beq_eq_false_iff_ne]; omega
  have q8 : (i : Int) ≤ (c : Int) := by omega
  clear h ho hcur h1c hh hn hl hi htk hlc
  go_enter Tryz.func71, Tryz.ntmps71
  go_upto_region 5 with fail
  refine wp_region_hold 6 (fun w' => ∃ q, w' = w.drewN q) (by kernel_rfl) (by kernel_rfl) ?_ ?_
  · exact ⟨1, rfl⟩
  simp only [List.take_succ_cons, List.take_zero, List.drop_succ_cons, List.drop_zero]
  (first | (refine wpHold_pure (v := ?_) (by rfl) (fun w => ?_) ?_; rotate_left; focus (first | (go_simp; done) | (go_simp; with_reducible rfl))) | (refine wpHold_skip ?_ ?_; focus (go_simp; done)) | (refine wpHold_pure' (v := ?_) ?_ (fun w => ?_) ?_; rotate_left; focus (go_simp; done); focus (first | (go_simp; done) | (go_simp; with_reducible rfl)))); try simp only [Act.put, List.setIfInBounds_toArray, List.set_cons_zero, List.set_cons_succ]
  (first | (refine wpHold_pure (v := ?_) (by rfl) (fun w => ?_) ?_; rotate_left; focus (first | (go_simp; done) | (go_simp; with_reducible rfl))) | (refine wpHold_skip ?_ ?_; focus (go_simp; done)) | (refine wpHold_pure' (v := ?_) ?_ (fun w => ?_) ?_; rotate_left; focus (go_simp; done); focus (first | (go_simp; done) | (go_simp; with_reducible rfl)))); try simp only [Act.put, List.setIfInBounds_toArray, List.set_cons_zero, List.set_cons_succ]
  refine wpHold_pure (v := .slice (some ⟨g, 0, none⟩) i c) (by rfl) (fun w => ?_) ?_
  · go_simp
    done
  try simp only [Act.put, List.setIfInBounds_toArray, List.set_cons_zero, List.set_cons_succ]
  (first | (refine wpHold_pure (v := ?_) (by rfl) (fun w => ?_) ?_; rotate_left; focus (first | (go_simp; done) | (go_simp; with_reducible rfl))) | (refine wpHold_skip ?_ ?_; focus (go_simp; done)) | (refine wpHold_pure' (v := ?_) ?_ (fun w => ?_) ?_; rotate_left; focus (go_simp; done); focus (first | (go_simp; done) | (go_simp; with_reducible rfl)))); try simp only [Act.put, List.setIfInBounds_toArray, List.set_cons_zero, List.set_cons_succ]
  (first | (refine wpHold_pure (v := ?_) (by rfl) (fun w => ?_) ?_; rotate_left; focus (first | (go_simp; done) | (go_simp; with_reducible rfl))) | (refine wpHold_skip ?_ ?_; focus (go_simp; done)) | (refine wpHold_pure' (v := ?_) ?_ (fun w => ?_) ?_; rotate_left; focus (go_simp; done); focus (first | (go_simp; done) | (go_simp; with_reducible rfl)))); try simp only [Act.put, List.setIfInBounds_toArray, List.set_cons_zero, List.set_cons_succ]
  obtain ⟨p, hp⟩ : ∃ p, (c = i + 1 ∧ p = 0) ∨ (c ≠ i + 1 ∧ p = i + 1) := by
    by_cases h : c = i + 1
    · exact ⟨0, .inl ⟨h, rfl⟩⟩
    · exact ⟨i + 1, .inr ⟨h, rfl⟩⟩
  refine wpHold_pure (v := .slice (some ⟨g, p, none⟩) m (c - (i + 1))) (by rfl) (fun w => ?_) ?_
  · rcases hp with ⟨h1, rfl⟩ | ⟨h1, rfl⟩
    · have h2 : n = i + 1 := by omega
      rw [← hm]
      go_simp
    · rw [← hm]
      go_simp
  try simp only [Act.put, List.setIfInBounds_toArray, List.set_cons_zero, List.set_cons_succ]
  refine wpHold_nil ?_
  rintro w' ⟨q, rfl⟩
  try simp only [Act.put, List.setIfInBounds_toArray, List.set_cons_zero, List.set_cons_succ]
  have hml : (xs.drop (i + 1)).length = m := by rw [List.length_drop, Hn.out]; exact hm
  have Hml := Lib.hid hml
  have hnews : ∀ (j : Nat) (u : Value), (xs.drop (i + 1))[j]? = some u → (w.drewN q).cell? ⟨g, p + j, none⟩ = some u := fun j u hu => by
    have hj : j < m := by have := (List.getElem?_eq_some_iff.1 hu).1; omega
    rcases hp with ⟨h1, _⟩ | ⟨_, rfl⟩
    · omega
    · rw [List.getElem?_drop] at hu
      exact (cell_block (w := w.drewN q) Hh.out (i + 1 + j)).trans (Hcur.out _ _ hu)
  have hth : ∀ j, j < m → ((w.drewN q).cell? ⟨g, i + j, none⟩).isSome = true ∧ (w.drewN q).frozen? ⟨g, i + j, none⟩ = false := fun j hj => by
    refine ⟨?_, free_block (w := w.drewN q) Hh.out _⟩
    rw [cell_block (w := w.drewN q) Hh.out, Array.getElem?_eq_getElem (by rw [Hcs.out]; omega)]
    rfl
  have Hnews := Lib.hid hnews
  have Hth := Lib.hid hth
  clear hnews hth hml hp
  obtain ⟨k, hk⟩ : ∃ k, i + m = k := ⟨_, rfl⟩
  have Hk := Lib.hid hk
  have hkn : k + 1 ≤ n := by omega
  have hkn2 : n ≤ k + 1 := by omega
  refine (wpList_append_here _ (by rfl) _ _ _ (by rfl) 9 i0 Tryz.underlying25 hi0 hz1 g i c p m (c - (i + 1)) (by rfl) (by rfl) (xs.drop (i + 1)) Hml.out Hnews.out (fun u hu => H1.out u (List.mem_of_mem_drop hu)) (by omega) (fun j hj => (Hth.out j hj).1) (fun j hj => (Hth.out j hj).2) ?_)
  obtain ⟨cur2, k1, k2, k3, k4, k5⟩ := setCells_all g 9 (xs.drop (i + 1)) i cur (w.drewN q) Hh.out (by rw [Hml.out, Hcs.out]; omega)
  rw [Hml.out, hk] at k3
  rw [hk]
  generalize hW : World.setCells (w.drewN q) g i (xs.drop (i + 1)) = W at k1 k5 ⊢
  have K1 := Lib.hid k1
  have K2 := Lib.hid k2
  have K3 := Lib.hid k3
  have K4 := Lib.hid k4
  have K5 : Hid (Touch g w W) := Lib.hid ⟨k5.os, k5.tape, k5.output, k5.size, k5.other⟩
  clear hW k1 k2 k3 k4 k5 hk
  have r1 : (0 : Int) ≤ (k : Int) := by omega
  have r2 : (k : Int) ≤ (n : Int) := by omega
  have r3 : ¬ c = k := by omega
  go_upto_region 6 with fail
  iterate 16 go_step
  have hzs : (Builtin.zeroCells (Value.string ByteArray.empty).cells (n - k)).size = n - k := (zeroCells_size _ _).trans (Nat.mul_one _)
  have hthere : W.there g k (Builtin.zeroCells (Value.string ByteArray.empty).cells (n - k)).size := fun j hj => by
    refine ⟨?_, free_block K1.out _⟩
    rw [cell_block K1.out, Array.getElem?_eq_getElem (by rw [K2.out, Hcs.out]; omega)]
    rfl
  have Hthere := Lib.hid hthere
  have Hzs := Lib.hid hzs
  clear hthere hzs
  refine wpList_clear_rows W (by rfl) _ _ 9 (by rfl) (.string ByteArray.empty) Tryz.underlying25 Tryz.zeroValue9 (by simp [Value.cells, Value.oneCell']) g k (n - k) (c - k) (by omega) (by rfl) Hthere.out ?_
  obtain ⟨cur3, k1, k2, k3, k4, k5⟩ := setCells_all g 9 (Builtin.zeroCells (Value.string ByteArray.empty).cells (n - k)).toList k cur2 W K1.out (by rw [Array.length_toList, Hzs.out, K2.out, Hcs.out]; omega)
  generalize hW : World.setCells W g k _ = W2 at k1 k5 ⊢
  have L1 := Lib.hid k1
  have L2 := Lib.hid k2
  have L3 := Lib.hid k3
  have L5 : Hid (Touch g w W2) := Lib.hid ⟨k5.os.trans K5.out.os, k5.tape.trans K5.out.tape, k5.output.trans K5.out.output, k5.size.trans K5.out.size, fun b hb => (k5.other b hb).trans (K5.out.other b hb)⟩
  clear hW k1 k2 k3 k4 k5
  go_wp2_with fail
  go_ret
  have hel : (xs.eraseIdx i).length = k := by rw [List.length_eraseIdx_of_lt (by rw [Hn.out]; exact hin), Hn.out]; omega
  have hnk : n - 1 = k := by omega
  refine ⟨g, c, rfl, hB, by rw [hnk] <;> rfl, ?_, L5.out⟩
  rw [hnk]
  have hres := own_of_cells (xs := xs.eraseIdx i) (B := B) (c := c) L1.out hB (by rw [hel]; omega) hc (by rw [L2.out, K2.out, Hcs.out, Nat.mul_one]) (fun j u hu => ?_) (fun u hu => H1.out u (List.mem_of_mem_eraseIdx hu))
  · rw [hel] at hres
    exact hres
  · have hjk : j < k := by rw [← hel]; exact (List.getElem?_eq_some_iff.1 hu).1
    rw [L3.out j (.inl hjk)]
    rw [List.getElem?_eraseIdx] at hu
    by_cases hji : j < i
    · rw [if_pos hji] at hu
      rw [K3.out j (.inl hji)]
      exact Hcur.out j u hu
    · rw [if_neg hji] at hu
      have := K4.out (j - i) u (by rw [List.getElem?_drop, show i + 1 + (j - i) = j + 1 by omega]; exact hu)
      rw [show i + (j - i) = j by omega] at this
      exact this
end Go.Proofs.YtnmhjabihfhobaaGreatDoor
/- json: (*Object).Without: its contract. -/
namespace Go.Proofs.YtnmhjabihfhobaaGreatDoor
open Go.RowKit
open JP (JV Bs)

theorem del_same {w w' : World} {B : Nat} {e : TypeId} {v : Value} {xs : List Value} {g n c : Nat} (h : OwnAt RVal 1 w B e v xs) (hv : v = .slice (some ⟨g, 0, none⟩) n c) (hB : B ≤ g) (ht : Touch g w w') (_hs : B ≤ w.heap.size) : SameBut e w w' ∧ Below B w w' := by
  refine ⟨fun b cur e' fr hb hne => (ht.other b fun eq => ?_).trans hb, ht.below (Below.refl _ _) hB⟩
  obtain ⟨_, _, cur', k⟩ := h.at (g := g) (by rw [hv]; rfl)
  rw [eq, k] at hb
  injection hb with hb
  injection hb with _ hb
  exact hne hb.symm
theorem cut_none {x : Bs} : ∀ {d : List (Bs × JV)}, JP.get x d = none → JP.cut x d = d
  | [], _ => rfl
  | (m, y) :: r, h => by
    unfold JP.get at h
    by_cases hm : m = x
    · rw [if_pos hm] at h; cases h
    · rw [if_neg hm] at h
      unfold JP.cut
      rw [List.filter_cons_of_pos (by simpa using hm)]
      exact congrArg _ (cut_none h)
theorem cut_at {x : Bs} : ∀ {d : List (Bs × JV)} {p : Nat} {y : JV}, JP.Srt d → d[p]? = some (x, y) → JP.cut x d = d.eraseIdx p
  | [], _, _, _, h => by simp at h
  | (m, z) :: r, 0, y, hs, h => by
    simp only [List.getElem?_cons_zero, Option.some.injEq] at h
    cases h
    obtain ⟨h1, _⟩ := List.pairwise_cons.1 hs
    unfold JP.cut
    rw [List.filter_cons_of_neg (by simp), List.eraseIdx_cons_zero, List.filter_eq_self]
    intro a ha
    have := h1 a ha
    rw [bne_iff_ne]
    intro e
    rw [e] at this
    exact List.lt_irrefl _ this
  | (m, z) :: r, p + 1, y, hs, h => by
    obtain ⟨h1, h2⟩ := List.pairwise_cons.1 hs
    rw [List.getElem?_cons_succ] at h
    have hlt := h1 (x, y) (List.mem_of_getElem? h)
    have ih := cut_at h2 h
    unfold JP.cut at ih ⊢
    rw [List.filter_cons_of_pos (by
      rw [bne_iff_ne]
      intro e
      rw [e] at hlt
      exact List.lt_irrefl _ hlt), ih, List.eraseIdx_cons_succ]
theorem cut_srt {x : Bs} {d : List (Bs × JV)} (h : JP.Srt d) : JP.Srt (JP.cut x d) := List.Pairwise.sublist (List.filter_sublist) h
theorem map_erase {α β : Type} (f : α → β) (l : List α) (p : Nat) : (l.eraseIdx p).map f = (l.map f).eraseIdx p := by
  apply List.ext_getElem?
  intro j
  rw [List.getElem?_map, List.getElem?_eraseIdx, List.getElem?_eraseIdx]
  split <;> rw [List.getElem?_map]
theorem pairs_erase {α : Type} {xs : List Value} {l : List α} {P : Value → α → Prop} (h : ∀ (j : Nat) (u : Value) (x : α), xs[j]? = some u → l[j]? = some x → P u x) (p : Nat) :
    ∀ (j : Nat) (u : Value) (x : α), (xs.eraseIdx p)[j]? = some u → (l.eraseIdx p)[j]? = some x → P u x := fun j u x hu hx => by
  rw [List.getElem?_eraseIdx] at hu hx
  by_cases hj : j < p
  · rw [if_pos hj] at hu hx; exact h j u x hu hx
  · rw [if_neg hj] at hu hx; exact h (j + 1) u x hu hx
set_option maxRecDepth 100000 in
set_option maxHeartbeats 6400000 in
theorem without_any {n : Nat} {T : List Nat} {q : Nat} {d : List (Bs × JV)} {x : Bs} {w : World} (h : ObR (JvR n T) T w q d) (hT : ∀ b ∈ T, b < w.heap.size) (hl : d.length ≤ 1048575) :
    Calls Tryz.prog 44 #[.pointer (some ⟨q, 0, none⟩), .string (mkB x)] w fun e w' => ∃ q', e = .returned (.pointer (some ⟨q', 0, none⟩)) ∧ ObR (JvR n T) T w' q' (JP.cut x d) ∧ Below w.heap.size w w' := by
  have hob := h
  obtain ⟨hqT, hs, vn, vv, cn, cv, hrn, hon, hrv, hov⟩ := h
  have HS := Lib.hid (search_any (x := x) hs hrn (by omega))
  have hsp := cut_srt (x := x) hs
  have hF := JP.find_spec (n := x) hs
  obtain ⟨xs, hxl, hxr, hxR⟩ := hrn.raw one_string
  obtain ⟨ys, hyl, hyr, hyR⟩ := hrv.raw (one_jv n T)
  rw [List.length_map] at hxl hyl
  obtain ⟨an, c1, hu1, _, _⟩ := hrn.len
  obtain ⟨av, c2, hu2, _, _⟩ := hrv.len
  obtain ⟨ln, hln⟩ : ∃ n, (d.map fun y => mkB y.1).length = n := ⟨_, rfl⟩
  obtain ⟨lv, hlv⟩ : ∃ n, (d.map (·.2)).length = n := ⟨_, rfl⟩
  rw [hln] at hu1
  rw [hlv] at hu2
  subst hu1
  subst hu2
  clear hln hlv
  have hqw : q < w.heap.size := World.block_lt_of_cell? w ⟨q, 0, none⟩ cn
  rcases hF with ⟨y0, hy0, hg, _⟩ | ⟨_, hg, _⟩
  · have hcut := cut_at hs hy0
    rw [hg] at HS
    have hpn : (JP.cut x d).map (fun z => mkB z.1) = (d.map fun z => mkB z.1).eraseIdx (JP.pos x d) := by rw [hcut]; exact map_erase _ _ _
    have hpv : (JP.cut x d).map (·.2) = (d.map (·.2)).eraseIdx (JP.pos x d) := by rw [hcut]; exact map_erase _ _ _
    have hlt : JP.pos x d < d.length := (List.getElem?_eq_some_iff.1 hy0).1
    obtain ⟨D, hD⟩ : ∃ D, JP.cut x d = D := ⟨_, rfl⟩
    rw [hD] at hpn hpv hsp ⊢
    obtain ⟨p, hp⟩ : ∃ p, JP.pos x d = p := ⟨_, rfl⟩
    rw [hp] at HS hpn hpv hlt
    have HC1 := Lib.hid (fun w' (hb : Below w.heap.size w w') => cloneStr_any (.slice an ln c1) xs w' (hxr.below stays_val hb) (by omega))
    have HC2 := Lib.hid (fun w' (hb : Below w.heap.size w w') => cloneVal_any (.slice av lv c2) ys w' (hyr.below stays_val hb) (by omega))
    have hfin : ∀ w' (q' : Nat) (v8 v9 : Value), KeepT T w w' → q' ∉ T → w'.cell? ⟨q', 0, none⟩ = some v8 → w'.cell? ⟨q', 1, none⟩ = some v9 → RowAt RVal 1 w' v8 (xs.eraseIdx p) → OffT T v8 D → RowAt RVal 1 w' v9 (ys.eraseIdx p) → OffT T v9 D → ObR (JvR n T) T w' q' D := fun w' q' v8 v9 hk hq' k0 k1 hr8 ho8 hr9 ho9 => by
      refine ⟨hq', hsp, v8, v9, k0, k1, ?_, ho8, ?_, ho9⟩
      · rw [hpn]
        refine hr8.ofRaw (by rw [List.length_eraseIdx_of_lt (by omega), List.length_eraseIdx_of_lt (by rw [List.length_map]; omega), List.length_map]; omega) fun j u z hu hz => ?_
        have := pairs_erase (P := fun u z => u = .string z) (strs_raw hxR) p j u z hu hz
        rw [this]; rfl
      · rw [hpv]
        refine hr9.ofRaw (by rw [List.length_eraseIdx_of_lt (by omega), List.length_eraseIdx_of_lt (by rw [List.length_map]; omega), List.length_map]; omega) fun j u z hu hz => ?_
        obtain ⟨v1, e1, h1⟩ := pairs_erase (P := fun u z => JvR n T w [u] z) hyR p j u z hu hz
        exact ⟨v1, e1, h1.keepT hk⟩
    have Hfin := Lib.hid hfin
    have HT := Lib.hid hT
    have hxp : p < xs.length := by omega
    have hyp : p < ys.length := by omega
    have hxs : xs.length ≤ 1048576 := by omega
    have hys : ys.length ≤ 1048576 := by omega
    have hpw : IntKind.i64.wrap ((p : Int) + 1) = (p : Int) + 1 := IntWalk.i64_in _ (by omega)
    clear hg hfin hT hrn hrv hxr hyr hxR hyR hon hov hpn hpv hD hsp hs hxl hyl hp hob hcut hy0 hlt
    go_enter Tryz.func44, Tryz.ntmps44
    go_wp2_with fail
    refine HS.out.mono ?_
    rintro E w1 ⟨rfl, k, rfl⟩
    have Hb1 : Hid (Below w.heap.size w (w.drewN k)) := Lib.hid ((below_drewN0 w k))
    go_upto_region 4 with fail
    refine wp_region_relY 20 (fun w' => Below w.heap.size (w.drewN k) w') (fun i wa wb => if i = 8 then SameBut 9 wa wb ∧ Below w.heap.size wa wb else (if i = 17 then SameBut 53 wa wb ∧ Below w.heap.size wa wb else Below wa.heap.size wa wb)) (fun ii U w' => match ii with
      | 0 => U 0 = .pointer (some ⟨q, 0, none⟩)
      | 1 => U 1 = .pointer (some ⟨q, 0, none⟩)
      | 2 => U 2 = .pointer (some ⟨q, 0, none⟩)
      | 3 => U 3 = .slice an ln c1
      | 4 => OwnAt RVal 1 w' w.heap.size 9 (U 4) xs
      | 5 => U 5 = .int .i64 (p : Int)
      | 6 => U 6 = .int .i64 (p : Int)
      | 7 => U 7 = .int .i64 ((p : Int) + 1)
      | 8 => OwnAt RVal 1 w' w.heap.size 9 (U 8) (xs.eraseIdx p)
      | 9 => U 9 = .pointer (some ⟨q, 0, none⟩)
      | 10 => U 10 = .pointer (some ⟨q, 0, none⟩)
      | 11 => U 11 = .pointer (some ⟨q, 1, none⟩)
      | 12 => U 12 = .slice av lv c2
      | 13 => OwnAt RVal 1 w' w.heap.size 53 (U 13) ys
      | 14 => U 14 = .int .i64 (p : Int)
      | 15 => U 15 = .int .i64 (p : Int)
      | 16 => U 16 = .int .i64 ((p : Int) + 1)
      | 17 => OwnAt RVal 1 w' w.heap.size 53 (U 17) (ys.eraseIdx p)
      | 18 => U 18 = .agg #[U 8, U 17]
      | 19 => ∃ g, U 19 = .pointer (some ⟨g, 0, none⟩) ∧ w.heap.size ≤ g ∧ w'.heap[g]? = some (.cells #[U 8, U 17] 95 (0, 0))
      | _ => True)
      (fun | 1 => [0] | 2 => [1] | 3 => [2] | 4 => [3] | 7 => [6] | 8 => [4, 5, 7] | 10 => [9] | 11 => [10] | 12 => [11] | 13 => [12] | 16 => [15] | 17 => [13, 14, 16] | 18 => [8, 17] | 19 => [18, 8, 17] | _ => [])
      (fun | 4 => [8] | 13 => [17] | _ => []) (by kernel_rfl) (by kernel_rfl) (Below.refl _ _).drew ?_ ?_ ⟨?_, ?_, ?_, ?_, ?_, ?_, ?_, ?_, ?_, ?_, ?_, ?_, ?_, ?_, ?_, ?_, ?_, ?_, ?_, ?_, trivial⟩ ?_
    · intro i wa wb hk hi
      by_cases h8 : i = 8
      · rw [if_pos h8] at hk
        exact hi.trans hk.2
      · rw [if_neg h8] at hk
        by_cases h17 : i = 17
        · rw [if_pos h17] at hk
          exact hi.trans hk.2
        · rw [if_neg h17] at hk
          exact below_then' hi hk
    · intro i j U wa wb hji hkl hk hi h
      by_cases h8 : i = 8
      · rw [if_pos h8] at hk
        subst h8
        have hsm := hk.1
        match j, hji, hkl, h with
        | 0, _, _, h => exact h
        | 1, _, _, h => exact h
        | 2, _, _, h => exact h
        | 3, _, _, h => exact h
        | 4, _, hkl, h => exact absurd (by simp) hkl
        | 5, _, _, h => exact h
        | 6, _, _, h => exact h
        | 7, _, _, h => exact h
        | 8, hji, _, h => exact absurd rfl hji
        | 9, _, _, h => exact h
        | 10, _, _, h => exact h
        | 11, _, _, h => exact h
        | 12, _, _, h => exact h
        | 13, _, _, h => exact OwnAt.same' flat_val h hsm (by decide)
        | 14, _, _, h => exact h
        | 15, _, _, h => exact h
        | 16, _, _, h => exact h
        | 17, _, _, h => exact OwnAt.same' flat_val h hsm (by decide)
        | 18, _, _, h => exact h
        | 19, _, _, h => exact (by obtain ⟨g, h1, h0, h2⟩ := h; exact ⟨g, h1, h0, hsm g _ _ _ h2 (by decide)⟩)
        | _ + 20, _, _, h => trivial
      · rw [if_neg h8] at hk
        by_cases h17 : i = 17
        · rw [if_pos h17] at hk
          subst h17
          have hsm := hk.1
          match j, hji, hkl, h with
          | 0, _, _, h => exact h
          | 1, _, _, h => exact h
          | 2, _, _, h => exact h
          | 3, _, _, h => exact h
          | 4, _, _, h => exact OwnAt.same' flat_val h hsm (by decide)
          | 5, _, _, h => exact h
          | 6, _, _, h => exact h
          | 7, _, _, h => exact h
          | 8, _, _, h => exact OwnAt.same' flat_val h hsm (by decide)
          | 9, _, _, h => exact h
          | 10, _, _, h => exact h
          | 11, _, _, h => exact h
          | 12, _, _, h => exact h
          | 13, _, hkl, h => exact absurd (by simp) hkl
          | 14, _, _, h => exact h
          | 15, _, _, h => exact h
          | 16, _, _, h => exact h
          | 17, hji, _, h => exact absurd rfl hji
          | 18, _, _, h => exact h
          | 19, _, _, h => exact (by obtain ⟨g, h1, h0, h2⟩ := h; exact ⟨g, h1, h0, hsm g _ _ _ h2 (by decide)⟩)
          | _ + 20, _, _, h => trivial
        · rw [if_neg h17] at hk
          match j, h with
          | 0, h => exact h
          | 1, h => exact h
          | 2, h => exact h
          | 3, h => exact h
          | 4, h => exact OwnAt.below stays_val h hk
          | 5, h => exact h
          | 6, h => exact h
          | 7, h => exact h
          | 8, h => exact OwnAt.below stays_val h hk
          | 9, h => exact h
          | 10, h => exact h
          | 11, h => exact h
          | 12, h => exact h
          | 13, h => exact OwnAt.below stays_val h hk
          | 14, h => exact h
          | 15, h => exact h
          | 16, h => exact h
          | 17, h => exact OwnAt.below stays_val h hk
          | 18, h => exact h
          | 19, h => exact (by obtain ⟨g, h1, h0, h2⟩ := h; exact ⟨g, h1, h0, below_block hk h2⟩)
          | _ + 20, h => trivial
    · intro x' w' hb hd
      have hbw : Below w.heap.size w w' := (below_drewN0 w k).trans hb
      have e0 : w'.cell? ⟨q, 0, none⟩ = some (.slice an ln c1) := (hbw.cell (p := ⟨q, 0, none⟩) hqw).trans cn
      have e1 : w'.cell? ⟨q, 1, none⟩ = some (.slice av lv c2) := (hbw.cell (p := ⟨q, 1, none⟩) hqw).trans cv
      refine owesK_here (.pointer (some ⟨q, 0, none⟩)) (by rfl) ?_ rfl (else_of (by decide) (else_of (by decide) (Below.refl _ _)))
      simp only [putAll, List.take_succ_cons, List.take_zero]
      go_simp
    · intro x' w' hb hd
      have hbw : Below w.heap.size w w' := (below_drewN0 w k).trans hb
      have e0 : w'.cell? ⟨q, 0, none⟩ = some (.slice an ln c1) := (hbw.cell (p := ⟨q, 0, none⟩) hqw).trans cn
      have e1 : w'.cell? ⟨q, 1, none⟩ = some (.slice av lv c2) := (hbw.cell (p := ⟨q, 1, none⟩) hqw).trans cv
      have k0 : x' 0 = .pointer (some ⟨q, 0, none⟩) := hd 0 (by simp)
      refine owesK_here (.pointer (some ⟨q, 0, none⟩)) (by rfl) ?_ rfl (else_of (by decide) (else_of (by decide) (Below.refl _ _)))
      simp only [putAll, List.take_succ_cons, List.take_zero]
      go_simp
    · intro x' w' hb hd
      have hbw : Below w.heap.size w w' := (below_drewN0 w k).trans hb
      have e0 : w'.cell? ⟨q, 0, none⟩ = some (.slice an ln c1) := (hbw.cell (p := ⟨q, 0, none⟩) hqw).trans cn
      have e1 : w'.cell? ⟨q, 1, none⟩ = some (.slice av lv c2) := (hbw.cell (p := ⟨q, 1, none⟩) hqw).trans cv
      have k0 : x' 1 = .pointer (some ⟨q, 0, none⟩) := hd 1 (by simp)
      refine owesK_here (.pointer (some ⟨q, 0, none⟩)) (by rfl) ?_ rfl (else_of (by decide) (else_of (by decide) (Below.refl _ _)))
      simp only [putAll, List.take_succ_cons, List.take_zero]
      go_simp
    · intro x' w' hb hd
      have hbw : Below w.heap.size w w' := (below_drewN0 w k).trans hb
      have e0 : w'.cell? ⟨q, 0, none⟩ = some (.slice an ln c1) := (hbw.cell (p := ⟨q, 0, none⟩) hqw).trans cn
      have e1 : w'.cell? ⟨q, 1, none⟩ = some (.slice av lv c2) := (hbw.cell (p := ⟨q, 1, none⟩) hqw).trans cv
      have k0 : x' 2 = .pointer (some ⟨q, 0, none⟩) := hd 2 (by simp)
      refine owesK_here (.slice an ln c1) (by rfl) ?_ rfl (else_of (by decide) (else_of (by decide) (Below.refl _ _)))
      simp only [putAll, List.take_succ_cons, List.take_zero]
      go_simp
    · intro x' w' hb hd
      have hbw : Below w.heap.size w w' := (below_drewN0 w k).trans hb
      have e0 : w'.cell? ⟨q, 0, none⟩ = some (.slice an ln c1) := (hbw.cell (p := ⟨q, 0, none⟩) hqw).trans cn
      have e1 : w'.cell? ⟨q, 1, none⟩ = some (.slice av lv c2) := (hbw.cell (p := ⟨q, 1, none⟩) hqw).trans cv
      have k0 : x' 3 = .slice an ln c1 := hd 3 (by simp)
      refine owesK_call 41 #[.slice an ln c1] (by rfl) ?_ ((HC1.out w' hbw).mono fun e w2 ⟨v', h1, h2, h3⟩ => ⟨v', h1, h2.mono hbw.size, else_of (by decide) (else_of (by decide) h3)⟩)
      simp only [putAll, List.take_succ_cons, List.take_zero]
      go_simp
    · intro x' w' hb hd
      have hbw : Below w.heap.size w w' := (below_drewN0 w k).trans hb
      have e0 : w'.cell? ⟨q, 0, none⟩ = some (.slice an ln c1) := (hbw.cell (p := ⟨q, 0, none⟩) hqw).trans cn
      have e1 : w'.cell? ⟨q, 1, none⟩ = some (.slice av lv c2) := (hbw.cell (p := ⟨q, 1, none⟩) hqw).trans cv
      refine owesK_here (.int .i64 (p : Int)) (by rfl) ?_ rfl (else_of (by decide) (else_of (by decide) (Below.refl _ _)))
      simp only [putAll, List.take_succ_cons, List.take_zero]
      go_simp
    · intro x' w' hb hd
      have hbw : Below w.heap.size w w' := (below_drewN0 w k).trans hb
      have e0 : w'.cell? ⟨q, 0, none⟩ = some (.slice an ln c1) := (hbw.cell (p := ⟨q, 0, none⟩) hqw).trans cn
      have e1 : w'.cell? ⟨q, 1, none⟩ = some (.slice av lv c2) := (hbw.cell (p := ⟨q, 1, none⟩) hqw).trans cv
      refine owesK_here (.int .i64 (p : Int)) (by rfl) ?_ rfl (else_of (by decide) (else_of (by decide) (Below.refl _ _)))
      simp only [putAll, List.take_succ_cons, List.take_zero]
      go_simp
    · intro x' w' hb hd
      have hbw : Below w.heap.size w w' := (below_drewN0 w k).trans hb
      have e0 : w'.cell? ⟨q, 0, none⟩ = some (.slice an ln c1) := (hbw.cell (p := ⟨q, 0, none⟩) hqw).trans cn
      have e1 : w'.cell? ⟨q, 1, none⟩ = some (.slice av lv c2) := (hbw.cell (p := ⟨q, 1, none⟩) hqw).trans cv
      have k0 : x' 6 = .int .i64 (p : Int) := hd 6 (by simp)
      refine owesK_here (.int .i64 ((p : Int) + 1)) (by rfl) ?_ rfl (else_of (by decide) (else_of (by decide) (Below.refl _ _)))
      simp only [putAll, List.take_succ_cons, List.take_zero]
      go_simp
    · intro x' w' hb hd
      have hbw : Below w.heap.size w w' := (below_drewN0 w k).trans hb
      have e0 : w'.cell? ⟨q, 0, none⟩ = some (.slice an ln c1) := (hbw.cell (p := ⟨q, 0, none⟩) hqw).trans cn
      have e1 : w'.cell? ⟨q, 1, none⟩ = some (.slice av lv c2) := (hbw.cell (p := ⟨q, 1, none⟩) hqw).trans cv
      have k4 : OwnAt RVal 1 w' w.heap.size 9 (x' 4) xs := hd 4 (by simp)
      have k5 : x' 5 = .int .i64 (p : Int) := hd 5 (by simp)
      have k7 : x' 7 = .int .i64 ((p : Int) + 1) := hd 7 (by simp)
      refine owesK_call 71 #[x' 4, .int .i64 (p : Int), .int .i64 ((p : Int) + 1)] (by rfl) ?_ ((delStr_any (x' 4) xs w.heap.size p w' k4 hxp hxs).mono fun e w2 ⟨g, c, h0, hB, h1, h2, h3⟩ => ⟨_, h1, h2, then_of rfl (del_same k4 h0 hB h3 hbw.size)⟩)
      simp only [putAll, List.take_succ_cons, List.take_zero]
      go_simp
    · intro x' w' hb hd
      have hbw : Below w.heap.size w w' := (below_drewN0 w k).trans hb
      have e0 : w'.cell? ⟨q, 0, none⟩ = some (.slice an ln c1) := (hbw.cell (p := ⟨q, 0, none⟩) hqw).trans cn
      have e1 : w'.cell? ⟨q, 1, none⟩ = some (.slice av lv c2) := (hbw.cell (p := ⟨q, 1, none⟩) hqw).trans cv
      refine owesK_here (.pointer (some ⟨q, 0, none⟩)) (by rfl) ?_ rfl (else_of (by decide) (else_of (by decide) (Below.refl _ _)))
      simp only [putAll, List.take_succ_cons, List.take_zero]
      go_simp
    · intro x' w' hb hd
      have hbw : Below w.heap.size w w' := (below_drewN0 w k).trans hb
      have e0 : w'.cell? ⟨q, 0, none⟩ = some (.slice an ln c1) := (hbw.cell (p := ⟨q, 0, none⟩) hqw).trans cn
      have e1 : w'.cell? ⟨q, 1, none⟩ = some (.slice av lv c2) := (hbw.cell (p := ⟨q, 1, none⟩) hqw).trans cv
      have k0 : x' 9 = .pointer (some ⟨q, 0, none⟩) := hd 9 (by simp)
      refine owesK_here (.pointer (some ⟨q, 0, none⟩)) (by rfl) ?_ rfl (else_of (by decide) (else_of (by decide) (Below.refl _ _)))
      simp only [putAll, List.take_succ_cons, List.take_zero]
      go_simp
    · intro x' w' hb hd
      have hbw : Below w.heap.size w w' := (below_drewN0 w k).trans hb
      have e0 : w'.cell? ⟨q, 0, none⟩ = some (.slice an ln c1) := (hbw.cell (p := ⟨q, 0, none⟩) hqw).trans cn
      have e1 : w'.cell? ⟨q, 1, none⟩ = some (.slice av lv c2) := (hbw.cell (p := ⟨q, 1, none⟩) hqw).trans cv
      have k0 : x' 10 = .pointer (some ⟨q, 0, none⟩) := hd 10 (by simp)
      refine owesK_here (.pointer (some ⟨q, 1, none⟩)) (by rfl) ?_ rfl (else_of (by decide) (else_of (by decide) (Below.refl _ _)))
      simp only [putAll, List.take_succ_cons, List.take_zero]
      go_simp
    · intro x' w' hb hd
      have hbw : Below w.heap.size w w' := (below_drewN0 w k).trans hb
      have e0 : w'.cell? ⟨q, 0, none⟩ = some (.slice an ln c1) := (hbw.cell (p := ⟨q, 0, none⟩) hqw).trans cn
      have e1 : w'.cell? ⟨q, 1, none⟩ = some (.slice av lv c2) := (hbw.cell (p := ⟨q, 1, none⟩) hqw).trans cv
      have k0 : x' 11 = .pointer (some ⟨q, 1, none⟩) := hd 11 (by simp)
      refine owesK_here (.slice av lv c2) (by rfl) ?_ rfl (else_of (by decide) (else_of (by decide) (Below.refl _ _)))
      simp only [putAll, List.take_succ_cons, List.take_zero]
      go_simp
    · intro x' w' hb hd
      have hbw : Below w.heap.size w w' := (below_drewN0 w k).trans hb
      have e0 : w'.cell? ⟨q, 0, none⟩ = some (.slice an ln c1) := (hbw.cell (p := ⟨q, 0, none⟩) hqw).trans cn
      have e1 : w'.cell? ⟨q, 1, none⟩ = some (.slice av lv c2) := (hbw.cell (p := ⟨q, 1, none⟩) hqw).trans cv
      have k0 : x' 12 = .slice av lv c2 := hd 12 (by simp)
      refine owesK_call 69 #[.slice av lv c2] (by rfl) ?_ ((HC2.out w' hbw).mono fun e w2 ⟨v', h1, h2, h3⟩ => ⟨v', h1, h2.mono hbw.size, else_of (by decide) (else_of (by decide) h3)⟩)
      simp only [putAll, List.take_succ_cons, List.take_zero]
      go_simp
    · intro x' w' hb hd
      have hbw : Below w.heap.size w w' := (below_drewN0 w k).trans hb
      have e0 : w'.cell? ⟨q, 0, none⟩ = some (.slice an ln c1) := (hbw.cell (p := ⟨q, 0, none⟩) hqw).trans cn
      have e1 : w'.cell? ⟨q, 1, none⟩ = some (.slice av lv c2) := (hbw.cell (p := ⟨q, 1, none⟩) hqw).trans cv
      refine owesK_here (.int .i64 (p : Int)) (by rfl) ?_ rfl (else_of (by decide) (else_of (by decide) (Below.refl _ _)))
      simp only [putAll, List.take_succ_cons, List.take_zero]
      go_simp
    · intro x' w' hb hd
      have hbw : Below w.heap.size w w' := (below_drewN0 w k).trans hb
      have e0 : w'.cell? ⟨q, 0, none⟩ = some (.slice an ln c1) := (hbw.cell (p := ⟨q, 0, none⟩) hqw).trans cn
      have e1 : w'.cell? ⟨q, 1, none⟩ = some (.slice av lv c2) := (hbw.cell (p := ⟨q, 1, none⟩) hqw).trans cv
      refine owesK_here (.int .i64 (p : Int)) (by rfl) ?_ rfl (else_of (by decide) (else_of (by decide) (Below.refl _ _)))
      simp only [putAll, List.take_succ_cons, List.take_zero]
      go_simp
    · intro x' w' hb hd
      have hbw : Below w.heap.size w w' := (below_drewN0 w k).trans hb
      have e0 : w'.cell? ⟨q, 0, none⟩ = some (.slice an ln c1) := (hbw.cell (p := ⟨q, 0, none⟩) hqw).trans cn
      have e1 : w'.cell? ⟨q, 1, none⟩ = some (.slice av lv c2) := (hbw.cell (p := ⟨q, 1, none⟩) hqw).trans cv
      have k0 : x' 15 = .int .i64 (p : Int) := hd 15 (by simp)
      refine owesK_here (.int .i64 ((p : Int) + 1)) (by rfl) ?_ rfl (else_of (by decide) (else_of (by decide) (Below.refl _ _)))
      simp only [putAll, List.take_succ_cons, List.take_zero]
      go_simp
    · intro x' w' hb hd
      have hbw : Below w.heap.size w w' := (below_drewN0 w k).trans hb
      have e0 : w'.cell? ⟨q, 0, none⟩ = some (.slice an ln c1) := (hbw.cell (p := ⟨q, 0, none⟩) hqw).trans cn
      have e1 : w'.cell? ⟨q, 1, none⟩ = some (.slice av lv c2) := (hbw.cell (p := ⟨q, 1, none⟩) hqw).trans cv
      have k4 : OwnAt RVal 1 w' w.heap.size 53 (x' 13) ys := hd 13 (by simp)
      have k5 : x' 14 = .int .i64 (p : Int) := hd 14 (by simp)
      have k7 : x' 16 = .int .i64 ((p : Int) + 1) := hd 16 (by simp)
      refine owesK_call 72 #[x' 13, .int .i64 (p : Int), .int .i64 ((p : Int) + 1)] (by rfl) ?_ ((delVal_any (x' 13) ys w.heap.size p w' k4 hyp hys).mono fun e w2 ⟨g, c, h0, hB, h1, h2, h3⟩ => ⟨_, h1, h2, else_of (by decide) (then_of rfl (del_same k4 h0 hB h3 hbw.size))⟩)
      simp only [putAll, List.take_succ_cons, List.take_zero]
      go_simp
    · intro x' w' hb hd
      have hbw : Below w.heap.size w w' := (below_drewN0 w k).trans hb
      have e0 : w'.cell? ⟨q, 0, none⟩ = some (.slice an ln c1) := (hbw.cell (p := ⟨q, 0, none⟩) hqw).trans cn
      have e1 : w'.cell? ⟨q, 1, none⟩ = some (.slice av lv c2) := (hbw.cell (p := ⟨q, 1, none⟩) hqw).trans cv
      have k8 : OwnAt RVal 1 w' w.heap.size 9 (x' 8) (xs.eraseIdx p) := hd 8 (by simp)
      have k17 : OwnAt RVal 1 w' w.heap.size 53 (x' 17) (ys.eraseIdx p) := hd 17 (by simp)
      obtain ⟨a8, c8, e8, _, _⟩ := k8.row.len
      obtain ⟨a17, c17, e17, _, _⟩ := k17.row.len
      refine owesK_here (.agg #[x' 8, x' 17]) (by rfl) ?_ rfl (else_of (by decide) (else_of (by decide) (Below.refl _ _)))
      simp only [putAll, List.take_succ_cons, List.take_zero]
      go_simp
    · intro x' w' hb hd
      have hbw : Below w.heap.size w w' := (below_drewN0 w k).trans hb
      have e0 : w'.cell? ⟨q, 0, none⟩ = some (.slice an ln c1) := (hbw.cell (p := ⟨q, 0, none⟩) hqw).trans cn
      have e1 : w'.cell? ⟨q, 1, none⟩ = some (.slice av lv c2) := (hbw.cell (p := ⟨q, 1, none⟩) hqw).trans cv
      have k8 : OwnAt RVal 1 w' w.heap.size 9 (x' 8) (xs.eraseIdx p) := hd 8 (by simp)
      have k17 : OwnAt RVal 1 w' w.heap.size 53 (x' 17) (ys.eraseIdx p) := hd 17 (by simp)
      have k18 : x' 18 = .agg #[x' 8, x' 17] := hd 18 (by simp)
      obtain ⟨a8, c8, e8, _, _⟩ := k8.row.len
      obtain ⟨a17, c17, e17, _, _⟩ := k17.row.len
      refine owesK_makes (.pointer (some ⟨w'.heap.size, 0, none⟩)) (w' := w'.alloc (.cells #[x' 8, x' 17] 95)) (by rfl) ?_ (⟨_, rfl, hbw.size, heap_alloc_new w' _⟩) (else_of (by decide) (else_of (by decide) ((Below.refl _ _).alloc (Nat.le_refl _) _)))
      simp only [putAll, List.take_succ_cons, List.take_zero]
      go_simp
    · intro x' w' hb hR
      have hbw : Below w.heap.size w w' := (below_drewN0 w k).trans hb
      have e0 : w'.cell? ⟨q, 0, none⟩ = some (.slice an ln c1) := (hbw.cell (p := ⟨q, 0, none⟩) hqw).trans cn
      have e1 : w'.cell? ⟨q, 1, none⟩ = some (.slice av lv c2) := (hbw.cell (p := ⟨q, 1, none⟩) hqw).trans cv
      have k8 : OwnAt RVal 1 w' w.heap.size 9 (x' 8) (xs.eraseIdx p) := hR 8 (by omega) rfl
      have k17 : OwnAt RVal 1 w' w.heap.size 53 (x' 17) (ys.eraseIdx p) := hR 17 (by omega) rfl
      obtain ⟨q', k19, hq1, kq⟩ : ∃ g, x' 19 = .pointer (some ⟨g, 0, none⟩) ∧ w.heap.size ≤ g ∧ w'.heap[g]? = some (.cells #[x' 8, x' 17] 95 (0, 0)) := hR 19 (by omega) rfl
      have Hb := Lib.hid hbw
      have K8 := Lib.hid k8
      have K17 := Lib.hid k17
      have Kq := Lib.hid kq
      clear hR hb hbw k8 k17 kq e0 e1
      simp only [putAll, List.take_succ_cons, List.take_zero, List.drop_succ_cons, List.drop_zero]
      try simp only [Act.put, List.setIfInBounds_toArray, List.set_cons_zero, List.set_cons_succ]
      go_wp2_with fail
      go_ret
      refine ⟨q', ?_, ?_, Hb.out⟩
      · show Ending.returned (x' 19) = _
        rw [k19]
      · refine Hfin.out w' q' (x' 8) (x' 17) (KeepT.of Hb.out) (fun hm => by have h9 := HT.out _ hm; omega) ?_ ?_ K8.out.row (off_new K8.out HT.out) K17.out.row (off_new K17.out HT.out)
        · rw [cell_block Kq.out]; rfl
        · rw [cell_block Kq.out]; rfl
  · rw [hg] at HS
    have hcut := cut_none hg
    rw [hcut]
    have Hob := Lib.hid hob
    clear hg hrn hrv hxr hyr hxR hyR hon hov hsp hs hxl hyl hob hcut hT
    go_enter Tryz.func44, Tryz.ntmps44
    go_wp2_with fail
    refine HS.out.mono ?_
    rintro E w1 ⟨rfl, k, rfl⟩
    go_wp2_with fail
    go_ret
    exact ⟨q, rfl, Hob.out.keepT (KeepT.drewN w k) (fun _ _ ⟨v, e, hv⟩ => ⟨v, e, hv.keepT (KeepT.drewN w k)⟩), below_drewN0 w k⟩
end Go.Proofs.YtnmhjabihfhobaaGreatDoor
/- three: what the code computes, and its laws, in plain Lean. -/
namespace Go.Proofs.YtnmhjabihfhobaaGreatDoor
open Go.RowKit
open JP (JV Bs)

namespace JP
def gto (n : Bs) (l : Fs) : JV := (get n l).getD .nul
/-- what goes: what was there before, lives, and isn't wanted -/
def goesL (had o out : Fs) : List Bs := (had.filter fun y => (get y.1 out).isSome && (get y.1 o).isNone).map (·.1)
def remF (had o out : Fs) : Fs := out.filter fun y => !((get y.1 had).isSome && (get y.1 o).isNone)
mutual
def into3 : JV → JV → JV → JV
  | last, live, .obj o => .obj (into3F (fieldsOf last) (remF (fieldsOf last) o (fieldsOf live)) o)
  | _, _, .nul => .nul
  | _, _, .bool b => .bool b
  | _, _, .num n => .num n
  | _, _, .str s => .str s
  | _, _, .list l => .list l
termination_by structural _ _ x => x
def into3F : Fs → Fs → Fs → Fs
  | _, out, [] => out
  | had, out, (n, w) :: r => into3F had (put n (into3 (gto n had) (gto n out) w) out) r
termination_by structural _ _ x => x
end
mutual
/-- the ways to what goes, in the order in which it is told -/
def lost3 : JV → JV → JV → List (List Bs)
  | last, live, .obj o => (goesL (fieldsOf last) o (fieldsOf live)).map (fun n => [n]) ++ lost3F (fieldsOf last) (remF (fieldsOf last) o (fieldsOf live)) o
  | _, _, .nul => []
  | _, _, .bool _ => []
  | _, _, .num _ => []
  | _, _, .str _ => []
  | _, _, .list _ => []
termination_by structural _ _ x => x
def lost3F : Fs → Fs → Fs → List (List Bs)
  | _, _, [] => []
  | had, out, (n, w) :: r => (lost3 (gto n had) (gto n out) w).map (n :: ·) ++ lost3F had (put n (into3 (gto n had) (gto n out) w) out) r
termination_by structural _ _ x => x
end
theorem into3_obj (last live : JV) (o : Fs) : into3 last live (.obj o) = .obj (into3F (fieldsOf last) (remF (fieldsOf last) o (fieldsOf live)) o) := by rw [into3]
theorem into3F_nil (had out : Fs) : into3F had out [] = out := by rw [into3F]
theorem into3F_cons (had out : Fs) (n : Bs) (w : JV) (r : Fs) : into3F had out ((n, w) :: r) = into3F had (put n (into3 (gto n had) (gto n out) w) out) r := by rw [into3F]
theorem lost3_obj (last live : JV) (o : Fs) : lost3 last live (.obj o) = (goesL (fieldsOf last) o (fieldsOf live)).map (fun n => [n]) ++ lost3F (fieldsOf last) (remF (fieldsOf last) o (fieldsOf live)) o := by rw [lost3]
theorem lost3F_nil (had out : Fs) : lost3F had out [] = [] := by rw [lost3F]
theorem lost3F_cons (had out : Fs) (n : Bs) (w : JV) (r : Fs) : lost3F had out ((n, w) :: r) = (lost3 (gto n had) (gto n out) w).map (n :: ·) ++ lost3F had (put n (into3 (gto n had) (gto n out) w) out) r := by rw [lost3F]
theorem into3_not {w : JV} (h : ∀ l, w ≠ .obj l) (last live : JV) : into3 last live w = w := by
  cases w with
  | obj l => exact absurd rfl (h l)
  | _ => rw [into3]
theorem lost3_not {w : JV} (h : ∀ l, w ≠ .obj l) (last live : JV) : lost3 last live w = [] := by
  cases w with
  | obj l => exact absurd rfl (h l)
  | _ => rw [lost3]
/-! what lies there afterwards -/
theorem get_filter (p : Bs → Bool) (m : Bs) : ∀ {d : Fs}, get m (d.filter fun y => p y.1) = if p m = true then get m d else none
  | [] => by rw [List.filter_nil, get]; split <;> rfl
  | (k, x) :: r => by
    have ih := get_filter p m (d := r)
    by_cases hk : p k = true
    · rw [List.filter_cons_of_pos (by exact hk), get, get, ih]
      by_cases e : k = m
      · rw [if_pos e, if_pos e, if_pos (e ▸ hk)]
      · rw [if_neg e, if_neg e]
    · rw [List.filter_cons_of_neg (by exact hk), ih, get]
      by_cases e : k = m
      · rw [if_neg (e ▸ hk), if_neg (e ▸ hk)]
      · rw [if_neg e]
theorem get_rem (had o out : Fs) (m : Bs) : get m (remF had o out) = if (get m had).isSome = true ∧ (get m o).isNone = true then none else get m out := by
  have h := get_filter (fun n => !((get n had).isSome && (get n o).isNone)) m (d := out)
  show get m (out.filter fun y => !((get y.1 had).isSome && (get y.1 o).isNone)) = _
  rw [h]
  by_cases c : (get m had).isSome = true ∧ (get m o).isNone = true
  · rw [if_pos c, if_neg (by rw [c.1, c.2]; decide)]
  · rw [if_neg c, if_pos]
    rw [Bool.not_eq_true', Bool.eq_false_iff]
    intro e
    rw [Bool.and_eq_true] at e
    exact c e
theorem srt_rem {had o out : Fs} (h : Srt out) : Srt (remF had o out) := List.Pairwise.sublist List.filter_sublist h
theorem srt_into3F : ∀ {l had out : Fs}, Srt out → Srt (into3F had out l)
  | [], _, _, h => by rw [into3F_nil]; exact h
  | (n, w) :: r, had, out, h => by rw [into3F_cons]; exact srt_into3F (put_srt h)
theorem get_into3F (m : Bs) : ∀ (l had out : Fs), Srt l → get m (into3F had out l) = match get m l with
    | some w => some (into3 (gto m had) (gto m out) w)
    | none => get m out
  | [], had, out, _ => by rw [into3F_nil, get]
  | (n, w) :: r, had, out, hs => by
    rw [into3F_cons, get_into3F m r had _ (List.pairwise_cons.1 hs).2, get]
    by_cases e : n = m
    · subst e
      rw [if_pos rfl, get_tail hs rfl, get_put, if_pos rfl]
    · rw [if_neg e]
      have e1 : gto m (put n (into3 (gto n had) (gto n out) w) out) = gto m out := by unfold gto; rw [get_put, if_neg (fun h => e h.symm)]
      rw [e1, get_put, if_neg (fun h => e h.symm)]
theorem wf_gto {n : Bs} {l : Fs} (h : wfF l) : wf (gto n l) := wf_get n h
theorem gto_some {n : Bs} {l : Fs} {x : JV} (h : get n l = some x) : gto n l = x := by unfold gto; rw [h]; rfl
/-- what is wanted is there, wanted again it stays -/
theorem into3_again : ∀ want last live : JV, wf live → wf want → into3 want (into3 last live want) want = into3 last live want := by
  refine JV.byGet (P := fun want => ∀ last live : JV, wf live → wf want → into3 want (into3 last live want) want = into3 last live want) (fun want ih => ?_)
  intro last live hl hw
  rcases obj_or want with ⟨o, rfl⟩ | hn
  · rw [into3_obj, into3_obj]
    obtain ⟨so, fo⟩ := wf_obj hw
    obtain ⟨sl, fl⟩ := wf_fields hl
    refine congrArg JV.obj ?_
    show into3F o (remF o o (into3F _ (remF _ o _) o)) o = _
    have hA := srt_into3F (l := o) (had := fieldsOf last) (srt_rem (had := fieldsOf last) (o := o) sl)
    refine fs_ext (srt_into3F (srt_rem hA)) hA fun m => ?_
    rw [get_into3F m o _ _ so, get_into3F m o _ _ so]
    have key := get_into3F m o (fieldsOf last) (remF (fieldsOf last) o (fieldsOf live)) so
    cases hg : get m o with
    | none =>
      dsimp only
      rw [get_rem, if_neg (by rw [hg]; intro h; cases h.1), key, hg]
    | some w =>
      dsimp only
      rw [hg] at key
      dsimp only at key
      have e1 : gto m (remF o o (into3F (fieldsOf last) (remF (fieldsOf last) o (fieldsOf live)) o)) = into3 (gto m (fieldsOf last)) (gto m (remF (fieldsOf last) o (fieldsOf live))) w := by
        refine gto_some ?_
        rw [get_rem, if_neg (by rw [hg]; intro h; cases h.2), key]
      have e2 : gto m (remF (fieldsOf last) o (fieldsOf live)) = gto m (fieldsOf live) := by
        unfold gto
        rw [get_rem, if_neg (by rw [hg]; intro h; cases h.2)]
      rw [e1, gto_some hg, e2]
      exact congrArg some (ih o m w rfl hg _ _ (wf_gto fl) (wf_at fo hg))
  · rw [into3_not hn, into3_not hn]
/-- where nothing else was changed, what is wanted comes of it -/
theorem into3_alone : ∀ want last : JV, wf last → wf want → into3 last last want = want := by
  refine JV.byGet (P := fun want => ∀ last : JV, wf last → wf want → into3 last last want = want) (fun want ih => ?_)
  intro last hl hw
  rcases obj_or want with ⟨o, rfl⟩ | hn
  · rw [into3_obj]
    obtain ⟨so, fo⟩ := wf_obj hw
    obtain ⟨sl, fl⟩ := wf_fields hl
    refine congrArg JV.obj (fs_ext (srt_into3F (srt_rem sl)) so fun m => ?_)
    rw [get_into3F m o _ _ so]
    cases hg : get m o with
    | none =>
      dsimp only
      rw [get_rem]
      by_cases h : (get m (fieldsOf last)).isSome = true
      · rw [if_pos ⟨h, by rw [hg]; rfl⟩]
      · rw [if_neg (fun e => h e.1)]
        cases hx : get m (fieldsOf last) with
        | none => rfl
        | some x => rw [hx] at h; exact absurd rfl h
    | some w =>
      dsimp only
      have e2 : gto m (remF (fieldsOf last) o (fieldsOf last)) = gto m (fieldsOf last) := by
        unfold gto
        rw [get_rem, if_neg (by rw [hg]; intro h; cases h.2)]
      rw [e2]
      exact congrArg some (ih o m w rfl hg _ (wf_gto fl) (wf_at fo hg))
  · exact into3_not hn _ _
/-- where nothing was before, nothing goes -/
theorem goes_nil (o out : Fs) : goesL [] o out = [] := rfl
theorem lost3_new : (∀ want last live : JV, fieldsOf last = [] → lost3 last live want = []) ∧ (∀ _ : List JV, True) ∧ ∀ l out : Fs, lost3F [] out l = [] := by
  refine JV.both (P := fun want => ∀ last live : JV, fieldsOf last = [] → lost3 last live want = []) (PL := fun _ => True) (PF := fun l => ∀ out : Fs, lost3F [] out l = []) ?_ ?_ ?_ ?_ ?_ ?_ trivial (fun _ _ _ _ => trivial) ?_ ?_
  · intro last live _; rw [lost3]
  · intro b last live _; rw [lost3]
  · intro b last live _; rw [lost3]
  · intro b last live _; rw [lost3]
  · intro b _ last live _; rw [lost3]
  · intro l ih last live h; rw [lost3_obj, h, goes_nil, ih]; rfl
  · intro out; rw [lost3F_nil]
  · intro n w r hw hr out
    rw [lost3F_cons, hr, hw _ _ (by unfold gto; rfl)]; rfl
/-- what is there, and wanted, and was wanted: nothing goes -/
theorem goes_self (o out : Fs) : goesL o o out = [] := by
  unfold goesL
  rw [List.map_eq_nil_iff, List.filter_eq_nil_iff]
  intro y hy h
  rw [Bool.and_eq_true] at h
  have : ∀ {l : Fs} {y : Bs × JV}, y ∈ l → (get y.1 l).isSome = true := fun {l y} => by
    induction l with
    | nil => intro h; cases h
    | cons z r ih =>
      intro h
      obtain ⟨m, x⟩ := z
      rw [get]
      by_cases e : m = y.1
      · rw [if_pos e]; rfl
      · rw [if_neg e]
        rcases List.mem_cons.1 h with h | h
        · exact absurd (by rw [h]) e
        · exact ih h
  have h1 := this hy
  cases hx : get y.1 o with
  | none => rw [hx] at h1; cases h1
  | some x => rw [hx] at h; cases h.2
theorem lost3F_self {o A : Fs} (hA : Srt A) : ∀ l : Fs, (∀ n w, (n, w) ∈ l → ∃ a, get n A = some a ∧ gto n o = w ∧ into3 w a w = a ∧ lost3 w a w = []) → lost3F o A l = []
  | [], _ => lost3F_nil _ _
  | (n, w) :: r, h => by
    obtain ⟨a, h1, h2, h3, h4⟩ := h n w (List.mem_cons_self ..)
    rw [lost3F_cons, h2, gto_some h1, h3, h4, put_get hA h1]
    exact lost3F_self hA r fun n' w' hm => h n' w' (List.mem_cons_of_mem _ hm)
theorem get_memS {n : Bs} {w : JV} : ∀ {l : Fs}, Srt l → (n, w) ∈ l → get n l = some w
  | [], _, h => by cases h
  | (m, x) :: r, hs, h => by
    rw [get]
    rcases List.mem_cons.1 h with h | h
    · cases h; rw [if_pos rfl]
    · have h9 := (List.pairwise_cons.1 hs).1 (n, w) h
      by_cases e : m = n
      · subst e; exact absurd h9 (List.lt_irrefl m)
      · rw [if_neg e]; exact get_memS (List.pairwise_cons.1 hs).2 h
theorem lost3_again : ∀ want last live : JV, wf live → wf want → lost3 want (into3 last live want) want = [] := by
  refine JV.byGet (P := fun want => ∀ last live : JV, wf live → wf want → lost3 want (into3 last live want) want = []) (fun want ih => ?_)
  intro last live hl hw
  rcases obj_or want with ⟨o, rfl⟩ | hn
  · rw [into3_obj, lost3_obj]
    obtain ⟨so, fo⟩ := wf_obj hw
    obtain ⟨sl, fl⟩ := wf_fields hl
    have hA := srt_into3F (l := o) (had := fieldsOf last) (srt_rem (had := fieldsOf last) (o := o) sl)
    show (goesL o o _).map _ ++ lost3F o (remF o o (into3F _ (remF _ o _) o)) o = []
    rw [goes_self, List.map_nil, List.nil_append]
    have eA : remF o o (into3F (fieldsOf last) (remF (fieldsOf last) o (fieldsOf live)) o) = into3F (fieldsOf last) (remF (fieldsOf last) o (fieldsOf live)) o := by
      refine fs_ext (srt_rem hA) hA fun m => ?_
      rw [get_rem]
      by_cases h : (get m o).isSome = true ∧ (get m o).isNone = true
      · cases hg : get m o with
        | none => rw [hg] at h; cases h.1
        | some x => rw [hg] at h; cases h.2
      · rw [if_neg h]
    rw [eA]
    refine lost3F_self hA o fun n w hm => ?_
    have hg := get_memS so hm
    have key := get_into3F n o (fieldsOf last) (remF (fieldsOf last) o (fieldsOf live)) so
    rw [hg] at key
    refine ⟨_, key, gto_some hg, ?_, ?_⟩
    · exact into3_again w _ _ (by
        have h9 := get_rem (fieldsOf last) o (fieldsOf live) n
        unfold gto
        rw [h9]
        split
        · exact trivial
        · exact wf_gto fl) (wf_at fo hg)
    · exact ih o n w rfl hg _ _ (by
        have h9 := get_rem (fieldsOf last) o (fieldsOf live) n
        unfold gto
        rw [h9]
        split
        · exact trivial
        · exact wf_gto fl) (wf_at fo hg)
  · exact lost3_not hn _ _
/-! how long it gets; well-formed -/
theorem wfF_filter (p : Bs × JV → Bool) : ∀ {d : Fs}, wfF d → wfF (d.filter p)
  | [], h => h
  | (m, x) :: r, h => by
    rw [wfF] at h
    by_cases hp : p (m, x) = true
    · rw [List.filter_cons_of_pos hp, wfF]; exact ⟨h.1, h.2.1, wfF_filter p h.2.2⟩
    · rw [List.filter_cons_of_neg hp]; exact wfF_filter p h.2.2
theorem lenF_filter (p : Bs × JV → Bool) : ∀ d : Fs, lenF (d.filter p) ≤ lenF d
  | [] => Nat.le_refl _
  | (m, x) :: r => by
    have ih := lenF_filter p r
    by_cases hp : p (m, x) = true
    · rw [List.filter_cons_of_pos hp, lenF, lenF]; omega
    · rw [List.filter_cons_of_neg hp, lenF]; omega
theorem into3_fit : (∀ w : JV, wf w → ∀ last live : JV, wf live → wf (into3 last live w) ∧ (text (into3 last live w)).length ≤ lenF (fieldsOf live) + (text w).length) ∧ (∀ _ : List JV, True) ∧ (∀ l : Fs, wfF l → ∀ had out : Fs, Fld out → Fld (into3F had out l) ∧ lenF (into3F had out l) ≤ lenF out + lenF l) := by
  refine JV.both ?_ ?_ ?_ ?_ ?_ ?_ trivial (fun _ _ _ _ => trivial) ?_ ?_
  · intro hw last live _; rw [into3]; exact ⟨hw, by omega⟩
  · intro b hw last live _; rw [into3]; exact ⟨hw, by omega⟩
  · intro b hw last live _; rw [into3]; exact ⟨hw, by omega⟩
  · intro b hw last live _; rw [into3]; exact ⟨hw, by omega⟩
  · intro b _ hw last live _; rw [into3]; exact ⟨hw, by omega⟩
  · intro l ih hw last live hl
    rw [into3_obj]
    obtain ⟨so, fo⟩ := wf_obj hw
    obtain ⟨sl, fl⟩ := wf_fields hl
    obtain ⟨h1, h2⟩ := ih fo (fieldsOf last) (remF (fieldsOf last) l (fieldsOf live)) ⟨srt_rem sl, wfF_filter _ fl⟩
    refine ⟨by rw [wf]; exact h1, ?_⟩
    have h3 : lenF (remF (fieldsOf last) l (fieldsOf live)) ≤ lenF (fieldsOf live) := lenF_filter _ _
    have h4 := obj_len_ge l
    by_cases h0 : into3F (fieldsOf last) (remF (fieldsOf last) l (fieldsOf live)) l = []
    · rw [h0]
      have h5 : (text (.obj ([] : Fs))).length = 2 := by decide +kernel
      have h6 : 2 ≤ (text (.obj l)).length := by
        cases l with
        | nil => rw [h5]; exact Nat.le_refl _
        | cons y r => rw [obj_len_eq _ (by intro e; cases e)]; obtain ⟨n, v⟩ := y; rw [lenF]; omega
      rw [h5]; omega
    · rw [obj_len_eq _ h0]; omega
  · intro _ had out h; rw [into3F_nil]; exact ⟨h, by omega⟩
  · intro n w r hw hr hwf had out h
    rw [wfF] at hwf
    rw [into3F_cons]
    obtain ⟨a1, a2⟩ := hw hwf.2.1 (gto n had) (gto n out) (wf_gto h.2)
    obtain ⟨b1, b2⟩ := hr hwf.2.2 had (put n (into3 (gto n had) (gto n out) w) out) ⟨put_srt h.1, put_wf hwf.1 a1 h.2⟩
    refine ⟨b1, ?_⟩
    have hp := lenF_put n (into3 (gto n had) (gto n out) w) out h.1
    have hc := lenF_cut_get (n := n) h.1
    rw [lenF]
    cases hg : get n out with
    | none =>
      rw [hg] at hc
      have e : gto n out = .nul := by unfold gto; rw [hg]; rfl
      rw [e] at a2 hp b2
      simp only [wO] at hc
      have : lenF (fieldsOf .nul) = 0 := rfl
      rw [e]
      omega
    | some b =>
      rw [hg] at hc
      have e := gto_some hg
      rw [e] at a2 hp b2
      simp only [wO] at hc
      have := lenF_fields b
      rw [e]
      omega
end JP
end Go.Proofs.YtnmhjabihfhobaaGreatDoor
/- three: what the loops do, step by step, in plain Lean. -/
namespace Go.Proofs.YtnmhjabihfhobaaGreatDoor
open Go.RowKit
open JP (JV Bs)

namespace JP
theorem into3F_append : ∀ (a b had out : Fs), into3F had out (a ++ b) = into3F had (into3F had out a) b
  | [], b, had, out => by rw [List.nil_append, into3F_nil]
  | (n, w) :: r, b, had, out => by rw [List.cons_append, into3F_cons, into3F_cons]; exact into3F_append r b _ _
theorem lost3F_append : ∀ (a b had out : Fs), lost3F had out (a ++ b) = lost3F had out a ++ lost3F had (into3F had out a) b
  | [], b, had, out => by rw [List.nil_append, lost3F_nil, into3F_nil, List.nil_append]
  | (n, w) :: r, b, had, out => by rw [List.cons_append, lost3F_cons, lost3F_cons, into3F_cons, lost3F_append r b _ _, List.append_assoc]
theorem take_snoc {l : Fs} {i : Nat} {y : Bs × JV} (h : l[i]? = some y) : l.take (i + 1) = l.take i ++ [y] := by
  obtain ⟨h1, h2⟩ := List.getElem?_eq_some_iff.1 h
  rw [List.take_add_one, h]; rfl
theorem into3F_take {l had out : Fs} {i : Nat} {y : Bs × JV} (h : l[i]? = some y) : into3F had out (l.take (i + 1)) = put y.1 (into3 (gto y.1 had) (gto y.1 (into3F had out (l.take i))) y.2) (into3F had out (l.take i)) := by
  rw [take_snoc h, into3F_append, into3F_cons, into3F_nil]
theorem lost3F_take {l had out : Fs} {i : Nat} {y : Bs × JV} (h : l[i]? = some y) : lost3F had out (l.take (i + 1)) = lost3F had out (l.take i) ++ (lost3 (gto y.1 had) (gto y.1 (into3F had out (l.take i))) y.2).map (y.1 :: ·) := by
  rw [take_snoc h, lost3F_append, lost3F_cons, lost3F_nil, List.append_nil]
theorem get_take_none {had : Fs} (hs : Srt had) {i : Nat} {y : Bs × JV} (h : had[i]? = some y) : get y.1 (had.take i) = none := by
  obtain ⟨h1, h2⟩ := List.getElem?_eq_some_iff.1 h
  have hp : Srt (had.take i ++ had.drop i) := by rw [List.take_append_drop]; exact hs
  have h3 := (List.pairwise_append.1 hp).2.2
  have h4 : y ∈ had.drop i := by rw [List.drop_eq_getElem_cons h1, h2]; exact List.mem_cons_self ..
  cases hg : get y.1 (had.take i) with
  | none => rfl
  | some x =>
    exfalso
    have : ∀ {l : Fs} {n : Bs} {x : JV}, get n l = some x → ∃ z ∈ l, z.1 = n := fun {l n x} => by
      induction l with
      | nil => intro h; rw [get] at h; cases h
      | cons z r ih =>
        obtain ⟨m, v⟩ := z
        intro h
        rw [get] at h
        by_cases e : m = n
        · exact ⟨(m, v), List.mem_cons_self .., e⟩
        · rw [if_neg e] at h
          obtain ⟨z, hz, hn⟩ := ih h
          exact ⟨z, List.mem_cons_of_mem _ hz, hn⟩
    obtain ⟨z, hz, hn⟩ := this hg
    have h5 := h3 z hz y h4
    rw [hn] at h5
    exact List.lt_irrefl _ h5
/-- what the first loop leaves: its names' first i are seen -/
theorem rem_zero (had o out : Fs) : remF (had.take 0) o out = out := by
  unfold remF
  rw [List.take_zero, List.filter_eq_self]
  intro y _
  show (!((get y.1 []).isSome && _)) = true
  rw [get]; rfl
theorem get_rem_take {had o out : Fs} (hs : Srt had) {i : Nat} {y : Bs × JV} (h : had[i]? = some y) : get y.1 (remF (had.take i) o out) = get y.1 out := by
  rw [get_rem, get_take_none hs h, if_neg (by intro e; cases e.1)]
theorem get_take_snoc {had : Fs} {i : Nat} {y : Bs × JV} (h : had[i]? = some y) (m : Bs) : (get m (had.take (i + 1))).isSome = ((get m (had.take i)).isSome || decide (y.1 = m)) := by
  rw [take_snoc h]
  generalize had.take i = l
  induction l with
  | nil =>
    rw [List.nil_append]
    obtain ⟨k, v⟩ := y
    rw [get, get]
    by_cases e : k = m
    · rw [if_pos e, decide_eq_true e]; rfl
    · rw [if_neg e, decide_eq_false e]; rfl
  | cons z r ih =>
    obtain ⟨k, v⟩ := z
    rw [List.cons_append, get, get]
    by_cases e : k = m
    · rw [if_pos e, if_pos e]; rfl
    · rw [if_neg e, if_neg e]; exact ih
theorem rem_step {had o out : Fs} (hs : Srt had) (ho : Srt out) {i : Nat} {y : Bs × JV} (h : had[i]? = some y) :
    remF (had.take (i + 1)) o out = if (get y.1 out).isSome = true ∧ (get y.1 o).isNone = true then cut y.1 (remF (had.take i) o out) else remF (had.take i) o out := by
  have s1 := srt_rem (had := had.take (i + 1)) (o := o) ho
  have s2 := srt_rem (had := had.take i) (o := o) ho
  by_cases c : (get y.1 out).isSome = true ∧ (get y.1 o).isNone = true
  · rw [if_pos c]
    refine fs_ext s1 (srt_cut _ s2) fun m => ?_
    rw [get_rem, get_cut, get_rem, get_take_snoc h]
    by_cases e : m = y.1
    · subst e
      rw [if_pos ⟨by rw [decide_eq_true rfl, Bool.or_true], c.2⟩, if_pos rfl]
    · rw [if_neg e, decide_eq_false (fun e2 => e e2.symm), Bool.or_false]
  · rw [if_neg c]
    refine fs_ext s1 s2 fun m => ?_
    rw [get_rem, get_rem, get_take_snoc h]
    by_cases e : m = y.1
    · subst e
      rw [decide_eq_true rfl, Bool.or_true]
      by_cases c2 : (get y.1 o).isNone = true
      · have c3 : get y.1 out = none := by
          cases hg : get y.1 out with
          | none => rfl
          | some x => exact absurd ⟨by rw [hg]; rfl, c2⟩ c
        rw [if_pos ⟨rfl, c2⟩, c3]
        split <;> rfl
      · rw [if_neg (fun e => c2 e.2), if_neg (fun e => c2 e.2)]
    · rw [decide_eq_false (fun e2 => e e2.symm), Bool.or_false]
theorem goes_step {had o out : Fs} {i : Nat} {y : Bs × JV} (h : had[i]? = some y) :
    goesL (had.take (i + 1)) o out = goesL (had.take i) o out ++ (if (get y.1 out).isSome = true ∧ (get y.1 o).isNone = true then [y.1] else []) := by
  unfold goesL
  rw [take_snoc h, List.filter_append, List.map_append]
  congr 1
  by_cases c : (get y.1 out).isSome = true ∧ (get y.1 o).isNone = true
  · rw [if_pos c, List.filter_cons_of_pos (by rw [c.1, c.2]; rfl)]; rfl
  · rw [if_neg c, List.filter_cons_of_neg (by rw [Bool.and_eq_true]; exact c)]; rfl
theorem lenF_length (l : Fs) : l.length ≤ lenF l := by
  induction l with
  | nil => exact Nat.le_refl _
  | cons y r ih => obtain ⟨n, v⟩ := y; rw [lenF, List.length_cons]; omega
theorem rem_len (had o out : Fs) : lenF (remF had o out) ≤ lenF out := lenF_filter _ _
theorem name_len {n : Bs} {w : JV} : ∀ {l : Fs} {i : Nat}, l[i]? = some (n, w) → n.length + 1 + (text w).length + 2 ≤ lenF l
  | [], _, h => by simp at h
  | (m, x) :: r, 0, h => by
    simp only [List.getElem?_cons_zero, Option.some.injEq] at h
    cases h
    rw [lenF, quote_len]
    have : n.length ≤ (n.flatMap escB).length := by
      induction n with
      | nil => exact Nat.le_refl _
      | cons c r ih =>
        rw [List.flatMap_cons, List.length_append, List.length_cons]
        have : 1 ≤ (escB c).length := by unfold escB; split; · simp
                                         · split; · simp
                                           · split <;> simp
        omega
    omega
  | (m, x) :: r, i + 1, h => by
    rw [List.getElem?_cons_succ] at h
    have := name_len h
    rw [lenF]; omega
/-! how many are lost -/
theorem gto_len (n : Bs) (l : Fs) : (text (gto n l)).length ≤ max (lenF l) 4 := by
  unfold gto
  cases hg : get n l with
  | none => have : (text ((none : Option JV).getD .nul)).length = 4 := by decide +kernel
            omega
  | some x => have := (getF_le hg).2.2; show (text x).length ≤ _; omega
theorem lost_len : (∀ w : JV, ∀ last live : JV, (text last).length ≤ 4000 → (lost3 last live w).length ≤ 4000 * (text w).length) ∧ (∀ _ : List JV, True) ∧ ∀ l : Fs, ∀ had out : Fs, lenF had ≤ 4000 → (lost3F had out l).length ≤ 4000 * lenF l := by
  refine JV.both ?_ ?_ ?_ ?_ ?_ ?_ trivial (fun _ _ _ _ => trivial) ?_ ?_
  · intro last live _; rw [lost3]; exact Nat.zero_le _
  · intro b last live _; rw [lost3]; exact Nat.zero_le _
  · intro b last live _; rw [lost3]; exact Nat.zero_le _
  · intro b last live _; rw [lost3]; exact Nat.zero_le _
  · intro b _ last live _; rw [lost3]; exact Nat.zero_le _
  · intro l ih last live h
    have h1 := lenF_fields last
    have h2 := ih (fieldsOf last) (remF (fieldsOf last) l (fieldsOf live)) (by omega)
    have h3 : (goesL (fieldsOf last) l (fieldsOf live)).length ≤ lenF (fieldsOf last) := by
      unfold goesL
      rw [List.length_map]
      exact Nat.le_trans (List.length_filter_le _ _) (lenF_length _)
    have h4 := obj_len_ge l
    rw [lost3_obj, List.length_append, List.length_map]
    omega
  · intro had out _; rw [lost3F_nil]; exact Nat.zero_le _
  · intro n w r hw hr had out h
    have h1 := hw (gto n had) (gto n out) (by have := gto_len n had; omega)
    have h2 := hr had (put n (into3 (gto n had) (gto n out) w) out) h
    rw [lost3F_cons, List.length_append, List.length_map, lenF]
    omega
theorem lenF_at3 : ∀ {l : Fs} {j : Nat} {y : Bs × JV}, l[j]? = some y → lenF (l.take j) + (text y.2).length + 3 ≤ lenF l
  | [], _, _, h => by simp at h
  | (n, v) :: r, 0, y, h => by
    simp only [List.getElem?_cons_zero, Option.some.injEq] at h
    subst h
    have hq : 2 ≤ (quote n).length := by rw [quote_len]; omega
    rw [List.take_zero, lenF, lenF]
    show 0 + (text v).length + 3 ≤ _
    omega
  | (n, v) :: r, j + 1, y, h => by
    rw [List.getElem?_cons_succ] at h
    have := lenF_at3 h
    rw [List.take_succ_cons, lenF, lenF]; omega
theorem gto_take {had out l : Fs} (hs : Srt l) {j : Nat} {y : Bs × JV} (h : l[j]? = some y) : gto y.1 (into3F had out (l.take j)) = gto y.1 out := by
  unfold gto
  rw [get_into3F _ _ _ _ (List.Pairwise.sublist (List.take_sublist _ _) hs), get_take_none hs h]
theorem get_at3 {l : Fs} (hs : Srt l) {j : Nat} {y : Bs × JV} (h : l[j]? = some y) : get y.1 l = some y.2 := get_memS hs (List.mem_of_getElem? h)
theorem wfF_at3 : ∀ {l : Fs} {j : Nat} {y : Bs × JV}, wfF l → l[j]? = some y → wf y.2
  | [], _, _, _, h => by simp at h
  | (n, v) :: r, 0, y, hw, h => by
    simp only [List.getElem?_cons_zero, Option.some.injEq] at h
    subst h
    rw [wfF] at hw; exact hw.2.1
  | (n, v) :: r, j + 1, y, hw, h => by
    rw [List.getElem?_cons_succ] at h
    rw [wfF] at hw
    exact wfF_at3 hw.2.2 h
end JP
end Go.Proofs.YtnmhjabihfhobaaGreatDoor
/- json: (*Object).Names. -/
namespace Go.Proofs.YtnmhjabihfhobaaGreatDoor
open Go.RowKit

set_option maxRecDepth 100000 in
theorem names_any (q : Nat) (vn : Value) (w : World) (h : w.cell? ⟨q, 0, none⟩ = some vn) :
    Calls Tryz.prog 42 #[.pointer (some ⟨q, 0, none⟩)] w fun e w' => e = .returned vn ∧ w = w' := by
  go_enter Tryz.func42, Tryz.ntmps42
  go_wp2_with fail
  go_ret
  exact ⟨rfl, rfl⟩
end Go.Proofs.YtnmhjabihfhobaaGreatDoor
/- fields.gather: its contract. -/
namespace Go.Proofs.YtnmhjabihfhobaaGreatDoor
open Go.RowKit
open JP (JV Bs)

abbrev Leaf := List Bs × JV
def pathP (way : List Bs) : Bs := if 10 < way.length then [] else joinK way
/-- a leaf in memory: its value as it lay in w0 -/
def LeafX (w0 : World) : Rd Leaf := fun w cs p => ∃ sv vv k, cs = [.string (mkB (pathP p.1)), sv, vv] ∧ StrX 68 w sv (p.1.map mkB) ∧ JvAt k [] w0 vv p.2
theorem leafX_staysX (w0 : World) : StaysX 68 (LeafX w0) := fun _ _ _ _ hs ⟨sv, vv, k, h1, h2, h3⟩ => ⟨sv, vv, k, h1, h2.stays hs, h3⟩
theorem strX_cell {e : TypeId} {w : World} {v : Value} {l : List ByteArray} (h : StrX e w v l) : v.oneCell' = true := by
  obtain ⟨a, c, hv, _, _⟩ := h.1.len
  rw [hv]; rfl
theorem leafX_one (w0 : World) : OneR (LeafX w0) := fun w cs x ⟨sv, vv, k, h1, h2, h3⟩ u hu => by
  rw [h1] at hu
  simp only [List.mem_cons, List.not_mem_nil, or_false] at hu
  rcases hu with rfl | rfl | rfl
  · rfl
  · exact strX_cell h2
  · exact one_jv k [] w0 [u] x.2 ⟨u, rfl, h3⟩ u (List.mem_singleton.2 rfl)
theorem Tryz.infoLeaf : (Tryz.prog.info? 68).map (fun i => (i.zero, i.size, i.bytes)) = some (some (.agg #[.string ByteArray.empty, .slice none 0 0, .nilIface]), 3, 56) := by kernel_rfl
def GatAt (w0 : World) (out : List Leaf) (x : JV) (way : List Bs) (w : World) (e : Ending) (w' : World) : Prop :=
  ∃ ov', e = .returned ov' ∧ OwnAt (LeafX w0) 3 w' w0.heap.size 68 ov' (out ++ JP.gat way x) ∧ Below w0.heap.size w0 w' ∧ SameBut 68 w w' ∧ w.heap.size ≤ w'.heap.size
def GatIn (n : Nat) : Prop := ∀ (v wv ov : Value) (x : JV) (way : List Bs) (out : List Leaf) (w0 w : World), JvAt n [] w0 v x → StrX 68 w wv (way.map mkB) → OwnAt (LeafX w0) 3 w w0.heap.size 68 ov out → Below w0.heap.size w0 w →
    out.length + JP.size x ≤ 1048576 → (way.map fun s => s.length + 1).sum + (JP.text x).length ≤ 20000 → (∃ m, MaxOK m w0) → Calls Tryz.prog 65 #[v, wv, ov] w (GatAt w0 out x way w)
theorem below_drewG (B : Nat) (w : World) (k : Nat) : Below B w (w.drewN k) := ⟨rfl, rfl, rfl, Nat.le_refl _, fun _ _ => rfl⟩
theorem joinL_mk (way : List Bs) : joinL (way.map mkB) = joinK way := by
  rw [joinL_map, List.map_map]
  have : ((fun s : ByteArray => s.data.toList) ∘ mkB) = id := funext fun s => mkB_list s
  rw [this, List.map_id]
theorem total_mk (way : List Bs) : total (way.map mkB) = (way.map fun s => s.length + 1).sum := by
  unfold total
  rw [List.map_map]
  refine congrArg List.sum (List.map_congr_left fun s _ => ?_)
  show (mkB s).size + 1 = _
  rw [mkB_size]
theorem way_len2 (way : List Bs) : way.length ≤ (way.map fun s => s.length + 1).sum := by
  induction way with
  | nil => exact Nat.le_refl _
  | cons s r ih => rw [List.map_cons, List.sum_cons, List.length_cons]; omega
theorem way_sum2 (way : List Bs) (n : Bs) : ((way ++ [n]).map fun s => s.length + 1).sum = (way.map fun s => s.length + 1).sum + (n.length + 1) := by
  rw [List.map_append, List.sum_append]; simp
theorem JP.sizeF_long : ∀ l : List (Bs × JV), l.length ≤ JP.sizeF l
  | [] => Nat.zero_le _
  | (n, v) :: r => by
    have := JP.sizeF_long r
    have := JP.size_pos v
    rw [List.length_cons, JP.sizeF]; omega
theorem jv_shape {n : Nat} {T : List Nat} {w : World} {v : Value} {x : JV} (h : JvAt n T w v x) : v = .nilIface ∨ ∃ t u, v = .iface t u := by
  cases n with
  | zero => cases h
  | succ n =>
    cases x with
    | nul => exact .inl h
    | bool b => exact .inr ⟨_, _, h⟩
    | num k => exact .inr ⟨_, _, h.1⟩
    | str s => exact .inr ⟨_, _, h⟩
    | list l => obtain ⟨u, h1, _⟩ := h; exact .inr ⟨_, _, h1⟩
    | obj l => obtain ⟨q, h1, _⟩ := h; exact .inr ⟨_, _, h1⟩
theorem jv_alloc {n : Nat} {w w' : World} {v : Value} {x : JV} (h : JvAt n [] w v x) (hb : Below w.heap.size w w') : JvAt n [] w' v x := h.keepT (KeepT.of hb)
theorem strX_raw {w : World} {v : Value} {L : List ByteArray} (h : StrAt w v L) : RowAt RVal 1 w v (L.map .string) := by
  rcases h.row with ⟨h1, rfl⟩ | ⟨a, c, h1, h2, h3, h4⟩
  · exact .inl ⟨h1, rfl⟩
  · refine .inr ⟨a, c, by rw [List.length_map]; exact h1, by rw [List.length_map]; exact h2, h3, fun j x hx => ?_⟩
    rw [List.getElem?_map] at hx
    obtain ⟨y, hy, rfl⟩ := Option.map_eq_some_iff.1 hx
    obtain ⟨cs, g1, g2, g3⟩ := h4 j y hy
    obtain rfl : cs = [.string y] := g3
    exact ⟨_, g1, g2, rfl, rfl⟩
theorem raw_own {w : World} {B : Nat} {e : TypeId} {v : Value} {L : List ByteArray} (h : OwnAt RVal 1 w B e v (L.map .string)) : OwnAt RString 1 w B e v L := by
  obtain ⟨css, h1, h2, h3, h4⟩ := h
  rw [List.length_map] at h1 h3
  refine ⟨css, h1, h2, h3, fun j cs x hcs hx => ?_⟩
  have := h4 j cs (.string x) hcs (by rw [List.getElem?_map, hx]; rfl)
  exact this.1
def AtJ (n : Nat) (w0 : World) : Rd JV := fun _ cs x => ∃ v, cs = [v] ∧ JvAt n [] w0 v x
set_option maxRecDepth 100000 in
set_option maxHeartbeats 1600000 in
theorem get_at {n : Nat} {w0 : World} {T : List Nat} {q : Nat} {d : List (Bs × JV)} {x : Bs} {w : World} (h : ObR (AtJ n w0) T w q d) (hl : d.length ≤ 1048576) :
    Calls Tryz.prog 49 #[.pointer (some ⟨q, 0, none⟩), .string (mkB x)] w fun e w' => ∃ v, e = .returned (.tuple #[v, .bool (JP.get x d).isSome]) ∧ (∀ y, JP.get x d = some y → JvAt n [] w0 v y) ∧ (JP.get x d = none → v = .nilIface) ∧ ∃ k, w' = w.drewN k := by
  obtain ⟨_, hs, vn, vv, cn, cv, hrn, _, hrv, _⟩ := h
  have HS := Lib.hid (search_any (x := x) hs hrn hl)
  have hpl := JP.pos_le x d
  have HF := Lib.hid (JP.find_spec (n := x) hs)
  obtain ⟨p, hp⟩ : ∃ p, JP.pos x d = p := ⟨_, rfl⟩
  rw [hp] at HS HF hpl
  have Hrv := Lib.hid hrv
  clear hrn hrv hs hp
  rcases HF.out with ⟨y, hy, hg, _⟩ | ⟨_, hg, _⟩
  · have hlt : p < d.length := (List.getElem?_eq_some_iff.1 hy).1
    obtain ⟨b, o, c, rfl, _, _, hbs, hcell⟩ := Hrv.out.form (by rw [List.length_map]; omega) (by omega)
    rw [List.length_map] at cv
    obtain ⟨cs, _, hcc, vx, rfl, hvx⟩ := hcell p y (by rw [List.getElem?_map, hy]; rfl)
    have e0 : w.cell? ⟨b, o + p, none⟩ = some vx := by simpa using hcc 0 _ rfl
    have HX := Lib.hid hvx
    have HG := Lib.hid hg
    rw [hg] at HS
    have q1 : (0 : Int) ≤ (p : Int) := by omega
    have q2 : (p : Int) < (d.length : Int) := by omega
    clear hcell hcc hvx hg hy HF
    go_enter Tryz.func49, Tryz.ntmps49
    go_wp2_with fail
    refine HS.out.mono ?_
    rintro E w1 ⟨rfl, k, rfl⟩
    have e1 : (w.drewN k).cell? ⟨b, o + p, none⟩ = some vx := e0
    have cv1 : (w.drewN k).cell? ⟨q, 1, none⟩ = _ := cv
    go_wp2_with fail
    go_ret2
    have hg := HG.out
    refine ⟨vx, by rw [hg]; rfl, ?_, ?_, k, rfl⟩
    · intro y' h'
      rw [hg] at h'
      cases h'
      exact HX.out
    · intro h'
      rw [hg] at h'
      cases h'
  · have HG := Lib.hid hg
    rw [hg] at HS
    clear hg HF
    go_enter Tryz.func49, Tryz.ntmps49
    go_wp2_with fail
    refine HS.out.mono ?_
    rintro E w1 ⟨rfl, k, rfl⟩
    go_wp2_with fail
    go_ret2
    have hg := HG.out
    refine ⟨.nilIface, by rw [hg]; rfl, ?_, fun _ => rfl, k, rfl⟩
    intro y' h'
    rw [hg] at h'
    cases h'
/-- what a leaf's append makes of the row -/
theorem gat_leaf {w0 : World} {out : List Leaf} {x : JV} {way : List Bs} {w w' : World} {ov' : Value} (h1 : JP.gat way x = [(way, x)]) (hv : OwnAt (LeafX w0) 3 w' w0.heap.size 68 ov' (out ++ [(way, x)])) (hb : Below w0.heap.size w0 w') (hs : SameBut 68 w w') (hz : w.heap.size ≤ w'.heap.size) : GatAt w0 out x way w (.returned ov') w' :=
  ⟨ov', rfl, by rw [h1]; exact hv, hb, hs, hz⟩

set_option maxRecDepth 100000 in
set_option maxHeartbeats 12800000 in
theorem gather_step (n : Nat) (ih : GatIn n) : GatIn (n + 1) := by
  intro v wv ov x way out w0 w hv hw ho hb hl ht hm
  obtain ⟨mx, hm⟩ := hm
  obtain ⟨i0, hi0, hz0, hz1, hz2⟩ := info_parts Tryz.infoLeaf
  obtain ⟨j0, hj0, hy0, hy1, hy2⟩ := info_parts Tryz.infoStr
  have hway := way_len2 way
  have htot := total_mk way
  have hgl := JP.gat_len way x
  have hxs := JP.size_pos x
  obtain ⟨wa, wc, hwe, _, _⟩ := hw.1.len
  obtain ⟨wn, hwn⟩ : ∃ m, (way.map mkB).length = m := ⟨_, rfl⟩
  rw [hwn] at hwe
  subst hwe
  have hwl : way.length = wn := by rw [← hwn, List.length_map]
  have hJ0 := ptrJoin_any (.slice wa wn wc) (way.map mkB) mx w hw.1 (by rw [htot]; omega) (hm.below hb)
  have hJr : (if 10 < (way.map mkB).length then Value.tuple #[.string ⟨#[]⟩, .int .i64 2] else .tuple #[.string ⟨(joinL (way.map mkB)).toArray⟩, .int .i64 0]) = .tuple #[.string (mkB (pathP way)), .int .i64 (if 10 < way.length then 2 else 0)] := by
    rw [joinL_mk, List.length_map]
    unfold pathP
    split <;> rfl
  rw [hJr] at hJ0
  obtain ⟨JE, hJE⟩ : ∃ e : Int, (if 10 < way.length then 2 else 0) = e := ⟨_, rfl⟩
  rw [hJE] at hJ0
  have HJ := Lib.hid hJ0
  have HO := Lib.hid ho
  have HW := Lib.hid hw
  have HB := Lib.hid hb
  have Hm := Lib.hid hm
  have hs := hb.size
  clear hJ0 hJr hJE ho hm htot
  by_cases hobj : ∃ l, x = .obj l
  · obtain ⟨l, rfl⟩ := hobj
    obtain ⟨q, rfl, hob⟩ := hv
    have GB := (as_obj (.pointer (some ⟨q, 0, none⟩))).2.2.2.2
    have hqm : q ∉ ([] : List Nat) := hob.1
    have hob0 := hob
    obtain ⟨_, hsrt, vn, vv, cn, cv, hrn, _, hrv, _⟩ := hob0
    obtain ⟨an, cn2, hne, _, _⟩ := hrn.len
    obtain ⟨ln, hln⟩ : ∃ m, l.length = m := ⟨_, rfl⟩
    rw [List.length_map, hln] at hne
    subst hne
    have hq0 : q < w0.heap.size := World.block_lt_of_cell? w0 _ cn
    have cnw := (hb.cell (p := ⟨q, 0, none⟩) hq0).trans cn
    have HOb := Lib.hid hob
    have HRn := Lib.hid hrn
    have HV : Hid (JvAt (n + 1) [] w0 (.iface 74 (.pointer (some ⟨q, 0, none⟩))) (.obj l)) := Lib.hid ⟨q, rfl, hob⟩
    have HCn := Lib.hid cn
    by_cases h0 : ln = 0
    · subst h0
      obtain rfl : l = [] := List.eq_nil_of_length_eq_zero hln
      by_cases hw0 : wn = 0
      · have hwy : way = [] := List.eq_nil_of_length_eq_zero (by omega)
        have HGo : Hid (GatAt w0 out (.obj []) way w (.returned ov) w) := Lib.hid ⟨ov, rfl, by rw [hwy, JP.gat]; simpa using HO.out, HB.out, fun _ _ _ _ h _ => h, Nat.le_refl _⟩
        have HNm := Lib.hid (names_any q _ w cnw)
        subst hw0
        clear hwy hwl hwn hln hob hrn hrv cn cv hsrt hqm ih hw hb cnw hgl HJ
        go_enter Tryz.func65, Tryz.ntmps65
        go_wp2_with fail
        refine HNm.out.mono ?_
        rintro E wz ⟨rfl, rfl⟩
        go_wp2_with fail
        go_ret
        exact HGo.out
      · have hwy : way ≠ [] := fun e => hw0 (by rw [← hwl, e]; rfl)
        have Hgat : Hid (JP.gat way (.obj []) = [(way, .obj [])]) := Lib.hid (by rw [JP.gat]; simp [hwy])
        have HNm := Lib.hid (names_any q _ w cnw)
        have qn : ((wn : Int) == 0) = false := by rw [beq_eq_false_iff_ne]; omega
        obtain ⟨x0, hx0⟩ : ∃ y, y = JV.obj [] := ⟨_, rfl⟩
        rw [← hx0] at HV Hgat hl ht ⊢
        clear hwy hwl hwn hln hob hrn hrv cn cv hsrt hqm ih hw hb cnw hgl hx0 hw0
        go_enter Tryz.func65, Tryz.ntmps65
        go_wp2_with fail
        refine HNm.out.mono ?_
        rintro E wz ⟨rfl, rfl⟩
        clear HNm
        go_wp2_with fail
        refine HJ.out.mono ?_
        rintro E w1 ⟨rfl, hb1⟩
        have HO1 := Lib.hid (HO.out.belowX (leafX_staysX _) hb1)
        have HB1 := Lib.hid (HB.out.trans (hb1.mono HB.out.size))
        have HW1 := Lib.hid (HW.out.stays (sameBut_below hb1))
        have HS1 := Lib.hid (sameBut_below (e := 68) hb1)
        have hs1 := hb1.size
        have hs0 := HB1.out.size
        clear hb1 HJ HO HB HW
        obtain ⟨w2, hw2⟩ : ∃ w2, w2 = w1.alloc (.cells #[.string (mkB (pathP way)), .slice wa wn wc, .iface 74 (.pointer (some ⟨q, 0, none⟩))] 68) := ⟨_, rfl⟩
        have hb2 : Below w1.heap.size w1 w2 := by rw [hw2]; exact (Below.refl _ w1).alloc (Nat.le_refl _) _
        have hx2 : LeafX w0 w2 [.string (mkB (pathP way)), .slice wa wn wc, .iface 74 (.pointer (some ⟨q, 0, none⟩))] (way, x0) := ⟨_, _, _, rfl, HW1.out.stays (sameBut_below hb2), HV.out⟩
        have hr2 : RowAt (LeafX w0) 3 w2 (.slice (some ⟨w1.heap.size, 0, none⟩) 1 1) [(way, x0)] := by rw [hw2]; exact RowAt.one (R := LeafX w0) (k := 3) (cs := #[.string (mkB (pathP way)), .slice wa wn wc, .iface 74 (.pointer (some ⟨q, 0, none⟩))]) (heap_alloc_new w1 _) rfl (by rw [← hw2]; exact hx2)
        have HR2 := Lib.hid hr2
        have HO2 := Lib.hid (HO1.out.belowX (leafX_staysX _) hb2)
        have HB2 := Lib.hid (HB1.out.trans (hb2.mono HB1.out.size))
        have HS2 := Lib.hid (HS1.out.trans (sameBut_below (e := 68) hb2))
        have hs2 := hb2.size
        have hs02 : w0.heap.size ≤ w2.heap.size := by omega
        clear hb2 hx2 hr2 HO1 HB1 HW1 HS1
        go_wp2_with (at_builtin; rw [← hw2]; refine wpList_append_ownAtX (R := LeafX w0) (k := 3) (e := 68) (B := w0.heap.size) (l := out) (m := [(way, x0)]) _ (by rfl) _ _ _ (by rfl) i0 _ 56 Tryz.underlying65 hi0 hz0 hz1 hz2 rfl (by omega) (leafX_staysX _) (leafX_one _) _ (by rfl) HO2.out _ (by rfl) HR2.out (by unfold maxLen; simp; omega) (by simp; omega) hs02 ?_)
        intro v' w3 hv' hgr hr _
        rw [← hw2] at hgr
        have hb3 := below_of_grown HB2.out hs02 hgr hr
        have hs3 := HS2.out.trans (HO2.out.sameBut hgr)
        have HGo := Lib.hid (gat_leaf (w := w) (Hgat.out) hv' hb3 hs3 (by have := hgr.size; omega))
        clear hv' hgr hr hb3 hs3 hw2 HR2 HO2 HB2 HS2
        go_wp2_with fail
        go_ret
        exact HGo.out
    · have hpos : (0 : Int) < (ln : Int) := by omega
      have Hgat : Hid (JP.gat way (.obj l) = JP.gatF way l) := Lib.hid (by
        rw [JP.gat, if_neg]
        intro e
        have : l = [] := by simpa using e
        rw [this] at hln
        exact h0 hln.symm)
      have HNm := Lib.hid (names_any q _ w cnw)
      have Hln := Lib.hid hln
      have hln9 : ln ≤ 1048576 := by
        have h8 : JP.size (.obj l) = 1 + JP.sizeF l := by rw [JP.size]
        have h9 := JP.sizeF_long l
        omega
      have Hsz : Hid (out.length + 1 + JP.sizeF l ≤ 1048576) := Lib.hid (by have h8 : JP.size (.obj l) = 1 + JP.sizeF l := by rw [JP.size]
                                                                            show _ ≤ _; omega)
      have Hty : Hid ((way.map fun s => s.length + 1).sum + (JP.text (.obj l)).length ≤ 20000) := Lib.hid ht
      have HIh := Lib.hid ih
      have Hwn := Lib.hid hwn
      have Hsrt := Lib.hid hsrt
      have Hw0 : Hid (way.length ≤ 20000) := Lib.hid (by have := ht; omega)
      clear h0 hwl hwn hln hob hrn hrv cn cv hsrt hqm ih hw hb hgl HJ hl ht hxs
      go_enter Tryz.func65, Tryz.ntmps65
      go_wp2_with fail
      refine HNm.out.mono ?_
      rintro E wz ⟨rfl, rfl⟩
      go_wp2_with fail
      refine HNm.out.mono ?_
      rintro E wz ⟨rfl, rfl⟩
      clear HNm
      go_wp2_with fail
      go_loopg [2, 30] ln (fun k u2 u30 wr => ∃ i : Nat, i + k = ln ∧ u30 = .int .i64 (i : Int) ∧ Hid (OwnAt (LeafX w0) 3 wr w0.heap.size 68 u2 (out ++ JP.gatF way (l.take i))) ∧ Hid (Below w0.heap.size w0 wr) ∧ Hid (SameBut 68 w wr) ∧ Hid (w.heap.size ≤ wr.heap.size))
      case atStart => exact ⟨0, by omega, rfl, Lib.hid (by rw [List.take_zero, JP.gatF, List.append_nil]; exact HO.out), HB, Lib.hid (fun _ _ _ _ h _ => h), Lib.hid (Nat.le_refl _)⟩
      case round =>
        obtain ⟨i, hik, rfl, HO, HB, HS, HZ⟩ := hrel
        cases gk with
        | zero =>
          have hil : i = ln := by omega
          subst hil
          have q9 : ¬ (i : Int) < (i : Int) := by omega
          have htk : l.take i = l := List.take_of_length_le (by rw [Hln.out]; exact Nat.le_refl _)
          rw [htk] at HO
          have HGo := Lib.hid (show GatAt w0 out (.obj l) way w (.returned _) _ from ⟨_, rfl, by rw [Hgat.out]; exact HO.out, HB.out, HS.out, HZ.out⟩)
          clear htk HO HB HS HZ
          go_wp2_with fail
          go_ret
          exact HGo.out
        | succ k =>
          have hil : i < ln := by omega
          obtain ⟨y, hy⟩ : ∃ y, l[i]? = some y := ⟨l[i]'(by rw [Hln.out]; exact hil), List.getElem?_eq_getElem _⟩
          obtain ⟨b1, o1, c', hv1, _, _, hbs1, hcell1⟩ := HRn.out.form (by rw [List.length_map, Hln.out]; omega) (by omega)
          injection hv1 with u1 u2 u3
          subst u1
          clear u2 u3
          obtain ⟨ds1, _, hcc1, hR1⟩ := hcell1 i (mkB y.1) (by rw [List.getElem?_map, hy]; rfl)
          obtain rfl : ds1 = [.string (mkB y.1)] := hR1
          have e9 : w0.cell? ⟨b1, o1 + i, none⟩ = some (.string (mkB y.1)) := by simpa using hcc1 0 _ rfl
          have e0 := (HB.out.cell (p := ⟨b1, o1 + i, none⟩) (World.block_lt_of_cell? w0 _ e9)).trans e9
          have q1 : (0 : Int) ≤ (i : Int) := by omega
          have q2 : (i : Int) < (ln : Int) := by omega
          have Hy := Lib.hid hy
          have HG := Lib.hid (get_at (x := y.1) (HOb.out.keepT (R' := AtJ n w0) (KeepT.of HB.out) (fun _ _ h => h)) (by rw [Hln.out]; exact hln9))
          have hget := JP.get_at3 Hsrt.out hy
          rw [hget] at HG
          have Hst := Lib.hid (JP.gatF_step way hy)
          have Hs1 := Lib.hid (JP.sizeF_here hy)
          have Hs2 := Lib.hid (JP.gatF_len way (l.take i))
          have Hs3 : Hid (y.1.length + 1 + (JP.text y.2).length + 2 ≤ JP.lenF l) := Lib.hid (JP.name_len (show l[i]? = some (y.1, y.2) from hy))
          have Hs4 := Lib.hid (lenF_text l)
          clear hcell1 hcc1 hy e9 hget hbs1
          go_wp2_with fail
          refine HG.out.mono ?_
          rintro E w1 ⟨vg, rfl, hvg, _, kd, rfl⟩
          have Hvg := Lib.hid (hvg y.2 rfl)
          have hbd := below_drewG (wr.heap.size) wr kd
          obtain ⟨w3, hw3⟩ : ∃ u, wr.drewN kd = u := ⟨_, rfl⟩
          rw [hw3] at hbd ⊢
          have HO3 := Lib.hid (HO.out.belowX (leafX_staysX _) hbd)
          have HB3 := Lib.hid (HB.out.trans (hbd.mono HB.out.size))
          have HS3 := Lib.hid (HS.out.trans (sameBut_below (e := 68) hbd))
          have HZ3 : Hid (w.heap.size ≤ w3.heap.size) := Lib.hid (Nat.le_trans HZ.out hbd.size)
          have HW3 := Lib.hid (HW.out.stays HS3.out)
          clear hvg hbd hw3 HG e0 HO HB HS HZ
          have HCl := Lib.hid (cloneStr_any (.slice wa wn wc) _ w3 (strX_raw HW3.out.1) (by rw [List.length_map, List.length_map]; have := Hw0.out; omega))
          go_wp2_with fail
          refine HCl.out.mono ?_
          rintro E wk ⟨vc, rfl, hown, hbc⟩
          have HOwn := Lib.hid hown
          have Hbc := Lib.hid hbc
          clear hown hbc HCl
          have hb7 : Below wk.heap.size wk (wk.alloc (.cells #[.string (mkB y.1)] 9)) := (Below.refl _ wk).alloc (Nat.le_refl _) _
          have HOwn7 := Lib.hid (HOwn.out.below stays_val hb7)
          have Hb7 := Lib.hid (Hbc.out.trans (hb7.mono Hbc.out.size))
          have Hs7 : Hid (w3.heap.size ≤ (wk.alloc (.cells #[.string (mkB y.1)] 9)).heap.size) := Lib.hid Hb7.out.size
          have hr1 : RowAt RVal 1 (wk.alloc (.cells #[.string (mkB y.1)] 9)) (.slice (some ⟨wk.heap.size, 0, none⟩) 1 1) [Value.string (mkB y.1)] := RowAt.one (R := RVal) (x := Value.string (mkB y.1)) (heap_alloc_new wk _) rfl ⟨rfl, rfl⟩
          have bd1 : ((way.map mkB).map Value.string).length + [Value.string (mkB y.1)].length ≤ maxLen := by unfold maxLen; rw [List.length_map, List.length_map]; simp only [List.length_cons, List.length_nil]; have := Hw0.out; omega
          have bd2 : (((way.map mkB).map Value.string).length + [Value.string (mkB y.1)].length) * 16 ≤ 140737488355328 := by rw [List.length_map, List.length_map]; simp only [List.length_cons, List.length_nil]; have := Hw0.out; omega
          clear hb7
          go_wp2_with (at_builtin; refine wpList_append_ownAt (R := RVal) (k := 1) (e := 9) (B := w3.heap.size) (l := (way.map mkB).map .string) (m := [.string (mkB y.1)]) _ (by rfl) _ _ _ (by rfl) j0 _ 16 Tryz.underlying25 hj0 hy0 hy1 hy2 rfl (by omega) flat_val one_val _ (by rfl) HOwn7.out _ (by rfl) hr1 bd1 bd2 Hs7.out ?_)
          intro v8 w8 hv8 hg8 hr8 _
          have hb8 : Below w3.heap.size w3 w8 := Hb7.out.trans (below_of_grown (Below.refl _ _) Hs7.out hg8 hr8)
          have hst8 : StrX 68 w8 v8 ((way ++ [y.1]).map mkB) := by
            refine (raw_own (L := (way ++ [y.1]).map mkB) (by rw [List.map_append, List.map_append, List.map_map]; exact hv8)).strX (by decide)
          have HO8 := Lib.hid (HO3.out.belowX (leafX_staysX _) hb8)
          have HB8 := Lib.hid (HB3.out.trans (hb8.mono HB3.out.size))
          have HS8 := Lib.hid (HS3.out.trans (sameBut_below (e := 68) hb8))
          have HZ8 : Hid (w.heap.size ≤ w8.heap.size) := Lib.hid (Nat.le_trans HZ3.out hb8.size)
          have HI := Lib.hid (HIh.out vg v8 _ y.2 (way ++ [y.1]) (out ++ JP.gatF way (l.take i)) w0 w8 Hvg.out hst8 HO8.out HB8.out (by rw [List.length_append]; have := Hs1.out; have := Hs2.out; have := Hsz.out; omega) (by rw [way_sum2]; have := Hs3.out; have := Hs4.out; have := Hty.out; omega) ⟨mx, Hm.out⟩)
          clear hv8 hg8 hr8 hb8 hst8 HOwn7 HOwn Hb7 Hs7 hr1 bd1 bd2 Hbc HO3 HB3 HS3 HZ3 HW3 HO8 HB8
          go_wp2_with fail
          refine HI.out.mono ?_
          rintro E w9 ⟨v9, rfl, ho9, hb9, hs9, hz9⟩
          have HO9 : Hid (OwnAt (LeafX w0) 3 w9 w0.heap.size 68 v9 (out ++ JP.gatF way (l.take (i + 1)))) := Lib.hid (by rw [Hst.out, ← List.append_assoc]; exact ho9)
          have HB9 := Lib.hid hb9
          have HS9 := Lib.hid (HS8.out.trans hs9)
          have HZ9 : Hid (w.heap.size ≤ w9.heap.size) := Lib.hid (Nat.le_trans HZ8.out hz9)
          clear ho9 hb9 hs9 hz9 HI HS8 HZ8
          go_wp2_with fail
          go_roundg k
          case measure => omega
          case rel => exact ⟨i + 1, by omega, by go_num, HO9, HB9, HS9, HZ9⟩
  · have hno : ∀ l, x ≠ .obj l := fun l e => hobj ⟨l, e⟩
    have GA := as_other hv hno
    have hgat := JP.gat_other hno way
    obtain ⟨x0, hx0⟩ : ∃ y, x = y := ⟨_, rfl⟩
    have HV := Lib.hid hv
    rw [hx0] at HV hgat ⊢
    have Hgat := Lib.hid hgat
    have hform := jv_shape hv
    clear hobj hno hv hw hb hgat ih hgl hx0 hwn hwl
    rcases hform with rfl | ⟨vt, vu, rfl⟩
    · go_enter Tryz.func65, Tryz.ntmps65
      go_wp2_with fail
      refine HJ.out.mono ?_
      rintro E w1 ⟨rfl, hb1⟩
      have HO1 := Lib.hid (HO.out.belowX (leafX_staysX _) hb1)
      have HB1 := Lib.hid (HB.out.trans (hb1.mono HB.out.size))
      have HW1 := Lib.hid (HW.out.stays (sameBut_below hb1))
      have HS1 := Lib.hid (sameBut_below (e := 68) hb1)
      have hs1 := hb1.size
      have hs0 := HB1.out.size
      clear hb1 HJ HO HB HW
      obtain ⟨w2, hw2⟩ : ∃ w2, w2 = w1.alloc (.cells #[.string (mkB (pathP way)), .slice wa wn wc, .nilIface] 68) := ⟨_, rfl⟩
      have hb2 : Below w1.heap.size w1 w2 := by rw [hw2]; exact (Below.refl _ w1).alloc (Nat.le_refl _) _
      have hx2 : LeafX w0 w2 [.string (mkB (pathP way)), .slice wa wn wc, .nilIface] (way, x0) := ⟨_, _, _, rfl, HW1.out.stays (sameBut_below hb2), HV.out⟩
      have hr2 : RowAt (LeafX w0) 3 w2 (.slice (some ⟨w1.heap.size, 0, none⟩) 1 1) [(way, x0)] := by rw [hw2]; exact RowAt.one (R := LeafX w0) (k := 3) (cs := #[.string (mkB (pathP way)), .slice wa wn wc, .nilIface]) (heap_alloc_new w1 _) rfl (by rw [← hw2]; exact hx2)
      have HR2 := Lib.hid hr2
      have HO2 := Lib.hid (HO1.out.belowX (leafX_staysX _) hb2)
      have HB2 := Lib.hid (HB1.out.trans (hb2.mono HB1.out.size))
      have HS2 := Lib.hid (HS1.out.trans (sameBut_below (e := 68) hb2))
      have hs2 := hb2.size
      have hs02 : w0.heap.size ≤ w2.heap.size := by omega
      clear hb2 hx2 hr2 HO1 HB1 HW1 HS1
      go_wp2_with (at_builtin; rw [← hw2]; refine wpList_append_ownAtX (R := LeafX w0) (k := 3) (e := 68) (B := w0.heap.size) (l := out) (m := [(way, x0)]) _ (by rfl) _ _ _ (by rfl) i0 _ 56 Tryz.underlying65 hi0 hz0 hz1 hz2 rfl (by omega) (leafX_staysX _) (leafX_one _) _ (by rfl) HO2.out _ (by rfl) HR2.out (by unfold maxLen; simp; omega) (by simp; omega) hs02 ?_)
      intro v' w3 hv' hgr hr _
      rw [← hw2] at hgr
      have hb3 := below_of_grown HB2.out hs02 hgr hr
      have hs3 := HS2.out.trans (HO2.out.sameBut hgr)
      have HGo := Lib.hid (gat_leaf (w := w) (Hgat.out) hv' hb3 hs3 (by have := hgr.size; omega))
      clear hv' hgr hr hb3 hs3 hw2 HR2 HO2 HB2 HS2
      go_wp2_with fail
      go_ret
      exact HGo.out
    · go_enter Tryz.func65, Tryz.ntmps65
      go_wp2_with fail
      refine HJ.out.mono ?_
      rintro E w1 ⟨rfl, hb1⟩
      have HO1 := Lib.hid (HO.out.belowX (leafX_staysX _) hb1)
      have HB1 := Lib.hid (HB.out.trans (hb1.mono HB.out.size))
      have HW1 := Lib.hid (HW.out.stays (sameBut_below hb1))
      have HS1 := Lib.hid (sameBut_below (e := 68) hb1)
      have hs1 := hb1.size
      have hs0 := HB1.out.size
      clear hb1 HJ HO HB HW
      obtain ⟨w2, hw2⟩ : ∃ w2, w2 = w1.alloc (.cells #[.string (mkB (pathP way)), .slice wa wn wc, .iface vt vu] 68) := ⟨_, rfl⟩
      have hb2 : Below w1.heap.size w1 w2 := by rw [hw2]; exact (Below.refl _ w1).alloc (Nat.le_refl _) _
      have hx2 : LeafX w0 w2 [.string (mkB (pathP way)), .slice wa wn wc, .iface vt vu] (way, x0) := ⟨_, _, _, rfl, HW1.out.stays (sameBut_below hb2), HV.out⟩
      have hr2 : RowAt (LeafX w0) 3 w2 (.slice (some ⟨w1.heap.size, 0, none⟩) 1 1) [(way, x0)] := by rw [hw2]; exact RowAt.one (R := LeafX w0) (k := 3) (cs := #[.string (mkB (pathP way)), .slice wa wn wc, .iface vt vu]) (heap_alloc_new w1 _) rfl (by rw [← hw2]; exact hx2)
      have HR2 := Lib.hid hr2
      have HO2 := Lib.hid (HO1.out.belowX (leafX_staysX _) hb2)
      have HB2 := Lib.hid (HB1.out.trans (hb2.mono HB1.out.size))
      have HS2 := Lib.hid (HS1.out.trans (sameBut_below (e := 68) hb2))
      have hs2 := hb2.size
      have hs02 : w0.heap.size ≤ w2.heap.size := by omega
      clear hb2 hx2 hr2 HO1 HB1 HW1 HS1
      go_wp2_with (at_builtin; rw [← hw2]; refine wpList_append_ownAtX (R := LeafX w0) (k := 3) (e := 68) (B := w0.heap.size) (l := out) (m := [(way, x0)]) _ (by rfl) _ _ _ (by rfl) i0 _ 56 Tryz.underlying65 hi0 hz0 hz1 hz2 rfl (by omega) (leafX_staysX _) (leafX_one _) _ (by rfl) HO2.out _ (by rfl) HR2.out (by unfold maxLen; simp; omega) (by simp; omega) hs02 ?_)
      intro v' w3 hv' hgr hr _
      rw [← hw2] at hgr
      have hb3 := below_of_grown HB2.out hs02 hgr hr
      have hs3 := HS2.out.trans (HO2.out.sameBut hgr)
      have HGo := Lib.hid (gat_leaf (w := w) (Hgat.out) hv' hb3 hs3 (by have := hgr.size; omega))
      clear hv' hgr hr hb3 hs3 hw2 HR2 HO2 HB2 HS2
      go_wp2_with fail
      go_ret
      exact HGo.out
end Go.Proofs.YtnmhjabihfhobaaGreatDoor
/- schema: its small functions. -/
namespace Go.Proofs.YtnmhjabihfhobaaGreatDoor
open Go.RowKit
open JP (JV Bs)

/-- the part of a field -/
def fieldL : List GField → ByteArray → Option Int
  | [], _ => none
  | f :: r, n => if f.name = n then some f.part else fieldL r n
theorem fieldL_none : ∀ {l : List GField} {n : ByteArray}, (∀ f ∈ l, f.name ≠ n) → fieldL l n = none
  | [], _, _ => rfl
  | f :: r, n, h => by rw [fieldL, if_neg (h f (List.mem_cons_self ..))]; exact fieldL_none fun g hg => h g (List.mem_cons_of_mem _ hg)
theorem fieldL_at : ∀ {l : List GField} {n : ByteArray} {i : Nat} {y : GField}, l[i]? = some y → (∀ f ∈ l.take i, f.name ≠ n) → y.name = n → fieldL l n = some y.part
  | [], _, _, _, h, _, _ => by simp at h
  | f :: r, n, 0, y, h, _, hn => by
    simp only [List.getElem?_cons_zero, Option.some.injEq] at h
    subst h
    rw [fieldL, if_pos hn]
  | f :: r, n, i + 1, y, h, ha, hn => by
    rw [List.getElem?_cons_succ] at h
    rw [fieldL, if_neg (ha f (by simp))]
    exact fieldL_at h (fun g hg => ha g (by rw [List.take_succ_cons]; exact List.mem_cons_of_mem _ hg)) hn
set_option maxRecDepth 100000 in
set_option maxHeartbeats 3200000 in
theorem schField_any (k : Int) (fa : Option Addr) (fn fc : Nat) (na : Option Addr) (nn nc : Nat) (ex : Bool) (it le mo : Int) (ea : Option Addr) (en ec : Nat) (df : ByteArray) (F : List GField) (name : ByteArray) (w : World) (h : RowAt FieldR 2 w (.slice fa fn fc) F) (hl : F.length ≤ 1048576) :
    Calls Tryz.prog 43 #[.agg #[.int .i64 k, .slice fa fn fc, .slice na nn nc, .bool ex, .int .i64 it, .int .i64 le, .int .i64 mo, .slice ea en ec, .string df], .string name] w fun e w' => e = .returned (.tuple #[.int .i64 ((fieldL F name).getD 0), .bool (fieldL F name).isSome]) ∧ Below w.heap.size w w' := by
  obtain ⟨a1, c1, e1, _, _⟩ := h.len
  injection e1 with u1 u2 u3
  obtain ⟨ln, hln⟩ : ∃ n, F.length = n := ⟨_, rfl⟩
  rw [hln] at u2
  subst u2
  have HRow := Lib.hid h
  have Hln := Lib.hid hln
  obtain ⟨O, hO⟩ : ∃ O, fieldL F name = O := ⟨_, rfl⟩
  have HF := Lib.hid hO
  rw [hO]
  rw [hln] at hl
  clear u1 u3 h hln hO
  go_enter Tryz.func43, Tryz.ntmps43
  go_wp2_with fail
  go_loopg [11] fn (fun k9 u11 wr => ∃ i : Nat, i + k9 = fn ∧ u11 = .int .i64 (i : Int) ∧ Hid (∀ f ∈ F.take i, f.name ≠ name) ∧ Hid (Below w.heap.size w wr))
  case atStart => exact ⟨0, by omega, rfl, Lib.hid (by simp), Lib.hid ((Below.refl _ w).alloc (Nat.le_refl _) _)⟩
  case round =>
    obtain ⟨i, hik, rfl, HN, HR⟩ := hrel
    cases gk with
    | zero =>
      have hil : i = fn := by omega
      subst hil
      have q9 : ¬ (i : Int) < (i : Int) := by omega
      have hn : fieldL F name = none := fieldL_none (by have := HN.out; rwa [List.take_of_length_le (by rw [Hln.out]; exact Nat.le_refl _)] at this)
      have hO : O = none := by rw [← HF.out, hn]
      subst hO
      clear hn HN
      go_wp2_with fail
      go_ret2
      exact ⟨rfl, HR.out⟩
    | succ k9 =>
      have hil : i < fn := by omega
      obtain ⟨y, hy⟩ : ∃ y, F[i]? = some y := ⟨F[i]'(by rw [Hln.out]; exact hil), List.getElem?_eq_getElem _⟩
      obtain ⟨b1, o1, c', hv1, _, _, hbs1, hcell1⟩ := HRow.out.form (by rw [Hln.out]; omega) (by omega)
      injection hv1 with u1 u2 u3
      subst u1
      clear u2 u3
      obtain ⟨ds1, _, hcc1, hds, hwf⟩ := hcell1 i y hy
      subst hds
      have e0 : wr.cell? ⟨b1, o1 + i * 2, none⟩ = some (.string y.name) := (HR.out.cell (p := ⟨b1, _, none⟩) hbs1).trans (by simpa using hcc1 0 _ rfl)
      have e1 : wr.cell? ⟨b1, o1 + i * 2 + 1, none⟩ = some (.int .i64 y.part) := (HR.out.cell (p := ⟨b1, _, none⟩) hbs1).trans (hcc1 1 _ rfl)
      have q1 : (0 : Int) ≤ (i : Int) := by omega
      have q2 : (i : Int) < (fn : Int) := by omega
      have Hy := Lib.hid hy
      have HRa : Hid (∀ o, Below w.heap.size w (wr.alloc o)) := Lib.hid (fun o => HR.out.alloc HR.out.size o)
      clear hcell1 hcc1 hy hbs1 hwf
      by_cases hn : y.name = name
      · have q3 : (y.name.toList == name.toList) = true := by rw [hn]; simp
        have hO : O = some y.part := by rw [← HF.out]; exact fieldL_at Hy.out HN.out hn
        subst hO
        clear hn
        go_wp2_with fail
        go_ret2
        exact ⟨rfl, HRa.out _⟩
      · have q3 : (y.name.toList == name.toList) = false := by rw [beq_eq_false_iff_ne]; exact fun h => hn (toList_inj h)
        have HN1 : Hid (∀ f ∈ F.take (i + 1), f.name ≠ name) := Lib.hid (by
          intro f hf
          rw [List.take_add_one, Hy.out] at hf
          rcases List.mem_append.1 hf with hf | hf
          · exact HN.out f hf
          · obtain rfl : f = y := by simpa using hf
            exact hn)
        clear hn
        go_wp2_with fail
        go_roundg k9
        case measure => omega
        case rel => exact ⟨i + 1, by omega, by go_num, HN1, Lib.hid (HRa.out _)⟩
set_option maxRecDepth 100000 in
set_option maxHeartbeats 3200000 in
theorem step_any (wv : Value) (way : List ByteArray) (n : ByteArray) (w : World) (h : StrAt w wv way) (hl : way.length ≤ 100000) :
    Calls Tryz.prog 80 #[wv, .string n] w fun e w' => ∃ v', e = .returned v' ∧ OwnAt RString 1 w' w.heap.size 9 v' (way ++ [n]) ∧ Below w.heap.size w w' := by
  obtain ⟨j0, hj0, hy0, hy1, hy2⟩ := info_parts Tryz.infoStr
  have HCl := Lib.hid (cloneStr_any wv _ w (strX_raw h) (by rw [List.length_map]; omega))
  have Hl := Lib.hid hl
  clear h hl
  go_enter Tryz.func80, Tryz.ntmps80
  go_wp2_with fail
  refine HCl.out.mono ?_
  rintro E wk ⟨vc, rfl, hown, hbc⟩
  have hb7 : Below wk.heap.size wk (wk.alloc (.cells #[.string n] 9)) := (Below.refl _ wk).alloc (Nat.le_refl _) _
  have HOwn7 := Lib.hid (hown.below stays_val hb7)
  have Hb7 := Lib.hid (hbc.trans (hb7.mono hbc.size))
  have Hs7 : Hid (w.heap.size ≤ (wk.alloc (.cells #[.string n] 9)).heap.size) := Lib.hid Hb7.out.size
  have Hr1 : Hid (RowAt RVal 1 (wk.alloc (.cells #[.string n] 9)) (.slice (some ⟨wk.heap.size, 0, none⟩) 1 1) [Value.string n]) := Lib.hid (RowAt.one (R := RVal) (x := Value.string n) (heap_alloc_new wk _) rfl ⟨rfl, rfl⟩)
  clear hown hbc hb7 HCl
  go_wp2_with (at_builtin; refine wpList_append_ownAt (R := RVal) (k := 1) (e := 9) (B := w.heap.size) (l := way.map .string) (m := [.string n]) _ (by rfl) _ _ _ (by rfl) j0 _ 16 Tryz.underlying25 hj0 hy0 hy1 hy2 rfl (by omega) flat_val one_val _ (by rfl) HOwn7.out _ (by rfl) Hr1.out (by rw [List.length_map]; simp only [List.length_cons, List.length_nil]; exact Nat.le_trans (m := 100001) (by have := Hl.out; omega) (by decide)) (by rw [List.length_map]; simp only [List.length_cons, List.length_nil]; have := Hl.out; omega) Hs7.out ?_)
  intro v8 w8 hv8 hg8 hr8 _
  have HB : Hid (Below w.heap.size w w8) := Lib.hid (Hb7.out.trans (below_of_grown (Below.refl _ _) Hs7.out hg8 hr8))
  have HO : Hid (OwnAt RString 1 w8 w.heap.size 9 v8 (way ++ [n])) := Lib.hid (raw_own (L := way ++ [n]) (by rw [List.map_append]; exact hv8))
  clear hv8 hg8 hr8 HOwn7 Hb7 Hs7 Hr1
  go_wp2_with fail
  go_ret
  exact ⟨_, rfl, HO.out, HB.out⟩
end Go.Proofs.YtnmhjabihfhobaaGreatDoor
/- schema: what is not as it should be: plain. -/
namespace Go.Proofs.YtnmhjabihfhobaaGreatDoor
open Go.RowKit
open JP (JV Bs)

def noPart : GPart := ⟨0, [], [], false, 0, 0, 0, [], ByteArray.empty⟩
def partAt (s : List GPart) (i : Int) : GPart := (s[i.toNat]?).getD noPart
def spanL (p : GPart) (n : Int) (way : List Bs) : List (List Bs × Int) := (if n < p.least then [(way, 1)] else []) ++ (if p.most < n then [(way, 2)] else [])
def enumHas (p : GPart) (v : JV) : Bool := p.enum.any fun d => decide (JP.text v = JP.text (JP.readL d.data.toList).1)
def bodyL (s : List GPart) (rec : GPart → List Bs → JV → List (List Bs × Int)) (p : GPart) (way : List Bs) : JV → List (List Bs × Int)
  | .nul => []
  | .bool _ => []
  | .num k => spanL p k way
  | .str b => spanL p b.length way
  | .list l => spanL p l.length way ++ (List.range l.length).flatMap (fun (i : Nat) => rec (partAt s p.items) (way ++ [Lib.itoa (i : Int)]) ((l[i]?).getD .nul))
  | .obj l => p.need.flatMap (fun m => if (JP.get m.data.toList l).isSome = true then [] else [((way ++ [m.data.toList], 7) : List Bs × Int)]) ++
        (l.flatMap (fun y => if (fieldL p.fields (mkB y.1)).isSome = true ∨ p.extra = true then [] else [((way ++ [y.1], 6) : List Bs × Int)]) ++
        l.flatMap (fun y => match fieldL p.fields (mkB y.1) with
          | some k => rec (partAt s k) (way ++ [y.1]) y.2
          | none => []))
/-- the faults, with their ways, in the order in which they are told; n: how many parts may yet follow one another -/
def lookV (s : List GPart) : Nat → GPart → List Bs → JV → List (List Bs × Int)
  | 0, _, _, _ => []
  | n + 1, p, way, v =>
    if JP.kind v ≠ p.kind then [(way, 8)] else
    (if 0 < p.enum.length ∧ enumHas p v = false then [(way, 19)] else []) ++ bodyL s (lookV s n) p way v
theorem span_way {p : GPart} {n : Int} {way : List Bs} {x : List Bs × Int} (h : x ∈ spanL p n way) : x.1 = way ∧ x.2 ≠ 7 := by
  unfold spanL at h
  rcases List.mem_append.1 h with h | h
  · split at h
    · obtain rfl := List.mem_singleton.1 h; exact ⟨rfl, by simp⟩
    · cases h
  · split at h
    · obtain rfl := List.mem_singleton.1 h; exact ⟨rfl, by simp⟩
    · cases h
/-- each fault but one that says that something isn't there leads to something that is -/
theorem look_points (s : List GPart) : ∀ (n : Nat) (p : GPart) (way : List Bs) (v : JV), JP.Fit v → ∀ x ∈ lookV s n p way v, ∃ r, x.1 = way ++ r ∧ ((JP.atW v r).isSome = true ↔ x.2 ≠ 7)
  | 0, _, _, _, _, x, h => by rw [lookV] at h; cases h
  | n + 1, p, way, v, hf, x, h => by
    have here : ∀ x : List Bs × Int, x.1 = way → x.2 ≠ 7 → ∃ r, x.1 = way ++ r ∧ ((JP.atW v r).isSome = true ↔ x.2 ≠ 7) := fun x h1 h2 => ⟨[], by rw [h1, List.append_nil], by rw [JP.atW]; exact ⟨fun _ => h2, fun _ => rfl⟩⟩
    rw [lookV] at h
    split at h
    · obtain rfl := List.mem_singleton.1 h
      exact here _ rfl (by simp)
    · rcases List.mem_append.1 h with h | h
      · split at h
        · obtain rfl := List.mem_singleton.1 h
          exact here _ rfl (by simp)
        · cases h
      · cases v with
        | nul => cases h
        | bool b => cases h
        | num k => obtain ⟨h1, h2⟩ := span_way h; exact here _ h1 h2
        | str b => obtain ⟨h1, h2⟩ := span_way h; exact here _ h1 h2
        | list l =>
          rcases List.mem_append.1 h with h | h
          · obtain ⟨h1, h2⟩ := span_way h; exact here _ h1 h2
          · obtain ⟨i, hi, hx⟩ := List.mem_flatMap.1 h
            have hil : i < l.length := List.mem_range.1 hi
            rw [List.getElem?_eq_getElem hil] at hx
            have hlen : l.length < 1000000000000000000 := by
              have h1 := hf.2.1
              have h2 := sizeL_len l
              have h3 : JP.size (.list l) = 1 + JP.sizeL l := by rw [JP.size]
              omega
            have hc : JP.child (.list l) (Lib.itoa (i : Int)) = some l[i] := by
              show (JP.idx _ l.length).bind _ = _
              rw [JP.idx_of hlen hil rfl]
              exact List.getElem?_eq_getElem hil
            have hfi : JP.Fit l[i] := JP.at_fit (l := [Lib.itoa (i : Int)]) hf (by rw [JP.atW_cons, hc]; rfl)
            obtain ⟨r, e1, e2⟩ := look_points s n _ _ _ hfi x hx
            refine ⟨Lib.itoa (i : Int) :: r, by rw [e1, List.append_assoc]; rfl, ?_⟩
            rw [JP.atW_cons, hc]
            exact e2
        | obj l =>
          obtain ⟨so, fo⟩ := JP.wf_obj hf.1
          rcases List.mem_append.1 h with h | h
          · obtain ⟨m, _, hx⟩ := List.mem_flatMap.1 h
            split at hx
            · cases hx
            · rename_i hg
              obtain rfl := List.mem_singleton.1 hx
              refine ⟨[m.data.toList], rfl, ?_⟩
              rw [JP.atW_cons]
              show (((JP.get m.data.toList l).bind _).isSome = true ↔ (7 : Int) ≠ 7)
              cases hq : JP.get m.data.toList l with
              | none => exact ⟨fun h => (by cases h), fun h => absurd rfl h⟩
              | some z => rw [hq] at hg; exact absurd rfl hg
          · rcases List.mem_append.1 h with h | h
            · obtain ⟨y, hy, hx⟩ := List.mem_flatMap.1 h
              split at hx
              · cases hx
              · obtain rfl := List.mem_singleton.1 hx
                refine ⟨[y.1], rfl, ?_⟩
                rw [JP.atW_cons]
                show (((JP.get y.1 l).bind _).isSome = true ↔ (6 : Int) ≠ 7)
                rw [JP.get_memS so (show (y.1, y.2) ∈ l from hy)]
                exact ⟨fun _ => by decide, fun _ => rfl⟩
            · obtain ⟨y, hy, hx⟩ := List.mem_flatMap.1 h
              have hg := JP.get_memS so (show (y.1, y.2) ∈ l from hy)
              split at hx
              · obtain ⟨r, e1, e2⟩ := look_points s n _ _ _ (JP.fit_at hf hg) x hx
                refine ⟨y.1 :: r, by rw [e1, List.append_assoc]; rfl, ?_⟩
                rw [JP.atW_cons]
                show (((JP.get y.1 l).bind _).isSome = true ↔ _)
                rw [hg]
                exact e2
              · cases hx
end Go.Proofs.YtnmhjabihfhobaaGreatDoor
/- schema: the struct that keeps the faults; fault, span. -/
namespace Go.Proofs.YtnmhjabihfhobaaGreatDoor
namespace Sch
open Go.RowKit
open JP (JV Bs)

/-- all blocks stay but those that the looking turns -/
def StrKeep (w w' : World) : Prop := ∀ (b : Nat) (cs : Array Value) (t : TypeId) (fr : Nat × Nat), w.heap[b]? = some (.cells cs t fr) → t ≠ 84 → t ≠ 46 → w'.heap[b]? = some (.cells cs t fr)
theorem StrKeep.refl (w : World) : StrKeep w w := fun _ _ _ _ h _ _ => h
theorem StrKeep.trans {a b c : World} (h : StrKeep a b) (k : StrKeep b c) : StrKeep a c := fun q cs t fr hq n1 n2 => k q cs t fr (h q cs t fr hq n1 n2) n1 n2
theorem StrKeep.below {w w' : World} (h : Below w.heap.size w w') : StrKeep w w' := fun _ _ _ _ hb _ _ => below_block h hb
/-- texts in a row of texts -/
def StrS (w : World) (v : Value) (l : List ByteArray) : Prop := StrAt w v l ∧ (0 < l.length → ∃ (b o n c : Nat) (cs : Array Value) (fr : Nat × Nat), v = .slice (some ⟨b, o, none⟩) n c ∧ w.heap[b]? = some (.cells cs 9 fr))
theorem StrS.stays {w w' : World} {v : Value} {l : List ByteArray} (h : StrS w v l) (hs : StrKeep w w') : StrS w' v l := by
  obtain ⟨h1, h2⟩ := h
  refine ⟨?_, fun hl => ?_⟩
  · rcases h1 with h3 | ⟨a, c, rfl, h3, h4, h5⟩
    · exact .inl h3
    · refine .inr ⟨a, c, rfl, h3, h4, fun j x hx => ?_⟩
      have hl : 0 < l.length := by have := (List.getElem?_eq_some_iff.1 hx).1; omega
      obtain ⟨b, o, n, c', cs, fr, hv, hb⟩ := h2 hl
      cases hv
      have h6 := h5 j x hx
      have hb' := hs b cs _ fr hb (by decide) (by decide)
      rw [add_plain'] at h6 ⊢
      rw [World.cell?_of_block (a := ⟨b, o + j, none⟩) (w := w) (w' := w') (by show w'.heap[b]? = w.heap[b]?; rw [hb, hb'])]
      exact h6
  · obtain ⟨b, o, n, c', cs, fr, hv, hb⟩ := h2 hl
    exact ⟨b, o, n, c', cs, fr, hv, hs b cs _ fr hb (by decide) (by decide)⟩
theorem strS_own {w : World} {B : Nat} {v : Value} {l : List ByteArray} (h : OwnAt RString 1 w B 9 v l) : StrS w v l := by
  refine ⟨h.row.strs, fun hl => ?_⟩
  rcases h.form with ⟨_, rfl⟩ | ⟨g, c, rfl, _, _, _, _⟩
  · simp at hl
  · obtain ⟨_, _, cur, hc⟩ := h.at (g := g) rfl
    exact ⟨g, 0, _, c, cur, _, rfl, hc⟩
theorem StrS.nil (w : World) : StrS w (.slice none 0 0) [] := ⟨.inl ⟨rfl, rfl⟩, fun h => absurd h (by decide)⟩
theorem join4_any {sv : Value} {way : List Bs} {w : World} (hs : StrAt w sv (way.map mkB)) (ht : (way.map fun s => s.length + 1).sum ≤ 4194304) (hE : Env w) :
    ∃ c, Calls Tryz.prog 17 #[sv] w fun e w' => e = .returned (.tuple #[.string (mkB (pathP way)), .int .i64 c]) ∧ Below w.heap.size w w' := by
  obtain ⟨m, hm⟩ := hE.2.2
  have HJ := ptrJoin_any sv (way.map mkB) m w hs (by rw [total_mk]; exact ht) hm
  rw [List.length_map] at HJ
  unfold pathP
  by_cases h : 10 < way.length
  · rw [if_pos h] at HJ ⊢
    exact ⟨_, HJ⟩
  · rw [if_neg h, joinL_mk] at HJ
    rw [if_neg h]
    exact ⟨_, HJ⟩
/-- a fault as it is told -/
def told (x : List Bs × Int) : GFault := ⟨mkB (pathP x.1), x.2⟩
/-- what was found so far lies there -/
def LookAt (g : Nat) (sv : Value) (F : List GFault) (w : World) : Prop := ∃ fv, w.heap[g]? = some (.cells #[sv, fv] 84 (0, 0)) ∧ OwnAt FaultR 2 w (g + 1) 46 fv F
theorem flat_fault : Flat FaultR := fun _ _ _ _ h => h
theorem one_fault : OneR FaultR := fun w cs x ⟨h1, _⟩ u hu => by
  rw [h1] at hu
  simp only [List.mem_cons, List.not_mem_nil, or_false] at hu
  rcases hu with rfl | rfl <;> rfl
theorem LookAt.below {g : Nat} {sv : Value} {F : List GFault} {w w' : World} (h : LookAt g sv F w) (hb : Below w.heap.size w w') : LookAt g sv F w' := by
  obtain ⟨fv, h1, h2⟩ := h
  exact ⟨fv, below_block hb h1, h2.below stays_fault hb⟩
theorem LookAt.lt {g : Nat} {sv : Value} {F : List GFault} {w : World} (h : LookAt g sv F w) : g < w.heap.size := by
  obtain ⟨fv, h1, _⟩ := h
  exact blk_lt h1
theorem i64_wfS {n : Int} (h1 : -9223372036854775808 ≤ n) (h2 : n ≤ 9223372036854775807) : (Lit.int .i64 n).wf = true := by show (decide _ && decide _) = true; rw [Bool.and_eq_true]; exact ⟨decide_eq_true h1, decide_eq_true h2⟩
/-- what a method of it does -/
def LookSaid (w0 : World) (g : Nat) (sv : Value) (F : List GFault) (w : World) (E : Ending) (w' : World) : Prop :=
  E = .returned (.tuple #[]) ∧ LookAt g sv F w' ∧ Below w0.heap.size w0 w' ∧ StrKeep w w' ∧ w.heap.size ≤ w'.heap.size
theorem Tryz.infoFault : (Tryz.prog.info? 46).map (fun i => (i.zero, i.size, i.bytes)) = some (some (.agg #[.string ByteArray.empty, .int .i64 0]), 2, 24) := by kernel_rfl
set_option maxRecDepth 100000 in
set_option maxHeartbeats 3200000 in
theorem fault_any (w0 : World) (g : Nat) (sv wv : Value) (F : List GFault) (way : List Bs) (e : Int) (w : World) (h : LookAt g sv F w) (hw : StrAt w wv (way.map mkB)) (ht : (way.map fun s => s.length + 1).sum ≤ 4194304) (he : 0 ≤ e ∧ e ≤ 100)
    (hF : F.length ≤ 10000000) (hb0 : Below w0.heap.size w0 w) (hg0 : w0.heap.size ≤ g) (hE : Env w0) :
    Calls Tryz.prog 75 #[.pointer (some ⟨g, 0, none⟩), wv, .int .i64 e] w (LookSaid w0 g sv (F ++ [told (way, e)]) w) := by
  obtain ⟨fv, hg, hown⟩ := h
  obtain ⟨cj, hj⟩ := join4_any hw ht (hE.below hb0)
  obtain ⟨P, hP⟩ : ∃ p, mkB (pathP way) = p := ⟨_, rfl⟩
  have hnew : told (way, e) = ⟨P, e⟩ := by rw [← hP]; rfl
  rw [hnew]
  rw [hP] at hj
  have HJ := Lib.hid hj
  obtain ⟨ao, co, e1, _⟩ := hown.row.len
  obtain ⟨lo, hlo⟩ : ∃ n, F.length = n := ⟨_, rfl⟩
  rw [hlo] at e1
  subst e1
  have hgw : g < w.heap.size := blk_lt hg
  have G1 := Lib.hid hg
  have HOw := Lib.hid hown
  have Hb0 := Lib.hid hb0
  have Hlo := Lib.hid hlo
  have hF2 : F.length ≤ 10000000 := hF
  have Hwf : Hid ((Lit.int .i64 e).wf = true) := Lib.hid (i64_wfS (by omega) (by omega))
  obtain ⟨i0, hi0, hz0, hz1, hz2⟩ := info_parts Tryz.infoFault
  obtain ⟨asv, csv, esv, _⟩ := hw.row.len
  obtain ⟨nsv, hnsv⟩ : ∃ n, (way.map mkB).length = n := ⟨_, rfl⟩
  rw [hnsv] at esv
  subst esv
  clear hg hown hw hb0 hE hj hP hnew hlo hnsv he ht
  go_enter Tryz.func75, Tryz.ntmps75
  go_wp2_with fail
  refine HJ.out.mono ?_
  rintro E w1 ⟨rfl, hb⟩
  have q1 := cell_block (below_block hb G1.out) 1
  have z1 := free_block (below_block hb G1.out) 1
  have HB1 := Lib.hid hb
  have hs1 := hb.size
  have G2 := Lib.hid (below_block hb G1.out)
  have HOw2 := Lib.hid (HOw.out.below stays_fault hb)
  clear hb
  go_wp2_with (at_builtin; refine wpList_append_ownAt (R := FaultR) (k := 2) (e := 46) (B := g + 1) (l := F) (m := [⟨P, e⟩]) _ (by rfl) _ _ _ (by rfl) i0 _ 24 Tryz.underlying42 hi0 hz0 hz1 hz2 rfl (by omega) flat_fault one_fault _ (by rfl) (HOw2.out.alloc stays_fault _) (.slice (some ⟨w1.heap.size, 0, none⟩) 1 1) (by rfl) (RowAt.one (R := FaultR) (k := 2) (cs := #[.string P, .int .i64 e]) (heap_alloc_new w1 _) rfl ⟨rfl, Hwf.out⟩) (by simp only [List.length_cons, List.length_nil]; exact Nat.le_trans (m := 10000001) (by omega) (by decide)) (by simp; omega) (by simp; omega) ?_)
  intro v8 w8 hv8 hg8 hr8 ha8
  have hb8 : Below (g + 1) w1 w8 := below_of_grown (((Below.refl _ w1).alloc (by omega) _)) (by simp; omega) hg8 hr8
  have g8 : w8.heap[g]? = some (.cells #[sv, .slice ao lo co] 84 (0, 0)) := (hb8.block g (by omega)).trans G2.out
  obtain ⟨a8, c8, e8, _⟩ := hv8.row.len
  obtain ⟨n8, hn8⟩ : ∃ n, (F ++ [(⟨P, e⟩ : GFault)]).length = n := ⟨_, rfl⟩
  rw [hn8] at e8
  subst e8
  obtain ⟨W, hW⟩ : ∃ W, W = w8.setCell ⟨g, 1, none⟩ (.slice a8 n8 c8) := ⟨_, rfl⟩
  obtain ⟨t1, t2⟩ := touch_setCell (i := 1) (v := .slice a8 n8 c8) g8
  rw [← hW] at t1 t2
  have HG : Hid (LookAt g sv (F ++ [⟨P, e⟩]) W) := Lib.hid ⟨.slice a8 n8 c8, t1, hv8.touchLow flat_fault t2 (by omega)⟩
  have hsa := sameBut_below (e := 46) ((Below.refl _ w1).alloc (Nat.le_refl _) (.cells #[.string P, .int .i64 e] 46))
  have hsb := (HOw2.out.alloc stays_fault (.cells #[.string P, .int .i64 e] 46)).sameBut hg8
  have HK : Hid (StrKeep w W) := Lib.hid (fun b cs t fr hq n1 n2 => by
    have h1 := StrKeep.below HB1.out b cs t fr hq n1 n2
    have h2 := hsa b cs t fr h1 n2
    have h3 := hsb b cs t fr h2 n2
    refine (t2.other b fun e => ?_).trans h3
    rw [e, g8] at h3
    cases h3
    exact n1 rfl)
  have hbw8 : Below (g + 1) w w8 := (HB1.out.mono (by omega)).trans hb8
  have hb08 : Below w0.heap.size w0 w8 := Hb0.out.trans (hbw8.mono (by omega))
  have HB := Lib.hid (t2.below hb08 hg0)
  have HZ : Hid (w.heap.size ≤ W.heap.size) := Lib.hid (by rw [t2.size]; exact hbw8.size)
  have q8 := cell_block g8 1
  have z8 := free_block g8 1
  clear t1 t2 hv8 hg8 hr8 hb8 g8 hbw8 hn8 q1 z1 hsa hsb ha8 hb08
  go_wp2_with fail
  rw [← hW]
  go_end0
  exact ⟨rfl, HG.out, HB.out, HK.out, HZ.out⟩
set_option maxRecDepth 100000 in
set_option maxHeartbeats 3200000 in
theorem span_any (w0 : World) (g : Nat) (sv wv : Value) (F : List GFault) (way : List Bs) (n : Int) (p : GPart) (v1 v2 v7 : Value) (w : World) (h : LookAt g sv F w) (hw : StrS w wv (way.map mkB)) (ht : (way.map fun s => s.length + 1).sum ≤ 4194304)
    (hF : F.length ≤ 9000000) (hb0 : Below w0.heap.size w0 w) (hg0 : w0.heap.size ≤ g) (hE : Env w0) :
    Calls Tryz.prog 79 #[.pointer (some ⟨g, 0, none⟩), .agg #[.int .i64 p.kind, v1, v2, .bool p.extra, .int .i64 p.items, .int .i64 p.least, .int .i64 p.most, v7, .string p.deflt], .int .i64 n, wv] w (LookSaid w0 g sv (F ++ (spanL p n way).map told) w) := by
  have HL := Lib.hid h
  have HW := Lib.hid hw
  have HB := Lib.hid hb0
  have HE := Lib.hid hE
  obtain ⟨asv, csv, esv, _⟩ := hw.1.row.len
  obtain ⟨nsv, hnsv⟩ : ∃ n, (way.map mkB).length = n := ⟨_, rfl⟩
  rw [hnsv] at esv
  subst esv
  obtain ⟨w1, hw1⟩ : ∃ w1, w1 = w.alloc (.cells #[.int .i64 p.kind, v1, v2, .bool p.extra, .int .i64 p.items, .int .i64 p.least, .int .i64 p.most, v7, .string p.deflt] 73) := ⟨_, rfl⟩
  have hb1 : Below w.heap.size w w1 := by rw [hw1]; exact (Below.refl _ w).alloc (Nat.le_refl _) _
  have hbox : w1.heap[w.heap.size]? = some (.cells #[.int .i64 p.kind, v1, v2, .bool p.extra, .int .i64 p.items, .int .i64 p.least, .int .i64 p.most, v7, .string p.deflt] 73 (0, 0)) := by rw [hw1]; exact heap_alloc_new w _
  obtain ⟨gp, hgp⟩ : ∃ gp, gp = w.heap.size := ⟨_, rfl⟩
  have hgg : g < gp := by rw [hgp]; exact h.lt
  rw [← hgp] at hbox
  have L1 := Lib.hid (h.below hb1)
  have W1 := Lib.hid (hw.stays (StrKeep.below hb1))
  have B1 := Lib.hid (hb0.trans (hb1.mono hb0.size))
  have K1 := Lib.hid (StrKeep.below hb1)
  have Z1 : Hid (w.heap.size ≤ w1.heap.size) := Lib.hid hb1.size
  have c5 := cell_block hbox 5
  have c6 := cell_block hbox 6
  have BX := Lib.hid hbox
  obtain ⟨l1, hl1⟩ : ∃ b, decide (n < p.least) = b := ⟨_, rfl⟩
  obtain ⟨l2, hl2⟩ : ∃ b, decide (p.most < n) = b := ⟨_, rfl⟩
  have Hres : Hid ((spanL p n way).map told = (if l1 = true then [told (way, 1)] else []) ++ (if l2 = true then [told (way, 2)] else [])) := Lib.hid (by
    unfold spanL
    rw [List.map_append, ← hl1, ← hl2]
    congr 1
    · by_cases h : n < p.least
      · rw [if_pos h, if_pos (decide_eq_true h)]; rfl
      · rw [if_neg h, if_neg (by simpa using h)]; rfl
    · by_cases h : p.most < n
      · rw [if_pos h, if_pos (decide_eq_true h)]; rfl
      · rw [if_neg h, if_neg (by simpa using h)]; rfl)
  clear h hw hb0 hE hb1 hbox hnsv
  go_enter Tryz.func79, Tryz.ntmps79
  go_upto_region 1 with fail
  rw [← hw1]
  rw [← hgp]
  clear hw1 hgp
  cases l1 with
  | true =>
    go_wp2_with fail
    refine (fault_any w0 g sv _ F way 1 w1 L1.out W1.out.1 ht ⟨by decide, by decide⟩ (by omega) B1.out hg0 HE.out).mono ?_
    rintro E w2 ⟨rfl, h1, h2, h3, h4⟩
    have L2 := Lib.hid h1
    have B2 := Lib.hid h2
    have W2 := Lib.hid (W1.out.stays h3)
    have K2 := Lib.hid (K1.out.trans h3)
    have Z2 : Hid (w.heap.size ≤ w2.heap.size) := Lib.hid (Nat.le_trans Z1.out h4)
    have BX2 := h3 _ _ _ _ BX.out (by decide) (by decide)
    clear c5 c6
    have c5 := cell_block BX2 5
    have c6 := cell_block BX2 6
    clear h1 h2 h3 h4 BX2
    cases l2 with
    | true =>
      go_wp2_with fail
      refine (fault_any w0 g sv _ (F ++ [told (way, 1)]) way 2 w2 L2.out W2.out.1 ht ⟨by decide, by decide⟩ (by simp; omega) B2.out hg0 HE.out).mono ?_
      rintro E w3 ⟨rfl, h1, h2, h3, h4⟩
      have L3 := Lib.hid h1
      have B3 := Lib.hid h2
      have K3 := Lib.hid (K2.out.trans h3)
      have Z3 : Hid (w.heap.size ≤ w3.heap.size) := Lib.hid (Nat.le_trans Z2.out h4)
      clear h1 h2 h3 h4
      go_wp2_with fail
      go_end0
      exact ⟨rfl, by rw [Hres.out]; simpa using L3.out, B3.out, K3.out, Z3.out⟩
    | false =>
      go_wp2_with fail
      go_end0
      exact ⟨rfl, by rw [Hres.out]; simpa using L2.out, B2.out, K2.out, Z2.out⟩
  | false =>
    cases l2 with
    | true =>
      go_wp2_with fail
      refine (fault_any w0 g sv _ F way 2 w1 L1.out W1.out.1 ht ⟨by decide, by decide⟩ (by omega) B1.out hg0 HE.out).mono ?_
      rintro E w3 ⟨rfl, h1, h2, h3, h4⟩
      have L3 := Lib.hid h1
      have B3 := Lib.hid h2
      have K3 := Lib.hid (K1.out.trans h3)
      have Z3 : Hid (w.heap.size ≤ w3.heap.size) := Lib.hid (Nat.le_trans Z1.out h4)
      clear h1 h2 h3 h4
      go_wp2_with fail
      go_end0
      exact ⟨rfl, by rw [Hres.out]; simpa using L3.out, B3.out, K3.out, Z3.out⟩
    | false =>
      go_wp2_with fail
      go_end0
      exact ⟨rfl, by rw [Hres.out]; simpa using L1.out, B1.out, K1.out, Z1.out⟩
end Sch
end Go.Proofs.YtnmhjabihfhobaaGreatDoor
/- schema: through, Prune: plain, and its laws. -/
namespace Go.Proofs.YtnmhjabihfhobaaGreatDoor
open Go.RowKit
open JP (JV Bs)

abbrev Flds := List (Bs × JV)
def kidV (p : GPart) (rec : Int → JV → JV) (y : Bs × JV) : Bs × JV := match fieldL p.fields (mkB y.1) with
  | some k => (y.1, rec k y.2)
  | none => y
def bodyT (s : List GPart) (mk : GPart → Flds → Flds) (rec : GPart → JV → JV) (p : GPart) : JV → JV
  | .list l => .list (l.map (rec (partAt s p.items)))
  | .obj l => .obj ((mk p l).map (kidV p fun k => rec (partAt s k)))
  | v => v
/-- something made of each object of a part, from the outermost one on -/
def thruV (s : List GPart) (mk : GPart → Flds → Flds) : Nat → GPart → JV → JV
  | 0, _, v => v
  | n + 1, p, v => if JP.kind v ≠ p.kind then v else bodyT s mk (thruV s mk n) p v
def pruneO (p : GPart) (l : Flds) : Flds := l.filter fun y => (fieldL p.fields (mkB y.1)).isSome || p.extra
theorem kidV_name (p : GPart) (rec : Int → JV → JV) (y : Bs × JV) : (kidV p rec y).1 = y.1 := by
  unfold kidV; split <;> rfl
theorem kind_bodyT (s : List GPart) (mk : GPart → Flds → Flds) (rec : GPart → JV → JV) (p : GPart) (v : JV) : JP.kind (bodyT s mk rec p v) = JP.kind v := by cases v <;> rfl
theorem pruneO_again (p : GPart) (rec : Int → JV → JV) (l : Flds) : pruneO p ((pruneO p l).map (kidV p rec)) = (pruneO p l).map (kidV p rec) := by
  refine List.filter_eq_self.2 fun y hy => ?_
  obtain ⟨z, hz, rfl⟩ := List.mem_map.1 hy
  rw [kidV_name]
  exact (List.mem_filter.1 hz).2
/-- pruned again: the same -/
theorem prune_again (s : List GPart) : ∀ (n : Nat) (p : GPart) (v : JV), thruV s pruneO n p (thruV s pruneO n p v) = thruV s pruneO n p v
  | 0, _, _ => rfl
  | n + 1, p, v => by
    have ih := prune_again s n
    rw [thruV, thruV]
    by_cases hk : JP.kind v ≠ p.kind
    · rw [if_pos hk, if_pos hk]
    · rw [if_neg hk, kind_bodyT, if_neg hk]
      cases v with
      | list l =>
        show JV.list _ = JV.list _
        rw [List.map_map]
        exact congrArg JV.list (List.map_congr_left fun x _ => ih _ x)
      | obj l =>
        show JV.obj ((pruneO p ((pruneO p l).map _)).map _) = JV.obj _
        rw [pruneO_again, List.map_map]
        refine congrArg JV.obj (List.map_congr_left fun y _ => ?_)
        show kidV p _ (kidV p _ y) = kidV p _ y
        unfold kidV
        cases hf : fieldL p.fields (mkB y.1) with
        | none => dsimp only; rw [hf]
        | some k => dsimp only; rw [hf]; dsimp only; rw [ih]
      | _ => rfl
/-- what is pruned has no field that nobody knows -/
theorem prune_known (s : List GPart) : ∀ (n : Nat) (p : GPart) (way : List Bs) (v : JV), ∀ x ∈ lookV s n p way (thruV s pruneO n p v), x.2 ≠ 6
  | 0, _, _, _, x, h => by rw [lookV] at h; cases h
  | n + 1, p, way, v, x, h => by
    have ih := prune_known s n
    have span6 : ∀ {k : Int}, x ∈ spanL p k way → x.2 ≠ 6 := fun {k} h => by
      unfold spanL at h
      rcases List.mem_append.1 h with h | h
      · split at h
        · obtain rfl := List.mem_singleton.1 h; simp
        · cases h
      · split at h
        · obtain rfl := List.mem_singleton.1 h; simp
        · cases h
    rw [lookV, thruV] at h
    by_cases hk : JP.kind v ≠ p.kind
    · rw [if_pos hk, if_pos hk] at h
      obtain rfl := List.mem_singleton.1 h; simp
    · rw [if_neg hk, kind_bodyT, if_neg hk] at h
      rcases List.mem_append.1 h with h | h
      · split at h
        · obtain rfl := List.mem_singleton.1 h; simp
        · cases h
      · cases v with
        | nul => cases h
        | bool b => cases h
        | num k => exact span6 h
        | str b => exact span6 h
        | list l =>
          rcases List.mem_append.1 h with h | h
          · exact span6 h
          · obtain ⟨i, hi, hx⟩ := List.mem_flatMap.1 h
            have hil : i < l.length := by have := List.mem_range.1 hi; rwa [List.length_map] at this
            rw [List.getElem?_map, List.getElem?_eq_getElem hil] at hx
            exact ih _ _ _ x hx
        | obj l =>
          rcases List.mem_append.1 h with h | h
          · obtain ⟨m, _, hx⟩ := List.mem_flatMap.1 h
            split at hx
            · cases hx
            · obtain rfl := List.mem_singleton.1 hx; simp
          · rcases List.mem_append.1 h with h | h
            · obtain ⟨y, hy, hx⟩ := List.mem_flatMap.1 h
              obtain ⟨z, hz, rfl⟩ := List.mem_map.1 hy
              rw [kidV_name] at hx
              have hz2 := (List.mem_filter.1 hz).2
              rw [Bool.or_eq_true] at hz2
              rw [if_pos hz2] at hx
              cases hx
            · obtain ⟨y, hy, hx⟩ := List.mem_flatMap.1 h
              obtain ⟨z, hz, rfl⟩ := List.mem_map.1 hy
              rw [kidV_name] at hx
              unfold kidV at hx
              cases hf : fieldL p.fields (mkB z.1) with
              | none => rw [hf] at hx; cases hx
              | some k => rw [hf] at hx; exact ih _ _ _ x hx
end Go.Proofs.YtnmhjabihfhobaaGreatDoor
/- schema: what was pruned is no more than what was there. -/
namespace Go.Proofs.YtnmhjabihfhobaaGreatDoor
open Go.RowKit
open JP (JV Bs)

/-- no more than -/
def LessV (a b : JV) : Prop := JP.size a ≤ JP.size b ∧ JP.deep a ≤ JP.deep b ∧ (JP.text a).length ≤ (JP.text b).length ∧ (JP.wf b → JP.wf a)
theorem LessV.refl (v : JV) : LessV v v := ⟨Nat.le_refl _, Nat.le_refl _, Nat.le_refl _, id⟩
theorem less_listL {f : JV → JV} (hf : ∀ v, LessV (f v) v) : ∀ l : List JV, JP.sizeL (l.map f) ≤ JP.sizeL l ∧ JP.deepL (l.map f) ≤ JP.deepL l ∧ JP.lenL (l.map f) ≤ JP.lenL l ∧ (JP.wfL l → JP.wfL (l.map f))
  | [] => ⟨Nat.le_refl _, Nat.le_refl _, Nat.le_refl _, id⟩
  | v :: r => by
    obtain ⟨h1, h2, h3, h4⟩ := less_listL hf r
    obtain ⟨k1, k2, k3, k4⟩ := hf v
    rw [List.map_cons, JP.sizeL, JP.sizeL, JP.deepL, JP.deepL, JP.lenL, JP.lenL, JP.wfL, JP.wfL]
    exact ⟨by omega, by omega, by omega, fun h => ⟨k4 h.1, h4 h.2⟩⟩
theorem less_fields {q : Bs × JV → Bool} {g : Bs × JV → Bs × JV} (hg : ∀ y, (g y).1 = y.1 ∧ LessV (g y).2 y.2) : ∀ l : List (Bs × JV), JP.sizeF ((l.filter q).map g) ≤ JP.sizeF l ∧ JP.deepF ((l.filter q).map g) ≤ JP.deepF l ∧ JP.lenF ((l.filter q).map g) ≤ JP.lenF l ∧ (JP.wfF l → JP.wfF ((l.filter q).map g))
  | [] => ⟨Nat.le_refl _, Nat.le_refl _, Nat.le_refl _, id⟩
  | (n, v) :: r => by
    obtain ⟨h1, h2, h3, h4⟩ := less_fields (q := q) hg r
    obtain ⟨e, k1, k2, k3, k4⟩ := hg (n, v)
    obtain ⟨m, u, hm⟩ : ∃ m u, g (n, v) = (m, u) := ⟨_, _, rfl⟩
    rw [hm] at e k1 k2 k3 k4
    obtain rfl : m = n := e
    dsimp only at k1 k2 k3 k4
    by_cases hq : q (m, v) = true
    · rw [List.filter_cons_of_pos hq, List.map_cons, hm, JP.sizeF, JP.sizeF, JP.deepF, JP.deepF, JP.lenF, JP.lenF, JP.wfF, JP.wfF]
      exact ⟨by omega, by omega, by omega, fun h => ⟨h.1, k4 h.2.1, h4 h.2.2⟩⟩
    · rw [List.filter_cons_of_neg hq, JP.sizeF, JP.deepF, JP.lenF, JP.wfF]
      exact ⟨by omega, by omega, by omega, fun h => h4 h.2.2⟩
theorem less_list {f : JV → JV} (hf : ∀ v, LessV (f v) v) (l : List JV) : LessV (.list (l.map f)) (.list l) := by
  obtain ⟨h1, h2, h3, h4⟩ := less_listL hf l
  refine ⟨by rw [JP.size, JP.size]; omega, by rw [JP.deep, JP.deep]; omega, ?_, fun h => by rw [JP.wf] at h ⊢; exact h4 h⟩
  rcases JP.join_len l with e | rfl
  · have e2 : (JP.text (.list l)).length = 1 + JP.lenL l := by rw [JP.text]; simp only [List.length_cons, List.length_append, List.length_nil]; omega
    rcases JP.text_list_len (l.map f) with k | ⟨k, k2⟩
    · omega
    · have : l = [] := List.map_eq_nil_iff.1 k
      subst this
      exact Nat.le_refl _
  · exact Nat.le_refl _
theorem less_obj {q : Bs × JV → Bool} {g : Bs × JV → Bs × JV} (hg : ∀ y, (g y).1 = y.1 ∧ LessV (g y).2 y.2) (l : List (Bs × JV)) : LessV (.obj ((l.filter q).map g)) (.obj l) := by
  obtain ⟨h1, h2, h3, h4⟩ := less_fields (q := q) hg l
  refine ⟨by rw [JP.size, JP.size]; omega, by rw [JP.deep, JP.deep]; omega, ?_, fun h => ?_⟩
  · rcases JP.join_lenF l with e | rfl
    · have e2 : (JP.text (.obj l)).length = 1 + JP.lenF l := by rw [JP.text]; simp only [List.length_cons, List.length_append, List.length_nil]; omega
      rcases JP.text_obj_len ((l.filter q).map g) with k | ⟨k, k2⟩
      · omega
      · rw [k2, e2]
        rw [JP.text] at e2
        simp only [List.length_cons, List.length_append, List.length_nil] at e2
        omega
    · exact Nat.le_refl _
  · rw [JP.wf] at h ⊢
    refine ⟨?_, h4 h.2⟩
    have hs : JP.Srt (l.filter q) := List.Pairwise.sublist List.filter_sublist h.1
    refine List.pairwise_map.2 (List.Pairwise.imp ?_ hs)
    intro a b hab
    rw [(hg a).1, (hg b).1]
    exact hab
theorem prune_less (s : List GPart) : ∀ (n : Nat) (p : GPart) (v : JV), LessV (thruV s pruneO n p v) v
  | 0, _, v => LessV.refl v
  | n + 1, p, v => by
    have ih := prune_less s n
    rw [thruV]
    split
    · exact LessV.refl v
    · cases v with
      | list l => exact less_list (fun v => ih _ v) l
      | obj l =>
        refine less_obj (fun y => ⟨kidV_name _ _ _, ?_⟩) l
        unfold kidV
        split
        · exact ih _ _
        · exact LessV.refl _
      | _ => exact LessV.refl _
theorem LessV.fit {a b : JV} (h : LessV a b) (hb : JP.Fit b) : JP.Fit a := ⟨h.2.2.2 hb.1, Nat.le_trans h.1 hb.2.1, Nat.le_trans h.2.1 hb.2.2.1, Nat.le_trans h.2.2.1 hb.2.2.2⟩
end Go.Proofs.YtnmhjabihfhobaaGreatDoor
