/- Texts of ours joined: DelVal, DelStr, JsonWithout, ThreePlain, ThreeLaws, ThreeLoses, ThreeSteps, JsonNames. -/
import Derived.ArgAppend
import Derived.BigQuiet
import Derived.Deep.DeepCutAuto
import Derived.Deep.LoopGhost
import Derived.Test.YtnmhjabihfhobaaGreatDoorMw6
set_option linter.unusedVariables false
set_option linter.unusedSimpArgs false
/- slices.Delete at a row of values: one element. -/
namespace Go.Proofs.YtnmhjabihfhobaaGreatDoor
open Go.RowKit

theorem wpList_append_here {P : Program} (w : World) {ops : Array Oper} {rest : List Oper} {o : Oper} {a : Act} {Q : Exit → Act → World → Prop} (hg : o.guard = none) (s x : Operand) (t : TypeId)
    (ho : o.op = .call { callee := .builtin .append, args := #[s, x], argTypes := #[t, t] }) (e : TypeId) (i : TypeInfo) (ht : P.underlying t = some (.slice e)) (hi : P.info? e = some i) (h1s : i.size = 1)
    (b n c p m c2 : Nat) (hs : a.eval s = .slice (some ⟨b, 0, none⟩) n c) (hx : a.eval x = .slice (some ⟨b, p, none⟩) m c2) (news : List Value) (hl : news.length = m) (hn : ∀ j u, news[j]? = some u → w.cell? ⟨b, p + j, none⟩ = some u) (h1 : ∀ u ∈ news, u.oneCell' = true)
    (hroom : n + m ≤ c) (hc : ∀ j, j < m → (w.cell? ⟨b, n + j, none⟩).isSome = true) (hf : ∀ j, j < m → w.frozen? ⟨b, n + j, none⟩ = false)
    (h : wpList P ops Q rest (a.put o.dst (.slice (some ⟨b, 0, none⟩) (n + m) c)) (w.setCells b n news)) : wpList P ops Q (o :: rest) a w := by
  refine wpList_plain hg fun K hK' => ?_
  have hrun := run_append_room_cells (P := P) w t o.type e i ht hi b 0 n c ⟨b, p, none⟩ m c2 news (by rw [h1s, Nat.mul_one]; exact hl) (fun j u hu => by rw [add_plain']; exact hn j u hu) h1 hroom (fun j hj => by rw [h1s, Nat.mul_one, Nat.zero_add]; exact hc j (by omega)) (fun j hj => by rw [h1s, Nat.mul_one, Nat.zero_add]; exact hf j (by omega))
  rw [h1s, Nat.mul_one, Nat.zero_add] at hrun
  unfold Oper.wp
  simp [execOp, ho, resolve, invoke, builtin, hs, hx, hrun, Result.andThen]
  exact hK' _ _ h
set_option maxRecDepth 100000 in
set_option maxHeartbeats 3200000 in
theorem delVal_any (v : Value) (xs : List Value) (B i : Nat) (w : World) (h : OwnAt RVal 1 w B 53 v xs) (hi : i < xs.length) (hl : xs.length ≤ 1048576) :
    Calls Tryz.prog 72 #[v, .int .i64 (i : Int), .int .i64 ((i : Int) + 1)] w fun e w' => ∃ g c, v = .slice (some ⟨g, 0, none⟩) xs.length c ∧ B ≤ g ∧ e = .returned (.slice (some ⟨g, 0, none⟩) (xs.length - 1) c) ∧ OwnAt RVal 1 w' B 53 (.slice (some ⟨g, 0, none⟩) (xs.length - 1) c) (xs.eraseIdx i) ∧ Touch g w w' := by
  obtain ⟨i0, hi0, hz0, hz1, hz2⟩ := info_parts Tryz.infoVal
  have h1c := h.ones
  have ho := own_raw h
  rcases ho.2 with ⟨_, h0⟩ | ⟨g, c, cur, rfl, hB, hh, hlc, hc, hcs, htk⟩
  · omega
  have hcur : ∀ (j : Nat) (y : Value), xs[j]? = some y → cur[j]? = some y := fun j y hy => by
    have := ho.cells (g := g) rfl j y hy
    rw [add_plain', Nat.zero_add, cell_block hh] at this
    exact this
  obtain ⟨n, hn⟩ : ∃ n, xs.length = n := ⟨_, rfl⟩
  obtain ⟨m, hm⟩ : ∃ m, n - (i + 1) = m := ⟨_, rfl⟩
  have Hn := Lib.hid hn
  have Hh := Lib.hid hh
  have Hcur := Lib.hid hcur
  have H1 := Lib.hid h1c
  have Hcs := Lib.hid hcs
  have hin : i < n := by omega
  have him : i + m + 1 ≤ n := by omega
  have him2 : n ≤ i + m + 1 := by omega
  have hnc : n ≤ c := by rw [← hn]; exact hlc
  have hcm : c ≤ 9223372036854775807 := by unfold maxLen at hc; omega
  have hn2 : n ≤ 1048576 := by omega
  rw [hn]
  have q1 : (0 : Int) ≤ (i : Int) := by omega
  have q2 : (i : Int) ≤ (i : Int) + 1 := by omega
  have q3 : (i : Int) + 1 ≤ (n : Int) := by omega
  have q4 : (n : Int) ≤ (c : Int) := by omega
  have q5 : (0 : Int) ≤ (i : Int) + 1 := by omega
  have q6 : ((i : Int) + 1).toNat = i + 1 := by omega
  have q7 : ((i : Int) == (i : Int) + 1) = false := by rw [beq_eq_false_iff_ne]; omega
  have q8 : (i : Int) ≤ (c : Int) := by omega
  clear h ho hcur h1c hh hn hl hi htk hlc
  go_enter Tryz.func72, Tryz.ntmps72
  go_upto_region 5 with fail
  refine wp_region_hold 6 (fun w' => ∃ q, w' = w.drewN q) (by kernel_rfl) (by kernel_rfl) ?_ ?_
  · exact ⟨1, rfl⟩
  simp only [List.take_succ_cons, List.take_zero, List.drop_succ_cons, List.drop_zero]
  (first | (refine wpHold_pure (v := ?_) (by rfl) (fun w => ?_) ?_; rotate_left; focus (first | (go_simp; done) | (go_simp; with_reducible rfl))) | (refine wpHold_skip ?_ ?_; focus (go_simp; done)) | (refine wpHold_pure' (v := ?_) ?_ (fun w => ?_) ?_; rotate_left; focus (go_simp; done); focus (first | (go_simp; done) | (go_simp; with_reducible rfl)))); try simp only [Act.put, List.setIfInBounds_toArray, List.set_cons_zero, List.set_cons_succ]
  (first | (refine wpHold_pure (v := ?_) (by rfl) (fun w => ?_) ?_; rotate_left; focus (first | (go_simp; done) | (go_simp; with_reducible rfl))) | (refine wpHold_skip ?_ ?_; focus (go_simp; done)) | (refine wpHold_pure' (v := ?_) ?_ (fun w => ?_) ?_; rotate_left; focus (go_simp; done); focus (first | (go_simp; done) | (go_simp; with_reducible rfl)))); try simp only [Act.put, List.setIfInBounds_toArray, List.set_cons_zero, List.set_cons_succ]
  refine wpHold_pure (v := .slice (some ⟨g, 0, none⟩) i c) (by rfl) (fun w => ?_) ?_
  · go_simp
    done
  try simp only [Act.put, List.setIfInBounds_toArray, List.set_cons_zero, List.set_cons_succ]
  (first | (refine wpHold_pure (v := ?_) (by rfl) (fun w => ?_) ?_; rotate_left; focus (first | (go_simp; done) | (go_simp; with_reducible rfl))) | (refine wpHold_skip ?_ ?_; focus (go_simp; done)) | (refine wpHold_pure' (v := ?_) ?_ (fun w => ?_) ?_; rotate_left; focus (go_simp; done); focus (first | (go_simp; done) | (go_simp; with_reducible rfl)))); try simp only [Act.put, List.setIfInBounds_toArray, List.set_cons_zero, List.set_cons_succ]
  (first | (refine wpHold_pure (v := ?_) (by rfl) (fun w => ?_) ?_; rotate_left; focus (first | (go_simp; done) | (go_simp; with_reducible rfl))) | (refine wpHold_skip ?_ ?_; focus (go_simp; done)) | (refine wpHold_pure' (v := ?_) ?_ (fun w => ?_) ?_; rotate_left; focus (go_simp; done); focus (first | (go_simp; done) | (go_simp; with_reducible rfl)))); try simp only [Act.put, List.setIfInBounds_toArray, List.set_cons_zero, List.set_cons_succ]
  obtain ⟨p, hp⟩ : ∃ p, (c = i + 1 ∧ p = 0) ∨ (c ≠ i + 1 ∧ p = i + 1) := by
    by_cases h : c = i + 1
    · exact ⟨0, .inl ⟨h, rfl⟩⟩
    · exact ⟨i + 1, .inr ⟨h, rfl⟩⟩
  refine wpHold_pure (v := .slice (some ⟨g, p, none⟩) m (c - (i + 1))) (by rfl) (fun w => ?_) ?_
  · rcases hp with ⟨h1, rfl⟩ | ⟨h1, rfl⟩
    · have h2 : n = i + 1 := by omega
      rw [← hm]
      go_simp
    · rw [← hm]
      go_simp
  try simp only [Act.put, List.setIfInBounds_toArray, List.set_cons_zero, List.set_cons_succ]
  refine wpHold_nil ?_
  rintro w' ⟨q, rfl⟩
  try simp only [Act.put, List.setIfInBounds_toArray, List.set_cons_zero, List.set_cons_succ]
  have hml : (xs.drop (i + 1)).length = m := by rw [List.length_drop, Hn.out]; exact hm
  have Hml := Lib.hid hml
  have hnews : ∀ (j : Nat) (u : Value), (xs.drop (i + 1))[j]? = some u → (w.drewN q).cell? ⟨g, p + j, none⟩ = some u := fun j u hu => by
    have hj : j < m := by have := (List.getElem?_eq_some_iff.1 hu).1; omega
    rcases hp with ⟨h1, _⟩ | ⟨_, rfl⟩
    · omega
    · rw [List.getElem?_drop] at hu
      exact (cell_block (w := w.drewN q) Hh.out (i + 1 + j)).trans (Hcur.out _ _ hu)
  have hth : ∀ j, j < m → ((w.drewN q).cell? ⟨g, i + j, none⟩).isSome = true ∧ (w.drewN q).frozen? ⟨g, i + j, none⟩ = false := fun j hj => by
    refine ⟨?_, free_block (w := w.drewN q) Hh.out _⟩
    rw [cell_block (w := w.drewN q) Hh.out, Array.getElem?_eq_getElem (by rw [Hcs.out]; omega)]
    rfl
  have Hnews := Lib.hid hnews
  have Hth := Lib.hid hth
  clear hnews hth hml hp
  obtain ⟨k, hk⟩ : ∃ k, i + m = k := ⟨_, rfl⟩
  have Hk := Lib.hid hk
  have hkn : k + 1 ≤ n := by omega
  have hkn2 : n ≤ k + 1 := by omega
  refine (wpList_append_here _ (by rfl) _ _ _ (by rfl) 53 i0 Tryz.underlying49 hi0 hz1 g i c p m (c - (i + 1)) (by rfl) (by rfl) (xs.drop (i + 1)) Hml.out Hnews.out (fun u hu => H1.out u (List.mem_of_mem_drop hu)) (by omega) (fun j hj => (Hth.out j hj).1) (fun j hj => (Hth.out j hj).2) ?_)
  obtain ⟨cur2, k1, k2, k3, k4, k5⟩ := setCells_all g 53 (xs.drop (i + 1)) i cur (w.drewN q) Hh.out (by rw [Hml.out, Hcs.out]; omega)
  rw [Hml.out, hk] at k3
  rw [hk]
  generalize hW : World.setCells (w.drewN q) g i (xs.drop (i + 1)) = W at k1 k5 ⊢
  have K1 := Lib.hid k1
  have K2 := Lib.hid k2
  have K3 := Lib.hid k3
  have K4 := Lib.hid k4
  have K5 : Hid (Touch g w W) := Lib.hid ⟨k5.os, k5.tape, k5.output, k5.size, k5.other⟩
  clear hW k1 k2 k3 k4 k5 hk
  have r1 : (0 : Int) ≤ (k : Int) := by omega
  have r2 : (k : Int) ≤ (n : Int) := by omega
  have r3 : ¬ c = k := by omega
  go_upto_region 6 with fail
  iterate 16 go_step
  have hzs : (Builtin.zeroCells (Value.nilIface).cells (n - k)).size = n - k := (zeroCells_size _ _).trans (Nat.mul_one _)
  have hthere : W.there g k (Builtin.zeroCells (Value.nilIface).cells (n - k)).size := fun j hj => by
    refine ⟨?_, free_block K1.out _⟩
    rw [cell_block K1.out, Array.getElem?_eq_getElem (by rw [K2.out, Hcs.out]; omega)]
    rfl
  have Hthere := Lib.hid hthere
  have Hzs := Lib.hid hzs
  clear hthere hzs
  refine wpList_clear_rows W (by rfl) _ _ 53 (by rfl) .nilIface Tryz.underlying49 Tryz.zeroValue53 (by simp [Value.cells, Value.oneCell']) g k (n - k) (c - k) (by omega) (by rfl) Hthere.out ?_
  obtain ⟨cur3, k1, k2, k3, k4, k5⟩ := setCells_all g 53 (Builtin.zeroCells (Value.nilIface).cells (n - k)).toList k cur2 W K1.out (by rw [Array.length_toList, Hzs.out, K2.out, Hcs.out]; omega)
  generalize hW : World.setCells W g k _ = W2 at k1 k5 ⊢
  have L1 := Lib.hid k1
  have L2 := Lib.hid k2
  have L3 := Lib.hid k3
  have L5 : Hid (Touch g w W2) := Lib.hid ⟨k5.os.trans K5.out.os, k5.tape.trans K5.out.tape, k5.output.trans K5.out.output, k5.size.trans K5.out.size, fun b hb => (k5.other b hb).trans (K5.out.other b hb)⟩
  clear hW k1 k2 k3 k4 k5
  go_wp2_with fail
  go_ret
  have hel : (xs.eraseIdx i).length = k := by rw [List.length_eraseIdx_of_lt (by rw [Hn.out]; exact hin), Hn.out]; omega
  have hnk : n - 1 = k := by omega
  refine ⟨g, c, rfl, hB, by rw [hnk] <;> rfl, ?_, L5.out⟩
  rw [hnk]
  have hres := own_of_cells (xs := xs.eraseIdx i) (B := B) (c := c) L1.out hB (by rw [hel]; omega) hc (by rw [L2.out, K2.out, Hcs.out, Nat.mul_one]) (fun j u hu => ?_) (fun u hu => H1.out u (List.mem_of_mem_eraseIdx hu))
  · rw [hel] at hres
    exact hres
  · have hjk : j < k := by rw [← hel]; exact (List.getElem?_eq_some_iff.1 hu).1
    rw [L3.out j (.inl hjk)]
    rw [List.getElem?_eraseIdx] at hu
    by_cases hji : j < i
    · rw [if_pos hji] at hu
      rw [K3.out j (.inl hji)]
      exact Hcur.out j u hu
    · rw [if_neg hji] at hu
      have := K4.out (j - i) u (by rw [List.getElem?_drop, show i + 1 + (j - i) = j + 1 by omega]; exact hu)
      rw [show i + (j - i) = j by omega] at this
      exact this
end Go.Proofs.YtnmhjabihfhobaaGreatDoor
/- slices.Delete at a row of texts, as their cells: one element. -/
namespace Go.Proofs.YtnmhjabihfhobaaGreatDoor
open Go.RowKit

set_option maxRecDepth 100000 in
set_option maxHeartbeats 3200000 in
theorem delStr_any (v : Value) (xs : List Value) (B i : Nat) (w : World) (h : OwnAt RVal 1 w B 9 v xs) (hi : i < xs.length) (hl : xs.length ≤ 1048576) :
    Calls Tryz.prog 71 #[v, .int .i64 (i : Int), .int .i64 ((i : Int) + 1)] w fun e w' => ∃ g c, v = .slice (some ⟨g, 0, none⟩) xs.length c ∧ B ≤ g ∧ e = .returned (.slice (some ⟨g, 0, none⟩) (xs.length - 1) c) ∧ OwnAt RVal 1 w' B 9 (.slice (some ⟨g, 0, none⟩) (xs.length - 1) c) (xs.eraseIdx i) ∧ Touch g w w' := by
  obtain ⟨i0, hi0, hz0, hz1, hz2⟩ := info_parts Tryz.infoStr
  have h1c := h.ones
  have ho := own_raw h
  rcases ho.2 with ⟨_, h0⟩ | ⟨g, c, cur, rfl, hB, hh, hlc, hc, hcs, htk⟩
  · omega
  have hcur : ∀ (j : Nat) (y : Value), xs[j]? = some y → cur[j]? = some y := fun j y hy => by
    have := ho.cells (g := g) rfl j y hy
    rw [add_plain', Nat.zero_add, cell_block hh] at this
    exact this
  obtain ⟨n, hn⟩ : ∃ n, xs.length = n := ⟨_, rfl⟩
  obtain ⟨m, hm⟩ : ∃ m, n - (i + 1) = m := ⟨_, rfl⟩
  have Hn := Lib.hid hn
  have Hh := Lib.hid hh
  have Hcur := Lib.hid hcur
  have H1 := Lib.hid h1c
  have Hcs := Lib.hid hcs
  have hin : i < n := by omega
  have him : i + m + 1 ≤ n := by omega
  have him2 : n ≤ i + m + 1 := by omega
  have hnc : n ≤ c := by rw [← hn]; exact hlc
  have hcm : c ≤ 9223372036854775807 := by unfold maxLen at hc; omega
  have hn2 : n ≤ 1048576 := by omega
  rw [hn]
  have q1 : (0 : Int) ≤ (i : Int) := by omega
  have q2 : (i : Int) ≤ (i : Int) + 1 := by omega
  have q3 : (i : Int) + 1 ≤ (n : Int) := by omega
  have q4 : (n : Int) ≤ (c : Int) := by omega
  have q5 : (0 : Int) ≤ (i : Int) + 1 := by omega
  have q6 : ((i : Int) + 1).toNat = i + 1 := by omega
  have q7 : ((i : Int) == (i : Int) + 1) = false := by rw [beq_eq_false_iff_ne]; omega
  have q8 : (i : Int) ≤ (c : Int) := by omega
  clear h ho hcur h1c hh hn hl hi htk hlc
  go_enter Tryz.func71, Tryz.ntmps71
  go_upto_region 5 with fail
  refine wp_region_hold 6 (fun w' => ∃ q, w' = w.drewN q) (by kernel_rfl) (by kernel_rfl) ?_ ?_
  · exact ⟨1, rfl⟩
  simp only [List.take_succ_cons, List.take_zero, List.drop_succ_cons, List.drop_zero]
  (first | (refine wpHold_pure (v := ?_) (by rfl) (fun w => ?_) ?_; rotate_left; focus (first | (go_simp; done) | (go_simp; with_reducible rfl))) | (refine wpHold_skip ?_ ?_; focus (go_simp; done)) | (refine wpHold_pure' (v := ?_) ?_ (fun w => ?_) ?_; rotate_left; focus (go_simp; done); focus (first | (go_simp; done) | (go_simp; with_reducible rfl)))); try simp only [Act.put, List.setIfInBounds_toArray, List.set_cons_zero, List.set_cons_succ]
  (first | (refine wpHold_pure (v := ?_) (by rfl) (fun w => ?_) ?_; rotate_left; focus (first | (go_simp; done) | (go_simp; with_reducible rfl))) | (refine wpHold_skip ?_ ?_; focus (go_simp; done)) | (refine wpHold_pure' (v := ?_) ?_ (fun w => ?_) ?_; rotate_left; focus (go_simp; done); focus (first | (go_simp; done) | (go_simp; with_reducible rfl)))); try simp only [Act.put, List.setIfInBounds_toArray, List.set_cons_zero, List.set_cons_succ]
  refine wpHold_pure (v := .slice (some ⟨g, 0, none⟩) i c) (by rfl) (fun w => ?_) ?_
  · go_simp
    done
  try simp only [Act.put, List.setIfInBounds_toArray, List.set_cons_zero, List.set_cons_succ]
  (first | (refine wpHold_pure (v := ?_) (by rfl) (fun w => ?_) ?_; rotate_left; focus (first | (go_simp; done) | (go_simp; with_reducible rfl))) | (refine wpHold_skip ?_ ?_; focus (go_simp; done)) | (refine wpHold_pure' (v := ?_) ?_ (fun w => ?_) ?_; rotate_left; focus (go_simp; done); focus (first | (go_simp; done) | (go_simp; with_reducible rfl)))); try simp only [Act.put, List.setIfInBounds_toArray, List.set_cons_zero, List.set_cons_succ]
  (first | (refine wpHold_pure (v := ?_) (by rfl) (fun w => ?_) ?_; rotate_left; focus (first | (go_simp; done) | (go_simp; with_reducible rfl))) | (refine wpHold_skip ?_ ?_; focus (go_simp; done)) | (refine wpHold_pure' (v := ?_) ?_ (fun w => ?_) ?_; rotate_left; focus (go_simp; done); focus (first | (go_simp; done) | (go_simp; with_reducible rfl)))); try simp only [Act.put, List.setIfInBounds_toArray, List.set_cons_zero, List.set_cons_succ]
  obtain ⟨p, hp⟩ : ∃ p, (c = i + 1 ∧ p = 0) ∨ (c ≠ i + 1 ∧ p = i + 1) := by
    by_cases h : c = i + 1
    · exact ⟨0, .inl ⟨h, rfl⟩⟩
    · exact ⟨i + 1, .inr ⟨h, rfl⟩⟩
  refine wpHold_pure (v := .slice (some ⟨g, p, none⟩) m (c - (i + 1))) (by rfl) (fun w => ?_) ?_
  · rcases hp with ⟨h1, rfl⟩ | ⟨h1, rfl⟩
    · have h2 : n = i + 1 := by omega
      rw [← hm]
      go_simp
    · rw [← hm]
      go_simp
  try simp only [Act.put, List.setIfInBounds_toArray, List.set_cons_zero, List.set_cons_succ]
  refine wpHold_nil ?_
  rintro w' ⟨q, rfl⟩
  try simp only [Act.put, List.setIfInBounds_toArray, List.set_cons_zero, List.set_cons_succ]
  have hml : (xs.drop (i + 1)).length = m := by rw [List.length_drop, Hn.out]; exact hm
  have Hml := Lib.hid hml
  have hnews : ∀ (j : Nat) (u : Value), (xs.drop (i + 1))[j]? = some u → (w.drewN q).cell? ⟨g, p + j, none⟩ = some u := fun j u hu => by
    have hj : j < m := by have := (List.getElem?_eq_some_iff.1 hu).1; omega
    rcases hp with ⟨h1, _⟩ | ⟨_, rfl⟩
    · omega
    · rw [List.getElem?_drop] at hu
      exact (cell_block (w := w.drewN q) Hh.out (i + 1 + j)).trans (Hcur.out _ _ hu)
  have hth : ∀ j, j < m → ((w.drewN q).cell? ⟨g, i + j, none⟩).isSome = true ∧ (w.drewN q).frozen? ⟨g, i + j, none⟩ = false := fun j hj => by
    refine ⟨?_, free_block (w := w.drewN q) Hh.out _⟩
    rw [cell_block (w := w.drewN q) Hh.out, Array.getElem?_eq_getElem (by rw [Hcs.out]; omega)]
    rfl
  have Hnews := Lib.hid hnews
  have Hth := Lib.hid hth
  clear hnews hth hml hp
  obtain ⟨k, hk⟩ : ∃ k, i + m = k := ⟨_, rfl⟩
  have Hk := Lib.hid hk
  have hkn : k + 1 ≤ n := by omega
  have hkn2 : n ≤ k + 1 := by omega
  refine (wpList_append_here _ (by rfl) _ _ _ (by rfl) 9 i0 Tryz.underlying25 hi0 hz1 g i c p m (c - (i + 1)) (by rfl) (by rfl) (xs.drop (i + 1)) Hml.out Hnews.out (fun u hu => H1.out u (List.mem_of_mem_drop hu)) (by omega) (fun j hj => (Hth.out j hj).1) (fun j hj => (Hth.out j hj).2) ?_)
  obtain ⟨cur2, k1, k2, k3, k4, k5⟩ := setCells_all g 9 (xs.drop (i + 1)) i cur (w.drewN q) Hh.out (by rw [Hml.out, Hcs.out]; omega)
  rw [Hml.out, hk] at k3
  rw [hk]
  generalize hW : World.setCells (w.drewN q) g i (xs.drop (i + 1)) = W at k1 k5 ⊢
  have K1 := Lib.hid k1
  have K2 := Lib.hid k2
  have K3 := Lib.hid k3
  have K4 := Lib.hid k4
  have K5 : Hid (Touch g w W) := Lib.hid ⟨k5.os, k5.tape, k5.output, k5.size, k5.other⟩
  clear hW k1 k2 k3 k4 k5 hk
  have r1 : (0 : Int) ≤ (k : Int) := by omega
  have r2 : (k : Int) ≤ (n : Int) := by omega
  have r3 : ¬ c = k := by omega
  go_upto_region 6 with fail
  iterate 16 go_step
  have hzs : (Builtin.zeroCells (Value.string ByteArray.empty).cells (n - k)).size = n - k := (zeroCells_size _ _).trans (Nat.mul_one _)
  have hthere : W.there g k (Builtin.zeroCells (Value.string ByteArray.empty).cells (n - k)).size := fun j hj => by
    refine ⟨?_, free_block K1.out _⟩
    rw [cell_block K1.out, Array.getElem?_eq_getElem (by rw [K2.out, Hcs.out]; omega)]
    rfl
  have Hthere := Lib.hid hthere
  have Hzs := Lib.hid hzs
  clear hthere hzs
  refine wpList_clear_rows W (by rfl) _ _ 9 (by rfl) (.string ByteArray.empty) Tryz.underlying25 Tryz.zeroValue9 (by simp [Value.cells, Value.oneCell']) g k (n - k) (c - k) (by omega) (by rfl) Hthere.out ?_
  obtain ⟨cur3, k1, k2, k3, k4, k5⟩ := setCells_all g 9 (Builtin.zeroCells (Value.string ByteArray.empty).cells (n - k)).toList k cur2 W K1.out (by rw [Array.length_toList, Hzs.out, K2.out, Hcs.out]; omega)
  generalize hW : World.setCells W g k _ = W2 at k1 k5 ⊢
  have L1 := Lib.hid k1
  have L2 := Lib.hid k2
  have L3 := Lib.hid k3
  have L5 : Hid (Touch g w W2) := Lib.hid ⟨k5.os.trans K5.out.os, k5.tape.trans K5.out.tape, k5.output.trans K5.out.output, k5.size.trans K5.out.size, fun b hb => (k5.other b hb).trans (K5.out.other b hb)⟩
  clear hW k1 k2 k3 k4 k5
  go_wp2_with fail
  go_ret
  have hel : (xs.eraseIdx i).length = k := by rw [List.length_eraseIdx_of_lt (by rw [Hn.out]; exact hin), Hn.out]; omega
  have hnk : n - 1 = k := by omega
  refine ⟨g, c, rfl, hB, by rw [hnk] <;> rfl, ?_, L5.out⟩
  rw [hnk]
  have hres := own_of_cells (xs := xs.eraseIdx i) (B := B) (c := c) L1.out hB (by rw [hel]; omega) hc (by rw [L2.out, K2.out, Hcs.out, Nat.mul_one]) (fun j u hu => ?_) (fun u hu => H1.out u (List.mem_of_mem_eraseIdx hu))
  · rw [hel] at hres
    exact hres
  · have hjk : j < k := by rw [← hel]; exact (List.getElem?_eq_some_iff.1 hu).1
    rw [L3.out j (.inl hjk)]
    rw [List.getElem?_eraseIdx] at hu
    by_cases hji : j < i
    · rw [if_pos hji] at hu
      rw [K3.out j (.inl hji)]
      exact Hcur.out j u hu
    · rw [if_neg hji] at hu
      have := K4.out (j - i) u (by rw [List.getElem?_drop, show i + 1 + (j - i) = j + 1 by omega]; exact hu)
      rw [show i + (j - i) = j by omega] at this
      exact this
end Go.Proofs.YtnmhjabihfhobaaGreatDoor
/- json: (*Object).Without: its contract. -/
namespace Go.Proofs.YtnmhjabihfhobaaGreatDoor
open Go.RowKit
open JP (JV Bs)

theorem del_same {w w' : World} {B : Nat} {e : TypeId} {v : Value} {xs : List Value} {g n c : Nat} (h : OwnAt RVal 1 w B e v xs) (hv : v = .slice (some ⟨g, 0, none⟩) n c) (hB : B ≤ g) (ht : Touch g w w') (_hs : B ≤ w.heap.size) : SameBut e w w' ∧ Below B w w' := by
  refine ⟨fun b cur e' fr hb hne => (ht.other b fun eq => ?_).trans hb, ht.below (Below.refl _ _) hB⟩
  obtain ⟨_, _, cur', k⟩ := h.at (g := g) (by rw [hv]; rfl)
  rw [eq, k] at hb
  injection hb with hb
  injection hb with _ hb
  exact hne hb.symm
theorem cut_none {x : Bs} : ∀ {d : List (Bs × JV)}, JP.get x d = none → JP.cut x d = d
  | [], _ => rfl
  | (m, y) :: r, h => by
    unfold JP.get at h
    by_cases hm : m = x
    · rw [if_pos hm] at h; cases h
    · rw [if_neg hm] at h
      unfold JP.cut
      rw [List.filter_cons_of_pos (by simpa using hm)]
      exact congrArg _ (cut_none h)
theorem cut_at {x : Bs} : ∀ {d : List (Bs × JV)} {p : Nat} {y : JV}, JP.Srt d → d[p]? = some (x, y) → JP.cut x d = d.eraseIdx p
  | [], _, _, _, h => by simp at h
  | (m, z) :: r, 0, y, hs, h => by
    simp only [List.getElem?_cons_zero, Option.some.injEq] at h
    cases h
    obtain ⟨h1, _⟩ := List.pairwise_cons.1 hs
    unfold JP.cut
    rw [List.filter_cons_of_neg (by simp), List.eraseIdx_cons_zero, List.filter_eq_self]
    intro a ha
    have := h1 a ha
    rw [bne_iff_ne]
    intro e
    rw [e] at this
    exact List.lt_irrefl _ this
  | (m, z) :: r, p + 1, y, hs, h => by
    obtain ⟨h1, h2⟩ := List.pairwise_cons.1 hs
    rw [List.getElem?_cons_succ] at h
    have hlt := h1 (x, y) (List.mem_of_getElem? h)
    have ih := cut_at h2 h
    unfold JP.cut at ih ⊢
    rw [List.filter_cons_of_pos (by
      rw [bne_iff_ne]
      intro e
      rw [e] at hlt
      exact List.lt_irrefl _ hlt), ih, List.eraseIdx_cons_succ]
theorem cut_srt {x : Bs} {d : List (Bs × JV)} (h : JP.Srt d) : JP.Srt (JP.cut x d) := List.Pairwise.sublist (List.filter_sublist) h
theorem map_erase {α β : Type} (f : α → β) (l : List α) (p : Nat) : (l.eraseIdx p).map f = (l.map f).eraseIdx p := by
  apply List.ext_getElem?
  intro j
  rw [List.getElem?_map, List.getElem?_eraseIdx, List.getElem?_eraseIdx]
  split <;> rw [List.getElem?_map]
theorem pairs_erase {α : Type} {xs : List Value} {l : List α} {P : Value → α → Prop} (h : ∀ (j : Nat) (u : Value) (x : α), xs[j]? = some u → l[j]? = some x → P u x) (p : Nat) :
    ∀ (j : Nat) (u : Value) (x : α), (xs.eraseIdx p)[j]? = some u → (l.eraseIdx p)[j]? = some x → P u x := fun j u x hu hx => by
  rw [List.getElem?_eraseIdx] at hu hx
  by_cases hj : j < p
  · rw [if_pos hj] at hu hx; exact h j u x hu hx
  · rw [if_neg hj] at hu hx; exact h (j + 1) u x hu hx
set_option maxRecDepth 100000 in
set_option maxHeartbeats 6400000 in
theorem without_any {n : Nat} {T : List Nat} {q : Nat} {d : List (Bs × JV)} {x : Bs} {w : World} (h : ObR (JvR n T) T w q d) (hT : ∀ b ∈ T, b < w.heap.size) (hl : d.length ≤ 1048575) :
    Calls Tryz.prog 44 #[.pointer (some ⟨q, 0, none⟩), .string (mkB x)] w fun e w' => ∃ q', e = .returned (.pointer (some ⟨q', 0, none⟩)) ∧ ObR (JvR n T) T w' q' (JP.cut x d) ∧ Below w.heap.size w w' := by
  have hob := h
  obtain ⟨hqT, hs, vn, vv, cn, cv, hrn, hon, hrv, hov⟩ := h
  have HS := Lib.hid (search_any (x := x) hs hrn (by omega))
  have hsp := cut_srt (x := x) hs
  have hF := JP.find_spec (n := x) hs
  obtain ⟨xs, hxl, hxr, hxR⟩ := hrn.raw one_string
  obtain ⟨ys, hyl, hyr, hyR⟩ := hrv.raw (one_jv n T)
  rw [List.length_map] at hxl hyl
  obtain ⟨an, c1, hu1, _, _⟩ := hrn.len
  obtain ⟨av, c2, hu2, _, _⟩ := hrv.len
  obtain ⟨ln, hln⟩ : ∃ n, (d.map fun y => mkB y.1).length = n := ⟨_, rfl⟩
  obtain ⟨lv, hlv⟩ : ∃ n, (d.map (·.2)).length = n := ⟨_, rfl⟩
  rw [hln] at hu1
  rw [hlv] at hu2
  subst hu1
  subst hu2
  clear hln hlv
  have hqw : q < w.heap.size := World.block_lt_of_cell? w ⟨q, 0, none⟩ cn
  rcases hF with ⟨y0, hy0, hg, _⟩ | ⟨_, hg, _⟩
  · have hcut := cut_at hs hy0
    rw [hg] at HS
    have hpn : (JP.cut x d).map (fun z => mkB z.1) = (d.map fun z => mkB z.1).eraseIdx (JP.pos x d) := by rw [hcut]; exact map_erase _ _ _
    have hpv : (JP.cut x d).map (·.2) = (d.map (·.2)).eraseIdx (JP.pos x d) := by rw [hcut]; exact map_erase _ _ _
    have hlt : JP.pos x d < d.length := (List.getElem?_eq_some_iff.1 hy0).1
    obtain ⟨D, hD⟩ : ∃ D, JP.cut x d = D := ⟨_, rfl⟩
    rw [hD] at hpn hpv hsp ⊢
    obtain ⟨p, hp⟩ : ∃ p, JP.pos x d = p := ⟨_, rfl⟩
    rw [hp] at HS hpn hpv hlt
    have HC1 := Lib.hid (fun w' (hb : Below w.heap.size w w') => cloneStr_any (.slice an ln c1) xs w' (hxr.below stays_val hb) (by omega))
    have HC2 := Lib.hid (fun w' (hb : Below w.heap.size w w') => cloneVal_any (.slice av lv c2) ys w' (hyr.below stays_val hb) (by omega))
    have hfin : ∀ w' (q' : Nat) (v8 v9 : Value), KeepT T w w' → q' ∉ T → w'.cell? ⟨q', 0, none⟩ = some v8 → w'.cell? ⟨q', 1, none⟩ = some v9 → RowAt RVal 1 w' v8 (xs.eraseIdx p) → OffT T v8 D → RowAt RVal 1 w' v9 (ys.eraseIdx p) → OffT T v9 D → ObR (JvR n T) T w' q' D := fun w' q' v8 v9 hk hq' k0 k1 hr8 ho8 hr9 ho9 => by
      refine ⟨hq', hsp, v8, v9, k0, k1, ?_, ho8, ?_, ho9⟩
      · rw [hpn]
        refine hr8.ofRaw (by rw [List.length_eraseIdx_of_lt (by omega), List.length_eraseIdx_of_lt (by rw [List.length_map]; omega), List.length_map]; omega) fun j u z hu hz => ?_
        have := pairs_erase (P := fun u z => u = .string z) (strs_raw hxR) p j u z hu hz
        rw [this]; rfl
      · rw [hpv]
        refine hr9.ofRaw (by rw [List.length_eraseIdx_of_lt (by omega), List.length_eraseIdx_of_lt (by rw [List.length_map]; omega), List.length_map]; omega) fun j u z hu hz => ?_
        obtain ⟨v1, e1, h1⟩ := pairs_erase (P := fun u z => JvR n T w [u] z) hyR p j u z hu hz
        exact ⟨v1, e1, h1.keepT hk⟩
    have Hfin := Lib.hid hfin
    have HT := Lib.hid hT
    have hxp : p < xs.length := by omega
    have hyp : p < ys.length := by omega
    have hxs : xs.length ≤ 1048576 := by omega
    have hys : ys.length ≤ 1048576 := by omega
    have hpw : IntKind.i64.wrap ((p : Int) + 1) = (p : Int) + 1 := IntWalk.i64_in _ (by omega)
    clear hg hfin hT hrn hrv hxr hyr hxR hyR hon hov hpn hpv hD hsp hs hxl hyl hp hob hcut hy0 hlt
    go_enter Tryz.func44, Tryz.ntmps44
    go_wp2_with fail
    refine HS.out.mono ?_
    rintro E w1 ⟨rfl, k, rfl⟩
    have Hb1 : Hid (Below w.heap.size w (w.drewN k)) := Lib.hid ((below_drewN0 w k))
    go_upto_region 4 with fail
    refine wp_region_relY 20 (fun w' => Below w.heap.size (w.drewN k) w') (fun i wa wb => if i = 8 then SameBut 9 wa wb ∧ Below w.heap.size wa wb else (if i = 17 then SameBut 53 wa wb ∧ Below w.heap.size wa wb else Below wa.heap.size wa wb)) (fun ii U w' => match ii with
      | 0 => U 0 = .pointer (some ⟨q, 0, none⟩)
      | 1 => U 1 = .pointer (some ⟨q, 0, none⟩)
      | 2 => U 2 = .pointer (some ⟨q, 0, none⟩)
      | 3 => U 3 = .slice an ln c1
      | 4 => OwnAt RVal 1 w' w.heap.size 9 (U 4) xs
      | 5 => U 5 = .int .i64 (p : Int)
      | 6 => U 6 = .int .i64 (p : Int)
      | 7 => U 7 = .int .i64 ((p : Int) + 1)
      | 8 => OwnAt RVal 1 w' w.heap.size 9 (U 8) (xs.eraseIdx p)
      | 9 => U 9 = .pointer (some ⟨q, 0, none⟩)
      | 10 => U 10 = .pointer (some ⟨q, 0, none⟩)
      | 11 => U 11 = .pointer (some ⟨q, 1, none⟩)
      | 12 => U 12 = .slice av lv c2
      | 13 => OwnAt RVal 1 w' w.heap.size 53 (U 13) ys
      | 14 => U 14 = .int .i64 (p : Int)
      | 15 => U 15 = .int .i64 (p : Int)
      | 16 => U 16 = .int .i64 ((p : Int) + 1)
      | 17 => OwnAt RVal 1 w' w.heap.size 53 (U 17) (ys.eraseIdx p)
      | 18 => U 18 = .agg #[U 8, U 17]
      | 19 => ∃ g, U 19 = .pointer (some ⟨g, 0, none⟩) ∧ w.heap.size ≤ g ∧ w'.heap[g]? = some (.cells #[U 8, U 17] 95 (0, 0))
      | _ => True)
      (fun | 1 => [0] | 2 => [1] | 3 => [2] | 4 => [3] | 7 => [6] | 8 => [4, 5, 7] | 10 => [9] | 11 => [10] | 12 => [11] | 13 => [12] | 16 => [15] | 17 => [13, 14, 16] | 18 => [8, 17] | 19 => [18, 8, 17] | _ => [])
      (fun | 4 => [8] | 13 => [17] | _ => []) (by kernel_rfl) (by kernel_rfl) (Below.refl _ _).drew ?_ ?_ ⟨?_, ?_, ?_, ?_, ?_, ?_, ?_, ?_, ?_, ?_, ?_, ?_, ?_, ?_, ?_, ?_, ?_, ?_, ?_, ?_, trivial⟩ ?_
    · intro i wa wb hk hi
      by_cases h8 : i = 8
      · rw [if_pos h8] at hk
        exact hi.trans hk.2
      · rw [if_neg h8] at hk
        by_cases h17 : i = 17
        · rw [if_pos h17] at hk
          exact hi.trans hk.2
        · rw [if_neg h17] at hk
          exact below_then' hi hk
    · intro i j U wa wb hji hkl hk hi h
      by_cases h8 : i = 8
      · rw [if_pos h8] at hk
        subst h8
        have hsm := hk.1
        match j, hji, hkl, h with
        | 0, _, _, h => exact h
        | 1, _, _, h => exact h
        | 2, _, _, h => exact h
        | 3, _, _, h => exact h
        | 4, _, hkl, h => exact absurd (by simp) hkl
        | 5, _, _, h => exact h
        | 6, _, _, h => exact h
        | 7, _, _, h => exact h
        | 8, hji, _, h => exact absurd rfl hji
        | 9, _, _, h => exact h
        | 10, _, _, h => exact h
        | 11, _, _, h => exact h
        | 12, _, _, h => exact h
        | 13, _, _, h => exact OwnAt.same' flat_val h hsm (by decide)
        | 14, _, _, h => exact h
        | 15, _, _, h => exact h
        | 16, _, _, h => exact h
        | 17, _, _, h => exact OwnAt.same' flat_val h hsm (by decide)
        | 18, _, _, h => exact h
        | 19, _, _, h => exact (by obtain ⟨g, h1, h0, h2⟩ := h; exact ⟨g, h1, h0, hsm g _ _ _ h2 (by decide)⟩)
        | _ + 20, _, _, h => trivial
      · rw [if_neg h8] at hk
        by_cases h17 : i = 17
        · rw [if_pos h17] at hk
          subst h17
          have hsm := hk.1
          match j, hji, hkl, h with
          | 0, _, _, h => exact h
          | 1, _, _, h => exact h
          | 2, _, _, h => exact h
          | 3, _, _, h => exact h
          | 4, _, _, h => exact OwnAt.same' flat_val h hsm (by decide)
          | 5, _, _, h => exact h
          | 6, _, _, h => exact h
          | 7, _, _, h => exact h
          | 8, _, _, h => exact OwnAt.same' flat_val h hsm (by decide)
          | 9, _, _, h => exact h
          | 10, _, _, h => exact h
          | 11, _, _, h => exact h
          | 12, _, _, h => exact h
          | 13, _, hkl, h => exact absurd (by simp) hkl
          | 14, _, _, h => exact h
          | 15, _, _, h => exact h
          | 16, _, _, h => exact h
          | 17, hji, _, h => exact absurd rfl hji
          | 18, _, _, h => exact h
          | 19, _, _, h => exact (by obtain ⟨g, h1, h0, h2⟩ := h; exact ⟨g, h1, h0, hsm g _ _ _ h2 (by decide)⟩)
          | _ + 20, _, _, h => trivial
        · rw [if_neg h17] at hk
          match j, h with
          | 0, h => exact h
          | 1, h => exact h
          | 2, h => exact h
          | 3, h => exact h
          | 4, h => exact OwnAt.below stays_val h hk
          | 5, h => exact h
          | 6, h => exact h
          | 7, h => exact h
          | 8, h => exact OwnAt.below stays_val h hk
          | 9, h => exact h
          | 10, h => exact h
          | 11, h => exact h
          | 12, h => exact h
          | 13, h => exact OwnAt.below stays_val h hk
          | 14, h => exact h
          | 15, h => exact h
          | 16, h => exact h
          | 17, h => exact OwnAt.below stays_val h hk
          | 18, h => exact h
          | 19, h => exact (by obtain ⟨g, h1, h0, h2⟩ := h; exact ⟨g, h1, h0, below_block hk h2⟩)
          | _ + 20, h => trivial
    · intro x' w' hb hd
      have hbw : Below w.heap.size w w' := (below_drewN0 w k).trans hb
      have e0 : w'.cell? ⟨q, 0, none⟩ = some (.slice an ln c1) := (hbw.cell (p := ⟨q, 0, none⟩) hqw).trans cn
      have e1 : w'.cell? ⟨q, 1, none⟩ = some (.slice av lv c2) := (hbw.cell (p := ⟨q, 1, none⟩) hqw).trans cv
      refine owesK_here (.pointer (some ⟨q, 0, none⟩)) (by rfl) ?_ rfl (else_of (by decide) (else_of (by decide) (Below.refl _ _)))
      simp only [putAll, List.take_succ_cons, List.take_zero]
      go_simp
    · intro x' w' hb hd
      have hbw : Below w.heap.size w w' := (below_drewN0 w k).trans hb
      have e0 : w'.cell? ⟨q, 0, none⟩ = some (.slice an ln c1) := (hbw.cell (p := ⟨q, 0, none⟩) hqw).trans cn
      have e1 : w'.cell? ⟨q, 1, none⟩ = some (.slice av lv c2) := (hbw.cell (p := ⟨q, 1, none⟩) hqw).trans cv
      have k0 : x' 0 = .pointer (some ⟨q, 0, none⟩) := hd 0 (by simp)
      refine owesK_here (.pointer (some ⟨q, 0, none⟩)) (by rfl) ?_ rfl (else_of (by decide) (else_of (by decide) (Below.refl _ _)))
      simp only [putAll, List.take_succ_cons, List.take_zero]
      go_simp
    · intro x' w' hb hd
      have hbw : Below w.heap.size w w' := (below_drewN0 w k).trans hb
      have e0 : w'.cell? ⟨q, 0, none⟩ = some (.slice an ln c1) := (hbw.cell (p := ⟨q, 0, none⟩) hqw).trans cn
      have e1 : w'.cell? ⟨q, 1, none⟩ = some (.slice av lv c2) := (hbw.cell (p := ⟨q, 1, none⟩) hqw).trans cv
      have k0 : x' 1 = .pointer (some ⟨q, 0, none⟩) := hd 1 (by simp)
      refine owesK_here (.pointer (some ⟨q, 0, none⟩)) (by rfl) ?_ rfl (else_of (by decide) (else_of (by decide) (Below.refl _ _)))
      simp only [putAll, List.take_succ_cons, List.take_zero]
      go_simp
    · intro x' w' hb hd
      have hbw : Below w.heap.size w w' := (below_drewN0 w k).trans hb
      have e0 : w'.cell? ⟨q, 0, none⟩ = some (.slice an ln c1) := (hbw.cell (p := ⟨q, 0, none⟩) hqw).trans cn
      have e1 : w'.cell? ⟨q, 1, none⟩ = some (.slice av lv c2) := (hbw.cell (p := ⟨q, 1, none⟩) hqw).trans cv
      have k0 : x' 2 = .pointer (some ⟨q, 0, none⟩) := hd 2 (by simp)
      refine owesK_here (.slice an ln c1) (by rfl) ?_ rfl (else_of (by decide) (else_of (by decide) (Below.refl _ _)))
      simp only [putAll, List.take_succ_cons, List.take_zero]
      go_simp
    · intro x' w' hb hd
      have hbw : Below w.heap.size w w' := (below_drewN0 w k).trans hb
      have e0 : w'.cell? ⟨q, 0, none⟩ = some (.slice an ln c1) := (hbw.cell (p := ⟨q, 0, none⟩) hqw).trans cn
      have e1 : w'.cell? ⟨q, 1, none⟩ = some (.slice av lv c2) := (hbw.cell (p := ⟨q, 1, none⟩) hqw).trans cv
      have k0 : x' 3 = .slice an ln c1 := hd 3 (by simp)
      refine owesK_call 41 #[.slice an ln c1] (by rfl) ?_ ((HC1.out w' hbw).mono fun e w2 ⟨v', h1, h2, h3⟩ => ⟨v', h1, h2.mono hbw.size, else_of (by decide) (else_of (by decide) h3)⟩)
      simp only [putAll, List.take_succ_cons, List.take_zero]
      go_simp
    · intro x' w' hb hd
      have hbw : Below w.heap.size w w' := (below_drewN0 w k).trans hb
      have e0 : w'.cell? ⟨q, 0, none⟩ = some (.slice an ln c1) := (hbw.cell (p := ⟨q, 0, none⟩) hqw).trans cn
      have e1 : w'.cell? ⟨q, 1, none⟩ = some (.slice av lv c2) := (hbw.cell (p := ⟨q, 1, none⟩) hqw).trans cv
      refine owesK_here (.int .i64 (p : Int)) (by rfl) ?_ rfl (else_of (by decide) (else_of (by decide) (Below.refl _ _)))
      simp only [putAll, List.take_succ_cons, List.take_zero]
      go_simp
    · intro x' w' hb hd
      have hbw : Below w.heap.size w w' := (below_drewN0 w k).trans hb
      have e0 : w'.cell? ⟨q, 0, none⟩ = some (.slice an ln c1) := (hbw.cell (p := ⟨q, 0, none⟩) hqw).trans cn
      have e1 : w'.cell? ⟨q, 1, none⟩ = some (.slice av lv c2) := (hbw.cell (p := ⟨q, 1, none⟩) hqw).trans cv
      refine owesK_here (.int .i64 (p : Int)) (by rfl) ?_ rfl (else_of (by decide) (else_of (by decide) (Below.refl _ _)))
      simp only [putAll, List.take_succ_cons, List.take_zero]
      go_simp
    · intro x' w' hb hd
      have hbw : Below w.heap.size w w' := (below_drewN0 w k).trans hb
      have e0 : w'.cell? ⟨q, 0, none⟩ = some (.slice an ln c1) := (hbw.cell (p := ⟨q, 0, none⟩) hqw).trans cn
      have e1 : w'.cell? ⟨q, 1, none⟩ = some (.slice av lv c2) := (hbw.cell (p := ⟨q, 1, none⟩) hqw).trans cv
      have k0 : x' 6 = .int .i64 (p : Int) := hd 6 (by simp)
      refine owesK_here (.int .i64 ((p : Int) + 1)) (by rfl) ?_ rfl (else_of (by decide) (else_of (by decide) (Below.refl _ _)))
      simp only [putAll, List.take_succ_cons, List.take_zero]
      go_simp
    · intro x' w' hb hd
      have hbw : Below w.heap.size w w' := (below_drewN0 w k).trans hb
      have e0 : w'.cell? ⟨q, 0, none⟩ = some (.slice an ln c1) := (hbw.cell (p := ⟨q, 0, none⟩) hqw).trans cn
      have e1 : w'.cell? ⟨q, 1, none⟩ = some (.slice av lv c2) := (hbw.cell (p := ⟨q, 1, none⟩) hqw).trans cv
      have k4 : OwnAt RVal 1 w' w.heap.size 9 (x' 4) xs := hd 4 (by simp)
      have k5 : x' 5 = .int .i64 (p : Int) := hd 5 (by simp)
      have k7 : x' 7 = .int .i64 ((p : Int) + 1) := hd 7 (by simp)
      refine owesK_call 71 #[x' 4, .int .i64 (p : Int), .int .i64 ((p : Int) + 1)] (by rfl) ?_ ((delStr_any (x' 4) xs w.heap.size p w' k4 hxp hxs).mono fun e w2 ⟨g, c, h0, hB, h1, h2, h3⟩ => ⟨_, h1, h2, then_of rfl (del_same k4 h0 hB h3 hbw.size)⟩)
      simp only [putAll, List.take_succ_cons, List.take_zero]
      go_simp
    · intro x' w' hb hd
      have hbw : Below w.heap.size w w' := (below_drewN0 w k).trans hb
      have e0 : w'.cell? ⟨q, 0, none⟩ = some (.slice an ln c1) := (hbw.cell (p := ⟨q, 0, none⟩) hqw).trans cn
      have e1 : w'.cell? ⟨q, 1, none⟩ = some (.slice av lv c2) := (hbw.cell (p := ⟨q, 1, none⟩) hqw).trans cv
      refine owesK_here (.pointer (some ⟨q, 0, none⟩)) (by rfl) ?_ rfl (else_of (by decide) (else_of (by decide) (Below.refl _ _)))
      simp only [putAll, List.take_succ_cons, List.take_zero]
      go_simp
    · intro x' w' hb hd
      have hbw : Below w.heap.size w w' := (below_drewN0 w k).trans hb
      have e0 : w'.cell? ⟨q, 0, none⟩ = some (.slice an ln c1) := (hbw.cell (p := ⟨q, 0, none⟩) hqw).trans cn
      have e1 : w'.cell? ⟨q, 1, none⟩ = some (.slice av lv c2) := (hbw.cell (p := ⟨q, 1, none⟩) hqw).trans cv
      have k0 : x' 9 = .pointer (some ⟨q, 0, none⟩) := hd 9 (by simp)
      refine owesK_here (.pointer (some ⟨q, 0, none⟩)) (by rfl) ?_ rfl (else_of (by decide) (else_of (by decide) (Below.refl _ _)))
      simp only [putAll, List.take_succ_cons, List.take_zero]
      go_simp
    · intro x' w' hb hd
      have hbw : Below w.heap.size w w' := (below_drewN0 w k).trans hb
      have e0 : w'.cell? ⟨q, 0, none⟩ = some (.slice an ln c1) := (hbw.cell (p := ⟨q, 0, none⟩) hqw).trans cn
      have e1 : w'.cell? ⟨q, 1, none⟩ = some (.slice av lv c2) := (hbw.cell (p := ⟨q, 1, none⟩) hqw).trans cv
      have k0 : x' 10 = .pointer (some ⟨q, 0, none⟩) := hd 10 (by simp)
      refine owesK_here (.pointer (some ⟨q, 1, none⟩)) (by rfl) ?_ rfl (else_of (by decide) (else_of (by decide) (Below.refl _ _)))
      simp only [putAll, List.take_succ_cons, List.take_zero]
      go_simp
    · intro x' w' hb hd
      have hbw : Below w.heap.size w w' := (below_drewN0 w k).trans hb
      have e0 : w'.cell? ⟨q, 0, none⟩ = some (.slice an ln c1) := (hbw.cell (p := ⟨q, 0, none⟩) hqw).trans cn
      have e1 : w'.cell? ⟨q, 1, none⟩ = some (.slice av lv c2) := (hbw.cell (p := ⟨q, 1, none⟩) hqw).trans cv
      have k0 : x' 11 = .pointer (some ⟨q, 1, none⟩) := hd 11 (by simp)
      refine owesK_here (.slice av lv c2) (by rfl) ?_ rfl (else_of (by decide) (else_of (by decide) (Below.refl _ _)))
      simp only [putAll, List.take_succ_cons, List.take_zero]
      go_simp
    · intro x' w' hb hd
      have hbw : Below w.heap.size w w' := (below_drewN0 w k).trans hb
      have e0 : w'.cell? ⟨q, 0, none⟩ = some (.slice an ln c1) := (hbw.cell (p := ⟨q, 0, none⟩) hqw).trans cn
      have e1 : w'.cell? ⟨q, 1, none⟩ = some (.slice av lv c2) := (hbw.cell (p := ⟨q, 1, none⟩) hqw).trans cv
      have k0 : x' 12 = .slice av lv c2 := hd 12 (by simp)
      refine owesK_call 69 #[.slice av lv c2] (by rfl) ?_ ((HC2.out w' hbw).mono fun e w2 ⟨v', h1, h2, h3⟩ => ⟨v', h1, h2.mono hbw.size, else_of (by decide) (else_of (by decide) h3)⟩)
      simp only [putAll, List.take_succ_cons, List.take_zero]
      go_simp
    · intro x' w' hb hd
      have hbw : Below w.heap.size w w' := (below_drewN0 w k).trans hb
      have e0 : w'.cell? ⟨q, 0, none⟩ = some (.slice an ln c1) := (hbw.cell (p := ⟨q, 0, none⟩) hqw).trans cn
      have e1 : w'.cell? ⟨q, 1, none⟩ = some (.slice av lv c2) := (hbw.cell (p := ⟨q, 1, none⟩) hqw).trans cv
      refine owesK_here (.int .i64 (p : Int)) (by rfl) ?_ rfl (else_of (by decide) (else_of (by decide) (Below.refl _ _)))
      simp only [putAll, List.take_succ_cons, List.take_zero]
      go_simp
    · intro x' w' hb hd
      have hbw : Below w.heap.size w w' := (below_drewN0 w k).trans hb
      have e0 : w'.cell? ⟨q, 0, none⟩ = some (.slice an ln c1) := (hbw.cell (p := ⟨q, 0, none⟩) hqw).trans cn
      have e1 : w'.cell? ⟨q, 1, none⟩ = some (.slice av lv c2) := (hbw.cell (p := ⟨q, 1, none⟩) hqw).trans cv
      refine owesK_here (.int .i64 (p : Int)) (by rfl) ?_ rfl (else_of (by decide) (else_of (by decide) (Below.refl _ _)))
      simp only [putAll, List.take_succ_cons, List.take_zero]
      go_simp
    · intro x' w' hb hd
      have hbw : Below w.heap.size w w' := (below_drewN0 w k).trans hb
      have e0 : w'.cell? ⟨q, 0, none⟩ = some (.slice an ln c1) := (hbw.cell (p := ⟨q, 0, none⟩) hqw).trans cn
      have e1 : w'.cell? ⟨q, 1, none⟩ = some (.slice av lv c2) := (hbw.cell (p := ⟨q, 1, none⟩) hqw).trans cv
      have k0 : x' 15 = .int .i64 (p : Int) := hd 15 (by simp)
      refine owesK_here (.int .i64 ((p : Int) + 1)) (by rfl) ?_ rfl (else_of (by decide) (else_of (by decide) (Below.refl _ _)))
      simp only [putAll, List.take_succ_cons, List.take_zero]
      go_simp
    · intro x' w' hb hd
      have hbw : Below w.heap.size w w' := (below_drewN0 w k).trans hb
      have e0 : w'.cell? ⟨q, 0, none⟩ = some (.slice an ln c1) := (hbw.cell (p := ⟨q, 0, none⟩) hqw).trans cn
      have e1 : w'.cell? ⟨q, 1, none⟩ = some (.slice av lv c2) := (hbw.cell (p := ⟨q, 1, none⟩) hqw).trans cv
      have k4 : OwnAt RVal 1 w' w.heap.size 53 (x' 13) ys := hd 13 (by simp)
      have k5 : x' 14 = .int .i64 (p : Int) := hd 14 (by simp)
      have k7 : x' 16 = .int .i64 ((p : Int) + 1) := hd 16 (by simp)
      refine owesK_call 72 #[x' 13, .int .i64 (p : Int), .int .i64 ((p : Int) + 1)] (by rfl) ?_ ((delVal_any (x' 13) ys w.heap.size p w' k4 hyp hys).mono fun e w2 ⟨g, c, h0, hB, h1, h2, h3⟩ => ⟨_, h1, h2, else_of (by decide) (then_of rfl (del_same k4 h0 hB h3 hbw.size))⟩)
      simp only [putAll, List.take_succ_cons, List.take_zero]
      go_simp
    · intro x' w' hb hd
      have hbw : Below w.heap.size w w' := (below_drewN0 w k).trans hb
      have e0 : w'.cell? ⟨q, 0, none⟩ = some (.slice an ln c1) := (hbw.cell (p := ⟨q, 0, none⟩) hqw).trans cn
      have e1 : w'.cell? ⟨q, 1, none⟩ = some (.slice av lv c2) := (hbw.cell (p := ⟨q, 1, none⟩) hqw).trans cv
      have k8 : OwnAt RVal 1 w' w.heap.size 9 (x' 8) (xs.eraseIdx p) := hd 8 (by simp)
      have k17 : OwnAt RVal 1 w' w.heap.size 53 (x' 17) (ys.eraseIdx p) := hd 17 (by simp)
      obtain ⟨a8, c8, e8, _, _⟩ := k8.row.len
      obtain ⟨a17, c17, e17, _, _⟩ := k17.row.len
      refine owesK_here (.agg #[x' 8, x' 17]) (by rfl) ?_ rfl (else_of (by decide) (else_of (by decide) (Below.refl _ _)))
      simp only [putAll, List.take_succ_cons, List.take_zero]
      go_simp
    · intro x' w' hb hd
      have hbw : Below w.heap.size w w' := (below_drewN0 w k).trans hb
      have e0 : w'.cell? ⟨q, 0, none⟩ = some (.slice an ln c1) := (hbw.cell (p := ⟨q, 0, none⟩) hqw).trans cn
      have e1 : w'.cell? ⟨q, 1, none⟩ = some (.slice av lv c2) := (hbw.cell (p := ⟨q, 1, none⟩) hqw).trans cv
      have k8 : OwnAt RVal 1 w' w.heap.size 9 (x' 8) (xs.eraseIdx p) := hd 8 (by simp)
      have k17 : OwnAt RVal 1 w' w.heap.size 53 (x' 17) (ys.eraseIdx p) := hd 17 (by simp)
      have k18 : x' 18 = .agg #[x' 8, x' 17] := hd 18 (by simp)
      obtain ⟨a8, c8, e8, _, _⟩ := k8.row.len
      obtain ⟨a17, c17, e17, _, _⟩ := k17.row.len
      refine owesK_makes (.pointer (some ⟨w'.heap.size, 0, none⟩)) (w' := w'.alloc (.cells #[x' 8, x' 17] 95)) (by rfl) ?_ (⟨_, rfl, hbw.size, heap_alloc_new w' _⟩) (else_of (by decide) (else_of (by decide) ((Below.refl _ _).alloc (Nat.le_refl _) _)))
      simp only [putAll, List.take_succ_cons, List.take_zero]
      go_simp
    · intro x' w' hb hR
      have hbw : Below w.heap.size w w' := (below_drewN0 w k).trans hb
      have e0 : w'.cell? ⟨q, 0, none⟩ = some (.slice an ln c1) := (hbw.cell (p := ⟨q, 0, none⟩) hqw).trans cn
      have e1 : w'.cell? ⟨q, 1, none⟩ = some (.slice av lv c2) := (hbw.cell (p := ⟨q, 1, none⟩) hqw).trans cv
      have k8 : OwnAt RVal 1 w' w.heap.size 9 (x' 8) (xs.eraseIdx p) := hR 8 (by omega) rfl
      have k17 : OwnAt RVal 1 w' w.heap.size 53 (x' 17) (ys.eraseIdx p) := hR 17 (by omega) rfl
      obtain ⟨q', k19, hq1, kq⟩ : ∃ g, x' 19 = .pointer (some ⟨g, 0, none⟩) ∧ w.heap.size ≤ g ∧ w'.heap[g]? = some (.cells #[x' 8, x' 17] 95 (0, 0)) := hR 19 (by omega) rfl
      have Hb := Lib.hid hbw
      have K8 := Lib.hid k8
      have K17 := Lib.hid k17
      have Kq := Lib.hid kq
      clear hR hb hbw k8 k17 kq e0 e1
      simp only [putAll, List.take_succ_cons, List.take_zero, List.drop_succ_cons, List.drop_zero]
      try simp only [Act.put, List.setIfInBounds_toArray, List.set_cons_zero, List.set_cons_succ]
      go_wp2_with fail
      go_ret
      refine ⟨q', ?_, ?_, Hb.out⟩
      · show Ending.returned (x' 19) = _
        rw [k19]
      · refine Hfin.out w' q' (x' 8) (x' 17) (KeepT.of Hb.out) (fun hm => by have h9 := HT.out _ hm; omega) ?_ ?_ K8.out.row (off_new K8.out HT.out) K17.out.row (off_new K17.out HT.out)
        · rw [cell_block Kq.out]; rfl
        · rw [cell_block Kq.out]; rfl
  · rw [hg] at HS
    have hcut := cut_none hg
    rw [hcut]
    have Hob := Lib.hid hob
    clear hg hrn hrv hxr hyr hxR hyR hon hov hsp hs hxl hyl hob hcut hT
    go_enter Tryz.func44, Tryz.ntmps44
    go_wp2_with fail
    refine HS.out.mono ?_
    rintro E w1 ⟨rfl, k, rfl⟩
    go_wp2_with fail
    go_ret
    exact ⟨q, rfl, Hob.out.keepT (KeepT.drewN w k) (fun _ _ ⟨v, e, hv⟩ => ⟨v, e, hv.keepT (KeepT.drewN w k)⟩), below_drewN0 w k⟩
end Go.Proofs.YtnmhjabihfhobaaGreatDoor
/- three: what the code computes, and its laws, in plain Lean. -/
namespace Go.Proofs.YtnmhjabihfhobaaGreatDoor
open Go.RowKit
open JP (JV Bs)

namespace JP
def gto (n : Bs) (l : Fs) : JV := (get n l).getD .nul
/-- what goes: what was there before, lives, and isn't wanted -/
def goesL (had o out : Fs) : List Bs := (had.filter fun y => (get y.1 out).isSome && (get y.1 o).isNone).map (·.1)
def remF (had o out : Fs) : Fs := out.filter fun y => !((get y.1 had).isSome && (get y.1 o).isNone)
mutual
def into3 : JV → JV → JV → JV
  | last, live, .obj o => .obj (into3F (fieldsOf last) (remF (fieldsOf last) o (fieldsOf live)) o)
  | _, _, .nul => .nul
  | _, _, .bool b => .bool b
  | _, _, .num n => .num n
  | _, _, .str s => .str s
  | _, _, .list l => .list l
termination_by structural _ _ x => x
def into3F : Fs → Fs → Fs → Fs
  | _, out, [] => out
  | had, out, (n, w) :: r => into3F had (put n (into3 (gto n had) (gto n out) w) out) r
termination_by structural _ _ x => x
end
mutual
/-- the ways to what goes, in the order in which it is told -/
def lost3 : JV → JV → JV → List (List Bs)
  | last, live, .obj o => (goesL (fieldsOf last) o (fieldsOf live)).map (fun n => [n]) ++ lost3F (fieldsOf last) (remF (fieldsOf last) o (fieldsOf live)) o
  | _, _, .nul => []
  | _, _, .bool _ => []
  | _, _, .num _ => []
  | _, _, .str _ => []
  | _, _, .list _ => []
termination_by structural _ _ x => x
def lost3F : Fs → Fs → Fs → List (List Bs)
  | _, _, [] => []
  | had, out, (n, w) :: r => (lost3 (gto n had) (gto n out) w).map (n :: ·) ++ lost3F had (put n (into3 (gto n had) (gto n out) w) out) r
termination_by structural _ _ x => x
end
theorem into3_obj (last live : JV) (o : Fs) : into3 last live (.obj o) = .obj (into3F (fieldsOf last) (remF (fieldsOf last) o (fieldsOf live)) o) := by rw [into3]
theorem into3F_nil (had out : Fs) : into3F had out [] = out := by rw [into3F]
theorem into3F_cons (had out : Fs) (n : Bs) (w : JV) (r : Fs) : into3F had out ((n, w) :: r) = into3F had (put n (into3 (gto n had) (gto n out) w) out) r := by rw [into3F]
theorem lost3_obj (last live : JV) (o : Fs) : lost3 last live (.obj o) = (goesL (fieldsOf last) o (fieldsOf live)).map (fun n => [n]) ++ lost3F (fieldsOf last) (remF (fieldsOf last) o (fieldsOf live)) o := by rw [lost3]
theorem lost3F_nil (had out : Fs) : lost3F had out [] = [] := by rw [lost3F]
theorem lost3F_cons (had out : Fs) (n : Bs) (w : JV) (r : Fs) : lost3F had out ((n, w) :: r) = (lost3 (gto n had) (gto n out) w).map (n :: ·) ++ lost3F had (put n (into3 (gto n had) (gto n out) w) out) r := by rw [lost3F]
theorem into3_not {w : JV} (h : ∀ l, w ≠ .obj l) (last live : JV) : into3 last live w = w := by
  cases w with
  | obj l => exact absurd rfl (h l)
  | _ => rw [into3]
theorem lost3_not {w : JV} (h : ∀ l, w ≠ .obj l) (last live : JV) : lost3 last live w = [] := by
  cases w with
  | obj l => exact absurd rfl (h l)
  | _ => rw [lost3]
/-! what lies there afterwards -/
theorem get_filter (p : Bs → Bool) (m : Bs) : ∀ {d : Fs}, get m (d.filter fun y => p y.1) = if p m = true then get m d else none
  | [] => by rw [List.filter_nil, get]; split <;> rfl
  | (k, x) :: r => by
    have ih := get_filter p m (d := r)
    by_cases hk : p k = true
    · rw [List.filter_cons_of_pos (by exact hk), get, get, ih]
      by_cases e : k = m
      · rw [if_pos e, if_pos e, if_pos (e ▸ hk)]
      · rw [if_neg e, if_neg e]
    · rw [List.filter_cons_of_neg (by exact hk), ih, get]
      by_cases e : k = m
      · rw [if_neg (e ▸ hk), if_neg (e ▸ hk)]
      · rw [if_neg e]
theorem get_rem (had o out : Fs) (m : Bs) : get m (remF had o out) = if (get m had).isSome = true ∧ (get m o).isNone = true then none else get m out := by
  have h := get_filter (fun n => !((get n had).isSome && (get n o).isNone)) m (d := out)
  show get m (out.filter fun y => !((get y.1 had).isSome && (get y.1 o).isNone)) = _
  rw [h]
  by_cases c : (get m had).isSome = true ∧ (get m o).isNone = true
  · rw [if_pos c, if_neg (by rw [c.1, c.2]; decide)]
  · rw [if_neg c, if_pos]
    rw [Bool.not_eq_true', Bool.eq_false_iff]
    intro e
    rw [Bool.and_eq_true] at e
    exact c e
theorem srt_rem {had o out : Fs} (h : Srt out) : Srt (remF had o out) := List.Pairwise.sublist List.filter_sublist h
theorem srt_into3F : ∀ {l had out : Fs}, Srt out → Srt (into3F had out l)
  | [], _, _, h => by rw [into3F_nil]; exact h
  | (n, w) :: r, had, out, h => by rw [into3F_cons]; exact srt_into3F (put_srt h)
theorem get_into3F (m : Bs) : ∀ (l had out : Fs), Srt l → get m (into3F had out l) = match get m l with
    | some w => some (into3 (gto m had) (gto m out) w)
    | none => get m out
  | [], had, out, _ => by rw [into3F_nil, get]
  | (n, w) :: r, had, out, hs => by
    rw [into3F_cons, get_into3F m r had _ (List.pairwise_cons.1 hs).2, get]
    by_cases e : n = m
    · subst e
      rw [if_pos rfl, get_tail hs rfl, get_put, if_pos rfl]
    · rw [if_neg e]
      have e1 : gto m (put n (into3 (gto n had) (gto n out) w) out) = gto m out := by unfold gto; rw [get_put, if_neg (fun h => e h.symm)]
      rw [e1, get_put, if_neg (fun h => e h.symm)]
theorem wf_gto {n : Bs} {l : Fs} (h : wfF l) : wf (gto n l) := wf_get n h
theorem gto_some {n : Bs} {l : Fs} {x : JV} (h : get n l = some x) : gto n l = x := by unfold gto; rw [h]; rfl
/-- what is wanted is there, wanted again it stays -/
theorem into3_again : ∀ want last live : JV, wf live → wf want → into3 want (into3 last live want) want = into3 last live want := by
  refine JV.byGet (P := fun want => ∀ last live : JV, wf live → wf want → into3 want (into3 last live want) want = into3 last live want) (fun want ih => ?_)
  intro last live hl hw
  rcases obj_or want with ⟨o, rfl⟩ | hn
  · rw [into3_obj, into3_obj]
    obtain ⟨so, fo⟩ := wf_obj hw
    obtain ⟨sl, fl⟩ := wf_fields hl
    refine congrArg JV.obj ?_
    show into3F o (remF o o (into3F _ (remF _ o _) o)) o = _
    have hA := srt_into3F (l := o) (had := fieldsOf last) (srt_rem (had := fieldsOf last) (o := o) sl)
    refine fs_ext (srt_into3F (srt_rem hA)) hA fun m => ?_
    rw [get_into3F m o _ _ so, get_into3F m o _ _ so]
    have key := get_into3F m o (fieldsOf last) (remF (fieldsOf last) o (fieldsOf live)) so
    cases hg : get m o with
    | none =>
      dsimp only
      rw [get_rem, if_neg (by rw [hg]; intro h; cases h.1), key, hg]
    | some w =>
      dsimp only
      rw [hg] at key
      dsimp only at key
      have e1 : gto m (remF o o (into3F (fieldsOf last) (remF (fieldsOf last) o (fieldsOf live)) o)) = into3 (gto m (fieldsOf last)) (gto m (remF (fieldsOf last) o (fieldsOf live))) w := by
        refine gto_some ?_
        rw [get_rem, if_neg (by rw [hg]; intro h; cases h.2), key]
      have e2 : gto m (remF (fieldsOf last) o (fieldsOf live)) = gto m (fieldsOf live) := by
        unfold gto
        rw [get_rem, if_neg (by rw [hg]; intro h; cases h.2)]
      rw [e1, gto_some hg, e2]
      exact congrArg some (ih o m w rfl hg _ _ (wf_gto fl) (wf_at fo hg))
  · rw [into3_not hn, into3_not hn]
/-- where nothing else was changed, what is wanted comes of it -/
theorem into3_alone : ∀ want last : JV, wf last → wf want → into3 last last want = want := by
  refine JV.byGet (P := fun want => ∀ last : JV, wf last → wf want → into3 last last want = want) (fun want ih => ?_)
  intro last hl hw
  rcases obj_or want with ⟨o, rfl⟩ | hn
  · rw [into3_obj]
    obtain ⟨so, fo⟩ := wf_obj hw
    obtain ⟨sl, fl⟩ := wf_fields hl
    refine congrArg JV.obj (fs_ext (srt_into3F (srt_rem sl)) so fun m => ?_)
    rw [get_into3F m o _ _ so]
    cases hg : get m o with
    | none =>
      dsimp only
      rw [get_rem]
      by_cases h : (get m (fieldsOf last)).isSome = true
      · rw [if_pos ⟨h, by rw [hg]; rfl⟩]
      · rw [if_neg (fun e => h e.1)]
        cases hx : get m (fieldsOf last) with
        | none => rfl
        | some x => rw [hx] at h; exact absurd rfl h
    | some w =>
      dsimp only
      have e2 : gto m (remF (fieldsOf last) o (fieldsOf last)) = gto m (fieldsOf last) := by
        unfold gto
        rw [get_rem, if_neg (by rw [hg]; intro h; cases h.2)]
      rw [e2]
      exact congrArg some (ih o m w rfl hg _ (wf_gto fl) (wf_at fo hg))
  · exact into3_not hn _ _
/-- where nothing was before, nothing goes -/
theorem goes_nil (o out : Fs) : goesL [] o out = [] := rfl
theorem lost3_new : (∀ want last live : JV, fieldsOf last = [] → lost3 last live want = []) ∧ (∀ _ : List JV, True) ∧ ∀ l out : Fs, lost3F [] out l = [] := by
  refine JV.both (P := fun want => ∀ last live : JV, fieldsOf last = [] → lost3 last live want = []) (PL := fun _ => True) (PF := fun l => ∀ out : Fs, lost3F [] out l = []) ?_ ?_ ?_ ?_ ?_ ?_ trivial (fun _ _ _ _ => trivial) ?_ ?_
  · intro last live _; rw [lost3]
  · intro b last live _; rw [lost3]
  · intro b last live _; rw [lost3]
  · intro b last live _; rw [lost3]
  · intro b _ last live _; rw [lost3]
  · intro l ih last live h; rw [lost3_obj, h, goes_nil, ih]; rfl
  · intro out; rw [lost3F_nil]
  · intro n w r hw hr out
    rw [lost3F_cons, hr, hw _ _ (by unfold gto; rfl)]; rfl
/-- what is there, and wanted, and was wanted: nothing goes -/
theorem goes_self (o out : Fs) : goesL o o out = [] := by
  unfold goesL
  rw [List.map_eq_nil_iff, List.filter_eq_nil_iff]
  intro y hy h
  rw [Bool.and_eq_true] at h
  have : ∀ {l : Fs} {y : Bs × JV}, y ∈ l → (get y.1 l).isSome = true := fun {l y} => by
    induction l with
    | nil => intro h; cases h
    | cons z r ih =>
      intro h
      obtain ⟨m, x⟩ := z
      rw [get]
      by_cases e : m = y.1
      · rw [if_pos e]; rfl
      · rw [if_neg e]
        rcases List.mem_cons.1 h with h | h
        · exact absurd (by rw [h]) e
        · exact ih h
  have h1 := this hy
  cases hx : get y.1 o with
  | none => rw [hx] at h1; cases h1
  | some x => rw [hx] at h; cases h.2
theorem lost3F_self {o A : Fs} (hA : Srt A) : ∀ l : Fs, (∀ n w, (n, w) ∈ l → ∃ a, get n A = some a ∧ gto n o = w ∧ into3 w a w = a ∧ lost3 w a w = []) → lost3F o A l = []
  | [], _ => lost3F_nil _ _
  | (n, w) :: r, h => by
    obtain ⟨a, h1, h2, h3, h4⟩ := h n w (List.mem_cons_self ..)
    rw [lost3F_cons, h2, gto_some h1, h3, h4, put_get hA h1]
    exact lost3F_self hA r fun n' w' hm => h n' w' (List.mem_cons_of_mem _ hm)
theorem get_memS {n : Bs} {w : JV} : ∀ {l : Fs}, Srt l → (n, w) ∈ l → get n l = some w
  | [], _, h => by cases h
  | (m, x) :: r, hs, h => by
    rw [get]
    rcases List.mem_cons.1 h with h | h
    · cases h; rw [if_pos rfl]
    · have h9 := (List.pairwise_cons.1 hs).1 (n, w) h
      by_cases e : m = n
      · subst e; exact absurd h9 (List.lt_irrefl m)
      · rw [if_neg e]; exact get_memS (List.pairwise_cons.1 hs).2 h
theorem lost3_again : ∀ want last live : JV, wf live → wf want → lost3 want (into3 last live want) want = [] := by
  refine JV.byGet (P := fun want => ∀ last live : JV, wf live → wf want → lost3 want (into3 last live want) want = []) (fun want ih => ?_)
  intro last live hl hw
  rcases obj_or want with ⟨o, rfl⟩ | hn
  · rw [into3_obj, lost3_obj]
    obtain ⟨so, fo⟩ := wf_obj hw
    obtain ⟨sl, fl⟩ := wf_fields hl
    have hA := srt_into3F (l := o) (had := fieldsOf last) (srt_rem (had := fieldsOf last) (o := o) sl)
    show (goesL o o _).map _ ++ lost3F o (remF o o (into3F _ (remF _ o _) o)) o = []
    rw [goes_self, List.map_nil, List.nil_append]
    have eA : remF o o (into3F (fieldsOf last) (remF (fieldsOf last) o (fieldsOf live)) o) = into3F (fieldsOf last) (remF (fieldsOf last) o (fieldsOf live)) o := by
      refine fs_ext (srt_rem hA) hA fun m => ?_
      rw [get_rem]
      by_cases h : (get m o).isSome = true ∧ (get m o).isNone = true
      · cases hg : get m o with
        | none => rw [hg] at h; cases h.1
        | some x => rw [hg] at h; cases h.2
      · rw [if_neg h]
    rw [eA]
    refine lost3F_self hA o fun n w hm => ?_
    have hg := get_memS so hm
    have key := get_into3F n o (fieldsOf last) (remF (fieldsOf last) o (fieldsOf live)) so
    rw [hg] at key
    refine ⟨_, key, gto_some hg, ?_, ?_⟩
    · exact into3_again w _ _ (by
        have h9 := get_rem (fieldsOf last) o (fieldsOf live) n
        unfold gto
        rw [h9]
        split
        · exact trivial
        · exact wf_gto fl) (wf_at fo hg)
    · exact ih o n w rfl hg _ _ (by
        have h9 := get_rem (fieldsOf last) o (fieldsOf live) n
        unfold gto
        rw [h9]
        split
        · exact trivial
        · exact wf_gto fl) (wf_at fo hg)
  · exact lost3_not hn _ _
/-! how long it gets; well-formed -/
theorem wfF_filter (p : Bs × JV → Bool) : ∀ {d : Fs}, wfF d → wfF (d.filter p)
  | [], h => h
  | (m, x) :: r, h => by
    rw [wfF] at h
    by_cases hp : p (m, x) = true
    · rw [List.filter_cons_of_pos hp, wfF]; exact ⟨h.1, h.2.1, wfF_filter p h.2.2⟩
    · rw [List.filter_cons_of_neg hp]; exact wfF_filter p h.2.2
theorem lenF_filter (p : Bs × JV → Bool) : ∀ d : Fs, lenF (d.filter p) ≤ lenF d
  | [] => Nat.le_refl _
  | (m, x) :: r => by
    have ih := lenF_filter p r
    by_cases hp : p (m, x) = true
    · rw [List.filter_cons_of_pos hp, lenF, lenF]; omega
    · rw [List.filter_cons_of_neg hp, lenF]; omega
theorem into3_fit : (∀ w : JV, wf w → ∀ last live : JV, wf live → wf (into3 last live w) ∧ (text (into3 last live w)).length ≤ lenF (fieldsOf live) + (text w).length) ∧ (∀ _ : List JV, True) ∧ (∀ l : Fs, wfF l → ∀ had out : Fs, Fld out → Fld (into3F had out l) ∧ lenF (into3F had out l) ≤ lenF out + lenF l) := by
  refine JV.both ?_ ?_ ?_ ?_ ?_ ?_ trivial (fun _ _ _ _ => trivial) ?_ ?_
  · intro hw last live _; rw [into3]; exact ⟨hw, by omega⟩
  · intro b hw last live _; rw [into3]; exact ⟨hw, by omega⟩
  · intro b hw last live _; rw [into3]; exact ⟨hw, by omega⟩
  · intro b hw last live _; rw [into3]; exact ⟨hw, by omega⟩
  · intro b _ hw last live _; rw [into3]; exact ⟨hw, by omega⟩
  · intro l ih hw last live hl
    rw [into3_obj]
    obtain ⟨so, fo⟩ := wf_obj hw
    obtain ⟨sl, fl⟩ := wf_fields hl
    obtain ⟨h1, h2⟩ := ih fo (fieldsOf last) (remF (fieldsOf last) l (fieldsOf live)) ⟨srt_rem sl, wfF_filter _ fl⟩
    refine ⟨by rw [wf]; exact h1, ?_⟩
    have h3 : lenF (remF (fieldsOf last) l (fieldsOf live)) ≤ lenF (fieldsOf live) := lenF_filter _ _
    have h4 := obj_len_ge l
    by_cases h0 : into3F (fieldsOf last) (remF (fieldsOf last) l (fieldsOf live)) l = []
    · rw [h0]
      have h5 : (text (.obj ([] : Fs))).length = 2 := by decide +kernel
      have h6 : 2 ≤ (text (.obj l)).length := by
        cases l with
        | nil => rw [h5]; exact Nat.le_refl _
        | cons y r => rw [obj_len_eq _ (by intro e; cases e)]; obtain ⟨n, v⟩ := y; rw [lenF]; omega
      rw [h5]; omega
    · rw [obj_len_eq _ h0]; omega
  · intro _ had out h; rw [into3F_nil]; exact ⟨h, by omega⟩
  · intro n w r hw hr hwf had out h
    rw [wfF] at hwf
    rw [into3F_cons]
    obtain ⟨a1, a2⟩ := hw hwf.2.1 (gto n had) (gto n out) (wf_gto h.2)
    obtain ⟨b1, b2⟩ := hr hwf.2.2 had (put n (into3 (gto n had) (gto n out) w) out) ⟨put_srt h.1, put_wf hwf.1 a1 h.2⟩
    refine ⟨b1, ?_⟩
    have hp := lenF_put n (into3 (gto n had) (gto n out) w) out h.1
    have hc := lenF_cut_get (n := n) h.1
    rw [lenF]
    cases hg : get n out with
    | none =>
      rw [hg] at hc
      have e : gto n out = .nul := by unfold gto; rw [hg]; rfl
      rw [e] at a2 hp b2
      simp only [wO] at hc
      have : lenF (fieldsOf .nul) = 0 := rfl
      rw [e]
      omega
    | some b =>
      rw [hg] at hc
      have e := gto_some hg
      rw [e] at a2 hp b2
      simp only [wO] at hc
      have := lenF_fields b
      rw [e]
      omega
end JP
end Go.Proofs.YtnmhjabihfhobaaGreatDoor
/- three: the laws of what is answered, in plain Lean. -/
namespace Go.Proofs.YtnmhjabihfhobaaGreatDoor
open Go.RowKit
open JP (JV Bs)

namespace JP
/-- three documents, read -/
def readE3 (a b c : Bs) : Int := if (readL a).2 = 0 then (if (readL b).2 = 0 then (readL c).2 else (readL b).2) else (readL a).2
def merge3E (a b c : Bs) : Int := if readE3 a b c = 0 then tellE (into3 (readL a).1 (readL b).1 (readL c).1) else readE3 a b c
def merge3T (a b c : Bs) : Bs := if readE3 a b c = 0 then tellT (into3 (readL a).1 (readL b).1 (readL c).1) else []
/-- the ways to what goes -/
def lost3L (a b c : Bs) : List (List Bs) := if readE3 a b c = 0 then lost3 (readL a).1 (readL b).1 (readL c).1 else []
theorem read3_ok {a b c : Bs} (h : readE3 a b c = 0) : ∃ x y z, readL a = (x, 0) ∧ readL b = (y, 0) ∧ readL c = (z, 0) ∧ Fit x ∧ Fit y ∧ Fit z := by
  unfold readE3 at h
  by_cases h1 : (readL a).2 = 0
  · rw [if_pos h1] at h
    by_cases h2 : (readL b).2 = 0
    · rw [if_pos h2] at h
      exact ⟨_, _, _, Prod.ext rfl h1, Prod.ext rfl h2, Prod.ext rfl h, read_fit' h1, read_fit' h2, read_fit' h⟩
    · rw [if_neg h2] at h; exact absurd h h2
  · rw [if_neg h1] at h; exact absurd h h1
theorem read3_of {a b c : Bs} {x y z : JV} (h1 : readL a = (x, 0)) (h2 : readL b = (y, 0)) (h3 : readL c = (z, 0)) : readE3 a b c = 0 := by
  unfold readE3
  rw [h1, h2, h3]; rfl
theorem into3_fits {x y z : JV} (hy : Fit y) (hz : Fit z) : wf (into3 x y z) ∧ (text (into3 x y z)).length ≤ 4000 := by
  obtain ⟨h1, h2⟩ := into3_fit.1 z hz.1 x y hy.1
  have := lenF_fields y
  have := hy.2.2.2
  have := hz.2.2.2
  exact ⟨h1, by omega⟩
theorem merge3_ok {a b c : Bs} (h : merge3E a b c = 0) : ∃ x y z, readL a = (x, 0) ∧ readL b = (y, 0) ∧ readL c = (z, 0) ∧ Fit x ∧ Fit y ∧ Fit z ∧ Fit (into3 x y z) ∧ merge3T a b c = text (into3 x y z) := by
  unfold merge3E at h
  by_cases h0 : readE3 a b c = 0
  · obtain ⟨x, y, z, h1, h2, h3, f1, f2, f3⟩ := read3_ok h0
    rw [if_pos h0, h1, h2, h3] at h
    obtain ⟨g1, g2⟩ := tell_ok (wf_S.1 _ (into3_fits f2 f3).1) h
    refine ⟨x, y, z, h1, h2, h3, f1, f2, f3, g1, ?_⟩
    unfold merge3T
    rw [if_pos h0, h1, h2, h3]
    exact g2
  · rw [if_neg h0] at h; exact absurd h h0
theorem merge3_of {a b c : Bs} {x y z : JV} (h1 : readL a = (x, 0)) (h2 : readL b = (y, 0)) (h3 : readL c = (z, 0)) (hf : Fit (into3 x y z)) : merge3E a b c = 0 ∧ merge3T a b c = text (into3 x y z) := by
  unfold merge3E merge3T
  rw [if_pos (read3_of h1 h2 h3), if_pos (read3_of h1 h2 h3), h1, h2, h3]
  exact tell_fit hf
theorem merge3_no {a b c : Bs} (h : merge3E a b c ≠ 0) : merge3T a b c = [] := by
  unfold merge3T
  by_cases h0 : readE3 a b c = 0
  · unfold merge3E at h
    rw [if_pos h0] at h ⊢
    exact tellT_no h
  · rw [if_neg h0]
theorem merge3T_len (a b c : Bs) : (merge3T a b c).length ≤ 2000 := by
  by_cases h : merge3E a b c = 0
  · obtain ⟨x, y, z, _, _, _, _, _, _, f, e⟩ := merge3_ok h
    rw [e]; exact f.2.2.2
  · rw [merge3_no h]; exact Nat.zero_le _
/-- ThreeAgain -/
theorem three_again {a b c : Bs} (h : merge3E a b c = 0) : merge3E c (merge3T a b c) c = 0 ∧ merge3T c (merge3T a b c) c = merge3T a b c ∧ readE3 c (merge3T a b c) c = 0 ∧ lost3L c (merge3T a b c) c = [] := by
  obtain ⟨x, y, z, h1, h2, h3, f1, f2, f3, ff, e⟩ := merge3_ok h
  rw [e]
  have hr := fit_read ff
  have hag := into3_again z x y f2.1 f3.1
  obtain ⟨g1, g2⟩ := merge3_of h3 hr h3 (by rw [hag]; exact ff)
  refine ⟨g1, by rw [g2, hag], read3_of h3 hr h3, ?_⟩
  unfold lost3L
  rw [if_pos (read3_of h3 hr h3), h3, hr]
  exact lost3_again z x y f2.1 f3.1
/-- ThreeAlone -/
theorem three_bad {a b c : Bs} (h : (readL c).2 ≠ 0) : merge3E a b c ≠ 0 := by
  intro e
  obtain ⟨x, y, z, _, _, h3, _⟩ := merge3_ok e
  rw [h3] at h
  exact h rfl
theorem three_first {a b c : Bs} (h : (readL a).2 ≠ 0) : merge3E a b c = (readL a).2 := by
  unfold merge3E readE3
  rw [if_neg h, if_neg h]
theorem three_alone {a c : Bs} (h1 : (readL a).2 = 0) (h3 : (readL c).2 = 0) : merge3E a a c = 0 ∧ merge3T a a c = canonT c := by
  have r1 : readL a = ((readL a).1, 0) := Prod.ext rfl h1
  have r3 : readL c = ((readL c).1, 0) := Prod.ext rfl h3
  have f1 := read_fit' h1
  have f3 := read_fit' h3
  have e := into3_alone (readL c).1 (readL a).1 f1.1 f3.1
  obtain ⟨g1, g2⟩ := merge3_of r1 r1 r3 (by rw [e]; exact f3)
  exact ⟨g1, by rw [g2, e, canonT_ok r3]⟩
theorem read_empty : readL [123, 125] = (.obj [], 0) := by
  have := fit_read (v := .obj []) ⟨by rw [wf]; exact ⟨List.Pairwise.nil, trivial⟩, by decide, by decide, by decide +kernel⟩
  rw [show text (.obj []) = [123, 125] from by decide +kernel] at this; exact this
theorem three_new {b c : Bs} (h3 : (readL c).2 = 0) : lost3L [123, 125] b c = [] ∧ readE3 [123, 125] b c = (readL b).2 := by
  refine ⟨?_, ?_⟩
  · unfold lost3L
    by_cases h0 : readE3 [123, 125] b c = 0
    · rw [if_pos h0, read_empty]
      exact lost3_new.1 _ _ _ rfl
    · rw [if_neg h0]
  · unfold readE3
    rw [read_empty, if_pos rfl, h3]
    by_cases h : (readL b).2 = 0
    · rw [if_pos h, h]
    · rw [if_neg h]
theorem three_const : merge3E [49] [50] [51] = 0 ∧ merge3T [49] [50] [51] = [51] := by
  have r : ∀ n : Int, n = 1 ∨ n = 2 ∨ n = 3 → Fit (.num n) := fun n h => by
    rcases h with rfl | rfl | rfl <;> exact ⟨by rw [wf]; exact ⟨by decide, by decide⟩, by decide, by decide, by decide +kernel⟩
  have h1 := fit_read (r 1 (.inl rfl))
  have h2 := fit_read (r 2 (.inr (.inl rfl)))
  have h3 := fit_read (r 3 (.inr (.inr rfl)))
  rw [show text (.num 1) = [49] from by decide +kernel] at h1
  rw [show text (.num 2) = [50] from by decide +kernel] at h2
  rw [show text (.num 3) = [51] from by decide +kernel] at h3
  have e : into3 (.num 1) (.num 2) (.num 3) = .num 3 := by rw [into3]
  obtain ⟨a, b⟩ := merge3_of h1 h2 h3 (by rw [e]; exact r 3 (.inr (.inr rfl)))
  exact ⟨a, by rw [b, e]; decide +kernel⟩
end JP
end Go.Proofs.YtnmhjabihfhobaaGreatDoor
/- three: what is lost, in plain Lean. -/
namespace Go.Proofs.YtnmhjabihfhobaaGreatDoor
open Go.RowKit
open JP (JV Bs)

namespace JP
theorem get_of_mem {l : Fs} {y : Bs × JV} (h : y ∈ l) : (get y.1 l).isSome = true := by
  induction l with
  | nil => cases h
  | cons z r ih =>
    obtain ⟨m, x⟩ := z
    rw [get]
    by_cases e : m = y.1
    · rw [if_pos e]; rfl
    · rw [if_neg e]
      rcases List.mem_cons.1 h with h | h
      · exact absurd (by rw [h]) e
      · exact ih h
theorem mem_lost3F : ∀ {l had out : Fs} {way : List Bs}, Srt l → way ∈ lost3F had out l → ∃ n w r, (n, w) ∈ l ∧ way = n :: r ∧ r ∈ lost3 (gto n had) (gto n out) w
  | [], _, _, _, _, h => by rw [lost3F_nil] at h; cases h
  | (n, w) :: r, had, out, way, hs, h => by
    rw [lost3F_cons] at h
    rcases List.mem_append.1 h with h | h
    · obtain ⟨r', h1, rfl⟩ := List.mem_map.1 h
      exact ⟨n, w, r', List.mem_cons_self .., rfl, h1⟩
    · obtain ⟨h1, h2⟩ := List.pairwise_cons.1 hs
      obtain ⟨m, v, r', k1, k2, k3⟩ := mem_lost3F h2 h
      refine ⟨m, v, r', List.mem_cons_of_mem _ k1, k2, ?_⟩
      have hne : m ≠ n := fun e => by
        have h9 := h1 (m, v) k1
        rw [e] at h9
        exact List.lt_irrefl _ h9
      have : gto m (put n (into3 (gto n had) (gto n out) w) out) = gto m out := by unfold gto; rw [get_put, if_neg hne]
      rw [this] at k3
      exact k3
theorem at_nul {s : Bs} {r : List Bs} : atW .nul (s :: r) = none := by rw [atW_cons]; rfl
theorem child_fields {v : JV} {n : Bs} {x : JV} (h : get n (fieldsOf v) = some x) : child v n = some x := by
  cases v with
  | obj l => exact h
  | _ => cases h
theorem at_gto {v : JV} {n s : Bs} {r : List Bs} (h : (atW (gto n (fieldsOf v)) (s :: r)).isSome = true) : (atW v (n :: s :: r)).isSome = true := by
  cases hg : get n (fieldsOf v) with
  | none =>
    have : gto n (fieldsOf v) = .nul := by unfold gto; rw [hg]; rfl
    rw [this, at_nul] at h; cases h
  | some x =>
    rw [gto_some hg] at h
    rw [atW_cons, child_fields hg]; exact h
theorem lost_there : ∀ want last live : JV, wf want → ∀ way ∈ lost3 last live want, (atW live way).isSome = true ∧ (atW last way).isSome = true ∧ atW (into3 last live want) way = none ∧ way ≠ [] := by
  refine JV.byGet (P := fun want => ∀ last live : JV, wf want → ∀ way ∈ lost3 last live want, (atW live way).isSome = true ∧ (atW last way).isSome = true ∧ atW (into3 last live want) way = none ∧ way ≠ []) (fun want ih => ?_)
  intro last live hw way hm
  rcases obj_or want with ⟨o, rfl⟩ | hn
  · obtain ⟨so, fo⟩ := wf_obj hw
    rw [lost3_obj] at hm
    rw [into3_obj]
    rcases List.mem_append.1 hm with hm | hm
    · obtain ⟨n, hn, rfl⟩ := List.mem_map.1 hm
      unfold goesL at hn
      obtain ⟨y, hy, rfl⟩ := List.mem_map.1 hn
      obtain ⟨h1, h2⟩ := List.mem_filter.1 hy
      rw [Bool.and_eq_true] at h2
      have h3 := get_of_mem h1
      refine ⟨?_, ?_, ?_, by simp⟩
      · cases hg : get y.1 (fieldsOf live) with
        | none => rw [hg] at h2; cases h2.1
        | some x => rw [atW_cons, child_fields hg]; rfl
      · cases hg : get y.1 (fieldsOf last) with
        | none => rw [hg] at h3; cases h3
        | some x => rw [atW_cons, child_fields hg]; rfl
      · rw [atW_cons]
        show (get y.1 _).bind _ = none
        rw [get_into3F _ _ _ _ so]
        cases hg : get y.1 o with
        | some x => rw [hg] at h2; cases h2.2
        | none =>
          dsimp only
          rw [get_rem, if_pos ⟨h3, by rw [hg]; rfl⟩]; rfl
    · obtain ⟨n, w, r, k1, rfl, k3⟩ := mem_lost3F so hm
      have hg := get_memS so k1
      obtain ⟨g1, g2, g3, g4⟩ := ih o n w rfl hg _ _ (wf_at fo hg) r k3
      have e2 : gto n (remF (fieldsOf last) o (fieldsOf live)) = gto n (fieldsOf live) := by
        unfold gto
        rw [get_rem, if_neg (by rw [hg]; intro h; cases h.2)]
      rw [e2] at g1 g3
      cases r with
      | nil => exact absurd rfl g4
      | cons s r =>
        refine ⟨at_gto g1, at_gto g2, ?_, by simp⟩
        rw [atW_cons]
        show (get n _).bind _ = none
        rw [get_into3F _ _ _ _ so, hg]
        dsimp only
        rw [e2]
        exact g3
  · rw [lost3_not hn] at hm; cases hm
theorem at_deep : ∀ {l : List Bs} {v c : JV}, atW v l = some c → l.length + deep c ≤ deep v
  | [], v, c, h => by rw [atW] at h; cases h; simp
  | s :: r, v, c, h => by
    rw [atW_cons] at h
    obtain ⟨x, h1, h2⟩ := Option.bind_eq_some_iff.1 h
    have := at_deep h2
    have := (child_len h1).2.2
    rw [List.length_cons]; omega
/-- ThreeLoses -/
theorem three_loses {a b c : Bs} (h : merge3E a b c = 0) : readE3 a b c = 0 ∧ ∀ way ∈ lost3L a b c, way.length ≤ 10 ∧ getE b (joinK way) = 0 ∧ getE a (joinK way) = 0 ∧ getE (merge3T a b c) (joinK way) ≠ 0 := by
  obtain ⟨x, y, z, h1, h2, h3, f1, f2, f3, ff, e⟩ := merge3_ok h
  have hr := read3_of h1 h2 h3
  refine ⟨hr, fun way hm => ?_⟩
  unfold lost3L at hm
  rw [if_pos hr, h1, h2, h3] at hm
  obtain ⟨g1, g2, g3, g4⟩ := lost_there z x y f3.1 way hm
  obtain ⟨cy, hy⟩ := Option.isSome_iff_exists.1 g1
  obtain ⟨cx, hx⟩ := Option.isSome_iff_exists.1 g2
  have hl : way.length ≤ 10 := by have := at_deep hy; have := f2.2.2.1; omega
  have hs := steps_join way hl
  refine ⟨hl, ((get_of h2 hs).1 cy hy).1, ((get_of h1 hs).1 cx hx).1, ?_⟩
  rw [e]
  rw [((get_of (fit_read ff) hs).2 g3).1]
  decide
theorem three_key {a b c k : Bs} (h : merge3E a b c = 0) (hc : kindT c = 6) (hb : getE b (joinK [k]) = 0) (ha : getE a (joinK [k]) ≠ 0) (hcn : getE c (joinK [k]) ≠ 0) (hbk : kindT b = 6) : kindT a = 5 ∨ (getE (merge3T a b c) (joinK [k]) = 0 ∧ getT (merge3T a b c) (joinK [k]) = getT b (joinK [k])) := by
  obtain ⟨x, y, z, h1, h2, h3, f1, f2, f3, ff, e⟩ := merge3_ok h
  have hs := steps_join [k] (by show 1 ≤ 10; decide)
  have kt : ∀ {s : Bs} {v : JV}, readL s = (v, 0) → kindT s = kind v := fun {s v} h => by unfold kindT; rw [h]; rfl
  rw [kt h3] at hc
  rw [kt h2] at hbk
  obtain ⟨o, rfl⟩ : ∃ o, z = .obj o := by cases z <;> first | exact ⟨_, rfl⟩ | (cases hc)
  obtain ⟨l, rfl⟩ : ∃ o, y = .obj o := by cases y <;> first | exact ⟨_, rfl⟩ | (cases hbk)
  have one : ∀ v : JV, atW v [k] = child v k := fun v => by rw [atW_cons]; cases child v k <;> rfl
  have hko : get k o = none := by
    cases hg : get k o with
    | none => rfl
    | some w => exact absurd ((get_of h3 hs).1 w (by rw [one]; exact hg)).1 hcn
  obtain ⟨v, hv⟩ : ∃ v, get k l = some v := by
    cases hg : get k l with
    | some w => exact ⟨w, rfl⟩
    | none => rw [((get_of h2 hs).2 (by rw [one]; exact hg)).1] at hb; cases hb
  by_cases hx : kind x = 5
  · exact .inl (by rw [kt h1]; exact hx)
  · refine .inr ?_
    have hkh : get k (fieldsOf x) = none := by
      cases x with
      | obj q =>
        cases hg : get k q with
        | none => exact hg
        | some w => exact absurd ((get_of h1 hs).1 w (by rw [one]; exact hg)).1 ha
      | list q => exact absurd rfl hx
      | _ => rfl
    have key : atW (into3 x (.obj l) (.obj o)) [k] = some v := by
      rw [one, into3_obj]
      show get k _ = _
      rw [get_into3F _ _ _ _ (wf_obj f3.1).1, hko]
      dsimp only
      rw [get_rem, if_neg (by rw [hkh]; intro h; cases h.1)]
      exact hv
    obtain ⟨g1, g2⟩ := (get_of (fit_read ff) hs).1 v key
    obtain ⟨_, g4⟩ := (get_of h2 hs).1 v (by rw [one]; exact hv)
    rw [e, g1, g2, g4]
    exact ⟨rfl, rfl⟩
end JP
end Go.Proofs.YtnmhjabihfhobaaGreatDoor
/- three: what the loops do, step by step, in plain Lean. -/
namespace Go.Proofs.YtnmhjabihfhobaaGreatDoor
open Go.RowKit
open JP (JV Bs)

namespace JP
theorem into3F_append : ∀ (a b had out : Fs), into3F had out (a ++ b) = into3F had (into3F had out a) b
  | [], b, had, out => by rw [List.nil_append, into3F_nil]
  | (n, w) :: r, b, had, out => by rw [List.cons_append, into3F_cons, into3F_cons]; exact into3F_append r b _ _
theorem lost3F_append : ∀ (a b had out : Fs), lost3F had out (a ++ b) = lost3F had out a ++ lost3F had (into3F had out a) b
  | [], b, had, out => by rw [List.nil_append, lost3F_nil, into3F_nil, List.nil_append]
  | (n, w) :: r, b, had, out => by rw [List.cons_append, lost3F_cons, lost3F_cons, into3F_cons, lost3F_append r b _ _, List.append_assoc]
theorem take_snoc {l : Fs} {i : Nat} {y : Bs × JV} (h : l[i]? = some y) : l.take (i + 1) = l.take i ++ [y] := by
  obtain ⟨h1, h2⟩ := List.getElem?_eq_some_iff.1 h
  rw [List.take_add_one, h]; rfl
theorem into3F_take {l had out : Fs} {i : Nat} {y : Bs × JV} (h : l[i]? = some y) : into3F had out (l.take (i + 1)) = put y.1 (into3 (gto y.1 had) (gto y.1 (into3F had out (l.take i))) y.2) (into3F had out (l.take i)) := by
  rw [take_snoc h, into3F_append, into3F_cons, into3F_nil]
theorem lost3F_take {l had out : Fs} {i : Nat} {y : Bs × JV} (h : l[i]? = some y) : lost3F had out (l.take (i + 1)) = lost3F had out (l.take i) ++ (lost3 (gto y.1 had) (gto y.1 (into3F had out (l.take i))) y.2).map (y.1 :: ·) := by
  rw [take_snoc h, lost3F_append, lost3F_cons, lost3F_nil, List.append_nil]
theorem get_take_none {had : Fs} (hs : Srt had) {i : Nat} {y : Bs × JV} (h : had[i]? = some y) : get y.1 (had.take i) = none := by
  obtain ⟨h1, h2⟩ := List.getElem?_eq_some_iff.1 h
  have hp : Srt (had.take i ++ had.drop i) := by rw [List.take_append_drop]; exact hs
  have h3 := (List.pairwise_append.1 hp).2.2
  have h4 : y ∈ had.drop i := by rw [List.drop_eq_getElem_cons h1, h2]; exact List.mem_cons_self ..
  cases hg : get y.1 (had.take i) with
  | none => rfl
  | some x =>
    exfalso
    have : ∀ {l : Fs} {n : Bs} {x : JV}, get n l = some x → ∃ z ∈ l, z.1 = n := fun {l n x} => by
      induction l with
      | nil => intro h; rw [get] at h; cases h
      | cons z r ih =>
        obtain ⟨m, v⟩ := z
        intro h
        rw [get] at h
        by_cases e : m = n
        · exact ⟨(m, v), List.mem_cons_self .., e⟩
        · rw [if_neg e] at h
          obtain ⟨z, hz, hn⟩ := ih h
          exact ⟨z, List.mem_cons_of_mem _ hz, hn⟩
    obtain ⟨z, hz, hn⟩ := this hg
    have h5 := h3 z hz y h4
    rw [hn] at h5
    exact List.lt_irrefl _ h5
/-- what the first loop leaves: its names' first i are seen -/
theorem rem_zero (had o out : Fs) : remF (had.take 0) o out = out := by
  unfold remF
  rw [List.take_zero, List.filter_eq_self]
  intro y _
  show (!((get y.1 []).isSome && _)) = true
  rw [get]; rfl
theorem get_rem_take {had o out : Fs} (hs : Srt had) {i : Nat} {y : Bs × JV} (h : had[i]? = some y) : get y.1 (remF (had.take i) o out) = get y.1 out := by
  rw [get_rem, get_take_none hs h, if_neg (by intro e; cases e.1)]
theorem get_take_snoc {had : Fs} {i : Nat} {y : Bs × JV} (h : had[i]? = some y) (m : Bs) : (get m (had.take (i + 1))).isSome = ((get m (had.take i)).isSome || decide (y.1 = m)) := by
  rw [take_snoc h]
  generalize had.take i = l
  induction l with
  | nil =>
    rw [List.nil_append]
    obtain ⟨k, v⟩ := y
    rw [get, get]
    by_cases e : k = m
    · rw [if_pos e, decide_eq_true e]; rfl
    · rw [if_neg e, decide_eq_false e]; rfl
  | cons z r ih =>
    obtain ⟨k, v⟩ := z
    rw [List.cons_append, get, get]
    by_cases e : k = m
    · rw [if_pos e, if_pos e]; rfl
    · rw [if_neg e, if_neg e]; exact ih
theorem rem_step {had o out : Fs} (hs : Srt had) (ho : Srt out) {i : Nat} {y : Bs × JV} (h : had[i]? = some y) :
    remF (had.take (i + 1)) o out = if (get y.1 out).isSome = true ∧ (get y.1 o).isNone = true then cut y.1 (remF (had.take i) o out) else remF (had.take i) o out := by
  have s1 := srt_rem (had := had.take (i + 1)) (o := o) ho
  have s2 := srt_rem (had := had.take i) (o := o) ho
  by_cases c : (get y.1 out).isSome = true ∧ (get y.1 o).isNone = true
  · rw [if_pos c]
    refine fs_ext s1 (srt_cut _ s2) fun m => ?_
    rw [get_rem, get_cut, get_rem, get_take_snoc h]
    by_cases e : m = y.1
    · subst e
      rw [if_pos ⟨by rw [decide_eq_true rfl, Bool.or_true], c.2⟩, if_pos rfl]
    · rw [if_neg e, decide_eq_false (fun e2 => e e2.symm), Bool.or_false]
  · rw [if_neg c]
    refine fs_ext s1 s2 fun m => ?_
    rw [get_rem, get_rem, get_take_snoc h]
    by_cases e : m = y.1
    · subst e
      rw [decide_eq_true rfl, Bool.or_true]
      by_cases c2 : (get y.1 o).isNone = true
      · have c3 : get y.1 out = none := by
          cases hg : get y.1 out with
          | none => rfl
          | some x => exact absurd ⟨by rw [hg]; rfl, c2⟩ c
        rw [if_pos ⟨rfl, c2⟩, c3]
        split <;> rfl
      · rw [if_neg (fun e => c2 e.2), if_neg (fun e => c2 e.2)]
    · rw [decide_eq_false (fun e2 => e e2.symm), Bool.or_false]
theorem goes_step {had o out : Fs} {i : Nat} {y : Bs × JV} (h : had[i]? = some y) :
    goesL (had.take (i + 1)) o out = goesL (had.take i) o out ++ (if (get y.1 out).isSome = true ∧ (get y.1 o).isNone = true then [y.1] else []) := by
  unfold goesL
  rw [take_snoc h, List.filter_append, List.map_append]
  congr 1
  by_cases c : (get y.1 out).isSome = true ∧ (get y.1 o).isNone = true
  · rw [if_pos c, List.filter_cons_of_pos (by rw [c.1, c.2]; rfl)]; rfl
  · rw [if_neg c, List.filter_cons_of_neg (by rw [Bool.and_eq_true]; exact c)]; rfl
theorem lenF_length (l : Fs) : l.length ≤ lenF l := by
  induction l with
  | nil => exact Nat.le_refl _
  | cons y r ih => obtain ⟨n, v⟩ := y; rw [lenF, List.length_cons]; omega
theorem rem_len (had o out : Fs) : lenF (remF had o out) ≤ lenF out := lenF_filter _ _
theorem name_len {n : Bs} {w : JV} : ∀ {l : Fs} {i : Nat}, l[i]? = some (n, w) → n.length + 1 + (text w).length + 2 ≤ lenF l
  | [], _, h => by simp at h
  | (m, x) :: r, 0, h => by
    simp only [List.getElem?_cons_zero, Option.some.injEq] at h
    cases h
    rw [lenF, quote_len]
    have : n.length ≤ (n.flatMap escB).length := by
      induction n with
      | nil => exact Nat.le_refl _
      | cons c r ih =>
        rw [List.flatMap_cons, List.length_append, List.length_cons]
        have : 1 ≤ (escB c).length := by unfold escB; split; · simp
                                         · split; · simp
                                           · split <;> simp
        omega
    omega
  | (m, x) :: r, i + 1, h => by
    rw [List.getElem?_cons_succ] at h
    have := name_len h
    rw [lenF]; omega
/-! how many are lost -/
theorem gto_len (n : Bs) (l : Fs) : (text (gto n l)).length ≤ max (lenF l) 4 := by
  unfold gto
  cases hg : get n l with
  | none => have : (text ((none : Option JV).getD .nul)).length = 4 := by decide +kernel
            omega
  | some x => have := (getF_le hg).2.2; show (text x).length ≤ _; omega
theorem lost_len : (∀ w : JV, ∀ last live : JV, (text last).length ≤ 4000 → (lost3 last live w).length ≤ 4000 * (text w).length) ∧ (∀ _ : List JV, True) ∧ ∀ l : Fs, ∀ had out : Fs, lenF had ≤ 4000 → (lost3F had out l).length ≤ 4000 * lenF l := by
  refine JV.both ?_ ?_ ?_ ?_ ?_ ?_ trivial (fun _ _ _ _ => trivial) ?_ ?_
  · intro last live _; rw [lost3]; exact Nat.zero_le _
  · intro b last live _; rw [lost3]; exact Nat.zero_le _
  · intro b last live _; rw [lost3]; exact Nat.zero_le _
  · intro b last live _; rw [lost3]; exact Nat.zero_le _
  · intro b _ last live _; rw [lost3]; exact Nat.zero_le _
  · intro l ih last live h
    have h1 := lenF_fields last
    have h2 := ih (fieldsOf last) (remF (fieldsOf last) l (fieldsOf live)) (by omega)
    have h3 : (goesL (fieldsOf last) l (fieldsOf live)).length ≤ lenF (fieldsOf last) := by
      unfold goesL
      rw [List.length_map]
      exact Nat.le_trans (List.length_filter_le _ _) (lenF_length _)
    have h4 := obj_len_ge l
    rw [lost3_obj, List.length_append, List.length_map]
    omega
  · intro had out _; rw [lost3F_nil]; exact Nat.zero_le _
  · intro n w r hw hr had out h
    have h1 := hw (gto n had) (gto n out) (by have := gto_len n had; omega)
    have h2 := hr had (put n (into3 (gto n had) (gto n out) w) out) h
    rw [lost3F_cons, List.length_append, List.length_map, lenF]
    omega
theorem lenF_at3 : ∀ {l : Fs} {j : Nat} {y : Bs × JV}, l[j]? = some y → lenF (l.take j) + (text y.2).length + 3 ≤ lenF l
  | [], _, _, h => by simp at h
  | (n, v) :: r, 0, y, h => by
    simp only [List.getElem?_cons_zero, Option.some.injEq] at h
    subst h
    have hq : 2 ≤ (quote n).length := by rw [quote_len]; omega
    rw [List.take_zero, lenF, lenF]
    show 0 + (text v).length + 3 ≤ _
    omega
  | (n, v) :: r, j + 1, y, h => by
    rw [List.getElem?_cons_succ] at h
    have := lenF_at3 h
    rw [List.take_succ_cons, lenF, lenF]; omega
theorem gto_take {had out l : Fs} (hs : Srt l) {j : Nat} {y : Bs × JV} (h : l[j]? = some y) : gto y.1 (into3F had out (l.take j)) = gto y.1 out := by
  unfold gto
  rw [get_into3F _ _ _ _ (List.Pairwise.sublist (List.take_sublist _ _) hs), get_take_none hs h]
theorem get_at3 {l : Fs} (hs : Srt l) {j : Nat} {y : Bs × JV} (h : l[j]? = some y) : get y.1 l = some y.2 := get_memS hs (List.mem_of_getElem? h)
theorem wfF_at3 : ∀ {l : Fs} {j : Nat} {y : Bs × JV}, wfF l → l[j]? = some y → wf y.2
  | [], _, _, _, h => by simp at h
  | (n, v) :: r, 0, y, hw, h => by
    simp only [List.getElem?_cons_zero, Option.some.injEq] at h
    subst h
    rw [wfF] at hw; exact hw.2.1
  | (n, v) :: r, j + 1, y, hw, h => by
    rw [List.getElem?_cons_succ] at h
    rw [wfF] at hw
    exact wfF_at3 hw.2.2 h
end JP
end Go.Proofs.YtnmhjabihfhobaaGreatDoor
/- json: (*Object).Names. -/
namespace Go.Proofs.YtnmhjabihfhobaaGreatDoor
open Go.RowKit

set_option maxRecDepth 100000 in
theorem names_any (q : Nat) (vn : Value) (w : World) (h : w.cell? ⟨q, 0, none⟩ = some vn) :
    Calls Tryz.prog 42 #[.pointer (some ⟨q, 0, none⟩)] w fun e w' => e = .returned vn ∧ w = w' := by
  go_enter Tryz.func42, Tryz.ntmps42
  go_wp2_with fail
  go_ret
  exact ⟨rfl, rfl⟩
end Go.Proofs.YtnmhjabihfhobaaGreatDoor
