/- The reference's SameReq, and SameAll at parts. -/
import Derived.Test.YtkmonmdnmpbadaaDoorEqStr
import Derived.Test.YtkmonmdnmpbadaaDoorBox
import Derived.Test.YtkmonmdnmpbadaaDoorHold
import Derived.Test.YtkmonmdnmpbadaaDoorQueryCheck
import Derived.WalkSpells
import Derived.Deep.LoopGhost
import Derived.Deep.DeepCutAuto
namespace Go.Proofs.YtkmonmdnmpbadaaDoor
open Go.RowKit

theorem greq_ext {x y : GReq} (h1 : x.key = y.key) (h2 : x.kind = y.kind) (h3 : x.vals = y.vals) : x = y := by
  cases x; cases y; simp_all
noncomputable def sameQ (x y : GReq) : Bool := @decide (x = y) (Classical.propDecidable _)
theorem sameQ_iff {x y : GReq} : sameQ x y = true ↔ x = y := by unfold sameQ; exact @decide_eq_true_iff _ (Classical.propDecidable _)
set_option maxRecDepth 100000 in
set_option maxHeartbeats 3200000 in
theorem sameReq_any (x y : GReq) (vx vy : Value) (w : World) (hx : RowAt RString 1 w vx x.vals) (hy : RowAt RString 1 w vy y.vals) (lx : x.vals.length ≤ 8388608) (ly : y.vals.length ≤ 8388608) :
    Calls Tryd.prog 11 #[.agg #[.string x.key, .int .i64 x.kind, vx], .agg #[.string y.key, .int .i64 y.kind, vy]] w fun e w' => ∃ b, e = .returned (.bool b) ∧ (b = true ↔ x = y) ∧ Below w.heap.size w w' := by
  obtain ⟨w1, hw1⟩ : ∃ w1, w1 = w.alloc (.cells #[.string x.key, .int .i64 x.kind, vx] 33) := ⟨_, rfl⟩
  obtain ⟨w2, hw2⟩ : ∃ w2, w2 = w1.alloc (.cells #[.string y.key, .int .i64 y.kind, vy] 33) := ⟨_, rfl⟩
  obtain ⟨g, hg⟩ : ∃ g, g = w.heap.size := ⟨_, rfl⟩
  have hs1 : w1.heap.size = g + 1 := by rw [hw1, hg, World.size_alloc]
  have b1 : w1.heap[g]? = some (.cells #[.string x.key, .int .i64 x.kind, vx] 33 (0, 0)) := by rw [hw1, hg]; exact heap_alloc_new w _
  have b2 : w2.heap[g + 1]? = some (.cells #[.string y.key, .int .i64 y.kind, vy] 33 (0, 0)) := by rw [hw2, ← hs1]; exact heap_alloc_new w1 _
  have hb1 : Below w.heap.size w w1 := by rw [hw1]; exact (Below.refl _ _).alloc (Nat.le_refl _) _
  have hb2 : Below w1.heap.size w1 w2 := by rw [hw2]; exact (Below.refl _ _).alloc (Nat.le_refl _) _
  have hb : Below w.heap.size w w2 := hb1.trans (hb2.mono hb1.size)
  have c1 := below_block hb2 b1
  have dd := fun i => cell_block c1 i
  have ee := fun i => cell_block b2 i
  have Hb := Lib.hid hb
  have Hx := Lib.hid (hx.below stays_string hb).strs
  have Hy := Lib.hid (hy.below stays_string hb).strs
  clear b1 b2 hb1 hb2 hb c1 hx hy
  obtain ⟨k1, hk1⟩ : ∃ k, (x.key.toList == y.key.toList) = k := ⟨_, rfl⟩
  obtain ⟨k2, hk2⟩ : ∃ k, (x.kind == y.kind) = k := ⟨_, rfl⟩
  have H1 := Lib.hid hk1
  have H2 := Lib.hid hk2
  go_enter Tryd.func11, Tryd.ntmps11
  go_upto_region 1 with fail
  rw [← hw1, ← hw2]
  try rw [← hs1']
  try rw [hs1]
  try rw [← hg]
  clear hw1 hw2 hg hs1
  cases k1 with
  | false =>
    have hne : x ≠ y := fun h => by have := H1.out; rw [h] at this; simp at this
    have Hne := Lib.hid hne
    clear hne hk2
    go_wp2_with fail
    go_ret
    exact ⟨_, rfl, ⟨fun h => (by cases h), fun h => absurd h Hne.out⟩, Hb.out⟩
  | true =>
    cases k2 with
    | false =>
      have hne : x ≠ y := fun h => by have := H2.out; rw [h] at this; simp at this
      have Hne := Lib.hid hne
      clear hne
      go_wp2_with fail
      go_ret
      exact ⟨_, rfl, ⟨fun h => (by cases h), fun h => absurd h Hne.out⟩, Hb.out⟩
    | true =>
      have HE : Hid (decide (x.vals = y.vals) = true ↔ x = y) := Lib.hid ⟨fun h => greq_ext (toList_inj (eq_of_beq H1.out)) (eq_of_beq H2.out) (of_decide_eq_true h), fun h => decide_eq_true (by rw [h])⟩
      go_wp2_with fail
      refine (eqStrs_any vx vy x.vals y.vals w2 Hx.out Hy.out lx ly).mono ?_
      rintro E w3 ⟨rfl, rfl⟩
      obtain ⟨b, Hbb⟩ : ∃ b, Hid (decide (x.vals = y.vals) = b) := ⟨_, Lib.hid rfl⟩
      rw [Hbb.out] at HE ⊢
      go_wp2_with fail
      go_ret
      exact ⟨_, rfl, HE.out, Hb.out⟩
theorem run_sameReq : ∀ (a : Array Value) (w : World), (callFunc 11 a).run Tryd.prog w = .ok (.enter 11 a) w := run_callFunc_body Tryd.func11 (by kernel_rfl) (by kernel_rfl)
theorem below_drew1' (w : World) : Below w.heap.size w w.drew := ⟨rfl, rfl, rfl, Nat.le_refl _, fun _ _ => rfl⟩
set_option maxRecDepth 100000 in
set_option maxHeartbeats 3200000 in
theorem sameReqs_any (v1 v2 : Value) (l m : List GReq) (w : World) (h1 : RowAt ReqR 3 w v1 l) (h2 : RowAt ReqR 3 w v2 m) (hl : l.length ≤ 8388608) (hm : m.length ≤ 8388608) (okl : ∀ r ∈ l, okReq r) (okm : ∀ r ∈ m, okReq r) :
    Calls Tryd.prog 10 #[v1, v2, .func (.func 11) #[] #[]] w fun e w' => ∃ b, e = .returned (.bool b) ∧ (b = true ↔ l = m) ∧ Below w.heap.size w w' := by
  obtain ⟨a1, c1, rfl, _, _⟩ := h1.len
  obtain ⟨a2, c2, rfl, _, _⟩ := h2.len
  have H1 := Lib.hid h1
  have H2 := Lib.hid h2
  have Okl := Lib.hid okl
  have Okm := Lib.hid okm
  clear h1 h2 okl okm
  by_cases hlen : l.length = m.length
  · have q1 : ((l.length : Int) != (m.length : Int)) = false := by rw [bne_eq_false_iff_eq]; omega
    have Hlen := Lib.hid hlen
    clear hlen
    go_enter Tryd.func10, Tryd.ntmps10
    go_wp2_with fail
    clear q1
    go_loopg [15] l.length (fun g u15 wr => ∃ i : Nat, i + g = l.length ∧ u15 = .int .i64 (i : Int) ∧ Hid (∀ (k : Nat) (x y : GReq), k < i → l[k]? = some x → m[k]? = some y → x = y) ∧ Hid (Below w.heap.size w wr))
    case atStart => exact ⟨0, by omega, rfl, Lib.hid (fun k _ _ hk => by omega), Lib.hid (Below.refl _ _)⟩
    case round =>
      obtain ⟨i, hig, rfl, Hall, Hbel⟩ := hrel
      cases gk with
      | zero =>
        obtain rfl : i = l.length := by omega
        have Hyes : Hid (l = m) := Lib.hid (by
          apply List.ext_getElem Hlen.out
          intro k hi hj
          exact Hall.out k _ _ hi (List.getElem?_eq_getElem hi) (List.getElem?_eq_getElem hj))
        go_wp2_with fail
        go_ret
        exact ⟨true, rfl, ⟨fun _ => Hyes.out, fun _ => rfl⟩, Hbel.out⟩
      | succ k =>
        have hil : i < l.length := by omega
        have him : i < m.length := by have := Hlen.out; omega
        obtain ⟨x, hx⟩ : ∃ x, l[i]? = some x := ⟨l[i]'(by omega), List.getElem?_eq_getElem _⟩
        obtain ⟨y, hy⟩ : ∃ y, m[i]? = some y := ⟨m[i]'(by omega), List.getElem?_eq_getElem _⟩
        obtain ⟨b, o, c', hv, _, _, hbs, hcell⟩ := H1.out.form (by omega) (by omega)
        injection hv with u1 u2 u3
        subst u1
        clear u2 u3
        obtain ⟨b', o', c'', hv, _, _, hbs', hcell'⟩ := H2.out.form (by omega) (by omega)
        injection hv with u1 u2 u3
        subst u1
        clear u2 u3
        obtain ⟨ds, _, hcc, hR⟩ := hcell i x hx
        obtain ⟨es, _, hdd, hS⟩ := hcell' i y hy
        obtain ⟨y2, rfl, _, sx⟩ := stays_req _ _ _ _ (keeps_below Hbel.out) hR
        obtain ⟨z2, rfl, _, sy⟩ := stays_req _ _ _ _ (keeps_below Hbel.out) hS
        have e0 : wr.cell? ⟨b, o + i * 3, none⟩ = some (.string x.key) := (Hbel.out.cell (p := ⟨b, _, none⟩) hbs).trans (by simpa using hcc 0 _ rfl)
        have e1 : wr.cell? ⟨b, o + i * 3 + 1, none⟩ = some (.int .i64 x.kind) := (Hbel.out.cell (p := ⟨b, _, none⟩) hbs).trans (hcc 1 _ rfl)
        have e2 : wr.cell? ⟨b, o + i * 3 + 2, none⟩ = some y2 := (Hbel.out.cell (p := ⟨b, _, none⟩) hbs).trans (hcc 2 _ rfl)
        have f0 : wr.cell? ⟨b', o' + i * 3, none⟩ = some (.string y.key) := (Hbel.out.cell (p := ⟨b', _, none⟩) hbs').trans (by simpa using hdd 0 _ rfl)
        have f1 : wr.cell? ⟨b', o' + i * 3 + 1, none⟩ = some (.int .i64 y.kind) := (Hbel.out.cell (p := ⟨b', _, none⟩) hbs').trans (hdd 1 _ rfl)
        have f2 : wr.cell? ⟨b', o' + i * 3 + 2, none⟩ = some z2 := (Hbel.out.cell (p := ⟨b', _, none⟩) hbs').trans (hdd 2 _ rfl)
        have q1 : (0 : Int) ≤ (i : Int) := by omega
        have q2 : (i : Int) < (l.length : Int) := by omega
        have q3 : (i : Int) < (m.length : Int) := by omega
        have Hx := Lib.hid hx
        have Hy := Lib.hid hy
        have Sx := Lib.hid sx.row
        have Sy := Lib.hid sy.row
        have okx := (Okl.out x (List.mem_of_getElem? hx)).2.1
        have oky := (Okm.out y (List.mem_of_getElem? hy)).2.1
        have hb0 : b < wr.heap.size := Nat.lt_of_lt_of_le hbs Hbel.out.size
        have hb0' : b' < wr.heap.size := Nat.lt_of_lt_of_le hbs' Hbel.out.size
        have HC : Hid (∀ w', Below wr.heap.size wr w' → Calls Tryd.prog 11 #[.agg #[.string x.key, .int .i64 x.kind, y2], .agg #[.string y.key, .int .i64 y.kind, z2]] w' fun e w'' => e = .returned (.bool (sameQ x y)) ∧ Below wr.heap.size wr w'') := Lib.hid fun w' hb' => by
          refine (sameReq_any x y y2 z2 w' (Sx.out.below stays_string hb') (Sy.out.below stays_string hb') (by omega) (by omega)).mono ?_
          rintro E w'' ⟨b, rfl, hb, hb''⟩
          refine ⟨?_, hb'.trans (hb''.mono hb'.size)⟩
          congr 2
          rw [Bool.eq_iff_iff, hb, sameQ_iff]
        obtain ⟨bb, Hbb⟩ : ∃ bb, Hid (sameQ x y = bb) := ⟨_, Lib.hid rfl⟩
        rw [Hbb.out] at HC
        clear hcell hcell' hx hy hcc hdd hR hS sx sy okx oky hbs hbs'
        go_upto_region 6 with fail
        refine wp_region_hold 10 (fun w' => Below wr.heap.size wr w') (by kernel_rfl) (by kernel_rfl) ?_ ?_
        · exact below_drew1' wr
        simp only [List.take_succ_cons, List.take_zero, List.drop_succ_cons, List.drop_zero]
        (first | (refine wpHold_pure (v := ?_) (by rfl) (fun w => ?_) ?_; rotate_left; focus (first | (go_simp; done) | (go_simp; with_reducible rfl))) | (refine wpHold_skip ?_ ?_; focus (go_simp; done)) | (refine wpHold_pure' (v := ?_) ?_ (fun w => ?_) ?_; rotate_left; focus (go_simp; done); focus (first | (go_simp; done) | (go_simp; with_reducible rfl)))); try simp only [Act.put, List.setIfInBounds_toArray, List.set_cons_zero, List.set_cons_succ]
        (first | (refine wpHold_pure (v := ?_) (by rfl) (fun w => ?_) ?_; rotate_left; focus (first | (go_simp; done) | (go_simp; with_reducible rfl))) | (refine wpHold_skip ?_ ?_; focus (go_simp; done)) | (refine wpHold_pure' (v := ?_) ?_ (fun w => ?_) ?_; rotate_left; focus (go_simp; done); focus (first | (go_simp; done) | (go_simp; with_reducible rfl)))); try simp only [Act.put, List.setIfInBounds_toArray, List.set_cons_zero, List.set_cons_succ]
        (first | (refine wpHold_pure (v := ?_) (by rfl) (fun w => ?_) ?_; rotate_left; focus (first | (go_simp; done) | (go_simp; with_reducible rfl))) | (refine wpHold_skip ?_ ?_; focus (go_simp; done)) | (refine wpHold_pure' (v := ?_) ?_ (fun w => ?_) ?_; rotate_left; focus (go_simp; done); focus (first | (go_simp; done) | (go_simp; with_reducible rfl)))); try simp only [Act.put, List.setIfInBounds_toArray, List.set_cons_zero, List.set_cons_succ]
        refine wpHold_pure (v := .pointer (some ⟨b, o + i * 3, none⟩)) (by rfl) (fun w' => ?_) ?_
        · go_simp
          done
        try simp only [Act.put, List.setIfInBounds_toArray, List.set_cons_zero, List.set_cons_succ]
        refine wpHold_read (v := .agg #[.string x.key, .int .i64 x.kind, y2]) (by rfl) (fun w' hI => ?_) ?_
        · have d0 := (hI.cell (p := ⟨b, o + i * 3, none⟩) hb0).trans e0
          have d1 := (hI.cell (p := ⟨b, o + i * 3 + 1, none⟩) hb0).trans e1
          have d2 := (hI.cell (p := ⟨b, o + i * 3 + 2, none⟩) hb0).trans e2
          go_simp
          done
        try simp only [Act.put, List.setIfInBounds_toArray, List.set_cons_zero, List.set_cons_succ]
        (first | (refine wpHold_pure (v := ?_) (by rfl) (fun w => ?_) ?_; rotate_left; focus (first | (go_simp; done) | (go_simp; with_reducible rfl))) | (refine wpHold_skip ?_ ?_; focus (go_simp; done)) | (refine wpHold_pure' (v := ?_) ?_ (fun w => ?_) ?_; rotate_left; focus (go_simp; done); focus (first | (go_simp; done) | (go_simp; with_reducible rfl)))); try simp only [Act.put, List.setIfInBounds_toArray, List.set_cons_zero, List.set_cons_succ]
        (first | (refine wpHold_pure (v := ?_) (by rfl) (fun w => ?_) ?_; rotate_left; focus (first | (go_simp; done) | (go_simp; with_reducible rfl))) | (refine wpHold_skip ?_ ?_; focus (go_simp; done)) | (refine wpHold_pure' (v := ?_) ?_ (fun w => ?_) ?_; rotate_left; focus (go_simp; done); focus (first | (go_simp; done) | (go_simp; with_reducible rfl)))); try simp only [Act.put, List.setIfInBounds_toArray, List.set_cons_zero, List.set_cons_succ]
        refine wpHold_pure (v := .pointer (some ⟨b', o' + i * 3, none⟩)) (by rfl) (fun w' => ?_) ?_
        · go_simp
          done
        try simp only [Act.put, List.setIfInBounds_toArray, List.set_cons_zero, List.set_cons_succ]
        refine wpHold_read (v := .agg #[.string y.key, .int .i64 y.kind, z2]) (by rfl) (fun w' hI => ?_) ?_
        · have d0 := (hI.cell (p := ⟨b', o' + i * 3, none⟩) hb0').trans f0
          have d1 := (hI.cell (p := ⟨b', o' + i * 3 + 1, none⟩) hb0').trans f1
          have d2 := (hI.cell (p := ⟨b', o' + i * 3 + 2, none⟩) hb0').trans f2
          go_simp
          done
        try simp only [Act.put, List.setIfInBounds_toArray, List.set_cons_zero, List.set_cons_succ]
        refine wpHold_call (v := .bool bb) (f := 11) (args := #[.agg #[.string x.key, .int .i64 x.kind, y2], .agg #[.string y.key, .int .i64 y.kind, z2]]) (by rfl) (fun w' => ?_) (fun w' hI => HC.out w' hI) ?_
        · simp only [run_sameReq, go_sem]
          go_simp
          done
        try simp only [Act.put, List.setIfInBounds_toArray, List.set_cons_zero, List.set_cons_succ]
        refine wpHold_nil ?_
        intro w' hI
        have Hb' := Lib.hid (Hbel.out.trans (hI.mono Hbel.out.size))
        clear hI e0 e1 e2 f0 f1 f2 HC
        cases bb with
        | true =>
          have hxy : x = y := sameQ_iff.1 Hbb.out
          have Hall2 : Hid (∀ (k : Nat) (x y : GReq), k < i + 1 → l[k]? = some x → m[k]? = some y → x = y) := Lib.hid fun k x' y' hk hx' hy' => by
            rcases Nat.lt_or_ge k i with h | h
            · exact Hall.out k x' y' h hx' hy'
            · obtain rfl : k = i := by omega
              have a := Hx.out; have b := Hy.out
              rw [a] at hx'; rw [b] at hy'
              cases hx'; cases hy'
              exact hxy
          clear hxy
          go_wp2_with fail
          go_roundg k
          case measure => omega
          case rel => exact ⟨i + 1, by omega, by go_num, Hall2, Hb'⟩
        | false =>
          have Hno : Hid (l ≠ m) := Lib.hid fun h => by
            have a := Hx.out; have b := Hy.out
            rw [h, b] at a
            cases a
            have h9 := Hbb.out
            rw [sameQ_iff.2 rfl] at h9
            cases h9
          go_wp2_with fail
          go_ret
          exact ⟨false, rfl, ⟨fun h => (by cases h), fun h => absurd h Hno.out⟩, Hb'.out⟩
  · have q1 : ((l.length : Int) != (m.length : Int)) = true := by rw [bne_iff_ne]; omega
    have Hno : Hid (l ≠ m) := Lib.hid fun h => hlen (congrArg _ h)
    clear hlen
    go_enter Tryd.func10, Tryd.ntmps10
    go_wp2_with fail
    go_ret
    exact ⟨false, rfl, ⟨fun h => (by cases h), fun h => absurd h Hno.out⟩, Below.refl _ _⟩
end Go.Proofs.YtkmonmdnmpbadaaDoor
