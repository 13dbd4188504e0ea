/- json: the reader's stack in memory; close. -/
import Derived.Test.YtaddcchpidpbfaaDoorJsonRd4
import Derived.Test.YtaddcchpidpbfaaDoorJsonWith
namespace Go.Proofs.YtaddcchpidpbfaaDoor
open Go.RowKit
open JP (JV Bs Fr)

/-- an open list or object, as its cells -/
structure GF where
  lv : Value
  pv : Value
  nm : ByteArray
def RFr : Rd GF := fun _ cs f => cs = [f.lv, f.pv, .string f.nm] ∧ f.lv.oneCell' = true ∧ f.pv.oneCell' = true
theorem flat_fr : Flat RFr := fun _ _ _ _ h => h
theorem one_fr : OneR RFr := fun _ _ _ h u hu => by
  obtain ⟨h1, h2, h3⟩ := h
  rw [h1] at hu
  simp only [List.mem_cons, List.not_mem_nil, or_false] at hu
  rcases hu with rfl | rfl | rfl
  · exact h2
  · exact h3
  · rfl
theorem Tryd.infoFr : (Tryd.prog.info? 100).map (fun i => (i.zero, i.size, i.bytes)) = some (some (.agg #[.slice none 0 0, .pointer none, .string ByteArray.empty]), 3, 48) := by kernel_rfl
def FrAt (B : Nat) (T : List Nat) (w : World) (f : GF) : Fr → Prop
  | .lst d => f.pv = .pointer none ∧ f.nm = ⟨#[]⟩ ∧ (∀ b, f.lv.ownBlock = some b → b ∈ T) ∧ ∃ n xs, OwnAt RVal 1 w B 40 f.lv xs ∧ xs.length = d.length ∧ ∀ (j : Nat) (u : Value) (x : JV), xs[j]? = some u → d[j]? = some x → JvAt n T w u x
  | .ob d nm => f.lv = .slice none 0 0 ∧ f.nm = mkB nm ∧ ∃ n q, f.pv = .pointer (some ⟨q, 0, none⟩) ∧ ObR (JvR n T) T w q d
def AllFr (B : Nat) (T : List Nat) (w : World) : List GF → List Fr → Prop
  | [], [] => True
  | f :: fs, fr :: st => FrAt B T w f fr ∧ AllFr B T w fs st
  | _, _ => False
theorem ObR.keepJ {n : Nat} {T : List Nat} {w w' : World} {q : Nat} {d : List (Bs × JV)} (h : ObR (JvR n T) T w q d) (hk : KeepT T w w') : ObR (JvR n T) T w' q d := h.keepT hk (fun _ _ ⟨v, e, hv⟩ => ⟨v, e, hv.keepT hk⟩)
theorem ObR.freshJ {n : Nat} {T T' : List Nat} {w : World} {q : Nat} {d : List (Bs × JV)} (h : ObR (JvR n T) T w q d) (hs : ∀ b ∈ T', b ∈ T ∨ w.heap.size ≤ b) : ObR (JvR n T') T' w q d := by
  have : JvAt (n + 1) T w (.iface 83 (.pointer (some ⟨q, 0, none⟩))) (.obj d) := ⟨q, rfl, h⟩
  obtain ⟨q', e, h'⟩ := this.fresh hs
  have : q' = q := by injection e with _ e; injection e with e; injection e with e; injection e with e; exact e.symm
  subst this
  exact h'
theorem FrAt.keep {B : Nat} {T : List Nat} {w w' : World} {f : GF} {fr : Fr} (h : FrAt B T w f fr) (hk : KeepT T w w') (hr : ∀ b, f.lv.ownBlock = some b → w'.heap[b]? = w.heap[b]?) : FrAt B T w' f fr := by
  cases fr with
  | lst d =>
    obtain ⟨h1, h2, h3, n, xs, ho, hl, hx⟩ := h
    refine ⟨h1, h2, h3, n, xs, ?_, hl, fun j u x hu hd => (hx j u x hu hd).keepT hk⟩
    obtain ⟨css, c1, c2, c3, c4⟩ := ho
    refine ⟨css, c1, c2, ⟨c3.1, ?_⟩, fun j cs y hcs hy => c4 j cs y hcs hy⟩
    rcases c3.2 with h5 | ⟨q, cap, cur, hv, hB, hh, hr2⟩
    · exact .inl h5
    · exact .inr ⟨q, cap, cur, hv, hB, (hr q (by rw [hv]; rfl)).trans hh, hr2⟩
  | ob d nm =>
    obtain ⟨h1, h2, n, q, h3, h4⟩ := h
    exact ⟨h1, h2, n, q, h3, h4.keepJ hk⟩
theorem FrAt.fresh {B : Nat} {T T' : List Nat} {w : World} {f : GF} {fr : Fr} (h : FrAt B T w f fr) (hs : ∀ b ∈ T', b ∈ T ∨ w.heap.size ≤ b) (hl : ∀ b, f.lv.ownBlock = some b → b ∈ T') : FrAt B T' w f fr := by
  cases fr with
  | lst d =>
    obtain ⟨h1, h2, _, n, xs, ho, hl2, hx⟩ := h
    exact ⟨h1, h2, hl, n, xs, ho, hl2, fun j u x hu hd => (hx j u x hu hd).fresh hs⟩
  | ob d nm =>
    obtain ⟨h1, h2, n, q, h3, h4⟩ := h
    exact ⟨h1, h2, n, q, h3, h4.freshJ hs⟩
theorem FrAt.own {B : Nat} {T : List Nat} {w : World} {f : GF} {fr : Fr} (h : FrAt B T w f fr) {b : Nat} (hb : f.lv.ownBlock = some b) : b ∈ T ∧ B ≤ b ∧ ∃ cur, w.heap[b]? = some (.cells cur 40 (0, 0)) := by
  cases fr with
  | lst d =>
    obtain ⟨_, _, h3, n, xs, ho, _⟩ := h
    obtain ⟨k1, _, k3⟩ := ho.at hb
    exact ⟨h3 b hb, k1, k3⟩
  | ob d nm =>
    rw [h.1] at hb
    cases hb
theorem AllFr.len {B : Nat} {T : List Nat} {w : World} : ∀ {fs : List GF} {st : List Fr}, AllFr B T w fs st → fs.length = st.length
  | [], [], _ => rfl
  | f :: fs, fr :: st, h => by rw [List.length_cons, List.length_cons, AllFr.len h.2]
  | [], _ :: _, h => by cases h
  | _ :: _, [], h => by cases h
theorem AllFr.own {B : Nat} {T : List Nat} {w : World} : ∀ {fs : List GF} {st : List Fr}, AllFr B T w fs st → ∀ f ∈ fs, ∀ b, f.lv.ownBlock = some b → b ∈ T ∧ B ≤ b ∧ ∃ cur, w.heap[b]? = some (.cells cur 40 (0, 0))
  | [], [], _, f, hf, _, _ => by cases hf
  | f :: fs, fr :: st, h, f', hf, b, hb => by
    rcases List.mem_cons.1 hf with rfl | hf
    · exact FrAt.own h.1 hb
    · exact AllFr.own h.2 f' hf b hb
  | [], _ :: _, h, _, _, _, _ => by cases h
  | _ :: _, [], h, _, _, _, _ => by cases h
theorem AllFr.keep {B : Nat} {T : List Nat} {w w' : World} (hk : KeepT T w w') : ∀ {fs : List GF} {st : List Fr}, AllFr B T w fs st → (∀ f ∈ fs, ∀ b, f.lv.ownBlock = some b → w'.heap[b]? = w.heap[b]?) → AllFr B T w' fs st
  | [], [], _, _ => trivial
  | f :: fs, fr :: st, h, hr => ⟨FrAt.keep h.1 hk (hr f (List.mem_cons_self ..)), AllFr.keep hk h.2 fun f' hf => hr f' (List.mem_cons_of_mem _ hf)⟩
  | [], _ :: _, h, _ => by cases h
  | _ :: _, [], h, _ => by cases h
theorem AllFr.fresh {B : Nat} {T T' : List Nat} {w : World} (hs : ∀ b ∈ T', b ∈ T ∨ w.heap.size ≤ b) : ∀ {fs : List GF} {st : List Fr}, AllFr B T w fs st → (∀ f ∈ fs, ∀ b, f.lv.ownBlock = some b → b ∈ T') → AllFr B T' w fs st
  | [], [], _, _ => trivial
  | f :: fs, fr :: st, h, hr => ⟨FrAt.fresh h.1 hs (hr f (List.mem_cons_self ..)), AllFr.fresh hs h.2 fun f' hf => hr f' (List.mem_cons_of_mem _ hf)⟩
  | [], _ :: _, h, _ => by cases h
  | _ :: _, [], h, _ => by cases h
/-- the lists' own blocks -/
def lbs (fs : List GF) : List Nat := fs.filterMap fun f => f.lv.ownBlock
theorem lbs_mem {fs : List GF} {b : Nat} : b ∈ lbs fs ↔ ∃ f ∈ fs, f.lv.ownBlock = some b := by unfold lbs; rw [List.mem_filterMap]
/-- the stack -/
structure Core (g : Nat) (T : List Nat) (w : World) (vst : Value) (fs : List GF) (st : List Fr) : Prop where
  row : OwnAt RFr 3 w (g + 1) 100 vst fs.reverse
  gT : g ∈ T
  vT : ∀ b, vst.ownBlock = some b → b ∈ T
  low : ∀ b ∈ T, g ≤ b ∧ b < w.heap.size
  nd : (lbs fs).Nodup
  all : AllFr (g + 1) T w fs st
theorem Core.but {g : Nat} {T : List Nat} {w w' : World} {vst : Value} {fs : List GF} {st : List Fr} (h : Core g T w vst fs st) (hb : But g w w') : Core g T w' vst fs st := by
  refine ⟨h.row.butLow flat_fr hb (Nat.lt_succ_self g), h.gT, h.vT, fun b hm => ⟨(h.low b hm).1, Nat.lt_of_lt_of_le (h.low b hm).2 hb.size⟩, h.nd, h.all.keep (KeepT.but hb h.gT) fun f hf b ho => ?_⟩
  obtain ⟨k1, k2, _⟩ := h.all.own f hf b ho
  exact hb.block b (h.low b k1).2 (by omega)
theorem KeepT.ofBut {g : Nat} {T : List Nat} {w w' : World} (hb : But g w w') (hg : g ∈ T) : KeepT T w w' := KeepT.but hb hg
/-- the reader's state: what is left, how many values, the stack; a value that is whole -/
def RS (g : Nat) (s : ByteArray) (r : Bs) (m : Nat) (st : List Fr) (vx : Option (Value × JV)) (w : World) : Prop :=
  ∃ a vst fs T, a ≤ s.size ∧ s.data.toList.drop a = r ∧ RdAt g s a m vst 0 w ∧ Core g T w vst fs st ∧ match vx with
    | none => True
    | some y => ∃ n, JvAt n T w y.1 y.2
/-- the reader has failed -/
def RBad (g : Nat) (s : ByteArray) (er : Int) (w : World) : Prop := er ≠ 0 ∧ ∃ a m vst, RdAt g s a m vst er w
/-- the blocks below g stay -/
theorem below_but {g : Nat} {w w' : World} (h : But g w w') (hg : g < w.heap.size) : Below g w w' := ⟨h.os, h.tape, h.output, h.size, fun k hk => h.block k (by omega) (by omega)⟩
/-- what an operation of the reader comes to -/
def Out (g : Nat) (s : ByteArray) (w : World) (x : JP.R) (v : Value) (b : Bool) (w' : World) : Prop :=
  Below g w w' ∧ match x with
    | .bad er => RBad g s er w'
    | .whole y r m st => b = true ∧ RS g s r m st (some (v, y)) w'
    | .more r m st => b = false ∧ RS g s r m st none w'
def OutE (g : Nat) (s : ByteArray) (w : World) (x : JP.R) (e : Ending) (w' : World) : Prop := ∃ v b, e = .returned (.tuple #[v, .bool b]) ∧ Out g s w x v b w'
theorem OwnAt.pop {g n c : Nat} {w : World} {B : Nat} {e : TypeId} {l : List GF} {x : GF} (h : OwnAt RFr 3 w B e (.slice (some ⟨g, 0, none⟩) (n + 1) c) (l ++ [x])) (hn : l.length = n) : OwnAt RFr 3 w B e (.slice (some ⟨g, 0, none⟩) n c) l := by
  obtain ⟨css, h1, h2, h3, h4⟩ := h
  rw [List.length_append, List.length_singleton] at h1
  have hcs : css = css.take n ++ [css[n]'(by omega)] := by
    conv => lhs; rw [← List.take_append_drop n css, List.drop_eq_getElem_cons (by omega), List.drop_eq_nil_of_le (by omega)]
  refine ⟨css.take n, by rw [List.length_take]; omega, fun cs hm => h2 cs (List.mem_of_mem_take hm), ?_, fun j cs y hcs' hy => ?_⟩
  · have hfn : (css.take n).flatten.length = n * 3 := by rw [flat_len (k := 3) fun cs hm => h2 cs (List.mem_of_mem_take hm), List.length_take]; omega
    have hfl : (css.take n).flatten = css.flatten.take (n * 3) := by
      have e := congrArg List.flatten hcs
      rw [List.flatten_append] at e
      rw [e, List.take_left' hfn]
    obtain ⟨g1, g2⟩ := h3
    refine ⟨by rw [hfn, hn], ?_⟩
    rcases g2 with ⟨h5, _⟩ | ⟨q, cap, cur, hv, hB, hh, hlc, hc, hcs2, htk⟩
    · cases h5
    · injection hv with e1 e2 e3
      injection e1 with e1
      injection e1 with e1
      subst e1
      subst e3
      refine .inr ⟨_, _, cur, by rw [hn], hB, hh, by omega, hc, hcs2, ?_⟩
      rw [hfl, ← htk, List.take_take, hn]
      congr 1
      rw [← e2]
      omega
  · have hj : j < n := by have := (List.getElem?_eq_some_iff.1 hy).1; omega
    refine h4 j cs y ?_ (by rw [List.getElem?_append_left (by omega)]; exact hy)
    rw [List.getElem?_take_of_lt hj] at hcs'
    exact hcs'
set_option maxRecDepth 100000 in
set_option maxHeartbeats 3200000 in
theorem close_any (g : Nat) (s : ByteArray) (a m b n c : Nat) (v : Value) (w : World) (h : RdAt g s a m (.slice (some ⟨b, 0, none⟩) (n + 1) c) 0 w) (ha : a < s.size) (hs : s.size ≤ 1048576) (hn : n + 1 ≤ c) (hc : c ≤ maxLen) (hn2 : n ≤ 1048576) :
    Calls Tryd.prog 62 #[.pointer (some ⟨g, 0, none⟩), v] w fun e w' => e = .returned v ∧ RdAt g s (a + 1) m (.slice (some ⟨b, 0, none⟩) n c) 0 w' ∧ But g w w' := by
  have c1 : w.cell? ⟨g, 1, none⟩ = some (.int .i64 (a : Int)) := cell_block h 1
  have hz : w.frozen? ⟨g, 1, none⟩ = false := free_block h 1
  obtain ⟨t1, t2⟩ := touch_setCell (i := 1) (v := .int .i64 ((a : Int) + 1)) h
  obtain ⟨W, hW⟩ : ∃ W, W = w.setCell ⟨g, 1, none⟩ (.int .i64 ((a : Int) + 1)) := ⟨_, rfl⟩
  rw [← hW] at t1 t2
  have hR1 : RdAt g s (a + 1) m (.slice (some ⟨b, 0, none⟩) (n + 1) c) 0 W := RdAt.cast t1 (by omega)
  have k3 : W.cell? ⟨g, 3, none⟩ = some (.slice (some ⟨b, 0, none⟩) (n + 1) c) := cell_block hR1 3
  have z3 : W.frozen? ⟨g, 3, none⟩ = false := free_block hR1 3
  have HR1 := Lib.hid hR1
  have HT := Lib.hid t2
  have q1 : (0 : Int) ≤ ((n + 1 : Nat) : Int) - 1 := by omega
  have q2 : (((n + 1 : Nat) : Int) - 1).toNat = n := by omega
  have q3 : n ≤ c := by omega
  have w1 : IntKind.i64.wrap (((n + 1 : Nat) : Int) - 1) = (n : Int) := by rw [IntWalk.i64_in _ (by omega)]; omega
  have w2 : IntKind.i64.wrap (n : Int) = (n : Int) := IntWalk.i64_in _ (by omega)
  clear h t1 t2 hR1
  go_enter Tryd.func62, Tryd.ntmps62
  go_upto_region 2 with fail
  rw [← hW]
  clear hW c1 hz
  refine wp_region_hold 14 (fun w' => ∃ q, w' = W.drewN q) (by kernel_rfl) (by kernel_rfl) ?_ ?_
  · exact ⟨1, rfl⟩
  simp only [List.take_succ_cons, List.take_zero, List.drop_succ_cons, List.drop_zero]
  (first | (refine wpHold_pure (v := ?_) (by rfl) (fun w => ?_) ?_; rotate_left; focus (first | (go_simp; done) | (go_simp; with_reducible rfl))) | (refine wpHold_skip ?_ ?_; focus (go_simp; done)) | (refine wpHold_pure' (v := ?_) ?_ (fun w => ?_) ?_; rotate_left; focus (go_simp; done); focus (first | (go_simp; done) | (go_simp; with_reducible rfl)))); try simp only [Act.put, List.setIfInBounds_toArray, List.set_cons_zero, List.set_cons_succ]
  (first | (refine wpHold_pure (v := ?_) (by rfl) (fun w => ?_) ?_; rotate_left; focus (first | (go_simp; done) | (go_simp; with_reducible rfl))) | (refine wpHold_skip ?_ ?_; focus (go_simp; done)) | (refine wpHold_pure' (v := ?_) ?_ (fun w => ?_) ?_; rotate_left; focus (go_simp; done); focus (first | (go_simp; done) | (go_simp; with_reducible rfl)))); try simp only [Act.put, List.setIfInBounds_toArray, List.set_cons_zero, List.set_cons_succ]
  (first | (refine wpHold_pure (v := ?_) (by rfl) (fun w => ?_) ?_; rotate_left; focus (first | (go_simp; done) | (go_simp; with_reducible rfl))) | (refine wpHold_skip ?_ ?_; focus (go_simp; done)) | (refine wpHold_pure' (v := ?_) ?_ (fun w => ?_) ?_; rotate_left; focus (go_simp; done); focus (first | (go_simp; done) | (go_simp; with_reducible rfl)))); try simp only [Act.put, List.setIfInBounds_toArray, List.set_cons_zero, List.set_cons_succ]
  (first | (refine wpHold_pure (v := ?_) (by rfl) (fun w => ?_) ?_; rotate_left; focus (first | (go_simp; done) | (go_simp; with_reducible rfl))) | (refine wpHold_skip ?_ ?_; focus (go_simp; done)) | (refine wpHold_pure' (v := ?_) ?_ (fun w => ?_) ?_; rotate_left; focus (go_simp; done); focus (first | (go_simp; done) | (go_simp; with_reducible rfl)))); try simp only [Act.put, List.setIfInBounds_toArray, List.set_cons_zero, List.set_cons_succ]
  refine wpHold_read (v := .slice (some ⟨b, 0, none⟩) (n + 1) c) (by rfl) (fun w' hI => ?_) ?_
  · obtain ⟨q, rfl⟩ := hI
    have dd := (show (W.drewN q).cell? ⟨g, 3, none⟩ = _ from k3)
    go_simp
    done
  try simp only [Act.put, List.setIfInBounds_toArray, List.set_cons_zero, List.set_cons_succ]
  (first | (refine wpHold_pure (v := ?_) (by rfl) (fun w => ?_) ?_; rotate_left; focus (first | (go_simp; done) | (go_simp; with_reducible rfl))) | (refine wpHold_skip ?_ ?_; focus (go_simp; done)) | (refine wpHold_pure' (v := ?_) ?_ (fun w => ?_) ?_; rotate_left; focus (go_simp; done); focus (first | (go_simp; done) | (go_simp; with_reducible rfl)))); try simp only [Act.put, List.setIfInBounds_toArray, List.set_cons_zero, List.set_cons_succ]
  (first | (refine wpHold_pure (v := ?_) (by rfl) (fun w => ?_) ?_; rotate_left; focus (first | (go_simp; done) | (go_simp; with_reducible rfl))) | (refine wpHold_skip ?_ ?_; focus (go_simp; done)) | (refine wpHold_pure' (v := ?_) ?_ (fun w => ?_) ?_; rotate_left; focus (go_simp; done); focus (first | (go_simp; done) | (go_simp; with_reducible rfl)))); try simp only [Act.put, List.setIfInBounds_toArray, List.set_cons_zero, List.set_cons_succ]
  (first | (refine wpHold_pure (v := ?_) (by rfl) (fun w => ?_) ?_; rotate_left; focus (first | (go_simp; done) | (go_simp; with_reducible rfl))) | (refine wpHold_skip ?_ ?_; focus (go_simp; done)) | (refine wpHold_pure' (v := ?_) ?_ (fun w => ?_) ?_; rotate_left; focus (go_simp; done); focus (first | (go_simp; done) | (go_simp; with_reducible rfl)))); try simp only [Act.put, List.setIfInBounds_toArray, List.set_cons_zero, List.set_cons_succ]
  refine wpHold_read (v := .slice (some ⟨b, 0, none⟩) (n + 1) c) (by rfl) (fun w' hI => ?_) ?_
  · obtain ⟨q, rfl⟩ := hI
    have dd := (show (W.drewN q).cell? ⟨g, 3, none⟩ = _ from k3)
    go_simp
    done
  try simp only [Act.put, List.setIfInBounds_toArray, List.set_cons_zero, List.set_cons_succ]
  refine wpHold_pure (v := .int .i64 ((n + 1 : Nat) : Int)) (by rfl) (fun w => ?_) ?_
  · first
      | (go_simp; done)
      | rfl
  try simp only [Act.put, List.setIfInBounds_toArray, List.set_cons_zero, List.set_cons_succ]
  refine wpHold_pure (v := .int .i64 (n : Int)) (by rfl) (fun w => ?_) ?_
  · go_simp
    done
  try simp only [Act.put, List.setIfInBounds_toArray, List.set_cons_zero, List.set_cons_succ]
  refine wpHold_pure (v := .slice (some ⟨b, 0, none⟩) n c) (by rfl) (fun w => ?_) ?_
  · go_simp
    done
  try simp only [Act.put, List.setIfInBounds_toArray, List.set_cons_zero, List.set_cons_succ]
  (first | (refine wpHold_pure (v := ?_) (by rfl) (fun w => ?_) ?_; rotate_left; focus (first | (go_simp; done) | (go_simp; with_reducible rfl))) | (refine wpHold_skip ?_ ?_; focus (go_simp; done)) | (refine wpHold_pure' (v := ?_) ?_ (fun w => ?_) ?_; rotate_left; focus (go_simp; done); focus (first | (go_simp; done) | (go_simp; with_reducible rfl)))); try simp only [Act.put, List.setIfInBounds_toArray, List.set_cons_zero, List.set_cons_succ]
  (first | (refine wpHold_pure (v := ?_) (by rfl) (fun w => ?_) ?_; rotate_left; focus (first | (go_simp; done) | (go_simp; with_reducible rfl))) | (refine wpHold_skip ?_ ?_; focus (go_simp; done)) | (refine wpHold_pure' (v := ?_) ?_ (fun w => ?_) ?_; rotate_left; focus (go_simp; done); focus (first | (go_simp; done) | (go_simp; with_reducible rfl)))); try simp only [Act.put, List.setIfInBounds_toArray, List.set_cons_zero, List.set_cons_succ]
  refine wpHold_nil ?_
  rintro w' ⟨q, rfl⟩
  have y3 : (W.drewN q).cell? ⟨g, 3, none⟩ = some (.slice (some ⟨b, 0, none⟩) (n + 1) c) := k3
  have x3 : (W.drewN q).frozen? ⟨g, 3, none⟩ = false := z3
  try simp only [Act.put, List.setIfInBounds_toArray, List.set_cons_zero, List.set_cons_succ]
  go_wp2_with fail
  go_ret
  obtain ⟨u1, u2⟩ := touch_setCell (w := W.drewN q) (i := 3) (v := .slice (some ⟨b, 0, none⟩) n c) HR1.out
  exact ⟨rfl, u1, ((But.touch HT.out).drew q).trans (But.touch u2)⟩
end Go.Proofs.YtaddcchpidpbfaaDoor
