/- Texts of ours joined. -/
import Derived.RegionTactic
import Derived.Test.YtgoapmjcfdbjpaaMq2
set_option linter.unusedVariables false
set_option linter.unusedSimpArgs false
namespace Go.Proofs.Ytgoapmjcfdbjpaa
open Go.RowKit
def encI (x : Int) : Value := .int .i64 x
structure WaitS (B : Nat) (w : World) (b5 b9 b10 gf gw : Nat) (D : Dom) (s : FairS) (W : List (List Int)) (vs : Array Value) (many : Int) : Prop where
  box5 : w.heap[b5]? = some (.cells #[.pointer (some ⟨gf, 0, none⟩)] 41 (0, 0))
  box9 : w.heap[b9]? = some (.cells #[.slice (some ⟨gw, 0, none⟩) W.length W.length] 44 (0, 0))
  box10 : w.heap[b10]? = some (.cells #[.int .i64 many] 3 (0, 0))
  row : w.heap[gw]? = some (.cells vs 39 (0, 0))
  size : vs.size = W.length
  fair : FairD w gf D s
  q : ∀ (k : Nat) v L, vs[k]? = some v → W[k]? = some L → QAt encI 3 w B v L
  apart : ∀ (i j : Nat) vi vj b, i ≠ j → vs[i]? = some vi → vs[j]? = some vj → vi.ownBlock = some b → vj.ownBlock ≠ some b
  dq : ∀ (k : Nat) v b, vs[k]? = some v → v.ownBlock = some b → ¬ D b ∧ b ≠ b10
  d : ¬ D b5 ∧ ¬ D b9 ∧ ¬ D b10 ∧ ¬ D gw
  lt : ∀ q, D q → B ≤ q ∧ q < w.heap.size
  low : B ≤ b5 ∧ B ≤ b9 ∧ B ≤ b10 ∧ B ≤ gw
section
variable {B : Nat} {w w' : World} {b5 b9 b10 gf gw : Nat} {D D' : Dom} {s s' : FairS} {W : List (List Int)} {vs : Array Value} {many : Int}
theorem heap_lt {w : World} {b : Nat} {o : Obj} (h : w.heap[b]? = some o) : b < w.heap.size := (Array.getElem?_eq_some_iff.1 h).1
theorem WaitS.getq (h : WaitS B w b5 b9 b10 gf gw D s W vs many) {k : Nat} {v : Value} (hv : vs[k]? = some v) : ∃ L, W[k]? = some L ∧ QAt encI 3 w B v L := by
  have hk : k < W.length := by rw [← h.size]; exact (Array.getElem?_eq_some_iff.1 hv).1
  exact ⟨W[k], List.getElem?_eq_getElem hk, h.q k v _ hv (List.getElem?_eq_getElem hk)⟩
theorem WaitS.faired (h : WaitS B w b5 b9 b10 gf gw D s W vs many) (ho : Only D w w') (hf : FairD w' gf D' s') (hd : ∀ q, D' q → D q ∨ w.heap.size ≤ q) (hl : ∀ q, D' q → q < w'.heap.size) : WaitS B w' b5 b9 b10 gf gw D' s' W vs many := by
  have hnd : ∀ {q : Nat}, q < w.heap.size → ¬ D q → ¬ D' q := fun hq hn h9 => by
    rcases hd _ h9 with h8 | h8
    · exact hn h8
    · omega
  refine ⟨(ho.block _ (heap_lt h.box5) h.d.1).trans h.box5, (ho.block _ (heap_lt h.box9) h.d.2.1).trans h.box9, (ho.block _ (heap_lt h.box10) h.d.2.2.1).trans h.box10, (ho.block _ (heap_lt h.row) h.d.2.2.2).trans h.row, h.size, hf, fun k v L hv hL => (h.q k v L hv hL).keep fun b hb => ho.block b ((h.q k v L hv hL).at hb).2.1 (h.dq k v b hv hb).1, h.apart, fun k v b hv hb => ⟨?_, (h.dq k v b hv hb).2⟩,
    ⟨hnd (heap_lt h.box5) h.d.1, hnd (heap_lt h.box9) h.d.2.1, hnd (heap_lt h.box10) h.d.2.2.1, hnd (heap_lt h.row) h.d.2.2.2⟩, fun q hq => ⟨?_, hl q hq⟩, h.low⟩
  · obtain ⟨L, _, hq⟩ := h.getq hv
    exact hnd (hq.at hb).2.1 (h.dq k v b hv hb).1
  · rcases hd q hq with h8 | h8
    · exact (h.lt q h8).1
    · have := heap_lt h.box5
      have := h.low.1
      omega
theorem FairD.lt' (h : FairD w gf D s) : ∃ D0 : Dom, FairD w gf D0 s ∧ (∀ q, D0 q → q < w.heap.size) ∧ ∀ q, D0 q → D q := by
  obtain ⟨wv, ev, v, h1, h2⟩ := h
  exact ⟨_, ⟨wv, ev, v, h1, fun q hq => hq⟩, fun q hq => h1.lt hq, h2⟩
theorem FairD.heap (h : FairD w gf D s) : HeapL s.l s.l.length := by
  obtain ⟨wv, ev, v, h1, h2⟩ := h
  exact h1.heap
theorem FairD.len (h : FairD w gf D s) : s.es.length = s.ws.length := by
  obtain ⟨wv, ev, v, h1, h2⟩ := h
  exact h1.len
theorem WaitS.below (h : WaitS B w b5 b9 b10 gf gw D s W vs many) (hb : Below w.heap.size w w') : WaitS B w' b5 b9 b10 gf gw D s W vs many :=
  h.faired (Only.of hb) (h.fair.agree fun q hq => hb.block q (h.lt q hq).2) (fun q hq => .inl hq) fun q hq => Nat.lt_of_lt_of_le (h.lt q hq).2 hb.size
theorem WaitS.nes (h : WaitS B w b5 b9 b10 gf gw D s W vs many) : b5 ≠ b9 ∧ b5 ≠ b10 ∧ b5 ≠ gw ∧ b9 ≠ b10 ∧ b9 ≠ gw ∧ b10 ≠ gw := by
  refine ⟨fun e => ?_, fun e => ?_, fun e => ?_, fun e => ?_, fun e => ?_, fun e => ?_⟩
  · have := h.box5; rw [e, h.box9] at this; cases this
  · have := h.box5; rw [e, h.box10] at this; cases this
  · have := h.box5; rw [e, h.row] at this; injection this with this; injection this with _ h2 _; exact absurd h2 (by decide)
  · have := h.box9; rw [e, h.box10] at this; cases this
  · have := h.box9; rw [e, h.row] at this; injection this with this; injection this with _ h2 _; exact absurd h2 (by decide)
  · have := h.box10; rw [e, h.row] at this; injection this with this; injection this with _ h2 _; exact absurd h2 (by decide)
theorem WaitS.neq (h : WaitS B w b5 b9 b10 gf gw D s W vs many) {k : Nat} {v : Value} {b : Nat} (hv : vs[k]? = some v) (hb : v.ownBlock = some b) : b ≠ b5 ∧ b ≠ b9 ∧ b ≠ gw := by
  obtain ⟨L, _, hq⟩ := h.getq hv
  obtain ⟨_, _, cur, h1⟩ := hq.at hb
  refine ⟨fun e => ?_, fun e => ?_, fun e => ?_⟩
  · rw [e, h.box5] at h1; injection h1 with h1; injection h1 with _ h2 _; exact absurd h2 (by decide)
  · rw [e, h.box9] at h1; injection h1 with h1; injection h1 with _ h2 _; exact absurd h2 (by decide)
  · rw [e, h.row] at h1; injection h1 with h1; injection h1 with _ h2 _; exact absurd h2 (by decide)
theorem WaitS.queued (h : WaitS B w b5 b9 b10 gf gw D s W vs many) {k : Nat} {v v' : Value} {L' : List Int} {w2 : World} (hv : vs[k]? = some v) (hg : w.grownBy w' v.ownBlock) (hq : QAt encI 3 w' B v' L') (hb' : ∀ b, v'.ownBlock = some b → v.ownBlock = some b ∨ w.heap.size ≤ b)
    (hrow : w2.heap[gw]? = some (.cells (vs.setIfInBounds k v') 39 (0, 0))) (ht : Touch gw w' w2) : WaitS B w2 b5 b9 b10 gf gw D s (W.set k L') (vs.setIfInBounds k v') many ∧ Below B w w2 := by
  have hkv : k < vs.size := (Array.getElem?_eq_some_iff.1 hv).1
  obtain ⟨n1, n2, n3, n4, n5, n6⟩ := h.nes
  have hst : ∀ b, b < w.heap.size → v.ownBlock ≠ some b → b ≠ gw → w2.heap[b]? = w.heap[b]? := fun b hb h1 h2 => (ht.other b h2).trans (hg.block b hb fun e => h1 e.symm)
  have hget : ∀ {j : Nat} {u : Value}, (vs.setIfInBounds k v')[j]? = some u → (j = k ∧ u = v') ∨ (j ≠ k ∧ vs[j]? = some u) := fun {j u} hu => by
    rw [Array.getElem?_setIfInBounds] at hu
    by_cases e : k = j
    · rw [if_pos e, if_pos (by omega)] at hu
      cases hu
      exact .inl ⟨e.symm, rfl⟩
    · rw [if_neg e] at hu
      exact .inr ⟨fun e' => e e'.symm, hu⟩
  have hsz : w.heap.size ≤ w2.heap.size := by rw [ht.size]; exact hg.size
  have hgw2 : ∀ b, v'.ownBlock = some b → b ≠ gw := fun b hb e => by
    rcases hb' b hb with h1 | h1
    · exact (h.neq hv h1).2.2 e
    · have := heap_lt h.row; omega
  refine ⟨⟨(hst _ (heap_lt h.box5) (fun e => (h.neq hv e).1 rfl) n3).trans h.box5, ?_, (hst _ (heap_lt h.box10) (fun e => (h.dq k v _ hv e).2 rfl) n6).trans h.box10, hrow, by rw [Array.size_setIfInBounds, List.length_set]; exact h.size, ?_, fun j u L hu hL => ?_, fun i j vi vj b hij hvi hvj hb => ?_, fun j u b hu hb => ?_, h.d, fun q hq => ⟨(h.lt q hq).1, Nat.lt_of_lt_of_le (h.lt q hq).2 hsz⟩, h.low⟩, ?_⟩
  · rw [hst _ (heap_lt h.box9) (fun e => (h.neq hv e).2.1 rfl) n5, h.box9, List.length_set]
  · refine h.fair.agree fun q hq => hst q (h.lt q hq).2 (fun e => (h.dq k v q hv e).1 hq) fun e => h.d.2.2.2 (e ▸ hq)
  · rcases hget hu with ⟨rfl, rfl⟩ | ⟨hjk, hu'⟩
    · rw [List.getElem?_set_self (by rw [← h.size]; exact hkv)] at hL
      cases hL
      exact hq.keep fun b hb => ht.other b (hgw2 b hb)
    · rw [List.getElem?_set_ne (Ne.symm hjk)] at hL
      have h1 := h.q j u L hu' hL
      exact h1.keep fun b hb => hst b (h1.at hb).2.1 (fun e => h.apart k j v u b (Ne.symm hjk) hv hu' e hb) (h.neq hu' hb).2.2
  · have hlt : ∀ {j : Nat} {u : Value} {b : Nat}, vs[j]? = some u → u.ownBlock = some b → b < w.heap.size := fun hu hb => by
      obtain ⟨L, _, hq⟩ := h.getq hu
      exact (hq.at hb).2.1
    rcases hget hvi with ⟨rfl, rfl⟩ | ⟨hik, hvi'⟩
    · rcases hget hvj with ⟨rfl, rfl⟩ | ⟨hjk, hvj'⟩
      · exact absurd rfl hij
      · intro hb2
        rcases hb' b hb with h1 | h1
        · exact h.apart i j v vj b hij hv hvj' h1 hb2
        · have := hlt hvj' hb2; omega
    · rcases hget hvj with ⟨rfl, rfl⟩ | ⟨hjk, hvj'⟩
      · intro hb2
        rcases hb' b hb2 with h1 | h1
        · exact h.apart i j vi v b hij hvi' hv hb h1
        · have := hlt hvi' hb; omega
      · exact h.apart i j vi vj b hij hvi' hvj' hb
  · rcases hget hu with ⟨rfl, rfl⟩ | ⟨hjk, hu'⟩
    · rcases hb' b hb with h1 | h1
      · exact h.dq j v b hv h1
      · refine ⟨fun h9 => ?_, fun e => ?_⟩
        · have := (h.lt b h9).2; omega
        · have := heap_lt h.box10; omega
    · exact h.dq j u b hu' hb
  · obtain ⟨L, _, hqv⟩ := h.getq hv
    refine ⟨ht.os.trans hg.os, ht.tape.trans hg.tape, ht.output.trans hg.output, hsz, fun b hb => hst b ?_ (fun e => ?_) fun e => ?_⟩
    · have := heap_lt h.box5; have := h.low.1; omega
    · have := (hqv.at e).1; omega
    · have := h.low.2.2.2; omega
theorem WaitS.counted (h : WaitS B w b5 b9 b10 gf gw D s W vs many) (m : Int) {w2 : World} (hb : w2.heap[b10]? = some (.cells #[.int .i64 m] 3 (0, 0))) (ht : Touch b10 w w2) : WaitS B w2 b5 b9 b10 gf gw D s W vs m ∧ Below B w w2 := by
  obtain ⟨n1, n2, n3, n4, n5, n6⟩ := h.nes
  refine ⟨⟨(ht.other _ n2).trans h.box5, (ht.other _ n4).trans h.box9, hb, (ht.other _ (Ne.symm n6)).trans h.row, h.size, h.fair.agree fun q hq => ht.other q fun e => h.d.2.2.1 (e ▸ hq), fun k v L hv hL => (h.q k v L hv hL).keep fun b hb => ht.other b (h.dq k v b hv hb).2, h.apart, h.dq, h.d, fun q hq => by rw [ht.size]; exact h.lt q hq, h.low⟩, ht.os, ht.tape, ht.output, by rw [ht.size]; exact Nat.le_refl _, fun b hb => ht.other b fun e => ?_⟩
  have := h.low.2.2.1; omega
end
end Go.Proofs.Ytgoapmjcfdbjpaa
namespace Go.Proofs.Ytgoapmjcfdbjpaa
open Go.RowKit
theorem enter_nextc : ∀ (a : Array Value) (w : World), (callFunc 17 a).run Try.prog w = .ok (.enter 17 a) w := run_callFunc_body Try.func17 (by kernel_rfl) (by kernel_rfl)
set_option maxRecDepth 100000 in
set_option maxHeartbeats 3200000 in
theorem nextc_none {B : Nat} {w : World} {b5 b9 b10 gf gw : Nat} {D : Dom} {s : FairS} {W : List (List Int)} {vs : Array Value} (h : WaitS B w b5 b9 b10 gf gw D s W vs (s.l.length : Int)) (hl : s.l = []) :
    Calls Try.prog 17 #[.pointer (some ⟨b5, 0, none⟩), .pointer (some ⟨b10, 0, none⟩), .pointer (some ⟨b9, 0, none⟩)] w fun e w' => e = .returned (.bool true) ∧ w = w' := by
  have HN := Lib.hid (next_none gf D s w h.fair hl)
  have c5 := cell_block h.box5 0
  have hm : ((s.l.length : Nat) : Int) = 0 := by rw [hl]; rfl
  have c10 := cell_block h.box10 0
  rw [hm] at c10
  clear h hl hm
  go_enter Try.func17, Try.ntmps17
  go_wp2_with fail
  refine HN.out.mono ?_
  rintro e w' ⟨rfl, h9⟩
  subst h9
  clear HN
  go_wp2_with fail
  go_ret
  exact ⟨rfl, rfl⟩
def NextDone (B : Nat) (w w' : World) (b5 b9 b10 gf gw : Nat) (D : Dom) (s : FairS) (E : Int) : Prop :=
  ∃ s' W' vs', WaitS B w' b5 b9 b10 gf gw D s' W' vs' (s'.l.length : Int) ∧ FInv s' W' E ∧ s'.l.length + 1 = s.l.length ∧ s'.ws = s.ws ∧ Below B w w'
set_option maxRecDepth 100000 in
set_option maxHeartbeats 6400000 in
theorem nextc_some {B : Nat} {w : World} {b5 b9 b10 gf gw : Nat} {D : Dom} {s : FairS} {W : List (List Int)} {vs : Array Value} {E : Int} (h : WaitS B w b5 b9 b10 gf gw D s W vs (s.l.length : Int)) (hF : FInv s W E) (hl : 0 < s.l.length) (hl2 : s.l.length ≤ 64) (hW : W.length ≤ 8) :
    Calls Try.prog 17 #[.pointer (some ⟨b5, 0, none⟩), .pointer (some ⟨b10, 0, none⟩), .pointer (some ⟨b9, 0, none⟩)] w fun e w' => e = .returned (.bool true) ∧
      NextDone B w w' b5 b9 b10 gf gw D s E := by
  obtain ⟨x, hx⟩ : ∃ x, s.l[0]? = some x := ⟨s.l[0]'hl, List.getElem?_eq_getElem _⟩
  have HN := Lib.hid (next_some gf D s x w h.fair hx (by omega))
  have c5 := cell_block h.box5 0
  have H := Lib.hid h
  have HF := Lib.hid hF
  have Hx := Lib.hid hx
  have Hl := Lib.hid hl
  clear h hF hx hl
  go_enter Try.func17, Try.ntmps17
  go_wp2_with fail
  refine HN.out.mono ?_
  rintro e w1 ⟨rfl, l', hf1, hp1, ho1⟩
  obtain ⟨k, r, hk, hxf, hWk, hF1⟩ := HF.out.next Hx.out H.out.fair.heap hp1
  have h1 := H.out.faired ho1 hf1 (fun q hq => .inl hq) fun q hq => Nat.lt_of_lt_of_le (H.out.lt q hq).2 ho1.size
  have hb1 : Below B w w1 := ho1.below (fun q hq => (H.out.lt q hq).1) (by have := heap_lt H.out.box5; have := H.out.low.1; omega)
  have hll : l'.length + 1 = s.l.length := by have := hp1.length_eq; rw [List.length_append] at this; exact this
  have hkW : k < W.length := (List.getElem?_eq_some_iff.1 hWk).1
  obtain ⟨v, hv⟩ : ∃ v, vs[k]? = some v := ⟨vs[k]'(by rw [h1.size]; exact hkW), Array.getElem?_eq_getElem _⟩
  obtain ⟨qb, qo, qc, hqv, hc0, hqc, hqm, hQt⟩ := (h1.q k v _ hv hWk).head
  obtain ⟨rn, hrn⟩ : ∃ z, r.length = z := ⟨_, rfl⟩
  rw [hrn] at hqv hqc hQt
  obtain ⟨nn, hnn⟩ : ∃ z, rn + 1 = z := ⟨_, rfl⟩
  rw [hnn] at hqv
  subst hqv
  obtain ⟨Wn, hWn⟩ : ∃ z, W.length = z := ⟨_, rfl⟩
  rw [hWn] at hkW hW
  have d9 := cell_block h1.box9 0
  rw [hWn] at d9
  have d9' : w1.cell? ⟨b9, 0, none⟩ = some (.slice (some ⟨gw, 0, none⟩) Wn Wn) := d9
  have dk : w1.cell? ⟨gw, k, none⟩ = some (.slice (some ⟨qb, qo, none⟩) nn qc) := (cell_block h1.row k).trans hv
  have d0 : w1.cell? ⟨qb, qo, none⟩ = some (.int .i64 x.id) := hc0
  have fk := free_block h1.row k
  have p1 : (0 : Int) ≤ (k : Int) := by omega
  have p2 : (k : Int) < (Wn : Int) := by omega
  have p3 : ¬ ((k : Int) < 0) := by omega
  have p4 : ¬ ((Wn : Int) ≤ (k : Int)) := by omega
  have p5 : ((nn : Int) == 0) = false := by rw [beq_eq_false_iff_ne]; omega
  have p6 : (0 : Int) < (nn : Int) := by omega
  have p7 : (1 : Int) ≤ (nn : Int) := by omega
  have hxs : s.l.length ≠ 0 := by omega
  have H1 := Lib.hid h1
  have HB1 := Lib.hid hb1
  have HF1 := Lib.hid hF1
  have Hll := Lib.hid hll
  have Hv := Lib.hid hv
  have HQt := Lib.hid hQt
  obtain ⟨fl, hfl⟩ : ∃ z, x.flow = z := ⟨_, rfl⟩
  obtain rfl : fl = (k : Int) := by rw [← hfl]; exact hxf
  rw [hfl]
  clear HN c5 hf1 hp1 ho1 hF1 h1 hb1 hll hv hQt d9 hc0 hxf hWk hk hrn hWn
  go_upto_region 4 with fail
  go_upto_region 6 with fail
  by_cases hc1 : qc = 1
  · subst hc1
    obtain rfl : nn = 1 := by omega
    obtain rfl : rn = 0 := by omega
    have HQu := HQt
    rw [if_pos rfl] at HQu
    clear HQt
    obtain ⟨w2, hw2⟩ : ∃ z, w1.setCell ⟨gw, k, none⟩ (.slice (some ⟨qb, qo, none⟩) 0 0) = z := ⟨_, rfl⟩
    have tt := touch_setCell (i := k) (v := .slice (some ⟨qb, qo, none⟩) 0 0) H1.out.row
    rw [hw2] at tt
    obtain ⟨hWS, hWB⟩ := H1.out.queued (w' := w1) Hv.out (grown_self w1 _) (v' := .slice (some ⟨qb, qo, none⟩) 0 0) HQu.out (fun b hb => .inl hb) tt.1 tt.2
    have HWS := Lib.hid hWS
    have HWB : Hid (Below B w w2) := Lib.hid (HB1.out.trans hWB)
    have db : w2.cell? ⟨b10, 0, none⟩ = some (.int .i64 (s.l.length : Int)) := cell_block hWS.box10 0
    have fb := free_block hWS.box10 0
    have m1 : IntKind.i64.wrap ((s.l.length : Int) - 1) = (l'.length : Int) := by rw [show (s.l.length : Int) - 1 = (l'.length : Int) by have := Hll.out; omega]; exact IntWalk.i64_in _ (by have := Hll.out; omega)
    clear hWS hWB tt HQu
    go_region
    try rw [hw2]
    clear hw2 d9' dk d0 fk
    obtain ⟨w3, hw3⟩ : ∃ z, w2.drew = z := ⟨_, rfl⟩
    have hb3 : Below w2.heap.size w2 w3 := by rw [← hw3]; exact (Below.refl _ _).drew
    have HWS3 := Lib.hid (HWS.out.below hb3)
    have HWB3 : Hid (Below B w w3) := Lib.hid (HWB.out.trans (hb3.mono (by have := heap_lt HWS.out.box10; have := HWS.out.low.2.2.1; omega)))
    have db3 : w3.cell? ⟨b10, 0, none⟩ = some (.int .i64 (s.l.length : Int)) := cell_block HWS3.out.box10 0
    have fb3 := free_block HWS3.out.box10 0
    rw [hw3]
    obtain ⟨w4, hw4⟩ : ∃ z, w3.setCell ⟨b10, 0, none⟩ (.int .i64 (l'.length : Int)) = z := ⟨_, rfl⟩
    have t4 := touch_setCell (i := 0) (v := .int .i64 (l'.length : Int)) HWS3.out.box10
    rw [hw4] at t4
    obtain ⟨hS4, hB4⟩ := HWS3.out.counted (l'.length : Int) t4.1 t4.2
    have HS4 := Lib.hid hS4
    have HB4 := Lib.hid (HWB3.out.trans hB4)
    clear hS4 hB4 t4 hb3 db fb hw3
    go_wp2_with fail
    go_ret
    exact ⟨rfl, _, _, _, HS4.out, HF1.out, Hll.out, rfl, HB4.out⟩
  · have HQu := HQt
    rw [if_neg hc1] at HQu
    have hc0 : ¬ (qc - 1 = 0) := by omega
    have hn1 : nn - 1 = rn := by omega
    clear HQt
    obtain ⟨w2, hw2⟩ : ∃ z, w1.setCell ⟨gw, k, none⟩ (.slice (some ⟨qb, qo + 1, none⟩) rn (qc - 1)) = z := ⟨_, rfl⟩
    have tt := touch_setCell (i := k) (v := .slice (some ⟨qb, qo + 1, none⟩) rn (qc - 1)) H1.out.row
    rw [hw2] at tt
    obtain ⟨hWS, hWB⟩ := H1.out.queued (w' := w1) Hv.out (grown_self w1 _) (v' := .slice (some ⟨qb, qo + 1, none⟩) rn (qc - 1)) HQu.out (fun b hb => .inl hb) tt.1 tt.2
    have HWS := Lib.hid hWS
    have HWB : Hid (Below B w w2) := Lib.hid (HB1.out.trans hWB)
    have db : w2.cell? ⟨b10, 0, none⟩ = some (.int .i64 (s.l.length : Int)) := cell_block hWS.box10 0
    have fb := free_block hWS.box10 0
    have m1 : IntKind.i64.wrap ((s.l.length : Int) - 1) = (l'.length : Int) := by rw [show (s.l.length : Int) - 1 = (l'.length : Int) by have := Hll.out; omega]; exact IntWalk.i64_in _ (by have := Hll.out; omega)
    clear hWS hWB tt HQu
    go_region
    try rw [hw2]
    clear hw2 d9' dk d0 fk
    obtain ⟨w3, hw3⟩ : ∃ z, w2.drew = z := ⟨_, rfl⟩
    have hb3 : Below w2.heap.size w2 w3 := by rw [← hw3]; exact (Below.refl _ _).drew
    have HWS3 := Lib.hid (HWS.out.below hb3)
    have HWB3 : Hid (Below B w w3) := Lib.hid (HWB.out.trans (hb3.mono (by have := heap_lt HWS.out.box10; have := HWS.out.low.2.2.1; omega)))
    have db3 : w3.cell? ⟨b10, 0, none⟩ = some (.int .i64 (s.l.length : Int)) := cell_block HWS3.out.box10 0
    have fb3 := free_block HWS3.out.box10 0
    rw [hw3]
    obtain ⟨w4, hw4⟩ : ∃ z, w3.setCell ⟨b10, 0, none⟩ (.int .i64 (l'.length : Int)) = z := ⟨_, rfl⟩
    have t4 := touch_setCell (i := 0) (v := .int .i64 (l'.length : Int)) HWS3.out.box10
    rw [hw4] at t4
    obtain ⟨hS4, hB4⟩ := HWS3.out.counted (l'.length : Int) t4.1 t4.2
    have HS4 := Lib.hid hS4
    have HB4 := Lib.hid (HWB3.out.trans hB4)
    clear hS4 hB4 t4 hb3 db fb hw3
    go_wp2_with fail
    go_ret
    exact ⟨rfl, _, _, _, HS4.out, HF1.out, Hll.out, rfl, HB4.out⟩
end Go.Proofs.Ytgoapmjcfdbjpaa
namespace Go.Proofs.Ytgoapmjcfdbjpaa
open Go.RowKit Go.ChangeShapes Go.WideShapes
structure GFlowStep where
  kind : Int
  flow : Int
  id : Int
  cost : Int
def FlowStepR : Rd GFlowStep := fun _ cs x => cs = [.int .i64 x.kind, .int .i64 x.flow, .int .i64 x.id, .int .i64 x.cost] ∧ (Lit.int .i64 x.kind).wf = true ∧ (Lit.int .i64 x.flow).wf = true ∧ (Lit.int .i64 x.id).wf = true ∧ (Lit.int .i64 x.cost).wf = true
def flowStepB (x : GFlowStep) : Nat := (1 + (1 + (1 + (1 + 0)))) + 1
set_option maxRecDepth 10000 in
theorem opens_flowStep : Opens Try.prog 48 FlowStepR flowStepB := by
  intro H enc w base spare held fuel cs x h
  obtain ⟨xs, n, _, rfl, hl, hx, hf⟩ := DataW.trod_struct Try.underlying48 h
  have hl2 : cs.length = 4 := hl.trans (by kernel_rfl)
  clear hl h
  match cs, hl2, xs, hx, hf with
  | [c0, c1, c2, c3], _, [x0, x1, x2, x3], _, hf =>
    obtain ⟨a0, r0, m0⟩ := (opens_int Try.underlying3).at (o := 0) (cs := [c0, c1, c2, c3]) (ds := [c0]) (x := x0) (hf 0 _ rfl) (k := 1) (by kernel_rfl) rfl
    obtain ⟨a1, r1, m1⟩ := (opens_int Try.underlying3).at (o := 1) (cs := [c0, c1, c2, c3]) (ds := [c1]) (x := x1) (hf 1 _ rfl) (k := 1) (by kernel_rfl) rfl
    obtain ⟨a2, r2, m2⟩ := (opens_int Try.underlying3).at (o := 2) (cs := [c0, c1, c2, c3]) (ds := [c2]) (x := x2) (hf 2 _ rfl) (k := 1) (by kernel_rfl) rfl
    obtain ⟨a3, r3, m3⟩ := (opens_int Try.underlying3).at (o := 3) (cs := [c0, c1, c2, c3]) (ds := [c3]) (x := x3) (hf 3 _ rfl) (k := 1) (by kernel_rfl) rfl
    clear hf
    obtain ⟨r0, w0⟩ := r0
    obtain rfl : c0 = .int .i64 a0 := by simpa using r0
    obtain ⟨r1, w1⟩ := r1
    obtain rfl : c1 = .int .i64 a1 := by simpa using r1
    obtain ⟨r2, w2⟩ := r2
    obtain rfl : c2 = .int .i64 a2 := by simpa using r2
    obtain ⟨r3, w3⟩ := r3
    obtain rfl : c3 = .int .i64 a3 := by simpa using r3
    refine ⟨⟨a0, a1, a2, a3⟩, ⟨rfl, w0, w1, w2, w3⟩, ?_⟩
    simp only [List.map_cons, List.map_nil, Rows.uptoBulk, Rows.uptoBulkAll, flowStepB]
    omega
end Go.Proofs.Ytgoapmjcfdbjpaa
namespace Go.Proofs.Ytgoapmjcfdbjpaa
open Go.RowKit
theorem FInv.mono {s : FairS} {W : List (List Int)} {E E' : Int} (h : FInv s W E) (he : E ≤ E') : FInv s W E' :=
  ⟨h.wl, h.wt, h.q, h.fl, fun e hm => by have := h.eb e hm; omega, by have := h.nb; omega, fun t ht => by have := h.sb t ht; omega⟩
def Refused (w : World) (gf : Nat) (flow id cost : Int) (cd : Int) : Prop :=
  Calls Try.prog 19 #[.pointer (some ⟨gf, 0, none⟩), .int .i64 flow, .int .i64 id, .int .i64 cost] w fun e w' => e = .returned (.int .i64 cd) ∧ w = w'
def OfferPost (w : World) (gf : Nat) (D : Dom) (s : FairS) (W : List (List Int)) (E : Int) (i : Nat) (id : Int) (L : List Int) (w' : World) : Prop :=
  ∃ s' D', FairD w' gf D' s' ∧ FInv s' (W.set i (L ++ [id])) E ∧ s'.l.length = s.l.length + 1 ∧ s'.ws = s.ws ∧ Only D w w' ∧ ∀ q, D' q → D q ∨ w.heap.size ≤ q
theorem offer_cases {w : World} {gf : Nat} {D : Dom} {s : FairS} {W : List (List Int)} {E : Int} (flow id cost : Int) (h : FairD w gf D s) (hF : FInv s W E) (hE : E ≤ 1152921504606846976) (hl : s.l.length ≤ 64) :
    (∃ cd : Int, cd ≠ 0 ∧ Refused w gf flow id cost cd) ∨
    ∃ (i : Nat) (L : List Int), flow = (i : Nat) ∧ i < W.length ∧ W[i]? = some L ∧ s.l.length < 64 ∧ Calls Try.prog 19 #[.pointer (some ⟨gf, 0, none⟩), .int .i64 flow, .int .i64 id, .int .i64 cost] w fun e w' => e = .returned (.int .i64 0) ∧ OfferPost w gf D s W (E + 2520000) i id L w' := by
  by_cases hf : flow < 0 ∨ (s.ws.length : Int) ≤ flow
  · exact .inl ⟨7, by decide, offer_none gf D s flow id cost w h hf⟩
  by_cases hc : cost < 1 ∨ 1000 < cost
  · exact .inl ⟨1, by decide, offer_arg gf D s flow id cost w h (by omega) (by omega) hc⟩
  by_cases hl2 : s.l.length = 64
  · exact .inl ⟨22, by decide, offer_full gf D s flow id cost w h (by omega) (by omega) (by omega) (by omega) hl2⟩
  obtain ⟨i, rfl⟩ : ∃ i : Nat, flow = (i : Int) := ⟨flow.toNat, by omega⟩
  have hi : i < s.ws.length := by omega
  have hlen := h.len
  have hiw : i < W.length := by rw [hF.wl]; exact hi
  have hw : s.ws[i]? = some s.ws[i] := List.getElem?_eq_getElem hi
  have he : s.es[i]? = some (s.es[i]'(by omega)) := List.getElem?_eq_getElem _
  have hL : W[i]? = some W[i] := List.getElem?_eq_getElem hiw
  have he0 := hF.eb _ (List.mem_of_getElem? he)
  have hn0 := hF.nb
  refine .inr ⟨i, W[i], rfl, hiw, hL, by omega, (offer_ok gf D s i _ _ id cost w h hw he (by omega) (by omega) (by omega) (hF.wt _ (List.mem_of_getElem? hw)) ⟨he0.1, by omega⟩ ⟨hn0.1, by omega⟩).mono fun e w' ⟨h1, l', D', h2, h3, h4, h5⟩ => ⟨h1, _, D', h2, hF.push hlen hw he hL (by omega) h3, ?_, rfl, h4, h5⟩⟩
  show l'.length = _
  rw [h3.length_eq, List.length_append]; rfl
theorem made_nils (n : Nat) : (madeCells (Value.slice none 0 0).cells (n * 1)).toList = List.replicate n (.slice none 0 0) := by
  rw [Nat.mul_one]
  unfold madeCells
  rw [Array.toList_map]
  apply List.ext_getElem?
  intro i
  rw [List.getElem?_map, List.getElem?_replicate]
  by_cases h : i < n
  · rw [if_pos h, Array.getElem?_toList, Array.getElem?_range, if_pos h]
    show some ((#[Value.slice none 0 0] : Array Value)[i % 1]!) = _
    rw [Nat.mod_one]
    rfl
  · rw [if_neg h, Array.getElem?_toList, Array.getElem?_range, if_neg h]; rfl
theorem Try.infoInts : (Try.prog.info? 39).map (fun i => (i.zero, i.size, i.bytes)) = some (some (.slice none 0 0), 1, 24) := by kernel_rfl
theorem make_waits (w : World) (n : Nat) (hn : n ≤ 8) : ∃ (w' : World) (vs : Array Value), (Instr.makeSlice 44 (.int .i64 (n : Int)) (.int .i64 (n : Int))).run Try.prog w = .ok (.slice (some ⟨w.heap.size, 0, none⟩) n n) w' ∧
    w'.heap[w.heap.size]? = some (.cells vs 39 (0, 0)) ∧ vs.size = n ∧ (∀ (k : Nat) v, vs[k]? = some v → v = .slice none 0 0) ∧ Below w.heap.size w w' := by
  obtain ⟨i0, hi0, hz0, hz1, hz2⟩ := info_parts Try.infoInts
  have h := run_makeSlice (P := Try.prog) w 44 39 i0 _ Try.underlying44 hi0 hz0 .i64 .i64 (n : Int) (n : Int) (by omega) (by omega) (by rw [hz1]; omega) (by rw [hz2]; omega) (by omega)
  rw [hz1, Int.toNat_natCast] at h
  refine ⟨_, _, h, heap_alloc_new w _, by rw [size_madeCells, Nat.mul_one], fun k v hv => ?_, (Below.refl _ w).alloc (Nat.le_refl _) _⟩
  rw [← Array.getElem?_toList, made_nils, List.getElem?_replicate] at hv
  split at hv
  · cases hv; rfl
  · cases hv
theorem WaitS.begin {B : Nat} {w : World} {b5 b9 b10 gf gw : Nat} {D : Dom} {s : FairS} {n : Nat} {vs : Array Value} (h5 : w.heap[b5]? = some (.cells #[.pointer (some ⟨gf, 0, none⟩)] 41 (0, 0))) (h9 : w.heap[b9]? = some (.cells #[.slice (some ⟨gw, 0, none⟩) n n] 44 (0, 0)))
    (h10 : w.heap[b10]? = some (.cells #[.int .i64 0] 3 (0, 0))) (hrow : w.heap[gw]? = some (.cells vs 39 (0, 0))) (hs : vs.size = n) (hv : ∀ (k : Nat) v, vs[k]? = some v → v = .slice none 0 0) (hf : FairD w gf D s) (hd : ¬ D b5 ∧ ¬ D b9 ∧ ¬ D b10 ∧ ¬ D gw) (hlt : ∀ q, D q → B ≤ q ∧ q < w.heap.size)
    (hlow : B ≤ b5 ∧ B ≤ b9 ∧ B ≤ b10 ∧ B ≤ gw) : WaitS B w b5 b9 b10 gf gw D s (List.replicate n []) vs 0 := by
  refine ⟨h5, by rw [List.length_replicate]; exact h9, h10, hrow, by rw [List.length_replicate]; exact hs, hf, fun k v L hk hL => ?_, fun i j vi vj b _ hi _ hb => ?_, fun k v b hk hb => ?_, hd, hlt, hlow⟩
  · rw [hv k v hk]
    rw [List.getElem?_replicate] at hL
    split at hL
    · cases hL; exact QAt.nil _ _ _ _
    · cases hL
  · rw [hv i vi hi] at hb; cases hb
  · rw [hv k v hk] at hb; cases hb
end Go.Proofs.Ytgoapmjcfdbjpaa
namespace Go.Proofs.Ytgoapmjcfdbjpaa
open Go.RowKit
theorem ones_sum {α : Type} (l : List α) : (l.map fun _ => 1).sum = l.length := by
  induction l with
  | nil => rfl
  | cons a r ih => rw [List.map_cons, List.sum_cons, ih, List.length_cons]; omega
theorem steps_sum (l : List GFlowStep) : l.length ≤ (l.map flowStepB).sum := by
  induction l with
  | nil => exact Nat.le_refl _
  | cons a r ih => rw [List.map_cons, List.sum_cons, List.length_cons]; have h5 : flowStepB a = 5 := rfl; omega
theorem row_wfI {w : World} {v : Value} {l : List Int} (h : RowAt RI 1 w v l) : wfI l := fun x hx => by
  obtain ⟨j, hj⟩ := List.getElem?_of_mem hx
  rcases h with ⟨_, h1⟩ | ⟨a, c, _, _, _, h4⟩
  · rw [h1] at hx; cases hx
  · obtain ⟨cs, _, _, h5⟩ := h4 j x hj
    exact h5.2
theorem step_cells {w : World} {a : Option Addr} {n c : Nat} {l : List GFlowStep} (h : RowAt FlowStepR 4 w (.slice a n c) l) (hn : l.length = n) {i : Nat} {x : GFlowStep} (hx : l[i]? = some x) :
    ∃ b o, a = some ⟨b, o, none⟩ ∧ b < w.heap.size ∧ w.cell? ⟨b, o + i * 4, none⟩ = some (.int .i64 x.kind) ∧ w.cell? ⟨b, o + i * 4 + 1, none⟩ = some (.int .i64 x.flow) ∧ w.cell? ⟨b, o + i * 4 + 2, none⟩ = some (.int .i64 x.id) ∧ w.cell? ⟨b, o + i * 4 + 3, none⟩ = some (.int .i64 x.cost) := by
  have hi : i < l.length := (List.getElem?_eq_some_iff.1 hx).1
  obtain ⟨bb, o, c', hv, _, _, hbs, hcell⟩ := h.form (by omega) (by omega)
  injection hv with u1 u2 u3
  obtain ⟨ds, _, hcc, hds⟩ := hcell i x hx
  have hds' : ds = [.int .i64 x.kind, .int .i64 x.flow, .int .i64 x.id, .int .i64 x.cost] := hds.1
  subst hds'
  exact ⟨bb, o, u1, hbs, by simpa using hcc 0 _ rfl, hcc 1 _ rfl, hcc 2 _ rfl, hcc 3 _ rfl⟩
def LoopW (B : Nat) (w : World) (b5 b9 b10 gf gw : Nat) (wr : World) (E : Int) : Prop :=
  ∃ D s W vs, WaitS B wr b5 b9 b10 gf gw D s W vs (s.l.length : Int) ∧ FInv s W E ∧ s.l.length ≤ 64 ∧ W.length ≤ 8 ∧ Below B w wr
def LoopZ (B : Nat) (w : World) (b5 b9 b10 gf gw : Nat) (wq : World) (E : Int) (g : Nat) : Prop :=
  ∃ D s W vs, (WaitS B wq b5 b9 b10 gf gw D s W vs (s.l.length : Int) ∧ FInv s W E ∧ s.l.length ≤ 64 ∧ W.length ≤ 8 ∧ Below B w wq) ∧ s.l.length = g
theorem nextc_any {B : Nat} {w wr : World} {b5 b9 b10 gf gw : Nat} {D : Dom} {s : FairS} {W : List (List Int)} {vs : Array Value} {E : Int} (h : WaitS B wr b5 b9 b10 gf gw D s W vs (s.l.length : Int)) (hF : FInv s W E) (hl : s.l.length ≤ 64) (hW : W.length ≤ 8) (hb : Below B w wr) :
    Calls Try.prog 17 #[.pointer (some ⟨b5, 0, none⟩), .pointer (some ⟨b10, 0, none⟩), .pointer (some ⟨b9, 0, none⟩)] wr fun e w' => e = .returned (.bool true) ∧
      ∃ D' s' W' vs', (WaitS B w' b5 b9 b10 gf gw D' s' W' vs' (s'.l.length : Int) ∧ FInv s' W' E ∧ s'.l.length ≤ 64 ∧ W'.length ≤ 8 ∧ Below B w w') ∧ s'.l.length = s.l.length - 1 := by
  by_cases h0 : s.l = []
  · refine (nextc_none h h0).mono fun e w' ⟨h1, h2⟩ => ⟨h1, ?_⟩
    subst h2
    exact ⟨D, s, W, vs, ⟨h, hF, hl, hW, hb⟩, by rw [h0]; rfl⟩
  · have hp : 0 < s.l.length := List.length_pos_iff.2 h0
    refine (nextc_some h hF hp hl hW).mono fun e w' ⟨h1, s', W', vs', h2, h3, h4, h5, h6⟩ => ⟨h1, D, s', W', vs', ⟨h2, h3, by omega, ?_, hb.trans h6⟩, by omega⟩
    rw [h3.wl, h5, ← hF.wl]; exact hW
set_option maxRecDepth 100000 in
set_option maxHeartbeats 6400000 in
theorem flowWhole_walk (v0 : Value) (ws : List Int) (v1 : Value) (l : List GFlowStep) (w : World) (h0 : RowAt RI 1 w v0 ws) (h1 : RowAt FlowStepR 4 w v1 l) (hbulk : (ws.map fun _ => 1).sum + 1 + ((l.map flowStepB).sum + 1) ≤ 1048576) :
    Calls Try.prog 6 #[v0, v1] w fun e w' => e = .returned (.bool true) ∧ Below w.heap.size w w' := by
  have hwl : ws.length ≤ 1048576 := by have := ones_sum ws; omega
  have hll : l.length ≤ 1048576 := by have := steps_sum l; omega
  have hwf := row_wfI h0
  obtain ⟨a0, c0, hv0, _, _⟩ := h0.len
  obtain ⟨a1, c1, hv1, _, _⟩ := h1.len
  obtain ⟨m, hm⟩ : ∃ m, ws.length = m := ⟨_, rfl⟩
  obtain ⟨n, hn⟩ : ∃ n, l.length = n := ⟨_, rfl⟩
  rw [hm] at hv0
  rw [hn] at hv1 hll
  subst hv0 hv1
  have H1 := Lib.hid h1
  have Hm := Lib.hid hm
  have Hn := Lib.hid hn
  by_cases hbad : 8 < ws.length ∨ ws = [] ∨ ws.any badW = true
  · obtain ⟨cd, hcd, hC⟩ : ∃ cd : Int, (cd == 0) = false ∧ Calls Try.prog 16 #[.slice a0 m c0] w fun e w' => e = .returned (.tuple #[.pointer none, .int .i64 cd]) ∧ w = w' := by
      by_cases h8 : 8 < ws.length
      · exact ⟨2, by decide, new_large _ ws w h0 h8⟩
      · exact ⟨1, by decide, new_arg _ ws w h0 h8 (by rcases hbad with h | h; exact absurd h h8; exact h)⟩
    have HC := Lib.hid hC
    obtain ⟨w1, hw1⟩ : ∃ z, z = w.alloc (.cells #[.pointer none] 41) := ⟨_, rfl⟩
    obtain ⟨b5, hb5⟩ : ∃ z, z = w.heap.size := ⟨_, rfl⟩
    have hx5 : w1.heap[b5]? = some (.cells #[.pointer none] 41 (0, 0)) := by rw [hw1, hb5]; exact heap_alloc_new w _
    have hbl : Below w.heap.size w w1 := by rw [hw1]; exact (Below.refl _ w).alloc (Nat.le_refl _) _
    have HB := Lib.hid hbl
    have HN := Lib.hid (new_arg (.slice none 0 0) [] w1 (.inl ⟨rfl, rfl⟩) (by simp) (.inl rfl))
    have c5 := cell_block hx5 0
    have hcd2 : ¬ (cd = 0) := by simpa using hcd
    have hcd3 : (cd != 0) = true := by simpa using hcd2
    clear hC hbad h0 h1 hbl hx5
    go_enter Try.func6, Try.ntmps6
    go_wp2_with fail
    refine HC.out.mono ?_
    rintro e w' ⟨rfl, h9⟩
    subst h9
    clear HC
    go_upto_region 2 with fail
    rw [← hw1]
    try rw [← hb5]
    clear hw1 hb5
    go_wp2_with fail
    refine HN.out.mono ?_
    rintro e w' ⟨rfl, h9⟩
    subst h9
    clear HN
    go_wp2_with fail
    go_ret
    exact ⟨rfl, HB.out⟩
  · have hwf2 := hwf
    have hb1 : ¬ 8 < ws.length := fun e => hbad (.inl e)
    have hb2 : ws ≠ [] := fun e => hbad (.inr (.inl e))
    have hb3 : ws.any badW = false := by
      cases hq : ws.any badW with
      | false => rfl
      | true => exact absurd (.inr (.inr hq)) hbad
    have HC := Lib.hid (new_ok _ ws w h0 hwf hb1 hb2 hb3)
    have hm8 : m ≤ 8 := by omega
    have Hb3 := Lib.hid hb3
    clear hbad h0 h1 hwf hwf2 hb1 hb2 hb3
    go_enter Try.func6, Try.ntmps6
    go_wp2_with fail
    refine HC.out.mono ?_
    rintro e w1 ⟨gf, rfl, hf1, hbl1⟩
    obtain ⟨D, hfD, hDlt, hDlow⟩ := hf1.lt'
    obtain ⟨w2, hw2⟩ : ∃ z, z = w1.alloc (.cells #[.pointer (some ⟨gf, 0, none⟩)] 41) := ⟨_, rfl⟩
    obtain ⟨b5, hb5⟩ : ∃ z, z = w1.heap.size := ⟨_, rfl⟩
    have hx5 : w2.heap[b5]? = some (.cells #[.pointer (some ⟨gf, 0, none⟩)] 41 (0, 0)) := by rw [hw2, hb5]; exact heap_alloc_new w1 _
    have hbl2 : Below w1.heap.size w1 w2 := by rw [hw2]; exact (Below.refl _ w1).alloc (Nat.le_refl _) _
    have HN := Lib.hid (new_arg (.slice none 0 0) [] w2 (.inl ⟨rfl, rfl⟩) (by simp) (.inl rfl))
    obtain ⟨w3, vs, hM, hrow3, hvsz, hvs, hbl3⟩ := make_waits w2 m hm8
    obtain ⟨gw, hgw⟩ : ∃ z, z = w2.heap.size := ⟨_, rfl⟩
    rw [← hgw] at hM hrow3
    obtain ⟨w4, hw4⟩ : ∃ z, z = w3.alloc (.cells #[.slice (some ⟨gw, 0, none⟩) m m] 44) := ⟨_, rfl⟩
    obtain ⟨b9, hb9⟩ : ∃ z, z = w3.heap.size := ⟨_, rfl⟩
    have hx9 : w4.heap[b9]? = some (.cells #[.slice (some ⟨gw, 0, none⟩) m m] 44 (0, 0)) := by rw [hw4, hb9]; exact heap_alloc_new w3 _
    have hbl4 : Below w3.heap.size w3 w4 := by rw [hw4]; exact (Below.refl _ w3).alloc (Nat.le_refl _) _
    obtain ⟨w5, hw5⟩ : ∃ z, z = w4.alloc (.cells #[.int .i64 0] 3) := ⟨_, rfl⟩
    obtain ⟨b10, hb10⟩ : ∃ z, z = w4.heap.size := ⟨_, rfl⟩
    have hx10 : w5.heap[b10]? = some (.cells #[.int .i64 0] 3 (0, 0)) := by rw [hw5, hb10]; exact heap_alloc_new w4 _
    have hbl5 : Below w4.heap.size w4 w5 := by rw [hw5]; exact (Below.refl _ w4).alloc (Nat.le_refl _) _
    have c5 := cell_block hx5 0
    have s1 := hbl1.size
    have s2 := hbl2.size
    have s3 := hbl3.size
    have s4 := hbl4.size
    have s5 := hbl5.size
    have hW0 : WaitS w.heap.size w5 b5 b9 b10 gf gw D ⟨ws, List.replicate ws.length 0, 0, []⟩ (List.replicate m []) vs 0 := by
      refine WaitS.begin (below_block hbl5 (below_block hbl4 (below_block hbl3 hx5))) (below_block hbl5 hx9) hx10 (below_block hbl5 (below_block hbl4 hrow3)) hvsz hvs (hfD.agree fun q hq => ?_) ⟨fun h => ?_, fun h => ?_, fun h => ?_, fun h => ?_⟩ (fun q hq => ⟨hDlow q hq, ?_⟩) ⟨?_, ?_, ?_, ?_⟩
      · have := hDlt q hq
        rw [hbl5.block q (by omega), hbl4.block q (by omega), hbl3.block q (by omega), hbl2.block q (by omega)]
      · have := hDlt _ h; omega
      · have := hDlt _ h; omega
      · have := hDlt _ h; omega
      · have := hDlt _ h; omega
      · have := hDlt q hq; omega
      · omega
      · omega
      · omega
      · omega
    have hF0 : FInv ⟨ws, List.replicate ws.length 0, 0, []⟩ (List.replicate m []) 0 := by rw [← Hm.out]; exact FInv.begin ws Hb3.out
    have HW0 := Lib.hid hW0
    have HF0 := Lib.hid hF0
    have HBl : Hid (Below w.heap.size w w5) := Lib.hid (hbl1.trans ((hbl2.mono s1).trans ((hbl3.mono (by omega)).trans ((hbl4.mono (by omega)).trans (hbl5.mono (by omega))))))
    clear hf1 hbl1 hfD hDlt hDlow hx5 hbl2 hrow3 hvsz hvs hbl3 hx9 hbl4 hx10 hbl5 s1 s2 s3 s4 s5 hW0 hF0 HC Hb3
    go_upto_region 2 with fail
    rw [← hw2]
    try rw [← hb5]
    clear hw2 hb5
    go_wp2_with fail
    refine HN.out.mono ?_
    rintro e w' ⟨rfl, h9⟩
    subst h9
    clear HN
    go_upto_region 7 with fail
    go_upto_region 8 with fail
    try rw [← hgw]
    rw [← hw4]
    try rw [← hb9]
    clear hw4 hb9 hM hgw
    go_upto_region 9 with fail
    rw [← hw5]
    try rw [← hb10]
    clear hw5 hb10
    obtain ⟨p5, hp5⟩ : ∃ z, Value.pointer (some ⟨b5, 0, none⟩) = z := ⟨_, rfl⟩
    clear c5 hp5 p5
    have Hloop : Hid (LoopW w.heap.size w b5 b9 b10 gf gw w5 ((0 : Nat) * 2520000 : Int)) := Lib.hid ⟨D, _, _, vs, HW0.out, by simpa using HF0.out, by simp, by rw [List.length_replicate]; exact hm8, HBl.out⟩
    clear HW0 HF0 HBl
    have ep := enter_nextc
    go_wp2_with fail
    go_loopg [43] n (fun g u43 wr => ∃ i : Nat, i + g = n ∧ u43 = .int .i64 (i : Int) ∧ Hid (LoopW w.heap.size w b5 b9 b10 gf gw wr ((i : Int) * 2520000)))
    case atStart => exact ⟨0, by omega, rfl, Hloop⟩
    case round =>
      clear Hloop
      obtain ⟨i, hig, rfl, HLp⟩ := hrel
      cases gk with
      | zero =>
        obtain rfl : n = i := by omega
        obtain ⟨D, s, W, vs, hWS, hFI, hl64, hW8, hbl⟩ := HLp.out
        obtain ⟨mm, hmm⟩ : ∃ z, s.l.length = z := ⟨_, rfl⟩
        have Hst : Hid (LoopZ w.heap.size w b5 b9 b10 gf gw wr ((n : Int) * 2520000) mm) := Lib.hid ⟨D, s, W, vs, ⟨hWS, hFI, hl64, hW8, hbl⟩, hmm⟩
        clear hWS hFI hl64 hW8 hbl HLp hmm
        go_upto_region 24 with fail
        go_loopg [] mm (fun g wq => Hid (LoopZ w.heap.size w b5 b9 b10 gf gw wq ((n : Int) * 2520000) g))
        case atStart => exact Hst
        case round =>
          clear Hst
          obtain ⟨D, s, W, vs, ⟨hWS, hFI, hl64, hW8, hbl⟩, hlen⟩ := hrel.out
          have c10 := cell_block hWS.box10 0
          rw [hlen] at c10
          have HC := Lib.hid (nextc_any hWS hFI hl64 hW8 hbl)
          have Hlen := Lib.hid hlen
          clear hWS hFI hl64 hW8 hbl hrel hlen
          cases gk with
          | zero =>
            go_wp2_with fail
            refine HC.out.mono ?_
            rintro e w2 ⟨rfl, D', s', W', vs', ⟨-, -, -, -, r5⟩, -⟩
            have HB := Lib.hid r5
            clear HC r5 c10
            go_wp2_with fail
            go_ret
            exact ⟨rfl, HB.out⟩
          | succ g =>
            have q9 : (0 : Int) < ((g + 1 : Nat) : Int) := by omega
            have q8 : (0 : Int) < (g : Int) + 1 := by omega
            go_wp2_with fail
            refine HC.out.mono ?_
            rintro e w2 ⟨rfl, D', s', W', vs', hr, hl9⟩
            have HZ : Hid (LoopZ w.heap.size w b5 b9 b10 gf gw w2 ((n : Int) * 2520000) g) := Lib.hid ⟨D', s', W', vs', hr, by have := Hlen.out; omega⟩
            clear HC hr hl9 c10
            go_wp2_with fail
            go_roundg g
            case measure => omega
            case rel => exact HZ
      | succ g =>
        have hil : i < n := by omega
        obtain ⟨x, hxi⟩ : ∃ x, l[i]? = some x := ⟨l[i]'(by rw [Hn.out]; exact hil), List.getElem?_eq_getElem _⟩
        obtain ⟨D, s, W, vs, hWS, hFI, hl64, hW8, hbl⟩ := HLp.out
        obtain ⟨b, o, rfl, hbs, x0, x1, x2, x3⟩ := step_cells H1.out Hn.out hxi
        have y0 : wr.cell? ⟨b, o + i * 4, none⟩ = some (.int .i64 x.kind) := (hbl.cell (p := ⟨b, _, none⟩) hbs).trans x0
        have y1 : wr.cell? ⟨b, o + i * 4 + 1, none⟩ = some (.int .i64 x.flow) := (hbl.cell (p := ⟨b, _, none⟩) hbs).trans x1
        have y2 : wr.cell? ⟨b, o + i * 4 + 2, none⟩ = some (.int .i64 x.id) := (hbl.cell (p := ⟨b, _, none⟩) hbs).trans x2
        have y3 : wr.cell? ⟨b, o + i * 4 + 3, none⟩ = some (.int .i64 x.cost) := (hbl.cell (p := ⟨b, _, none⟩) hbs).trans x3
        have q1 : (0 : Int) ≤ (i : Int) := by omega
        have q2 : (i : Int) < (n : Int) := by omega
        obtain ⟨w1, hw1⟩ : ∃ z, z = wr.alloc (.cells #[.int .i64 x.kind, .int .i64 x.flow, .int .i64 x.id, .int .i64 x.cost] 48) := ⟨_, rfl⟩
        obtain ⟨b13, hb13⟩ : ∃ z, z = wr.heap.size := ⟨_, rfl⟩
        have hx13 : w1.heap[b13]? = some (.cells #[.int .i64 x.kind, .int .i64 x.flow, .int .i64 x.id, .int .i64 x.cost] 48 (0, 0)) := by rw [hw1, hb13]; exact heap_alloc_new wr _
        have hbl1 : Below wr.heap.size wr w1 := by rw [hw1]; exact (Below.refl _ wr).alloc (Nat.le_refl _) _
        have hWS1 := hWS.below hbl1
        have hBr : w.heap.size ≤ wr.heap.size := hbl.size
        have hBl1 : Below w.heap.size w w1 := hbl.trans (hbl1.mono hBr)
        have c13 := fun z => cell_block hx13 z
        obtain ⟨kd, hkd⟩ : ∃ z, x.kind.tmod 2 = z := ⟨_, rfl⟩
        have hkd2 : IntKind.i64.wrap kd = kd := IntWalk.i64_in _ (by
          have g1 := Int.tmod_lt_of_pos x.kind (b := 2) (by omega)
          have g2 : -2 < x.kind.tmod 2 := by have := Int.lt_tmod_of_pos x.kind (b := 2) (by omega); omega
          omega)
        have HWS1 := Lib.hid hWS1
        have HFI := Lib.hid hFI
        have HBl1 := Lib.hid hBl1
        have HX13 := Lib.hid hx13
        have hlt13 : b13 < w1.heap.size := heap_lt hx13
        have hB13 : w.heap.size ≤ b13 := by rw [hb13]; exact hBr
        have Hne13 : Hid (¬ D b13 ∧ b13 ≠ gw) := Lib.hid ⟨fun h9 => by have := (hWS.lt b13 h9).2; omega, fun h9 => by have := heap_lt hWS.row; omega⟩
        have HneQ : Hid (∀ (k : Nat) v, vs[k]? = some v → v.ownBlock ≠ some b13) := Lib.hid fun k v hv e => by
          obtain ⟨L, _, hq⟩ := hWS.getq hv
          have := (hq.at e).2.1; omega
        clear hWS hFI hbl HLp x0 x1 x2 x3 hx13 hbl1 hWS1 hBl1 hxi
        go_upto_region 13 with fail
        rw [← hw1]
        try rw [← hb13]
        clear hw1 hb13 y0 y1 y2 y3
        by_cases hk0 : kd = 0
        · have hk1 : (kd != 0) = false := by rw [hk0]; rfl
          have HWSx := HWS1
          obtain hcases := offer_cases x.flow x.id x.cost HWS1.out.fair HFI.out (by omega) hl64
          rcases hcases with ⟨cd, hcd, hC⟩ | ⟨k, L, hfk, hkW, hWk, hl63, hC⟩
          · have HC := Lib.hid hC
            unfold Refused at HC
            have hcd1 : (cd == 0) = false := by simpa using hcd
            have c5 := cell_block HWS1.out.box5 0
            clear hC
            go_wp2_with fail
            refine HC.out.mono ?_
            rintro e w2 ⟨rfl, h9⟩
            subst h9
            clear HC c5
            have HT : Hid (LoopW w.heap.size w b5 b9 b10 gf gw w1 (((i + 1 : Nat) : Int) * 2520000)) := Lib.hid ⟨D, s, W, vs, HWS1.out, HFI.out.mono (by omega), hl64, hW8, HBl1.out⟩
            clear HWS1 HWSx HFI HBl1 hl64 hW8 Hne13 HneQ c13 HX13
            obtain ⟨D9, s9, W9, vs9, r1, r2, r3, r4, r5⟩ := HT.out
            have hD5 := cell_block r1.box5 0
            have HR1 := Lib.hid r1
            have HR2 := Lib.hid r2
            have HR5 := Lib.hid r5
            obtain ⟨mm, hmm⟩ : ∃ z, (s9.l.length : Int) = z := ⟨_, rfl⟩
            have hB9 : w.heap.size ≤ w1.heap.size := r5.size
            clear r1 r2 r5 HT hD5
            go_upto_region 21 with fail
            refine wp_region_relB 3 (fun jj U w' => match jj with
              | 0 => U 0 = .pointer (some ⟨gf, 0, none⟩)
              | 1 => U 1 = .int .i64 mm
              | 2 => U 2 = .int .i64 mm
              | _ => True)
              (fun | 1 => [0] | _ => []) (by kernel_rfl) (by kernel_rfl) (fun jj U wa wb hb h => ?_) ⟨?_, ?_, ?_, trivial⟩ ?_
            · match jj, h with
              | 0, h => exact h
              | 1, h => exact h
              | 2, h => exact h
              | _ + 3, _ => trivial
            · intro x' w' hb hd
              have h9 := HR1.out.below (((Below.refl w1.heap.size w1).drew).trans hb)
              have c9 := cell_block h9.box5 0
              refine owes_here (.pointer (some ⟨gf, 0, none⟩)) (by rfl) ?_ rfl
              clear hd h9
              simp only [putAll, List.take_succ_cons, List.take_zero]
              go_simp
            · intro x' w' hb hd
              have h0 : x' 0 = .pointer (some ⟨gf, 0, none⟩) := hd 0 (by simp)
              have h9 := HR1.out.below (((Below.refl w1.heap.size w1).drew).trans hb)
              refine owes_call 20 #[.pointer (some ⟨gf, 0, none⟩)] (by rfl) ?_ ((waits_any gf D9 s9 w' h9.fair).mono ?_)
              · clear hd h9
                simp only [putAll, List.take_succ_cons, List.take_zero]
                rw [h0]
                go_simp
              · rintro _ w2 ⟨rfl, h8⟩
                subst h8
                exact ⟨_, rfl, by rw [← hmm]; rfl, Below.refl _ _⟩
            · intro x' w' hb hd
              have h9 := HR1.out.below (((Below.refl w1.heap.size w1).drew).trans hb)
              have c9 := cell_block h9.box10 0
              refine owes_here (.int .i64 mm) (by rfl) ?_ rfl
              rw [hmm] at c9
              clear hd h9
              simp only [putAll, List.take_succ_cons, List.take_zero]
              go_simp
            · intro x' w' hb hR
              have k1 : x' 1 = .int .i64 mm := hR 1 (by omega)
              have k2 : x' 2 = .int .i64 mm := hR 2 (by omega)
              have hb9 : Below w1.heap.size w1 w' := ((Below.refl w1.heap.size w1).drew).trans hb
              have HL2 : Hid (LoopW w.heap.size w b5 b9 b10 gf gw w' (((i + 1 : Nat) : Int) * 2520000)) := Lib.hid ⟨D9, s9, W9, vs9, HR1.out.below hb9, HR2.out, r3, r4, HR5.out.trans (hb9.mono hB9)⟩
              clear hR hb hb9 HR1 HR2 HR5 hmm
              simp only [putAll, List.take_succ_cons, List.take_zero, List.drop_succ_cons, List.drop_zero]
              rw [show x' (0 + 1) = _ from k1, show x' (0 + 1 + 1) = _ from k2]
              clear k1 k2
              try simp only [Act.put, List.setIfInBounds_toArray, List.set_cons_zero, List.set_cons_succ]
              go_wp2_with fail
              go_roundg g
              case measure => omega
              case rel => exact ⟨i + 1, by omega, by go_num, HL2⟩
          · have HC := Lib.hid hC
            have c5 := cell_block HWS1.out.box5 0
            have hkv : k < vs.size := by rw [HWS1.out.size]; exact hkW
            obtain ⟨v, hv⟩ : ∃ v, vs[k]? = some v := ⟨vs[k]'hkv, Array.getElem?_eq_getElem _⟩
            obtain ⟨fl, hfl⟩ : ∃ z, x.flow = z := ⟨_, rfl⟩
            obtain rfl : fl = (k : Int) := by rw [← hfl]; exact hfk
            have hid : ∃ z, x.id = z := ⟨_, rfl⟩
            have hco : ∃ z, x.cost = z := ⟨_, rfl⟩
            obtain ⟨idd, hidd⟩ := hid
            obtain ⟨cst, hcst⟩ := hco
            rw [hidd, hcst, hfl] at HC
            rw [hidd, hcst, hfl] at c13 HX13
            rw [hidd, hcst, hfl]
            clear hC hfk hidd hcst hfl
            go_wp2_with fail
            refine HC.out.mono ?_
            rintro e w2 ⟨rfl, s', D', hf2, hFI2, hl2, hws2, hO2, hD2⟩
            obtain ⟨D2, hf3, hD3, hD4⟩ := hf2.lt'
            have hWS2 := HWS1.out.faired hO2 hf3 (fun q hq => hD2 q (hD4 q hq)) hD3
            have hx13' : w2.heap[b13]? = some (.cells #[.int .i64 x.kind, .int .i64 (k : Int), .int .i64 idd, .int .i64 cst] 48 (0, 0)) := (hO2.block b13 hlt13 Hne13.out.1).trans HX13.out
            have HX := Lib.hid hx13'
            have hB2 : w.heap.size ≤ w2.heap.size := Nat.le_trans hB13 (Nat.le_of_lt (heap_lt hx13'))
            have hBw2 : Below w.heap.size w w2 := HBl1.out.trans (hO2.below (fun q hq => (HWS1.out.lt q hq).1) HBl1.out.size)
            obtain ⟨Wn, hWn⟩ : ∃ z, W.length = z := ⟨_, rfl⟩
            have hq2 := hWS2.q k v L hv hWk
            have hvlt : ∀ q, v.ownBlock = some q → q < w2.heap.size ∧ q ≠ b13 := fun q hq => ⟨(hq2.at hq).2.1, fun e => HneQ.out k v hv (by rw [← e]; exact hq)⟩
            have hvne : ∀ q, v.ownBlock = some q → q ≠ b9 ∧ q ≠ gw ∧ q ≠ b13 := fun q hq => ⟨(hWS2.neq hv hq).2.1, (hWS2.neq hv hq).2.2, (hvlt q hq).2⟩
            have c9 := cell_block hWS2.box9 0
            rw [hWn] at c9
            have c9' : w2.cell? ⟨b9, 0, none⟩ = some (.slice (some ⟨gw, 0, none⟩) Wn Wn) := c9
            have p1 : (0 : Int) ≤ (k : Int) := by omega
            have p2 : (k : Int) < (Wn : Int) := by omega
            have p3 : ¬ ((k : Int) < 0) := by omega
            have p4 : ¬ ((Wn : Int) ≤ (k : Int)) := by omega
            have c13' := fun z => cell_block hx13' z
            have hLl : L.length ≤ 1048576 := by
              obtain ⟨Q, hQ⟩ := HFI.out.q
              obtain ⟨g1, g2, _⟩ := hQ k (by rw [← HFI.out.wl]; exact hkW)
              rw [hWk] at g2
              cases g2
              have := g1.length_eq
              have := List.length_filter_le (ofFlow k) s.l
              rw [List.length_map]
              omega
            have HWS2 := Lib.hid hWS2
            have HQ2 := Lib.hid hq2
            have HBw2 := Lib.hid hBw2
            have HFI2 := Lib.hid hFI2
            have Hl2 := Lib.hid hl2
            have Hv := Lib.hid hv
            have Hk := Lib.hid (show vs[k]? = some v from hv)
            have HWn := Lib.hid hWn
            have HV := Lib.hid hvne
            have HVl := Lib.hid hvlt
            have hgwl : gw < w2.heap.size := heap_lt hWS2.row
            have hb9l : b9 < w2.heap.size := heap_lt hWS2.box9
            have hb13l : b13 < w2.heap.size := heap_lt hx13'
            have Hl63 : Hid (s.l.length < 64) := Lib.hid hl63
            have Hws2 : Hid (s'.l.length ≤ 64 ∧ (W.set k (L ++ [idd])).length ≤ 8) := Lib.hid ⟨by omega, by rw [List.length_set]; exact hW8⟩
            clear HC c5 hf2 hFI2 hl2 hws2 hO2 hD2 hf3 hD3 hD4 hWS2 HWS1 HWSx hx13' hBw2 hWn hq2 hvlt hvne c9 c13 hkv hv hkW hWk hl63 HneQ Hne13 HFI hW8 hl64 HBl1
            go_upto_region 19 with fail
            clear c9' c13'
            refine wp_region_relZ 12 (fun w' => w2.grownBy w' v.ownBlock) (fun jj w' => jj = 11 → QAt encI 3 w' w.heap.size v L) (fun ii wa wb => wa.grownBy wb (if ii = 11 then v.ownBlock else none)) (fun jj U w' => match jj with
              | 0 => U 0 = .slice (some ⟨gw, 0, none⟩) Wn Wn
              | 1 => U 1 = .pointer (some ⟨b13, 1, none⟩)
              | 2 => U 2 = .int .i64 (k : Int)
              | 3 => U 3 = .slice (some ⟨gw, 0, none⟩) Wn Wn
              | 4 => U 4 = .pointer (some ⟨b13, 1, none⟩)
              | 5 => U 5 = .int .i64 (k : Int)
              | 6 => U 6 = .pointer (some ⟨gw, k, none⟩)
              | 7 => U 7 = v
              | 8 => U 8 = .pointer (some ⟨b13, 2, none⟩)
              | 9 => U 9 = .int .i64 idd
              | 10 => ∃ q, U 10 = .slice (some ⟨q, 0, none⟩) 1 1 ∧ w2.heap.size ≤ q ∧ w'.heap[q]? = some (.cells #[.int .i64 idd] 3 (0, 0))
              | 11 => QAt encI 3 w' w.heap.size (U 11) (L ++ [idd]) ∧ ∀ q, (U 11).ownBlock = some q → v.ownBlock = some q ∨ w2.heap.size ≤ q
              | _ => True)
              (fun | 2 => [1] | 5 => [4] | 6 => [3, 5] | 7 => [6] | 9 => [8] | 10 => [9] | 11 => [7, 10] | _ => []) (by kernel_rfl) (by kernel_rfl) (below_grown (below_drewF w2) _) (fun _ _ => HQ2.out.below (below_drewF w2)) (fun ii wa wb hk hi => ?_) (fun ii jj wa wb hji hk hi h h7 => ?_) (fun ii jj U wa wb hji hk hi h => ?_) ⟨?_, ?_, ?_, ?_, ?_, ?_, ?_, ?_, ?_, ?_, ?_, ?_, trivial⟩ ?_
            · by_cases e : ii = 11
              · rw [if_pos e] at hk; exact grown_trans hi hk
              · rw [if_neg e] at hk
                exact grown_trans hi ⟨hk.os, hk.tape, hk.output, hk.size, fun q hq _ => hk.block q hq (by simp)⟩
            · have e : ii ≠ 11 := fun e => hji (h7.trans e.symm)
              rw [if_neg e] at hk
              exact (h h7).below ⟨hk.os, hk.tape, hk.output, hk.size, fun q hq => hk.block q hq (by simp)⟩
            · by_cases e : ii = 11
              · subst e
                rw [if_pos rfl] at hk
                match jj, hji, h with
                | 0, _, h => exact h
                | 1, _, h => exact h
                | 2, _, h => exact h
                | 3, _, h => exact h
                | 4, _, h => exact h
                | 5, _, h => exact h
                | 6, _, h => exact h
                | 7, _, h => exact h
                | 8, _, h => exact h
                | 9, _, h => exact h
                | 10, _, h =>
                  obtain ⟨q, h1, h2, h3⟩ := h
                  exact ⟨q, h1, h2, (hk.block q (heap_lt h3) fun e => by have := (HVl.out q e.symm).1; omega).trans h3⟩
                | 11, hji, _ => exact absurd rfl hji
                | _ + 12, _, _ => trivial
              · rw [if_neg e] at hk
                have hkb : Below wa.heap.size wa wb := ⟨hk.os, hk.tape, hk.output, hk.size, fun q hq => hk.block q hq (by simp)⟩
                match jj, hji, h with
                | 0, _, h => exact h
                | 1, _, h => exact h
                | 2, _, h => exact h
                | 3, _, h => exact h
                | 4, _, h => exact h
                | 5, _, h => exact h
                | 6, _, h => exact h
                | 7, _, h => exact h
                | 8, _, h => exact h
                | 9, _, h => exact h
                | 10, _, h =>
                  obtain ⟨q, h1, h2, h3⟩ := h
                  exact ⟨q, h1, h2, below_block hkb h3⟩
                | 11, _, h => exact ⟨h.1.below hkb, h.2⟩
                | _ + 12, _, _ => trivial
            · intro x' w' hb hS hd
              have h9 : w'.heap[b9]? = some (.cells #[.slice (some ⟨gw, 0, none⟩) Wn Wn] 44 (0, 0)) := (hb.block b9 hb9l fun e => (HV.out b9 e.symm).1 rfl).trans (by rw [← HWn.out]; exact HWS2.out.box9)
              have c9 := cell_block h9 0
              refine owesK_here (.slice (some ⟨gw, 0, none⟩) Wn Wn) (by rfl) ?_ rfl (World.grownBy.refl _ _)
              clear hS hd
              simp only [putAll, List.take_succ_cons, List.take_zero]
              go_simp
            · intro x' w' hb hS hd
              refine owesK_here (.pointer (some ⟨b13, 1, none⟩)) (by rfl) ?_ rfl (World.grownBy.refl _ _)
              clear hS hd
              simp only [putAll, List.take_succ_cons, List.take_zero]
              go_simp
            · intro x' w' hb hS hd
              have h9 : w'.heap[b13]? = some (.cells #[.int .i64 x.kind, .int .i64 (k : Int), .int .i64 idd, .int .i64 cst] 48 (0, 0)) := (hb.block b13 hb13l fun e => (HV.out b13 e.symm).2.2 rfl).trans HX.out
              have c9 := fun z => cell_block h9 z
              have k1 : x' 1 = .pointer (some ⟨b13, 1, none⟩) := hd 1 (by simp)
              refine owesK_here (.int .i64 (k : Int)) (by rfl) ?_ rfl (World.grownBy.refl _ _)
              clear hS hd
              simp only [putAll, List.take_succ_cons, List.take_zero]
              go_simp
            · intro x' w' hb hS hd
              have h9 : w'.heap[b9]? = some (.cells #[.slice (some ⟨gw, 0, none⟩) Wn Wn] 44 (0, 0)) := (hb.block b9 hb9l fun e => (HV.out b9 e.symm).1 rfl).trans (by rw [← HWn.out]; exact HWS2.out.box9)
              have c9 := cell_block h9 0
              refine owesK_here (.slice (some ⟨gw, 0, none⟩) Wn Wn) (by rfl) ?_ rfl (World.grownBy.refl _ _)
              clear hS hd
              simp only [putAll, List.take_succ_cons, List.take_zero]
              go_simp
            · intro x' w' hb hS hd
              refine owesK_here (.pointer (some ⟨b13, 1, none⟩)) (by rfl) ?_ rfl (World.grownBy.refl _ _)
              clear hS hd
              simp only [putAll, List.take_succ_cons, List.take_zero]
              go_simp
            · intro x' w' hb hS hd
              have h9 : w'.heap[b13]? = some (.cells #[.int .i64 x.kind, .int .i64 (k : Int), .int .i64 idd, .int .i64 cst] 48 (0, 0)) := (hb.block b13 hb13l fun e => (HV.out b13 e.symm).2.2 rfl).trans HX.out
              have c9 := fun z => cell_block h9 z
              have k4 : x' 4 = .pointer (some ⟨b13, 1, none⟩) := hd 4 (by simp)
              refine owesK_here (.int .i64 (k : Int)) (by rfl) ?_ rfl (World.grownBy.refl _ _)
              clear hS hd
              simp only [putAll, List.take_succ_cons, List.take_zero]
              go_simp
            · intro x' w' hb hS hd
              have k3 : x' 3 = .slice (some ⟨gw, 0, none⟩) Wn Wn := hd 3 (by simp)
              have k5 : x' 5 = .int .i64 (k : Int) := hd 5 (by simp)
              refine owesK_here (.pointer (some ⟨gw, k, none⟩)) (by rfl) ?_ rfl (World.grownBy.refl _ _)
              clear hS hd
              simp only [putAll, List.take_succ_cons, List.take_zero]
              go_simp
            · intro x' w' hb hS hd
              have k6 : x' 6 = .pointer (some ⟨gw, k, none⟩) := hd 6 (by simp)
              have h9 : w'.heap[gw]? = some (.cells vs 39 (0, 0)) := (hb.block gw hgwl fun e => (HV.out gw e.symm).2.1 rfl).trans HWS2.out.row
              have c9 : w'.cell? ⟨gw, k, none⟩ = some v := (cell_block h9 k).trans Hv.out
              refine owesK_here (v) (by rfl) ?_ rfl (World.grownBy.refl _ _)
              clear hS hd
              simp only [putAll, List.take_succ_cons, List.take_zero]
              go_simp
            · intro x' w' hb hS hd
              refine owesK_here (.pointer (some ⟨b13, 2, none⟩)) (by rfl) ?_ rfl (World.grownBy.refl _ _)
              clear hS hd
              simp only [putAll, List.take_succ_cons, List.take_zero]
              go_simp
            · intro x' w' hb hS hd
              have h9 : w'.heap[b13]? = some (.cells #[.int .i64 x.kind, .int .i64 (k : Int), .int .i64 idd, .int .i64 cst] 48 (0, 0)) := (hb.block b13 hb13l fun e => (HV.out b13 e.symm).2.2 rfl).trans HX.out
              have c9 := fun z => cell_block h9 z
              have k8 : x' 8 = .pointer (some ⟨b13, 2, none⟩) := hd 8 (by simp)
              refine owesK_here (.int .i64 idd) (by rfl) ?_ rfl (World.grownBy.refl _ _)
              clear hS hd
              simp only [putAll, List.take_succ_cons, List.take_zero]
              go_simp
            · intro x' w' hb hS hd
              have k9 : x' 9 = .int .i64 idd := hd 9 (by simp)
              have hsz := hb.size
              refine owesK_makes (w' := w'.alloc (.cells #[.int .i64 idd] 3)) (.slice (some ⟨w'.heap.size, 0, none⟩) 1 1) (by rfl) ?_ ⟨_, rfl, by omega, heap_alloc_new w' _⟩ (World.grownBy_alloc w' _ _)
              clear hS hd
              simp only [putAll, List.take_succ_cons, List.take_zero]
              rw [show x' (0 + 1 + 1 + 1 + 1 + 1 + 1 + 1 + 1 + 1) = _ from k9]
              go_simp
            · intro x' w' hb hS hd
              have k7 : x' 7 = v := hd 7 (by simp)
              obtain ⟨q, k10, hq9, hq10⟩ : ∃ q, x' 10 = .slice (some ⟨q, 0, none⟩) 1 1 ∧ w2.heap.size ≤ q ∧ w'.heap[q]? = some (.cells #[.int .i64 idd] 3 (0, 0)) := hd 10 (by simp)
              have hsz := hb.size
              obtain ⟨i0, hi0, hz0, hz1, hz2⟩ := info_parts Try.infoInt
              obtain ⟨v', w3, hrun, q1, q2, q3⟩ := run_append_q (P := Try.prog) (t := 39) (ty := 39) Try.underlying39 hi0 hz0 hz1 hz2 rfl (fun _ => rfl) (hS rfl) (x := idd) (X := x' 10) k10 hq10 (by omega) (by omega) (by omega)
              refine owesK_makes (w' := w3) v' (by rfl) ?_ ⟨q1, fun q hq => ?_⟩ q2
              · rw [← k7] at hrun
                clear hb hS hd
                simp only [putAll, List.take_succ_cons, List.take_zero]
                try simp only [Act.put, List.setIfInBounds_toArray, List.set_cons_zero, List.set_cons_succ]
                exact exec_appendT (by rfl) (by rfl) (by rfl) hrun
              · have hq' : v'.ownBlock = some q := hq
                rcases q3 with h8 | h8
                · exact .inl (by rw [← h8]; exact hq')
                · rw [h8] at hq'; cases hq'; exact .inr hsz
            · intro x' w' hb hR
              have k0 : x' 0 = .slice (some ⟨gw, 0, none⟩) Wn Wn := hR 0 (by omega)
              have k2 : x' 2 = .int .i64 (k : Int) := hR 2 (by omega)
              obtain ⟨k11, k12⟩ : QAt encI 3 w' w.heap.size (x' 11) (L ++ [idd]) ∧ ∀ q, (x' 11).ownBlock = some q → v.ownBlock = some q ∨ w2.heap.size ≤ q := hR 11 (by omega)
              obtain ⟨v9, hv9⟩ : ∃ v9, x' 11 = v9 := ⟨_, rfl⟩
              rw [hv9] at k11 k12
              have hrow : w'.heap[gw]? = some (.cells vs 39 (0, 0)) := (hb.block gw hgwl fun e => (HV.out gw e.symm).2.1 rfl).trans HWS2.out.row
              have tt := touch_setCell (i := k) (v := v9) hrow
              obtain ⟨w3, hw3⟩ : ∃ z, w'.setCell ⟨gw, k, none⟩ v9 = z := ⟨_, rfl⟩
              rw [hw3] at tt
              obtain ⟨hS3, hB3⟩ := HWS2.out.queued Hv.out hb k11 k12 tt.1 tt.2
              obtain ⟨ya, yc, hy9, -, -⟩ := k11.len
              obtain ⟨yn, hyn⟩ : ∃ z, (L ++ [idd]).length = z := ⟨_, rfl⟩
              rw [hyn] at hy9
              subst hy9
              have d3 := cell_block hS3.box10 0
              have f3 := free_block hS3.box10 0
              have fgw := free_block hrow k
              have cgw := (cell_block hrow k).trans Hv.out
              have m1 : IntKind.i64.wrap ((s.l.length : Int) + 1) = (s'.l.length : Int) := by rw [show (s.l.length : Int) + 1 = (s'.l.length : Int) by have := Hl2.out; omega]; exact IntWalk.i64_in _ (by have := Hl2.out; have := Hl63.out; omega)
              obtain ⟨w4, hw4⟩ : ∃ z, w3.setCell ⟨b10, 0, none⟩ (.int .i64 (s'.l.length : Int)) = z := ⟨_, rfl⟩
              have t4 := touch_setCell (i := 0) (v := .int .i64 (s'.l.length : Int)) hS3.box10
              rw [hw4] at t4
              obtain ⟨hS4, hB4⟩ := hS3.counted (s'.l.length : Int) t4.1 t4.2
              have HT : Hid (LoopW w.heap.size w b5 b9 b10 gf gw w4 (((i + 1 : Nat) : Int) * 2520000)) := Lib.hid ⟨D2, s', _, _, hS4, HFI2.out.mono (by omega), Hws2.out.1, Hws2.out.2, HBw2.out.trans (hB3.trans hB4)⟩
              clear hR hb k11 k12 hS3 hB3 t4 tt hS4 hB4 hrow HX hyn HWS2
              simp only [putAll, List.take_succ_cons, List.take_zero, List.drop_succ_cons, List.drop_zero]
              rw [show x' (0 + 1 + 1) = _ from k2, show x' (0 + 1 + 1 + 1 + 1 + 1 + 1 + 1 + 1 + 1 + 1 + 1) = _ from hv9, k0]
              clear k0 k2 hv9
              try simp only [Act.put, List.setIfInBounds_toArray, List.set_cons_zero, List.set_cons_succ]
              obtain ⟨D9, s9, W9, vs9, r1, r2, r3, r4, r5⟩ := HT.out
              have hD5 := cell_block r1.box5 0
              have HR1 := Lib.hid r1
              have HR2 := Lib.hid r2
              have HR5 := Lib.hid r5
              obtain ⟨mm, hmm⟩ : ∃ z, (s9.l.length : Int) = z := ⟨_, rfl⟩
              have hB9 : w.heap.size ≤ w4.heap.size := r5.size
              clear r1 r2 r5 HT hD5
              go_upto_region 21 with fail
              refine wp_region_relB 3 (fun jj U w' => match jj with
                | 0 => U 0 = .pointer (some ⟨gf, 0, none⟩)
                | 1 => U 1 = .int .i64 mm
                | 2 => U 2 = .int .i64 mm
                | _ => True)
                (fun | 1 => [0] | _ => []) (by kernel_rfl) (by kernel_rfl) (fun jj U wa wb hb h => ?_) ⟨?_, ?_, ?_, trivial⟩ ?_
              · match jj, h with
                | 0, h => exact h
                | 1, h => exact h
                | 2, h => exact h
                | _ + 3, _ => trivial
              · intro x' w' hb hd
                have h9 := HR1.out.below (((Below.refl w4.heap.size w4).drew).trans hb)
                have c9 := cell_block h9.box5 0
                refine owes_here (.pointer (some ⟨gf, 0, none⟩)) (by rfl) ?_ rfl
                clear hd h9
                simp only [putAll, List.take_succ_cons, List.take_zero]
                go_simp
              · intro x' w' hb hd
                have h0 : x' 0 = .pointer (some ⟨gf, 0, none⟩) := hd 0 (by simp)
                have h9 := HR1.out.below (((Below.refl w4.heap.size w4).drew).trans hb)
                refine owes_call 20 #[.pointer (some ⟨gf, 0, none⟩)] (by rfl) ?_ ((waits_any gf D9 s9 w' h9.fair).mono ?_)
                · clear hd h9
                  simp only [putAll, List.take_succ_cons, List.take_zero]
                  rw [h0]
                  go_simp
                · rintro _ w2 ⟨rfl, h8⟩
                  subst h8
                  exact ⟨_, rfl, by rw [← hmm]; rfl, Below.refl _ _⟩
              · intro x' w' hb hd
                have h9 := HR1.out.below (((Below.refl w4.heap.size w4).drew).trans hb)
                have c9 := cell_block h9.box10 0
                refine owes_here (.int .i64 mm) (by rfl) ?_ rfl
                rw [hmm] at c9
                clear hd h9
                simp only [putAll, List.take_succ_cons, List.take_zero]
                go_simp
              · intro x' w' hb hR
                have k1 : x' 1 = .int .i64 mm := hR 1 (by omega)
                have k2 : x' 2 = .int .i64 mm := hR 2 (by omega)
                have hb9 : Below w4.heap.size w4 w' := ((Below.refl w4.heap.size w4).drew).trans hb
                have HL2 : Hid (LoopW w.heap.size w b5 b9 b10 gf gw w' (((i + 1 : Nat) : Int) * 2520000)) := Lib.hid ⟨D9, s9, W9, vs9, HR1.out.below hb9, HR2.out, r3, r4, HR5.out.trans (hb9.mono hB9)⟩
                clear hR hb hb9 HR1 HR2 HR5 hmm
                simp only [putAll, List.take_succ_cons, List.take_zero, List.drop_succ_cons, List.drop_zero]
                rw [show x' (0 + 1) = _ from k1, show x' (0 + 1 + 1) = _ from k2]
                clear k1 k2
                try simp only [Act.put, List.setIfInBounds_toArray, List.set_cons_zero, List.set_cons_succ]
                go_wp2_with fail
                go_roundg g
                case measure => omega
                case rel => exact ⟨i + 1, by omega, by go_num, HL2⟩
        · have hk1 : (kd != 0) = true := by simpa using hk0
          have HC := Lib.hid (nextc_any HWS1.out HFI.out hl64 hW8 HBl1.out)
          go_wp2_with fail
          refine HC.out.mono ?_
          rintro e w2 ⟨rfl, D', s', W', vs', ⟨r1, r2, r3, r4, r5⟩, -⟩
          have HL2 : Hid (LoopW w.heap.size w b5 b9 b10 gf gw w2 (((i + 1 : Nat) : Int) * 2520000)) := Lib.hid ⟨D', s', W', vs', r1, r2.mono (by omega), r3, r4, r5⟩
          clear HC r1 r2 r3 r4 r5
          go_wp2_with fail
          go_roundg g
          case measure => omega
          case rel => exact ⟨i + 1, by omega, by go_num, HL2⟩
end Go.Proofs.Ytgoapmjcfdbjpaa
