/- Texts of ours joined: Value, Solve, ImplyPlain, SolveF, ParseLaws, ParserText, ParserPrint, Opposite, RelX, Implies, EqStr, SameReq. -/
import Derived.OwnWalk
import Derived.Deep.LoopGhost
import Derived.WalkSpells
import Derived.Deep.DeepCutAuto
import Derived.Test.YtlbolbkikkiifaaGreatDoorMq3
set_option linter.unusedVariables false
set_option linter.unusedSimpArgs false
/- query.value: its contract. -/
namespace Go.Proofs.YtlbolbkikkiifaaGreatDoor
open Go.RowKit

def ValueAt (l : List GReq) (key : ByteArray) (w : World) (E : Ending) (w' : World) : Prop :=
  ∃ (u : ByteArray) (is : Bool), E = .returned (.tuple #[.string u, .bool is]) ∧ ValueOK l key u is ∧ Below w.heap.size w w'
theorem below_lt {w W : World} {g : Nat} {x : Obj} (_h : Below w.heap.size w W) (hx : W.heap[g]? = some x) : g < W.heap.size := (Array.getElem?_eq_some_iff.1 hx).1
set_option maxRecDepth 100000 in
set_option maxHeartbeats 6400000 in
theorem value_any (v : Value) (l : List GReq) (key : ByteArray) (w : World) (h : RowAt ReqR 3 w v l) (hl : l.length ≤ 9) (hok : ∀ r ∈ l, okReq r) (hg : ∀ r ∈ l, GoodR r) :
    Calls Tryz.prog 50 #[v, .string key] w (ValueAt l key w) := by
  obtain ⟨a0, c0, rfl, _, _⟩ := h.len
  obtain ⟨w1, hw1⟩ : ∃ w1, w1 = w.alloc (.cells #[.string key] 9) := ⟨_, rfl⟩
  obtain ⟨gy, hgy⟩ : ∃ gy, gy = w.heap.size := ⟨_, rfl⟩
  have k1 : CapKey gy key w1 := by unfold CapKey; rw [hw1, hgy]; exact heap_alloc_new w _
  have hb1 : Below w.heap.size w w1 := by rw [hw1]; exact (Below.refl _ _).alloc (Nat.le_refl _) _
  have hs1 : w1.heap.size = w.heap.size + 1 := by rw [hw1, World.size_alloc]
  have Hat := Lib.hid ((h.atW (Below.refl _ _)).below (flat_atW w ReqR).stays hb1)
  have Hok := Lib.hid hok
  have Hg := Lib.hid hg
  have K1 := Lib.hid k1
  have Hb1 := Lib.hid hb1
  obtain ⟨A, HA⟩ : ∃ A, Hid (l.filter (fun r => decide (r.key = key)) = A) := ⟨_, Lib.hid rfl⟩
  have hAl : A.length ≤ 9 := by rw [← HA.out]; exact Nat.le_trans (List.length_filter_le _ _) hl
  have hAm : ∀ r ∈ A, r ∈ l ∧ r.key = key := fun r hr => by
    rw [← HA.out] at hr
    have := List.mem_filter.1 hr
    exact ⟨this.1, by simpa using this.2⟩
  have HAm := Lib.hid hAm
  have HokA : Hid (∀ r ∈ A, okReq r) := Lib.hid fun r hr => hok r (hAm r hr).1
  have Hfit : Hid (∀ u, A.all (holdsB [⟨key, u⟩]) = fitsV l key u) := Lib.hid fun u => by rw [← HA.out]; exact fits_all l key u
  clear h hok hg k1 hb1 hAm
  go_enter Tryz.func50, Tryz.ntmps50
  go_upto_region 1 with fail
  rw [← hw1]
  try rw [← hgy]
  have hgy1 : gy < w1.heap.size := by omega
  have hs1' : w.heap.size ≤ w1.heap.size := by omega
  clear hw1 hgy hs1
  go_wp2_with fail
  refine (cloneReq_any (flat_atW w ReqR) (one_atW w one_req) _ l w1 Hat.out (by omega)).mono ?_
  rintro E w2 ⟨v2, rfl, hown2, hb2⟩
  have Hown2 := Lib.hid hown2
  have K2 : Hid (CapKey gy key w2) := Lib.hid (below_block hb2 K1.out)
  have Hb2 := Lib.hid (Hb1.out.trans (hb2.mono (by omega)))
  have hs2 := hb2.size
  clear hown2 hb2
  go_wp2_with fail
  have hdel := deleteReq_any (f := 82) (cap := .pointer (some ⟨gy, 0, none⟩)) (Cap := CapKey gy key) (p := fun x => !decide (x.key = key)) w w1.heap.size run_val1 (fun u u' hc hb => (hb.block gy hgy1).trans hc) (fun x y2 u hx hc => val1_any gy key x y2 u hx hc) v2 l w2 Hown2.out Hb2.out (by omega) (by omega) (by omega) K2.out
  refine hdel.mono ?_
  rintro E w3 ⟨v3, rfl, hown3, hb3⟩
  have hfil : l.filter (fun r => !!decide (r.key = key)) = A := by
    rw [← HA.out]
    congr 1
    funext r
    rw [Bool.not_not]
  rw [hfil] at hown3
  have Hown3 := Lib.hid hown3
  have K3 : Hid (CapKey gy key w3) := Lib.hid ((hb3.block gy (by omega)).trans K2.out)
  have Hb3 := Lib.hid (Hb2.out.trans (hb3.mono (by omega)))
  have hs3 := Hb3.out.size
  obtain ⟨a3, c3, rfl, _, _⟩ := hown3.row.len
  clear hown3 hb3 hfil
  go_upto_region 2 with fail
  obtain ⟨w4, hw4⟩ : ∃ w4, w4 = w3.alloc (.cells #[.slice a3 A.length c3] 22) := ⟨_, rfl⟩
  obtain ⟨ga, hga⟩ : ∃ ga, ga = w3.heap.size := ⟨_, rfl⟩
  have b4 : w4.heap[ga]? = some (.cells #[.slice a3 A.length c3] 22 (0, 0)) := by rw [hw4, hga]; exact heap_alloc_new w3 _
  have hb4 : Below w3.heap.size w3 w4 := by rw [hw4]; exact (Below.refl _ _).alloc (Nat.le_refl _) _
  rw [← hw4, ← hga]
  have Hb4 := Lib.hid (Hb3.out.trans (hb4.mono hs3))
  have hrow4 : RowAt ReqR 3 w4 (.slice a3 A.length c3) A := (Hown3.out.row.below (flat_atW w ReqR).stays hb4).ofW stays_req Hb4.out
  have C4 : Hid (CapFit ga gy (.slice a3 A.length c3) A key w4) := Lib.hid ⟨b4, below_block hb4 K3.out, hrow4⟩
  have cc := fun i => cell_block b4 i
  clear hw4 hga b4 hb4 hrow4
  go_wp2_with fail
  refine (idxReq0_any (p := fun x => decide (x.kind = 1)) (Cap := fun _ => True) (OK := fun _ => True) run_val3 (fun _ _ _ _ => trivial) (fun x y2 w hx _ _ => val3_any x y2 w hx) _ A w4 C4.out.row (by omega) (fun _ _ => trivial) trivial).mono ?_
  rintro E w5 ⟨n, rfl, hn, hb5⟩
  have C5 := Lib.hid (C4.out.below hb5)
  have Hb5 := Lib.hid (Hb4.out.trans (hb5.mono Hb4.out.size))
  clear hb5 cc
  have cc := fun i => cell_block C5.out.about i
  have ep2 := run_val2
  rcases hn with ⟨rfl, hnone⟩ | ⟨i, x, rfl, hxi, hsome, _⟩
  · have hno : ∀ r ∈ l, r.key = key → r.kind ≠ 1 := fun r hr hk => by
      have := List.find?_eq_none.1 hnone r (by rw [← HA.out]; exact List.mem_filter.2 ⟨hr, by simpa using hk⟩)
      simpa using this
    have Hfree := Lib.hid (value_free Hg.out hl hno)
    clear hnone hno
    go_wp2_with fail
    refine (val2_any ⟨#[]⟩ w5 C5.out (by omega) HokA.out).mono ?_
    rintro E w6 ⟨rfl, hb6⟩
    have C6 := Lib.hid (C5.out.below hb6)
    have Hb6 := Lib.hid (Hb5.out.trans (hb6.mono Hb5.out.size))
    have hfe : A.all (holdsB [⟨key, ⟨#[]⟩⟩]) = fitsV l key ⟨#[]⟩ := Hfit.out _
    rw [hfe]
    obtain ⟨f0, Hf0⟩ : ∃ f0, Hid (fitsV l key ⟨#[]⟩ = f0) := ⟨_, Lib.hid rfl⟩
    rw [Hf0.out]
    clear hb6 hfe cc
    have cand0 : (⟨#[]⟩ : ByteArray) ∈ candB := List.mem_cons_self ..
    cases f0 with
    | true =>
      have Hv := Lib.hid (Hfree.out.1 _ cand0 Hf0.out)
      clear cand0
      go_wp2_with fail
      go_ret2
      exact ⟨_, _, rfl, Hv.out, Hb6.out⟩
    | false =>
      clear cand0
      go_wp2_with fail
      go_loopg [44] 73 (fun k u44 wr => ∃ i : Nat, i + k = 73 ∧ u44 = .int .i64 (i : Int) ∧ Hid (∀ j, j < i → fitsV l key (numB j) = false) ∧ Hid (CapFit ga gy (.slice a3 A.length c3) A key wr) ∧ Hid (Below w.heap.size w wr))
      case atStart => exact ⟨0, by omega, rfl, Lib.hid (fun j hj => by omega), C6, Hb6⟩
      case round =>
        obtain ⟨i, hik, rfl, Hall, Cr, Hbr⟩ := hrel
        cases gk with
        | zero =>
          obtain rfl : i = 73 := by omega
          have hnone : ∀ u ∈ candB, fitsV l key u = false := fun u hu => by
            rcases List.mem_cons.1 hu with rfl | hu
            · exact Hf0.out
            · obtain ⟨j, hj, rfl⟩ := List.mem_map.1 hu
              exact Hall.out j (List.mem_range.1 hj)
          have Hv := Lib.hid (Hfree.out.2 hnone ⟨#[]⟩)
          clear hnone
          go_wp2_with fail
          go_ret2
          exact ⟨⟨#[]⟩, false, rfl, Hv.out, Hbr.out⟩
        | succ k =>
          have hi : i < 73 := by omega
          have q1 : (i : Int) < 73 := by omega
          have hcand : numB i ∈ candB := List.mem_cons_of_mem _ (List.mem_map.2 ⟨i, List.mem_range.2 hi, rfl⟩)
          obtain ⟨u, Hu⟩ : ∃ u, Hid (numB i = u) := ⟨_, Lib.hid rfl⟩
          have Hcand := Lib.hid hcand
          clear hcand
          go_wp2_with fail
          refine (Tryz.strconv_Itoa_small i (by omega) wr).mono ?_
          rintro E w' ⟨rfl, rfl⟩
          have hnu : (⟨(Lib.decDigits i).toArray⟩ : ByteArray) = u := Hu.out
          rw [hnu]
          clear hnu
          go_wp2_with fail
          refine (val2_any u w' Cr.out (by omega) HokA.out).mono ?_
          rintro E w7 ⟨rfl, hb7⟩
          have C7 := Lib.hid (Cr.out.below hb7)
          have Hb7 := Lib.hid (Hbr.out.trans (hb7.mono Hbr.out.size))
          have hfe : A.all (holdsB [⟨key, u⟩]) = fitsV l key u := Hfit.out _
          rw [hfe]
          obtain ⟨f1, Hf1⟩ : ∃ f1, Hid (fitsV l key u = f1) := ⟨_, Lib.hid rfl⟩
          rw [Hf1.out]
          clear hb7 hfe
          cases f1 with
          | true =>
            have Hv := Lib.hid (Hfree.out.1 _ (by rw [← Hu.out]; exact Hcand.out) Hf1.out)
            go_wp2_with fail
            go_ret2
            exact ⟨_, _, rfl, Hv.out, Hb7.out⟩
          | false =>
            have Hall2 : Hid (∀ j, j < i + 1 → fitsV l key (numB j) = false) := Lib.hid fun j hj => by
              by_cases hji : j = i
              · subst hji; rw [Hu.out]; exact Hf1.out
              · exact Hall.out j (by omega)
            go_wp2_with fail
            go_roundg k
            case measure => omega
            case rel => exact ⟨i + 1, by omega, by go_num, Hall2, C7, Hb7⟩
  · have hiA : i < A.length := (List.getElem?_eq_some_iff.1 hxi).1
    have hkx : x.kind = 1 := by have := List.find?_some hsome; simpa using this
    obtain ⟨hxl, hxk⟩ := HAm.out x (List.mem_of_getElem? hxi)
    obtain ⟨bA, oA, c', hv, _, _, hbs, hcell⟩ := C5.out.row.form (by omega) (by omega)
    injection hv with u1 u2 u3
    subst u1
    clear u2 u3
    obtain ⟨ds, _, hcc, hR⟩ := hcell i x hxi
    obtain ⟨y2, rfl, _, hst⟩ := hR
    obtain ⟨ao, co, rfl, _, _⟩ := hst.row.len
    have e2 : w5.cell? ⟨bA, oA + i * 3 + 2, none⟩ = some (.slice ao x.vals.length co) := hcc 2 _ rfl
    have p1 : (0 : Int) ≤ (i : Int) := by omega
    have p2 : (i : Int) < (A.length : Int) := by omega
    have hxo := HokA.out x (List.mem_of_getElem? hxi)
    have hvl : x.vals.length ≤ 1048576 := hxo.2.1
    have Hst := Lib.hid hst
    have Hin := Lib.hid (fun (vs : List ByteArray) (hvs : ∀ u, u ∈ vs ↔ u ∈ x.vals) => by
      have := value_in (l := l) (r := x) Hg.out hxl hkx hvs
      rwa [hxk] at this)
    clear hcc hcell hxi hsome hst hxo hkx hxl hxk
    go_wp2_with fail
    refine (cloneStr_any _ x.vals w5 Hst.out hvl).mono ?_
    rintro E w6 ⟨v6, rfl, hown6, hb6⟩
    have Hown6 := Lib.hid hown6
    have Hb56 := Lib.hid hb6
    have Hb6 := Lib.hid (Hb5.out.trans (hb6.mono Hb5.out.size))
    have hs6 := hb6.size
    clear hown6 hb6 cc e2
    go_wp2_with fail
    refine (sortStr_any v6 x.vals w5.heap.size w6 Hown6.out hs6 (by omega)).mono ?_
    rintro E w7 ⟨rfl, hown7, hb7⟩
    obtain ⟨vs, Hvs⟩ : ∃ vs, Hid ((sortedL (x.vals.map (·.data.toList))).map mkB = vs) := ⟨_, Lib.hid rfl⟩
    have hmem : ∀ u, u ∈ vs ↔ u ∈ x.vals := fun u => by
      rw [← Hvs.out, List.mem_map]
      constructor
      · rintro ⟨z, hz, rfl⟩
        obtain ⟨y, hy, rfl⟩ := List.mem_map.1 ((sorted_mem _ z).1 hz)
        exact hy
      · intro hu
        exact ⟨u.data.toList, (sorted_mem _ _).2 (List.mem_map_of_mem hu), rfl⟩
    have hvl2 : vs.length ≤ 1048576 := by rw [← Hvs.out, List.length_map, sorted_len, List.length_map]; exact hvl
    rw [Hvs.out] at hown7
    have Hin2 := Lib.hid (Hin.out vs hmem)
    have C7 : Hid (CapFit ga gy (.slice (some ⟨bA, oA, none⟩) A.length c3) A key w7) := Lib.hid (C5.out.below (Hb56.out.trans hb7))
    have Hb7 := Lib.hid (Hb6.out.trans (hb7.mono Hb5.out.size))
    have Hown7 := Lib.hid hown7
    obtain ⟨a7, c7, rfl, _, _⟩ := hown7.row.len
    clear hown7 hb7 hmem
    go_wp2_with fail
    go_loopg [33] vs.length (fun k u33 wr => ∃ i : Nat, i + k = vs.length ∧ u33 = .int .i64 (i : Int) ∧ Hid (∀ u ∈ vs.take i, fitsV l key u = false) ∧ Hid (CapFit ga gy (.slice (some ⟨bA, oA, none⟩) A.length c3) A key wr) ∧ Hid (Below w7.heap.size w7 wr))
    case atStart => exact ⟨0, by omega, rfl, Lib.hid (by simp), C7, Lib.hid (Below.refl _ _)⟩
    case round =>
      obtain ⟨i, hik, rfl, Hall, Cr, Hbr⟩ := hrel
      cases gk with
      | zero =>
        obtain rfl : i = vs.length := by omega
        have Hv := Lib.hid (Hin2.out.2 (fun u hu => Hall.out u (by rw [List.take_of_length_le (Nat.le_refl _)]; exact hu)) ⟨#[]⟩)
        have Hbz := Lib.hid (Hb7.out.trans (Hbr.out.mono Hb7.out.size))
        go_wp2_with fail
        go_ret2
        exact ⟨⟨#[]⟩, false, rfl, Hv.out, Hbz.out⟩
      | succ k =>
        have hil : i < vs.length := by omega
        obtain ⟨u, hui⟩ : ∃ u, vs[i]? = some u := ⟨vs[i]'(by omega), List.getElem?_eq_getElem _⟩
        obtain ⟨b, o, c', hv, _, _, hbs, hcell⟩ := Hown7.out.row.strs.form (by omega)
        injection hv with u1 u2 u3
        subst u1
        clear u2 u3
        have e0 : wr.cell? ⟨b, o + i, none⟩ = some (.string u) := (Hbr.out.cell (p := ⟨b, _, none⟩) hbs).trans (hcell i u hui)
        have q1 : (0 : Int) ≤ (i : Int) := by omega
        have q2 : (i : Int) < (vs.length : Int) := by omega
        have Hui := Lib.hid hui
        clear hcell hui
        go_wp2_with fail
        refine (val2_any u wr Cr.out (by omega) HokA.out).mono ?_
        rintro E w8 ⟨rfl, hb8⟩
        have C8 := Lib.hid (Cr.out.below hb8)
        have Hb8 := Lib.hid (Hbr.out.trans (hb8.mono Hbr.out.size))
        have hfe : A.all (holdsB [⟨key, u⟩]) = fitsV l key u := Hfit.out _
        rw [hfe]
        obtain ⟨f1, Hf1⟩ : ∃ f1, Hid (fitsV l key u = f1) := ⟨_, Lib.hid rfl⟩
        rw [Hf1.out]
        clear hb8 hfe e0
        cases f1 with
        | true =>
          have Hv := Lib.hid (Hin2.out.1 u (List.mem_of_getElem? Hui.out) Hf1.out)
          have Hbz := Lib.hid (Hb7.out.trans (Hb8.out.mono Hb7.out.size))
          go_wp2_with fail
          go_ret2
          exact ⟨u, true, rfl, Hv.out, Hbz.out⟩
        | false =>
          have Hall2 : Hid (∀ y ∈ vs.take (i + 1), fitsV l key y = false) := Lib.hid fun y hy => by
            rw [List.take_add_one, Hui.out] at hy
            rcases List.mem_append.1 hy with h | h
            · exact Hall.out y h
            · simp at h; subst h; exact Hf1.out
          go_wp2_with fail
          go_roundg k
          case measure => omega
          case rel => exact ⟨i + 1, by omega, by go_num, Hall2, C8, Hb8⟩
end Go.Proofs.YtlbolbkikkiifaaGreatDoor
/- query.solve, Solve: their contracts. -/
namespace Go.Proofs.YtlbolbkikkiifaaGreatDoor
open Go.RowKit

theorem Tryz.infoLab : (Tryz.prog.info? 30).map (fun i => (i.zero, i.size, i.bytes)) = some (some (.agg #[.string ByteArray.empty, .string ByteArray.empty]), 2, 32) := by kernel_rfl
theorem flat_lab : Flat LabelR := fun _ _ _ _ h => h
theorem one_lab : OneR LabelR := fun w cs x h u hu => by
  have h' : cs = [.string x.key, .string x.val] := h
  subst h'
  simp only [List.mem_cons, List.not_mem_nil, or_false] at hu
  rcases hu with rfl | rfl <;> rfl
theorem wantK_snoc (l : List GReq) (x : GReq) : wantK (l ++ [x]) = wantK l ++ if x.kind = 1 ∨ x.kind = 3 then [x.key] else [] := by
  unfold wantK
  rw [List.filter_append, List.map_append]
  congr 1
  by_cases h : x.kind = 1 ∨ x.kind = 3
  · rw [if_pos h, List.filter_cons_of_pos (by simpa using h)]; rfl
  · rw [if_neg h, List.filter_cons_of_neg (by simpa using h)]; rfl
theorem wantK_len (l : List GReq) : (wantK l).length ≤ l.length := by
  unfold wantK
  rw [List.length_map]
  exact List.length_filter_le _ _
/-- the keys, each once, rising -/
def keysOf (l : List GReq) : List ByteArray := (Lib.compact (((sortedL ((wantK l).map (·.data.toList))).map mkB).map (·.data.toList))).map mkB
theorem mkB_back (z : List (List UInt8)) : (z.map mkB).map (·.data.toList) = z := by
  rw [List.map_map]
  conv => rhs; rw [← List.map_id z]
  congr 1
theorem pair_rising : ∀ {z : List (List UInt8)}, z.Pairwise (fun x y => Op.bytesLess x y = true) → Rising (z.map mkB)
  | [], _ => trivial
  | [_], _ => trivial
  | a :: b :: r, h => by
    rw [List.map_cons, List.map_cons]
    refine ⟨?_, pair_rising (List.pairwise_cons.1 h).2⟩
    have := (List.pairwise_cons.1 h).1 b (List.mem_cons_self ..)
    unfold lessB
    rw [ByteArray.toList_eq, ByteArray.toList_eq]
    exact this
theorem keysOf_rising (l : List GReq) : Rising (keysOf l) := by
  unfold keysOf
  rw [mkB_back]
  exact pair_rising (compact_rising _ (sorted_pair _)).1
theorem keysOf_mem (l : List GReq) (k : ByteArray) : k ∈ keysOf l ↔ k ∈ wantK l := by
  unfold keysOf
  rw [mkB_back, List.mem_map]
  constructor
  · rintro ⟨z, hz, rfl⟩
    obtain ⟨y, hy, rfl⟩ := List.mem_map.1 ((sorted_mem _ z).1 (((compact_rising _ (sorted_pair _)).2 z).1 hz))
    exact hy
  · intro hk
    exact ⟨k.data.toList, ((compact_rising _ (sorted_pair _)).2 _).2 ((sorted_mem _ _).2 (List.mem_map_of_mem hk)), rfl⟩
theorem keysOf_len (l : List GReq) : (keysOf l).length ≤ l.length := by
  unfold keysOf
  rw [mkB_back, List.length_map]
  have h1 := Lib.compact_length_le (sortedL ((wantK l).map (·.data.toList)))
  rw [sorted_len, List.length_map] at h1
  exact Nat.le_trans h1 (wantK_len l)
def SolveAt (l : List GReq) (w : World) (E : Ending) (w' : World) : Prop :=
  ∃ (v' : Value) (out : List GLabel) (is : Bool), E = .returned (.tuple #[v', .bool is]) ∧ SolveOK l out is ∧ OwnAt LabelR 2 w' w.heap.size 30 v' out ∧ (∀ x ∈ out, okLab x) ∧ out.length ≤ 9 ∧ Below w.heap.size w w'
theorem val_short {s : ByteArray} (h : valE s = 0) : s.size ≤ 63 := by
  unfold valE NameP.checkVal NameP.judge at h
  by_cases h1 : 63 < s.data.toList.length
  · rw [if_pos h1] at h; cases h
  · have : s.data.toList.length = s.size := by simp
    omega
set_option maxRecDepth 100000 in
set_option maxHeartbeats 6400000 in
theorem solve_any (v : Value) (l : List GReq) (w : World) (h : RowAt ReqR 3 w v l) (hl : l.length ≤ 9) (hok : ∀ r ∈ l, okReq r) (hg : ∀ r ∈ l, GoodR r) :
    Calls Tryz.prog 28 #[v] w (SolveAt l w) := by
  obtain ⟨a0, c0, rfl, _, _⟩ := h.len
  obtain ⟨i0, hi0, hz0, hz1, hz2⟩ := info_parts Tryz.infoStr
  obtain ⟨j0, hj0, hy0, hy1, hy2⟩ := info_parts Tryz.infoLab
  have H := Lib.hid h
  have Hok := Lib.hid hok
  have Hg := Lib.hid hg
  clear h hok hg
  go_enter Tryz.func28, Tryz.ntmps28
  go_wp2_with fail
  go_loopg [14, 4] l.length (fun k u14 u4 wr => ∃ i : Nat, i + k = l.length ∧ u14 = .int .i64 (i : Int) ∧ Hid (OwnAt RString 1 wr w.heap.size 9 u4 (wantK (l.take i))) ∧ Hid (Below w.heap.size w wr))
  case atStart => exact ⟨0, by omega, rfl, Lib.hid (OwnAt.nil _), Lib.hid (Below.refl _ _)⟩
  case round =>
    obtain ⟨i, hig, rfl, Hown, Hbel⟩ := hrel
    have hsr := Hbel.out.size
    cases gk with
    | zero =>
      obtain rfl : i = l.length := by omega
      have hown := Hown.out
      rw [List.take_of_length_le (Nat.le_refl _)] at hown
      have Hown1 := Lib.hid hown
      clear hown Hown
      have hwl : (wantK l).length ≤ 9 := Nat.le_trans (wantK_len l) hl
      go_wp2_with fail
      refine (sortStr_any u4 (wantK l) w.heap.size wr Hown1.out hsr (by omega)).mono ?_
      rintro E w1 ⟨rfl, hown1, hb1⟩
      have Hb1 := Lib.hid (Hbel.out.trans hb1)
      have Hown2 := Lib.hid hown1
      clear hown1 hb1
      go_wp2_with fail
      refine (compactStr_any u4 _ w.heap.size w1 Hown2.out (by rw [List.length_map, sorted_len, List.length_map]; omega)).mono ?_
      rintro E w2 ⟨vk, rfl, hown2, hb2⟩
      have Hb2 := Lib.hid (Hb1.out.trans hb2)
      have hkl := keysOf_len l
      have hkm := keysOf_mem l
      have hkr := keysOf_rising l
      obtain ⟨K, HK⟩ : ∃ K, Hid (keysOf l = K) := ⟨_, Lib.hid rfl⟩
      have hown3 : OwnAt RString 1 w2 w.heap.size 9 vk K := by rw [← HK.out]; exact hown2
      rw [HK.out] at hkl hkm hkr
      have Hkm := Lib.hid hkm
      have Hkr := Lib.hid hkr
      have Hown3 := Lib.hid hown3
      obtain ⟨ak, ck, rfl, _, _⟩ := hown3.row.len
      clear hown2 hown3 hb2 hkm hkr HK
      go_wp2_with fail
      go_loopg [37, 7] K.length (fun k u37 u7 wr => ∃ (i : Nat) (out : List GLabel), i + k = K.length ∧ u37 = .int .i64 (i : Int) ∧ Hid (OwnAt LabelR 2 wr w.heap.size 30 u7 out) ∧ Hid (out.map (·.key) = K.take i) ∧ Hid (∀ x ∈ out, ValueOK l x.key x.val true) ∧ Hid (OwnAt RString 1 wr w.heap.size 9 (.slice ak K.length ck) K) ∧ Hid (Below w.heap.size w wr))
      case atStart => exact ⟨0, [], by omega, rfl, Lib.hid (OwnAt.nil _), Lib.hid rfl, Lib.hid (by simp), Hown3, Hb2⟩
      case round =>
        obtain ⟨i, out, hik, rfl, Hout, Hkeys, Hval, HownK, Hbq⟩ := hrel
        have hsq := Hbq.out.size
        have hol : out.length ≤ i := by
          have := congrArg List.length Hkeys.out
          rw [List.length_map, List.length_take] at this
          omega
        cases gk with
        | zero =>
          obtain rfl : i = K.length := by omega
          have hkeys := Hkeys.out
          rw [List.take_of_length_le (Nat.le_refl _)] at hkeys
          have hlabs : ∀ x ∈ out, okLab x := fun x hx => by
            obtain ⟨r, hr, _, hrk⟩ := mem_wantK.1 ((Hkm.out x.key).1 (by rw [← hkeys]; exact List.mem_map_of_mem hx))
            exact ⟨by rw [← hrk]; exact (Hok.out r hr).1, by have := val_short ((Hval.out x hx).1 rfl).2; omega⟩
          have hfound := solve_found Hg.out hl (out := out) (by rw [hkeys]; exact Hkr.out) (fun k => by rw [hkeys]; exact Hkm.out k) (by omega) Hval.out
          have Hall := Lib.hid hfound.1
          have Hyes : Hid (SolveOK l out true) := Lib.hid ⟨fun _ => hfound, fun h => by cases h⟩
          have Hlabs := Lib.hid hlabs
          obtain ⟨a7, c7, rfl, _, _⟩ := Hout.out.row.len
          clear hkeys hlabs hfound
          go_wp2_with fail
          refine (allReq_any _ _ l out wr (H.out.below stays_req Hbq.out) (by omega) Hok.out Hout.out.row (by omega)).mono ?_
          rw [Hall.out]
          rintro E w5 ⟨rfl, hb5⟩
          have Hb5 := Lib.hid (Hbq.out.trans (hb5.mono hsq))
          have Hrow5 := Lib.hid (Hout.out.below flat_lab.stays hb5)
          clear hb5
          go_wp2_with fail
          go_ret2
          exact ⟨_, out, true, rfl, Hyes.out, Hrow5.out, Hlabs.out, by omega, Hb5.out⟩
        | succ k =>
          have hil : i < K.length := by omega
          obtain ⟨key, hki⟩ : ∃ key, K[i]? = some key := ⟨K[i]'(by omega), List.getElem?_eq_getElem _⟩
          obtain ⟨b, o, c', hv, _, _, hbs, hcell⟩ := HownK.out.row.strs.form (by omega)
          injection hv with u1 u2 u3
          subst u1
          clear u2 u3
          have e0 : wr.cell? ⟨b, o + i, none⟩ = some (.string key) := hcell i key hki
          have q1 : (0 : Int) ≤ (i : Int) := by omega
          have q2 : (i : Int) < (K.length : Int) := by omega
          have hkw : key ∈ wantK l := (Hkm.out key).1 (List.mem_of_getElem? hki)
          have Hkw := Lib.hid hkw
          have Hki := Lib.hid hki
          clear hcell hki hkw
          go_wp2_with fail
          refine (value_any _ l key wr (H.out.below stays_req Hbq.out) hl Hok.out Hg.out).mono ?_
          rintro E w5 ⟨u, is, rfl, hvok, hb5⟩
          have Hvok := Lib.hid hvok
          have Hb5 := Lib.hid (Hbq.out.trans (hb5.mono hsq))
          have Hout5 := Lib.hid (Hout.out.below flat_lab.stays hb5)
          have HownK5 := Lib.hid (HownK.out.below stays_string hb5)
          have hs5 := hb5.size
          clear hb5 hvok e0
          cases is with
          | false =>
            have Hno := Lib.hid (solve_no Hkw.out Hvok.out [])
            go_wp2_with fail
            go_ret2
            exact ⟨_, [], false, rfl, Hno.out, OwnAt.nil _, by simp, by simp, Hb5.out⟩
          | true =>
            go_wp2_with (at_builtin; refine wpList_append_ownAt (R := LabelR) (k := 2) (e := 30) (B := w.heap.size) (l := out) (m := [⟨key, u⟩]) _ (by rfl) _ _ _ (by rfl) j0 _ 32 Tryz.underlying23 hj0 hy0 hy1 hy2 rfl (by omega) flat_lab one_lab _ (by rfl) (Hout5.out.alloc flat_lab.stays _) (.slice (some ⟨w5.heap.size, 0, none⟩) 1 1) (by rfl) (RowAt.one (R := LabelR) (k := 2) (cs := #[.string key, .string u]) (heap_alloc_new w5 _) rfl rfl) (by unfold maxLen; simp; omega) (by simp; omega) (by simp; omega) ?_)
            intro v' w6 hv' hg6 hr6 _
            have Hb6 : Hid (Below w.heap.size w w6) := Lib.hid (below_of_grown (Hb5.out.alloc (by omega) _) (by simp; omega) hg6 hr6)
            have HK6 : Hid (OwnAt RString 1 w6 w.heap.size 9 (.slice (some ⟨b, o, none⟩) K.length ck) K) := Lib.hid ((HownK5.out.alloc stays_string _).grown flat_string hg6 fun q hq => (HownK5.out.other Hout5.out (by decide) hq).symm)
            have Hv6 := Lib.hid hv'
            have Hkeys2 : Hid ((out ++ [(⟨key, u⟩ : GLabel)]).map (fun x : GLabel => x.key) = K.take (i + 1)) := Lib.hid (by rw [List.map_append, Hkeys.out, List.take_add_one, Hki.out]; rfl)
            have Hval2 : Hid (∀ x ∈ out ++ [(⟨key, u⟩ : GLabel)], ValueOK l x.key x.val true) := Lib.hid fun x hx => by
              rcases List.mem_append.1 hx with h | h
              · exact Hval.out x h
              · rw [List.mem_singleton.1 h]; exact Hvok.out
            clear hv' hg6 hr6
            go_wp2_with fail
            go_roundg k
            case measure => omega
            case rel => exact ⟨i + 1, out ++ [⟨key, u⟩], by omega, by go_num, Hv6, Hkeys2, Hval2, HK6, Hb6⟩
    | succ k =>
      have hil : i < l.length := by omega
      obtain ⟨x, hxi⟩ : ∃ x, l[i]? = some x := ⟨l[i]'(by omega), List.getElem?_eq_getElem _⟩
      obtain ⟨b, o, c', hv, _, _, hbs, hcell⟩ := H.out.form (by omega) (by omega)
      injection hv with u1 u2 u3
      subst u1
      clear u2 u3
      obtain ⟨ds, _, hcc, hR⟩ := hcell i x hxi
      obtain ⟨y2, rfl, _, hst⟩ := hR
      obtain ⟨ao, co, rfl, _, _⟩ := hst.row.len
      have e0 : wr.cell? ⟨b, o + i * 3, none⟩ = some (.string x.key) := (Hbel.out.cell (p := ⟨b, _, none⟩) hbs).trans (by simpa using hcc 0 _ rfl)
      have e1 : wr.cell? ⟨b, o + i * 3 + 1, none⟩ = some (.int .i64 x.kind) := (Hbel.out.cell (p := ⟨b, _, none⟩) hbs).trans (hcc 1 _ rfl)
      have e2 : wr.cell? ⟨b, o + i * 3 + 2, none⟩ = some (.slice ao x.vals.length co) := (Hbel.out.cell (p := ⟨b, _, none⟩) hbs).trans (hcc 2 _ rfl)
      have q1 : (0 : Int) ≤ (i : Int) := by omega
      have q2 : (i : Int) < (l.length : Int) := by omega
      have htk : wantK (l.take (i + 1)) = wantK (l.take i) ++ if x.kind = 1 ∨ x.kind = 3 then [x.key] else [] := by
        rw [List.take_add_one, hxi]
        exact wantK_snoc _ _
      have hwl : (wantK (l.take i)).length ≤ 9 := Nat.le_trans (wantK_len _) (by rw [List.length_take]; omega)
      obtain ⟨kd, Hkd⟩ : ∃ kd, Hid (x.kind = kd) := ⟨_, Lib.hid rfl⟩
      rw [Hkd.out] at e1 htk
      clear hcc hcell hxi hst
      go_upto_region 5 with fail
      obtain ⟨W, hW⟩ : ∃ W, W = wr.alloc (.cells #[.string x.key, .int .i64 kd, .slice ao x.vals.length co] 26) := ⟨_, rfl⟩
      obtain ⟨gb, hgb⟩ : ∃ gb, gb = wr.heap.size := ⟨_, rfl⟩
      rw [← hW, ← hgb]
      have c1 : W.heap[gb]? = some (.cells #[.string x.key, .int .i64 kd, .slice ao x.vals.length co] 26 (0, 0)) := by rw [hW, hgb]; exact heap_alloc_new wr _
      have hb5 : Below wr.heap.size wr W := by rw [hW]; exact (Below.refl _ _).alloc (Nat.le_refl _) _
      have HW := Lib.hid (Hbel.out.trans (hb5.mono hsr))
      have HownW := Lib.hid (Hown.out.below stays_string hb5)
      have hWs := hb5.size
      have cc := fun i => cell_block c1 i
      clear hW hgb hb5 c1 e0 e1 e2
      by_cases k1 : kd = 1
      · subst k1
        have Htk : Hid (wantK (l.take (i + 1)) = wantK (l.take i) ++ [x.key]) := Lib.hid (by rw [htk]; rfl)
        clear htk
        go_wp2_with (at_builtin; refine wpList_append_ownAt (R := RString) (k := 1) (e := 9) (B := w.heap.size) (l := wantK (l.take i)) (m := [x.key]) _ (by rfl) _ _ _ (by rfl) i0 _ 16 Tryz.underlying24 hi0 hz0 hz1 hz2 rfl (by omega) flat_string one_string _ (by rfl) (HownW.out.alloc stays_string _) (.slice (some ⟨W.heap.size, 0, none⟩) 1 1) (by rfl) (RowAt.one (R := RString) (k := 1) (cs := #[.string x.key]) (heap_alloc_new W _) rfl rfl) (by unfold maxLen; simp; omega) (by simp; omega) (by simp; omega) ?_)
        intro v' w' hv' hg hr _
        have hb : Below w.heap.size w w' := below_of_grown (HW.out.alloc (by omega) _) (by simp; omega) hg hr
        have Hv' := Lib.hid hv'
        have Hb := Lib.hid hb
        rw [← Htk.out] at Hv'
        clear hv' hg hr hb cc
        go_wp2_with fail
        go_roundg k
        case measure => omega
        case rel => exact ⟨i + 1, by omega, by go_num, Hv', Hb⟩
      · have q3 : (kd == 1) = false := by rw [beq_eq_false_iff_ne]; exact k1
        by_cases k3 : kd = 3
        · subst k3
          have Htk : Hid (wantK (l.take (i + 1)) = wantK (l.take i) ++ [x.key]) := Lib.hid (by rw [htk]; rfl)
          clear htk k1
          go_wp2_with (at_builtin; refine wpList_append_ownAt (R := RString) (k := 1) (e := 9) (B := w.heap.size) (l := wantK (l.take i)) (m := [x.key]) _ (by rfl) _ _ _ (by rfl) i0 _ 16 Tryz.underlying24 hi0 hz0 hz1 hz2 rfl (by omega) flat_string one_string _ (by rfl) (HownW.out.alloc stays_string _) (.slice (some ⟨W.heap.size, 0, none⟩) 1 1) (by rfl) (RowAt.one (R := RString) (k := 1) (cs := #[.string x.key]) (heap_alloc_new W _) rfl rfl) (by unfold maxLen; simp; omega) (by simp; omega) (by simp; omega) ?_)
          intro v' w' hv' hg hr _
          have hb : Below w.heap.size w w' := below_of_grown (HW.out.alloc (by omega) _) (by simp; omega) hg hr
          have Hv' := Lib.hid hv'
          have Hb := Lib.hid hb
          rw [← Htk.out] at Hv'
          clear hv' hg hr hb cc
          go_wp2_with fail
          go_roundg k
          case measure => omega
          case rel => exact ⟨i + 1, by omega, by go_num, Hv', Hb⟩
        · have q4 : (kd == 3) = false := by rw [beq_eq_false_iff_ne]; exact k3
          have hown := HownW.out
          rw [show wantK (l.take i) = wantK (l.take (i + 1)) by rw [htk, if_neg (by omega), List.append_nil]] at hown
          have Hown' := Lib.hid hown
          clear htk k1 k3 hown
          go_wp2_with fail
          go_roundg k
          case measure => omega
          case rel => exact ⟨i + 1, by omega, by go_num, Hown', HW⟩
end Go.Proofs.YtlbolbkikkiifaaGreatDoor
/- query.Implies: what it tells: the plain laws. -/
namespace Go.Proofs.YtlbolbkikkiifaaGreatDoor
open Go.RowKit

/-- does the one imply the other? -/
def ImplyOK (a b : List GReq) (out : List GLabel) (is : Bool) : Prop :=
  (is = true → ∀ r ∈ b, ∀ labels, (a ++ [oppR r]).all (holdsB labels) = false) ∧ (is = false → ∃ r ∈ b, (a ++ [oppR r]).all (holdsB out) = true ∧ labelsE out = 0)
def implyE (a b : List GReq) : Int := if reqsE a = 0 then reqsE b else reqsE a
theorem implyE_zero {a b : List GReq} : implyE a b = 0 ↔ reqsE a = 0 ∧ reqsE b = 0 := by
  unfold implyE
  split
  · rename_i h; simp [h]
  · rename_i h; simp [h]
theorem goods_of {l : List GReq} (h : reqsE l = 0) : (∀ r ∈ l, GoodR r) ∧ l.length ≤ 8 := by
  unfold reqsE at h
  by_cases h8 : 8 < l.length
  · rw [if_pos h8] at h; cases h
  · rw [if_neg h8, errF_zero] at h
    exact ⟨fun r hr => good_of (h r hr), by omega⟩
theorem imply_yes {a b : List GReq} {out labels : List GLabel} (hb : ∀ r ∈ b, GoodR r) (h : ImplyOK a b out true) (ha : a.all (holdsB labels) = true) : b.all (holdsB labels) = true := by
  rw [List.all_eq_true]
  intro r hr
  have h1 := h.1 rfl r hr labels
  rw [List.all_append, ha, Bool.true_and, List.all_cons, List.all_nil, Bool.and_true, holds_opp labels (hb r hr).kind] at h1
  simpa using h1
theorem imply_no {a b : List GReq} {out : List GLabel} (hb : ∀ r ∈ b, GoodR r) (h : ImplyOK a b out false) : a.all (holdsB out) = true ∧ b.all (holdsB out) = false ∧ labelsE out = 0 := by
  obtain ⟨r, hr, h1, h2⟩ := h.2 rfl
  rw [List.all_append, Bool.and_eq_true, List.all_cons, List.all_nil, Bool.and_true, holds_opp out (hb r hr).kind] at h1
  refine ⟨h1.1, ?_, h2⟩
  rw [List.all_eq_false]
  exact ⟨r, hr, by simpa using h1.2⟩
theorem imply_self {a : List GReq} {out : List GLabel} {is : Bool} (ha : ∀ r ∈ a, GoodR r) (h : ImplyOK a a out is) : is = true := by
  cases is with
  | true => rfl
  | false =>
    obtain ⟨h1, h2, _⟩ := imply_no ha h
    rw [h1] at h2
    cases h2
theorem imply_more {a b : List GReq} {out : List GLabel} {is : Bool} (ha : ∀ r ∈ a, GoodR r) (h : ImplyOK (a ++ b) a out is) : is = true := by
  cases is with
  | true => rfl
  | false =>
    obtain ⟨h1, h2, _⟩ := imply_no ha h
    rw [List.all_append, Bool.and_eq_true] at h1
    rw [h1.1] at h2
    cases h2
theorem imply_on {a b c : List GReq} {o1 o2 o3 : List GLabel} {is : Bool} (hb : ∀ r ∈ b, GoodR r) (hc : ∀ r ∈ c, GoodR r) (h1 : ImplyOK a b o1 true) (h2 : ImplyOK b c o2 true) (h3 : ImplyOK a c o3 is) : is = true := by
  cases is with
  | true => rfl
  | false =>
    obtain ⟨h4, h5, _⟩ := imply_no hc h3
    rw [imply_yes hc h2 (imply_yes hb h1 h4)] at h5
    cases h5
end Go.Proofs.YtlbolbkikkiifaaGreatDoor
/- query.Solve: its contract; QuerySound: the law's walk. -/
namespace Go.Proofs.YtlbolbkikkiifaaGreatDoor
open Go.RowKit

def SolveFAt (l : List GReq) (w : World) (E : Ending) (w' : World) : Prop :=
  ∃ (v' : Value) (out : List GLabel) (is : Bool), E = .returned (.tuple #[v', .bool is, .int .i64 (reqsE l)]) ∧ (reqsE l = 0 → SolveOK l out is) ∧ (reqsE l ≠ 0 → is = false) ∧ (is = false → out = []) ∧ RowAt LabelR 2 w' v' out ∧ (∀ x ∈ out, okLab x) ∧ out.length ≤ 9 ∧ Below w.heap.size w w'
set_option maxRecDepth 100000 in
set_option maxHeartbeats 1600000 in
theorem solveF_any (v : Value) (l : List GReq) (m : Int) (w : World) (h : RowAt ReqR 3 w v l) (hl : l.length ≤ 1048576) (hok : ∀ r ∈ l, okReq r) (hm : MaxOK m w) :
    Calls Tryz.prog 10 #[v] w (SolveFAt l w) := by
  obtain ⟨a0, c0, rfl, _, _⟩ := h.len
  obtain ⟨e, He⟩ : ∃ e, Hid (reqsE l = e) := ⟨_, Lib.hid rfl⟩
  have H := Lib.hid h
  have Hok := Lib.hid hok
  have Hm := Lib.hid hm
  clear h hok hm
  go_enter Tryz.func10, Tryz.ntmps10
  go_wp2_with fail
  refine (checks_any _ l m w H.out hl Hok.out Hm.out).mono ?_
  rintro E w1 ⟨rfl, hb1⟩
  have Hb1 := Lib.hid hb1
  rw [He.out]
  clear hb1
  by_cases h0 : e = 0
  · subst h0
    obtain ⟨hg, hl8⟩ := goods_of He.out
    go_wp2_with fail
    refine (solve_any _ l w1 (H.out.below stays_req Hb1.out) (by omega) Hok.out hg).mono ?_
    rintro E w2 ⟨v', out, is, rfl, hs, hr, ho, hlen, hb2⟩
    have Hs := Lib.hid hs
    have Hr := Lib.hid hr
    have Ho := Lib.hid ho
    have Hb2 := Lib.hid (Hb1.out.trans (hb2.mono Hb1.out.size))
    clear hs hr ho hb2 hg
    cases is with
    | false =>
      go_wp2_with fail
      go_ret3
      exact ⟨_, [], false, by rw [He.out]; rfl, fun _ => ⟨fun h => (by cases h), Hs.out.2⟩, fun _ => rfl, fun _ => rfl, RowAt.nil _, by simp, by simp, Hb2.out⟩
    | true =>
      go_wp2_with fail
      go_ret3
      exact ⟨_, out, true, by rw [He.out]; rfl, fun _ => Hs.out, fun h => absurd He.out h, fun h => (by cases h), Hr.out.row, Ho.out, hlen, Hb2.out⟩
  · have q1 : (e == 0) = false := by rw [beq_eq_false_iff_ne]; exact h0
    have q2 : (e != 0) = true := by rw [bne_iff_ne]; exact h0
    have H0 := Lib.hid h0
    clear h0
    go_wp2_with fail
    go_ret3
    exact ⟨_, [], false, by rw [He.out]; rfl, fun h => absurd (He.out.symm.trans h) H0.out, fun _ => rfl, fun _ => rfl, RowAt.nil _, by simp, by simp, Hb1.out⟩
end Go.Proofs.YtlbolbkikkiifaaGreatDoor
/- query: what is printed is parsed as it was; blanks ahead and behind: plain laws. -/
namespace Go.Proofs.YtlbolbkikkiifaaGreatDoor
open Go.RowKit
namespace QP
theorem join_one (x : List UInt8) (sep : List UInt8) : Lib.join [x] sep = x := by simp [Lib.join, List.intercalate]
theorem join_more (x y : List UInt8) (r : List (List UInt8)) (sep : List UInt8) : Lib.join (x :: y :: r) sep = x ++ (sep ++ Lib.join (y :: r) sep) := by simp [Lib.join, List.intercalate]
theorem mk_toList (s : ByteArray) : (⟨s.data.toList.toArray⟩ : ByteArray) = s := by cases s; simp
theorem wordS_of {r : List UInt8} {s : ByteArray} (h : wordW r = s.data.toList) : wordS r = s := by unfold wordS; rw [h, mk_toList]
/-- what may stand behind a word -/
def Ends (r : List UInt8) : Prop := r = [] ∨ ∃ c t, r = c :: t ∧ wordB c = false
theorem ends_cons {c : UInt8} (t : List UInt8) (h : wordB c = false) : Ends (c :: t) := .inr ⟨c, t, rfl, h⟩
theorem word_is {s : ByteArray} {rest : List UInt8} (hw : ∀ c ∈ s.data.toList, wordB c = true) (hr : Ends rest) (h0 : skipB rest = rest) :
    wordS (s.data.toList ++ rest) = s ∧ wordE (s.data.toList ++ rest) = rest := by
  have h := word_at hw hr (.inr h0)
  refine ⟨wordS_of h.1, ?_⟩
  unfold wordE
  rw [h.2, h0]
theorem vals_back : ∀ (vals : List ByteArray) (n : Nat) (out : List ByteArray) (rest : List UInt8), (∀ v ∈ vals, ∀ c ∈ v.data.toList, wordB c = true) → vals ≠ [] → vals.length ≤ n →
    listF n (valsT vals ++ 41 :: rest) out = some (out ++ vals, skipB rest)
  | [], _, _, _, _, h, _ => absurd rfl h
  | [v], 0, _, _, _, _, hn => by simp at hn
  | [v], n + 1, out, rest, hv, _, _ => by
    have h1 := word_is (hv v (List.mem_cons_self ..)) (ends_cons rest (c := 41) (by decide)) (skip_at (by decide))
    have h2 : valsT [v] = v.data.toList := join_one _ _
    rw [h2]
    unfold listF
    rw [h1.1, h1.2]
    rfl
  | v :: x :: r, 0, _, _, _, _, hn => by simp at hn
  | v :: x :: r, n + 1, out, rest, hv, _, hn => by
    have h2 : valsT (v :: x :: r) ++ 41 :: rest = v.data.toList ++ 44 :: (valsT (x :: r) ++ 41 :: rest) := by
      show Lib.join (v.data.toList :: x.data.toList :: r.map (·.data.toList)) [44] ++ 41 :: rest = _
      rw [join_more]
      simp [valsT]
    have h1 := word_is (hv v (List.mem_cons_self ..)) (ends_cons (valsT (x :: r) ++ 41 :: rest) (c := 44) (by decide)) (skip_at (by decide))
    rw [h2]
    unfold listF
    rw [h1.1, h1.2]
    show listF n (valsT (x :: r) ++ 41 :: rest) (out ++ [v]) = _
    rw [vals_back (x :: r) n (out ++ [v]) rest (fun y hy => hv y (List.mem_cons_of_mem _ hy)) (by simp) (by simp at hn ⊢; omega)]
    simp
/-- what stands behind a part -/
def Rest (r : List UInt8) : Prop := r = [] ∨ ∃ t, r = 44 :: t
theorem Rest.ends {r : List UInt8} (h : Rest r) : Ends r := by
  rcases h with rfl | ⟨t, rfl⟩
  · exact .inl rfl
  · exact ends_cons t (by decide)
theorem Rest.skip {r : List UInt8} (h : Rest r) : skipB r = r := by
  rcases h with rfl | ⟨t, rfl⟩
  · rfl
  · exact skip_at (by decide)
theorem Rest.over {r : List UInt8} (h : Rest r) : r = [] ∨ headIs 44 r = true := by
  rcases h with rfl | ⟨t, rfl⟩
  · exact .inl rfl
  · exact .inr rfl
theorem key_head {s : ByteArray} (h : keyE s = 0) (t : List UInt8) : ∃ c r, s.data.toList ++ t = c :: r ∧ wordB c = true := by
  obtain ⟨hn, hw⟩ := key_bytes h
  cases hs : s.data.toList with
  | nil => exact absurd hs hn
  | cons c r => exact ⟨c, r ++ t, rfl, hw c (by rw [hs]; exact List.mem_cons_self ..)⟩
theorem reqE_parts {q : GReq} (h : reqE q = 0) : keyE q.key = 0 ∧ 1 ≤ q.kind ∧ q.kind ≤ 4 ∧ listsK q.kind = decide (0 < q.vals.length) ∧ q.vals.length ≤ 8 ∧ ∀ v ∈ q.vals, valE v = 0 := by
  unfold reqE at h
  by_cases h1 : keyE q.key = 0
  · rw [if_neg (by simpa using h1)] at h
    cases h2 : argR q with
    | true => rw [h2, if_pos rfl] at h; cases h
    | false =>
      rw [h2, if_neg (by simp)] at h
      by_cases h3 : 8 < q.vals.length
      · rw [if_pos h3] at h; cases h
      · rw [if_neg h3] at h
        unfold argR at h2
        simp only [Bool.or_eq_false_iff, decide_eq_false_iff_not, bne_eq_false_iff_eq] at h2
        exact ⟨h1, by omega, by omega, h2.2.2, by omega, errF_zero.1 h⟩
  · rw [if_pos h1] at h; exact absurd h h1
theorem part_key {s : ByteArray} (h : keyE s = 0) (t : List UInt8) : partP (s.data.toList ++ t) = keyP (s.data.toList ++ t) := by
  obtain ⟨c, r, he, hc⟩ := key_head h t
  unfold partP
  rw [he, skip_at (wordB_ne hc (by decide))]
  rw [if_neg]
  unfold headIs
  simpa using wordB_ne hc (by decide)
theorem headIs_cons (c x : UInt8) (r : List UInt8) : headIs c (x :: r) = (x == c) := rfl
theorem headIs_word {s : ByteArray} {t : List UInt8} (hw : ∀ c ∈ s.data.toList, wordB c = true) (ht : Rest t) : headIs 61 (s.data.toList ++ t) = false := by
  cases hs : s.data.toList with
  | nil =>
    rcases ht with rfl | ⟨u, rfl⟩
    · rfl
    · rfl
  | cons c r =>
    show (c == 61) = false
    rw [beq_eq_false_iff_ne]
    exact wordB_ne (hw c (by rw [hs]; exact List.mem_cons_self ..)) (by decide)
theorem vals_one {l : List ByteArray} (h : l.length = 1) : ∃ v, l = [v] := by
  cases l with
  | nil => cases h
  | cons v r =>
    cases r with
    | nil => exact ⟨v, rfl⟩
    | cons _ _ => simp at h
theorem choice_back {key : ByteArray} {k : Int} {w : List UInt8} {vals : List ByteArray} {rest : List UInt8} (hw : ∀ c ∈ w, wordB c = true) (h1 : w ≠ []) (hk : kindP w = k) (hk0 : k ≠ 0) (hv : ∀ v ∈ vals, ∀ c ∈ v.data.toList, wordB c = true)
    (hn : vals ≠ []) (hl : vals.length ≤ 8) (hr : Rest rest) : choiceP key (w ++ (32 :: 40 :: (valsT vals ++ 41 :: rest))) = some (⟨key, k, vals⟩, rest) := by
  have h := word_at hw (ends_cons (c := 32) (40 :: (valsT vals ++ 41 :: rest)) (by decide)) (.inl h1)
  have h2 : wordE (w ++ (32 :: 40 :: (valsT vals ++ 41 :: rest))) = 40 :: (valsT vals ++ 41 :: rest) := by
    unfold wordE
    rw [h.2, skip_blank, skip_at (by decide)]
  have h3 : listP (40 :: (valsT vals ++ 41 :: rest)) = some (vals, rest) := by
    unfold listP
    rw [skip_at (by decide)]
    show listF 400 (valsT vals ++ 41 :: rest) [] = _
    rw [vals_back vals 400 [] rest hv hn (by omega), hr.skip]
    rfl
  unfold choiceP
  rw [h.1, h.2, h2, hk, if_neg hk0, if_neg (fun hc => by cases hc.1), h3]
theorem hd_pos (c : UInt8) (r : List UInt8) : headIs c (c :: r) = true := by simp [headIs]
theorem part_back {q : GReq} {rest : List UInt8} (h : reqE q = 0) (hr : Rest rest) : partP (textT q ++ rest) = some (q, rest) := by
  obtain ⟨hk, k1, k4, hls, hl, hv⟩ := reqE_parts h
  have hkw := key_bytes hk
  have hvw : ∀ v ∈ q.vals, ∀ c ∈ v.data.toList, wordB c = true := fun v hm => val_bytes (hv v hm)
  unfold textT
  by_cases e3 : q.kind = 3
  · rw [if_pos e3, part_key hk]
    obtain ⟨a, b⟩ := word_is hkw.2 hr.ends hr.skip
    unfold keyP
    rw [a, b, if_pos hr.over]
    have : q.vals = [] := by
      rw [e3] at hls
      cases hq : q.vals with
      | nil => rfl
      | cons x r => rw [hq] at hls; exact absurd hls (by simp [listsK])
    rw [← e3, ← this]
  rw [if_neg e3]
  by_cases e4 : q.kind = 4
  · rw [if_pos e4]
    obtain ⟨a, b⟩ := word_is hkw.2 hr.ends hr.skip
    unfold partP
    rw [List.cons_append, skip_at (by decide), if_pos (show headIs 33 (33 :: (q.key.data.toList ++ rest)) = true from rfl), List.tail_cons, a, b]
    have : q.vals = [] := by
      rw [e4] at hls
      cases hq : q.vals with
      | nil => rfl
      | cons x r => rw [hq] at hls; exact absurd hls (by simp [listsK])
    rw [← e4, ← this]
  rw [if_neg e4]
  have hn : q.vals ≠ [] := by
    intro h0
    rw [h0] at hls
    have : q.kind = 1 ∨ q.kind = 2 := by omega
    rcases this with e | e <;> (rw [e] at hls; exact absurd hls (by decide))
  by_cases e1 : q.kind = 1
  · rw [if_pos e1]
    by_cases c1 : q.vals.length = 1
    · obtain ⟨v, hv1⟩ := vals_one c1
      rw [if_pos c1, hv1, show valsT [v] = v.data.toList from join_one _ _, List.append_assoc, part_key hk]
      obtain ⟨a, b⟩ := word_is hkw.2 (ends_cons (c := 61) (v.data.toList ++ rest) (by decide)) (skip_at (by decide))
      have hvv := hvw v (by rw [hv1]; exact List.mem_cons_self ..)
      obtain ⟨a2, b2⟩ := word_is hvv hr.ends hr.skip
      unfold keyP
      rw [List.cons_append, a, b, if_neg (by simp [headIs_cons]), List.tail_cons, if_neg (by rw [headIs_word hvv hr]; simp), if_pos (hd_pos _ _), a2, b2]
      rw [← e1, ← hv1]
    · rw [if_neg c1, List.append_assoc, List.append_assoc, part_key hk]
      obtain ⟨a, b⟩ := word_at hkw.2 (ends_cons (c := 32) (105 :: 110 :: 32 :: 40 :: (valsT q.vals ++ 41 :: rest)) (by decide)) (.inl hkw.1)
      have hE : wordE (q.key.data.toList ++ 32 :: 105 :: 110 :: 32 :: 40 :: (valsT q.vals ++ 41 :: rest)) = 105 :: 110 :: 32 :: 40 :: (valsT q.vals ++ 41 :: rest) := by
        unfold wordE
        rw [b, skip_blank, skip_at (by decide)]
      have hsh : q.key.data.toList ++ ([32, 105, 110, 32, 40] ++ (valsT q.vals ++ [41] ++ rest)) = q.key.data.toList ++ 32 :: 105 :: 110 :: 32 :: 40 :: (valsT q.vals ++ 41 :: rest) := by simp
      rw [hsh]
      unfold keyP
      rw [wordS_of a, hE, b, if_neg (by simp [headIs_cons]), if_neg (by simp [headIs_cons]), if_neg (by simp [headIs_cons]), if_neg (by simp [headIs_cons]), if_pos (hd_pos _ _)]
      rw [show (105 :: 110 :: 32 :: 40 :: (valsT q.vals ++ 41 :: rest) : List UInt8) = [105, 110] ++ 32 :: 40 :: (valsT q.vals ++ 41 :: rest) from rfl,
        choice_back (k := 1) (by decide) (by simp) (by decide) (by decide) hvw hn hl hr, ← e1]
  · rw [if_neg e1]
    have e2 : q.kind = 2 := by omega
    by_cases c1 : q.vals.length = 1
    · obtain ⟨v, hv1⟩ := vals_one c1
      rw [if_pos c1, hv1, show valsT [v] = v.data.toList from join_one _ _, List.append_assoc, part_key hk]
      obtain ⟨a, b⟩ := word_is hkw.2 (ends_cons (c := 33) (61 :: (v.data.toList ++ rest)) (by decide)) (skip_at (by decide))
      have hvv := hvw v (by rw [hv1]; exact List.mem_cons_self ..)
      obtain ⟨a2, b2⟩ := word_is hvv hr.ends hr.skip
      unfold keyP
      rw [List.cons_append, List.cons_append, a, b, if_neg (by simp [headIs_cons]), if_neg (by simp [headIs_cons]), if_neg (by simp [headIs_cons]), if_pos ⟨hd_pos _ _, hd_pos _ _⟩, List.tail_cons, List.tail_cons, a2, b2]
      rw [← e2, ← hv1]
    · rw [if_neg c1, List.append_assoc, List.append_assoc, part_key hk]
      obtain ⟨a, b⟩ := word_at hkw.2 (ends_cons (c := 32) (110 :: 111 :: 116 :: 105 :: 110 :: 32 :: 40 :: (valsT q.vals ++ 41 :: rest)) (by decide)) (.inl hkw.1)
      have hE : wordE (q.key.data.toList ++ 32 :: 110 :: 111 :: 116 :: 105 :: 110 :: 32 :: 40 :: (valsT q.vals ++ 41 :: rest)) = 110 :: 111 :: 116 :: 105 :: 110 :: 32 :: 40 :: (valsT q.vals ++ 41 :: rest) := by
        unfold wordE
        rw [b, skip_blank, skip_at (by decide)]
      have hsh : q.key.data.toList ++ ([32, 110, 111, 116, 105, 110, 32, 40] ++ (valsT q.vals ++ [41] ++ rest)) = q.key.data.toList ++ 32 :: 110 :: 111 :: 116 :: 105 :: 110 :: 32 :: 40 :: (valsT q.vals ++ 41 :: rest) := by simp
      rw [hsh]
      unfold keyP
      rw [wordS_of a, hE, b, if_neg (by simp [headIs_cons]), if_neg (by simp [headIs_cons]), if_neg (by simp [headIs_cons]), if_neg (by simp [headIs_cons]), if_pos (hd_pos _ _)]
      rw [show (110 :: 111 :: 116 :: 105 :: 110 :: 32 :: 40 :: (valsT q.vals ++ 41 :: rest) : List UInt8) = [110, 111, 116, 105, 110] ++ 32 :: 40 :: (valsT q.vals ++ 41 :: rest) from rfl,
        choice_back (k := 2) (by decide) (by simp) (by decide) (by decide) hvw hn hl hr, ← e2]
theorem parse_back : ∀ (l : List GReq) (n : Nat) (out : List GReq), (∀ q ∈ l, reqE q = 0) → l ≠ [] → l.length ≤ n → parseF n (joinT l) out = some (out ++ l)
  | [], _, _, _, h, _ => absurd rfl h
  | [q], 0, _, _, _, hn => by simp at hn
  | [q], n + 1, out, hq, _, _ => by
    have h1 := part_back (hq q (List.mem_cons_self ..)) (.inl rfl : Rest [])
    rw [List.append_nil] at h1
    rw [show joinT [q] = textT q from join_one _ _]
    unfold parseF
    rw [h1]
    rfl
  | q :: x :: r, 0, _, _, _, hn => by simp at hn
  | q :: x :: r, n + 1, out, hq, _, hn => by
    have h2 : joinT (q :: x :: r) = textT q ++ 44 :: joinT (x :: r) := by
      show Lib.join (textT q :: textT x :: r.map textT) [44] = _
      rw [join_more]
      simp [joinT]
    have h1 := part_back (hq q (List.mem_cons_self ..)) (.inr ⟨joinT (x :: r), rfl⟩ : Rest (44 :: joinT (x :: r)))
    rw [h2]
    unfold parseF
    rw [h1]
    show (if (44 :: joinT (x :: r) : List UInt8) = [] then _ else if headIs 44 (44 :: joinT (x :: r)) = true then _ else _) = _
    rw [if_neg (by simp), if_pos (hd_pos _ _), List.tail_cons, parse_back (x :: r) n (out ++ [q]) (fun y hy => hq y (List.mem_cons_of_mem _ hy)) (by simp) (by simp at hn ⊢; omega)]
    simp
theorem text_head {q : GReq} (h : reqE q = 0) (t : List UInt8) : ∃ c r, textT q ++ t = c :: r ∧ c ≠ 32 := by
  have hk := (reqE_parts h).1
  have hh : ∀ u : List UInt8, ∃ c r, q.key.data.toList ++ u = c :: r ∧ c ≠ 32 := fun u => by
    obtain ⟨c, r, he, hc⟩ := key_head hk u
    exact ⟨c, r, he, wordB_ne hc (by decide)⟩
  unfold textT
  split
  · exact hh _
  · split
    · exact ⟨33, _, rfl, by decide⟩
    · split
      · split
        · rw [List.append_assoc]; exact hh _
        · rw [List.append_assoc, List.append_assoc]; exact hh _
      · split
        · rw [List.append_assoc]; exact hh _
        · rw [List.append_assoc, List.append_assoc]; exact hh _
theorem reqsE_all {l : List GReq} (h : reqsE l = 0) : l.length ≤ 8 ∧ ∀ q ∈ l, reqE q = 0 := by
  unfold reqsE at h
  by_cases h1 : 8 < l.length
  · rw [if_pos h1] at h; cases h
  · rw [if_neg h1] at h
    exact ⟨by omega, errF_zero.1 h⟩
/-- what is printed is parsed as it was -/
theorem back {l : List GReq} (h : reqsE l = 0) (hl : (joinT l).length ≤ 300) : parseL (joinT l) = (l, 0) := by
  obtain ⟨h8, hq⟩ := reqsE_all h
  unfold parseL
  rw [if_neg (by omega)]
  cases l with
  | nil => rfl
  | cons q r =>
    have hs : skipB (joinT (q :: r)) = joinT (q :: r) ∧ joinT (q :: r) ≠ [] := by
      have : ∃ t, joinT (q :: r) = textT q ++ t := by
        cases r with
        | nil => exact ⟨[], by rw [List.append_nil]; exact join_one _ _⟩
        | cons x r => exact ⟨_, join_more _ _ _ _⟩
      obtain ⟨t, ht⟩ := this
      obtain ⟨c, u, he, hc⟩ := text_head (hq q (List.mem_cons_self ..)) t
      rw [ht, he]
      exact ⟨skip_at hc, by simp⟩
    rw [hs.1, if_neg hs.2, parse_back _ 400 [] hq (by simp) (by omega)]
    show (if reqsE ([] ++ q :: r) = 0 then _ else _) = _
    rw [List.nil_append, if_pos h]

/-- a blank behind: it goes with the blanks behind the last word -/
def ext (r : List UInt8) : List UInt8 := if r = [] then [] else r ++ [32]
theorem ext_nil : ext [] = [] := rfl
theorem ext_cons (c : UInt8) (r : List UInt8) : ext (c :: r) = c :: (r ++ [32]) := by unfold ext; rw [if_neg (by simp)]; rfl
theorem ext_eq_nil {r : List UInt8} : ext r = [] ↔ r = [] := by
  cases r with
  | nil => exact ⟨fun _ => rfl, fun _ => rfl⟩
  | cons c r => rw [ext_cons]; simp
theorem headIs_ext (c : UInt8) (r : List UInt8) : headIs c (ext r) = headIs c r := by
  cases r with
  | nil => rfl
  | cons x r => rw [ext_cons]; rfl
theorem skip_ext : ∀ r : List UInt8, skipB (r ++ [32]) = ext (skipB r)
  | [] => by decide
  | c :: r => by
    by_cases h : c = 32
    · rw [h, List.cons_append, skip_blank, skip_blank, skip_ext r]
    · rw [List.cons_append, skip_at h, skip_at h, ext_cons]
theorem take_ext : ∀ r : List UInt8, (r ++ [32]).takeWhile wordB = r.takeWhile wordB
  | [] => by decide
  | c :: r => by
    cases h : wordB c with
    | true => rw [List.cons_append, List.takeWhile_cons_of_pos h, List.takeWhile_cons_of_pos h, take_ext r]
    | false => rw [List.cons_append, List.takeWhile_cons_of_neg (by simp [h]), List.takeWhile_cons_of_neg (by simp [h])]
theorem drop_ext : ∀ r : List UInt8, (r ++ [32]).dropWhile wordB = r.dropWhile wordB ++ [32]
  | [] => by decide
  | c :: r => by
    cases h : wordB c with
    | true => rw [List.cons_append, List.dropWhile_cons_of_pos h, List.dropWhile_cons_of_pos h, drop_ext r]
    | false => rw [List.cons_append, List.dropWhile_cons_of_neg (by simp [h]), List.dropWhile_cons_of_neg (by simp [h])]; rfl
theorem wordW_ext (r : List UInt8) : wordW (r ++ [32]) = wordW r := by
  unfold wordW
  rw [skip_ext]
  unfold ext
  split
  · rename_i h; rw [h]
  · exact take_ext _
theorem wordE_ext (r : List UInt8) : wordE (r ++ [32]) = ext (wordE r) := by
  unfold wordE wordR
  rw [skip_ext]
  unfold ext
  split
  · rename_i h; rw [h]; rfl
  · rw [drop_ext, skip_ext]; rfl
theorem wordS_ext (r : List UInt8) : wordS (r ++ [32]) = wordS r := by unfold wordS; rw [wordW_ext]
theorem wordR_ext {r : List UInt8} (h : wordE r ≠ []) : headIs 32 (wordR (r ++ [32])) = headIs 32 (wordR r) := by
  unfold wordE at h
  have h1 : wordR r ≠ [] := fun h0 => h (by rw [h0]; rfl)
  have h2 : skipB r ≠ [] := fun h0 => h1 (by unfold wordR; rw [h0]; rfl)
  have h3 : wordR (r ++ [32]) = wordR r ++ [32] := by
    unfold wordR
    rw [skip_ext]
    unfold ext
    rw [if_neg h2, drop_ext]
  rw [h3]
  cases hr : wordR r with
  | nil => exact absurd hr h1
  | cons x t => rfl
theorem wordE_x (r : List UInt8) : wordE (ext r) = ext (wordE r) := by
  unfold ext
  split
  · rename_i h; rw [h]; rfl
  · exact wordE_ext r
theorem wordS_x (r : List UInt8) : wordS (ext r) = wordS r := by
  unfold ext
  split
  · rename_i h; rw [h]
  · exact wordS_ext r
theorem wordW_x (r : List UInt8) : wordW (ext r) = wordW r := by
  unfold ext
  split
  · rename_i h; rw [h]
  · exact wordW_ext r
theorem wordR_x {r : List UInt8} (h : wordE r ≠ []) : headIs 32 (wordR (ext r)) = headIs 32 (wordR r) := by
  unfold ext
  split
  · rename_i h; rw [h]
  · exact wordR_ext h
theorem skip_x (r : List UInt8) : skipB (ext r) = ext (skipB r) := by
  unfold ext
  split
  · rename_i h; rw [h]; rfl
  · exact skip_ext r
theorem tail_x {c : UInt8} {r : List UInt8} (h : headIs c r = true) : (ext r).tail = r.tail ++ [32] := by
  cases r with
  | nil => cases h
  | cons x t => rw [ext_cons]; rfl
def more (x : List ByteArray × List UInt8) : List ByteArray × List UInt8 := (x.1, ext x.2)
def more2 (x : GReq × List UInt8) : GReq × List UInt8 := (x.1, ext x.2)
theorem listF_ext : ∀ (n : Nat) (r : List UInt8) (out : List ByteArray), listF n (r ++ [32]) out = (listF n r out).map more
  | 0, _, _ => rfl
  | n + 1, r, out => by
    unfold listF
    rw [wordE_ext, wordS_ext, headIs_ext, headIs_ext]
    by_cases h1 : headIs 44 (wordE r) = true
    · rw [if_pos h1, if_pos h1, tail_x h1, listF_ext n]
    · rw [if_neg h1, if_neg h1]
      by_cases h2 : headIs 41 (wordE r) = true
      · rw [if_pos h2, if_pos h2, tail_x h2, skip_ext]; rfl
      · rw [if_neg h2, if_neg h2]; rfl
theorem listP_x (r : List UInt8) : listP (ext r) = (listP r).map more := by
  unfold listP
  rw [skip_x, headIs_ext]
  by_cases h1 : headIs 40 (skipB r) = true
  · rw [if_pos h1, if_pos h1, tail_x h1, listF_ext]
  · rw [if_neg h1, if_neg h1]; rfl
theorem choiceP_x (key : ByteArray) (r : List UInt8) : choiceP key (ext r) = (choiceP key r).map more2 := by
  unfold choiceP
  rw [wordW_x, wordE_x, headIs_ext]
  by_cases h0 : kindP (wordW r) = 0
  · rw [if_pos h0, if_pos h0]; rfl
  · rw [if_neg h0, if_neg h0]
    by_cases hE : wordE r = []
    · have hL : listP (wordE r) = none := by rw [hE]; rfl
      rw [listP_x, hL]
      have : headIs 40 (wordE r) = false := by rw [hE]; rfl
      rw [this]
      simp
    · rw [wordR_x hE, listP_x]
      by_cases h2 : headIs 32 (wordR r) = false ∧ headIs 40 (wordE r) = false
      · rw [if_pos h2, if_pos h2]; rfl
      · rw [if_neg h2, if_neg h2]
        cases listP (wordE r) <;> rfl
theorem headIs_tail_ext (c : UInt8) (h : c ≠ 32) (r : List UInt8) : headIs c (r ++ [32]) = headIs c r := by
  cases r with
  | nil => show ((32 : UInt8) == c) = false; rw [beq_eq_false_iff_ne]; exact fun he => h he.symm
  | cons x t => rfl
theorem tail_tail_x {c : UInt8} {r : List UInt8} (h : headIs c r.tail = true) : (ext r).tail.tail = r.tail.tail ++ [32] := by
  cases r with
  | nil => cases h
  | cons x t =>
    rw [ext_cons]
    cases t with
    | nil => cases h
    | cons y u => rfl
theorem keyP_x (r : List UInt8) : keyP (ext r) = (keyP r).map more2 := by
  unfold keyP
  rw [wordE_x, wordS_x, headIs_ext, headIs_ext, headIs_ext]
  have ht : ∀ c : UInt8, headIs c (wordE r) = true → headIs 61 (ext (wordE r)).tail = headIs 61 (wordE r).tail := fun c hc => by
    rw [tail_x hc, headIs_tail_ext 61 (by decide)]
  by_cases h1 : wordE r = [] ∨ headIs 44 (wordE r) = true
  · rw [if_pos h1, if_pos (by rcases h1 with h | h; exact .inl (ext_eq_nil.2 h); exact .inr h)]; rfl
  · rw [if_neg h1, if_neg (by intro h; exact h1 (h.imp ext_eq_nil.1 id))]
    have hE : wordE r ≠ [] := fun h => h1 (.inl h)
    by_cases h2 : headIs 61 (wordE r) = true
    · rw [ht 61 h2]
      by_cases h3 : headIs 61 (wordE r) = true ∧ headIs 61 (wordE r).tail = true
      · rw [if_pos h3, if_pos h3, tail_tail_x h3.2, wordS_ext, wordE_ext]; rfl
      · rw [if_neg h3, if_neg h3, if_pos h2, if_pos h2, tail_x h2, wordS_ext, wordE_ext]; rfl
    · rw [if_neg (show ¬ (headIs 61 (wordE r) = true ∧ headIs 61 (ext (wordE r)).tail = true) from fun h => h2 h.1), if_neg (show ¬ (headIs 61 (wordE r) = true ∧ headIs 61 (wordE r).tail = true) from fun h => h2 h.1), if_neg h2, if_neg h2]
      by_cases h4 : headIs 33 (wordE r) = true
      · rw [ht 33 h4]
        by_cases h5 : headIs 33 (wordE r) = true ∧ headIs 61 (wordE r).tail = true
        · rw [if_pos h5, if_pos h5, tail_tail_x h5.2, wordS_ext, wordE_ext]; rfl
        · rw [if_neg h5, if_neg h5, wordR_x hE, choiceP_x]
          split <;> rfl
      · rw [if_neg (show ¬ (headIs 33 (wordE r) = true ∧ headIs 61 (ext (wordE r)).tail = true) from fun h => h4 h.1), if_neg (show ¬ (headIs 33 (wordE r) = true ∧ headIs 61 (wordE r).tail = true) from fun h => h4 h.1), wordR_x hE, choiceP_x]
        split <;> rfl
theorem partP_ext (r : List UInt8) : partP (r ++ [32]) = (partP r).map more2 := by
  unfold partP
  rw [skip_ext, headIs_ext]
  by_cases h1 : headIs 33 (skipB r) = true
  · rw [if_pos h1, if_pos h1, tail_x h1, wordS_ext, wordE_ext]; rfl
  · rw [if_neg h1, if_neg h1, keyP_x]
theorem parseF_ext : ∀ (n : Nat) (r : List UInt8) (out : List GReq), parseF n (r ++ [32]) out = parseF n r out
  | 0, _, _ => rfl
  | n + 1, r, out => by
    unfold parseF
    rw [partP_ext]
    cases partP r with
    | none => rfl
    | some x =>
      show (if ext x.2 = [] then some (out ++ [x.1]) else if headIs 44 (ext x.2) = true then parseF n (ext x.2).tail (out ++ [x.1]) else none) = if x.2 = [] then some (out ++ [x.1]) else if headIs 44 x.2 = true then parseF n x.2.tail (out ++ [x.1]) else none
      rw [headIs_ext]
      by_cases h : x.2 = []
      · rw [if_pos h, if_pos (ext_eq_nil.2 h)]
      · rw [if_neg h, if_neg (fun he => h (ext_eq_nil.1 he))]
        by_cases h2 : headIs 44 x.2 = true
        · rw [if_pos h2, if_pos h2, tail_x h2, parseF_ext n]
        · rw [if_neg h2, if_neg h2]
/-- blanks ahead and behind are of no matter -/
theorem blanks {s : List UInt8} (h : s.length < 290) : parseL (32 :: 32 :: (s ++ [32])) = parseL s := by
  have l1 : ¬ 300 < (32 :: 32 :: (s ++ [32])).length := by simp only [List.length_cons, List.length_append, List.length_nil]; omega
  have l2 : ¬ 300 < s.length := by omega
  have h1 : skipB (32 :: 32 :: (s ++ [32])) = ext (skipB s) := by rw [skip_blank, skip_blank, skip_ext]
  unfold parseL
  simp only [l1, l2, if_false, h1]
  by_cases h0 : skipB s = []
  · rw [h0]; rfl
  · have h2 : ext (skipB s) = skipB s ++ [32] := by unfold ext; rw [if_neg h0]
    have h3 : ext (skipB s) ≠ [] := fun he => h0 (ext_eq_nil.1 he)
    simp only [h0, h3, if_false]
    rw [h2, parseF_ext]
end QP
end Go.Proofs.YtlbolbkikkiifaaGreatDoor
/- query.text: its contract. -/
namespace Go.Proofs.YtlbolbkikkiifaaGreatDoor
open Go.RowKit
open QP

theorem key_short {s : ByteArray} (h : keyE s = 0) : s.size ≤ 64 := by
  unfold keyE NameP.checkKey at h
  have := (judge_zero h).1
  have hl : s.data.toList.length = s.size := by simp
  omega
theorem val_short' {s : ByteArray} (h : valE s = 0) : s.size ≤ 63 := by
  unfold valE NameP.checkVal at h
  have := (judge_zero h).1
  have hl : s.data.toList.length = s.size := by simp
  omega
theorem valsT_len : ∀ l : List ByteArray, (∀ v ∈ l, v.size ≤ 63) → (valsT l).length ≤ 64 * l.length
  | [], _ => by simp [valsT, Lib.join, List.intercalate]
  | [v], h => by
    have h1 := h v (List.mem_cons_self ..)
    have hl : v.data.toList.length = v.size := by simp
    rw [show valsT [v] = v.data.toList from join_one _ _, hl]
    simp; omega
  | v :: x :: r, h => by
    have h1 := h v (List.mem_cons_self ..)
    have hl : v.data.toList.length = v.size := by simp
    have ih := valsT_len (x :: r) (fun y hy => h y (List.mem_cons_of_mem _ hy))
    have h2 : valsT (v :: x :: r) = v.data.toList ++ ([44] ++ valsT (x :: r)) := join_more _ _ _ _
    rw [h2]
    simp only [List.length_append, List.length_cons, List.length_nil] at ih ⊢
    omega
theorem str_mk {a : ByteArray} {l : List UInt8} (h : a.data.toList = l) : a = ⟨l.toArray⟩ := by subst h; cases a; simp
theorem ret_text {a : ByteArray} {l : List UInt8} (h : a.data.toList = l) : Ending.returned (.string a) = .returned (.string ⟨l.toArray⟩) := by rw [str_mk h]
theorem join_strs {w : World} {v : Value} {l : List ByteArray} (h : RowAt RString 1 w v l) (hl : l.length ≤ 8) (h1 : ∀ x ∈ l, x.size ≤ 63) :
    Calls Tryz.prog 32 #[v, .string ⟨#[44]⟩] w fun e w' => e = .returned (.string ⟨(valsT l).toArray⟩) ∧ Below w.heap.size w w' := by
  have hlen := valsT_len l h1
  by_cases h0 : 0 < l.length
  · obtain ⟨b, o, c, rfl, hc, _, hbs, hcell⟩ := h.form h0 (by omega)
    refine Tryz.strings_Join b o c l ⟨#[44]⟩ w (fun j x hx => ?_) hbs (by omega) hc ?_
    · obtain ⟨cs, _, h2, h3⟩ := hcell j x hx
      rw [h3] at h2
      have := h2 0 _ rfl
      simpa using this
    · show (valsT l).length ≤ _; omega
  · have hn : l = [] := List.eq_nil_of_length_eq_zero (by omega)
    subst hn
    obtain ⟨a, c, rfl, _, _⟩ := h.len
    refine (Tryz.strings_Join_none a c ⟨#[44]⟩ w).mono ?_
    rintro e w' ⟨rfl, rfl⟩
    exact ⟨rfl, Below.refl _ _⟩
theorem below_drewN2 {B : Nat} {a w : World} (h : Below B a w) (n : Nat) : Below B a (w.drewN n) := ⟨h.os, h.tape, h.output, h.size, h.block⟩
theorem below_drew1 (w : World) : Below w.heap.size w w.drew := ⟨rfl, rfl, rfl, Nat.le_refl _, fun _ _ => rfl⟩
set_option maxRecDepth 100000 in
set_option maxHeartbeats 6400000 in
theorem text_any (q : GReq) (v2 : Value) (w : World) (h : RowAt RString 1 w v2 q.vals) (hq : reqE q = 0) :
    Calls Tryz.prog 31 #[.agg #[.string q.key, .int .i64 q.kind, v2]] w fun e w' => e = .returned (.string ⟨(textT q).toArray⟩) ∧ Below w.heap.size w w' := by
  obtain ⟨hk, k1, k4, hls, hl, hv⟩ := reqE_parts hq
  obtain ⟨key, kd, vals⟩ := q
  dsimp only at h hk k1 k4 hls hl hv ⊢
  have hks := key_short hk
  have hvs : ∀ x ∈ vals, x.size ≤ 63 := fun x hx => val_short' (hv x hx)
  obtain ⟨av, cv, rfl, _, _⟩ := h.len
  obtain ⟨T, HT⟩ : ∃ T, Hid (textT ⟨key, kd, vals⟩ = T) := ⟨_, Lib.hid rfl⟩
  rw [HT.out]
  obtain ⟨nv, hnv⟩ : ∃ nv, vals.length = nv := ⟨_, rfl⟩
  rw [hnv] at h ⊢
  obtain ⟨W, hW⟩ : ∃ W, W = w.alloc (.cells #[.string key, .int .i64 kd, .slice av nv cv] 26) := ⟨_, rfl⟩
  have b1 : W.heap[w.heap.size]? = some (.cells #[.string key, .int .i64 kd, .slice av nv cv] 26 (0, 0)) := by rw [hW]; exact heap_alloc_new w _
  have hb1 : Below w.heap.size w W := by rw [hW]; exact (Below.refl _ w).alloc (Nat.le_refl _) _
  have hrow := h.below stays_string hb1
  have hws := block_lt b1
  have cc := fun i => cell_block b1 i
  have Hrow := Lib.hid hrow
  have Hb := Lib.hid hb1
  have Hvs := Lib.hid hvs
  have Hnv := Lib.hid hnv
  have hvt := valsT_len vals hvs
  rw [hnv] at hls hl hvt
  clear hrow hb1 hvs h b1 hnv
  have way : kd = 3 ∨ kd = 4 ∨ kd = 1 ∨ kd = 2 := by omega
  rcases way with rfl | rfl | rfl | rfl
  · have HT2 : Hid (key.data.toList = T) := Lib.hid (by rw [← HT.out]; rfl)
    clear hk k1 k4 hls hv HT hvt
    go_enter Tryz.func31, Tryz.ntmps31
    go_upto_region 1 with fail
    rw [← hW]
    clear hW
    go_wp2_with fail
    go_ret
    exact ⟨ret_text HT2.out, Hb.out⟩
  · have HT2 : Hid ((⟨#[33]⟩ ++ key : ByteArray).data.toList = T) := Lib.hid (by rw [← HT.out]; simp [textT])
    have q1 : ¬ 9223372036854775807 < 1 + key.size := by omega
    clear hk k1 k4 hls hv HT hvt
    go_enter Tryz.func31, Tryz.ntmps31
    go_upto_region 1 with fail
    rw [← hW]
    clear hW
    go_wp2_with fail
    go_ret
    exact ⟨ret_text HT2.out, Hb.out⟩
  · by_cases c1 : nv = 1
    · subst c1
      obtain ⟨v, rfl⟩ := vals_one Hnv.out
      obtain ⟨b, o, c, hv, _, _, hbs, hcell⟩ := Hrow.out.form (by simp) (by omega)
      injection hv with u1 u2 u3
      subst u1
      clear u2 u3
      obtain ⟨ds, _, hcc, hR⟩ := hcell 0 v rfl
      obtain rfl : ds = [.string v] := hR
      have e0 : W.cell? ⟨b, o, none⟩ = some (.string v) := by simpa using hcc 0 _ rfl
      have hvsz := Hvs.out v (List.mem_cons_self ..)
      have HT2 : Hid ((key ++ ⟨#[61]⟩ ++ v : ByteArray).data.toList = T) := Lib.hid (by
        rw [← HT.out]
        simp [textT, show valsT [v] = v.data.toList from join_one _ _])
      have q1 : ¬ 9223372036854775807 < key.size + 1 := by omega
      have q2 : ¬ 9223372036854775807 < key.size + 1 + v.size := by omega
      clear hk k1 k4 hls HT hcc hcell hvt
      go_enter Tryz.func31, Tryz.ntmps31
      go_upto_region 1 with fail
      rw [← hW]
      clear hW
      go_wp2_with fail
      go_quiet (fail)
      go_wp2_with fail
      go_ret
      exact ⟨ret_text HT2.out, below_drewN2 Hb.out _⟩
    · have q0 : ((nv : Int) == 1) = false := by rw [beq_eq_false_iff_ne]; omega
      have HT2 : Hid ((key ++ ⟨#[32, 105, 110, 32, 40]⟩ ++ ⟨(valsT vals).toArray⟩ ++ ⟨#[41]⟩ : ByteArray).data.toList = T) := Lib.hid (by
        rw [← HT.out]
        have h9 : vals.length ≠ 1 := by rw [Hnv.out]; exact c1
        simp [textT, h9])
      obtain ⟨J, HJ⟩ : ∃ J : ByteArray, Hid ((⟨(valsT vals).toArray⟩ : ByteArray) = J) := ⟨_, Lib.hid rfl⟩
      have hJ : J.size ≤ 512 := by rw [← HJ.out]; show (valsT vals).toArray.size ≤ _; rw [List.size_toArray]; omega
      rw [HJ.out] at HT2
      have q1 : ¬ 9223372036854775807 < key.size + 5 := by omega
      have q2 : ¬ 9223372036854775807 < key.size + 5 + J.size := by omega
      have q3 : ¬ 9223372036854775807 < key.size + 5 + J.size + 1 := by omega
      have hJoin : ∀ w', Below W.heap.size W w' → Calls Tryz.prog 32 #[.slice av nv cv, .string ⟨#[44]⟩] w' fun e w'' => e = .returned (.string J) ∧ Below w'.heap.size w' w'' := fun w' hb => by
        have := join_strs (Hrow.out.below stays_string hb) (by rw [Hnv.out]; omega) Hvs.out
        rw [HJ.out] at this
        exact this
      have HJoin := Lib.hid hJoin
      clear hk k1 k4 hls hv HT hvt hJoin c1
      go_enter Tryz.func31, Tryz.ntmps31
      go_upto_region 1 with fail
      rw [← hW]
      clear hW
      go_upto_region 8 with fail
      refine wp_region_hold 8 (fun w' => Below W.heap.size W w') (by kernel_rfl) (by kernel_rfl) ?_ ?_
      · exact below_drew1 W
      simp only [List.take_succ_cons, List.take_zero, List.drop_succ_cons, List.drop_zero]
      (first | (refine wpHold_pure (v := ?_) (by rfl) (fun w => ?_) ?_; rotate_left; focus (first | (go_simp; done) | (go_simp; with_reducible rfl))) | (refine wpHold_skip ?_ ?_; focus (go_simp; done)) | (refine wpHold_pure' (v := ?_) ?_ (fun w => ?_) ?_; rotate_left; focus (go_simp; done); focus (first | (go_simp; done) | (go_simp; with_reducible rfl)))); try simp only [Act.put, List.setIfInBounds_toArray, List.set_cons_zero, List.set_cons_succ]
      refine wpHold_read (v := .string key) (by rfl) (fun w' hI => ?_) ?_
      · have dd := fun i => (hI.cell (p := ⟨w.heap.size, i, none⟩) hws).trans (cc i)
        go_simp
        done
      try simp only [Act.put, List.setIfInBounds_toArray, List.set_cons_zero, List.set_cons_succ]
      (first | (refine wpHold_pure (v := ?_) (by rfl) (fun w => ?_) ?_; rotate_left; focus (first | (go_simp; done) | (go_simp; with_reducible rfl))) | (refine wpHold_skip ?_ ?_; focus (go_simp; done)) | (refine wpHold_pure' (v := ?_) ?_ (fun w => ?_) ?_; rotate_left; focus (go_simp; done); focus (first | (go_simp; done) | (go_simp; with_reducible rfl)))); try simp only [Act.put, List.setIfInBounds_toArray, List.set_cons_zero, List.set_cons_succ]
      (first | (refine wpHold_pure (v := ?_) (by rfl) (fun w => ?_) ?_; rotate_left; focus (first | (go_simp; done) | (go_simp; with_reducible rfl))) | (refine wpHold_skip ?_ ?_; focus (go_simp; done)) | (refine wpHold_pure' (v := ?_) ?_ (fun w => ?_) ?_; rotate_left; focus (go_simp; done); focus (first | (go_simp; done) | (go_simp; with_reducible rfl)))); try simp only [Act.put, List.setIfInBounds_toArray, List.set_cons_zero, List.set_cons_succ]
      refine wpHold_read (v := .slice av nv cv) (by rfl) (fun w' hI => ?_) ?_
      · have dd := fun i => (hI.cell (p := ⟨w.heap.size, i, none⟩) hws).trans (cc i)
        go_simp
        done
      try simp only [Act.put, List.setIfInBounds_toArray, List.set_cons_zero, List.set_cons_succ]
      refine wpHold_call (v := .string J) (f := 32) (args := #[.slice av nv cv, .string ⟨#[44]⟩]) (by rfl) (fun w' => ?_) (fun w' hI => ?_) ?_
      · go_simp
        done
      · exact (HJoin.out w' hI).mono fun e w'' ⟨h1, h2⟩ => ⟨h1, below_then hI h2⟩
      try simp only [Act.put, List.setIfInBounds_toArray, List.set_cons_zero, List.set_cons_succ]
      repeat ((first | (refine wpHold_pure (v := ?_) (by rfl) (fun w => ?_) ?_; rotate_left; focus (first | (go_simp; done) | (go_simp; with_reducible rfl))) | (refine wpHold_skip ?_ ?_; focus (go_simp; done)) | (refine wpHold_pure' (v := ?_) ?_ (fun w => ?_) ?_; rotate_left; focus (go_simp; done); focus (first | (go_simp; done) | (go_simp; with_reducible rfl)))); try simp only [Act.put, List.setIfInBounds_toArray, List.set_cons_zero, List.set_cons_succ])
      refine wpHold_nil ?_
      intro w' hI
      have Hb2 := Lib.hid (Hb.out.trans (hI.mono Hb.out.size))
      clear hI
      go_wp2_with fail
      go_ret
      exact ⟨ret_text HT2.out, Hb2.out⟩
  · by_cases c1 : nv = 1
    · subst c1
      obtain ⟨v, rfl⟩ := vals_one Hnv.out
      obtain ⟨b, o, c, hv, _, _, hbs, hcell⟩ := Hrow.out.form (by simp) (by omega)
      injection hv with u1 u2 u3
      subst u1
      clear u2 u3
      obtain ⟨ds, _, hcc, hR⟩ := hcell 0 v rfl
      obtain rfl : ds = [.string v] := hR
      have e0 : W.cell? ⟨b, o, none⟩ = some (.string v) := by simpa using hcc 0 _ rfl
      have hvsz := Hvs.out v (List.mem_cons_self ..)
      have HT2 : Hid ((key ++ ⟨#[33, 61]⟩ ++ v : ByteArray).data.toList = T) := Lib.hid (by
        rw [← HT.out]
        simp [textT, show valsT [v] = v.data.toList from join_one _ _])
      have q1 : ¬ 9223372036854775807 < key.size + 2 := by omega
      have q2 : ¬ 9223372036854775807 < key.size + 2 + v.size := by omega
      clear hk k1 k4 hls HT hcc hcell hvt
      go_enter Tryz.func31, Tryz.ntmps31
      go_upto_region 1 with fail
      rw [← hW]
      clear hW
      go_wp2_with fail
      go_quiet (fail)
      go_wp2_with fail
      go_ret
      exact ⟨ret_text HT2.out, below_drewN2 Hb.out _⟩
    · have q0 : ((nv : Int) == 1) = false := by rw [beq_eq_false_iff_ne]; omega
      have HT2 : Hid ((key ++ ⟨#[32, 110, 111, 116, 105, 110, 32, 40]⟩ ++ ⟨(valsT vals).toArray⟩ ++ ⟨#[41]⟩ : ByteArray).data.toList = T) := Lib.hid (by
        rw [← HT.out]
        have h9 : vals.length ≠ 1 := by rw [Hnv.out]; exact c1
        simp [textT, h9])
      obtain ⟨J, HJ⟩ : ∃ J : ByteArray, Hid ((⟨(valsT vals).toArray⟩ : ByteArray) = J) := ⟨_, Lib.hid rfl⟩
      have hJ : J.size ≤ 512 := by rw [← HJ.out]; show (valsT vals).toArray.size ≤ _; rw [List.size_toArray]; omega
      rw [HJ.out] at HT2
      have q1 : ¬ 9223372036854775807 < key.size + 8 := by omega
      have q2 : ¬ 9223372036854775807 < key.size + 8 + J.size := by omega
      have q3 : ¬ 9223372036854775807 < key.size + 8 + J.size + 1 := by omega
      have hJoin : ∀ w', Below W.heap.size W w' → Calls Tryz.prog 32 #[.slice av nv cv, .string ⟨#[44]⟩] w' fun e w'' => e = .returned (.string J) ∧ Below w'.heap.size w' w'' := fun w' hb => by
        have := join_strs (Hrow.out.below stays_string hb) (by rw [Hnv.out]; omega) Hvs.out
        rw [HJ.out] at this
        exact this
      have HJoin := Lib.hid hJoin
      clear hk k1 k4 hls hv HT hvt hJoin c1
      go_enter Tryz.func31, Tryz.ntmps31
      go_upto_region 1 with fail
      rw [← hW]
      clear hW
      go_upto_region 11 with fail
      refine wp_region_hold 8 (fun w' => Below W.heap.size W w') (by kernel_rfl) (by kernel_rfl) ?_ ?_
      · exact below_drew1 W
      simp only [List.take_succ_cons, List.take_zero, List.drop_succ_cons, List.drop_zero]
      (first | (refine wpHold_pure (v := ?_) (by rfl) (fun w => ?_) ?_; rotate_left; focus (first | (go_simp; done) | (go_simp; with_reducible rfl))) | (refine wpHold_skip ?_ ?_; focus (go_simp; done)) | (refine wpHold_pure' (v := ?_) ?_ (fun w => ?_) ?_; rotate_left; focus (go_simp; done); focus (first | (go_simp; done) | (go_simp; with_reducible rfl)))); try simp only [Act.put, List.setIfInBounds_toArray, List.set_cons_zero, List.set_cons_succ]
      refine wpHold_read (v := .string key) (by rfl) (fun w' hI => ?_) ?_
      · have dd := fun i => (hI.cell (p := ⟨w.heap.size, i, none⟩) hws).trans (cc i)
        go_simp
        done
      try simp only [Act.put, List.setIfInBounds_toArray, List.set_cons_zero, List.set_cons_succ]
      (first | (refine wpHold_pure (v := ?_) (by rfl) (fun w => ?_) ?_; rotate_left; focus (first | (go_simp; done) | (go_simp; with_reducible rfl))) | (refine wpHold_skip ?_ ?_; focus (go_simp; done)) | (refine wpHold_pure' (v := ?_) ?_ (fun w => ?_) ?_; rotate_left; focus (go_simp; done); focus (first | (go_simp; done) | (go_simp; with_reducible rfl)))); try simp only [Act.put, List.setIfInBounds_toArray, List.set_cons_zero, List.set_cons_succ]
      (first | (refine wpHold_pure (v := ?_) (by rfl) (fun w => ?_) ?_; rotate_left; focus (first | (go_simp; done) | (go_simp; with_reducible rfl))) | (refine wpHold_skip ?_ ?_; focus (go_simp; done)) | (refine wpHold_pure' (v := ?_) ?_ (fun w => ?_) ?_; rotate_left; focus (go_simp; done); focus (first | (go_simp; done) | (go_simp; with_reducible rfl)))); try simp only [Act.put, List.setIfInBounds_toArray, List.set_cons_zero, List.set_cons_succ]
      refine wpHold_read (v := .slice av nv cv) (by rfl) (fun w' hI => ?_) ?_
      · have dd := fun i => (hI.cell (p := ⟨w.heap.size, i, none⟩) hws).trans (cc i)
        go_simp
        done
      try simp only [Act.put, List.setIfInBounds_toArray, List.set_cons_zero, List.set_cons_succ]
      refine wpHold_call (v := .string J) (f := 32) (args := #[.slice av nv cv, .string ⟨#[44]⟩]) (by rfl) (fun w' => ?_) (fun w' hI => ?_) ?_
      · go_simp
        done
      · exact (HJoin.out w' hI).mono fun e w'' ⟨h1, h2⟩ => ⟨h1, below_then hI h2⟩
      try simp only [Act.put, List.setIfInBounds_toArray, List.set_cons_zero, List.set_cons_succ]
      repeat ((first | (refine wpHold_pure (v := ?_) (by rfl) (fun w => ?_) ?_; rotate_left; focus (first | (go_simp; done) | (go_simp; with_reducible rfl))) | (refine wpHold_skip ?_ ?_; focus (go_simp; done)) | (refine wpHold_pure' (v := ?_) ?_ (fun w => ?_) ?_; rotate_left; focus (go_simp; done); focus (first | (go_simp; done) | (go_simp; with_reducible rfl)))); try simp only [Act.put, List.setIfInBounds_toArray, List.set_cons_zero, List.set_cons_succ])
      refine wpHold_nil ?_
      intro w' hI
      have Hb2 := Lib.hid (Hb.out.trans (hI.mono Hb.out.size))
      clear hI
      go_wp2_with fail
      go_ret
      exact ⟨ret_text HT2.out, Hb2.out⟩
end Go.Proofs.YtlbolbkikkiifaaGreatDoor
/- query.Print: its contract. -/
namespace Go.Proofs.YtlbolbkikkiifaaGreatDoor
open Go.RowKit
open QP

theorem valsT_len2 (m : Nat) : ∀ l : List ByteArray, (∀ v ∈ l, v.size ≤ m) → (valsT l).length ≤ (m + 1) * l.length
  | [], _ => by simp [valsT, Lib.join, List.intercalate]
  | [v], h => by
    have h1 := h v (List.mem_cons_self ..)
    have hl : v.data.toList.length = v.size := by simp
    rw [show valsT [v] = v.data.toList from join_one _ _, hl]
    simp; omega
  | v :: x :: r, h => by
    have h1 := h v (List.mem_cons_self ..)
    have hl : v.data.toList.length = v.size := by simp
    have ih := valsT_len2 m (x :: r) (fun y hy => h y (List.mem_cons_of_mem _ hy))
    have h2 : valsT (v :: x :: r) = v.data.toList ++ ([44] ++ valsT (x :: r)) := join_more _ _ _ _
    rw [h2, List.length_append, List.length_append, hl]
    rw [show (v :: x :: r).length = (x :: r).length + 1 from rfl, Nat.mul_add]
    simp only [List.length_cons, List.length_nil] at ih ⊢
    omega
def mkT (q : GReq) : ByteArray := ⟨(textT q).toArray⟩
theorem joinT_eq (l : List GReq) : valsT (l.map mkT) = joinT l := by
  unfold valsT joinT
  rw [List.map_map]
  rfl
theorem textT_len {q : GReq} (h : reqE q = 0) : (mkT q).size ≤ 600 := by
  obtain ⟨hk, k1, k4, hls, hl, hv⟩ := reqE_parts h
  have hks := key_short hk
  have hl2 : q.key.data.toList.length = q.key.size := by simp
  have hvt := valsT_len q.vals fun v hm => val_short' (hv v hm)
  show (textT q).toArray.size ≤ _
  rw [List.size_toArray]
  unfold textT
  split
  · omega
  · split
    · simp; omega
    · split
      · split
        · simp; omega
        · simp; omega
      · split
        · simp; omega
        · simp; omega
theorem join_own {w : World} {v : Value} {l : List ByteArray} (h : RowAt RString 1 w v l) (hl : l.length ≤ 8) (h1 : ∀ x ∈ l, x.size ≤ 600) :
    Calls Tryz.prog 32 #[v, .string ⟨#[44]⟩] w fun e w' => e = .returned (.string ⟨(valsT l).toArray⟩) ∧ Below w.heap.size w w' := by
  have hlen := valsT_len2 600 l h1
  by_cases h0 : 0 < l.length
  · obtain ⟨b, o, c, rfl, hc, _, hbs, hcell⟩ := h.form h0 (by omega)
    refine Tryz.strings_Join b o c l ⟨#[44]⟩ w (fun j x hx => ?_) hbs (by omega) hc ?_
    · obtain ⟨cs, _, h2, h3⟩ := hcell j x hx
      rw [h3] at h2
      have := h2 0 _ rfl
      simpa using this
    · show (valsT l).length ≤ _; omega
  · have hn : l = [] := List.eq_nil_of_length_eq_zero (by omega)
    subst hn
    obtain ⟨a, c, rfl, _, _⟩ := h.len
    refine (Tryz.strings_Join_none a c ⟨#[44]⟩ w).mono ?_
    rintro e w' ⟨rfl, rfl⟩
    exact ⟨rfl, Below.refl _ _⟩
def PrintAt (l : List GReq) (w : World) (E : Ending) (w' : World) : Prop := E = .returned (.tuple #[.string ⟨(printL l).1.toArray⟩, .int .i64 (printL l).2]) ∧ Below w.heap.size w w'
theorem print_end {l : List GReq} {w w' : World} {t : List UInt8} {e : Int} (h : printL l = (t, e)) {a : ByteArray} (ha : a.data.toList = t) (hb : Below w.heap.size w w') : PrintAt l w (.returned (.tuple #[.string a, .int .i64 e])) w' := by
  unfold PrintAt
  rw [h, ← str_mk ha]
  exact ⟨rfl, hb⟩
set_option maxRecDepth 100000 in
set_option maxHeartbeats 6400000 in
theorem print_any (v : Value) (l : List GReq) (m : Int) (w : World) (h : RowAt ReqR 3 w v l) (hl : l.length ≤ 1048576) (hok : ∀ r ∈ l, okReq r) (hm : MaxOK m w) :
    Calls Tryz.prog 11 #[v] w (PrintAt l w) := by
  obtain ⟨i0, hi0, hz0, hz1, hz2⟩ := info_parts Tryz.infoStr
  have Hend := fun {w' t e} (a : ByteArray) => Lib.hid (print_end (l := l) (w := w) (w' := w') (t := t) (e := e) (a := a))
  obtain ⟨L, HL⟩ : ∃ L, Hid (printL l = L) := ⟨_, Lib.hid rfl⟩
  have HL1 : Hid ((if reqsE l = 0 then if 300 < (joinT l).length then ([], 2) else (joinT l, 0) else ([], reqsE l)) = L) := HL
  obtain ⟨a1, c1, rfl, _, _⟩ := h.len
  have H := Lib.hid h
  have Hm := Lib.hid hm
  have Hck := Lib.hid (checks_any _ l m w h hl hok hm)
  obtain ⟨rE, HrE⟩ : ∃ rE, Hid (reqsE l = rE) := ⟨_, Lib.hid rfl⟩
  clear h hok hm
  rw [HrE.out] at HL1
  have Hck2 : Hid (Calls Tryz.prog 25 #[.slice a1 l.length c1] w fun e w' => e = .returned (.int .i64 rE) ∧ Below w.heap.size w w') := Lib.hid (by have := Hck.out; rw [HrE.out] at this; exact this)
  go_enter Tryz.func11, Tryz.ntmps11
  go_wp2_with fail
  refine Hck2.out.mono ?_
  rintro E w1 ⟨rfl, hb1⟩
  have Hb1 := Lib.hid hb1
  have H1 := Lib.hid (H.out.below stays_req hb1)
  clear hb1 Hck Hck2
  by_cases hr0 : rE = 0
  · subst hr0
    obtain ⟨h8, hall⟩ := reqsE_all HrE.out
    have Hall := Lib.hid hall
    have HL2 : Hid ((if 300 < (joinT l).length then ([], 2) else (joinT l, 0)) = L) := Lib.hid (by rw [← HL1.out, if_pos rfl])
    clear hall HrE HL1
    go_wp2_with fail
    go_loopg [16, 5] l.length (fun k u16 u5 wr => ∃ i : Nat, i + k = l.length ∧ u16 = .int .i64 (i : Int) ∧ Hid (OwnAt RString 1 wr w1.heap.size 9 u5 ((l.take i).map mkT)) ∧ Hid (Below w1.heap.size w1 wr))
    case atStart => exact ⟨0, by omega, rfl, Lib.hid (OwnAt.nil _), Lib.hid (Below.refl _ _)⟩
    case round =>
      obtain ⟨i, hig, rfl, Hown, Hbel⟩ := hrel
      have hsr := Hbel.out.size
      have hs1 := Hb1.out.size
      cases gk with
      | zero =>
        obtain rfl : i = l.length := by omega
        have hown := Hown.out
        rw [List.take_of_length_le (Nat.le_refl _)] at hown
        obtain ⟨av, cv, hu, _, _⟩ := hown.row.len
        rw [List.length_map] at hu
        subst hu
        have HJ := Lib.hid (join_own hown.row (by rw [List.length_map]; exact h8) (fun x hx => by
          obtain ⟨q, hq, rfl⟩ := List.mem_map.1 hx
          exact textT_len (Hall.out q hq)))
        have hjl := valsT_len2 600 (l.map mkT) (fun x hx => by
          obtain ⟨q, hq, rfl⟩ := List.mem_map.1 hx
          exact textT_len (Hall.out q hq))
        obtain ⟨J, HJe⟩ : ∃ J : ByteArray, Hid ((⟨(valsT (l.map mkT)).toArray⟩ : ByteArray) = J) := ⟨_, Lib.hid rfl⟩
        have HJt : Hid (J.data.toList = joinT l) := Lib.hid (by rw [← HJe.out, joinT_eq])
        have hJs : J.size = (joinT l).length := by rw [← HJt.out]; simp
        rw [HJe.out] at HJ
        rw [← hJs] at HL2
        have HJs := Lib.hid hJs
        clear hown hjl hJs hig
        go_wp2_with fail
        refine HJ.out.mono ?_
        rintro E w2 ⟨rfl, hb2⟩
        have Hb2 := Lib.hid (Hb1.out.trans ((Hbel.out.trans (hb2.mono hsr)).mono hs1))
        clear hb2
        by_cases h3 : 300 < J.size
        · have q0 : (300 : Int) < (J.size : Int) := by omega
          have HL3 : Hid (printL l = ([], 2)) := Lib.hid (by rw [HL.out, ← HL2.out, if_pos h3])
          clear h3 HL2
          go_wp2_with fail
          go_ret2
          exact (Hend ⟨#[]⟩).out HL3.out rfl Hb2.out
        · have q0 : ¬ (300 : Int) < (J.size : Int) := by omega
          have HL3 : Hid (printL l = (joinT l, 0)) := Lib.hid (by rw [HL.out, ← HL2.out, if_neg h3])
          clear h3 HL2
          go_wp2_with fail
          go_ret2
          exact (Hend J).out HL3.out HJt.out Hb2.out
      | succ k =>
        have hil : i < l.length := by omega
        obtain ⟨x, hxi⟩ : ∃ x, l[i]? = some x := ⟨l[i]'(by omega), List.getElem?_eq_getElem _⟩
        obtain ⟨b, o, c', hv, _, _, hbs, hcell⟩ := H1.out.form (by omega) (by omega)
        injection hv with u1 u2 u3
        subst u1
        clear u2 u3
        obtain ⟨ds, _, hcc, hR⟩ := hcell i x hxi
        have hR2 := stays_req _ _ _ _ (keeps_below Hbel.out) hR
        obtain ⟨y2, rfl, _, _⟩ := hR
        have e0 : wr.cell? ⟨b, o + i * 3, none⟩ = some (.string x.key) := (Hbel.out.cell (p := ⟨b, _, none⟩) hbs).trans (by simpa using hcc 0 _ rfl)
        have e1 : wr.cell? ⟨b, o + i * 3 + 1, none⟩ = some (.int .i64 x.kind) := (Hbel.out.cell (p := ⟨b, _, none⟩) hbs).trans (hcc 1 _ rfl)
        have e2 : wr.cell? ⟨b, o + i * 3 + 2, none⟩ = some y2 := (Hbel.out.cell (p := ⟨b, _, none⟩) hbs).trans (hcc 2 _ rfl)
        have q1 : (0 : Int) ≤ (i : Int) := by omega
        have q2 : (i : Int) < (l.length : Int) := by omega
        have HRx := Lib.hid hR2
        have hx0 := Hall.out x (List.mem_of_getElem? hxi)
        have Hxi := Lib.hid hxi
        have Hx0 := Lib.hid hx0
        obtain ⟨ao, co, rfl, _, _⟩ : ∃ ao co, y2 = .slice ao x.vals.length co ∧ True ∧ True := by
          obtain ⟨v2, h1, _, h2⟩ := hR2
          obtain ⟨ao, co, h3, _, _⟩ := h2.row.len
          injection h1 with _ h1; injection h1 with _ h1; injection h1 with h1 _
          exact ⟨ao, co, h1.trans h3, trivial, trivial⟩
        clear hcc hcell hxi hR2 hx0
        go_upto_region 8 with fail
        obtain ⟨W, hW⟩ : ∃ W, W = wr.alloc (.cells #[.string x.key, .int .i64 x.kind, .slice ao x.vals.length co] 26) := ⟨_, rfl⟩
        obtain ⟨gb, hgb⟩ : ∃ gb, gb = wr.heap.size := ⟨_, rfl⟩
        rw [← hW, ← hgb]
        have c0 : W.heap[gb]? = some (.cells #[.string x.key, .int .i64 x.kind, .slice ao x.vals.length co] 26 (0, 0)) := by rw [hW, hgb]; exact heap_alloc_new wr _
        have hb5 : Below wr.heap.size wr W := by rw [hW]; exact (Below.refl _ _).alloc (Nat.le_refl _) _
        have HW := Lib.hid (Hbel.out.trans (hb5.mono hsr))
        have HRW := Lib.hid (stays_req _ _ _ _ (keeps_below hb5) HRx.out)
        have HownW := Lib.hid (Hown.out.below stays_string hb5)
        have cc := fun i => cell_block c0 i
        clear hW hgb hb5 c0 e0 e1 e2
        have HRv : Hid (RowAt RString 1 W (.slice ao x.vals.length co) x.vals) := Lib.hid (by
          obtain ⟨v2, h1, _, h2⟩ := HRW.out
          injection h1 with _ h1; injection h1 with _ h1; injection h1 with h1 _
          rw [h1]; exact h2.row)
        have hws := HW.out.size
        go_wp2_with fail
        refine (text_any x _ W HRv.out Hx0.out).mono ?_
        rintro E w3 ⟨rfl, hb3⟩
        have Hown3 := Lib.hid (HownW.out.below stays_string hb3)
        have Hb3 := Lib.hid (HW.out.trans (hb3.mono hws))
        have h3s := Hb3.out.size
        have hol : ((l.take i).map mkT).length ≤ 8 := by rw [List.length_map, List.length_take]; omega
        have Htk : Hid ((l.take (i + 1)).map mkT = (l.take i).map mkT ++ [mkT x]) := Lib.hid (by rw [List.take_add_one, Hxi.out, List.map_append]; rfl)
        obtain ⟨O, HO⟩ : ∃ O, Hid ((l.take i).map mkT = O) := ⟨_, Lib.hid rfl⟩
        obtain ⟨t, Ht⟩ : ∃ t, Hid (mkT x = t) := ⟨_, Lib.hid rfl⟩
        rw [HO.out, Ht.out] at Htk
        rw [HO.out] at Hown3 hol
        rw [show (⟨(textT x).toArray⟩ : ByteArray) = t from Ht.out]
        clear hb3 cc
        go_wp2_with (at_builtin; refine wpList_append_ownAt (R := RString) (k := 1) (e := 9) (B := w1.heap.size) (l := O) (m := [t]) _ (by rfl) _ _ _ (by rfl) i0 _ 16 Tryz.underlying24 hi0 hz0 hz1 hz2 rfl (by omega) flat_string one_string _ (by rfl) (Hown3.out.alloc stays_string _) (.slice (some ⟨w3.heap.size, 0, none⟩) 1 1) (by rfl) (RowAt.one (R := RString) (k := 1) (cs := #[.string t]) (heap_alloc_new w3 _) rfl rfl) (by unfold maxLen; simp; omega) (by simp; omega) (by simp; omega) ?_)
        intro v' w4 hv' hg hr _
        have hb4 : Below w1.heap.size w1 w4 := below_of_grown (Hb3.out.alloc (by omega) _) (by simp; omega) hg hr
        have Hv4 : Hid (OwnAt RString 1 w4 w1.heap.size 9 v' ((l.take (i + 1)).map mkT)) := Lib.hid (by rw [Htk.out]; exact hv')
        have Hb4 := Lib.hid hb4
        clear hv' hg hr hb4
        go_wp2_with fail
        go_roundg k
        case measure => omega
        case rel => exact ⟨i + 1, by omega, by go_num, Hv4, Hb4⟩
  · have q0 : (rE != 0) = true := by rw [bne_iff_ne]; exact hr0
    have q1 : (rE == 0) = false := by rw [beq_eq_false_iff_ne]; exact hr0
    have HL2 : Hid (printL l = ([], rE)) := Lib.hid (by rw [HL.out, ← HL1.out, if_neg hr0])
    clear hr0 HL1
    go_wp2_with fail
    go_ret2
    exact (Hend ⟨#[]⟩).out HL2.out rfl Hb1.out
end Go.Proofs.YtlbolbkikkiifaaGreatDoor
/- query.opposite: its contract. -/
namespace Go.Proofs.YtlbolbkikkiifaaGreatDoor
open Go.RowKit

set_option maxRecDepth 100000 in
set_option maxHeartbeats 3200000 in
theorem opposite_any (r : GReq) (ao : Option Addr) (c : Nat) (w : World) (hk : 1 ≤ r.kind ∧ r.kind ≤ 4) :
    Calls Tryz.prog 30 #[.agg #[.string r.key, .int .i64 r.kind, .slice ao r.vals.length c]] w fun e w' => e = .returned (.agg #[.string r.key, .int .i64 (oppK r.kind), .slice ao r.vals.length c]) ∧ Below w.heap.size w w' := by
  obtain ⟨kd, Hkd⟩ : ∃ kd, Hid (r.kind = kd) := ⟨_, Lib.hid rfl⟩
  rw [Hkd.out] at hk ⊢
  obtain ⟨w2, hw⟩ : ∃ w2, w2 = (w.alloc (.cells #[.string r.key, .int .i64 kd, .slice ao r.vals.length c] 26)).alloc (.cells #[.string ⟨#[]⟩, .int .i64 0, .slice none 0 0] 26) := ⟨_, rfl⟩
  have b1 : w2.heap[w.heap.size]? = some (.cells #[.string r.key, .int .i64 kd, .slice ao r.vals.length c] 26 (0, 0)) := by rw [hw]; exact heap_alloc_old (heap_alloc_new w _)
  have b2 : w2.heap[w.heap.size + 1]? = some (.cells #[.string ⟨#[]⟩, .int .i64 0, .slice none 0 0] 26 (0, 0)) := by rw [hw]; exact heap_alloc_at (World.size_alloc _ _).symm
  have hb2 : Below w.heap.size w w2 := by rw [hw]; exact ((Below.refl _ w).alloc (Nat.le_refl _) _).alloc (by rw [World.size_alloc]; omega) _
  have Hb2 := Lib.hid hb2
  have cc := fun i => cell_block b1 i
  have B2 := Lib.hid b2
  clear b1 b2 hb2
  have way : kd = 1 ∨ kd = 2 ∨ kd = 3 ∨ kd = 4 := by omega
  go_enter Tryz.func30, Tryz.ntmps30
  go_upto_region 1 with fail
  rw [← hw]
  clear hw
  refine wp_region_hold 9 (fun w' => ∃ q, w' = w2.drewN q) (by kernel_rfl) (by kernel_rfl) ?_ ?_
  · exact ⟨1, rfl⟩
  simp only [List.take_succ_cons, List.take_zero, List.drop_succ_cons, List.drop_zero]
  (first | (refine wpHold_pure (v := ?_) (by rfl) (fun w => ?_) ?_; rotate_left; focus (first | (go_simp; done) | (go_simp; with_reducible rfl))) | (refine wpHold_skip ?_ ?_; focus (go_simp; done)) | (refine wpHold_pure' (v := ?_) ?_ (fun w => ?_) ?_; rotate_left; focus (go_simp; done); focus (first | (go_simp; done) | (go_simp; with_reducible rfl)))); try simp only [Act.put, List.setIfInBounds_toArray, List.set_cons_zero, List.set_cons_succ]
  refine wpHold_read (v := .string r.key) (by rfl) (fun w' hI => ?_) ?_
  · obtain ⟨q, rfl⟩ := hI
    have dd := fun i => (show (w2.drewN q).cell? ⟨w.heap.size, i, none⟩ = _ from cc i)
    go_simp
    done
  try simp only [Act.put, List.setIfInBounds_toArray, List.set_cons_zero, List.set_cons_succ]
  (first | (refine wpHold_pure (v := ?_) (by rfl) (fun w => ?_) ?_; rotate_left; focus (first | (go_simp; done) | (go_simp; with_reducible rfl))) | (refine wpHold_skip ?_ ?_; focus (go_simp; done)) | (refine wpHold_pure' (v := ?_) ?_ (fun w => ?_) ?_; rotate_left; focus (go_simp; done); focus (first | (go_simp; done) | (go_simp; with_reducible rfl)))); try simp only [Act.put, List.setIfInBounds_toArray, List.set_cons_zero, List.set_cons_succ]
  refine wpHold_read (v := .slice ao r.vals.length c) (by rfl) (fun w' hI => ?_) ?_
  · obtain ⟨q, rfl⟩ := hI
    have dd := fun i => (show (w2.drewN q).cell? ⟨w.heap.size, i, none⟩ = _ from cc i)
    go_simp
    done
  try simp only [Act.put, List.setIfInBounds_toArray, List.set_cons_zero, List.set_cons_succ]
  (first | (refine wpHold_pure (v := ?_) (by rfl) (fun w => ?_) ?_; rotate_left; focus (first | (go_simp; done) | (go_simp; with_reducible rfl))) | (refine wpHold_skip ?_ ?_; focus (go_simp; done)) | (refine wpHold_pure' (v := ?_) ?_ (fun w => ?_) ?_; rotate_left; focus (go_simp; done); focus (first | (go_simp; done) | (go_simp; with_reducible rfl)))); try simp only [Act.put, List.setIfInBounds_toArray, List.set_cons_zero, List.set_cons_succ]
  (first | (refine wpHold_pure (v := ?_) (by rfl) (fun w => ?_) ?_; rotate_left; focus (first | (go_simp; done) | (go_simp; with_reducible rfl))) | (refine wpHold_skip ?_ ?_; focus (go_simp; done)) | (refine wpHold_pure' (v := ?_) ?_ (fun w => ?_) ?_; rotate_left; focus (go_simp; done); focus (first | (go_simp; done) | (go_simp; with_reducible rfl)))); try simp only [Act.put, List.setIfInBounds_toArray, List.set_cons_zero, List.set_cons_succ]
  refine wpHold_read (v := .int .i64 kd) (by rfl) (fun w' hI => ?_) ?_
  · obtain ⟨q, rfl⟩ := hI
    have dd := fun i => (show (w2.drewN q).cell? ⟨w.heap.size, i, none⟩ = _ from cc i)
    go_simp
    done
  try simp only [Act.put, List.setIfInBounds_toArray, List.set_cons_zero, List.set_cons_succ]
  rcases way with rfl | rfl | rfl | rfl
  · refine wpHold_pure (v := .int .i64 2) (by rfl) (fun w => ?_) ?_
    · first
        | (go_simp; done)
        | rfl
    try simp only [Act.put, List.setIfInBounds_toArray, List.set_cons_zero, List.set_cons_succ]
    refine wpHold_pure (v := .agg #[.string r.key, .int .i64 2, .slice ao r.vals.length c]) (by rfl) (fun w => ?_) ?_
    · first
        | (go_simp; done)
        | rfl
    try simp only [Act.put, List.setIfInBounds_toArray, List.set_cons_zero, List.set_cons_succ]
    refine wpHold_nil ?_
    rintro w' ⟨q, rfl⟩
    have B2' : (w2.drewN q).heap[w.heap.size + 1]? = some (.cells #[.string ⟨#[]⟩, .int .i64 0, .slice none 0 0] 26 (0, 0)) := B2.out
    refine wpList_store_box (by rfl) _ _ _ (by rfl) (w.heap.size + 1) #[.string r.key, .int .i64 2, .slice ao r.vals.length c] (by rfl) (by rfl) _ _ B2' Tryz.sizeReq (by rfl) (by simp [Value.oneCell']) ?_
    intro W b4 t4
    have Hb4 := Lib.hid (t4.below (Hb2.out.trans (below_drewN _ w2 q)) (Nat.le_succ _))
    clear t4 B2'
    have c4 := fun i => cell_block b4 i
    go_wp2_with fail
    refine bodyPost_ret (v := .agg #[.string r.key, .int .i64 2, .slice ao r.vals.length c]) (by simp [results, Tryz.results30, go_sem, c4]) rfl ⟨by rw [show oppK 1 = 2 from rfl], Hb4.out⟩
  · refine wpHold_pure (v := .int .i64 1) (by rfl) (fun w => ?_) ?_
    · first
        | (go_simp; done)
        | rfl
    try simp only [Act.put, List.setIfInBounds_toArray, List.set_cons_zero, List.set_cons_succ]
    refine wpHold_pure (v := .agg #[.string r.key, .int .i64 1, .slice ao r.vals.length c]) (by rfl) (fun w => ?_) ?_
    · first
        | (go_simp; done)
        | rfl
    try simp only [Act.put, List.setIfInBounds_toArray, List.set_cons_zero, List.set_cons_succ]
    refine wpHold_nil ?_
    rintro w' ⟨q, rfl⟩
    have B2' : (w2.drewN q).heap[w.heap.size + 1]? = some (.cells #[.string ⟨#[]⟩, .int .i64 0, .slice none 0 0] 26 (0, 0)) := B2.out
    refine wpList_store_box (by rfl) _ _ _ (by rfl) (w.heap.size + 1) #[.string r.key, .int .i64 1, .slice ao r.vals.length c] (by rfl) (by rfl) _ _ B2' Tryz.sizeReq (by rfl) (by simp [Value.oneCell']) ?_
    intro W b4 t4
    have Hb4 := Lib.hid (t4.below (Hb2.out.trans (below_drewN _ w2 q)) (Nat.le_succ _))
    clear t4 B2'
    have c4 := fun i => cell_block b4 i
    go_wp2_with fail
    refine bodyPost_ret (v := .agg #[.string r.key, .int .i64 1, .slice ao r.vals.length c]) (by simp [results, Tryz.results30, go_sem, c4]) rfl ⟨by rw [show oppK 2 = 1 from rfl], Hb4.out⟩
  · refine wpHold_pure (v := .int .i64 4) (by rfl) (fun w => ?_) ?_
    · first
        | (go_simp; done)
        | rfl
    try simp only [Act.put, List.setIfInBounds_toArray, List.set_cons_zero, List.set_cons_succ]
    refine wpHold_pure (v := .agg #[.string r.key, .int .i64 4, .slice ao r.vals.length c]) (by rfl) (fun w => ?_) ?_
    · first
        | (go_simp; done)
        | rfl
    try simp only [Act.put, List.setIfInBounds_toArray, List.set_cons_zero, List.set_cons_succ]
    refine wpHold_nil ?_
    rintro w' ⟨q, rfl⟩
    have B2' : (w2.drewN q).heap[w.heap.size + 1]? = some (.cells #[.string ⟨#[]⟩, .int .i64 0, .slice none 0 0] 26 (0, 0)) := B2.out
    refine wpList_store_box (by rfl) _ _ _ (by rfl) (w.heap.size + 1) #[.string r.key, .int .i64 4, .slice ao r.vals.length c] (by rfl) (by rfl) _ _ B2' Tryz.sizeReq (by rfl) (by simp [Value.oneCell']) ?_
    intro W b4 t4
    have Hb4 := Lib.hid (t4.below (Hb2.out.trans (below_drewN _ w2 q)) (Nat.le_succ _))
    clear t4 B2'
    have c4 := fun i => cell_block b4 i
    go_wp2_with fail
    refine bodyPost_ret (v := .agg #[.string r.key, .int .i64 4, .slice ao r.vals.length c]) (by simp [results, Tryz.results30, go_sem, c4]) rfl ⟨by rw [show oppK 3 = 4 from rfl], Hb4.out⟩
  · refine wpHold_pure (v := .int .i64 3) (by rfl) (fun w => ?_) ?_
    · first
        | (go_simp; done)
        | rfl
    try simp only [Act.put, List.setIfInBounds_toArray, List.set_cons_zero, List.set_cons_succ]
    refine wpHold_pure (v := .agg #[.string r.key, .int .i64 3, .slice ao r.vals.length c]) (by rfl) (fun w => ?_) ?_
    · first
        | (go_simp; done)
        | rfl
    try simp only [Act.put, List.setIfInBounds_toArray, List.set_cons_zero, List.set_cons_succ]
    refine wpHold_nil ?_
    rintro w' ⟨q, rfl⟩
    have B2' : (w2.drewN q).heap[w.heap.size + 1]? = some (.cells #[.string ⟨#[]⟩, .int .i64 0, .slice none 0 0] 26 (0, 0)) := B2.out
    refine wpList_store_box (by rfl) _ _ _ (by rfl) (w.heap.size + 1) #[.string r.key, .int .i64 3, .slice ao r.vals.length c] (by rfl) (by rfl) _ _ B2' Tryz.sizeReq (by rfl) (by simp [Value.oneCell']) ?_
    intro W b4 t4
    have Hb4 := Lib.hid (t4.below (Hb2.out.trans (below_drewN _ w2 q)) (Nat.le_succ _))
    clear t4 B2'
    have c4 := fun i => cell_block b4 i
    go_wp2_with fail
    refine bodyPost_ret (v := .agg #[.string r.key, .int .i64 3, .slice ao r.vals.length c]) (by simp [results, Tryz.results30, go_sem, c4]) rfl ⟨by rw [show oppK 4 = 3 from rfl], Hb4.out⟩
end Go.Proofs.YtlbolbkikkiifaaGreatDoor
/- Drawn regions by one fact an operation, where a fact may end at an operation that is told (an append may turn what another one made). Any program. -/
namespace Go.Proofs.YtlbolbkikkiifaaGreatDoor
open Go

section
variable {P : Program} {ops : Array Oper} {md : Region.Mode}
theorem wpAny_relX {n g : Nat} {hs : List Oper} {a0 : Act} {I : World → Prop} {R : Nat → (Nat → Value) → World → Prop} {deps kills : Nat → List Nat} {Q : Exit → Act → World → Prop}
    (hops : ∀ j, j < n → hs[j]? = ops[j]?) (hn : n < ops.size) (hap : apartDsts hs)
    (hs1 : Region.sinkB md ops n = true) (hc1 : Region.chainB md ops n = true)
    (hback : ∀ i o, ops[i]? = some o → ∀ e ∈ o.after, Region.binds md e = true → e.on < i)
    (hdeps : ∀ i o, hs[i]? = some o → ∀ j ∈ deps i, j < n ∧ ∃ e ∈ o.after, Region.binds md e = true ∧ e.on = j)
    (hkill : ∀ i o, hs[i]? = some o → ∀ d ∈ deps i, ∀ i' ∈ kills d, i' = i ∨ ∃ o', ops[i']? = some o' ∧ ∃ e ∈ o'.after, Region.binds md e = true ∧ e.on = i)
    (hloc : ∀ j u u' w, (∀ k, (k = j ∨ k ∈ deps j) → u k = u' k) → R j u w → R j u' w)
    (obl : ∀ i o, hs[i]? = some o → ∀ (u : Nat → Value) w, I w → (∀ j ∈ deps i, R j u w) →
      (Region.wanted o (yielded ops (putAll hs u 0 a0).tmps) = true ∧ gives P (fun v w' => R i (upd u i v) w' ∧ I w' ∧ ∀ j u, j ≠ i → i ∉ kills j → R j u w → R j u w') ((execOp (putAll hs u 0 a0).eval o).run P w)) ∨
      (Region.wanted o (yielded ops (putAll hs u 0 a0).tmps) = false ∧ R i (upd u i undef) w))
    (hend : ∀ (u : Nat → Value) w, I w → (∀ j, j < n → kills j = [] → R j u w) → wpAny P md ops Q g (canon n ops.size) (putAll hs u 0 a0) w) :
    ∀ (f : Nat) (listed : Array Bool) (u : Nat → Value) (w : World), unl listed n = f → HeadInv md ops n listed → I w → (∀ j, j < n → listed.getD j false = true → (∀ i ∈ kills j, listed.getD i false = false) → R j u w) →
      wpAny P md ops Q (f + g) listed (putAll hs u 0 a0) w := by
  intro f
  induction f with
  | zero =>
    intro listed u w hf inv hI hR
    rw [Nat.zero_add, eq_canon inv hf]
    refine hend u w hI fun j hj hk0 => hR j hj (getD_false (by rw [inv.size]; omega) (unl_zero hf j hj)) (fun i hi => by rw [hk0] at hi; cases hi)
  | succ f ih =>
    intro listed u w hf inv hI hR
    obtain ⟨k, hk, hku, hkr⟩ := ready_ex inv hback (by omega) (by omega)
    rw [show f + 1 + g = (f + g) + 1 by omega]
    refine ⟨fun h => (by rw [h] at hkr; cases hkr), fun i hi => ?_⟩
    have hin : i < n := by
      rcases Nat.lt_or_ge i n with h | h
      · exact h
      · exact absurd hi (tail_waits hs1 hc1 hn inv _ k rfl hk hku i h)
    obtain ⟨hiu, o, ho, hall⟩ := mem_ready.1 hi
    have ho' : hs[i]? = some o := (hops i hin).trans ho
    have hRd : ∀ j ∈ deps i, R j u w := fun j hj => by
      obtain ⟨hjn, e, he, hb, hon⟩ := hdeps i o ho' j hj
      refine hR j hjn (by rw [← hon]; exact hall e he hb) fun i' hi' => ?_
      rcases hkill i o ho' j hj i' hi' with rfl | ⟨o', ho2, e', he', hb', hon'⟩
      · exact getD_both hiu
      · cases hl : listed.getD i' false with
        | false => rfl
        | true =>
          have h1 := inv.closed i' o' ho2 hl e' he' hb'
          rw [hon', getD_both hiu] at h1
          cases h1
    have next : ∀ v w', R i (upd u i v) w' → I w' → (∀ j u, j ≠ i → i ∉ kills j → R j u w → R j u w') → wpAny P md ops Q (f + g) (listed.setIfInBounds i true) ((putAll hs u 0 a0).put o.dst v) w' := fun v w' hv hI' hst => by
      rw [putAll_set hs u 0 i a0 o v hap ho']
      have hil : i < listed.size := by rw [inv.size]; omega
      refine ih _ _ w' (by have := unl_set hin hiu hil; omega) (inv.set hi hin) hI' fun j hj hl hal => ?_
      have hup : (fun j => if j = 0 + i then v else u j) = upd u i v := by funext j; simp [upd]
      rw [hup]
      by_cases hji : j = i
      · subst hji; exact hv
      · rw [getD_set_ne false (fun h => hji h.symm)] at hl
        have hik : i ∉ kills j := fun hik => by
          have h1 := hal i hik
          have hil2 : i < listed.size := hil
          have : (listed.setIfInBounds i true).getD i false = true := by simp [Array.getD, hil2]
          rw [this] at h1
          cases h1
        refine hloc j u _ w' (fun q hq => ?_) (hst _ _ hji hik (hR j hj hl (fun i' hi' => by
          have h1 := hal i' hi'
          by_cases hii : i' = i
          · subst hii; exact absurd hi' hik
          · rwa [getD_set_ne false (fun h => hii h.symm)] at h1)))
        unfold upd
        rw [if_neg ?_]
        rintro rfl
        rcases hq with rfl | hq
        · exact hji rfl
        · have hjo : ∃ oj, hs[j]? = some oj := by
            have hlen := hops j hj
            have : j < ops.size := by omega
            exact ⟨ops[j], by rw [hlen]; simp [this]⟩
          obtain ⟨oj, hoj⟩ := hjo
          obtain ⟨_, e, he, hb, hon⟩ := hdeps j oj hoj q hq
          have h1 := inv.closed j oj ((hops j hj).symm.trans hoj) hl e he hb
          rw [hon, getD_both hiu] at h1
          cases h1
    unfold wpOp
    simp only [ho]
    rcases obl i o ho' u w hI hRd with ⟨hw, hg⟩ | ⟨hw, hv⟩
    · rw [if_pos hw]
      refine .inl ?_
      unfold Oper.wp
      exact gives_upon (R := fun v w' => R i (upd u i v) w' ∧ I w' ∧ ∀ j u, j ≠ i → i ∉ kills j → R j u w → R j u w') (fun v w' h => next v w' h.1 h.2.1 h.2.2) hg
    · rw [if_neg (by rw [hw]; simp)]
      exact next undef w hv hI (fun _ _ _ _ h => h)


/-- and: where a fact is looked at, what ends it has not been -/
def relXB (md : Region.Mode) (l : List Oper) (n : Nat) (deps kills : Nat → List Nat) : Bool :=
  relB md l n deps && ((List.range n).all fun i => (deps i).all fun d => (kills d).all fun i' => i' == i || (match l[i']? with | some o' => o'.after.any fun e => Region.binds md e && e.on == i | none => false))
theorem wp_region_relXr {id : Nat} {Q : Exit → Act → World → Prop} {a : Act} {w : World} {l : List Oper} (n : Nat) (I : World → Prop) (R : Nat → (Nat → Value) → World → Prop) (deps kills : Nat → List Nat)
    (hm : P.follows .mixedOrders = true) (hB : relXB .any l n deps kills = true) (hloc : ∀ j u u' w, (∀ k, (k = j ∨ k ∈ deps j) → u k = u' k) → R j u w → R j u' w) (hI : I w.drew)
    (obl : ∀ i o, (l.take n)[i]? = some o → ∀ (u : Nat → Value) w, I w → (∀ j ∈ deps i, R j u w) →
      (Region.wanted o (yielded l.toArray (putAll (l.take n) u 0 a).tmps) = true ∧ gives P (fun v w' => R i (upd u i v) w' ∧ I w' ∧ ∀ j u, j ≠ i → i ∉ kills j → R j u w → R j u w') ((execOp (putAll (l.take n) u 0 a).eval o).run P w)) ∨
      (Region.wanted o (yielded l.toArray (putAll (l.take n) u 0 a).tmps) = false ∧ R i (upd u i undef) w))
    (htail : ∀ (u : Nat → Value) w, I w → (∀ j, j < n → kills j = [] → R j u w) → wpList P l.toArray Q (l.drop n) (putAll (l.take n) u 0 a) w) : (Code.region id l.toArray true).wp P Q a w := by
  rw [relXB, Bool.and_eq_true] at hB
  obtain ⟨hB, hkl⟩ := hB
  simp only [relB, Bool.and_eq_true, decide_eq_true_eq, List.all_eq_true, List.mem_range] at hB
  simp only [List.all_eq_true, List.mem_range] at hkl
  obtain ⟨⟨⟨⟨⟨⟨hn, hs1⟩, hc1⟩, hback⟩, hap⟩, hdeps⟩, hseq⟩ := hB
  have hsz : l.toArray.size = l.length := by simp
  refine wp_region_any hm ?_
  have hown : putAll (l.take n) (fun j => slotOf a (((l.take n)[j]?).bind (·.dst))) 0 a = a := putAll_own _ 0 a _ fun j o ho => by simp only [Nat.zero_add]; rw [ho]; rfl
  have hu0 : unl (Array.replicate l.toArray.size false) n = n := by
    have key : ∀ m, m ≤ l.length → unl (Array.replicate l.toArray.size false) m = m := by
      intro m
      induction m with
      | zero => intro _; rfl
      | succ m ih =>
        intro h
        unfold unl
        rw [ih (by omega), if_neg (by simp [Array.getD, show m < l.length by omega])]
    exact key n (by omega)
  have inv0 : HeadInv .any l.toArray n (Array.replicate l.toArray.size false) :=
    ⟨by simp, fun j oj _ hl => (by rw [getD_replicate_false] at hl; cases hl), fun t _ ht => getD_in (by simpa using ht) (getD_replicate_false _ _)⟩
  have H := wpAny_relX (P := P) (ops := l.toArray) (md := .any) (n := n) (g := l.length - n) (hs := l.take n) (a0 := a) (I := I) (R := R) (deps := deps) (kills := kills) (Q := Q)
    (fun j hj => by simp [List.getElem?_take_of_lt hj]) (by simpa using hn)
    (List.pairwise_iff_getElem.2 fun i j hi hj hij d hd => by
      have hi' : i < l.length := by simp at hi; omega
      have hj' : j < l.length := by simp at hj; omega
      have hjn : j < n := by simp at hj; omega
      have := hap j hjn i hij
      rw [List.getElem?_eq_getElem hj', List.getElem?_eq_getElem hi'] at this
      simp only [List.getElem_take] at hd ⊢
      simp only [hd] at this
      simpa using this)
    hs1 hc1
    (fun i o ho e he hb => by
      have ho' : l[i]? = some o := by simpa using ho
      have hil : i < l.length := (List.getElem?_eq_some_iff.1 ho').1
      have := hback i hil
      rw [ho'] at this
      have := Array.all_eq_true'.1 this e he
      simpa [hb] using this)
    (fun i o ho j hj => by
      have hin : i < n := by have := (List.getElem?_eq_some_iff.1 ho).1; simp at this; omega
      have ho' : l[i]? = some o := by rw [List.getElem?_take_of_lt hin] at ho; exact ho
      have := hdeps i hin
      rw [ho'] at this
      have := List.all_eq_true.1 this j hj
      simp only [Bool.and_eq_true, decide_eq_true_eq] at this
      obtain ⟨e, he, hb⟩ := Array.any_eq_true'.1 this.2
      simp only [Bool.and_eq_true, beq_iff_eq] at hb
      exact ⟨this.1, e, he, hb.1, hb.2⟩)
    (fun i o ho d hd i' hi' => by
      have hin : i < n := by have := (List.getElem?_eq_some_iff.1 ho).1; simp at this; omega
      have ho' : l[i]? = some o := by rw [List.getElem?_take_of_lt hin] at ho; exact ho
      have h1 := hkl i hin d hd i' hi'
      rw [Bool.or_eq_true] at h1
      rcases h1 with h1 | h1
      · left; simpa using h1
      · right
        cases ho2 : l[i']? with
        | none => rw [ho2] at h1; cases h1
        | some o' =>
          rw [ho2] at h1
          obtain ⟨e, he, hb⟩ := Array.any_eq_true'.1 h1
          simp only [Bool.and_eq_true, beq_iff_eq] at hb
          exact ⟨o', by simpa using ho2, e, he, hb.1, hb.2⟩)
    hloc obl
    (fun u w' hI' hR => by
      have := wpAny_of_seq (md := .any) (Q' := Q) (l.drop n) n (canon n l.toArray.size) (putAll (l.take n) u 0 a) w' (fun j => by simp [List.getElem?_drop]) (by rw [List.length_drop, hsz]; exact hseq) (htail u w' hI' hR)
      rwa [List.length_drop] at this)
    n (Array.replicate l.toArray.size false) (fun j => slotOf a (((l.take n)[j]?).bind (·.dst))) w.drew hu0 inv0 hI (fun j _ hl _ => by rw [getD_replicate_false] at hl; cases hl)
  rw [hown, show n + (l.length - n) = l.length by omega] at H
  rw [hsz]
  exact H


theorem wp_region_relX {id : Nat} {Q : Exit → Act → World → Prop} {a : Act} {w : World} {l : List Oper} (n : Nat) (I : World → Prop) (K : Nat → World → World → Prop) (R : Nat → (Nat → Value) → World → Prop) (deps kills : Nat → List Nat)
    (hm : P.follows .mixedOrders = true) (hB : relXB .any l n deps kills = true) (hI0 : I w.drew) (hI : ∀ i w w', K i w w' → I w → I w') (hst : ∀ i j u w w', j ≠ i → i ∉ kills j → K i w w' → I w → R j u w → R j u w')
    (obl : relOblK P l.toArray I K R deps (l.take n) a (l.take n) 0)
    (htail : ∀ (u : Nat → Value) w', I w' → (∀ j, j < n → kills j = [] → R j (mask (deps j) j u) w') → wpList P l.toArray Q (l.drop n) (putAll (l.take n) u 0 a) w') : (Code.region id l.toArray true).wp P Q a w := by
  refine wp_region_relXr n I (fun j u w => R j (mask (deps j) j u) w) deps kills hm hB (fun j u u' w h hR => by rw [← mask_congr h]; exact hR) hI0 (fun i o ho u w' hI' hd => ?_) htail
  have h := relOblK_get (l.take n) 0 obl i o ho u w' hI' (by rw [Nat.zero_add]; exact hd)
  rw [Nat.zero_add] at h
  rcases h with ⟨h1, h2⟩ | h
  · exact .inl ⟨h1, gives_mono (fun v w'' ⟨g1, g2⟩ => ⟨g1, hI _ _ _ g2 hI', fun j u hji hjk hj => hst i j _ _ _ hji hjk g2 hI' hj⟩) h2⟩
  · exact .inr h
end
end Go.Proofs.YtlbolbkikkiifaaGreatDoor
/- query.Implies: its contract. -/
namespace Go.Proofs.YtlbolbkikkiifaaGreatDoor
open Go.RowKit

theorem exec_append {P : Program} {a : Act} {o : Oper} {w w3 : World} {s x : Operand} {t : TypeId} {v xv v' : Value} (ho : o.op = .call { callee := .builtin .append, args := #[s, x], argTypes := #[t, t] }) (hs : a.eval s = v) (hx : a.eval x = xv)
    (hrun : (Builtin.append_ #[t, t] o.type #[v, xv]).run P w = .ok v' w3) : (execOp a.eval o).run P w = .ok (.value v') w3 := by
  simp [execOp, ho, resolve, invoke, builtin, hs, hx, hrun, Result.andThen]
/-- what solve has told -/
def TellS (l : List GReq) (B : Nat) (u : Value) (w' : World) : Prop :=
  ∃ (v' : Value) (out : List GLabel) (is : Bool), u = .tuple #[v', .bool is] ∧ SolveOK l out is ∧ OwnAt LabelR 2 w' B 30 v' out ∧ (∀ x ∈ out, okLab x) ∧ out.length ≤ 9
theorem own_sameBut {α : Type} {R : Rd α} (hf : Flat R) {k : Nat} {w w' : World} {B : Nat} {e e' : TypeId} {v : Value} {l : List α} (h : OwnAt R k w B e v l) (hs : SameBut e' w w') (hne : e ≠ e') : OwnAt R k w' B e v l := by
  obtain ⟨css, h1, h2, h3, h4⟩ := h
  refine ⟨css, h1, h2, ⟨h3.1, ?_⟩, fun j cs y hcs hy => hf _ _ _ _ (h4 j cs y hcs hy)⟩
  rcases h3.2 with h5 | ⟨q, cap, cur, rfl, hB, hh, hr⟩
  · exact .inl h5
  · exact .inr ⟨q, cap, cur, rfl, hB, hs _ _ _ _ hh hne, hr⟩
theorem TellS.sameBut {l : List GReq} {B : Nat} {u : Value} {w w' : World} (h : TellS l B u w) (hs : SameBut 26 w w') : TellS l B u w' := by
  obtain ⟨v', out, is, h1, h2, h3, h4, h5⟩ := h
  exact ⟨v', out, is, h1, h2, own_sameBut flat_lab h3 hs (by decide), h4, h5⟩
theorem TellS.below {l : List GReq} {B : Nat} {u : Value} {w w' : World} (h : TellS l B u w) (hb : Below w.heap.size w w') : TellS l B u w' := by
  obtain ⟨v', out, is, h1, h2, h3, h4, h5⟩ := h
  exact ⟨v', out, is, h1, h2, h3.below flat_lab.stays hb, h4, h5⟩
def ImpliesAt (a b : List GReq) (w : World) (E : Ending) (w' : World) : Prop :=
  ∃ (v' : Value) (out : List GLabel) (is : Bool), E = .returned (.tuple #[.bool is, v', .int .i64 (implyE a b)]) ∧ (implyE a b = 0 → ImplyOK a b out is) ∧ (implyE a b ≠ 0 → is = false ∧ out = []) ∧ (is = true → out = []) ∧ RowAt LabelR 2 w' v' out ∧ (∀ x ∈ out, okLab x) ∧ out.length ≤ 9 ∧ Below w.heap.size w w'
set_option maxRecDepth 100000 in
set_option maxHeartbeats 6400000 in
theorem implies_any (va vb : Value) (a b : List GReq) (m : Int) (w : World) (ha : RowAt ReqR 3 w va a) (hb : RowAt ReqR 3 w vb b) (hla : a.length ≤ 1048576) (hlb : b.length ≤ 1048576) (hoka : ∀ r ∈ a, okReq r) (hokb : ∀ r ∈ b, okReq r) (hm : MaxOK m w) :
    Calls Tryz.prog 9 #[va, vb] w (ImpliesAt a b w) := by
  obtain ⟨i0, hi0, hz0, hz1, hz2⟩ := info_parts Tryz.infoReq
  obtain ⟨a0, c0, rfl, _, _⟩ := ha.len
  obtain ⟨a1, c1, rfl, _, _⟩ := hb.len
  obtain ⟨e1, He1⟩ : ∃ e, Hid (reqsE a = e) := ⟨_, Lib.hid rfl⟩
  obtain ⟨e2, He2⟩ : ∃ e, Hid (reqsE b = e) := ⟨_, Lib.hid rfl⟩
  have hE : implyE a b = if e1 = 0 then e2 else e1 := by unfold implyE; rw [He1.out, He2.out]
  have HE := Lib.hid hE
  have Hat := Lib.hid (ha.atW (Below.refl _ _))
  have Ha := Lib.hid ha
  have Hb := Lib.hid hb
  have Hoka := Lib.hid hoka
  have Hokb := Lib.hid hokb
  have Hm := Lib.hid hm
  clear ha hb hoka hokb hm hE
  go_enter Tryz.func9, Tryz.ntmps9
  go_wp2_with fail
  refine (checks_any _ a m w Ha.out hla Hoka.out Hm.out).mono ?_
  rintro E w1 ⟨rfl, hb1⟩
  have Hb1 := Lib.hid hb1
  rw [He1.out]
  clear hb1
  by_cases h1 : e1 = 0
  · subst h1
    go_wp2_with fail
    refine (checks_any _ b m w1 (Hb.out.below stays_req Hb1.out) hlb Hokb.out (Hm.out.below Hb1.out)).mono ?_
    rintro E w2 ⟨rfl, hb2⟩
    have Hb2 := Lib.hid (Hb1.out.trans (hb2.mono Hb1.out.size))
    rw [He2.out]
    clear hb2
    by_cases h2 : e2 = 0
    · subst h2
      have hz : implyE a b = 0 := by rw [HE.out]; rfl
      have Hz := Lib.hid hz
      obtain ⟨hga, hla8⟩ := goods_of He1.out
      obtain ⟨hgb, hlb8⟩ := goods_of He2.out
      have Hga := Lib.hid hga
      have Hgb := Lib.hid hgb
      clear hz hga hgb
      go_wp2_with fail
      go_loopg [23] b.length (fun k u23 wr => ∃ i : Nat, i + k = b.length ∧ u23 = .int .i64 (i : Int) ∧ Hid (∀ r ∈ b.take i, ∀ labels, (a ++ [oppR r]).all (holdsB labels) = false) ∧ Hid (Below w.heap.size w wr))
      case atStart => exact ⟨0, by omega, rfl, Lib.hid (by simp), Hb2⟩
      case round =>
        obtain ⟨i, hig, rfl, Hno, Hbel⟩ := hrel
        have hsr := Hbel.out.size
        cases gk with
        | zero =>
          obtain rfl : i = b.length := by omega
          have hno := Hno.out
          rw [List.take_of_length_le (Nat.le_refl _)] at hno
          have Hno2 := Lib.hid hno
          clear hno
          go_wp2_with fail
          go_ret3
          exact ⟨_, [], true, by rw [Hz.out]; rfl, fun _ => ⟨fun _ => Hno2.out, fun h => by cases h⟩, fun h => absurd Hz.out h, fun _ => rfl, RowAt.nil _, by simp, by simp, Hbel.out⟩
        | succ k =>
          have hil : i < b.length := by omega
          obtain ⟨r, hri⟩ : ∃ r, b[i]? = some r := ⟨b[i]'(by omega), List.getElem?_eq_getElem _⟩
          have hrb := List.mem_of_getElem? hri
          obtain ⟨bb, o, c', hv, _, _, hbs, hcell⟩ := Hb.out.form (by omega) (by omega)
          injection hv with u1 u2 u3
          subst u1
          clear u2 u3
          obtain ⟨ds, _, hcc, hR⟩ := hcell i r hri
          obtain ⟨y2, rfl, hwf, hst⟩ := hR
          obtain ⟨ao, co, rfl, _, _⟩ := hst.row.len
          have e0 : wr.cell? ⟨bb, o + i * 3, none⟩ = some (.string r.key) := (Hbel.out.cell (p := ⟨bb, _, none⟩) hbs).trans (by simpa using hcc 0 _ rfl)
          have e3 : wr.cell? ⟨bb, o + i * 3 + 1, none⟩ = some (.int .i64 r.kind) := (Hbel.out.cell (p := ⟨bb, _, none⟩) hbs).trans (hcc 1 _ rfl)
          have e4 : wr.cell? ⟨bb, o + i * 3 + 2, none⟩ = some (.slice ao r.vals.length co) := (Hbel.out.cell (p := ⟨bb, _, none⟩) hbs).trans (hcc 2 _ rfl)
          have q1 : (0 : Int) ≤ (i : Int) := by omega
          have q2 : (i : Int) < (b.length : Int) := by omega
          have hkr := (Hgb.out r hrb).kind
          have Hri := Lib.hid hri
          have hoppR : ReqR w [.string r.key, .int .i64 (oppK r.kind), .slice ao r.vals.length co] (oppR r) := by
            refine ⟨.slice ao r.vals.length co, rfl, ?_, hst⟩
            have hk : r.kind = 1 ∨ r.kind = 2 ∨ r.kind = 3 ∨ r.kind = 4 := by omega
            show (Lit.int .i64 (oppK r.kind)).wf = true
            rcases hk with h | h | h | h <;> rw [h] <;> decide
          have HoppR := Lib.hid hoppR
          have Hrok := Lib.hid (Hokb.out r hrb)
          have Hrg := Lib.hid (Hgb.out r hrb)
          clear hcc hcell hri hst hwf hoppR hrb
          go_upto_region 9 with fail
          obtain ⟨W, hW⟩ : ∃ W, W = wr.alloc (.cells #[.string r.key, .int .i64 r.kind, .slice ao r.vals.length co] 26) := ⟨_, rfl⟩
          obtain ⟨gb, hgb⟩ : ∃ gb, gb = wr.heap.size := ⟨_, rfl⟩
          rw [← hW, ← hgb]
          have d0 : W.heap[gb]? = some (.cells #[.string r.key, .int .i64 r.kind, .slice ao r.vals.length co] 26 (0, 0)) := by rw [hW, hgb]; exact heap_alloc_new wr _
          have hb5 : Below wr.heap.size wr W := by rw [hW]; exact (Below.refl _ _).alloc (Nat.le_refl _) _
          have HW := Lib.hid (Hbel.out.trans (hb5.mono hsr))
          have hWs := HW.out.size
          have hgW : gb < W.heap.size := (Array.getElem?_eq_some_iff.1 d0).1
          clear hW hgb hb5 e0 e3 e4
          have Hg10 : Hid (∀ q ∈ a ++ [oppR r], GoodR q) := Lib.hid fun q hq => by
            rcases List.mem_append.1 hq with h | h
            · exact Hga.out q h
            · rw [List.mem_singleton.1 h]; exact good_opp Hrg.out
          have Hok10 : Hid (∀ q ∈ a ++ [oppR r], okReq q) := Lib.hid fun q hq => by
            rcases List.mem_append.1 hq with h | h
            · exact Hoka.out q h
            · rw [List.mem_singleton.1 h]; exact Hrok.out
          refine wp_region_relX 11 (fun w' => Below W.heap.size W w') (fun j w1 w2 => if j = 5 then SameBut 26 w1 w2 ∧ Below W.heap.size w1 w2 else Below w1.heap.size w1 w2) (fun j u w' => match j with
            | 0 => u 0 = .slice a0 a.length c0 | 1 => OwnAt (ReqW w) 3 w' W.heap.size 26 (u 1) a | 2 => u 2 = .agg #[.string r.key, .int .i64 r.kind, .slice ao r.vals.length co]
            | 3 => u 3 = .agg #[.string r.key, .int .i64 (oppK r.kind), .slice ao r.vals.length co] | 4 => RowAt (ReqW w) 3 w' (u 4) [oppR r]
            | 5 => OwnAt (ReqW w) 3 w' W.heap.size 26 (u 5) (a ++ [oppR r])
            | 6 => TellS (a ++ [oppR r]) W.heap.size (u 6) w' | 7 => TellS (a ++ [oppR r]) W.heap.size (u 7) w'
            | 8 => ∃ p q : Value, u 7 = .tuple #[p, q] ∧ u 8 = p | 9 => ∃ p q : Value, u 7 = .tuple #[p, q] ∧ u 9 = q | 10 => u 10 = u 8
            | _ => True)
            (fun | 1 => [0] | 3 => [1, 2] | 4 => [3] | 5 => [1, 4] | 6 => [5] | 7 => [6] | 8 => [7] | 9 => [7] | 10 => [8] | _ => []) (fun | 1 => [5] | 4 => [5] | _ => []) (by kernel_rfl) (by kernel_rfl) (Below.refl _ W).drew ?_ ?_ ⟨?_, ?_, ?_, ?_, ?_, ?_, ?_, ?_, ?_, ?_, ?_, trivial⟩ ?_
          · intro j w1 w2 hk hI
            by_cases h5 : j = 5
            · rw [if_pos h5] at hk
              exact hI.trans hk.2
            · rw [if_neg h5] at hk
              exact hI.trans (hk.mono hI.size)
          · intro i' j u w1 w2 hji hkill hk hI h
            by_cases h5 : i' = 5
            · rw [if_pos h5] at hk
              subst h5
              match j, hji, hkill, h with
              | 0, _, _, h => exact h
              | 1, _, hkill, _ => exact absurd (by simp) hkill
              | 2, _, _, h => exact h
              | 3, _, _, h => exact h
              | 4, _, hkill, _ => exact absurd (by simp) hkill
              | 5, hji, _, _ => exact absurd rfl hji
              | 6, _, _, h => exact TellS.sameBut h hk.1
              | 7, _, _, h => exact TellS.sameBut h hk.1
              | 8, _, _, h => exact h
              | 9, _, _, h => exact h
              | 10, _, _, h => exact h
              | _ + 11, _, _, h => trivial
            · rw [if_neg h5] at hk
              match j, h with
              | 0, h => exact h
              | 1, h => exact OwnAt.below (flat_atW w ReqR).stays h hk
              | 2, h => exact h
              | 3, h => exact h
              | 4, h => exact RowAt.below (flat_atW w ReqR).stays h hk
              | 5, h => exact OwnAt.below (flat_atW w ReqR).stays h hk
              | 6, h => exact TellS.below h hk
              | 7, h => exact TellS.below h hk
              | 8, h => exact h
              | 9, h => exact h
              | 10, h => exact h
              | _ + 11, h => trivial
          · intro x' w' hb hd
            refine owesK_here (.slice a0 a.length c0) (by rfl) ?_ rfl (else_of (by decide) (Below.refl _ _))
            simp only [putAll, List.take_succ_cons, List.take_zero]
            go_simp
          · intro x' w' hb hd
            have h0 : x' 0 = .slice a0 a.length c0 := hd 0 (by simp)
            have hb2 : Below w.heap.size w w' := HW.out.trans (hb.mono hWs)
            refine owesK_call 29 #[.slice a0 a.length c0] (by rfl) ?_ ((cloneReq_any (flat_atW w ReqR) (one_atW w one_req) _ a w' (Hat.out.below (flat_atW w ReqR).stays hb2) (by omega)).mono ?_)
            · simp only [putAll, List.take_succ_cons, List.take_zero]
              go_simp
            · rintro _ w2 ⟨v2, rfl, ho, hb3⟩
              exact ⟨v2, rfl, ho.mono hb.size, else_of (by decide) hb3⟩
          · intro x' w' hb hd
            have d1 := (hb.block gb hgW).trans d0
            refine owesK_here (.agg #[.string r.key, .int .i64 r.kind, .slice ao r.vals.length co]) (by rfl) ?_ rfl (else_of (by decide) (Below.refl _ _))
            simp only [putAll, List.take_succ_cons, List.take_zero]
            have e3 := fun i => cell_block d1 i
            go_simp
          · intro x' w' hb hd
            have h2 : x' 2 = .agg #[.string r.key, .int .i64 r.kind, .slice ao r.vals.length co] := hd 2 (by simp)
            refine owesK_call 30 #[.agg #[.string r.key, .int .i64 r.kind, .slice ao r.vals.length co]] (by rfl) ?_ ((opposite_any r ao co w' hkr).mono ?_)
            · simp only [putAll, List.take_succ_cons, List.take_zero]
              rw [h2]
              go_simp
            · rintro _ w2 ⟨rfl, hb3⟩
              exact ⟨_, rfl, rfl, else_of (by decide) hb3⟩
          · intro x' w' hb hd
            have h3 : x' 3 = .agg #[.string r.key, .int .i64 (oppK r.kind), .slice ao r.vals.length co] := hd 3 (by simp)
            refine owesK_makes (w' := w'.alloc (.cells #[.string r.key, .int .i64 (oppK r.kind), .slice ao r.vals.length co] 26)) (.slice (some ⟨w'.heap.size, 0, none⟩) 1 1) (by rfl) ?_ (RowAt.one (R := ReqW w) (heap_alloc_new w' _) rfl HoppR.out) (else_of (by decide) ((Below.refl _ w').alloc (Nat.le_refl _) _))
            clear hd
            simp only [putAll, List.take_succ_cons, List.take_zero]
            rw [h3]
            go_simp
          · intro x' w' hb hd
            have h1 : OwnAt (ReqW w) 3 w' W.heap.size 26 (x' 1) a := hd 1 (by simp)
            have h4 : RowAt (ReqW w) 3 w' (x' 4) [oppR r] := hd 4 (by simp)
            obtain ⟨v', w3, hrun, r1, r2, r3, _⟩ := run_append_ownAt (P := Tryz.prog) w' 22 22 i0 _ 48 Tryz.underlying22 hi0 hz0 hz1 hz2 rfl (by omega) (flat_atW w ReqR) (one_atW w one_req) (x' 1) h1 (x' 4) (m := [oppR r]) h4 (by unfold maxLen; simp; omega) (by simp; omega) hb.size
            refine owesK_makes (w' := w3) v' (by rfl) ?_ r1 (then_of rfl ⟨h1.sameBut r2, (Below.refl _ w').grown r2 hb.size r3⟩)
            simp only [putAll, List.take_succ_cons, List.take_zero]
            try simp only [Act.put, List.setIfInBounds_toArray, List.set_cons_zero, List.set_cons_succ]
            exact exec_append (by rfl) (by rfl) (by rfl) hrun
          · intro x' w' hb hd
            have h5 : OwnAt (ReqW w) 3 w' W.heap.size 26 (x' 5) (a ++ [oppR r]) := hd 5 (by simp)
            have hb2 : Below w.heap.size w w' := HW.out.trans (hb.mono hWs)
            refine owesK_call 28 #[x' 5] (by rfl) ?_ ((solve_any (x' 5) (a ++ [oppR r]) w' (h5.row.ofW stays_req hb2) (by rw [List.length_append]; simp; omega) Hok10.out Hg10.out).mono ?_)
            · simp only [putAll, List.take_succ_cons, List.take_zero]
              go_simp
            · rintro _ w2 ⟨v2, out, is, rfl, hs, hr, ho, hlen, hb3⟩
              exact ⟨_, rfl, ⟨v2, out, is, rfl, hs, hr.mono hb.size, ho, hlen⟩, else_of (by decide) hb3⟩
          · intro x' w' hb hd
            have h6 : TellS (a ++ [oppR r]) W.heap.size (x' 6) w' := hd 6 (by simp)
            refine owesK_here (x' 6) (by rfl) ?_ h6 (else_of (by decide) (Below.refl _ _))
            clear hd h6
            simp only [putAll, List.take_succ_cons, List.take_zero]
            go_simp
          · intro x' w' hb hd
            have h7 : TellS (a ++ [oppR r]) W.heap.size (x' 7) w' := hd 7 (by simp)
            obtain ⟨p, out, is, h7, _⟩ := h7
            refine owesK_here p (by rfl) ?_ ⟨p, .bool is, h7, rfl⟩ (else_of (by decide) (Below.refl _ _))
            clear hd
            simp only [putAll, List.take_succ_cons, List.take_zero]
            rw [h7]
            go_simp
          · intro x' w' hb hd
            have h7 : TellS (a ++ [oppR r]) W.heap.size (x' 7) w' := hd 7 (by simp)
            obtain ⟨p, out, is, h7, _⟩ := h7
            refine owesK_here (.bool is) (by rfl) ?_ ⟨p, .bool is, h7, rfl⟩ (else_of (by decide) (Below.refl _ _))
            clear hd
            simp only [putAll, List.take_succ_cons, List.take_zero]
            rw [h7]
            go_simp
          · intro x' w' hb hd
            refine owesK_here (x' 8) (by rfl) ?_ rfl (else_of (by decide) (Below.refl _ _))
            clear hd
            simp only [putAll, List.take_succ_cons, List.take_zero]
            go_simp
          · intro x' w' hb hR
            have h7 : TellS (a ++ [oppR r]) W.heap.size (x' 7) w' := hR 7 (by omega) rfl
            have h8 : ∃ p q : Value, x' 7 = .tuple #[p, q] ∧ x' 8 = p := hR 8 (by omega) rfl
            have h9 : ∃ p q : Value, x' 7 = .tuple #[p, q] ∧ x' 9 = q := hR 9 (by omega) rfl
            have h10 : x' 10 = x' 8 := hR 10 (by omega) rfl
            obtain ⟨p, out, is, h7, hs, hr, ho, hlen⟩ := h7
            obtain ⟨p2, q2, g7, g8⟩ := h8
            obtain ⟨p3, q3, k7, k9⟩ := h9
            have e8 : x' 8 = p := by
              rw [h7] at g7
              injection g7 with g7
              injection g7 with g7
              injection g7 with g7
              rw [g8, g7]
            have e9 : x' 9 = .bool is := by
              rw [h7] at k7
              injection k7 with k7
              injection k7 with k7
              injection k7 with _ k7
              injection k7 with k7
              rw [k9, k7]
            have e10 : x' 10 = p := h10.trans e8
            have Hs := Lib.hid hs
            have Hr := Lib.hid hr.row
            have Ho := Lib.hid ho
            have Hb10 := Lib.hid (HW.out.trans (hb.mono hWs))
            obtain ⟨ap, cp, rfl, _, _⟩ := hr.row.len
            clear hR hs hr ho hb g7 g8 k7 k9 h10 e8 h7
            simp only [putAll, List.take_succ_cons, List.take_zero, List.drop_succ_cons, List.drop_zero]
            rw [e9, e10]
            clear e9 e10
            try simp only [Act.put, List.setIfInBounds_toArray, List.set_cons_zero, List.set_cons_succ]
            cases is with
            | true =>
              have Hfound : Hid (ImplyOK a b out false) := Lib.hid ⟨fun h => (by cases h), fun _ => ⟨r, List.mem_of_getElem? Hri.out, (Hs.out.1 rfl).1, (Hs.out.1 rfl).2⟩⟩
              go_wp2_with fail
              go_ret3
              exact ⟨_, out, false, by rw [Hz.out]; rfl, fun _ => Hfound.out, fun h => absurd Hz.out h, fun h => (by cases h), Hr.out, Ho.out, hlen, Hb10.out⟩
            | false =>
              have Hno2 : Hid (∀ q ∈ b.take (i + 1), ∀ labels, (a ++ [oppR q]).all (holdsB labels) = false) := Lib.hid fun q hq => by
                rw [List.take_add_one, Hri.out] at hq
                rcases List.mem_append.1 hq with h | h
                · exact Hno.out q h
                · simp at h; subst h; exact Hs.out.2 rfl
              go_wp2_with fail
              go_roundg k
              case measure => omega
              case rel => exact ⟨i + 1, by omega, by go_num, Hno2, Hb10⟩
    · have q1 : (e2 == 0) = false := by rw [beq_eq_false_iff_ne]; exact h2
      have q2 : (e2 != 0) = true := by rw [bne_iff_ne]; exact h2
      have hz : implyE a b = e2 := by rw [HE.out]; rfl
      have Hz := Lib.hid hz
      have H2 := Lib.hid h2
      clear h2 hz
      go_wp2_with fail
      go_ret3
      exact ⟨_, [], false, by rw [Hz.out]; rfl, fun h => absurd (Hz.out.symm.trans h) H2.out, fun _ => ⟨rfl, rfl⟩, fun _ => rfl, RowAt.nil _, by simp, by simp, Hb2.out⟩
  · have q1 : (e1 == 0) = false := by rw [beq_eq_false_iff_ne]; exact h1
    have q2 : (e1 != 0) = true := by rw [bne_iff_ne]; exact h1
    have hz : implyE a b = e1 := by rw [HE.out, if_neg h1]
    have Hz := Lib.hid hz
    have H1 := Lib.hid h1
    clear h1 hz
    go_wp2_with fail
    go_ret3
    exact ⟨_, [], false, by rw [Hz.out]; rfl, fun h => absurd (Hz.out.symm.trans h) H1.out, fun _ => ⟨rfl, rfl⟩, fun _ => rfl, RowAt.nil _, by simp, by simp, Hb1.out⟩
end Go.Proofs.YtlbolbkikkiifaaGreatDoor
/- The reference's Eq at texts. -/
namespace Go.Proofs.YtlbolbkikkiifaaGreatDoor
open Go.RowKit

theorem eqS_no {l m : List ByteArray} {i : Nat} {x y : ByteArray} (hx : l[i]? = some x) (hy : m[i]? = some y) (h : x ≠ y) : decide (l = m) = false := by
  rw [decide_eq_false_iff_not]
  intro e
  subst e
  rw [hx] at hy
  cases hy
  exact h rfl
theorem eqS_yes {l m : List ByteArray} (h : l.length = m.length) (k : ∀ (i : Nat) (x y : ByteArray), i < l.length → l[i]? = some x → m[i]? = some y → x = y) : decide (l = m) = true := by
  rw [decide_eq_true_iff]
  apply List.ext_getElem h
  intro i hi hj
  exact k i _ _ hi (List.getElem?_eq_getElem hi) (List.getElem?_eq_getElem hj)
set_option maxRecDepth 100000 in
set_option maxHeartbeats 800000 in
theorem eqStrs_any (v1 v2 : Value) (l m : List ByteArray) (w : World) (h1 : StrAt w v1 l) (h2 : StrAt w v2 m) (hl : l.length ≤ 8388608) (hm : m.length ≤ 8388608) :
    Calls Tryz.prog 24 #[v1, v2] w fun e w' => e = .returned (.bool (decide (l = m))) ∧ w = w' := by
  obtain ⟨a1, c1, rfl, _, _⟩ := h1.len
  obtain ⟨a2, c2, rfl, _, _⟩ := h2.len
  have H1 := Lib.hid h1
  have H2 := Lib.hid h2
  clear h1 h2
  by_cases hlen : l.length = m.length
  · have q1 : ((l.length : Int) != (m.length : Int)) = false := by rw [bne_eq_false_iff_eq]; omega
    have Hlen := Lib.hid hlen
    clear hlen
    go_enter Tryz.func24, Tryz.ntmps24
    go_wp2_with fail
    clear q1
    go_loopg [14] l.length (fun g u14 wr => ∃ i : Nat, i + g = l.length ∧ u14 = .int .i64 (i : Int) ∧ Hid (∀ (k : Nat) (x y : ByteArray), k < i → l[k]? = some x → m[k]? = some y → x = y) ∧ w = wr)
    case atStart => exact ⟨0, by omega, rfl, Lib.hid (fun k _ _ hk => by omega), rfl⟩
    case round =>
      obtain ⟨i, hig, rfl, Hall, rfl⟩ := hrel
      cases gk with
      | zero =>
        obtain rfl : i = l.length := by omega
        have Hyes : Hid (decide (l = m) = true) := eqS_yes Hlen.out fun k x y hk hx hy => Hall.out k x y hk hx hy
        go_wp2_with fail
        go_ret
        exact ⟨congrArg (fun b => Ending.returned (Value.bool b)) Hyes.out.symm, rfl⟩
      | succ g =>
        have hil : i < l.length := by omega
        have him : i < m.length := by have := Hlen.out; omega
        obtain ⟨x, hx⟩ : ∃ x, l[i]? = some x := ⟨l[i]'(by omega), List.getElem?_eq_getElem _⟩
        obtain ⟨y, hy⟩ : ∃ y, m[i]? = some y := ⟨m[i]'(by omega), List.getElem?_eq_getElem _⟩
        obtain ⟨b, o, c', hv, _, _, hbs, hcell⟩ := H1.out.form (by omega)
        injection hv with u1 u2 u3
        subst u1
        clear u2 u3
        obtain ⟨b', o', c'', hv, _, _, hbs', hcell'⟩ := H2.out.form (by omega)
        injection hv with u1 u2 u3
        subst u1
        clear u2 u3
        have e0 : w.cell? ⟨b, o + i, none⟩ = some (.string x) := hcell i x hx
        have f0 : w.cell? ⟨b', o' + i, none⟩ = some (.string y) := hcell' i y hy
        have q1 : (0 : Int) ≤ (i : Int) := by omega
        have q2 : (i : Int) < (l.length : Int) := by omega
        have q3 : (i : Int) < (m.length : Int) := by omega
        have Hx := Lib.hid hx
        have Hy := Lib.hid hy
        clear hcell hcell' hx hy
        by_cases he : x = y
        · have Hall2 : Hid (∀ (k : Nat) (x y : ByteArray), k < i + 1 → l[k]? = some x → m[k]? = some y → x = y) := Lib.hid fun k x' y' hk hx' hy' => by
            rcases Nat.lt_or_ge k i with h | h
            · exact Hall.out k x' y' h hx' hy'
            · obtain rfl : k = i := by omega
              have a := Hx.out; have b := Hy.out
              rw [a] at hx'; rw [b] at hy'
              cases hx'; cases hy'
              exact he
          have q4 : (x.toList == y.toList) = true := by rw [he]; simp
          clear he
          go_wp2_with fail
          go_roundg g
          case measure => omega
          case rel => exact ⟨i + 1, by omega, by go_num, Hall2, rfl⟩
        · have Hno : Hid (decide (l = m) = false) := Lib.hid (eqS_no Hx.out Hy.out he)
          have q4 : (x.toList == y.toList) = false := by rw [beq_eq_false_iff_ne]; exact fun h => he (toList_inj h)
          clear he
          go_wp2_with fail
          go_ret
          exact ⟨congrArg (fun b => Ending.returned (Value.bool b)) Hno.out.symm, rfl⟩
  · have q1 : ((l.length : Int) != (m.length : Int)) = true := by rw [bne_iff_ne]; omega
    have Hno : Hid (decide (l = m) = false) := by show _ = _; rw [decide_eq_false_iff_not]; exact fun h => hlen (congrArg _ h)
    clear hlen
    go_enter Tryz.func24, Tryz.ntmps24
    go_wp2_with fail
    go_ret
    exact ⟨congrArg (fun b => Ending.returned (Value.bool b)) Hno.out.symm, rfl⟩
end Go.Proofs.YtlbolbkikkiifaaGreatDoor
/- The reference's SameReq, and SameAll at parts. -/
namespace Go.Proofs.YtlbolbkikkiifaaGreatDoor
open Go.RowKit

theorem greq_ext {x y : GReq} (h1 : x.key = y.key) (h2 : x.kind = y.kind) (h3 : x.vals = y.vals) : x = y := by
  cases x; cases y; simp_all
noncomputable def sameQ (x y : GReq) : Bool := @decide (x = y) (Classical.propDecidable _)
theorem sameQ_iff {x y : GReq} : sameQ x y = true ↔ x = y := by unfold sameQ; exact @decide_eq_true_iff _ (Classical.propDecidable _)
set_option maxRecDepth 100000 in
set_option maxHeartbeats 3200000 in
theorem sameReq_any (x y : GReq) (vx vy : Value) (w : World) (hx : RowAt RString 1 w vx x.vals) (hy : RowAt RString 1 w vy y.vals) (lx : x.vals.length ≤ 8388608) (ly : y.vals.length ≤ 8388608) :
    Calls Tryz.prog 12 #[.agg #[.string x.key, .int .i64 x.kind, vx], .agg #[.string y.key, .int .i64 y.kind, vy]] w fun e w' => ∃ b, e = .returned (.bool b) ∧ (b = true ↔ x = y) ∧ Below w.heap.size w w' := by
  obtain ⟨w1, hw1⟩ : ∃ w1, w1 = w.alloc (.cells #[.string x.key, .int .i64 x.kind, vx] 26) := ⟨_, rfl⟩
  obtain ⟨w2, hw2⟩ : ∃ w2, w2 = w1.alloc (.cells #[.string y.key, .int .i64 y.kind, vy] 26) := ⟨_, rfl⟩
  obtain ⟨g, hg⟩ : ∃ g, g = w.heap.size := ⟨_, rfl⟩
  have hs1 : w1.heap.size = g + 1 := by rw [hw1, hg, World.size_alloc]
  have b1 : w1.heap[g]? = some (.cells #[.string x.key, .int .i64 x.kind, vx] 26 (0, 0)) := by rw [hw1, hg]; exact heap_alloc_new w _
  have b2 : w2.heap[g + 1]? = some (.cells #[.string y.key, .int .i64 y.kind, vy] 26 (0, 0)) := by rw [hw2, ← hs1]; exact heap_alloc_new w1 _
  have hb1 : Below w.heap.size w w1 := by rw [hw1]; exact (Below.refl _ _).alloc (Nat.le_refl _) _
  have hb2 : Below w1.heap.size w1 w2 := by rw [hw2]; exact (Below.refl _ _).alloc (Nat.le_refl _) _
  have hb : Below w.heap.size w w2 := hb1.trans (hb2.mono hb1.size)
  have c1 := below_block hb2 b1
  have dd := fun i => cell_block c1 i
  have ee := fun i => cell_block b2 i
  have Hb := Lib.hid hb
  have Hx := Lib.hid (hx.below stays_string hb).strs
  have Hy := Lib.hid (hy.below stays_string hb).strs
  clear b1 b2 hb1 hb2 hb c1 hx hy
  obtain ⟨k1, hk1⟩ : ∃ k, (x.key.toList == y.key.toList) = k := ⟨_, rfl⟩
  obtain ⟨k2, hk2⟩ : ∃ k, (x.kind == y.kind) = k := ⟨_, rfl⟩
  have H1 := Lib.hid hk1
  have H2 := Lib.hid hk2
  go_enter Tryz.func12, Tryz.ntmps12
  go_upto_region 1 with fail
  rw [← hw1, ← hw2]
  try rw [← hs1']
  try rw [hs1]
  try rw [← hg]
  clear hw1 hw2 hg hs1
  cases k1 with
  | false =>
    have hne : x ≠ y := fun h => by have := H1.out; rw [h] at this; simp at this
    have Hne := Lib.hid hne
    clear hne hk2
    go_wp2_with fail
    go_ret
    exact ⟨_, rfl, ⟨fun h => (by cases h), fun h => absurd h Hne.out⟩, Hb.out⟩
  | true =>
    cases k2 with
    | false =>
      have hne : x ≠ y := fun h => by have := H2.out; rw [h] at this; simp at this
      have Hne := Lib.hid hne
      clear hne
      go_wp2_with fail
      go_ret
      exact ⟨_, rfl, ⟨fun h => (by cases h), fun h => absurd h Hne.out⟩, Hb.out⟩
    | true =>
      have HE : Hid (decide (x.vals = y.vals) = true ↔ x = y) := Lib.hid ⟨fun h => greq_ext (toList_inj (eq_of_beq H1.out)) (eq_of_beq H2.out) (of_decide_eq_true h), fun h => decide_eq_true (by rw [h])⟩
      go_wp2_with fail
      refine (eqStrs_any vx vy x.vals y.vals w2 Hx.out Hy.out lx ly).mono ?_
      rintro E w3 ⟨rfl, rfl⟩
      obtain ⟨b, Hbb⟩ : ∃ b, Hid (decide (x.vals = y.vals) = b) := ⟨_, Lib.hid rfl⟩
      rw [Hbb.out] at HE ⊢
      go_wp2_with fail
      go_ret
      exact ⟨_, rfl, HE.out, Hb.out⟩
theorem run_sameReq : ∀ (a : Array Value) (w : World), (callFunc 12 a).run Tryz.prog w = .ok (.enter 12 a) w := run_callFunc_body Tryz.func12 (by kernel_rfl) (by kernel_rfl)
theorem below_drew1' (w : World) : Below w.heap.size w w.drew := ⟨rfl, rfl, rfl, Nat.le_refl _, fun _ _ => rfl⟩
set_option maxRecDepth 100000 in
set_option maxHeartbeats 3200000 in
theorem sameReqs_any (v1 v2 : Value) (l m : List GReq) (w : World) (h1 : RowAt ReqR 3 w v1 l) (h2 : RowAt ReqR 3 w v2 m) (hl : l.length ≤ 8388608) (hm : m.length ≤ 8388608) (okl : ∀ r ∈ l, okReq r) (okm : ∀ r ∈ m, okReq r) :
    Calls Tryz.prog 17 #[v1, v2, .func (.func 12) #[] #[]] w fun e w' => ∃ b, e = .returned (.bool b) ∧ (b = true ↔ l = m) ∧ Below w.heap.size w w' := by
  obtain ⟨a1, c1, rfl, _, _⟩ := h1.len
  obtain ⟨a2, c2, rfl, _, _⟩ := h2.len
  have H1 := Lib.hid h1
  have H2 := Lib.hid h2
  have Okl := Lib.hid okl
  have Okm := Lib.hid okm
  clear h1 h2 okl okm
  by_cases hlen : l.length = m.length
  · have q1 : ((l.length : Int) != (m.length : Int)) = false := by rw [bne_eq_false_iff_eq]; omega
    have Hlen := Lib.hid hlen
    clear hlen
    go_enter Tryz.func17, Tryz.ntmps17
    go_wp2_with fail
    clear q1
    go_loopg [15] l.length (fun g u15 wr => ∃ i : Nat, i + g = l.length ∧ u15 = .int .i64 (i : Int) ∧ Hid (∀ (k : Nat) (x y : GReq), k < i → l[k]? = some x → m[k]? = some y → x = y) ∧ Hid (Below w.heap.size w wr))
    case atStart => exact ⟨0, by omega, rfl, Lib.hid (fun k _ _ hk => by omega), Lib.hid (Below.refl _ _)⟩
    case round =>
      obtain ⟨i, hig, rfl, Hall, Hbel⟩ := hrel
      cases gk with
      | zero =>
        obtain rfl : i = l.length := by omega
        have Hyes : Hid (l = m) := Lib.hid (by
          apply List.ext_getElem Hlen.out
          intro k hi hj
          exact Hall.out k _ _ hi (List.getElem?_eq_getElem hi) (List.getElem?_eq_getElem hj))
        go_wp2_with fail
        go_ret
        exact ⟨true, rfl, ⟨fun _ => Hyes.out, fun _ => rfl⟩, Hbel.out⟩
      | succ k =>
        have hil : i < l.length := by omega
        have him : i < m.length := by have := Hlen.out; omega
        obtain ⟨x, hx⟩ : ∃ x, l[i]? = some x := ⟨l[i]'(by omega), List.getElem?_eq_getElem _⟩
        obtain ⟨y, hy⟩ : ∃ y, m[i]? = some y := ⟨m[i]'(by omega), List.getElem?_eq_getElem _⟩
        obtain ⟨b, o, c', hv, _, _, hbs, hcell⟩ := H1.out.form (by omega) (by omega)
        injection hv with u1 u2 u3
        subst u1
        clear u2 u3
        obtain ⟨b', o', c'', hv, _, _, hbs', hcell'⟩ := H2.out.form (by omega) (by omega)
        injection hv with u1 u2 u3
        subst u1
        clear u2 u3
        obtain ⟨ds, _, hcc, hR⟩ := hcell i x hx
        obtain ⟨es, _, hdd, hS⟩ := hcell' i y hy
        obtain ⟨y2, rfl, _, sx⟩ := stays_req _ _ _ _ (keeps_below Hbel.out) hR
        obtain ⟨z2, rfl, _, sy⟩ := stays_req _ _ _ _ (keeps_below Hbel.out) hS
        have e0 : wr.cell? ⟨b, o + i * 3, none⟩ = some (.string x.key) := (Hbel.out.cell (p := ⟨b, _, none⟩) hbs).trans (by simpa using hcc 0 _ rfl)
        have e1 : wr.cell? ⟨b, o + i * 3 + 1, none⟩ = some (.int .i64 x.kind) := (Hbel.out.cell (p := ⟨b, _, none⟩) hbs).trans (hcc 1 _ rfl)
        have e2 : wr.cell? ⟨b, o + i * 3 + 2, none⟩ = some y2 := (Hbel.out.cell (p := ⟨b, _, none⟩) hbs).trans (hcc 2 _ rfl)
        have f0 : wr.cell? ⟨b', o' + i * 3, none⟩ = some (.string y.key) := (Hbel.out.cell (p := ⟨b', _, none⟩) hbs').trans (by simpa using hdd 0 _ rfl)
        have f1 : wr.cell? ⟨b', o' + i * 3 + 1, none⟩ = some (.int .i64 y.kind) := (Hbel.out.cell (p := ⟨b', _, none⟩) hbs').trans (hdd 1 _ rfl)
        have f2 : wr.cell? ⟨b', o' + i * 3 + 2, none⟩ = some z2 := (Hbel.out.cell (p := ⟨b', _, none⟩) hbs').trans (hdd 2 _ rfl)
        have q1 : (0 : Int) ≤ (i : Int) := by omega
        have q2 : (i : Int) < (l.length : Int) := by omega
        have q3 : (i : Int) < (m.length : Int) := by omega
        have Hx := Lib.hid hx
        have Hy := Lib.hid hy
        have Sx := Lib.hid sx.row
        have Sy := Lib.hid sy.row
        have okx := (Okl.out x (List.mem_of_getElem? hx)).2.1
        have oky := (Okm.out y (List.mem_of_getElem? hy)).2.1
        have hb0 : b < wr.heap.size := Nat.lt_of_lt_of_le hbs Hbel.out.size
        have hb0' : b' < wr.heap.size := Nat.lt_of_lt_of_le hbs' Hbel.out.size
        have HC : Hid (∀ w', Below wr.heap.size wr w' → Calls Tryz.prog 12 #[.agg #[.string x.key, .int .i64 x.kind, y2], .agg #[.string y.key, .int .i64 y.kind, z2]] w' fun e w'' => e = .returned (.bool (sameQ x y)) ∧ Below wr.heap.size wr w'') := Lib.hid fun w' hb' => by
          refine (sameReq_any x y y2 z2 w' (Sx.out.below stays_string hb') (Sy.out.below stays_string hb') (by omega) (by omega)).mono ?_
          rintro E w'' ⟨b, rfl, hb, hb''⟩
          refine ⟨?_, hb'.trans (hb''.mono hb'.size)⟩
          congr 2
          rw [Bool.eq_iff_iff, hb, sameQ_iff]
        obtain ⟨bb, Hbb⟩ : ∃ bb, Hid (sameQ x y = bb) := ⟨_, Lib.hid rfl⟩
        rw [Hbb.out] at HC
        clear hcell hcell' hx hy hcc hdd hR hS sx sy okx oky hbs hbs'
        go_upto_region 6 with fail
        refine wp_region_hold 10 (fun w' => Below wr.heap.size wr w') (by kernel_rfl) (by kernel_rfl) ?_ ?_
        · exact below_drew1' wr
        simp only [List.take_succ_cons, List.take_zero, List.drop_succ_cons, List.drop_zero]
        (first | (refine wpHold_pure (v := ?_) (by rfl) (fun w => ?_) ?_; rotate_left; focus (first | (go_simp; done) | (go_simp; with_reducible rfl))) | (refine wpHold_skip ?_ ?_; focus (go_simp; done)) | (refine wpHold_pure' (v := ?_) ?_ (fun w => ?_) ?_; rotate_left; focus (go_simp; done); focus (first | (go_simp; done) | (go_simp; with_reducible rfl)))); try simp only [Act.put, List.setIfInBounds_toArray, List.set_cons_zero, List.set_cons_succ]
        (first | (refine wpHold_pure (v := ?_) (by rfl) (fun w => ?_) ?_; rotate_left; focus (first | (go_simp; done) | (go_simp; with_reducible rfl))) | (refine wpHold_skip ?_ ?_; focus (go_simp; done)) | (refine wpHold_pure' (v := ?_) ?_ (fun w => ?_) ?_; rotate_left; focus (go_simp; done); focus (first | (go_simp; done) | (go_simp; with_reducible rfl)))); try simp only [Act.put, List.setIfInBounds_toArray, List.set_cons_zero, List.set_cons_succ]
        (first | (refine wpHold_pure (v := ?_) (by rfl) (fun w => ?_) ?_; rotate_left; focus (first | (go_simp; done) | (go_simp; with_reducible rfl))) | (refine wpHold_skip ?_ ?_; focus (go_simp; done)) | (refine wpHold_pure' (v := ?_) ?_ (fun w => ?_) ?_; rotate_left; focus (go_simp; done); focus (first | (go_simp; done) | (go_simp; with_reducible rfl)))); try simp only [Act.put, List.setIfInBounds_toArray, List.set_cons_zero, List.set_cons_succ]
        refine wpHold_pure (v := .pointer (some ⟨b, o + i * 3, none⟩)) (by rfl) (fun w' => ?_) ?_
        · go_simp
          done
        try simp only [Act.put, List.setIfInBounds_toArray, List.set_cons_zero, List.set_cons_succ]
        refine wpHold_read (v := .agg #[.string x.key, .int .i64 x.kind, y2]) (by rfl) (fun w' hI => ?_) ?_
        · have d0 := (hI.cell (p := ⟨b, o + i * 3, none⟩) hb0).trans e0
          have d1 := (hI.cell (p := ⟨b, o + i * 3 + 1, none⟩) hb0).trans e1
          have d2 := (hI.cell (p := ⟨b, o + i * 3 + 2, none⟩) hb0).trans e2
          go_simp
          done
        try simp only [Act.put, List.setIfInBounds_toArray, List.set_cons_zero, List.set_cons_succ]
        (first | (refine wpHold_pure (v := ?_) (by rfl) (fun w => ?_) ?_; rotate_left; focus (first | (go_simp; done) | (go_simp; with_reducible rfl))) | (refine wpHold_skip ?_ ?_; focus (go_simp; done)) | (refine wpHold_pure' (v := ?_) ?_ (fun w => ?_) ?_; rotate_left; focus (go_simp; done); focus (first | (go_simp; done) | (go_simp; with_reducible rfl)))); try simp only [Act.put, List.setIfInBounds_toArray, List.set_cons_zero, List.set_cons_succ]
        (first | (refine wpHold_pure (v := ?_) (by rfl) (fun w => ?_) ?_; rotate_left; focus (first | (go_simp; done) | (go_simp; with_reducible rfl))) | (refine wpHold_skip ?_ ?_; focus (go_simp; done)) | (refine wpHold_pure' (v := ?_) ?_ (fun w => ?_) ?_; rotate_left; focus (go_simp; done); focus (first | (go_simp; done) | (go_simp; with_reducible rfl)))); try simp only [Act.put, List.setIfInBounds_toArray, List.set_cons_zero, List.set_cons_succ]
        refine wpHold_pure (v := .pointer (some ⟨b', o' + i * 3, none⟩)) (by rfl) (fun w' => ?_) ?_
        · go_simp
          done
        try simp only [Act.put, List.setIfInBounds_toArray, List.set_cons_zero, List.set_cons_succ]
        refine wpHold_read (v := .agg #[.string y.key, .int .i64 y.kind, z2]) (by rfl) (fun w' hI => ?_) ?_
        · have d0 := (hI.cell (p := ⟨b', o' + i * 3, none⟩) hb0').trans f0
          have d1 := (hI.cell (p := ⟨b', o' + i * 3 + 1, none⟩) hb0').trans f1
          have d2 := (hI.cell (p := ⟨b', o' + i * 3 + 2, none⟩) hb0').trans f2
          go_simp
          done
        try simp only [Act.put, List.setIfInBounds_toArray, List.set_cons_zero, List.set_cons_succ]
        refine wpHold_call (v := .bool bb) (f := 12) (args := #[.agg #[.string x.key, .int .i64 x.kind, y2], .agg #[.string y.key, .int .i64 y.kind, z2]]) (by rfl) (fun w' => ?_) (fun w' hI => HC.out w' hI) ?_
        · simp only [run_sameReq, go_sem]
          go_simp
          done
        try simp only [Act.put, List.setIfInBounds_toArray, List.set_cons_zero, List.set_cons_succ]
        refine wpHold_nil ?_
        intro w' hI
        have Hb' := Lib.hid (Hbel.out.trans (hI.mono Hbel.out.size))
        clear hI e0 e1 e2 f0 f1 f2 HC
        cases bb with
        | true =>
          have hxy : x = y := sameQ_iff.1 Hbb.out
          have Hall2 : Hid (∀ (k : Nat) (x y : GReq), k < i + 1 → l[k]? = some x → m[k]? = some y → x = y) := Lib.hid fun k x' y' hk hx' hy' => by
            rcases Nat.lt_or_ge k i with h | h
            · exact Hall.out k x' y' h hx' hy'
            · obtain rfl : k = i := by omega
              have a := Hx.out; have b := Hy.out
              rw [a] at hx'; rw [b] at hy'
              cases hx'; cases hy'
              exact hxy
          clear hxy
          go_wp2_with fail
          go_roundg k
          case measure => omega
          case rel => exact ⟨i + 1, by omega, by go_num, Hall2, Hb'⟩
        | false =>
          have Hno : Hid (l ≠ m) := Lib.hid fun h => by
            have a := Hx.out; have b := Hy.out
            rw [h, b] at a
            cases a
            have h9 := Hbb.out
            rw [sameQ_iff.2 rfl] at h9
            cases h9
          go_wp2_with fail
          go_ret
          exact ⟨false, rfl, ⟨fun h => (by cases h), fun h => absurd h Hno.out⟩, Hb'.out⟩
  · have q1 : ((l.length : Int) != (m.length : Int)) = true := by rw [bne_iff_ne]; omega
    have Hno : Hid (l ≠ m) := Lib.hid fun h => hlen (congrArg _ h)
    clear hlen
    go_enter Tryz.func17, Tryz.ntmps17
    go_wp2_with fail
    go_ret
    exact ⟨false, rfl, ⟨fun h => (by cases h), fun h => absurd h Hno.out⟩, Below.refl _ _⟩
end Go.Proofs.YtlbolbkikkiifaaGreatDoor
