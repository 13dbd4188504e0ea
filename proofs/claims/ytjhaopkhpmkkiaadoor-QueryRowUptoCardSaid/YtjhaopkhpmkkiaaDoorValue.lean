/- query.value: its contract. -/
import Derived.Test.YtjhaopkhpmkkiaaDoorValueClo
namespace Go.Proofs.YtjhaopkhpmkkiaaDoor
open Go.RowKit

def ValueAt (l : List GReq) (key : ByteArray) (w : World) (E : Ending) (w' : World) : Prop :=
  ∃ (u : ByteArray) (is : Bool), E = .returned (.tuple #[.string u, .bool is]) ∧ ValueOK l key u is ∧ Below w.heap.size w w'
theorem below_lt {w W : World} {g : Nat} {x : Obj} (_h : Below w.heap.size w W) (hx : W.heap[g]? = some x) : g < W.heap.size := (Array.getElem?_eq_some_iff.1 hx).1
set_option maxRecDepth 100000 in
set_option maxHeartbeats 6400000 in
theorem value_any (v : Value) (l : List GReq) (key : ByteArray) (w : World) (h : RowAt ReqR 3 w v l) (hl : l.length ≤ 9) (hok : ∀ r ∈ l, okReq r) (hg : ∀ r ∈ l, GoodR r) :
    Calls Tryd.prog 41 #[v, .string key] w (ValueAt l key w) := by
  obtain ⟨a0, c0, rfl, _, _⟩ := h.len
  obtain ⟨w1, hw1⟩ : ∃ w1, w1 = w.alloc (.cells #[.string key] 9) := ⟨_, rfl⟩
  obtain ⟨gy, hgy⟩ : ∃ gy, gy = w.heap.size := ⟨_, rfl⟩
  have k1 : CapKey gy key w1 := by unfold CapKey; rw [hw1, hgy]; exact heap_alloc_new w _
  have hb1 : Below w.heap.size w w1 := by rw [hw1]; exact (Below.refl _ _).alloc (Nat.le_refl _) _
  have hs1 : w1.heap.size = w.heap.size + 1 := by rw [hw1, World.size_alloc]
  have Hat := Lib.hid ((h.atW (Below.refl _ _)).below (flat_atW w ReqR).stays hb1)
  have Hok := Lib.hid hok
  have Hg := Lib.hid hg
  have K1 := Lib.hid k1
  have Hb1 := Lib.hid hb1
  obtain ⟨A, HA⟩ : ∃ A, Hid (l.filter (fun r => decide (r.key = key)) = A) := ⟨_, Lib.hid rfl⟩
  have hAl : A.length ≤ 9 := by rw [← HA.out]; exact Nat.le_trans (List.length_filter_le _ _) hl
  have hAm : ∀ r ∈ A, r ∈ l ∧ r.key = key := fun r hr => by
    rw [← HA.out] at hr
    have := List.mem_filter.1 hr
    exact ⟨this.1, by simpa using this.2⟩
  have HAm := Lib.hid hAm
  have HokA : Hid (∀ r ∈ A, okReq r) := Lib.hid fun r hr => hok r (hAm r hr).1
  have Hfit : Hid (∀ u, A.all (holdsB [⟨key, u⟩]) = fitsV l key u) := Lib.hid fun u => by rw [← HA.out]; exact fits_all l key u
  clear h hok hg k1 hb1 hAm
  go_enter Tryd.func41, Tryd.ntmps41
  go_upto_region 1 with fail
  rw [← hw1]
  try rw [← hgy]
  have hgy1 : gy < w1.heap.size := by omega
  have hs1' : w.heap.size ≤ w1.heap.size := by omega
  clear hw1 hgy hs1
  go_wp2_with fail
  refine (cloneReq_any (flat_atW w ReqR) (one_atW w one_req) _ l w1 Hat.out (by omega)).mono ?_
  rintro E w2 ⟨v2, rfl, hown2, hb2⟩
  have Hown2 := Lib.hid hown2
  have K2 : Hid (CapKey gy key w2) := Lib.hid (below_block hb2 K1.out)
  have Hb2 := Lib.hid (Hb1.out.trans (hb2.mono (by omega)))
  have hs2 := hb2.size
  clear hown2 hb2
  go_wp2_with fail
  have hdel := deleteReq_any (f := 56) (cap := .pointer (some ⟨gy, 0, none⟩)) (Cap := CapKey gy key) (p := fun x => !decide (x.key = key)) w w1.heap.size run_val1 (fun u u' hc hb => (hb.block gy hgy1).trans hc) (fun x y2 u hx hc => val1_any gy key x y2 u hx hc) v2 l w2 Hown2.out Hb2.out (by omega) (by omega) (by omega) K2.out
  refine hdel.mono ?_
  rintro E w3 ⟨v3, rfl, hown3, hb3⟩
  have hfil : l.filter (fun r => !!decide (r.key = key)) = A := by
    rw [← HA.out]
    congr 1
    funext r
    rw [Bool.not_not]
  rw [hfil] at hown3
  have Hown3 := Lib.hid hown3
  have K3 : Hid (CapKey gy key w3) := Lib.hid ((hb3.block gy (by omega)).trans K2.out)
  have Hb3 := Lib.hid (Hb2.out.trans (hb3.mono (by omega)))
  have hs3 := Hb3.out.size
  obtain ⟨a3, c3, rfl, _, _⟩ := hown3.row.len
  clear hown3 hb3 hfil
  go_upto_region 2 with fail
  obtain ⟨w4, hw4⟩ : ∃ w4, w4 = w3.alloc (.cells #[.slice a3 A.length c3] 22) := ⟨_, rfl⟩
  obtain ⟨ga, hga⟩ : ∃ ga, ga = w3.heap.size := ⟨_, rfl⟩
  have b4 : w4.heap[ga]? = some (.cells #[.slice a3 A.length c3] 22 (0, 0)) := by rw [hw4, hga]; exact heap_alloc_new w3 _
  have hb4 : Below w3.heap.size w3 w4 := by rw [hw4]; exact (Below.refl _ _).alloc (Nat.le_refl _) _
  rw [← hw4, ← hga]
  have Hb4 := Lib.hid (Hb3.out.trans (hb4.mono hs3))
  have hrow4 : RowAt ReqR 3 w4 (.slice a3 A.length c3) A := (Hown3.out.row.below (flat_atW w ReqR).stays hb4).ofW stays_req Hb4.out
  have C4 : Hid (CapFit ga gy (.slice a3 A.length c3) A key w4) := Lib.hid ⟨b4, below_block hb4 K3.out, hrow4⟩
  have cc := fun i => cell_block b4 i
  clear hw4 hga b4 hb4 hrow4
  go_wp2_with fail
  refine (idxReq0_any (p := fun x => decide (x.kind = 1)) (Cap := fun _ => True) (OK := fun _ => True) run_val3 (fun _ _ _ _ => trivial) (fun x y2 w hx _ _ => val3_any x y2 w hx) _ A w4 C4.out.row (by omega) (fun _ _ => trivial) trivial).mono ?_
  rintro E w5 ⟨n, rfl, hn, hb5⟩
  have C5 := Lib.hid (C4.out.below hb5)
  have Hb5 := Lib.hid (Hb4.out.trans (hb5.mono Hb4.out.size))
  clear hb5 cc
  have cc := fun i => cell_block C5.out.about i
  have ep2 := run_val2
  rcases hn with ⟨rfl, hnone⟩ | ⟨i, x, rfl, hxi, hsome, _⟩
  · have hno : ∀ r ∈ l, r.key = key → r.kind ≠ 1 := fun r hr hk => by
      have := List.find?_eq_none.1 hnone r (by rw [← HA.out]; exact List.mem_filter.2 ⟨hr, by simpa using hk⟩)
      simpa using this
    have Hfree := Lib.hid (value_free Hg.out hl hno)
    clear hnone hno
    go_wp2_with fail
    refine (val2_any ⟨#[]⟩ w5 C5.out (by omega) HokA.out).mono ?_
    rintro E w6 ⟨rfl, hb6⟩
    have C6 := Lib.hid (C5.out.below hb6)
    have Hb6 := Lib.hid (Hb5.out.trans (hb6.mono Hb5.out.size))
    have hfe : A.all (holdsB [⟨key, ⟨#[]⟩⟩]) = fitsV l key ⟨#[]⟩ := Hfit.out _
    rw [hfe]
    obtain ⟨f0, Hf0⟩ : ∃ f0, Hid (fitsV l key ⟨#[]⟩ = f0) := ⟨_, Lib.hid rfl⟩
    rw [Hf0.out]
    clear hb6 hfe cc
    have cand0 : (⟨#[]⟩ : ByteArray) ∈ candB := List.mem_cons_self ..
    cases f0 with
    | true =>
      have Hv := Lib.hid (Hfree.out.1 _ cand0 Hf0.out)
      clear cand0
      go_wp2_with fail
      go_ret2
      exact ⟨_, _, rfl, Hv.out, Hb6.out⟩
    | false =>
      clear cand0
      go_wp2_with fail
      go_loopg [44] 73 (fun k u44 wr => ∃ i : Nat, i + k = 73 ∧ u44 = .int .i64 (i : Int) ∧ Hid (∀ j, j < i → fitsV l key (numB j) = false) ∧ Hid (CapFit ga gy (.slice a3 A.length c3) A key wr) ∧ Hid (Below w.heap.size w wr))
      case atStart => exact ⟨0, by omega, rfl, Lib.hid (fun j hj => by omega), C6, Hb6⟩
      case round =>
        obtain ⟨i, hik, rfl, Hall, Cr, Hbr⟩ := hrel
        cases gk with
        | zero =>
          obtain rfl : i = 73 := by omega
          have hnone : ∀ u ∈ candB, fitsV l key u = false := fun u hu => by
            rcases List.mem_cons.1 hu with rfl | hu
            · exact Hf0.out
            · obtain ⟨j, hj, rfl⟩ := List.mem_map.1 hu
              exact Hall.out j (List.mem_range.1 hj)
          have Hv := Lib.hid (Hfree.out.2 hnone ⟨#[]⟩)
          clear hnone
          go_wp2_with fail
          go_ret2
          exact ⟨⟨#[]⟩, false, rfl, Hv.out, Hbr.out⟩
        | succ k =>
          have hi : i < 73 := by omega
          have q1 : (i : Int) < 73 := by omega
          have hcand : numB i ∈ candB := List.mem_cons_of_mem _ (List.mem_map.2 ⟨i, List.mem_range.2 hi, rfl⟩)
          obtain ⟨u, Hu⟩ : ∃ u, Hid (numB i = u) := ⟨_, Lib.hid rfl⟩
          have Hcand := Lib.hid hcand
          clear hcand
          go_wp2_with fail
          refine (Tryd.strconv_Itoa_small i (by omega) wr).mono ?_
          rintro E w' ⟨rfl, rfl⟩
          have hnu : (⟨(Lib.decDigits i).toArray⟩ : ByteArray) = u := Hu.out
          rw [hnu]
          clear hnu
          go_wp2_with fail
          refine (val2_any u w' Cr.out (by omega) HokA.out).mono ?_
          rintro E w7 ⟨rfl, hb7⟩
          have C7 := Lib.hid (Cr.out.below hb7)
          have Hb7 := Lib.hid (Hbr.out.trans (hb7.mono Hbr.out.size))
          have hfe : A.all (holdsB [⟨key, u⟩]) = fitsV l key u := Hfit.out _
          rw [hfe]
          obtain ⟨f1, Hf1⟩ : ∃ f1, Hid (fitsV l key u = f1) := ⟨_, Lib.hid rfl⟩
          rw [Hf1.out]
          clear hb7 hfe
          cases f1 with
          | true =>
            have Hv := Lib.hid (Hfree.out.1 _ (by rw [← Hu.out]; exact Hcand.out) Hf1.out)
            go_wp2_with fail
            go_ret2
            exact ⟨_, _, rfl, Hv.out, Hb7.out⟩
          | false =>
            have Hall2 : Hid (∀ j, j < i + 1 → fitsV l key (numB j) = false) := Lib.hid fun j hj => by
              by_cases hji : j = i
              · subst hji; rw [Hu.out]; exact Hf1.out
              · exact Hall.out j (by omega)
            go_wp2_with fail
            go_roundg k
            case measure => omega
            case rel => exact ⟨i + 1, by omega, by go_num, Hall2, C7, Hb7⟩
  · have hiA : i < A.length := (List.getElem?_eq_some_iff.1 hxi).1
    have hkx : x.kind = 1 := by have := List.find?_some hsome; simpa using this
    obtain ⟨hxl, hxk⟩ := HAm.out x (List.mem_of_getElem? hxi)
    obtain ⟨bA, oA, c', hv, _, _, hbs, hcell⟩ := C5.out.row.form (by omega) (by omega)
    injection hv with u1 u2 u3
    subst u1
    clear u2 u3
    obtain ⟨ds, _, hcc, hR⟩ := hcell i x hxi
    obtain ⟨y2, rfl, _, hst⟩ := hR
    obtain ⟨ao, co, rfl, _, _⟩ := hst.row.len
    have e2 : w5.cell? ⟨bA, oA + i * 3 + 2, none⟩ = some (.slice ao x.vals.length co) := hcc 2 _ rfl
    have p1 : (0 : Int) ≤ (i : Int) := by omega
    have p2 : (i : Int) < (A.length : Int) := by omega
    have hxo := HokA.out x (List.mem_of_getElem? hxi)
    have hvl : x.vals.length ≤ 1048576 := hxo.2.1
    have Hst := Lib.hid hst
    have Hin := Lib.hid (fun (vs : List ByteArray) (hvs : ∀ u, u ∈ vs ↔ u ∈ x.vals) => by
      have := value_in (l := l) (r := x) Hg.out hxl hkx hvs
      rwa [hxk] at this)
    clear hcc hcell hxi hsome hst hxo hkx hxl hxk
    go_wp2_with fail
    refine (cloneStr_any _ x.vals w5 Hst.out hvl).mono ?_
    rintro E w6 ⟨v6, rfl, hown6, hb6⟩
    have Hown6 := Lib.hid hown6
    have Hb56 := Lib.hid hb6
    have Hb6 := Lib.hid (Hb5.out.trans (hb6.mono Hb5.out.size))
    have hs6 := hb6.size
    clear hown6 hb6 cc e2
    go_wp2_with fail
    refine (sortStr_any v6 x.vals w5.heap.size w6 Hown6.out hs6 (by omega)).mono ?_
    rintro E w7 ⟨rfl, hown7, hb7⟩
    obtain ⟨vs, Hvs⟩ : ∃ vs, Hid ((sortedL (x.vals.map (·.data.toList))).map mkB = vs) := ⟨_, Lib.hid rfl⟩
    have hmem : ∀ u, u ∈ vs ↔ u ∈ x.vals := fun u => by
      rw [← Hvs.out, List.mem_map]
      constructor
      · rintro ⟨z, hz, rfl⟩
        obtain ⟨y, hy, rfl⟩ := List.mem_map.1 ((sorted_mem _ z).1 hz)
        exact hy
      · intro hu
        exact ⟨u.data.toList, (sorted_mem _ _).2 (List.mem_map_of_mem hu), rfl⟩
    have hvl2 : vs.length ≤ 1048576 := by rw [← Hvs.out, List.length_map, sorted_len, List.length_map]; exact hvl
    rw [Hvs.out] at hown7
    have Hin2 := Lib.hid (Hin.out vs hmem)
    have C7 : Hid (CapFit ga gy (.slice (some ⟨bA, oA, none⟩) A.length c3) A key w7) := Lib.hid (C5.out.below (Hb56.out.trans hb7))
    have Hb7 := Lib.hid (Hb6.out.trans (hb7.mono Hb5.out.size))
    have Hown7 := Lib.hid hown7
    obtain ⟨a7, c7, rfl, _, _⟩ := hown7.row.len
    clear hown7 hb7 hmem
    go_wp2_with fail
    go_loopg [33] vs.length (fun k u33 wr => ∃ i : Nat, i + k = vs.length ∧ u33 = .int .i64 (i : Int) ∧ Hid (∀ u ∈ vs.take i, fitsV l key u = false) ∧ Hid (CapFit ga gy (.slice (some ⟨bA, oA, none⟩) A.length c3) A key wr) ∧ Hid (Below w7.heap.size w7 wr))
    case atStart => exact ⟨0, by omega, rfl, Lib.hid (by simp), C7, Lib.hid (Below.refl _ _)⟩
    case round =>
      obtain ⟨i, hik, rfl, Hall, Cr, Hbr⟩ := hrel
      cases gk with
      | zero =>
        obtain rfl : i = vs.length := by omega
        have Hv := Lib.hid (Hin2.out.2 (fun u hu => Hall.out u (by rw [List.take_of_length_le (Nat.le_refl _)]; exact hu)) ⟨#[]⟩)
        have Hbz := Lib.hid (Hb7.out.trans (Hbr.out.mono Hb7.out.size))
        go_wp2_with fail
        go_ret2
        exact ⟨⟨#[]⟩, false, rfl, Hv.out, Hbz.out⟩
      | succ k =>
        have hil : i < vs.length := by omega
        obtain ⟨u, hui⟩ : ∃ u, vs[i]? = some u := ⟨vs[i]'(by omega), List.getElem?_eq_getElem _⟩
        obtain ⟨b, o, c', hv, _, _, hbs, hcell⟩ := Hown7.out.row.strs.form (by omega)
        injection hv with u1 u2 u3
        subst u1
        clear u2 u3
        have e0 : wr.cell? ⟨b, o + i, none⟩ = some (.string u) := (Hbr.out.cell (p := ⟨b, _, none⟩) hbs).trans (hcell i u hui)
        have q1 : (0 : Int) ≤ (i : Int) := by omega
        have q2 : (i : Int) < (vs.length : Int) := by omega
        have Hui := Lib.hid hui
        clear hcell hui
        go_wp2_with fail
        refine (val2_any u wr Cr.out (by omega) HokA.out).mono ?_
        rintro E w8 ⟨rfl, hb8⟩
        have C8 := Lib.hid (Cr.out.below hb8)
        have Hb8 := Lib.hid (Hbr.out.trans (hb8.mono Hbr.out.size))
        have hfe : A.all (holdsB [⟨key, u⟩]) = fitsV l key u := Hfit.out _
        rw [hfe]
        obtain ⟨f1, Hf1⟩ : ∃ f1, Hid (fitsV l key u = f1) := ⟨_, Lib.hid rfl⟩
        rw [Hf1.out]
        clear hb8 hfe e0
        cases f1 with
        | true =>
          have Hv := Lib.hid (Hin2.out.1 u (List.mem_of_getElem? Hui.out) Hf1.out)
          have Hbz := Lib.hid (Hb7.out.trans (Hb8.out.mono Hb7.out.size))
          go_wp2_with fail
          go_ret2
          exact ⟨u, true, rfl, Hv.out, Hbz.out⟩
        | false =>
          have Hall2 : Hid (∀ y ∈ vs.take (i + 1), fitsV l key y = false) := Lib.hid fun y hy => by
            rw [List.take_add_one, Hui.out] at hy
            rcases List.mem_append.1 hy with h | h
            · exact Hall.out y h
            · simp at h; subst h; exact Hf1.out
          go_wp2_with fail
          go_roundg k
          case measure => omega
          case rel => exact ⟨i + 1, by omega, by go_num, Hall2, C8, Hb8⟩
end Go.Proofs.YtjhaopkhpmkkiaaDoor
