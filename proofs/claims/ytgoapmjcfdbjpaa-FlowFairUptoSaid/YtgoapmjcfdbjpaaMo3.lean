/- Texts of ours joined. -/
import Derived.RegionTactic
import Derived.Test.YtgoapmjcfdbjpaaMo2
set_option linter.unusedVariables false
set_option linter.unusedSimpArgs false
namespace Go.Proofs.Ytgoapmjcfdbjpaa
open Go.RowKit
def costI (z : Int) : Int := 1 + restOf z 1000
theorem costI_in (z : Int) : 1 ≤ costI z ∧ costI z ≤ 1000 := by have := restOf_in (a := z) (b := 1000) (by omega); unfold costI; omega
theorem enter_cost : ∀ (a : Array Value) (w : World), (callFunc 21 a).run Try.prog w = .ok (.enter 21 a) w := run_callFunc_body Try.func21 (by kernel_rfl) (by kernel_rfl)
set_option maxRecDepth 100000 in
set_option maxHeartbeats 1600000 in
theorem cost_any (v : Value) (l : List Int) (i : Nat) (z : Int) (w : World) (h : RowAt RI 1 w v l) (hz : l[i]? = some z) : Calls Try.prog 21 #[v, .int .i64 (i : Int)] w fun e w' => e = .returned (.int .i64 (costI z)) ∧ w = w' := by
  obtain ⟨a, c, rfl, _, _⟩ := h.len
  obtain ⟨n, hn⟩ : ∃ n, l.length = n := ⟨_, rfl⟩
  have hil := (List.getElem?_eq_some_iff.1 hz).1
  obtain ⟨b, o, rfl, x0⟩ := int_cell h rfl hz
  rw [hn] at hil ⊢
  have q1 : (0 : Int) ≤ (i : Int) := by omega
  have q2 : (i : Int) < (n : Int) := by omega
  have HR := Lib.hid (rest_any z 1000 w (by omega) (by omega))
  have hr := restOf_in (a := z) (b := 1000) (by omega)
  obtain ⟨r, hr9⟩ : ∃ r, restOf z 1000 = r := ⟨_, rfl⟩
  rw [hr9] at HR hr
  have w1 : IntKind.i64.wrap (1 + r) = 1 + r := IntWalk.i64_in _ (by omega)
  have Hr := Lib.hid hr9
  clear h hz hn hr9
  go_enter Try.func21, Try.ntmps21
  go_wp2_with fail
  refine HR.out.mono ?_
  rintro e w' ⟨rfl, h9⟩
  subst h9
  clear HR
  go_wp2_with fail
  go_ret
  exact ⟨by unfold costI; rw [Hr.out]; rfl, rfl⟩
structure PH (v w cv cw : Int) (ca cb : List Int) (p q : Nat) (s : FairS) : Prop where
  ws : s.ws = [v, w]
  now : s.now = 0
  es : s.es = [cv * GS ca p, cw * GS cb q]
  perm : s.l.Perm (thL 0 cv ca 0 p ++ thL 1 cw cb 0 q)
theorem PH.len {v w cv cw : Int} {ca cb : List Int} {p q : Nat} {s : FairS} (h : PH v w cv cw ca cb p q s) : s.l.length = p + q := by
  rw [h.perm.length_eq, List.length_append]
  unfold thL
  simp
theorem bound_of {q g k : Int} (h0 : 0 ≤ g) (h1 : 0 ≤ q) (h2 : q ≤ 2520) (h3 : g ≤ k) (h4 : k ≤ 100000) : 0 ≤ q * g ∧ q * g ≤ 252000000 := by
  refine ⟨Int.mul_nonneg h1 h0, ?_⟩
  have := Int.mul_le_mul h2 (show g ≤ 100000 by omega) h0 (by omega)
  omega
theorem offerA_any {gf : Nat} {D : Dom} {s : FairS} {v w cv cw : Int} {ca cb : List Int} {p q : Nat} {c : Int} {wd : World} (h : FairD wd gf D s) (hk : FairK v w cv cw ca cb) (hp : PH v w cv cw ca cb p q s) (hc : ca[p]? = some c) (hca : ca.length ≤ 30) (hq : q ≤ 30) :
    Calls Try.prog 19 #[.pointer (some ⟨gf, 0, none⟩), .int .i64 0, .int .i64 (p : Int), .int .i64 c] wd fun e w' => e = .returned (.int .i64 0) ∧ ∃ s' D', FairD w' gf D' s' ∧ PH v w cv cw ca cb (p + 1) q s' ∧ Only D wd w' ∧ ∀ q, D' q → D q ∨ wd.heap.size ≤ q := by
  have hpl : p < ca.length := (List.getElem?_eq_some_iff.1 hc).1
  have hc1 := hk.kca c (List.mem_of_getElem? hc)
  have hg0 := GS_nonneg (fun x hx => (hk.kca x hx).1) p (by omega)
  have hg1 := GS_le (fun x hx => (hk.kca x hx).2) p (by omega)
  have hcv := pos_of hk.kv hk.kcv
  obtain ⟨b0, b1⟩ := bound_of (q := cv) hg0 (by omega) hcv.2 hg1 (by omega)
  have hn := hp.now
  refine (offer_ok gf D s 0 v (cv * GS ca p) (p : Int) c wd h (by rw [hp.ws]; rfl) (by rw [hp.es]; rfl) (by omega) (by omega) (by rw [hp.len]; omega) hk.kv ⟨b0, by omega⟩ (by rw [hn]; omega)).mono ?_
  rintro e w' ⟨rfl, l', D', h2, h3, h4, h5⟩
  have hm : max (cv * GS ca p) s.now = cv * GS ca p := by rw [hn]; omega
  have he : s.es.set 0 (cv * GS ca p + (2520 * c).tdiv v) = [cv * GS ca (p + 1), cw * GS cb q] := by
    rw [hp.es, share_div hk.kv.1 hk.kcv, GS_succ hc, Int.mul_add]; rfl
  rw [hm, he] at h2
  rw [hm] at h3
  refine ⟨rfl, _, D', h2, ⟨hp.ws, hn, rfl, ?_⟩, h4, h5⟩
  refine h3.trans ((hp.perm.append_right _).trans ?_)
  rw [thL_snoc, List.append_assoc, List.append_assoc]
  exact (List.perm_append_comm).append_left _
theorem offerB_any {gf : Nat} {D : Dom} {s : FairS} {v w cv cw : Int} {ca cb : List Int} {p q : Nat} {c : Int} {wd : World} (h : FairD wd gf D s) (hk : FairK v w cv cw ca cb) (hp : PH v w cv cw ca cb p q s) (hc : cb[q]? = some c) (hcb : cb.length ≤ 30) (hq : p ≤ 30) :
    Calls Try.prog 19 #[.pointer (some ⟨gf, 0, none⟩), .int .i64 1, .int .i64 (q : Int), .int .i64 c] wd fun e w' => e = .returned (.int .i64 0) ∧ ∃ s' D', FairD w' gf D' s' ∧ PH v w cv cw ca cb p (q + 1) s' ∧ Only D wd w' ∧ ∀ q, D' q → D q ∨ wd.heap.size ≤ q := by
  have hpl : q < cb.length := (List.getElem?_eq_some_iff.1 hc).1
  have hc1 := hk.kcb c (List.mem_of_getElem? hc)
  have hg0 := GS_nonneg (fun x hx => (hk.kcb x hx).1) q (by omega)
  have hg1 := GS_le (fun x hx => (hk.kcb x hx).2) q (by omega)
  have hcv := pos_of hk.kw hk.kcw
  obtain ⟨b0, b1⟩ := bound_of (q := cw) hg0 (by omega) hcv.2 hg1 (by omega)
  have hn := hp.now
  refine (offer_ok gf D s 1 w (cw * GS cb q) (q : Int) c wd h (by rw [hp.ws]; rfl) (by rw [hp.es]; rfl) (by omega) (by omega) (by rw [hp.len]; omega) hk.kw ⟨b0, by omega⟩ (by rw [hn]; omega)).mono ?_
  rintro e w' ⟨rfl, l', D', h2, h3, h4, h5⟩
  have hm : max (cw * GS cb q) s.now = cw * GS cb q := by rw [hn]; omega
  have he : s.es.set 1 (cw * GS cb q + (2520 * c).tdiv w) = [cv * GS ca p, cw * GS cb (q + 1)] := by
    rw [hp.es, share_div hk.kw.1 hk.kcw, GS_succ hc, Int.mul_add]; rfl
  rw [hm, he] at h2
  rw [hm] at h3
  refine ⟨rfl, _, D', h2, ⟨hp.ws, hn, rfl, ?_⟩, h4, h5⟩
  refine h3.trans ((hp.perm.append_right _).trans ?_)
  rw [thL_snoc, List.append_assoc]
  exact List.Perm.refl _
end Go.Proofs.Ytgoapmjcfdbjpaa
namespace Go.Proofs.Ytgoapmjcfdbjpaa
open Go.RowKit
theorem row_two {w : World} {b : Nat} {x y : Int} {t : TypeId} {fr : Nat × Nat} (h : w.heap[b]? = some (.cells #[.int .i64 x, .int .i64 y] t fr)) (hx : (Lit.int .i64 x).wf = true) (hy : (Lit.int .i64 y).wf = true) : RowAt RI 1 w (.slice (some ⟨b, 0, none⟩) 2 2) [x, y] := by
  refine .inr ⟨_, 2, rfl, Nat.le_refl _, by unfold maxLen; decide, fun j z hj => ?_⟩
  match j, hj with
  | 0, hj =>
    simp at hj; subst hj
    refine ⟨[.int .i64 x], rfl, fun i u hu => ?_, rfl, hx⟩
    match i, hu with
    | 0, hu => simp at hu; subst hu; rw [add_plain', cell_of_row w b _ _ t fr h]; rfl
    | i + 1, hu => simp at hu
  | 1, hj =>
    simp at hj; subst hj
    refine ⟨[.int .i64 y], rfl, fun i u hu => ?_, rfl, hy⟩
    match i, hu with
    | 0, hu => simp at hu; subst hu; rw [add_plain', cell_of_row w b _ _ t fr h]; rfl
    | i + 1, hu => simp at hu
  | j + 2, hj => simp at hj
theorem row_take {w : World} {a : Option Addr} {n c : Nat} {l : List Int} (h : RowAt RI 1 w (.slice a n c) l) (k : Nat) (hk : k ≤ l.length) : RowAt RI 1 w (.slice a k c) (l.take k) := by
  rcases h with ⟨h0, h1⟩ | ⟨a', c', h0, h1, h2, h3⟩
  · cases h0
    subst h1
    obtain rfl : k = 0 := by simpa using hk
    exact .inl ⟨rfl, rfl⟩
  · cases h0
    refine .inr ⟨a', c, by rw [List.length_take]; congr 1; omega, by rw [List.length_take]; omega, h2, fun j x hj => ?_⟩
    have hjk : j < k := by
      have := (List.getElem?_eq_some_iff.1 hj).1
      rw [List.length_take] at this; omega
    rw [List.getElem?_take_of_lt hjk] at hj
    exact h3 j x hj
theorem take_min (l : List Int) : l.take (min l.length 30) = l.take 30 := by
  rcases Nat.le_total l.length 30 with h | h
  · rw [Nat.min_eq_left h, List.take_of_length_le (Nat.le_refl _), List.take_of_length_le h]
  · rw [Nat.min_eq_right h]
def Phase1 (B : Nat) (wd wr : World) (gf : Nat) (v w cv cw : Int) (ca cb : List Int) (p q : Nat) (ma mb : Int) : Prop :=
  ∃ D s, FairD wr gf D s ∧ PH v w cv cw ca cb p q s ∧ (∀ x ∈ ca.take p, x ≤ ma) ∧ (∀ x ∈ cb.take q, x ≤ mb) ∧ (0 ≤ ma ∧ ma ≤ 1000) ∧ (0 ≤ mb ∧ mb ≤ 1000) ∧ (∀ b, D b → B ≤ b) ∧ Below B wd wr
theorem Phase1.below {B : Nat} {wd wr w' : World} {gf : Nat} {v w cv cw : Int} {ca cb : List Int} {p q : Nat} {ma mb : Int} (h : Phase1 B wd wr gf v w cv cw ca cb p q ma mb) (hb : Below wr.heap.size wr w') (hB : B ≤ wr.heap.size) : Phase1 B wd w' gf v w cv cw ca cb p q ma mb := by
  obtain ⟨D, s, ⟨wv, ev, v', h1, hd⟩, h2, h3, h4, h5, h6, h7, h8⟩ := h
  exact ⟨D, s, ⟨wv, ev, v', h1.agree fun q hq => hb.block q (h1.lt hq), hd⟩, h2, h3, h4, h5, h6, h7, h8.trans (hb.mono hB)⟩
def Phase2 (B : Nat) (wd wq : World) (gf : Nat) (cv cw : Int) (ca cb : List Int) (i j : Nat) : Prop :=
  ∃ D s, FairD wq gf D s ∧ s.l.Perm (thL 0 cv ca i ca.length ++ thL 1 cw cb j cb.length) ∧ (∀ b, D b → B ≤ b) ∧ Below B wd wq
abbrev IdxOk (na nb : Nat) (v w : Int) (ca cb : List Int) (ma mb : Int) (i j : Nat) : Prop :=
  i ≤ na ∧ j ≤ nb ∧ ((i < na ∧ j < nb) ∨ (i = 0 ∧ j = 0)) ∧ GapOk v w (GS ca i) (GS cb j) ma mb
theorem mul_in {x y : Int} (hx : 0 ≤ x ∧ x ≤ 30000) (hy : 1 ≤ y ∧ y ≤ 10) : 0 ≤ x * y ∧ x * y ≤ 300000 := by
  refine ⟨Int.mul_nonneg hx.1 (by omega), ?_⟩
  have := Int.mul_le_mul hx.2 hy.2 (by omega) (by omega)
  omega
theorem FairD.heap' {w : World} {gf : Nat} {D : Dom} {s : FairS} (h : FairD w gf D s) : HeapL s.l s.l.length := by
  obtain ⟨wv, ev, v, h1, h2⟩ := h
  exact h1.heap
theorem Phase1.stepA {B : Nat} {wd wr w' : World} {gf : Nat} {v w cv cw : Int} {ca cb : List Int} {p q : Nat} {ma mb c : Int} {D : Dom} (hma : ∀ x ∈ ca.take p, x ≤ ma) (hmb : ∀ x ∈ cb.take q, x ≤ mb) (ha : 0 ≤ ma ∧ ma ≤ 1000) (hb : 0 ≤ mb ∧ mb ≤ 1000) (hD : ∀ b, D b → B ≤ b) (hbl : Below B wd wr) (hB : B ≤ wr.heap.size)
    (hc : ca[p]? = some c) (hc1 : c ≤ 1000) (hpost : ∃ s' D', FairD w' gf D' s' ∧ PH v w cv cw ca cb (p + 1) q s' ∧ Only D wr w' ∧ ∀ q, D' q → D q ∨ wr.heap.size ≤ q) : Phase1 B wd w' gf v w cv cw ca cb (p + 1) q (max ma c) mb := by
  obtain ⟨s', D', h1, h2, h3, h4⟩ := hpost
  refine ⟨D', s', h1, h2, fun x hx => ?_, hmb, by omega, hb, fun b hb => ?_, hbl.trans (h3.below hD hB)⟩
  · rw [List.take_add_one, hc] at hx
    rcases List.mem_append.1 hx with h9 | h9
    · have := hma x h9; omega
    · have : x = c := by simpa using h9
      omega
  · rcases h4 b hb with h9 | h9
    · exact hD b h9
    · omega
theorem Phase1.stepB {B : Nat} {wd wr w' : World} {gf : Nat} {v w cv cw : Int} {ca cb : List Int} {p q : Nat} {ma mb c : Int} {D : Dom} (hma : ∀ x ∈ ca.take p, x ≤ ma) (hmb : ∀ x ∈ cb.take q, x ≤ mb) (ha : 0 ≤ ma ∧ ma ≤ 1000) (hb : 0 ≤ mb ∧ mb ≤ 1000) (hD : ∀ b, D b → B ≤ b) (hbl : Below B wd wr) (hB : B ≤ wr.heap.size)
    (hc : cb[q]? = some c) (hc1 : c ≤ 1000) (hpost : ∃ s' D', FairD w' gf D' s' ∧ PH v w cv cw ca cb p (q + 1) s' ∧ Only D wr w' ∧ ∀ q, D' q → D q ∨ wr.heap.size ≤ q) : Phase1 B wd w' gf v w cv cw ca cb p (q + 1) ma (max mb c) := by
  obtain ⟨s', D', h1, h2, h3, h4⟩ := hpost
  refine ⟨D', s', h1, h2, hma, fun x hx => ?_, ha, by omega, fun b hb => ?_, hbl.trans (h3.below hD hB)⟩
  · rw [List.take_add_one, hc] at hx
    rcases List.mem_append.1 hx with h9 | h9
    · have := hmb x h9; omega
    · have : x = c := by simpa using h9
      omega
  · rcases h4 b hb with h9 | h9
    · exact hD b h9
    · omega
def costs (l : List Int) : List Int := (l.take 30).map costI
theorem costs_len (l : List Int) : (costs l).length = min l.length 30 := by unfold costs; rw [List.length_map, List.length_take]; omega
theorem costs_get {l : List Int} {i : Nat} (h : i < (costs l).length) : ∃ z, (l.take 30)[i]? = some z ∧ (costs l)[i]? = some (costI z) := by
  unfold costs at h ⊢
  rw [List.length_map] at h
  exact ⟨(l.take 30)[i], List.getElem?_eq_getElem h, by rw [List.getElem?_map, List.getElem?_eq_getElem h]; rfl⟩
theorem costs_in {l : List Int} : ∀ x ∈ costs l, 1 ≤ x ∧ x ≤ 1000 := fun x hx => by
  unfold costs at hx
  obtain ⟨z, _, rfl⟩ := List.mem_map.1 hx
  exact costI_in z
set_option maxRecDepth 100000 in
set_option maxHeartbeats 6400000 in
theorem flowFair_walk (a0 a1 : Int) (v2 : Value) (la : List Int) (v3 : Value) (lb : List Int) (a4 : Int) (w : World) (_h0 : (Lit.int .i64 a0).wf = true) (_h1 : (Lit.int .i64 a1).wf = true) (h2 : RowAt RI 1 w v2 la) (h3 : RowAt RI 1 w v3 lb) (_h4 : (Lit.int .i64 a4).wf = true)
    (hbulk : 1 + (1 + ((la.map fun _ => 1).sum + 1 + ((lb.map fun _ => 1).sum + 1 + (1 + 0)))) ≤ 1048576) :
    Calls Try.prog 7 #[.int .i64 a0, .int .i64 a1, v2, v3, .int .i64 a4] w fun e w' => e = .returned (.bool true) ∧ Below w.heap.size w w' := by
  obtain ⟨aa, ac, hv2, hac, hac2⟩ := h2.len
  obtain ⟨ba, bc, hv3, hbc, hbc2⟩ := h3.len
  obtain ⟨v, hv⟩ : ∃ v, 1 + restOf a0 10 = v := ⟨_, rfl⟩
  obtain ⟨wt, hwt⟩ : ∃ wt, 1 + restOf a1 10 = wt := ⟨_, rfl⟩
  have hr0 := restOf_in (a := a0) (b := 10) (by omega)
  have hr1 := restOf_in (a := a1) (b := 10) (by omega)
  have hv1 : 1 ≤ v ∧ v ≤ 10 := by omega
  have hw1 : 1 ≤ wt ∧ wt ≤ 10 := by omega
  obtain ⟨cv, hcv⟩ := share hv1
  obtain ⟨cw, hcw⟩ := share hw1
  have hK : FairK v wt cv cw (costs la) (costs lb) := ⟨hv1, hw1, hcv, hcw, costs_in, costs_in⟩
  obtain ⟨na0, hna0⟩ : ∃ n, la.length = n := ⟨_, rfl⟩
  obtain ⟨nb0, hnb0⟩ : ∃ n, lb.length = n := ⟨_, rfl⟩
  rw [hna0] at hv2 hac
  rw [hnb0] at hv3 hbc
  subst hv2 hv3
  have hR0 := rest_any a0 10 w (by omega) (by omega)
  have hR1 := rest_any a1 10 w (by omega) (by omega)
  obtain ⟨rv, hrv⟩ : ∃ z, restOf a0 10 = z := ⟨_, rfl⟩
  obtain ⟨rw9, hrw⟩ : ∃ z, restOf a1 10 = z := ⟨_, rfl⟩
  rw [hrv] at hR0 hv
  rw [hrw] at hR1 hwt
  have HR0 := Lib.hid hR0
  have HR1 := Lib.hid hR1
  have u1 : IntKind.i64.wrap v = v := IntWalk.i64_in _ (by omega)
  have u2 : IntKind.i64.wrap wt = wt := IntWalk.i64_in _ (by omega)
  obtain ⟨w1, hw1e⟩ : ∃ z, z = w.alloc (.cells #[.int .i64 v, .int .i64 wt] 3) := ⟨_, rfl⟩
  obtain ⟨b1, hb1e⟩ : ∃ z, z = w.heap.size := ⟨_, rfl⟩
  have hx1 : w1.heap[b1]? = some (.cells #[.int .i64 v, .int .i64 wt] 3 (0, 0)) := by rw [hw1e, hb1e]; exact heap_alloc_new w _
  have hbl1 : Below w.heap.size w w1 := by rw [hw1e]; exact (Below.refl _ w).alloc (Nat.le_refl _) _
  have hbad : [v, wt].any badW = false := by
    have e1 : badW v = false := by unfold badW; simp; omega
    have e2 : badW wt = false := by unfold badW; simp; omega
    simp [e1, e2]
  have hwv : (Lit.int .i64 v).wf = true := i64_wf (by omega) (by omega)
  have hww : (Lit.int .i64 wt).wf = true := i64_wf (by omega) (by omega)
  have HN := Lib.hid (new_ok _ [v, wt] w1 (row_two hx1 hwv hww) (fun x hx => by
    rcases List.mem_cons.1 hx with rfl | hx
    · exact hwv
    · rw [List.mem_singleton.1 hx]; exact hww) (by simp) (by simp) hbad)
  have HK := Lib.hid hK
  have H2 := Lib.hid h2
  have H3 := Lib.hid h3
  have HB1 := Lib.hid hbl1
  have Hna := Lib.hid hna0
  have Hnb := Lib.hid hnb0
  clear h2 h3 hK hR0 hR1 hx1 hbl1 hbad hwv hww hrv hrw hcv hcw hna0 hnb0 hbulk hr0 hr1
  go_enter Try.func7, Try.ntmps7
  go_wp2_with fail
  refine HR0.out.mono ?_
  rintro e w' ⟨rfl, h9⟩
  subst h9
  clear HR0
  go_wp2_with fail
  refine HR1.out.mono ?_
  rintro e w' ⟨rfl, h9⟩
  subst h9
  clear HR1
  go_wp2_with fail
  rw [← hw1e]
  try rw [← hb1e]
  clear hw1e hb1e
  refine HN.out.mono ?_
  rintro e w2 ⟨gf, rfl, hf2, hbl2⟩
  have hsz2 := HB1.out.size
  have HO := Lib.hid (offer_none gf _ _ 2 0 1 w2 hf2 (.inr (by show ((2 : Nat) : Int) ≤ 2; omega)))
  have HPh : Hid (Phase1 w.heap.size w w2 gf v wt cv cw (costs la) (costs lb) 0 0 0 0) := Lib.hid ⟨_, _, hf2, ⟨rfl, rfl, by simp [GS_zero], by
    unfold thL; simp⟩, fun x hx => (by simp at hx), fun x hx => (by simp at hx), by omega, by omega, fun b hb => Nat.le_trans hsz2 hb, HB1.out.trans (hbl2.mono hsz2)⟩
  clear HN hf2 hbl2 HB1 hsz2
  go_wp2_with fail
  refine HO.out.mono ?_
  rintro e w' ⟨rfl, h9⟩
  subst h9
  clear HO
  obtain ⟨na, hna⟩ : ∃ z, min na0 30 = z := ⟨_, rfl⟩
  obtain ⟨nb, hnb⟩ : ∃ z, min nb0 30 = z := ⟨_, rfl⟩
  have m1 : min (na0 : Int) 30 = (na : Int) := by omega
  have m2 : min (nb0 : Int) 30 = (nb : Int) := by omega
  have p1 : (0 : Int) ≤ (na : Int) := by omega
  have p2 : (na : Int) ≤ (ac : Int) := by omega
  have p3 : (0 : Int) ≤ (nb : Int) := by omega
  have p4 : (nb : Int) ≤ (bc : Int) := by omega
  have p5 : na ≤ ac := by omega
  have p6 : nb ≤ bc := by omega
  have HAr := Lib.hid (row_take H2.out na (by rw [Hna.out]; omega))
  have HBr := Lib.hid (row_take H3.out nb (by rw [Hnb.out]; omega))
  have ta : la.take na = la.take 30 := by rw [← hna, ← Hna.out, take_min]
  have tb : lb.take nb = lb.take 30 := by rw [← hnb, ← Hnb.out, take_min]
  rw [ta] at HAr
  rw [tb] at HBr
  have lca : (costs la).length = na := by rw [costs_len, Hna.out, hna]
  have lcb : (costs lb).length = nb := by rw [costs_len, Hnb.out, hnb]
  have Lca := Lib.hid lca
  have Lcb := Lib.hid lcb
  have hna30 : na ≤ 30 := by omega
  have hnb30 : nb ≤ 30 := by omega
  obtain ⟨mx, hmx⟩ : ∃ z, max na nb = z := ⟨_, rfl⟩
  have m3 : max (na : Int) (nb : Int) = (mx : Int) := by omega
  have Hmx := Lib.hid hmx
  go_upto_region 5 with fail
  go_region
  obtain ⟨w3, hw3⟩ : ∃ z, w2.drew = z := ⟨_, rfl⟩
  have hb3 : Below w2.heap.size w2 w3 := by rw [← hw3]; exact (Below.refl _ _).drew
  have hsz : w.heap.size ≤ w2.heap.size := by obtain ⟨_, _, _, _, _, _, _, _, _, h9⟩ := HPh.out; exact h9.size
  have HP3 := Lib.hid (HPh.out.below hb3 hsz)
  rw [hw3]
  clear hw3 hb3 hsz HPh ta tb lca lcb m1 m2 p1 p2 p3 p4 p5 p6 hna hnb hmx hac hbc H2 H3
  have ec := enter_cost
  go_wp2_with fail
  go_loopg [14, 15, 64] mx (fun g u14 u15 u64 wr => ∃ (i p q : Nat) (ma mb : Int), i + g = mx ∧ u64 = .int .i64 (i : Int) ∧ u14 = .int .i64 ma ∧ u15 = .int .i64 mb ∧ Hid (p = min i na ∧ q = min i nb) ∧ Hid (Phase1 w.heap.size w wr gf v wt cv cw (costs la) (costs lb) p q ma mb))
  case atStart => exact ⟨0, 0, 0, 0, 0, by omega, rfl, rfl, rfl, Lib.hid ⟨by omega, by omega⟩, HP3⟩
  case round =>
    clear HP3
    obtain ⟨i, p, q, ma, mb, hig, rfl, rfl, rfl, Hpq, HP⟩ := hrel
    cases gk with
    | zero =>
      obtain rfl : mx = i := by omega
      have hmx9 := Hmx.out
      obtain ⟨hp, hq⟩ := Hpq.out
      obtain rfl : na = p := by omega
      obtain rfl : nb = q := by omega
      clear hp hq hmx9
      go_wp2_with fail
      go_upto_region 21 with fail
      obtain ⟨cn, hcn⟩ : ∃ cn : Nat, restOf a4 60 = (cn : Int) := ⟨(restOf a4 60).toNat, by have := restOf_in (a := a4) (b := 60) (by omega); omega⟩
      have hcn60 : cn < 60 := by have := restOf_in (a := a4) (b := 60) (by omega); omega
      have HRm := Lib.hid (rest_any a4 60 wr (by omega) (by omega))
      rw [hcn] at HRm
      obtain ⟨D, s, hf, hph, hma, hmb, hma0, hmb0, hD, hbl⟩ := HP.out
      have HMa : Hid (∀ x ∈ costs la, x ≤ ma) := Lib.hid fun x hx => hma x (by rw [List.take_of_length_le (by rw [Lca.out]; exact Nat.le_refl _)]; exact hx)
      have HMb : Hid (∀ x ∈ costs lb, x ≤ mb) := Lib.hid fun x hx => hmb x (by rw [List.take_of_length_le (by rw [Lcb.out]; exact Nat.le_refl _)]; exact hx)
      have HQ0 : Hid (Phase2 w.heap.size w wr gf cv cw (costs la) (costs lb) 0 0) := Lib.hid ⟨D, s, hf, by rw [Lca.out, Lcb.out]; exact hph.perm, hD, hbl⟩
      have HI0 : Hid (IdxOk na nb v wt (costs la) (costs lb) ma mb 0 0) := Lib.hid ⟨by omega, by omega, .inr ⟨rfl, rfl⟩, GapOk.zero hv1.1 hw1.1 hma0.1 hmb0.1⟩
      clear hf hph hma hmb hD hbl HP hcn
      go_wp2_with fail
      refine HRm.out.mono ?_
      rintro e w' ⟨rfl, h9⟩
      subst h9
      clear HRm
      go_wp2_with fail
      go_loopg [17, 18, 19, 20, 106] cn (fun g u17 u18 u19 u20 u106 wq => ∃ (i j c9 : Nat) (ga gb : Int), c9 + g = cn ∧ u106 = .int .i64 (c9 : Int) ∧ u17 = .int .i64 ga ∧ u18 = .int .i64 gb ∧ u19 = .int .i64 (i : Int) ∧ u20 = .int .i64 (j : Int) ∧ Hid (ga = GS (costs la) i) ∧ Hid (gb = GS (costs lb) j) ∧
        Hid (IdxOk na nb v wt (costs la) (costs lb) ma mb i j) ∧ Hid (Phase2 w.heap.size w wq gf cv cw (costs la) (costs lb) i j))
      case atStart => exact ⟨0, 0, 0, 0, 0, by omega, rfl, rfl, rfl, rfl, rfl, Lib.hid rfl, Lib.hid rfl, HI0, HQ0⟩
      case round =>
        clear HQ0 HI0
        obtain ⟨i, j, c9, ga, gb, hcg, rfl, rfl, rfl, rfl, rfl, Hga, Hgb, HI, HQ⟩ := hrel
        cases gk with
        | zero =>
          obtain rfl : cn = c9 := by omega
          have HB2 : Hid (Below w.heap.size w wr) := Lib.hid (by obtain ⟨_, _, _, _, _, h9⟩ := HQ.out; exact h9)
          go_wp2_with fail
          go_ret
          exact ⟨rfl, HB2.out⟩
        | succ g =>
          have qc : (c9 : Int) < (cn : Int) := by omega
          have hg1 : 0 ≤ ga ∧ ga ≤ 30000 ∧ 0 ≤ gb ∧ gb ≤ 30000 := by
            rw [Hga.out, Hgb.out]
            have h9 := HI.out
            have g9 := GS_nonneg (c := costs la) (fun x hx => (costs_in x hx).1) i (by rw [Lca.out]; omega)
            have g8 := GS_le (c := costs la) (fun x hx => (costs_in x hx).2) i (by rw [Lca.out]; omega)
            have g7 := GS_nonneg (c := costs lb) (fun x hx => (costs_in x hx).1) j (by rw [Lcb.out]; omega)
            have g6 := GS_le (c := costs lb) (fun x hx => (costs_in x hx).2) j (by rw [Lcb.out]; omega)
            omega
          have hij : i ≤ 30 ∧ j ≤ 30 := by have := HI.out; omega
          obtain ⟨D, s, hf, hperm, hD, hbl⟩ := HQ.out
          have hsz : w.heap.size ≤ wr.heap.size := hbl.size
          by_cases hl0 : s.l = []
          · have HN := Lib.hid (next_none gf D s wr hf hl0)
            have hlen := hperm.length_eq
            rw [hl0, List.length_append] at hlen
            have hia : i = na := by
              rcases Nat.lt_or_ge i (costs la).length with h9 | h9
              · rw [thL_cons h9, List.length_cons, List.length_nil] at hlen; omega
              · rw [Lca.out] at h9; have := HI.out; omega
            have hjb : j = nb := by
              rcases Nat.lt_or_ge j (costs lb).length with h9 | h9
              · rw [thL_cons (i := j) h9, List.length_cons, List.length_nil] at hlen; omega
              · rw [Lcb.out] at h9; have := HI.out; omega
            have HB2 := Lib.hid hbl
            have e1 : ((i : Int) == (na : Int)) = true := by rw [hia]; simp
            have e2 : ((j : Int) == (nb : Int)) = true := by rw [hjb]; simp
            have e3 : (i : Int) = (na : Int) := by omega
            have e4 : (j : Int) = (nb : Int) := by omega
            clear hf hperm hD hbl hl0 hlen hia hjb HQ HI Hga Hgb
            go_wp2_with fail
            refine HN.out.mono ?_
            rintro e w' ⟨rfl, h9⟩
            subst h9
            clear HN
            go_wp2_with fail
            go_ret
            exact ⟨rfl, HB2.out⟩
          · obtain ⟨x, hx⟩ : ∃ x, s.l[0]? = some x := ⟨s.l[0]'(List.length_pos_iff.2 hl0), List.getElem?_eq_getElem _⟩
            have hl30 : s.l.length ≤ 1048576 := by
              rw [hperm.length_eq, List.length_append]
              unfold thL
              rw [List.length_map, List.length_map, List.length_range', List.length_range', Lca.out, Lcb.out]
              omega
            have HN := Lib.hid (next_some gf D s x wr hf hx hl30)
            have Hx := Lib.hid hx
            have Hperm := Lib.hid hperm
            have Hf := Lib.hid hf
            have HD9 := Lib.hid hD
            have Hbl := Lib.hid hbl
            have Hsz := Lib.hid hsz
            clear hf hperm hD hbl hl0 hl30 hx HQ
            go_wp2_with fail
            refine HN.out.mono ?_
            rintro e w2 ⟨rfl, l', hf2, hp2, hO2⟩
            have hD := HD9.out
            have hb2 : Below w.heap.size w w2 := Hbl.out.trans (hO2.below hD Hsz.out)
            rcases HK.out.take Hperm.out Hx.out Hf.out.heap' hp2 with ⟨hi9, hx9, hcmp, hl9⟩ | ⟨hi9, hx9, hcmp, hl9⟩
            · clear HN Hx Hperm Hf HD9 Hbl
              obtain ⟨z, hz, hcz⟩ := costs_get (l := la) (i := i) hi9
              have hxid : x.id = (i : Int) := by rw [hx9]; rfl
              have hxfl : x.flow = 0 := by rw [hx9]; rfl
              have hc9 := costI_in z
              have hcm := HMa.out _ (List.mem_of_getElem? hcz)
              have HC := Lib.hid (cost_any _ _ i z w2 (HAr.out.below stays_int' hb2) hz)
              obtain ⟨c, hc⟩ : ∃ c, costI z = c := ⟨_, rfl⟩
              rw [hc] at HC hcz hc9 hcm
              rw [Lca.out] at hi9
              have qi : (i : Int) < (na : Int) := by omega
              obtain ⟨g2, hg2⟩ : ∃ z, ga + c = z := ⟨_, rfl⟩
              have hg3 : GS (costs la) (i + 1) = g2 := by rw [GS_succ hcz, ← Hga.out, hg2]
              have hgl : 0 ≤ g2 ∧ g2 ≤ 30000 := by
                rw [← hg3]
                have g9 := GS_nonneg (c := costs la) (fun x hx => (costs_in x hx).1) (i + 1) (by rw [Lca.out]; omega)
                have g8 := GS_le (c := costs la) (fun x hx => (costs_in x hx).2) (i + 1) (by rw [Lca.out]; omega)
                omega
              have r1 : IntKind.i64.wrap g2 = g2 := IntWalk.i64_in _ (by omega)
              have r2 : IntKind.i64.wrap ((i : Int) + 1) = (i : Int) + 1 := IntWalk.i64_in _ (by omega)
              have HS2 : Hid (Phase2 w.heap.size w w2 gf cv cw (costs la) (costs lb) (i + 1) j) := Lib.hid ⟨D, _, hf2, hl9, hD, hb2⟩
              have HB2 := Lib.hid hb2
              have Hg3 := Lib.hid hg3
              have Hc := Lib.hid (show 1 ≤ c ∧ c ≤ ma from ⟨hc9.1, hcm⟩)
              have Hcmp := Lib.hid hcmp
              rw [hxid, hxfl]
              clear hxid hxfl hx9 hz hcz hc9 hcm hc hg3 hf2 hp2 hO2 hl9 hb2 hD hcmp
              go_wp2_with fail
              refine HC.out.mono ?_
              rintro e w' ⟨rfl, h9⟩
              subst h9
              clear HC
              by_cases h1 : i + 1 = na
              · have e1 : (((i : Int) + 1) == (na : Int)) = true := by rw [beq_iff_eq]; omega
                have e1' : (i : Int) + 1 = (na : Int) := by omega
                go_wp2_with fail
                go_ret
                exact ⟨rfl, HB2.out⟩
              · have e1 : (((i : Int) + 1) == (na : Int)) = false := by rw [beq_eq_false_iff_ne]; omega
                have e1' : ¬ ((i : Int) + 1 = (na : Int)) := by omega
                by_cases h2 : j = nb
                · have e2 : (((j : Int)) == (nb : Int)) = true := by rw [beq_iff_eq]; omega
                  have e2' : (j : Int) = (nb : Int) := by omega
                  go_wp2_with fail
                  go_ret
                  exact ⟨rfl, HB2.out⟩
                · have e2 : (((j : Int)) == (nb : Int)) = false := by rw [beq_eq_false_iff_ne]; omega
                  have e2' : ¬ ((j : Int) = (nb : Int)) := by omega
                  have hgap : GapOk v wt (GS (costs la) (i + 1)) (GS (costs lb) j) ma mb := by
                    rw [Hg3.out, ← hg2, Hga.out]
                    have h9 : j < (costs lb).length := by rw [Lcb.out]; have := HI.out; omega
                    exact GapOk.tookA HK.out HI.out.2.2.2 (Hcmp.out h9) Hc.out
                  have hgap2 : GapOk v wt g2 gb ma mb := by rw [Hg3.out, ← Hgb.out] at hgap; exact hgap
                  obtain ⟨P1, hP1⟩ : ∃ z, g2 * wt = z := ⟨_, rfl⟩
                  obtain ⟨P2, hP2⟩ : ∃ z, gb * v = z := ⟨_, rfl⟩
                  obtain ⟨M1, hM1⟩ : ∃ z, ma * wt = z := ⟨_, rfl⟩
                  obtain ⟨M2, hM2⟩ : ∃ z, mb * v = z := ⟨_, rfl⟩
                  have b1 : 0 ≤ P1 ∧ P1 ≤ 300000 := by rw [← hP1]; exact mul_in (by omega) hw1
                  have b2 : 0 ≤ P2 ∧ P2 ≤ 300000 := by rw [← hP2]; exact mul_in (by omega) hv1
                  have b3 : 0 ≤ M1 ∧ M1 ≤ 300000 := by rw [← hM1]; exact mul_in (by omega) hw1
                  have b4 : 0 ≤ M2 ∧ M2 ≤ 300000 := by rw [← hM2]; exact mul_in (by omega) hv1
                  have hs := GapOk.sound HK.out hgap2 hma0.1 hmb0.1
                  rw [hP1, hP2, hM1, hM2] at hs
                  obtain ⟨G, hG⟩ : ∃ z, P1 - P2 = z := ⟨_, rfl⟩
                  obtain ⟨M, hM⟩ : ∃ z, M1 + M2 = z := ⟨_, rfl⟩
                  obtain ⟨NG, hNG⟩ : ∃ z, -G = z := ⟨_, rfl⟩
                  rw [hG, hM, hNG] at hs
                  obtain ⟨s1, s2⟩ := hs
                  have t1 : IntKind.i64.wrap P1 = P1 := IntWalk.i64_in _ (by omega)
                  have t2 : IntKind.i64.wrap P2 = P2 := IntWalk.i64_in _ (by omega)
                  have t3 : IntKind.i64.wrap M1 = M1 := IntWalk.i64_in _ (by omega)
                  have t4 : IntKind.i64.wrap M2 = M2 := IntWalk.i64_in _ (by omega)
                  have t5 : IntKind.i64.wrap G = G := IntWalk.i64_in _ (by omega)
                  have t6 : IntKind.i64.wrap M = M := IntWalk.i64_in _ (by omega)
                  have t7 : IntKind.i64.wrap NG = NG := IntWalk.i64_in _ (by omega)
                  have HI2 : Hid (IdxOk na nb v wt (costs la) (costs lb) ma mb (i + 1) j) := Lib.hid ⟨by have := HI.out; omega, by have := HI.out; omega, .inl ⟨by have := HI.out; omega, by have := HI.out; omega⟩, hgap⟩
                  clear hgap hgap2 b1 b2 b3 b4
                  go_wp2_with fail
                  go_roundg g
                  case measure => omega
                  case rel => exact ⟨(i + 1), j, c9 + 1, g2, gb, by omega, by go_num, rfl, rfl, by go_num, by go_num, Lib.hid Hg3.out.symm, Lib.hid Hgb.out, HI2, HS2⟩
            · clear HN Hx Hperm Hf HD9 Hbl
              obtain ⟨z, hz, hcz⟩ := costs_get (l := lb) (i := j) hi9
              have hxid : x.id = (j : Int) := by rw [hx9]; rfl
              have hxfl : x.flow = 1 := by rw [hx9]; rfl
              have hc9 := costI_in z
              have hcm := HMb.out _ (List.mem_of_getElem? hcz)
              have HC := Lib.hid (cost_any _ _ j z w2 (HBr.out.below stays_int' hb2) hz)
              obtain ⟨c, hc⟩ : ∃ c, costI z = c := ⟨_, rfl⟩
              rw [hc] at HC hcz hc9 hcm
              rw [Lcb.out] at hi9
              have qi : (j : Int) < (nb : Int) := by omega
              obtain ⟨g2, hg2⟩ : ∃ z, gb + c = z := ⟨_, rfl⟩
              have hg3 : GS (costs lb) (j + 1) = g2 := by rw [GS_succ hcz, ← Hgb.out, hg2]
              have hgl : 0 ≤ g2 ∧ g2 ≤ 30000 := by
                rw [← hg3]
                have g9 := GS_nonneg (c := costs lb) (fun x hx => (costs_in x hx).1) (j + 1) (by rw [Lcb.out]; omega)
                have g8 := GS_le (c := costs lb) (fun x hx => (costs_in x hx).2) (j + 1) (by rw [Lcb.out]; omega)
                omega
              have r1 : IntKind.i64.wrap g2 = g2 := IntWalk.i64_in _ (by omega)
              have r2 : IntKind.i64.wrap ((j : Int) + 1) = (j : Int) + 1 := IntWalk.i64_in _ (by omega)
              have HS2 : Hid (Phase2 w.heap.size w w2 gf cv cw (costs la) (costs lb) i (j + 1)) := Lib.hid ⟨D, _, hf2, hl9, hD, hb2⟩
              have HB2 := Lib.hid hb2
              have Hg3 := Lib.hid hg3
              have Hc := Lib.hid (show 1 ≤ c ∧ c ≤ mb from ⟨hc9.1, hcm⟩)
              have Hcmp := Lib.hid hcmp
              rw [hxid, hxfl]
              clear hxid hxfl hx9 hz hcz hc9 hcm hc hg3 hf2 hp2 hO2 hl9 hb2 hD hcmp
              go_wp2_with fail
              refine HC.out.mono ?_
              rintro e w' ⟨rfl, h9⟩
              subst h9
              clear HC
              by_cases h1 : i = na
              · have e1 : (((i : Int)) == (na : Int)) = true := by rw [beq_iff_eq]; omega
                have e1' : (i : Int) = (na : Int) := by omega
                go_wp2_with fail
                go_ret
                exact ⟨rfl, HB2.out⟩
              · have e1 : (((i : Int)) == (na : Int)) = false := by rw [beq_eq_false_iff_ne]; omega
                have e1' : ¬ ((i : Int) = (na : Int)) := by omega
                by_cases h2 : j + 1 = nb
                · have e2 : (((j : Int) + 1) == (nb : Int)) = true := by rw [beq_iff_eq]; omega
                  have e2' : (j : Int) + 1 = (nb : Int) := by omega
                  go_wp2_with fail
                  go_ret
                  exact ⟨rfl, HB2.out⟩
                · have e2 : (((j : Int) + 1) == (nb : Int)) = false := by rw [beq_eq_false_iff_ne]; omega
                  have e2' : ¬ ((j : Int) + 1 = (nb : Int)) := by omega
                  have hgap : GapOk v wt (GS (costs la) i) (GS (costs lb) (j + 1)) ma mb := by
                    rw [Hg3.out, ← hg2, Hgb.out]
                    have h9 : i < (costs la).length := by rw [Lca.out]; have := HI.out; omega
                    exact GapOk.tookB HK.out HI.out.2.2.2 (Int.le_of_lt (Hcmp.out h9)) Hc.out
                  have hgap2 : GapOk v wt ga g2 ma mb := by rw [Hg3.out, ← Hga.out] at hgap; exact hgap
                  obtain ⟨P1, hP1⟩ : ∃ z, ga * wt = z := ⟨_, rfl⟩
                  obtain ⟨P2, hP2⟩ : ∃ z, g2 * v = z := ⟨_, rfl⟩
                  obtain ⟨M1, hM1⟩ : ∃ z, ma * wt = z := ⟨_, rfl⟩
                  obtain ⟨M2, hM2⟩ : ∃ z, mb * v = z := ⟨_, rfl⟩
                  have b1 : 0 ≤ P1 ∧ P1 ≤ 300000 := by rw [← hP1]; exact mul_in (by omega) hw1
                  have b2 : 0 ≤ P2 ∧ P2 ≤ 300000 := by rw [← hP2]; exact mul_in (by omega) hv1
                  have b3 : 0 ≤ M1 ∧ M1 ≤ 300000 := by rw [← hM1]; exact mul_in (by omega) hw1
                  have b4 : 0 ≤ M2 ∧ M2 ≤ 300000 := by rw [← hM2]; exact mul_in (by omega) hv1
                  have hs := GapOk.sound HK.out hgap2 hma0.1 hmb0.1
                  rw [hP1, hP2, hM1, hM2] at hs
                  obtain ⟨G, hG⟩ : ∃ z, P1 - P2 = z := ⟨_, rfl⟩
                  obtain ⟨M, hM⟩ : ∃ z, M1 + M2 = z := ⟨_, rfl⟩
                  obtain ⟨NG, hNG⟩ : ∃ z, -G = z := ⟨_, rfl⟩
                  rw [hG, hM, hNG] at hs
                  obtain ⟨s1, s2⟩ := hs
                  have t1 : IntKind.i64.wrap P1 = P1 := IntWalk.i64_in _ (by omega)
                  have t2 : IntKind.i64.wrap P2 = P2 := IntWalk.i64_in _ (by omega)
                  have t3 : IntKind.i64.wrap M1 = M1 := IntWalk.i64_in _ (by omega)
                  have t4 : IntKind.i64.wrap M2 = M2 := IntWalk.i64_in _ (by omega)
                  have t5 : IntKind.i64.wrap G = G := IntWalk.i64_in _ (by omega)
                  have t6 : IntKind.i64.wrap M = M := IntWalk.i64_in _ (by omega)
                  have t7 : IntKind.i64.wrap NG = NG := IntWalk.i64_in _ (by omega)
                  have HI2 : Hid (IdxOk na nb v wt (costs la) (costs lb) ma mb i (j + 1)) := Lib.hid ⟨by have := HI.out; omega, by have := HI.out; omega, .inl ⟨by have := HI.out; omega, by have := HI.out; omega⟩, hgap⟩
                  clear hgap hgap2 b1 b2 b3 b4
                  go_wp2_with fail
                  go_roundg g
                  case measure => omega
                  case rel => exact ⟨i, (j + 1), c9 + 1, ga, g2, by omega, by go_num, rfl, rfl, by go_num, by go_num, Lib.hid Hga.out, Lib.hid Hg3.out.symm, HI2, HS2⟩
    | succ g =>
      have hi : i < mx := by omega
      have hmx9 := Hmx.out
      have q1 : (i : Int) < (mx : Int) := by omega
      by_cases hA : i < na
      · obtain rfl : i = p := by have := Hpq.out.1; omega
        have qA : (i : Int) < (na : Int) := by omega
        clear hmx9
        obtain ⟨D, s, hf, hph, hma, hmb, hxa, hxb, hD, hbl⟩ := HP.out
        obtain ⟨z, hz, hcz⟩ := costs_get (l := la) (i := i) (by rw [Lca.out]; omega)
        have hsz : w.heap.size ≤ wr.heap.size := hbl.size
        have HC := Lib.hid (cost_any _ _ i z wr (HAr.out.below stays_int' hbl) hz)
        have HOf := Lib.hid (offerA_any hf HK.out hph hcz (by rw [Lca.out]; omega) (by have := Hpq.out; omega))
        have hc9 := costI_in z
        obtain ⟨c, hc⟩ : ∃ c, costI z = c := ⟨_, rfl⟩
        rw [hc] at HC HOf hcz hc9
        obtain ⟨ma2, hm2⟩ : ∃ z, max ma c = z := ⟨_, rfl⟩
        have HSt := Lib.hid (fun (w' : World) hpost => Phase1.stepA (w' := w') (gf := gf) (v := v) (w := wt) (cv := cv) (cw := cw) hma hmb hxa hxb hD hbl hsz hcz hc9.2 hpost)
        rw [hm2] at HSt
        clear hf hph hma hmb hxa hxb hD hbl hz hcz hc HP
        go_wp2_with fail
        refine HC.out.mono ?_
        rintro e w' ⟨rfl, h9⟩
        subst h9
        go_wp2_with fail
        refine HC.out.mono ?_
        rintro e w' ⟨rfl, h9⟩
        subst h9
        go_wp2_with fail
        refine HOf.out.mono ?_
        rintro e wa ⟨rfl, hpost⟩
        have HPA := Lib.hid (HSt.out wa hpost)
        clear HOf HC HSt hpost hm2
        by_cases hB : i < nb
        · obtain rfl : i = q := by have := Hpq.out.2; omega
          have qB : (i : Int) < (nb : Int) := by omega
          obtain ⟨D, s, hf, hph, hma, hmb, hxa, hxb, hD, hbl⟩ := HPA.out
          obtain ⟨z, hz, hcz⟩ := costs_get (l := lb) (i := i) (by rw [Lcb.out]; omega)
          have hsz : w.heap.size ≤ wa.heap.size := hbl.size
          have HC := Lib.hid (cost_any _ _ i z wa (HBr.out.below stays_int' hbl) hz)
          have HOf := Lib.hid (offerB_any hf HK.out hph hcz (by rw [Lcb.out]; omega) (by have := Hpq.out; omega))
          have hc9 := costI_in z
          obtain ⟨c, hc⟩ : ∃ c, costI z = c := ⟨_, rfl⟩
          rw [hc] at HC HOf hcz hc9
          obtain ⟨mb2, hm2⟩ : ∃ z, max mb c = z := ⟨_, rfl⟩
          have HSt := Lib.hid (fun (w' : World) hpost => Phase1.stepB (w' := w') (gf := gf) (v := v) (w := wt) (cv := cv) (cw := cw) hma hmb hxa hxb hD hbl hsz hcz hc9.2 hpost)
          rw [hm2] at HSt
          clear hf hph hma hmb hxa hxb hD hbl hz hcz hc HPA
          go_wp2_with fail
          refine HC.out.mono ?_
          rintro e w' ⟨rfl, h9⟩
          subst h9
          go_wp2_with fail
          refine HC.out.mono ?_
          rintro e w' ⟨rfl, h9⟩
          subst h9
          go_wp2_with fail
          refine HOf.out.mono ?_
          rintro e wb ⟨rfl, hpost⟩
          have HPB := Lib.hid (HSt.out wb hpost)
          clear HOf HC HSt hpost hm2
          go_wp2_with fail
          go_roundg g
          case measure => omega
          case rel => exact ⟨i + 1, i + 1, i + 1, ma2, mb2, by omega, by go_num, rfl, rfl, Lib.hid ⟨by have := Hpq.out; omega, by have := Hpq.out; omega⟩, HPB⟩
        · have qB : ¬ ((i : Int) < (nb : Int)) := by omega
          go_wp2_with fail
          go_roundg g
          case measure => omega
          case rel => exact ⟨i + 1, i + 1, q, ma2, mb, by omega, by go_num, rfl, rfl, Lib.hid ⟨by have := Hpq.out; omega, by have := Hpq.out; omega⟩, HPA⟩
      · have qA : ¬ ((i : Int) < (na : Int)) := by omega
        have hB : i < nb := by omega
        obtain rfl : i = q := by have := Hpq.out.2; omega
        have qB : (i : Int) < (nb : Int) := by omega
        clear hmx9
        obtain ⟨D, s, hf, hph, hma, hmb, hxa, hxb, hD, hbl⟩ := HP.out
        obtain ⟨z, hz, hcz⟩ := costs_get (l := lb) (i := i) (by rw [Lcb.out]; omega)
        have hsz : w.heap.size ≤ wr.heap.size := hbl.size
        have HC := Lib.hid (cost_any _ _ i z wr (HBr.out.below stays_int' hbl) hz)
        have HOf := Lib.hid (offerB_any hf HK.out hph hcz (by rw [Lcb.out]; omega) (by have := Hpq.out; omega))
        have hc9 := costI_in z
        obtain ⟨c, hc⟩ : ∃ c, costI z = c := ⟨_, rfl⟩
        rw [hc] at HC HOf hcz hc9
        obtain ⟨mb2, hm2⟩ : ∃ z, max mb c = z := ⟨_, rfl⟩
        have HSt := Lib.hid (fun (w' : World) hpost => Phase1.stepB (w' := w') (gf := gf) (v := v) (w := wt) (cv := cv) (cw := cw) hma hmb hxa hxb hD hbl hsz hcz hc9.2 hpost)
        rw [hm2] at HSt
        clear hf hph hma hmb hxa hxb hD hbl hz hcz hc HP
        go_wp2_with fail
        refine HC.out.mono ?_
        rintro e w' ⟨rfl, h9⟩
        subst h9
        go_wp2_with fail
        refine HC.out.mono ?_
        rintro e w' ⟨rfl, h9⟩
        subst h9
        go_wp2_with fail
        refine HOf.out.mono ?_
        rintro e wb ⟨rfl, hpost⟩
        have HPB := Lib.hid (HSt.out wb hpost)
        clear HOf HC HSt hpost hm2
        go_wp2_with fail
        go_roundg g
        case measure => omega
        case rel => exact ⟨i + 1, p, i + 1, ma, mb2, by omega, by go_num, rfl, rfl, Lib.hid ⟨by have := Hpq.out; omega, by have := Hpq.out; omega⟩, HPB⟩
end Go.Proofs.Ytgoapmjcfdbjpaa
