/- json: (*Object).With: its contract. -/
import Derived.Test.YtaddcchpidpbfaaDoorJsonGet
import Derived.Test.YtaddcchpidpbfaaDoorIns
import Derived.Test.YtaddcchpidpbfaaDoorRelY
import Derived.Deep.DeepCutAuto
namespace Go.Proofs.YtaddcchpidpbfaaDoor
open Go.RowKit
open JP (JV Bs)

theorem below_then' {B : Nat} {a b c : World} (h : Below B a b) (k : Below b.heap.size b c) (hB : B ≤ a.heap.size := by exact Nat.le_refl _) : Below B a c := h.trans (k.mono (Nat.le_trans hB h.size))
theorem OwnAt.same' {α : Type} {R : Rd α} {k B : Nat} {e T : TypeId} {v : Value} {l : List α} {w w' : World} (hf : Flat R) (h : OwnAt R k w B e v l) (hs : SameBut T w w') (hne : e ≠ T) : OwnAt R k w' B e v l := by
  obtain ⟨css, h1, h2, h3, h4⟩ := h
  refine ⟨css, h1, h2, ⟨h3.1, ?_⟩, fun j cs y hcs hy => hf _ _ _ _ (h4 j cs y hcs hy)⟩
  rcases h3.2 with h5 | ⟨q, cap, cur, rfl, hB, hh, hr⟩
  · exact .inl h5
  · exact .inr ⟨q, cap, cur, rfl, hB, hs q cur e _ hh hne, hr⟩
theorem blk_lt {w : World} {g : Nat} {o : Obj} (h : w.heap[g]? = some o) : g < w.heap.size := by
  rcases Nat.lt_or_ge g w.heap.size with h1 | h1
  · exact h1
  · rw [Array.getElem?_eq_none h1] at h; cases h
theorem jv_one {n : Nat} {T : List Nat} {w : World} {v : Value} {x : JV} (h : JvAt n T w v x) : v.oneCell' = true := one_jv n T w [v] x ⟨v, rfl, h⟩ v (List.mem_singleton.2 rfl)
theorem jv_form {n : Nat} {T : List Nat} {w : World} {v : Value} {x : JV} (h : JvAt n T w v x) : v = .nilIface ∨ ∃ t u, v = .iface t u := by
  cases n with
  | zero => cases h
  | succ n =>
    cases x with
    | nul => exact .inl h
    | bool _ => exact .inr ⟨_, _, h⟩
    | num _ => exact .inr ⟨_, _, h.1⟩
    | str _ => exact .inr ⟨_, _, h⟩
    | list l => obtain ⟨_, h1, _⟩ := h; exact .inr ⟨_, _, h1⟩
    | obj l => obtain ⟨_, h1, _⟩ := h; exact .inr ⟨_, _, h1⟩
theorem one_jr (n : Nat) (T : List Nat) : OneR (fun w cs x => ∃ v, cs = [v] ∧ JvAt n T w v x) := one_jv n T
/-- the fields' names and values behind a put -/
theorem put_new_names {n : Bs} {u : JV} {d : List (Bs × JV)} (h : JP.put n u d = d.take (JP.pos n d) ++ (n, u) :: d.drop (JP.pos n d)) : (JP.put n u d).map (fun y => mkB y.1) = (d.map fun y => mkB y.1).take (JP.pos n d) ++ mkB n :: (d.map fun y => mkB y.1).drop (JP.pos n d) := by
  rw [h]; simp
theorem put_new_vals {n : Bs} {u : JV} {d : List (Bs × JV)} (h : JP.put n u d = d.take (JP.pos n d) ++ (n, u) :: d.drop (JP.pos n d)) : (JP.put n u d).map (·.2) = (d.map (·.2)).take (JP.pos n d) ++ u :: (d.map (·.2)).drop (JP.pos n d) := by
  rw [h]; simp
theorem off_new {α : Type} {T : List Nat} {w : World} {v : Value} {l : List α} {B : Nat} {e : TypeId} {m : List Value} (h : OwnAt RVal 1 w B e v m) (hT : ∀ b ∈ T, b < B) : OffT T v l := fun _ b hb hm => by
  have h1 := (h.at hb).1
  have h2 := hT b hm
  omega
theorem pairs_get {α : Type} {xs : List Value} {l : List α} {P : Value → α → Prop} (h : ∀ (j : Nat) (u : Value) (x : α), xs[j]? = some u → l[j]? = some x → P u x) {k : Nat} {v : Value} {y : α} (hP : P v y) (hl : xs.length = l.length) (hk : k ≤ l.length) :
    ∀ (j : Nat) (u : Value) (x : α), (xs.take k ++ v :: xs.drop k)[j]? = some u → (l.take k ++ y :: l.drop k)[j]? = some x → P u x := fun j u x hu hx => by
  have hlx : (xs.take k).length = k := by rw [List.length_take]; omega
  have hll : (l.take k).length = k := by rw [List.length_take]; omega
  by_cases h1 : j < k
  · rw [List.getElem?_append_left (by omega), List.getElem?_take_of_lt h1] at hu hx
    exact h j u x hu hx
  · rw [List.getElem?_append_right (by omega)] at hu hx
    rw [hlx] at hu
    rw [hll] at hx
    by_cases h2 : j = k
    · rw [h2, Nat.sub_self] at hu hx
      cases hu
      cases hx
      exact hP
    · rw [show j - k = (j - 1 - k) + 1 by omega, List.getElem?_cons_succ, List.getElem?_drop] at hu hx
      exact h _ u x hu hx
theorem strs_raw {w : World} {l : List ByteArray} {xs : List Value} (hR : ∀ (j : Nat) (u : Value) (x : ByteArray), xs[j]? = some u → l[j]? = some x → RString w [u] x) (j : Nat) (u : Value) (x : ByteArray) (h1 : xs[j]? = some u) (h2 : l[j]? = some x) : u = .string x := by
  have := hR j u x h1 h2
  have h3 : [u] = [Value.string x] := this
  exact List.cons.inj h3 |>.1
theorem below_drewN0 (w : World) (k : Nat) : Below w.heap.size w (w.drewN k) := ⟨rfl, rfl, rfl, Nat.le_refl _, fun _ _ => rfl⟩

set_option maxRecDepth 100000 in
set_option maxHeartbeats 6400000 in
theorem with_any {n : Nat} {T : List Nat} {q : Nat} {d : List (Bs × JV)} {x : Bs} {y : JV} {v : Value} {w : World} (h : ObR (JvR n T) T w q d) (hv : JvAt n T w v y) (hT : ∀ b ∈ T, b < w.heap.size) (hl : d.length ≤ 1048575) :
    Calls Tryd.prog 58 #[.pointer (some ⟨q, 0, none⟩), .string (mkB x), v] w fun e w' => ∃ q', e = .returned (.pointer (some ⟨q', 0, none⟩)) ∧ ObR (JvR n T) T w' q' (JP.put x y d) ∧ Below w.heap.size w w' := by
  obtain ⟨hqT, hs, vn, vv, cn, cv, hrn, hon, hrv, hov⟩ := h
  have HS := Lib.hid (search_any (x := x) hs hrn (by omega))
  have hpl := JP.pos_le x d
  have hsp := JP.put_srt (n := x) (v := y) hs
  have hF := JP.find_spec (n := x) hs
  obtain ⟨xs, hxl, hxr, hxR⟩ := hrn.raw one_string
  obtain ⟨ys, hyl, hyr, hyR⟩ := hrv.raw (one_jv n T)
  rw [List.length_map] at hxl hyl
  obtain ⟨an, c1, hu1, _, _⟩ := hrn.len
  obtain ⟨av, c2, hu2, _, _⟩ := hrv.len
  obtain ⟨ln, hln⟩ : ∃ n, (d.map fun y => mkB y.1).length = n := ⟨_, rfl⟩
  obtain ⟨lv, hlv⟩ : ∃ n, (d.map (·.2)).length = n := ⟨_, rfl⟩
  rw [hln] at hu1
  rw [hlv] at hu2
  subst hu1
  subst hu2
  clear hln hlv
  have hqw : q < w.heap.size := World.block_lt_of_cell? w ⟨q, 0, none⟩ cn
  have hv1 := jv_one hv
  rcases hF with ⟨y0, hy0, hg, hput⟩ | ⟨_, hg, hput⟩
  · -- the field is there: its value is another
    have hput := hput y
    rw [hg] at HS
    have hpm : (JP.put x y d).map (fun z => mkB z.1) = d.map fun z => mkB z.1 := by
      have hd : d = d.take (JP.pos x d) ++ (x, y0) :: d.drop (JP.pos x d + 1) := by
        have hlt := (List.getElem?_eq_some_iff.1 hy0)
        obtain ⟨h1, h2⟩ := hlt
        conv => lhs; rw [← List.take_append_drop (JP.pos x d) d, List.drop_eq_getElem_cons h1, h2]
      rw [hput]
      conv => rhs; rw [hd]
      simp
    have hpv : (JP.put x y d).map (·.2) = (d.map (·.2)).set (JP.pos x d) y := by
      have hlt := (List.getElem?_eq_some_iff.1 hy0).1
      rw [hput, List.set_eq_take_append_cons_drop, if_pos (by rw [List.length_map]; exact hlt)]
      simp
    have hlt : JP.pos x d < d.length := (List.getElem?_eq_some_iff.1 hy0).1
    have hdl : (JP.put x y d).length = d.length := by
      have := congrArg List.length hpm
      simpa using this
    obtain ⟨D, hD⟩ : ∃ D, JP.put x y d = D := ⟨_, rfl⟩
    rw [hD] at hpm hpv hdl hsp ⊢
    obtain ⟨p, hp⟩ : ∃ p, JP.pos x d = p := ⟨_, rfl⟩
    rw [hp] at HS hpv hlt
    have HC := Lib.hid (fun w' (hb : Below w.heap.size w w') => cloneVal_any (.slice av lv c2) ys w' (hyr.below stays_val hb) (by omega))
    have hfin : ∀ w' (q' : Nat) (v9 : Value), KeepT T w w' → q' ∉ T → w'.cell? ⟨q', 0, none⟩ = some (.slice an ln c1) → w'.cell? ⟨q', 1, none⟩ = some v9 → RowAt RVal 1 w' v9 (ys.set p v) → OffT T v9 D → ObR (JvR n T) T w' q' D := fun w' q' v9 hk hq' k0 k1 hr9 ho9 => by
      refine ⟨hq', hsp, _, v9, k0, k1, ?_, fun hne => hon fun e => hne (List.eq_nil_of_length_eq_zero (by rw [hdl, e]; rfl)), ?_, ho9⟩
      · rw [hpm]
        exact hrn.keepT hk (fun hne => hon fun e => hne (by rw [e]; rfl)) (fun _ _ h => h)
      · rw [hpv]
        refine hr9.ofRaw (by rw [List.length_set, List.length_set, List.length_map, hyl]) fun j u z hu hz => ?_
        by_cases hjp : j = p
        · subst hjp
          rw [List.getElem?_set_self (by omega)] at hu
          rw [List.getElem?_set_self (by rw [List.length_map]; omega)] at hz
          cases hu
          cases hz
          exact ⟨v, rfl, hv.keepT hk⟩
        · rw [List.getElem?_set_ne (fun e => hjp e.symm)] at hu hz
          obtain ⟨v1, e1, h1⟩ := hyR j u z hu hz
          exact ⟨v1, e1, h1.keepT hk⟩
    have Hfin := Lib.hid hfin
    have HT := Lib.hid hT
    have hyl' : p < ys.length := by omega
    have q1 : (0 : Int) ≤ (p : Int) := by omega
    clear hg hput hfin hT hrn hrv hxr hyr hxR hyR hon hov hpm hpv hD hdl hsp hs hy0 hpl hxl hp hv
    obtain ⟨m, Hm⟩ : ∃ m, Hid (ys.length = m) := ⟨_, Lib.hid rfl⟩
    have hym : p < m := by have := Hm.out; omega
    have q2 : (p : Int) < (m : Int) := by omega
    clear hyl'
    go_enter Tryd.func58, Tryd.ntmps58
    go_wp2_with fail
    refine HS.out.mono ?_
    rintro E w1 ⟨rfl, k, rfl⟩
    have cn1 : (w.drewN k).cell? ⟨q, 0, none⟩ = some (.slice an ln c1) := cn
    have cv1 : (w.drewN k).cell? ⟨q, 1, none⟩ = some (.slice av lv c2) := cv
    have Hb1 : Hid (Below w.heap.size w (w.drewN k)) := Lib.hid ((below_drewN0 w k))
    go_wp2_with fail
    refine (HC.out _ Hb1.out).mono ?_
    rintro E w2 ⟨v9, rfl, hown, hb2⟩
    have hb2' : Below w.heap.size (w.drewN k) w2 := hb2
    have Hb2 := Lib.hid (Hb1.out.trans hb2')
    have hown' : OwnAt RVal 1 w2 w.heap.size 40 v9 ys := hown
    have ho := own_raw hown'
    have honesr := hown'.ones
    rcases ho.2 with ⟨_, h0⟩ | ⟨g, c, cur, rfl, hB, hh, hlc, hc, hcs, htk⟩
    · have := Hm.out; omega
    · rw [Hm.out] at hlc htk ⊢
      have hgw : g < w2.heap.size := blk_lt hh
      have hgq : g ≠ q := by omega
      obtain ⟨c0, z0⟩ : ∃ c0, w2.cell? ⟨g, p, none⟩ = some c0 := ⟨cur[p]'(by rw [hcs]; omega), by rw [cell_block hh]; exact Array.getElem?_eq_getElem _⟩
      have z1 : w2.frozen? ⟨g, p, none⟩ = false := free_block hh p
      have cn2 : w2.cell? ⟨q, 0, none⟩ = some (.slice an ln c1) := (Hb2.out.cell (p := ⟨q, 0, none⟩) hqw).trans cn
      obtain ⟨s1, t1⟩ := touch_setCell (w := w2) (i := p) (v := v) hh
      obtain ⟨w3, hw3⟩ : ∃ w3, w3 = w2.setCell ⟨g, p, none⟩ v := ⟨_, rfl⟩
      have hst : (storeCells ⟨g, p, none⟩ [v]).run Tryd.prog w2 = .ok () w3 := by
        have h9 := run_storeCells_cells (P := Tryd.prog) g p [v] 0 w2 (fun j hj => by
          obtain rfl : j = 0 := by simpa using hj
          show (w2.cell? ⟨g, p, none⟩).isSome = true
          rw [z0]; rfl) (fun j hj => by
          obtain rfl : j = 0 := by simpa using hj
          exact z1) (fun u hu => by rw [List.mem_singleton.1 hu]; exact hv1)
        rw [h9, hw3]; rfl
      rw [← hw3] at s1 t1
      have hb3 : Below w.heap.size w w3 := t1.below Hb2.out hB
      have hown3 : OwnAt RVal 1 w3 w.heap.size 40 (.slice (some ⟨g, 0, none⟩) m c) (ys.set p v) := by
        have hcur : ∀ (j : Nat) (u : Value), ys[j]? = some u → cur[j]? = some u := fun j u hu => by
          have hu2 : (cur.toList.take (ys.length * 1))[j]? = some u := by rw [Hm.out, htk]; exact hu
          have hj := (List.getElem?_eq_some_iff.1 hu).1
          rw [Nat.mul_one, List.getElem?_take_of_lt hj, Array.getElem?_toList] at hu2
          exact hu2
        have hI := own_of_cells (xs := ys.set p v) (c := c) (B := w.heap.size) s1 hB (by rw [List.length_set, Hm.out]; exact hlc) hc (by rw [Array.size_setIfInBounds, hcs, Nat.mul_one]) (fun j u hu => by
          by_cases hjp : j = p
          · subst hjp
            rw [List.getElem?_set_self (by rw [Hm.out]; exact hym)] at hu
            cases hu
            rw [Array.getElem?_setIfInBounds_self_of_lt (by rw [hcs]; omega)]
          · rw [List.getElem?_set_ne (fun e => hjp e.symm)] at hu
            rw [Array.getElem?_setIfInBounds_ne (fun e => hjp e.symm)]
            exact hcur j u hu) (fun u hu => by
          rcases List.mem_or_eq_of_mem_set hu with h | rfl
          · exact honesr u h
          · exact hv1)
        rw [List.length_set, Hm.out] at hI
        exact hI
      have Hown3 := Lib.hid hown3
      have Hb3 := Lib.hid hb3
      have cn3 : w3.cell? ⟨q, 0, none⟩ = some (.slice an ln c1) := (hb3.cell (p := ⟨q, 0, none⟩) hqw).trans cn
      have hs3 : w.heap.size ≤ w3.heap.size := Hb3.out.size
      have Hw3 := Lib.hid hw3
      clear hown hown' ho honesr hh htk hcs hb2 hb2' s1 t1 hb3 hown3 hw3
      have q3 : (p : Int) < (m : Int) := q2
      go_wp2_with fail
      rw [hst]
      go_wp2_with fail
      go_ret
      refine ⟨w3.heap.size, rfl, ?_, (Hb3.out.alloc hs3 _)⟩
      have hbA : Below w3.heap.size w3 (w3.alloc (.cells #[.slice an ln c1, .slice (some ⟨g, 0, none⟩) m c] 85)) := (Below.refl _ _).alloc (Nat.le_refl _) _
      refine Hfin.out _ _ (.slice (some ⟨g, 0, none⟩) m c) (KeepT.of (Hb3.out.alloc hs3 _)) (fun hm => by have h9 := HT.out _ hm; omega) ?_ ?_ ((Hown3.out.row).below stays_val hbA) (off_new Hown3.out HT.out)
      · rw [cell_block (heap_alloc_new w3 _)]; rfl
      · rw [cell_block (heap_alloc_new w3 _)]; rfl
  · -- a new field
    have hput := hput y
    rw [hg] at HS
    have hpn := put_new_names hput
    have hpv := put_new_vals hput
    obtain ⟨D, hD⟩ : ∃ D, JP.put x y d = D := ⟨_, rfl⟩
    rw [hD] at hpn hpv hsp ⊢
    obtain ⟨p, hp⟩ : ∃ p, JP.pos x d = p := ⟨_, rfl⟩
    rw [hp] at HS hpn hpv hpl
    have HC1 := Lib.hid (fun w' (hb : Below w.heap.size w w') => cloneStr_any (.slice an ln c1) xs w' (hxr.below stays_val hb) (by omega))
    have HC2 := Lib.hid (fun w' (hb : Below w.heap.size w w') => cloneVal_any (.slice av lv c2) ys w' (hyr.below stays_val hb) (by omega))
    have hfin : ∀ w' (q' : Nat) (v8 v9 : Value), KeepT T w w' → q' ∉ T → w'.cell? ⟨q', 0, none⟩ = some v8 → w'.cell? ⟨q', 1, none⟩ = some v9 → RowAt RVal 1 w' v8 (xs.take p ++ .string (mkB x) :: xs.drop p) → OffT T v8 D → RowAt RVal 1 w' v9 (ys.take p ++ v :: ys.drop p) → OffT T v9 D → ObR (JvR n T) T w' q' D := fun w' q' v8 v9 hk hq' k0 k1 hr8 ho8 hr9 ho9 => by
      refine ⟨hq', hsp, v8, v9, k0, k1, ?_, ho8, ?_, ho9⟩
      · rw [hpn]
        refine hr8.ofRaw (by rw [putin_len (by omega), List.length_append, List.length_take, List.length_cons, List.length_drop, List.length_map]; omega) fun j u z hu hz => ?_
        have := pairs_get (P := fun u z => u = .string z) (strs_raw hxR) (k := p) (v := .string (mkB x)) (y := mkB x) rfl (by rw [List.length_map, hxl]) (by rw [List.length_map]; exact hpl) j u z hu hz
        rw [this]; rfl
      · rw [hpv]
        refine hr9.ofRaw (by rw [putin_len (by omega), List.length_append, List.length_take, List.length_cons, List.length_drop, List.length_map]; omega) fun j u z hu hz => ?_
        obtain ⟨v1, e1, h1⟩ := pairs_get (P := fun u z => JvR n T w [u] z) hyR (k := p) (v := v) (y := y) ⟨v, rfl, hv⟩ (by rw [List.length_map, hyl]) (by rw [List.length_map]; exact hpl) j u z hu hz
        exact ⟨v1, e1, h1.keepT hk⟩
    have Hfin := Lib.hid hfin
    have HT := Lib.hid hT
    have hxp : p ≤ xs.length := by omega
    have hyp : p ≤ ys.length := by omega
    have hxs : xs.length ≤ 1048576 := by omega
    have hys : ys.length ≤ 1048576 := by omega
    have hsx : (Value.string (mkB x)).oneCell' = true := rfl
    have HVf := Lib.hid (jv_form hv)
    clear hg hput hfin hT hrn hrv hxr hyr hxR hyR hon hov hpn hpv hD hsp hs hpl hxl hyl hp hv
    go_enter Tryd.func58, Tryd.ntmps58
    go_wp2_with fail
    refine HS.out.mono ?_
    rintro E w1 ⟨rfl, k, rfl⟩
    have Hb1 : Hid (Below w.heap.size w (w.drewN k)) := Lib.hid ((below_drewN0 w k))
    go_upto_region 6 with fail
    refine wp_region_relY 20 (fun w' => Below w.heap.size (w.drewN k) w') (fun i wa wb => if i = 8 then SameBut 9 wa wb ∧ Below w.heap.size wa wb else (if i = 17 then SameBut 40 wa wb ∧ Below w.heap.size wa wb else Below wa.heap.size wa wb)) (fun ii U w' => match ii with
      | 0 => U 0 = .pointer (some ⟨q, 0, none⟩)
      | 1 => U 1 = .pointer (some ⟨q, 0, none⟩)
      | 2 => U 2 = .pointer (some ⟨q, 0, none⟩)
      | 3 => U 3 = .slice an ln c1
      | 4 => OwnAt RVal 1 w' w.heap.size 9 (U 4) xs
      | 5 => U 5 = .int .i64 (p : Int)
      | 6 => U 6 = .string (mkB x)
      | 7 => ∃ g, U 7 = .slice (some ⟨g, 0, none⟩) 1 1 ∧ w'.heap[g]? = some (.cells #[.string (mkB x)] 9 (0, 0))
      | 8 => OwnAt RVal 1 w' w.heap.size 9 (U 8) (xs.take p ++ .string (mkB x) :: xs.drop p)
      | 9 => U 9 = .pointer (some ⟨q, 0, none⟩)
      | 10 => U 10 = .pointer (some ⟨q, 0, none⟩)
      | 11 => U 11 = .pointer (some ⟨q, 1, none⟩)
      | 12 => U 12 = .slice av lv c2
      | 13 => OwnAt RVal 1 w' w.heap.size 40 (U 13) ys
      | 14 => U 14 = .int .i64 (p : Int)
      | 15 => U 15 = v
      | 16 => ∃ g, U 16 = .slice (some ⟨g, 0, none⟩) 1 1 ∧ w'.heap[g]? = some (.cells #[v] 40 (0, 0))
      | 17 => OwnAt RVal 1 w' w.heap.size 40 (U 17) (ys.take p ++ v :: ys.drop p)
      | 18 => U 18 = .agg #[U 8, U 17]
      | 19 => ∃ g, U 19 = .pointer (some ⟨g, 0, none⟩) ∧ w.heap.size ≤ g ∧ w'.heap[g]? = some (.cells #[U 8, U 17] 85 (0, 0))
      | _ => True)
      (fun | 1 => [0] | 2 => [1] | 3 => [2] | 4 => [3] | 7 => [6] | 8 => [4, 5, 7] | 10 => [9] | 11 => [10] | 12 => [11] | 13 => [12] | 16 => [15] | 17 => [13, 14, 16] | 18 => [8, 17] | 19 => [18, 8, 17] | _ => [])
      (fun | 4 => [8] | 7 => [8] | 13 => [17] | 16 => [17] | _ => []) (by kernel_rfl) (by kernel_rfl) (Below.refl _ _).drew ?_ ?_ ⟨?_, ?_, ?_, ?_, ?_, ?_, ?_, ?_, ?_, ?_, ?_, ?_, ?_, ?_, ?_, ?_, ?_, ?_, ?_, ?_, trivial⟩ ?_
    · intro i wa wb hk hi
      by_cases h8 : i = 8
      · rw [if_pos h8] at hk
        exact hi.trans hk.2
      · rw [if_neg h8] at hk
        by_cases h17 : i = 17
        · rw [if_pos h17] at hk
          exact hi.trans hk.2
        · rw [if_neg h17] at hk
          exact below_then' hi hk
    · intro i j U wa wb hji hkl hk hi h
      by_cases h8 : i = 8
      · rw [if_pos h8] at hk
        subst h8
        have hsm := hk.1
        match j, hji, hkl, h with
        | 0, _, _, h => exact h
        | 1, _, _, h => exact h
        | 2, _, _, h => exact h
        | 3, _, _, h => exact h
        | 4, _, hkl, h => exact absurd (by simp) hkl
        | 5, _, _, h => exact h
        | 6, _, _, h => exact h
        | 7, _, hkl, h => exact absurd (by simp) hkl
        | 8, hji, _, h => exact absurd rfl hji
        | 9, _, _, h => exact h
        | 10, _, _, h => exact h
        | 11, _, _, h => exact h
        | 12, _, _, h => exact h
        | 13, _, _, h => exact OwnAt.same' flat_val h hsm (by decide)
        | 14, _, _, h => exact h
        | 15, _, _, h => exact h
        | 16, _, _, h => exact (by obtain ⟨g, h1, h2⟩ := h; exact ⟨g, h1, hsm g _ _ _ h2 (by decide)⟩)
        | 17, _, _, h => exact OwnAt.same' flat_val h hsm (by decide)
        | 18, _, _, h => exact h
        | 19, _, _, h => exact (by obtain ⟨g, h1, h0, h2⟩ := h; exact ⟨g, h1, h0, hsm g _ _ _ h2 (by decide)⟩)
        | _ + 20, _, _, h => trivial
      · rw [if_neg h8] at hk
        by_cases h17 : i = 17
        · rw [if_pos h17] at hk
          subst h17
          have hsm := hk.1
          match j, hji, hkl, h with
          | 0, _, _, h => exact h
          | 1, _, _, h => exact h
          | 2, _, _, h => exact h
          | 3, _, _, h => exact h
          | 4, _, _, h => exact OwnAt.same' flat_val h hsm (by decide)
          | 5, _, _, h => exact h
          | 6, _, _, h => exact h
          | 7, _, _, h => exact (by obtain ⟨g, h1, h2⟩ := h; exact ⟨g, h1, hsm g _ _ _ h2 (by decide)⟩)
          | 8, _, _, h => exact OwnAt.same' flat_val h hsm (by decide)
          | 9, _, _, h => exact h
          | 10, _, _, h => exact h
          | 11, _, _, h => exact h
          | 12, _, _, h => exact h
          | 13, _, hkl, h => exact absurd (by simp) hkl
          | 14, _, _, h => exact h
          | 15, _, _, h => exact h
          | 16, _, hkl, h => exact absurd (by simp) hkl
          | 17, hji, _, h => exact absurd rfl hji
          | 18, _, _, h => exact h
          | 19, _, _, h => exact (by obtain ⟨g, h1, h0, h2⟩ := h; exact ⟨g, h1, h0, hsm g _ _ _ h2 (by decide)⟩)
          | _ + 20, _, _, h => trivial
        · rw [if_neg h17] at hk
          match j, h with
          | 0, h => exact h
          | 1, h => exact h
          | 2, h => exact h
          | 3, h => exact h
          | 4, h => exact OwnAt.below stays_val h hk
          | 5, h => exact h
          | 6, h => exact h
          | 7, h => exact (by obtain ⟨g, h1, h2⟩ := h; exact ⟨g, h1, below_block hk h2⟩)
          | 8, h => exact OwnAt.below stays_val h hk
          | 9, h => exact h
          | 10, h => exact h
          | 11, h => exact h
          | 12, h => exact h
          | 13, h => exact OwnAt.below stays_val h hk
          | 14, h => exact h
          | 15, h => exact h
          | 16, h => exact (by obtain ⟨g, h1, h2⟩ := h; exact ⟨g, h1, below_block hk h2⟩)
          | 17, h => exact OwnAt.below stays_val h hk
          | 18, h => exact h
          | 19, h => exact (by obtain ⟨g, h1, h0, h2⟩ := h; exact ⟨g, h1, h0, below_block hk h2⟩)
          | _ + 20, h => trivial
    · intro x' w' hb hd
      have hbw : Below w.heap.size w w' := (below_drewN0 w k).trans hb
      have e0 : w'.cell? ⟨q, 0, none⟩ = some (.slice an ln c1) := (hbw.cell (p := ⟨q, 0, none⟩) hqw).trans cn
      have e1 : w'.cell? ⟨q, 1, none⟩ = some (.slice av lv c2) := (hbw.cell (p := ⟨q, 1, none⟩) hqw).trans cv
      refine owesK_here (.pointer (some ⟨q, 0, none⟩)) (by rfl) ?_ rfl (else_of (by decide) (else_of (by decide) (Below.refl _ _)))
      simp only [putAll, List.take_succ_cons, List.take_zero]
      go_simp
    · intro x' w' hb hd
      have hbw : Below w.heap.size w w' := (below_drewN0 w k).trans hb
      have e0 : w'.cell? ⟨q, 0, none⟩ = some (.slice an ln c1) := (hbw.cell (p := ⟨q, 0, none⟩) hqw).trans cn
      have e1 : w'.cell? ⟨q, 1, none⟩ = some (.slice av lv c2) := (hbw.cell (p := ⟨q, 1, none⟩) hqw).trans cv
      have k0 : x' 0 = .pointer (some ⟨q, 0, none⟩) := hd 0 (by simp)
      refine owesK_here (.pointer (some ⟨q, 0, none⟩)) (by rfl) ?_ rfl (else_of (by decide) (else_of (by decide) (Below.refl _ _)))
      simp only [putAll, List.take_succ_cons, List.take_zero]
      go_simp
    · intro x' w' hb hd
      have hbw : Below w.heap.size w w' := (below_drewN0 w k).trans hb
      have e0 : w'.cell? ⟨q, 0, none⟩ = some (.slice an ln c1) := (hbw.cell (p := ⟨q, 0, none⟩) hqw).trans cn
      have e1 : w'.cell? ⟨q, 1, none⟩ = some (.slice av lv c2) := (hbw.cell (p := ⟨q, 1, none⟩) hqw).trans cv
      have k0 : x' 1 = .pointer (some ⟨q, 0, none⟩) := hd 1 (by simp)
      refine owesK_here (.pointer (some ⟨q, 0, none⟩)) (by rfl) ?_ rfl (else_of (by decide) (else_of (by decide) (Below.refl _ _)))
      simp only [putAll, List.take_succ_cons, List.take_zero]
      go_simp
    · intro x' w' hb hd
      have hbw : Below w.heap.size w w' := (below_drewN0 w k).trans hb
      have e0 : w'.cell? ⟨q, 0, none⟩ = some (.slice an ln c1) := (hbw.cell (p := ⟨q, 0, none⟩) hqw).trans cn
      have e1 : w'.cell? ⟨q, 1, none⟩ = some (.slice av lv c2) := (hbw.cell (p := ⟨q, 1, none⟩) hqw).trans cv
      have k0 : x' 2 = .pointer (some ⟨q, 0, none⟩) := hd 2 (by simp)
      refine owesK_here (.slice an ln c1) (by rfl) ?_ rfl (else_of (by decide) (else_of (by decide) (Below.refl _ _)))
      simp only [putAll, List.take_succ_cons, List.take_zero]
      go_simp
    · intro x' w' hb hd
      have hbw : Below w.heap.size w w' := (below_drewN0 w k).trans hb
      have e0 : w'.cell? ⟨q, 0, none⟩ = some (.slice an ln c1) := (hbw.cell (p := ⟨q, 0, none⟩) hqw).trans cn
      have e1 : w'.cell? ⟨q, 1, none⟩ = some (.slice av lv c2) := (hbw.cell (p := ⟨q, 1, none⟩) hqw).trans cv
      have k0 : x' 3 = .slice an ln c1 := hd 3 (by simp)
      refine owesK_call 72 #[.slice an ln c1] (by rfl) ?_ ((HC1.out w' hbw).mono fun e w2 ⟨v', h1, h2, h3⟩ => ⟨v', h1, h2.mono hbw.size, else_of (by decide) (else_of (by decide) h3)⟩)
      simp only [putAll, List.take_succ_cons, List.take_zero]
      go_simp
    · intro x' w' hb hd
      have hbw : Below w.heap.size w w' := (below_drewN0 w k).trans hb
      have e0 : w'.cell? ⟨q, 0, none⟩ = some (.slice an ln c1) := (hbw.cell (p := ⟨q, 0, none⟩) hqw).trans cn
      have e1 : w'.cell? ⟨q, 1, none⟩ = some (.slice av lv c2) := (hbw.cell (p := ⟨q, 1, none⟩) hqw).trans cv
      refine owesK_here (.int .i64 (p : Int)) (by rfl) ?_ rfl (else_of (by decide) (else_of (by decide) (Below.refl _ _)))
      simp only [putAll, List.take_succ_cons, List.take_zero]
      go_simp
    · intro x' w' hb hd
      have hbw : Below w.heap.size w w' := (below_drewN0 w k).trans hb
      have e0 : w'.cell? ⟨q, 0, none⟩ = some (.slice an ln c1) := (hbw.cell (p := ⟨q, 0, none⟩) hqw).trans cn
      have e1 : w'.cell? ⟨q, 1, none⟩ = some (.slice av lv c2) := (hbw.cell (p := ⟨q, 1, none⟩) hqw).trans cv
      refine owesK_here (.string (mkB x)) (by rfl) ?_ rfl (else_of (by decide) (else_of (by decide) (Below.refl _ _)))
      simp only [putAll, List.take_succ_cons, List.take_zero]
      go_simp
    · intro x' w' hb hd
      have hbw : Below w.heap.size w w' := (below_drewN0 w k).trans hb
      have e0 : w'.cell? ⟨q, 0, none⟩ = some (.slice an ln c1) := (hbw.cell (p := ⟨q, 0, none⟩) hqw).trans cn
      have e1 : w'.cell? ⟨q, 1, none⟩ = some (.slice av lv c2) := (hbw.cell (p := ⟨q, 1, none⟩) hqw).trans cv
      have k0 : x' 6 = .string (mkB x) := hd 6 (by simp)
      refine owesK_makes (.slice (some ⟨w'.heap.size, 0, none⟩) 1 1) (w' := w'.alloc (.cells #[.string (mkB x)] 9)) (by rfl) ?_ (⟨_, rfl, heap_alloc_new w' _⟩) (else_of (by decide) (else_of (by decide) ((Below.refl _ _).alloc (Nat.le_refl _) _)))
      simp only [putAll, List.take_succ_cons, List.take_zero]
      go_simp
    · intro x' w' hb hd
      have hbw : Below w.heap.size w w' := (below_drewN0 w k).trans hb
      have e0 : w'.cell? ⟨q, 0, none⟩ = some (.slice an ln c1) := (hbw.cell (p := ⟨q, 0, none⟩) hqw).trans cn
      have e1 : w'.cell? ⟨q, 1, none⟩ = some (.slice av lv c2) := (hbw.cell (p := ⟨q, 1, none⟩) hqw).trans cv
      have k4 : OwnAt RVal 1 w' w.heap.size 9 (x' 4) xs := hd 4 (by simp)
      have k5 : x' 5 = .int .i64 (p : Int) := hd 5 (by simp)
      have k7 : ∃ g, x' 7 = .slice (some ⟨g, 0, none⟩) 1 1 ∧ w'.heap[g]? = some (.cells #[.string (mkB x)] 9 (0, 0)) := hd 7 (by simp)
      obtain ⟨g, k7, kg⟩ := k7
      refine owesK_call 71 #[x' 4, .int .i64 (p : Int), .slice (some ⟨g, 0, none⟩) 1 1] (by rfl) ?_ ((insStr_any (x' 4) xs w.heap.size p (.string (mkB x)) g w' k4 hxp hsx kg hbw.size hxs).mono fun e w2 ⟨v', h1, h2, h3, h4⟩ => ⟨v', h1, h2, then_of rfl ⟨h4, h3⟩⟩)
      simp only [putAll, List.take_succ_cons, List.take_zero]
      go_simp
    · intro x' w' hb hd
      have hbw : Below w.heap.size w w' := (below_drewN0 w k).trans hb
      have e0 : w'.cell? ⟨q, 0, none⟩ = some (.slice an ln c1) := (hbw.cell (p := ⟨q, 0, none⟩) hqw).trans cn
      have e1 : w'.cell? ⟨q, 1, none⟩ = some (.slice av lv c2) := (hbw.cell (p := ⟨q, 1, none⟩) hqw).trans cv
      refine owesK_here (.pointer (some ⟨q, 0, none⟩)) (by rfl) ?_ rfl (else_of (by decide) (else_of (by decide) (Below.refl _ _)))
      simp only [putAll, List.take_succ_cons, List.take_zero]
      go_simp
    · intro x' w' hb hd
      have hbw : Below w.heap.size w w' := (below_drewN0 w k).trans hb
      have e0 : w'.cell? ⟨q, 0, none⟩ = some (.slice an ln c1) := (hbw.cell (p := ⟨q, 0, none⟩) hqw).trans cn
      have e1 : w'.cell? ⟨q, 1, none⟩ = some (.slice av lv c2) := (hbw.cell (p := ⟨q, 1, none⟩) hqw).trans cv
      have k0 : x' 9 = .pointer (some ⟨q, 0, none⟩) := hd 9 (by simp)
      refine owesK_here (.pointer (some ⟨q, 0, none⟩)) (by rfl) ?_ rfl (else_of (by decide) (else_of (by decide) (Below.refl _ _)))
      simp only [putAll, List.take_succ_cons, List.take_zero]
      go_simp
    · intro x' w' hb hd
      have hbw : Below w.heap.size w w' := (below_drewN0 w k).trans hb
      have e0 : w'.cell? ⟨q, 0, none⟩ = some (.slice an ln c1) := (hbw.cell (p := ⟨q, 0, none⟩) hqw).trans cn
      have e1 : w'.cell? ⟨q, 1, none⟩ = some (.slice av lv c2) := (hbw.cell (p := ⟨q, 1, none⟩) hqw).trans cv
      have k0 : x' 10 = .pointer (some ⟨q, 0, none⟩) := hd 10 (by simp)
      refine owesK_here (.pointer (some ⟨q, 1, none⟩)) (by rfl) ?_ rfl (else_of (by decide) (else_of (by decide) (Below.refl _ _)))
      simp only [putAll, List.take_succ_cons, List.take_zero]
      go_simp
    · intro x' w' hb hd
      have hbw : Below w.heap.size w w' := (below_drewN0 w k).trans hb
      have e0 : w'.cell? ⟨q, 0, none⟩ = some (.slice an ln c1) := (hbw.cell (p := ⟨q, 0, none⟩) hqw).trans cn
      have e1 : w'.cell? ⟨q, 1, none⟩ = some (.slice av lv c2) := (hbw.cell (p := ⟨q, 1, none⟩) hqw).trans cv
      have k0 : x' 11 = .pointer (some ⟨q, 1, none⟩) := hd 11 (by simp)
      refine owesK_here (.slice av lv c2) (by rfl) ?_ rfl (else_of (by decide) (else_of (by decide) (Below.refl _ _)))
      simp only [putAll, List.take_succ_cons, List.take_zero]
      go_simp
    · intro x' w' hb hd
      have hbw : Below w.heap.size w w' := (below_drewN0 w k).trans hb
      have e0 : w'.cell? ⟨q, 0, none⟩ = some (.slice an ln c1) := (hbw.cell (p := ⟨q, 0, none⟩) hqw).trans cn
      have e1 : w'.cell? ⟨q, 1, none⟩ = some (.slice av lv c2) := (hbw.cell (p := ⟨q, 1, none⟩) hqw).trans cv
      have k0 : x' 12 = .slice av lv c2 := hd 12 (by simp)
      refine owesK_call 70 #[.slice av lv c2] (by rfl) ?_ ((HC2.out w' hbw).mono fun e w2 ⟨v', h1, h2, h3⟩ => ⟨v', h1, h2.mono hbw.size, else_of (by decide) (else_of (by decide) h3)⟩)
      simp only [putAll, List.take_succ_cons, List.take_zero]
      go_simp
    · intro x' w' hb hd
      have hbw : Below w.heap.size w w' := (below_drewN0 w k).trans hb
      have e0 : w'.cell? ⟨q, 0, none⟩ = some (.slice an ln c1) := (hbw.cell (p := ⟨q, 0, none⟩) hqw).trans cn
      have e1 : w'.cell? ⟨q, 1, none⟩ = some (.slice av lv c2) := (hbw.cell (p := ⟨q, 1, none⟩) hqw).trans cv
      refine owesK_here (.int .i64 (p : Int)) (by rfl) ?_ rfl (else_of (by decide) (else_of (by decide) (Below.refl _ _)))
      simp only [putAll, List.take_succ_cons, List.take_zero]
      go_simp
    · intro x' w' hb hd
      have hbw : Below w.heap.size w w' := (below_drewN0 w k).trans hb
      have e0 : w'.cell? ⟨q, 0, none⟩ = some (.slice an ln c1) := (hbw.cell (p := ⟨q, 0, none⟩) hqw).trans cn
      have e1 : w'.cell? ⟨q, 1, none⟩ = some (.slice av lv c2) := (hbw.cell (p := ⟨q, 1, none⟩) hqw).trans cv
      refine owesK_here v (by rfl) ?_ rfl (else_of (by decide) (else_of (by decide) (Below.refl _ _)))
      simp only [putAll, List.take_succ_cons, List.take_zero]
      go_simp
    · intro x' w' hb hd
      have hbw : Below w.heap.size w w' := (below_drewN0 w k).trans hb
      have e0 : w'.cell? ⟨q, 0, none⟩ = some (.slice an ln c1) := (hbw.cell (p := ⟨q, 0, none⟩) hqw).trans cn
      have e1 : w'.cell? ⟨q, 1, none⟩ = some (.slice av lv c2) := (hbw.cell (p := ⟨q, 1, none⟩) hqw).trans cv
      have k0 : x' 15 = v := hd 15 (by simp)
      have hf := HVf.out
      refine owesK_makes (.slice (some ⟨w'.heap.size, 0, none⟩) 1 1) (w' := w'.alloc (.cells #[v] 40)) (by rfl) ?_ (⟨_, rfl, heap_alloc_new w' _⟩) (else_of (by decide) (else_of (by decide) ((Below.refl _ _).alloc (Nat.le_refl _) _)))
      simp only [putAll, List.take_succ_cons, List.take_zero]
      rcases hf with rfl | ⟨t, u, rfl⟩
      · go_simp
      · go_simp
    · intro x' w' hb hd
      have hbw : Below w.heap.size w w' := (below_drewN0 w k).trans hb
      have e0 : w'.cell? ⟨q, 0, none⟩ = some (.slice an ln c1) := (hbw.cell (p := ⟨q, 0, none⟩) hqw).trans cn
      have e1 : w'.cell? ⟨q, 1, none⟩ = some (.slice av lv c2) := (hbw.cell (p := ⟨q, 1, none⟩) hqw).trans cv
      have k4 : OwnAt RVal 1 w' w.heap.size 40 (x' 13) ys := hd 13 (by simp)
      have k5 : x' 14 = .int .i64 (p : Int) := hd 14 (by simp)
      have k7 : ∃ g, x' 16 = .slice (some ⟨g, 0, none⟩) 1 1 ∧ w'.heap[g]? = some (.cells #[v] 40 (0, 0)) := hd 16 (by simp)
      obtain ⟨g, k7, kg⟩ := k7
      refine owesK_call 73 #[x' 13, .int .i64 (p : Int), .slice (some ⟨g, 0, none⟩) 1 1] (by rfl) ?_ ((insVal_any (x' 13) ys w.heap.size p v g w' k4 hyp hv1 kg hbw.size hys).mono fun e w2 ⟨v', h1, h2, h3, h4⟩ => ⟨v', h1, h2, else_of (by decide) (then_of rfl ⟨h4, h3⟩)⟩)
      simp only [putAll, List.take_succ_cons, List.take_zero]
      go_simp
    · intro x' w' hb hd
      have hbw : Below w.heap.size w w' := (below_drewN0 w k).trans hb
      have e0 : w'.cell? ⟨q, 0, none⟩ = some (.slice an ln c1) := (hbw.cell (p := ⟨q, 0, none⟩) hqw).trans cn
      have e1 : w'.cell? ⟨q, 1, none⟩ = some (.slice av lv c2) := (hbw.cell (p := ⟨q, 1, none⟩) hqw).trans cv
      have k8 : OwnAt RVal 1 w' w.heap.size 9 (x' 8) (xs.take p ++ .string (mkB x) :: xs.drop p) := hd 8 (by simp)
      have k17 : OwnAt RVal 1 w' w.heap.size 40 (x' 17) (ys.take p ++ v :: ys.drop p) := hd 17 (by simp)
      obtain ⟨a8, c8, e8, _, _⟩ := k8.row.len
      obtain ⟨a17, c17, e17, _, _⟩ := k17.row.len
      refine owesK_here (.agg #[x' 8, x' 17]) (by rfl) ?_ rfl (else_of (by decide) (else_of (by decide) (Below.refl _ _)))
      simp only [putAll, List.take_succ_cons, List.take_zero]
      go_simp
    · intro x' w' hb hd
      have hbw : Below w.heap.size w w' := (below_drewN0 w k).trans hb
      have e0 : w'.cell? ⟨q, 0, none⟩ = some (.slice an ln c1) := (hbw.cell (p := ⟨q, 0, none⟩) hqw).trans cn
      have e1 : w'.cell? ⟨q, 1, none⟩ = some (.slice av lv c2) := (hbw.cell (p := ⟨q, 1, none⟩) hqw).trans cv
      have k8 : OwnAt RVal 1 w' w.heap.size 9 (x' 8) (xs.take p ++ .string (mkB x) :: xs.drop p) := hd 8 (by simp)
      have k17 : OwnAt RVal 1 w' w.heap.size 40 (x' 17) (ys.take p ++ v :: ys.drop p) := hd 17 (by simp)
      have k18 : x' 18 = .agg #[x' 8, x' 17] := hd 18 (by simp)
      obtain ⟨a8, c8, e8, _, _⟩ := k8.row.len
      obtain ⟨a17, c17, e17, _, _⟩ := k17.row.len
      refine owesK_makes (.pointer (some ⟨w'.heap.size, 0, none⟩)) (w' := w'.alloc (.cells #[x' 8, x' 17] 85)) (by rfl) ?_ (⟨_, rfl, hbw.size, heap_alloc_new w' _⟩) (else_of (by decide) (else_of (by decide) ((Below.refl _ _).alloc (Nat.le_refl _) _)))
      simp only [putAll, List.take_succ_cons, List.take_zero]
      go_simp
    · intro x' w' hb hR
      have hbw : Below w.heap.size w w' := (below_drewN0 w k).trans hb
      have e0 : w'.cell? ⟨q, 0, none⟩ = some (.slice an ln c1) := (hbw.cell (p := ⟨q, 0, none⟩) hqw).trans cn
      have e1 : w'.cell? ⟨q, 1, none⟩ = some (.slice av lv c2) := (hbw.cell (p := ⟨q, 1, none⟩) hqw).trans cv
      have k8 : OwnAt RVal 1 w' w.heap.size 9 (x' 8) (xs.take p ++ .string (mkB x) :: xs.drop p) := hR 8 (by omega) rfl
      have k17 : OwnAt RVal 1 w' w.heap.size 40 (x' 17) (ys.take p ++ v :: ys.drop p) := hR 17 (by omega) rfl
      obtain ⟨q', k19, hq1, kq⟩ : ∃ g, x' 19 = .pointer (some ⟨g, 0, none⟩) ∧ w.heap.size ≤ g ∧ w'.heap[g]? = some (.cells #[x' 8, x' 17] 85 (0, 0)) := hR 19 (by omega) rfl
      have Hb := Lib.hid hbw
      have K8 := Lib.hid k8
      have K17 := Lib.hid k17
      have Kq := Lib.hid kq
      clear hR hb hbw k8 k17 kq e0 e1
      simp only [putAll, List.take_succ_cons, List.take_zero, List.drop_succ_cons, List.drop_zero]
      try simp only [Act.put, List.setIfInBounds_toArray, List.set_cons_zero, List.set_cons_succ]
      go_wp2_with fail
      go_ret
      refine ⟨q', ?_, ?_, Hb.out⟩
      · show Ending.returned (x' 19) = _
        rw [k19]
      · refine Hfin.out w' q' (x' 8) (x' 17) (KeepT.of Hb.out) (fun hm => by have h9 := HT.out _ hm; omega) ?_ ?_ K8.out.row (off_new K8.out HT.out) K17.out.row (off_new K17.out HT.out)
        · rw [cell_block Kq.out]; rfl
        · rw [cell_block Kq.out]; rfl
end Go.Proofs.YtaddcchpidpbfaaDoor
