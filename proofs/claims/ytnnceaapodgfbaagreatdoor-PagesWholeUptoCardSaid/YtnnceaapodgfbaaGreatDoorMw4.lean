/- Texts of ours joined. -/
import Derived.Deep.DeepCutAuto
import Derived.Test.YtnnceaapodgfbaaGreatDoorMw3
set_option linter.unusedVariables false
set_option linter.unusedSimpArgs false
namespace Go.Proofs.YtnnceaapodgfbaaGreatDoor
open Go.RowKit
open JP (JV Bs)
theorem below_then' {B : Nat} {a b c : World} (h : Below B a b) (k : Below b.heap.size b c) (hB : B ≤ a.heap.size := by exact Nat.le_refl _) : Below B a c := h.trans (k.mono (Nat.le_trans hB h.size))
theorem OwnAt.same' {α : Type} {R : Rd α} {k B : Nat} {e T : TypeId} {v : Value} {l : List α} {w w' : World} (hf : Flat R) (h : OwnAt R k w B e v l) (hs : SameBut T w w') (hne : e ≠ T) : OwnAt R k w' B e v l := by
  obtain ⟨css, h1, h2, h3, h4⟩ := h
  refine ⟨css, h1, h2, ⟨h3.1, ?_⟩, fun j cs y hcs hy => hf _ _ _ _ (h4 j cs y hcs hy)⟩
  rcases h3.2 with h5 | ⟨q, cap, cur, rfl, hB, hh, hr⟩
  · exact .inl h5
  · exact .inr ⟨q, cap, cur, rfl, hB, hs q cur e _ hh hne, hr⟩
theorem blk_lt {w : World} {g : Nat} {o : Obj} (h : w.heap[g]? = some o) : g < w.heap.size := by
  rcases Nat.lt_or_ge g w.heap.size with h1 | h1
  · exact h1
  · rw [Array.getElem?_eq_none h1] at h; cases h
theorem jv_one {n : Nat} {T : List Nat} {w : World} {v : Value} {x : JV} (h : JvAt n T w v x) : v.oneCell' = true := one_jv n T w [v] x ⟨v, rfl, h⟩ v (List.mem_singleton.2 rfl)
theorem jv_form {n : Nat} {T : List Nat} {w : World} {v : Value} {x : JV} (h : JvAt n T w v x) : v = .nilIface ∨ ∃ t u, v = .iface t u := by
  cases n with
  | zero => cases h
  | succ n =>
    cases x with
    | nul => exact .inl h
    | bool _ => exact .inr ⟨_, _, h⟩
    | num _ => exact .inr ⟨_, _, h.1⟩
    | str _ => exact .inr ⟨_, _, h⟩
    | list l => obtain ⟨_, h1, _⟩ := h; exact .inr ⟨_, _, h1⟩
    | obj l => obtain ⟨_, h1, _⟩ := h; exact .inr ⟨_, _, h1⟩
theorem put_new_names {n : Bs} {u : JV} {d : List (Bs × JV)} (h : JP.put n u d = d.take (JP.pos n d) ++ (n, u) :: d.drop (JP.pos n d)) : (JP.put n u d).map (fun y => mkB y.1) = (d.map fun y => mkB y.1).take (JP.pos n d) ++ mkB n :: (d.map fun y => mkB y.1).drop (JP.pos n d) := by
  rw [h]; simp
theorem put_new_vals {n : Bs} {u : JV} {d : List (Bs × JV)} (h : JP.put n u d = d.take (JP.pos n d) ++ (n, u) :: d.drop (JP.pos n d)) : (JP.put n u d).map (·.2) = (d.map (·.2)).take (JP.pos n d) ++ u :: (d.map (·.2)).drop (JP.pos n d) := by
  rw [h]; simp
theorem off_new {α : Type} {T : List Nat} {w : World} {v : Value} {l : List α} {B : Nat} {e : TypeId} {m : List Value} (h : OwnAt RVal 1 w B e v m) (hT : ∀ b ∈ T, b < B) : OffT T v l := fun _ b hb hm => by
  have h1 := (h.at hb).1
  have h2 := hT b hm
  omega
theorem pairs_get {α : Type} {xs : List Value} {l : List α} {P : Value → α → Prop} (h : ∀ (j : Nat) (u : Value) (x : α), xs[j]? = some u → l[j]? = some x → P u x) {k : Nat} {v : Value} {y : α} (hP : P v y) (hl : xs.length = l.length) (hk : k ≤ l.length) :
    ∀ (j : Nat) (u : Value) (x : α), (xs.take k ++ v :: xs.drop k)[j]? = some u → (l.take k ++ y :: l.drop k)[j]? = some x → P u x := fun j u x hu hx => by
  have hlx : (xs.take k).length = k := by rw [List.length_take]; omega
  have hll : (l.take k).length = k := by rw [List.length_take]; omega
  by_cases h1 : j < k
  · rw [List.getElem?_append_left (by omega), List.getElem?_take_of_lt h1] at hu hx
    exact h j u x hu hx
  · rw [List.getElem?_append_right (by omega)] at hu hx
    rw [hlx] at hu
    rw [hll] at hx
    by_cases h2 : j = k
    · rw [h2, Nat.sub_self] at hu hx
      cases hu
      cases hx
      exact hP
    · rw [show j - k = (j - 1 - k) + 1 by omega, List.getElem?_cons_succ, List.getElem?_drop] at hu hx
      exact h _ u x hu hx
theorem strs_raw {w : World} {l : List ByteArray} {xs : List Value} (hR : ∀ (j : Nat) (u : Value) (x : ByteArray), xs[j]? = some u → l[j]? = some x → RString w [u] x) (j : Nat) (u : Value) (x : ByteArray) (h1 : xs[j]? = some u) (h2 : l[j]? = some x) : u = .string x := by
  have := hR j u x h1 h2
  have h3 : [u] = [Value.string x] := this
  exact List.cons.inj h3 |>.1
theorem below_drewN0 (w : World) (k : Nat) : Below w.heap.size w (w.drewN k) := ⟨rfl, rfl, rfl, Nat.le_refl _, fun _ _ => rfl⟩
set_option maxRecDepth 100000 in
set_option maxHeartbeats 6400000 in
theorem with_any {n : Nat} {T : List Nat} {q : Nat} {d : List (Bs × JV)} {x : Bs} {y : JV} {v : Value} {w : World} (h : ObR (JvR n T) T w q d) (hv : JvAt n T w v y) (hT : ∀ b ∈ T, b < w.heap.size) (hl : d.length ≤ 1048575) :
    Calls Tryz.prog 131 #[.pointer (some ⟨q, 0, none⟩), .string (mkB x), v] w fun e w' => ∃ q', e = .returned (.pointer (some ⟨q', 0, none⟩)) ∧ ObR (JvR n T) T w' q' (JP.put x y d) ∧ Below w.heap.size w w' := by
  obtain ⟨hqT, hs, vn, vv, cn, cv, hrn, hon, hrv, hov⟩ := h
  have HS := Lib.hid (search_any (x := x) hs hrn (by omega))
  have hpl := JP.pos_le x d
  have hsp := JP.put_srt (n := x) (v := y) hs
  have hF := JP.find_spec (n := x) hs
  obtain ⟨xs, hxl, hxr, hxR⟩ := hrn.raw one_string
  obtain ⟨ys, hyl, hyr, hyR⟩ := hrv.raw (one_jv n T)
  rw [List.length_map] at hxl hyl
  obtain ⟨an, c1, hu1, _, _⟩ := hrn.len
  obtain ⟨av, c2, hu2, _, _⟩ := hrv.len
  obtain ⟨ln, hln⟩ : ∃ n, (d.map fun y => mkB y.1).length = n := ⟨_, rfl⟩
  obtain ⟨lv, hlv⟩ : ∃ n, (d.map (·.2)).length = n := ⟨_, rfl⟩
  rw [hln] at hu1
  rw [hlv] at hu2
  subst hu1
  subst hu2
  clear hln hlv
  have hqw : q < w.heap.size := World.block_lt_of_cell? w ⟨q, 0, none⟩ cn
  have hv1 := jv_one hv
  rcases hF with ⟨y0, hy0, hg, hput⟩ | ⟨_, hg, hput⟩
  · -- the field is there: its value is another
    have hput := hput y
    rw [hg] at HS
    have hpm : (JP.put x y d).map (fun z => mkB z.1) = d.map fun z => mkB z.1 := by
      have hd : d = d.take (JP.pos x d) ++ (x, y0) :: d.drop (JP.pos x d + 1) := by
        have hlt := (List.getElem?_eq_some_iff.1 hy0)
        obtain ⟨h1, h2⟩ := hlt
        conv => lhs; rw [← List.take_append_drop (JP.pos x d) d, List.drop_eq_getElem_cons h1, h2]
      rw [hput]
      conv => rhs; rw [hd]
      simp
    have hpv : (JP.put x y d).map (·.2) = (d.map (·.2)).set (JP.pos x d) y := by
      have hlt := (List.getElem?_eq_some_iff.1 hy0).1
      rw [hput, List.set_eq_take_append_cons_drop, if_pos (by rw [List.length_map]; exact hlt)]
      simp
    have hlt : JP.pos x d < d.length := (List.getElem?_eq_some_iff.1 hy0).1
    have hdl : (JP.put x y d).length = d.length := by
      have := congrArg List.length hpm
      simpa using this
    obtain ⟨D, hD⟩ : ∃ D, JP.put x y d = D := ⟨_, rfl⟩
    rw [hD] at hpm hpv hdl hsp ⊢
    obtain ⟨p, hp⟩ : ∃ p, JP.pos x d = p := ⟨_, rfl⟩
    rw [hp] at HS hpv hlt
    have HC := Lib.hid (fun w' (hb : Below w.heap.size w w') => cloneVal_any (.slice av lv c2) ys w' (hyr.below stays_val hb) (by omega))
    have hfin : ∀ w' (q' : Nat) (v9 : Value), KeepT T w w' → q' ∉ T → w'.cell? ⟨q', 0, none⟩ = some (.slice an ln c1) → w'.cell? ⟨q', 1, none⟩ = some v9 → RowAt RVal 1 w' v9 (ys.set p v) → OffT T v9 D → ObR (JvR n T) T w' q' D := fun w' q' v9 hk hq' k0 k1 hr9 ho9 => by
      refine ⟨hq', hsp, _, v9, k0, k1, ?_, fun hne => hon fun e => hne (List.eq_nil_of_length_eq_zero (by rw [hdl, e]; rfl)), ?_, ho9⟩
      · rw [hpm]
        exact hrn.keepT hk (fun hne => hon fun e => hne (by rw [e]; rfl)) (fun _ _ h => h)
      · rw [hpv]
        refine hr9.ofRaw (by rw [List.length_set, List.length_set, List.length_map, hyl]) fun j u z hu hz => ?_
        by_cases hjp : j = p
        · subst hjp
          rw [List.getElem?_set_self (by omega)] at hu
          rw [List.getElem?_set_self (by rw [List.length_map]; omega)] at hz
          cases hu
          cases hz
          exact ⟨v, rfl, hv.keepT hk⟩
        · rw [List.getElem?_set_ne (fun e => hjp e.symm)] at hu hz
          obtain ⟨v1, e1, h1⟩ := hyR j u z hu hz
          exact ⟨v1, e1, h1.keepT hk⟩
    have Hfin := Lib.hid hfin
    have HT := Lib.hid hT
    have hyl' : p < ys.length := by omega
    have q1 : (0 : Int) ≤ (p : Int) := by omega
    clear hg hput hfin hT hrn hrv hxr hyr hxR hyR hon hov hpm hpv hD hdl hsp hs hy0 hpl hxl hp hv
    obtain ⟨m, Hm⟩ : ∃ m, Hid (ys.length = m) := ⟨_, Lib.hid rfl⟩
    have hym : p < m := by have := Hm.out; omega
    have q2 : (p : Int) < (m : Int) := by omega
    clear hyl'
    go_enter Tryz.func131, Tryz.ntmps131
    go_wp2_with fail
    refine HS.out.mono ?_
    rintro E w1 ⟨rfl, k, rfl⟩
    have cn1 : (w.drewN k).cell? ⟨q, 0, none⟩ = some (.slice an ln c1) := cn
    have cv1 : (w.drewN k).cell? ⟨q, 1, none⟩ = some (.slice av lv c2) := cv
    have Hb1 : Hid (Below w.heap.size w (w.drewN k)) := Lib.hid ((below_drewN0 w k))
    go_wp2_with fail
    refine (HC.out _ Hb1.out).mono ?_
    rintro E w2 ⟨v9, rfl, hown, hb2⟩
    have hb2' : Below w.heap.size (w.drewN k) w2 := hb2
    have Hb2 := Lib.hid (Hb1.out.trans hb2')
    have hown' : OwnAt RVal 1 w2 w.heap.size 125 v9 ys := hown
    have ho := own_raw hown'
    have honesr := hown'.ones
    rcases ho.2 with ⟨_, h0⟩ | ⟨g, c, cur, rfl, hB, hh, hlc, hc, hcs, htk⟩
    · have := Hm.out; omega
    · rw [Hm.out] at hlc htk ⊢
      have hgw : g < w2.heap.size := blk_lt hh
      have hgq : g ≠ q := by omega
      obtain ⟨c0, z0⟩ : ∃ c0, w2.cell? ⟨g, p, none⟩ = some c0 := ⟨cur[p]'(by rw [hcs]; omega), by rw [cell_block hh]; exact Array.getElem?_eq_getElem _⟩
      have z1 : w2.frozen? ⟨g, p, none⟩ = false := free_block hh p
      have cn2 : w2.cell? ⟨q, 0, none⟩ = some (.slice an ln c1) := (Hb2.out.cell (p := ⟨q, 0, none⟩) hqw).trans cn
      obtain ⟨s1, t1⟩ := touch_setCell (w := w2) (i := p) (v := v) hh
      obtain ⟨w3, hw3⟩ : ∃ w3, w3 = w2.setCell ⟨g, p, none⟩ v := ⟨_, rfl⟩
      have hst : (storeCells ⟨g, p, none⟩ [v]).run Tryz.prog w2 = .ok () w3 := by
        have h9 := run_storeCells_cells (P := Tryz.prog) g p [v] 0 w2 (fun j hj => by
          obtain rfl : j = 0 := by simpa using hj
          show (w2.cell? ⟨g, p, none⟩).isSome = true
          rw [z0]; rfl) (fun j hj => by
          obtain rfl : j = 0 := by simpa using hj
          exact z1) (fun u hu => by rw [List.mem_singleton.1 hu]; exact hv1)
        rw [h9, hw3]; rfl
      rw [← hw3] at s1 t1
      have hb3 : Below w.heap.size w w3 := t1.below Hb2.out hB
      have hown3 : OwnAt RVal 1 w3 w.heap.size 125 (.slice (some ⟨g, 0, none⟩) m c) (ys.set p v) := by
        have hcur : ∀ (j : Nat) (u : Value), ys[j]? = some u → cur[j]? = some u := fun j u hu => by
          have hu2 : (cur.toList.take (ys.length * 1))[j]? = some u := by rw [Hm.out, htk]; exact hu
          have hj := (List.getElem?_eq_some_iff.1 hu).1
          rw [Nat.mul_one, List.getElem?_take_of_lt hj, Array.getElem?_toList] at hu2
          exact hu2
        have hI := own_of_cells (xs := ys.set p v) (c := c) (B := w.heap.size) s1 hB (by rw [List.length_set, Hm.out]; exact hlc) hc (by rw [Array.size_setIfInBounds, hcs, Nat.mul_one]) (fun j u hu => by
          by_cases hjp : j = p
          · subst hjp
            rw [List.getElem?_set_self (by rw [Hm.out]; exact hym)] at hu
            cases hu
            rw [Array.getElem?_setIfInBounds_self_of_lt (by rw [hcs]; omega)]
          · rw [List.getElem?_set_ne (fun e => hjp e.symm)] at hu
            rw [Array.getElem?_setIfInBounds_ne (fun e => hjp e.symm)]
            exact hcur j u hu) (fun u hu => by
          rcases List.mem_or_eq_of_mem_set hu with h | rfl
          · exact honesr u h
          · exact hv1)
        rw [List.length_set, Hm.out] at hI
        exact hI
      have Hown3 := Lib.hid hown3
      have Hb3 := Lib.hid hb3
      have cn3 : w3.cell? ⟨q, 0, none⟩ = some (.slice an ln c1) := (hb3.cell (p := ⟨q, 0, none⟩) hqw).trans cn
      have hs3 : w.heap.size ≤ w3.heap.size := Hb3.out.size
      have Hw3 := Lib.hid hw3
      clear hown hown' ho honesr hh htk hcs hb2 hb2' s1 t1 hb3 hown3 hw3
      have q3 : (p : Int) < (m : Int) := q2
      go_wp2_with fail
      rw [hst]
      go_wp2_with fail
      go_ret
      refine ⟨w3.heap.size, rfl, ?_, (Hb3.out.alloc hs3 _)⟩
      have hbA : Below w3.heap.size w3 (w3.alloc (.cells #[.slice an ln c1, .slice (some ⟨g, 0, none⟩) m c] 192)) := (Below.refl _ _).alloc (Nat.le_refl _) _
      refine Hfin.out _ _ (.slice (some ⟨g, 0, none⟩) m c) (KeepT.of (Hb3.out.alloc hs3 _)) (fun hm => by have h9 := HT.out _ hm; omega) ?_ ?_ ((Hown3.out.row).below stays_val hbA) (off_new Hown3.out HT.out)
      · rw [cell_block (heap_alloc_new w3 _)]; rfl
      · rw [cell_block (heap_alloc_new w3 _)]; rfl
  · -- a new field
    have hput := hput y
    rw [hg] at HS
    have hpn := put_new_names hput
    have hpv := put_new_vals hput
    obtain ⟨D, hD⟩ : ∃ D, JP.put x y d = D := ⟨_, rfl⟩
    rw [hD] at hpn hpv hsp ⊢
    obtain ⟨p, hp⟩ : ∃ p, JP.pos x d = p := ⟨_, rfl⟩
    rw [hp] at HS hpn hpv hpl
    have HC1 := Lib.hid (fun w' (hb : Below w.heap.size w w') => cloneStr_any (.slice an ln c1) xs w' (hxr.below stays_val hb) (by omega))
    have HC2 := Lib.hid (fun w' (hb : Below w.heap.size w w') => cloneVal_any (.slice av lv c2) ys w' (hyr.below stays_val hb) (by omega))
    have hfin : ∀ w' (q' : Nat) (v8 v9 : Value), KeepT T w w' → q' ∉ T → w'.cell? ⟨q', 0, none⟩ = some v8 → w'.cell? ⟨q', 1, none⟩ = some v9 → RowAt RVal 1 w' v8 (xs.take p ++ .string (mkB x) :: xs.drop p) → OffT T v8 D → RowAt RVal 1 w' v9 (ys.take p ++ v :: ys.drop p) → OffT T v9 D → ObR (JvR n T) T w' q' D := fun w' q' v8 v9 hk hq' k0 k1 hr8 ho8 hr9 ho9 => by
      refine ⟨hq', hsp, v8, v9, k0, k1, ?_, ho8, ?_, ho9⟩
      · rw [hpn]
        refine hr8.ofRaw (by rw [putin_len (by omega), List.length_append, List.length_take, List.length_cons, List.length_drop, List.length_map]; omega) fun j u z hu hz => ?_
        have := pairs_get (P := fun u z => u = .string z) (strs_raw hxR) (k := p) (v := .string (mkB x)) (y := mkB x) rfl (by rw [List.length_map, hxl]) (by rw [List.length_map]; exact hpl) j u z hu hz
        rw [this]; rfl
      · rw [hpv]
        refine hr9.ofRaw (by rw [putin_len (by omega), List.length_append, List.length_take, List.length_cons, List.length_drop, List.length_map]; omega) fun j u z hu hz => ?_
        obtain ⟨v1, e1, h1⟩ := pairs_get (P := fun u z => JvR n T w [u] z) hyR (k := p) (v := v) (y := y) ⟨v, rfl, hv⟩ (by rw [List.length_map, hyl]) (by rw [List.length_map]; exact hpl) j u z hu hz
        exact ⟨v1, e1, h1.keepT hk⟩
    have Hfin := Lib.hid hfin
    have HT := Lib.hid hT
    have hxp : p ≤ xs.length := by omega
    have hyp : p ≤ ys.length := by omega
    have hxs : xs.length ≤ 1048576 := by omega
    have hys : ys.length ≤ 1048576 := by omega
    have hsx : (Value.string (mkB x)).oneCell' = true := rfl
    have HVf := Lib.hid (jv_form hv)
    clear hg hput hfin hT hrn hrv hxr hyr hxR hyR hon hov hpn hpv hD hsp hs hpl hxl hyl hp hv
    go_enter Tryz.func131, Tryz.ntmps131
    go_wp2_with fail
    refine HS.out.mono ?_
    rintro E w1 ⟨rfl, k, rfl⟩
    have Hb1 : Hid (Below w.heap.size w (w.drewN k)) := Lib.hid ((below_drewN0 w k))
    go_upto_region 6 with fail
    refine wp_region_relY 20 (fun w' => Below w.heap.size (w.drewN k) w') (fun i wa wb => if i = 8 then SameBut 9 wa wb ∧ Below w.heap.size wa wb else (if i = 17 then SameBut 125 wa wb ∧ Below w.heap.size wa wb else Below wa.heap.size wa wb)) (fun ii U w' => match ii with
      | 0 => U 0 = .pointer (some ⟨q, 0, none⟩)
      | 1 => U 1 = .pointer (some ⟨q, 0, none⟩)
      | 2 => U 2 = .pointer (some ⟨q, 0, none⟩)
      | 3 => U 3 = .slice an ln c1
      | 4 => OwnAt RVal 1 w' w.heap.size 9 (U 4) xs
      | 5 => U 5 = .int .i64 (p : Int)
      | 6 => U 6 = .string (mkB x)
      | 7 => ∃ g, U 7 = .slice (some ⟨g, 0, none⟩) 1 1 ∧ w'.heap[g]? = some (.cells #[.string (mkB x)] 9 (0, 0))
      | 8 => OwnAt RVal 1 w' w.heap.size 9 (U 8) (xs.take p ++ .string (mkB x) :: xs.drop p)
      | 9 => U 9 = .pointer (some ⟨q, 0, none⟩)
      | 10 => U 10 = .pointer (some ⟨q, 0, none⟩)
      | 11 => U 11 = .pointer (some ⟨q, 1, none⟩)
      | 12 => U 12 = .slice av lv c2
      | 13 => OwnAt RVal 1 w' w.heap.size 125 (U 13) ys
      | 14 => U 14 = .int .i64 (p : Int)
      | 15 => U 15 = v
      | 16 => ∃ g, U 16 = .slice (some ⟨g, 0, none⟩) 1 1 ∧ w'.heap[g]? = some (.cells #[v] 125 (0, 0))
      | 17 => OwnAt RVal 1 w' w.heap.size 125 (U 17) (ys.take p ++ v :: ys.drop p)
      | 18 => U 18 = .agg #[U 8, U 17]
      | 19 => ∃ g, U 19 = .pointer (some ⟨g, 0, none⟩) ∧ w.heap.size ≤ g ∧ w'.heap[g]? = some (.cells #[U 8, U 17] 192 (0, 0))
      | _ => True)
      (fun | 1 => [0] | 2 => [1] | 3 => [2] | 4 => [3] | 7 => [6] | 8 => [4, 5, 7] | 10 => [9] | 11 => [10] | 12 => [11] | 13 => [12] | 16 => [15] | 17 => [13, 14, 16] | 18 => [8, 17] | 19 => [18, 8, 17] | _ => [])
      (fun | 4 => [8] | 7 => [8] | 13 => [17] | 16 => [17] | _ => []) (by kernel_rfl) (by kernel_rfl) (Below.refl _ _).drew ?_ ?_ ⟨?_, ?_, ?_, ?_, ?_, ?_, ?_, ?_, ?_, ?_, ?_, ?_, ?_, ?_, ?_, ?_, ?_, ?_, ?_, ?_, trivial⟩ ?_
    · intro i wa wb hk hi
      by_cases h8 : i = 8
      · rw [if_pos h8] at hk
        exact hi.trans hk.2
      · rw [if_neg h8] at hk
        by_cases h17 : i = 17
        · rw [if_pos h17] at hk
          exact hi.trans hk.2
        · rw [if_neg h17] at hk
          exact below_then' hi hk
    · intro i j U wa wb hji hkl hk hi h
      by_cases h8 : i = 8
      · rw [if_pos h8] at hk
        subst h8
        have hsm := hk.1
        match j, hji, hkl, h with
        | 0, _, _, h => exact h
        | 1, _, _, h => exact h
        | 2, _, _, h => exact h
        | 3, _, _, h => exact h
        | 4, _, hkl, h => exact absurd (by simp) hkl
        | 5, _, _, h => exact h
        | 6, _, _, h => exact h
        | 7, _, hkl, h => exact absurd (by simp) hkl
        | 8, hji, _, h => exact absurd rfl hji
        | 9, _, _, h => exact h
        | 10, _, _, h => exact h
        | 11, _, _, h => exact h
        | 12, _, _, h => exact h
        | 13, _, _, h => exact OwnAt.same' flat_val h hsm (by decide)
        | 14, _, _, h => exact h
        | 15, _, _, h => exact h
        | 16, _, _, h => exact (by obtain ⟨g, h1, h2⟩ := h; exact ⟨g, h1, hsm g _ _ _ h2 (by decide)⟩)
        | 17, _, _, h => exact OwnAt.same' flat_val h hsm (by decide)
        | 18, _, _, h => exact h
        | 19, _, _, h => exact (by obtain ⟨g, h1, h0, h2⟩ := h; exact ⟨g, h1, h0, hsm g _ _ _ h2 (by decide)⟩)
        | _ + 20, _, _, h => trivial
      · rw [if_neg h8] at hk
        by_cases h17 : i = 17
        · rw [if_pos h17] at hk
          subst h17
          have hsm := hk.1
          match j, hji, hkl, h with
          | 0, _, _, h => exact h
          | 1, _, _, h => exact h
          | 2, _, _, h => exact h
          | 3, _, _, h => exact h
          | 4, _, _, h => exact OwnAt.same' flat_val h hsm (by decide)
          | 5, _, _, h => exact h
          | 6, _, _, h => exact h
          | 7, _, _, h => exact (by obtain ⟨g, h1, h2⟩ := h; exact ⟨g, h1, hsm g _ _ _ h2 (by decide)⟩)
          | 8, _, _, h => exact OwnAt.same' flat_val h hsm (by decide)
          | 9, _, _, h => exact h
          | 10, _, _, h => exact h
          | 11, _, _, h => exact h
          | 12, _, _, h => exact h
          | 13, _, hkl, h => exact absurd (by simp) hkl
          | 14, _, _, h => exact h
          | 15, _, _, h => exact h
          | 16, _, hkl, h => exact absurd (by simp) hkl
          | 17, hji, _, h => exact absurd rfl hji
          | 18, _, _, h => exact h
          | 19, _, _, h => exact (by obtain ⟨g, h1, h0, h2⟩ := h; exact ⟨g, h1, h0, hsm g _ _ _ h2 (by decide)⟩)
          | _ + 20, _, _, h => trivial
        · rw [if_neg h17] at hk
          match j, h with
          | 0, h => exact h
          | 1, h => exact h
          | 2, h => exact h
          | 3, h => exact h
          | 4, h => exact OwnAt.below stays_val h hk
          | 5, h => exact h
          | 6, h => exact h
          | 7, h => exact (by obtain ⟨g, h1, h2⟩ := h; exact ⟨g, h1, below_block hk h2⟩)
          | 8, h => exact OwnAt.below stays_val h hk
          | 9, h => exact h
          | 10, h => exact h
          | 11, h => exact h
          | 12, h => exact h
          | 13, h => exact OwnAt.below stays_val h hk
          | 14, h => exact h
          | 15, h => exact h
          | 16, h => exact (by obtain ⟨g, h1, h2⟩ := h; exact ⟨g, h1, below_block hk h2⟩)
          | 17, h => exact OwnAt.below stays_val h hk
          | 18, h => exact h
          | 19, h => exact (by obtain ⟨g, h1, h0, h2⟩ := h; exact ⟨g, h1, h0, below_block hk h2⟩)
          | _ + 20, h => trivial
    · intro x' w' hb hd
      have hbw : Below w.heap.size w w' := (below_drewN0 w k).trans hb
      have e0 : w'.cell? ⟨q, 0, none⟩ = some (.slice an ln c1) := (hbw.cell (p := ⟨q, 0, none⟩) hqw).trans cn
      have e1 : w'.cell? ⟨q, 1, none⟩ = some (.slice av lv c2) := (hbw.cell (p := ⟨q, 1, none⟩) hqw).trans cv
      refine owesK_here (.pointer (some ⟨q, 0, none⟩)) (by rfl) ?_ rfl (else_of (by decide) (else_of (by decide) (Below.refl _ _)))
      simp only [putAll, List.take_succ_cons, List.take_zero]
      go_simp
    · intro x' w' hb hd
      have hbw : Below w.heap.size w w' := (below_drewN0 w k).trans hb
      have e0 : w'.cell? ⟨q, 0, none⟩ = some (.slice an ln c1) := (hbw.cell (p := ⟨q, 0, none⟩) hqw).trans cn
      have e1 : w'.cell? ⟨q, 1, none⟩ = some (.slice av lv c2) := (hbw.cell (p := ⟨q, 1, none⟩) hqw).trans cv
      have k0 : x' 0 = .pointer (some ⟨q, 0, none⟩) := hd 0 (by simp)
      refine owesK_here (.pointer (some ⟨q, 0, none⟩)) (by rfl) ?_ rfl (else_of (by decide) (else_of (by decide) (Below.refl _ _)))
      simp only [putAll, List.take_succ_cons, List.take_zero]
      go_simp
    · intro x' w' hb hd
      have hbw : Below w.heap.size w w' := (below_drewN0 w k).trans hb
      have e0 : w'.cell? ⟨q, 0, none⟩ = some (.slice an ln c1) := (hbw.cell (p := ⟨q, 0, none⟩) hqw).trans cn
      have e1 : w'.cell? ⟨q, 1, none⟩ = some (.slice av lv c2) := (hbw.cell (p := ⟨q, 1, none⟩) hqw).trans cv
      have k0 : x' 1 = .pointer (some ⟨q, 0, none⟩) := hd 1 (by simp)
      refine owesK_here (.pointer (some ⟨q, 0, none⟩)) (by rfl) ?_ rfl (else_of (by decide) (else_of (by decide) (Below.refl _ _)))
      simp only [putAll, List.take_succ_cons, List.take_zero]
      go_simp
    · intro x' w' hb hd
      have hbw : Below w.heap.size w w' := (below_drewN0 w k).trans hb
      have e0 : w'.cell? ⟨q, 0, none⟩ = some (.slice an ln c1) := (hbw.cell (p := ⟨q, 0, none⟩) hqw).trans cn
      have e1 : w'.cell? ⟨q, 1, none⟩ = some (.slice av lv c2) := (hbw.cell (p := ⟨q, 1, none⟩) hqw).trans cv
      have k0 : x' 2 = .pointer (some ⟨q, 0, none⟩) := hd 2 (by simp)
      refine owesK_here (.slice an ln c1) (by rfl) ?_ rfl (else_of (by decide) (else_of (by decide) (Below.refl _ _)))
      simp only [putAll, List.take_succ_cons, List.take_zero]
      go_simp
    · intro x' w' hb hd
      have hbw : Below w.heap.size w w' := (below_drewN0 w k).trans hb
      have e0 : w'.cell? ⟨q, 0, none⟩ = some (.slice an ln c1) := (hbw.cell (p := ⟨q, 0, none⟩) hqw).trans cn
      have e1 : w'.cell? ⟨q, 1, none⟩ = some (.slice av lv c2) := (hbw.cell (p := ⟨q, 1, none⟩) hqw).trans cv
      have k0 : x' 3 = .slice an ln c1 := hd 3 (by simp)
      refine owesK_call 78 #[.slice an ln c1] (by rfl) ?_ ((HC1.out w' hbw).mono fun e w2 ⟨v', h1, h2, h3⟩ => ⟨v', h1, h2.mono hbw.size, else_of (by decide) (else_of (by decide) h3)⟩)
      simp only [putAll, List.take_succ_cons, List.take_zero]
      go_simp
    · intro x' w' hb hd
      have hbw : Below w.heap.size w w' := (below_drewN0 w k).trans hb
      have e0 : w'.cell? ⟨q, 0, none⟩ = some (.slice an ln c1) := (hbw.cell (p := ⟨q, 0, none⟩) hqw).trans cn
      have e1 : w'.cell? ⟨q, 1, none⟩ = some (.slice av lv c2) := (hbw.cell (p := ⟨q, 1, none⟩) hqw).trans cv
      refine owesK_here (.int .i64 (p : Int)) (by rfl) ?_ rfl (else_of (by decide) (else_of (by decide) (Below.refl _ _)))
      simp only [putAll, List.take_succ_cons, List.take_zero]
      go_simp
    · intro x' w' hb hd
      have hbw : Below w.heap.size w w' := (below_drewN0 w k).trans hb
      have e0 : w'.cell? ⟨q, 0, none⟩ = some (.slice an ln c1) := (hbw.cell (p := ⟨q, 0, none⟩) hqw).trans cn
      have e1 : w'.cell? ⟨q, 1, none⟩ = some (.slice av lv c2) := (hbw.cell (p := ⟨q, 1, none⟩) hqw).trans cv
      refine owesK_here (.string (mkB x)) (by rfl) ?_ rfl (else_of (by decide) (else_of (by decide) (Below.refl _ _)))
      simp only [putAll, List.take_succ_cons, List.take_zero]
      go_simp
    · intro x' w' hb hd
      have hbw : Below w.heap.size w w' := (below_drewN0 w k).trans hb
      have e0 : w'.cell? ⟨q, 0, none⟩ = some (.slice an ln c1) := (hbw.cell (p := ⟨q, 0, none⟩) hqw).trans cn
      have e1 : w'.cell? ⟨q, 1, none⟩ = some (.slice av lv c2) := (hbw.cell (p := ⟨q, 1, none⟩) hqw).trans cv
      have k0 : x' 6 = .string (mkB x) := hd 6 (by simp)
      refine owesK_makes (.slice (some ⟨w'.heap.size, 0, none⟩) 1 1) (w' := w'.alloc (.cells #[.string (mkB x)] 9)) (by rfl) ?_ (⟨_, rfl, heap_alloc_new w' _⟩) (else_of (by decide) (else_of (by decide) ((Below.refl _ _).alloc (Nat.le_refl _) _)))
      simp only [putAll, List.take_succ_cons, List.take_zero]
      go_simp
    · intro x' w' hb hd
      have hbw : Below w.heap.size w w' := (below_drewN0 w k).trans hb
      have e0 : w'.cell? ⟨q, 0, none⟩ = some (.slice an ln c1) := (hbw.cell (p := ⟨q, 0, none⟩) hqw).trans cn
      have e1 : w'.cell? ⟨q, 1, none⟩ = some (.slice av lv c2) := (hbw.cell (p := ⟨q, 1, none⟩) hqw).trans cv
      have k4 : OwnAt RVal 1 w' w.heap.size 9 (x' 4) xs := hd 4 (by simp)
      have k5 : x' 5 = .int .i64 (p : Int) := hd 5 (by simp)
      have k7 : ∃ g, x' 7 = .slice (some ⟨g, 0, none⟩) 1 1 ∧ w'.heap[g]? = some (.cells #[.string (mkB x)] 9 (0, 0)) := hd 7 (by simp)
      obtain ⟨g, k7, kg⟩ := k7
      refine owesK_call 160 #[x' 4, .int .i64 (p : Int), .slice (some ⟨g, 0, none⟩) 1 1] (by rfl) ?_ ((insStr_any (x' 4) xs w.heap.size p (.string (mkB x)) g w' k4 hxp hsx kg hbw.size hxs).mono fun e w2 ⟨v', h1, h2, h3, h4⟩ => ⟨v', h1, h2, then_of rfl ⟨h4, h3⟩⟩)
      simp only [putAll, List.take_succ_cons, List.take_zero]
      go_simp
    · intro x' w' hb hd
      have hbw : Below w.heap.size w w' := (below_drewN0 w k).trans hb
      have e0 : w'.cell? ⟨q, 0, none⟩ = some (.slice an ln c1) := (hbw.cell (p := ⟨q, 0, none⟩) hqw).trans cn
      have e1 : w'.cell? ⟨q, 1, none⟩ = some (.slice av lv c2) := (hbw.cell (p := ⟨q, 1, none⟩) hqw).trans cv
      refine owesK_here (.pointer (some ⟨q, 0, none⟩)) (by rfl) ?_ rfl (else_of (by decide) (else_of (by decide) (Below.refl _ _)))
      simp only [putAll, List.take_succ_cons, List.take_zero]
      go_simp
    · intro x' w' hb hd
      have hbw : Below w.heap.size w w' := (below_drewN0 w k).trans hb
      have e0 : w'.cell? ⟨q, 0, none⟩ = some (.slice an ln c1) := (hbw.cell (p := ⟨q, 0, none⟩) hqw).trans cn
      have e1 : w'.cell? ⟨q, 1, none⟩ = some (.slice av lv c2) := (hbw.cell (p := ⟨q, 1, none⟩) hqw).trans cv
      have k0 : x' 9 = .pointer (some ⟨q, 0, none⟩) := hd 9 (by simp)
      refine owesK_here (.pointer (some ⟨q, 0, none⟩)) (by rfl) ?_ rfl (else_of (by decide) (else_of (by decide) (Below.refl _ _)))
      simp only [putAll, List.take_succ_cons, List.take_zero]
      go_simp
    · intro x' w' hb hd
      have hbw : Below w.heap.size w w' := (below_drewN0 w k).trans hb
      have e0 : w'.cell? ⟨q, 0, none⟩ = some (.slice an ln c1) := (hbw.cell (p := ⟨q, 0, none⟩) hqw).trans cn
      have e1 : w'.cell? ⟨q, 1, none⟩ = some (.slice av lv c2) := (hbw.cell (p := ⟨q, 1, none⟩) hqw).trans cv
      have k0 : x' 10 = .pointer (some ⟨q, 0, none⟩) := hd 10 (by simp)
      refine owesK_here (.pointer (some ⟨q, 1, none⟩)) (by rfl) ?_ rfl (else_of (by decide) (else_of (by decide) (Below.refl _ _)))
      simp only [putAll, List.take_succ_cons, List.take_zero]
      go_simp
    · intro x' w' hb hd
      have hbw : Below w.heap.size w w' := (below_drewN0 w k).trans hb
      have e0 : w'.cell? ⟨q, 0, none⟩ = some (.slice an ln c1) := (hbw.cell (p := ⟨q, 0, none⟩) hqw).trans cn
      have e1 : w'.cell? ⟨q, 1, none⟩ = some (.slice av lv c2) := (hbw.cell (p := ⟨q, 1, none⟩) hqw).trans cv
      have k0 : x' 11 = .pointer (some ⟨q, 1, none⟩) := hd 11 (by simp)
      refine owesK_here (.slice av lv c2) (by rfl) ?_ rfl (else_of (by decide) (else_of (by decide) (Below.refl _ _)))
      simp only [putAll, List.take_succ_cons, List.take_zero]
      go_simp
    · intro x' w' hb hd
      have hbw : Below w.heap.size w w' := (below_drewN0 w k).trans hb
      have e0 : w'.cell? ⟨q, 0, none⟩ = some (.slice an ln c1) := (hbw.cell (p := ⟨q, 0, none⟩) hqw).trans cn
      have e1 : w'.cell? ⟨q, 1, none⟩ = some (.slice av lv c2) := (hbw.cell (p := ⟨q, 1, none⟩) hqw).trans cv
      have k0 : x' 12 = .slice av lv c2 := hd 12 (by simp)
      refine owesK_call 159 #[.slice av lv c2] (by rfl) ?_ ((HC2.out w' hbw).mono fun e w2 ⟨v', h1, h2, h3⟩ => ⟨v', h1, h2.mono hbw.size, else_of (by decide) (else_of (by decide) h3)⟩)
      simp only [putAll, List.take_succ_cons, List.take_zero]
      go_simp
    · intro x' w' hb hd
      have hbw : Below w.heap.size w w' := (below_drewN0 w k).trans hb
      have e0 : w'.cell? ⟨q, 0, none⟩ = some (.slice an ln c1) := (hbw.cell (p := ⟨q, 0, none⟩) hqw).trans cn
      have e1 : w'.cell? ⟨q, 1, none⟩ = some (.slice av lv c2) := (hbw.cell (p := ⟨q, 1, none⟩) hqw).trans cv
      refine owesK_here (.int .i64 (p : Int)) (by rfl) ?_ rfl (else_of (by decide) (else_of (by decide) (Below.refl _ _)))
      simp only [putAll, List.take_succ_cons, List.take_zero]
      go_simp
    · intro x' w' hb hd
      have hbw : Below w.heap.size w w' := (below_drewN0 w k).trans hb
      have e0 : w'.cell? ⟨q, 0, none⟩ = some (.slice an ln c1) := (hbw.cell (p := ⟨q, 0, none⟩) hqw).trans cn
      have e1 : w'.cell? ⟨q, 1, none⟩ = some (.slice av lv c2) := (hbw.cell (p := ⟨q, 1, none⟩) hqw).trans cv
      refine owesK_here v (by rfl) ?_ rfl (else_of (by decide) (else_of (by decide) (Below.refl _ _)))
      simp only [putAll, List.take_succ_cons, List.take_zero]
      go_simp
    · intro x' w' hb hd
      have hbw : Below w.heap.size w w' := (below_drewN0 w k).trans hb
      have e0 : w'.cell? ⟨q, 0, none⟩ = some (.slice an ln c1) := (hbw.cell (p := ⟨q, 0, none⟩) hqw).trans cn
      have e1 : w'.cell? ⟨q, 1, none⟩ = some (.slice av lv c2) := (hbw.cell (p := ⟨q, 1, none⟩) hqw).trans cv
      have k0 : x' 15 = v := hd 15 (by simp)
      have hf := HVf.out
      refine owesK_makes (.slice (some ⟨w'.heap.size, 0, none⟩) 1 1) (w' := w'.alloc (.cells #[v] 125)) (by rfl) ?_ (⟨_, rfl, heap_alloc_new w' _⟩) (else_of (by decide) (else_of (by decide) ((Below.refl _ _).alloc (Nat.le_refl _) _)))
      simp only [putAll, List.take_succ_cons, List.take_zero]
      rcases hf with rfl | ⟨t, u, rfl⟩
      · go_simp
      · go_simp
    · intro x' w' hb hd
      have hbw : Below w.heap.size w w' := (below_drewN0 w k).trans hb
      have e0 : w'.cell? ⟨q, 0, none⟩ = some (.slice an ln c1) := (hbw.cell (p := ⟨q, 0, none⟩) hqw).trans cn
      have e1 : w'.cell? ⟨q, 1, none⟩ = some (.slice av lv c2) := (hbw.cell (p := ⟨q, 1, none⟩) hqw).trans cv
      have k4 : OwnAt RVal 1 w' w.heap.size 125 (x' 13) ys := hd 13 (by simp)
      have k5 : x' 14 = .int .i64 (p : Int) := hd 14 (by simp)
      have k7 : ∃ g, x' 16 = .slice (some ⟨g, 0, none⟩) 1 1 ∧ w'.heap[g]? = some (.cells #[v] 125 (0, 0)) := hd 16 (by simp)
      obtain ⟨g, k7, kg⟩ := k7
      refine owesK_call 161 #[x' 13, .int .i64 (p : Int), .slice (some ⟨g, 0, none⟩) 1 1] (by rfl) ?_ ((insVal_any (x' 13) ys w.heap.size p v g w' k4 hyp hv1 kg hbw.size hys).mono fun e w2 ⟨v', h1, h2, h3, h4⟩ => ⟨v', h1, h2, else_of (by decide) (then_of rfl ⟨h4, h3⟩)⟩)
      simp only [putAll, List.take_succ_cons, List.take_zero]
      go_simp
    · intro x' w' hb hd
      have hbw : Below w.heap.size w w' := (below_drewN0 w k).trans hb
      have e0 : w'.cell? ⟨q, 0, none⟩ = some (.slice an ln c1) := (hbw.cell (p := ⟨q, 0, none⟩) hqw).trans cn
      have e1 : w'.cell? ⟨q, 1, none⟩ = some (.slice av lv c2) := (hbw.cell (p := ⟨q, 1, none⟩) hqw).trans cv
      have k8 : OwnAt RVal 1 w' w.heap.size 9 (x' 8) (xs.take p ++ .string (mkB x) :: xs.drop p) := hd 8 (by simp)
      have k17 : OwnAt RVal 1 w' w.heap.size 125 (x' 17) (ys.take p ++ v :: ys.drop p) := hd 17 (by simp)
      obtain ⟨a8, c8, e8, _, _⟩ := k8.row.len
      obtain ⟨a17, c17, e17, _, _⟩ := k17.row.len
      refine owesK_here (.agg #[x' 8, x' 17]) (by rfl) ?_ rfl (else_of (by decide) (else_of (by decide) (Below.refl _ _)))
      simp only [putAll, List.take_succ_cons, List.take_zero]
      go_simp
    · intro x' w' hb hd
      have hbw : Below w.heap.size w w' := (below_drewN0 w k).trans hb
      have e0 : w'.cell? ⟨q, 0, none⟩ = some (.slice an ln c1) := (hbw.cell (p := ⟨q, 0, none⟩) hqw).trans cn
      have e1 : w'.cell? ⟨q, 1, none⟩ = some (.slice av lv c2) := (hbw.cell (p := ⟨q, 1, none⟩) hqw).trans cv
      have k8 : OwnAt RVal 1 w' w.heap.size 9 (x' 8) (xs.take p ++ .string (mkB x) :: xs.drop p) := hd 8 (by simp)
      have k17 : OwnAt RVal 1 w' w.heap.size 125 (x' 17) (ys.take p ++ v :: ys.drop p) := hd 17 (by simp)
      have k18 : x' 18 = .agg #[x' 8, x' 17] := hd 18 (by simp)
      obtain ⟨a8, c8, e8, _, _⟩ := k8.row.len
      obtain ⟨a17, c17, e17, _, _⟩ := k17.row.len
      refine owesK_makes (.pointer (some ⟨w'.heap.size, 0, none⟩)) (w' := w'.alloc (.cells #[x' 8, x' 17] 192)) (by rfl) ?_ (⟨_, rfl, hbw.size, heap_alloc_new w' _⟩) (else_of (by decide) (else_of (by decide) ((Below.refl _ _).alloc (Nat.le_refl _) _)))
      simp only [putAll, List.take_succ_cons, List.take_zero]
      go_simp
    · intro x' w' hb hR
      have hbw : Below w.heap.size w w' := (below_drewN0 w k).trans hb
      have e0 : w'.cell? ⟨q, 0, none⟩ = some (.slice an ln c1) := (hbw.cell (p := ⟨q, 0, none⟩) hqw).trans cn
      have e1 : w'.cell? ⟨q, 1, none⟩ = some (.slice av lv c2) := (hbw.cell (p := ⟨q, 1, none⟩) hqw).trans cv
      have k8 : OwnAt RVal 1 w' w.heap.size 9 (x' 8) (xs.take p ++ .string (mkB x) :: xs.drop p) := hR 8 (by omega) rfl
      have k17 : OwnAt RVal 1 w' w.heap.size 125 (x' 17) (ys.take p ++ v :: ys.drop p) := hR 17 (by omega) rfl
      obtain ⟨q', k19, hq1, kq⟩ : ∃ g, x' 19 = .pointer (some ⟨g, 0, none⟩) ∧ w.heap.size ≤ g ∧ w'.heap[g]? = some (.cells #[x' 8, x' 17] 192 (0, 0)) := hR 19 (by omega) rfl
      have Hb := Lib.hid hbw
      have K8 := Lib.hid k8
      have K17 := Lib.hid k17
      have Kq := Lib.hid kq
      clear hR hb hbw k8 k17 kq e0 e1
      simp only [putAll, List.take_succ_cons, List.take_zero, List.drop_succ_cons, List.drop_zero]
      try simp only [Act.put, List.setIfInBounds_toArray, List.set_cons_zero, List.set_cons_succ]
      go_wp2_with fail
      go_ret
      refine ⟨q', ?_, ?_, Hb.out⟩
      · show Ending.returned (x' 19) = _
        rw [k19]
      · refine Hfin.out w' q' (x' 8) (x' 17) (KeepT.of Hb.out) (fun hm => by have h9 := HT.out _ hm; omega) ?_ ?_ K8.out.row (off_new K8.out HT.out) K17.out.row (off_new K17.out HT.out)
        · rw [cell_block Kq.out]; rfl
        · rw [cell_block Kq.out]; rfl
end Go.Proofs.YtnnceaapodgfbaaGreatDoor
namespace Go.Proofs.YtnnceaapodgfbaaGreatDoor
open Go.RowKit
open JP (JV Bs Fr)
structure GF where
  lv : Value
  pv : Value
  nm : ByteArray
def RFr : Rd GF := fun _ cs f => cs = [f.lv, f.pv, .string f.nm] ∧ f.lv.oneCell' = true ∧ f.pv.oneCell' = true
theorem flat_fr : Flat RFr := fun _ _ _ _ h => h
theorem one_fr : OneR RFr := fun _ _ _ h u hu => by
  obtain ⟨h1, h2, h3⟩ := h
  rw [h1] at hu
  simp only [List.mem_cons, List.not_mem_nil, or_false] at hu
  rcases hu with rfl | rfl | rfl
  · exact h2
  · exact h3
  · rfl
theorem Tryz.infoFr : (Tryz.prog.info? 223).map (fun i => (i.zero, i.size, i.bytes)) = some (some (.agg #[.slice none 0 0, .pointer none, .string ByteArray.empty]), 3, 48) := by kernel_rfl
def FrAt (B : Nat) (T : List Nat) (w : World) (f : GF) : Fr → Prop
  | .lst d => f.pv = .pointer none ∧ f.nm = ⟨#[]⟩ ∧ (∀ b, f.lv.ownBlock = some b → b ∈ T) ∧ ∃ n xs, OwnAt RVal 1 w B 125 f.lv xs ∧ xs.length = d.length ∧ ∀ (j : Nat) (u : Value) (x : JV), xs[j]? = some u → d[j]? = some x → JvAt n T w u x
  | .ob d nm => f.lv = .slice none 0 0 ∧ f.nm = mkB nm ∧ ∃ n q, f.pv = .pointer (some ⟨q, 0, none⟩) ∧ ObR (JvR n T) T w q d
def AllFr (B : Nat) (T : List Nat) (w : World) : List GF → List Fr → Prop
  | [], [] => True
  | f :: fs, fr :: st => FrAt B T w f fr ∧ AllFr B T w fs st
  | _, _ => False
theorem ObR.keepJ {n : Nat} {T : List Nat} {w w' : World} {q : Nat} {d : List (Bs × JV)} (h : ObR (JvR n T) T w q d) (hk : KeepT T w w') : ObR (JvR n T) T w' q d := h.keepT hk (fun _ _ ⟨v, e, hv⟩ => ⟨v, e, hv.keepT hk⟩)
theorem ObR.freshJ {n : Nat} {T T' : List Nat} {w : World} {q : Nat} {d : List (Bs × JV)} (h : ObR (JvR n T) T w q d) (hs : ∀ b ∈ T', b ∈ T ∨ w.heap.size ≤ b) : ObR (JvR n T') T' w q d := by
  have : JvAt (n + 1) T w (.iface 190 (.pointer (some ⟨q, 0, none⟩))) (.obj d) := ⟨q, rfl, h⟩
  obtain ⟨q', e, h'⟩ := this.fresh hs
  have : q' = q := by injection e with _ e; injection e with e; injection e with e; injection e with e; exact e.symm
  subst this
  exact h'
theorem FrAt.keep {B : Nat} {T : List Nat} {w w' : World} {f : GF} {fr : Fr} (h : FrAt B T w f fr) (hk : KeepT T w w') (hr : ∀ b, f.lv.ownBlock = some b → w'.heap[b]? = w.heap[b]?) : FrAt B T w' f fr := by
  cases fr with
  | lst d =>
    obtain ⟨h1, h2, h3, n, xs, ho, hl, hx⟩ := h
    refine ⟨h1, h2, h3, n, xs, ?_, hl, fun j u x hu hd => (hx j u x hu hd).keepT hk⟩
    obtain ⟨css, c1, c2, c3, c4⟩ := ho
    refine ⟨css, c1, c2, ⟨c3.1, ?_⟩, fun j cs y hcs hy => c4 j cs y hcs hy⟩
    rcases c3.2 with h5 | ⟨q, cap, cur, hv, hB, hh, hr2⟩
    · exact .inl h5
    · exact .inr ⟨q, cap, cur, hv, hB, (hr q (by rw [hv]; rfl)).trans hh, hr2⟩
  | ob d nm =>
    obtain ⟨h1, h2, n, q, h3, h4⟩ := h
    exact ⟨h1, h2, n, q, h3, h4.keepJ hk⟩
theorem FrAt.fresh {B : Nat} {T T' : List Nat} {w : World} {f : GF} {fr : Fr} (h : FrAt B T w f fr) (hs : ∀ b ∈ T', b ∈ T ∨ w.heap.size ≤ b) (hl : ∀ b, f.lv.ownBlock = some b → b ∈ T') : FrAt B T' w f fr := by
  cases fr with
  | lst d =>
    obtain ⟨h1, h2, _, n, xs, ho, hl2, hx⟩ := h
    exact ⟨h1, h2, hl, n, xs, ho, hl2, fun j u x hu hd => (hx j u x hu hd).fresh hs⟩
  | ob d nm =>
    obtain ⟨h1, h2, n, q, h3, h4⟩ := h
    exact ⟨h1, h2, n, q, h3, h4.freshJ hs⟩
theorem FrAt.own {B : Nat} {T : List Nat} {w : World} {f : GF} {fr : Fr} (h : FrAt B T w f fr) {b : Nat} (hb : f.lv.ownBlock = some b) : b ∈ T ∧ B ≤ b ∧ ∃ cur, w.heap[b]? = some (.cells cur 125 (0, 0)) := by
  cases fr with
  | lst d =>
    obtain ⟨_, _, h3, n, xs, ho, _⟩ := h
    obtain ⟨k1, _, k3⟩ := ho.at hb
    exact ⟨h3 b hb, k1, k3⟩
  | ob d nm =>
    rw [h.1] at hb
    cases hb
theorem AllFr.len {B : Nat} {T : List Nat} {w : World} : ∀ {fs : List GF} {st : List Fr}, AllFr B T w fs st → fs.length = st.length
  | [], [], _ => rfl
  | f :: fs, fr :: st, h => by rw [List.length_cons, List.length_cons, AllFr.len h.2]
  | [], _ :: _, h => by cases h
  | _ :: _, [], h => by cases h
theorem AllFr.own {B : Nat} {T : List Nat} {w : World} : ∀ {fs : List GF} {st : List Fr}, AllFr B T w fs st → ∀ f ∈ fs, ∀ b, f.lv.ownBlock = some b → b ∈ T ∧ B ≤ b ∧ ∃ cur, w.heap[b]? = some (.cells cur 125 (0, 0))
  | [], [], _, f, hf, _, _ => by cases hf
  | f :: fs, fr :: st, h, f', hf, b, hb => by
    rcases List.mem_cons.1 hf with rfl | hf
    · exact FrAt.own h.1 hb
    · exact AllFr.own h.2 f' hf b hb
  | [], _ :: _, h, _, _, _, _ => by cases h
  | _ :: _, [], h, _, _, _, _ => by cases h
theorem AllFr.keep {B : Nat} {T : List Nat} {w w' : World} (hk : KeepT T w w') : ∀ {fs : List GF} {st : List Fr}, AllFr B T w fs st → (∀ f ∈ fs, ∀ b, f.lv.ownBlock = some b → w'.heap[b]? = w.heap[b]?) → AllFr B T w' fs st
  | [], [], _, _ => trivial
  | f :: fs, fr :: st, h, hr => ⟨FrAt.keep h.1 hk (hr f (List.mem_cons_self ..)), AllFr.keep hk h.2 fun f' hf => hr f' (List.mem_cons_of_mem _ hf)⟩
  | [], _ :: _, h, _ => by cases h
  | _ :: _, [], h, _ => by cases h
theorem AllFr.fresh {B : Nat} {T T' : List Nat} {w : World} (hs : ∀ b ∈ T', b ∈ T ∨ w.heap.size ≤ b) : ∀ {fs : List GF} {st : List Fr}, AllFr B T w fs st → (∀ f ∈ fs, ∀ b, f.lv.ownBlock = some b → b ∈ T') → AllFr B T' w fs st
  | [], [], _, _ => trivial
  | f :: fs, fr :: st, h, hr => ⟨FrAt.fresh h.1 hs (hr f (List.mem_cons_self ..)), AllFr.fresh hs h.2 fun f' hf => hr f' (List.mem_cons_of_mem _ hf)⟩
  | [], _ :: _, h, _ => by cases h
  | _ :: _, [], h, _ => by cases h
def lbs (fs : List GF) : List Nat := fs.filterMap fun f => f.lv.ownBlock
theorem lbs_mem {fs : List GF} {b : Nat} : b ∈ lbs fs ↔ ∃ f ∈ fs, f.lv.ownBlock = some b := by unfold lbs; rw [List.mem_filterMap]
structure Core (g : Nat) (T : List Nat) (w : World) (vst : Value) (fs : List GF) (st : List Fr) : Prop where
  row : OwnAt RFr 3 w (g + 1) 223 vst fs.reverse
  gT : g ∈ T
  vT : ∀ b, vst.ownBlock = some b → b ∈ T
  low : ∀ b ∈ T, (∀ k, k < g → k ∈ T) ∧ b < w.heap.size
  nd : (lbs fs).Nodup
  all : AllFr (g + 1) T w fs st
theorem Core.but {g : Nat} {T : List Nat} {w w' : World} {vst : Value} {fs : List GF} {st : List Fr} (h : Core g T w vst fs st) (hb : But g w w') : Core g T w' vst fs st := by
  refine ⟨h.row.butLow flat_fr hb (Nat.lt_succ_self g), h.gT, h.vT, fun b hm => ⟨(h.low b hm).1, Nat.lt_of_lt_of_le (h.low b hm).2 hb.size⟩, h.nd, h.all.keep (KeepT.but hb h.gT) fun f hf b ho => ?_⟩
  obtain ⟨k1, k2, _⟩ := h.all.own f hf b ho
  exact hb.block b (h.low b k1).2 (by omega)
def RS (g : Nat) (s : ByteArray) (r : Bs) (m : Nat) (st : List Fr) (vx : Option (Value × JV)) (w : World) : Prop :=
  ∃ a vst fs T, a ≤ s.size ∧ s.data.toList.drop a = r ∧ RdAt g s a m vst 0 w ∧ Core g T w vst fs st ∧ match vx with
    | none => True
    | some y => ∃ n, JvAt n T w y.1 y.2
def RBad (g : Nat) (s : ByteArray) (er : Int) (w : World) : Prop := er ≠ 0 ∧ ∃ a m vst, RdAt g s a m vst er w
theorem below_but {g : Nat} {w w' : World} (h : But g w w') (hg : g < w.heap.size) : Below g w w' := ⟨h.os, h.tape, h.output, h.size, fun k hk => h.block k (by omega) (by omega)⟩
def Out (g : Nat) (s : ByteArray) (w : World) (x : JP.R) (v : Value) (b : Bool) (w' : World) : Prop :=
  Below g w w' ∧ match x with
    | .bad er => RBad g s er w'
    | .whole y r m st => b = true ∧ RS g s r m st (some (v, y)) w'
    | .more r m st => b = false ∧ RS g s r m st none w'
def OutE (g : Nat) (s : ByteArray) (w : World) (x : JP.R) (e : Ending) (w' : World) : Prop := ∃ v b, e = .returned (.tuple #[v, .bool b]) ∧ Out g s w x v b w'
theorem OwnAt.pop {g n c : Nat} {w : World} {B : Nat} {e : TypeId} {l : List GF} {x : GF} (h : OwnAt RFr 3 w B e (.slice (some ⟨g, 0, none⟩) (n + 1) c) (l ++ [x])) (hn : l.length = n) : OwnAt RFr 3 w B e (.slice (some ⟨g, 0, none⟩) n c) l := by
  obtain ⟨css, h1, h2, h3, h4⟩ := h
  rw [List.length_append, List.length_singleton] at h1
  have hcs : css = css.take n ++ [css[n]'(by omega)] := by
    conv => lhs; rw [← List.take_append_drop n css, List.drop_eq_getElem_cons (by omega), List.drop_eq_nil_of_le (by omega)]
  refine ⟨css.take n, by rw [List.length_take]; omega, fun cs hm => h2 cs (List.mem_of_mem_take hm), ?_, fun j cs y hcs' hy => ?_⟩
  · have hfn : (css.take n).flatten.length = n * 3 := by rw [flat_len (k := 3) fun cs hm => h2 cs (List.mem_of_mem_take hm), List.length_take]; omega
    have hfl : (css.take n).flatten = css.flatten.take (n * 3) := by
      have e := congrArg List.flatten hcs
      rw [List.flatten_append] at e
      rw [e, List.take_left' hfn]
    obtain ⟨g1, g2⟩ := h3
    refine ⟨by rw [hfn, hn], ?_⟩
    rcases g2 with ⟨h5, _⟩ | ⟨q, cap, cur, hv, hB, hh, hlc, hc, hcs2, htk⟩
    · cases h5
    · injection hv with e1 e2 e3
      injection e1 with e1
      injection e1 with e1
      subst e1
      subst e3
      refine .inr ⟨_, _, cur, by rw [hn], hB, hh, by omega, hc, hcs2, ?_⟩
      rw [hfl, ← htk, List.take_take, hn]
      congr 1
      rw [← e2]
      omega
  · have hj : j < n := by have := (List.getElem?_eq_some_iff.1 hy).1; omega
    refine h4 j cs y ?_ (by rw [List.getElem?_append_left (by omega)]; exact hy)
    rw [List.getElem?_take_of_lt hj] at hcs'
    exact hcs'
set_option maxRecDepth 100000 in
set_option maxHeartbeats 3200000 in
theorem close_any (g : Nat) (s : ByteArray) (a m b n c : Nat) (v : Value) (w : World) (h : RdAt g s a m (.slice (some ⟨b, 0, none⟩) (n + 1) c) 0 w) (ha : a < s.size) (hs : s.size ≤ 1048576) (hn : n + 1 ≤ c) (hc : c ≤ maxLen) (hn2 : n ≤ 1048576) :
    Calls Tryz.prog 128 #[.pointer (some ⟨g, 0, none⟩), v] w fun e w' => e = .returned v ∧ RdAt g s (a + 1) m (.slice (some ⟨b, 0, none⟩) n c) 0 w' ∧ But g w w' := by
  have c1 : w.cell? ⟨g, 1, none⟩ = some (.int .i64 (a : Int)) := cell_block h 1
  have hz : w.frozen? ⟨g, 1, none⟩ = false := free_block h 1
  obtain ⟨t1, t2⟩ := touch_setCell (i := 1) (v := .int .i64 ((a : Int) + 1)) h
  obtain ⟨W, hW⟩ : ∃ W, W = w.setCell ⟨g, 1, none⟩ (.int .i64 ((a : Int) + 1)) := ⟨_, rfl⟩
  rw [← hW] at t1 t2
  have hR1 : RdAt g s (a + 1) m (.slice (some ⟨b, 0, none⟩) (n + 1) c) 0 W := RdAt.cast t1 (by omega)
  have k3 : W.cell? ⟨g, 3, none⟩ = some (.slice (some ⟨b, 0, none⟩) (n + 1) c) := cell_block hR1 3
  have z3 : W.frozen? ⟨g, 3, none⟩ = false := free_block hR1 3
  have HR1 := Lib.hid hR1
  have HT := Lib.hid t2
  have q1 : (0 : Int) ≤ ((n + 1 : Nat) : Int) - 1 := by omega
  have q2 : (((n + 1 : Nat) : Int) - 1).toNat = n := by omega
  have q3 : n ≤ c := by omega
  have w1 : IntKind.i64.wrap (((n + 1 : Nat) : Int) - 1) = (n : Int) := by rw [IntWalk.i64_in _ (by omega)]; omega
  have w2 : IntKind.i64.wrap (n : Int) = (n : Int) := IntWalk.i64_in _ (by omega)
  clear h t1 t2 hR1
  go_enter Tryz.func128, Tryz.ntmps128
  go_upto_region 2 with fail
  rw [← hW]
  clear hW c1 hz
  refine wp_region_hold 14 (fun w' => ∃ q, w' = W.drewN q) (by kernel_rfl) (by kernel_rfl) ?_ ?_
  · exact ⟨1, rfl⟩
  simp only [List.take_succ_cons, List.take_zero, List.drop_succ_cons, List.drop_zero]
  (first | (refine wpHold_pure (v := ?_) (by rfl) (fun w => ?_) ?_; rotate_left; focus (first | (go_simp; done) | (go_simp; with_reducible rfl))) | (refine wpHold_skip ?_ ?_; focus (go_simp; done)) | (refine wpHold_pure' (v := ?_) ?_ (fun w => ?_) ?_; rotate_left; focus (go_simp; done); focus (first | (go_simp; done) | (go_simp; with_reducible rfl)))); try simp only [Act.put, List.setIfInBounds_toArray, List.set_cons_zero, List.set_cons_succ]
  (first | (refine wpHold_pure (v := ?_) (by rfl) (fun w => ?_) ?_; rotate_left; focus (first | (go_simp; done) | (go_simp; with_reducible rfl))) | (refine wpHold_skip ?_ ?_; focus (go_simp; done)) | (refine wpHold_pure' (v := ?_) ?_ (fun w => ?_) ?_; rotate_left; focus (go_simp; done); focus (first | (go_simp; done) | (go_simp; with_reducible rfl)))); try simp only [Act.put, List.setIfInBounds_toArray, List.set_cons_zero, List.set_cons_succ]
  (first | (refine wpHold_pure (v := ?_) (by rfl) (fun w => ?_) ?_; rotate_left; focus (first | (go_simp; done) | (go_simp; with_reducible rfl))) | (refine wpHold_skip ?_ ?_; focus (go_simp; done)) | (refine wpHold_pure' (v := ?_) ?_ (fun w => ?_) ?_; rotate_left; focus (go_simp; done); focus (first | (go_simp; done) | (go_simp; with_reducible rfl)))); try simp only [Act.put, List.setIfInBounds_toArray, List.set_cons_zero, List.set_cons_succ]
  (first | (refine wpHold_pure (v := ?_) (by rfl) (fun w => ?_) ?_; rotate_left; focus (first | (go_simp; done) | (go_simp; with_reducible rfl))) | (refine wpHold_skip ?_ ?_; focus (go_simp; done)) | (refine wpHold_pure' (v := ?_) ?_ (fun w => ?_) ?_; rotate_left; focus (go_simp; done); focus (first | (go_simp; done) | (go_simp; with_reducible rfl)))); try simp only [Act.put, List.setIfInBounds_toArray, List.set_cons_zero, List.set_cons_succ]
  refine wpHold_read (v := .slice (some ⟨b, 0, none⟩) (n + 1) c) (by rfl) (fun w' hI => ?_) ?_
  · obtain ⟨q, rfl⟩ := hI
    have dd := (show (W.drewN q).cell? ⟨g, 3, none⟩ = _ from k3)
    go_simp
    done
  try simp only [Act.put, List.setIfInBounds_toArray, List.set_cons_zero, List.set_cons_succ]
  (first | (refine wpHold_pure (v := ?_) (by rfl) (fun w => ?_) ?_; rotate_left; focus (first | (go_simp; done) | (go_simp; with_reducible rfl))) | (refine wpHold_skip ?_ ?_; focus (go_simp; done)) | (refine wpHold_pure' (v := ?_) ?_ (fun w => ?_) ?_; rotate_left; focus (go_simp; done); focus (first | (go_simp; done) | (go_simp; with_reducible rfl)))); try simp only [Act.put, List.setIfInBounds_toArray, List.set_cons_zero, List.set_cons_succ]
  (first | (refine wpHold_pure (v := ?_) (by rfl) (fun w => ?_) ?_; rotate_left; focus (first | (go_simp; done) | (go_simp; with_reducible rfl))) | (refine wpHold_skip ?_ ?_; focus (go_simp; done)) | (refine wpHold_pure' (v := ?_) ?_ (fun w => ?_) ?_; rotate_left; focus (go_simp; done); focus (first | (go_simp; done) | (go_simp; with_reducible rfl)))); try simp only [Act.put, List.setIfInBounds_toArray, List.set_cons_zero, List.set_cons_succ]
  (first | (refine wpHold_pure (v := ?_) (by rfl) (fun w => ?_) ?_; rotate_left; focus (first | (go_simp; done) | (go_simp; with_reducible rfl))) | (refine wpHold_skip ?_ ?_; focus (go_simp; done)) | (refine wpHold_pure' (v := ?_) ?_ (fun w => ?_) ?_; rotate_left; focus (go_simp; done); focus (first | (go_simp; done) | (go_simp; with_reducible rfl)))); try simp only [Act.put, List.setIfInBounds_toArray, List.set_cons_zero, List.set_cons_succ]
  refine wpHold_read (v := .slice (some ⟨b, 0, none⟩) (n + 1) c) (by rfl) (fun w' hI => ?_) ?_
  · obtain ⟨q, rfl⟩ := hI
    have dd := (show (W.drewN q).cell? ⟨g, 3, none⟩ = _ from k3)
    go_simp
    done
  try simp only [Act.put, List.setIfInBounds_toArray, List.set_cons_zero, List.set_cons_succ]
  refine wpHold_pure (v := .int .i64 ((n + 1 : Nat) : Int)) (by rfl) (fun w => ?_) ?_
  · first
      | (go_simp; done)
      | rfl
  try simp only [Act.put, List.setIfInBounds_toArray, List.set_cons_zero, List.set_cons_succ]
  refine wpHold_pure (v := .int .i64 (n : Int)) (by rfl) (fun w => ?_) ?_
  · go_simp
    done
  try simp only [Act.put, List.setIfInBounds_toArray, List.set_cons_zero, List.set_cons_succ]
  refine wpHold_pure (v := .slice (some ⟨b, 0, none⟩) n c) (by rfl) (fun w => ?_) ?_
  · go_simp
    done
  try simp only [Act.put, List.setIfInBounds_toArray, List.set_cons_zero, List.set_cons_succ]
  (first | (refine wpHold_pure (v := ?_) (by rfl) (fun w => ?_) ?_; rotate_left; focus (first | (go_simp; done) | (go_simp; with_reducible rfl))) | (refine wpHold_skip ?_ ?_; focus (go_simp; done)) | (refine wpHold_pure' (v := ?_) ?_ (fun w => ?_) ?_; rotate_left; focus (go_simp; done); focus (first | (go_simp; done) | (go_simp; with_reducible rfl)))); try simp only [Act.put, List.setIfInBounds_toArray, List.set_cons_zero, List.set_cons_succ]
  (first | (refine wpHold_pure (v := ?_) (by rfl) (fun w => ?_) ?_; rotate_left; focus (first | (go_simp; done) | (go_simp; with_reducible rfl))) | (refine wpHold_skip ?_ ?_; focus (go_simp; done)) | (refine wpHold_pure' (v := ?_) ?_ (fun w => ?_) ?_; rotate_left; focus (go_simp; done); focus (first | (go_simp; done) | (go_simp; with_reducible rfl)))); try simp only [Act.put, List.setIfInBounds_toArray, List.set_cons_zero, List.set_cons_succ]
  refine wpHold_nil ?_
  rintro w' ⟨q, rfl⟩
  have y3 : (W.drewN q).cell? ⟨g, 3, none⟩ = some (.slice (some ⟨b, 0, none⟩) (n + 1) c) := k3
  have x3 : (W.drewN q).frozen? ⟨g, 3, none⟩ = false := z3
  try simp only [Act.put, List.setIfInBounds_toArray, List.set_cons_zero, List.set_cons_succ]
  go_wp2_with fail
  go_ret
  obtain ⟨u1, u2⟩ := touch_setCell (w := W.drewN q) (i := 3) (v := .slice (some ⟨b, 0, none⟩) n c) HR1.out
  exact ⟨rfl, u1, ((But.touch HT.out).drew q).trans (But.touch u2)⟩
end Go.Proofs.YtnnceaapodgfbaaGreatDoor
namespace Go.Proofs.YtnnceaapodgfbaaGreatDoor
open Go.RowKit
open JP (JV Bs Fr)
theorem RdAt.lt {g : Nat} {s : ByteArray} {a m : Nat} {vst : Value} {bad : Int} {w : World} (h : RdAt g s a m vst bad w) : g < w.heap.size := blk_lt (show w.heap[g]? = some _ from h)
theorem rbad_of {g : Nat} {s : ByteArray} {a m : Nat} {vst : Value} {er : Int} {w : World} (h : RdAt g s a m vst er w) (h0 : er ≠ 0) : RBad g s er w := ⟨h0, a, m, vst, h⟩
theorem out_bad {g : Nat} {s : ByteArray} {w w' : World} {x : JP.R} {v : Value} {b : Bool} {a m : Nat} {vst : Value} {er : Int} (hx : x = .bad er) (h0 : er ≠ 0) (h : RdAt g s a m vst er w') (hb : Below g w w') : Out g s w x v b w' := by
  subst hx; exact ⟨hb, rbad_of h h0⟩
theorem out_whole {g : Nat} {s : ByteArray} {w w' : World} {x : JP.R} {v : Value} {y : JV} {r : Bs} {m : Nat} {st : List Fr} (hx : x = .whole y r m st) (h : RS g s r m st (some (v, y)) w') (hb : Below g w w') : Out g s w x v true w' := by
  subst hx; exact ⟨hb, rfl, h⟩
theorem out_more {g : Nat} {s : ByteArray} {w w' : World} {x : JP.R} {v : Value} {r : Bs} {m : Nat} {st : List Fr} (hx : x = .more r m st) (h : RS g s r m st none w') (hb : Below g w w') : Out g s w x v false w' := by
  subst hx; exact ⟨hb, rfl, h⟩
theorem rs_whole {g : Nat} {s : ByteArray} {i m : Nat} {vst : Value} {fs : List GF} {T : List Nat} {st : List Fr} {w w' : World} {v : Value} {y : JV} {r : Bs} (hi : i ≤ s.size) (hr : s.data.toList.drop i = r) (h : RdAt g s i m vst 0 w') (hc : Core g T w vst fs st) (hb : But g w w') (hv : JvAt 1 T w' v y) : RS g s r m st (some (v, y)) w' :=
  ⟨i, vst, fs, T, hi, hr, h, hc.but hb, 1, hv⟩
set_option maxRecDepth 100000 in
set_option maxHeartbeats 6400000 in
theorem plain_any (g : Nat) (s : ByteArray) (a m : Nat) (vst : Value) (fs : List GF) (T : List Nat) (st : List Fr) (w : World) (h : RdAt g s a m vst 0 w) (hc : Core g T w vst fs st) (ha : a < s.size) (hs : s.size ≤ 1048576) :
    Calls Tryz.prog 130 #[.pointer (some ⟨g, 0, none⟩), .int .u8 (s[a].toNat : Int)] w fun e w' => ∃ v, e = .returned v ∧ Out g s w (JP.plainP s[a] (s.data.toList.drop a) m st) v true w' := by
  have hgw := h.lt
  have H := Lib.hid h
  have Hc := Lib.hid hc
  have htl : (s.data.toList.drop a).tail = s.data.toList.drop (a + 1) := by rw [drop_at ha]; rfl
  have HE : Hid (JP.plainP s[a] (s.data.toList.drop a) m st = if s[a] = 34 then match JP.textP (s.data.toList.drop (a + 1)) with
      | none => .bad 3
      | some x => .whole (.str x.1) x.2 m st
    else if s[a] = 116 then JP.wordP (.bool true) [116, 114, 117, 101] (s.data.toList.drop a) m st
    else if s[a] = 102 then JP.wordP (.bool false) [102, 97, 108, 115, 101] (s.data.toList.drop a) m st
    else if s[a] = 110 then JP.wordP .nul [110, 117, 108, 108] (s.data.toList.drop a) m st
    else if JP.numE (s.data.toList.drop a) = 0 then .whole (.num (JP.numV (s.data.toList.drop a))) (JP.numR (s.data.toList.drop a)) m st else .bad (JP.numE (s.data.toList.drop a))) := Lib.hid (by unfold JP.plainP; rw [htl]; rfl)
  obtain ⟨X, HX⟩ : ∃ X, Hid (JP.plainP s[a] (s.data.toList.drop a) m st = X) := ⟨_, Lib.hid rfl⟩
  rw [HX.out] at HE ⊢
  have ne : ∀ (c : UInt8), s[a].toNat ≠ c.toNat → s[a] ≠ c := fun c h e => h (by rw [e])
  have Ne := Lib.hid ne
  clear h hc htl ne
  by_cases c34 : s[a].toNat = 34
  · have hq : s[a] = 34 := u8_eq c34
    have HE2 := HE.out
    rw [if_pos hq] at HE2
    have HE3 := Lib.hid HE2
    clear HE2 hq HE
    go_enter Tryz.func130, Tryz.ntmps130
    go_wp2_with fail
    refine (rtext_any g s a m vst w H.out ha hs).mono ?_
    rintro E w1 ⟨hb, (⟨x, hx, rfl, i, hi, hd, hr⟩ | ⟨hx, rfl, i, hi, hr⟩)⟩
    · have Hb := Lib.hid hb
      have Hd := Lib.hid hd
      have Hr := Lib.hid hr
      have HX2 : Hid (X = .whole (.str x.1) x.2 m st) := Lib.hid (by rw [HE3.out, hx])
      clear hb hd hr hx HE3
      go_wp2_with fail
      go_ret
      exact ⟨_, rfl, out_whole HX2.out (rs_whole hi Hd.out Hr.out Hc.out Hb.out rfl) (below_but Hb.out hgw)⟩
    · have Hb := Lib.hid hb
      have Hr := Lib.hid hr
      have HX2 : Hid (X = .bad 3) := Lib.hid (by rw [HE3.out, hx])
      clear hb hr hx HE3
      go_wp2_with fail
      go_ret
      exact ⟨_, rfl, out_bad HX2.out (by decide) Hr.out (below_but Hb.out hgw)⟩
  · have n34 : ((s[a].toNat : Int) == 34) = false := by rw [beq_eq_false_iff_ne]; omega
    have HE1 : Hid _ := Lib.hid (HE.out.trans (if_neg (Ne.out 34 c34)))
    clear HE
    by_cases c116 : s[a].toNat = 116
    · have hq : s[a] = 116 := u8_eq c116
      have HE2 := Lib.hid (HE1.out.trans (if_pos hq))
      clear hq HE1
      go_enter Tryz.func130, Tryz.ntmps130
      go_wp2_with fail
      refine (word_any g s a m vst ⟨#[116, 114, 117, 101]⟩ w H.out (by omega) hs).mono ?_
      rintro E w1 ⟨rfl, hb, (⟨hx, i, hi, hd, hr⟩ | ⟨hx, i, hr⟩)⟩
      · have Hb := Lib.hid hb
        have Hd := Lib.hid hd
        have Hr := Lib.hid hr
        have HX2 : Hid (X = .whole (.bool true) ((s.data.toList.drop a).drop 4) m st) := Lib.hid (by rw [HE2.out]; unfold JP.wordP; rw [if_pos hx]; rfl)
        clear hb hd hr hx HE2
        go_wp2_with fail
        go_ret
        exact ⟨_, rfl, out_whole HX2.out (rs_whole hi Hd.out Hr.out Hc.out Hb.out rfl) (below_but Hb.out hgw)⟩
      · have Hb := Lib.hid hb
        have Hr := Lib.hid hr
        have HX2 : Hid (X = .bad 3) := Lib.hid (by rw [HE2.out]; unfold JP.wordP; rw [if_neg (by rw [show ([116, 114, 117, 101] : Bs).isPrefixOf (s.data.toList.drop a) = false from hx]; simp)])
        clear hb hr hx HE2
        go_wp2_with fail
        go_ret
        exact ⟨_, rfl, out_bad HX2.out (by decide) Hr.out (below_but Hb.out hgw)⟩
    · have n116 : ((s[a].toNat : Int) == 116) = false := by rw [beq_eq_false_iff_ne]; omega
      have HE3 := Lib.hid (HE1.out.trans (if_neg (Ne.out 116 c116)))
      clear HE1
      by_cases c102 : s[a].toNat = 102
      · have hq : s[a] = 102 := u8_eq c102
        have HE2 := Lib.hid (HE3.out.trans (if_pos hq))
        clear hq HE3
        go_enter Tryz.func130, Tryz.ntmps130
        go_wp2_with fail
        refine (word_any g s a m vst ⟨#[102, 97, 108, 115, 101]⟩ w H.out (by omega) hs).mono ?_
        rintro E w1 ⟨rfl, hb, (⟨hx, i, hi, hd, hr⟩ | ⟨hx, i, hr⟩)⟩
        · have Hb := Lib.hid hb
          have Hd := Lib.hid hd
          have Hr := Lib.hid hr
          have HX2 : Hid (X = .whole (.bool false) ((s.data.toList.drop a).drop 5) m st) := Lib.hid (by rw [HE2.out]; unfold JP.wordP; rw [if_pos hx]; rfl)
          clear hb hd hr hx HE2
          go_wp2_with fail
          go_ret
          exact ⟨_, rfl, out_whole HX2.out (rs_whole hi Hd.out Hr.out Hc.out Hb.out rfl) (below_but Hb.out hgw)⟩
        · have Hb := Lib.hid hb
          have Hr := Lib.hid hr
          have HX2 : Hid (X = .bad 3) := Lib.hid (by rw [HE2.out]; unfold JP.wordP; rw [if_neg (by rw [show ([102, 97, 108, 115, 101] : Bs).isPrefixOf (s.data.toList.drop a) = false from hx]; simp)])
          clear hb hr hx HE2
          go_wp2_with fail
          go_ret
          exact ⟨_, rfl, out_bad HX2.out (by decide) Hr.out (below_but Hb.out hgw)⟩
      · have n102 : ((s[a].toNat : Int) == 102) = false := by rw [beq_eq_false_iff_ne]; omega
        have HE4 := Lib.hid (HE3.out.trans (if_neg (Ne.out 102 c102)))
        clear HE3
        by_cases c110 : s[a].toNat = 110
        · have hq : s[a] = 110 := u8_eq c110
          have HE2 := Lib.hid (HE4.out.trans (if_pos hq))
          clear hq HE4
          go_enter Tryz.func130, Tryz.ntmps130
          go_wp2_with fail
          refine (word_any g s a m vst ⟨#[110, 117, 108, 108]⟩ w H.out (by omega) hs).mono ?_
          rintro E w1 ⟨rfl, hb, (⟨hx, i, hi, hd, hr⟩ | ⟨hx, i, hr⟩)⟩
          · have Hb := Lib.hid hb
            have Hd := Lib.hid hd
            have Hr := Lib.hid hr
            have HX2 : Hid (X = .whole (.nul) ((s.data.toList.drop a).drop 4) m st) := Lib.hid (by rw [HE2.out]; unfold JP.wordP; rw [if_pos hx]; rfl)
            clear hb hd hr hx HE2
            go_wp2_with fail
            go_ret
            exact ⟨_, rfl, out_whole HX2.out (rs_whole hi Hd.out Hr.out Hc.out Hb.out rfl) (below_but Hb.out hgw)⟩
          · have Hb := Lib.hid hb
            have Hr := Lib.hid hr
            have HX2 : Hid (X = .bad 3) := Lib.hid (by rw [HE2.out]; unfold JP.wordP; rw [if_neg (by rw [show ([110, 117, 108, 108] : Bs).isPrefixOf (s.data.toList.drop a) = false from hx]; simp)])
            clear hb hr hx HE2
            go_wp2_with fail
            go_ret
            exact ⟨_, rfl, out_bad HX2.out (by decide) Hr.out (below_but Hb.out hgw)⟩
        · have n110 : ((s[a].toNat : Int) == 110) = false := by rw [beq_eq_false_iff_ne]; omega
          have HE5 := Lib.hid (HE4.out.trans (if_neg (Ne.out 110 c110)))
          clear HE4
          clear c34 c116 c102 c110
          go_enter Tryz.func130, Tryz.ntmps130
          go_wp2_with fail
          refine (number_any g s a m vst w H.out ha hs).mono ?_
          rintro E w1 ⟨hb, (⟨hx, rfl, i, hi, hd, hr⟩ | ⟨hx, rfl, i, hr⟩)⟩
          · have Hb := Lib.hid hb
            have Hd := Lib.hid hd
            have Hr := Lib.hid hr
            have HX2 := Lib.hid (HE5.out.trans (if_pos hx))
            have hok := (JP.num_good hx).1
            have HV := Lib.hid (show -9223372036854775808 ≤ JP.numV (s.data.toList.drop a) ∧ JP.numV (s.data.toList.drop a) ≤ 9223372036854775807 from by unfold JP.numOK at hok; omega)
            clear hb hd hr hx HE5 hok
            go_wp2_with fail
            go_ret
            exact ⟨_, rfl, out_whole HX2.out (rs_whole hi Hd.out Hr.out Hc.out Hb.out ⟨rfl, HV.out⟩) (below_but Hb.out hgw)⟩
          · have Hb := Lib.hid hb
            have Hr := Lib.hid hr
            have Hx := Lib.hid hx
            have HX2 := Lib.hid (HE5.out.trans (if_neg hx))
            clear hb hr hx HE5
            go_wp2_with fail
            go_ret
            exact ⟨_, rfl, out_bad HX2.out Hx.out Hr.out (below_but Hb.out hgw)⟩
end Go.Proofs.YtnnceaapodgfbaaGreatDoor
namespace Go.Proofs.YtnnceaapodgfbaaGreatDoor
open Go.RowKit
open JP (JV Bs Fr)
theorem fr_block {w : World} {B sb n c : Nat} {e : TypeId} {L : List GF} (h : OwnAt RFr 3 w B e (.slice (some ⟨sb, 0, none⟩) n c) L) : B ≤ sb ∧ n = L.length ∧ L.length ≤ c ∧ c ≤ maxLen ∧ ∃ cur : Array Value, w.heap[sb]? = some (.cells cur e (0, 0)) ∧ cur.size = c * 3 ∧
    (∀ (j : Nat) (x : GF), L[j]? = some x → cur[j * 3]? = some x.lv ∧ cur[j * 3 + 1]? = some x.pv ∧ cur[j * 3 + 2]? = some (.string x.nm)) ∧ ∀ x ∈ L, x.lv.oneCell' = true ∧ x.pv.oneCell' = true := by
  obtain ⟨css, h1, h2, h3, h4⟩ := h
  obtain ⟨g1, g2⟩ := h3
  rcases g2 with ⟨h5, _⟩ | ⟨q, cap, cur, hv, hB, hh, hlc, hc, hcs, htk⟩
  · cases h5
  · injection hv with e1 e2 e3
    injection e1 with e1
    injection e1 with e1
    subst e1
    subst e3
    refine ⟨hB, e2, hlc, hc, cur, hh, hcs, fun j x hx => ?_, fun x hx => ?_⟩
    · have hj : j < L.length := (List.getElem?_eq_some_iff.1 hx).1
      have hcj : css[j]? = some css[j] := List.getElem?_eq_getElem (by omega)
      obtain ⟨k1, _, _⟩ := h4 j css[j] x hcj hx
      have get : ∀ (i : Nat) (u : Value), css[j][i]? = some u → cur[j * 3 + i]? = some u := fun i u hu => by
        have hi : i < 3 := by have := (List.getElem?_eq_some_iff.1 hu).1; rw [k1] at this; simpa using this
        have h9 := get_flat h2 hcj hu
        rw [← htk, List.getElem?_take_of_lt (by omega), Array.getElem?_toList] at h9
        exact h9
      exact ⟨get 0 _ (by rw [k1]; rfl), get 1 _ (by rw [k1]; rfl), get 2 _ (by rw [k1]; rfl)⟩
    · obtain ⟨j, hj⟩ := List.getElem?_of_mem hx
      have hjl : j < L.length := (List.getElem?_eq_some_iff.1 hj).1
      have hcj : css[j]? = some css[j] := List.getElem?_eq_getElem (by omega)
      exact (h4 j css[j] x hcj hj).2
def frCells (L : List GF) : List (List Value) := L.map fun x => [x.lv, x.pv, .string x.nm]
theorem fr_of_block {w : World} {B sb c : Nat} {e : TypeId} {L : List GF} {cur : Array Value} (hh : w.heap[sb]? = some (.cells cur e (0, 0))) (hB : B ≤ sb) (hlc : L.length ≤ c) (hc : c ≤ maxLen) (hcs : cur.size = c * 3)
    (hcell : ∀ (j : Nat) (x : GF), L[j]? = some x → cur[j * 3]? = some x.lv ∧ cur[j * 3 + 1]? = some x.pv ∧ cur[j * 3 + 2]? = some (.string x.nm)) (ho : ∀ x ∈ L, x.lv.oneCell' = true ∧ x.pv.oneCell' = true) :
    OwnAt RFr 3 w B e (.slice (some ⟨sb, 0, none⟩) L.length c) L := by
  have h3 : ∀ cs ∈ frCells L, cs.length = 3 := fun cs hm => by
    obtain ⟨x, _, rfl⟩ := List.mem_map.1 hm; rfl
  have hfl : (frCells L).flatten.length = L.length * 3 := by rw [flat_len h3]; unfold frCells; rw [List.length_map]
  refine ⟨frCells L, by unfold frCells; rw [List.length_map], h3, ⟨hfl, .inr ⟨sb, c, cur, rfl, hB, hh, hlc, hc, hcs, ?_⟩⟩, fun j cs x hcs' hx => ?_⟩
  · apply List.ext_getElem?
    intro m
    by_cases hm : m < L.length * 3
    · rw [List.getElem?_take_of_lt hm, Array.getElem?_toList]
      have hj : m / 3 < L.length := by omega
      have hx : L[m / 3]? = some L[m / 3] := List.getElem?_eq_getElem hj
      obtain ⟨k0, k1, k2⟩ := hcell (m / 3) _ hx
      have hcj : (frCells L)[m / 3]? = some [L[m / 3].lv, L[m / 3].pv, .string L[m / 3].nm] := by unfold frCells; rw [List.getElem?_map, hx]; rfl
      have way : m % 3 = 0 ∨ m % 3 = 1 ∨ m % 3 = 2 := by omega
      have hmm : m = m / 3 * 3 + m % 3 := by omega
      rcases way with h | h | h
      · have := get_flat h3 hcj (i := 0) (u := L[m / 3].lv) rfl
        rw [h] at hmm
        rw [hmm, show (m / 3 * 3 + 0) / 3 = m / 3 by omega] at *
        rw [this]; exact k0
      · have := get_flat h3 hcj (i := 1) (u := L[m / 3].pv) rfl
        rw [h] at hmm
        rw [hmm, show (m / 3 * 3 + 1) / 3 = m / 3 by omega] at *
        rw [this]; exact k1
      · have := get_flat h3 hcj (i := 2) (u := .string L[m / 3].nm) rfl
        rw [h] at hmm
        rw [hmm, show (m / 3 * 3 + 2) / 3 = m / 3 by omega] at *
        rw [this]; exact k2
    · rw [List.getElem?_eq_none (by rw [List.length_take]; omega), List.getElem?_eq_none (by omega)]
  · unfold frCells at hcs'
    rw [List.getElem?_map, hx] at hcs'
    cases hcs'
    exact ⟨rfl, ho x (List.mem_of_getElem? hx)⟩
structure Top (g : Nat) (w : World) (vst : Value) (f : GF) (n sb c : Nat) (cur : Array Value) : Prop where
  v : vst = .slice (some ⟨sb, 0, none⟩) (n + 1) c
  low : g + 1 ≤ sb
  room : n + 1 ≤ c
  most : c ≤ maxLen
  at_ : w.heap[sb]? = some (.cells cur 223 (0, 0))
  size : cur.size = c * 3
  lv : cur[n * 3]? = some f.lv
  pv : cur[n * 3 + 1]? = some f.pv
  nm : cur[n * 3 + 2]? = some (.string f.nm)
theorem Core.top {g : Nat} {T : List Nat} {w : World} {vst : Value} {f : GF} {fs : List GF} {st : List Fr} (h : Core g T w vst (f :: fs) st) : ∃ sb c cur, Top g w vst f fs.length sb c cur := by
  have hr := h.row
  rw [List.reverse_cons] at hr
  rcases hr.form with ⟨_, h0⟩ | ⟨sb, c, hv, _⟩
  · simp at h0
  · rw [hv] at hr
    rw [List.length_append, List.length_singleton, List.length_reverse] at hv hr
    obtain ⟨k1, _, k3, k4, cur, k5, k6, k7, _⟩ := fr_block hr
    rw [List.length_append, List.length_singleton, List.length_reverse] at k3
    obtain ⟨m0, m1, m2⟩ := k7 fs.length f (by rw [List.getElem?_append_right (by rw [List.length_reverse]; exact Nat.le_refl _), List.length_reverse, Nat.sub_self]; rfl)
    exact ⟨sb, c, cur, hv, k1, k3, k4, k5, k6, m0, m1, m2⟩
theorem Core.ones {g : Nat} {T : List Nat} {w : World} {vst : Value} {f : GF} {fs : List GF} {st : List Fr} (h : Core g T w vst (f :: fs) st) : f.lv.oneCell' = true ∧ f.pv.oneCell' = true := by
  have hr := h.row
  rw [List.reverse_cons] at hr
  rcases hr.form with ⟨_, h0⟩ | ⟨sb, c, hv, _⟩
  · simp at h0
  · rw [hv] at hr
    obtain ⟨_, _, _, _, cur, _, _, _, k⟩ := fr_block hr
    exact k f (by simp)
theorem row_top {g : Nat} {T : List Nat} {w w' : World} {vst : Value} {f f' : GF} {fs : List GF} {st : List Fr} {sb c : Nat} {cur : Array Value} (h : Core g T w vst (f :: fs) st) (t : Top g w vst f fs.length sb c cur) {k : Nat} {u : Value} (hk : k < 3)
    (hh : w'.heap[sb]? = some (.cells (cur.setIfInBounds (fs.length * 3 + k) u) 223 (0, 0)))
    (h0 : (if k = 0 then u else f.lv) = f'.lv) (h1 : (if k = 1 then u else f.pv) = f'.pv) (h2 : (if k = 2 then u else .string f.nm) = .string f'.nm) (ho : f'.lv.oneCell' = true ∧ f'.pv.oneCell' = true) :
    OwnAt RFr 3 w' (g + 1) 223 vst (f' :: fs).reverse := by
  have hr := h.row
  rw [List.reverse_cons] at hr ⊢
  obtain ⟨hv, tl, tr, tm, ta, ts, t0, t1, t2⟩ := t
  rw [hv] at hr ⊢
  obtain ⟨k1, _, k3, k4, cur2, k5, k6, k7, k8⟩ := fr_block hr
  rw [ta] at k5
  cases k5
  have hl : (fs.reverse ++ [f']).length = fs.length + 1 := by simp
  rw [← hl]
  refine fr_of_block hh tl (by rw [hl]; exact tr) tm (by rw [Array.size_setIfInBounds, ts]) (fun j x hx => ?_) (fun x hx => ?_)
  · have hjl := (List.getElem?_eq_some_iff.1 hx).1
    rw [hl] at hjl
    by_cases hj : j < fs.length
    · rw [List.getElem?_append_left (by rw [List.length_reverse]; exact hj)] at hx
      obtain ⟨m0, m1, m2⟩ := k7 j x (by rw [List.getElem?_append_left (by rw [List.length_reverse]; exact hj)]; exact hx)
      rw [Array.getElem?_setIfInBounds_ne (by omega), Array.getElem?_setIfInBounds_ne (by omega), Array.getElem?_setIfInBounds_ne (by omega)]
      exact ⟨m0, m1, m2⟩
    · obtain rfl : j = fs.length := by omega
      rw [List.getElem?_append_right (by rw [List.length_reverse]; exact Nat.le_refl _), List.length_reverse, Nat.sub_self] at hx
      simp only [List.getElem?_cons_zero, Option.some.injEq] at hx
      subst hx
      have hin : fs.length * 3 + k < cur.size := by rw [ts]; omega
      refine ⟨?_, ?_, ?_⟩
      · rw [← h0]
        by_cases hk0 : k = 0
        · subst hk0; rw [if_pos rfl, Nat.add_zero, Array.getElem?_setIfInBounds_self_of_lt (by omega)]
        · rw [if_neg hk0, Array.getElem?_setIfInBounds_ne (by omega)]; exact t0
      · rw [← h1]
        by_cases hk0 : k = 1
        · subst hk0; rw [if_pos rfl, Array.getElem?_setIfInBounds_self_of_lt hin]
        · rw [if_neg hk0, Array.getElem?_setIfInBounds_ne (by omega)]; exact t1
      · rw [← h2]
        by_cases hk0 : k = 2
        · subst hk0; rw [if_pos rfl, Array.getElem?_setIfInBounds_self_of_lt hin]
        · rw [if_neg hk0, Array.getElem?_setIfInBounds_ne (by omega)]; exact t2
  · rcases List.mem_append.1 hx with hx | hx
    · exact k8 x (List.mem_append_left _ hx)
    · rw [List.mem_singleton.1 hx]; exact ho
end Go.Proofs.YtnnceaapodgfbaaGreatDoor
namespace Go.Proofs.YtnnceaapodgfbaaGreatDoor
open Go.RowKit
open JP (JV Bs Fr)
theorem lbs_tail {f : GF} {fs : List GF} (h : (lbs (f :: fs)).Nodup) : (lbs fs).Nodup := by
  unfold lbs at h ⊢
  rw [List.filterMap_cons] at h
  split at h
  · exact h
  · exact (List.nodup_cons.1 h).2
theorem lbs_cons {f : GF} {fs : List GF} (h : (lbs fs).Nodup) (hl : ∀ b, f.lv.ownBlock = some b → b ∉ lbs fs) : (lbs (f :: fs)).Nodup := by
  unfold lbs at h hl ⊢
  rw [List.filterMap_cons]
  split
  · exact h
  · rename_i b hb
    exact List.nodup_cons.2 ⟨hl b hb, h⟩
theorem lbs_head {f : GF} {fs : List GF} (h : (lbs (f :: fs)).Nodup) {b : Nat} (hb : f.lv.ownBlock = some b) : b ∉ lbs fs := by
  unfold lbs at h ⊢
  rw [List.filterMap_cons, hb] at h
  exact (List.nodup_cons.1 h).1
theorem KeepT.touch {T : List Nat} {g : Nat} {w w' : World} (h : Touch g w w') (hg : g ∈ T) : KeepT T w w' := KeepT.but (But.touch h) hg
theorem core_turn {g : Nat} {T : List Nat} {w w' : World} {vst : Value} {f f' : GF} {fs : List GF} {fr fr' : Fr} {st : List Fr} {sb c : Nat} {cur : Array Value} (h : Core g T w vst (f :: fs) (fr :: st)) (t : Top g w vst f fs.length sb c cur) {k : Nat} {u : Value} (hk : k < 3)
    (hh : w'.heap[sb]? = some (.cells (cur.setIfInBounds (fs.length * 3 + k) u) 223 (0, 0))) (ht : Touch sb w w')
    (h0 : (if k = 0 then u else f.lv) = f'.lv) (h1 : (if k = 1 then u else f.pv) = f'.pv) (h2 : (if k = 2 then u else .string f.nm) = .string f'.nm) (ho : f'.lv.oneCell' = true ∧ f'.pv.oneCell' = true)
    (hl : ∀ b, f'.lv.ownBlock = some b → b ∉ lbs fs) (hfr : FrAt (g + 1) T w' f' fr') : Core g T w' vst (f' :: fs) (fr' :: st) := by
  have hsT : sb ∈ T := h.vT sb (by rw [t.v]; rfl)
  refine ⟨row_top h t hk hh h0 h1 h2 ho, h.gT, h.vT, fun b hm => by rw [ht.size]; exact h.low b hm, lbs_cons (lbs_tail h.nd) hl, hfr, AllFr.keep (KeepT.touch ht hsT) h.all.2 fun f hf b hb => ht.other b fun e => ?_⟩
  obtain ⟨_, _, cur', hc⟩ := AllFr.own h.all.2 f hf b hb
  rw [e, t.at_] at hc
  injection hc with hc
  injection hc with _ hc
  exact absurd hc (by decide)
end Go.Proofs.YtnnceaapodgfbaaGreatDoor
namespace Go.Proofs.YtnnceaapodgfbaaGreatDoor
open Go.RowKit
open JP (JV Bs Fr)
def FieldAt (g : Nat) (s : ByteArray) (w : World) (x : JP.R) (e : Ending) (w' : World) : Prop := e = .returned (.tuple #[]) ∧ Below g w w' ∧ match x with
  | .bad er => RBad g s er w'
  | .more r m st => RS g s r m st none w'
  | .whole _ _ _ _ => False
theorem field_bad {g : Nat} {s : ByteArray} {w w' : World} {x : JP.R} {a m : Nat} {vst : Value} {er : Int} (hx : x = .bad er) (h0 : er ≠ 0) (h : RdAt g s a m vst er w') (hb : Below g w w') : FieldAt g s w x (.returned (.tuple #[])) w' := by
  subst hx; exact ⟨rfl, hb, rbad_of h h0⟩
theorem field_more {g : Nat} {s : ByteArray} {w w' : World} {x : JP.R} {r : Bs} {m : Nat} {st : List Fr} (hx : x = .more r m st) (h : RS g s r m st none w') (hb : Below g w w') : FieldAt g s w x (.returned (.tuple #[])) w' := by
  subst hx; exact ⟨rfl, hb, h⟩
theorem fieldP_no {r : Bs} {m : Nat} {d : List (Bs × JV)} {st : List Fr} (h : hdN (JP.skip r) ≠ 34) : JP.fieldP r m d st = .bad 3 := by
  unfold JP.fieldP
  cases hs : JP.skip r with
  | nil => rfl
  | cons c t =>
    rw [hs] at h
    dsimp only
    rw [if_neg (fun e => h (by rw [e]; rfl))]
theorem fieldP_yes {r t : Bs} {m : Nat} {d : List (Bs × JV)} {st : List Fr} (h : JP.skip r = 34 :: t) : JP.fieldP r m d st = match JP.textP t with
      | none => .bad 3
      | some x => JP.fieldN r m d st x.1 x.2 := by
  unfold JP.fieldP
  rw [h]
  dsimp only
  rw [if_pos rfl]
  cases JP.textP t <;> rfl
theorem hd_zero {l : Bs} {c : UInt8} (hc : c ≠ 0) (h : hdN l = (c.toNat : Int)) : ∃ t, l = c :: t := by
  cases l with
  | nil =>
    have h9 : (0 : Int) = (c.toNat : Int) := h
    exact absurd (UInt8.toNat_inj.1 (show c.toNat = (0 : UInt8).toNat from by have : (0 : UInt8).toNat = 0 := rfl; omega)) hc
  | cons x t =>
    have h9 : (x.toNat : Int) = (c.toNat : Int) := h
    exact ⟨t, by rw [u8_eq (a := x) (b := c) (by omega)]⟩
theorem fieldN_more {r t t' n : Bs} {m : Nat} {d : List (Bs × JV)} {st : List Fr} (h : (JP.get n d).isSome = false) (h2 : JP.skip t = 58 :: t') : JP.fieldN r m d st n t = .more t' m (.ob d n :: st) := by
  unfold JP.fieldN
  rw [if_neg (by rw [h]; decide), h2]
  dsimp only
  rw [if_pos rfl]
theorem fieldN_bad {r t n : Bs} {m : Nat} {d : List (Bs × JV)} {st : List Fr} (h : (JP.get n d).isSome = false) (h2 : hdN (JP.skip t) ≠ 58) : JP.fieldN r m d st n t = .bad 3 := by
  unfold JP.fieldN
  rw [if_neg (by rw [h]; decide)]
  cases hs : JP.skip t with
  | nil => rfl
  | cons c q =>
    rw [hs] at h2
    dsimp only
    rw [if_neg (fun e => h2 (by rw [e]; rfl))]
theorem drop_in {s : ByteArray} {i : Nat} {c : UInt8} {t : Bs} (h : s.data.toList.drop i = c :: t) : i < s.size ∧ s.data.toList.drop (i + 1) = t := by
  have hil : i < s.size := by
    rcases Nat.lt_or_ge i s.size with h1 | h1
    · exact h1
    · rw [drop_end h1] at h; cases h
  rw [drop_at hil] at h
  exact ⟨hil, (List.cons.inj h).2⟩
set_option maxRecDepth 100000 in
set_option maxHeartbeats 12800000 in
theorem field_any (g : Nat) (s : ByteArray) (a m : Nat) (vst : Value) (f : GF) (fs : List GF) (T : List Nat) (d : List (Bs × JV)) (nm0 : Bs) (st : List Fr) (w : World) (h : RdAt g s a m vst 0 w) (hc : Core g T w vst (f :: fs) (.ob d nm0 :: st)) (ha : a ≤ s.size) (hs : s.size ≤ 1048576) (hd : d.length ≤ 1048576) (hfl : fs.length ≤ 1048576) :
    Calls Tryz.prog 129 #[.pointer (some ⟨g, 0, none⟩)] w (FieldAt g s w (JP.fieldP (s.data.toList.drop a) m d st)) := by
  have hgw := h.lt
  have H := Lib.hid h
  have Hc := Lib.hid hc
  obtain ⟨X, HX⟩ : ∃ X, Hid (JP.fieldP (s.data.toList.drop a) m d st = X) := ⟨_, Lib.hid rfl⟩
  rw [HX.out]
  clear h hc
  obtain ⟨z, hz⟩ : ∃ z, hdN (JP.skip (s.data.toList.drop a)) = z := ⟨_, rfl⟩
  have HN := Lib.hid (next_any g s a m vst 0 w H.out ha hs)
  rw [hz] at HN
  have Hz := Lib.hid hz
  clear hz
  go_enter Tryz.func129, Tryz.ntmps129
  go_wp2_with fail
  refine HN.out.mono ?_
  rintro E w1 ⟨rfl, ⟨i, hi, hdi, hr⟩, hb⟩
  have Hr1 := Lib.hid hr
  have Hb1 := Lib.hid hb
  have Hdi := Lib.hid hdi
  have Hc1 := Lib.hid (Hc.out.but hb)
  clear hr hb hdi
  by_cases h34 : z = 34
  · subst h34
    obtain ⟨t, ht⟩ := hd_zero (c := 34) (by decide) Hz.out
    have hil : i < s.size := by
      rcases Nat.lt_or_ge i s.size with h | h
      · exact h
      · have := Hdi.out; rw [ht, drop_end h] at this; cases this
    have hdt : s.data.toList.drop (i + 1) = t := by
      have := Hdi.out
      rw [ht, drop_at hil] at this
      exact (List.cons.inj this).2
    have HX2 : Hid (X = match JP.textP (s.data.toList.drop (i + 1)) with
      | none => .bad 3
      | some x => JP.fieldN (s.data.toList.drop a) m d st x.1 x.2) := Lib.hid (by rw [← HX.out, fieldP_yes ht, hdt])
    clear ht hdt HN
    go_wp2_with fail
    refine (rtext_any g s i m vst w1 Hr1.out hil hs).mono ?_
    intro E w2 htx
    have hb2 := htx.1
    have hcore := Hc1.out.but hb2
    obtain ⟨sb, c, cur, htop⟩ := hcore.top
    obtain ⟨hlv, hpv, hfr, hrest⟩ : f.lv = .slice none 0 0 ∧ f.nm = mkB nm0 ∧ (∃ n q, f.pv = .pointer (some ⟨q, 0, none⟩) ∧ ObR (JvR n T) T w2 q d) ∧ AllFr (g + 1) T w2 fs st := by
      have h1 := hcore.all
      obtain ⟨⟨k1, k2, n, q, k3, k4⟩, k5⟩ := h1
      exact ⟨k1, k2, ⟨n, q, k3, k4⟩, k5⟩
    obtain ⟨nn, q, hpq, hob⟩ := hfr
    obtain ⟨tv, tl, tr, tm, ta, ts, t0, t1, t2⟩ := htop
    rw [hpq] at t1
    have Hcore := Lib.hid hcore
    have Htop : Hid (Top g w2 vst f fs.length sb c cur) := Lib.hid ⟨tv, tl, tr, tm, ta, ts, t0, by rw [hpq]; exact t1, t2⟩
    have Hob := Lib.hid hob
    have Hb2 := Lib.hid (Hb1.out.trans hb2)
    have Hrest := Lib.hid hrest
    have Hlv := Lib.hid hlv
    have Hpq := Lib.hid hpq
    obtain ⟨n, hn⟩ : ∃ n, fs.length = n := ⟨_, rfl⟩
    have Hn := Lib.hid hn
    rw [hn] at tv tr t0 t1 t2 hfl
    have hsb : sb < w2.heap.size := blk_lt ta
    have y1 : w2.cell? ⟨sb, n * 3 + 1, none⟩ = some (.pointer (some ⟨q, 0, none⟩)) := (cell_block ta _).trans t1
    have y2 : w2.cell? ⟨sb, n * 3 + 2, none⟩ = some (.string f.nm) := (cell_block ta _).trans t2
    have Y2 := Lib.hid y2
    have hsg : sb ≠ g := by omega
    have hgs : g ≤ sb := by omega
    have q1 : (0 : Int) ≤ ((n + 1 : Nat) : Int) - 1 := by omega
    have q2 : (((n + 1 : Nat) : Int) - 1).toNat = n := by omega
    have q3 : ((n + 1 : Nat) : Int) - 1 < ((n + 1 : Nat) : Int) := by omega
    have v1 : IntKind.i64.wrap (((n + 1 : Nat) : Int) - 1) = (n : Int) := by rw [IntWalk.i64_in _ (by omega)]; omega
    have v2 : IntKind.i64.wrap (n : Int) = (n : Int) := IntWalk.i64_in _ (by omega)
    have q4 : (n : Int) < (n : Int) + 1 := by omega
    have q5 : (0 : Int) ≤ (n : Int) := by omega
    have Ta := Lib.hid ta
    subst tv
    clear hb2 hcore hob hrest hlv hpq hpv ta ts t0 t1 t2 tl hn y2
    rcases htx with ⟨_, (⟨x, hx, rfl, i2, hi2, hd2, hr2⟩ | ⟨hx, rfl, i2, hi2, hr2⟩)⟩
    · have HX3 : Hid (X = JP.fieldN (s.data.toList.drop a) m d st x.1 x.2) := Lib.hid (by rw [HX2.out, hx])
      have k3 : w2.cell? ⟨g, 3, none⟩ = some (.slice (some ⟨sb, 0, none⟩) (n + 1) c) := cell_block hr2 3
      have k1 : w2.cell? ⟨g, 1, none⟩ = some (.int .i64 (i2 : Int)) := cell_block hr2 1
      have Hr2 := Lib.hid hr2
      have Hd2 := Lib.hid hd2
      have HG := Lib.hid (fun w' (hk : ∃ j, w' = w2.drewN j) => get_any (x := x.1) (w := w') (by obtain ⟨j, rfl⟩ := hk; exact Hob.out.keepJ (KeepT.drewN w2 j)) hd)
      clear hx hr2 hd2 HX2
      go_wp2_with fail
      go_quiet (fail)
      go_wp2_with fail
      refine (HG.out _ ⟨_, rfl⟩).mono ?_
      rintro E w3 ⟨vg, rfl, _, _, k, rfl⟩
      obtain ⟨hs9, HS9⟩ : ∃ b, Hid ((JP.get x.1 d).isSome = b) := ⟨_, Lib.hid rfl⟩
      rw [HS9.out]
      cases hs9 with
      | true =>
        have HX4 : Hid (X = .bad 5) := Lib.hid (by rw [HX3.out]; unfold JP.fieldN; rw [if_pos HS9.out])
        clear HX3 HG
        go_wp2_with fail
        refine (fail_any g s i2 m (.slice (some ⟨sb, 0, none⟩) (n + 1) c) 0 5 _ (Hr2.out.drew _)).mono ?_
        rintro E w4 ⟨rfl, hr, hbt⟩
        have hr' : RdAt g s i2 m (.slice (some ⟨sb, 0, none⟩) (n + 1) c) 5 w4 := hr
        have hbt' : But g w2 w4 := ((But.refl g w2).drew _).trans hbt
        have k1 : w4.cell? ⟨g, 1, none⟩ = some (.int .i64 (i2 : Int)) := cell_block hr' 1
        have z1 : w4.frozen? ⟨g, 1, none⟩ = false := free_block hr' 1
        have k4 : w4.cell? ⟨g, 4, none⟩ = some (.int .i64 5) := cell_block hr' 4
        have HRx := Lib.hid hr'
        have HTa := Lib.hid (hbt'.keep Ta.out hsg)
        have HY2 : Hid (w4.cell? ⟨sb, n * 3 + 2, none⟩ = some (.string f.nm)) := Lib.hid ((hbt'.cell (p := ⟨sb, _, none⟩) hsb hsg).trans Y2.out)
        have HB4 := Lib.hid (Hb2.out.trans hbt')
        clear hr hr' hbt hbt' y1
        go_upto_region 10 with fail
        generalize hW : World.setCell _ ⟨g, 1, none⟩ _ = W
        have hRW : RdAt g s (i2 + 1) m (.slice (some ⟨sb, 0, none⟩) (n + 1) c) 5 W := by rw [← hW]; exact RdAt.cast (touch_setCell (w := w4) (i := 1) (v := .int .i64 ((i2 : Int) + 1)) HRx.out).1 (by omega)
        have hBW : But g w4 W := by rw [← hW]; exact But.touch (touch_setCell (w := w4) (i := 1) (v := .int .i64 ((i2 : Int) + 1)) HRx.out).2
        have hTW := hBW.keep HTa.out hsg
        have y2 : W.cell? ⟨sb, n * 3 + 2, none⟩ = some (.string f.nm) := (cell_block hTW _).trans ((cell_block HTa.out _).symm.trans HY2.out)
        have z2 : W.frozen? ⟨sb, n * 3 + 2, none⟩ = false := free_block hTW _
        have HRW := Lib.hid hRW
        have HBW := Lib.hid hBW
        have HTW := Lib.hid hTW
        clear hW hRW hBW hTW
        go_wp2_with fail
        go_end0
        exact field_bad HX4.out (by decide) ((touch_setCell (w := W) (i := n * 3 + 2) (v := .string (mkB x.1)) HTW.out).2.other g (fun e => hsg e.symm) |>.trans HRW.out) ((touch_setCell (w := W) (i := n * 3 + 2) (v := .string (mkB x.1)) HTW.out).2.below (below_but (HB4.out.trans HBW.out) hgw) hgs)
      | false =>
        have HN2 := Lib.hid (fun w' (hk : ∃ j, w' = w2.drewN j) => next_any g s i2 m (.slice (some ⟨sb, 0, none⟩) (n + 1) c) 0 w' (by obtain ⟨j, rfl⟩ := hk; exact Hr2.out.drew j) hi2 hs)
        obtain ⟨z2, hz2⟩ : ∃ z, hdN (JP.skip (s.data.toList.drop i2)) = z := ⟨_, rfl⟩
        rw [hz2] at HN2
        have k4 : w2.cell? ⟨g, 4, none⟩ = some (.int .i64 0) := cell_block Hr2.out 4
        have Hz2 := Lib.hid hz2
        clear hz2
        go_wp2_with fail
        refine (HN2.out _ ⟨_, rfl⟩).mono ?_
        rintro E w4 ⟨rfl, ⟨i3, hi3, hdi3, hr⟩, hbt⟩
        have Hr4 := Lib.hid hr
        have Hbt : Hid (But g w2 w4) := Lib.hid (((But.refl g w2).drew _).trans hbt)
        have Hd4 := Lib.hid hdi3
        clear hr hbt hdi3 HN2 HG
        by_cases h58 : z2 = 58
        · subst h58
          obtain ⟨t2, ht2⟩ := hd_zero (c := 58) (by decide) Hz2.out
          obtain ⟨hi3l, hd3⟩ := drop_in (Hd4.out.trans ht2)
          have HX4 : Hid (X = .more (s.data.toList.drop (i3 + 1)) m (.ob d x.1 :: st)) := Lib.hid (by rw [HX3.out, hd3]; exact fieldN_more HS9.out (by rw [← Hd2.out]; exact ht2))
          clear ht2 hd3 HX3
          have n58 : ((58 : Int) != 58) = false := by decide
          have k1 : w4.cell? ⟨g, 1, none⟩ = some (.int .i64 (i3 : Int)) := cell_block Hr4.out 1
          have z1 : w4.frozen? ⟨g, 1, none⟩ = false := free_block Hr4.out 1
          have HRx := Hr4
          have HTa := Lib.hid (Hbt.out.keep Ta.out hsg)
          have HY2 : Hid (w4.cell? ⟨sb, n * 3 + 2, none⟩ = some (.string f.nm)) := Lib.hid ((Hbt.out.cell (p := ⟨sb, _, none⟩) hsb hsg).trans Y2.out)
          have HB4 := Lib.hid (Hb2.out.trans Hbt.out)
          have HC4 := Lib.hid (Hcore.out.but Hbt.out)
          clear Hr4
          go_upto_region 10 with fail
          generalize hW : World.setCell _ ⟨g, 1, none⟩ _ = W
          have hRW : RdAt g s (i3 + 1) m (.slice (some ⟨sb, 0, none⟩) (n + 1) c) 0 W := by rw [← hW]; exact RdAt.cast (touch_setCell (w := w4) (i := 1) (v := .int .i64 ((i3 : Int) + 1)) HRx.out).1 (by omega)
          have hBW : But g w4 W := by rw [← hW]; exact But.touch (touch_setCell (w := w4) (i := 1) (v := .int .i64 ((i3 : Int) + 1)) HRx.out).2
          have hTW := hBW.keep HTa.out hsg
          have y2 : W.cell? ⟨sb, n * 3 + 2, none⟩ = some (.string f.nm) := (cell_block hTW _).trans ((cell_block HTa.out _).symm.trans HY2.out)
          have z2 : W.frozen? ⟨sb, n * 3 + 2, none⟩ = false := free_block hTW _
          have HRW := Lib.hid hRW
          have HBW := Lib.hid hBW
          have HTW := Lib.hid hTW
          clear hW hRW hBW hTW
          go_wp2_with fail
          go_end0
          obtain ⟨u1, u2⟩ := touch_setCell (w := W) (i := n * 3 + 2) (v := .string (mkB x.1)) HTW.out
          have hTop : Top g W (.slice (some ⟨sb, 0, none⟩) (n + 1) c) f fs.length sb c cur := { Htop.out with at_ := HTW.out }
          have hC := HC4.out.but HBW.out
          refine field_more HX4.out ⟨i3 + 1, _, ⟨f.lv, f.pv, mkB x.1⟩ :: fs, T, by omega, rfl, (u2.other g (fun e => hsg e.symm)).trans HRW.out, core_turn (k := 2) (u := .string (mkB x.1)) hC hTop (by decide) (by rw [Hn.out]; exact u1) u2 rfl rfl rfl hC.ones (fun b hb => absurd hb (by rw [Hlv.out]; intro h; cases h)) ?_, trivial⟩ (u2.below (below_but (HB4.out.trans HBW.out) hgw) hgs)
          exact ⟨Hlv.out, rfl, nn, q, Hpq.out, Hob.out.keepJ ((KeepT.but Hbt.out HC4.out.gT).trans ((KeepT.but HBW.out HC4.out.gT).trans (KeepT.touch u2 (HC4.out.vT sb rfl))))⟩
        · have n58 : (z2 != 58) = true := by rw [bne_iff_ne]; exact h58
          have n58' : (z2 == 58) = false := by rw [beq_eq_false_iff_ne]; exact h58
          have HX4 : Hid (X = .bad 3) := Lib.hid (by rw [HX3.out]; exact fieldN_bad HS9.out (by rw [← Hd2.out, Hz2.out]; exact h58))
          clear h58 HX3
          go_wp2_with fail
          refine (fail_any g s i3 m (.slice (some ⟨sb, 0, none⟩) (n + 1) c) 0 3 w4 Hr4.out).mono ?_
          rintro E w5 ⟨rfl, hr, hbt⟩
          have hr' : RdAt g s i3 m (.slice (some ⟨sb, 0, none⟩) (n + 1) c) 3 w5 := hr
          have hbt' : But g w2 w5 := Hbt.out.trans hbt
          have k1 : w5.cell? ⟨g, 1, none⟩ = some (.int .i64 (i3 : Int)) := cell_block hr' 1
          have z1 : w5.frozen? ⟨g, 1, none⟩ = false := free_block hr' 1
          have HRx := Lib.hid hr'
          have HTa := Lib.hid (hbt'.keep Ta.out hsg)
          have HY2 : Hid (w5.cell? ⟨sb, n * 3 + 2, none⟩ = some (.string f.nm)) := Lib.hid ((hbt'.cell (p := ⟨sb, _, none⟩) hsb hsg).trans Y2.out)
          have HB4 := Lib.hid (Hb2.out.trans hbt')
          clear hr hr' hbt hbt' Hr4
          go_upto_region 10 with fail
          generalize hW : World.setCell _ ⟨g, 1, none⟩ _ = W
          have hRW : RdAt g s (i3 + 1) m (.slice (some ⟨sb, 0, none⟩) (n + 1) c) 3 W := by rw [← hW]; exact RdAt.cast (touch_setCell (w := w5) (i := 1) (v := .int .i64 ((i3 : Int) + 1)) HRx.out).1 (by omega)
          have hBW : But g w5 W := by rw [← hW]; exact But.touch (touch_setCell (w := w5) (i := 1) (v := .int .i64 ((i3 : Int) + 1)) HRx.out).2
          have hTW := hBW.keep HTa.out hsg
          have y2 : W.cell? ⟨sb, n * 3 + 2, none⟩ = some (.string f.nm) := (cell_block hTW _).trans ((cell_block HTa.out _).symm.trans HY2.out)
          have z2 : W.frozen? ⟨sb, n * 3 + 2, none⟩ = false := free_block hTW _
          have HRW := Lib.hid hRW
          have HBW := Lib.hid hBW
          have HTW := Lib.hid hTW
          clear hW hRW hBW hTW
          go_wp2_with fail
          go_end0
          exact field_bad HX4.out (by decide) ((touch_setCell (w := W) (i := n * 3 + 2) (v := .string (mkB x.1)) HTW.out).2.other g (fun e => hsg e.symm) |>.trans HRW.out) ((touch_setCell (w := W) (i := n * 3 + 2) (v := .string (mkB x.1)) HTW.out).2.below (below_but (HB4.out.trans HBW.out) hgw) hgs)
    · have HX4 : Hid (X = .bad 3) := Lib.hid (by rw [HX2.out, hx])
      have k3 : w2.cell? ⟨g, 3, none⟩ = some (.slice (some ⟨sb, 0, none⟩) (n + 1) c) := cell_block hr2 3
      have k1 : w2.cell? ⟨g, 1, none⟩ = some (.int .i64 (i2 : Int)) := cell_block hr2 1
      have k4 : w2.cell? ⟨g, 4, none⟩ = some (.int .i64 3) := cell_block hr2 4
      have z1 : w2.frozen? ⟨g, 1, none⟩ = false := free_block hr2 1
      have Hr2 := Lib.hid hr2
      have HG := Lib.hid (fun w' (hk : ∃ j, w' = w2.drewN j) => get_any (x := []) (w := w') (by obtain ⟨j, rfl⟩ := hk; exact Hob.out.keepJ (KeepT.drewN w2 j)) hd)
      clear hx hr2 HX2
      go_wp2_with fail
      go_quiet (fail)
      go_wp2_with fail
      refine (HG.out _ ⟨_, rfl⟩).mono ?_
      rintro E w3 ⟨vg, rfl, _, _, k, rfl⟩
      obtain ⟨hs9, HS9⟩ : ∃ b, Hid ((JP.get [] d).isSome = b) := ⟨_, Lib.hid rfl⟩
      rw [HS9.out]
      cases hs9 with
      | true =>
        clear HG
        go_wp2_with fail
        refine (fail_any g s i2 m (.slice (some ⟨sb, 0, none⟩) (n + 1) c) 3 5 _ (Hr2.out.drew _)).mono ?_
        rintro E w4 ⟨rfl, hr, hbt⟩
        have hr' : RdAt g s i2 m (.slice (some ⟨sb, 0, none⟩) (n + 1) c) 3 w4 := hr
        have hbt' : But g w2 w4 := ((But.refl g w2).drew _).trans hbt
        have k1 : w4.cell? ⟨g, 1, none⟩ = some (.int .i64 (i2 : Int)) := cell_block hr' 1
        have z1 : w4.frozen? ⟨g, 1, none⟩ = false := free_block hr' 1
        have k4 : w4.cell? ⟨g, 4, none⟩ = some (.int .i64 3) := cell_block hr' 4
        have HRx := Lib.hid hr'
        have HTa := Lib.hid (hbt'.keep Ta.out hsg)
        have HY2 : Hid (w4.cell? ⟨sb, n * 3 + 2, none⟩ = some (.string f.nm)) := Lib.hid ((hbt'.cell (p := ⟨sb, _, none⟩) hsb hsg).trans Y2.out)
        have HB4 := Lib.hid (Hb2.out.trans hbt')
        clear hr hr' hbt hbt' y1
        go_upto_region 10 with fail
        generalize hW : World.setCell _ ⟨g, 1, none⟩ _ = W
        have hRW : RdAt g s (i2 + 1) m (.slice (some ⟨sb, 0, none⟩) (n + 1) c) 3 W := by rw [← hW]; exact RdAt.cast (touch_setCell (w := w4) (i := 1) (v := .int .i64 ((i2 : Int) + 1)) HRx.out).1 (by omega)
        have hBW : But g w4 W := by rw [← hW]; exact But.touch (touch_setCell (w := w4) (i := 1) (v := .int .i64 ((i2 : Int) + 1)) HRx.out).2
        have hTW := hBW.keep HTa.out hsg
        have y2 : W.cell? ⟨sb, n * 3 + 2, none⟩ = some (.string f.nm) := (cell_block hTW _).trans ((cell_block HTa.out _).symm.trans HY2.out)
        have z2 : W.frozen? ⟨sb, n * 3 + 2, none⟩ = false := free_block hTW _
        have HRW := Lib.hid hRW
        have HBW := Lib.hid hBW
        have HTW := Lib.hid hTW
        clear hW hRW hBW hTW
        go_wp2_with fail
        go_end0
        exact field_bad HX4.out (by decide) ((touch_setCell (w := W) (i := n * 3 + 2) (v := .string ByteArray.empty) HTW.out).2.other g (fun e => hsg e.symm) |>.trans HRW.out) ((touch_setCell (w := W) (i := n * 3 + 2) (v := .string ByteArray.empty) HTW.out).2.below (below_but (HB4.out.trans HBW.out) hgw) hgs)
      | false =>
        have HRx := Hr2
        have HTa := Ta
        have HY2 := Y2
        have HB4 := Hb2
        clear HG
        go_upto_region 10 with fail
        generalize hW : World.setCell _ ⟨g, 1, none⟩ _ = W
        have hRW : RdAt g s (i2 + 1) m (.slice (some ⟨sb, 0, none⟩) (n + 1) c) 3 W := by rw [← hW]; exact RdAt.cast (touch_setCell (w := w2.drewN _) (i := 1) (v := .int .i64 ((i2 : Int) + 1)) HRx.out).1 (by omega)
        have hBW : But g w2 W := by rw [← hW]; exact ((But.refl g w2).drew _).trans <| But.touch (touch_setCell (w := w2.drewN _) (i := 1) (v := .int .i64 ((i2 : Int) + 1)) HRx.out).2
        have hTW := hBW.keep HTa.out hsg
        have y2 : W.cell? ⟨sb, n * 3 + 2, none⟩ = some (.string f.nm) := (cell_block hTW _).trans ((cell_block HTa.out _).symm.trans HY2.out)
        have z2 : W.frozen? ⟨sb, n * 3 + 2, none⟩ = false := free_block hTW _
        have HRW := Lib.hid hRW
        have HBW := Lib.hid hBW
        have HTW := Lib.hid hTW
        clear hW hRW hBW hTW
        go_wp2_with fail
        go_end0
        exact field_bad HX4.out (by decide) ((touch_setCell (w := W) (i := n * 3 + 2) (v := .string ByteArray.empty) HTW.out).2.other g (fun e => hsg e.symm) |>.trans HRW.out) ((touch_setCell (w := W) (i := n * 3 + 2) (v := .string ByteArray.empty) HTW.out).2.below (below_but (HB4.out.trans HBW.out) hgw) hgs)
  · have n34 : (z != 34) = true := by rw [bne_iff_ne]; exact h34
    have n34' : (z == 34) = false := by rw [beq_eq_false_iff_ne]; exact h34
    have HX2 : Hid (X = .bad 3) := Lib.hid (by rw [← HX.out]; exact fieldP_no (by rw [Hz.out]; exact h34))
    clear h34 HN
    go_wp2_with fail
    refine (fail_any g s i m vst 0 3 w1 Hr1.out).mono ?_
    rintro E w2 ⟨rfl, hr, hbt⟩
    have Hr := Lib.hid hr
    have Hbt := Lib.hid (Hb1.out.trans hbt)
    clear hr hbt
    go_wp2_with fail
    go_end0
    exact field_bad HX2.out (by decide) Hr.out (below_but Hbt.out hgw)
end Go.Proofs.YtnnceaapodgfbaaGreatDoor
namespace Go.Proofs.YtnnceaapodgfbaaGreatDoor
open Go.RowKit
open JP (JV Bs Fr)
theorem grown_block {w w1 : World} {r : Option Nat} (hg : w.grownBy w1 r) {b : Nat} (hb : b < w.heap.size) (hn : r ≠ some b) : w1.heap[b]? = w.heap[b]? := hg.block b hb (fun e => hn e.symm)
theorem grown_size {w w1 : World} {r : Option Nat} (hg : w.grownBy w1 r) : w.heap.size ≤ w1.heap.size := hg.size
theorem empty_lst {B : Nat} {T : List Nat} {w : World} : FrAt B T w ⟨.slice none 0 0, .pointer none, ⟨#[]⟩⟩ (.lst []) := by
  refine ⟨rfl, rfl, fun b h => (by cases h), 1, [], ⟨[], rfl, fun _ h => (by cases h), ⟨rfl, .inl ⟨rfl, rfl⟩⟩, fun j cs y h _ => ?_⟩, rfl, fun j u x h _ => ?_⟩
  · rw [List.getElem?_nil] at h; cases h
  · rw [List.getElem?_nil] at h; cases h
theorem empty_ob {n q : Nat} {T : List Nat} {w : World} {t : TypeId} (h : w.heap[q]? = some (.cells #[.slice none 0 0, .slice none 0 0] t (0, 0))) (hq : q ∉ T) : ObR (JvR n T) T w q [] :=
  ⟨hq, List.Pairwise.nil, .slice none 0 0, .slice none 0 0, cell_block h 0, cell_block h 1, .inl ⟨rfl, rfl⟩, fun h => absurd rfl h, .inl ⟨rfl, rfl⟩, fun h => absurd rfl h⟩
theorem core_push {g : Nat} {T : List Nat} {w wA w1 : World} {vst v1 : Value} {f : GF} {fs : List GF} {fr : Fr} {st : List Fr} (h : Core g T w vst fs st) (ho : OwnAt RFr 3 w1 (g + 1) 223 v1 (fs.reverse ++ [f])) (hA : Below w.heap.size w wA) (hg : wA.grownBy w1 vst.ownBlock)
    (hn : v1.ownBlock = vst.ownBlock ∨ v1.ownBlock = some wA.heap.size) (hl : f.lv.ownBlock = none) (hfr : FrAt (g + 1) (T ++ v1.ownBlock.toList) w1 f fr) : Core g (T ++ v1.ownBlock.toList) w1 v1 (f :: fs) (fr :: st) := by
  have hsz : w.heap.size ≤ w1.heap.size := Nat.le_trans hA.size (grown_size hg)
  have hsub : ∀ b ∈ T ++ v1.ownBlock.toList, b ∈ T ∨ w.heap.size ≤ b := fun b hb => by
    rcases List.mem_append.1 hb with hb | hb
    · exact .inl hb
    · rw [Option.mem_toList] at hb
      rcases hn with e | e
      · exact .inl (h.vT b (by rw [← e]; exact hb))
      · rw [e] at hb
        cases hb
        exact .inr hA.size
  have hold : ∀ b, b < w.heap.size → vst.ownBlock ≠ some b → w1.heap[b]? = w.heap[b]? := fun b hb hne => (grown_block hg (Nat.lt_of_lt_of_le hb hA.size) hne).trans (hA.block b hb)
  have hkeep : KeepT (T ++ v1.ownBlock.toList) w w1 := ⟨hg.os.trans hA.os, hg.tape.trans hA.tape, hg.output.trans hA.output, hsz, fun b hb hne => hold b hb fun e => hne (List.mem_append_left _ (h.vT b e))⟩
  have hmem : ∀ {b}, b ∈ T → b ∈ T ++ v1.ownBlock.toList := fun hb => List.mem_append_left _ hb
  refine ⟨by rw [List.reverse_cons]; exact ho, hmem h.gT, fun b hb => List.mem_append_right _ (by rw [Option.mem_toList]; exact hb), fun b hb => ?_, lbs_cons h.nd (fun b hb => by rw [hl] at hb; cases hb), hfr, ?_⟩
  · rcases List.mem_append.1 hb with hb | hb
    · exact ⟨fun k hk => hmem ((h.low b hb).1 k hk), Nat.lt_of_lt_of_le (h.low b hb).2 hsz⟩
    · rw [Option.mem_toList] at hb
      obtain ⟨k1, _, cur, k2⟩ := ho.at hb
      exact ⟨fun k hk => hmem ((h.low g h.gT).1 k hk), blk_lt k2⟩
  · refine AllFr.keep hkeep (AllFr.fresh hsub h.all fun f' hf b hb => hmem (AllFr.own h.all f' hf b hb).1) fun f' hf b hb => ?_
    obtain ⟨k1, k2, cur, k3⟩ := AllFr.own h.all f' hf b hb
    refine hold b (h.low b k1).2 fun e => ?_
    obtain ⟨_, _, cur', k4⟩ := h.row.at e
    rw [k3] at k4
    injection k4 with k4
    injection k4 with _ k4
    exact absurd k4 (by decide)
end Go.Proofs.YtnnceaapodgfbaaGreatDoor
namespace Go.Proofs.YtnnceaapodgfbaaGreatDoor
open Go.RowKit
open JP (JV Bs Fr)
theorem stays_fr : Stays RFr := fun _ _ _ _ _ h => h
theorem core_pop {g n sb c : Nat} {T : List Nat} {w : World} {f : GF} {fs : List GF} {fr : Fr} {st : List Fr} (h : Core g T w (.slice (some ⟨sb, 0, none⟩) (n + 1) c) (f :: fs) (fr :: st)) (hn : fs.length = n) : Core g T w (.slice (some ⟨sb, 0, none⟩) n c) fs st := by
  have hr := h.row
  rw [List.reverse_cons] at hr
  exact ⟨OwnAt.pop hr (by rw [List.length_reverse]; exact hn), h.gT, fun b hb => h.vT b hb, h.low, lbs_tail h.nd, h.all.2⟩
theorem out_field {g : Nat} {s : ByteArray} {w0 w w' : World} {x : JP.R} {e : Ending} (h : FieldAt g s w x e w') (hb : Below g w0 w) : e = .returned (.tuple #[]) ∧ ∀ v, Out g s w0 x v false w' := by
  obtain ⟨h1, h2, h3⟩ := h
  refine ⟨h1, fun v => ⟨hb.trans h2, ?_⟩⟩
  cases x with
  | bad er => exact h3
  | more r m st => exact ⟨rfl, h3⟩
  | whole _ _ _ _ => exact h3.elim
theorem beginP_eq {r t : Bs} {c : UInt8} {m : Nat} {st : List Fr} (h : JP.skip r = c :: t) : JP.beginP r m st = JP.beginC c t m st := by unfold JP.beginP; rw [h]
theorem beginP_none {r : Bs} {m : Nat} {st : List Fr} (h : JP.skip r = []) : JP.beginP r m st = .bad 3 := by unfold JP.beginP; rw [h]
theorem beginC_no {c : UInt8} {t : Bs} {m : Nat} {st : List Fr} (h : JP.starts c = false) : JP.beginC c t m st = .bad 3 := by unfold JP.beginC; rw [if_pos h]
theorem beginC_large {c : UInt8} {t : Bs} {m : Nat} {st : List Fr} (h : JP.starts c = true) (h2 : 200 < m + 1) : JP.beginC c t m st = .bad 2 := by unfold JP.beginC; rw [if_neg (by rw [h]; decide), if_pos h2]
theorem beginC_deep {c : UInt8} {t : Bs} {m : Nat} {st : List Fr} (h : JP.starts c = true) (h2 : ¬ 200 < m + 1) (h3 : (c = 91 ∨ c = 123) ∧ st.length = 10) : JP.beginC c t m st = .bad 4 := by unfold JP.beginC; rw [if_neg (by rw [h]; decide), if_neg h2, if_pos h3]
theorem beginC_plain {c : UInt8} {t : Bs} {m : Nat} {st : List Fr} (h : JP.starts c = true) (h2 : ¬ 200 < m + 1) (h3 : c ≠ 91) (h4 : c ≠ 123) : JP.beginC c t m st = JP.plainP c (c :: t) (m + 1) st := by
  unfold JP.beginC
  rw [if_neg (by rw [h]; decide), if_neg h2, if_neg (fun e => by rcases e.1 with e | e; exact h3 e; exact h4 e), if_neg h3, if_neg h4]
theorem beginC_list {t : Bs} {m : Nat} {st : List Fr} (h2 : ¬ 200 < m + 1) (h3 : st.length ≠ 10) : JP.beginC 91 t m st = if hdN (JP.skip t) = 93 then .whole (.list []) (JP.skip t).tail (m + 1) st else .more (JP.skip t) (m + 1) (.lst [] :: st) := by
  unfold JP.beginC
  rw [if_neg (by decide), if_neg h2, if_neg (fun e => h3 e.2), if_pos rfl]
  by_cases h : hdN (JP.skip t) = 93
  · obtain ⟨q, hq⟩ := hd_zero (c := 93) (by decide) h
    rw [if_pos h, if_pos (by rw [hq]; rfl)]
  · rw [if_neg h, if_neg (fun e => h (by
      cases hs : JP.skip t with
      | nil => rw [hs] at e; cases e
      | cons x q => rw [hs] at e; cases e; rfl))]
theorem beginC_obj {t : Bs} {m : Nat} {st : List Fr} (h2 : ¬ 200 < m + 1) (h3 : st.length ≠ 10) : JP.beginC 123 t m st = if hdN (JP.skip t) = 125 then .whole (.obj []) (JP.skip t).tail (m + 1) st else JP.fieldP (JP.skip t) (m + 1) [] st := by
  unfold JP.beginC
  rw [if_neg (by decide), if_neg h2, if_neg (fun e => h3 e.2), if_neg (by decide), if_pos rfl]
  by_cases h : hdN (JP.skip t) = 125
  · obtain ⟨q, hq⟩ := hd_zero (c := 125) (by decide) h
    rw [if_pos h, if_pos (by rw [hq]; rfl)]
  · rw [if_neg h, if_neg (fun e => h (by
      cases hs : JP.skip t with
      | nil => rw [hs] at e; cases e
      | cons x q => rw [hs] at e; cases e; rfl))]
theorem starts_no {c : UInt8} {z : Int} (hz : (c.toNat : Int) = z) (h1 : (z == 91) = false) (h2 : (z == 123) = false) (h3 : ¬ z = 34) (h4 : ¬ z = 45) (h5 : ¬ z = 116) (h6 : ¬ z = 102) (h7 : ¬ z = 110) (h : z < 48 ∨ 57 < z) : JP.starts c = false := by
  rw [beq_eq_false_iff_ne] at h1 h2
  have e : ∀ k : UInt8, z ≠ (k.toNat : Int) → (c == k) = false := fun k hk => by
    rw [beq_eq_false_iff_ne]; intro e; exact hk (by rw [← hz, e])
  unfold JP.starts JP.digit
  rw [e 91 (by exact h1), e 123 (by exact h2), e 34 (by exact h3), e 45 (by exact h4), e 116 (by exact h5), e 102 (by exact h6), e 110 (by exact h7)]
  rcases h with h | h
  · have : ¬ 48 ≤ c := fun h9 => by have : (48 : UInt8).toNat ≤ c.toNat := h9; have : (48 : UInt8).toNat = 48 := rfl; omega
    rw [decide_eq_false this]; rfl
  · have : ¬ c ≤ 57 := fun h9 => by have : c.toNat ≤ (57 : UInt8).toNat := h9; have : (57 : UInt8).toNat = 57 := rfl; omega
    rw [decide_eq_false this, Bool.and_false]; rfl
theorem starts_dig {c : UInt8} {z : Int} (hz : (c.toNat : Int) = z) (h1 : ¬ z < 48) (h2 : ¬ 57 < z) : JP.starts c = true := by
  have a1 : 48 ≤ c := by show (48 : UInt8).toNat ≤ c.toNat; have : (48 : UInt8).toNat = 48 := rfl; omega
  have a2 : c ≤ 57 := by show c.toNat ≤ (57 : UInt8).toNat; have : (57 : UInt8).toNat = 57 := rfl; omega
  unfold JP.starts JP.digit
  rw [decide_eq_true a1, decide_eq_true a2]
  simp
theorem outE_of {g : Nat} {s : ByteArray} {w w' : World} {x : JP.R} {v : Value} {b : Bool} (h : Out g s w x v b w') : OutE g s w x (.returned (.tuple #[v, .bool b])) w' := ⟨v, b, rfl, h⟩
set_option maxRecDepth 100000 in
set_option maxHeartbeats 12800000 in
theorem begin_none (g : Nat) (s : ByteArray) (a m : Nat) (vst : Value) (fs : List GF) (T : List Nat) (st : List Fr) (w : World) (h : RdAt g s a m vst 0 w) (hc : Core g T w vst fs st) (ha : a ≤ s.size) (hs : s.size ≤ 1048576) (hm : m ≤ 1000) (hst : st.length ≤ 10) (hsk : JP.skip (s.data.toList.drop a) = []) :
    Calls Tryz.prog 94 #[.pointer (some ⟨g, 0, none⟩)] w (OutE g s w (JP.beginP (s.data.toList.drop a) m st)) := by
  have hgw := h.lt
  obtain ⟨X, HX⟩ : ∃ X, Hid (JP.beginP (s.data.toList.drop a) m st = X) := ⟨_, Lib.hid rfl⟩
  rw [HX.out]
  have hn := next_any g s a m vst 0 w h ha hs
  rw [hsk] at hn
  have HN := Lib.hid hn
  have hz : hdN (([] : Bs)) = 0 := rfl
  rw [hz] at hn
  have HN := Lib.hid hn
  have Hc := Lib.hid hc
  have Hsk := Lib.hid hsk
  clear h hc hn hsk
  go_enter Tryz.func94, Tryz.ntmps94
  go_wp2_with fail
  refine HN.out.mono ?_
  rintro E w1 ⟨rfl, ⟨i, hi, hdi, hr⟩, hb⟩
  have Hr1 := Lib.hid hr
  have Hb1 := Lib.hid hb
  have Hdi := Lib.hid hdi
  have Hc1 := Lib.hid (Hc.out.but hb)
  clear hr hb hdi HN
  have HX2 : Hid (X = .bad 3) := Lib.hid (by rw [← HX.out]; exact beginP_none Hsk.out)
  clear HX
  go_wp2_with fail
  refine (fail_any g s i m vst 0 3 w1 Hr1.out).mono ?_
  rintro E w2 ⟨rfl, hr, hbt⟩
  have Hr := Lib.hid hr
  have Hbt := Lib.hid (Hb1.out.trans hbt)
  clear hr hbt
  go_wp2_with fail
  go_ret2
  exact outE_of (out_bad HX2.out (by decide) Hr.out (below_but Hbt.out hgw))
set_option maxRecDepth 100000 in
set_option maxHeartbeats 12800000 in
theorem begin_list (g : Nat) (s : ByteArray) (a m : Nat) (vst : Value) (fs : List GF) (T : List Nat) (st : List Fr) (w : World) (h : RdAt g s a m vst 0 w) (hc : Core g T w vst fs st) (ha : a ≤ s.size) (hs : s.size ≤ 1048576) (hm : m ≤ 1000) (hst : st.length ≤ 10) (t : Bs) (hsk : JP.skip (s.data.toList.drop a) = 91 :: t) :
    Calls Tryz.prog 94 #[.pointer (some ⟨g, 0, none⟩)] w (OutE g s w (JP.beginP (s.data.toList.drop a) m st)) := by
  have hgw := h.lt
  obtain ⟨X, HX⟩ : ∃ X, Hid (JP.beginP (s.data.toList.drop a) m st = X) := ⟨_, Lib.hid rfl⟩
  rw [HX.out]
  have hn := next_any g s a m vst 0 w h ha hs
  rw [hsk] at hn
  have HN := Lib.hid hn
  have hz : hdN ((91 :: t : Bs)) = 91 := rfl
  rw [hz] at hn
  have HN := Lib.hid hn
  have Hc := Lib.hid hc
  have Hsk := Lib.hid hsk
  clear h hc hn hsk
  go_enter Tryz.func94, Tryz.ntmps94
  go_wp2_with fail
  refine HN.out.mono ?_
  rintro E w1 ⟨rfl, ⟨i, hi, hdi, hr⟩, hb⟩
  have Hr1 := Lib.hid hr
  have Hb1 := Lib.hid hb
  have Hdi := Lib.hid hdi
  have Hc1 := Lib.hid (Hc.out.but hb)
  clear hr hb hdi HN
  have k2 : w1.cell? ⟨g, 2, none⟩ = some (.int .i64 (m : Int)) := cell_block Hr1.out 2
  have z2 : w1.frozen? ⟨g, 2, none⟩ = false := free_block Hr1.out 2
  have ww1 : IntKind.i64.wrap ((m : Int) + 1) = (m : Int) + 1 := IntWalk.i64_in _ (by omega)
  go_upto_region 7 with fail
  generalize hW : World.setCell _ ⟨g, 2, none⟩ _ = W2
  obtain ⟨m', hm'⟩ : ∃ m', m + 1 = m' := ⟨_, rfl⟩
  have hR2 : RdAt g s i m' vst 0 W2 := by
    rw [← hW]; unfold RdAt; rw [show ((m' : Nat) : Int) = (m : Int) + 1 by omega]
    exact (touch_setCell (w := w1) (i := 2) (v := .int .i64 ((m : Int) + 1)) Hr1.out).1
  have hB2 : But g w W2 := by rw [← hW]; exact Hb1.out.trans (But.touch (touch_setCell (w := w1) (i := 2) (v := .int .i64 ((m : Int) + 1)) Hr1.out).2)
  have Hm' := Lib.hid hm'
  have hm9 : m' ≤ 1001 := by omega
  have HR2 := Lib.hid hR2
  have HB2 := Lib.hid hB2
  have HC2 := Lib.hid (Hc.out.but hB2)
  have k2 : W2.cell? ⟨g, 2, none⟩ = some (.int .i64 (m' : Int)) := cell_block hR2 2
  clear hW hR2 hB2 hm' z2 ww1
  by_cases hl : 200 < m'
  · have HX2 : Hid (X = .bad 2) := Lib.hid (by rw [← HX.out, beginP_eq Hsk.out]; exact beginC_large (by decide) (by rw [Hm'.out]; exact hl))
    have p1 : (200 : Int) < (m' : Int) := by omega
    clear HX hl
    go_wp2_with fail
    refine (fail_any g s i m' vst 0 2 W2 HR2.out).mono ?_
    rintro E w3 ⟨rfl, hr, hbt⟩
    have hr' : RdAt g s i m' vst 2 w3 := hr
    have k4 : w3.cell? ⟨g, 4, none⟩ = some (.int .i64 2) := cell_block hr' 4
    have Hr := Lib.hid hr'
    have Hbt := Lib.hid (HB2.out.trans hbt)
    clear hr hr' hbt
    go_wp2_with fail
    go_ret2
    exact outE_of (out_bad HX2.out (by decide) Hr.out (below_but Hbt.out hgw))
  have p1 : ¬ (200 : Int) < (m' : Int) := by omega
  have Hl : Hid (¬ 200 < m + 1) := Lib.hid (by rw [Hm'.out]; exact hl)
  clear hl
  have k4 : W2.cell? ⟨g, 4, none⟩ = some (.int .i64 0) := cell_block HR2.out 4
  have HX0 : Hid (X = JP.beginC 91 t m st) := Lib.hid (by rw [← HX.out]; exact beginP_eq Hsk.out)
  obtain ⟨vb, n, cv, hv, hnl⟩ : ∃ vb n c, vst = .slice vb n c ∧ n = st.length := by
    have hl := HC2.out.all.len
    rcases HC2.out.row.form with ⟨h1, h2⟩ | ⟨b, c, h1, _⟩
    · exact ⟨none, 0, 0, h1, by rw [← hl]; rw [List.reverse_eq_nil_iff] at h2; rw [h2]; rfl⟩
    · exact ⟨_, _, _, h1, by rw [List.length_reverse, hl]⟩
  have Hnl := Lib.hid hnl
  have hn10 : n ≤ 10 := by omega
  have k3 : W2.cell? ⟨g, 3, none⟩ = some (.slice vb n cv) := by rw [← hv]; exact cell_block HR2.out 3
  have Hv := Lib.hid hv
  clear HX hnl hv
  by_cases hd : n = 10
  · have HX2 : Hid (X = .bad 4) := Lib.hid (by rw [HX0.out]; exact beginC_deep (by decide) Hl.out ⟨by decide, by rw [← Hnl.out]; exact hd⟩)
    have p2 : ((n : Int) == 10) = true := by rw [beq_iff_eq]; omega
    clear hd HX0
    go_wp2_with fail
    refine (fail_any g s i m' vst 0 4 W2 HR2.out).mono ?_
    rintro E w3 ⟨rfl, hr, hbt⟩
    have hr' : RdAt g s i m' vst 4 w3 := hr
    have k4 : w3.cell? ⟨g, 4, none⟩ = some (.int .i64 4) := cell_block hr' 4
    have Hr := Lib.hid hr'
    have Hbt := Lib.hid (HB2.out.trans hbt)
    clear hr hr' hbt
    go_wp2_with fail
    go_ret2
    exact outE_of (out_bad HX2.out (by decide) Hr.out (below_but Hbt.out hgw))
  have p2 : ((n : Int) == 10) = false := by rw [beq_eq_false_iff_ne]; omega
  have Hd : Hid (st.length ≠ 10) := Lib.hid (by rw [← Hnl.out]; exact hd)
  clear hd
  obtain ⟨hil, hdt⟩ := drop_in Hdi.out
  have Hdt := Lib.hid hdt
  have k1 : W2.cell? ⟨g, 1, none⟩ = some (.int .i64 (i : Int)) := cell_block HR2.out 1
  have z1 : W2.frozen? ⟨g, 1, none⟩ = false := free_block HR2.out 1
  have ww1 : IntKind.i64.wrap ((i : Int) + 1) = (i : Int) + 1 := IntWalk.i64_in _ (by omega)
  clear hdt
  go_upto_region 16 with fail
  generalize hW : World.setCell _ ⟨g, 1, none⟩ _ = W3
  have hR3 : RdAt g s (i + 1) m' vst 0 W3 := by rw [← hW]; exact RdAt.cast (touch_setCell (w := W2) (i := 1) (v := .int .i64 ((i : Int) + 1)) HR2.out).1 (by omega)
  have hB3 : But g w W3 := by rw [← hW]; exact HB2.out.trans (But.touch (touch_setCell (w := W2) (i := 1) (v := .int .i64 ((i : Int) + 1)) HR2.out).2)
  have HR3 := Lib.hid hR3
  have HB3 := Lib.hid hB3
  have hC3 := Hc.out.but hB3
  have HC3 := Lib.hid hC3
  have hrow := hC3.row
  rw [Hv.out] at hrow
  have Hrow := Lib.hid hrow
  have k3 : W3.cell? ⟨g, 3, none⟩ = some (.slice vb n cv) := by rw [← Hv.out]; exact cell_block hR3 3
  obtain ⟨i0, hi0, hz0, hz1, hz2⟩ := info_parts Tryz.infoFr
  have hgW : g < W3.heap.size := hR3.lt
  have Hfl : Hid (fs.reverse.length = n) := Lib.hid (by rw [List.length_reverse, Hnl.out]; exact hC3.all.len)
  clear hW hR3 hB3 hC3 hrow k1 k2 z1 ww1
  go_wp2_with (at_builtin; refine wpList_append_ownAt (R := RFr) (k := 3) (e := 223) (B := g + 1) (l := fs.reverse) (m := [⟨.slice none 0 0, .pointer none, ⟨#[]⟩⟩]) _ (by rfl) _ _ _ (by rfl) i0 _ 48 Tryz.underlying172 hi0 hz0 hz1 hz2 rfl (by omega) flat_fr one_fr _ (by rfl) (Hrow.out.alloc stays_fr _) (.slice (some ⟨W3.heap.size, 0, none⟩) 1 1) (by rfl) (RowAt.one (R := RFr) (k := 3) (cs := #[.slice none 0 0, .pointer none, .string ByteArray.empty]) (heap_alloc_new _ _) rfl ⟨rfl, rfl, rfl⟩) (by rw [Hfl.out]; unfold maxLen; simp; omega) (by rw [Hfl.out]; simp; omega) (by simp; omega) ?_)
  intro v1 w4 hv1 hg4 _ hn4
  have hA : Below W3.heap.size W3 (W3.alloc (.cells #[.slice none 0 0, .pointer none, .string ByteArray.empty] 223)) := (Below.refl _ _).alloc (Nat.le_refl _) _
  have hfr : FrAt (g + 1) (T ++ v1.ownBlock.toList) w4 ⟨.slice none 0 0, .pointer none, ⟨#[]⟩⟩ (.lst []) := empty_lst
  have hcore := core_push HC3.out hv1 hA (by rw [Hv.out]; exact hg4) (by rw [Hv.out]; simpa only [World.size_alloc] using hn4) rfl hfr
  obtain ⟨T4, hT4⟩ : ∃ T', T ++ v1.ownBlock.toList = T' := ⟨_, rfl⟩
  rw [hT4] at hcore
  have hsb : (Value.slice vb n cv).ownBlock ≠ some g := fun e => by have := (Hrow.out.at e).1; omega
  have hr4 : RdAt g s (i + 1) m' vst 0 w4 := (grown_block hg4 (Nat.lt_of_lt_of_le hgW hA.size) hsb).trans ((hA.block g hgW).trans HR3.out)
  have hb4 : Below g W3 w4 := ⟨hg4.os.trans hA.os, hg4.tape.trans hA.tape, hg4.output.trans hA.output, Nat.le_trans hA.size hg4.size, fun b hb => (grown_block hg4 (Nat.lt_of_lt_of_le (Nat.lt_trans hb hgW) hA.size) (fun e => by have := (Hrow.out.at e).1; omega)).trans (hA.block b (Nat.lt_trans hb hgW))⟩
  obtain ⟨sb, c5, cur5, htop⟩ := hcore.top
  obtain ⟨tv, tl, tr, tm, _⟩ := htop
  have hfn : fs.length = n := by rw [← Hfl.out, List.length_reverse]
  rw [hfn] at tv tr
  subst tv
  have HC4 := Lib.hid hcore
  have HR4 := Lib.hid hr4
  have HB4 : Hid (Below g w w4) := Lib.hid ((below_but HB3.out hgw).trans hb4)
  have Hfn := Lib.hid hfn
  have hgw4 := hr4.lt
  have z3 : w4.frozen? ⟨g, 3, none⟩ = false := free_block hr4 3
  have k3' : w4.cell? ⟨g, 3, none⟩ = some (.slice vb n cv) := by rw [← Hv.out]; exact cell_block hr4 3
  clear hv1 hg4 hn4 hA hfr hcore hT4 hr4 hb4 hsb Hrow k3 hfn
  go_upto_region 17 with fail
  generalize hW : World.setCell _ ⟨g, 3, none⟩ _ = W5
  have hR5 : RdAt g s (i + 1) m' (.slice (some ⟨sb, 0, none⟩) (n + 1) c5) 0 W5 := by rw [← hW]; exact (touch_setCell (w := w4) (i := 3) (v := .slice (some ⟨sb, 0, none⟩) (n + 1) c5) HR4.out).1
  have hB5 : But g w4 W5 := by rw [← hW]; exact But.touch (touch_setCell (w := w4) (i := 3) (v := .slice (some ⟨sb, 0, none⟩) (n + 1) c5) HR4.out).2
  have HR5 := Lib.hid hR5
  have HB5 := Lib.hid (HB4.out.trans (below_but hB5 hgw4))
  have HC5 := Lib.hid (HC4.out.but hB5)
  have hgw5 := hR5.lt
  clear hW hR5 hB5 k3' z3 HC4 HR4 HB4
  obtain ⟨z6, hz6⟩ : ∃ z, hdN (JP.skip t) = z := ⟨_, rfl⟩
  have hn6 := next_any g s (i + 1) m' (.slice (some ⟨sb, 0, none⟩) (n + 1) c5) 0 W5 HR5.out (by omega) hs
  rw [Hdt.out, hz6] at hn6
  have HN6 := Lib.hid hn6
  have Hz6 := Lib.hid hz6
  clear hn6 hz6
  go_wp2_with fail
  refine HN6.out.mono ?_
  rintro E w6 ⟨rfl, ⟨i6, hi6, hdi6, hr⟩, hb⟩
  have HR6 := Lib.hid hr
  have HB6 := Lib.hid (HB5.out.trans (below_but hb hgw5))
  have HC6 := Lib.hid (HC5.out.but hb)
  have Hd6 := Lib.hid hdi6
  have hgw6 := hr.lt
  clear hr hb hdi6 HN6
  have HX1 := Lib.hid (HX0.out.trans (beginC_list Hl.out Hd.out))
  clear HX0
  by_cases h93 : z6 = 93
  · subst h93
    obtain ⟨t7, ht7⟩ := hd_zero (c := 93) (by decide) Hz6.out
    obtain ⟨hi7, hd7⟩ := drop_in (Hd6.out.trans ht7)
    have HX2 : Hid (X = .whole (.list []) (s.data.toList.drop (i6 + 1)) m' st) := Lib.hid (by rw [HX1.out, if_pos Hz6.out, ht7, hd7, Hm'.out]; rfl)
    clear HX1 ht7 hd7
    go_wp2_with fail
    refine (close_any g s i6 m' sb n c5 (.iface 188 (.slice none 0 0)) w6 HR6.out hi7 hs tr tm (by omega)).mono ?_
    rintro E w7 ⟨rfl, hr, hbt⟩
    have Hr := Lib.hid hr
    have Hbt := Lib.hid hbt
    clear hr hbt
    go_wp2_with fail
    go_ret2
    exact outE_of (out_whole HX2.out ⟨i6 + 1, _, fs, T4, hi7, rfl, Hr.out, core_pop (HC6.out.but Hbt.out) Hfn.out, 1, _, rfl, .inl ⟨rfl, rfl⟩, fun h => absurd rfl h⟩ (HB6.out.trans (below_but Hbt.out hgw6)))
  · have HX2 : Hid (X = .more (s.data.toList.drop i6) m' (.lst [] :: st)) := Lib.hid (by rw [HX1.out, if_neg (by rw [Hz6.out]; exact h93), Hd6.out, Hm'.out])
    have n93 : (z6 == 93) = false := by rw [beq_eq_false_iff_ne]; exact h93
    clear HX1 h93
    go_wp2_with fail
    go_ret2
    exact outE_of (out_more HX2.out ⟨i6, _, _, T4, hi6, rfl, HR6.out, HC6.out, trivial⟩ HB6.out)
set_option maxRecDepth 100000 in
set_option maxHeartbeats 12800000 in
theorem begin_obj (g : Nat) (s : ByteArray) (a m : Nat) (vst : Value) (fs : List GF) (T : List Nat) (st : List Fr) (w : World) (h : RdAt g s a m vst 0 w) (hc : Core g T w vst fs st) (ha : a ≤ s.size) (hs : s.size ≤ 1048576) (hm : m ≤ 1000) (hst : st.length ≤ 10) (t : Bs) (hsk : JP.skip (s.data.toList.drop a) = 123 :: t) :
    Calls Tryz.prog 94 #[.pointer (some ⟨g, 0, none⟩)] w (OutE g s w (JP.beginP (s.data.toList.drop a) m st)) := by
  have hgw := h.lt
  obtain ⟨X, HX⟩ : ∃ X, Hid (JP.beginP (s.data.toList.drop a) m st = X) := ⟨_, Lib.hid rfl⟩
  rw [HX.out]
  have hn := next_any g s a m vst 0 w h ha hs
  rw [hsk] at hn
  have HN := Lib.hid hn
  have hz : hdN ((123 :: t : Bs)) = 123 := rfl
  rw [hz] at hn
  have HN := Lib.hid hn
  have Hc := Lib.hid hc
  have Hsk := Lib.hid hsk
  clear h hc hn hsk
  go_enter Tryz.func94, Tryz.ntmps94
  go_wp2_with fail
  refine HN.out.mono ?_
  rintro E w1 ⟨rfl, ⟨i, hi, hdi, hr⟩, hb⟩
  have Hr1 := Lib.hid hr
  have Hb1 := Lib.hid hb
  have Hdi := Lib.hid hdi
  have Hc1 := Lib.hid (Hc.out.but hb)
  clear hr hb hdi HN
  have k2 : w1.cell? ⟨g, 2, none⟩ = some (.int .i64 (m : Int)) := cell_block Hr1.out 2
  have z2 : w1.frozen? ⟨g, 2, none⟩ = false := free_block Hr1.out 2
  have ww1 : IntKind.i64.wrap ((m : Int) + 1) = (m : Int) + 1 := IntWalk.i64_in _ (by omega)
  go_upto_region 7 with fail
  generalize hW : World.setCell _ ⟨g, 2, none⟩ _ = W2
  obtain ⟨m', hm'⟩ : ∃ m', m + 1 = m' := ⟨_, rfl⟩
  have hR2 : RdAt g s i m' vst 0 W2 := by
    rw [← hW]; unfold RdAt; rw [show ((m' : Nat) : Int) = (m : Int) + 1 by omega]
    exact (touch_setCell (w := w1) (i := 2) (v := .int .i64 ((m : Int) + 1)) Hr1.out).1
  have hB2 : But g w W2 := by rw [← hW]; exact Hb1.out.trans (But.touch (touch_setCell (w := w1) (i := 2) (v := .int .i64 ((m : Int) + 1)) Hr1.out).2)
  have Hm' := Lib.hid hm'
  have hm9 : m' ≤ 1001 := by omega
  have HR2 := Lib.hid hR2
  have HB2 := Lib.hid hB2
  have HC2 := Lib.hid (Hc.out.but hB2)
  have k2 : W2.cell? ⟨g, 2, none⟩ = some (.int .i64 (m' : Int)) := cell_block hR2 2
  clear hW hR2 hB2 hm' z2 ww1
  by_cases hl : 200 < m'
  · have HX2 : Hid (X = .bad 2) := Lib.hid (by rw [← HX.out, beginP_eq Hsk.out]; exact beginC_large (by decide) (by rw [Hm'.out]; exact hl))
    have p1 : (200 : Int) < (m' : Int) := by omega
    clear HX hl
    go_wp2_with fail
    refine (fail_any g s i m' vst 0 2 W2 HR2.out).mono ?_
    rintro E w3 ⟨rfl, hr, hbt⟩
    have hr' : RdAt g s i m' vst 2 w3 := hr
    have k4 : w3.cell? ⟨g, 4, none⟩ = some (.int .i64 2) := cell_block hr' 4
    have Hr := Lib.hid hr'
    have Hbt := Lib.hid (HB2.out.trans hbt)
    clear hr hr' hbt
    go_wp2_with fail
    go_ret2
    exact outE_of (out_bad HX2.out (by decide) Hr.out (below_but Hbt.out hgw))
  have p1 : ¬ (200 : Int) < (m' : Int) := by omega
  have Hl : Hid (¬ 200 < m + 1) := Lib.hid (by rw [Hm'.out]; exact hl)
  clear hl
  have k4 : W2.cell? ⟨g, 4, none⟩ = some (.int .i64 0) := cell_block HR2.out 4
  have HX0 : Hid (X = JP.beginC 123 t m st) := Lib.hid (by rw [← HX.out]; exact beginP_eq Hsk.out)
  obtain ⟨vb, n, cv, hv, hnl⟩ : ∃ vb n c, vst = .slice vb n c ∧ n = st.length := by
    have hl := HC2.out.all.len
    rcases HC2.out.row.form with ⟨h1, h2⟩ | ⟨b, c, h1, _⟩
    · exact ⟨none, 0, 0, h1, by rw [← hl]; rw [List.reverse_eq_nil_iff] at h2; rw [h2]; rfl⟩
    · exact ⟨_, _, _, h1, by rw [List.length_reverse, hl]⟩
  have Hnl := Lib.hid hnl
  have hn10 : n ≤ 10 := by omega
  have k3 : W2.cell? ⟨g, 3, none⟩ = some (.slice vb n cv) := by rw [← hv]; exact cell_block HR2.out 3
  have Hv := Lib.hid hv
  clear HX hnl hv
  by_cases hd : n = 10
  · have HX2 : Hid (X = .bad 4) := Lib.hid (by rw [HX0.out]; exact beginC_deep (by decide) Hl.out ⟨by decide, by rw [← Hnl.out]; exact hd⟩)
    have p2 : ((n : Int) == 10) = true := by rw [beq_iff_eq]; omega
    clear hd HX0
    go_wp2_with fail
    refine (fail_any g s i m' vst 0 4 W2 HR2.out).mono ?_
    rintro E w3 ⟨rfl, hr, hbt⟩
    have hr' : RdAt g s i m' vst 4 w3 := hr
    have k4 : w3.cell? ⟨g, 4, none⟩ = some (.int .i64 4) := cell_block hr' 4
    have Hr := Lib.hid hr'
    have Hbt := Lib.hid (HB2.out.trans hbt)
    clear hr hr' hbt
    go_wp2_with fail
    go_ret2
    exact outE_of (out_bad HX2.out (by decide) Hr.out (below_but Hbt.out hgw))
  have p2 : ((n : Int) == 10) = false := by rw [beq_eq_false_iff_ne]; omega
  have Hd : Hid (st.length ≠ 10) := Lib.hid (by rw [← Hnl.out]; exact hd)
  clear hd
  obtain ⟨hil, hdt⟩ := drop_in Hdi.out
  have Hdt := Lib.hid hdt
  have k1 : W2.cell? ⟨g, 1, none⟩ = some (.int .i64 (i : Int)) := cell_block HR2.out 1
  have z1 : W2.frozen? ⟨g, 1, none⟩ = false := free_block HR2.out 1
  have ww1 : IntKind.i64.wrap ((i : Int) + 1) = (i : Int) + 1 := IntWalk.i64_in _ (by omega)
  clear hdt
  go_upto_region 22 with fail
  generalize hW : World.setCell _ ⟨g, 1, none⟩ _ = W3
  have hR3 : RdAt g s (i + 1) m' vst 0 W3 := by rw [← hW]; exact RdAt.cast (touch_setCell (w := W2) (i := 1) (v := .int .i64 ((i : Int) + 1)) HR2.out).1 (by omega)
  have hB3 : But g w W3 := by rw [← hW]; exact HB2.out.trans (But.touch (touch_setCell (w := W2) (i := 1) (v := .int .i64 ((i : Int) + 1)) HR2.out).2)
  have HR3 := Lib.hid hR3
  have HB3 := Lib.hid hB3
  have hC3 := Hc.out.but hB3
  have HC3 := Lib.hid hC3
  have hrow := hC3.row
  rw [Hv.out] at hrow
  have Hrow := Lib.hid hrow
  have k3 : W3.cell? ⟨g, 3, none⟩ = some (.slice vb n cv) := by rw [← Hv.out]; exact cell_block hR3 3
  obtain ⟨i0, hi0, hz0, hz1, hz2⟩ := info_parts Tryz.infoFr
  have hgW : g < W3.heap.size := hR3.lt
  have Hfl : Hid (fs.reverse.length = n) := Lib.hid (by rw [List.length_reverse, Hnl.out]; exact hC3.all.len)
  clear hW hR3 hB3 hC3 hrow k1 k2 z1 ww1
  go_wp2_with (at_builtin; refine wpList_append_ownAt (R := RFr) (k := 3) (e := 223) (B := g + 1) (l := fs.reverse) (m := [⟨.slice none 0 0, .pointer (some ⟨W3.heap.size, 0, none⟩), ⟨#[]⟩⟩]) _ (by rfl) _ _ _ (by rfl) i0 _ 48 Tryz.underlying172 hi0 hz0 hz1 hz2 rfl (by omega) flat_fr one_fr _ (by rfl) ((Hrow.out.alloc stays_fr _).alloc stays_fr _) (.slice (some ⟨W3.heap.size + 1, 0, none⟩) 1 1) (by rfl) (RowAt.one (R := RFr) (k := 3) (cs := #[.slice none 0 0, .pointer (some ⟨W3.heap.size, 0, none⟩), .string ByteArray.empty]) (by have h9 := heap_alloc_new (W3.alloc (.cells #[.slice none 0 0, .slice none 0 0] 192)) (.cells #[.slice none 0 0, .pointer (some ⟨W3.heap.size, 0, none⟩), .string ByteArray.empty] 223); rw [World.size_alloc] at h9; exact h9) rfl ⟨rfl, rfl, rfl⟩) (by rw [Hfl.out]; unfold maxLen; simp; omega) (by rw [Hfl.out]; simp; omega) (by simp; omega) ?_)
  intro v1 w4 hv1 hg4 _ hn4
  have hA : Below W3.heap.size W3 ((W3.alloc (.cells #[.slice none 0 0, .slice none 0 0] 192)).alloc (.cells #[.slice none 0 0, .pointer (some ⟨W3.heap.size, 0, none⟩), .string ByteArray.empty] 223)) := ((Below.refl _ _).alloc (Nat.le_refl _) _).alloc (by simp) _
  have hfr : FrAt (g + 1) (T ++ v1.ownBlock.toList) w4 ⟨.slice none 0 0, .pointer (some ⟨W3.heap.size, 0, none⟩), ⟨#[]⟩⟩ (.ob [] []) := by
    have q1 : w4.heap[W3.heap.size]? = some (.cells #[.slice none 0 0, .slice none 0 0] 192 (0, 0)) := (grown_block hg4 (by simp; omega) (fun e => absurd (Hrow.out.at e).2.1 (Nat.lt_irrefl _))).trans (below_block ((Below.refl _ (W3.alloc (.cells #[.slice none 0 0, .slice none 0 0] 192))).alloc (Nat.le_refl _) _) (heap_alloc_new W3 _))
    have q2 : W3.heap.size ∉ T ++ v1.ownBlock.toList := fun hm => by
      rcases List.mem_append.1 hm with hm | hm
      · exact absurd (HC3.out.low _ hm).2 (Nat.lt_irrefl _)
      · rw [Option.mem_toList] at hm
        rcases hn4 with e | e
        · rw [e] at hm
          exact absurd (Hrow.out.at hm).2.1 (Nat.lt_irrefl _)
        · rw [e] at hm
          have h9 := Option.some.inj hm
          omega
    exact ⟨rfl, rfl, 1, W3.heap.size, rfl, empty_ob q1 q2⟩
  have hcore := core_push HC3.out hv1 hA (by rw [Hv.out]; exact hg4) (by rw [Hv.out]; simpa only [World.size_alloc] using hn4) rfl hfr
  obtain ⟨T4, hT4⟩ : ∃ T', T ++ v1.ownBlock.toList = T' := ⟨_, rfl⟩
  rw [hT4] at hcore
  have hsb : (Value.slice vb n cv).ownBlock ≠ some g := fun e => by have := (Hrow.out.at e).1; omega
  have hr4 : RdAt g s (i + 1) m' vst 0 w4 := (grown_block hg4 (Nat.lt_of_lt_of_le hgW hA.size) hsb).trans ((hA.block g hgW).trans HR3.out)
  have hb4 : Below g W3 w4 := ⟨hg4.os.trans hA.os, hg4.tape.trans hA.tape, hg4.output.trans hA.output, Nat.le_trans hA.size hg4.size, fun b hb => (grown_block hg4 (Nat.lt_of_lt_of_le (Nat.lt_trans hb hgW) hA.size) (fun e => by have := (Hrow.out.at e).1; omega)).trans (hA.block b (Nat.lt_trans hb hgW))⟩
  obtain ⟨sb, c5, cur5, htop⟩ := hcore.top
  obtain ⟨tv, tl, tr, tm, _⟩ := htop
  have hfn : fs.length = n := by rw [← Hfl.out, List.length_reverse]
  rw [hfn] at tv tr
  subst tv
  have HC4 := Lib.hid hcore
  have HR4 := Lib.hid hr4
  have HB4 : Hid (Below g w w4) := Lib.hid ((below_but HB3.out hgw).trans hb4)
  have Hfn := Lib.hid hfn
  have hgw4 := hr4.lt
  have z3 : w4.frozen? ⟨g, 3, none⟩ = false := free_block hr4 3
  have k3' : w4.cell? ⟨g, 3, none⟩ = some (.slice vb n cv) := by rw [← Hv.out]; exact cell_block hr4 3
  clear hv1 hg4 hn4 hA hfr hcore hT4 hr4 hb4 hsb Hrow k3 hfn
  go_upto_region 23 with fail
  generalize hW : World.setCell _ ⟨g, 3, none⟩ _ = W5
  have hR5 : RdAt g s (i + 1) m' (.slice (some ⟨sb, 0, none⟩) (n + 1) c5) 0 W5 := by rw [← hW]; exact (touch_setCell (w := w4) (i := 3) (v := .slice (some ⟨sb, 0, none⟩) (n + 1) c5) HR4.out).1
  have hB5 : But g w4 W5 := by rw [← hW]; exact But.touch (touch_setCell (w := w4) (i := 3) (v := .slice (some ⟨sb, 0, none⟩) (n + 1) c5) HR4.out).2
  have HR5 := Lib.hid hR5
  have HB5 := Lib.hid (HB4.out.trans (below_but hB5 hgw4))
  have HC5 := Lib.hid (HC4.out.but hB5)
  have hgw5 := hR5.lt
  clear hW hR5 hB5 k3' z3 HC4 HR4 HB4
  obtain ⟨z6, hz6⟩ : ∃ z, hdN (JP.skip t) = z := ⟨_, rfl⟩
  have hn6 := next_any g s (i + 1) m' (.slice (some ⟨sb, 0, none⟩) (n + 1) c5) 0 W5 HR5.out (by omega) hs
  rw [Hdt.out, hz6] at hn6
  have HN6 := Lib.hid hn6
  have Hz6 := Lib.hid hz6
  clear hn6 hz6
  go_wp2_with fail
  refine HN6.out.mono ?_
  rintro E w6 ⟨rfl, ⟨i6, hi6, hdi6, hr⟩, hb⟩
  have HR6 := Lib.hid hr
  have HB6 := Lib.hid (HB5.out.trans (below_but hb hgw5))
  have HC6 := Lib.hid (HC5.out.but hb)
  have Hd6 := Lib.hid hdi6
  have hgw6 := hr.lt
  clear hr hb hdi6 HN6
  have HX1 := Lib.hid (HX0.out.trans (beginC_obj Hl.out Hd.out))
  clear HX0
  by_cases h125 : z6 = 125
  · subst h125
    obtain ⟨t7, ht7⟩ := hd_zero (c := 125) (by decide) Hz6.out
    obtain ⟨hi7, hd7⟩ := drop_in (Hd6.out.trans ht7)
    have HX2 : Hid (X = .whole (.obj []) (s.data.toList.drop (i6 + 1)) m' st) := Lib.hid (by rw [HX1.out, if_pos Hz6.out, ht7, hd7, Hm'.out]; rfl)
    clear HX1 ht7 hd7
    have hA6 : Below w6.heap.size w6 (w6.alloc (.cells #[.slice none 0 0, .slice none 0 0] 192)) := (Below.refl _ _).alloc (Nat.le_refl _) _
    have HRA := Lib.hid (show RdAt g s i6 m' (.slice (some ⟨sb, 0, none⟩) (n + 1) c5) 0 (w6.alloc (.cells #[.slice none 0 0, .slice none 0 0] 192)) from below_block hA6 HR6.out)
    have HCA := Lib.hid (HC6.out.but (But.of hA6))
    have HBA := Lib.hid (HB6.out.trans (hA6.mono (Nat.le_of_lt hgw6)))
    clear hA6
    go_wp2_with fail
    refine (close_any g s i6 m' sb n c5 (.iface 190 (.pointer (some ⟨w6.heap.size, 0, none⟩))) _ HRA.out hi7 hs tr tm (by omega)).mono ?_
    rintro E w7 ⟨rfl, hr, hbt⟩
    have Hr := Lib.hid hr
    have Hbt := Lib.hid hbt
    clear hr hbt
    go_wp2_with fail
    go_ret2
    have q1 : w7.heap[w6.heap.size]? = some (.cells #[.slice none 0 0, .slice none 0 0] 192 (0, 0)) := Hbt.out.keep (heap_alloc_new w6 _) (by omega)
    exact outE_of (out_whole HX2.out ⟨i6 + 1, _, fs, T4, hi7, rfl, Hr.out, core_pop (HCA.out.but Hbt.out) Hfn.out, 1, _, rfl, empty_ob q1 (fun hm => absurd (HC6.out.low _ hm).2 (Nat.lt_irrefl _))⟩ (HBA.out.trans (below_but Hbt.out (HRA.out.lt))))
  · have HX2 : Hid (X = JP.fieldP (s.data.toList.drop i6) m' [] st) := Lib.hid (by rw [HX1.out, if_neg (by rw [Hz6.out]; exact h125), Hd6.out, Hm'.out])
    have n125 : (z6 == 125) = false := by rw [beq_eq_false_iff_ne]; exact h125
    clear HX1 h125
    go_wp2_with fail
    refine (field_any g s i6 m' _ _ fs T4 [] [] st w6 HR6.out HC6.out hi6 hs (by simp) (by rw [Hfn.out]; omega)).mono ?_
    intro E w7 hf
    obtain ⟨rfl, ho⟩ := out_field hf HB6.out
    have HO := Lib.hid ho
    clear hf ho
    go_wp2_with fail
    go_ret2
    exact outE_of (by rw [HX2.out]; exact HO.out _)
set_option maxRecDepth 100000 in
set_option maxHeartbeats 12800000 in
theorem begin_other (g : Nat) (s : ByteArray) (a m : Nat) (vst : Value) (fs : List GF) (T : List Nat) (st : List Fr) (w : World) (h : RdAt g s a m vst 0 w) (hc : Core g T w vst fs st) (ha : a ≤ s.size) (hs : s.size ≤ 1048576) (hm : m ≤ 1000) (hst : st.length ≤ 10) (c : UInt8) (t : Bs) (hsk : JP.skip (s.data.toList.drop a) = c :: t) (h91 : c.toNat ≠ 91) (h123 : c.toNat ≠ 123) :
    Calls Tryz.prog 94 #[.pointer (some ⟨g, 0, none⟩)] w (OutE g s w (JP.beginP (s.data.toList.drop a) m st)) := by
  have m91 : ((c.toNat : Int) == 91) = false := by rw [beq_eq_false_iff_ne]; omega
  have m123 : ((c.toNat : Int) == 123) = false := by rw [beq_eq_false_iff_ne]; omega
  have Hne : Hid (c ≠ 91 ∧ c ≠ 123) := Lib.hid ⟨fun e => h91 (by rw [e]; rfl), fun e => h123 (by rw [e]; rfl)⟩
  obtain ⟨z, hzc⟩ : ∃ z : Int, (c.toNat : Int) = z := ⟨_, rfl⟩
  rw [hzc] at m91 m123
  clear h91 h123
  have hgw := h.lt
  obtain ⟨X, HX⟩ : ∃ X, Hid (JP.beginP (s.data.toList.drop a) m st = X) := ⟨_, Lib.hid rfl⟩
  rw [HX.out]
  have hn := next_any g s a m vst 0 w h ha hs
  rw [hsk] at hn
  have HN := Lib.hid hn
  have hz : hdN ((c :: t)) = z := by rw [← hzc]; rfl
  rw [hz] at hn
  have HN := Lib.hid hn
  have Hc := Lib.hid hc
  have Hsk := Lib.hid hsk
  clear h hc hn hsk
  go_enter Tryz.func94, Tryz.ntmps94
  go_wp2_with fail
  refine HN.out.mono ?_
  rintro E w1 ⟨rfl, ⟨i, hi, hdi, hr⟩, hb⟩
  have Hr1 := Lib.hid hr
  have Hb1 := Lib.hid hb
  have Hdi := Lib.hid hdi
  have Hc1 := Lib.hid (Hc.out.but hb)
  clear hr hb hdi HN
  have Hzc := Lib.hid hzc
  clear hzc
  go_upto_region 3 with fail
  go_cut [43] (fun u43 wx => u43 = .bool (!JP.starts c) ∧ w1 = wx)
  case first =>
    have hzc := Hzc.out
    by_cases e34 : z = 34
    · subst e34
      have hS : JP.starts c = true := by rw [u8_eq (a := c) (b := 34) (by show c.toNat = 34; omega)]; decide
      have HS := Lib.hid hS
      clear hS hzc
      go_wp2_with fail
      go_meet
      exact ⟨by rw [HS.out]; rfl, rfl⟩
    have n34 : (z != 34) = true := by rw [bne_iff_ne]; exact e34
    by_cases e45 : z = 45
    · subst e45
      have hS : JP.starts c = true := by rw [u8_eq (a := c) (b := 45) (by show c.toNat = 45; omega)]; decide
      have HS := Lib.hid hS
      clear hS hzc
      go_wp2_with fail
      go_meet
      exact ⟨by rw [HS.out]; rfl, rfl⟩
    have n45 : (z != 45) = true := by rw [bne_iff_ne]; exact e45
    by_cases e116 : z = 116
    · subst e116
      have hS : JP.starts c = true := by rw [u8_eq (a := c) (b := 116) (by show c.toNat = 116; omega)]; decide
      have HS := Lib.hid hS
      clear hS hzc
      go_wp2_with fail
      go_meet
      exact ⟨by rw [HS.out]; rfl, rfl⟩
    have n116 : (z != 116) = true := by rw [bne_iff_ne]; exact e116
    by_cases e102 : z = 102
    · subst e102
      have hS : JP.starts c = true := by rw [u8_eq (a := c) (b := 102) (by show c.toNat = 102; omega)]; decide
      have HS := Lib.hid hS
      clear hS hzc
      go_wp2_with fail
      go_meet
      exact ⟨by rw [HS.out]; rfl, rfl⟩
    have n102 : (z != 102) = true := by rw [bne_iff_ne]; exact e102
    by_cases e110 : z = 110
    · subst e110
      have hS : JP.starts c = true := by rw [u8_eq (a := c) (b := 110) (by show c.toNat = 110; omega)]; decide
      have HS := Lib.hid hS
      clear hS hzc
      go_wp2_with fail
      go_meet
      exact ⟨by rw [HS.out]; rfl, rfl⟩
    have n110 : (z != 110) = true := by rw [bne_iff_ne]; exact e110
    by_cases l1 : z < 48
    · have hS : JP.starts c = false := starts_no Hzc.out m91 m123 e34 e45 e116 e102 e110 (.inl l1)
      have HS := Lib.hid hS
      have p5 : decide (z < 48) = true := decide_eq_true l1
      clear hS hzc e34 e45 e116 e102 e110
      go_wp2_with fail
      go_meet
      exact ⟨by rw [HS.out]; rfl, rfl⟩
    have p5 : decide (z < 48) = false := decide_eq_false l1
    by_cases l2 : 57 < z
    · have hS : JP.starts c = false := starts_no Hzc.out m91 m123 e34 e45 e116 e102 e110 (.inr l2)
      have HS := Lib.hid hS
      have p6 : decide (57 < z) = true := decide_eq_true l2
      clear hS hzc e34 e45 e116 e102 e110
      go_wp2_with fail
      go_meet
      exact ⟨by rw [HS.out]; rfl, rfl⟩
    have p6 : decide (57 < z) = false := decide_eq_false l2
    have hS : JP.starts c = true := starts_dig Hzc.out l1 l2
    have HS := Lib.hid hS
    clear hS hzc e34 e45 e116 e102 e110
    go_wp2_with fail
    go_meet
    exact ⟨by rw [HS.out]; rfl, rfl⟩
  case rest =>
  obtain ⟨rfl, rfl⟩ := hcut
  cases hS : JP.starts c with
  | false =>
    have HX2 : Hid (X = .bad 3) := Lib.hid (by rw [← HX.out, beginP_eq Hsk.out]; exact beginC_no hS)
    clear HX hS
    go_wp2_with fail
    refine (fail_any g s i m vst 0 3 w1 Hr1.out).mono ?_
    rintro E w2 ⟨rfl, hr, hbt⟩
    have Hr := Lib.hid hr
    have Hbt := Lib.hid (Hb1.out.trans hbt)
    clear hr hbt
    go_wp2_with fail
    go_ret2
    exact outE_of (out_bad HX2.out (by decide) Hr.out (below_but Hbt.out hgw))
  | true =>
  have HS := Lib.hid hS
  clear hS
  have k2 : w1.cell? ⟨g, 2, none⟩ = some (.int .i64 (m : Int)) := cell_block Hr1.out 2
  have z2 : w1.frozen? ⟨g, 2, none⟩ = false := free_block Hr1.out 2
  have ww1 : IntKind.i64.wrap ((m : Int) + 1) = (m : Int) + 1 := IntWalk.i64_in _ (by omega)
  go_upto_region 7 with fail
  generalize hW : World.setCell _ ⟨g, 2, none⟩ _ = W2
  obtain ⟨m', hm'⟩ : ∃ m', m + 1 = m' := ⟨_, rfl⟩
  have hR2 : RdAt g s i m' vst 0 W2 := by
    rw [← hW]; unfold RdAt; rw [show ((m' : Nat) : Int) = (m : Int) + 1 by omega]
    exact (touch_setCell (w := w1) (i := 2) (v := .int .i64 ((m : Int) + 1)) Hr1.out).1
  have hB2 : But g w W2 := by rw [← hW]; exact Hb1.out.trans (But.touch (touch_setCell (w := w1) (i := 2) (v := .int .i64 ((m : Int) + 1)) Hr1.out).2)
  have Hm' := Lib.hid hm'
  have hm9 : m' ≤ 1001 := by omega
  have HR2 := Lib.hid hR2
  have HB2 := Lib.hid hB2
  have HC2 := Lib.hid (Hc.out.but hB2)
  have k2 : W2.cell? ⟨g, 2, none⟩ = some (.int .i64 (m' : Int)) := cell_block hR2 2
  clear hW hR2 hB2 hm' z2 ww1
  by_cases hl : 200 < m'
  · have HX2 : Hid (X = .bad 2) := Lib.hid (by rw [← HX.out, beginP_eq Hsk.out]; exact beginC_large HS.out (by rw [Hm'.out]; exact hl))
    have p1 : (200 : Int) < (m' : Int) := by omega
    clear HX hl
    go_wp2_with fail
    refine (fail_any g s i m' vst 0 2 W2 HR2.out).mono ?_
    rintro E w3 ⟨rfl, hr, hbt⟩
    have hr' : RdAt g s i m' vst 2 w3 := hr
    have k4 : w3.cell? ⟨g, 4, none⟩ = some (.int .i64 2) := cell_block hr' 4
    have Hr := Lib.hid hr'
    have Hbt := Lib.hid (HB2.out.trans hbt)
    clear hr hr' hbt
    go_wp2_with fail
    go_ret2
    exact outE_of (out_bad HX2.out (by decide) Hr.out (below_but Hbt.out hgw))
  have p1 : ¬ (200 : Int) < (m' : Int) := by omega
  have Hl : Hid (¬ 200 < m + 1) := Lib.hid (by rw [Hm'.out]; exact hl)
  clear hl
  have k4 : W2.cell? ⟨g, 4, none⟩ = some (.int .i64 0) := cell_block HR2.out 4
  have HX2 : Hid (X = JP.plainP c (s.data.toList.drop i) m' st) := Lib.hid (by rw [← HX.out, beginP_eq Hsk.out, beginC_plain HS.out Hl.out Hne.out.1 Hne.out.2, Hm'.out, Hdi.out])
  obtain ⟨hil, _⟩ := drop_in Hdi.out
  have hci : s[i] = c := by have h9 := Hdi.out; rw [drop_at hil] at h9; exact (List.cons.inj h9).1
  have hp := plain_any g s i m' vst fs T st W2 HR2.out HC2.out hil hs
  rw [hci, Hzc.out, ← HX2.out] at hp
  have HP := Lib.hid hp
  clear hp hci HX HX2
  go_wp2_with fail
  refine HP.out.mono ?_
  rintro E w3 ⟨v, rfl, ho⟩
  have HO := Lib.hid ho
  clear ho
  go_wp2_with fail
  go_ret2
  exact outE_of ⟨(below_but HB2.out hgw).trans HO.out.1, HO.out.2⟩
set_option maxRecDepth 100000 in
set_option maxHeartbeats 12800000 in
theorem begin_any (g : Nat) (s : ByteArray) (a m : Nat) (vst : Value) (fs : List GF) (T : List Nat) (st : List Fr) (w : World) (h : RdAt g s a m vst 0 w) (hc : Core g T w vst fs st) (ha : a ≤ s.size) (hs : s.size ≤ 1048576) (hm : m ≤ 1000) (hst : st.length ≤ 10)  :
    Calls Tryz.prog 94 #[.pointer (some ⟨g, 0, none⟩)] w (OutE g s w (JP.beginP (s.data.toList.drop a) m st)) := by
  cases hk : JP.skip (s.data.toList.drop a) with
  | nil => exact begin_none g s a m vst fs T st w h hc ha hs hm hst hk
  | cons c t =>
    by_cases h1 : c.toNat = 91
    · rw [u8_eq (a := c) (b := 91) h1] at hk
      exact begin_list g s a m vst fs T st w h hc ha hs hm hst t hk
    · by_cases h2 : c.toNat = 123
      · rw [u8_eq (a := c) (b := 123) h2] at hk
        exact begin_obj g s a m vst fs T st w h hc ha hs hm hst t hk
      · exact begin_other g s a m vst fs T st w h hc ha hs hm hst c t hk h1 h2
end Go.Proofs.YtnnceaapodgfbaaGreatDoor
