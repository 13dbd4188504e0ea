/- Texts of ours joined: MergeInto, MergeLaws, MergeLaws2, MergeNull, MergeBoth, MergeBetween, JsonSound, JsonTell, MergeApply. -/
import Derived.Test.YtlcongehmjiabaaDoorMk5
set_option linter.unusedVariables false
set_option linter.unusedSimpArgs false
/- merge.Into: its contract. -/
namespace Go.Proofs.YtlcongehmjiabaaDoor
open Go.RowKit
open JP (JV Bs)

def IntoIH (n : Nat) : Prop := ∀ (m : Nat) (dv v : Value) (dx x : JV) (w : World), JvAt m [] w dv dx → JvAt n [] w v x → JP.wf dx → JP.wf x → JP.size dx + JP.size x ≤ 1000000 →
  Calls Tryd.prog 17 #[dv, v] w fun e w' => ∃ u, e = .returned u ∧ (∃ k, JvAt k [] w' u (JP.into dx x)) ∧ Below w.heap.size w w'
theorem into_other {d x : JV} (h : ∀ l, x ≠ .obj l) : JP.into d x = x := by
  cases x with
  | obj l => exact absurd rfl (h l)
  | _ => rfl
theorem fields_other {d : JV} (h : ∀ l, d ≠ .obj l) : JP.fieldsOf d = [] := by
  cases d with
  | obj l => exact absurd rfl (h l)
  | _ => rfl
theorem sizeF_len (l : List (Bs × JV)) : l.length ≤ JP.sizeF l := by
  induction l with
  | nil => exact Nat.le_refl _
  | cons x r ih => obtain ⟨n, v⟩ := x; have := JP.size_pos v; rw [JP.sizeF, List.length_cons]; omega
theorem below_drewNj' {B : Nat} {a w : World} (h : Below B a w) (n : Nat) : Below B a (w.drewN n) := ⟨h.os, h.tape, h.output, h.size, h.block⟩
theorem wfF_take : ∀ {l : List (Bs × JV)} (j : Nat), JP.wfF l → JP.wfF (l.take j)
  | [], _, _ => by rw [List.take_nil]; trivial
  | (n, v) :: r, 0, _ => trivial
  | (n, v) :: r, j + 1, h => by
    rw [JP.wfF] at h
    rw [List.take_succ_cons, JP.wfF]
    exact ⟨h.1, h.2.1, wfF_take j h.2.2⟩
theorem sizeF_at : ∀ {l : List (Bs × JV)} {j : Nat} {y : Bs × JV}, l[j]? = some y → JP.sizeF (l.take j) + JP.size y.2 ≤ JP.sizeF l
  | [], _, _, h => by simp at h
  | (n, v) :: r, 0, y, h => by
    simp only [List.getElem?_cons_zero, Option.some.injEq] at h
    subst h
    rw [List.take_zero, JP.sizeF, JP.sizeF]
    show 0 + JP.size v ≤ _
    omega
  | (n, v) :: r, j + 1, y, h => by
    rw [List.getElem?_cons_succ] at h
    have := sizeF_at h
    rw [List.take_succ_cons, JP.sizeF, JP.sizeF]; omega
theorem wfF_at : ∀ {l : List (Bs × JV)} {j : Nat} {y : Bs × JV}, JP.wfF l → l[j]? = some y → JP.wf y.2
  | [], _, _, _, h => by simp at h
  | (n, v) :: r, 0, y, hw, h => by
    simp only [List.getElem?_cons_zero, Option.some.injEq] at h
    subst h
    rw [JP.wfF] at hw; exact hw.2.1
  | (n, v) :: r, j + 1, y, hw, h => by
    rw [List.getElem?_cons_succ] at h
    rw [JP.wfF] at hw
    exact wfF_at hw.2.2 h
theorem size_getD (n : Bs) : ∀ (d : List (Bs × JV)), JP.size ((JP.get n d).getD .nul) ≤ JP.sizeF d + 1
  | [] => by simp [JP.get, JP.size]
  | (m, x) :: r => by
    have ih := size_getD n r
    rw [JP.get, JP.sizeF]
    by_cases h : m = n
    · rw [if_pos h]; simp only [Option.getD]; omega
    · rw [if_neg h]; omega
theorem jv_iface {n : Nat} {T : List Nat} {w : World} {v : Value} {x : JV} (h : JvAt n T w v x) (hx : x ≠ .nul) : ∃ t u, v = .iface t u := by
  cases n with
  | zero => cases h
  | succ n =>
    cases x with
    | nul => exact absurd rfl hx
    | bool _ => exact ⟨_, _, h⟩
    | num _ => exact ⟨_, _, h.1⟩
    | str _ => exact ⟨_, _, h⟩
    | list l => obtain ⟨_, h1, _⟩ := h; exact ⟨_, _, h1⟩
    | obj l => obtain ⟨_, h1, _⟩ := h; exact ⟨_, _, h1⟩
set_option maxRecDepth 100000 in
set_option maxHeartbeats 6400000 in
theorem into_any : ∀ n : Nat, IntoIH n := by
  intro n
  induction n with
  | zero => intro m dv v dx x w _ h; cases h
  | succ n ih =>
    intro m dv v dx x w hd h hwd hwx hsz
    by_cases hob : ∃ l, x = .obj l
    · obtain ⟨l, rfl⟩ := hob
      have hv := h
      obtain ⟨q, rfl, hobr⟩ := h
      have G1 := (as_obj (.pointer (some ⟨q, 0, none⟩))).2.2.2.2
      have IH := Lib.hid ih
      obtain ⟨_, hs, vn, vv, cn, cv, hrn, _, hrv, _⟩ := hobr
      obtain ⟨a1, c1, hu1, _, _⟩ := hrn.len
      obtain ⟨ln, hln⟩ : ∃ ln, l.length = ln := ⟨_, rfl⟩
      rw [List.length_map, hln] at hu1
      subst hu1
      have hlz : ln ≤ 1000000 := by
        have := sizeF_len l
        rw [JP.size] at hsz
        omega
      have Hln := Lib.hid hln
      have Hrn := Lib.hid hrn
      have Hs := Lib.hid hs
      have Hx := Lib.hid hwx
      have Hd := Lib.hid hwd
      have Hsz := Lib.hid hsz
      have Hv := Lib.hid hv
      have way : (∃ d qd M, dx = .obj d ∧ dv = .iface 43 (.pointer (some ⟨qd, 0, none⟩)) ∧ ObR (JvR M []) [] w qd d) ∨ (∀ d, dx ≠ .obj d) ∧ (∀ w' : World, (Instr.typeAssert dv 32 43 true).run Tryd.prog w' = .ok (.tuple #[.pointer none, .bool false]) w') := by
        by_cases hdo : ∃ d, dx = .obj d
        · obtain ⟨d, rfl⟩ := hdo
          cases m with
          | zero => cases hd
          | succ m =>
            obtain ⟨qd, rfl, hdr⟩ := hd
            exact .inl ⟨d, qd, m, rfl, rfl, hdr⟩
        · have hdn : ∀ d, dx ≠ .obj d := fun d e => hdo ⟨d, e⟩
          exact .inr ⟨hdn, as_other hd hdn⟩
      clear hd hv hwd hwx hsz ih hs hrn hrv hln
      rcases way with ⟨d, qd, M, rfl, rfl, hdr⟩ | ⟨hdn, G2⟩
      · have G2 := (as_obj (.pointer (some ⟨qd, 0, none⟩))).2.2.2.2
        have Hout := Lib.hid hdr
        have HF : Hid (JP.fieldsOf (.obj d) = d) := Lib.hid rfl
        clear hdr
        go_enter Tryd.func17, Tryd.ntmps17
        go_wp2_with fail
        refine (names_any q _ w cn).mono ?_
        rintro E w1 ⟨rfl, rfl⟩
        have HB0 := Lib.hid (Below.refl w.heap.size w)
        go_wp2_with fail
        have hout0 : ObR (JvR M []) [] w qd (JP.intoF d (l.take 0)) := by rw [List.take_zero, JP.intoF_nil]; exact Hout.out
        have Hout0 := Lib.hid hout0
        clear hout0
        go_loopg [34, 7] ln (fun k u34 u7 wr => ∃ (i qo M : Nat), i + k = ln ∧ u34 = .int .i64 (i : Int) ∧ u7 = .pointer (some ⟨qo, 0, none⟩) ∧ Hid (ObR (JvR M []) [] wr qo (JP.intoF d (l.take i))) ∧ Hid (Below w.heap.size w wr))
        case atStart => exact ⟨0, qd, M, by omega, rfl, rfl, Hout0, HB0⟩
        case round =>
          obtain ⟨i, qo, M2, hik, rfl, rfl, HO, HB⟩ := hrel
          cases gk with
          | zero =>
            have q1 : ¬ (i : Int) < (ln : Int) := by omega
            have Hfin : Hid (JP.intoF d (l.take i) = JP.intoF d l) := Lib.hid (by rw [List.take_of_length_le (by rw [Hln.out]; omega)])
            go_wp2_with fail
            go_ret
            refine ⟨_, rfl, ⟨M2 + 1, qo, rfl, ?_⟩, HB.out⟩
            rw [← (show JP.intoF d l = JP.intoF (JP.fieldsOf (.obj d)) l from rfl), ← Hfin.out]
            exact HO.out
          | succ k =>
            have hil : i < ln := by omega
            obtain ⟨y, hy⟩ : ∃ y, l[i]? = some y := ⟨l[i]'(by rw [Hln.out]; exact hil), List.getElem?_eq_getElem _⟩
            obtain ⟨b1, o1, c', hv1, _, _, hbs1, hcell1⟩ := Hrn.out.form (by rw [List.length_map, Hln.out]; omega) (by omega)
            injection hv1 with u1 u2 u3
            subst u1
            clear u2 u3
            obtain ⟨ds1, _, hcc1, hR1⟩ := hcell1 i (mkB y.1) (by rw [List.getElem?_map, hy]; rfl)
            obtain rfl : ds1 = [.string (mkB y.1)] := hR1
            have e0 : wr.cell? ⟨b1, o1 + i, none⟩ = some (.string (mkB y.1)) := (HB.out.cell (p := ⟨b1, _, none⟩) hbs1).trans (by simpa using hcc1 0 _ rfl)
            have q1 : (0 : Int) ≤ (i : Int) := by omega
            have q2 : (i : Int) < (ln : Int) := by omega
            have hget : JP.get y.1 l = some y.2 := get_of_at Hs.out (by rw [hy])
            have Hy := Lib.hid hy
            have HP : Hid (ObR (JvR n []) [] wr q l) := Lib.hid (by
              obtain ⟨q', e, h'⟩ := (Hv.out.below HB.out)
              have : q' = q := by injection e with _ e; injection e with e; injection e with e; injection e with e; exact e.symm
              subst this
              exact h')
            have hg := get_any (x := y.1) HP.out (by rw [Hln.out]; omega)
            rw [hget] at hg
            have HG := Lib.hid hg
            clear hg hcell1 hcc1 hy hget
            go_wp2_with fail
            refine HG.out.mono ?_
            rintro E w2 ⟨vg, rfl, hsome, _, kk, rfl⟩
            have hjv := (hsome y.2 rfl).keepT (KeepT.drewN wr kk)
            have hwl : JP.wfF l := by have h9 := Hx.out; rw [JP.wf] at h9; exact h9.2
            obtain ⟨z1, z2⟩ := JP.into_size.2.2 (l.take i) (wfF_take i hwl) d (JP.wf_fields Hd.out)
            have z3 := sizeF_at Hy.out
            have z4 := JP.sizeF_fields (.obj d)
            have z5 : JP.size (.obj d) + (1 + JP.sizeF l) ≤ 1000000 := by have h9 := Hsz.out; rw [JP.size] at h9; exact h9
            have z6 : JP.fieldsOf (.obj d) = d := rfl
            rw [z6] at z4
            have hol := sizeF_len (JP.intoF d (l.take i))
            have hHO : ObR (JvR M2 []) [] (wr.drewN kk) qo (JP.intoF d (l.take i)) := HO.out.keepJ (KeepT.drewN wr kk)
            have HB2 := Lib.hid (below_drewNj' HB.out kk)
            have htk := intoF_take (out := d) Hy.out
            obtain ⟨O, hO⟩ : ∃ O, JP.intoF d (l.take i) = O := ⟨_, rfl⟩
            rw [hO] at z1 z2 hol hHO htk
            have Htk := Lib.hid htk
            have hOl : O.length ≤ 1000000 := by omega
            by_cases hn : y.2 = .nul
            · rw [hn] at hjv
              have hvg : vg = .nilIface := by
                cases n with
                | zero => cases hjv
                | succ n => exact hjv
              subst hvg
              have HW := Lib.hid (without_any (x := y.1) hHO (fun b hb => by cases hb) (by omega))
              have Hn := Lib.hid hn
              clear hjv hsome hn hHO htk hO z1 z2 z3 z4 z5 z6 hol HG
              go_wp2_with fail
              refine HW.out.mono ?_
              rintro E w3 ⟨q3, rfl, ho3, hb3⟩
              have HO3 : Hid (ObR (JvR M2 []) [] w3 q3 (JP.intoF d (l.take (i + 1)))) := Lib.hid (by rw [Htk.out, Hn.out, JP.into1_nul]; exact ho3)
              have HB3 := Lib.hid (HB2.out.trans (hb3.mono HB2.out.size))
              clear ho3 hb3
              go_wp2_with fail
              go_roundg k
              case measure => omega
              case rel => exact ⟨i + 1, q3, M2, by omega, by go_num, rfl, HO3, HB3⟩
            · obtain ⟨tv, uv, rfl⟩ := jv_iface hjv hn
              have HG2 := Lib.hid (get_any (x := y.1) hHO (by omega))
              have hwy := wfF_at hwl Hy.out
              have hsg := size_getD y.1 O
              have hsz2 : JP.size ((JP.get y.1 O).getD .nul) + JP.size y.2 ≤ 1000000 := by omega
              have hwg := JP.wf_get y.1 z1.2
              have HJ := Lib.hid hjv
              have Hput : Hid (JP.into1 y.1 O y.2 = JP.put y.1 (JP.into ((JP.get y.1 O).getD .nul) y.2) O) := Lib.hid (JP.into1_put _ _ _ hn)
              have HHO := Lib.hid hHO
              have Hwy := Lib.hid hwy
              have Hwg := Lib.hid hwg
              have Hsz2 := Lib.hid hsz2
              clear hjv hsome hn hHO htk hO z1 z2 z3 z4 z5 z6 hol HG hwy hwg hsg hsz2 hwl
              go_wp2_with fail
              refine HG2.out.mono ?_
              rintro E w3 ⟨vg2, rfl, hs2, hn2, k2, rfl⟩
              obtain ⟨m2, hm2⟩ : ∃ m2, JvAt m2 [] ((wr.drewN kk).drewN k2) vg2 ((JP.get y.1 O).getD .nul) := by
                cases hgo : JP.get y.1 O with
                | none => exact ⟨1, hn2 hgo⟩
                | some u => exact ⟨M2, (hs2 u hgo).keepT (KeepT.drewN _ k2)⟩
              have hcall := IH.out m2 vg2 (.iface tv uv) _ y.2 _ hm2 (HJ.out.keepT (KeepT.drewN _ k2)) Hwg.out Hwy.out Hsz2.out
              have hdd : (wr.drewN kk).drewN k2 = wr.drewN (kk + k2) := by simp
              have hB3 := below_drewNj' HB2.out k2
              have hO4 := HHO.out.keepJ (KeepT.drewN (wr.drewN kk) k2)
              rw [hdd] at hcall hB3 hO4
              have HCa := Lib.hid hcall
              have HB3 := Lib.hid hB3
              have HO4 := Lib.hid hO4
              clear hdd hB3 hO4
              clear hs2 hn2 hm2 hcall HG2
              go_wp2_with fail
              refine HCa.out.mono ?_
              rintro E w4 ⟨r4, rfl, ⟨m4, hr4⟩, hb4⟩
              have HWi := Lib.hid (with_any (x := y.1) ((HO4.out.keepJ (KeepT.of hb4)).upsJ (Nat.le_max_left M2 m4)) (hr4.ups (Nat.le_max_right M2 m4)) (fun b hb => by cases hb) (by omega))
              have HB4 := Lib.hid (HB3.out.trans (hb4.mono HB3.out.size))
              clear hr4 hb4
              go_wp2_with fail
              refine HWi.out.mono ?_
              rintro E w5 ⟨q5, rfl, ho5, hb5⟩
              have HO5 : Hid (ObR (JvR (max M2 m4) []) [] w5 q5 (JP.intoF d (l.take (i + 1)))) := Lib.hid (by rw [Htk.out, Hput.out]; exact ho5)
              have HB5 := Lib.hid (HB4.out.trans (hb5.mono HB4.out.size))
              clear ho5 hb5
              go_wp2_with fail
              go_roundg k
              case measure => omega
              case rel => exact ⟨i + 1, q5, max M2 m4, by omega, by go_num, rfl, HO5, HB5⟩
      · have HDN := Lib.hid hdn
        have hbA : Below w.heap.size w (w.alloc (.cells #[.slice none 0 0, .slice none 0 0] 56)) := (Below.refl _ _).alloc (Nat.le_refl _) _
        have hqw : q < w.heap.size := World.block_lt_of_cell? w ⟨q, 0, none⟩ cn
        have cn2 := (hbA.cell (p := ⟨q, 0, none⟩) hqw).trans cn
        have HB0 := Lib.hid hbA
        have Hout : Hid (ObR (JvR 0 []) [] (w.alloc (.cells #[.slice none 0 0, .slice none 0 0] 56)) w.heap.size []) := Lib.hid (empty_ob (heap_alloc_new w _) (by simp))
        clear hdn hbA
        go_enter Tryd.func17, Tryd.ntmps17
        go_wp2_with fail
        refine (names_any q _ _ cn2).mono ?_
        rintro E w1 ⟨rfl, rfl⟩
        go_wp2_with fail
        have hout0 : ObR (JvR 0 []) [] (w.alloc (.cells #[.slice none 0 0, .slice none 0 0] 56)) w.heap.size (JP.intoF [] (l.take 0)) := by rw [List.take_zero, JP.intoF_nil]; exact Hout.out
        have Hout0 := Lib.hid hout0
        clear hout0
        go_loopg [34, 7] ln (fun k u34 u7 wr => ∃ (i qo M : Nat), i + k = ln ∧ u34 = .int .i64 (i : Int) ∧ u7 = .pointer (some ⟨qo, 0, none⟩) ∧ Hid (ObR (JvR M []) [] wr qo (JP.intoF [] (l.take i))) ∧ Hid (Below w.heap.size w wr))
        case atStart => exact ⟨0, w.heap.size, 0, by omega, rfl, rfl, Hout0, HB0⟩
        case round =>
          obtain ⟨i, qo, M2, hik, rfl, rfl, HO, HB⟩ := hrel
          cases gk with
          | zero =>
            have q1 : ¬ (i : Int) < (ln : Int) := by omega
            have Hfin : Hid (JP.intoF [] (l.take i) = JP.intoF [] l) := Lib.hid (by rw [List.take_of_length_le (by rw [Hln.out]; omega)])
            go_wp2_with fail
            go_ret
            refine ⟨_, rfl, ⟨M2 + 1, qo, rfl, ?_⟩, HB.out⟩
            rw [← (show JP.intoF [] l = JP.intoF (JP.fieldsOf dx) l from by rw [fields_other HDN.out]), ← Hfin.out]
            exact HO.out
          | succ k =>
            have hil : i < ln := by omega
            obtain ⟨y, hy⟩ : ∃ y, l[i]? = some y := ⟨l[i]'(by rw [Hln.out]; exact hil), List.getElem?_eq_getElem _⟩
            obtain ⟨b1, o1, c', hv1, _, _, hbs1, hcell1⟩ := Hrn.out.form (by rw [List.length_map, Hln.out]; omega) (by omega)
            injection hv1 with u1 u2 u3
            subst u1
            clear u2 u3
            obtain ⟨ds1, _, hcc1, hR1⟩ := hcell1 i (mkB y.1) (by rw [List.getElem?_map, hy]; rfl)
            obtain rfl : ds1 = [.string (mkB y.1)] := hR1
            have e0 : wr.cell? ⟨b1, o1 + i, none⟩ = some (.string (mkB y.1)) := (HB.out.cell (p := ⟨b1, _, none⟩) hbs1).trans (by simpa using hcc1 0 _ rfl)
            have q1 : (0 : Int) ≤ (i : Int) := by omega
            have q2 : (i : Int) < (ln : Int) := by omega
            have hget : JP.get y.1 l = some y.2 := get_of_at Hs.out (by rw [hy])
            have Hy := Lib.hid hy
            have HP : Hid (ObR (JvR n []) [] wr q l) := Lib.hid (by
              obtain ⟨q', e, h'⟩ := (Hv.out.below HB.out)
              have : q' = q := by injection e with _ e; injection e with e; injection e with e; injection e with e; exact e.symm
              subst this
              exact h')
            have hg := get_any (x := y.1) HP.out (by rw [Hln.out]; omega)
            rw [hget] at hg
            have HG := Lib.hid hg
            clear hg hcell1 hcc1 hy hget
            go_wp2_with fail
            refine HG.out.mono ?_
            rintro E w2 ⟨vg, rfl, hsome, _, kk, rfl⟩
            have hjv := (hsome y.2 rfl).keepT (KeepT.drewN wr kk)
            have hwl : JP.wfF l := by have h9 := Hx.out; rw [JP.wf] at h9; exact h9.2
            obtain ⟨z1, z2⟩ := JP.into_size.2.2 (l.take i) (wfF_take i hwl) [] ⟨List.Pairwise.nil, trivial⟩
            have z3 := sizeF_at Hy.out
            have z4 := JP.sizeF_fields dx
            have z5 : JP.size dx + (1 + JP.sizeF l) ≤ 1000000 := by have h9 := Hsz.out; rw [JP.size] at h9; exact h9
            have z6 : JP.fieldsOf dx = [] := fields_other HDN.out
            rw [z6] at z4
            have hol := sizeF_len (JP.intoF [] (l.take i))
            have hHO : ObR (JvR M2 []) [] (wr.drewN kk) qo (JP.intoF [] (l.take i)) := HO.out.keepJ (KeepT.drewN wr kk)
            have HB2 := Lib.hid (below_drewNj' HB.out kk)
            have htk := intoF_take (out := []) Hy.out
            obtain ⟨O, hO⟩ : ∃ O, JP.intoF [] (l.take i) = O := ⟨_, rfl⟩
            rw [hO] at z1 z2 hol hHO htk
            have Htk := Lib.hid htk
            have hOl : O.length ≤ 1000000 := by omega
            by_cases hn : y.2 = .nul
            · rw [hn] at hjv
              have hvg : vg = .nilIface := by
                cases n with
                | zero => cases hjv
                | succ n => exact hjv
              subst hvg
              have HW := Lib.hid (without_any (x := y.1) hHO (fun b hb => by cases hb) (by omega))
              have Hn := Lib.hid hn
              clear hjv hsome hn hHO htk hO z1 z2 z3 z4 z5 z6 hol HG
              go_wp2_with fail
              refine HW.out.mono ?_
              rintro E w3 ⟨q3, rfl, ho3, hb3⟩
              have HO3 : Hid (ObR (JvR M2 []) [] w3 q3 (JP.intoF [] (l.take (i + 1)))) := Lib.hid (by rw [Htk.out, Hn.out, JP.into1_nul]; exact ho3)
              have HB3 := Lib.hid (HB2.out.trans (hb3.mono HB2.out.size))
              clear ho3 hb3
              go_wp2_with fail
              go_roundg k
              case measure => omega
              case rel => exact ⟨i + 1, q3, M2, by omega, by go_num, rfl, HO3, HB3⟩
            · obtain ⟨tv, uv, rfl⟩ := jv_iface hjv hn
              have HG2 := Lib.hid (get_any (x := y.1) hHO (by omega))
              have hwy := wfF_at hwl Hy.out
              have hsg := size_getD y.1 O
              have hsz2 : JP.size ((JP.get y.1 O).getD .nul) + JP.size y.2 ≤ 1000000 := by omega
              have hwg := JP.wf_get y.1 z1.2
              have HJ := Lib.hid hjv
              have Hput : Hid (JP.into1 y.1 O y.2 = JP.put y.1 (JP.into ((JP.get y.1 O).getD .nul) y.2) O) := Lib.hid (JP.into1_put _ _ _ hn)
              have HHO := Lib.hid hHO
              have Hwy := Lib.hid hwy
              have Hwg := Lib.hid hwg
              have Hsz2 := Lib.hid hsz2
              clear hjv hsome hn hHO htk hO z1 z2 z3 z4 z5 z6 hol HG hwy hwg hsg hsz2 hwl
              go_wp2_with fail
              refine HG2.out.mono ?_
              rintro E w3 ⟨vg2, rfl, hs2, hn2, k2, rfl⟩
              obtain ⟨m2, hm2⟩ : ∃ m2, JvAt m2 [] ((wr.drewN kk).drewN k2) vg2 ((JP.get y.1 O).getD .nul) := by
                cases hgo : JP.get y.1 O with
                | none => exact ⟨1, hn2 hgo⟩
                | some u => exact ⟨M2, (hs2 u hgo).keepT (KeepT.drewN _ k2)⟩
              have hcall := IH.out m2 vg2 (.iface tv uv) _ y.2 _ hm2 (HJ.out.keepT (KeepT.drewN _ k2)) Hwg.out Hwy.out Hsz2.out
              have hdd : (wr.drewN kk).drewN k2 = wr.drewN (kk + k2) := by simp
              have hB3 := below_drewNj' HB2.out k2
              have hO4 := HHO.out.keepJ (KeepT.drewN (wr.drewN kk) k2)
              rw [hdd] at hcall hB3 hO4
              have HCa := Lib.hid hcall
              have HB3 := Lib.hid hB3
              have HO4 := Lib.hid hO4
              clear hdd hB3 hO4
              clear hs2 hn2 hm2 hcall HG2
              go_wp2_with fail
              refine HCa.out.mono ?_
              rintro E w4 ⟨r4, rfl, ⟨m4, hr4⟩, hb4⟩
              have HWi := Lib.hid (with_any (x := y.1) ((HO4.out.keepJ (KeepT.of hb4)).upsJ (Nat.le_max_left M2 m4)) (hr4.ups (Nat.le_max_right M2 m4)) (fun b hb => by cases hb) (by omega))
              have HB4 := Lib.hid (HB3.out.trans (hb4.mono HB3.out.size))
              clear hr4 hb4
              go_wp2_with fail
              refine HWi.out.mono ?_
              rintro E w5 ⟨q5, rfl, ho5, hb5⟩
              have HO5 : Hid (ObR (JvR (max M2 m4) []) [] w5 q5 (JP.intoF [] (l.take (i + 1)))) := Lib.hid (by rw [Htk.out, Hput.out]; exact ho5)
              have HB5 := Lib.hid (HB4.out.trans (hb5.mono HB4.out.size))
              clear ho5 hb5
              go_wp2_with fail
              go_roundg k
              case measure => omega
              case rel => exact ⟨i + 1, q5, max M2 m4, by omega, by go_num, rfl, HO5, HB5⟩
    · have hx : ∀ l, x ≠ .obj l := fun l e => hob ⟨l, e⟩
      have G1 := as_other h hx
      have hi := into_other (d := dx) hx
      rw [hi]
      have H := Lib.hid h
      clear h hx hi hob ih hd hwd hwx hsz
      go_enter Tryd.func17, Tryd.ntmps17
      go_wp2_with fail
      go_ret
      exact ⟨_, rfl, ⟨_, H.out⟩, Below.refl _ _⟩
end Go.Proofs.YtlcongehmjiabaaDoor
/- merge: the laws of Into, between and both, in plain Lean. -/
namespace Go.Proofs.YtlcongehmjiabaaDoor
open Go
namespace JP
abbrev Fs := List (Bs × JV)
theorem get_put_same (n : Bs) (v : JV) : ∀ d : Fs, get n (put n v d) = some v
  | [] => by rw [put, get, if_pos rfl]
  | (m, x) :: r => by
    rw [put]
    by_cases hlt : m < n
    · rw [if_pos hlt, get, if_neg (fun e => by subst e; exact List.lt_irrefl _ hlt)]
      exact get_put_same n v r
    · rw [if_neg hlt]
      by_cases he : m = n
      · rw [if_pos he, get, if_pos rfl]
      · rw [if_neg he, get, if_pos rfl]
theorem get_put_ne {k n : Bs} (v : JV) (h : k ≠ n) : ∀ d : Fs, get k (put n v d) = get k d
  | [] => by simp only [put, get, if_neg (fun e : n = k => h e.symm)]
  | (m, x) :: r => by
    rw [put]
    by_cases hlt : m < n
    · rw [if_pos hlt, get, get, get_put_ne v h r]
    · rw [if_neg hlt]
      by_cases he : m = n
      · rw [if_pos he, get, get, if_neg (fun e => h e.symm), if_neg (fun e => h (e.symm.trans he))]
      · rw [if_neg he, get, if_neg (fun e => h e.symm)]
theorem get_put (k n : Bs) (v : JV) (d : Fs) : get k (put n v d) = if k = n then some v else get k d := by
  by_cases h : k = n
  · rw [if_pos h, h]; exact get_put_same n v d
  · rw [if_neg h]; exact get_put_ne v h d
theorem get_cut (k n : Bs) : ∀ d : Fs, get k (cut n d) = if k = n then none else get k d
  | [] => by unfold cut; rw [List.filter_nil, get]; split <;> rfl
  | (m, x) :: r => by
    have ih := get_cut k n r
    unfold cut at ih ⊢
    by_cases hm : m = n
    · rw [List.filter_cons_of_neg (by simpa using hm), ih]
      by_cases hk : k = n
      · rw [if_pos hk, if_pos hk]
      · rw [if_neg hk, if_neg hk, get, if_neg (fun e => hk (e.symm.trans hm))]
    · rw [List.filter_cons_of_pos (by simpa using hm), get, ih, get]
      by_cases hk : k = n
      · rw [if_pos hk, if_pos hk, if_neg (fun e => hm (e.trans hk))]
      · rw [if_neg hk, if_neg hk]
theorem get_lt {n : Bs} : ∀ {d : Fs}, (∀ x ∈ d, n < x.1) → get n d = none
  | [], _ => rfl
  | (m, x) :: r, h => by
    rw [get, if_neg, get_lt fun y hy => h y (List.mem_cons_of_mem _ hy)]
    intro e
    have := h (m, x) (List.mem_cons_self ..)
    rw [e] at this
    exact List.lt_irrefl _ this
/-- two lists of fields with the same field at every name are the same -/
theorem fs_ext : ∀ {a b : Fs}, Srt a → Srt b → (∀ n, get n a = get n b) → a = b
  | [], [], _, _, _ => rfl
  | [], (m, x) :: r, _, _, h => by have := h m; rw [get, get, if_pos rfl] at this; cases this
  | (m, x) :: r, [], _, _, h => by have := h m; rw [get, get, if_pos rfl] at this; cases this
  | (m, x) :: r, (k, y) :: s, ha, hb, h => by
    obtain ⟨a1, a2⟩ := List.pairwise_cons.1 ha
    obtain ⟨b1, b2⟩ := List.pairwise_cons.1 hb
    have hmk : m = k := by
      by_cases h1 : m < k
      · have := h m
        rw [get, if_pos rfl, get_lt] at this
        · cases this
        · intro z hz
          rcases List.mem_cons.1 hz with rfl | hz
          · exact h1
          · exact List.lt_trans h1 (b1 z hz)
      · by_cases h2 : m = k
        · exact h2
        · have h3 : k < m := bs_trich m k h1 h2
          have := h k
          rw [get_lt (d := (m, x) :: r), get, if_pos rfl] at this
          · cases this
          · intro z hz
            rcases List.mem_cons.1 hz with rfl | hz
            · exact h3
            · exact List.lt_trans h3 (a1 z hz)
    subst hmk
    have hxy : x = y := by have := h m; rw [get, get, if_pos rfl, if_pos rfl] at this; exact Option.some.inj this
    subst hxy
    rw [fs_ext a2 b2]
    intro n
    by_cases hn : m = n
    · subst hn
      rw [get_lt a1, get_lt b1]
    · have := h n
      rw [get, get, if_neg hn, if_neg hn] at this
      exact this
theorem get_tail {n m : Bs} {w : JV} {r : Fs} (h : Srt ((n, w) :: r)) (he : m = n) : get m r = none := by
  obtain ⟨h1, _⟩ := List.pairwise_cons.1 h
  rw [he]
  exact get_lt h1

/-! Into -/
def isNul : JV → Bool
  | .nul => true
  | _ => false
theorem isNul_iff {w : JV} : isNul w = true ↔ w = .nul := by cases w <;> simp [isNul]
def fieldI (o : Option JV) (w : JV) : Option JV := if isNul w = true then none else some (into (o.getD .nul) w)
theorem fieldI_nul (o : Option JV) : fieldI o .nul = none := rfl
theorem fieldI_some {o : Option JV} {w : JV} (h : w ≠ .nul) : fieldI o w = some (into (o.getD .nul) w) := if_neg fun e => h (isNul_iff.1 e)
theorem get_into1 (m n : Bs) (out : Fs) (w : JV) : get m (into1 n out w) = if m = n then fieldI (get n out) w else get m out := by
  by_cases hw : w = .nul
  · rw [hw, into1_nul, get_cut, fieldI_nul]
  · rw [into1_put _ _ _ hw, get_put, fieldI_some hw]
theorem get_intoF (m : Bs) : ∀ (l out : Fs), Srt l → get m (intoF out l) = match get m l with
    | none => get m out
    | some w => fieldI (get m out) w
  | [], out, _ => by rw [intoF_nil, get]
  | (n, w) :: r, out, h => by
    have h2 := (List.pairwise_cons.1 h).2
    rw [intoF_cons, get_intoF m r _ h2, get]
    by_cases he : n = m
    · rw [get_tail h he.symm, if_pos he]
      dsimp only
      rw [get_into1, if_pos he.symm, he]
    · rw [if_neg he, get_into1, if_neg (fun e => he e.symm)]
theorem srt_into1 {n : Bs} {out : Fs} {w : JV} (h : Srt out) : Srt (into1 n out w) := by
  by_cases hw : w = .nul
  · rw [hw, into1_nul]; exact srt_cut n h
  · rw [into1_put _ _ _ hw]; exact put_srt h
theorem srt_intoF : ∀ {l out : Fs}, Srt out → Srt (intoF out l)
  | [], out, h => by rw [intoF_nil]; exact h
  | (n, w) :: r, out, h => by rw [intoF_cons]; exact srt_intoF (srt_into1 h)
theorem wf_obj {l : Fs} (h : wf (.obj l)) : Srt l ∧ wfF l := by rw [wf] at h; exact h
theorem srt_fields {d : JV} (h : wf d) : Srt (fieldsOf d) := (wf_fields h).1
theorem wf_at {n : Bs} {l : Fs} {x : JV} (h : wfF l) (hg : get n l = some x) : wf x := by have := wf_get n h; rw [hg] at this; exact this
theorem wf_into {d x : JV} (hd : wf d) (hx : wf x) : wf (into d x) := by
  cases x with
  | obj l =>
    obtain ⟨⟨h1, h2⟩, _⟩ := into_size.2.2 l (wf_obj hx).2 (fieldsOf d) (wf_fields hd)
    rw [into, wf]; exact ⟨h1, h2⟩
  | _ => exact hx
/-- by the fields that a value has -/
theorem JV.byGet {P : JV → Prop} (h : ∀ v, (∀ l n x, v = .obj l → get n l = some x → P x) → P v) (v : JV) : P v := by
  refine (JV.both (P := P) (PL := fun _ => True) (PF := fun l => ∀ n x, get n l = some x → P x) ?_ ?_ ?_ ?_ ?_ ?_ trivial (fun _ _ _ _ => trivial) ?_ ?_).1 v
  · exact h _ fun l n x e => by cases e
  · exact fun b => h _ fun l n x e => by cases e
  · exact fun b => h _ fun l n x e => by cases e
  · exact fun b => h _ fun l n x e => by cases e
  · exact fun b _ => h _ fun l n x e => by cases e
  · exact fun l ih => h _ fun l' n x e hg => by cases e; exact ih n x hg
  · intro n x hg; rw [get] at hg; cases hg
  · intro n v r hv hr m x hg
    rw [get] at hg
    by_cases hm : n = m
    · rw [if_pos hm] at hg; cases hg; exact hv
    · rw [if_neg hm] at hg; exact hr m x hg
theorem not_obj {x : JV} (h : ∀ l, x ≠ .obj l) (d : JV) : into d x = x := by
  cases x with
  | obj l => exact absurd rfl (h l)
  | _ => rfl
theorem obj_or (x : JV) : (∃ l, x = .obj l) ∨ ∀ l, x ≠ .obj l := by
  cases x with
  | obj l => exact .inl ⟨l, rfl⟩
  | _ => exact .inr fun l e => by cases e
/-- MergeAgain -/
theorem into_again : ∀ p d : JV, wf d → wf p → into (into d p) p = into d p := by
  intro p
  refine JV.byGet (P := fun p => ∀ d : JV, wf d → wf p → into (into d p) p = into d p) (fun p ih => ?_) p
  intro d hd hp
  rcases obj_or p with ⟨l, rfl⟩ | h
  · obtain ⟨s1, s2⟩ := wf_obj hp
    rw [into, into]
    show JV.obj (intoF (intoF (fieldsOf d) l) l) = _
    refine congrArg JV.obj (fs_ext (srt_intoF (srt_intoF (srt_fields hd))) (srt_intoF (srt_fields hd)) fun n => ?_)
    rw [get_intoF n l _ s1, get_intoF n l _ s1]
    cases hg : get n l with
    | none => rfl
    | some w =>
      dsimp only
      by_cases hw : w = .nul
      · rw [hw, fieldI_nul, fieldI_nul]
      · rw [fieldI_some hw, fieldI_some hw]
        refine congrArg some ?_
        exact ih l n w rfl hg _ (wf_get n (wf_fields hd).2) (wf_at s2 hg)
  · rw [not_obj h, not_obj h]

/-! both -/
mutual
def both : JV → JV → Option JV
  | p, .obj l => match p with
    | .obj h => (bothF h l).map .obj
    | _ => none
  | _, .nul => some .nul
  | _, .bool b => some (.bool b)
  | _, .num b => some (.num b)
  | _, .str b => some (.str b)
  | _, .list b => some (.list b)
termination_by structural _ x => x
def bothF : Fs → Fs → Option Fs
  | out, [] => some out
  | out, (n, w) :: r => (match get n out with
    | some v => both v w
    | none => some w).bind fun x => bothF (put n x out) r
termination_by structural _ x => x
end
def bothO (o : Option JV) (w : JV) : Option JV := match o with
  | some v => both v w
  | none => some w
theorem bothF_nil (out : Fs) : bothF out [] = some out := by rw [bothF]
theorem bothF_cons (out : Fs) (n : Bs) (w : JV) (r : Fs) : bothF out ((n, w) :: r) = (bothO (get n out) w).bind fun x => bothF (put n x out) r := by
  rw [bothF]; rfl
theorem both_other {p q : JV} (h : ∀ l, q ≠ .obj l) : both p q = some q := by
  cases q with
  | obj l => exact absurd rfl (h l)
  | _ => rw [both]
theorem both_obj {p c : JV} {l : Fs} (h : both p (.obj l) = some c) : ∃ k o, p = .obj k ∧ bothF k l = some o ∧ c = .obj o := by
  rw [both.eq_def] at h
  cases p with
  | obj k =>
    obtain ⟨o, h1, h2⟩ := Option.map_eq_some_iff.1 h
    exact ⟨k, o, rfl, h1, h2.symm⟩
  | _ => cases h
/-- what is composed, field by field -/
theorem get_bothF : ∀ (l out o : Fs), Srt l → bothF out l = some o → ∀ m, (match get m l with
    | none => get m o = get m out
    | some w => ∃ x, bothO (get m out) w = some x ∧ get m o = some x)
  | [], out, o, _, h, m => by rw [bothF_nil] at h; rw [Option.some.inj h, get]
  | (n, w) :: r, out, o, hs, h, m => by
    have h2 := (List.pairwise_cons.1 hs).2
    rw [bothF_cons] at h
    obtain ⟨x, hx, hr⟩ := Option.bind_eq_some_iff.1 h
    have ih := get_bothF r _ o h2 hr m
    rw [get]
    by_cases he : n = m
    · rw [if_pos he]
      rw [get_tail hs he.symm] at ih
      dsimp only at ih ⊢
      rw [get_put, if_pos he.symm] at ih
      exact ⟨x, by rw [← he]; exact hx, ih⟩
    · rw [if_neg he]
      rw [get_put, if_neg (fun e => he e.symm)] at ih
      exact ih
theorem srt_bothF : ∀ {l out o : Fs}, Srt out → bothF out l = some o → Srt o
  | [], out, o, h, e => by rw [bothF_nil] at e; rw [← Option.some.inj e]; exact h
  | (n, w) :: r, out, o, h, e => by
    rw [bothF_cons] at e
    obtain ⟨x, _, hr⟩ := Option.bind_eq_some_iff.1 e
    exact srt_bothF (put_srt h) hr
theorem both_nul {p w : JV} (hw : w ≠ .nul) (h : both p w = some .nul) : False := by
  rcases obj_or w with ⟨l, rfl⟩ | h2
  · obtain ⟨_, _, _, _, e⟩ := both_obj h; cases e
  · rw [both_other h2] at h; exact hw (Option.some.inj h)
/-- MergeBoth -/
theorem into_both : ∀ q p d c : JV, wf d → wf p → wf q → both p q = some c → into (into d p) q = into d c := by
  intro q
  refine JV.byGet (P := fun q => ∀ p d c : JV, wf d → wf p → wf q → both p q = some c → into (into d p) q = into d c) (fun q ih => ?_) q
  intro p d c hd hp hq hc
  rcases obj_or q with ⟨l, rfl⟩ | h
  · obtain ⟨k, o, rfl, ho, rfl⟩ := both_obj hc
    obtain ⟨s1, s2⟩ := wf_obj hq
    obtain ⟨k1, k2⟩ := wf_obj hp
    have so := srt_bothF k1 ho
    rw [into, into, into]
    refine congrArg JV.obj (fs_ext (srt_intoF (srt_intoF (srt_fields hd))) (srt_intoF (srt_fields hd)) fun n => ?_)
    show get n (intoF (intoF (fieldsOf d) k) l) = _
    rw [get_intoF n l _ s1, get_intoF n k _ k1, get_intoF n o _ so]
    have hb := get_bothF l k o s1 ho n
    cases hg : get n l with
    | none =>
      rw [hg] at hb
      dsimp only at hb
      rw [hb]
    | some w =>
      rw [hg] at hb
      dsimp only at hb
      obtain ⟨x, hx, ex⟩ := hb
      rw [ex]
      dsimp only
      cases hk : get n k with
      | none =>
        rw [hk] at hx
        rw [show w = x from Option.some.inj hx]
      | some v =>
        rw [hk] at hx
        dsimp only
        have hx' : both v w = some x := hx
        by_cases hw : w = .nul
        · subst hw
          rw [both_other (fun l e => by cases e)] at hx'
          rw [← Option.some.inj hx', fieldI_nul, fieldI_nul]
        · have hxn : x ≠ .nul := fun e => both_nul hw (by rw [← e]; exact hx')
          rw [fieldI_some hw, fieldI_some hxn]
          refine congrArg some ?_
          have wv := wf_at k2 hk
          have ww := wf_at s2 hg
          have wd := wf_get n (wf_fields hd).2
          by_cases hv : v = .nul
          · subst hv
            rw [fieldI_nul]
            rcases obj_or w with ⟨l', rfl⟩ | hw2
            · obtain ⟨_, _, e, _⟩ := both_obj hx'; cases e
            · rw [both_other hw2] at hx'
              rw [← Option.some.inj hx', not_obj hw2, not_obj hw2]
          · rw [fieldI_some hv]
            exact ih l n w rfl hg v _ x wd wv ww hx'
  · rw [both_other h] at hc
    rw [← Option.some.inj hc, not_obj h, not_obj h]
theorem bothF_wf : (∀ w : JV, ∀ p c : JV, wf p → wf w → both p w = some c → wf c) ∧ (∀ _ : List JV, True) ∧ ∀ l : Fs, ∀ out o : Fs, Srt out → wfF out → wfF l → bothF out l = some o → wfF o := by
  refine JV.both ?_ ?_ ?_ ?_ ?_ ?_ trivial (fun _ _ _ _ => trivial) ?_ ?_
  · intro p c _ _ h; rw [both_other (fun l e => by cases e)] at h; rw [← Option.some.inj h]; trivial
  · intro b p c _ hw h; rw [both_other (fun l e => by cases e)] at h; rw [← Option.some.inj h]; exact hw
  · intro b p c _ hw h; rw [both_other (fun l e => by cases e)] at h; rw [← Option.some.inj h]; exact hw
  · intro b p c _ hw h; rw [both_other (fun l e => by cases e)] at h; rw [← Option.some.inj h]; exact hw
  · intro b _ p c _ hw h; rw [both_other (fun l e => by cases e)] at h; rw [← Option.some.inj h]; exact hw
  · intro l ih p c hp hw h
    obtain ⟨k, o, rfl, h1, rfl⟩ := both_obj h
    rw [wf]
    exact ⟨srt_bothF (wf_obj hp).1 h1, ih k o (wf_obj hp).1 (wf_obj hp).2 (wf_obj hw).2 h1⟩
  · intro out o _ hw _ h; rw [bothF_nil] at h; rw [← Option.some.inj h]; exact hw
  · intro n v r hv hr out o hs hw hl h
    rw [wfF] at hl
    rw [bothF_cons] at h
    obtain ⟨x, hx, h⟩ := Option.bind_eq_some_iff.1 h
    have wx : wf x := by
      cases hg : get n out with
      | none => rw [hg] at hx; rw [← (show v = x from Option.some.inj hx)]; exact hl.2.1
      | some u => rw [hg] at hx; exact hv u x (wf_at hw hg) hl.2.1 hx
    exact hr _ o (put_srt hs) (put_wf hl.1 wx hw) hl.2.2 h
theorem wf_both {p w c : JV} (hp : wf p) (hw : wf w) (h : both p w = some c) : wf c := bothF_wf.1 w p c hp hw h
/-- MergeThree -/
theorem both_three : ∀ r p q a b c d : JV, wf p → wf q → wf r → both p q = some a → both q r = some b → both a r = some c → both p b = some d → c = d := by
  intro r
  refine JV.byGet (P := fun r => ∀ p q a b c d : JV, wf p → wf q → wf r → both p q = some a → both q r = some b → both a r = some c → both p b = some d → c = d) (fun r ih => ?_) r
  intro p q a b c d hp hq hr ha hb hc hd
  rcases obj_or r with ⟨l, rfl⟩ | h
  · obtain ⟨k, o, rfl, ho, rfl⟩ := both_obj hb
    obtain ⟨i, o2, rfl, ho2, rfl⟩ := both_obj ha
    obtain ⟨_, o3, e, ho3, rfl⟩ := both_obj hc
    cases e
    obtain ⟨_, o4, e, ho4, rfl⟩ := both_obj hd
    cases e
    obtain ⟨l1, l2⟩ := wf_obj hr
    obtain ⟨k1, k2⟩ := wf_obj hq
    obtain ⟨i1, i2⟩ := wf_obj hp
    have so := srt_bothF k1 ho
    have so2 := srt_bothF i1 ho2
    refine congrArg JV.obj (fs_ext (srt_bothF so2 ho3) (srt_bothF i1 ho4) fun n => ?_)
    have gb := get_bothF l k o l1 ho n
    have ga := get_bothF k i o2 k1 ho2 n
    have gc := get_bothF l o2 o3 l1 ho3 n
    have gd := get_bothF o i o4 so ho4 n
    cases hl : get n l with
    | none =>
      rw [hl] at gb gc
      dsimp only at gb gc
      rw [gc]
      rw [gb] at gd
      cases hk : get n k with
      | none =>
        rw [hk] at ga gd
        dsimp only at ga gd
        rw [ga, gd]
      | some v =>
        rw [hk] at ga gd
        dsimp only at ga gd
        obtain ⟨x, hx, ex⟩ := ga
        obtain ⟨y, hy, ey⟩ := gd
        rw [hx] at hy
        rw [ex, ey, hy]
    | some w =>
      rw [hl] at gb gc
      dsimp only at gb gc
      obtain ⟨x, hx, ex⟩ := gb
      obtain ⟨y, hy, ey⟩ := gc
      rw [ex] at gd
      dsimp only at gd
      obtain ⟨z, hz, ez⟩ := gd
      rw [ey, ez]
      cases hk : get n k with
      | none =>
        rw [hk] at ga hx
        dsimp only at ga
        rw [ga] at hy
        rw [show w = x from Option.some.inj hx] at hy
        rw [← hy, hz]
      | some v =>
        rw [hk] at ga hx
        dsimp only at ga
        obtain ⟨u, hu, eu⟩ := ga
        rw [eu] at hy
        cases hi : get n i with
        | none =>
          rw [hi] at hu hz
          rw [← (show v = u from Option.some.inj hu)] at hy
          rw [← (show x = z from Option.some.inj hz)]
          have hx' : both v w = some x := hx
          have hy' : both v w = some y := hy
          rw [← hx', ← hy']
        | some t =>
          rw [hi] at hu hz
          exact congrArg some (ih l n w rfl hl t v u x y z (wf_at i2 hi) (wf_at k2 hk) (wf_at l2 hl) hu hx hy hz)
  · rw [both_other h] at hb
    obtain rfl := Option.some.inj hb
    rw [both_other h] at hc hd
    rw [← Option.some.inj hc, ← Option.some.inj hd]
end JP
end Go.Proofs.YtlcongehmjiabaaDoor
/- merge: between, and how long what comes of it may get, in plain Lean. -/
namespace Go.Proofs.YtlcongehmjiabaaDoor
open Go
namespace JP
/-! lengths -/
theorem obj_len_le (l : Fs) : (text (.obj l)).length ≤ lenF l + 2 := by
  rcases text_obj_len l with h | ⟨_, h⟩ <;> omega
theorem obj_len_ge (l : Fs) : lenF l + 1 ≤ (text (.obj l)).length := by
  rcases join_lenF l with h | rfl
  · rw [text]; simp only [List.length_cons, List.length_append, List.length_nil]; omega
  · simp [lenF, text]
theorem list_len_ge (l : List JV) : lenL l + 1 ≤ (text (.list l)).length := by
  rcases join_len l with h | rfl
  · rw [text]; simp only [List.length_cons, List.length_append, List.length_nil]; omega
  · simp [lenL, text]
theorem size_len : (∀ v, size v ≤ (text v).length) ∧ (∀ l, sizeL l ≤ lenL l) ∧ ∀ l : Fs, sizeF l ≤ lenF l := by
  refine JV.both ?_ ?_ ?_ ?_ ?_ ?_ ?_ ?_ ?_ ?_
  · decide
  · intro b; cases b <;> decide
  · intro n; obtain ⟨c, t, h, _⟩ := text_head (.num n); rw [h, size, List.length_cons]; omega
  · intro n; obtain ⟨c, t, h, _⟩ := text_head (.str n); rw [h, size, List.length_cons]; omega
  · intro l ih; have := list_len_ge l; rw [size]; omega
  · intro l ih; have := obj_len_ge l; rw [size]; omega
  · exact Nat.le_refl _
  · intro v r h1 h2; rw [sizeL, lenL]; omega
  · exact Nat.le_refl _
  · intro n v r h1 h2; rw [sizeF, lenF]; omega
theorem size_le_len (v : JV) : size v ≤ (text v).length := size_len.1 v
def wO (n : Bs) : Option JV → Nat
  | some u => (quote n).length + (text u).length + 2
  | none => 0
def w3 (n : Bs) : Option JV → Nat
  | some _ => (quote n).length + 3
  | none => 0
def w4 : Option JV → Nat
  | some u => 4 * (text u).length
  | none => 0
theorem lenF_cut_get {n : Bs} : ∀ {d : Fs}, Srt d → lenF (cut n d) + wO n (get n d) = lenF d
  | [], _ => by simp [cut, get, lenF, wO]
  | (m, x) :: r, hs => by
    obtain ⟨h1, h2⟩ := List.pairwise_cons.1 hs
    have ih := lenF_cut_get (n := n) h2
    unfold cut at ih ⊢
    by_cases h : m = n
    · subst h
      rw [List.filter_cons_of_neg (by simp), lenF, get, if_pos rfl]
      rw [get_lt h1] at ih
      simp only [wO] at ih ⊢
      omega
    · rw [List.filter_cons_of_pos (by simpa using h), lenF, lenF, get, if_neg h]; omega
theorem lenF_put (n : Bs) (v : JV) : ∀ d : Fs, Srt d → lenF (put n v d) = lenF (cut n d) + (quote n).length + (text v).length + 2
  | [], _ => by simp [put, cut, lenF]; omega
  | (m, x) :: r, hs => by
    obtain ⟨h1, h2⟩ := List.pairwise_cons.1 hs
    have ih := lenF_put n v r h2
    rw [put]
    by_cases hlt : m < n
    · have hne : m ≠ n := fun e => by subst e; exact List.lt_irrefl _ hlt
      unfold cut at ih ⊢
      rw [if_pos hlt, List.filter_cons_of_pos (by simpa using hne), lenF, lenF]; omega
    · rw [if_neg hlt]
      by_cases he : m = n
      · subst he
        have hc := lenF_cut_get (n := m) h2
        rw [get_lt h1] at hc
        simp only [wO] at hc
        unfold cut at hc ⊢
        rw [if_pos rfl, List.filter_cons_of_neg (by simp), lenF]; omega
      · have h3 := bs_trich m n hlt he
        have hc := lenF_cut_get (n := n) h2
        rw [get_lt fun y hy => List.lt_trans h3 (h1 y hy)] at hc
        simp only [wO] at hc
        unfold cut at hc ⊢
        rw [if_neg he, List.filter_cons_of_pos (by simpa using he), lenF, lenF, lenF]; omega
theorem lenF_cut (n : Bs) {d : Fs} (h : Srt d) : lenF (cut n d) ≤ lenF d := by have := lenF_cut_get (n := n) h; omega
theorem lenF_put_le (n : Bs) (v : JV) {d : Fs} (h : Srt d) : lenF (put n v d) ≤ lenF d + ((quote n).length + (text v).length + 2) := by
  have := lenF_put n v d h; have := lenF_cut n h; omega
theorem lenF_fields (d : JV) : lenF (fieldsOf d) + 1 ≤ (text d).length := by
  cases d with
  | obj l => exact obj_len_ge l
  | nul => decide
  | bool b => cases b <;> decide
  | num n => obtain ⟨c, t, h, _⟩ := text_head (.num n); rw [h, List.length_cons]; show 0 + 1 ≤ _; omega
  | str n => obtain ⟨c, t, h, _⟩ := text_head (.str n); rw [h, List.length_cons]; show 0 + 1 ≤ _; omega
  | list n => obtain ⟨c, t, h, _⟩ := text_head (.list n); rw [h, List.length_cons]; show 0 + 1 ≤ _; omega
theorem getD_fields {n : Bs} {out : Fs} (hs : Srt out) : lenF (fieldsOf ((get n out).getD .nul)) + lenF (cut n out) + w3 n (get n out) ≤ lenF out := by
  have h := lenF_cut_get (n := n) hs
  cases hg : get n out with
  | none => rw [hg] at h; simp only [Option.getD, fieldsOf, wO, w3, lenF] at h ⊢; omega
  | some u => rw [hg] at h; have := lenF_fields u; simp only [Option.getD, wO, w3] at h ⊢; omega
/-- each field that is merged in: how long it may get -/
theorem intoF_len : (∀ x : JV, wf x → ∀ (n : Bs) (out : Fs), n.all stand = true → Fld out → lenF (into1 n out x) ≤ lenF out + ((quote n).length + (text x).length + 2)) ∧ (∀ _ : List JV, True) ∧ (∀ l : Fs, wfF l → ∀ out : Fs, Fld out → lenF (intoF out l) ≤ lenF out + lenF l) := by
  refine JV.both ?_ ?_ ?_ ?_ ?_ ?_ trivial (fun _ _ _ _ => trivial) ?_ ?_
  · intro _ n out _ hs
    rw [into1]
    have := lenF_cut n hs.1; omega
  · intro b hw n out hn hs; rw [into1]; exact lenF_put_le n _ hs.1
  · intro b hw n out hn hs; rw [into1]; exact lenF_put_le n _ hs.1
  · intro b hw n out hn hs; rw [into1]; exact lenF_put_le n _ hs.1
  · intro b _ hw n out hn hs; rw [into1]; exact lenF_put_le n _ hs.1
  · intro l ih hw n out hn hs
    rw [into1]
    have g := ih (wf_obj hw).2 _ (wf_fields (wf_get n hs.2))
    have h1 := lenF_put n (.obj (intoF (fieldsOf ((get n out).getD .nul)) l)) out hs.1
    have h2 := obj_len_le (intoF (fieldsOf ((get n out).getD .nul)) l)
    have h3 := getD_fields (n := n) hs.1
    have h4 := obj_len_ge l
    cases hg : get n out with
    | none =>
      rw [hg] at h1 h2 h3 g
      simp only [Option.getD, fieldsOf, w3, lenF] at h1 h2 h3 g ⊢
      have h5 : (text (.obj (intoF [] l))).length ≤ (text (.obj l)).length := by
        rcases text_obj_len (intoF [] l) with h | ⟨_, h⟩
        · omega
        · rcases text_obj_len l with h' | ⟨_, h'⟩
          · cases l with
            | nil => rw [intoF_nil]; exact Nat.le_refl _
            | cons y r => obtain ⟨k, u⟩ := y; rw [lenF] at h4; omega
          · omega
      omega
    | some u =>
      rw [hg] at h1 h2 h3 g
      simp only [Option.getD, w3] at h1 h2 h3 g ⊢
      omega
  · intro _ out hs
    rw [intoF]; omega
  · intro n v r hv hr hw out hs
    rw [wfF] at hw
    rw [intoF, lenF]
    have h1 := hv hw.2.1 n out hw.1 hs
    have h2 := (into_size.1 v hw.2.1 n out hw.1 hs).1
    have h3 := hr hw.2.2 _ h2
    omega
theorem into_len {d x : JV} (hd : wf d) (hx : wf x) : (text (into d x)).length ≤ (text d).length + (text x).length := by
  cases x with
  | obj l =>
    have h1 := intoF_len.2.2 l (wf_obj hx).2 (fieldsOf d) (wf_fields hd)
    have h2 := lenF_fields d
    have h3 := obj_len_ge l
    have h4 := obj_len_le (intoF (fieldsOf d) l)
    rw [into]; omega
  | _ => rw [into]; omega
theorem bothF_len : (∀ w : JV, ∀ p c : JV, wf p → wf w → both p w = some c → (text c).length ≤ (text p).length + (text w).length) ∧ (∀ _ : List JV, True) ∧ ∀ l : Fs, ∀ out o : Fs, Srt out → wfF out → wfF l → bothF out l = some o → lenF o ≤ lenF out + lenF l := by
  refine JV.both ?_ ?_ ?_ ?_ ?_ ?_ trivial (fun _ _ _ _ => trivial) ?_ ?_
  · intro p c _ _ h; rw [both_other (fun l e => by cases e)] at h; rw [← Option.some.inj h]; omega
  · intro b p c _ hw h; rw [both_other (fun l e => by cases e)] at h; rw [← Option.some.inj h]; omega
  · intro b p c _ hw h; rw [both_other (fun l e => by cases e)] at h; rw [← Option.some.inj h]; omega
  · intro b p c _ hw h; rw [both_other (fun l e => by cases e)] at h; rw [← Option.some.inj h]; omega
  · intro b _ p c _ hw h; rw [both_other (fun l e => by cases e)] at h; rw [← Option.some.inj h]; omega
  · intro l ih p c hp hw h
    obtain ⟨k, o, rfl, h1, rfl⟩ := both_obj h
    have g := ih k o (wf_obj hp).1 (wf_obj hp).2 (wf_obj hw).2 h1
    have h2 := obj_len_ge k
    have h3 := obj_len_ge l
    have h4 := obj_len_le o
    omega
  · intro out o _ hw _ h; rw [bothF_nil] at h; rw [← Option.some.inj h]; omega
  · intro n v r hv hr out o hs hw hl h
    rw [wfF] at hl
    rw [bothF_cons] at h
    obtain ⟨x, hx, h⟩ := Option.bind_eq_some_iff.1 h
    have h1 := lenF_put n x out hs
    have h2 := lenF_cut_get (n := n) hs
    rw [lenF]
    cases hg : get n out with
    | none =>
      rw [hg] at hx h2
      obtain rfl : v = x := Option.some.inj hx
      have h3 := hr _ o (put_srt hs) (put_wf hl.1 hl.2.1 hw) hl.2.2 h
      simp only [wO] at h2
      omega
    | some u =>
      rw [hg] at hx h2
      have h3 := hr _ o (put_srt hs) (put_wf hl.1 (wf_both (wf_at hw hg) hl.2.1 hx) hw) hl.2.2 h
      have h4 := hv u x (wf_at hw hg) hl.2.1 hx
      simp only [wO] at h2
      omega
theorem both_len {p w c : JV} (hp : wf p) (hw : wf w) (h : both p w = some c) : (text c).length ≤ (text p).length + (text w).length := bothF_len.1 w p c hp hw h

/-! between -/
mutual
def hasNull : JV → Bool
  | .obj l => hasNullF l
  | .nul => false
  | .bool _ => false
  | .num _ => false
  | .str _ => false
  | .list _ => false
termination_by structural x => x
def hasNullF : Fs → Bool
  | [] => false
  | (_, w) :: r => isNul w || hasNull w || hasNullF r
termination_by structural x => x
end
def sameO (o : Option JV) (w : JV) : Bool := match o with
  | some v => decide (text v = text w)
  | none => false
def gone1 (l out : Fs) (n : Bs) : Fs := if (get n l).isSome = true then out else put n .nul out
def goneF (l : Fs) : Fs → Fs → Fs
  | out, [] => out
  | out, (n, _) :: r => goneF l (gone1 l out n) r
mutual
def btw : JV → JV → Option JV
  | a, .obj l => match a with
    | .obj h => (btwF h (goneF l [] h) l).map .obj
    | _ => if hasNullF l = true then none else some (.obj l)
  | _, .nul => some .nul
  | _, .bool b => some (.bool b)
  | _, .num b => some (.num b)
  | _, .str b => some (.str b)
  | _, .list b => some (.list b)
termination_by structural _ x => x
def btwF : Fs → Fs → Fs → Option Fs
  | _, out, [] => some out
  | h, out, (n, w) :: r => (if sameO (get n h) w = true then some out else if isNul w = true then none else (btw ((get n h).getD .nul) w).map fun x => put n x out).bind fun o => btwF h o r
termination_by structural _ _ x => x
end
def btw1 (h out : Fs) (n : Bs) (w : JV) : Option Fs := if sameO (get n h) w = true then some out else if isNul w = true then none else (btw ((get n h).getD .nul) w).map fun x => put n x out
theorem btwF_nil (h out : Fs) : btwF h out [] = some out := by rw [btwF]
theorem btwF_cons (h out : Fs) (n : Bs) (w : JV) (r : Fs) : btwF h out ((n, w) :: r) = (btw1 h out n w).bind fun o => btwF h o r := by rw [btwF]; rfl
theorem btw_other {a b : JV} (h : ∀ l, b ≠ .obj l) : btw a b = some b := by
  cases b with
  | obj l => exact absurd rfl (h l)
  | _ => rw [btw]
theorem btw_obj (h l : Fs) : btw (.obj h) (.obj l) = (btwF h (goneF l [] h) l).map .obj := by rw [btw]
theorem btw_new {a : JV} (ha : ∀ h, a ≠ .obj h) (l : Fs) : btw a (.obj l) = if hasNullF l = true then none else some (.obj l) := by
  rw [btw.eq_def]
  cases a with
  | obj h => exact absurd rfl (ha h)
  | _ => rfl
theorem get_gone (l : Fs) : ∀ (h out : Fs) (m : Bs), get m (goneF l out h) = if (get m h).isSome = true ∧ (get m l).isSome = false then some .nul else get m out
  | [], out, m => by rw [goneF, get, if_neg (fun h => by cases h.1)]
  | (n, v) :: r, out, m => by
    rw [goneF, get_gone l r, get]
    unfold gone1
    by_cases he : n = m
    · subst he
      rw [if_pos rfl]
      by_cases hl : (get n l).isSome = true
      · rw [if_pos hl, if_neg (fun h => by rw [hl] at h; cases h.2), if_neg (fun h => by rw [hl] at h; cases h.2)]
      · have hl' : (get n l).isSome = false := by simpa using hl
        rw [if_neg hl, get_put_same, if_pos (show (some v).isSome = true ∧ (get n l).isSome = false from ⟨rfl, hl'⟩)]
        split <;> rfl
    · rw [if_neg he]
      by_cases hl : (get n l).isSome = true
      · rw [if_pos hl]
      · rw [if_neg hl, get_put_ne _ (fun e => he e.symm)]
theorem srt_gone (l : Fs) : ∀ {h out : Fs}, Srt out → Srt (goneF l out h)
  | [], _, hs => hs
  | (n, _) :: r, out, hs => by
    rw [goneF]
    refine srt_gone l ?_
    unfold gone1
    split
    · exact hs
    · exact put_srt hs
theorem wf_gone (l : Fs) : ∀ {h out : Fs}, wfF h → wfF out → wfF (goneF l out h)
  | [], _, _, hw => hw
  | (n, _) :: r, out, hh, hw => by
    rw [wfF] at hh
    rw [goneF]
    refine wf_gone l hh.2.2 ?_
    unfold gone1
    split
    · exact hw
    · exact put_wf hh.1 (by rw [wf]; trivial) hw
theorem btw1_cases {h out o : Fs} {n : Bs} {w : JV} (e : btw1 h out n w = some o) : (sameO (get n h) w = true ∧ o = out) ∨ (sameO (get n h) w = false ∧ w ≠ .nul ∧ ∃ x, btw ((get n h).getD .nul) w = some x ∧ o = put n x out) := by
  unfold btw1 at e
  by_cases hs : sameO (get n h) w = true
  · rw [if_pos hs] at e; exact .inl ⟨hs, (Option.some.inj e).symm⟩
  · rw [if_neg hs] at e
    by_cases hn : isNul w = true
    · rw [if_pos hn] at e; cases e
    · rw [if_neg hn] at e
      obtain ⟨x, hx, e⟩ := Option.map_eq_some_iff.1 e
      exact .inr ⟨by simpa using hs, fun e => hn (isNul_iff.2 e), x, hx, e.symm⟩
theorem get_btwF (h : Fs) : ∀ (l out o : Fs), Srt l → btwF h out l = some o → ∀ m, (match get m l with
    | none => get m o = get m out
    | some w => (sameO (get m h) w = true ∧ get m o = get m out) ∨ (sameO (get m h) w = false ∧ w ≠ .nul ∧ ∃ x, btw ((get m h).getD .nul) w = some x ∧ get m o = some x))
  | [], out, o, _, e, m => by rw [btwF_nil] at e; rw [Option.some.inj e, get]
  | (n, w) :: r, out, o, hs, e, m => by
    have h2 := (List.pairwise_cons.1 hs).2
    rw [btwF_cons] at e
    obtain ⟨y, hy, hr⟩ := Option.bind_eq_some_iff.1 e
    have ih := get_btwF h r _ o h2 hr m
    have hc := btw1_cases hy
    rw [get]
    by_cases he : n = m
    · rw [if_pos he]
      rw [get_tail hs he.symm] at ih
      dsimp only at ih ⊢
      subst he
      rcases hc with ⟨h1, rfl⟩ | ⟨h1, h3, x, hx, rfl⟩
      · exact .inl ⟨h1, ih⟩
      · exact .inr ⟨h1, h3, x, hx, by rw [ih, get_put_same]⟩
    · rw [if_neg he]
      have hg : get m y = get m out := by
        rcases hc with ⟨_, rfl⟩ | ⟨_, _, x, _, rfl⟩
        · rfl
        · exact get_put_ne _ (fun e => he e.symm) _
      rw [hg] at ih
      exact ih
theorem srt_btwF (h : Fs) : ∀ {l out o : Fs}, Srt out → btwF h out l = some o → Srt o
  | [], out, o, hs, e => by rw [btwF_nil] at e; rw [← Option.some.inj e]; exact hs
  | (n, w) :: r, out, o, hs, e => by
    rw [btwF_cons] at e
    obtain ⟨y, hy, hr⟩ := Option.bind_eq_some_iff.1 e
    rcases btw1_cases hy with ⟨_, rfl⟩ | ⟨_, _, x, _, rfl⟩
    · exact srt_btwF h hs hr
    · exact srt_btwF h (put_srt hs) hr
theorem btw_nul {a w : JV} (hw : w ≠ .nul) (h : btw a w = some .nul) : False := by
  rcases obj_or w with ⟨l, rfl⟩ | h2
  · rcases obj_or a with ⟨k, rfl⟩ | h3
    · rw [btw_obj] at h; obtain ⟨_, _, e⟩ := Option.map_eq_some_iff.1 h; cases e
    · rw [btw_new h3] at h; split at h <;> cases h
  · rw [btw_other h2] at h; exact hw (Option.some.inj h)
theorem hasNullF_get : ∀ {l : Fs} {n : Bs} {w : JV}, hasNullF l = false → get n l = some w → w ≠ .nul ∧ hasNull w = false
  | [], _, _, _, h => by rw [get] at h; cases h
  | (m, v) :: r, n, w, hn, h => by
    rw [hasNullF, Bool.or_eq_false_iff, Bool.or_eq_false_iff] at hn
    rw [get] at h
    by_cases e : m = n
    · rw [if_pos e] at h
      cases h
      refine ⟨fun e => ?_, hn.1.2⟩
      rw [e] at hn
      cases hn.1.1
    · rw [if_neg e] at h
      exact hasNullF_get hn.2 h
/-- what has no null makes itself of what is no object -/
theorem into_new : ∀ b d : JV, wf b → hasNull b = false → fieldsOf d = [] → into d b = b := by
  intro b
  refine JV.byGet (P := fun b => ∀ d : JV, wf b → hasNull b = false → fieldsOf d = [] → into d b = b) (fun b ih => ?_) b
  intro d hb hn hd
  rcases obj_or b with ⟨l, rfl⟩ | h
  · obtain ⟨s1, s2⟩ := wf_obj hb
    rw [into, hd]
    refine congrArg JV.obj (fs_ext (srt_intoF List.Pairwise.nil) s1 fun n => ?_)
    rw [get_intoF n l _ s1]
    cases hg : get n l with
    | none => rfl
    | some w =>
      have hn' : hasNullF l = false := by rw [hasNull] at hn; exact hn
      obtain ⟨h1, h2⟩ := hasNullF_get hn' hg
      dsimp only
      rw [fieldI_some h1]
      exact congrArg some (ih l n w rfl hg _ (wf_at s2 hg) h2 rfl)
  · exact not_obj h d
/-- a value that fits into a document -/
def Fit (v : JV) : Prop := wf v ∧ size v ≤ 200 ∧ deep v ≤ 10 ∧ (text v).length ≤ 2000
theorem fit_text {v w : JV} (hv : Fit v) (hw : Fit w) (h : text v = text w) : v = w := by
  have h1 := read_text hv.1 hv.2.1 hv.2.2.1 hv.2.2.2
  have h2 := read_text hw.1 hw.2.1 hw.2.2.1 hw.2.2.2
  rw [h, h2] at h1
  exact (Prod.mk.inj h1).1.symm
theorem getF_le : ∀ {l : Fs} {n : Bs} {x : JV}, get n l = some x → size x ≤ sizeF l ∧ deep x ≤ deepF l ∧ (text x).length ≤ lenF l
  | [], _, _, h => by rw [get] at h; cases h
  | (m, v) :: r, n, x, h => by
    rw [get] at h
    rw [sizeF, deepF, lenF]
    by_cases e : m = n
    · rw [if_pos e] at h
      cases h
      exact ⟨by omega, by omega, by omega⟩
    · rw [if_neg e] at h
      obtain ⟨a, b, c⟩ := getF_le h
      exact ⟨by omega, by omega, by omega⟩
theorem fit_at {l : Fs} {n : Bs} {x : JV} (h : Fit (.obj l)) (hg : get n l = some x) : Fit x := by
  obtain ⟨h1, h2, h3, h4⟩ := h
  obtain ⟨a, b, c⟩ := getF_le hg
  have := obj_len_ge l
  rw [size] at h2
  rw [deep] at h3
  exact ⟨wf_at (wf_obj h1).2 hg, by omega, by omega, by omega⟩
theorem fit_nul : Fit .nul := ⟨trivial, by decide, by decide, by decide⟩
/-- MergeMakes -/
theorem into_btw : ∀ b a p : JV, Fit a → Fit b → btw a b = some p → into a p = b := by
  intro b
  refine JV.byGet (P := fun b => ∀ a p : JV, Fit a → Fit b → btw a b = some p → into a p = b) (fun b ih => ?_) b
  intro a p ha hb hp
  rcases obj_or b with ⟨l, rfl⟩ | h
  · obtain ⟨l1, l2⟩ := wf_obj hb.1
    rcases obj_or a with ⟨k, rfl⟩ | h
    · rw [btw_obj] at hp
      obtain ⟨o, ho, rfl⟩ := Option.map_eq_some_iff.1 hp
      obtain ⟨k1, k2⟩ := wf_obj ha.1
      have so : Srt o := srt_btwF k (srt_gone l List.Pairwise.nil) ho
      rw [into]
      refine congrArg JV.obj (fs_ext (srt_intoF k1) l1 fun n => ?_)
      show get n (intoF k o) = _
      rw [get_intoF n o _ so]
      have hg := get_btwF k l _ o l1 ho n
      rw [get_gone] at hg
      cases hl : get n l with
      | none =>
        rw [hl] at hg
        dsimp only at hg
        cases hk : get n k with
        | none =>
          rw [hk, if_neg (fun h => by cases h.1), get] at hg
          rw [hg]
        | some v =>
          rw [hk, if_pos ⟨rfl, rfl⟩] at hg
          rw [hg]
          rfl
      | some w =>
        rw [hl, if_neg (fun h => by cases h.2), get] at hg
        dsimp only at hg
        rcases hg with ⟨h1, h2⟩ | ⟨h1, h2, x, hx, ex⟩
        · rw [h2]
          dsimp only
          unfold sameO at h1
          cases hk : get n k with
          | none => rw [hk] at h1; cases h1
          | some v =>
            rw [hk] at h1
            rw [fit_text (fit_at ha hk) (fit_at hb hl) (of_decide_eq_true h1)]
        · rw [ex]
          dsimp only
          have hxn : x ≠ .nul := fun e => btw_nul h2 (by rw [← e]; exact hx)
          rw [fieldI_some hxn]
          refine congrArg some ?_
          refine ih l n w rfl hl _ x ?_ (fit_at hb hl) hx
          cases hk : get n k with
          | none => exact fit_nul
          | some v => exact fit_at ha hk
    · rw [btw_new h] at hp
      split at hp
      · cases hp
      · rename_i hn
        rw [← Option.some.inj hp]
        refine into_new _ a hb.1 (by rw [hasNull]; simpa using hn) ?_
        cases a with
        | obj k => exact absurd rfl (h k)
        | _ => rfl
  · rw [btw_other h] at hp
    rw [← Option.some.inj hp]
    exact not_obj h a
theorem btwF_wf (h : Fs) (hh : wfF h) : ∀ {l out o : Fs}, wfF l → wfF out → (∀ n w x, get n l = some w → btw ((get n h).getD .nul) w = some x → wf x) → Srt l → btwF h out l = some o → wfF o
  | [], out, o, _, hw, _, _, e => by rw [btwF_nil] at e; rw [← Option.some.inj e]; exact hw
  | (n, w) :: r, out, o, hl, hw, ih, hs, e => by
    have hs2 := (List.pairwise_cons.1 hs).2
    rw [wfF] at hl
    rw [btwF_cons] at e
    obtain ⟨y, hy, hr⟩ := Option.bind_eq_some_iff.1 e
    have ih' : ∀ k w x, get k r = some w → btw ((get k h).getD .nul) w = some x → wf x := fun k w' x hk hx => ih k w' x (by
      rw [get, if_neg]
      · exact hk
      · intro e; rw [get_tail hs e.symm] at hk; cases hk) hx
    rcases btw1_cases hy with ⟨_, rfl⟩ | ⟨_, _, x, hx, rfl⟩
    · exact btwF_wf h hh hl.2.2 hw ih' hs2 hr
    · exact btwF_wf h hh hl.2.2 (put_wf hl.1 (ih n w x (by rw [get, if_pos rfl]) hx) hw) ih' hs2 hr
theorem wf_btw : ∀ b a p : JV, wf a → wf b → btw a b = some p → wf p := by
  intro b
  refine JV.byGet (P := fun b => ∀ a p : JV, wf a → wf b → btw a b = some p → wf p) (fun b ih => ?_) b
  intro a p ha hb hp
  rcases obj_or b with ⟨l, rfl⟩ | h
  · obtain ⟨l1, l2⟩ := wf_obj hb
    rcases obj_or a with ⟨k, rfl⟩ | h
    · rw [btw_obj] at hp
      obtain ⟨o, ho, rfl⟩ := Option.map_eq_some_iff.1 hp
      obtain ⟨k1, k2⟩ := wf_obj ha
      rw [wf]
      exact ⟨srt_btwF k (srt_gone l List.Pairwise.nil) ho, btwF_wf k k2 l2 (wf_gone l k2 (show wfF [] from by rw [wfF]; trivial)) (fun n w x hg hx => ih l n w rfl hg _ x (wf_get n k2) (wf_at l2 hg) hx) l1 ho⟩
    · rw [btw_new h] at hp
      split at hp
      · cases hp
      · rw [← Option.some.inj hp]; exact hb
  · rw [btw_other h] at hp
    rw [← Option.some.inj hp]; exact hb
/-- how long the fields are that stand in l, too -/
def lenIn (l h : Fs) : Nat := lenF (h.filter fun x => (get x.1 l).isSome)
theorem gone_len (l : Fs) : ∀ {h out : Fs}, Srt out → lenF (goneF l out h) + 4 * lenIn l h ≤ lenF out + 4 * lenF h
  | [], out, _ => by rw [goneF]; simp [lenIn, lenF]
  | (n, v) :: r, out, hs => by
    rw [goneF]
    unfold gone1 lenIn
    have := size_le_len v
    have := size_pos v
    by_cases hl : (get n l).isSome = true
    · rw [if_pos hl, List.filter_cons_of_pos (by simpa using hl), lenF, lenF]
      have := gone_len l (h := r) hs
      unfold lenIn at this
      omega
    · rw [if_neg hl, List.filter_cons_of_neg (by simpa using hl), lenF]
      have h1 := gone_len l (h := r) (put_srt (n := n) (v := .nul) hs)
      have h2 := lenF_put_le n .nul hs
      have h3 : (text .nul).length = 4 := by decide
      unfold lenIn at h1
      omega
theorem lenIn_split {n : Bs} {w : JV} {r h : Fs} (hs : Srt ((n, w) :: r)) (hh : Srt h) : lenIn ((n, w) :: r) h = lenIn r h + wO n (get n h) := by
  induction h with
  | nil => rw [get]; simp [lenIn, lenF, wO]
  | cons y t ih =>
    obtain ⟨m, u⟩ := y
    obtain ⟨t1, t2⟩ := List.pairwise_cons.1 hh
    have ih := ih t2
    unfold lenIn at ih ⊢
    rw [get]
    by_cases hm : m = n
    · subst hm
      rw [if_pos rfl, List.filter_cons_of_pos (by rw [get, if_pos rfl]; rfl), List.filter_cons_of_neg (by rw [get_tail hs rfl]; decide), lenF]
      rw [get_lt t1] at ih
      simp only [wO] at ih ⊢
      omega
    · rw [if_neg hm]
      by_cases hr : (get m r).isSome = true
      · rw [List.filter_cons_of_pos (by rw [get, if_neg (fun e => hm e.symm)]; exact hr), List.filter_cons_of_pos (by simpa using hr), lenF, lenF]; omega
      · rw [List.filter_cons_of_neg (by rw [get, if_neg (fun e => hm e.symm)]; exact hr), List.filter_cons_of_neg (by simpa using hr)]; exact ih
theorem btwF_len (h : Fs) (hh : Srt h) : ∀ {l out o : Fs}, Srt out → (∀ n w x, get n l = some w → btw ((get n h).getD .nul) w = some x → (text x).length ≤ w4 (get n h) + (text w).length) → Srt l → btwF h out l = some o → lenF o ≤ lenF out + 4 * lenIn l h + lenF l
  | [], out, o, _, _, _, e => by rw [btwF_nil] at e; rw [← Option.some.inj e]; omega
  | (n, w) :: r, out, o, so, ih, hs, e => by
    have hs2 := (List.pairwise_cons.1 hs).2
    rw [btwF_cons] at e
    obtain ⟨y, hy, hr⟩ := Option.bind_eq_some_iff.1 e
    have ih' : ∀ k w x, get k r = some w → btw ((get k h).getD .nul) w = some x → (text x).length ≤ w4 (get k h) + (text w).length := fun k w' x hk hx => ih k w' x (by
      rw [get, if_neg]
      · exact hk
      · intro e; rw [get_tail hs e.symm] at hk; cases hk) hx
    have h3 := lenIn_split hs hh
    rw [h3, lenF]
    rcases btw1_cases hy with ⟨_, rfl⟩ | ⟨_, _, x, hx, rfl⟩
    · have := btwF_len h hh so ih' hs2 hr
      omega
    · have h1 := btwF_len h hh (put_srt so) ih' hs2 hr
      have h2 := lenF_put_le n x so
      have h4 := ih n w x (by rw [get, if_pos rfl]) hx
      cases hg : get n h with
      | none => rw [hg] at h4; simp only [wO, w4] at h4 ⊢; omega
      | some u => rw [hg] at h4; simp only [wO, w4] at h4 ⊢; omega
theorem btw_len' : ∀ b a p : JV, wf a → wf b → btw a b = some p → (text p).length ≤ 4 * lenF (fieldsOf a) + (text b).length := by
  intro b
  refine JV.byGet (P := fun b => ∀ a p : JV, wf a → wf b → btw a b = some p → (text p).length ≤ 4 * lenF (fieldsOf a) + (text b).length) (fun b ih => ?_) b
  intro a p ha hb hp
  rcases obj_or b with ⟨l, rfl⟩ | h
  · obtain ⟨l1, l2⟩ := wf_obj hb
    rcases obj_or a with ⟨k, rfl⟩ | h
    · rw [btw_obj] at hp
      obtain ⟨o, ho, rfl⟩ := Option.map_eq_some_iff.1 hp
      obtain ⟨k1, k2⟩ := wf_obj ha
      have h1 := gone_len l (h := k) (out := []) List.Pairwise.nil
      have h2 := btwF_len k k1 (srt_gone l List.Pairwise.nil) (fun n w x hg hx => by
        have := ih l n w rfl hg _ x (wf_get n k2) (wf_at l2 hg) hx
        cases hk : get n k with
        | none => rw [hk] at this; simp only [Option.getD, fieldsOf, w4, lenF] at this ⊢; omega
        | some u => rw [hk] at this; have h9 := lenF_fields u; simp only [Option.getD, w4] at this ⊢; omega) l1 ho
      have h3 := obj_len_ge l
      have h4 : (text (.obj o)).length ≤ lenF o + 1 ∨ lenF o = 0 ∧ (text (.obj o)).length = 2 := by
        rcases text_obj_len o with h | ⟨rfl, h⟩
        · exact .inl (by omega)
        · exact .inr ⟨rfl, h⟩
      have h5 : (lenF l = 0 ∧ (text (.obj l)).length = 2) ∨ 2 ≤ lenF l := by
        cases l with
        | nil => exact .inl ⟨rfl, by decide⟩
        | cons y r => obtain ⟨m, u⟩ := y; rw [lenF]; exact .inr (by omega)
      rw [show lenF [] = 0 from rfl] at h1
      show _ ≤ 4 * lenF k + _
      omega
    · rw [btw_new h] at hp
      split at hp
      · cases hp
      · rw [← Option.some.inj hp]; omega
  · rw [btw_other h] at hp
    rw [← Option.some.inj hp]; omega
theorem btw_len {a b p : JV} (ha : wf a) (hb : wf b) (h : btw a b = some p) : (text p).length ≤ 4 * (text a).length + (text b).length := by
  have := btw_len' b a p ha hb h
  have := lenF_fields a
  omega
/-- MergeNothing -/
theorem gone_self (l : Fs) (out : Fs) : ∀ {h : Fs}, (∀ x ∈ h, (get x.1 l).isSome = true) → goneF l out h = out
  | [], _ => rfl
  | (n, v) :: r, hx => by
    rw [goneF]
    unfold gone1
    rw [if_pos (hx (n, v) (List.mem_cons_self ..))]
    exact gone_self l out fun y hy => hx y (List.mem_cons_of_mem _ hy)
theorem get_mem {l : Fs} (hs : Srt l) : ∀ {x : Bs × JV}, x ∈ l → get x.1 l = some x.2 := by
  induction l with
  | nil => intro x h; cases h
  | cons y r ih =>
    obtain ⟨h1, h2⟩ := List.pairwise_cons.1 hs
    intro x hx
    rcases List.mem_cons.1 hx with rfl | hx
    · rw [get, if_pos rfl]
    · rw [get, if_neg (fun e => List.lt_irrefl _ (by have := h1 x hx; rw [e] at this; exact this))]
      exact ih h2 hx
theorem btwF_self (h : Fs) (out : Fs) : ∀ {l : Fs}, (∀ x ∈ l, get x.1 h = some x.2) → btwF h out l = some out
  | [], _ => btwF_nil h out
  | (n, w) :: r, hx => by
    rw [btwF_cons]
    unfold btw1
    have hg : get n h = some w := hx (n, w) (List.mem_cons_self ..)
    rw [hg, if_pos (show sameO (some w) w = true from decide_eq_true rfl)]
    exact btwF_self h out fun y hy => hx y (List.mem_cons_of_mem _ hy)
theorem btw_self {l : Fs} (h : Srt l) : btw (.obj l) (.obj l) = some (.obj []) := by
  rw [btw_obj, gone_self l [] (fun x hx => by rw [get_mem h hx]; rfl), btwF_self l [] (fun x hx => get_mem h hx)]
  rfl
theorem into_none (d : JV) : into d (.obj []) = .obj (fieldsOf d) := by rw [into, intoF_nil]
end JP
end Go.Proofs.YtlcongehmjiabaaDoor
/- merge.hasNull: its contract. -/
namespace Go.Proofs.YtlcongehmjiabaaDoor
open Go.RowKit
open JP (JV Bs)

namespace JP
theorem hasNullF_any (l : Fs) : hasNullF l = l.any fun x => isNul x.2 || hasNull x.2 := by
  induction l with
  | nil => rw [hasNullF]; rfl
  | cons x r ih => obtain ⟨n, v⟩ := x; rw [hasNullF, ih, List.any_cons]
end JP
theorem ob_name {w wr : World} {l : List (Bs × JV)} {i c : Nat} {a : Option Addr} {y : Bs × JV} (h : RowAt RString 1 w (.slice a l.length c) (l.map fun x => mkB x.1)) (hb : Below w.heap.size w wr) (hy : l[i]? = some y) : ∃ b o, a = some ⟨b, o, none⟩ ∧ wr.cell? ⟨b, o + i, none⟩ = some (.string (mkB y.1)) := by
  have hil := (List.getElem?_eq_some_iff.1 hy).1
  obtain ⟨b1, o1, c', hv1, _, _, hbs1, hcell1⟩ := h.form (by rw [List.length_map]; omega) (by omega)
  injection hv1 with u1 u2 u3
  obtain ⟨ds1, _, hcc1, hR1⟩ := hcell1 i (mkB y.1) (by rw [List.getElem?_map, hy]; rfl)
  obtain rfl : ds1 = [.string (mkB y.1)] := hR1
  exact ⟨b1, o1, u1, (hb.cell (p := ⟨b1, _, none⟩) hbs1).trans (by simpa using hcc1 0 _ rfl)⟩
theorem below_drewN (w : World) (k : Nat) : Below w.heap.size w (w.drewN k) := below_drewNj' (Below.refl _ _) k
theorem get_b {n : Nat} {q : Nat} {d : List (Bs × JV)} {x : Bs} {w : World} (h : ObR (JvR n []) [] w q d) (hl : d.length ≤ 1048576) :
    Calls Tryd.prog 23 #[.pointer (some ⟨q, 0, none⟩), .string (mkB x)] w fun e w' => ∃ v, e = .returned (.tuple #[v, .bool (JP.get x d).isSome]) ∧ (∀ y, JP.get x d = some y → JvAt n [] w' v y) ∧ (JP.get x d = none → v = .nilIface) ∧ Below w.heap.size w w' := by
  refine (get_any h hl).mono ?_
  rintro e w' ⟨v, h1, h2, h3, k, rfl⟩
  exact ⟨v, h1, fun y hy => (h2 y hy).keepT (KeepT.drewN w k), h3, below_drewN w k⟩
theorem ret_bb {a b : Bool} (h : a = b) : Ending.returned (.bool a) = .returned (.bool b) := by rw [h]
theorem at_take {α : Type} {l : List α} {i : Nat} {p : α → Bool} {x : α} (h : (l.take i).any p = false) (hx : l[i]? = some x) (hp : p x = false) : (l.take (i + 1)).any p = false := by
  rw [List.take_add_one, hx, List.any_append, h]
  simp [hp]
def NullIH (n : Nat) : Prop := ∀ (v : Value) (x : JV) (w : World), JvAt n [] w v x → JP.size x ≤ 1000000 →
  Calls Tryd.prog 29 #[v] w fun e w' => e = .returned (.bool (JP.hasNull x)) ∧ ∃ k, w' = w.drewN k
set_option maxRecDepth 100000 in
set_option maxHeartbeats 6400000 in
theorem null_any : ∀ n : Nat, NullIH n := by
  intro n
  induction n with
  | zero => intro v x w h; cases h
  | succ n ih =>
    intro v x w h hsz
    obtain ⟨B0, hB0⟩ : ∃ B, JP.hasNull x = B := ⟨_, rfl⟩
    rw [hB0]
    have HBx := Lib.hid hB0
    clear hB0
    by_cases hob : ∃ l, x = .obj l
    · obtain ⟨l, rfl⟩ := hob
      have hv := h
      obtain ⟨q, rfl, hobr⟩ := h
      have G1 := (as_obj (.pointer (some ⟨q, 0, none⟩))).2.2.2.2
      have IH := Lib.hid ih
      have HO := Lib.hid hobr
      obtain ⟨_, hs, vn, vv, cn, cv, hrn, _, hrv, _⟩ := hobr
      obtain ⟨a1, c1, hu1, _, _⟩ := hrn.len
      rw [List.length_map] at hu1
      subst hu1
      have hlz : l.length ≤ 1000000 := by
        have := sizeF_len l
        rw [JP.size] at hsz
        omega
      have Hrn := Lib.hid hrn
      have Hs := Lib.hid hs
      have Hsz := Lib.hid hsz
      have HBl : Hid (B0 = l.any fun x => JP.isNul x.2 || JP.hasNull x.2) := Lib.hid (by rw [← HBx.out, JP.hasNull, JP.hasNullF_any])
      obtain ⟨ln, hln⟩ : ∃ ln, l.length = ln := ⟨_, rfl⟩
      rw [hln] at cn hlz
      have Hln := Lib.hid hln
      clear hv hsz ih hs hrn hrv hln HBx
      go_enter Tryd.func29, Tryd.ntmps29
      go_wp2_with fail
      refine (names_any q _ w cn).mono ?_
      rintro E w1 ⟨rfl, rfl⟩
      go_wp2_with fail
      go_loopg [19] ln (fun k u19 wr => ∃ (i kk : Nat), i + k = ln ∧ u19 = .int .i64 (i : Int) ∧ Hid ((l.take i).any (fun x => JP.isNul x.2 || JP.hasNull x.2) = false) ∧ Hid (wr = w.drewN kk))
      case atStart => exact ⟨0, 0, by omega, rfl, Lib.hid rfl, Lib.hid rfl⟩
      case round =>
        obtain ⟨i, kk, hik, rfl, HA, HW⟩ := hrel
        cases gk with
        | zero =>
          have q1 : ¬ (i : Int) < (ln : Int) := by omega
          have Hfin : Hid (B0 = false) := Lib.hid (by rw [HBl.out, ← HA.out, List.take_of_length_le (by rw [Hln.out]; omega)])
          go_wp2_with fail
          go_ret
          exact ⟨ret_bb Hfin.out.symm, _, HW.out⟩
        | succ k =>
          have hil : i < ln := by omega
          obtain ⟨y, hy⟩ : ∃ y, l[i]? = some y := ⟨l[i]'(by rw [Hln.out]; exact hil), List.getElem?_eq_getElem _⟩
          obtain ⟨b1, o1, ea, e0⟩ := ob_name (wr := wr) Hrn.out (by rw [HW.out]; exact below_drewN w kk) hy
          subst ea
          have q1 : (0 : Int) ≤ (i : Int) := by omega
          have q2 : (i : Int) < (ln : Int) := by omega
          have hg := get_any (x := y.1) (HO.out.keepJ (KeepT.drewN w kk)) (by rw [Hln.out]; omega)
          rw [get_of_at Hs.out (by rw [hy]), ← HW.out] at hg
          have HG := Lib.hid hg
          have Hy := Lib.hid hy
          have hzy : JP.size y.2 ≤ 1000000 := by
            have h9 := Hsz.out
            rw [JP.size] at h9
            have := sizeF_at hy
            omega
          clear hg hy
          go_wp2_with fail
          refine HG.out.mono ?_
          rintro E w2 ⟨vg, rfl, hsome, _, k2, rfl⟩
          have hjv := (hsome y.2 rfl).keepT (KeepT.drewN wr k2)
          have HW2 : Hid (wr.drewN k2 = w.drewN (kk + k2)) := Lib.hid (by rw [HW.out]; simp)
          clear hsome
          by_cases hn : y.2 = .nul
          · rw [hn] at hjv
            have hvg : vg = .nilIface := by
              cases n with
              | zero => cases hjv
              | succ n => exact hjv
            subst hvg
            have Hfin : Hid (B0 = true) := Lib.hid (by rw [HBl.out]; exact List.any_eq_true.2 ⟨y, List.mem_of_getElem? Hy.out, by rw [hn]; rfl⟩)
            clear hjv hn HG
            go_wp2_with fail
            go_ret
            exact ⟨ret_bb Hfin.out.symm, _, HW2.out⟩
          · obtain ⟨tv, uv, rfl⟩ := jv_iface hjv hn
            have hc := IH.out (.iface tv uv) y.2 _ hjv hzy
            obtain ⟨B1, hB1⟩ : ∃ B, JP.hasNull y.2 = B := ⟨_, rfl⟩
            rw [hB1] at hc
            have hp : (JP.isNul y.2 || JP.hasNull y.2) = B1 := by
              rw [hB1, show JP.isNul y.2 = false from by
                cases hq : JP.isNul y.2 with
                | false => rfl
                | true => exact absurd (JP.isNul_iff.1 hq) hn]
              rfl
            have HC := Lib.hid hc
            have HP := Lib.hid hp
            clear hc hp hB1 hn hjv HG
            go_wp2_with fail
            refine HC.out.mono ?_
            rintro E w3 ⟨rfl, k3, rfl⟩
            have HW3 : Hid (wr.drewN (k2 + k3) = w.drewN (kk + k2 + k3)) := Lib.hid (by rw [HW.out]; simp [Nat.add_assoc])
            cases B1 with
            | true =>
              have Hfin : Hid (B0 = true) := Lib.hid (by rw [HBl.out]; exact List.any_eq_true.2 ⟨y, List.mem_of_getElem? Hy.out, HP.out⟩)
              go_wp2_with fail
              go_ret
              exact ⟨ret_bb Hfin.out.symm, _, HW3.out⟩
            | false =>
              have HA2 : Hid ((l.take (i + 1)).any (fun x => JP.isNul x.2 || JP.hasNull x.2) = false) := Lib.hid (at_take HA.out Hy.out HP.out)
              go_wp2_with fail
              go_roundg k
              case measure => omega
              case rel => exact ⟨i + 1, kk + k2 + k3, by omega, by go_num, HA2, HW3⟩
    · have hx : ∀ l, x ≠ .obj l := fun l e => hob ⟨l, e⟩
      have G1 := as_other h hx
      have Hfin : Hid (B0 = false) := Lib.hid (by
        rw [← HBx.out]
        cases x with
        | obj l => exact absurd rfl (hx l)
        | _ => rfl)
      clear h hx hob ih hsz
      go_enter Tryd.func29, Tryd.ntmps29
      go_wp2_with fail
      go_ret
      exact ⟨ret_bb Hfin.out.symm, 0, rfl⟩
end Go.Proofs.YtlcongehmjiabaaDoor
/- merge.both: its contract. -/
namespace Go.Proofs.YtlcongehmjiabaaDoor
open Go.RowKit
open JP (JV Bs)

namespace JP
def mixE : Option JV → Int
  | some _ => 0
  | none => 9
theorem bothF_append (out : Fs) : ∀ (a b : Fs), bothF out (a ++ b) = (bothF out a).bind fun o => bothF o b := by
  intro a
  induction a generalizing out with
  | nil => intro b; rw [List.nil_append, bothF_nil]; rfl
  | cons x r ih =>
    intro b
    obtain ⟨n, w⟩ := x
    rw [List.cons_append, bothF_cons, bothF_cons, Option.bind_assoc]
    refine congrArg _ (funext fun x => ih _ b)
theorem bothF_step {k l o : Fs} {i : Nat} {y : Bs × JV} (h : bothF k (l.take i) = some o) (hy : l[i]? = some y) : bothF k (l.take (i + 1)) = (bothO (get y.1 o) y.2).map fun x => put y.1 x o := by
  rw [List.take_add_one, hy, bothF_append, h]
  show bothF o [(y.1, y.2)] = _
  rw [bothF_cons]
  cases bothO (get y.1 o) y.2 with
  | none => rfl
  | some x => exact bothF_nil _
theorem bothF_none {k l : Fs} {i : Nat} (h : bothF k (l.take i) = none) : bothF k l = none := by
  rw [← List.take_append_drop i l, bothF_append, h]; rfl
theorem get_take_none {l : Fs} {i : Nat} {y : Bs × JV} (hs : Srt l) (hy : l[i]? = some y) : get y.1 (l.take i) = none := by
  refine get_none fun x hx e => ?_
  obtain ⟨j, hj, ej⟩ := List.mem_iff_getElem.1 hx
  rw [List.length_take] at hj
  rw [List.getElem_take] at ej
  obtain ⟨hi, ei⟩ := List.getElem?_eq_some_iff.1 hy
  have := List.pairwise_iff_getElem.1 hs j i (by omega) hi (by omega)
  rw [ej, ei, e] at this
  exact List.lt_irrefl _ this
theorem srt_take {l : Fs} (i : Nat) (h : Srt l) : Srt (l.take i) := List.Pairwise.sublist (List.take_sublist i l) h
theorem get_out {k l o : Fs} {i : Nat} {y : Bs × JV} (hs : Srt l) (h : bothF k (l.take i) = some o) (hy : l[i]? = some y) : get y.1 o = get y.1 k := by
  have := get_bothF (l.take i) k o (srt_take i hs) h y.1
  rw [get_take_none hs hy] at this
  exact this
theorem len_put (n : Bs) (v : JV) : ∀ d : Fs, (put n v d).length ≤ d.length + 1
  | [] => by simp [put]
  | (m, x) :: r => by
    have ih := len_put n v r
    rw [put]
    by_cases h : m < n
    · rw [if_pos h, List.length_cons, List.length_cons]; omega
    · rw [if_neg h]
      by_cases e : m = n
      · rw [if_pos e, List.length_cons, List.length_cons]; omega
      · rw [if_neg e]; simp only [List.length_cons]; omega
end JP
def BothIH (n : Nat) : Prop := ∀ (m : Nat) (pv qv : Value) (p q : JV) (w : World), JvAt m [] w pv p → JvAt n [] w qv q → JP.size p + JP.size q ≤ 1000000 →
  Calls Tryd.prog 15 #[pv, qv] w fun e w' => ∃ u, e = .returned (.tuple #[u, .int .i64 (JP.mixE (JP.both p q))]) ∧ (∀ c, JP.both p q = some c → ∃ k, JvAt k [] w' u c) ∧ Below w.heap.size w w'
theorem ret_mix {u : Value} {a b : Int} (h : a = b) : Ending.returned (.tuple #[u, .int .i64 a]) = .returned (.tuple #[u, .int .i64 b]) := by rw [h]
set_option maxRecDepth 100000 in
set_option maxHeartbeats 6400000 in
theorem both_any : ∀ n : Nat, BothIH n := by
  intro n
  induction n with
  | zero => intro m dv v dx x w _ h; cases h
  | succ n ih =>
    intro m dv v dx x w hd h hsz
    obtain ⟨R0, hR0⟩ : ∃ R, JP.both dx x = R := ⟨_, rfl⟩
    rw [hR0]
    have HR := Lib.hid hR0
    clear hR0
    by_cases hob : ∃ l, x = .obj l
    · obtain ⟨l, rfl⟩ := hob
      have hv := h
      obtain ⟨q, rfl, hobr⟩ := h
      have G1 := (as_obj (.pointer (some ⟨q, 0, none⟩))).2.2.2.2
      have IH := Lib.hid ih
      have HP0 := Lib.hid hobr
      obtain ⟨_, hs, vn, vv, cn, cv, hrn, _, hrv, _⟩ := hobr
      obtain ⟨a1, c1, hu1, _, _⟩ := hrn.len
      rw [List.length_map] at hu1
      subst hu1
      have Hrn := Lib.hid hrn
      have Hs := Lib.hid hs
      have Hsz := Lib.hid hsz
      have hlz : l.length ≤ 1000000 := by
        have := sizeF_len l
        rw [JP.size] at hsz
        omega
      obtain ⟨ln, hln⟩ : ∃ ln, l.length = ln := ⟨_, rfl⟩
      rw [hln] at cn hlz
      have Hln := Lib.hid hln
      by_cases hdo : ∃ d, dx = .obj d
      · obtain ⟨d, rfl⟩ := hdo
        cases m with
        | zero => cases hd
        | succ M =>
          obtain ⟨qd, rfl, hdr⟩ := hd
          have G2 := (as_obj (.pointer (some ⟨qd, 0, none⟩))).2.2.2.2
          have HD0 := Lib.hid hdr
          have hdz : d.length + ln ≤ 1000000 := by
            have := sizeF_len l
            have := sizeF_len d
            have h9 := Hsz.out
            rw [JP.size, JP.size] at h9
            omega
          have HRR : Hid (R0 = (JP.bothF d l).map .obj) := Lib.hid (by rw [← HR.out, JP.both])
          clear hv hsz ih hs hrn hrv hln HR hdr
          go_enter Tryd.func15, Tryd.ntmps15
          go_wp2_with fail
          refine (names_any q _ w cn).mono ?_
          rintro E w1 ⟨rfl, rfl⟩
          go_wp2_with fail
          go_loopg [35, 8] ln (fun k u35 u8 wr => ∃ (i qo M2 : Nat) (O : JP.Fs), i + k = ln ∧ u35 = .int .i64 (i : Int) ∧ u8 = .pointer (some ⟨qo, 0, none⟩) ∧ Hid (ObR (JvR M2 []) [] wr qo O) ∧ Hid (JP.bothF d (l.take i) = some O) ∧ O.length ≤ d.length + i ∧ Hid (Below w.heap.size w wr))
          case atStart => exact ⟨0, qd, M, d, by omega, rfl, rfl, HD0, Lib.hid (by rw [List.take_zero, JP.bothF_nil]), by omega, Lib.hid (Below.refl _ _)⟩
          case round =>
            obtain ⟨i, qo, M2, O, hik, rfl, rfl, HO, HF, hol, HB⟩ := hrel
            cases gk with
            | zero =>
              have q1 : ¬ (i : Int) < (ln : Int) := by omega
              have Hfin : Hid (R0 = some (.obj O)) := Lib.hid (by rw [HRR.out, ← List.take_of_length_le (l := l) (i := i) (by rw [Hln.out]; omega), HF.out]; rfl)
              go_wp2_with fail
              go_ret2
              refine ⟨_, ret_mix (by rw [Hfin.out] <;> rfl), fun c hc => ?_, HB.out⟩
              rw [Hfin.out] at hc
              cases hc
              exact ⟨M2 + 1, qo, rfl, HO.out⟩
            | succ k =>
              have hil : i < ln := by omega
              obtain ⟨y, hy⟩ : ∃ y, l[i]? = some y := ⟨l[i]'(by rw [Hln.out]; exact hil), List.getElem?_eq_getElem _⟩
              obtain ⟨b1, o1, ea, e0⟩ := ob_name Hrn.out HB.out hy
              subst ea
              have q1 : (0 : Int) ≤ (i : Int) := by omega
              have q2 : (i : Int) < (ln : Int) := by omega
              have hg := get_b (x := y.1) (HP0.out.keepJ (KeepT.of HB.out)) (by rw [Hln.out]; omega)
              rw [get_of_at Hs.out (by rw [hy])] at hg
              have HG := Lib.hid hg
              have Hgo := Lib.hid (JP.get_out Hs.out HF.out hy)
              have Hst := Lib.hid (JP.bothF_step HF.out hy)
              have hzy := sizeF_at hy
              have Hzy := Lib.hid hzy
              clear hg hy hzy
              go_wp2_with fail
              refine HG.out.mono ?_
              rintro E w2 ⟨vg, rfl, hsome, _, hb2⟩
              have HJ := Lib.hid (hsome y.2 rfl)
              have HB2 := Lib.hid (HB.out.trans (hb2.mono HB.out.size))
              have HO2 := Lib.hid (HO.out.keepJ (KeepT.of hb2))
              have HG2 := Lib.hid (get_b (x := y.1) HO2.out (by omega))
              clear hsome HG hb2
              obtain ⟨g0, hg0⟩ : ∃ g, JP.get y.1 O = g := ⟨_, rfl⟩
              rw [hg0] at HG2 Hst Hgo
              clear hg0
              cases g0 with
              | none =>
                have Hst2 : Hid (JP.bothF d (l.take (i + 1)) = some (JP.put y.1 y.2 O)) := Lib.hid Hst.out
                go_wp2_with fail
                refine HG2.out.mono ?_
                rintro E w3 ⟨vg2, rfl, _, hn2, hb3⟩
                obtain rfl := hn2 (by first | rfl | trivial)
                have hwi := with_any (x := y.1) ((HO2.out.keepJ (KeepT.of hb3)).upsJ (Nat.le_max_left M2 n)) ((HJ.out.below hb3).ups (Nat.le_max_right M2 n)) (fun b hb => by cases hb) (by omega)
                have HWi := Lib.hid hwi
                have HB3 := Lib.hid (HB2.out.trans (hb3.mono HB2.out.size))
                clear hwi hn2 hb3
                go_wp2_with fail
                refine HWi.out.mono ?_
                rintro E w5 ⟨q5, rfl, ho5, hb5⟩
                have HO5 := Lib.hid ho5
                have HB5 := Lib.hid (HB3.out.trans (hb5.mono HB3.out.size))
                have hl5 := JP.len_put y.1 y.2 O
                clear ho5 hb5
                go_wp2_with fail
                go_roundg k
                case measure => omega
                case rel => exact ⟨i + 1, q5, max M2 n, _, by omega, by go_num, rfl, HO5, Hst2, by omega, HB5⟩
              | some v0 =>
                go_wp2_with fail
                refine HG2.out.mono ?_
                rintro E w3 ⟨vg2, rfl, hs2, _, hb3⟩
                have hzv := (JP.getF_le Hgo.out.symm).1
                have hc := IH.out M2 vg2 vg v0 y.2 _ (hs2 v0 rfl) (HJ.out.below hb3) (by
                  have h9 := Hsz.out
                  have h8 := Hzy.out
                  rw [JP.size, JP.size] at h9
                  omega)
                have hst2 : JP.bothF d (l.take (i + 1)) = (JP.both v0 y.2).map fun x => JP.put y.1 x O := Hst.out
                obtain ⟨R1, hR1⟩ : ∃ R, JP.both v0 y.2 = R := ⟨_, rfl⟩
                rw [hR1] at hc hst2
                have HC := Lib.hid hc
                have Hst2 := Lib.hid hst2
                have HB3 := Lib.hid (HB2.out.trans (hb3.mono HB2.out.size))
                have HO3 := Lib.hid (HO2.out.keepJ (KeepT.of hb3))
                clear hc hst2 hs2 hR1 HG2 hzv hb3
                cases R1 with
                | none =>
                  have Hfin : Hid (R0 = none) := Lib.hid (by rw [HRR.out, JP.bothF_none (i := i + 1) Hst2.out]; rfl)
                  go_wp2_with fail
                  refine HC.out.mono ?_
                  rintro E w4 ⟨u4, rfl, _, hb4⟩
                  have HB4 := Lib.hid (HB3.out.trans (hb4.mono HB3.out.size))
                  have hq : JP.mixE none = 9 := rfl
                  clear hb4
                  rw [hq]
                  clear hq
                  go_wp2_with fail
                  go_ret2
                  refine ⟨_, ret_mix (by rw [Hfin.out] <;> rfl), fun c hc => ?_, HB4.out⟩
                  rw [Hfin.out] at hc; cases hc
                | some x1 =>
                  go_wp2_with fail
                  refine HC.out.mono ?_
                  rintro E w4 ⟨u4, rfl, hu4, hb4⟩
                  obtain ⟨m4, hm4⟩ := hu4 x1 rfl
                  have HB4 := Lib.hid (HB3.out.trans (hb4.mono HB3.out.size))
                  have hwi := with_any (x := y.1) ((HO3.out.keepJ (KeepT.of hb4)).upsJ (Nat.le_max_left M2 m4)) (hm4.ups (Nat.le_max_right M2 m4)) (fun b hb => by cases hb) (by omega)
                  have HWi := Lib.hid hwi
                  have hq : JP.mixE (some x1) = 0 := rfl
                  clear hb4 hwi hm4 hu4
                  rw [hq]
                  clear hq
                  go_wp2_with fail
                  refine HWi.out.mono ?_
                  rintro E w5 ⟨q5, rfl, ho5, hb5⟩
                  have HO5 := Lib.hid ho5
                  have HB5 := Lib.hid (HB4.out.trans (hb5.mono HB4.out.size))
                  have hl5 := JP.len_put y.1 x1 O
                  clear ho5 hb5
                  go_wp2_with fail
                  go_roundg k
                  case measure => omega
                  case rel => exact ⟨i + 1, q5, max M2 m4, _, by omega, by go_num, rfl, HO5, Hst2, by omega, HB5⟩
      · have hdn : ∀ d, dx ≠ .obj d := fun d e => hdo ⟨d, e⟩
        have G2 := as_other hd hdn
        have Hfin : Hid (R0 = none) := Lib.hid (by
          rw [← HR.out, JP.both.eq_def]
          cases dx with
          | obj d => exact absurd rfl (hdn d)
          | _ => rfl)
        clear hv hsz ih hs hrn hrv hln HR hdn hdo hd
        go_enter Tryd.func15, Tryd.ntmps15
        go_wp2_with fail
        go_ret2
        refine ⟨_, ret_mix (by rw [Hfin.out] <;> rfl), fun c hc => ?_, Below.refl _ _⟩
        rw [Hfin.out] at hc; cases hc
    · have hx : ∀ l, x ≠ .obj l := fun l e => hob ⟨l, e⟩
      have G1 := as_other h hx
      have Hfin : Hid (R0 = some x) := Lib.hid (by rw [← HR.out]; exact JP.both_other hx)
      have H := Lib.hid h
      clear h hx hob ih hd hsz HR
      go_enter Tryd.func15, Tryd.ntmps15
      go_wp2_with fail
      go_ret2
      refine ⟨_, ret_mix (by rw [Hfin.out] <;> rfl), fun c hc => ?_, Below.refl _ _⟩
      rw [Hfin.out] at hc
      cases hc
      exact ⟨_, H.out⟩
end Go.Proofs.YtlcongehmjiabaaDoor
/- merge.between: its contract (printed by gen_between.py). -/
namespace Go.Proofs.YtlcongehmjiabaaDoor
open Go.RowKit
open JP (JV Bs)

namespace JP
theorem gone_append (l : Fs) : ∀ (a b out : Fs), goneF l out (a ++ b) = goneF l (goneF l out a) b
  | [], b, out => by rw [List.nil_append, goneF]
  | (n, _) :: r, b, out => by rw [List.cons_append, goneF, goneF, gone_append l r]
theorem gone_step {l h : Fs} {i : Nat} {y : Bs × JV} (hy : h[i]? = some y) : goneF l [] (h.take (i + 1)) = gone1 l (goneF l [] (h.take i)) y.1 := by
  rw [List.take_add_one, hy, gone_append]
  show goneF l _ [(y.1, y.2)] = _
  rw [goneF, goneF]
theorem btwF_append (h : Fs) : ∀ (a b out : Fs), btwF h out (a ++ b) = (btwF h out a).bind fun o => btwF h o b
  | [], b, out => by rw [List.nil_append, btwF_nil]; rfl
  | (n, w) :: r, b, out => by
    rw [List.cons_append, btwF_cons, btwF_cons, Option.bind_assoc]
    refine congrArg _ (funext fun x => btwF_append h r b x)
theorem btwF_step {h k l o : Fs} {i : Nat} {y : Bs × JV} (e : btwF h k (l.take i) = some o) (hy : l[i]? = some y) : btwF h k (l.take (i + 1)) = btw1 h o y.1 y.2 := by
  rw [List.take_add_one, hy, btwF_append, e]
  show btwF h o [(y.1, y.2)] = _
  rw [btwF_cons]
  cases btw1 h o y.1 y.2 with
  | none => rfl
  | some x => exact btwF_nil h _
theorem btwF_none {h k l : Fs} {i : Nat} (e : btwF h k (l.take i) = none) : btwF h k l = none := by
  rw [← List.take_append_drop i l, btwF_append, e]; rfl
theorem btw1_nul {h o : Fs} {n : Bs} {w : JV} (hs : sameO (get n h) w = false) (hn : w = .nul) : btw1 h o n w = none := by
  unfold btw1; rw [hs, if_neg (by decide), if_pos (isNul_iff.2 hn)]
theorem btw1_new {h o : Fs} {n : Bs} {w : JV} (hs : sameO (get n h) w = false) (hn : w ≠ .nul) : btw1 h o n w = (btw ((get n h).getD .nul) w).map fun x => put n x o := by
  unfold btw1; rw [hs, if_neg (by decide), if_neg (fun e => hn (isNul_iff.1 e))]
theorem btw1_same {h o : Fs} {n : Bs} {w : JV} (hs : sameO (get n h) w = true) : btw1 h o n w = some o := by
  unfold btw1; rw [hs, if_pos rfl]
theorem getD_len (n : Bs) (d : Fs) : (text ((get n d).getD .nul)).length ≤ lenF d + 4 := by
  cases h : get n d with
  | none => exact Nat.le_add_left _ _
  | some v => have := (getF_le h).2.2; show (text v).length ≤ _; omega
theorem lenF_at {l : Fs} {i : Nat} {y : Bs × JV} (h : l[i]? = some y) : (text y.2).length + 4 ≤ lenF l := by
  induction l generalizing i with
  | nil => simp at h
  | cons x r ih =>
    obtain ⟨m, v⟩ := x
    have h2 : 2 ≤ (quote m).length := by rw [quote_len]; omega
    rw [lenF]
    cases i with
    | zero =>
      simp only [List.getElem?_cons_zero, Option.some.injEq] at h
      subst h
      show (text v).length + 4 ≤ _
      omega
    | succ i =>
      rw [List.getElem?_cons_succ] at h
      have := ih h
      omega
end JP
theorem jv_nul {n : Nat} {T : List Nat} {w : World} {v : Value} {x : JV} (h : JvAt n T w v x) (hx : x = .nul) : v = .nilIface := by
  subst hx
  cases n with
  | zero => cases h
  | succ n => exact h
def BtwIH (n : Nat) : Prop := ∀ (m : Nat) (av bv : Value) (a b : JV) (w : World), JvAt m [] w av a → JvAt n [] w bv b → (JP.text a).length + (JP.text b).length ≤ 1000000 → TabOK w →
  Calls Tryd.prog 18 #[av, bv] w fun e w' => ∃ u, e = .returned (.tuple #[u, .int .i64 (JP.mixE (JP.btw a b))]) ∧ (∀ c, JP.btw a b = some c → ∃ k, JvAt k [] w' u c) ∧ Below w.heap.size w w'
set_option maxRecDepth 100000 in
set_option maxHeartbeats 12800000 in
theorem between_any : ∀ n : Nat, BtwIH n := by
  intro n
  induction n with
  | zero => intro m dv v dx x w _ h; cases h
  | succ n ih =>
    intro m dv v dx x w hd h hlen ht
    obtain ⟨R0, hR0⟩ : ∃ R, JP.btw dx x = R := ⟨_, rfl⟩
    rw [hR0]
    have HR := Lib.hid hR0
    have HT := Lib.hid ht
    clear hR0 ht
    by_cases hob : ∃ l, x = .obj l
    · obtain ⟨l, rfl⟩ := hob
      have hv := h
      obtain ⟨q, rfl, hobr⟩ := h
      have G1 := (as_obj (.pointer (some ⟨q, 0, none⟩))).2.2.2.2
      have IH := Lib.hid ih
      have HP0 := Lib.hid hobr
      obtain ⟨_, hs, vn, vv, cn, cv, hrn, _, hrv, _⟩ := hobr
      obtain ⟨a1, c1, hu1, _, _⟩ := hrn.len
      rw [List.length_map] at hu1
      subst hu1
      have Hrn := Lib.hid hrn
      have Hs := Lib.hid hs
      have Hlz := Lib.hid hlen
      have hlz : l.length ≤ 1000000 := by
        have := lenF_len l
        have := JP.obj_len_ge l
        omega
      obtain ⟨ln, hln⟩ : ∃ ln, l.length = ln := ⟨_, rfl⟩
      rw [hln] at cn hlz
      have Hln := Lib.hid hln
      by_cases hdo : ∃ d, dx = .obj d
      · obtain ⟨d, rfl⟩ := hdo
        cases m with
        | zero => cases hd
        | succ M =>
          obtain ⟨qd, rfl, hdr⟩ := hd
          have G2 := (as_obj (.pointer (some ⟨qd, 0, none⟩))).2.2.2.2
          have HD0 := Lib.hid hdr
          obtain ⟨_, hsd, vnd, vvd, cnd, cvd, hrnd, _, _, _⟩ := hdr
          obtain ⟨a2, c2, hu2, _, _⟩ := hrnd.len
          rw [List.length_map] at hu2
          subst hu2
          have Hrnd := Lib.hid hrnd
          have hdz : d.length + ln ≤ 1000000 := by
            have := lenF_len l
            have := lenF_len d
            have := JP.obj_len_ge l
            have := JP.obj_len_ge d
            have h9 := Hlz.out
            omega
          obtain ⟨dn, hdn⟩ : ∃ ln, d.length = ln := ⟨_, rfl⟩
          rw [hdn] at cnd hdz
          have Hdn := Lib.hid hdn
          have HRR : Hid (R0 = (JP.btwF d (JP.goneF l [] d) l).map .obj) := Lib.hid (by rw [← HR.out, JP.btw_obj])
          have hbA : Below w.heap.size w (w.alloc (.cells #[.slice none 0 0, .slice none 0 0] 56)) := (Below.refl _ _).alloc (Nat.le_refl _) _
          have hqd : qd < w.heap.size := World.block_lt_of_cell? w ⟨qd, 0, none⟩ cnd
          have cnd2 := (hbA.cell (p := ⟨qd, 0, none⟩) hqd).trans cnd
          have HB0 := Lib.hid hbA
          have Hout : Hid (ObR (JvR 0 []) [] (w.alloc (.cells #[.slice none 0 0, .slice none 0 0] 56)) w.heap.size []) := Lib.hid (empty_ob (heap_alloc_new w _) (by simp))
          have hq : q < w.heap.size := World.block_lt_of_cell? w ⟨q, 0, none⟩ cn
          have Hcn : Hid (w.cell? ⟨q, 0, none⟩ = some (.slice a1 ln c1)) := Lib.hid cn
          clear hv hlen ih hs hrn hrv hln HR hrnd hdn cnd cn hsd hbA
          go_enter Tryd.func18, Tryd.ntmps18
          go_wp2_with fail
          refine (names_any qd _ _ cnd2).mono ?_
          rintro E w1 ⟨rfl, rfl⟩
          go_wp2_with fail
          go_loopg [45, 9] dn (fun k u45 u9 wr => ∃ (i qo M2 : Nat) (O : JP.Fs), i + k = dn ∧ u45 = .int .i64 (i : Int) ∧ u9 = .pointer (some ⟨qo, 0, none⟩) ∧ Hid (ObR (JvR M2 []) [] wr qo O) ∧ Hid (JP.goneF l [] (d.take i) = O) ∧ O.length ≤ i ∧ Hid (Below w.heap.size w wr))
          case atStart => exact ⟨0, w.heap.size, 0, [], by omega, rfl, rfl, Hout, Lib.hid (by rw [List.take_zero, JP.goneF]), Nat.le_refl _, HB0⟩
          case round =>
            obtain ⟨i, qo, M2, O, hik, rfl, rfl, HO, HF, hol, HB⟩ := hrel
            cases gk with
            | zero =>
              have q1 : ¬ (i : Int) < (dn : Int) := by omega
              have HF2 : Hid (O = JP.goneF l [] d) := Lib.hid (by rw [← HF.out, List.take_of_length_le (l := d) (i := i) (by rw [Hdn.out]; omega)])
              have cn2 := (HB.out.cell (p := ⟨q, 0, none⟩) hq).trans Hcn.out
              obtain ⟨W1, hW1⟩ : ∃ W1, W1 = wr := ⟨_, rfl⟩
              subst hW1
              obtain ⟨O0, hO0⟩ : ∃ x, x = O := ⟨_, rfl⟩
              obtain ⟨n0, hn0⟩ : ∃ x, x = i := ⟨_, rfl⟩
              subst hO0 hn0
              have HRR : Hid (R0 = (JP.btwF d O0 l).map .obj) := Lib.hid (by rw [HF2.out]; exact HRR.out)
              have hol0 : O0.length ≤ dn := by omega
              clear hol
              go_wp2_with fail
              refine (names_any q _ _ cn2).mono ?_
              rintro E w1 ⟨rfl, rfl⟩
              go_wp2_with fail
              clear hik q1
              go_loopg [64, 9] ln (fun k u64 u9 wr => ∃ (i qo M2 : Nat) (O : JP.Fs), i + k = ln ∧ u64 = .int .i64 (i : Int) ∧ u9 = .pointer (some ⟨qo, 0, none⟩) ∧ Hid (ObR (JvR M2 []) [] wr qo O) ∧ Hid (JP.btwF d O0 (l.take i) = some O) ∧ O.length ≤ dn + i ∧ Hid (Below w.heap.size w wr))
              case atStart => exact ⟨0, qo, M2, O0, by omega, rfl, rfl, HO, Lib.hid (by rw [List.take_zero, JP.btwF_nil]), by omega, HB⟩
              case round =>
                clear HO HB HF
                obtain ⟨i, qo, M2, O, hik, rfl, rfl, HO, HF, hol, HB⟩ := hrel
                cases gk with
                | zero =>
                  have q1 : ¬ (i : Int) < (ln : Int) := by omega
                  have Hfin : Hid (R0 = some (.obj O)) := Lib.hid (by rw [HRR.out, ← List.take_of_length_le (l := l) (i := i) (by rw [Hln.out]; omega), HF.out]; rfl)
                  go_wp2_with fail
                  go_ret2
                  refine ⟨_, ret_mix (by rw [Hfin.out] <;> rfl), fun c hc => ?_, HB.out⟩
                  rw [Hfin.out] at hc
                  cases hc
                  exact ⟨M2 + 1, qo, rfl, HO.out⟩
                | succ k =>
                  have hil : i < ln := by omega
                  obtain ⟨y, hy⟩ : ∃ y, l[i]? = some y := ⟨l[i]'(by rw [Hln.out]; exact hil), List.getElem?_eq_getElem _⟩
                  obtain ⟨b1, o1, ea, e0⟩ := ob_name Hrn.out HB.out hy
                  subst ea
                  have q1 : (0 : Int) ≤ (i : Int) := by omega
                  have q2 : (i : Int) < (ln : Int) := by omega
                  have hg := get_b (x := y.1) (HP0.out.keepJ (KeepT.of HB.out)) (by rw [Hln.out]; omega)
                  rw [get_of_at Hs.out (by rw [hy])] at hg
                  have HG := Lib.hid hg
                  have Hst := Lib.hid (JP.btwF_step HF.out hy)
                  have Hzy := Lib.hid (JP.lenF_at hy)
                  clear hg hy
                  go_wp2_with fail
                  refine HG.out.mono ?_
                  rintro E w2 ⟨vg, rfl, hsome, _, hb2⟩
                  have HJ := Lib.hid (hsome y.2 rfl)
                  have HB2 := Lib.hid (HB.out.trans (hb2.mono HB.out.size))
                  have HO2 := Lib.hid (HO.out.keepJ (KeepT.of hb2))
                  have HG2 := Lib.hid (get_b (x := y.1) (HD0.out.keepJ (KeepT.of HB2.out)) (by rw [Hdn.out]; omega))
                  clear hsome HG hb2
                  cases hg0 : JP.get y.1 d with
                  | none =>
                    rw [hg0] at HG2
                    have Hsm : Hid (JP.sameO (JP.get y.1 d) y.2 = false) := Lib.hid (by rw [hg0]; rfl)
                    have Hgd : Hid ((JP.get y.1 d).getD .nul = .nul) := Lib.hid (by rw [hg0]; rfl)
                    clear hg0
                    go_wp2_with fail
                    refine HG2.out.mono ?_
                    rintro E w3 ⟨vg2, rfl, _, hn2, hb3⟩
                    have HB3 := Lib.hid (HB2.out.trans (hb3.mono HB2.out.size))
                    have HJ3 := Lib.hid (HJ.out.below hb3)
                    have HO3 := Lib.hid (HO2.out.keepJ (KeepT.of hb3))
                    obtain rfl := hn2 (by first | rfl | trivial)
                    clear hn2 hb3
                    obtain ⟨m2, hm2⟩ : ∃ x, x = 1 := ⟨_, rfl⟩
                    have HJ2 : Hid (JvAt m2 [] w3 .nilIface ((JP.get y.1 d).getD .nul)) := Lib.hid (by rw [Hgd.out, hm2]; rfl)
                    clear hm2
                    by_cases hn : y.2 = .nul
                    · have hvg : vg = .nilIface := jv_nul HJ3.out hn
                      subst hvg
                      have Hfin : Hid (R0 = none) := Lib.hid (by rw [HRR.out, JP.btwF_none (i := i + 1) (by rw [Hst.out]; exact JP.btw1_nul Hsm.out hn)]; rfl)
                      have HBx := Lib.hid HB3.out
                      clear hn
                      go_wp2_with fail
                      go_ret2
                      refine ⟨_, ret_mix (by rw [Hfin.out] <;> rfl), fun c hc => ?_, HBx.out⟩
                      rw [Hfin.out] at hc; cases hc
                    · obtain ⟨tv, uv, rfl⟩ := jv_iface HJ3.out hn
                      have hst2 : JP.btwF d O0 (l.take (i + 1)) = (JP.btw ((JP.get y.1 d).getD .nul) y.2).map fun x => JP.put y.1 x O := by rw [Hst.out]; exact JP.btw1_new Hsm.out hn
                      have hc := IH.out m2 .nilIface (.iface tv uv) ((JP.get y.1 d).getD .nul) y.2 _ HJ2.out HJ3.out (by
                        have h9 := Hlz.out
                        have h8 := Hzy.out
                        have h7 := JP.getD_len y.1 d
                        have := JP.obj_len_ge d
                        have := JP.obj_len_ge l
                        omega) (HT.out.below HB3.out)
                      obtain ⟨R1, hR1⟩ : ∃ R, JP.btw ((JP.get y.1 d).getD .nul) y.2 = R := ⟨_, rfl⟩
                      rw [hR1] at hc hst2
                      have HC := Lib.hid hc
                      have Hst2 := Lib.hid hst2
                      clear hc hst2 hR1 hn
                      cases R1 with
                      | none =>
                        have Hfin : Hid (R0 = none) := Lib.hid (by rw [HRR.out, JP.btwF_none (i := i + 1) Hst2.out]; rfl)
                        go_wp2_with fail
                        refine HC.out.mono ?_
                        rintro E w5 ⟨u4, rfl, _, hb4⟩
                        have HB4 := Lib.hid (HB3.out.trans (hb4.mono HB3.out.size))
                        have hq : JP.mixE none = 9 := rfl
                        clear hb4
                        rw [hq]
                        clear hq
                        go_wp2_with fail
                        go_ret2
                        refine ⟨_, ret_mix (by rw [Hfin.out] <;> rfl), fun c hc => ?_, HB4.out⟩
                        rw [Hfin.out] at hc; cases hc
                      | some x1 =>
                        go_wp2_with fail
                        refine HC.out.mono ?_
                        rintro E w5 ⟨u4, rfl, hu4, hb4⟩
                        obtain ⟨m4, hm4⟩ := hu4 x1 rfl
                        have HB4 := Lib.hid (HB3.out.trans (hb4.mono HB3.out.size))
                        have hwi := with_any (x := y.1) ((HO3.out.keepJ (KeepT.of hb4)).upsJ (Nat.le_max_left M2 m4)) (hm4.ups (Nat.le_max_right M2 m4)) (fun b hb => by cases hb) (by omega)
                        have HWi := Lib.hid hwi
                        have hq : JP.mixE (some x1) = 0 := rfl
                        clear hb4 hwi hm4 hu4
                        rw [hq]
                        clear hq
                        go_wp2_with fail
                        refine HWi.out.mono ?_
                        rintro E w6 ⟨q5, rfl, ho5, hb5⟩
                        have HO5 := Lib.hid ho5
                        have HB5 := Lib.hid (HB4.out.trans (hb5.mono HB4.out.size))
                        have hl5 := JP.len_put y.1 x1 O
                        clear ho5 hb5
                        go_wp2_with fail
                        go_roundg k
                        case measure => omega
                        case rel => exact ⟨i + 1, q5, max M2 m4, _, by omega, by go_num, rfl, HO5, Hst2, by omega, HB5⟩
                  | some v0 =>
                    rw [hg0] at HG2
                    obtain ⟨S, hS⟩ : ∃ S, decide (JP.text v0 = JP.text y.2) = S := ⟨_, rfl⟩
                    have Hsm0 : Hid (JP.sameO (JP.get y.1 d) y.2 = S) := Lib.hid (by rw [hg0]; exact hS)
                    have Hgd : Hid ((JP.get y.1 d).getD .nul = v0) := Lib.hid (by rw [hg0]; rfl)
                    have hzv := (JP.getF_le hg0).2.2
                    clear hg0
                    go_wp2_with fail
                    refine HG2.out.mono ?_
                    rintro E w3 ⟨vg2, rfl, hs2, _, hb3⟩
                    have HB30 := Lib.hid (HB2.out.trans (hb3.mono HB2.out.size))
                    have HJ30 := Lib.hid (HJ.out.below hb3)
                    have HO30 := Lib.hid (HO2.out.keepJ (KeepT.of hb3))
                    have HJ20 := Lib.hid (hs2 v0 rfl)
                    have hsame := same_any HJ20.out HJ30.out (by have := JP.obj_len_ge d; have := Hlz.out; omega) (by have := JP.obj_len_ge l; have := Hlz.out; have := Hzy.out; omega) (HT.out.below HB30.out)
                    rw [hS] at hsame
                    have HSm := Lib.hid hsame
                    clear hsame hS hs2 hzv HG2 hb3
                    go_wp2_with fail
                    refine HSm.out.mono ?_
                    rintro E w4 ⟨rfl, hbs⟩
                    have HB3 := Lib.hid (HB30.out.trans (hbs.mono HB30.out.size))
                    have HJ3 := Lib.hid (HJ30.out.below hbs)
                    have HO3 := Lib.hid (HO30.out.keepJ (KeepT.of hbs))
                    obtain ⟨m2, hm2⟩ : ∃ x, x = M := ⟨_, rfl⟩
                    have HJ2 : Hid (JvAt m2 [] w4 vg2 ((JP.get y.1 d).getD .nul)) := Lib.hid (by rw [Hgd.out, hm2]; exact HJ20.out.below hbs)
                    clear hbs hm2 HB30 HJ30 HO30 HJ20
                    cases S with
                    | true =>
                      have Hst2 : Hid (JP.btwF d O0 (l.take (i + 1)) = some O) := Lib.hid (by rw [Hst.out]; exact JP.btw1_same Hsm0.out)
                      go_wp2_with fail
                      go_roundg k
                      case measure => omega
                      case rel => exact ⟨i + 1, qo, M2, _, by omega, by go_num, rfl, HO3, Hst2, by omega, HB3⟩
                    | false =>
                      have Hsm := Hsm0
                      by_cases hn : y.2 = .nul
                      · have hvg : vg = .nilIface := jv_nul HJ3.out hn
                        subst hvg
                        have Hfin : Hid (R0 = none) := Lib.hid (by rw [HRR.out, JP.btwF_none (i := i + 1) (by rw [Hst.out]; exact JP.btw1_nul Hsm.out hn)]; rfl)
                        have HBx := Lib.hid HB3.out
                        clear hn
                        go_wp2_with fail
                        go_ret2
                        refine ⟨_, ret_mix (by rw [Hfin.out] <;> rfl), fun c hc => ?_, HBx.out⟩
                        rw [Hfin.out] at hc; cases hc
                      · obtain ⟨tv, uv, rfl⟩ := jv_iface HJ3.out hn
                        have hst2 : JP.btwF d O0 (l.take (i + 1)) = (JP.btw ((JP.get y.1 d).getD .nul) y.2).map fun x => JP.put y.1 x O := by rw [Hst.out]; exact JP.btw1_new Hsm.out hn
                        have hc := IH.out m2 vg2 (.iface tv uv) ((JP.get y.1 d).getD .nul) y.2 _ HJ2.out HJ3.out (by
                          have h9 := Hlz.out
                          have h8 := Hzy.out
                          have h7 := JP.getD_len y.1 d
                          have := JP.obj_len_ge d
                          have := JP.obj_len_ge l
                          omega) (HT.out.below HB3.out)
                        obtain ⟨R1, hR1⟩ : ∃ R, JP.btw ((JP.get y.1 d).getD .nul) y.2 = R := ⟨_, rfl⟩
                        rw [hR1] at hc hst2
                        have HC := Lib.hid hc
                        have Hst2 := Lib.hid hst2
                        clear hc hst2 hR1 hn
                        cases R1 with
                        | none =>
                          have Hfin : Hid (R0 = none) := Lib.hid (by rw [HRR.out, JP.btwF_none (i := i + 1) Hst2.out]; rfl)
                          go_wp2_with fail
                          refine HC.out.mono ?_
                          rintro E w5 ⟨u4, rfl, _, hb4⟩
                          have HB4 := Lib.hid (HB3.out.trans (hb4.mono HB3.out.size))
                          have hq : JP.mixE none = 9 := rfl
                          clear hb4
                          rw [hq]
                          clear hq
                          go_wp2_with fail
                          go_ret2
                          refine ⟨_, ret_mix (by rw [Hfin.out] <;> rfl), fun c hc => ?_, HB4.out⟩
                          rw [Hfin.out] at hc; cases hc
                        | some x1 =>
                          go_wp2_with fail
                          refine HC.out.mono ?_
                          rintro E w5 ⟨u4, rfl, hu4, hb4⟩
                          obtain ⟨m4, hm4⟩ := hu4 x1 rfl
                          have HB4 := Lib.hid (HB3.out.trans (hb4.mono HB3.out.size))
                          have hwi := with_any (x := y.1) ((HO3.out.keepJ (KeepT.of hb4)).upsJ (Nat.le_max_left M2 m4)) (hm4.ups (Nat.le_max_right M2 m4)) (fun b hb => by cases hb) (by omega)
                          have HWi := Lib.hid hwi
                          have hq : JP.mixE (some x1) = 0 := rfl
                          clear hb4 hwi hm4 hu4
                          rw [hq]
                          clear hq
                          go_wp2_with fail
                          refine HWi.out.mono ?_
                          rintro E w6 ⟨q5, rfl, ho5, hb5⟩
                          have HO5 := Lib.hid ho5
                          have HB5 := Lib.hid (HB4.out.trans (hb5.mono HB4.out.size))
                          have hl5 := JP.len_put y.1 x1 O
                          clear ho5 hb5
                          go_wp2_with fail
                          go_roundg k
                          case measure => omega
                          case rel => exact ⟨i + 1, q5, max M2 m4, _, by omega, by go_num, rfl, HO5, Hst2, by omega, HB5⟩
            | succ k =>
              have hil : i < dn := by omega
              obtain ⟨y, hy⟩ : ∃ y, d[i]? = some y := ⟨d[i]'(by rw [Hdn.out]; exact hil), List.getElem?_eq_getElem _⟩
              obtain ⟨b1, o1, ea, e0⟩ := ob_name Hrnd.out HB.out hy
              subst ea
              have q1 : (0 : Int) ≤ (i : Int) := by omega
              have q2 : (i : Int) < (dn : Int) := by omega
              have HG := Lib.hid (get_b (x := y.1) (HP0.out.keepJ (KeepT.of HB.out)) (by rw [Hln.out]; omega))
              have hst := JP.gone_step (l := l) hy
              rw [HF.out] at hst
              have Hst := Lib.hid hst
              clear hy hst
              obtain ⟨g0, hg0⟩ : ∃ g, JP.get y.1 l = g := ⟨_, rfl⟩
              have Hg0 := Lib.hid hg0
              rw [hg0] at HG
              clear hg0
              cases g0 with
              | none =>
                have HF2 : Hid (JP.goneF l [] (d.take (i + 1)) = JP.put y.1 .nul O) := Lib.hid (by rw [Hst.out]; unfold JP.gone1; rw [Hg0.out]; rfl)
                go_wp2_with fail
                refine HG.out.mono ?_
                rintro E w2 ⟨vg, rfl, _, _, hb2⟩
                have HB2 := Lib.hid (HB.out.trans (hb2.mono HB.out.size))
                have HWi := Lib.hid (with_any (x := y.1) (y := .nul) (v := .nilIface) ((HO.out.keepJ (KeepT.of hb2)).upsJ (Nat.le_succ M2)) (show JvAt (M2 + 1) [] _ _ _ from rfl) (fun b hb => by cases hb) (by omega))
                go_wp2_with fail
                refine HWi.out.mono ?_
                rintro E w5 ⟨q5, rfl, ho5, hb5⟩
                have HO5 := Lib.hid ho5
                have HB5 := Lib.hid (HB2.out.trans (hb5.mono HB2.out.size))
                have hl5 := JP.len_put y.1 .nul O
                clear ho5 hb5
                go_wp2_with fail
                go_roundg k
                case measure => omega
                case rel => exact ⟨i + 1, q5, M2 + 1, _, by omega, by go_num, rfl, HO5, HF2, by omega, HB5⟩
              | some v0 =>
                have HF2 : Hid (JP.goneF l [] (d.take (i + 1)) = O) := Lib.hid (by rw [Hst.out]; unfold JP.gone1; rw [Hg0.out]; rfl)
                go_wp2_with fail
                refine HG.out.mono ?_
                rintro E w2 ⟨vg, rfl, _, _, hb2⟩
                have HB2 := Lib.hid (HB.out.trans (hb2.mono HB.out.size))
                have HO2 := Lib.hid (HO.out.keepJ (KeepT.of hb2))
                clear hb2
                go_wp2_with fail
                go_roundg k
                case measure => omega
                case rel => exact ⟨i + 1, qo, M2, _, by omega, by go_num, rfl, HO2, HF2, by omega, HB2⟩
      · have hdn : ∀ d, dx ≠ .obj d := fun d e => hdo ⟨d, e⟩
        have G2 := as_other hd hdn
        have HRR : Hid (R0 = if JP.hasNullF l = true then none else some (.obj l)) := Lib.hid (by rw [← HR.out]; exact JP.btw_new hdn l)
        have hz : JP.size (.obj l) ≤ 1000000 := by have := JP.size_le_len (.obj l); omega
        have HN := Lib.hid (null_any (n + 1) _ _ _ hv hz)
        have Hv := Lib.hid hv
        obtain ⟨B, hB⟩ : ∃ B, JP.hasNull (.obj l) = B := ⟨_, rfl⟩
        rw [hB] at HN
        rw [show JP.hasNullF l = B from by rw [← hB, JP.hasNull]] at HRR
        clear hv hlen ih hs hrn hrv hln HR hdn hdo hd hz hB
        go_enter Tryd.func18, Tryd.ntmps18
        go_wp2_with fail
        refine HN.out.mono ?_
        rintro E w2 ⟨rfl, kk, rfl⟩
        cases B with
        | true =>
          have Hfin : Hid (R0 = none) := Lib.hid HRR.out
          go_wp2_with fail
          go_ret2
          refine ⟨_, ret_mix (by rw [Hfin.out] <;> rfl), fun c hc => ?_, below_drewN w kk⟩
          rw [Hfin.out] at hc; cases hc
        | false =>
          have Hfin : Hid (R0 = some (.obj l)) := Lib.hid HRR.out
          go_wp2_with fail
          go_ret2
          refine ⟨_, ret_mix (by rw [Hfin.out] <;> rfl), fun c hc => ?_, below_drewN w kk⟩
          rw [Hfin.out] at hc
          cases hc
          exact ⟨_, Hv.out.keepT (KeepT.drewN w kk)⟩
    · have hx : ∀ l, x ≠ .obj l := fun l e => hob ⟨l, e⟩
      have G1 := as_other h hx
      have Hfin : Hid (R0 = some x) := Lib.hid (by rw [← HR.out]; exact JP.btw_other hx)
      have H := Lib.hid h
      clear h hx hob ih hd hlen HR
      go_enter Tryd.func18, Tryd.ntmps18
      go_wp2_with fail
      go_ret2
      refine ⟨_, ret_mix (by rw [Hfin.out] <;> rfl), fun c hc => ?_, Below.refl _ _⟩
      rw [Hfin.out] at hc
      cases hc
      exact ⟨_, H.out⟩
end Go.Proofs.YtlcongehmjiabaaDoor
/- json: sound, Tell. -/
namespace Go.Proofs.YtlcongehmjiabaaDoor
open Go.RowKit
open JP (JV Bs)

namespace JP
mutual
def sound : JV → Bool
  | .nul => true
  | .bool _ => true
  | .num _ => true
  | .str s => s.all stand
  | .list l => soundL l
  | .obj l => soundF l
termination_by structural x => x
def soundL : List JV → Bool
  | [] => true
  | v :: r => sound v && soundL r
termination_by structural x => x
def soundF : List (Bs × JV) → Bool
  | [] => true
  | (n, v) :: r => n.all stand && sound v && soundF r
termination_by structural x => x
end
theorem soundL_any (l : List JV) : soundL l = !l.any fun x => !sound x := by
  induction l with
  | nil => rfl
  | cons v r ih => rw [soundL, ih, List.any_cons]; cases sound v <;> simp
theorem soundF_all (l : List (Bs × JV)) : soundF l = l.all fun x => x.1.all stand && sound x.2 := by
  induction l with
  | nil => rfl
  | cons x r ih => obtain ⟨n, v⟩ := x; rw [soundF, ih, List.all_cons]
end JP
theorem all_take_of {α : Type} {l : List α} {p : α → Bool} {i : Nat} {x : α} (h : (l.take i).all p = true) (hx : l[i]? = some x) (hp : p x = true) : (l.take (i + 1)).all p = true := by
  rw [List.take_add_one, hx, List.all_append, h]
  simp [hp]
theorem not_all_of {α : Type} {l : List α} {p : α → Bool} {i : Nat} {x : α} (hx : l[i]? = some x) (hp : p x = false) : l.all p = false := by
  rw [Bool.eq_false_iff]
  intro h
  rw [List.all_eq_true] at h
  have := h x (List.mem_of_getElem? hx)
  rw [hp] at this
  cases this
def SoundIH (n : Nat) : Prop := ∀ (v : Value) (x : JV) (w : World), JvAt n [] w v x → (JP.text x).length ≤ 1048576 → Calls Tryd.prog 26 #[v] w fun e w' => e = .returned (.bool (JP.sound x)) ∧ w = w'
set_option maxRecDepth 100000 in
set_option maxHeartbeats 1600000 in
theorem cloSound_any {n : Nat} (ih : SoundIH n) (v : Value) (x : JV) (w : World) (h : JvAt n [] w v x) (hl : (JP.text x).length ≤ 1048576) :
    Calls Tryd.prog 42 #[v] w fun e w' => e = .returned (.bool (!JP.sound x)) ∧ w = w' := by
  have H := Lib.hid (ih v x w h hl)
  obtain ⟨b, hb⟩ : ∃ b, JP.sound x = b := ⟨_, rfl⟩
  rw [hb] at H ⊢
  clear ih h hl hb
  go_enter Tryd.func42, Tryd.ntmps42
  go_wp2_with fail
  refine H.out.mono ?_
  rintro E w1 ⟨rfl, rfl⟩
  go_wp2_with fail
  go_ret
  exact ⟨rfl, rfl⟩
set_option maxRecDepth 100000 in
set_option maxHeartbeats 3200000 in
theorem idxSound_any {n : Nat} (ih : SoundIH n) (v : Value) (l : List JV) (w : World) (h : RowAt (JvR n []) 1 w v l) (hl : l.length ≤ 1048576) (hx : ∀ x ∈ l, (JP.text x).length ≤ 1048576) :
    Calls Tryd.prog 58 #[v, .func (.func 42) #[] #[]] w fun e w' => (∃ i : Int, e = .returned (.int .i64 i) ∧ (decide (0 ≤ i) = l.any fun x => !JP.sound x)) ∧ w = w' := by
  obtain ⟨a1, c1, rfl, _, _⟩ := h.len
  have H := Lib.hid h
  have Hx := Lib.hid hx
  have HC := Lib.hid (fun v x w h hl => cloSound_any ih v x w h hl)
  clear h hx ih
  go_enter Tryd.func58, Tryd.ntmps58
  go_wp2_with fail
  go_loopg [8] l.length (fun g u8 wr => ∃ i : Nat, i + g = l.length ∧ u8 = .int .i64 (i : Int) ∧ Hid (∀ x ∈ l.take i, (!JP.sound x) = false) ∧ w = wr)
  case atStart => exact ⟨0, by omega, rfl, Lib.hid (fun x hx => by simp at hx), rfl⟩
  case round =>
    obtain ⟨i, hig, rfl, Hall, rfl⟩ := hrel
    cases gk with
    | zero =>
      obtain rfl : i = l.length := by omega
      have Hany : Hid (decide ((0 : Int) ≤ -1) = l.any fun x => !JP.sound x) := by
        refine Lib.hid ?_
        rw [decide_eq_false (by omega), eq_comm, List.any_eq_false]
        intro x hx
        have := Hall.out x (by rw [List.take_of_length_le (Nat.le_refl _)]; exact hx)
        rw [this]; decide
      clear hig
      go_wp2_with fail
      go_ret
      exact ⟨⟨-1, rfl, Hany.out⟩, rfl⟩
    | succ g =>
      have hil : i < l.length := by omega
      obtain ⟨x, hxi⟩ : ∃ x, l[i]? = some x := ⟨l[i]'(by omega), List.getElem?_eq_getElem _⟩
      obtain ⟨b, o, c', hv, _, _, hbs, hcell⟩ := H.out.form (by omega) (by omega)
      cases hv
      obtain ⟨ds, _, hcc, vx, rfl, hvx⟩ := hcell i x hxi
      have e0 : w.cell? ⟨b, o + i, none⟩ = some vx := by simpa using hcc 0 _ rfl
      have q1 : (0 : Int) ≤ (i : Int) := by omega
      have q2 : (i : Int) < (l.length : Int) := by omega
      have Hxi := Lib.hid hxi
      have HC1 := Lib.hid (HC.out vx x w hvx (Hx.out x (List.mem_of_getElem? hxi)))
      clear hcc hcell hvx hxi
      obtain ⟨pb, Hpb⟩ : ∃ pb, Hid ((!JP.sound x) = pb) := ⟨_, Lib.hid rfl⟩
      have h9 := HC1.out
      rw [Hpb.out] at h9
      have HC2 := Lib.hid h9
      clear h9 HC1
      go_wp2_with fail
      refine HC2.out.mono ?_
      rintro E w1 ⟨rfl, rfl⟩
      cases pb with
      | true =>
        have Hany : Hid (decide ((0 : Int) ≤ (i : Int)) = l.any fun x => !JP.sound x) := by
          refine Lib.hid ?_
          rw [decide_eq_true (by omega), eq_comm, List.any_eq_true]
          exact ⟨x, List.mem_of_getElem? Hxi.out, Hpb.out⟩
        go_wp2_with fail
        go_ret
        exact ⟨⟨_, rfl, Hany.out⟩, rfl⟩
      | false =>
        have Hall2 : Hid (∀ x ∈ l.take (i + 1), (!JP.sound x) = false) := Lib.hid fun y hy => by
          rw [List.take_add_one, Hxi.out] at hy
          rcases List.mem_append.1 hy with h | h
          · exact Hall.out y h
          · have h9 : y = x := by simpa using h
            rw [h9]; exact Hpb.out
        go_wp2_with fail
        go_roundg g
        case measure => omega
        case rel => exact ⟨i + 1, by omega, by go_num, Hall2, rfl⟩
set_option maxRecDepth 100000 in
set_option maxHeartbeats 1600000 in
theorem anySound_any {n : Nat} (ih : SoundIH n) (v : Value) (l : List JV) (w : World) (h : RowAt (JvR n []) 1 w v l) (hl : l.length ≤ 1048576) (hx : ∀ x ∈ l, (JP.text x).length ≤ 1048576) :
    Calls Tryd.prog 41 #[v, .func (.func 42) #[] #[]] w fun e w' => e = .returned (.bool (!JP.soundL l)) ∧ w = w' := by
  have H := Lib.hid (idxSound_any ih v l w h hl hx)
  obtain ⟨B, HB⟩ : ∃ B, Hid ((!JP.soundL l) = B) := ⟨_, Lib.hid rfl⟩
  have HB2 : Hid ((l.any fun x => !JP.sound x) = B) := Lib.hid (by rw [← HB.out, JP.soundL_any, Bool.not_not])
  rw [HB.out]
  clear h ih hx
  go_enter Tryd.func41, Tryd.ntmps41
  go_wp2_with fail
  refine H.out.mono ?_
  rintro E w1 ⟨⟨i, rfl, hn⟩, rfl⟩
  rw [HB2.out] at hn
  have Hn := Lib.hid hn
  clear hn H
  go_wp2_with fail
  go_ret
  exact ⟨congrArg (fun b => Ending.returned (Value.bool b)) Hn.out, rfl⟩
set_option maxRecDepth 100000 in
set_option maxHeartbeats 6400000 in
theorem sound_any : ∀ (n : Nat), SoundIH n := by
  intro n
  induction n with
  | zero => intro v x w h; cases h
  | succ n ih =>
    intro v x w h hlen
    have IH := Lib.hid ih
    clear ih
    cases x with
    | nul =>
      obtain rfl : v = .nilIface := h
      obtain ⟨g1, g2, g3, g4, g5⟩ := as_nil
      clear hlen
      go_enter Tryd.func26, Tryd.ntmps26
      go_wp2_with fail
      go_ret
      exact ⟨ret_bool2 (by rw [JP.sound]), rfl⟩
    | bool b =>
      obtain rfl : v = .iface 4 (.bool b) := h
      obtain ⟨g1, g2, g3, g4, g5⟩ := as_bool (.bool b)
      clear hlen
      go_enter Tryd.func26, Tryd.ntmps26
      go_wp2_with fail
      go_ret
      exact ⟨ret_bool2 (by rw [JP.sound]), rfl⟩
    | num k =>
      obtain ⟨rfl, _, _⟩ := h
      obtain ⟨g1, g2, g3, g4, g5⟩ := as_int64 (.int .i64 k)
      clear hlen
      go_enter Tryd.func26, Tryd.ntmps26
      go_wp2_with fail
      go_ret
      exact ⟨ret_bool2 (by rw [JP.sound]), rfl⟩
    | str s =>
      obtain rfl : v = .iface 9 (.string (mkB s)) := h
      obtain ⟨g1, g2, g3, g4, g5⟩ := as_string (.string (mkB s))
      have hsz : (mkB s).size ≤ 1048576 := by
        rw [mkB_size]
        have := quote_size s
        rw [JP.text] at hlen
        omega
      have HS := stands_any (mkB s) w hsz
      rw [mkB_list] at HS
      obtain ⟨b, hb⟩ : ∃ b, s.all JP.stand = b := ⟨_, rfl⟩
      rw [hb] at HS
      have HS := Lib.hid HS
      have Hb := Lib.hid hb
      clear hlen hb hsz
      go_enter Tryd.func26, Tryd.ntmps26
      go_wp2_with fail
      refine HS.out.mono ?_
      rintro E w1 ⟨rfl, rfl⟩
      go_wp2_with fail
      go_ret
      exact ⟨ret_bool2 (by rw [JP.sound]; exact Hb.out.symm), rfl⟩
    | list L =>
      obtain ⟨u, rfl, hrow, _⟩ := h
      obtain ⟨a, c, rfl, _, _⟩ := hrow.len
      obtain ⟨g1, g2, g3, g4, g5⟩ := as_list (.slice a L.length c)
      have hll := lenL_text L
      have hln := lenL_len L
      have HA := anySound_any IH.out _ L w hrow (by omega) (fun x hx => by have := lenL_mem hx; omega)
      obtain ⟨b, hb⟩ : ∃ b, JP.soundL L = b := ⟨_, rfl⟩
      rw [hb] at HA
      have HA := Lib.hid HA
      have Hb := Lib.hid hb
      clear hlen hb hll hrow
      go_enter Tryd.func26, Tryd.ntmps26
      go_wp2_with fail
      refine HA.out.mono ?_
      rintro E w1 ⟨rfl, rfl⟩
      go_wp2_with fail
      go_ret
      exact ⟨ret_bool2 (by rw [JP.sound]; exact Hb.out.symm), rfl⟩
    | obj l =>
      obtain ⟨q, rfl, _, _, vn, vv, cn, cv, hrn, _, hrv, _⟩ := h
      obtain ⟨a1, c1, hu1, _, _⟩ := hrn.len
      obtain ⟨a2, c2, hu2, _, _⟩ := hrv.len
      obtain ⟨ln, hln⟩ : ∃ ln, l.length = ln := ⟨_, rfl⟩
      rw [List.length_map, hln] at hu1 hu2
      subst hu1
      subst hu2
      obtain ⟨g1, g2, g3, g4, g5⟩ := as_obj (.pointer (some ⟨q, 0, none⟩))
      have hll := lenF_text l
      have hln2 := lenF_len l
      have hlb : ln ≤ 1048576 := by omega
      have Hln := Lib.hid hln
      have Hrn := Lib.hid hrn
      have Hrv := Lib.hid hrv
      have Hlen := Lib.hid (fun x (hx : x ∈ l) => (show x.1.length ≤ 1048576 ∧ (JP.text x.2).length ≤ 1048576 from by
        have h1 := lenF_mem hx
        have h2 := quote_size x.1
        omega))
      have HS : Hid (JP.sound (.obj l) = l.all fun x => x.1.all JP.stand && JP.sound x.2) := Lib.hid (by rw [JP.sound, JP.soundF_all])
      clear hlen hll hln2 hrn hrv hln
      go_enter Tryd.func26, Tryd.ntmps26
      go_wp2_with fail
      go_loopg [28] ln (fun k u28 wr => ∃ i : Nat, i + k = ln ∧ u28 = .int .i64 (i : Int) ∧ Hid ((l.take i).all (fun x => x.1.all JP.stand && JP.sound x.2) = true) ∧ w = wr)
      case atStart => exact ⟨0, by omega, rfl, Lib.hid rfl, rfl⟩
      case round =>
        obtain ⟨i, hik, rfl, Hall, rfl⟩ := hrel
        cases gk with
        | zero =>
          have hall := Hall.out
          rw [List.take_of_length_le (by rw [Hln.out]; omega)] at hall
          have Ha := Lib.hid hall
          have q1 : ¬ (i : Int) < (ln : Int) := by omega
          clear hall hik
          go_wp2_with fail
          go_ret
          exact ⟨ret_bool2 (by rw [HS.out]; exact Ha.out.symm), rfl⟩
        | succ k =>
          have hil : i < ln := by omega
          obtain ⟨y, hy⟩ : ∃ y, l[i]? = some y := ⟨l[i]'(by rw [Hln.out]; exact hil), List.getElem?_eq_getElem _⟩
          have hlm := Hlen.out y (List.mem_of_getElem? hy)
          obtain ⟨b1, o1, c', hv1, _, _, hbs1, hcell1⟩ := Hrn.out.form (by rw [List.length_map, Hln.out]; omega) (by omega)
          injection hv1 with u1 u2 u3
          subst u1
          clear u2 u3
          obtain ⟨ds1, _, hcc1, hR1⟩ := hcell1 i (mkB y.1) (by rw [List.getElem?_map, hy]; rfl)
          obtain rfl : ds1 = [.string (mkB y.1)] := hR1
          have e0 : w.cell? ⟨b1, o1 + i, none⟩ = some (.string (mkB y.1)) := by simpa using hcc1 0 _ rfl
          obtain ⟨b2, o2, c'', hv2, _, _, hbs2, hcell2⟩ := Hrv.out.form (by rw [List.length_map, Hln.out]; omega) (by omega)
          injection hv2 with u1 u2 u3
          subst u1
          clear u2 u3
          obtain ⟨ds2, _, hcc2, vx, rfl, hvx⟩ := hcell2 i y.2 (by rw [List.getElem?_map, hy]; rfl)
          have e1 : w.cell? ⟨b2, o2 + i, none⟩ = some vx := by simpa using hcc2 0 _ rfl
          have q1 : (0 : Int) ≤ (i : Int) := by omega
          have q2 : (i : Int) < (ln : Int) := by omega
          have hST := stands_any (mkB y.1) w (by rw [mkB_size]; exact hlm.1)
          rw [mkB_list] at hST
          have hSO := IH.out vx y.2 w hvx hlm.2
          obtain ⟨p1, hp1⟩ : ∃ p, y.1.all JP.stand = p := ⟨_, rfl⟩
          obtain ⟨p2, hp2⟩ : ∃ p, JP.sound y.2 = p := ⟨_, rfl⟩
          rw [hp1] at hST
          rw [hp2] at hSO
          have HST := Lib.hid hST
          have HSO := Lib.hid hSO
          have Hy := Lib.hid hy
          have Hp : Hid ((y.1.all JP.stand && JP.sound y.2) = (p1 && p2)) := Lib.hid (by rw [hp1, hp2])
          clear hcell1 hcell2 hcc1 hcc2 hvx hy hp1 hp2 hST hSO hlm
          cases p1 with
          | false =>
            go_wp2_with fail
            refine HST.out.mono ?_
            rintro E w1 ⟨rfl, rfl⟩
            go_wp2_with fail
            go_ret
            exact ⟨ret_bool2 (by rw [HS.out]; exact (not_all_of Hy.out Hp.out).symm), rfl⟩
          | true =>
            go_wp2_with fail
            refine HST.out.mono ?_
            rintro E w1 ⟨rfl, rfl⟩
            go_wp2_with fail
            refine HSO.out.mono ?_
            rintro E w1 ⟨rfl, rfl⟩
            cases p2 with
            | false =>
              go_wp2_with fail
              go_ret
              exact ⟨ret_bool2 (by rw [HS.out]; exact (not_all_of Hy.out Hp.out).symm), rfl⟩
            | true =>
              have HA2 := Lib.hid (all_take_of Hall.out Hy.out Hp.out)
              go_wp2_with fail
              go_roundg k
              case measure => omega
              case rel => exact ⟨i + 1, by omega, by go_num, HA2, rfl⟩
end Go.Proofs.YtlcongehmjiabaaDoor
/- json: Tell. -/
namespace Go.Proofs.YtlcongehmjiabaaDoor
open Go.RowKit
open JP (JV Bs)

namespace JP
def tellE (x : JV) : Int := if sound x = false then 16 else if 10 < deep x then 4 else if 200 < size x then 2 else if 2000 < (text x).length then 2 else 0
def tellT (x : JV) : Bs := if tellE x = 0 then text x else []
end JP
theorem ret_tell {t : ByteArray} {e e' : Int} {l : Bs} (h : mkB l = t) (he : e = e') : Ending.returned (.tuple #[.string t, .int .i64 e]) = .returned (.tuple #[.string (mkB l), .int .i64 e']) := by rw [h, he]
set_option maxRecDepth 100000 in
set_option maxHeartbeats 3200000 in
theorem tell_any (n : Nat) (v : Value) (x : JV) (w : World) (h : JvAt n [] w v x) (hl : (JP.text x).length ≤ 1048576) (hz : JP.size x ≤ 1048576) (ht : TabOK w) :
    Calls Tryd.prog 16 #[v] w fun e w' => e = .returned (.tuple #[.string (mkB (JP.tellT x)), .int .i64 (JP.tellE x)]) ∧ Below w.heap.size w w' := by
  have HZ := size_any n v x w h hz
  have HS := sound_any n v x w h hl
  have HT := Lib.hid (text_any n v x w h hl ht)
  obtain ⟨S, hS⟩ : ∃ S, JP.sound x = S := ⟨_, rfl⟩
  obtain ⟨M, hM⟩ : ∃ S, JP.size x = S := ⟨_, rfl⟩
  obtain ⟨D, hD⟩ : ∃ S, JP.deep x = S := ⟨_, rfl⟩
  rw [hM, hD] at HZ
  rw [hS] at HS
  have HZ := Lib.hid HZ
  have HS := Lib.hid HS
  obtain ⟨E0, hE⟩ : ∃ T, JP.tellE x = T := ⟨_, rfl⟩
  obtain ⟨T0, hT⟩ : ∃ T, JP.tellT x = T := ⟨_, rfl⟩
  rw [hE, hT]
  have HE : Hid (E0 = if S = false then 16 else if 10 < D then 4 else if 200 < M then 2 else if 2000 < (JP.text x).length then 2 else 0) := Lib.hid (by rw [← hE, ← hS, ← hM, ← hD]; rfl)
  have HTT : Hid (T0 = if E0 = 0 then JP.text x else []) := Lib.hid (by rw [← hE, ← hT]; rfl)
  clear hS hM hD hE hT ht h
  have no : ∀ e : Int, E0 = e → e ≠ 0 → mkB T0 = ByteArray.empty := fun e h1 h2 => by
    rw [HTT.out, if_neg (by rw [h1]; exact h2)]; rfl
  have No := Lib.hid no
  clear no
  cases S with
  | false =>
    have He : Hid (E0 = 16) := Lib.hid (HE.out.trans (if_pos rfl))
    go_enter Tryd.func16, Tryd.ntmps16
    go_wp2_with fail
    refine HZ.out.mono ?_
    rintro E w1 ⟨rfl, rfl⟩
    go_wp2_with fail
    refine HS.out.mono ?_
    rintro E w1 ⟨rfl, rfl⟩
    go_wp2_with fail
    go_ret2
    exact ⟨ret_tell (No.out 16 He.out (by decide)) He.out.symm, Below.refl _ _⟩
  | true =>
    have HE1 : Hid (E0 = if 10 < D then 4 else if 200 < M then 2 else if 2000 < (JP.text x).length then 2 else 0) := Lib.hid (HE.out.trans (if_neg (by decide)))
    clear HE
    by_cases hd : 10 < D
    · have He : Hid (E0 = 4) := Lib.hid (HE1.out.trans (if_pos hd))
      have p1 : (10 : Int) < (D : Int) := by omega
      clear hd
      go_enter Tryd.func16, Tryd.ntmps16
      go_wp2_with fail
      refine HZ.out.mono ?_
      rintro E w1 ⟨rfl, rfl⟩
      go_wp2_with fail
      refine HS.out.mono ?_
      rintro E w1 ⟨rfl, rfl⟩
      go_wp2_with fail
      go_ret2
      exact ⟨ret_tell (No.out 4 He.out (by decide)) He.out.symm, Below.refl _ _⟩
    have p1 : ¬ (10 : Int) < (D : Int) := by omega
    have HE2 : Hid (E0 = if 200 < M then 2 else if 2000 < (JP.text x).length then 2 else 0) := Lib.hid (HE1.out.trans (if_neg hd))
    clear HE1 hd
    by_cases hm : 200 < M
    · have He : Hid (E0 = 2) := Lib.hid (HE2.out.trans (if_pos hm))
      have p2 : (200 : Int) < (M : Int) := by omega
      clear hm
      go_enter Tryd.func16, Tryd.ntmps16
      go_wp2_with fail
      refine HZ.out.mono ?_
      rintro E w1 ⟨rfl, rfl⟩
      go_wp2_with fail
      refine HS.out.mono ?_
      rintro E w1 ⟨rfl, rfl⟩
      go_wp2_with fail
      go_ret2
      exact ⟨ret_tell (No.out 2 He.out (by decide)) He.out.symm, Below.refl _ _⟩
    have p2 : ¬ (200 : Int) < (M : Int) := by omega
    have HE3 : Hid (E0 = if 2000 < (JP.text x).length then 2 else 0) := Lib.hid (HE2.out.trans (if_neg hm))
    clear HE2 hm
    obtain ⟨T, hT⟩ : ∃ T, JP.text x = T := ⟨_, rfl⟩
    rw [hT] at HE3 HT HTT hl
    have hsz := mkB_size T
    by_cases hlg : 2000 < T.length
    · have He : Hid (E0 = 2) := Lib.hid (HE3.out.trans (if_pos hlg))
      have p3 : (2000 : Int) < ((mkB T).size : Int) := by omega
      clear hlg hsz hT
      go_enter Tryd.func16, Tryd.ntmps16
      go_wp2_with fail
      refine HZ.out.mono ?_
      rintro E w1 ⟨rfl, rfl⟩
      go_wp2_with fail
      refine HS.out.mono ?_
      rintro E w1 ⟨rfl, rfl⟩
      go_wp2_with fail
      refine HT.out.mono ?_
      rintro E w1 ⟨rfl, hb⟩
      have HB := Lib.hid hb
      clear hb
      go_wp2_with fail
      go_ret2
      exact ⟨ret_tell (No.out 2 He.out (by decide)) He.out.symm, HB.out⟩
    · have He : Hid (E0 = 0) := Lib.hid (HE3.out.trans (if_neg hlg))
      have p3 : ¬ (2000 : Int) < ((mkB T).size : Int) := by omega
      have HTx : Hid (T0 = T) := Lib.hid (by rw [HTT.out, if_pos He.out])
      clear hlg hsz hT
      go_enter Tryd.func16, Tryd.ntmps16
      go_wp2_with fail
      refine HZ.out.mono ?_
      rintro E w1 ⟨rfl, rfl⟩
      go_wp2_with fail
      refine HS.out.mono ?_
      rintro E w1 ⟨rfl, rfl⟩
      go_wp2_with fail
      refine HT.out.mono ?_
      rintro E w1 ⟨rfl, hb⟩
      have HB := Lib.hid hb
      clear hb
      go_wp2_with fail
      go_ret2
      exact ⟨ret_tell (by rw [HTx.out]) He.out.symm, HB.out⟩
end Go.Proofs.YtlcongehmjiabaaDoor
/- merge.Apply, Diff, Compose: their contracts (printed by gen_mapply.py). -/
namespace Go.Proofs.YtlcongehmjiabaaDoor
open Go.RowKit
open JP (JV Bs)

namespace JP
def toldE (c : Int) : Option JV → Int
  | some x => tellE x
  | none => c
def toldT : Option JV → Bs
  | some x => tellT x
  | none => []
/-- two documents, and what is made of them -/
def makeE (f : JV → JV → Option JV) (c : Int) (a b : Bs) : Int := if sameE a b = 0 then toldE c (f (readL a).1 (readL b).1) else sameE a b
def makeT (f : JV → JV → Option JV) (a b : Bs) : Bs := if sameE a b = 0 then toldT (f (readL a).1 (readL b).1) else []
theorem sameE_ok {a b : Bs} (h : sameE a b = 0) : (readL a).2 = 0 ∧ (readL b).2 = 0 := by
  unfold sameE at h
  by_cases h0 : (readL a).2 = 0
  · rw [if_pos h0] at h; exact ⟨h0, h⟩
  · rw [if_neg h0] at h; exact absurd h h0
theorem read_fit {a : Bs} (h : (readL a).2 = 0) : Fit (readL a).1 := by
  obtain ⟨h1, h2, h3, h4, h5⟩ := readL_good (s := a) (v := (readL a).1) (Prod.ext rfl h)
  exact ⟨h1, h2, h3, by omega⟩
end JP
set_option maxRecDepth 100000 in
set_option maxHeartbeats 1600000 in
theorem mtold_any (o : Option JV) (u : Value) (w : World) (h : ∀ c, o = some c → (∃ k, JvAt k [] w u c) ∧ (JP.text c).length ≤ 1048576) (ht : TabOK w) :
    Calls Tryd.prog 14 #[u, .int .i64 (JP.mixE o)] w fun e w' => e = .returned (.tuple #[.string (mkB (JP.toldT o)), .int .i64 (JP.toldE 9 o)]) ∧ Below w.heap.size w w' := by
  cases o with
  | none =>
    have hq : JP.mixE none = 9 := rfl
    rw [hq]
    clear h hq
    go_enter Tryd.func14, Tryd.ntmps14
    go_wp2_with fail
    go_ret2
    exact ⟨rfl, Below.refl _ _⟩
  | some c =>
    obtain ⟨⟨k, hk⟩, hl⟩ := h c rfl
    have HT := Lib.hid (tell_any k u c w hk hl (by have := JP.size_le_len c; omega) ht)
    have hq : JP.mixE (some c) = 0 := rfl
    rw [hq, show JP.toldT (some c) = JP.tellT c from rfl, show JP.toldE 9 (some c) = JP.tellE c from rfl]
    clear h hq hk hl
    go_enter Tryd.func14, Tryd.ntmps14
    go_wp2_with fail
    refine HT.out.mono ?_
    rintro E w1 ⟨rfl, hb⟩
    have HB := Lib.hid hb
    clear hb
    go_wp2_with fail
    go_ret2
    exact ⟨rfl, HB.out⟩
namespace JP
def intoO (x y : JV) : Option JV := some (into x y)
end JP

set_option maxRecDepth 100000 in
set_option maxHeartbeats 3200000 in
theorem apply_any (a b : ByteArray) (w : World) (ha : a.size ≤ 1048576) (hb : b.size ≤ 1048576) (ht : TabOK w) :
    Calls Tryd.prog 9 #[.string a, .string b] w fun e w' => e = .returned (.tuple #[.string (mkB (JP.makeT JP.intoO a.data.toList b.data.toList)), .int .i64 (JP.makeE JP.intoO 9 a.data.toList b.data.toList)]) ∧ Below w.heap.size w w' := by
  have HPr := Lib.hid (pair_any a b w ha hb)
  obtain ⟨E0, hE⟩ : ∃ T, JP.sameE a.data.toList b.data.toList = T := ⟨_, rfl⟩
  obtain ⟨x, hx⟩ : ∃ x, (JP.readL a.data.toList).1 = x := ⟨_, rfl⟩
  obtain ⟨y, hy⟩ : ∃ y, (JP.readL b.data.toList).1 = y := ⟨_, rfl⟩
  obtain ⟨RE, hRE⟩ : ∃ R, JP.makeE JP.intoO 9 a.data.toList b.data.toList = R := ⟨_, rfl⟩
  obtain ⟨RT, hRT⟩ : ∃ R, JP.makeT JP.intoO a.data.toList b.data.toList = R := ⟨_, rfl⟩
  have HRE : Hid (RE = if E0 = 0 then JP.toldE 9 (JP.intoO x y) else E0) := Lib.hid (by rw [← hRE, ← hE, ← hx, ← hy]; rfl)
  have HRT : Hid (RT = if E0 = 0 then JP.toldT (JP.intoO x y) else []) := Lib.hid (by rw [← hRT, ← hE, ← hx, ← hy]; rfl)
  have HF : Hid (E0 = 0 → JP.Fit x ∧ JP.Fit y) := Lib.hid (fun h => by
    rw [← hE] at h
    obtain ⟨h1, h2⟩ := JP.sameE_ok h
    exact ⟨hx ▸ JP.read_fit h1, hy ▸ JP.read_fit h2⟩)
  rw [hE, hx, hy] at HPr
  rw [hRE, hRT]
  have HT := Lib.hid ht
  clear hE hx hy hRE hRT ht
  go_enter Tryd.func9, Tryd.ntmps9
  go_wp2_with fail
  refine HPr.out.mono ?_
  rintro E w1 ⟨v, u, rfl, hvu, hb⟩
  have HB := Lib.hid hb
  clear hb HPr
  by_cases he : E0 = 0
  · obtain ⟨⟨n, hj⟩, ⟨n2, hj2⟩⟩ := hvu he
    obtain ⟨fx, fy⟩ := HF.out he
    have HRE2 : Hid (RE = JP.toldE 9 (JP.intoO x y)) := Lib.hid (by rw [HRE.out, if_pos he])
    have HRT2 : Hid (RT = JP.toldT (JP.intoO x y)) := Lib.hid (by rw [HRT.out, if_pos he])
    subst he
    have hc := into_any n2 n v u x y w1 hj hj2 fx.1 fy.1 (by have := fx.2.1; have := fy.2.1; omega)
    have hl : (JP.text (JP.into x y)).length ≤ 1048576 := by have := JP.into_len fx.1 fy.1; have := fx.2.2.2; have := fy.2.2.2; omega
    have HC := Lib.hid hc
    have Hl := Lib.hid hl
    clear hc hl hvu hj hj2 fx fy
    go_wp2_with fail
    refine HC.out.mono ?_
    rintro E w2 ⟨u3, rfl, ⟨k3, hj3⟩, hb⟩
    have HB2 := Lib.hid (HB.out.trans (hb.mono HB.out.size))
    have HTe := Lib.hid (tell_any k3 u3 _ w2 hj3 Hl.out (by have := JP.size_le_len (JP.into x y); have := Hl.out; omega) (HT.out.below HB2.out))
    clear hb hj3
    go_wp2_with fail
    refine HTe.out.mono ?_
    rintro E w3 ⟨rfl, hb⟩
    have HB3 := Lib.hid (HB2.out.trans (hb.mono HB2.out.size))
    clear hb
    go_wp2_with fail
    go_ret2
    exact ⟨by rw [HRE2.out, HRT2.out] <;> rfl, HB3.out⟩
  · have n0 : (E0 != 0) = true := by rw [bne_iff_ne]; exact he
    have HRE2 : Hid (RE = E0) := Lib.hid (by rw [HRE.out, if_neg he])
    have HRT2 : Hid (RT = []) := Lib.hid (by rw [HRT.out, if_neg he])
    clear he hvu
    go_wp2_with fail
    go_ret2
    exact ⟨by rw [HRE2.out, HRT2.out] <;> rfl, HB.out⟩

set_option maxRecDepth 100000 in
set_option maxHeartbeats 3200000 in
theorem diff_any (a b : ByteArray) (w : World) (ha : a.size ≤ 1048576) (hb : b.size ≤ 1048576) (ht : TabOK w) :
    Calls Tryd.prog 10 #[.string a, .string b] w fun e w' => e = .returned (.tuple #[.string (mkB (JP.makeT JP.btw a.data.toList b.data.toList)), .int .i64 (JP.makeE JP.btw 9 a.data.toList b.data.toList)]) ∧ Below w.heap.size w w' := by
  have HPr := Lib.hid (pair_any a b w ha hb)
  obtain ⟨E0, hE⟩ : ∃ T, JP.sameE a.data.toList b.data.toList = T := ⟨_, rfl⟩
  obtain ⟨x, hx⟩ : ∃ x, (JP.readL a.data.toList).1 = x := ⟨_, rfl⟩
  obtain ⟨y, hy⟩ : ∃ y, (JP.readL b.data.toList).1 = y := ⟨_, rfl⟩
  obtain ⟨RE, hRE⟩ : ∃ R, JP.makeE JP.btw 9 a.data.toList b.data.toList = R := ⟨_, rfl⟩
  obtain ⟨RT, hRT⟩ : ∃ R, JP.makeT JP.btw a.data.toList b.data.toList = R := ⟨_, rfl⟩
  have HRE : Hid (RE = if E0 = 0 then JP.toldE 9 (JP.btw x y) else E0) := Lib.hid (by rw [← hRE, ← hE, ← hx, ← hy]; rfl)
  have HRT : Hid (RT = if E0 = 0 then JP.toldT (JP.btw x y) else []) := Lib.hid (by rw [← hRT, ← hE, ← hx, ← hy]; rfl)
  have HF : Hid (E0 = 0 → JP.Fit x ∧ JP.Fit y) := Lib.hid (fun h => by
    rw [← hE] at h
    obtain ⟨h1, h2⟩ := JP.sameE_ok h
    exact ⟨hx ▸ JP.read_fit h1, hy ▸ JP.read_fit h2⟩)
  rw [hE, hx, hy] at HPr
  rw [hRE, hRT]
  have HT := Lib.hid ht
  clear hE hx hy hRE hRT ht
  go_enter Tryd.func10, Tryd.ntmps10
  go_wp2_with fail
  refine HPr.out.mono ?_
  rintro E w1 ⟨v, u, rfl, hvu, hb⟩
  have HB := Lib.hid hb
  clear hb HPr
  by_cases he : E0 = 0
  · obtain ⟨⟨n, hj⟩, ⟨n2, hj2⟩⟩ := hvu he
    obtain ⟨fx, fy⟩ := HF.out he
    have HRE2 : Hid (RE = JP.toldE 9 (JP.btw x y)) := Lib.hid (by rw [HRE.out, if_pos he])
    have HRT2 : Hid (RT = JP.toldT (JP.btw x y)) := Lib.hid (by rw [HRT.out, if_pos he])
    subst he
    have hc := between_any n2 n v u x y w1 hj hj2 (by have := fx.2.2.2; have := fy.2.2.2; omega) (HT.out.below HB.out)
    have hl : ∀ c, JP.btw x y = some c → (JP.text c).length ≤ 1048576 := fun c h => by have := JP.btw_len fx.1 fy.1 h; have := fx.2.2.2; have := fy.2.2.2; omega
    obtain ⟨o, ho⟩ : ∃ o, JP.btw x y = o := ⟨_, rfl⟩
    rw [ho] at hc hl HRE2 HRT2
    have HC := Lib.hid hc
    have Hl := Lib.hid hl
    clear hc hl hvu hj hj2 fx fy ho
    go_wp2_with fail
    refine HC.out.mono ?_
    rintro E w2 ⟨u3, rfl, hj3, hb⟩
    have HB2 := Lib.hid (HB.out.trans (hb.mono HB.out.size))
    have HTe := Lib.hid (mtold_any o u3 w2 (fun c h => ⟨hj3 c h, Hl.out c h⟩) (HT.out.below HB2.out))
    clear hb hj3
    go_wp2_with fail
    refine HTe.out.mono ?_
    rintro E w3 ⟨rfl, hb⟩
    have HB3 := Lib.hid (HB2.out.trans (hb.mono HB2.out.size))
    clear hb
    go_wp2_with fail
    go_ret2
    exact ⟨by rw [HRE2.out, HRT2.out] <;> rfl, HB3.out⟩
  · have n0 : (E0 != 0) = true := by rw [bne_iff_ne]; exact he
    have HRE2 : Hid (RE = E0) := Lib.hid (by rw [HRE.out, if_neg he])
    have HRT2 : Hid (RT = []) := Lib.hid (by rw [HRT.out, if_neg he])
    clear he hvu
    go_wp2_with fail
    go_ret2
    exact ⟨by rw [HRE2.out, HRT2.out] <;> rfl, HB.out⟩

set_option maxRecDepth 100000 in
set_option maxHeartbeats 3200000 in
theorem compose_any (a b : ByteArray) (w : World) (ha : a.size ≤ 1048576) (hb : b.size ≤ 1048576) (ht : TabOK w) :
    Calls Tryd.prog 8 #[.string a, .string b] w fun e w' => e = .returned (.tuple #[.string (mkB (JP.makeT JP.both a.data.toList b.data.toList)), .int .i64 (JP.makeE JP.both 9 a.data.toList b.data.toList)]) ∧ Below w.heap.size w w' := by
  have HPr := Lib.hid (pair_any a b w ha hb)
  obtain ⟨E0, hE⟩ : ∃ T, JP.sameE a.data.toList b.data.toList = T := ⟨_, rfl⟩
  obtain ⟨x, hx⟩ : ∃ x, (JP.readL a.data.toList).1 = x := ⟨_, rfl⟩
  obtain ⟨y, hy⟩ : ∃ y, (JP.readL b.data.toList).1 = y := ⟨_, rfl⟩
  obtain ⟨RE, hRE⟩ : ∃ R, JP.makeE JP.both 9 a.data.toList b.data.toList = R := ⟨_, rfl⟩
  obtain ⟨RT, hRT⟩ : ∃ R, JP.makeT JP.both a.data.toList b.data.toList = R := ⟨_, rfl⟩
  have HRE : Hid (RE = if E0 = 0 then JP.toldE 9 (JP.both x y) else E0) := Lib.hid (by rw [← hRE, ← hE, ← hx, ← hy]; rfl)
  have HRT : Hid (RT = if E0 = 0 then JP.toldT (JP.both x y) else []) := Lib.hid (by rw [← hRT, ← hE, ← hx, ← hy]; rfl)
  have HF : Hid (E0 = 0 → JP.Fit x ∧ JP.Fit y) := Lib.hid (fun h => by
    rw [← hE] at h
    obtain ⟨h1, h2⟩ := JP.sameE_ok h
    exact ⟨hx ▸ JP.read_fit h1, hy ▸ JP.read_fit h2⟩)
  rw [hE, hx, hy] at HPr
  rw [hRE, hRT]
  have HT := Lib.hid ht
  clear hE hx hy hRE hRT ht
  go_enter Tryd.func8, Tryd.ntmps8
  go_wp2_with fail
  refine HPr.out.mono ?_
  rintro E w1 ⟨v, u, rfl, hvu, hb⟩
  have HB := Lib.hid hb
  clear hb HPr
  by_cases he : E0 = 0
  · obtain ⟨⟨n, hj⟩, ⟨n2, hj2⟩⟩ := hvu he
    obtain ⟨fx, fy⟩ := HF.out he
    have HRE2 : Hid (RE = JP.toldE 9 (JP.both x y)) := Lib.hid (by rw [HRE.out, if_pos he])
    have HRT2 : Hid (RT = JP.toldT (JP.both x y)) := Lib.hid (by rw [HRT.out, if_pos he])
    subst he
    have hc := both_any n2 n v u x y w1 hj hj2 (by have := fx.2.1; have := fy.2.1; omega)
    have hl : ∀ c, JP.both x y = some c → (JP.text c).length ≤ 1048576 := fun c h => by have := JP.both_len fx.1 fy.1 h; have := fx.2.2.2; have := fy.2.2.2; omega
    obtain ⟨o, ho⟩ : ∃ o, JP.both x y = o := ⟨_, rfl⟩
    rw [ho] at hc hl HRE2 HRT2
    have HC := Lib.hid hc
    have Hl := Lib.hid hl
    clear hc hl hvu hj hj2 fx fy ho
    go_wp2_with fail
    refine HC.out.mono ?_
    rintro E w2 ⟨u3, rfl, hj3, hb⟩
    have HB2 := Lib.hid (HB.out.trans (hb.mono HB.out.size))
    have HTe := Lib.hid (mtold_any o u3 w2 (fun c h => ⟨hj3 c h, Hl.out c h⟩) (HT.out.below HB2.out))
    clear hb hj3
    go_wp2_with fail
    refine HTe.out.mono ?_
    rintro E w3 ⟨rfl, hb⟩
    have HB3 := Lib.hid (HB2.out.trans (hb.mono HB2.out.size))
    clear hb
    go_wp2_with fail
    go_ret2
    exact ⟨by rw [HRE2.out, HRT2.out] <;> rfl, HB3.out⟩
  · have n0 : (E0 != 0) = true := by rw [bne_iff_ne]; exact he
    have HRE2 : Hid (RE = E0) := Lib.hid (by rw [HRE.out, if_neg he])
    have HRT2 : Hid (RT = []) := Lib.hid (by rw [HRT.out, if_neg he])
    clear he hvu
    go_wp2_with fail
    go_ret2
    exact ⟨by rw [HRE2.out, HRT2.out] <;> rfl, HB.out⟩
end Go.Proofs.YtlcongehmjiabaaDoor
