/- Texts of ours joined. -/
import Derived.Deep.DeepCutAuto
import Derived.WalkSpells
import Derived.Test.YtkmonmdnmpbadaaDoorMg1
set_option linter.unusedVariables false
set_option linter.unusedSimpArgs false
namespace Go.Proofs.YtkmonmdnmpbadaaDoor
open Go.RowKit
/-- the first thing that was wrong lies there -/
def IsBad (g : Nat) (w : World) (b : Int) : Prop := w.heap[g]? = some (.cells #[.int .i64 b] 86 (0, 0))
theorem IsBad.below {g : Nat} {w w' : World} {b : Int} (h : IsBad g w b) (hb : Below w.heap.size w w') : IsBad g w' b := below_block hb h
/-- what a checker's method does -/
def Said (g : Nat) (b : Int) (w : World) (E : Ending) (w' : World) : Prop := E = .returned (.tuple #[]) ∧ IsBad g w' b ∧ But g w w'
set_option maxRecDepth 100000 in
theorem says_any (g : Nat) (b e : Int) (w : World) (h : IsBad g w b) : Calls Tryd.prog 42 #[.pointer (some ⟨g, 0, none⟩), .int .i64 e] w (Said g (says b e) w) := by
  have h' : w.heap[g]? = some (.cells #[.int .i64 b] 86 (0, 0)) := h
  have c0 : w.cell? ⟨g, 0, none⟩ = some (.int .i64 b) := cell_block h' 0
  have z0 : w.frozen? ⟨g, 0, none⟩ = false := free_block h' 0
  have Hh := Lib.hid h'
  clear h h'
  by_cases hb : b = 0
  · subst hb
    go_enter Tryd.func42, Tryd.ntmps42
    go_wp2_with fail
    obtain ⟨t1, t2⟩ := touch_setCell (i := 0) (v := .int .i64 e) Hh.out
    go_end0
    exact ⟨rfl, by rw [zero_says]; exact t1, But.touch t2⟩
  · have q : (b == 0) = false := by rw [beq_eq_false_iff_ne]; exact hb
    have Hs : Hid (says b e = b) := by show _ = _; unfold says; rw [if_neg hb]
    clear hb
    go_enter Tryd.func42, Tryd.ntmps42
    go_wp2_with fail
    go_end0
    exact ⟨rfl, by rw [Hs.out]; exact Hh.out, But.refl _ _⟩
set_option maxRecDepth 100000 in
theorem need_any (g : Nat) (b : Int) (is : Bool) (e : Int) (w : World) (h : IsBad g w b) : Calls Tryd.prog 67 #[.pointer (some ⟨g, 0, none⟩), .bool is, .int .i64 e] w (Said g (says b (need is e)) w) := by
  have H := Lib.hid h
  clear h
  cases is with
  | true =>
    have Hs : Hid (says b (need true e) = b) := by show _ = _; exact says_zero b
    rw [Hs.out]
    go_enter Tryd.func67, Tryd.ntmps67
    go_wp2_with fail
    go_end0
    exact ⟨rfl, H.out, But.refl _ _⟩
  | false =>
    have Hs : Hid (says b (need false e) = says b e) := by show _ = _; rfl
    rw [Hs.out]
    go_enter Tryd.func67, Tryd.ntmps67
    go_wp2_with fail
    refine (says_any g b e w H.out).mono ?_
    rintro E w1 ⟨rfl, h1, h2⟩
    have H1 := Lib.hid h1
    have H2 := Lib.hid h2
    clear h1 h2 Hs
    go_wp2_with fail
    go_end0
    exact ⟨rfl, H1.out, H2.out⟩
set_option maxRecDepth 100000 in
theorem space_any (g : Nat) (b : Int) (s : ByteArray) (w : World) (h : IsBad g w b) (hs : s.size ≤ 1099511627776) : Calls Tryd.prog 56 #[.pointer (some ⟨g, 0, none⟩), .string s] w (Said g (says b (spaceC s)) w) := by
  have H := Lib.hid h
  clear h
  by_cases h0 : s.size = 0
  · have q : s.toList = [] := by rw [ByteArray.toList_eq]; exact List.eq_nil_of_length_eq_zero (by simpa using h0)
    have Hs : Hid (says b (spaceC s) = b) := by show _ = _; unfold spaceC; rw [if_pos h0]; exact says_zero b
    have q2 : s.toList.isEmpty = true := by rw [q]; rfl
    rw [Hs.out]
    clear h0
    go_enter Tryd.func56, Tryd.ntmps56
    go_wp2_with fail
    go_end0
    exact ⟨rfl, H.out, But.refl _ _⟩
  · have q : (!s.toList.isEmpty) = true := by
      rw [ByteArray.toList_eq]
      have hl : s.data.toList.length = s.size := by simp
      cases hd : s.data.toList with | nil => rw [hd] at hl; simp at hl; omega | cons x r => rfl
    have q2 : s.toList.isEmpty = false := by simpa using q
    have Hs : Hid (says b (spaceC s) = says b (NameP.check s.data.toList)) := by show _ = _; unfold spaceC; rw [if_neg h0]
    obtain ⟨cd, Hcd⟩ : ∃ cd, Hid (NameP.check s.data.toList = cd) := ⟨_, Lib.hid rfl⟩
    rw [Hs.out, Hcd.out]
    clear h0
    go_enter Tryd.func56, Tryd.ntmps56
    go_wp2_with fail
    refine (check_any s w hs).mono ?_
    rintro E w1 ⟨rfl, rfl⟩
    rw [Hcd.out]
    go_wp2_with fail
    refine (says_any g b cd w H.out).mono ?_
    rintro E w1 ⟨rfl, h1, h2⟩
    have H1 := Lib.hid h1
    have H2 := Lib.hid h2
    clear h1 h2 Hs
    go_wp2_with fail
    go_end0
    exact ⟨rfl, H1.out, H2.out⟩
theorem starB_list : starB.toList = [42] := by decide +kernel
set_option maxRecDepth 100000 in
set_option maxHeartbeats 800000 in
theorem names_any (g : Nat) (b : Int) (v : Value) (l : List ByteArray) (st : Bool) (w : World) (h : IsBad g w b) (hv : StrAt w v l) (hne : 0 < l.length → ∀ a n c, v = .slice (some a) n c → a.block ≠ g) (hx : ∀ x ∈ l, x.size ≤ 1099511627776) (hl : l.length ≤ 1073741824) :
    Calls Tryd.prog 59 #[.pointer (some ⟨g, 0, none⟩), v, .bool st] w (Said g (says b (namesC st l)) w) := by
  have hrow := hv.row
  obtain ⟨a1, c1, rfl, _, _⟩ := hrow.len
  have H := Lib.hid h
  have HV := Lib.hid hrow
  have Hne := Lib.hid hne
  have Hx := Lib.hid hx
  clear h hv hne hx hrow
  go_enter Tryd.func59, Tryd.ntmps59
  go_wp2_with fail
  go_loopg [10] l.length (fun k u10 wr => ∃ i : Nat, i + k = l.length ∧ u10 = .int .i64 (i : Int) ∧ Hid (IsBad g wr (says b (firstBad ((l.map (nameC st)).take i)))) ∧ Hid (But g w wr))
  case atStart => exact ⟨0, by omega, rfl, Lib.hid (by rw [List.take_zero]; exact (says_zero b).symm ▸ H.out), Lib.hid (But.refl _ _)⟩
  case round =>
    obtain ⟨i, hig, rfl, Hbad, Hbut⟩ := hrel
    cases gk with
    | zero =>
      obtain rfl : i = l.length := by omega
      have Hend : Hid (IsBad g wr (says b (namesC st l))) := by
        have h9 := Hbad.out
        rw [List.take_of_length_le (by simp)] at h9
        exact Lib.hid h9
      go_wp2_with fail
      go_end0
      exact ⟨rfl, Hend.out, Hbut.out⟩
    | succ k =>
      have hil : i < l.length := by omega
      obtain ⟨s, hsi⟩ : ∃ s, l[i]? = some s := ⟨l[i]'(by omega), List.getElem?_eq_getElem _⟩
      obtain ⟨bk, o, c', hv, _, _, hbs, hcell⟩ := HV.out.form (by omega) (by omega)
      have hbg := Hne.out (by omega) _ _ _ hv
      cases hv
      obtain ⟨ds, _, hcc, hR⟩ := hcell i s hsi
      obtain rfl : ds = [.string s] := hR
      have e0 : wr.cell? ⟨bk, o + i, none⟩ = some (.string s) := (Hbut.out.cell (p := ⟨bk, o + i, none⟩) hbs hbg).trans (by simpa using hcc 0 _ rfl)
      have q1 : (0 : Int) ≤ (i : Int) := by omega
      have q2 : (i : Int) < (l.length : Int) := by omega
      have hss := Hx.out s (List.mem_of_getElem? hsi)
      have Hnext : Hid (says b (firstBad ((l.map (nameC st)).take (i + 1))) = says (says b (firstBad ((l.map (nameC st)).take i))) (nameC st s)) := by
        show _ = _
        rw [firstBad_take (e := nameC st s) (by rw [List.getElem?_map, hsi]; rfl), says_assoc]
      clear hcc hcell hsi hbg
      by_cases hskip : st = true ∧ s = starB
      · obtain ⟨rfl, rfl⟩ := hskip
        have q3 : starB.toList = [42] := starB_list
        have Hn2 : Hid (says b (firstBad ((l.map (nameC true)).take (i + 1))) = says b (firstBad ((l.map (nameC true)).take i))) := by
          show _ = _
          rw [Hnext.out]
          exact says_zero _
        go_wp2_with fail
        go_roundg k
        case measure => omega
        case rel => exact ⟨i + 1, by omega, by go_num, Lib.hid (by rw [Hn2.out]; exact Hbad.out), Hbut⟩
      · have Hn2 : Hid (nameC st s = NameP.check s.data.toList) := by show _ = _; unfold nameC; rw [if_neg hskip]
        have q3 : st = true → (s.toList == [42]) = false := fun h => by
          rw [beq_eq_false_iff_ne]
          intro h2
          exact hskip ⟨h, toList_inj (by rw [h2, starB_list])⟩
        clear hskip
        obtain ⟨cd, Hcd⟩ : ∃ cd, Hid (NameP.check s.data.toList = cd) := ⟨_, Lib.hid rfl⟩
        rw [Hn2.out, Hcd.out] at Hnext
        cases st
        all_goals
          go_wp2_with fail
          refine (check_any s wr hss).mono ?_
          rintro E w1 ⟨rfl, rfl⟩
          rw [Hcd.out]
          go_wp2_with fail
          refine (says_any g _ cd wr Hbad.out).mono ?_
          rintro E w1 ⟨rfl, h1, h2⟩
          have H1 := Lib.hid h1
          have H2 := Lib.hid (Hbut.out.trans h2)
          clear h1 h2 e0
          go_wp2_with fail
          go_roundg k
          case measure => omega
          case rel => exact ⟨i + 1, by omega, by go_num, Lib.hid (by rw [Hnext.out]; exact H1.out), H2⟩
end Go.Proofs.YtkmonmdnmpbadaaDoor
namespace Go.Proofs.YtkmonmdnmpbadaaDoor
open Go.RowKit
def okS (l : List ByteArray) : Prop := l.length ≤ 1048576 ∧ ∀ x ∈ l, x.size ≤ 1048576
def okRule (r : GRule) : Prop := okS r.verbs ∧ okS r.kinds ∧ okS r.names
theorem strs_ne {w0 : World} {v : Value} {l : List ByteArray} {g : Nat} (h : StrAt w0 v l) (hg : w0.heap.size ≤ g) : 0 < l.length → ∀ a n c, v = .slice (some a) n c → a.block ≠ g := by
  intro hl a n c hv
  obtain ⟨b, o, c', hv', _, _, hb, _⟩ := h.row.form hl (by omega)
  rw [hv] at hv'
  cases hv'
  show b ≠ g
  omega
theorem StrAt.below' {w w' : World} {v : Value} {l : List ByteArray} (h : StrAt w v l) (hb : Below w.heap.size w w') : StrAt w' v l := h.keep (keeps_below hb)
theorem names0_any (g : Nat) (b : Int) (v : Value) (l : List ByteArray) (st : Bool) (w0 w : World) (h : IsBad g w b) (hb0 : Below w0.heap.size w0 w) (hg : w0.heap.size ≤ g) (hv : StrAt w0 v l) (hx : okS l) :
    Calls Tryd.prog 59 #[.pointer (some ⟨g, 0, none⟩), v, .bool st] w (Said g (says b (namesC st l)) w) :=
  names_any g b v l st w h (hv.below' hb0) (strs_ne hv hg) (fun x hxm => by have := hx.2 x hxm; omega) (by have := hx.1; omega)
set_option maxRecDepth 100000 in
set_option maxHeartbeats 800000 in
theorem rule_any (g : Nat) (b : Int) (y0 y1 y2 : Value) (r : GRule) (w0 w : World) (h : IsBad g w b) (hb0 : Below w0.heap.size w0 w) (hg : w0.heap.size ≤ g) (hr : RuleR w0 [y0, y1, y2] r) (hok : okRule r) :
    Calls Tryd.prog 68 #[.pointer (some ⟨g, 0, none⟩), .agg #[y0, y1, y2]] w (Said g (says b (ruleC r)) w) := by
  obtain ⟨_, _, _, hcs, s0, s1, s2⟩ := hr
  simp only [List.cons.injEq, and_true] at hcs
  obtain ⟨rfl, rfl, rfl⟩ := hcs
  obtain ⟨a0, c0, rfl, _, _⟩ := s0.row.len
  obtain ⟨a1, c1, rfl, _, _⟩ := s1.row.len
  obtain ⟨a2, c2, rfl, _, _⟩ := s2.row.len
  have S0 := Lib.hid s0
  have S1 := Lib.hid s1
  have S2 := Lib.hid s2
  have Hok := Lib.hid hok
  have hgw : g < w.heap.size := by
    rcases Nat.lt_or_ge g w.heap.size with h1 | h1
    · exact h1
    · unfold IsBad at h; rw [Array.getElem?_eq_none h1] at h; cases h
  have H := Lib.hid h
  have Hb0 := Lib.hid hb0
  have hs0 := hb0.size
  have Hres : Hid (says b (ruleC r) = says (says (says (says (says b (need (smallR r) 2)) (need (fullR r) 1)) (namesC true r.verbs)) (namesC true r.kinds)) (namesC false r.names)) := by
    show _ = _; unfold ruleC; simp only [says_assoc]
  obtain ⟨nv, Hnv⟩ : ∃ n, Hid (r.verbs.length = n) := ⟨_, Lib.hid rfl⟩
  obtain ⟨nk, Hnk⟩ : ∃ n, Hid (r.kinds.length = n) := ⟨_, Lib.hid rfl⟩
  obtain ⟨nn, Hnn⟩ : ∃ n, Hid (r.names.length = n) := ⟨_, Lib.hid rfl⟩
  rw [Hres.out]
  obtain ⟨sm, Hsm⟩ : ∃ sm, Hid (smallR r = sm) := ⟨_, Lib.hid rfl⟩
  obtain ⟨fu, Hfu⟩ : ∃ fu, Hid (fullR r = fu) := ⟨_, Lib.hid rfl⟩
  rw [Hsm.out, Hfu.out]
  rw [Hnv.out] at S0 ⊢
  rw [Hnk.out] at S1 ⊢
  rw [Hnn.out] at S2 ⊢
  clear s0 s1 s2 hok h hb0 Hres
  go_enter Tryd.func68, Tryd.ntmps68
  go_upto_region 1 with fail
  obtain ⟨w1, hw1⟩ : ∃ w1, w1 = w.alloc (.cells #[.slice a0 nv c0, .slice a1 nk c1, .slice a2 nn c2] 44) := ⟨_, rfl⟩
  obtain ⟨gb, hgb⟩ : ∃ gb, gb = w.heap.size := ⟨_, rfl⟩
  rw [← hw1, ← hgb]
  have b1 : w1.heap[gb]? = some (.cells #[.slice a0 nv c0, .slice a1 nk c1, .slice a2 nn c2] 44 (0, 0)) := by rw [hw1, hgb]; exact heap_alloc_new w _
  have hb1 : Below w.heap.size w w1 := by rw [hw1]; exact (Below.refl _ _).alloc (Nat.le_refl _) _
  have hs1 : gb < w1.heap.size := by rw [hw1, hgb]; simp
  have hne : gb ≠ g := by omega
  have B1 := Lib.hid b1
  have H1 := Lib.hid (H.out.below hb1)
  have Hb1 := Lib.hid hb1
  have Hb01 := Lib.hid (Hb0.out.trans (hb1.mono hs0))
  have hs01 : w0.heap.size ≤ w1.heap.size := by have := hb1.size; omega
  have cc := fun i => cell_block b1 i
  clear hw1 hgb b1 hb1 H
  go_cut [20] (fun u20 wx => Hid (IsBad g wx (says b (need sm 2))) ∧ Hid (But g w1 wx))
  case first =>
    have way : (decide ((nv : Int) ≤ 6) = false ∧ smallR r = false) ∨ (decide ((nv : Int) ≤ 6) = true ∧ decide ((nk : Int) ≤ 6) = false ∧ smallR r = false) ∨ (decide ((nv : Int) ≤ 6) = true ∧ decide ((nk : Int) ≤ 6) = true ∧ decide ((nn : Int) ≤ 6) = false ∧ smallR r = false) ∨ (decide ((nv : Int) ≤ 6) = true ∧ decide ((nk : Int) ≤ 6) = true ∧ decide ((nn : Int) ≤ 6) = true ∧ smallR r = true) := by
      have e : smallR r = (decide (nv ≤ 6) && (decide (nk ≤ 6) && decide (nn ≤ 6))) := by unfold smallR; rw [Hnv.out, Hnk.out, Hnn.out]
      rw [e]
      simp only [decide_eq_true_eq, decide_eq_false_iff_not, Bool.and_eq_true, Bool.and_eq_false_iff]
      omega
    rw [Hsm.out] at way
    rcases way with ⟨p1, rfl⟩ | ⟨p1, p2, rfl⟩ | ⟨p1, p2, p3, rfl⟩ | ⟨p1, p2, p3, rfl⟩
    all_goals
      go_wp2_with fail
      refine (need_any g b _ 2 w1 H1.out).mono ?_
      rintro E w2 ⟨rfl, h1, h2⟩
      have Hx1 := Lib.hid h1
      have Hx2 := Lib.hid h2
      clear h1 h2
      go_wp2_with fail
      go_meet
      exact ⟨Hx1, Hx2⟩
  case rest =>
  obtain ⟨wx, rfl⟩ : ∃ wx, wx = wc := ⟨_, rfl⟩
  obtain ⟨Hx1, Hx2⟩ := hcut
  clear cc
  have cc := fun i => cell_block (Hx2.out.keep B1.out hne) i
  go_upto_region 2 with fail
  go_cut [32] (fun u32 wy => Hid (IsBad g wy (says (says b (need sm 2)) (need fu 1))) ∧ Hid (But g w1 wy))
  case first =>
    have way : (decide (0 < nv) = false ∧ fullR r = false) ∨ (decide (0 < nv) = true ∧ decide (0 < nk) = false ∧ fullR r = false) ∨ (decide (0 < nv) = true ∧ decide (0 < nk) = true ∧ fullR r = true) := by
      have e : fullR r = (decide (0 < nv) && decide (0 < nk)) := by unfold fullR; rw [Hnv.out, Hnk.out]
      rw [e]
      simp only [decide_eq_true_eq, decide_eq_false_iff_not, Bool.and_eq_true, Bool.and_eq_false_iff]
      omega
    rw [Hfu.out] at way
    rcases way with ⟨p1, rfl⟩ | ⟨p1, p2, rfl⟩ | ⟨p1, p2, rfl⟩
    all_goals
      go_wp2_with fail
      refine (need_any g _ _ 1 wx Hx1.out).mono ?_
      rintro E w2 ⟨rfl, h1, h2⟩
      have Hy1 := Lib.hid h1
      have Hy2 := Lib.hid (Hx2.out.trans h2)
      clear h1 h2
      go_wp2_with fail
      go_meet
      exact ⟨Hy1, Hy2⟩
  case rest =>
  obtain ⟨wy, rfl⟩ : ∃ wy, wy = wc := ⟨_, rfl⟩
  obtain ⟨Hy1, Hy2⟩ := hcut
  clear cc Hx1 Hx2
  have cc := fun i => cell_block (Hy2.out.keep B1.out hne) i
  go_wp2_with fail
  refine (names0_any g _ _ r.verbs true w0 wy Hy1.out (Hy2.out.below Hb01.out (by omega) hg) hg S0.out Hok.out.1).mono ?_
  rintro E w4 ⟨rfl, h1, h2⟩
  have Hz1 := Lib.hid h1
  have Hz2 := Lib.hid (Hy2.out.trans h2)
  clear cc h1 h2
  have cc := fun i => cell_block (Hz2.out.keep B1.out hne) i
  go_wp2_with fail
  refine (names0_any g _ _ r.kinds true w0 w4 Hz1.out (Hz2.out.below Hb01.out (by omega) hg) hg S1.out Hok.out.2.1).mono ?_
  rintro E w5 ⟨rfl, h1, h2⟩
  have Ha1 := Lib.hid h1
  have Ha2 := Lib.hid (Hz2.out.trans h2)
  clear cc h1 h2
  have cc := fun i => cell_block (Ha2.out.keep B1.out hne) i
  go_wp2_with fail
  refine (names0_any g _ _ r.names false w0 w5 Ha1.out (Ha2.out.below Hb01.out (by omega) hg) hg S2.out Hok.out.2.2).mono ?_
  rintro E w6 ⟨rfl, h1, h2⟩
  have Hc1 := Lib.hid h1
  have Hc2 := Lib.hid ((But.of Hb1.out).trans (Ha2.out.trans h2))
  clear cc h1 h2
  go_wp2_with fail
  go_end0
  exact ⟨rfl, Hc1.out, Hc2.out⟩
set_option maxRecDepth 100000 in
set_option maxHeartbeats 800000 in
theorem rules_any (g : Nat) (b : Int) (v : Value) (l : List GRule) (w0 w : World) (h : IsBad g w b) (hb0 : Below w0.heap.size w0 w) (hg : w0.heap.size ≤ g) (hr : RowAt RuleR 3 w0 v l) (hl : l.length ≤ 1048576) (hok : ∀ r ∈ l, okRule r) :
    Calls Tryd.prog 43 #[.pointer (some ⟨g, 0, none⟩), v] w (Said g (says b (rulesC l)) w) := by
  obtain ⟨a1, c1, rfl, _, _⟩ := hr.len
  have HR := Lib.hid hr
  have Hok := Lib.hid hok
  have H := Lib.hid h
  have Hb0 := Lib.hid hb0
  have hs0 := hb0.size
  have hgw : g < w.heap.size := by
    rcases Nat.lt_or_ge g w.heap.size with h1 | h1
    · exact h1
    · unfold IsBad at h; rw [Array.getElem?_eq_none h1] at h; cases h
  have Hres : Hid (says b (rulesC l) = says (says b (need (decide (l.length ≤ 8)) 2)) (firstBad (l.map ruleC))) := by
    show _ = _; unfold rulesC; simp only [says_assoc]
  obtain ⟨b1, Hb1⟩ : ∃ b1, Hid (says b (need (decide (l.length ≤ 8)) 2) = b1) := ⟨_, Lib.hid rfl⟩
  rw [Hres.out, Hb1.out]
  have Hd : Hid (decide ((l.length : Int) ≤ 8) = decide (l.length ≤ 8)) := by
    show _ = _
    rw [decide_eq_decide]; omega
  clear hr hok h hb0 Hres
  go_enter Tryd.func43, Tryd.ntmps43
  go_wp2_with fail
  refine (need_any g b _ 2 w H.out).mono ?_
  try rw [Hd.out]
  rintro E w1 ⟨rfl, h1, h2⟩
  have H1 := Lib.hid h1
  have K1 := Lib.hid h2
  rw [Hb1.out] at H1
  clear h1 h2 H
  go_wp2_with fail
  go_loopg [13] l.length (fun k u13 wr => ∃ i : Nat, i + k = l.length ∧ u13 = .int .i64 (i : Int) ∧ Hid (IsBad g wr (says b1 (firstBad ((l.map ruleC).take i)))) ∧ Hid (But g w wr))
  case atStart => exact ⟨0, by omega, rfl, Lib.hid (by rw [List.take_zero]; exact (says_zero b1).symm ▸ H1.out), K1⟩
  case round =>
    obtain ⟨i, hig, rfl, Hbad, Hbut⟩ := hrel
    cases gk with
    | zero =>
      obtain rfl : i = l.length := by omega
      have Hend : Hid (IsBad g wr (says b1 (firstBad (l.map ruleC)))) := by
        have h9 := Hbad.out
        rw [List.take_of_length_le (by simp)] at h9
        exact Lib.hid h9
      go_wp2_with fail
      go_end0
      exact ⟨rfl, Hend.out, Hbut.out⟩
    | succ k =>
      have hil : i < l.length := by omega
      obtain ⟨x, hxi⟩ : ∃ x, l[i]? = some x := ⟨l[i]'(by omega), List.getElem?_eq_getElem _⟩
      obtain ⟨bk, o, c', hv, _, _, hbs, hcell⟩ := HR.out.form (by omega) (by omega)
      cases hv
      obtain ⟨ds, _, hcc, hR⟩ := hcell i x hxi
      have hR2 := hR
      obtain ⟨y0, y1, y2, rfl, s0, s1, s2⟩ := hR
      obtain ⟨a0', c0', rfl, _, _⟩ := s0.row.len
      obtain ⟨a1', c1', rfl, _, _⟩ := s1.row.len
      obtain ⟨a2', c2', rfl, _, _⟩ := s2.row.len
      have HR2 := Lib.hid hR2
      have hbw := Hbut.out.below Hb0.out hs0 hg
      have e0 : wr.cell? ⟨bk, o + i * 3, none⟩ = some (.slice a0' x.verbs.length c0') := (hbw.cell (p := ⟨bk, _, none⟩) hbs).trans (by simpa using hcc 0 _ rfl)
      have e1 : wr.cell? ⟨bk, o + i * 3 + 1, none⟩ = some (.slice a1' x.kinds.length c1') := (hbw.cell (p := ⟨bk, _, none⟩) hbs).trans (hcc 1 _ rfl)
      have e2 : wr.cell? ⟨bk, o + i * 3 + 2, none⟩ = some (.slice a2' x.names.length c2') := (hbw.cell (p := ⟨bk, _, none⟩) hbs).trans (hcc 2 _ rfl)
      have q1 : (0 : Int) ≤ (i : Int) := by omega
      have q2 : (i : Int) < (l.length : Int) := by omega
      have Hnext : Hid (says b1 (firstBad ((l.map ruleC).take (i + 1))) = says (says b1 (firstBad ((l.map ruleC).take i))) (ruleC x)) := by
        show _ = _
        rw [firstBad_take (e := ruleC x) (by rw [List.getElem?_map, hxi]; rfl), says_assoc]
      have Hxok := Lib.hid (Hok.out x (List.mem_of_getElem? hxi))
      have hsw := Hbut.out.size
      have Hal : ∀ o : Obj, Hid (Below wr.heap.size wr (wr.alloc o)) := fun o => Lib.hid ((Below.refl _ _).alloc (Nat.le_refl _) o)
      have Hal0 : ∀ o : Obj, Hid (Below w0.heap.size w0 (wr.alloc o)) := fun o => Lib.hid (hbw.trans ((Hal o).out.mono hbw.size))
      clear hcc hcell hxi hR2 hbw s0 s1 s2
      go_wp2_with fail
      refine (rule_any g _ _ _ _ x w0 _ (Hbad.out.below (Hal _).out) (Hal0 _).out hg HR2.out Hxok.out).mono ?_
      rintro E w3 ⟨rfl, h1, h2⟩
      have Hc1 := Lib.hid h1
      have Hc2 := Lib.hid (Hbut.out.trans ((But.of (Hal _).out).trans h2))
      clear h1 h2 e0 e1 e2
      go_wp2_with fail
      go_roundg k
      case measure => omega
      case rel => exact ⟨i + 1, by omega, by go_num, Lib.hid (by rw [Hnext.out]; exact Hc1.out), Hc2⟩
end Go.Proofs.YtkmonmdnmpbadaaDoor
namespace Go.Proofs.YtkmonmdnmpbadaaDoor
open Go.RowKit
theorem short_any (s : ByteArray) (w : World) (hs : s.size ≤ 1099511627776) : Calls Tryd.prog 84 #[.string s] w fun e w' => e = .returned (.int .i64 (shortC s)) ∧ w = w' := by
  obtain ⟨cd, Hcd⟩ : ∃ cd, Hid (NameP.check s.data.toList = cd) := ⟨_, Lib.hid rfl⟩
  have Hr : Hid (shortC s = says cd (if 20 < s.size then 2 else 0)) := by show _ = _; unfold shortC; rw [Hcd.out]
  rw [Hr.out]
  by_cases h0 : cd = 0
  · subst h0
    rw [zero_says]
    by_cases h2 : 20 < s.size
    · rw [if_pos h2]
      have h3 : (20 : Int) < (s.size : Int) := by omega
      go_enter Tryd.func84, Tryd.ntmps84
      go_wp2_with fail
      refine (check_any s w hs).mono ?_
      rw [Hcd.out]
      rintro E w1 ⟨rfl, rfl⟩
      go_wp2_with fail
      go_ret
      exact ⟨rfl, rfl⟩
    · rw [if_neg h2]
      have h3 : ¬ (20 : Int) < (s.size : Int) := by omega
      go_enter Tryd.func84, Tryd.ntmps84
      go_wp2_with fail
      refine (check_any s w hs).mono ?_
      rw [Hcd.out]
      rintro E w1 ⟨rfl, rfl⟩
      go_wp2_with fail
      go_ret
      exact ⟨rfl, rfl⟩
  · have Hs : Hid (says cd (if 20 < s.size then 2 else 0) = cd) := by show _ = _; unfold says; rw [if_neg h0]
    rw [Hs.out]
    have q : (cd != 0) = true := by rw [bne_iff_ne]; exact h0
    clear h0 Hs Hr
    go_enter Tryd.func84, Tryd.ntmps84
    go_wp2_with fail
    refine (check_any s w hs).mono ?_
    rw [Hcd.out]
    rintro E w1 ⟨rfl, rfl⟩
    go_wp2_with fail
    go_ret
    exact ⟨rfl, rfl⟩
/-- a slice's first things -/
theorem RowAt.take {α : Type} {R : Rd α} {k : Nat} {w : World} {ao : Option Addr} {n c : Nat} {l : List α} (h : RowAt R k w (.slice ao n c) l) {i : Nat} (hi : i ≤ l.length) : RowAt R k w (.slice ao i c) (l.take i) := by
  rcases h with ⟨h1, rfl⟩ | ⟨a, c', h1, h2, h3, h4⟩
  · cases h1
    obtain rfl : i = 0 := by simpa using hi
    exact .inl ⟨rfl, by simp⟩
  · injection h1 with u1 u2 u3
    subst u1 u3
    have hlen : (l.take i).length = i := by rw [List.length_take]; omega
    refine .inr ⟨a, c, by rw [hlen], by omega, h3, fun j x hx => ?_⟩
    have hj : j < i := by have := (List.getElem?_eq_some_iff.1 hx).1; omega
    rw [List.getElem?_take_of_lt hj] at hx
    exact h4 j x hx
def groupC (l : List ByteArray) (i : Nat) (g : ByteArray) : Int := says (shortC g) (if Lib.containsS (l.take i) g = true then 5 else 0)
set_option maxRecDepth 100000 in
set_option maxHeartbeats 800000 in
theorem user_any (y1 : Value) (u : GUser) (w : World) (h : UserR w [.string u.name, y1] u) (hn : u.name.size ≤ 1048576) (hok : okS u.groups) :
    Calls Tryd.prog 55 #[.agg #[.string u.name, y1]] w fun e w' => e = .returned (.int .i64 (userC u)) ∧ Below w.heap.size w w' := by
  obtain ⟨v1, hcs, s1⟩ := h
  simp only [List.cons.injEq, and_true, true_and] at hcs
  obtain rfl := hcs
  have hrow := s1.row
  obtain ⟨a1, c1, rfl, _, _⟩ := hrow.len
  have HR := Lib.hid hrow
  have Hok := Lib.hid hok
  have hb := (Below.refl w.heap.size w).alloc (Nat.le_refl _) (.cells #[.string u.name, .slice a1 u.groups.length c1] 42)
  have b1 : (w.alloc (.cells #[.string u.name, .slice a1 u.groups.length c1] 42)).heap[w.heap.size]? = some (.cells #[.string u.name, .slice a1 u.groups.length c1] 42 (0, 0)) := heap_alloc_new w _
  have hs1 : w.heap.size < (w.alloc (.cells #[.string u.name, .slice a1 u.groups.length c1] 42)).heap.size := by simp
  obtain ⟨w1, hw1⟩ : ∃ w1, w1 = w.alloc (.cells #[.string u.name, .slice a1 u.groups.length c1] 42) := ⟨_, rfl⟩
  obtain ⟨gb, hgb⟩ : ∃ gb, gb = w.heap.size := ⟨_, rfl⟩
  rw [← hw1] at hb b1 hs1
  rw [← hgb] at b1 hs1
  have Hb := Lib.hid hb
  have cc := fun i => cell_block b1 i
  have hl6 := hok.1
  obtain ⟨sc, Hsc⟩ : ∃ sc, Hid (shortC u.name = sc) := ⟨_, Lib.hid rfl⟩
  obtain ⟨R, HRes⟩ : ∃ R, Hid (userC u = R) := ⟨_, Lib.hid rfl⟩
  rw [HRes.out]
  have Hu : Hid (R = says sc (if 6 < u.groups.length then 2 else firstBad (u.groups.mapIdx (groupC u.groups)))) := by show _ = _; rw [← HRes.out]; unfold userC; rw [Hsc.out]; rfl
  clear hrow s1 hok hb b1
  go_enter Tryd.func55, Tryd.ntmps55
  go_upto_region 1 with fail
  rw [← hw1, ← hgb]
  clear hw1
  have hs0 : w.heap.size ≤ w1.heap.size := by omega
  clear hgb
  go_wp2_with fail
  refine (short_any u.name w1 (by omega)).mono ?_
  rw [Hsc.out]
  rintro E w2 ⟨rfl, rfl⟩
  by_cases h0 : sc = 0
  · subst h0
    rw [zero_says] at Hu
    by_cases h6 : 6 < u.groups.length
    · rw [if_pos h6] at Hu
      have q : (6 : Int) < (u.groups.length : Int) := by omega
      go_wp2_with fail
      go_ret
      exact ⟨congrArg (fun n => Ending.returned (Value.int .i64 n)) Hu.out.symm, Hb.out⟩
    · rw [if_neg h6] at Hu
      have q : ¬ (6 : Int) < (u.groups.length : Int) := by omega
      go_wp2_with fail
      go_loopg [20] u.groups.length (fun k u20 wr => ∃ i : Nat, i + k = u.groups.length ∧ u20 = .int .i64 (i : Int) ∧ Hid (firstBad ((u.groups.mapIdx (groupC u.groups)).take i) = 0) ∧ w1 = wr)
      case atStart => exact ⟨0, by omega, rfl, Lib.hid (by rw [List.take_zero]; rfl), rfl⟩
      case round =>
        obtain ⟨i, hig, rfl, Hz, rfl⟩ := hrel
        cases gk with
        | zero =>
          obtain rfl : i = u.groups.length := by omega
          have HR0 : Hid (R = 0) := by
            have h9 := Hz.out
            rw [List.take_of_length_le (by simp)] at h9
            show _ = _
            rw [Hu.out, h9]
          go_wp2_with fail
          go_ret
          exact ⟨congrArg (fun n => Ending.returned (Value.int .i64 n)) HR0.out.symm, Hb.out⟩
        | succ k =>
          have hil : i < u.groups.length := by omega
          obtain ⟨s, hsi⟩ : ∃ s, u.groups[i]? = some s := ⟨u.groups[i]'(by omega), List.getElem?_eq_getElem _⟩
          obtain ⟨bk, o, c', hv, _, _, hbs, hcell⟩ := HR.out.form (by omega) (by omega)
          cases hv
          obtain ⟨ds, _, hcc, hR⟩ := hcell i s hsi
          obtain rfl : ds = [.string s] := hR
          have e0 : w1.cell? ⟨bk, o + i, none⟩ = some (.string s) := (Hb.out.cell (p := ⟨bk, _, none⟩) hbs).trans (by simpa using hcc 0 _ rfl)
          have q1 : (0 : Int) ≤ (i : Int) := by omega
          have q2 : (i : Int) < (u.groups.length : Int) := by omega
          have q3 : (i : Int) ≤ (c1 : Int) := by have := HR.out.len; omega
          have hss := Hok.out.2 s (List.mem_of_getElem? hsi)
          obtain ⟨e1, He1⟩ : ∃ e1, Hid (shortC s = e1) := ⟨_, Lib.hid rfl⟩
          obtain ⟨ct, Hct⟩ : ∃ ct, Hid (Lib.containsS (u.groups.take i) s = ct) := ⟨_, Lib.hid rfl⟩
          have Hone : Hid ((u.groups.mapIdx (groupC u.groups))[i]? = some (says e1 (if ct = true then 5 else 0))) := by
            show _ = _; rw [List.getElem?_mapIdx, hsi]; show some (groupC u.groups i s) = _; unfold groupC; rw [He1.out, Hct.out]
          have Hstep : Hid (firstBad ((u.groups.mapIdx (groupC u.groups)).take (i + 1)) = says e1 (if ct = true then 5 else 0)) := by
            show _ = _; rw [firstBad_take Hone.out, Hz.out, zero_says]
          have Hbadrest : Hid (says e1 (if ct = true then 5 else 0) ≠ 0 → R = says e1 (if ct = true then 5 else 0)) := Lib.hid fun hne => by
            rw [Hu.out]
            have h9 : firstBad (u.groups.mapIdx (groupC u.groups)) = says (firstBad ((u.groups.mapIdx (groupC u.groups)).take (i + 1))) (firstBad ((u.groups.mapIdx (groupC u.groups)).drop (i + 1))) := by rw [← firstBad_append, List.take_append_drop]
            rw [h9, Hstep.out]
            unfold says at hne ⊢
            rw [if_neg hne]
          have Htk := Lib.hid (HR.out.take (i := i) (by omega)).strs
          have hit : i = (u.groups.take i).length := by rw [List.length_take]; omega
          have Hit := Lib.hid hit
          clear hcc hcell hsi hit
          go_wp2_with fail
          refine (short_any s w1 (by omega)).mono ?_
          rw [He1.out]
          rintro E w2 ⟨rfl, rfl⟩
          by_cases h1 : e1 = 0
          · subst h1
            rw [zero_says] at Hstep Hbadrest
            go_wp2_with fail
            refine (contains_any _ (u.groups.take i) s w1 (Htk.out.below' Hb.out) (by rw [← Hit.out]; omega)).mono ?_
            rw [Hct.out]
            rintro E w2 ⟨rfl, rfl⟩
            cases ct with
            | true =>
              have Hr5 : Hid (R = 5) := Lib.hid (by have := Hbadrest.out (by simp); simpa using this)
              go_wp2_with fail
              go_ret
              exact ⟨congrArg (fun n => Ending.returned (Value.int .i64 n)) Hr5.out.symm, Hb.out⟩
            | false =>
              go_wp2_with fail
              go_roundg k
              case measure => omega
              case rel => exact ⟨i + 1, by omega, by go_num, Lib.hid (by rw [Hstep.out]; simp), rfl⟩
          · have q4 : (e1 != 0) = true := by rw [bne_iff_ne]; exact h1
            have Hr5 : Hid (R = e1) := Lib.hid (by
              have h8 : says e1 (if ct = true then 5 else 0) = e1 := by unfold says; rw [if_neg h1]
              have := Hbadrest.out (by rw [h8]; exact h1)
              rw [this, h8])
            clear h1
            go_wp2_with fail
            go_ret
            exact ⟨congrArg (fun n => Ending.returned (Value.int .i64 n)) Hr5.out.symm, Hb.out⟩
  · have Hs : Hid (R = sc) := by show _ = _; rw [Hu.out]; unfold says; rw [if_neg h0]
    have q : (sc != 0) = true := by rw [bne_iff_ne]; exact h0
    clear h0
    go_wp2_with fail
    go_ret
    exact ⟨congrArg (fun n => Ending.returned (Value.int .i64 n)) Hs.out.symm, Hb.out⟩
def CapRole (gr : Nat) (r : GRole) (w : World) : Prop := ∃ z2 : Value, w.heap[gr]? = some (.cells #[.string r.space, .string r.name, z2] 69 (0, 0))
theorem capRole_keep (gr : Nat) (r : GRole) (w w' : World) (h : CapRole gr r w) (hb : Below w.heap.size w w') : CapRole gr r w' := by
  obtain ⟨z2, h⟩ := h
  exact ⟨z2, below_block hb h⟩
set_option maxRecDepth 100000 in
theorem cloRole_any (gr : Nat) (r x : GRole) (y2 : Value) (w : World) (_h : RoleR w [.string x.space, .string x.name, y2] x) (hc : CapRole gr r w) :
    Calls Tryd.prog 81 #[.agg #[.string x.space, .string x.name, y2], .pointer (some ⟨gr, 0, none⟩)] w fun e w' => e = .returned (.bool (sameRole x r)) ∧ Below w.heap.size w w' := by
  obtain ⟨z2, h1⟩ := hc
  have cc := fun i => cell_block h1 i
  have hgr : gr < w.heap.size := by
    rcases Nat.lt_or_ge gr w.heap.size with h2 | h2
    · exact h2
    · rw [Array.getElem?_eq_none h2] at h1; cases h1
  have way : (eqB x.space r.space = false ∧ Hid (sameRole x r = false)) ∨ (eqB x.space r.space = true ∧ eqB x.name r.name = false ∧ Hid (sameRole x r = false)) ∨ (eqB x.space r.space = true ∧ eqB x.name r.name = true ∧ Hid (sameRole x r = true)) := by
    cases h2 : eqB x.space r.space with
    | false => exact .inl ⟨rfl, Lib.hid (by unfold sameRole; rw [h2]; rfl)⟩
    | true => cases h3 : eqB x.name r.name with
      | false => exact .inr (.inl ⟨rfl, rfl, Lib.hid (by unfold sameRole; rw [h2, h3]; rfl)⟩)
      | true => exact .inr (.inr ⟨rfl, rfl, Lib.hid (by unfold sameRole; rw [h2, h3]; rfl)⟩)
  unfold eqB at way
  clear _h h1
  rcases way with ⟨p1, Hp⟩ | ⟨p1, p2, Hp⟩ | ⟨p1, p2, Hp⟩
  all_goals
    rw [Hp.out]
    go_enter Tryd.func81, Tryd.ntmps81
    go_wp2_with fail
    go_ret
    exact ⟨rfl, (Below.refl _ _).alloc (Nat.le_refl _) _⟩
def CapBind (gr : Nat) (r : GBind) (w : World) : Prop := ∃ z4 z5 : Value, w.heap[gr]? = some (.cells #[.string r.space, .string r.name, .string r.role, .bool r.whole, z4, z5] 71 (0, 0))
theorem capBind_keep (gr : Nat) (r : GBind) (w w' : World) (h : CapBind gr r w) (hb : Below w.heap.size w w') : CapBind gr r w' := by
  obtain ⟨z4, z5, h⟩ := h
  exact ⟨z4, z5, below_block hb h⟩
set_option maxRecDepth 100000 in
theorem cloBind_any (gr : Nat) (r x : GBind) (y4 y5 : Value) (w : World) (_h : BindR w [.string x.space, .string x.name, .string x.role, .bool x.whole, y4, y5] x) (hc : CapBind gr r w) :
    Calls Tryd.prog 83 #[.agg #[.string x.space, .string x.name, .string x.role, .bool x.whole, y4, y5], .pointer (some ⟨gr, 0, none⟩)] w fun e w' => e = .returned (.bool (sameBind x r)) ∧ Below w.heap.size w w' := by
  obtain ⟨z4, z5, h1⟩ := hc
  have cc := fun i => cell_block h1 i
  have hgr : gr < w.heap.size := by
    rcases Nat.lt_or_ge gr w.heap.size with h2 | h2
    · exact h2
    · rw [Array.getElem?_eq_none h2] at h1; cases h1
  have way : (eqB x.space r.space = false ∧ Hid (sameBind x r = false)) ∨ (eqB x.space r.space = true ∧ eqB x.name r.name = false ∧ Hid (sameBind x r = false)) ∨ (eqB x.space r.space = true ∧ eqB x.name r.name = true ∧ Hid (sameBind x r = true)) := by
    cases h2 : eqB x.space r.space with
    | false => exact .inl ⟨rfl, Lib.hid (by unfold sameBind; rw [h2]; rfl)⟩
    | true => cases h3 : eqB x.name r.name with
      | false => exact .inr (.inl ⟨rfl, rfl, Lib.hid (by unfold sameBind; rw [h2, h3]; rfl)⟩)
      | true => exact .inr (.inr ⟨rfl, rfl, Lib.hid (by unfold sameBind; rw [h2, h3]; rfl)⟩)
  unfold eqB at way
  clear _h h1
  rcases way with ⟨p1, Hp⟩ | ⟨p1, p2, Hp⟩ | ⟨p1, p2, Hp⟩
  all_goals
    rw [Hp.out]
    go_enter Tryd.func83, Tryd.ntmps83
    go_wp2_with fail
    go_ret
    exact ⟨rfl, (Below.refl _ _).alloc (Nat.le_refl _) _⟩
end Go.Proofs.YtkmonmdnmpbadaaDoor
namespace Go.Proofs.YtkmonmdnmpbadaaDoor
open Go.RowKit
def okRole (r : GRole) : Prop := r.space.size ≤ 1048576 ∧ r.name.size ≤ 1048576 ∧ r.rules.length ≤ 1048576 ∧ ∀ q ∈ r.rules, okRule q
def okBind (b : GBind) : Prop := b.space.size ≤ 1048576 ∧ b.name.size ≤ 1048576 ∧ b.role.size ≤ 1048576 ∧ okS b.users ∧ okS b.groups
def okGrants (x : GGrants) : Prop := x.roles.length ≤ 1048576 ∧ (∀ r ∈ x.roles, okRole r) ∧ x.binds.length ≤ 1048576 ∧ ∀ b ∈ x.binds, okBind b
def okAsk (a : GAsk) : Prop := a.verb.size ≤ 1048576 ∧ a.kind.size ≤ 1048576 ∧ a.space.size ≤ 1048576 ∧ a.name.size ≤ 1048576
theorem IsBad.lt {g : Nat} {w : World} {b : Int} (h : IsBad g w b) : g < w.heap.size := by
  rcases Nat.lt_or_ge g w.heap.size with h1 | h1
  · exact h1
  · unfold IsBad at h; rw [Array.getElem?_eq_none h1] at h; cases h
theorem pair_strs {w : World} {g : Nat} {t : TypeId} {a b : ByteArray} (h : w.heap[g]? = some (.cells #[.string a, .string b] t (0, 0))) : StrAt w (.slice (some ⟨g, 0, none⟩) 2 2) [a, b] := by
  refine .inr ⟨_, 2, rfl, Nat.le_refl _, by unfold maxLen; decide, fun j x hx => ?_⟩
  have hj : j < 2 := (List.getElem?_eq_some_iff.1 hx).1
  rw [add_plain', Nat.zero_add]
  have : w.cell? ⟨g, j, none⟩ = #[Value.string a, Value.string b][j]? := cell_block h j
  rw [this]
  match j, hj with
  | 0, _ => simp at hx; subst hx; rfl
  | 1, _ => simp at hx; subst hx; rfl
set_option maxRecDepth 100000 in
set_option maxHeartbeats 800000 in
theorem ask_any (a : GAsk) (w : World) (hok : okAsk a) : Calls Tryd.prog 34 #[.agg #[.string a.verb, .string a.kind, .string a.space, .string a.name]] w fun e w' => e = .returned (.int .i64 (askC a)) ∧ Below w.heap.size w w' := by
  have Hok := Lib.hid hok
  obtain ⟨R, HR⟩ : ∃ R, Hid (askC a = R) := ⟨_, Lib.hid rfl⟩
  rw [HR.out]
  clear hok
  go_enter Tryd.func34, Tryd.ntmps34
  go_upto_region 2 with fail
  obtain ⟨w1, hw1⟩ : ∃ w1, w1 = (w.alloc (.cells #[.string a.verb, .string a.kind, .string a.space, .string a.name] 51)).alloc (.cells #[.int .i64 0] 86) := ⟨_, rfl⟩
  obtain ⟨gc, hgc⟩ : ∃ gc, gc = w.heap.size + 1 := ⟨_, rfl⟩
  obtain ⟨gb, hgb⟩ : ∃ gb, gb = w.heap.size := ⟨_, rfl⟩
  rw [← hw1]
  try rw [← hgc]
  rw [← hgb]
  have b1 : w1.heap[gb]? = some (.cells #[.string a.verb, .string a.kind, .string a.space, .string a.name] 51 (0, 0)) := by
    rw [hw1, hgb]
    exact below_block ((Below.refl _ _).alloc (Nat.le_refl _) _) (heap_alloc_new w _)
  have h1 : IsBad gc w1 0 := by
    have h9 := heap_alloc_new (w.alloc (.cells #[.string a.verb, .string a.kind, .string a.space, .string a.name] 51)) (.cells #[.int .i64 0] 86)
    rw [hw1, hgc]
    simpa [IsBad] using h9
  have hb1 : Below w.heap.size w w1 := by rw [hw1]; exact ((Below.refl _ _).alloc (Nat.le_refl _) _).alloc (by simp) _
  have hlt1 := h1.lt
  have hne : gb ≠ gc := by omega
  have hgw : w.heap.size ≤ gb := by omega
  have hgw2 : w.heap.size ≤ gc := by omega
  have hs1 := hb1.size
  have Hb1 := Lib.hid hb1
  have H1 := Lib.hid h1
  have B1 := Lib.hid b1
  have cc := fun i => cell_block b1 i
  clear hw1 hgc hgb b1 h1 hb1
  go_wp2_with fail
  refine (names_any gc 0 (.slice (some ⟨w1.heap.size, 0, none⟩) 2 2) [a.verb, a.kind] false (w1.alloc (.cells #[.string a.verb, .string a.kind] 9)) (H1.out.below ((Below.refl _ _).alloc (Nat.le_refl _) _)) (pair_strs (heap_alloc_new w1 _)) (fun _ a' n c e => by cases e; show w1.heap.size ≠ gc; omega) (fun x hx => by have := Hok.out; unfold okAsk at this; simp at hx; rcases hx with rfl | rfl <;> omega) (by simp)).mono ?_
  rintro E w2 ⟨rfl, h1, h2⟩
  have H2 := Lib.hid h1
  have K2 := Lib.hid ((But.of ((Below.refl w1.heap.size w1).alloc (Nat.le_refl _) _)).trans h2)
  clear cc h1 h2
  have cc := fun i => cell_block (K2.out.keep B1.out hne) i
  go_wp2_with fail
  refine (space_any gc _ a.space w2 H2.out (by have := Hok.out; unfold okAsk at this; omega)).mono ?_
  rintro E w3 ⟨rfl, h1, h2⟩
  have H3 := Lib.hid h1
  have K3 := Lib.hid (K2.out.trans h2)
  clear cc h1 h2
  have cc := fun i => cell_block (K3.out.keep B1.out hne) i
  go_wp2_with fail
  refine (space_any gc _ a.name w3 H3.out (by have := Hok.out; unfold okAsk at this; omega)).mono ?_
  rintro E w4 ⟨rfl, h1, h2⟩
  have hR2 : says (says (says 0 (namesC false [a.verb, a.kind])) (spaceC a.space)) (spaceC a.name) = R := by rw [← HR.out, zero_says, says_assoc]; rfl
  rw [hR2] at h1
  have K4 := Lib.hid ((But.of Hb1.out).trans (K3.out.trans h2))
  have c4 : w4.cell? ⟨gc, 0, none⟩ = some (.int .i64 R) := cell_block h1 0
  clear cc h1 h2 hR2 H2 H3
  go_wp2_with fail
  go_ret
  exact ⟨rfl, K4.out.below (Below.refl _ _) (Nat.le_refl _) (by omega)⟩
set_option maxRecDepth 100000 in
theorem none_any (w : World) : Calls Tryd.prog 14 #[] w fun e w' => e = .returned (.bool true) ∧ Below w.heap.size w w' := by
  have h := ask_any ⟨ByteArray.empty, ByteArray.empty, ByteArray.empty, ByteArray.empty⟩ w ⟨by decide, by decide, by decide, by decide⟩
  have hc : askC ⟨ByteArray.empty, ByteArray.empty, ByteArray.empty, ByteArray.empty⟩ = 6 := by decide +kernel
  rw [hc] at h
  have H := Lib.hid h
  clear h hc
  go_enter Tryd.func14, Tryd.ntmps14
  go_wp2_with fail
  refine H.out.mono ?_
  rintro E w1 ⟨rfl, hb⟩
  have Hb := Lib.hid hb
  clear hb H
  go_wp2_with fail
  go_ret
  exact ⟨rfl, Hb.out⟩
set_option maxRecDepth 100000 in
set_option maxHeartbeats 1600000 in
theorem grantsCheck_any (yr yb : Value) (x : GGrants) (w : World) (h : GrantsR w [yr, yb] x) (hok : okGrants x) :
    Calls Tryd.prog 54 #[.agg #[yr, yb]] w fun e w' => e = .returned (.int .i64 (grantsC x)) ∧ Below w.heap.size w w' := by
  obtain ⟨_, _, hcs, hr, hb⟩ := h
  simp only [List.cons.injEq, and_true] at hcs
  obtain ⟨rfl, rfl⟩ := hcs
  obtain ⟨a1, c1, rfl, hc1, _⟩ := hr.len
  obtain ⟨a2, c2, rfl, hc2, _⟩ := hb.len
  obtain ⟨okr, okrs, okb, okbs⟩ := hok
  have Hr := Lib.hid hr
  have Hb := Lib.hid hb
  have Hokr := Lib.hid okrs
  have Hokb := Lib.hid okbs
  obtain ⟨nr, Hnr⟩ : ∃ n, Hid (x.roles.length = n) := ⟨_, Lib.hid rfl⟩
  obtain ⟨nb, Hnb⟩ : ∃ n, Hid (x.binds.length = n) := ⟨_, Lib.hid rfl⟩
  obtain ⟨sm, Hsm⟩ : ∃ sm, Hid ((decide (x.roles.length ≤ 12) && decide (x.binds.length ≤ 12)) = sm) := ⟨_, Lib.hid rfl⟩
  obtain ⟨R, HR⟩ : ∃ R, Hid (grantsC x = R) := ⟨_, Lib.hid rfl⟩
  have Hres : Hid (says (says (need sm 2) (firstBad (rolesC x.roles))) (firstBad (bindsC x.binds)) = R) := by show _ = _; rw [← HR.out, ← Hsm.out, says_assoc]; rfl
  rw [HR.out]
  rw [Hnr.out] at Hr okr hc1 ⊢
  rw [Hnb.out] at Hb okb hc2 ⊢
  clear hr hb okrs okbs
  go_enter Tryd.func54, Tryd.ntmps54
  go_upto_region 2 with fail
  obtain ⟨w1, hw1⟩ : ∃ w1, w1 = (w.alloc (.cells #[.slice a1 nr c1, .slice a2 nb c2] 40)).alloc (.cells #[.int .i64 0] 86) := ⟨_, rfl⟩
  obtain ⟨gc, hgc⟩ : ∃ gc, gc = w.heap.size + 1 := ⟨_, rfl⟩
  obtain ⟨gx, hgx⟩ : ∃ gx, gx = w.heap.size := ⟨_, rfl⟩
  rw [← hw1]
  try rw [← hgc]
  rw [← hgx]
  have b1 : w1.heap[gx]? = some (.cells #[.slice a1 nr c1, .slice a2 nb c2] 40 (0, 0)) := by
    rw [hw1, hgx]
    exact below_block ((Below.refl _ _).alloc (Nat.le_refl _) _) (heap_alloc_new w _)
  have h1 : IsBad gc w1 0 := by
    have h9 := heap_alloc_new (w.alloc (.cells #[.slice a1 nr c1, .slice a2 nb c2] 40)) (.cells #[.int .i64 0] 86)
    rw [hw1, hgc]
    simpa [IsBad] using h9
  have hb1 : Below w.heap.size w w1 := by rw [hw1]; exact ((Below.refl _ _).alloc (Nat.le_refl _) _).alloc (by simp) _
  have hlt1 := h1.lt
  have hne : gx ≠ gc := by omega
  have hgw : w.heap.size ≤ gx := by omega
  have hgw2 : w.heap.size ≤ gc := by omega
  have hs1 := hb1.size
  have Hb1 := Lib.hid hb1
  have H1 := Lib.hid h1
  have B1 := Lib.hid b1
  have cc := fun i => cell_block b1 i
  clear hw1 hgc hgx b1 h1 hb1
  go_cut [20] (fun u20 wx => Hid (IsBad gc wx (need sm 2)) ∧ Hid (But gc w1 wx))
  case first =>
    have way : (decide ((nr : Int) ≤ 12) = false ∧ sm = false) ∨ (decide ((nr : Int) ≤ 12) = true ∧ decide ((nb : Int) ≤ 12) = false ∧ sm = false) ∨ (decide ((nr : Int) ≤ 12) = true ∧ decide ((nb : Int) ≤ 12) = true ∧ sm = true) := by
      have e := Hsm.out
      rw [Hnr.out, Hnb.out] at e
      rw [← e]
      simp only [decide_eq_true_eq, decide_eq_false_iff_not, Bool.and_eq_true, Bool.and_eq_false_iff]
      omega
    rcases way with ⟨p1, rfl⟩ | ⟨p1, p2, rfl⟩ | ⟨p1, p2, rfl⟩
    all_goals
      go_wp2_with fail
      refine (need_any gc 0 _ 2 w1 H1.out).mono ?_
      rintro E w2 ⟨rfl, h1, h2⟩
      rw [zero_says] at h1
      have Hx1 := Lib.hid h1
      have Hx2 := Lib.hid h2
      clear h1 h2
      go_wp2_with fail
      go_meet
      exact ⟨Hx1, Hx2⟩
  case rest =>
  obtain ⟨wx, rfl⟩ : ∃ wx, wx = wc := ⟨_, rfl⟩
  obtain ⟨Hx1, Hx2⟩ := hcut
  clear cc
  have cc := fun i => cell_block (Hx2.out.keep B1.out hne) i
  go_wp2_with fail
  clear cc
  go_loopg [25] nr (fun k u25 wr => ∃ i : Nat, i + k = nr ∧ u25 = .int .i64 (i : Int) ∧ Hid (IsBad gc wr (says (need sm 2) (firstBad ((rolesC x.roles).take i)))) ∧ Hid (But gc w1 wr))
  case atStart => exact ⟨0, by omega, rfl, Lib.hid (by rw [List.take_zero]; exact (says_zero (need sm 2)).symm ▸ Hx1.out), Hx2⟩
  case round =>
    obtain ⟨i, hig, rfl, Hbad, Hbut⟩ := hrel
    clear Hx1 Hx2
    cases gk with
    | zero =>
      obtain rfl : i = nr := by omega
      have Hend : Hid (IsBad gc wr (says (need sm 2) (firstBad (rolesC x.roles)))) := by
        have h9 := Hbad.out
        rw [List.take_of_length_le (by unfold rolesC; rw [List.length_mapIdx, Hnr.out]; exact Nat.le_refl _)] at h9
        exact Lib.hid h9
      obtain ⟨b2, Hb2⟩ : ∃ b2, Hid (says (need sm 2) (firstBad (rolesC x.roles)) = b2) := ⟨_, Lib.hid rfl⟩
      rw [Hb2.out] at Hend Hres
      obtain ⟨w3, rfl⟩ : ∃ w3, w3 = wr := ⟨_, rfl⟩
      have cc := fun i => cell_block (Hbut.out.keep B1.out hne) i
      clear Hbad
      go_wp2_with fail
      clear cc
      go_loopg [56] nb (fun k u56 wr => ∃ i : Nat, i + k = nb ∧ u56 = .int .i64 (i : Int) ∧ Hid (IsBad gc wr (says b2 (firstBad ((bindsC x.binds).take i)))) ∧ Hid (But gc w1 wr))
      case atStart => exact ⟨0, by omega, rfl, Lib.hid (by rw [List.take_zero]; exact (says_zero b2).symm ▸ Hend.out), Hbut⟩
      case round =>
        obtain ⟨i, hig, rfl, Hbad, Hbut⟩ := hrel
        clear Hend
        cases gk with
        | zero =>
          obtain rfl : i = nb := by omega
          have h9 := Hbad.out
          rw [List.take_of_length_le (by unfold bindsC; rw [List.length_mapIdx, Hnb.out]; exact Nat.le_refl _), Hres.out] at h9
          have c4 : wr.cell? ⟨gc, 0, none⟩ = some (.int .i64 R) := cell_block h9 0
          clear h9
          go_wp2_with fail
          go_ret
          exact ⟨rfl, Hbut.out.below Hb1.out hs1 hgw2⟩
        | succ k =>
          have hil : i < nb := by omega
          obtain ⟨r, hri⟩ : ∃ r, x.binds[i]? = some r := ⟨x.binds[i]'(by rw [Hnb.out]; omega), List.getElem?_eq_getElem _⟩
          obtain ⟨bk, o, c', hv, _, _, hbs, hcell⟩ := Hb.out.form (by rw [Hnb.out]; omega) (by omega)
          injection hv with u1 u2 u3
          subst u1
          obtain ⟨ds, _, hcc, hR⟩ := hcell i r hri
          obtain ⟨y4, y5, rfl, hus, hgs⟩ := hR
          obtain ⟨a3, c3, rfl, hc3, _⟩ := hus.row.len
          obtain ⟨a4, c4, rfl, hc4, _⟩ := hgs.row.len
          have hbw := Hbut.out.below Hb1.out hs1 hgw2
          have e0 : wr.cell? ⟨bk, o + i * 6, none⟩ = some (.string r.space) := (hbw.cell (p := ⟨bk, _, none⟩) hbs).trans (by simpa using hcc 0 _ rfl)
          have e1 : wr.cell? ⟨bk, o + i * 6 + 1, none⟩ = some (.string r.name) := (hbw.cell (p := ⟨bk, _, none⟩) hbs).trans (hcc 1 _ rfl)
          have e2 : wr.cell? ⟨bk, o + i * 6 + 2, none⟩ = some (.string r.role) := (hbw.cell (p := ⟨bk, _, none⟩) hbs).trans (hcc 2 _ rfl)
          have e3 : wr.cell? ⟨bk, o + i * 6 + 3, none⟩ = some (.bool r.whole) := (hbw.cell (p := ⟨bk, _, none⟩) hbs).trans (hcc 3 _ rfl)
          have e4 : wr.cell? ⟨bk, o + i * 6 + 4, none⟩ = some (.slice a3 r.users.length c3) := (hbw.cell (p := ⟨bk, _, none⟩) hbs).trans (hcc 4 _ rfl)
          have e5 : wr.cell? ⟨bk, o + i * 6 + 5, none⟩ = some (.slice a4 r.groups.length c4) := (hbw.cell (p := ⟨bk, _, none⟩) hbs).trans (hcc 5 _ rfl)
          have q1 : (0 : Int) ≤ (i : Int) := by omega
          have q2 : (i : Int) < (nb : Int) := by omega
          have q3 : (i : Int) ≤ (c2 : Int) := by omega
          obtain ⟨tw, Htw⟩ : ∃ tw, Hid ((x.binds.take i).any (fun q => sameBind q r) = tw) := ⟨_, Lib.hid rfl⟩
          obtain ⟨wh, Hwh⟩ : ∃ wh, Hid ((!eqB r.space ByteArray.empty || r.whole) = wh) := ⟨_, Lib.hid rfl⟩
          obtain ⟨lg, Hlg⟩ : ∃ lg, Hid ((decide (r.users.length ≤ 6) && decide (r.groups.length ≤ 6)) = lg) := ⟨_, Lib.hid rfl⟩
          have Hnext : Hid (says b2 (firstBad ((bindsC x.binds).take (i + 1))) = says (says (says (says (says (says (says (says b2 (firstBad ((bindsC x.binds).take i))) (spaceC r.space)) (namesC false [r.name, r.role])) (need (!tw) 5)) (need wh 1)) (need lg 2)) (namesC false r.users)) (namesC false r.groups)) := by
            show _ = _
            rw [firstBad_take (e := bindC (x.binds.take i) r) (by unfold bindsC; rw [List.getElem?_mapIdx, hri]; rfl)]
            unfold bindC
            rw [Htw.out, Hwh.out, Hlg.out]
            simp only [says_assoc]
          obtain ⟨nu, Hnu⟩ : ∃ n, Hid (r.users.length = n) := ⟨_, Lib.hid rfl⟩
          obtain ⟨ng, Hng⟩ : ∃ n, Hid (r.groups.length = n) := ⟨_, Lib.hid rfl⟩
          rw [Hnu.out] at e4
          rw [Hng.out] at e5
          obtain ⟨ok1, ok2, ok3, ok4, ok5⟩ := Hokb.out r (List.mem_of_getElem? hri)
          have Hok4 := Lib.hid ok4
          have Hok5 := Lib.hid ok5
          have Hus := Lib.hid hus
          have Hgs := Lib.hid hgs
          rw [Hnu.out] at Hus
          rw [Hng.out] at Hgs
          have hsw := Hbut.out.size
          have Htk := Lib.hid (Hb.out.take (i := i) (by rw [Hnb.out]; omega))
          have hit : (x.binds.take i).length = i := by rw [List.length_take, Hnb.out]; omega
          have Hit := Lib.hid hit
          clear hcc hcell hri u2 u3 ok4 ok5 hus hgs hbw hit hc3 hc4
          have dd := fun i => cell_block (Hbut.out.keep B1.out hne) i
          go_upto_region 14 with fail
          obtain ⟨w5, hw5⟩ : ∃ w5, w5 = wr.alloc (.cells #[.string r.space, .string r.name, .string r.role, .bool r.whole, .slice a3 nu c3, .slice a4 ng c4] 71) := ⟨_, rfl⟩
          obtain ⟨gb, hgb⟩ : ∃ gb, gb = wr.heap.size := ⟨_, rfl⟩
          rw [← hw5, ← hgb]
          have b5 : w5.heap[gb]? = some (.cells #[.string r.space, .string r.name, .string r.role, .bool r.whole, .slice a3 nu c3, .slice a4 ng c4] 71 (0, 0)) := by rw [hw5, hgb]; exact heap_alloc_new wr _
          have hb5 : Below wr.heap.size wr w5 := by rw [hw5]; exact (Below.refl _ _).alloc (Nat.le_refl _) _
          have hlt5 := Hbad.out.lt
          have hne5 : gb ≠ gc := by omega
          have hgs5 : gb < w5.heap.size := by rw [hw5, hgb]; simp
          have H5 := Lib.hid (Hbad.out.below hb5)
          have J := Lib.hid (Hbut.out.trans (But.of hb5))
          have K5 := Lib.hid (But.refl gc w5)
          have B5 := Lib.hid b5
          have hsJ := J.out.size
          clear dd hw5 hgb b5 hb5 e0 e1 e2 e3 e4 e5 Hbad
          have cc := fun i => cell_block B5.out i
          have dd := fun i => cell_block (J.out.keep B1.out hne) i
          go_wp2_with fail
          refine (space_any gc _ r.space w5 H5.out (by omega)).mono ?_
          rintro E w6 ⟨rfl, h1, h2⟩
          have H6 := Lib.hid h1
          have K6 := Lib.hid (K5.out.trans h2)
          clear cc dd h1 h2
          have cc := fun i => cell_block (K6.out.keep B5.out hne5) i
          have dd := fun i => cell_block (J.out.trans K6.out |>.keep B1.out hne) i
          have hlt6 := H6.out.lt
          have hs6 := (J.out.trans K6.out).size
          go_wp2_with fail
          refine (names_any gc _ (.slice (some ⟨w6.heap.size, 0, none⟩) 2 2) [r.name, r.role] false (w6.alloc (.cells #[.string r.name, .string r.role] 9)) (H6.out.below ((Below.refl _ _).alloc (Nat.le_refl _) _)) (pair_strs (heap_alloc_new w6 _)) (fun _ a' n c e => by cases e; show w6.heap.size ≠ gc; omega) (fun y hy => by simp at hy; rcases hy with rfl | rfl <;> omega) (by simp)).mono ?_
          rintro E w7 ⟨rfl, h1, h2⟩
          have H7 := Lib.hid h1
          have K7 := Lib.hid (K6.out.trans ((But.of ((Below.refl w6.heap.size w6).alloc (Nat.le_refl _) _)).trans h2))
          clear cc dd h1 h2
          have cc := fun i => cell_block (K7.out.keep B5.out hne5) i
          have dd := fun i => cell_block (J.out.trans K7.out |>.keep B1.out hne) i
          have hJ7 := J.out.trans K7.out
          have Hrow7 := Lib.hid (Htk.out.below stays_bind (hJ7.below Hb1.out hs1 hgw2))
          have Hcap7 : Hid (CapBind gb r w7) := Lib.hid ⟨_, _, K7.out.keep B5.out hne5⟩
          clear hJ7
          go_wp2_with fail
          refine (anyBind_any (f := 83) (cap := .pointer (some ⟨gb, 0, none⟩)) (Cap := CapBind gb r) (p := fun q => sameBind q r) (run_callFunc_body Tryd.func83 (by kernel_rfl) (by kernel_rfl)) (capBind_keep gb r) (OK := fun _ => True) (fun q y4 y5 w hq _ hc => cloBind_any gb r q y4 y5 w hq hc) _ (x.binds.take i) w7 Hrow7.out (by rw [Hit.out]; omega) (fun _ _ => trivial) Hcap7.out).mono ?_
          rw [Htw.out]
          rintro E w8 ⟨rfl, hb8⟩
          have H8 := Lib.hid (H7.out.below hb8)
          have K8 := Lib.hid (K7.out.trans (But.of hb8))
          clear cc dd hb8 Hcap7 Hrow7
          have cc := fun i => cell_block (K8.out.keep B5.out hne5) i
          have dd := fun i => cell_block (J.out.trans K8.out |>.keep B1.out hne) i
          go_wp2_with fail
          refine (need_any gc _ (!tw) 5 w8 H8.out).mono ?_
          rintro E w9 ⟨rfl, h1, h2⟩
          have H9 := Lib.hid h1
          have K9 := Lib.hid (K8.out.trans h2)
          clear cc dd h1 h2
          have cc := fun i => cell_block (K9.out.keep B5.out hne5) i
          have dd := fun i => cell_block (J.out.trans K9.out |>.keep B1.out hne) i
          obtain ⟨b9, Hb9⟩ : ∃ b9, Hid (says (says (says (says b2 (firstBad ((bindsC x.binds).take i))) (spaceC r.space)) (namesC false [r.name, r.role])) (need (!tw) 5) = b9) := ⟨_, Lib.hid rfl⟩
          rw [Hb9.out] at H9 Hnext
          go_upto_region 17 with fail
          go_cut [88] (fun u88 wx => Hid (IsBad gc wx (says b9 (need wh 1))) ∧ Hid (But gc w5 wx))
          case first =>
            have way : (r.space.toList = [] ∧ r.space.toList.isEmpty = true ∧ r.whole = true ∧ wh = true) ∨ (r.space.toList = [] ∧ r.space.toList.isEmpty = true ∧ r.whole = false ∧ wh = false) ∨ ((!r.space.toList.isEmpty) = true ∧ r.space.toList.isEmpty = false ∧ (r.whole = true ∨ r.whole = false) ∧ wh = true) := by
              have e := Hwh.out
              rw [eqB_empty] at e
              by_cases h0 : r.space.size = 0
              · have h1 := str_none h0
                rw [decide_eq_true h0] at e
                cases h2 : r.whole with
                | true => rw [h2] at e; exact .inl ⟨h1, by rw [h1]; rfl, rfl, e.symm⟩
                | false => rw [h2] at e; exact .inr (.inl ⟨h1, by rw [h1]; rfl, rfl, e.symm⟩)
              · have h1 := str_some h0
                rw [decide_eq_false h0] at e
                exact .inr (.inr ⟨h1, by simpa using h1, (by cases r.whole <;> simp), by rw [← e]; simp⟩)
            obtain ⟨rw', Hrw⟩ : ∃ rw', Hid (r.whole = rw') := ⟨_, Lib.hid rfl⟩
            rw [Hrw.out] at way cc
            rcases way with ⟨p1, p2, rfl, rfl⟩ | ⟨p1, p2, rfl, rfl⟩ | ⟨p1, p2, p3, rfl⟩
            case inr.inr =>
              clear p3
              go_wp2_with fail
              refine (need_any gc _ _ 1 w9 H9.out).mono ?_
              rintro E w2 ⟨rfl, h1, h2⟩
              have Hy1 := Lib.hid h1
              have Hy2 := Lib.hid (K9.out.trans h2)
              clear h1 h2
              go_wp2_with fail
              go_meet
              exact ⟨Hy1, Hy2⟩
            all_goals
              go_wp2_with fail
              refine (need_any gc _ _ 1 w9 H9.out).mono ?_
              rintro E w2 ⟨rfl, h1, h2⟩
              have Hy1 := Lib.hid h1
              have Hy2 := Lib.hid (K9.out.trans h2)
              clear h1 h2
              go_wp2_with fail
              go_meet
              exact ⟨Hy1, Hy2⟩
          case rest =>
          obtain ⟨w10, rfl⟩ : ∃ w10, w10 = wc := ⟨_, rfl⟩
          obtain ⟨H10, K10⟩ := hcut
          clear cc dd
          have cc := fun i => cell_block (K10.out.keep B5.out hne5) i
          have dd := fun i => cell_block (J.out.trans K10.out |>.keep B1.out hne) i
          go_upto_region 18 with fail
          go_cut [100] (fun u100 wx => Hid (IsBad gc wx (says (says b9 (need wh 1)) (need lg 2))) ∧ Hid (But gc w5 wx))
          case first =>
            have way : (decide ((nu : Int) ≤ 6) = false ∧ lg = false) ∨ (decide ((nu : Int) ≤ 6) = true ∧ decide ((ng : Int) ≤ 6) = false ∧ lg = false) ∨ (decide ((nu : Int) ≤ 6) = true ∧ decide ((ng : Int) ≤ 6) = true ∧ lg = true) := by
              have e := Hlg.out
              rw [Hnu.out, Hng.out] at e
              rw [← e]
              simp only [decide_eq_true_eq, decide_eq_false_iff_not, Bool.and_eq_true, Bool.and_eq_false_iff]
              omega
            rcases way with ⟨p1, rfl⟩ | ⟨p1, p2, rfl⟩ | ⟨p1, p2, rfl⟩
            all_goals
              go_wp2_with fail
              refine (need_any gc _ _ 2 w10 H10.out).mono ?_
              rintro E w2 ⟨rfl, h1, h2⟩
              have Hy1 := Lib.hid h1
              have Hy2 := Lib.hid (K10.out.trans h2)
              clear h1 h2
              go_wp2_with fail
              go_meet
              exact ⟨Hy1, Hy2⟩
          case rest =>
          obtain ⟨w11, rfl⟩ : ∃ w11, w11 = wc := ⟨_, rfl⟩
          obtain ⟨H11, K11⟩ := hcut
          clear cc dd
          have cc := fun i => cell_block (K11.out.keep B5.out hne5) i
          have dd := fun i => cell_block (J.out.trans K11.out |>.keep B1.out hne) i
          go_wp2_with fail
          refine (names0_any gc _ _ r.users false w w11 H11.out ((J.out.trans K11.out).below Hb1.out hs1 hgw2) hgw2 Hus.out Hok4.out).mono ?_
          rintro E w12 ⟨rfl, h1, h2⟩
          have H12 := Lib.hid h1
          have K12 := Lib.hid (K11.out.trans h2)
          clear cc dd h1 h2
          have cc := fun i => cell_block (K12.out.keep B5.out hne5) i
          have dd := fun i => cell_block (J.out.trans K12.out |>.keep B1.out hne) i
          go_wp2_with fail
          refine (names0_any gc _ _ r.groups false w w12 H12.out ((J.out.trans K12.out).below Hb1.out hs1 hgw2) hgw2 Hgs.out Hok5.out).mono ?_
          rintro E w13 ⟨rfl, h1, h2⟩
          have H13 := Lib.hid h1
          have K13 := Lib.hid (K12.out.trans h2)
          clear cc dd h1 h2
          have cc := fun i => cell_block (K13.out.keep B5.out hne5) i
          have dd := fun i => cell_block (J.out.trans K13.out |>.keep B1.out hne) i
          have Hlast : Hid (IsBad gc w13 (says b2 (firstBad ((bindsC x.binds).take (i + 1))))) := Lib.hid (by rw [Hnext.out]; exact H13.out)
          have Hbut2 := Lib.hid (J.out.trans K13.out)
          clear cc dd
          go_wp2_with fail
          go_roundg k
          case measure => omega
          case rel => exact ⟨i + 1, by omega, by go_num, Hlast, Hbut2⟩
    | succ k =>
      have hil : i < nr := by omega
      obtain ⟨r, hri⟩ : ∃ r, x.roles[i]? = some r := ⟨x.roles[i]'(by rw [Hnr.out]; omega), List.getElem?_eq_getElem _⟩
      obtain ⟨bk, o, c', hv, _, _, hbs, hcell⟩ := Hr.out.form (by rw [Hnr.out]; omega) (by omega)
      injection hv with u1 u2 u3
      subst u1
      obtain ⟨ds, _, hcc, hR⟩ := hcell i r hri
      obtain ⟨y2, rfl, hrr⟩ := hR
      obtain ⟨a3, c3, rfl, hc3, _⟩ := hrr.len
      have hbw := Hbut.out.below Hb1.out hs1 hgw2
      have e0 : wr.cell? ⟨bk, o + i * 3, none⟩ = some (.string r.space) := (hbw.cell (p := ⟨bk, _, none⟩) hbs).trans (by simpa using hcc 0 _ rfl)
      have e1 : wr.cell? ⟨bk, o + i * 3 + 1, none⟩ = some (.string r.name) := (hbw.cell (p := ⟨bk, _, none⟩) hbs).trans (hcc 1 _ rfl)
      have e2 : wr.cell? ⟨bk, o + i * 3 + 2, none⟩ = some (.slice a3 r.rules.length c3) := (hbw.cell (p := ⟨bk, _, none⟩) hbs).trans (hcc 2 _ rfl)
      have q1 : (0 : Int) ≤ (i : Int) := by omega
      have q2 : (i : Int) < (nr : Int) := by omega
      have q3 : (i : Int) ≤ (c1 : Int) := by omega
      have Hnext : Hid (says (need sm 2) (firstBad ((rolesC x.roles).take (i + 1))) = says (says (need sm 2) (firstBad ((rolesC x.roles).take i))) (roleC (x.roles.take i) r)) := by
        show _ = _
        rw [firstBad_take (e := roleC (x.roles.take i) r) (by unfold rolesC; rw [List.getElem?_mapIdx, hri]; rfl), says_assoc]
      obtain ⟨ok1, ok2, ok3, ok4⟩ := Hokr.out r (List.mem_of_getElem? hri)
      have Hok4 := Lib.hid ok4
      have Hrr := Lib.hid hrr
      have hsw := Hbut.out.size
      have Htk := Lib.hid (Hr.out.take (i := i) (by rw [Hnr.out]; omega))
      have hit : (x.roles.take i).length = i := by rw [List.length_take, Hnr.out]; omega
      have Hit := Lib.hid hit
      clear hcc hcell hri u2 u3 ok4 hrr hbw hit
      have dd := fun i => cell_block (Hbut.out.keep B1.out hne) i
      go_upto_region 6 with fail
      obtain ⟨w5, hw5⟩ : ∃ w5, w5 = wr.alloc (.cells #[.string r.space, .string r.name, .slice a3 r.rules.length c3] 69) := ⟨_, rfl⟩
      obtain ⟨gb, hgb⟩ : ∃ gb, gb = wr.heap.size := ⟨_, rfl⟩
      rw [← hw5, ← hgb]
      have b5 : w5.heap[gb]? = some (.cells #[.string r.space, .string r.name, .slice a3 r.rules.length c3] 69 (0, 0)) := by rw [hw5, hgb]; exact heap_alloc_new wr _
      have hb5 : Below wr.heap.size wr w5 := by rw [hw5]; exact (Below.refl _ _).alloc (Nat.le_refl _) _
      have hlt5 := Hbad.out.lt
      have hne5 : gb ≠ gc := by omega
      have hgs5 : gb < w5.heap.size := by rw [hw5, hgb]; simp
      have H5 := Lib.hid (Hbad.out.below hb5)
      have J := Lib.hid (Hbut.out.trans (But.of hb5))
      have K5 := Lib.hid (But.refl gc w5)
      have B5 := Lib.hid b5
      clear dd hw5 hgb b5 hb5 e0 e1 e2 Hbad
      have cc := fun i => cell_block B5.out i
      have dd := fun i => cell_block (J.out.keep B1.out hne) i
      go_wp2_with fail
      refine (space_any gc _ r.space w5 H5.out (by omega)).mono ?_
      rintro E w6 ⟨rfl, h1, h2⟩
      have H6 := Lib.hid h1
      have K6 := Lib.hid (K5.out.trans h2)
      clear cc dd h1 h2
      have cc := fun i => cell_block (K6.out.keep B5.out hne5) i
      have dd := fun i => cell_block (J.out.trans K6.out |>.keep B1.out hne) i
      go_wp2_with fail
      refine (check_any r.name w6 (by omega)).mono ?_
      rintro E w7 ⟨rfl, rfl⟩
      obtain ⟨cn, Hcn⟩ : ∃ cn, Hid (NameP.check r.name.data.toList = cn) := ⟨_, Lib.hid rfl⟩
      rw [Hcn.out]
      go_wp2_with fail
      refine (says_any gc _ cn w6 H6.out).mono ?_
      rintro E w7 ⟨rfl, h1, h2⟩
      have H7 := Lib.hid h1
      have K7 := Lib.hid (K6.out.trans h2)
      clear cc dd h1 h2
      have cc := fun i => cell_block (K7.out.keep B5.out hne5) i
      have dd := fun i => cell_block (J.out.trans K7.out |>.keep B1.out hne) i
      have hJ7 := J.out.trans K7.out
      have Hrow7 := Lib.hid (Htk.out.below stays_role (hJ7.below Hb1.out hs1 hgw2))
      have Hcap7 : Hid (CapRole gb r w7) := Lib.hid ⟨_, K7.out.keep B5.out hne5⟩
      obtain ⟨tw, Htw⟩ : ∃ tw, Hid ((x.roles.take i).any (fun q => sameRole q r) = tw) := ⟨_, Lib.hid rfl⟩
      clear hJ7
      go_wp2_with fail
      refine (anyRole_any (f := 81) (cap := .pointer (some ⟨gb, 0, none⟩)) (Cap := CapRole gb r) (p := fun q => sameRole q r) (run_callFunc_body Tryd.func81 (by kernel_rfl) (by kernel_rfl)) (capRole_keep gb r) (OK := fun _ => True) (fun q y2 w hq _ hc => cloRole_any gb r q y2 w hq hc) _ (x.roles.take i) w7 Hrow7.out (by rw [Hit.out]; omega) (fun _ _ => trivial) Hcap7.out).mono ?_
      rw [Htw.out]
      rintro E w8 ⟨rfl, hb8⟩
      have H8 := Lib.hid (H7.out.below hb8)
      have K8 := Lib.hid (K7.out.trans (But.of hb8))
      clear cc dd hb8 Hcap7 Hrow7
      have cc := fun i => cell_block (K8.out.keep B5.out hne5) i
      have dd := fun i => cell_block (J.out.trans K8.out |>.keep B1.out hne) i
      go_wp2_with fail
      refine (need_any gc _ (!tw) 5 w8 H8.out).mono ?_
      rintro E w9 ⟨rfl, h1, h2⟩
      have H9 := Lib.hid h1
      have K9 := Lib.hid (K8.out.trans h2)
      clear cc dd h1 h2
      have cc := fun i => cell_block (K9.out.keep B5.out hne5) i
      have dd := fun i => cell_block (J.out.trans K9.out |>.keep B1.out hne) i
      go_wp2_with fail
      refine (rules_any gc _ _ r.rules w w9 H9.out ((J.out.trans K9.out).below Hb1.out hs1 hgw2) hgw2 Hrr.out ok3 Hok4.out).mono ?_
      rintro E w10 ⟨rfl, h1, h2⟩
      have H10 := Lib.hid h1
      have K10 := Lib.hid (K9.out.trans h2)
      clear cc dd h1 h2
      have cc := fun i => cell_block (K10.out.keep B5.out hne5) i
      have dd := fun i => cell_block (J.out.trans K10.out |>.keep B1.out hne) i
      have Hlast : Hid (IsBad gc w10 (says (need sm 2) (firstBad ((rolesC x.roles).take (i + 1))))) := by
        have h9 := H10.out
        refine Lib.hid ?_
        rw [Hnext.out]
        unfold roleC
        rw [Htw.out, Hcn.out]
        simpa only [says_assoc] using h9
      have Hbut2 := Lib.hid (J.out.trans K10.out)
      clear cc dd
      go_wp2_with fail
      go_roundg k
      case measure => omega
      case rel => exact ⟨i + 1, by omega, by go_num, Hlast, Hbut2⟩
end Go.Proofs.YtkmonmdnmpbadaaDoor
namespace Go.Proofs.YtkmonmdnmpbadaaDoor
open Go.RowKit
def okUser (u : GUser) : Prop := u.name.size ≤ 1048576 ∧ okS u.groups
set_option maxRecDepth 100000 in
set_option maxHeartbeats 800000 in
theorem check3_any (yr yb yg : Value) (x : GGrants) (u : GUser) (s : ByteArray) (w : World) (h : GrantsR w [yr, yb] x) (hu : UserR w [.string u.name, yg] u) (hok : okGrants x) (hok2 : okUser u) (hs : s.size ≤ 1048576) :
    Calls Tryd.prog 31 #[.agg #[yr, yb], .agg #[.string u.name, yg], .string s] w fun e w' => e = .returned (.int .i64 (codeC x u s)) ∧ Below w.heap.size w w' := by
  have H := Lib.hid h
  have HU := Lib.hid hu
  obtain ⟨_, _, hcs, hr, hb⟩ := h
  simp only [List.cons.injEq, and_true] at hcs
  obtain ⟨rfl, rfl⟩ := hcs
  obtain ⟨a1, c1, rfl, hc1, _⟩ := hr.len
  obtain ⟨a2, c2, rfl, hc2, _⟩ := hb.len
  obtain ⟨_, hcs, hg⟩ := hu
  simp only [List.cons.injEq, and_true, true_and] at hcs
  obtain rfl := hcs
  obtain ⟨a3, c3, rfl, hc3, _⟩ := hg.row.len
  have Hok := Lib.hid hok
  have Hok2 := Lib.hid hok2
  obtain ⟨nr, Hnr⟩ : ∃ n, Hid (x.roles.length = n) := ⟨_, Lib.hid rfl⟩
  obtain ⟨nb, Hnb⟩ : ∃ n, Hid (x.binds.length = n) := ⟨_, Lib.hid rfl⟩
  obtain ⟨ng, Hng⟩ : ∃ n, Hid (u.groups.length = n) := ⟨_, Lib.hid rfl⟩
  obtain ⟨R, HR⟩ : ∃ R, Hid (codeC x u s = R) := ⟨_, Lib.hid rfl⟩
  have Hres : Hid (says (says (grantsC x) (userC u)) (spaceC s) = R) := by show _ = _; rw [← HR.out, says_assoc]; rfl
  rw [HR.out]
  rw [Hnr.out] at H hc1 ⊢
  rw [Hnb.out] at H hc2 ⊢
  rw [Hng.out] at HU hc3 ⊢
  clear hr hb hg hok hok2
  go_enter Tryd.func31, Tryd.ntmps31
  go_upto_region 2 with fail
  obtain ⟨w1, hw1⟩ : ∃ w1, w1 = ((w.alloc (.cells #[.slice a1 nr c1, .slice a2 nb c2] 40)).alloc (.cells #[.string u.name, .slice a3 ng c3] 42)).alloc (.cells #[.int .i64 0] 86) := ⟨_, rfl⟩
  obtain ⟨gc, hgc⟩ : ∃ gc, gc = w.heap.size + 2 := ⟨_, rfl⟩
  obtain ⟨gu, hgu⟩ : ∃ gu, gu = w.heap.size + 1 := ⟨_, rfl⟩
  obtain ⟨gx, hgx⟩ : ∃ gx, gx = w.heap.size := ⟨_, rfl⟩
  rw [← hw1]
  try rw [← hgc]
  try rw [← hgu]
  rw [← hgx]
  have b1 : w1.heap[gx]? = some (.cells #[.slice a1 nr c1, .slice a2 nb c2] 40 (0, 0)) := by
    rw [hw1, hgx]
    exact below_block ((Below.refl _ _).alloc (Nat.le_refl _) _) (below_block ((Below.refl _ _).alloc (Nat.le_refl _) _) (heap_alloc_new w _))
  have b2 : w1.heap[gu]? = some (.cells #[.string u.name, .slice a3 ng c3] 42 (0, 0)) := by
    rw [hw1, hgu]
    have h9 := heap_alloc_new (w.alloc (.cells #[.slice a1 nr c1, .slice a2 nb c2] 40)) (.cells #[.string u.name, .slice a3 ng c3] 42)
    exact below_block ((Below.refl _ _).alloc (Nat.le_refl _) _) (by simpa using h9)
  have h1 : IsBad gc w1 0 := by
    have h9 := heap_alloc_new ((w.alloc (.cells #[.slice a1 nr c1, .slice a2 nb c2] 40)).alloc (.cells #[.string u.name, .slice a3 ng c3] 42)) (.cells #[.int .i64 0] 86)
    rw [hw1, hgc]
    simpa [IsBad] using h9
  have hb1 : Below w.heap.size w w1 := by rw [hw1]; exact (((Below.refl _ _).alloc (Nat.le_refl _) _).alloc (by simp) _).alloc (by simp; omega) _
  have hne : gx ≠ gc := by omega
  have hne2 : gu ≠ gc := by omega
  have hgw2 : w.heap.size ≤ gc := by omega
  have hs1 := hb1.size
  have Hb1 := Lib.hid hb1
  have H1 := Lib.hid h1
  have B1 := Lib.hid b1
  have B2 := Lib.hid b2
  have cc := fun i => cell_block b1 i
  have dd := fun i => cell_block b2 i
  clear hw1 hgc hgu hgx b1 b2 h1 hb1
  go_wp2_with fail
  refine (grantsCheck_any _ _ x w1 (stays_grants _ _ _ _ (keeps_below Hb1.out) H.out) Hok.out).mono ?_
  rintro E w2 ⟨rfl, hb2⟩
  obtain ⟨cg, Hcg⟩ : ∃ cg, Hid (grantsC x = cg) := ⟨_, Lib.hid rfl⟩
  rw [Hcg.out]
  rw [Hcg.out] at Hres
  have K2 := Lib.hid (But.of (g := gc) hb2)
  have H2 := Lib.hid (H1.out.below hb2)
  clear cc dd hb2
  have cc := fun i => cell_block (K2.out.keep B1.out hne) i
  have dd := fun i => cell_block (K2.out.keep B2.out hne2) i
  go_wp2_with fail
  refine (says_any gc 0 cg w2 H2.out).mono ?_
  rintro E w3 ⟨rfl, h1, h2⟩
  rw [zero_says] at h1
  have H3 := Lib.hid h1
  have K3 := Lib.hid (K2.out.trans h2)
  have hb3 := Lib.hid (K3.out.below Hb1.out hs1 hgw2)
  clear cc dd h1 h2
  have cc := fun i => cell_block (K3.out.keep B1.out hne) i
  have dd := fun i => cell_block (K3.out.keep B2.out hne2) i
  go_wp2_with fail
  refine (user_any _ u w3 (stays_user _ _ _ _ (keeps_below hb3.out) HU.out) Hok2.out.1 Hok2.out.2).mono ?_
  rintro E w4 ⟨rfl, hb4⟩
  obtain ⟨cu, Hcu⟩ : ∃ cu, Hid (userC u = cu) := ⟨_, Lib.hid rfl⟩
  rw [Hcu.out]
  rw [Hcu.out] at Hres
  have K4 := Lib.hid (K3.out.trans (But.of (g := gc) hb4))
  have H4 := Lib.hid (H3.out.below hb4)
  clear cc dd hb4
  go_wp2_with fail
  refine (says_any gc cg cu w4 H4.out).mono ?_
  rintro E w5 ⟨rfl, h1, h2⟩
  have H5 := Lib.hid h1
  have K5 := Lib.hid (K4.out.trans h2)
  clear h1 h2
  go_wp2_with fail
  refine (space_any gc _ s w5 H5.out (by omega)).mono ?_
  rintro E w6 ⟨rfl, h1, h2⟩
  rw [Hres.out] at h1
  have K6 := Lib.hid (K5.out.trans h2)
  have c6 : w6.cell? ⟨gc, 0, none⟩ = some (.int .i64 R) := cell_block h1 0
  clear h1 h2 H5 H4 H3 H2
  go_wp2_with fail
  go_ret
  exact ⟨rfl, K6.out.below Hb1.out hs1 hgw2⟩
theorem has_any (v : Value) (l : List ByteArray) (s : ByteArray) (w : World) (h : StrAt w v l) (hl : l.length ≤ 1073741824) : Calls Tryd.prog 91 #[v, .string s] w fun e w' => e = .returned (.bool (hasL l s)) ∧ w = w' := by
  obtain ⟨p, Hp⟩ : ∃ p, Hid (Lib.containsS l s = p) := ⟨_, Lib.hid rfl⟩
  obtain ⟨q, Hq⟩ : ∃ q, Hid (Lib.containsS l starB = q) := ⟨_, Lib.hid rfl⟩
  have Hr : Hid (hasL l s = (p || q)) := by show _ = _; unfold hasL; rw [Hp.out, Hq.out]
  have hst : starB = ⟨#[42]⟩ := by decide +kernel
  have H := Lib.hid h
  rw [Hr.out]
  rw [hst] at Hq
  clear h hst
  cases p with
  | true =>
    go_enter Tryd.func91, Tryd.ntmps91
    go_wp2_with fail
    refine (contains_any v l s w H.out hl).mono ?_
    rw [Hp.out]
    rintro E w1 ⟨rfl, rfl⟩
    go_wp2_with fail
    go_ret
    exact ⟨rfl, rfl⟩
  | false =>
    go_enter Tryd.func91, Tryd.ntmps91
    go_wp2_with fail
    refine (contains_any v l s w H.out hl).mono ?_
    rw [Hp.out]
    rintro E w1 ⟨rfl, rfl⟩
    go_wp2_with fail
    refine (contains_any v l _ w H.out hl).mono ?_
    rw [Hq.out]
    rintro E w1 ⟨rfl, rfl⟩
    go_wp2_with fail
    go_ret
    exact ⟨by simp, rfl⟩
set_option maxRecDepth 100000 in
set_option maxHeartbeats 800000 in
theorem allows_any (y0 y1 y2 : Value) (r : GRule) (a : GAsk) (w : World) (hr : RuleR w [y0, y1, y2] r) (hok : okRule r) :
    Calls Tryd.prog 66 #[.agg #[y0, y1, y2], .agg #[.string a.verb, .string a.kind, .string a.space, .string a.name]] w fun e w' => e = .returned (.bool (allowsR a r)) ∧ Below w.heap.size w w' := by
  obtain ⟨_, _, _, hcs, s0, s1, s2⟩ := hr
  simp only [List.cons.injEq, and_true] at hcs
  obtain ⟨rfl, rfl, rfl⟩ := hcs
  obtain ⟨a0, c0, rfl, _, _⟩ := s0.row.len
  obtain ⟨a1, c1, rfl, _, _⟩ := s1.row.len
  obtain ⟨a2, c2, rfl, _, _⟩ := s2.row.len
  have S0 := Lib.hid s0
  have S1 := Lib.hid s1
  have S2 := Lib.hid s2
  obtain ⟨⟨o0, _⟩, ⟨o1, _⟩, ⟨o2, _⟩⟩ := hok
  obtain ⟨nv, Hnv⟩ : ∃ n, Hid (r.verbs.length = n) := ⟨_, Lib.hid rfl⟩
  obtain ⟨nk, Hnk⟩ : ∃ n, Hid (r.kinds.length = n) := ⟨_, Lib.hid rfl⟩
  obtain ⟨nn, Hnn⟩ : ∃ n, Hid (r.names.length = n) := ⟨_, Lib.hid rfl⟩
  obtain ⟨p, Hp⟩ : ∃ p, Hid (hasL r.verbs a.verb = p) := ⟨_, Lib.hid rfl⟩
  obtain ⟨q, Hq⟩ : ∃ q, Hid (hasL r.kinds a.kind = q) := ⟨_, Lib.hid rfl⟩
  obtain ⟨t, Ht⟩ : ∃ t, Hid (Lib.containsS r.names a.name = t) := ⟨_, Lib.hid rfl⟩
  have Hr : Hid (allowsR a r = (p && (q && (decide (nn = 0) || (!eqB a.name ByteArray.empty && t))))) := by show _ = _; unfold allowsR; rw [Hp.out, Hq.out, Ht.out, Hnn.out]
  rw [Hr.out]
  rw [eqB_empty]
  rw [Hnv.out] at S0 ⊢
  rw [Hnk.out] at S1 ⊢
  rw [Hnn.out] at S2 ⊢
  obtain ⟨w1, hw1⟩ : ∃ w1, w1 = (w.alloc (.cells #[.slice a0 nv c0, .slice a1 nk c1, .slice a2 nn c2] 44)).alloc (.cells #[.string a.verb, .string a.kind, .string a.space, .string a.name] 51) := ⟨_, rfl⟩
  obtain ⟨ga, hga⟩ : ∃ ga, ga = w.heap.size + 1 := ⟨_, rfl⟩
  obtain ⟨gr, hgr⟩ : ∃ gr, gr = w.heap.size := ⟨_, rfl⟩
  have b1 : w1.heap[gr]? = some (.cells #[.slice a0 nv c0, .slice a1 nk c1, .slice a2 nn c2] 44 (0, 0)) := by
    rw [hw1, hgr]
    exact below_block ((Below.refl _ _).alloc (Nat.le_refl _) _) (heap_alloc_new w _)
  have b2 : w1.heap[ga]? = some (.cells #[.string a.verb, .string a.kind, .string a.space, .string a.name] 51 (0, 0)) := by
    have h9 := heap_alloc_new (w.alloc (.cells #[.slice a0 nv c0, .slice a1 nk c1, .slice a2 nn c2] 44)) (.cells #[.string a.verb, .string a.kind, .string a.space, .string a.name] 51)
    rw [hw1, hga]
    simpa using h9
  have hb1 : Below w.heap.size w w1 := by rw [hw1]; exact ((Below.refl _ _).alloc (Nat.le_refl _) _).alloc (by simp) _
  have Hb1 := Lib.hid hb1
  have S0' := Lib.hid (S0.out.below' hb1)
  have S1' := Lib.hid (S1.out.below' hb1)
  have S2' := Lib.hid (S2.out.below' hb1)
  have cc := fun i => cell_block b1 i
  have dd := fun i => cell_block b2 i
  clear s0 s1 s2 b1 b2 hb1 Hr
  cases p with
  | false =>
    go_enter Tryd.func66, Tryd.ntmps66
    go_upto_region 1 with fail
    rw [← hw1]
    try rw [← hga]
    rw [← hgr]
    clear hw1 hga hgr
    go_wp2_with fail
    refine (has_any _ r.verbs a.verb w1 S0'.out (by rw [Hnv.out] at o0; rw [Hnv.out]; omega)).mono ?_
    rw [Hp.out]
    rintro E w2 ⟨rfl, rfl⟩
    go_wp2_with fail
    go_ret
    exact ⟨rfl, Hb1.out⟩
  | true =>
    cases q with
    | false =>
      go_enter Tryd.func66, Tryd.ntmps66
      go_upto_region 1 with fail
      rw [← hw1]
      try rw [← hga]
      rw [← hgr]
      clear hw1 hga hgr
      go_wp2_with fail
      refine (has_any _ r.verbs a.verb w1 S0'.out (by omega)).mono ?_
      rw [Hp.out]
      rintro E w2 ⟨rfl, rfl⟩
      go_wp2_with fail
      refine (has_any _ r.kinds a.kind w1 S1'.out (by omega)).mono ?_
      rw [Hq.out]
      rintro E w2 ⟨rfl, rfl⟩
      go_wp2_with fail
      go_ret
      exact ⟨rfl, Hb1.out⟩
    | true =>
      by_cases h0 : nn = 0
      · subst h0
        go_enter Tryd.func66, Tryd.ntmps66
        go_upto_region 1 with fail
        rw [← hw1]
        try rw [← hga]
        rw [← hgr]
        clear hw1 hga hgr
        go_wp2_with fail
        refine (has_any _ r.verbs a.verb w1 S0'.out (by omega)).mono ?_
        rw [Hp.out]
        rintro E w2 ⟨rfl, rfl⟩
        go_wp2_with fail
        refine (has_any _ r.kinds a.kind w1 S1'.out (by omega)).mono ?_
        rw [Hq.out]
        rintro E w2 ⟨rfl, rfl⟩
        go_wp2_with fail
        go_ret
        exact ⟨rfl, Hb1.out⟩
      · have e0 : decide (nn = 0) = false := decide_eq_false h0
        have e1 : ((nn : Int) == 0) = false := by rw [beq_eq_false_iff_ne]; omega
        have Hz := Lib.hid h0
        rw [e0]
        clear h0 e0
        by_cases hn : a.name.size = 0
        · have p1 := str_none hn
          have p2 : a.name.toList.isEmpty = true := by rw [p1]; rfl
          rw [decide_eq_true hn]
          clear hn
          go_enter Tryd.func66, Tryd.ntmps66
          go_upto_region 1 with fail
          rw [← hw1]
          try rw [← hga]
          rw [← hgr]
          clear hw1 hga hgr
          go_wp2_with fail
          refine (has_any _ r.verbs a.verb w1 S0'.out (by omega)).mono ?_
          rw [Hp.out]
          rintro E w2 ⟨rfl, rfl⟩
          go_wp2_with fail
          refine (has_any _ r.kinds a.kind w1 S1'.out (by omega)).mono ?_
          rw [Hq.out]
          rintro E w2 ⟨rfl, rfl⟩
          go_wp2_with fail
          go_ret
          exact ⟨rfl, Hb1.out⟩
        · have p1 := str_some hn
          have p2 : a.name.toList.isEmpty = false := by simpa using p1
          rw [decide_eq_false hn]
          clear hn
          go_enter Tryd.func66, Tryd.ntmps66
          go_upto_region 1 with fail
          rw [← hw1]
          try rw [← hga]
          rw [← hgr]
          clear hw1 hga hgr
          go_wp2_with fail
          refine (has_any _ r.verbs a.verb w1 S0'.out (by omega)).mono ?_
          rw [Hp.out]
          rintro E w2 ⟨rfl, rfl⟩
          go_wp2_with fail
          refine (has_any _ r.kinds a.kind w1 S1'.out (by omega)).mono ?_
          rw [Hq.out]
          rintro E w2 ⟨rfl, rfl⟩
          go_wp2_with fail
          refine (contains_any _ r.names a.name w1 S2'.out (by omega)).mono ?_
          rw [Ht.out]
          rintro E w2 ⟨rfl, rfl⟩
          go_wp2_with fail
          go_ret
          exact ⟨by simp, Hb1.out⟩
end Go.Proofs.YtkmonmdnmpbadaaDoor
namespace Go.Proofs.YtkmonmdnmpbadaaDoor
open Go.RowKit
def CapAsk (ga : Nat) (a : GAsk) (w : World) : Prop := w.heap[ga]? = some (.cells #[.string a.verb, .string a.kind, .string a.space, .string a.name] 51 (0, 0))
set_option maxRecDepth 100000 in
theorem cloRule_any (ga : Nat) (a : GAsk) (x : GRule) (y0 y1 y2 : Value) (w : World) (h : RuleR w [y0, y1, y2] x) (hok : okRule x) (hc : CapAsk ga a w) :
    Calls Tryd.prog 65 #[.agg #[y0, y1, y2], .pointer (some ⟨ga, 0, none⟩)] w fun e w' => e = .returned (.bool (allowsR a x)) ∧ Below w.heap.size w w' := by
  have H := Lib.hid h
  obtain ⟨_, _, _, hcs, s0, s1, s2⟩ := h
  simp only [List.cons.injEq, and_true] at hcs
  obtain ⟨rfl, rfl, rfl⟩ := hcs
  obtain ⟨a0, c0, rfl, _, _⟩ := s0.row.len
  obtain ⟨a1, c1, rfl, _, _⟩ := s1.row.len
  obtain ⟨a2, c2, rfl, _, _⟩ := s2.row.len
  have Hok := Lib.hid hok
  obtain ⟨nv, Hnv⟩ : ∃ n, Hid (x.verbs.length = n) := ⟨_, Lib.hid rfl⟩
  obtain ⟨nk, Hnk⟩ : ∃ n, Hid (x.kinds.length = n) := ⟨_, Lib.hid rfl⟩
  obtain ⟨nn, Hnn⟩ : ∃ n, Hid (x.names.length = n) := ⟨_, Lib.hid rfl⟩
  rw [Hnv.out, Hnk.out, Hnn.out] at H ⊢
  obtain ⟨R, HR⟩ : ∃ R, Hid (allowsR a x = R) := ⟨_, Lib.hid rfl⟩
  rw [HR.out]
  have hc' : w.heap[ga]? = some (.cells #[.string a.verb, .string a.kind, .string a.space, .string a.name] 51 (0, 0)) := hc
  have hga : ga < w.heap.size := by
    rcases Nat.lt_or_ge ga w.heap.size with h2 | h2
    · exact h2
    · rw [Array.getElem?_eq_none h2] at hc'; cases hc'
  have cc := fun i => cell_block hc' i
  have Hal : ∀ o : Obj, Hid (Below w.heap.size w (w.alloc o)) := fun o => Lib.hid ((Below.refl _ _).alloc (Nat.le_refl _) o)
  clear hok hc hc' s0 s1 s2
  go_enter Tryd.func65, Tryd.ntmps65
  go_wp2_with fail
  refine (allows_any _ _ _ x a _ (stays_rule _ _ _ _ (keeps_below (Hal _).out) H.out) Hok.out).mono ?_
  rw [HR.out]
  rintro E w2 ⟨rfl, hb⟩
  have Hb := Lib.hid ((Hal _).out.trans (hb.mono (by simp)))
  clear hb
  go_wp2_with fail
  go_ret
  exact ⟨rfl, Hb.out⟩
set_option maxRecDepth 100000 in
theorem allowsAll_any (v : Value) (l : List GRule) (a : GAsk) (w : World) (h : RowAt RuleR 3 w v l) (hl : l.length ≤ 1073741824) (hok : ∀ r ∈ l, okRule r) :
    Calls Tryd.prog 41 #[v, .agg #[.string a.verb, .string a.kind, .string a.space, .string a.name]] w fun e w' => e = .returned (.bool (allowsL l a)) ∧ Below w.heap.size w w' := by
  have H := Lib.hid h
  have Hok := Lib.hid hok
  obtain ⟨R, HR⟩ : ∃ R, Hid (allowsL l a = R) := ⟨_, Lib.hid rfl⟩
  have HR2 : Hid (l.any (allowsR a) = R) := HR
  rw [HR.out]
  have Hal : ∀ o : Obj, Hid (Below w.heap.size w (w.alloc o)) := fun o => Lib.hid ((Below.refl _ _).alloc (Nat.le_refl _) o)
  clear h hok
  go_enter Tryd.func41, Tryd.ntmps41
  go_wp2_with fail
  refine (anyRule_any (f := 65) (cap := .pointer (some ⟨w.heap.size, 0, none⟩)) (Cap := CapAsk w.heap.size a) (p := allowsR a) (OK := okRule) (run_callFunc_body Tryd.func65 (by kernel_rfl) (by kernel_rfl)) (fun w1 w2 h hb => below_block hb h) (fun x y0 y1 y2 w1 hx ho hc => cloRule_any w.heap.size a x y0 y1 y2 w1 hx ho hc) v l (w.alloc (.cells #[.string a.verb, .string a.kind, .string a.space, .string a.name] 51)) (H.out.below stays_rule (Hal _).out) hl Hok.out (heap_alloc_new w _)).mono ?_
  rw [HR2.out]
  rintro E w2 ⟨rfl, hb⟩
  have Hb := Lib.hid ((Hal _).out.trans (hb.mono (by simp)))
  clear hb
  go_wp2_with fail
  go_ret
  exact ⟨rfl, Hb.out⟩
/-- a binding lies there -/
def CapBd (gb : Nat) (b : GBind) (w : World) : Prop := ∃ y4 y5 : Value, w.heap[gb]? = some (.cells #[.string b.space, .string b.name, .string b.role, .bool b.whole, y4, y5] 71 (0, 0)) ∧ StrAt w y5 b.groups
theorem capBd_keep (gb : Nat) (b : GBind) (w w' : World) (h : CapBd gb b w) (hb : Below w.heap.size w w') : CapBd gb b w' := by
  obtain ⟨y4, y5, h1, h2⟩ := h
  exact ⟨y4, y5, below_block hb h1, h2.below' hb⟩
set_option maxRecDepth 100000 in
theorem cloGroup_any (gb : Nat) (b : GBind) (s : ByteArray) (w : World) (hl : b.groups.length ≤ 1073741824) (hc : CapBd gb b w) :
    Calls Tryd.prog 86 #[.string s, .pointer (some ⟨gb, 0, none⟩)] w fun e w' => e = .returned (.bool (Lib.containsS b.groups s)) ∧ Below w.heap.size w w' := by
  obtain ⟨y4, y5, h1, h2⟩ := hc
  have hgb : gb < w.heap.size := by
    rcases Nat.lt_or_ge gb w.heap.size with h3 | h3
    · exact h3
    · rw [Array.getElem?_eq_none h3] at h1; cases h1
  have cc := fun i => cell_block h1 i
  have H2 := Lib.hid h2
  obtain ⟨R, HR⟩ : ∃ R, Hid (Lib.containsS b.groups s = R) := ⟨_, Lib.hid rfl⟩
  rw [HR.out]
  clear h1 h2
  go_enter Tryd.func86, Tryd.ntmps86
  go_wp2_with fail
  refine (contains_any y5 b.groups s w H2.out hl).mono ?_
  rw [HR.out]
  rintro E w2 ⟨rfl, rfl⟩
  go_wp2_with fail
  go_ret
  exact ⟨rfl, Below.refl _ _⟩
set_option maxRecDepth 100000 in
set_option maxHeartbeats 800000 in
theorem isFor_any (y4 y5 yg : Value) (b : GBind) (u : GUser) (w : World) (h : BindR w [.string b.space, .string b.name, .string b.role, .bool b.whole, y4, y5] b) (hu : UserR w [.string u.name, yg] u) (hok : okBind b) (hok2 : okUser u) :
    Calls Tryd.prog 58 #[.agg #[.string b.space, .string b.name, .string b.role, .bool b.whole, y4, y5], .agg #[.string u.name, yg]] w fun e w' => e = .returned (.bool (isForB b u)) ∧ Below w.heap.size w w' := by
  obtain ⟨_, _, hcs, s4, s5⟩ := h
  simp only [List.cons.injEq, and_true, true_and] at hcs
  obtain ⟨rfl, rfl⟩ := hcs
  obtain ⟨_, hcs, sg⟩ := hu
  simp only [List.cons.injEq, and_true, true_and] at hcs
  obtain rfl := hcs
  obtain ⟨a4, c4, rfl, _, _⟩ := s4.row.len
  obtain ⟨a5, c5, rfl, _, _⟩ := s5.row.len
  obtain ⟨ag, cg, rfl, _, _⟩ := sg.row.len
  have S4 := Lib.hid s4
  have S5 := Lib.hid s5
  have Sg := Lib.hid sg
  obtain ⟨_, _, _, ⟨o4, _⟩, ⟨o5, _⟩⟩ := hok
  obtain ⟨_, ⟨og, _⟩⟩ := hok2
  obtain ⟨nu, Hnu⟩ : ∃ n, Hid (b.users.length = n) := ⟨_, Lib.hid rfl⟩
  obtain ⟨nb, Hnb⟩ : ∃ n, Hid (b.groups.length = n) := ⟨_, Lib.hid rfl⟩
  obtain ⟨ng, Hng⟩ : ∃ n, Hid (u.groups.length = n) := ⟨_, Lib.hid rfl⟩
  obtain ⟨p, Hp⟩ : ∃ p, Hid (Lib.containsS b.users u.name = p) := ⟨_, Lib.hid rfl⟩
  obtain ⟨q, Hq⟩ : ∃ q, Hid ((u.groups.any fun g => Lib.containsS b.groups g) = q) := ⟨_, Lib.hid rfl⟩
  have Hr : Hid (isForB b u = (p || q)) := by show _ = _; unfold isForB; rw [Hp.out, Hq.out]
  rw [Hr.out]
  rw [Hnu.out] at S4 o4 ⊢
  rw [Hnb.out] at S5 ⊢
  rw [Hng.out] at Sg og ⊢
  obtain ⟨w1, hw1⟩ : ∃ w1, w1 = (w.alloc (.cells #[.string b.space, .string b.name, .string b.role, .bool b.whole, .slice a4 nu c4, .slice a5 nb c5] 71)).alloc (.cells #[.string u.name, .slice ag ng cg] 42) := ⟨_, rfl⟩
  obtain ⟨gu, hgu⟩ : ∃ gu, gu = w.heap.size + 1 := ⟨_, rfl⟩
  obtain ⟨gb, hgb⟩ : ∃ gb, gb = w.heap.size := ⟨_, rfl⟩
  have b1 : w1.heap[gb]? = some (.cells #[.string b.space, .string b.name, .string b.role, .bool b.whole, .slice a4 nu c4, .slice a5 nb c5] 71 (0, 0)) := by
    rw [hw1, hgb]
    exact below_block ((Below.refl _ _).alloc (Nat.le_refl _) _) (heap_alloc_new w _)
  have b2 : w1.heap[gu]? = some (.cells #[.string u.name, .slice ag ng cg] 42 (0, 0)) := by
    have h9 := heap_alloc_new (w.alloc (.cells #[.string b.space, .string b.name, .string b.role, .bool b.whole, .slice a4 nu c4, .slice a5 nb c5] 71)) (.cells #[.string u.name, .slice ag ng cg] 42)
    rw [hw1, hgu]
    simpa using h9
  have hb1 : Below w.heap.size w w1 := by rw [hw1]; exact ((Below.refl _ _).alloc (Nat.le_refl _) _).alloc (by simp) _
  have hs1 := hb1.size
  have Hb1 := Lib.hid hb1
  have S4' := Lib.hid (S4.out.below' hb1)
  have Sg' := Lib.hid (Sg.out.row.below stays_string hb1)
  have Hcap : Hid (CapBd gb b w1) := Lib.hid ⟨_, _, b1, S5.out.below' hb1⟩
  have cc := fun i => cell_block b1 i
  have dd := fun i => cell_block b2 i
  clear s4 s5 sg b1 b2 hb1 Hr
  cases p with
  | true =>
    go_enter Tryd.func58, Tryd.ntmps58
    go_upto_region 1 with fail
    rw [← hw1]
    try rw [← hgu]
    rw [← hgb]
    clear hw1 hgu hgb
    go_wp2_with fail
    refine (contains_any _ b.users u.name w1 S4'.out (by rw [Hnu.out]; omega)).mono ?_
    rw [Hp.out]
    rintro E w2 ⟨rfl, rfl⟩
    go_wp2_with fail
    go_ret
    exact ⟨rfl, Hb1.out⟩
  | false =>
    go_enter Tryd.func58, Tryd.ntmps58
    go_upto_region 1 with fail
    rw [← hw1]
    try rw [← hgu]
    rw [← hgb]
    clear hw1 hgu hgb
    go_wp2_with fail
    refine (contains_any _ b.users u.name w1 S4'.out (by rw [Hnu.out]; omega)).mono ?_
    rw [Hp.out]
    rintro E w2 ⟨rfl, rfl⟩
    go_wp2_with fail
    refine (anyStr_any (f := 86) (cap := .pointer (some ⟨gb, 0, none⟩)) (Cap := CapBd gb b) (p := fun g => Lib.containsS b.groups g) (OK := fun _ => True) (run_callFunc_body Tryd.func86 (by kernel_rfl) (by kernel_rfl)) (capBd_keep gb b) (fun x w1 _ _ hc => cloGroup_any gb b x w1 (by omega) hc) _ u.groups w1 Sg'.out (by rw [Hng.out]; omega) (fun _ _ => trivial) Hcap.out).mono ?_
    rw [Hq.out]
    rintro E w2 ⟨rfl, hb⟩
    have Hb := Lib.hid (Hb1.out.trans (hb.mono hs1))
    clear hb
    go_wp2_with fail
    go_ret
    exact ⟨by simp, Hb.out⟩
end Go.Proofs.YtkmonmdnmpbadaaDoor
namespace Go.Proofs.YtkmonmdnmpbadaaDoor
open Go.RowKit
/-- blocks of every element type but e stay -/
def SameBut (e : TypeId) (w w' : World) : Prop := ∀ (b : Nat) (cs : Array Value) (t : TypeId) (fr : Nat × Nat), w.heap[b]? = some (.cells cs t fr) → t ≠ e → w'.heap[b]? = some (.cells cs t fr)
theorem sameBut_below {e : TypeId} {w w' : World} (h : Below w.heap.size w w') : SameBut e w w' := fun _ _ _ _ hb _ => below_block h hb
theorem SameBut.trans {e : TypeId} {a b c : World} (h : SameBut e a b) (k : SameBut e b c) : SameBut e a c := fun q cs t fr hq ht => k q cs t fr (h q cs t fr hq ht) ht
/-- a reading that does not look into blocks of type e -/
def StaysX {α : Type} (e : TypeId) (R : Rd α) : Prop := ∀ w w' cs x, SameBut e w w' → R w cs x → R w' cs x
/-- the reading at a world that is kept in mind -/
def AtW {α : Type} (w0 : World) (R : Rd α) : Rd α := fun _ cs x => R w0 cs x
theorem flat_atW {α : Type} (w0 : World) (R : Rd α) : Flat (AtW w0 R) := fun _ _ _ _ h => h
theorem one_atW {α : Type} {R : Rd α} (w0 : World) (h : OneR R) : OneR (AtW w0 R) := fun _ cs x hx u hu => h w0 cs x hx u hu
theorem RowAt.atW {α : Type} {R : Rd α} {k : Nat} {w w' : World} {v : Value} {l : List α} (h : RowAt R k w v l) (hb : Below w.heap.size w w') : RowAt (AtW w R) k w' v l := by
  rcases h with h | ⟨a, c, h1, h2, h3, h4⟩
  · exact .inl h
  · exact .inr ⟨a, c, h1, h2, h3, fun j x hx => by
      obtain ⟨cs, g1, g2, g3⟩ := h4 j x hx
      exact ⟨cs, g1, fun i u hu => keeps_below hb _ _ (g2 i u hu), g3⟩⟩
theorem RowAt.ofW {α : Type} {R : Rd α} {k : Nat} {w w' : World} {v : Value} {l : List α} (hs : Stays R) (h : RowAt (AtW w R) k w' v l) (hb : Below w.heap.size w w') : RowAt R k w' v l := by
  rcases h with h | ⟨a, c, h1, h2, h3, h4⟩
  · exact .inl h
  · exact .inr ⟨a, c, h1, h2, h3, fun j x hx => by
      obtain ⟨cs, g1, g2, g3⟩ := h4 j x hx
      exact ⟨cs, g1, g2, hs _ _ _ _ (keeps_below hb) g3⟩⟩
section
variable {α : Type} {R : Rd α} {k : Nat} {w w' : World} {v : Value} {l m : List α} {B : Nat} {e : TypeId}
theorem OwnAt.sameBut (h : OwnAt R k w B e v l) (hg : w.grownBy w' v.ownBlock) : SameBut e w w' := fun b cs t fr hb ht => by
  have hlt : b < w.heap.size := by
    rcases Nat.lt_or_ge b w.heap.size with h1 | h1
    · exact h1
    · rw [Array.getElem?_eq_none h1] at hb; cases hb
  refine (hg.block b hlt fun hv => ?_).trans hb
  obtain ⟨_, _, cur, hc⟩ := h.at hv.symm
  rw [hb] at hc
  cases hc
  exact ht rfl
theorem OwnAt.belowX (hs : StaysX e R) (h : OwnAt R k w B e v l) (hb : Below w.heap.size w w') : OwnAt R k w' B e v l := by
  obtain ⟨css, h1, h2, h3, h4⟩ := h
  exact ⟨css, h1, h2, own_below' h3 hb, fun j cs y hcs hy => hs _ _ _ _ (sameBut_below hb) (h4 j cs y hcs hy)⟩
end
section
variable {P : Program} {α : Type} {R : Rd α} {k : Nat} {l m : List α} {B : Nat} {e : TypeId}
theorem run_append_ownAtX (w : World) (t ty : TypeId) (i : TypeInfo) (z : Value) (bytes : Nat) (ht : P.underlying t = some (.slice e)) (hi : P.info? e = some i) (hz : i.zero = some z) (hsize : i.size = k) (hby : i.bytes = bytes)
    (hzs : z.cells.size = k) (hsz : 0 < k) (hf : StaysX e R) (h1 : OneR R) (v : Value) (hv : OwnAt R k w B e v l) (x : Value) (hx : RowAt R k w x m) (hlen : l.length + m.length ≤ maxLen)
    (hbytes : (l.length + m.length) * bytes ≤ 140737488355328) (hbase : B ≤ w.heap.size) :
    ∃ v' w', (Builtin.append_ #[t, t] ty #[v, x]).run P w = .ok v' w' ∧ OwnAt R k w' B e v' (l ++ m) ∧ w.grownBy w' v.ownBlock ∧ (∀ g, v.ownBlock = some g → B ≤ g) ∧ (v'.ownBlock = v.ownBlock ∨ v'.ownBlock = some w.heap.size) := by
  have hv0 := hv
  obtain ⟨css, c1, c2, c3, c4⟩ := hv
  rcases hx with ⟨rfl, rfl⟩ | ⟨a, c, rfl, hc1, hc2, hc3⟩
  · exact ⟨v, w, run_append_owned_none (P := P) w B t ty e i k ht hi v _ _ c3, ⟨css, by simpa using c1, c2, by simpa using c3, fun j cs y hcs hy => c4 j cs y hcs (by simpa using hy)⟩, World.grownBy.refl w _, fun g hg => (c3.lt g hg).1, .inl rfl⟩
  · obtain ⟨_, ds, d1, d2, d3, d4⟩ := RowAt.cells (R := R) (k := k) (w := w) (l := m) (.inr ⟨a, c, rfl, hc1, hc2, hc3⟩) rfl
    have d6 : ∀ u ∈ ds.flatten, u.oneCell' = true := fun u hu => by
      obtain ⟨cs, hcs, hu'⟩ := List.mem_flatten.1 hu
      obtain ⟨j, hj, rfl⟩ := List.getElem_of_mem hcs
      exact h1 w _ m[j] (d4 j _ _ (List.getElem?_eq_getElem hj) (List.getElem?_eq_getElem (by omega))) u hu'
    obtain ⟨v', w', hrun, r1, r2, _, r4⟩ := run_append_own_at (P := P) w B t ty e i z k bytes ht hi hz hsize hby hzs hsz v l.length css.flatten c3 a m.length c ds.flatten (by rw [flat_len d2, d1]) d3 d6 hlen hbytes hbase
    have hsm := hv0.sameBut r2
    refine ⟨v', w', hrun, ⟨css ++ ds, by simp [c1, d1], fun cs hcs => (List.mem_append.1 hcs).elim (c2 cs) (d2 cs), by rw [List.flatten_append, List.length_append]; exact r1, fun j cs y hcs hy => ?_⟩, r2, fun g hg => (c3.lt g hg).1, r4⟩
    by_cases hj : j < l.length
    · rw [List.getElem?_append_left (by omega)] at hcs hy
      exact hf _ _ _ _ hsm (c4 j cs y hcs hy)
    · rw [List.getElem?_append_right (by omega)] at hcs hy
      rw [c1] at hcs
      exact hf _ _ _ _ hsm (d4 _ cs y hcs hy)
theorem wpList_append_ownAtX (w : World) {ops : Array Oper} {rest : List Oper} {o : Oper} {a : Act} {Q : Exit → Act → World → Prop} (hg : o.guard = none) (s x : Operand) (t : TypeId)
    (ho : o.op = .call { callee := .builtin .append, args := #[s, x], argTypes := #[t, t] })
    (i : TypeInfo) (z : Value) (bytes : Nat) (ht : P.underlying t = some (.slice e)) (hi : P.info? e = some i) (hz : i.zero = some z) (hsize : i.size = k) (hby : i.bytes = bytes) (hzs : z.cells.size = k) (hsz : 0 < k) (hf : StaysX e R) (h1 : OneR R)
    (v : Value) (hs : a.eval s = v) (hv : OwnAt R k w B e v l) (xv : Value) (hxv : a.eval x = xv) (hx : RowAt R k w xv m) (hlen : l.length + m.length ≤ maxLen)
    (hbytes : (l.length + m.length) * bytes ≤ 140737488355328) (hbase : B ≤ w.heap.size)
    (h : ∀ v' w', OwnAt R k w' B e v' (l ++ m) → w.grownBy w' v.ownBlock → (∀ g, v.ownBlock = some g → B ≤ g) → (v'.ownBlock = v.ownBlock ∨ v'.ownBlock = some w.heap.size) → wpList P ops Q rest (a.put o.dst v') w') : wpList P ops Q (o :: rest) a w := by
  refine wpList_plain hg fun K hK' => ?_
  obtain ⟨v', w', hrun, r1, r2, r3, r4⟩ := run_append_ownAtX w t o.type i z bytes ht hi hz hsize hby hzs hsz hf h1 v hv xv hx hlen hbytes hbase
  unfold Oper.wp
  simp [execOp, ho, resolve, invoke, builtin, hs, hxv, hrun, Result.andThen]
  exact hK' _ _ (h v' w' r1 r2 r3 r4)
end
/-- texts that lie in blocks of another type than e -/
def StrX (e : TypeId) (w : World) (v : Value) (l : List ByteArray) : Prop := StrAt w v l ∧ (0 < l.length → ∃ (b o n c : Nat) (cs : Array Value) (t : TypeId) (fr : Nat × Nat), v = .slice (some ⟨b, o, none⟩) n c ∧ w.heap[b]? = some (.cells cs t fr) ∧ t ≠ e)
theorem StrX.stays {e : TypeId} {w w' : World} {v : Value} {l : List ByteArray} (h : StrX e w v l) (hs : SameBut e w w') : StrX e w' v l := by
  obtain ⟨h1, h2⟩ := h
  refine ⟨?_, fun hl => ?_⟩
  · rcases h1 with h3 | ⟨a, c, rfl, h3, h4, h5⟩
    · exact .inl h3
    · refine .inr ⟨a, c, rfl, h3, h4, fun j x hx => ?_⟩
      have hl : 0 < l.length := by have := (List.getElem?_eq_some_iff.1 hx).1; omega
      obtain ⟨b, o, n, c', cs, t, fr, hv, hb, ht⟩ := h2 hl
      cases hv
      have h6 := h5 j x hx
      have hb' := hs b cs t fr hb ht
      rw [add_plain'] at h6 ⊢
      rw [World.cell?_of_block (a := ⟨b, o + j, none⟩) (w := w) (w' := w') (by show w'.heap[b]? = w.heap[b]?; rw [hb, hb'])]
      exact h6
  · obtain ⟨b, o, n, c', cs, t, fr, hv, hb, ht⟩ := h2 hl
    exact ⟨b, o, n, c', cs, t, fr, hv, hs b cs t fr hb ht, ht⟩
end Go.Proofs.YtkmonmdnmpbadaaDoor
namespace Go.Proofs.YtkmonmdnmpbadaaDoor
open Go.RowKit
theorem strAt_one {w : World} {v : Value} {l : List ByteArray} (h : StrAt w v l) : v.oneCell' = true := by
  rcases h with ⟨rfl, _⟩ | ⟨a, c, rfl, _⟩ <;> rfl
theorem one_rule : OneR RuleR := fun _ _ _ ⟨_, _, _, hcs, s0, s1, s2⟩ u hu => by
  subst hcs
  simp at hu
  rcases hu with rfl | rfl | rfl
  · exact strAt_one s0
  · exact strAt_one s1
  · exact strAt_one s2
theorem Tryd.infoRule : (Tryd.prog.info? 44).map (fun i => (i.zero, i.size, i.bytes)) = some (some (.agg #[.slice none 0 0, .slice none 0 0, .slice none 0 0]), 3, 72) := by kernel_rfl
/-- not many -/
def fewGrants (x : GGrants) : Prop := x.roles.length ≤ 12 ∧ x.binds.length ≤ 12 ∧ ∀ r ∈ x.roles, r.rules.length ≤ 8
theorem flatMap_len {α β : Type} (f : α → List β) (K : Nat) : ∀ {l : List α}, (∀ x ∈ l, (f x).length ≤ K) → (l.flatMap f).length ≤ l.length * K
  | [], _ => by simp
  | x :: r, h => by
    have h1 := h x (List.mem_cons_self ..)
    have h2 := flatMap_len f K (l := r) fun y hy => h y (List.mem_cons_of_mem _ hy)
    rw [List.flatMap_cons, List.length_append, List.length_cons, Nat.add_mul]
    omega
theorem rulesOf_len {x : GGrants} (h : fewGrants x) (b : GBind) : ∀ r ∈ x.roles, (rulesOf b r).length ≤ 8 := fun r hr => by
  unfold rulesOf
  split
  · exact h.2.2 r hr
  · simp
theorem bindRules_len {x : GGrants} (h : fewGrants x) (u : GUser) (s : ByteArray) (b : GBind) : (bindRules x u s b).length ≤ 96 := by
  unfold bindRules
  split
  · have := flatMap_len (rulesOf b) 8 (rulesOf_len h b)
    have := h.1
    omega
  · simp
theorem few_of_ok {x : GGrants} (h : grantsC x = 0) : fewGrants x := by
  unfold grantsC at h
  rw [says_eq_zero, says_eq_zero] at h
  obtain ⟨h1, h2, _⟩ := h
  have h3 : x.roles.length ≤ 12 ∧ x.binds.length ≤ 12 := by
    unfold need at h1
    split at h1
    · rename_i h4; simpa using h4
    · cases h1
  refine ⟨h3.1, h3.2, fun r hr => ?_⟩
  obtain ⟨i, hi⟩ := List.getElem?_of_mem hr
  rw [firstBad_zero] at h2
  have h4 := h2 (roleC (x.roles.take i) r) (List.mem_of_getElem? (i := i) (by unfold rolesC; rw [List.getElem?_mapIdx, hi]; rfl))
  unfold roleC rulesC at h4
  simp only [says_eq_zero] at h4
  obtain ⟨_, _, _, h5, _⟩ := h4
  unfold need at h5
  split at h5
  · rename_i h6; simpa using h6
  · cases h5
set_option maxRecDepth 100000 in
set_option maxHeartbeats 1600000 in
theorem held_any (yr yb yg : Value) (x : GGrants) (u : GUser) (s : ByteArray) (w : World) (h : GrantsR w [yr, yb] x) (hu : UserR w [.string u.name, yg] u) (hok : okGrants x) (hok2 : okUser u) (hfew : fewGrants x) :
    Calls Tryd.prog 33 #[.agg #[yr, yb], .agg #[.string u.name, yg], .string s] w fun e w' => ∃ v', e = .returned v' ∧ OwnAt (AtW w RuleR) 3 w' w.heap.size 44 v' (heldL x u s) ∧ Below w.heap.size w w' := by
  have HU := Lib.hid hu
  obtain ⟨_, _, hcs, hr, hb⟩ := h
  simp only [List.cons.injEq, and_true] at hcs
  obtain ⟨rfl, rfl⟩ := hcs
  obtain ⟨a1, c1, rfl, hc1, _⟩ := hr.len
  obtain ⟨a2, c2, rfl, hc2, _⟩ := hb.len
  obtain ⟨_, hcs, hg⟩ := hu
  simp only [List.cons.injEq, and_true, true_and] at hcs
  obtain rfl := hcs
  obtain ⟨a3, c3, rfl, hc3, _⟩ := hg.row.len
  obtain ⟨okr, okrs, okb, okbs⟩ := hok
  have Hr := Lib.hid hr
  have Hb := Lib.hid hb
  have Hokr := Lib.hid okrs
  have Hokb := Lib.hid okbs
  have Hok2 := Lib.hid hok2
  have Hfew := Lib.hid hfew
  obtain ⟨nr, Hnr⟩ : ∃ n, Hid (x.roles.length = n) := ⟨_, Lib.hid rfl⟩
  obtain ⟨nb, Hnb⟩ : ∃ n, Hid (x.binds.length = n) := ⟨_, Lib.hid rfl⟩
  obtain ⟨ng, Hng⟩ : ∃ n, Hid (u.groups.length = n) := ⟨_, Lib.hid rfl⟩
  obtain ⟨i0, hi0, hz0, hz1, hz2⟩ := info_parts Tryd.infoRule
  have hnr12 : nr ≤ 12 := by rw [← Hnr.out]; exact hfew.1
  have hnb12 : nb ≤ 12 := by rw [← Hnb.out]; exact hfew.2.1
  rw [Hnr.out] at Hr okr hc1 ⊢
  rw [Hnb.out] at Hb okb hc2 ⊢
  rw [Hng.out] at HU hc3 ⊢
  clear hr hb hg okrs okbs hok2 hfew
  go_enter Tryd.func33, Tryd.ntmps33
  go_upto_region 2 with fail
  obtain ⟨w1, hw1⟩ : ∃ w1, w1 = (w.alloc (.cells #[.slice a1 nr c1, .slice a2 nb c2] 40)).alloc (.cells #[.string u.name, .slice a3 ng c3] 42) := ⟨_, rfl⟩
  obtain ⟨gu, hgu⟩ : ∃ gu, gu = w.heap.size + 1 := ⟨_, rfl⟩
  obtain ⟨gx, hgx⟩ : ∃ gx, gx = w.heap.size := ⟨_, rfl⟩
  rw [← hw1]
  try rw [← hgu]
  rw [← hgx]
  have b1 : w1.heap[gx]? = some (.cells #[.slice a1 nr c1, .slice a2 nb c2] 40 (0, 0)) := by
    rw [hw1, hgx]
    exact below_block ((Below.refl _ _).alloc (Nat.le_refl _) _) (heap_alloc_new w _)
  have b2 : w1.heap[gu]? = some (.cells #[.string u.name, .slice a3 ng c3] 42 (0, 0)) := by
    have h9 := heap_alloc_new (w.alloc (.cells #[.slice a1 nr c1, .slice a2 nb c2] 40)) (.cells #[.string u.name, .slice a3 ng c3] 42)
    rw [hw1, hgu]
    simpa using h9
  have hb1 : Below w.heap.size w w1 := by rw [hw1]; exact ((Below.refl _ _).alloc (Nat.le_refl _) _).alloc (by simp) _
  have hgx1 : gx < w1.heap.size := by rw [hw1, hgx]; simp; omega
  have hgu1 : gu < w1.heap.size := by rw [hw1, hgu]; simp
  have hs1 := hb1.size
  have Hb1 := Lib.hid hb1
  have B1 := Lib.hid b1
  have B2 := Lib.hid b2
  have cc := fun i => cell_block b1 i
  clear hw1 hgu hgx b1 b2 hb1
  go_wp2_with fail
  clear cc
  go_loopg [16, 7] nb (fun k u16 u7 wr => ∃ i : Nat, i + k = nb ∧ u16 = .int .i64 (i : Int) ∧ Hid (OwnAt (AtW w RuleR) 3 wr w1.heap.size 44 u7 ((x.binds.take i).flatMap (bindRules x u s))) ∧ Hid (Below w1.heap.size w1 wr))
  case atStart => exact ⟨0, by omega, rfl, Lib.hid (by rw [List.take_zero]; exact OwnAt.nil _), Lib.hid (Below.refl _ _)⟩
  case round =>
    obtain ⟨i, hig, rfl, Hown, Hbel⟩ := hrel
    cases gk with
    | zero =>
      obtain rfl : i = nb := by omega
      have h9 := Hown.out
      rw [List.take_of_length_le (by rw [Hnb.out]; exact Nat.le_refl _)] at h9
      have Hend := Lib.hid h9
      clear h9 Hown
      go_wp2_with fail
      go_ret
      exact ⟨_, rfl, Hend.out.mono hs1, Hb1.out.trans (Hbel.out.mono hs1)⟩
    | succ k =>
      have hil : i < nb := by omega
      obtain ⟨b, hbi⟩ : ∃ b, x.binds[i]? = some b := ⟨x.binds[i]'(by rw [Hnb.out]; omega), List.getElem?_eq_getElem _⟩
      obtain ⟨bk, o, c', hv, _, _, hbs, hcell⟩ := Hb.out.form (by rw [Hnb.out]; omega) (by omega)
      injection hv with u1 u2 u3
      subst u1
      obtain ⟨ds, _, hcc, hR⟩ := hcell i b hbi
      have hR2 := hR
      obtain ⟨y4, y5, rfl, hus, hgs⟩ := hR
      obtain ⟨a4, c4, rfl, hc4, _⟩ := hus.row.len
      obtain ⟨a5, c5, rfl, hc5, _⟩ := hgs.row.len
      obtain ⟨nu, Hnu⟩ : ∃ n, Hid (b.users.length = n) := ⟨_, Lib.hid rfl⟩
      obtain ⟨nq, Hnq⟩ : ∃ n, Hid (b.groups.length = n) := ⟨_, Lib.hid rfl⟩
      have hbw := Hb1.out.trans (Hbel.out.mono hs1)
      have e0 : wr.cell? ⟨bk, o + i * 6, none⟩ = some (.string b.space) := (hbw.cell (p := ⟨bk, _, none⟩) hbs).trans (by simpa using hcc 0 _ rfl)
      have e1 : wr.cell? ⟨bk, o + i * 6 + 1, none⟩ = some (.string b.name) := (hbw.cell (p := ⟨bk, _, none⟩) hbs).trans (hcc 1 _ rfl)
      have e2 : wr.cell? ⟨bk, o + i * 6 + 2, none⟩ = some (.string b.role) := (hbw.cell (p := ⟨bk, _, none⟩) hbs).trans (hcc 2 _ rfl)
      have e3 : wr.cell? ⟨bk, o + i * 6 + 3, none⟩ = some (.bool b.whole) := (hbw.cell (p := ⟨bk, _, none⟩) hbs).trans (hcc 3 _ rfl)
      have e4 : wr.cell? ⟨bk, o + i * 6 + 4, none⟩ = some (.slice a4 nu c4) := (hbw.cell (p := ⟨bk, _, none⟩) hbs).trans ((hcc 4 _ rfl).trans (by rw [Hnu.out]))
      have e5 : wr.cell? ⟨bk, o + i * 6 + 5, none⟩ = some (.slice a5 nq c5) := (hbw.cell (p := ⟨bk, _, none⟩) hbs).trans ((hcc 5 _ rfl).trans (by rw [Hnq.out]))
      rw [Hnu.out, Hnq.out] at hR2
      have HR2 := Lib.hid hR2
      have Hbok := Lib.hid (Hokb.out b (List.mem_of_getElem? hbi))
      have q1 : (0 : Int) ≤ (i : Int) := by omega
      have q2 : (i : Int) < (nb : Int) := by omega
      obtain ⟨on, Hon⟩ : ∃ on, Hid (bindOn u s b = on) := ⟨_, Lib.hid rfl⟩
      obtain ⟨base, Hbase⟩ : ∃ base, Hid ((x.binds.take i).flatMap (bindRules x u s) = base) := ⟨_, Lib.hid rfl⟩
      have Hnext : Hid ((x.binds.take (i + 1)).flatMap (bindRules x u s) = base ++ (if on = true then x.roles.flatMap (rulesOf b) else [])) := by
        show _ = _
        rw [take_flatMap _ _ hbi, Hbase.out]
        unfold bindRules
        rw [Hon.out]
      have hblen : base.length ≤ i * 96 := by
        rw [← Hbase.out]
        have h8 := flatMap_len (bindRules x u s) 96 (l := x.binds.take i) (fun b _ => bindRules_len Hfew.out u s b)
        rw [List.length_take] at h8
        have : min i x.binds.length ≤ i := Nat.min_le_left _ _
        omega
      rw [Hbase.out] at Hown
      have hsw := Hbel.out.size
      have Hbw := Lib.hid hbw
      have dd := fun i => cell_block ((Hbel.out.block _ hgu1).trans B2.out) i
      have hguw : gu < wr.heap.size := by omega
      clear hcc hcell hbi u2 u3 hus hgs hbw hR2 hc4 hc5
      go_upto_region 5 with fail
      obtain ⟨w5, hw5⟩ : ∃ w5, w5 = wr.alloc (.cells #[.string b.space, .string b.name, .string b.role, .bool b.whole, .slice a4 nu c4, .slice a5 nq c5] 71) := ⟨_, rfl⟩
      obtain ⟨gb, hgb⟩ : ∃ gb, gb = wr.heap.size := ⟨_, rfl⟩
      rw [← hw5, ← hgb]
      have b5 : w5.heap[gb]? = some (.cells #[.string b.space, .string b.name, .string b.role, .bool b.whole, .slice a4 nu c4, .slice a5 nq c5] 71 (0, 0)) := by rw [hw5, hgb]; exact heap_alloc_new wr _
      have hb5 : Below wr.heap.size wr w5 := by rw [hw5]; exact (Below.refl _ _).alloc (Nat.le_refl _) _
      have Hown5 := Lib.hid (Hown.out.below (flat_atW w RuleR).stays hb5)
      have Hbel5 := Lib.hid (Hbel.out.trans (hb5.mono hsw))
      have B5 := Lib.hid b5
      have hs5 := Hbel5.out.size
      have Hb5 := Lib.hid hb5
      have hg5 : gb < w5.heap.size := by rw [hw5, hgb]; simp
      clear dd hw5 hgb b5 e0 e1 e2 e3 e4 e5 Hown hb5 hguw
      have cc := fun i => cell_block B5.out i
      have dd := fun i => cell_block ((Hbel5.out.block _ hgu1).trans B2.out) i
      have Hu5 := Lib.hid (stays_user _ _ _ _ (keeps_below (Hb1.out.trans (Hbel5.out.mono hs1))) HU.out)
      have HR5 := Lib.hid (stays_bind _ _ _ _ (keeps_below (Hb1.out.trans (Hbel5.out.mono hs1))) HR2.out)
      go_cut [34] (fun u34 wx => u34 = .bool (!on) ∧ Hid (Below w5.heap.size w5 wx))
      case first =>
        obtain ⟨p, Hp⟩ : ∃ p, Hid (isForB b u = p) := ⟨_, Lib.hid rfl⟩
        have way : (p = false ∧ on = false) ∨ (p = true ∧ b.space.toList = [] ∧ b.space.toList.isEmpty = true ∧ on = true) ∨ (p = true ∧ (!b.space.toList.isEmpty) = true ∧ b.space.toList.isEmpty = false ∧ (b.space.toList == s.toList) = true ∧ on = true) ∨ (p = true ∧ (!b.space.toList.isEmpty) = true ∧ b.space.toList.isEmpty = false ∧ (b.space.toList == s.toList) = false ∧ on = false) := by
          have e := Hon.out
          unfold bindOn at e
          rw [Hp.out, eqB_empty] at e
          cases p with
          | false => exact .inl ⟨rfl, by rw [← e]; rfl⟩
          | true =>
            by_cases h0 : b.space.size = 0
            · have h1 := str_none h0
              rw [decide_eq_true h0] at e
              exact .inr (.inl ⟨rfl, h1, by rw [h1]; rfl, by rw [← e]; rfl⟩)
            · have h1 := str_some h0
              rw [decide_eq_false h0] at e
              cases h2 : eqB b.space s with
              | true => rw [h2] at e; exact .inr (.inr (.inl ⟨rfl, h1, by simpa using h1, h2, e.symm⟩))
              | false => rw [h2] at e; exact .inr (.inr (.inr ⟨rfl, h1, by simpa using h1, h2, e.symm⟩))
        rcases way with ⟨rfl, rfl⟩ | ⟨rfl, p1, p2, rfl⟩ | ⟨rfl, p1, p2, p3, rfl⟩ | ⟨rfl, p1, p2, p3, rfl⟩
        all_goals
          go_wp2_with fail
          refine (isFor_any _ _ _ b u w5 HR5.out Hu5.out Hbok.out Hok2.out).mono ?_
          rw [Hp.out]
          rintro E w6 ⟨rfl, hb6⟩
          have Hb6 := Lib.hid hb6
          clear cc dd
          have cc := fun i => cell_block (below_block hb6 B5.out) i
          clear hb6
          go_wp2_with fail
          go_meet
          exact ⟨rfl, Hb6⟩
      case rest =>
      obtain ⟨w6, rfl⟩ : ∃ w6, w6 = wc := ⟨_, rfl⟩
      obtain ⟨rfl, Hb6⟩ := hcut
      have Hown6 := Lib.hid (Hown5.out.below (flat_atW w RuleR).stays Hb6.out)
      have Hbel6 := Lib.hid (Hbel5.out.trans (Hb6.out.mono hs5))
      have B6 := Lib.hid (below_block Hb6.out B5.out)
      have hs6 := Hbel6.out.size
      clear cc dd Hown5 B5 Hbel5 Hbel Hu5 HR5
      have cc := fun i => cell_block B6.out i
      have dd := fun i => cell_block ((Hbel6.out.block _ hgx1).trans B1.out) i
      cases on with
      | false =>
        have Hown7 : Hid (OwnAt (AtW w RuleR) 3 w6 w1.heap.size 44 u7 ((x.binds.take (i + 1)).flatMap (bindRules x u s))) := Lib.hid (by rw [Hnext.out]; simpa using Hown6.out)
        go_wp2_with fail
        go_roundg k
        case measure => omega
        case rel => exact ⟨i + 1, by omega, by go_num, Hown7, Hbel6⟩
      | true =>
        obtain ⟨fr, Hfr⟩ : ∃ fr, Hid (fromOf b = fr) := ⟨_, Lib.hid rfl⟩
        obtain ⟨wh, Hwh⟩ : ∃ wh, Hid (b.whole = wh) := ⟨_, Lib.hid rfl⟩
        rw [Hwh.out] at cc B6
        go_upto_region 7 with fail
        go_upto_if 38 with fail
        go_cut [10] (fun u10 wx => u10 = .string fr ∧ w6 = wx)
        case first =>
          cases wh with
          | true =>
            have Hf2 : Hid (ByteArray.mk #[] = fr) := by show _ = _; rw [← Hfr.out]; unfold fromOf; rw [Hwh.out]; rfl
            go_wp2_with fail
            go_meet
            exact ⟨congrArg Value.string Hf2.out, rfl⟩
          | false =>
            have Hf2 : Hid (b.space = fr) := by show _ = _; rw [← Hfr.out]; unfold fromOf; rw [Hwh.out]; rfl
            go_wp2_with fail
            go_meet
            exact ⟨congrArg Value.string Hf2.out, rfl⟩
        case rest =>
        obtain ⟨rfl, rfl⟩ := hcut
        go_wp2_with fail
        clear cc dd
        obtain ⟨B6', HB6⟩ : ∃ W, W = w6 := ⟨_, rfl⟩
        clear HB6 B6'
        go_loopg [42, 7] nr (fun k2 u42 u7 wr => ∃ j : Nat, j + k2 = nr ∧ u42 = .int .i64 (j : Int) ∧ Hid (OwnAt (AtW w RuleR) 3 wr w1.heap.size 44 u7 (base ++ (x.roles.take j).flatMap (rulesOf b))) ∧ Hid (Below w1.heap.size w1 wr) ∧ Hid (wr.heap[gb]? = some (.cells #[.string b.space, .string b.name, .string b.role, .bool wh, .slice a4 nu c4, .slice a5 nq c5] 71 (0, 0))))
        case atStart => exact ⟨0, by omega, rfl, Lib.hid (by rw [List.take_zero]; simpa using Hown6.out), Hbel6, B6⟩
        case round =>
          obtain ⟨j, hjg, rfl, Hown7, Hbel7, B7⟩ := hrel
          have hs7 := Hbel7.out.size
          cases gk with
          | zero =>
            obtain rfl : j = nr := by omega
            have h9 := Hown7.out
            rw [List.take_of_length_le (by rw [Hnr.out]; exact Nat.le_refl _)] at h9
            have Hown8 : Hid (OwnAt (AtW w RuleR) 3 wr w1.heap.size 44 u7 ((x.binds.take (i + 1)).flatMap (bindRules x u s))) := Lib.hid (by rw [Hnext.out]; simpa using h9)
            clear h9
            go_wp2_with fail
            go_roundg k
            case measure => omega
            case rel => exact ⟨i + 1, by omega, by go_num, Hown8, Hbel7⟩
          | succ k2 =>
            have hjl : j < nr := by omega
            obtain ⟨r, hrj⟩ : ∃ r, x.roles[j]? = some r := ⟨x.roles[j]'(by rw [Hnr.out]; omega), List.getElem?_eq_getElem _⟩
            obtain ⟨bk, o, c', hv, _, _, hbs, hcell⟩ := Hr.out.form (by rw [Hnr.out]; omega) (by omega)
            injection hv with u1 u2 u3
            subst u1
            obtain ⟨ds, _, hcc, hR⟩ := hcell j r hrj
            obtain ⟨y2, rfl, hrr⟩ := hR
            obtain ⟨a6, c6, rfl, hc6, _⟩ := hrr.len
            have hbw := Hb1.out.trans (Hbel7.out.mono hs1)
            have e0 : wr.cell? ⟨bk, o + j * 3, none⟩ = some (.string r.space) := (hbw.cell (p := ⟨bk, _, none⟩) hbs).trans (by simpa using hcc 0 _ rfl)
            have e1 : wr.cell? ⟨bk, o + j * 3 + 1, none⟩ = some (.string r.name) := (hbw.cell (p := ⟨bk, _, none⟩) hbs).trans (hcc 1 _ rfl)
            have e2 : wr.cell? ⟨bk, o + j * 3 + 2, none⟩ = some (.slice a6 r.rules.length c6) := (hbw.cell (p := ⟨bk, _, none⟩) hbs).trans (hcc 2 _ rfl)
            have p1 : (0 : Int) ≤ (j : Int) := by omega
            have p2 : (j : Int) < (nr : Int) := by omega
            obtain ⟨bs2, Hbs2⟩ : ∃ bs2, Hid (base ++ (x.roles.take j).flatMap (rulesOf b) = bs2) := ⟨_, Lib.hid rfl⟩
            have Hstep : Hid (base ++ (x.roles.take (j + 1)).flatMap (rulesOf b) = bs2 ++ rulesOf b r) := by
              show _ = _
              rw [take_flatMap _ _ hrj, ← List.append_assoc, Hbs2.out]
            have hb2len : bs2.length ≤ i * 96 + j * 8 := by
              rw [← Hbs2.out, List.length_append]
              have h8 := flatMap_len (rulesOf b) 8 (l := x.roles.take j) (fun q hq => rulesOf_len Hfew.out b q (List.mem_of_mem_take hq))
              rw [List.length_take] at h8
              have : min j x.roles.length ≤ j := Nat.min_le_left _ _
              omega
            have hr8 : r.rules.length ≤ 8 := Hfew.out.2.2 r (List.mem_of_getElem? hrj)
            rw [Hbs2.out] at Hown7
            have hgb7 : gb < wr.heap.size := by
              rcases Nat.lt_or_ge gb wr.heap.size with h8 | h8
              · exact h8
              · have := B7.out; rw [Array.getElem?_eq_none h8] at this; cases this
            have cc := fun i => cell_block B7.out i
            have Hbw := Lib.hid hbw
            have Hrr := Lib.hid hrr
            clear hcc hcell hrj u2 u3 hbw hrr hc6
            obtain ⟨w7, hw7⟩ : ∃ w7, w7 = wr.alloc (.cells #[.string r.space, .string r.name, .slice a6 r.rules.length c6] 69) := ⟨_, rfl⟩
            have hb7 : Below wr.heap.size wr w7 := by rw [hw7]; exact (Below.refl _ _).alloc (Nat.le_refl _) _
            have Hown8 := Lib.hid (Hown7.out.below (flat_atW w RuleR).stays hb7)
            have Hbel8 := Lib.hid (Hbel7.out.trans (hb7.mono hs7))
            have B8 := Lib.hid (below_block hb7 B7.out)
            have hs8 := Hbel8.out.size
            have Hsrc := Lib.hid (Hrr.out.atW (Hbw.out.trans (hb7.mono Hbw.out.size)))
            have way : (eqB r.space fr = false ∧ Hid (rulesOf b r = [])) ∨ (eqB r.space fr = true ∧ eqB r.name b.role = false ∧ Hid (rulesOf b r = [])) ∨ (eqB r.space fr = true ∧ eqB r.name b.role = true ∧ Hid (rulesOf b r = r.rules)) := by
              unfold rulesOf
              rw [Hfr.out]
              cases h2 : eqB r.space fr with
              | false => exact .inl ⟨rfl, Lib.hid rfl⟩
              | true => cases h3 : eqB r.name b.role with
                | false => exact .inr (.inl ⟨rfl, rfl, Lib.hid rfl⟩)
                | true => exact .inr (.inr ⟨rfl, rfl, Lib.hid rfl⟩)
            unfold eqB at way
            have Hw7 := Lib.hid hw7
            clear hb7 hw7
            rcases way with ⟨t1, Ht⟩ | ⟨t1, t2, Ht⟩ | ⟨t1, t2, Ht⟩
            · have Hfin : Hid (OwnAt (AtW w RuleR) 3 w7 w1.heap.size 44 u7 (base ++ (x.roles.take (j + 1)).flatMap (rulesOf b))) := Lib.hid (by rw [Hstep.out, Ht.out, List.append_nil]; exact Hown8.out)
              rw [Hw7.out] at Hfin Hbel8 B8
              go_wp2_with fail
              go_roundg k2
              case measure => omega
              case rel => exact ⟨j + 1, by omega, by go_num, Hfin, Hbel8, B8⟩
            · have Hfin : Hid (OwnAt (AtW w RuleR) 3 w7 w1.heap.size 44 u7 (base ++ (x.roles.take (j + 1)).flatMap (rulesOf b))) := Lib.hid (by rw [Hstep.out, Ht.out, List.append_nil]; exact Hown8.out)
              rw [Hw7.out] at Hfin Hbel8 B8
              go_wp2_with fail
              go_roundg k2
              case measure => omega
              case rel => exact ⟨j + 1, by omega, by go_num, Hfin, Hbel8, B8⟩
            · rw [Hw7.out] at Hown8 Hbel8 B8 Hsrc hs8
              go_wp2_with (at_builtin; refine wpList_append_ownAt (R := AtW w RuleR) (k := 3) (e := 44) (B := w1.heap.size) (l := bs2) (m := r.rules) _ (by rfl) _ _ _ (by rfl) i0 _ 72 Tryd.underlying46 hi0 hz0 hz1 hz2 rfl (by omega) (flat_atW w RuleR) (one_atW w one_rule) _ (by rfl) Hown8.out _ (by rfl) Hsrc.out (by unfold maxLen; omega) (by omega) hs8 ?_)
              intro v' w9 hown9 hg9 hr9 _
              have Hbel9 := Lib.hid (below_of_grown Hbel8.out hs8 hg9 hr9)
              have B9 := Lib.hid (Hown8.out.sameBut hg9 gb _ _ _ B8.out (by decide))
              have Hfin : Hid (OwnAt (AtW w RuleR) 3 w9 w1.heap.size 44 v' (base ++ (x.roles.take (j + 1)).flatMap (rulesOf b))) := Lib.hid (by rw [Hstep.out, Ht.out]; exact hown9)
              clear hown9 hg9 hr9 Hown8 Hbel8 B8 Hsrc
              go_wp2_with fail
              go_roundg k2
              case measure => omega
              case rel => exact ⟨j + 1, by omega, by go_num, Hfin, Hbel9, B9⟩
end Go.Proofs.YtkmonmdnmpbadaaDoor
namespace Go.Proofs.YtkmonmdnmpbadaaDoor
open Go.RowKit
theorem RowAt.belowX {α : Type} {R : Rd α} {e : TypeId} (hs : StaysX e R) {k : Nat} {w w' : World} {v : Value} {l : List α} (h : RowAt R k w v l) (hb : Below w.heap.size w w') : RowAt R k w' v l := by
  rcases h with h | ⟨a, c, h1, h2, h3, h4⟩
  · exact .inl h
  · exact .inr ⟨a, c, h1, h2, h3, fun j x hx => by
      obtain ⟨cs, g1, g2, g3⟩ := h4 j x hx
      exact ⟨cs, g1, fun i u hu => keeps_below hb _ _ (g2 i u hu), hs _ _ _ _ (sameBut_below hb) g3⟩⟩
theorem RowAt.map {α : Type} {R R' : Rd α} (hR : ∀ w cs x, R w cs x → R' w cs x) {k : Nat} {w : World} {v : Value} {l : List α} (h : RowAt R k w v l) : RowAt R' k w v l := by
  rcases h with h | ⟨a, c, h1, h2, h3, h4⟩
  · exact .inl h
  · exact .inr ⟨a, c, h1, h2, h3, fun j x hx => by
      obtain ⟨cs, g1, g2, g3⟩ := h4 j x hx
      exact ⟨cs, g1, g2, hR _ _ _ g3⟩⟩
set_option maxRecDepth 100000 in
theorem cloneTexts_any (v : Value) (l : List ByteArray) (w : World) (h : StrAt w v l) (hl : l.length ≤ 1073741824) :
    Calls Tryd.prog 57 #[v] w fun e w' => ∃ v', e = .returned v' ∧ OwnAt RString 1 w' w.heap.size 9 v' l ∧ Below w.heap.size w w' := by
  obtain ⟨i0, hi0, hz0, hz1, hz2⟩ := info_parts Tryd.infoStr
  have hrow := h.row
  have hn := fun (w : World) (a : Option Addr) (n c : Nat) => Lib.run_eql_slice_nil (P := Tryd.prog) w 31 9 a n c 0 0 Tryd.underlying31
  rcases h with ⟨rfl, rfl⟩ | ⟨a, c, rfl, _, _, _⟩
  · go_enter Tryd.func57, Tryd.ntmps57
    go_wp2_with fail
    go_ret
    exact ⟨_, rfl, OwnAt.nil _, Below.refl _ _⟩
  · have Hrow := Lib.hid hrow
    clear hrow
    go_enter Tryd.func57, Tryd.ntmps57
    go_wp2_with (at_builtin; refine wpList_append_ownAt (R := RString) (k := 1) (e := 9) (B := w.heap.size) (l := []) (m := l) _ (by rfl) _ _ _ (by rfl) i0 _ 16 Tryd.underlying31 hi0 hz0 hz1 hz2 rfl (by omega) flat_string one_string _ (by rfl) (own_empty w 1 _ (Nat.le_refl _)) _ (by rfl) (Hrow.out.below stays_string ((Below.refl _ _).alloc (Nat.le_refl _) _)) (by unfold maxLen; simp; omega) (by simp; omega) (by simp) ?_)
    intro v' w' hv' hg hr _
    have hb : Below w.heap.size w w' := below_of_grown ((Below.refl _ _).alloc (Nat.le_refl _) _) (by simp) hg hr
    go_wp2_with fail
    go_ret
    exact ⟨_, rfl, by simpa using hv', hb⟩
end Go.Proofs.YtkmonmdnmpbadaaDoor
namespace Go.Proofs.YtkmonmdnmpbadaaDoor
open Go.RowKit
theorem held_ok {x : GGrants} (h : okGrants x) (u : GUser) (s : ByteArray) : ∀ r ∈ heldL x u s, okRule r := fun r hr => by
  unfold heldL at hr
  obtain ⟨b, _, hr⟩ := List.mem_flatMap.1 hr
  unfold bindRules at hr
  split at hr
  · obtain ⟨q, hq, hr⟩ := List.mem_flatMap.1 hr
    unfold rulesOf at hr
    split at hr
    · exact (h.2.1 q hq).2.2.2 r hr
    · cases hr
  · cases hr
theorem held_len {x : GGrants} (h : fewGrants x) (u : GUser) (s : ByteArray) : (heldL x u s).length ≤ 1152 := by
  have h1 := flatMap_len (bindRules x u s) 96 (l := x.binds) (fun b _ => bindRules_len h u s b)
  have h2 := h.2.1
  unfold heldL
  omega
/-- what a user has -/
def heldP (x : GGrants) (u : GUser) (s : ByteArray) : Int × List GRule := if codeC x u s ≠ 0 then (codeC x u s, []) else (0, heldL x u s)
theorem few_of_code {x : GGrants} {u : GUser} {s : ByteArray} (h : codeC x u s = 0) : fewGrants x := by
  unfold codeC at h
  rw [says_eq_zero] at h
  exact few_of_ok h.1
end Go.Proofs.YtkmonmdnmpbadaaDoor
namespace Go.Proofs.YtkmonmdnmpbadaaDoor
open Go
section
variable {P : Program} {ops : Array Oper} {md : Region.Mode}
end
end Go.Proofs.YtkmonmdnmpbadaaDoor
namespace Go.Proofs.YtkmonmdnmpbadaaDoor
open Go.RowKit
/-- texts in a block of their own, with room behind them in which two marks stand -/
def TxtAt (B : Nat) (w : World) (v : Value) (l : List ByteArray) : Prop := ∃ g, v = .slice (some ⟨g, 0, none⟩) l.length (l.length + 2) ∧ B ≤ g ∧ w.heap[g]? = some (.cells (strs (l ++ [markB, markB])).toArray 9 (0, 0))
theorem TxtAt.below {B : Nat} {w w' : World} {v : Value} {l : List ByteArray} (h : TxtAt B w v l) (hb : Below w.heap.size w w') : TxtAt B w' v l :=
  let ⟨g, h1, h2, h3⟩ := h; ⟨g, h1, h2, below_block hb h3⟩
theorem TxtAt.same {B : Nat} {T : TypeId} {w w' : World} {v : Value} {l : List ByteArray} (h : TxtAt B w v l) (hs : SameBut T w w') (hT : 9 ≠ T) : TxtAt B w' v l :=
  let ⟨g, h1, h2, h3⟩ := h; ⟨g, h1, h2, hs _ _ _ _ h3 hT⟩
theorem TxtAt.one {B : Nat} {w : World} {v : Value} {l : List ByteArray} (h : TxtAt B w v l) : v.oneCell' = true := by
  obtain ⟨g, rfl, _, _⟩ := h; rfl
theorem TxtAt.str {B : Nat} {w : World} {v : Value} {l : List ByteArray} (h : TxtAt B w v l) (hl : l.length ≤ 1048576) : StrAt w v l := by
  obtain ⟨g, rfl, _, hg⟩ := h
  exact .inr ⟨_, _, rfl, by omega, by unfold maxLen; omega, fun j x hx => by
    rw [add_plain', Nat.zero_add, cell_block hg j, List.getElem?_toArray]
    exact strs_get (by rw [List.getElem?_append_left (List.getElem?_eq_some_iff.1 hx).1]; exact hx)⟩
def TexRule (B : Nat) : Rd GRule := fun w cs x => ∃ v0 v1 v2, cs = [v0, v1, v2] ∧ TxtAt B w v0 x.verbs ∧ TxtAt B w v1 x.kinds ∧ TxtAt B w v2 x.names
theorem texRule_one (B : Nat) : OneR (TexRule B) := fun w cs x ⟨v0, v1, v2, h1, h2, h3, h4⟩ u hu => by
  rw [h1] at hu
  simp only [List.mem_cons, List.not_mem_nil, or_false] at hu
  rcases hu with rfl | rfl | rfl
  · exact h2.one
  · exact h3.one
  · exact h4.one
theorem texRule_staysX {T : TypeId} (hT : 9 ≠ T) (B : Nat) : StaysX T (TexRule B) := fun w w' cs x hs ⟨v0, v1, v2, h1, h2, h3, h4⟩ => ⟨v0, v1, v2, h1, h2.same hs hT, h3.same hs hT, h4.same hs hT⟩
theorem texRule_rule {B : Nat} {w : World} {cs : List Value} {x : GRule} (h : TexRule B w cs x) (hok : okRule x) : RuleR w cs x := by
  obtain ⟨v0, v1, v2, h1, h2, h3, h4⟩ := h
  exact ⟨v0, v1, v2, h1, h2.str hok.1.1, h3.str hok.2.1.1, h4.str hok.2.2.1⟩
set_option maxRecDepth 100000 in
set_option maxHeartbeats 3200000 in
theorem keepRules_any (v : Value) (l : List GRule) (w : World) (h : RowAt RuleR 3 w v l) (hl : l.length ≤ 1048576) (hok : ∀ r ∈ l, okRule r) :
    Calls Tryd.prog 18 #[v] w fun e w' => ∃ v', e = .returned v' ∧ OwnAt (TexRule w.heap.size) 3 w' w.heap.size 44 v' l ∧ Below w.heap.size w w' := by
  obtain ⟨i0, hi0, hz0, hz1, hz2⟩ := info_parts Tryd.infoRule
  obtain ⟨a1, c1, rfl, _, _⟩ := h.len
  obtain ⟨nl, hnl⟩ : ∃ n, l.length = n := ⟨_, rfl⟩
  rw [hnl] at h hl ⊢
  have H := Lib.hid h
  have Hok := Lib.hid hok
  have Hnl := Lib.hid hnl
  clear h hok hnl
  go_enter Tryd.func18, Tryd.ntmps18
  go_wp2_with fail
  go_loopg [3, 8] nl (fun k u3 u8 wr => ∃ i : Nat, i + k = nl ∧ u8 = .int .i64 (i : Int) ∧ Hid (OwnAt (TexRule w.heap.size) 3 wr w.heap.size 44 u3 (l.take i)) ∧ Hid (Below w.heap.size w wr))
  case atStart => exact ⟨0, by omega, rfl, Lib.hid (OwnAt.nil _), Lib.hid (Below.refl _ _)⟩
  case round =>
    obtain ⟨i, hig, rfl, Hown, Hbel⟩ := hrel
    have hsr := Hbel.out.size
    cases gk with
    | zero =>
      obtain rfl : i = nl := by omega
      have hown := Hown.out
      rw [List.take_of_length_le (by rw [Hnl.out]; exact Nat.le_refl _)] at hown
      have HO := Lib.hid hown
      clear hown Hown
      go_wp2_with fail
      go_ret
      exact ⟨_, rfl, HO.out, Hbel.out⟩
    | succ k =>
      have hil : i < nl := by omega
      obtain ⟨x, hx⟩ : ∃ x, l[i]? = some x := ⟨l[i]'(by rw [Hnl.out]; exact hil), List.getElem?_eq_getElem _⟩
      obtain ⟨b, o, c', hv, _, _, hbs, hcell⟩ := H.out.form (by rw [Hnl.out]; omega) (by omega)
      injection hv with u1 u2 u3'
      subst u1
      clear u2 u3'
      obtain ⟨ds, _, hcc, z0, z1, z2, hR, s0, s1, s2⟩ := hcell i x hx
      subst hR
      obtain ⟨xa0, xc0, rfl, _, _⟩ := s0.row.len
      obtain ⟨xa1, xc1, rfl, _, _⟩ := s1.row.len
      obtain ⟨xa2, xc2, rfl, _, _⟩ := s2.row.len
      obtain ⟨n0, Hn0⟩ : ∃ n, Hid (x.verbs.length = n) := ⟨_, Lib.hid rfl⟩
      obtain ⟨n1, Hn1⟩ : ∃ n, Hid (x.kinds.length = n) := ⟨_, Lib.hid rfl⟩
      obtain ⟨n2, Hn2⟩ : ∃ n, Hid (x.names.length = n) := ⟨_, Lib.hid rfl⟩
      rw [Hn0.out] at s0 hcc
      rw [Hn1.out] at s1 hcc
      rw [Hn2.out] at s2 hcc
      have e0 : wr.cell? ⟨b, o + i * 3, none⟩ = some (.slice xa0 n0 xc0) := (Hbel.out.cell (p := ⟨b, _, none⟩) hbs).trans (by simpa using hcc 0 _ rfl)
      have e1 : wr.cell? ⟨b, o + i * 3 + 1, none⟩ = some (.slice xa1 n1 xc1) := (Hbel.out.cell (p := ⟨b, _, none⟩) hbs).trans (hcc 1 _ rfl)
      have e2 : wr.cell? ⟨b, o + i * 3 + 2, none⟩ = some (.slice xa2 n2 xc2) := (Hbel.out.cell (p := ⟨b, _, none⟩) hbs).trans (hcc 2 _ rfl)
      have q1 : (0 : Int) ≤ (i : Int) := by omega
      have q2 : (i : Int) < (nl : Int) := by omega
      have hokx := Hok.out x (List.mem_of_getElem? hx)
      obtain ⟨w1, hw1⟩ : ∃ w1, w1 = wr.alloc (.cells #[.slice xa0 n0 xc0, .slice xa1 n1 xc1, .slice xa2 n2 xc2] 44) := ⟨_, rfl⟩
      obtain ⟨g7, hg7⟩ : ∃ g7, g7 = wr.heap.size := ⟨_, rfl⟩
      have b1 : w1.heap[g7]? = some (.cells #[.slice xa0 n0 xc0, .slice xa1 n1 xc1, .slice xa2 n2 xc2] 44 (0, 0)) := by rw [hw1, hg7]; exact heap_alloc_new wr _
      have hb1 : Below wr.heap.size wr w1 := by rw [hw1]; exact (Below.refl _ wr).alloc (Nat.le_refl _) _
      have hs1 : g7 < w1.heap.size := by rw [hw1, hg7, World.size_alloc]; omega
      have S0 := Lib.hid ((s0.below' Hbel.out).below' hb1)
      have S1 := Lib.hid ((s1.below' Hbel.out).below' hb1)
      have S2 := Lib.hid ((s2.below' Hbel.out).below' hb1)
      have B1 := Lib.hid b1
      have HO1 := Lib.hid (Hown.out.belowX (texRule_staysX (by decide) _) hb1)
      have HB1 := Lib.hid (Hbel.out.trans (hb1.mono hsr))
      have hsw1 := HB1.out.size
      have Hx := Lib.hid hx
      have Hokx := Lib.hid hokx
      clear hcc hcell s0 s1 s2 hx hokx hb1 b1 Hown
      go_upto_region 5 with fail
      rw [← hw1, ← hg7]
      clear hw1 hg7 e0 e1 e2
      refine wp_region_relK 12 (fun w' => Below w1.heap.size w1 w') (fun _ wa wb => Below wa.heap.size wa wb) (fun j U w' => match j with
        | 0 => U 0 = u3
        | 1 => U 1 = .pointer (some ⟨g7, 0, none⟩)
        | 2 => U 2 = .slice xa0 n0 xc0
        | 3 => TxtAt w.heap.size w' (U 3) x.verbs
        | 4 => U 4 = .pointer (some ⟨g7, 1, none⟩)
        | 5 => U 5 = .slice xa1 n1 xc1
        | 6 => TxtAt w.heap.size w' (U 6) x.kinds
        | 7 => U 7 = .pointer (some ⟨g7, 2, none⟩)
        | 8 => U 8 = .slice xa2 n2 xc2
        | 9 => TxtAt w.heap.size w' (U 9) x.names
        | 10 => U 10 = .agg #[U 3, U 6, U 9]
        | 11 => ∃ g c, U 11 = .slice (some ⟨g, 0, none⟩) 1 1 ∧ U 10 = .agg c ∧ w'.heap[g]? = some (.cells c 44 (0, 0))
        | _ => True)
        (fun | 2 => [1] | 3 => [2] | 5 => [4] | 6 => [5] | 8 => [7] | 9 => [8] | 10 => [3, 6, 9] | 11 => [10] | _ => []) (by kernel_rfl) (by kernel_rfl) (Below.refl _ _).drew (fun _ _ _ hk hi => below_then hi hk) ?_ ⟨?_, ?_, ?_, ?_, ?_, ?_, ?_, ?_, ?_, ?_, ?_, ?_, trivial⟩ ?_
      · intro i' j U wa wb hji hk hi h
        match j, h with
        | 0, h => exact h
        | 1, h => exact h
        | 2, h => exact h
        | 3, h => exact TxtAt.below h hk
        | 4, h => exact h
        | 5, h => exact h
        | 6, h => exact TxtAt.below h hk
        | 7, h => exact h
        | 8, h => exact h
        | 9, h => exact TxtAt.below h hk
        | 10, h => exact h
        | 11, ⟨g, c, h1, h2, h3⟩ => exact ⟨g, c, h1, h2, below_block hk h3⟩
        | _ + 12, h => trivial
      · intro y w' hb hd
        refine owesK_here u3 (by rfl) ?_ rfl (Below.refl _ _)
        simp only [putAll, List.take_succ_cons, List.take_zero]
        go_simp
      · intro y w' hb hd
        refine owesK_here (.pointer (some ⟨g7, 0, none⟩)) (by rfl) ?_ rfl (Below.refl _ _)
        simp only [putAll, List.take_succ_cons, List.take_zero]
        go_simp
      · intro y w' hb hd
        have h0 : y 1 = .pointer (some ⟨g7, 0, none⟩) := hd 1 (by simp)
        have d0 := (hb.block g7 hs1).trans B1.out
        have cc := fun i => cell_block d0 i
        clear d0
        refine owesK_here (.slice xa0 n0 xc0) (by rfl) ?_ rfl (Below.refl _ _)
        simp only [putAll, List.take_succ_cons, List.take_zero]
        go_simp
      · intro y w' hb hd
        have h0 : y 2 = .slice xa0 n0 xc0 := hd 2 (by simp)
        have hsz := hb.size
        refine owesK_call 30 #[.slice xa0 n0 xc0] (by rfl) ?_ ((texts_any _ x.verbs w' (S0.out.below' hb) Hokx.out.1.1).mono ?_)
        · simp only [putAll, List.take_succ_cons, List.take_zero]
          go_simp
        · rintro _ w3 ⟨g, rfl, hg, hbg, hb3⟩
          exact ⟨_, rfl, ⟨g, rfl, by omega, hbg⟩, hb3⟩
      · intro y w' hb hd
        refine owesK_here (.pointer (some ⟨g7, 1, none⟩)) (by rfl) ?_ rfl (Below.refl _ _)
        simp only [putAll, List.take_succ_cons, List.take_zero]
        go_simp
      · intro y w' hb hd
        have h0 : y 4 = .pointer (some ⟨g7, 1, none⟩) := hd 4 (by simp)
        have d0 := (hb.block g7 hs1).trans B1.out
        have cc := fun i => cell_block d0 i
        clear d0
        refine owesK_here (.slice xa1 n1 xc1) (by rfl) ?_ rfl (Below.refl _ _)
        simp only [putAll, List.take_succ_cons, List.take_zero]
        go_simp
      · intro y w' hb hd
        have h0 : y 5 = .slice xa1 n1 xc1 := hd 5 (by simp)
        have hsz := hb.size
        refine owesK_call 30 #[.slice xa1 n1 xc1] (by rfl) ?_ ((texts_any _ x.kinds w' (S1.out.below' hb) Hokx.out.2.1.1).mono ?_)
        · simp only [putAll, List.take_succ_cons, List.take_zero]
          go_simp
        · rintro _ w3 ⟨g, rfl, hg, hbg, hb3⟩
          exact ⟨_, rfl, ⟨g, rfl, by omega, hbg⟩, hb3⟩
      · intro y w' hb hd
        refine owesK_here (.pointer (some ⟨g7, 2, none⟩)) (by rfl) ?_ rfl (Below.refl _ _)
        simp only [putAll, List.take_succ_cons, List.take_zero]
        go_simp
      · intro y w' hb hd
        have h0 : y 7 = .pointer (some ⟨g7, 2, none⟩) := hd 7 (by simp)
        have d0 := (hb.block g7 hs1).trans B1.out
        have cc := fun i => cell_block d0 i
        clear d0
        refine owesK_here (.slice xa2 n2 xc2) (by rfl) ?_ rfl (Below.refl _ _)
        simp only [putAll, List.take_succ_cons, List.take_zero]
        go_simp
      · intro y w' hb hd
        have h0 : y 8 = .slice xa2 n2 xc2 := hd 8 (by simp)
        have hsz := hb.size
        refine owesK_call 30 #[.slice xa2 n2 xc2] (by rfl) ?_ ((texts_any _ x.names w' (S2.out.below' hb) Hokx.out.2.2.1).mono ?_)
        · simp only [putAll, List.take_succ_cons, List.take_zero]
          go_simp
        · rintro _ w3 ⟨g, rfl, hg, hbg, hb3⟩
          exact ⟨_, rfl, ⟨g, rfl, by omega, hbg⟩, hb3⟩
      · intro y w' hb hd
        have h3 : TxtAt w.heap.size w' (y 3) x.verbs := hd 3 (by simp)
        have h6 : TxtAt w.heap.size w' (y 6) x.kinds := hd 6 (by simp)
        have h9 : TxtAt w.heap.size w' (y 9) x.names := hd 9 (by simp)
        obtain ⟨k3, E3, _, _⟩ := h3
        obtain ⟨k6, E6, _, _⟩ := h6
        obtain ⟨k9, E9, _, _⟩ := h9
        refine owesK_here (.agg #[y 3, y 6, y 9]) (by rfl) ?_ rfl (Below.refl _ _)
        clear hd
        simp only [putAll, List.take_succ_cons, List.take_zero]
        rw [E3, E6, E9]
        go_simp
      · intro y w' hb hd
        have h10 : y 10 = .agg #[y 3, y 6, y 9] := hd 10 (by simp)
        refine owesK_makes (w' := w'.alloc (.cells #[y 3, y 6, y 9] 44)) (.slice (some ⟨w'.heap.size, 0, none⟩) 1 1) (by rfl) ?_ ⟨_, _, rfl, h10, heap_alloc_new w' _⟩ ((Below.refl _ _).alloc (Nat.le_refl _) _)
        simp only [putAll, List.take_succ_cons, List.take_zero]
        rw [h10]
        go_simp
      · intro y w' hb hR
        have h0 : y 0 = u3 := hR 0 (by omega)
        have h3 : TxtAt w.heap.size w' (y 3) x.verbs := hR 3 (by omega)
        have h6 : TxtAt w.heap.size w' (y 6) x.kinds := hR 6 (by omega)
        have h9 : TxtAt w.heap.size w' (y 9) x.names := hR 9 (by omega)
        have h10 : y 10 = .agg #[y 3, y 6, y 9] := hR 10 (by omega)
        obtain ⟨gx, cx, h11, h12, h13⟩ : ∃ g c, y 11 = .slice (some ⟨g, 0, none⟩) 1 1 ∧ y 10 = .agg c ∧ w'.heap[g]? = some (.cells c 44 (0, 0)) := hR 11 (by omega)
        rw [h10] at h12
        injection h12 with h12
        subst h12
        have HX : Hid (TexRule w.heap.size w' [y 3, y 6, y 9] x) := Lib.hid ⟨_, _, _, rfl, h3, h6, h9⟩
        have HO4 := Lib.hid (HO1.out.belowX (texRule_staysX (by decide) _) hb)
        have HB4 := Lib.hid (HB1.out.trans (hb.mono hsw1))
        have hsz4 := HB4.out.size
        have H13 := Lib.hid h13
        obtain ⟨k3, D3, _, _⟩ := h3
        obtain ⟨k6, D6, _, _⟩ := h6
        obtain ⟨k9, D9, _, _⟩ := h9
        have Hlen : Hid ((l.take i).length = i) := Lib.hid (by rw [List.length_take, Hnl.out]; omega)
        rw [D3, D6, D9] at HX H13 h10
        clear hR hb HO1 HB1 h13
        simp only [putAll, List.take_succ_cons, List.take_zero, List.drop_succ_cons, List.drop_zero]
        rw [h0, h11, h10, D3, D6, D9]
        clear h0 D3 D6 D9 h10 h11
        try simp only [Act.put, List.setIfInBounds_toArray, List.set_cons_zero, List.set_cons_succ]
        go_wp2_with (at_builtin; refine wpList_append_ownAtX (R := TexRule w.heap.size) (k := 3) (e := 44) (B := w.heap.size) (l := l.take i) (m := [x]) _ (by rfl) _ _ _ (by rfl) i0 _ 72 Tryd.underlying46 hi0 hz0 hz1 hz2 rfl (by omega) (texRule_staysX (by decide) _) (texRule_one _) _ (by rfl) HO4.out (.slice (some ⟨gx, 0, none⟩) 1 1) (by rfl) (RowAt.one (R := TexRule w.heap.size) (k := 3) H13.out rfl HX.out) (by rw [Hlen.out]; unfold maxLen; simp; omega) (by rw [Hlen.out]; simp; omega) hsz4 ?_)
        intro v' w5 hv' hgr hr _
        have HB5 := Lib.hid (below_of_grown HB4.out hsz4 hgr hr)
        have HO5 : Hid (OwnAt (TexRule w.heap.size) 3 w5 w.heap.size 44 v' (l.take (i + 1))) := Lib.hid (by
          rw [List.take_add_one, Hx.out]
          exact hv')
        clear hv' hgr hr HO4 HX HB4
        go_wp2_with fail
        go_roundg k
        case measure => omega
        case rel => exact ⟨i + 1, by omega, by go_num, HO5, HB5⟩
end Go.Proofs.YtkmonmdnmpbadaaDoor
namespace Go.Proofs.YtkmonmdnmpbadaaDoor
open Go.RowKit
theorem Tryd.infoRoleO : (Tryd.prog.info? 69).map (fun i => (i.zero, i.size, i.bytes)) = some (some (.agg #[.string ByteArray.empty, .string ByteArray.empty, .slice none 0 0]), 3, 56) := by kernel_rfl
theorem Tryd.infoBindO : (Tryd.prog.info? 71).map (fun i => (i.zero, i.size, i.bytes)) = some (some (.agg #[.string ByteArray.empty, .string ByteArray.empty, .string ByteArray.empty, .bool false, .slice none 0 0, .slice none 0 0]), 6, 104) := by kernel_rfl
theorem OwnAt.imp {α : Type} {R R' : Rd α} {k B : Nat} {e : TypeId} {v : Value} {l : List α} {w : World} (h : OwnAt R k w B e v l) (hi : ∀ cs x, R w cs x → R' w cs x) : OwnAt R' k w B e v l := by
  obtain ⟨css, h1, h2, h3, h4⟩ := h
  exact ⟨css, h1, h2, h3, fun j cs y hcs hy => hi _ _ (h4 j cs y hcs hy)⟩
theorem OwnAt.sameX {α : Type} {R : Rd α} {k B : Nat} {e T : TypeId} {v : Value} {l : List α} {w w' : World} (hR : StaysX T R) (h : OwnAt R k w B e v l) (hs : SameBut T w w') (hne : e ≠ T) : OwnAt R k w' B e v l := by
  obtain ⟨css, h1, h2, h3, h4⟩ := h
  refine ⟨css, h1, h2, ⟨h3.1, ?_⟩, fun j cs y hcs hy => hR _ _ _ _ hs (h4 j cs y hcs hy)⟩
  rcases h3.2 with h5 | ⟨q, cap, cur, rfl, hB, hh, hr⟩
  · exact .inl h5
  · exact .inr ⟨q, cap, cur, rfl, hB, hs q cur e _ hh hne, hr⟩
theorem sameBut_but {g : Nat} {T : TypeId} {w w' : World} {cs0 : Array Value} {fr0 : Nat × Nat} (hb : But g w w') (hg : w.heap[g]? = some (.cells cs0 T fr0)) : SameBut T w w' := fun b cs t fr h ht =>
  hb.keep h (by rintro rfl; rw [hg] at h; cases h; exact ht rfl)
theorem own_touch {α : Type} {R : Rd α} {k B g : Nat} {e T : TypeId} {v : Value} {l : List α} {w w' : World} {cs0 : Array Value} {fr0 : Nat × Nat} (hR : StaysX T R) (h : OwnAt R k w B e v l) (hb : But g w w') (hg : w.heap[g]? = some (.cells cs0 T fr0)) (hne : ∀ q, v.ownBlock = some q → q ≠ g) : OwnAt R k w' B e v l := by
  obtain ⟨css, h1, h2, h3, h4⟩ := h
  refine ⟨css, h1, h2, ⟨h3.1, ?_⟩, fun j cs y hcs hy => hR _ _ _ _ (sameBut_but hb hg) (h4 j cs y hcs hy)⟩
  rcases h3.2 with h5 | ⟨q, cap, cur, rfl, hB, hh, hr⟩
  · exact .inl h5
  · exact .inr ⟨q, cap, cur, rfl, hB, hb.keep hh (hne q rfl), hr⟩
theorem own_apart {α : Type} {R : Rd α} {k B g : Nat} {e T : TypeId} {v : Value} {l : List α} {w : World} {cs0 : Array Value} {fr0 : Nat × Nat} (h : OwnAt R k w B e v l) (hg : w.heap[g]? = some (.cells cs0 T fr0)) (hne : e ≠ T) : ∀ q, v.ownBlock = some q → q ≠ g := fun q hq he => by
  obtain ⟨_, _, cur, h3⟩ := h.at hq
  rw [he, hg] at h3
  cases h3
  exact hne rfl
theorem TxtAt.mono {B B' : Nat} {w : World} {v : Value} {l : List ByteArray} (h : TxtAt B w v l) (hB : B' ≤ B) : TxtAt B' w v l :=
  let ⟨g, h1, h2, h3⟩ := h; ⟨g, h1, Nat.le_trans hB h2, h3⟩
theorem texRule_mono {B B' : Nat} (hB : B' ≤ B) {w : World} {cs : List Value} {x : GRule} (h : TexRule B w cs x) : TexRule B' w cs x :=
  let ⟨v0, v1, v2, h1, h2, h3, h4⟩ := h; ⟨v0, v1, v2, h1, h2.mono hB, h3.mono hB, h4.mono hB⟩
/-- a role whose rules are the call's own -/
def TexRole (B : Nat) : Rd GRole := fun w cs x => ∃ v2, cs = [.string x.space, .string x.name, v2] ∧ OwnAt (TexRule B) 3 w B 44 v2 x.rules
theorem texRole_one (B : Nat) : OneR (TexRole B) := fun w cs x ⟨v2, h1, h2⟩ u hu => by
  obtain ⟨a, c, rfl, _, _⟩ := h2.row.len
  rw [h1] at hu
  simp only [List.mem_cons, List.not_mem_nil, or_false] at hu
  rcases hu with rfl | rfl | rfl <;> rfl
theorem texRole_staysX {T : TypeId} (hT : 9 ≠ T) (hT2 : 44 ≠ T) (B : Nat) : StaysX T (TexRole B) := fun w w' cs x hs ⟨v2, h1, h2⟩ => ⟨v2, h1, h2.sameX (texRule_staysX hT B) hs hT2⟩
/-- a binding whose texts have room behind them -/
def TexBind (B : Nat) : Rd GBind := fun w cs x => ∃ v4 v5, cs = [.string x.space, .string x.name, .string x.role, .bool x.whole, v4, v5] ∧ TxtAt B w v4 x.users ∧ TxtAt B w v5 x.groups
theorem texBind_one (B : Nat) : OneR (TexBind B) := fun w cs x ⟨v4, v5, h1, h2, h3⟩ u hu => by
  rw [h1] at hu
  simp only [List.mem_cons, List.not_mem_nil, or_false] at hu
  rcases hu with rfl | rfl | rfl | rfl | rfl | rfl
  · rfl
  · rfl
  · rfl
  · rfl
  · exact h2.one
  · exact h3.one
theorem texBind_staysX {T : TypeId} (hT : 9 ≠ T) (B : Nat) : StaysX T (TexBind B) := fun w w' cs x hs ⟨v4, v5, h1, h2, h3⟩ => ⟨v4, v5, h1, h2.same hs hT, h3.same hs hT⟩
def TexGrants (B : Nat) : Rd GGrants := fun w cs x => ∃ vr vb, cs = [vr, vb] ∧ OwnAt (TexRole B) 3 w B 69 vr x.roles ∧ OwnAt (TexBind B) 6 w B 71 vb x.binds
theorem texRow {α : Type} {R R' : Rd α} {k : Nat} {w : World} {v : Value} {l : List α} (h : RowAt R k w v l) (hi : ∀ x ∈ l, ∀ cs, R w cs x → R' w cs x) : RowAt R' k w v l := by
  rcases h with h | ⟨a, c, h1, h2, h3, h4⟩
  · exact .inl h
  · refine .inr ⟨a, c, h1, h2, h3, fun j x hx => ?_⟩
    obtain ⟨cs, g1, g2, g3⟩ := h4 j x hx
    exact ⟨cs, g1, g2, hi x (List.mem_of_getElem? hx) cs g3⟩
theorem texGrants_grants {B : Nat} {w : World} {cs : List Value} {x : GGrants} (h : TexGrants B w cs x) (hok : okGrants x) : GrantsR w cs x := by
  obtain ⟨vr, vb, h1, h2, h3⟩ := h
  obtain ⟨o1, o2, o3, o4⟩ := hok
  refine ⟨vr, vb, h1, texRow h2.row fun r hr cs ⟨v2, e1, e2⟩ => ⟨v2, e1, texRow e2.row fun y hy cs h => texRule_rule h ((o2 r hr).2.2.2 y hy)⟩, texRow h3.row fun b hb cs ⟨v4, v5, e1, e2, e3⟩ => ⟨v4, v5, e1, e2.str (o4 b hb).2.2.2.1.1, e3.str (o4 b hb).2.2.2.2.1⟩⟩
end Go.Proofs.YtkmonmdnmpbadaaDoor
