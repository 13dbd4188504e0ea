/- grants: what is checked of rules: their contracts. -/
import Derived.Test.YtkkfnihdnclgiaaDoorGrantsSays
import Derived.Deep.DeepCutAuto
namespace Go.Proofs.YtkkfnihdnclgiaaDoor
open Go.RowKit

def okS (l : List ByteArray) : Prop := l.length ≤ 1048576 ∧ ∀ x ∈ l, x.size ≤ 1048576
def okRule (r : GRule) : Prop := okS r.verbs ∧ okS r.kinds ∧ okS r.names
theorem strs_ne {w0 : World} {v : Value} {l : List ByteArray} {g : Nat} (h : StrAt w0 v l) (hg : w0.heap.size ≤ g) : 0 < l.length → ∀ a n c, v = .slice (some a) n c → a.block ≠ g := by
  intro hl a n c hv
  obtain ⟨b, o, c', hv', _, _, hb, _⟩ := h.row.form hl (by omega)
  rw [hv] at hv'
  cases hv'
  show b ≠ g
  omega
theorem StrAt.below' {w w' : World} {v : Value} {l : List ByteArray} (h : StrAt w v l) (hb : Below w.heap.size w w') : StrAt w' v l := h.keep (keeps_below hb)
theorem names0_any (g : Nat) (b : Int) (v : Value) (l : List ByteArray) (st : Bool) (w0 w : World) (h : IsBad g w b) (hb0 : Below w0.heap.size w0 w) (hg : w0.heap.size ≤ g) (hv : StrAt w0 v l) (hx : okS l) :
    Calls Tryd.prog 45 #[.pointer (some ⟨g, 0, none⟩), v, .bool st] w (Said g (says b (namesC st l)) w) :=
  names_any g b v l st w h (hv.below' hb0) (strs_ne hv hg) (fun x hxm => by have := hx.2 x hxm; omega) (by have := hx.1; omega)
set_option maxRecDepth 100000 in
set_option maxHeartbeats 800000 in
theorem rule_any (g : Nat) (b : Int) (y0 y1 y2 : Value) (r : GRule) (w0 w : World) (h : IsBad g w b) (hb0 : Below w0.heap.size w0 w) (hg : w0.heap.size ≤ g) (hr : RuleR w0 [y0, y1, y2] r) (hok : okRule r) :
    Calls Tryd.prog 54 #[.pointer (some ⟨g, 0, none⟩), .agg #[y0, y1, y2]] w (Said g (says b (ruleC r)) w) := by
  obtain ⟨_, _, _, hcs, s0, s1, s2⟩ := hr
  simp only [List.cons.injEq, and_true] at hcs
  obtain ⟨rfl, rfl, rfl⟩ := hcs
  obtain ⟨a0, c0, rfl, _, _⟩ := s0.row.len
  obtain ⟨a1, c1, rfl, _, _⟩ := s1.row.len
  obtain ⟨a2, c2, rfl, _, _⟩ := s2.row.len
  have S0 := Lib.hid s0
  have S1 := Lib.hid s1
  have S2 := Lib.hid s2
  have Hok := Lib.hid hok
  have hgw : g < w.heap.size := by
    rcases Nat.lt_or_ge g w.heap.size with h1 | h1
    · exact h1
    · unfold IsBad at h; rw [Array.getElem?_eq_none h1] at h; cases h
  have H := Lib.hid h
  have Hb0 := Lib.hid hb0
  have hs0 := hb0.size
  have Hres : Hid (says b (ruleC r) = says (says (says (says (says b (need (smallR r) 2)) (need (fullR r) 1)) (namesC true r.verbs)) (namesC true r.kinds)) (namesC false r.names)) := by
    show _ = _; unfold ruleC; simp only [says_assoc]
  obtain ⟨nv, Hnv⟩ : ∃ n, Hid (r.verbs.length = n) := ⟨_, Lib.hid rfl⟩
  obtain ⟨nk, Hnk⟩ : ∃ n, Hid (r.kinds.length = n) := ⟨_, Lib.hid rfl⟩
  obtain ⟨nn, Hnn⟩ : ∃ n, Hid (r.names.length = n) := ⟨_, Lib.hid rfl⟩
  rw [Hres.out]
  obtain ⟨sm, Hsm⟩ : ∃ sm, Hid (smallR r = sm) := ⟨_, Lib.hid rfl⟩
  obtain ⟨fu, Hfu⟩ : ∃ fu, Hid (fullR r = fu) := ⟨_, Lib.hid rfl⟩
  rw [Hsm.out, Hfu.out]
  rw [Hnv.out] at S0 ⊢
  rw [Hnk.out] at S1 ⊢
  rw [Hnn.out] at S2 ⊢
  clear s0 s1 s2 hok h hb0 Hres
  go_enter Tryd.func54, Tryd.ntmps54
  go_upto_region 1 with fail
  obtain ⟨w1, hw1⟩ : ∃ w1, w1 = w.alloc (.cells #[.slice a0 nv c0, .slice a1 nk c1, .slice a2 nn c2] 25) := ⟨_, rfl⟩
  obtain ⟨gb, hgb⟩ : ∃ gb, gb = w.heap.size := ⟨_, rfl⟩
  rw [← hw1, ← hgb]
  have b1 : w1.heap[gb]? = some (.cells #[.slice a0 nv c0, .slice a1 nk c1, .slice a2 nn c2] 25 (0, 0)) := by rw [hw1, hgb]; exact heap_alloc_new w _
  have hb1 : Below w.heap.size w w1 := by rw [hw1]; exact (Below.refl _ _).alloc (Nat.le_refl _) _
  have hs1 : gb < w1.heap.size := by rw [hw1, hgb]; simp
  have hne : gb ≠ g := by omega
  have B1 := Lib.hid b1
  have H1 := Lib.hid (H.out.below hb1)
  have Hb1 := Lib.hid hb1
  have Hb01 := Lib.hid (Hb0.out.trans (hb1.mono hs0))
  have hs01 : w0.heap.size ≤ w1.heap.size := by have := hb1.size; omega
  have cc := fun i => cell_block b1 i
  clear hw1 hgb b1 hb1 H
  go_cut [20] (fun u20 wx => Hid (IsBad g wx (says b (need sm 2))) ∧ Hid (But g w1 wx))
  case first =>
    have way : (decide ((nv : Int) ≤ 6) = false ∧ smallR r = false) ∨ (decide ((nv : Int) ≤ 6) = true ∧ decide ((nk : Int) ≤ 6) = false ∧ smallR r = false) ∨ (decide ((nv : Int) ≤ 6) = true ∧ decide ((nk : Int) ≤ 6) = true ∧ decide ((nn : Int) ≤ 6) = false ∧ smallR r = false) ∨ (decide ((nv : Int) ≤ 6) = true ∧ decide ((nk : Int) ≤ 6) = true ∧ decide ((nn : Int) ≤ 6) = true ∧ smallR r = true) := by
      have e : smallR r = (decide (nv ≤ 6) && (decide (nk ≤ 6) && decide (nn ≤ 6))) := by unfold smallR; rw [Hnv.out, Hnk.out, Hnn.out]
      rw [e]
      simp only [decide_eq_true_eq, decide_eq_false_iff_not, Bool.and_eq_true, Bool.and_eq_false_iff]
      omega
    rw [Hsm.out] at way
    rcases way with ⟨p1, rfl⟩ | ⟨p1, p2, rfl⟩ | ⟨p1, p2, p3, rfl⟩ | ⟨p1, p2, p3, rfl⟩
    all_goals
      go_wp2_with fail
      refine (need_any g b _ 2 w1 H1.out).mono ?_
      rintro E w2 ⟨rfl, h1, h2⟩
      have Hx1 := Lib.hid h1
      have Hx2 := Lib.hid h2
      clear h1 h2
      go_wp2_with fail
      go_meet
      exact ⟨Hx1, Hx2⟩
  case rest =>
  obtain ⟨wx, rfl⟩ : ∃ wx, wx = wc := ⟨_, rfl⟩
  obtain ⟨Hx1, Hx2⟩ := hcut
  clear cc
  have cc := fun i => cell_block (Hx2.out.keep B1.out hne) i
  go_upto_region 2 with fail
  go_cut [32] (fun u32 wy => Hid (IsBad g wy (says (says b (need sm 2)) (need fu 1))) ∧ Hid (But g w1 wy))
  case first =>
    have way : (decide (0 < nv) = false ∧ fullR r = false) ∨ (decide (0 < nv) = true ∧ decide (0 < nk) = false ∧ fullR r = false) ∨ (decide (0 < nv) = true ∧ decide (0 < nk) = true ∧ fullR r = true) := by
      have e : fullR r = (decide (0 < nv) && decide (0 < nk)) := by unfold fullR; rw [Hnv.out, Hnk.out]
      rw [e]
      simp only [decide_eq_true_eq, decide_eq_false_iff_not, Bool.and_eq_true, Bool.and_eq_false_iff]
      omega
    rw [Hfu.out] at way
    rcases way with ⟨p1, rfl⟩ | ⟨p1, p2, rfl⟩ | ⟨p1, p2, rfl⟩
    all_goals
      go_wp2_with fail
      refine (need_any g _ _ 1 wx Hx1.out).mono ?_
      rintro E w2 ⟨rfl, h1, h2⟩
      have Hy1 := Lib.hid h1
      have Hy2 := Lib.hid (Hx2.out.trans h2)
      clear h1 h2
      go_wp2_with fail
      go_meet
      exact ⟨Hy1, Hy2⟩
  case rest =>
  obtain ⟨wy, rfl⟩ : ∃ wy, wy = wc := ⟨_, rfl⟩
  obtain ⟨Hy1, Hy2⟩ := hcut
  clear cc Hx1 Hx2
  have cc := fun i => cell_block (Hy2.out.keep B1.out hne) i
  go_wp2_with fail
  refine (names0_any g _ _ r.verbs true w0 wy Hy1.out (Hy2.out.below Hb01.out (by omega) hg) hg S0.out Hok.out.1).mono ?_
  rintro E w4 ⟨rfl, h1, h2⟩
  have Hz1 := Lib.hid h1
  have Hz2 := Lib.hid (Hy2.out.trans h2)
  clear cc h1 h2
  have cc := fun i => cell_block (Hz2.out.keep B1.out hne) i
  go_wp2_with fail
  refine (names0_any g _ _ r.kinds true w0 w4 Hz1.out (Hz2.out.below Hb01.out (by omega) hg) hg S1.out Hok.out.2.1).mono ?_
  rintro E w5 ⟨rfl, h1, h2⟩
  have Ha1 := Lib.hid h1
  have Ha2 := Lib.hid (Hz2.out.trans h2)
  clear cc h1 h2
  have cc := fun i => cell_block (Ha2.out.keep B1.out hne) i
  go_wp2_with fail
  refine (names0_any g _ _ r.names false w0 w5 Ha1.out (Ha2.out.below Hb01.out (by omega) hg) hg S2.out Hok.out.2.2).mono ?_
  rintro E w6 ⟨rfl, h1, h2⟩
  have Hc1 := Lib.hid h1
  have Hc2 := Lib.hid ((But.of Hb1.out).trans (Ha2.out.trans h2))
  clear cc h1 h2
  go_wp2_with fail
  go_end0
  exact ⟨rfl, Hc1.out, Hc2.out⟩
set_option maxRecDepth 100000 in
set_option maxHeartbeats 800000 in
theorem rules_any (g : Nat) (b : Int) (v : Value) (l : List GRule) (w0 w : World) (h : IsBad g w b) (hb0 : Below w0.heap.size w0 w) (hg : w0.heap.size ≤ g) (hr : RowAt RuleR 3 w0 v l) (hl : l.length ≤ 1048576) (hok : ∀ r ∈ l, okRule r) :
    Calls Tryd.prog 32 #[.pointer (some ⟨g, 0, none⟩), v] w (Said g (says b (rulesC l)) w) := by
  obtain ⟨a1, c1, rfl, _, _⟩ := hr.len
  have HR := Lib.hid hr
  have Hok := Lib.hid hok
  have H := Lib.hid h
  have Hb0 := Lib.hid hb0
  have hs0 := hb0.size
  have hgw : g < w.heap.size := by
    rcases Nat.lt_or_ge g w.heap.size with h1 | h1
    · exact h1
    · unfold IsBad at h; rw [Array.getElem?_eq_none h1] at h; cases h
  have Hres : Hid (says b (rulesC l) = says (says b (need (decide (l.length ≤ 8)) 2)) (firstBad (l.map ruleC))) := by
    show _ = _; unfold rulesC; simp only [says_assoc]
  obtain ⟨b1, Hb1⟩ : ∃ b1, Hid (says b (need (decide (l.length ≤ 8)) 2) = b1) := ⟨_, Lib.hid rfl⟩
  rw [Hres.out, Hb1.out]
  have Hd : Hid (decide ((l.length : Int) ≤ 8) = decide (l.length ≤ 8)) := by
    show _ = _
    rw [decide_eq_decide]; omega
  clear hr hok h hb0 Hres
  go_enter Tryd.func32, Tryd.ntmps32
  go_wp2_with fail
  refine (need_any g b _ 2 w H.out).mono ?_
  try rw [Hd.out]
  rintro E w1 ⟨rfl, h1, h2⟩
  have H1 := Lib.hid h1
  have K1 := Lib.hid h2
  rw [Hb1.out] at H1
  clear h1 h2 H
  go_wp2_with fail
  go_loopg [13] l.length (fun k u13 wr => ∃ i : Nat, i + k = l.length ∧ u13 = .int .i64 (i : Int) ∧ Hid (IsBad g wr (says b1 (firstBad ((l.map ruleC).take i)))) ∧ Hid (But g w wr))
  case atStart => exact ⟨0, by omega, rfl, Lib.hid (by rw [List.take_zero]; exact (says_zero b1).symm ▸ H1.out), K1⟩
  case round =>
    obtain ⟨i, hig, rfl, Hbad, Hbut⟩ := hrel
    cases gk with
    | zero =>
      obtain rfl : i = l.length := by omega
      have Hend : Hid (IsBad g wr (says b1 (firstBad (l.map ruleC)))) := by
        have h9 := Hbad.out
        rw [List.take_of_length_le (by simp)] at h9
        exact Lib.hid h9
      go_wp2_with fail
      go_end0
      exact ⟨rfl, Hend.out, Hbut.out⟩
    | succ k =>
      have hil : i < l.length := by omega
      obtain ⟨x, hxi⟩ : ∃ x, l[i]? = some x := ⟨l[i]'(by omega), List.getElem?_eq_getElem _⟩
      obtain ⟨bk, o, c', hv, _, _, hbs, hcell⟩ := HR.out.form (by omega) (by omega)
      cases hv
      obtain ⟨ds, _, hcc, hR⟩ := hcell i x hxi
      have hR2 := hR
      obtain ⟨y0, y1, y2, rfl, s0, s1, s2⟩ := hR
      obtain ⟨a0', c0', rfl, _, _⟩ := s0.row.len
      obtain ⟨a1', c1', rfl, _, _⟩ := s1.row.len
      obtain ⟨a2', c2', rfl, _, _⟩ := s2.row.len
      have HR2 := Lib.hid hR2
      have hbw := Hbut.out.below Hb0.out hs0 hg
      have e0 : wr.cell? ⟨bk, o + i * 3, none⟩ = some (.slice a0' x.verbs.length c0') := (hbw.cell (p := ⟨bk, _, none⟩) hbs).trans (by simpa using hcc 0 _ rfl)
      have e1 : wr.cell? ⟨bk, o + i * 3 + 1, none⟩ = some (.slice a1' x.kinds.length c1') := (hbw.cell (p := ⟨bk, _, none⟩) hbs).trans (hcc 1 _ rfl)
      have e2 : wr.cell? ⟨bk, o + i * 3 + 2, none⟩ = some (.slice a2' x.names.length c2') := (hbw.cell (p := ⟨bk, _, none⟩) hbs).trans (hcc 2 _ rfl)
      have q1 : (0 : Int) ≤ (i : Int) := by omega
      have q2 : (i : Int) < (l.length : Int) := by omega
      have Hnext : Hid (says b1 (firstBad ((l.map ruleC).take (i + 1))) = says (says b1 (firstBad ((l.map ruleC).take i))) (ruleC x)) := by
        show _ = _
        rw [firstBad_take (e := ruleC x) (by rw [List.getElem?_map, hxi]; rfl), says_assoc]
      have Hxok := Lib.hid (Hok.out x (List.mem_of_getElem? hxi))
      have hsw := Hbut.out.size
      have Hal : ∀ o : Obj, Hid (Below wr.heap.size wr (wr.alloc o)) := fun o => Lib.hid ((Below.refl _ _).alloc (Nat.le_refl _) o)
      have Hal0 : ∀ o : Obj, Hid (Below w0.heap.size w0 (wr.alloc o)) := fun o => Lib.hid (hbw.trans ((Hal o).out.mono hbw.size))
      clear hcc hcell hxi hR2 hbw s0 s1 s2
      go_wp2_with fail
      refine (rule_any g _ _ _ _ x w0 _ (Hbad.out.below (Hal _).out) (Hal0 _).out hg HR2.out Hxok.out).mono ?_
      rintro E w3 ⟨rfl, h1, h2⟩
      have Hc1 := Lib.hid h1
      have Hc2 := Lib.hid (Hbut.out.trans ((But.of (Hal _).out).trans h2))
      clear h1 h2 e0 e1 e2
      go_wp2_with fail
      go_roundg k
      case measure => omega
      case rel => exact ⟨i + 1, by omega, by go_num, Lib.hid (by rw [Hnext.out]; exact Hc1.out), Hc2⟩
end Go.Proofs.YtkkfnihdnclgiaaDoor
