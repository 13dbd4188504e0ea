/- grants: copied, Held, May: their contracts. -/
import Derived.Test.YtkkfnihdnclgiaaDoorGrantsGet
import Derived.WalkSpells
namespace Go.Proofs.YtkkfnihdnclgiaaDoor
open Go.RowKit

/-- a rule whose texts lie in blocks of other types -/
def RuleX : Rd GRule := fun w cs x => ∃ v0 v1 v2, cs = [v0, v1, v2] ∧ StrX 25 w v0 x.verbs ∧ StrX 25 w v1 x.kinds ∧ StrX 25 w v2 x.names
theorem ruleX_stays : StaysX 25 RuleX := fun _ _ _ _ hs ⟨v0, v1, v2, h, g0, g1, g2⟩ => ⟨v0, v1, v2, h, g0.stays hs, g1.stays hs, g2.stays hs⟩
theorem ruleX_rule (w : World) (cs : List Value) (x : GRule) (h : RuleX w cs x) : RuleR w cs x := by
  obtain ⟨v0, v1, v2, h, g0, g1, g2⟩ := h
  exact ⟨v0, v1, v2, h, g0.1, g1.1, g2.1⟩
theorem one_ruleX : OneR RuleX := fun w cs x h u hu => one_rule w cs x (ruleX_rule w cs x h) u hu
theorem RowAt.belowX {α : Type} {R : Rd α} {e : TypeId} (hs : StaysX e R) {k : Nat} {w w' : World} {v : Value} {l : List α} (h : RowAt R k w v l) (hb : Below w.heap.size w w') : RowAt R k w' v l := by
  rcases h with h | ⟨a, c, h1, h2, h3, h4⟩
  · exact .inl h
  · exact .inr ⟨a, c, h1, h2, h3, fun j x hx => by
      obtain ⟨cs, g1, g2, g3⟩ := h4 j x hx
      exact ⟨cs, g1, fun i u hu => keeps_below hb _ _ (g2 i u hu), hs _ _ _ _ (sameBut_below hb) g3⟩⟩
theorem RowAt.map {α : Type} {R R' : Rd α} (hR : ∀ w cs x, R w cs x → R' w cs x) {k : Nat} {w : World} {v : Value} {l : List α} (h : RowAt R k w v l) : RowAt R' k w v l := by
  rcases h with h | ⟨a, c, h1, h2, h3, h4⟩
  · exact .inl h
  · exact .inr ⟨a, c, h1, h2, h3, fun j x hx => by
      obtain ⟨cs, g1, g2, g3⟩ := h4 j x hx
      exact ⟨cs, g1, g2, hR _ _ _ g3⟩⟩
set_option maxRecDepth 100000 in
theorem cloneTexts_any (v : Value) (l : List ByteArray) (w : World) (h : StrAt w v l) (hl : l.length ≤ 1073741824) :
    Calls Tryd.prog 51 #[v] w fun e w' => ∃ v', e = .returned v' ∧ OwnAt RString 1 w' w.heap.size 9 v' l ∧ Below w.heap.size w w' := by
  obtain ⟨i0, hi0, hz0, hz1, hz2⟩ := info_parts Tryd.infoStr
  have hrow := h.row
  have hn := fun (w : World) (a : Option Addr) (n c : Nat) => Lib.run_eql_slice_nil (P := Tryd.prog) w 23 9 a n c 0 0 Tryd.underlying23
  rcases h with ⟨rfl, rfl⟩ | ⟨a, c, rfl, _, _, _⟩
  · go_enter Tryd.func51, Tryd.ntmps51
    go_wp2_with fail
    go_ret
    exact ⟨_, rfl, OwnAt.nil _, Below.refl _ _⟩
  · have Hrow := Lib.hid hrow
    clear hrow
    go_enter Tryd.func51, Tryd.ntmps51
    go_wp2_with (at_builtin; refine wpList_append_ownAt (R := RString) (k := 1) (e := 9) (B := w.heap.size) (l := []) (m := l) _ (by rfl) _ _ _ (by rfl) i0 _ 16 Tryd.underlying23 hi0 hz0 hz1 hz2 rfl (by omega) flat_string one_string _ (by rfl) (own_empty w 1 _ (Nat.le_refl _)) _ (by rfl) (Hrow.out.below stays_string ((Below.refl _ _).alloc (Nat.le_refl _) _)) (by unfold maxLen; simp; omega) (by simp; omega) (by simp) ?_)
    intro v' w' hv' hg hr _
    have hb : Below w.heap.size w w' := below_of_grown ((Below.refl _ _).alloc (Nat.le_refl _) _) (by simp) hg hr
    go_wp2_with fail
    go_ret
    exact ⟨_, rfl, by simpa using hv', hb⟩
set_option maxRecDepth 100000 in
set_option maxHeartbeats 1600000 in
theorem copied_any (v : Value) (l : List GRule) (w : World) (h : RowAt RuleR 3 w v l) (hok : ∀ r ∈ l, okRule r) (hl : l.length ≤ 1048576) :
    Calls Tryd.prog 29 #[v] w fun e w' => ∃ v', e = .returned v' ∧ OwnAt RuleX 3 w' w.heap.size 25 v' l ∧ Below w.heap.size w w' := by
  obtain ⟨a1, c1, rfl, _, _⟩ := h.len
  have H := Lib.hid h
  have Hok := Lib.hid hok
  obtain ⟨i0, hi0, hz0, hz1, hz2⟩ := info_parts Tryd.infoRule
  clear h hok
  go_enter Tryd.func29, Tryd.ntmps29
  go_wp2_with fail
  go_loopg [8, 3] l.length (fun k u8 u3 wr => ∃ i : Nat, i + k = l.length ∧ u8 = .int .i64 (i : Int) ∧ Hid (OwnAt RuleX 3 wr w.heap.size 25 u3 (l.take i)) ∧ Hid (Below w.heap.size w wr))
  case atStart => exact ⟨0, by omega, rfl, Lib.hid (by rw [List.take_zero]; exact OwnAt.nil _), Lib.hid (Below.refl _ _)⟩
  case round =>
    obtain ⟨i, hig, rfl, Hown, Hbel⟩ := hrel
    have hsw := Hbel.out.size
    cases gk with
    | zero =>
      obtain rfl : i = l.length := by omega
      have h9 := Hown.out
      rw [List.take_of_length_le (Nat.le_refl _)] at h9
      have Hend := Lib.hid h9
      clear h9 Hown
      go_wp2_with fail
      go_ret
      exact ⟨_, rfl, Hend.out, Hbel.out⟩
    | succ k =>
      have hil : i < l.length := by omega
      obtain ⟨x, hxi⟩ : ∃ x, l[i]? = some x := ⟨l[i]'(by omega), List.getElem?_eq_getElem _⟩
      obtain ⟨bk, o, c', hv, _, _, hbs, hcell⟩ := H.out.form (by omega) (by omega)
      cases hv
      obtain ⟨ds, _, hcc, hR⟩ := hcell i x hxi
      obtain ⟨y0, y1, y2, rfl, s0, s1, s2⟩ := hR
      obtain ⟨a0', c0', rfl, _, _⟩ := s0.row.len
      obtain ⟨a1', c1', rfl, _, _⟩ := s1.row.len
      obtain ⟨a2', c2', rfl, _, _⟩ := s2.row.len
      have e0 : wr.cell? ⟨bk, o + i * 3, none⟩ = some (.slice a0' x.verbs.length c0') := (Hbel.out.cell (p := ⟨bk, _, none⟩) hbs).trans (by simpa using hcc 0 _ rfl)
      have e1 : wr.cell? ⟨bk, o + i * 3 + 1, none⟩ = some (.slice a1' x.kinds.length c1') := (Hbel.out.cell (p := ⟨bk, _, none⟩) hbs).trans (hcc 1 _ rfl)
      have e2 : wr.cell? ⟨bk, o + i * 3 + 2, none⟩ = some (.slice a2' x.names.length c2') := (Hbel.out.cell (p := ⟨bk, _, none⟩) hbs).trans (hcc 2 _ rfl)
      have q1 : (0 : Int) ≤ (i : Int) := by omega
      have q2 : (i : Int) < (l.length : Int) := by omega
      obtain ⟨⟨o0, _⟩, ⟨o1, _⟩, ⟨o2, _⟩⟩ := Hok.out x (List.mem_of_getElem? hxi)
      have S0 := Lib.hid s0
      have S1 := Lib.hid s1
      have S2 := Lib.hid s2
      have htk : l.take (i + 1) = l.take i ++ [x] := by rw [List.take_add_one, hxi]; rfl
      have Htk := Lib.hid htk
      have hlt : (l.take i).length = i := by rw [List.length_take]; omega
      have Hlt := Lib.hid hlt
      obtain ⟨n0, Hn0⟩ : ∃ n, Hid (x.verbs.length = n) := ⟨_, Lib.hid rfl⟩
      obtain ⟨n1, Hn1⟩ : ∃ n, Hid (x.kinds.length = n) := ⟨_, Lib.hid rfl⟩
      obtain ⟨n2, Hn2⟩ : ∃ n, Hid (x.names.length = n) := ⟨_, Lib.hid rfl⟩
      rw [Hn0.out] at e0 S0
      rw [Hn1.out] at e1 S1
      rw [Hn2.out] at e2 S2
      clear hcc hcell hxi s0 s1 s2 htk hlt
      go_upto_region 5 with fail
      obtain ⟨W, hW⟩ : ∃ W, W = wr.alloc (.cells #[.slice a0' n0 c0', .slice a1' n1 c1', .slice a2' n2 c2'] 25) := ⟨_, rfl⟩
      obtain ⟨gb, hgb⟩ : ∃ gb, gb = wr.heap.size := ⟨_, rfl⟩
      rw [← hW, ← hgb]
      have c0 : W.heap[gb]? = some (.cells #[.slice a0' n0 c0', .slice a1' n1 c1', .slice a2' n2 c2'] 25 (0, 0)) := by rw [hW, hgb]; exact heap_alloc_new wr _
      have hWs : gb < W.heap.size := by rw [hW, hgb]; simp
      have hb5 : Below wr.heap.size wr W := by rw [hW]; exact (Below.refl _ _).alloc (Nat.le_refl _) _
      have hWb : Below w.heap.size w W := Hbel.out.trans (hb5.mono hsw)
      have hWw : w.heap.size ≤ W.heap.size := hWb.size
      have HownW := Lib.hid (Hown.out.belowX ruleX_stays hb5)
      have hne5 : ∀ g, u3.ownBlock = some g → g ≠ gb := fun g hg => by have := (Hown.out.at hg).2.1; omega
      have Hne5 := Lib.hid hne5
      have HWb := Lib.hid hWb
      clear hW hgb hb5 Hown e0 e1 e2 hne5 hWb
      refine wp_region_relB 12 (fun i u w' => match i with
        | 0 => u 0 = u3 | 1 => u 1 = .pointer (some ⟨gb, 0, none⟩) | 2 => u 2 = .slice a0' n0 c0' | 3 => OwnAt RString 1 w' W.heap.size 9 (u 3) x.verbs
        | 4 => u 4 = .pointer (some ⟨gb, 1, none⟩) | 5 => u 5 = .slice a1' n1 c1' | 6 => OwnAt RString 1 w' W.heap.size 9 (u 6) x.kinds
        | 7 => u 7 = .pointer (some ⟨gb, 2, none⟩) | 8 => u 8 = .slice a2' n2 c2' | 9 => OwnAt RString 1 w' W.heap.size 9 (u 9) x.names
        | 10 => ∃ c0 c1 c2 : Value, u 10 = .agg #[c0, c1, c2] ∧ RuleX w' [c0, c1, c2] x | 11 => RowAt RuleX 3 w' (u 11) [x]
        | _ => True)
        (fun | 2 => [1] | 3 => [2] | 5 => [4] | 6 => [5] | 8 => [7] | 9 => [8] | 10 => [3, 6, 9] | 11 => [10] | _ => []) (by kernel_rfl) (by kernel_rfl) ?_ ⟨?_, ?_, ?_, ?_, ?_, ?_, ?_, ?_, ?_, ?_, ?_, ?_, trivial⟩ ?_
      · intro j v w1 w2 hb h
        match j, h with
        | 0, h => exact h
        | 1, h => exact h
        | 2, h => exact h
        | 3, h => exact OwnAt.below stays_string h hb
        | 4, h => exact h
        | 5, h => exact h
        | 6, h => exact OwnAt.below stays_string h hb
        | 7, h => exact h
        | 8, h => exact h
        | 9, h => exact OwnAt.below stays_string h hb
        | 10, ⟨c0, c1, c2, h1, h2⟩ => exact ⟨c0, c1, c2, h1, ruleX_stays _ _ _ _ (sameBut_below hb) h2⟩
        | 11, h => exact RowAt.belowX ruleX_stays h hb
        | _ + 12, h => trivial
      · intro x' w' hb hd
        refine owes_here u3 (by rfl) ?_ rfl
        simp only [putAll, List.take_succ_cons, List.take_zero]
        go_simp
      · intro x' w' hb hd
        refine owes_here (.pointer (some ⟨gb, 0, none⟩)) (by rfl) ?_ rfl
        simp only [putAll, List.take_succ_cons, List.take_zero]
        go_simp
      · intro x' w' hb hd
        have h0 : x' 1 = .pointer (some ⟨gb, 0, none⟩) := hd 1 (by simp)
        have d0 := (hb.block gb (by show gb < W.heap.size; omega)).trans c0
        refine owes_here (.slice a0' n0 c0') (by rfl) ?_ rfl
        simp only [putAll, List.take_succ_cons, List.take_zero]
        have e3 := cell_block d0 0
        go_simp
      · intro x' w' hb hd
        have h0 : x' 2 = .slice a0' n0 c0' := hd 2 (by simp)
        have hb2 : Below w.heap.size w w' := HWb.out.drew.trans (hb.mono (by show w.heap.size ≤ W.heap.size; omega))
        refine owes_call 51 #[.slice a0' n0 c0'] (by rfl) ?_ ((cloneTexts_any _ _ w' (S0.out.below' hb2) (by omega)).mono ?_)
        · simp only [putAll, List.take_succ_cons, List.take_zero]
          go_simp
        · rintro _ w2 ⟨v2, rfl, ho, hb3⟩
          exact ⟨v2, rfl, ho.mono (by have h9 : W.heap.size ≤ w'.heap.size := hb.size; omega), hb3⟩
      · intro x' w' hb hd
        refine owes_here (.pointer (some ⟨gb, 1, none⟩)) (by rfl) ?_ rfl
        simp only [putAll, List.take_succ_cons, List.take_zero]
        go_simp
      · intro x' w' hb hd
        have h0 : x' 4 = .pointer (some ⟨gb, 1, none⟩) := hd 4 (by simp)
        have d0 := (hb.block gb (by show gb < W.heap.size; omega)).trans c0
        refine owes_here (.slice a1' n1 c1') (by rfl) ?_ rfl
        simp only [putAll, List.take_succ_cons, List.take_zero]
        have e3 := cell_block d0 1
        go_simp
      · intro x' w' hb hd
        have h0 : x' 5 = .slice a1' n1 c1' := hd 5 (by simp)
        have hb2 : Below w.heap.size w w' := HWb.out.drew.trans (hb.mono (by show w.heap.size ≤ W.heap.size; omega))
        refine owes_call 51 #[.slice a1' n1 c1'] (by rfl) ?_ ((cloneTexts_any _ _ w' (S1.out.below' hb2) (by omega)).mono ?_)
        · simp only [putAll, List.take_succ_cons, List.take_zero]
          go_simp
        · rintro _ w2 ⟨v2, rfl, ho, hb3⟩
          exact ⟨v2, rfl, ho.mono (by have h9 : W.heap.size ≤ w'.heap.size := hb.size; omega), hb3⟩
      · intro x' w' hb hd
        refine owes_here (.pointer (some ⟨gb, 2, none⟩)) (by rfl) ?_ rfl
        simp only [putAll, List.take_succ_cons, List.take_zero]
        go_simp
      · intro x' w' hb hd
        have h0 : x' 7 = .pointer (some ⟨gb, 2, none⟩) := hd 7 (by simp)
        have d0 := (hb.block gb (by show gb < W.heap.size; omega)).trans c0
        refine owes_here (.slice a2' n2 c2') (by rfl) ?_ rfl
        simp only [putAll, List.take_succ_cons, List.take_zero]
        have e3 := cell_block d0 2
        go_simp
      · intro x' w' hb hd
        have h0 : x' 8 = .slice a2' n2 c2' := hd 8 (by simp)
        have hb2 : Below w.heap.size w w' := HWb.out.drew.trans (hb.mono (by show w.heap.size ≤ W.heap.size; omega))
        refine owes_call 51 #[.slice a2' n2 c2'] (by rfl) ?_ ((cloneTexts_any _ _ w' (S2.out.below' hb2) (by omega)).mono ?_)
        · simp only [putAll, List.take_succ_cons, List.take_zero]
          go_simp
        · rintro _ w2 ⟨v2, rfl, ho, hb3⟩
          exact ⟨v2, rfl, ho.mono (by have h9 : W.heap.size ≤ w'.heap.size := hb.size; omega), hb3⟩
      · intro x' w' hb hd
        have h3 : OwnAt RString 1 w' W.heap.size 9 (x' 3) x.verbs := hd 3 (by simp)
        have h6 : OwnAt RString 1 w' W.heap.size 9 (x' 6) x.kinds := hd 6 (by simp)
        have h9 : OwnAt RString 1 w' W.heap.size 9 (x' 9) x.names := hd 9 (by simp)
        obtain ⟨a3, q3, E3, _, _⟩ := h3.row.len
        obtain ⟨a6, q6, E6, _, _⟩ := h6.row.len
        obtain ⟨a9, q9, E9, _, _⟩ := h9.row.len
        refine owes_here (.agg #[x' 3, x' 6, x' 9]) (by rfl) ?_ ⟨_, _, _, rfl, _, _, _, rfl, h3.strX (by decide), h6.strX (by decide), h9.strX (by decide)⟩
        clear h3 h6 h9 hd
        simp only [putAll, List.take_succ_cons, List.take_zero]
        rw [E3, E6, E9]
        go_simp
      · intro x' w' hb hd
        obtain ⟨d0, d1, d2, h10, hx⟩ : ∃ c0 c1 c2 : Value, x' 10 = .agg #[c0, c1, c2] ∧ RuleX w' [c0, c1, c2] x := hd 10 (by simp)
        have hx2 := hx
        obtain ⟨_, _, _, hcs, g0, g1, g2⟩ := hx
        simp only [List.cons.injEq, and_true] at hcs
        obtain ⟨rfl, rfl, rfl⟩ := hcs
        obtain ⟨a3, q3, rfl, _, _⟩ := g0.1.row.len
        obtain ⟨a6, q6, rfl, _, _⟩ := g1.1.row.len
        obtain ⟨a9, q9, rfl, _, _⟩ := g2.1.row.len
        refine owes_makes (w' := w'.alloc (.cells #[.slice a3 x.verbs.length q3, .slice a6 x.kinds.length q6, .slice a9 x.names.length q9] 25)) (.slice (some ⟨w'.heap.size, 0, none⟩) 1 1) (by rfl) ?_ (RowAt.one (heap_alloc_new w' _) rfl (ruleX_stays _ _ _ _ (sameBut_below ((Below.refl _ w').alloc (Nat.le_refl _) _)) hx2)) ((Below.refl _ w').alloc (Nat.le_refl _) _)
        clear g0 g1 g2 hd hx2
        simp only [putAll, List.take_succ_cons, List.take_zero]
        rw [h10]
        go_simp
      · intro x' w' hb hR
        have h0 : x' 0 = u3 := hR 0 (by omega)
        have h11 : RowAt RuleX 3 w' (x' 11) [x] := hR 11 (by omega)
        have hbW : Below W.heap.size W w' := by have := hb; exact (Below.refl _ W).drew.trans hb
        obtain ⟨g, q, E11, _, _⟩ := h11.len
        rw [E11] at h11
        have Hown2 := Lib.hid (HownW.out.belowX ruleX_stays hbW)
        have Hbel2 := Lib.hid (HWb.out.trans (hbW.mono hWw))
        have hsz : w.heap.size ≤ w'.heap.size := Hbel2.out.size
        have H11 := Lib.hid h11
        clear hR h11 hb hbW
        simp only [putAll, List.take_succ_cons, List.take_zero, List.drop_succ_cons, List.drop_zero]
        rw [h0, E11]
        clear h0 E11
        try simp only [Act.put, List.setIfInBounds_toArray, List.set_cons_zero, List.set_cons_succ]
        go_wp2_with (at_builtin; refine wpList_append_ownAtX (R := RuleX) (k := 3) (e := 25) (B := w.heap.size) (l := l.take i) (m := [x]) _ (by rfl) _ _ _ (by rfl) i0 _ 72 Tryd.underlying22 hi0 hz0 hz1 hz2 rfl (by omega) ruleX_stays one_ruleX _ (by rfl) Hown2.out _ (by rfl) H11.out (by unfold maxLen; rw [Hlt.out]; simp; omega) (by rw [Hlt.out]; simp; omega) hsz ?_)
        intro v' w9 hown9 hg9 hr9 _
        have Hbel9 := Lib.hid (below_of_grown Hbel2.out hsz hg9 hr9)
        have Hfin : Hid (OwnAt RuleX 3 w9 w.heap.size 25 v' (l.take (i + 1))) := Lib.hid (by rw [Htk.out]; exact hown9)
        clear hown9 hg9 hr9 H11 Hown2 Hbel2
        go_wp2_with fail
        go_roundg k
        case measure => omega
        case rel => exact ⟨i + 1, by omega, by go_num, Hfin, Hbel9⟩
end Go.Proofs.YtkkfnihdnclgiaaDoor
