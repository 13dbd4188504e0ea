/- Texts of ours joined. -/
import Derived.Test.YtdcmnpeabjallaaGreatDoorMz10
set_option linter.unusedVariables false
set_option linter.unusedSimpArgs false
namespace Go.Proofs.YtdcmnpeabjallaaGreatDoor
open Go.RowKit
open JP (JV Bs Lf)
def TexO (B : Nat) : Rd GOwned := fun w cs x => ∃ v, cs = [.string x.manager, v] ∧ MrkAt B w v x.paths
theorem texO_one (B : Nat) : OneR (TexO B) := fun w cs x ⟨v, h1, h2⟩ u hu => by
  rw [h1] at hu
  simp only [List.mem_cons, List.not_mem_nil, or_false] at hu
  rcases hu with rfl | rfl
  · rfl
  · exact h2.one
theorem texO_staysX (B : Nat) : StaysX 30 (TexO B) := fun w w' cs x hs ⟨v, h1, h2⟩ => ⟨v, h1, h2.same hs (by decide)⟩
theorem texO_rows {B : Nat} {w : World} {v : Value} {l : List GOwned} (h : RowAt (TexO B) 2 w v l) (hz : Small l) : RowAt OwnedR 2 w v l := by
  rcases h with h | ⟨a, c, h1, h2, h3, h4⟩
  · exact .inl h
  · refine .inr ⟨a, c, h1, h2, h3, fun j x hx => ?_⟩
    obtain ⟨cs, g1, g2, v1, e1, e2⟩ := h4 j x hx
    exact ⟨cs, g1, g2, v1, e1, e2.str (hz.2 x (List.mem_of_getElem? hx)).2.1⟩
structure CpyAt (B : Nat) (w : World) (v : Value) (l : List ByteArray) : Prop where
  own : OwnAt RString 1 w B 9 v l
theorem CpyAt.below {B : Nat} {w w' : World} {v : Value} {l : List ByteArray} (h : CpyAt B w v l) (hb : Below w.heap.size w w') : CpyAt B w' v l := ⟨h.own.below stays_string hb⟩
theorem CpyAt.one {B : Nat} {w : World} {v : Value} {l : List ByteArray} (h : CpyAt B w v l) : v.oneCell' = true := by
  rcases h.own.form with ⟨e, _⟩ | ⟨g, c, e, _⟩ <;> rw [e] <;> rfl
def HadO (B : Nat) : Rd GOwned := fun w cs x => ∃ v, cs = [.string x.manager, v] ∧ CpyAt B w v x.paths
theorem hadO_one (B : Nat) : OneR (HadO B) := fun w cs x ⟨v, h1, h2⟩ u hu => by
  rw [h1] at hu
  simp only [List.mem_cons, List.not_mem_nil, or_false] at hu
  rcases hu with rfl | rfl
  · rfl
  · exact h2.one
theorem hadO_staysX (B : Nat) : StaysX 30 (HadO B) := fun w w' cs x hs ⟨v, h1, ⟨css, q1, q2, q3, q4⟩⟩ => ⟨v, h1, ⟨css, q1, q2, ⟨q3.1, by
  rcases q3.2 with h5 | ⟨q, cap, cur, h6, hB, hh, hr⟩
  · exact .inl h5
  · exact .inr ⟨q, cap, cur, h6, hB, hs _ _ _ _ hh (by decide), hr⟩⟩, q4⟩⟩
theorem hadO_mid {B0 H : Nat} {w w' : World} {v : Value} {l : List GOwned} (h : OwnAt (HadO H) 2 w H 30 v l) (hm : Mid B0 H w w') : RowAt OwnedR 2 w' v l := by
  have h1 : OwnAt (AtW w (HadO H)) 2 w H 30 v l := by
    obtain ⟨css, q1, q2, q3, q4⟩ := h
    exact ⟨css, q1, q2, q3, q4⟩
  rcases (h1.mid (flat_atW _ _) hm (Nat.le_refl _)).row with h9 | ⟨a, c, e1, e2, e3, e4⟩
  · exact .inl h9
  · refine .inr ⟨a, c, e1, e2, e3, fun j x hx => ?_⟩
    obtain ⟨cs, g1, g2, v1, k1, k2⟩ := e4 j x hx
    exact ⟨cs, g1, g2, v1, k1, (k2.own.mid flat_string hm (Nat.le_refl _)).row.strs⟩
theorem told_mid {lo B0 H B : Nat} {wl w w' : World} {v : Value} {L : List JP.OwnP} (h : OwnAt (OwnedX lo wl) 2 w B 30 v L) (hb : Below wl.heap.size wl w) (hm : Mid B0 H w w') (h1 : H ≤ lo) (h2 : H ≤ B) : RowAt OwnedR 2 w' v (L.map gP) := by
  rcases (h.mid (ownedX_flat _ _) hm h2).row with ⟨h3, h4⟩ | ⟨a, c, e1, e2, e3, e4⟩
  · exact .inl ⟨h3, by rw [h4]; rfl⟩
  · refine .inr ⟨a, c, by rw [List.length_map]; exact e1, by rw [List.length_map]; exact e2, e3, fun j x hx => ?_⟩
    rw [List.getElem?_map] at hx
    obtain ⟨y, hy, rfl⟩ := Option.map_eq_some_iff.1 hx
    obtain ⟨cs, g1, g2, v1, k1, k2⟩ := e4 j y hy
    exact ⟨cs, g1, g2, v1, k1, ((k2.below stays_string hb).mid flat_string hm h1).row.strs⟩
theorem mid_below {B H : Nat} {a w w' : World} (h : Mid B H a w) (hb : Below w.heap.size w w') : Mid B H a w' :=
  ⟨hb.os.trans h.os, hb.tape.trans h.tape, hb.output.trans h.output, Nat.le_trans h.size hb.size, fun k hk1 hk2 => (hb.block k (Nat.lt_of_lt_of_le hk1 h.size)).trans (h.block k hk1 hk2), fun k cs t hc => by
    obtain ⟨cs1, c1, c2⟩ := h.kind k cs t hc
    exact ⟨cs1, below_block hb c1, c2⟩⟩
theorem ownStr_at {w : World} {B : Nat} {v : Value} {l : List ByteArray} (h : w.ownsRow B 9 1 v l.length (strs l)) : OwnAt RString 1 w B 9 v l := by
  refine ⟨l.map fun s => [.string s], by rw [List.length_map], fun cs hcs => ?_, ?_, fun j cs x hcs hx => ?_⟩
  · obtain ⟨s, _, rfl⟩ := List.mem_map.1 hcs; rfl
  · have e : (l.map fun s => ([.string s] : List Value)).flatten = strs l := by
      unfold strs
      clear h
      induction l with
      | nil => rfl
      | cons a r ih => rw [List.map_cons, List.flatten_cons, List.map_cons, ih]; rfl
    rw [e]; exact h
  · rw [List.getElem?_map, hx] at hcs
    cases hcs; rfl
set_option maxRecDepth 100000 in
set_option maxHeartbeats 12800000 in
theorem ownFields_walk (a : ByteArray) (v : Value) (l : List GOwned) (m want : ByteArray) (force : Bool) (w : World) (hrow : RowAt OwnedR 2 w v l) (hbulk : a.data.toList.length + ((l.map ownedB).sum + (m.data.toList.length + want.data.toList.length)) ≤ 1048576) (hE : Env w) :
    Calls Tryz.prog 8 #[.string a, v, .string m, .string want, .bool force] w fun e w' => e = .returned (.bool true) ∧ Below w.heap.size w w' := by
  obtain ⟨mb, rfl⟩ : ∃ mb, m = mkB mb := ⟨m.data.toList, (mkB_of m).symm⟩
  rw [mkB_list] at hbulk
  obtain ⟨i0, hi0, hz0, hz1, hz2⟩ := info_parts Tryz.infoOwned
  have hsm := small_of_bulk (l := l) (by omega)
  have ha : a.size ≤ 1048576 := by rw [← list_size]; omega
  have hw : want.size ≤ 1048576 := by rw [← list_size]; omega
  have hmb : mb.length ≤ 1048576 := by omega
  obtain ⟨a1, c1, rfl, -, -⟩ := hrow.len
  obtain ⟨nl, hnl⟩ : ∃ n, l.length = n := ⟨_, rfl⟩
  have hll : nl ≤ 1048576 := by rw [← hnl]; exact hsm.1
  rw [hnl] at hrow ⊢
  have HE := Lib.hid hE
  have Hsm := Lib.hid hsm
  have HRow := Lib.hid hrow
  have Hnl := Lib.hid hnl
  clear hrow hbulk hE hsm hnl
  go_enter Tryz.func8, Tryz.ntmps8
  go_wp2_with fail
  go_loopg [11, 27] nl (fun k u11 u27 wr => ∃ i : Nat, i + k = nl ∧ u27 = .int .i64 (i : Int) ∧ Hid (OwnAt (TexO w.heap.size) 2 wr w.heap.size 30 u11 (l.take i)) ∧ Hid (Below w.heap.size w wr))
  case atStart => exact ⟨0, by omega, rfl, Lib.hid (OwnAt.nil _), Lib.hid (Below.refl _ _)⟩
  case round =>
    obtain ⟨i, hig, rfl, Hown, Hbel⟩ := hrel
    have hsr := Hbel.out.size
    cases gk with
    | succ k =>
      have hil : i < nl := by omega
      obtain ⟨x, hx⟩ : ∃ x, l[i]? = some x := ⟨l[i]'(by rw [Hnl.out]; exact hil), List.getElem?_eq_getElem _⟩
      obtain ⟨b, o, c', hv, _, _, hbs, hcell⟩ := HRow.out.form (by rw [Hnl.out]; omega) (by omega)
      injection hv with u1 u2 u3
      subst u1
      clear u2 u3
      obtain ⟨ds, _, hcc, v1, rfl, hstr⟩ := hcell i x hx
      obtain ⟨xa, xc, rfl, -, -⟩ := hstr.row.len
      obtain ⟨xn, hxn⟩ : ∃ n, x.paths.length = n := ⟨_, rfl⟩
      rw [hxn] at hcc hstr
      have hxl2 : x.paths.length ≤ 1048576 := (Hsm.out.2 x (List.mem_of_getElem? hx)).2.1
      have e0 : wr.cell? ⟨b, o + i * 2, none⟩ = some (.string x.manager) := (Hbel.out.cell (p := ⟨b, _, none⟩) hbs).trans (by simpa using hcc 0 _ rfl)
      have e1 : wr.cell? ⟨b, o + i * 2 + 1, none⟩ = some (.slice xa xn xc) := (Hbel.out.cell (p := ⟨b, _, none⟩) hbs).trans (hcc 1 _ rfl)
      have q1 : (0 : Int) ≤ (i : Int) := by omega
      have q2 : (i : Int) < (nl : Int) := by omega
      obtain ⟨w1, hw1⟩ : ∃ w1, w1 = wr.alloc (.cells #[.string x.manager, .slice xa xn xc] 30) := ⟨_, rfl⟩
      obtain ⟨g7, hg7⟩ : ∃ g7, g7 = wr.heap.size := ⟨_, rfl⟩
      have b1 : w1.heap[g7]? = some (.cells #[.string x.manager, .slice xa xn xc] 30 (0, 0)) := by rw [hw1, hg7]; exact heap_alloc_new wr _
      have hb1 : Below wr.heap.size wr w1 := by rw [hw1]; exact (Below.refl _ wr).alloc (Nat.le_refl _) _
      have hs1 : g7 < w1.heap.size := by rw [hw1, hg7, World.size_alloc]; omega
      have HStr := Lib.hid ((hstr.below Hbel.out).below hb1)
      have B1 := Lib.hid b1
      have HO1 := Lib.hid (Hown.out.belowX (texO_staysX _) hb1)
      have HB1 := Lib.hid (Hbel.out.trans (hb1.mono hsr))
      have hsw1 := HB1.out.size
      have Hx := Lib.hid hx
      have Hlen : Hid ((l.take i).length = i) := Lib.hid (by rw [List.length_take, Hnl.out]; omega)
      clear hcc hcell hstr hx hb1 b1 Hown hxn
      go_upto_region 5 with fail
      rw [← hw1, ← hg7]
      clear hw1 hg7 e0 e1
      refine wp_region_relK 8 (fun w' => Below w1.heap.size w1 w') (fun _ wa wb => Below wa.heap.size wa wb) (fun j U w' => match j with
        | 0 => U 0 = u11
        | 1 => U 1 = .pointer (some ⟨g7, 0, none⟩)
        | 2 => U 2 = .string x.manager
        | 3 => U 3 = .pointer (some ⟨g7, 1, none⟩)
        | 4 => U 4 = .slice xa xn xc
        | 5 => MrkAt w.heap.size w' (U 5) x.paths
        | 6 => U 6 = .agg #[.string x.manager, U 5]
        | 7 => ∃ g c, U 7 = .slice (some ⟨g, 0, none⟩) 1 1 ∧ U 6 = .agg c ∧ w'.heap[g]? = some (.cells c 30 (0, 0))
        | _ => True)
        (fun | 2 => [1] | 4 => [3] | 5 => [4] | 6 => [2, 5] | 7 => [6] | _ => []) (by kernel_rfl) (by kernel_rfl) (Below.refl _ _).drew (fun _ _ _ hk hi => below_then hi hk) ?_ ⟨?_, ?_, ?_, ?_, ?_, ?_, ?_, ?_, trivial⟩ ?_
      · intro i' j U wa wb hji hk hi h
        match j, h with
        | 0, h => exact h
        | 1, h => exact h
        | 2, h => exact h
        | 3, h => exact h
        | 4, h => exact h
        | 5, h => exact MrkAt.below h hk
        | 6, h => exact h
        | 7, ⟨g, c, h1, h2, h3⟩ => exact ⟨g, c, h1, h2, below_block hk h3⟩
        | _ + 8, h => trivial
      · intro y w' hb hd
        refine owesK_here u11 (by rfl) ?_ rfl (Below.refl _ _)
        simp only [putAll, List.take_succ_cons, List.take_zero]
        go_simp
      · intro y w' hb hd
        refine owesK_here (.pointer (some ⟨g7, 0, none⟩)) (by rfl) ?_ rfl (Below.refl _ _)
        simp only [putAll, List.take_succ_cons, List.take_zero]
        go_simp
      · intro y w' hb hd
        have h0 : y 1 = .pointer (some ⟨g7, 0, none⟩) := hd 1 (by simp)
        have d0 := (hb.block g7 hs1).trans B1.out
        have cc := fun i => cell_block d0 i
        clear d0
        refine owesK_here (.string x.manager) (by rfl) ?_ rfl (Below.refl _ _)
        simp only [putAll, List.take_succ_cons, List.take_zero]
        go_simp
      · intro y w' hb hd
        refine owesK_here (.pointer (some ⟨g7, 1, none⟩)) (by rfl) ?_ rfl (Below.refl _ _)
        simp only [putAll, List.take_succ_cons, List.take_zero]
        go_simp
      · intro y w' hb hd
        have h0 : y 3 = .pointer (some ⟨g7, 1, none⟩) := hd 3 (by simp)
        have d0 := (hb.block g7 hs1).trans B1.out
        have cc := fun i => cell_block d0 i
        clear d0
        refine owesK_here (.slice xa xn xc) (by rfl) ?_ rfl (Below.refl _ _)
        simp only [putAll, List.take_succ_cons, List.take_zero]
        go_simp
      · intro y w' hb hd
        have h0 : y 4 = .slice xa xn xc := hd 4 (by simp)
        have hsz := hb.size
        refine owesK_call 22 #[.slice xa xn xc] (by rfl) ?_ ((texts_any _ x.paths w' (HStr.out.below hb) hxl2).mono ?_)
        · simp only [putAll, List.take_succ_cons, List.take_zero]
          go_simp
        · rintro _ w3 ⟨g, rfl, hg, hbg, hb3⟩
          exact ⟨_, rfl, ⟨g, rfl, by omega, hbg⟩, hb3⟩
      · intro y w' hb hd
        have h2 : y 2 = .string x.manager := hd 2 (by simp)
        have h5 : MrkAt w.heap.size w' (y 5) x.paths := hd 5 (by simp)
        refine owesK_here (.agg #[.string x.manager, y 5]) (by rfl) ?_ rfl (Below.refl _ _)
        clear hd
        simp only [putAll, List.take_succ_cons, List.take_zero]
        obtain ⟨k5, E5, _, _⟩ := h5
        rw [E5]
        go_simp
      · intro y w' hb hd
        have h10 : y 6 = .agg #[.string x.manager, y 5] := hd 6 (by simp)
        refine owesK_makes (w' := w'.alloc (.cells #[.string x.manager, y 5] 30)) (.slice (some ⟨w'.heap.size, 0, none⟩) 1 1) (by rfl) ?_ ⟨_, _, rfl, h10, heap_alloc_new w' _⟩ ((Below.refl _ _).alloc (Nat.le_refl _) _)
        simp only [putAll, List.take_succ_cons, List.take_zero]
        rw [h10]
        go_simp
      · intro y w' hb hR
        have h0 : y 0 = u11 := hR 0 (by omega)
        have h2 : y 2 = .string x.manager := hR 2 (by omega)
        have h5 : MrkAt w.heap.size w' (y 5) x.paths := hR 5 (by omega)
        have h6 : y 6 = .agg #[.string x.manager, y 5] := hR 6 (by omega)
        obtain ⟨gx, cx, h7, h8, h9⟩ : ∃ g c, y 7 = .slice (some ⟨g, 0, none⟩) 1 1 ∧ y 6 = .agg c ∧ w'.heap[g]? = some (.cells c 30 (0, 0)) := hR 7 (by omega)
        rw [h6] at h8
        injection h8 with h8
        subst h8
        have H9 := Lib.hid h9
        obtain ⟨vx, hvx⟩ : ∃ v, y 5 = v := ⟨_, rfl⟩
        rw [hvx] at h5 h6 H9
        have HX : Hid (TexO w.heap.size w' [.string x.manager, vx] x) := Lib.hid ⟨_, rfl, h5⟩
        have HO4 := Lib.hid (HO1.out.belowX (texO_staysX _) hb)
        have HB4 := Lib.hid (HB1.out.trans (hb.mono hsw1))
        have hsz4 := HB4.out.size
        have h5o := MrkAt.one h5
        clear hR hb HO1 HB1 h9 h5
        simp only [putAll, List.take_succ_cons, List.take_zero, List.drop_succ_cons, List.drop_zero]
        rw [h0, h2, h7, h6, hvx]
        clear h0 h2 h6 h7 hvx
        try simp only [Act.put, List.setIfInBounds_toArray, List.set_cons_zero, List.set_cons_succ]
        go_wp2_with (at_builtin; refine wpList_append_ownAtX (R := TexO w.heap.size) (k := 2) (e := 30) (B := w.heap.size) (l := l.take i) (m := [x]) _ (by rfl) _ _ _ (by rfl) i0 _ 40 Tryz.underlying22 hi0 hz0 hz1 hz2 rfl (by omega) (texO_staysX _) (texO_one _) _ (by rfl) HO4.out (.slice (some ⟨gx, 0, none⟩) 1 1) (by rfl) (RowAt.one (R := TexO w.heap.size) (k := 2) H9.out rfl HX.out) (by rw [Hlen.out]; unfold maxLen; simp; omega) (by rw [Hlen.out]; simp; omega) hsz4 ?_)
        intro v' w5 hv' hgr hr _
        have HB5 := Lib.hid (below_of_grown HB4.out hsz4 hgr hr)
        have HO5 : Hid (OwnAt (TexO w.heap.size) 2 w5 w.heap.size 30 v' (l.take (i + 1))) := Lib.hid (by
          rw [List.take_add_one, Hx.out]
          exact hv')
        clear hv' hgr hr HO4 HX HB4
        go_wp2_with fail
        go_roundg k
        case measure => omega
        case rel => exact ⟨i + 1, by omega, by go_num, HO5, HB5⟩
    | zero =>
      obtain rfl : i = nl := by omega
      have hown := Hown.out
      rw [List.take_of_length_le (by rw [Hnl.out]; exact Nat.le_refl _)] at hown
      obtain ⟨w2, hw2⟩ : ∃ w2, w2 = wr := ⟨_, rfl⟩
      rw [← hw2] at Hbel hown hsr ⊢
      clear hw2 Hown
      obtain ⟨ai, ci, hui, -, -⟩ := hown.row.len
      rw [Hnl.out] at hui
      subst hui
      have HIn := Lib.hid hown
      have HW := Lib.hid (awry_any w2 (HE.out.below Hbel.out))
      clear hown
      go_wp2_with fail
      refine HW.out.mono ?_
      rintro E w3 ⟨rfl, hb3⟩
      have HB3 := Lib.hid (Hbel.out.trans (hb3.mono hsr))
      have Hb23 := Lib.hid hb3
      have hs3 := HB3.out.size
      have HIn3 := Lib.hid (HIn.out.belowX (texO_staysX _) hb3)
      have HA := Lib.hid (apply_any a want _ l mb force w3 (texO_rows HIn3.out.row Hsm.out) Hsm.out.1 Hsm.out.2 ha hw hmb (HE.out.below HB3.out))
      clear hb3 HW
      go_wp2_with fail
      refine HA.out.mono ?_
      rintro E w4 ⟨s, vL, vb, L, bad, er, wl, rfl, hI, hown, hwl, hvb, hb4, -⟩
      have hsm4 := told_small hI Hsm.out hmb
      obtain ⟨a2, c2, rfl, -, -⟩ := hown.row.len
      obtain ⟨n2, hn2⟩ : ∃ n, L.length = n := ⟨_, rfl⟩
      rw [hn2] at hown ⊢
      obtain ⟨a3, c3, rfl, -, -⟩ := hvb.row.len
      have HI := Lib.hid hI
      have Hsm4 := Lib.hid hsm4.1
      have HL := Lib.hid hown
      have Hwl := Lib.hid hwl
      have HB4 := Lib.hid (HB3.out.trans (hb4.mono hs3))
      have Hb24 := Lib.hid (Hb23.out.trans (hb4.mono Hb23.out.size))
      have hs4 := HB4.out.size
      have hs24 := Hb24.out.size
      have hs23 := Hb23.out.size
      have Hn2 := Lib.hid hn2
      have hn2l : n2 ≤ 1048576 := by rw [← hn2]; have h9 := hsm4.1.1; rwa [List.length_map] at h9
      clear hI hsm4 hown hwl hvb hb4 hn2 HA HIn3
      go_wp2_with fail
      go_loopg [56] i (fun k u56 wr => ∃ j : Nat, j + k = i ∧ u56 = .int .i64 (j : Int) ∧ Hid (Below w4.heap.size w4 wr))
      case atStart => exact ⟨0, by omega, rfl, Lib.hid (Below.refl _ _)⟩
      case round =>
        obtain ⟨j, hjg, rfl, Hbe⟩ := hrel
        have hsr4 := Hbe.out.size
        cases gk with
        | succ k =>
          have hji : j < i := by omega
          obtain ⟨x, hx⟩ : ∃ x, l[j]? = some x := ⟨l[j]'(by rw [Hnl.out]; exact hji), List.getElem?_eq_getElem _⟩
          obtain ⟨b, o, c', hv, _, _, hbs, hcell⟩ := HRow.out.form (by rw [Hnl.out]; omega) (by omega)
          injection hv with u1 u2 u3
          subst u1
          clear u2 u3
          obtain ⟨ds, _, hcc, v1, rfl, hstr⟩ := hcell j x hx
          obtain ⟨b', o', c'', hv, _, _, hbs', hcell'⟩ := HIn.out.row.form (by rw [Hnl.out]; omega) (by omega)
          injection hv with u1 u2 u3
          subst u1
          clear u2 u3
          obtain ⟨ds', _, hcc', v1', rfl, g, rfl, hgB, hgc⟩ := hcell' j x hx
          obtain ⟨xa, xc, rfl, -, -⟩ := hstr.row.len
          obtain ⟨xn, hxn⟩ : ∃ n, x.paths.length = n := ⟨_, rfl⟩
          have hokx : x.paths.length ≤ 1048576 := (Hsm.out.2 x (List.mem_of_getElem? hx)).2.1
          rw [hxn] at hcc hcc' hstr
          have HBr := Lib.hid (HB4.out.trans (Hbe.out.mono hs4))
          have Hb2r := Lib.hid (Hb24.out.trans (Hbe.out.mono hs24))
          have e0 : wr.cell? ⟨b, o + j * 2, none⟩ = some (.string x.manager) := (HBr.out.cell (p := ⟨b, _, none⟩) hbs).trans (by simpa using hcc 0 _ rfl)
          have e1 : wr.cell? ⟨b, o + j * 2 + 1, none⟩ = some (.slice xa xn xc) := (HBr.out.cell (p := ⟨b, _, none⟩) hbs).trans (hcc 1 _ rfl)
          have f0 : wr.cell? ⟨b', o' + j * 2, none⟩ = some (.string x.manager) := (Hb2r.out.cell (p := ⟨b', _, none⟩) hbs').trans (by simpa using hcc' 0 _ rfl)
          have f1 : wr.cell? ⟨b', o' + j * 2 + 1, none⟩ = some (.slice (some ⟨g, 0, none⟩) xn (xn + 2)) := (Hb2r.out.cell (p := ⟨b', _, none⟩) hbs').trans (hcc' 1 _ rfl)
          have q1 : (0 : Int) ≤ (j : Int) := by omega
          have q2 : (j : Int) < (i : Int) := by omega
          obtain ⟨w8, hw8⟩ : ∃ w8, w8 = wr.alloc (.cells #[.string x.manager, .slice (some ⟨g, 0, none⟩) xn (xn + 2)] 30) := ⟨_, rfl⟩
          obtain ⟨g8, hg8⟩ : ∃ g8, g8 = wr.heap.size := ⟨_, rfl⟩
          have b8 : w8.heap[g8]? = some (.cells #[.string x.manager, .slice (some ⟨g, 0, none⟩) xn (xn + 2)] 30 (0, 0)) := by rw [hw8, hg8]; exact heap_alloc_new wr _
          have hb8 : Below wr.heap.size wr w8 := by rw [hw8]; exact (Below.refl _ wr).alloc (Nat.le_refl _) _
          have hlt8 : g8 < w8.heap.size := by rw [hw8, hg8, World.size_alloc]; omega
          have hbs8 : b < w8.heap.size := by have := HBr.out.size; have := hb8.size; omega
          have e0' := (hb8.cell (p := ⟨b, o + j * 2, none⟩) (by have := HBr.out.size; show b < _; omega)).trans e0
          have e1' := (hb8.cell (p := ⟨b, o + j * 2 + 1, none⟩) (by have := HBr.out.size; show b < _; omega)).trans e1
          have hst8 : StrAt w8 (.slice xa xn xc) x.paths := (hstr.below HBr.out).below hb8
          have hgl := block_lt' hgc
          have hgc8 := (hb8.block g (by have h9 := Hb2r.out.size; omega)).trans ((Hb2r.out.block g hgl).trans hgc)
          have htx8 : MrkAt w.heap.size w8 (.slice (some ⟨g, 0, none⟩) x.paths.length (x.paths.length + 2)) x.paths := ⟨g, rfl, hgB, hgc8⟩
          have hmk8 := htx8.str hokx
          rw [hxn] at hmk8
          have HSm : Hid (∀ w', Below w8.heap.size w8 w' → Calls Tryz.prog 12 #[.agg #[.string x.manager, .slice (some ⟨g, 0, none⟩) xn (xn + 2)], .agg #[.string x.manager, .slice xa xn xc]] w' fun e w'' => e = .returned (.bool true) ∧ Below w'.heap.size w' w'') := Lib.hid fun w' hb =>
            sameOwned_yes x _ _ w' ⟨_, rfl, hmk8.below hb⟩ ⟨_, rfl, hst8.below hb⟩ hokx
          have HKp : Hid (∀ w', Below w8.heap.size w8 w' → Calls Tryz.prog 23 #[.slice (some ⟨g, 0, none⟩) xn (xn + 2), .slice xa xn xc] w' fun e w'' => e = .returned (.bool true) ∧ w' = w'') := Lib.hid fun w' hb => by
            have := kept_any (.slice xa xn xc) x.paths g w' (hst8.below hb) hokx (below_block hb hgc8)
            rwa [hxn] at this
          have HB8 := Lib.hid (Hbe.out.trans (hb8.mono hsr4))
          have cc := fun q => cell_block b8 q
          clear hcell hcell' hcc hcc' hstr hst8 hmk8 htx8 hgc hgc8 hx hb8 b8 hxn
          go_upto_region 13 with fail
          rw [← hw8, ← hg8]
          clear hw8 hg8 e0 e1 f0 f1
          refine wp_region_hold 17 (fun w' => Below w8.heap.size w8 w') (by kernel_rfl) (by kernel_rfl) ?_ ?_
          · exact (Below.refl _ w8).drew
          simp only [List.take_succ_cons, List.take_zero, List.drop_succ_cons, List.drop_zero]
          refine wpHold_read (v := .agg #[.string x.manager, .slice (some ⟨g, 0, none⟩) xn (xn + 2)]) (by rfl) (fun w' hI => ?_) ?_
          · have dd := fun q => (hI.cell (p := ⟨g8, q, none⟩) hlt8).trans (cc q)
            go_simp
            done
          try simp only [Act.put, List.setIfInBounds_toArray, List.set_cons_zero, List.set_cons_succ]
          (first | (refine wpHold_pure (v := ?_) (by rfl) (fun w => ?_) ?_; rotate_left; focus (first | (go_simp; done) | (go_simp; with_reducible rfl))) | (refine wpHold_skip ?_ ?_; focus (go_simp; done)) | (refine wpHold_pure' (v := ?_) ?_ (fun w => ?_) ?_; rotate_left; focus (go_simp; done); focus (first | (go_simp; done) | (go_simp; with_reducible rfl)))); try simp only [Act.put, List.setIfInBounds_toArray, List.set_cons_zero, List.set_cons_succ]
          (first | (refine wpHold_pure (v := ?_) (by rfl) (fun w => ?_) ?_; rotate_left; focus (first | (go_simp; done) | (go_simp; with_reducible rfl))) | (refine wpHold_skip ?_ ?_; focus (go_simp; done)) | (refine wpHold_pure' (v := ?_) ?_ (fun w => ?_) ?_; rotate_left; focus (go_simp; done); focus (first | (go_simp; done) | (go_simp; with_reducible rfl)))); try simp only [Act.put, List.setIfInBounds_toArray, List.set_cons_zero, List.set_cons_succ]
          refine wpHold_pure (v := .pointer (some ⟨b, o + j * 2, none⟩)) (by rfl) (fun w' => ?_) ?_
          · go_simp
            done
          try simp only [Act.put, List.setIfInBounds_toArray, List.set_cons_zero, List.set_cons_succ]
          refine wpHold_read (v := .agg #[.string x.manager, .slice xa xn xc]) (by rfl) (fun w' hI => ?_) ?_
          · have d0 := (hI.cell (p := ⟨b, o + j * 2, none⟩) hbs8).trans e0'
            have d1 := (hI.cell (p := ⟨b, o + j * 2 + 1, none⟩) hbs8).trans e1'
            go_simp
            done
          try simp only [Act.put, List.setIfInBounds_toArray, List.set_cons_zero, List.set_cons_succ]
          refine wpHold_call (v := .bool true) (f := 12) (args := #[.agg #[.string x.manager, .slice (some ⟨g, 0, none⟩) xn (xn + 2)], .agg #[.string x.manager, .slice xa xn xc]]) (by rfl) (fun w' => ?_) (fun w' hI => ?_) ?_
          · go_simp
            done
          · exact (HSm.out w' hI).mono fun e w'' ⟨h1, h2⟩ => ⟨h1, hI.trans (h2.mono hI.size)⟩
          try simp only [Act.put, List.setIfInBounds_toArray, List.set_cons_zero, List.set_cons_succ]
          (first | (refine wpHold_pure (v := ?_) (by rfl) (fun w => ?_) ?_; rotate_left; focus (first | (go_simp; done) | (go_simp; with_reducible rfl))) | (refine wpHold_skip ?_ ?_; focus (go_simp; done)) | (refine wpHold_pure' (v := ?_) ?_ (fun w => ?_) ?_; rotate_left; focus (go_simp; done); focus (first | (go_simp; done) | (go_simp; with_reducible rfl)))); try simp only [Act.put, List.setIfInBounds_toArray, List.set_cons_zero, List.set_cons_succ]
          (first | (refine wpHold_pure (v := ?_) (by rfl) (fun w => ?_) ?_; rotate_left; focus (first | (go_simp; done) | (go_simp; with_reducible rfl))) | (refine wpHold_skip ?_ ?_; focus (go_simp; done)) | (refine wpHold_pure' (v := ?_) ?_ (fun w => ?_) ?_; rotate_left; focus (go_simp; done); focus (first | (go_simp; done) | (go_simp; with_reducible rfl)))); try simp only [Act.put, List.setIfInBounds_toArray, List.set_cons_zero, List.set_cons_succ]
          refine wpHold_pure' (v := ?_) ?_ (fun w => ?_) ?_
          rotate_left
          focus (go_simp; done)
          focus (first | (go_simp; done) | (go_simp; with_reducible rfl))
          try simp only [Act.put, List.setIfInBounds_toArray, List.set_cons_zero, List.set_cons_succ]
          refine wpHold_read' (v := .slice (some ⟨g, 0, none⟩) xn (xn + 2)) ?_ (fun w' hI => ?_) ?_
          · go_simp
            done
          · have dd := fun q => (hI.cell (p := ⟨g8, q, none⟩) hlt8).trans (cc q)
            go_simp
            done
          try simp only [Act.put, List.setIfInBounds_toArray, List.set_cons_zero, List.set_cons_succ]
          refine wpHold_pure' (v := ?_) ?_ (fun w => ?_) ?_
          rotate_left
          focus (go_simp; done)
          focus (first | (go_simp; done) | (go_simp; with_reducible rfl))
          try simp only [Act.put, List.setIfInBounds_toArray, List.set_cons_zero, List.set_cons_succ]
          refine wpHold_pure' (v := ?_) ?_ (fun w => ?_) ?_
          rotate_left
          focus (go_simp; done)
          focus (first | (go_simp; done) | (go_simp; with_reducible rfl))
          try simp only [Act.put, List.setIfInBounds_toArray, List.set_cons_zero, List.set_cons_succ]
          refine wpHold_pure' (v := .pointer (some ⟨b, o + j * 2, none⟩)) ?_ (fun w' => ?_) ?_
          · go_simp
            done
          · go_simp
            done
          try simp only [Act.put, List.setIfInBounds_toArray, List.set_cons_zero, List.set_cons_succ]
          refine wpHold_pure' (v := ?_) ?_ (fun w => ?_) ?_
          rotate_left
          focus (go_simp; done)
          focus (first | (go_simp; done) | (go_simp; with_reducible rfl))
          try simp only [Act.put, List.setIfInBounds_toArray, List.set_cons_zero, List.set_cons_succ]
          refine wpHold_read' (v := .slice xa xn xc) ?_ (fun w' hI => ?_) ?_
          · go_simp
            done
          · have d1 := (hI.cell (p := ⟨b, o + j * 2 + 1, none⟩) hbs8).trans e1'
            go_simp
            done
          try simp only [Act.put, List.setIfInBounds_toArray, List.set_cons_zero, List.set_cons_succ]
          refine wpHold_call' (v := .bool true) (f := 23) (args := #[.slice (some ⟨g, 0, none⟩) xn (xn + 2), .slice xa xn xc]) ?_ (fun w' => ?_) (fun w' hI => ?_) ?_
          · go_simp
            done
          · go_simp
            done
          · exact (HKp.out w' hI).mono fun e w'' ⟨h1, h2⟩ => ⟨h1, by rw [← h2]; exact hI⟩
          try simp only [Act.put, List.setIfInBounds_toArray, List.set_cons_zero, List.set_cons_succ]
          refine wpHold_pure' (v := ?_) ?_ (fun w => ?_) ?_
          rotate_left
          focus (go_simp; done)
          focus (first | (go_simp; done) | (go_simp; with_reducible rfl))
          try simp only [Act.put, List.setIfInBounds_toArray, List.set_cons_zero, List.set_cons_succ]
          refine wpHold_nil ?_
          intro w9 hI9
          have HB9 := Lib.hid (HB8.out.trans (hI9.mono HB8.out.size))
          clear hI9 HSm HKp e0' e1' cc
          go_wp2_with fail
          go_roundg k
          case measure => omega
          case rel => exact ⟨j + 1, by omega, by go_num, HB9⟩
        | zero =>
          obtain rfl : j = i := by omega
          obtain ⟨w8, hw8⟩ : ∃ x, x = wr := ⟨_, rfl⟩
          rw [← hw8] at Hbe hsr4 ⊢
          clear hw8 hjg
          obtain ⟨M, hM⟩ : ∃ M, L.map gP = M := ⟨_, rfl⟩
          have hMn : M.length = n2 := by rw [← hM, List.length_map, Hn2.out]
          have HMn := Lib.hid hMn
          have HB8 := Lib.hid (HB4.out.trans (Hbe.out.mono hs4))
          have Hb28 := Lib.hid (Hb24.out.trans (Hbe.out.mono hs24))
          have hs8 := HB8.out.size
          have hs28 := Hb28.out.size
          have HL8 := Lib.hid (HL.out.below (ownedX_flat _ _).stays Hbe.out)
          have hrow8 := told_row HL8.out (Hwl.out.trans (Hbe.out.mono Hwl.out.size))
          rw [hM] at hrow8
          have HR8 := Lib.hid hrow8
          have Hwl8 := Lib.hid (Hwl.out.trans (Hbe.out.mono Hwl.out.size))
          have HsmM : Hid (Small M) := by rw [← hM]; exact Hsm4
          obtain ⟨H, hH⟩ : ∃ H, w2.heap.size = H := ⟨_, rfl⟩
          have hHw8 : H ≤ w8.heap.size := by omega
          have HM := Lib.hid hM
          have HH := Lib.hid hH
          clear hM hMn hrow8 HL Hwl Hsm4 hH
          go_wp2_with fail
          go_loopg [20, 82] n2 (fun k u20 u82 wr => ∃ i : Nat, i + k = n2 ∧ u82 = .int .i64 (i : Int) ∧ Hid (OwnAt (HadO H) 2 wr w8.heap.size 30 u20 (M.take i)) ∧ Hid (Below w8.heap.size w8 wr))
          case atStart => exact ⟨0, by omega, rfl, Lib.hid (OwnAt.nil _), Lib.hid (Below.refl _ _)⟩
          case round =>
            obtain ⟨i, hig, rfl, Hown, Hbel8⟩ := hrel
            have hsr := Hbel8.out.size
            cases gk with
            | succ k =>
              have hil : i < n2 := by omega
              obtain ⟨x, hx⟩ : ∃ x, M[i]? = some x := ⟨M[i]'(by rw [HMn.out]; exact hil), List.getElem?_eq_getElem _⟩
              obtain ⟨b, o, c', hv, _, _, hbs, hcell⟩ := HR8.out.form (by rw [HMn.out]; omega) (by omega)
              injection hv with u1 u2 u3
              subst u1
              clear u2 u3
              obtain ⟨ds, _, hcc, v1, rfl, hstr⟩ := hcell i x hx
              obtain ⟨xa, xc, rfl, -, -⟩ := hstr.row.len
              obtain ⟨xn, hxn⟩ : ∃ n, x.paths.length = n := ⟨_, rfl⟩
              rw [hxn] at hcc hstr
              have hxl2 : x.paths.length ≤ 1048576 := (HsmM.out.2 x (List.mem_of_getElem? hx)).2.1
              have e0 : wr.cell? ⟨b, o + i * 2, none⟩ = some (.string x.manager) := (Hbel8.out.cell (p := ⟨b, _, none⟩) hbs).trans (by simpa using hcc 0 _ rfl)
              have e1 : wr.cell? ⟨b, o + i * 2 + 1, none⟩ = some (.slice xa xn xc) := (Hbel8.out.cell (p := ⟨b, _, none⟩) hbs).trans (hcc 1 _ rfl)
              have q1 : (0 : Int) ≤ (i : Int) := by omega
              have q2 : (i : Int) < (n2 : Int) := by omega
              obtain ⟨w9, hw9⟩ : ∃ w9, w9 = wr.alloc (.cells #[.string x.manager, .slice xa xn xc] 30) := ⟨_, rfl⟩
              obtain ⟨g7, hg7⟩ : ∃ g7, g7 = wr.heap.size := ⟨_, rfl⟩
              have b1 : w9.heap[g7]? = some (.cells #[.string x.manager, .slice xa xn xc] 30 (0, 0)) := by rw [hw9, hg7]; exact heap_alloc_new wr _
              have hb1 : Below wr.heap.size wr w9 := by rw [hw9]; exact (Below.refl _ wr).alloc (Nat.le_refl _) _
              have hs1 : g7 < w9.heap.size := by rw [hw9, hg7, World.size_alloc]; omega
              have HStr := Lib.hid ((hstr.below Hbel8.out).below hb1)
              have B1 := Lib.hid b1
              have HO1 := Lib.hid (Hown.out.belowX (hadO_staysX _) hb1)
              have HB1 := Lib.hid (Hbel8.out.trans (hb1.mono hsr))
              have hsw1 := HB1.out.size
              have Hx := Lib.hid hx
              have Hlen : Hid ((M.take i).length = i) := Lib.hid (by rw [List.length_take, HMn.out]; omega)
              have hs9 : w8.heap.size ≤ w9.heap.size := HB1.out.size
              clear hcc hcell hstr hx hb1 b1 Hown hxn
              go_upto_region 20 with fail
              rw [← hw9, ← hg7]
              clear hw9 hg7 e0 e1
              refine wp_region_relK 8 (fun w' => Below w9.heap.size w9 w') (fun _ wa wb => Below wa.heap.size wa wb) (fun j U w' => match j with
                | 0 => U 0 = u20
                | 1 => U 1 = .pointer (some ⟨g7, 0, none⟩)
                | 2 => U 2 = .string x.manager
                | 3 => U 3 = .pointer (some ⟨g7, 1, none⟩)
                | 4 => U 4 = .slice xa xn xc
                | 5 => CpyAt H w' (U 5) x.paths
                | 6 => U 6 = .agg #[.string x.manager, U 5]
                | 7 => ∃ g c, U 7 = .slice (some ⟨g, 0, none⟩) 1 1 ∧ U 6 = .agg c ∧ w'.heap[g]? = some (.cells c 30 (0, 0))
                | _ => True)
                (fun | 2 => [1] | 4 => [3] | 5 => [4] | 6 => [2, 5] | 7 => [6] | _ => []) (by kernel_rfl) (by kernel_rfl) (Below.refl _ _).drew (fun _ _ _ hk hi => below_then hi hk) ?_ ⟨?_, ?_, ?_, ?_, ?_, ?_, ?_, ?_, trivial⟩ ?_
              · intro i' j U wa wb hji hk hi h
                match j, h with
                | 0, h => exact h
                | 1, h => exact h
                | 2, h => exact h
                | 3, h => exact h
                | 4, h => exact h
                | 5, h => exact CpyAt.below h hk
                | 6, h => exact h
                | 7, ⟨g, c, h1, h2, h3⟩ => exact ⟨g, c, h1, h2, below_block hk h3⟩
                | _ + 8, h => trivial
              · intro y w' hb hd
                refine owesK_here u20 (by rfl) ?_ rfl (Below.refl _ _)
                simp only [putAll, List.take_succ_cons, List.take_zero]
                go_simp
              · intro y w' hb hd
                refine owesK_here (.pointer (some ⟨g7, 0, none⟩)) (by rfl) ?_ rfl (Below.refl _ _)
                simp only [putAll, List.take_succ_cons, List.take_zero]
                go_simp
              · intro y w' hb hd
                have h0 : y 1 = .pointer (some ⟨g7, 0, none⟩) := hd 1 (by simp)
                have d0 := (hb.block g7 hs1).trans B1.out
                have cc := fun i => cell_block d0 i
                clear d0
                refine owesK_here (.string x.manager) (by rfl) ?_ rfl (Below.refl _ _)
                simp only [putAll, List.take_succ_cons, List.take_zero]
                go_simp
              · intro y w' hb hd
                refine owesK_here (.pointer (some ⟨g7, 1, none⟩)) (by rfl) ?_ rfl (Below.refl _ _)
                simp only [putAll, List.take_succ_cons, List.take_zero]
                go_simp
              · intro y w' hb hd
                have h0 : y 3 = .pointer (some ⟨g7, 1, none⟩) := hd 3 (by simp)
                have d0 := (hb.block g7 hs1).trans B1.out
                have cc := fun i => cell_block d0 i
                clear d0
                refine owesK_here (.slice xa xn xc) (by rfl) ?_ rfl (Below.refl _ _)
                simp only [putAll, List.take_succ_cons, List.take_zero]
                go_simp
              · intro y w' hb hd
                have h0 : y 4 = .slice xa xn xc := hd 4 (by simp)
                have hsz := hb.size
                refine owesK_call 24 #[.slice xa xn xc] (by rfl) ?_ ((copy_any _ x.paths w' (HStr.out.below hb) (by omega)).mono ?_)
                · simp only [putAll, List.take_succ_cons, List.take_zero]
                  go_simp
                · rintro _ w3 ⟨v', rfl, hown, hb3⟩
                  exact ⟨_, rfl, ⟨(ownStr_at hown).mono (by omega)⟩, hb3⟩
              · intro y w' hb hd
                have h2 : y 2 = .string x.manager := hd 2 (by simp)
                have h5 : CpyAt H w' (y 5) x.paths := hd 5 (by simp)
                refine owesK_here (.agg #[.string x.manager, y 5]) (by rfl) ?_ rfl (Below.refl _ _)
                clear hd
                simp only [putAll, List.take_succ_cons, List.take_zero]
                rcases h5.own.form with ⟨E5, _⟩ | ⟨k5, c5, E5, _, _, _, _⟩
                · rw [E5]
                  go_simp
                · rw [E5]
                  go_simp
              · intro y w' hb hd
                have h10 : y 6 = .agg #[.string x.manager, y 5] := hd 6 (by simp)
                refine owesK_makes (w' := w'.alloc (.cells #[.string x.manager, y 5] 30)) (.slice (some ⟨w'.heap.size, 0, none⟩) 1 1) (by rfl) ?_ ⟨_, _, rfl, h10, heap_alloc_new w' _⟩ ((Below.refl _ _).alloc (Nat.le_refl _) _)
                simp only [putAll, List.take_succ_cons, List.take_zero]
                rw [h10]
                go_simp
              · intro y w' hb hR
                have h0 : y 0 = u20 := hR 0 (by omega)
                have h2 : y 2 = .string x.manager := hR 2 (by omega)
                have h5 : CpyAt H w' (y 5) x.paths := hR 5 (by omega)
                have h6 : y 6 = .agg #[.string x.manager, y 5] := hR 6 (by omega)
                obtain ⟨gx, cx, h7, h8, h9⟩ : ∃ g c, y 7 = .slice (some ⟨g, 0, none⟩) 1 1 ∧ y 6 = .agg c ∧ w'.heap[g]? = some (.cells c 30 (0, 0)) := hR 7 (by omega)
                rw [h6] at h8
                injection h8 with h8
                subst h8
                have H9 := Lib.hid h9
                obtain ⟨vx, hvx⟩ : ∃ v, y 5 = v := ⟨_, rfl⟩
                rw [hvx] at h5 h6 H9
                have HX : Hid (HadO H w' [.string x.manager, vx] x) := Lib.hid ⟨_, rfl, h5⟩
                have HO4 := Lib.hid (HO1.out.belowX (hadO_staysX _) hb)
                have HB4 := Lib.hid (HB1.out.trans (hb.mono hsw1))
                have hsz4 := HB4.out.size
                have h5o := CpyAt.one h5
                clear hR hb HO1 HB1 h9 h5
                simp only [putAll, List.take_succ_cons, List.take_zero, List.drop_succ_cons, List.drop_zero]
                rw [h0, h2, h7, h6, hvx]
                clear h0 h2 h6 h7 hvx
                try simp only [Act.put, List.setIfInBounds_toArray, List.set_cons_zero, List.set_cons_succ]
                go_wp2_with (at_builtin; refine wpList_append_ownAtX (R := HadO H) (k := 2) (e := 30) (B := w8.heap.size) (l := M.take i) (m := [x]) _ (by rfl) _ _ _ (by rfl) i0 _ 40 Tryz.underlying22 hi0 hz0 hz1 hz2 rfl (by omega) (hadO_staysX _) (hadO_one _) _ (by rfl) HO4.out (.slice (some ⟨gx, 0, none⟩) 1 1) (by rfl) (RowAt.one (R := HadO H) (k := 2) H9.out rfl HX.out) (by rw [Hlen.out]; unfold maxLen; simp; omega) (by rw [Hlen.out]; simp; omega) (by have := HB4.out.size; omega) ?_)
                intro v' w5 hv' hgr hr _
                have HB5 := Lib.hid (below_of_grown HB4.out (by have := HB4.out.size; omega) hgr hr)
                have HO5 : Hid (OwnAt (HadO H) 2 w5 w8.heap.size 30 v' (M.take (i + 1))) := Lib.hid (by
                  rw [List.take_add_one, Hx.out]
                  exact hv')
                clear hv' hgr hr HO4 HX HB4
                go_wp2_with fail
                go_roundg k
                case measure => omega
                case rel => exact ⟨i + 1, by omega, by go_num, HO5, HB5⟩
            | zero =>
              obtain rfl : i = n2 := by omega
              have hown := Hown.out
              rw [List.take_of_length_le (by rw [HMn.out]; exact Nat.le_refl _)] at hown
              obtain ⟨w9, hw9⟩ : ∃ x, x = wr := ⟨_, rfl⟩
              rw [← hw9] at Hbel8 hown hsr ⊢
              clear hw9 Hown
              obtain ⟨ah, ch, huh, -, -⟩ := hown.row.len
              rw [HMn.out] at huh
              subst huh
              have HHad := Lib.hid hown
              have HB9 := Lib.hid (HB8.out.trans (Hbel8.out.mono hs8))
              have Hb29 := Lib.hid (Hb28.out.trans (Hbel8.out.mono hs28))
              have HL9 := Lib.hid (HL8.out.below (ownedX_flat _ _).stays Hbel8.out)
              have Hwl9 := Lib.hid (Hwl8.out.trans (Hbel8.out.mono Hwl8.out.size))
              have hs9 := HB9.out.size
              clear hown HL8 Hwl8
              go_wp2_with fail
              go_loopg [98] j (fun k u98 wr => ∃ p : Nat, p + k = j ∧ u98 = .int .i64 (p : Int) ∧ Hid (Mid w.heap.size H w9 wr) ∧ Hid (∀ gI, Value.ownBlock (.slice ai j ci) = some gI → wr.heap[gI]? = w9.heap[gI]?))
              case atStart => exact ⟨0, by omega, rfl, Lib.hid (Mid.refl _ _ _), Lib.hid (fun _ _ => rfl)⟩
              case round =>
                obtain ⟨p, hpg, rfl, Hmid, Hsame⟩ := hrel
                cases gk with
                | succ k =>
                  have hpj : p < j := by omega
                  obtain ⟨x, hx⟩ : ∃ x, l[p]? = some x := ⟨l[p]'(by rw [Hnl.out]; exact hpj), List.getElem?_eq_getElem _⟩
                  have hown1 := HIn.out
                  rcases hown1.form with ⟨hv0, hl0⟩ | ⟨gI, cI, hv0, hgI, hgI2, _, _⟩
                  · rw [hl0] at hx; cases hx
                  have hrow1 := hown1.row
                  obtain ⟨_, _, curI, hcurI⟩ := hown1.at (g := gI) (by rw [hv0]; rfl)
                  injection hv0 with u1 u2 u3
                  subst u1 u3
                  clear u2
                  obtain ⟨b', o', c'', hv1, _, _, hbs', hcell'⟩ := hrow1.form (by rw [Hnl.out]; omega) (by omega)
                  injection hv1 with u1 u2 u3
                  injection u1 with u1
                  injection u1 with u1 u4
                  subst u1 u4
                  clear u2 u3
                  obtain ⟨ds', _, hcc', v1', rfl, g, rfl, hgB, hgc⟩ := hcell' p x hx
                  obtain ⟨xn, hxn⟩ : ∃ n, x.paths.length = n := ⟨_, rfl⟩
                  have hokx : x.paths.length ≤ 1048576 := (Hsm.out.2 x (List.mem_of_getElem? hx)).2.1
                  have hxl : xn ≤ 1048576 := by rw [← hxn]; exact hokx
                  have hgA := block_lt' hgc
                  have hgg : g ≠ gI := fun e => by rw [e, hcurI] at hgc; cases hgc
                  have m0 := hcc' 0 _ rfl
                  have m1 := hcc' 1 _ rfl
                  rw [Nat.zero_add, Nat.add_zero] at m0
                  rw [hxn, Nat.zero_add] at m1
                  have hsame := Hsame.out gI rfl
                  have e0 : wr.cell? ⟨gI, p * 2, none⟩ = some (.string x.manager) := (World.cell?_of_block (a := ⟨gI, p * 2, none⟩) hsame).trans ((Hb29.out.cell (p := ⟨gI, p * 2, none⟩) hgI2).trans m0)
                  have e1 : wr.cell? ⟨gI, p * 2 + 1, none⟩ = some (.slice (some ⟨g, 0, none⟩) xn (xn + 2)) := (World.cell?_of_block (a := ⟨gI, p * 2 + 1, none⟩) hsame).trans ((Hb29.out.cell (p := ⟨gI, p * 2 + 1, none⟩) hgI2).trans m1)
                  obtain ⟨csG, hcsG, hczG⟩ := Hmid.out.kind g _ _ ((Hb29.out.block g hgA).trans hgc)
                  have hsG : xn + 2 ≤ csG.size := by rw [hczG]; simp [strs_length, hxn]
                  have q1 : (0 : Int) ≤ (p : Int) := by omega
                  have q2 : (p : Int) < (j : Int) := by omega
                  obtain ⟨w10, hw10⟩ : ∃ w1, w1 = wr.alloc (.cells #[.string x.manager, .slice (some ⟨g, 0, none⟩) xn (xn + 2)] 30) := ⟨_, rfl⟩
                  obtain ⟨g7, hg7⟩ : ∃ g7, g7 = wr.heap.size := ⟨_, rfl⟩
                  have b1 : w10.heap[g7]? = some (.cells #[.string x.manager, .slice (some ⟨g, 0, none⟩) xn (xn + 2)] 30 (0, 0)) := by rw [hw10, hg7]; exact heap_alloc_new wr _
                  have hb1 : Below wr.heap.size wr w10 := by rw [hw10]; exact (Below.refl _ wr).alloc (Nat.le_refl _) _
                  have hcsG1 := below_block hb1 hcsG
                  have HSp := Lib.hid (spoil_big g xn (xn + 2) csG 9 w10 hcsG1 (by omega) hsG (by omega))
                  have HcG := Lib.hid hcsG1
                  have hgH : g < H := by have := HH.out; omega
                  have Hm10 := Lib.hid (mid_below Hmid.out hb1)
                  have Hs10 : Hid (∀ gI', Value.ownBlock (.slice (some ⟨gI, 0, none⟩) j ci) = some gI' → w10.heap[gI']? = w9.heap[gI']?) := Lib.hid (fun gI' he => by
                    have he2 : gI = gI' := by simpa [Value.ownBlock] using he
                    subst he2
                    rw [hb1.block gI (by have := Hmid.out.size; have := Hb29.out.size; omega)]; exact hsame)
                  have hgIw : gI < w10.heap.size := by have := Hmid.out.size; have := Hb29.out.size; have := hb1.size; omega
                  have cc := fun i => cell_block b1 i
                  clear hcell' hcc' m0 m1 hrow1 hown1 hcurI hgc hx hxn hokx hcsG hcsG1 hczG hsG hsame hb1 b1 Hmid Hsame
                  go_upto_region 25 with fail
                  rw [← hw10, ← hg7]
                  clear hw10 hg7 e0 e1
                  go_wp2_with fail
                  refine HSp.out.mono ?_
                  rintro E w11 ⟨rfl, hbut, csH, hcsH, hczH⟩
                  have Hm11 := Lib.hid (Hm10.out.but hbut hgB hgH (fun cs t h => by rw [HcG.out] at h; cases h; exact ⟨csH, hcsH, hczH⟩))
                  have Hs11 : Hid (∀ gI', Value.ownBlock (.slice (some ⟨gI, 0, none⟩) j ci) = some gI' → w11.heap[gI']? = w9.heap[gI']?) := Lib.hid (fun gI' he => by
                    have he2 : gI = gI' := by simpa [Value.ownBlock] using he
                    subst he2
                    rw [hbut.block gI hgIw (Ne.symm hgg)]; exact Hs10.out gI rfl)
                  clear hbut hcsH hczH Hm10 Hs10 HSp HcG cc
                  go_wp2_with fail
                  go_roundg k
                  case measure => omega
                  case rel => exact ⟨p + 1, by omega, by go_num, Hm11, Hs11⟩
                | zero =>
                  obtain rfl : p = j := by omega
                  obtain ⟨wC, hwC⟩ : ∃ x, x = wr := ⟨_, rfl⟩
                  rw [← hwC] at Hmid ⊢
                  have hHH := HH.out
                  have h1 := told_mid HL9.out Hwl9.out Hmid.out (by omega) (by omega)
                  rw [HM.out] at h1
                  have HR1 := Lib.hid h1
                  have HR2 := Lib.hid (hadO_mid (HHad.out.mono hHw8) Hmid.out)
                  have HBC := Lib.hid (Hmid.out.below HB9.out (Nat.le_refl _) HB9.out.size)
                  have hsC := HBC.out.size
                  have HSA := Lib.hid (sameOwneds_yes _ _ M wC HR1.out HR2.out (by rw [HMn.out]; omega) (fun r hr => (HsmM.out.2 r hr).2.1))
                  clear hwC Hsame Hmid h1 HL9 HHad hHH
                  go_wp2_with fail
                  refine HSA.out.mono ?_
                  rintro E w12 ⟨rfl, hb12⟩
                  have HB12 := Lib.hid (HBC.out.trans (hb12.mono hsC))
                  clear hb12 HSA
                  by_cases h0 : er = 0
                  · subst h0
                    go_wp2_with fail
                    go_ret
                    exact ⟨rfl, HB12.out⟩
                  · have q0 : (er == 0) = false := by rw [beq_eq_false_iff_ne]; exact h0
                    have hL0 := (HI.out.no h0).2
                    have hn0 : i = 0 := by rw [← HMn.out, ← HM.out, hL0]; rfl
                    subst hn0
                    clear hL0 h0
                    go_wp2_with fail
                    go_ret
                    exact ⟨rfl, HB12.out⟩
end Go.Proofs.YtdcmnpeabjallaaGreatDoor
