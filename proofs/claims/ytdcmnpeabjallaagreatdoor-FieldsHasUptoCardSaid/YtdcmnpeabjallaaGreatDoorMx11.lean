/- Texts of ours joined. -/
import Derived.Test.YtdcmnpeabjallaaGreatDoorMx10
set_option linter.unusedVariables false
set_option linter.unusedSimpArgs false
namespace Go.Proofs.YtdcmnpeabjallaaGreatDoor
open Go.RowKit
open JP (JV Bs Lf)
def gP (x : JP.OwnP) : GOwned := ⟨mkB x.1, x.2.map mkB⟩
theorem oP_gP (x : JP.OwnP) : oP (gP x) = x := by
  obtain ⟨m, ps⟩ := x
  unfold oP gP
  refine Prod.ext (mkB_list m) ?_
  show (ps.map mkB).map (·.data.toList) = ps
  rw [List.map_map]
  have : ((fun x : ByteArray => x.data.toList) ∘ mkB) = id := funext fun t => mkB_list t
  rw [this, List.map_id]
theorem oPs_gPs (L : List JP.OwnP) : (L.map gP).map oP = L := by
  rw [List.map_map]
  have : (oP ∘ gP) = id := funext oP_gP
  rw [this, List.map_id]
/-- what is small -/
def Small (l : List GOwned) : Prop := l.length ≤ 1048576 ∧ ∀ x ∈ l, x.manager.size ≤ 1048576 ∧ x.paths.length ≤ 1048576 ∧ ∀ p ∈ x.paths, p.size ≤ 1048576
theorem tot_mem : ∀ {l : List ByteArray} {x : ByteArray}, x ∈ l → x.size + 1 ≤ total l
  | a :: r, x, h => by
    unfold total
    rw [List.map_cons, List.sum_cons]
    rcases List.mem_cons.1 h with rfl | h
    · omega
    · have := tot_mem h
      unfold total at this
      omega
theorem small_of_bulk {l : List GOwned} (h : (l.map ownedB).sum ≤ 1048576) : Small l := by
  have h1 : ∀ l : List GOwned, l.length ≤ (l.map ownedB).sum ∧ ∀ x ∈ l, ownedB x ≤ (l.map ownedB).sum := by
    intro l
    induction l with
    | nil => exact ⟨Nat.le_refl _, fun x h => by cases h⟩
    | cons a r ih =>
      rw [List.map_cons, List.sum_cons, List.length_cons]
      have hp : 1 ≤ ownedB a := by unfold ownedB; omega
      refine ⟨by omega, fun x hx => ?_⟩
      rcases List.mem_cons.1 hx with rfl | hx
      · omega
      · have := ih.2 x hx; omega
  obtain ⟨h2, h3⟩ := h1 l
  refine ⟨by omega, fun x hx => ?_⟩
  have h4 := h3 x hx
  have h6 : ownedB x = ((x.manager.size + 1) + ((total x.paths + 1) + 0)) + 1 := rfl
  have h5 := total_length x.paths
  refine ⟨by omega, by omega, fun p hp => ?_⟩
  have := tot_mem hp
  omega
theorem leaves_fit {W : List Leaf} {want : JV} (h : JP.IsLeaves W want) (hf : JP.Fit want) : ∀ x ∈ W, LeafFit x := fun x hx => by
  obtain ⟨r, e1, e2, e3, e4⟩ := JP.leaf_there want [] hf x (h.1.mem_iff.1 hx)
  rw [List.nil_append] at e1
  subst e1
  refine ⟨e3, ?_, fun s hs => ?_⟩
  · have := JP.at_deep (JP.atO_atW e2); have := hf.2.2.1; omega
  · have := JP.way_steps x.1 want x.2 (JP.fit_S hf) e2 s hs
    have := hf.2.2.2
    omega
theorem pathL_len {x : Leaf} (hx : LeafFit x) : (JP.pathL x).length ≤ 1048576 := by
  have h1 : joinL (x.1.map mkB) = JP.pathL x := joinL_mk x.1
  have h2 := joinL_len (x.1.map mkB)
  rw [h1, total_mk] at h2
  have h3 : ∀ l : List Bs, (∀ s ∈ l, s.length ≤ 2000) → (l.map fun s => s.length + 1).sum ≤ l.length * 2001 := by
    intro l
    induction l with
    | nil => intro _; simp
    | cons a r ih =>
      intro h
      rw [List.map_cons, List.sum_cons, List.length_cons]
      have := h a (List.mem_cons_self ..)
      have := ih fun s hs => h s (List.mem_cons_of_mem _ hs)
      omega
  have h4 := h3 x.1 hx.steps
  have h5 := hx.len
  omega
/-- what is told is small -/
theorem told_small {live want s : Bs} {l : List GOwned} {L : List JP.OwnP} {m : Bs} {force : Bool} {bad : List Bs} {er : Int} (h : JP.ApplyIs live (l.map oP) m want force s L bad er) (hl : Small l) (hm : m.length ≤ 1048576) : Small (L.map gP) ∧ s.length ≤ 1048576 := by
  by_cases e : er = 0
  · subst e
    obtain ⟨ok, W, hW, _, h6, ht, rfl, rfl⟩ := h.yes rfl
    have hfw := JP.read_fit' ok.2.2.2.1
    have hfit := leaves_fit hW hfw
    have hwl : W.length ≤ 200 := by
      have h1 := JP.gat_len [] (JP.readL want).1
      have h2 := hfw.2.1
      rw [hW.1.length_eq]; omega
    refine ⟨⟨by rw [List.length_map]; omega, fun x hx => ?_⟩, by have := JP.tellT_len (JP.outV (JP.readL live).1 (l.map oP) m W); omega⟩
    obtain ⟨y, hy, rfl⟩ := List.mem_map.1 hx
    obtain ⟨_, hy⟩ := JP.fin_mem.1 hy
    show (mkB y.1).size ≤ _ ∧ (y.2.map mkB).length ≤ _ ∧ _
    rw [mkB_size, List.length_map]
    rcases hy with rfl | ⟨hy, _⟩
    · refine ⟨hm, by show (W.map _).length ≤ _; rw [List.length_map]; omega, fun p hp => ?_⟩
      obtain ⟨t, ht, rfl⟩ := List.mem_map.1 hp
      obtain ⟨z, hz, rfl⟩ := List.mem_map.1 ht
      rw [mkB_size]; exact pathL_len (hfit z hz)
    · obtain ⟨z, hz, e1, e2⟩ := JP.seize_mem hy
      obtain ⟨g, hg, rfl⟩ := List.mem_map.1 hz
      obtain ⟨s1, s2, s3⟩ := hl.2 g hg
      have hsub : ∀ t ∈ y.2, t ∈ (oP g).2 := fun t ht => by
        rcases e2 with ⟨_, e⟩ | ⟨_, e⟩
        · rw [e] at ht; exact ht
        · rw [e] at ht; exact (List.mem_filter.1 ht).1
      have hlen : y.2.length ≤ (oP g).2.length := by
        rcases e2 with ⟨_, e⟩ | ⟨_, e⟩
        · rw [e]; exact Nat.le_refl _
        · rw [e]; exact List.length_filter_le _ _
      refine ⟨?_, Nat.le_trans hlen (by show (g.paths.map _).length ≤ _; rw [List.length_map]; exact s2), fun p hp => ?_⟩
      · rw [← e1]
        show g.manager.data.toList.length ≤ _
        rw [Array.length_toList]; exact s1
      · obtain ⟨t, ht, rfl⟩ := List.mem_map.1 hp
        obtain ⟨q, hq, rfl⟩ := List.mem_map.1 (hsub t ht)
        rw [mkB_of]; exact s3 q hq
  · obtain ⟨rfl, rfl⟩ := h.no e
    exact ⟨⟨Nat.zero_le _, fun x hx => by cases hx⟩, Nat.zero_le _⟩
theorem told_row {lo : Nat} {wl w : World} {B : Nat} {v : Value} {L : List JP.OwnP} (h : OwnAt (OwnedX lo wl) 2 w B 30 v L) (hb : Below wl.heap.size wl w) : RowAt OwnedR 2 w v (L.map gP) := by
  rcases h.row with ⟨h1, h2⟩ | ⟨a, c, h1, h2, h3, h4⟩
  · exact .inl ⟨h1, by rw [h2]; rfl⟩
  · refine .inr ⟨a, c, by rw [List.length_map]; exact h1, by rw [List.length_map]; exact h2, h3, fun j x hx => ?_⟩
    rw [List.getElem?_map] at hx
    obtain ⟨y, hy, rfl⟩ := Option.map_eq_some_iff.1 hx
    obtain ⟨cs, g1, g2, v1, e1, e2⟩ := h4 j y hy
    exact ⟨cs, g1, g2, v1, e1, (e2.below stays_string hb).row.strs⟩
/-- what applied tells -/
def AppTo (live : Bs) (l : List JP.OwnP) (m want : Bs) (force : Bool) (w : World) (e : Ending) (w' : World) : Prop :=
  ∃ (s : Bs) (vL : Value) (L : List JP.OwnP) (bad : List Bs) (er : Int), e = .returned (.tuple #[.string (mkB s), vL, .int .i64 er]) ∧ JP.ApplyIs live l m want force s L bad er ∧ RowAt OwnedR 2 w' vL (L.map gP) ∧ Below w.heap.size w w'
set_option maxRecDepth 100000 in
set_option maxHeartbeats 3200000 in
theorem applied_any (live want : ByteArray) (v : Value) (l : List GOwned) (mb : Bs) (force : Bool) (w : World) (h : RowAt OwnedR 2 w v l) (hs : Small l) (hlv : live.size ≤ 1048576) (hwt : want.size ≤ 1048576) (hmb : mb.length ≤ 1048576) (hE : Env w) :
    Calls Tryz.prog 9 #[.string live, v, .string (mkB mb), .string want, .bool force] w (AppTo live.data.toList (l.map oP) mb want.data.toList force w) := by
  have HA := Lib.hid (apply_any live want v l mb force w h hs.1 hs.2 hlv hwt hmb hE)
  obtain ⟨a1, c1, rfl, -, -⟩ := h.len
  clear h hs hE
  go_enter Tryz.func9, Tryz.ntmps9
  go_wp2_with fail
  refine HA.out.mono ?_
  rintro E w1 ⟨s, vL, vb, L, bad, er, wl, rfl, hI, hown, hwl, _, hb, _⟩
  have hrow := told_row hown hwl
  obtain ⟨a2, c2, rfl, -, -⟩ := hrow.len
  obtain ⟨n2, hn2⟩ : ∃ n, (L.map gP).length = n := ⟨_, rfl⟩
  rw [hn2] at hrow ⊢
  clear hn2
  have HI := Lib.hid hI
  have HR := Lib.hid hrow
  have HB := Lib.hid hb
  clear hI hown hwl hb hrow HA
  go_wp2_with fail
  go_ret3
  exact ⟨s, _, L, bad, er, rfl, HI.out, HR.out, HB.out⟩
theorem read_one : JP.readL [49] = (.num 1, 0) := by
  have h3 : JP.text (.num 1) = [49] := by decide +kernel
  have h : JP.Fit (.num 1) := ⟨by rw [JP.wf]; exact ⟨by decide, by decide⟩, by decide, by decide, by rw [h3]; decide⟩
  have h2 := JP.fit_read h
  rw [h3] at h2; exact h2
theorem read_braces : JP.readL [123, 125] = (.obj [], 0) := by
  have h : JP.Fit (.obj []) := ⟨by rw [JP.wf]; exact ⟨List.Pairwise.nil, by rw [JP.wfF]; trivial⟩, by decide, by decide, by decide⟩
  have h2 := JP.fit_read h
  have h3 : JP.text (.obj []) = [123, 125] := by decide
  rw [h3] at h2; exact h2
set_option maxRecDepth 100000 in
set_option maxHeartbeats 3200000 in
theorem awry_any (w : World) (hE : Env w) : Calls Tryz.prog 10 #[] w fun e w' => e = .returned (.bool true) ∧ Below w.heap.size w w' := by
  have HA := Lib.hid (apply_any ⟨#[49]⟩ ⟨#[123, 125]⟩ (.slice none 0 0) [] [97] false w (.inl ⟨rfl, rfl⟩) (by decide) (fun x hx => by cases hx) (by decide) (by decide) (by decide) hE)
  clear hE
  go_enter Tryz.func10, Tryz.ntmps10
  go_wp2_with fail
  refine HA.out.mono ?_
  rintro E w1 ⟨s, vL, vb, L, bad, er, wl, rfl, _, hown, _, hvb, hb, hk⟩
  have her : er = 8 := hk (by show (JP.readL [49]).2 = 0; rw [read_one]) ⟨Nat.zero_le _, List.Pairwise.nil, fun _ h => by cases h⟩ (by decide) (by show (JP.readL [123, 125]).2 = 0; rw [read_braces]) (fun h => by
    have h1 : JP.kind (JP.readL [49]).1 = 6 := h.1
    rw [read_one] at h1; exact absurd h1 (by decide))
  subst her
  obtain ⟨a2, c2, rfl, -, -⟩ := hown.row.len
  obtain ⟨a3, c3, rfl, -, -⟩ := hvb.row.len
  have HB := Lib.hid hb
  clear hown hb hk hvb HA
  go_wp2_with fail
  go_ret
  exact ⟨rfl, HB.out⟩
end Go.Proofs.YtdcmnpeabjallaaGreatDoor
namespace Go.Proofs.YtdcmnpeabjallaaGreatDoor
open Go.RowKit
open JP (JV Bs Lf)
set_option maxRecDepth 100000 in
set_option maxHeartbeats 6400000 in
theorem fieldsAgain_walk (a : ByteArray) (v : Value) (l : List GOwned) (m want : ByteArray) (force : Bool) (w : World) (hrow : RowAt OwnedR 2 w v l) (hbulk : a.data.toList.length + ((l.map ownedB).sum + (m.data.toList.length + want.data.toList.length)) ≤ 1048576) (hE : Env w) :
    Calls Tryz.prog 3 #[.string a, v, .string m, .string want, .bool force] w fun e w' => e = .returned (.bool true) ∧ Below w.heap.size w w' := by
  obtain ⟨mb, rfl⟩ : ∃ mb, m = mkB mb := ⟨m.data.toList, (mkB_of m).symm⟩
  rw [mkB_list] at hbulk
  have hsm := small_of_bulk (l := l) (by omega)
  have ha : a.size ≤ 1048576 := by rw [← list_size]; omega
  have hw : want.size ≤ 1048576 := by rw [← list_size]; omega
  have hmb : mb.length ≤ 1048576 := by omega
  have HA := Lib.hid (applied_any a want v l mb force w hrow hsm ha hw hmb hE)
  obtain ⟨a1, c1, rfl, -, -⟩ := hrow.len
  have HE := Lib.hid hE
  have Hsm := Lib.hid hsm
  clear hrow hbulk hE hsm
  go_enter Tryz.func3, Tryz.ntmps3
  go_wp2_with fail
  refine HA.out.mono ?_
  rintro E w1 ⟨s, vL, L, bad, er, rfl, hI, hR, hb1⟩
  obtain ⟨a2, c2, rfl, -, -⟩ := hR.len
  obtain ⟨n2, hn2⟩ : ∃ n, (L.map gP).length = n := ⟨_, rfl⟩
  rw [hn2] at hR ⊢
  have HI := Lib.hid hI
  have HR := Lib.hid hR
  have HB1 := Lib.hid hb1
  have Hn2 := Lib.hid hn2
  have hs1 := hb1.size
  have HW := Lib.hid (awry_any w1 (HE.out.below hb1))
  clear hI hR hb1 hn2 HA
  go_wp2_with fail
  refine HW.out.mono ?_
  rintro E w2 ⟨rfl, hb2⟩
  have HB2 := Lib.hid (HB1.out.trans (hb2.mono hs1))
  have HR2 := Lib.hid (HR.out.below stays_owned hb2)
  have hs2 := HB2.out.size
  clear hb2 HW HR
  by_cases h0 : er = 0
  · subst h0
    obtain ⟨hsm2, hsl⟩ := told_small HI.out Hsm.out hmb
    have hA2 := applied_any (mkB s) want (.slice a2 n2 c2) (L.map gP) mb false w2 HR2.out hsm2 (by rw [mkB_size]; exact hsl) hw hmb (HE.out.below HB2.out)
    rw [mkB_list, oPs_gPs] at hA2
    have HA2 := Lib.hid hA2
    have Hsm2 := Lib.hid hsm2
    clear hsm2 hA2
    go_wp2_with fail
    refine HA2.out.mono ?_
    rintro E w3 ⟨t, vM, M, bad', f, rfl, hI3, hR3, hb3⟩
    obtain ⟨hf, ht, hM⟩ := JP.fields_again HI.out hI3
    subst hf; subst ht; subst hM
    obtain ⟨a3, c3, rfl, -, -⟩ := hR3.len
    rw [Hn2.out] at hR3 ⊢
    have HS := Lib.hid (sameOwneds_yes (.slice a2 n2 c2) (.slice a3 n2 c3) (M.map gP) w3 (HR2.out.below stays_owned hb3) hR3 (by have := Hsm2.out.1; omega) (fun r hr => (Hsm2.out.2 r hr).2.1))
    have HB3 := Lib.hid (HB2.out.trans (hb3.mono hs2))
    have hs3 := HB3.out.size
    have e1 : ((mkB t).toList == (mkB t).toList) = true := beq_self_eq_true _
    clear hI3 hR3 hb3 HA2
    go_wp2_with fail
    refine HS.out.mono ?_
    rintro E w4 ⟨rfl, hb4⟩
    have HB4 := Lib.hid (HB3.out.trans (hb4.mono hs3))
    clear hb4 HS
    go_wp2_with fail
    go_ret
    exact ⟨rfl, HB4.out⟩
  · have q0 : (er == 0) = false := by rw [beq_eq_false_iff_ne]; exact h0
    obtain ⟨rfl, rfl⟩ := HI.out.no h0
    have hn0 : n2 = 0 := by rw [← Hn2.out]; rfl
    subst hn0
    have e1 : (mkB []).toList.isEmpty = true := by rw [ByteArray.toList_eq, mkB_list]; rfl
    have e2 : (mkB []).toList = [] := by rw [ByteArray.toList_eq, mkB_list]
    clear h0
    go_wp2_with fail
    go_ret
    exact ⟨rfl, HB2.out⟩
end Go.Proofs.YtdcmnpeabjallaaGreatDoor
namespace Go.Proofs.YtdcmnpeabjallaaGreatDoor
open Go.RowKit
open JP (JV Bs Lf)
theorem had_none {l : List JP.OwnP} {m : Bs} (h : ∀ x ∈ l, x.1 ≠ m) : JP.had l m = [] := by
  unfold JP.had
  rw [List.find?_eq_none.2 fun x hx => by simpa using h x hx]; rfl
theorem had_first {l : List JP.OwnP} {m : Bs} {i : Nat} {x : JP.OwnP} (hx : l[i]? = some x) (hm : x.1 = m) (h : ∀ y ∈ l.take i, y.1 ≠ m) : JP.had l m = x.2 := by
  unfold JP.had
  rw [find_at (p := fun y : JP.OwnP => y.1 == m) hx (by simpa using hm) fun y hy => by simpa using h y hy]; rfl
set_option maxRecDepth 100000 in
set_option maxHeartbeats 3200000 in
theorem had_any (v : Value) (l : List GOwned) (mb : Bs) (w : World) (h : RowAt OwnedR 2 w v l) (hl : l.length ≤ 1048576) :
    Calls Tryz.prog 17 #[v, .string (mkB mb)] w fun e w' => ∃ u, e = .returned u ∧ StrAt w' u ((JP.had (l.map oP) mb).map mkB) ∧ Below w.heap.size w w' := by
  obtain ⟨a1, c1, rfl, -, -⟩ := h.len
  obtain ⟨nl, hnl⟩ : ∃ n, l.length = n := ⟨_, rfl⟩
  rw [hnl] at h hl ⊢
  have HS := Lib.hid h
  have Hnl := Lib.hid hnl
  clear h hnl
  go_enter Tryz.func17, Tryz.ntmps17
  go_wp2_with fail
  go_loopg [9] nl (fun k u9 wr => ∃ i : Nat, i + k = nl ∧ u9 = .int .i64 (i : Int) ∧ Hid (∀ y ∈ (l.map oP).take i, y.1 ≠ mb) ∧ Hid (Below w.heap.size w wr))
  case atStart => exact ⟨0, by omega, rfl, Lib.hid (fun y hy => by rw [List.take_zero] at hy; cases hy), Lib.hid (Below.refl _ _)⟩
  case round =>
    obtain ⟨i, hik, rfl, HP, Hbel⟩ := hrel
    cases gk with
    | zero =>
      obtain rfl : nl = i := by omega
      have Hn : Hid (JP.had (l.map oP) mb = []) := Lib.hid (had_none fun x hx => HP.out x (by rw [List.take_of_length_le (by rw [List.length_map, Hnl.out]; exact Nat.le_refl _)]; exact hx))
      clear HP
      go_wp2_with fail
      go_ret
      exact ⟨_, rfl, by rw [Hn.out]; exact .inl ⟨rfl, rfl⟩, Hbel.out⟩
    | succ k =>
      have hil : i < nl := by omega
      obtain ⟨x, hxi⟩ : ∃ x, l[i]? = some x := ⟨l[i]'(by rw [Hnl.out]; exact hil), List.getElem?_eq_getElem _⟩
      obtain ⟨bb, o, c', hv, _, _, hbs, hcell⟩ := HS.out.form (by rw [Hnl.out]; omega) (by omega)
      injection hv with u1 u2 u3
      subst u1
      clear u2 u3
      obtain ⟨ds, _, hcc, v1, rfl, hst⟩ := hcell i x hxi
      obtain ⟨sa, sc, rfl, -, -⟩ := hst.row.len
      obtain ⟨sn, hsn⟩ : ∃ sn, x.paths.length = sn := ⟨_, rfl⟩
      rw [hsn] at hcc hst
      have e0 : wr.cell? ⟨bb, o + i * 2, none⟩ = some (.string x.manager) := (Hbel.out.cell (p := ⟨bb, _, none⟩) hbs).trans (by simpa using hcc 0 _ rfl)
      have e1 : wr.cell? ⟨bb, o + i * 2 + 1, none⟩ = some (.slice sa sn sc) := (Hbel.out.cell (p := ⟨bb, _, none⟩) hbs).trans (hcc 1 _ rfl)
      have hLi : (l.map oP)[i]? = some (oP x) := by rw [List.getElem?_map, hxi]; rfl
      have q1 : (0 : Int) ≤ (i : Int) := by omega
      have q2 : (i : Int) < (nl : Int) := by omega
      obtain ⟨w2, hw2⟩ : ∃ w2, w2 = wr.alloc (.cells #[.string x.manager, .slice sa sn sc] 30) := ⟨_, rfl⟩
      obtain ⟨gx, hgx⟩ : ∃ gx, gx = wr.heap.size := ⟨_, rfl⟩
      have b2 : w2.heap[gx]? = some (.cells #[.string x.manager, .slice sa sn sc] 30 (0, 0)) := by rw [hw2, hgx]; exact heap_alloc_new wr _
      have hb2 : Below wr.heap.size wr w2 := by rw [hw2]; exact (Below.refl _ wr).alloc (Nat.le_refl _) _
      have hb12 := Hbel.out.trans (hb2.mono Hbel.out.size)
      have HB2 := Lib.hid hb12
      have HSt : Hid (StrAt w2 (.slice sa sn sc) ((oP x).2.map mkB)) := Lib.hid (by
        show StrAt w2 _ ((x.paths.map (·.data.toList)).map mkB)
        rw [paths_back]; exact hst.below hb12)
      have eq1 : (x.manager.toList == (mkB mb).toList) = decide ((oP x).1 = mb) := by
        rw [ByteArray.toList_eq, ByteArray.toList_eq, mkB_list, Bool.eq_iff_iff, beq_iff_eq, decide_eq_true_iff]; rfl
      obtain ⟨km, Hkm⟩ : ∃ km, Hid (decide ((oP x).1 = mb) = km) := ⟨_, Lib.hid rfl⟩
      rw [Hkm.out] at eq1
      have HLi := Lib.hid hLi
      have cc := fun i => cell_block b2 i
      clear hcc hcell hst hb2 hb12 hsn hbs hLi b2 hxi
      go_upto_region 4 with fail
      rw [← hw2]
      try rw [← hgx]
      clear hw2 hgx e0 e1
      cases km with
      | true =>
        have Hh : Hid (JP.had (l.map oP) mb = (oP x).2) := Lib.hid (had_first HLi.out (of_decide_eq_true Hkm.out) HP.out)
        clear HP
        go_wp2_with fail
        go_ret
        exact ⟨_, rfl, by rw [Hh.out]; exact HSt.out, HB2.out⟩
      | false =>
        have HP2 : Hid (∀ y ∈ (l.map oP).take (i + 1), y.1 ≠ mb) := Lib.hid fun y hy => by
          rw [List.take_add_one, HLi.out] at hy
          rcases List.mem_append.1 hy with hy | hy
          · exact HP.out y hy
          · have : y = oP x := by simpa using hy
            rw [this]
            exact of_decide_eq_false Hkm.out
        clear HP
        go_wp2_with fail
        go_roundg k
        case measure => omega
        case rel => exact ⟨i + 1, by omega, by go_num, HP2, HB2⟩
end Go.Proofs.YtdcmnpeabjallaaGreatDoor
namespace Go.Proofs.YtdcmnpeabjallaaGreatDoor
open Go.RowKit
open JP (JV Bs Lf)
/-- what Leaves tells of a document that is one, an object -/
theorem leavesW_any {W : List Leaf} (s : ByteArray) (w : World) (hs : s.size ≤ 1048576) (hm : ∃ m, MaxOK m w) (h0 : (JP.readL s.data.toList).2 = 0) (hk : JP.kind (JP.readL s.data.toList).1 = 6) (hW : JP.IsLeaves W (JP.readL s.data.toList).1) :
    Calls Tryz.prog 14 #[.string s] w fun e w' => ∃ v, e = .returned (.tuple #[v, .int .i64 0]) ∧ StrAt w' v ((W.map JP.pathL).map mkB) ∧ Below w.heap.size w w' := by
  refine (leavesDoc_any s w hs hm).mono ?_
  rintro E w' ⟨v, l', rfl, hp, hr, ho, hb⟩
  have hf := JP.read_fit' h0
  have hp2 : l'.Perm (JP.gat [] (JP.readL s.data.toList).1) := by unfold leavesL at hp; rw [if_pos h0] at hp; exact hp
  obtain ⟨hI, hF⟩ := leaves_is hp2 hr hf hk
  have := JP.leaves_one hI hW
  subst this
  refine ⟨v, by rw [h0], ?_, hb⟩
  have e : (l'.map fun p => mkB (pathP p.1)) = (l'.map JP.pathL).map mkB := by
    rw [List.map_map]
    exact List.map_congr_left fun x hx => by show mkB (pathP x.1) = mkB (JP.pathL x); rw [(hF x hx).path]
  rw [← e]
  exact ho.row.strs
set_option maxRecDepth 100000 in
set_option maxHeartbeats 6400000 in
theorem fieldsHas_walk (a : ByteArray) (v : Value) (l : List GOwned) (m want : ByteArray) (force : Bool) (w : World) (hrow : RowAt OwnedR 2 w v l) (hbulk : a.data.toList.length + ((l.map ownedB).sum + (m.data.toList.length + want.data.toList.length)) ≤ 1048576) (hE : Env w) :
    Calls Tryz.prog 6 #[.string a, v, .string m, .string want, .bool force] w fun e w' => e = .returned (.bool true) ∧ Below w.heap.size w w' := by
  obtain ⟨mb, rfl⟩ : ∃ mb, m = mkB mb := ⟨m.data.toList, (mkB_of m).symm⟩
  rw [mkB_list] at hbulk
  have hsm := small_of_bulk (l := l) (by omega)
  have ha : a.size ≤ 1048576 := by rw [← list_size]; omega
  have hw : want.size ≤ 1048576 := by rw [← list_size]; omega
  have hmb : mb.length ≤ 1048576 := by omega
  have HA := Lib.hid (applied_any a want v l mb force w hrow hsm ha hw hmb hE)
  obtain ⟨a1, c1, rfl, -, -⟩ := hrow.len
  have HE := Lib.hid hE
  have Hsm := Lib.hid hsm
  clear hrow hbulk hE hsm
  go_enter Tryz.func6, Tryz.ntmps6
  go_wp2_with fail
  refine HA.out.mono ?_
  rintro E w1 ⟨s, vL, L, bad, er, rfl, hI, hR, hb1⟩
  obtain ⟨a2, c2, rfl, -, -⟩ := hR.len
  obtain ⟨n2, hn2⟩ : ∃ n, (L.map gP).length = n := ⟨_, rfl⟩
  rw [hn2] at hR ⊢
  have HI := Lib.hid hI
  have HR := Lib.hid hR
  have HB1 := Lib.hid hb1
  have Hn2 := Lib.hid hn2
  have hs1 := hb1.size
  have HW := Lib.hid (awry_any w1 (HE.out.below hb1))
  clear hI hR hb1 hn2 HA
  go_wp2_with fail
  refine HW.out.mono ?_
  rintro E w2 ⟨rfl, hb2⟩
  have HB2 := Lib.hid (HB1.out.trans (hb2.mono hs1))
  have HR2 := Lib.hid (HR.out.below stays_owned hb2)
  have hs2 := HB2.out.size
  clear hb2 HW HR
  by_cases h0 : er = 0
  · subst h0
    obtain ⟨hsm2, hsl⟩ := told_small HI.out Hsm.out hmb
    obtain ⟨hr0, hgo, W, hW, hhad, hget⟩ := JP.fields_has HI.out
    have hk6 := (HI.out.yes rfl).1.2.2.2.2.2
    have hfit := leaves_fit hW (JP.read_fit' hr0)
    have HLv := Lib.hid (leavesW_any want w2 hw (HE.out.below HB2.out).2.2 hr0 hk6 hW)
    have hWl : W.length ≤ 200 := by
      have h1 := JP.gat_len [] (JP.readL want.data.toList).1
      have h2 := (JP.read_fit' hr0).2.1
      rw [hW.1.length_eq]; omega
    have Hsm2 := Lib.hid hsm2
    have Hgo := Lib.hid hgo
    have Hhad := Lib.hid hhad
    have Hget := Lib.hid hget
    have Hfit := Lib.hid hfit
    clear hsm2 hr0 hgo hW hhad hget hk6 hfit
    go_wp2_with fail
    refine HLv.out.mono ?_
    rintro E w3 ⟨v3, rfl, hv3, hb3⟩
    obtain ⟨a3, c3, rfl, -, -⟩ := hv3.row.len
    obtain ⟨n3, hn3⟩ : ∃ n, ((W.map JP.pathL).map mkB).length = n := ⟨_, rfl⟩
    rw [hn3] at hv3 ⊢
    rw [List.length_map, List.length_map] at hn3
    have HV3 := Lib.hid hv3
    have Hn3 := Lib.hid hn3
    have HB3 := Lib.hid (HB2.out.trans (hb3.mono hs2))
    have HR3 := Lib.hid (HR2.out.below stays_owned hb3)
    have hs3 := HB3.out.size
    have hn3l : n3 ≤ 200 := by omega
    clear hv3 hb3 hn3 HLv
    go_wp2_with fail
    go_loopg [50] n3 (fun k u50 wr => ∃ i : Nat, i + k = n3 ∧ u50 = .int .i64 (i : Int) ∧ Hid (Below w3.heap.size w3 wr))
    case atStart => exact ⟨0, by omega, rfl, Lib.hid (Below.refl _ _)⟩
    case round =>
      obtain ⟨i, hik, rfl, Hbel⟩ := hrel
      cases gk with
      | zero =>
        obtain rfl : n3 = i := by omega
        have HBr := Lib.hid (HB3.out.trans (Hbel.out.mono hs3))
        have HRr := Lib.hid (HR3.out.below stays_owned Hbel.out)
        have HVr := Lib.hid (HV3.out.below Hbel.out)
        have hsr := HBr.out.size
        have HCk := Lib.hid (check_owned_any (.slice a2 n2 c2) (L.map gP) wr HRr.out Hsm2.out.1 Hsm2.out.2 (HE.out.below HBr.out).2.2)
        clear Hbel
        go_wp2_with fail
        refine HCk.out.mono ?_
        rintro E w4 ⟨z, rfl, hz, _, hb4⟩
        have hz0 : z = 0 := hz.2 (by rw [oPs_gPs]; exact Hgo.out)
        subst hz0
        have HB4 := Lib.hid (HBr.out.trans (hb4.mono hsr))
        have HV4 := Lib.hid (HVr.out.below hb4)
        have hs4 := HB4.out.size
        have HH := Lib.hid (had_any (.slice a2 n2 c2) (L.map gP) mb w4 (HRr.out.below stays_owned hb4) Hsm2.out.1)
        clear hz hb4 HCk
        go_wp2_with fail
        refine HH.out.mono ?_
        rintro E w5 ⟨u, rfl, hu, hb5⟩
        rw [oPs_gPs, Hhad.out] at hu
        obtain ⟨a5, c5, rfl, -, -⟩ := hu.row.len
        have HEq := Lib.hid (eqStrs_yes _ _ _ w5 hu (HV4.out.below hb5) (by rw [List.length_map, List.length_map]; omega))
        rw [List.length_map, List.length_map, Hn3.out] at HEq ⊢
        have HB5 := Lib.hid (HB4.out.trans (hb5.mono hs4))
        clear hu hb5 HH
        go_wp2_with fail
        refine HEq.out.mono ?_
        rintro E w6 ⟨rfl, rfl⟩
        go_wp2_with fail
        go_ret
        exact ⟨rfl, HB5.out⟩
      | succ k =>
        have hil : i < n3 := by omega
        obtain ⟨x, hxi⟩ : ∃ x, W[i]? = some x := ⟨W[i]'(by rw [Hn3.out]; exact hil), List.getElem?_eq_getElem _⟩
        have hxm := List.mem_of_getElem? hxi
        obtain ⟨bb, o, ha3, e0⟩ := str_cell (y := JP.pathL x) HV3.out Hbel.out (by rw [List.getElem?_map, hxi]; rfl)
        subst ha3
        obtain ⟨g1, g2, g3⟩ := Hget.out x hxm
        have hpl := pathL_len (Hfit.out x hxm)
        have HBr := Lib.hid (HB3.out.trans (Hbel.out.mono hs3))
        have hsr := HBr.out.size
        have hG1 := pget_any want (mkB (JP.pathL x)) wr hw (by rw [mkB_size]; exact hpl) (HE.out.below HBr.out)
        rw [mkB_list, g1, g3] at hG1
        have hG2 := fun (w' : World) (hb : Below wr.heap.size wr w') => pget_any (mkB s) (mkB (JP.pathL x)) w' (by rw [mkB_size]; exact hsl) (by rw [mkB_size]; exact hpl) ((HE.out.below HBr.out).below hb)
        rw [mkB_list, mkB_list, g2] at hG2
        obtain ⟨T, hT⟩ : ∃ T, JP.getT s (JP.pathL x) = T := ⟨_, rfl⟩
        rw [hT] at hG1 hG2
        have HG1 := Lib.hid hG1
        have HG2 := Lib.hid hG2
        have q1 : (0 : Int) ≤ (i : Int) := by omega
        have q2 : (i : Int) < (n3 : Int) := by omega
        have e1 : ((mkB T).toList == (mkB T).toList) = true := beq_self_eq_true _
        clear hxi hxm g1 g2 g3 hpl hG1 hG2 hT
        go_wp2_with fail
        refine HG1.out.mono ?_
        rintro E w4 ⟨rfl, hb4⟩
        have Hb4 := Lib.hid (Hbel.out.trans (hb4.mono Hbel.out.size))
        have HG3 := Lib.hid (HG2.out w4 hb4)
        clear hb4 HG1 HG2 e0
        go_wp2_with fail
        refine HG3.out.mono ?_
        rintro E w5 ⟨rfl, hb5⟩
        have Hb5 := Lib.hid (Hb4.out.trans (hb5.mono Hb4.out.size))
        clear hb5 HG3
        go_wp2_with fail
        go_roundg k
        case measure => omega
        case rel => exact ⟨i + 1, by omega, by go_num, Hb5⟩
  · have q0 : (er == 0) = false := by rw [beq_eq_false_iff_ne]; exact h0
    obtain ⟨rfl, rfl⟩ := HI.out.no h0
    have hn0 : n2 = 0 := by rw [← Hn2.out]; rfl
    subst hn0
    have e1 : (mkB []).toList.isEmpty = true := by rw [ByteArray.toList_eq, mkB_list]; rfl
    have e2 : (mkB []).toList = [] := by rw [ByteArray.toList_eq, mkB_list]
    clear h0
    go_wp2_with fail
    go_ret
    exact ⟨rfl, HB2.out⟩
end Go.Proofs.YtdcmnpeabjallaaGreatDoor
