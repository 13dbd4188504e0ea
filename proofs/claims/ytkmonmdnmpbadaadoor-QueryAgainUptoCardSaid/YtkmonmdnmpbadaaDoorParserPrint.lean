/- query.Print: its contract. -/
import Derived.Test.YtkmonmdnmpbadaaDoorParserText
import Derived.Test.YtkmonmdnmpbadaaDoorQueryChecks
import Derived.Test.YtkmonmdnmpbadaaDoorQueryBase
namespace Go.Proofs.YtkmonmdnmpbadaaDoor
open Go.RowKit
open QP

theorem valsT_len2 (m : Nat) : ∀ l : List ByteArray, (∀ v ∈ l, v.size ≤ m) → (valsT l).length ≤ (m + 1) * l.length
  | [], _ => by simp [valsT, Lib.join, List.intercalate]
  | [v], h => by
    have h1 := h v (List.mem_cons_self ..)
    have hl : v.data.toList.length = v.size := by simp
    rw [show valsT [v] = v.data.toList from join_one _ _, hl]
    simp; omega
  | v :: x :: r, h => by
    have h1 := h v (List.mem_cons_self ..)
    have hl : v.data.toList.length = v.size := by simp
    have ih := valsT_len2 m (x :: r) (fun y hy => h y (List.mem_cons_of_mem _ hy))
    have h2 : valsT (v :: x :: r) = v.data.toList ++ ([44] ++ valsT (x :: r)) := join_more _ _ _ _
    rw [h2, List.length_append, List.length_append, hl]
    rw [show (v :: x :: r).length = (x :: r).length + 1 from rfl, Nat.mul_add]
    simp only [List.length_cons, List.length_nil] at ih ⊢
    omega
def mkT (q : GReq) : ByteArray := ⟨(textT q).toArray⟩
theorem joinT_eq (l : List GReq) : valsT (l.map mkT) = joinT l := by
  unfold valsT joinT
  rw [List.map_map]
  rfl
theorem textT_len {q : GReq} (h : reqE q = 0) : (mkT q).size ≤ 600 := by
  obtain ⟨hk, k1, k4, hls, hl, hv⟩ := reqE_parts h
  have hks := key_short hk
  have hl2 : q.key.data.toList.length = q.key.size := by simp
  have hvt := valsT_len q.vals fun v hm => val_short' (hv v hm)
  show (textT q).toArray.size ≤ _
  rw [List.size_toArray]
  unfold textT
  split
  · omega
  · split
    · simp; omega
    · split
      · split
        · simp; omega
        · simp; omega
      · split
        · simp; omega
        · simp; omega
theorem join_own {w : World} {v : Value} {l : List ByteArray} (h : RowAt RString 1 w v l) (hl : l.length ≤ 8) (h1 : ∀ x ∈ l, x.size ≤ 600) :
    Calls Tryd.prog 23 #[v, .string ⟨#[44]⟩] w fun e w' => e = .returned (.string ⟨(valsT l).toArray⟩) ∧ Below w.heap.size w w' := by
  have hlen := valsT_len2 600 l h1
  by_cases h0 : 0 < l.length
  · obtain ⟨b, o, c, rfl, hc, _, hbs, hcell⟩ := h.form h0 (by omega)
    refine Tryd.strings_Join b o c l ⟨#[44]⟩ w (fun j x hx => ?_) hbs (by omega) hc ?_
    · obtain ⟨cs, _, h2, h3⟩ := hcell j x hx
      rw [h3] at h2
      have := h2 0 _ rfl
      simpa using this
    · show (valsT l).length ≤ _; omega
  · have hn : l = [] := List.eq_nil_of_length_eq_zero (by omega)
    subst hn
    obtain ⟨a, c, rfl, _, _⟩ := h.len
    refine (Tryd.strings_Join_none a c ⟨#[44]⟩ w).mono ?_
    rintro e w' ⟨rfl, rfl⟩
    exact ⟨rfl, Below.refl _ _⟩
def PrintAt (l : List GReq) (w : World) (E : Ending) (w' : World) : Prop := E = .returned (.tuple #[.string ⟨(printL l).1.toArray⟩, .int .i64 (printL l).2]) ∧ Below w.heap.size w w'
theorem print_end {l : List GReq} {w w' : World} {t : List UInt8} {e : Int} (h : printL l = (t, e)) {a : ByteArray} (ha : a.data.toList = t) (hb : Below w.heap.size w w') : PrintAt l w (.returned (.tuple #[.string a, .int .i64 e])) w' := by
  unfold PrintAt
  rw [h, ← str_mk ha]
  exact ⟨rfl, hb⟩
set_option maxRecDepth 100000 in
set_option maxHeartbeats 6400000 in
theorem print_any (v : Value) (l : List GReq) (m : Int) (w : World) (h : RowAt ReqR 3 w v l) (hl : l.length ≤ 1048576) (hok : ∀ r ∈ l, okReq r) (hm : MaxOK m w) :
    Calls Tryd.prog 6 #[v] w (PrintAt l w) := by
  obtain ⟨i0, hi0, hz0, hz1, hz2⟩ := info_parts Tryd.infoStr
  have Hend := fun {w' t e} (a : ByteArray) => Lib.hid (print_end (l := l) (w := w) (w' := w') (t := t) (e := e) (a := a))
  obtain ⟨L, HL⟩ : ∃ L, Hid (printL l = L) := ⟨_, Lib.hid rfl⟩
  have HL1 : Hid ((if reqsE l = 0 then if 300 < (joinT l).length then ([], 2) else (joinT l, 0) else ([], reqsE l)) = L) := HL
  obtain ⟨a1, c1, rfl, _, _⟩ := h.len
  have H := Lib.hid h
  have Hm := Lib.hid hm
  have Hck := Lib.hid (checks_any _ l m w h hl hok hm)
  obtain ⟨rE, HrE⟩ : ∃ rE, Hid (reqsE l = rE) := ⟨_, Lib.hid rfl⟩
  clear h hok hm
  rw [HrE.out] at HL1
  have Hck2 : Hid (Calls Tryd.prog 8 #[.slice a1 l.length c1] w fun e w' => e = .returned (.int .i64 rE) ∧ Below w.heap.size w w') := Lib.hid (by have := Hck.out; rw [HrE.out] at this; exact this)
  go_enter Tryd.func6, Tryd.ntmps6
  go_wp2_with fail
  refine Hck2.out.mono ?_
  rintro E w1 ⟨rfl, hb1⟩
  have Hb1 := Lib.hid hb1
  have H1 := Lib.hid (H.out.below stays_req hb1)
  clear hb1 Hck Hck2
  by_cases hr0 : rE = 0
  · subst hr0
    obtain ⟨h8, hall⟩ := reqsE_all HrE.out
    have Hall := Lib.hid hall
    have HL2 : Hid ((if 300 < (joinT l).length then ([], 2) else (joinT l, 0)) = L) := Lib.hid (by rw [← HL1.out, if_pos rfl])
    clear hall HrE HL1
    go_wp2_with fail
    go_loopg [16, 5] l.length (fun k u16 u5 wr => ∃ i : Nat, i + k = l.length ∧ u16 = .int .i64 (i : Int) ∧ Hid (OwnAt RString 1 wr w1.heap.size 9 u5 ((l.take i).map mkT)) ∧ Hid (Below w1.heap.size w1 wr))
    case atStart => exact ⟨0, by omega, rfl, Lib.hid (OwnAt.nil _), Lib.hid (Below.refl _ _)⟩
    case round =>
      obtain ⟨i, hig, rfl, Hown, Hbel⟩ := hrel
      have hsr := Hbel.out.size
      have hs1 := Hb1.out.size
      cases gk with
      | zero =>
        obtain rfl : i = l.length := by omega
        have hown := Hown.out
        rw [List.take_of_length_le (Nat.le_refl _)] at hown
        obtain ⟨av, cv, hu, _, _⟩ := hown.row.len
        rw [List.length_map] at hu
        subst hu
        have HJ := Lib.hid (join_own hown.row (by rw [List.length_map]; exact h8) (fun x hx => by
          obtain ⟨q, hq, rfl⟩ := List.mem_map.1 hx
          exact textT_len (Hall.out q hq)))
        have hjl := valsT_len2 600 (l.map mkT) (fun x hx => by
          obtain ⟨q, hq, rfl⟩ := List.mem_map.1 hx
          exact textT_len (Hall.out q hq))
        obtain ⟨J, HJe⟩ : ∃ J : ByteArray, Hid ((⟨(valsT (l.map mkT)).toArray⟩ : ByteArray) = J) := ⟨_, Lib.hid rfl⟩
        have HJt : Hid (J.data.toList = joinT l) := Lib.hid (by rw [← HJe.out, joinT_eq])
        have hJs : J.size = (joinT l).length := by rw [← HJt.out]; simp
        rw [HJe.out] at HJ
        rw [← hJs] at HL2
        have HJs := Lib.hid hJs
        clear hown hjl hJs hig
        go_wp2_with fail
        refine HJ.out.mono ?_
        rintro E w2 ⟨rfl, hb2⟩
        have Hb2 := Lib.hid (Hb1.out.trans ((Hbel.out.trans (hb2.mono hsr)).mono hs1))
        clear hb2
        by_cases h3 : 300 < J.size
        · have q0 : (300 : Int) < (J.size : Int) := by omega
          have HL3 : Hid (printL l = ([], 2)) := Lib.hid (by rw [HL.out, ← HL2.out, if_pos h3])
          clear h3 HL2
          go_wp2_with fail
          go_ret2
          exact (Hend ⟨#[]⟩).out HL3.out rfl Hb2.out
        · have q0 : ¬ (300 : Int) < (J.size : Int) := by omega
          have HL3 : Hid (printL l = (joinT l, 0)) := Lib.hid (by rw [HL.out, ← HL2.out, if_neg h3])
          clear h3 HL2
          go_wp2_with fail
          go_ret2
          exact (Hend J).out HL3.out HJt.out Hb2.out
      | succ k =>
        have hil : i < l.length := by omega
        obtain ⟨x, hxi⟩ : ∃ x, l[i]? = some x := ⟨l[i]'(by omega), List.getElem?_eq_getElem _⟩
        obtain ⟨b, o, c', hv, _, _, hbs, hcell⟩ := H1.out.form (by omega) (by omega)
        injection hv with u1 u2 u3
        subst u1
        clear u2 u3
        obtain ⟨ds, _, hcc, hR⟩ := hcell i x hxi
        have hR2 := stays_req _ _ _ _ (keeps_below Hbel.out) hR
        obtain ⟨y2, rfl, _, _⟩ := hR
        have e0 : wr.cell? ⟨b, o + i * 3, none⟩ = some (.string x.key) := (Hbel.out.cell (p := ⟨b, _, none⟩) hbs).trans (by simpa using hcc 0 _ rfl)
        have e1 : wr.cell? ⟨b, o + i * 3 + 1, none⟩ = some (.int .i64 x.kind) := (Hbel.out.cell (p := ⟨b, _, none⟩) hbs).trans (hcc 1 _ rfl)
        have e2 : wr.cell? ⟨b, o + i * 3 + 2, none⟩ = some y2 := (Hbel.out.cell (p := ⟨b, _, none⟩) hbs).trans (hcc 2 _ rfl)
        have q1 : (0 : Int) ≤ (i : Int) := by omega
        have q2 : (i : Int) < (l.length : Int) := by omega
        have HRx := Lib.hid hR2
        have hx0 := Hall.out x (List.mem_of_getElem? hxi)
        have Hxi := Lib.hid hxi
        have Hx0 := Lib.hid hx0
        obtain ⟨ao, co, rfl, _, _⟩ : ∃ ao co, y2 = .slice ao x.vals.length co ∧ True ∧ True := by
          obtain ⟨v2, h1, _, h2⟩ := hR2
          obtain ⟨ao, co, h3, _, _⟩ := h2.row.len
          injection h1 with _ h1; injection h1 with _ h1; injection h1 with h1 _
          exact ⟨ao, co, h1.trans h3, trivial, trivial⟩
        clear hcc hcell hxi hR2 hx0
        go_upto_region 8 with fail
        obtain ⟨W, hW⟩ : ∃ W, W = wr.alloc (.cells #[.string x.key, .int .i64 x.kind, .slice ao x.vals.length co] 33) := ⟨_, rfl⟩
        obtain ⟨gb, hgb⟩ : ∃ gb, gb = wr.heap.size := ⟨_, rfl⟩
        rw [← hW, ← hgb]
        have c0 : W.heap[gb]? = some (.cells #[.string x.key, .int .i64 x.kind, .slice ao x.vals.length co] 33 (0, 0)) := by rw [hW, hgb]; exact heap_alloc_new wr _
        have hb5 : Below wr.heap.size wr W := by rw [hW]; exact (Below.refl _ _).alloc (Nat.le_refl _) _
        have HW := Lib.hid (Hbel.out.trans (hb5.mono hsr))
        have HRW := Lib.hid (stays_req _ _ _ _ (keeps_below hb5) HRx.out)
        have HownW := Lib.hid (Hown.out.below stays_string hb5)
        have cc := fun i => cell_block c0 i
        clear hW hgb hb5 c0 e0 e1 e2
        have HRv : Hid (RowAt RString 1 W (.slice ao x.vals.length co) x.vals) := Lib.hid (by
          obtain ⟨v2, h1, _, h2⟩ := HRW.out
          injection h1 with _ h1; injection h1 with _ h1; injection h1 with h1 _
          rw [h1]; exact h2.row)
        have hws := HW.out.size
        go_wp2_with fail
        refine (text_any x _ W HRv.out Hx0.out).mono ?_
        rintro E w3 ⟨rfl, hb3⟩
        have Hown3 := Lib.hid (HownW.out.below stays_string hb3)
        have Hb3 := Lib.hid (HW.out.trans (hb3.mono hws))
        have h3s := Hb3.out.size
        have hol : ((l.take i).map mkT).length ≤ 8 := by rw [List.length_map, List.length_take]; omega
        have Htk : Hid ((l.take (i + 1)).map mkT = (l.take i).map mkT ++ [mkT x]) := Lib.hid (by rw [List.take_add_one, Hxi.out, List.map_append]; rfl)
        obtain ⟨O, HO⟩ : ∃ O, Hid ((l.take i).map mkT = O) := ⟨_, Lib.hid rfl⟩
        obtain ⟨t, Ht⟩ : ∃ t, Hid (mkT x = t) := ⟨_, Lib.hid rfl⟩
        rw [HO.out, Ht.out] at Htk
        rw [HO.out] at Hown3 hol
        rw [show (⟨(textT x).toArray⟩ : ByteArray) = t from Ht.out]
        clear hb3 cc
        go_wp2_with (at_builtin; refine wpList_append_ownAt (R := RString) (k := 1) (e := 9) (B := w1.heap.size) (l := O) (m := [t]) _ (by rfl) _ _ _ (by rfl) i0 _ 16 Tryd.underlying31 hi0 hz0 hz1 hz2 rfl (by omega) flat_string one_string _ (by rfl) (Hown3.out.alloc stays_string _) (.slice (some ⟨w3.heap.size, 0, none⟩) 1 1) (by rfl) (RowAt.one (R := RString) (k := 1) (cs := #[.string t]) (heap_alloc_new w3 _) rfl rfl) (by unfold maxLen; simp; omega) (by simp; omega) (by simp; omega) ?_)
        intro v' w4 hv' hg hr _
        have hb4 : Below w1.heap.size w1 w4 := below_of_grown (Hb3.out.alloc (by omega) _) (by simp; omega) hg hr
        have Hv4 : Hid (OwnAt RString 1 w4 w1.heap.size 9 v' ((l.take (i + 1)).map mkT)) := Lib.hid (by rw [Htk.out]; exact hv')
        have Hb4 := Lib.hid hb4
        clear hv' hg hr hb4
        go_wp2_with fail
        go_roundg k
        case measure => omega
        case rel => exact ⟨i + 1, by omega, by go_num, Hv4, Hb4⟩
  · have q0 : (rE != 0) = true := by rw [bne_iff_ne]; exact hr0
    have q1 : (rE == 0) = false := by rw [beq_eq_false_iff_ne]; exact hr0
    have HL2 : Hid (printL l = ([], rE)) := Lib.hid (by rw [HL.out, ← HL1.out, if_neg hr0])
    clear hr0 HL1
    go_wp2_with fail
    go_ret2
    exact (Hend ⟨#[]⟩).out HL2.out rfl Hb1.out
end Go.Proofs.YtkmonmdnmpbadaaDoor
