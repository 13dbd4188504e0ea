/- Texts of ours joined. -/
import Derived.Lib.AppendIntMem
import Derived.Lib.Replace
import Derived.Lib.CountLaws
import Derived.Lib.SplitLaws
import Derived.Lib.Split
import Derived.Stop.LaidErr
import Derived.Lib.AtoiAllCases
import Derived.Test.YtdcmnpeabjallaaGreatDoorShelf
import Derived.Test.YtdcmnpeabjallaaGreatDoorMz4
set_option linter.unusedVariables false
set_option linter.unusedSimpArgs false
namespace Go.Proofs.YtdcmnpeabjallaaGreatDoor
open Go.RowKit
open JP (JV Bs)
theorem joinStrs_any {w : World} {v : Value} {l : List ByteArray} (h : RowAt RString 1 w v l) (hl : l.length ≤ 1073741824) (hj : (Lib.join (l.map (·.data.toList)) [44]).length ≤ 1073741824) :
    Calls Tryz.prog 79 #[v, .string ⟨#[44]⟩] w fun e w' => e = .returned (.string (mkB (Lib.join (l.map (·.data.toList)) [44]))) ∧ Below w.heap.size w w' := by
  by_cases h0 : 0 < l.length
  · obtain ⟨b, o, c, rfl, hc, _, hbs, hcell⟩ := h.form h0 (by omega)
    refine Tryz.strings_Join b o c l ⟨#[44]⟩ w (fun j x hx => ?_) hbs (by omega) hc ?_
    · obtain ⟨cs, _, h2, h3⟩ := hcell j x hx
      rw [h3] at h2
      have := h2 0 _ rfl
      simpa using this
    · show (Lib.join (l.map (·.data.toList)) [44]).length ≤ _; omega
  · have hn : l = [] := List.eq_nil_of_length_eq_zero (by omega)
    subst hn
    obtain ⟨a, c, rfl, _, _⟩ := h.len
    refine (Tryz.strings_Join_none a c ⟨#[44]⟩ w).mono ?_
    rintro e w' ⟨rfl, rfl⟩
    exact ⟨rfl, Below.refl _ _⟩
theorem textL_map (l : List JV) : JP.textL l = l.map JP.text := by
  induction l with
  | nil => rfl
  | cons v r ih => rw [JP.textL, ih]; rfl
theorem textF_map (l : List (Bs × JV)) : JP.textF l = l.map fun x => JP.quote x.1 ++ 58 :: JP.text x.2 := by
  induction l with
  | nil => rfl
  | cons x r ih => obtain ⟨n, v⟩ := x; rw [JP.textF, ih]; rfl
theorem mk_map {α : Type} (f : α → Bs) (l : List α) : (l.map fun x => mkB (f x)).map (·.data.toList) = l.map f := by
  rw [List.map_map]
  exact List.map_congr_left fun x _ => mkB_list (f x)
theorem lenL_mem {l : List JV} {x : JV} (h : x ∈ l) : (JP.text x).length + 1 ≤ JP.lenL l := by
  induction l with
  | nil => cases h
  | cons v r ih =>
    rw [JP.lenL]
    rcases List.mem_cons.1 h with rfl | h
    · omega
    · have := ih h; omega
theorem lenL_len (l : List JV) : l.length ≤ JP.lenL l := by
  induction l with
  | nil => simp
  | cons v r ih => rw [JP.lenL, List.length_cons]; omega
theorem lenF_mem {l : List (Bs × JV)} {x : Bs × JV} (h : x ∈ l) : (JP.quote x.1).length + (JP.text x.2).length + 2 ≤ JP.lenF l := by
  induction l with
  | nil => cases h
  | cons v r ih =>
    obtain ⟨n, v⟩ := v
    rw [JP.lenF]
    rcases List.mem_cons.1 h with rfl | h
    · dsimp only; omega
    · have := ih h; omega
theorem lenF_len (l : List (Bs × JV)) : l.length ≤ JP.lenF l := by
  induction l with
  | nil => simp
  | cons v r ih => obtain ⟨n, v⟩ := v; rw [JP.lenF, List.length_cons]; omega
theorem lenL_text (l : List JV) : JP.lenL l ≤ (JP.text (.list l)).length := by
  rcases JP.join_len l with h | rfl
  · rw [JP.text]; simp only [List.length_cons, List.length_append, List.length_nil]; omega
  · simp [JP.lenL]
theorem lenF_text (l : List (Bs × JV)) : JP.lenF l ≤ (JP.text (.obj l)).length := by
  rcases JP.join_lenF l with h | rfl
  · rw [JP.text]; simp only [List.length_cons, List.length_append, List.length_nil]; omega
  · simp [JP.lenF]
theorem quote_size (s : Bs) : s.length ≤ (JP.quote s).length := by
  rw [JP.quote_len]
  have : s.length ≤ (s.flatMap JP.escB).length := by
    induction s with
    | nil => simp
    | cons c r ih =>
      rw [List.flatMap_cons, List.length_append, List.length_cons]
      have : 1 ≤ (JP.escB c).length := by unfold JP.escB; split; · simp
                                          · split; · simp
                                            · split <;> simp
      omega
  omega
theorem ret_mk {a b : Bs} (h : a = b) : Ending.returned (.string (mkB a)) = .returned (.string (mkB b)) := by rw [h]
theorem wrap_mk (a z : UInt8) (j : Bs) : (⟨#[a]⟩ ++ mkB j ++ ⟨#[z]⟩ : ByteArray) = mkB (a :: (j ++ [z])) := by
  rw [← mkB_of (⟨#[a]⟩ ++ mkB j ++ ⟨#[z]⟩ : ByteArray), mkB_inj]
  simp [mkB]
theorem colon_mk (a b : Bs) : (mkB a ++ ⟨#[58]⟩ ++ mkB b : ByteArray) = mkB (a ++ 58 :: b) := by
  rw [← mkB_of (mkB a ++ ⟨#[58]⟩ ++ mkB b : ByteArray), mkB_inj]
  simp [mkB]
theorem below_drew1 (w : World) : Below w.heap.size w w.drew := ⟨rfl, rfl, rfl, Nat.le_refl _, fun _ _ => rfl⟩
theorem formatBool_text (b : Bool) : Lib.formatBool b = JP.text (.bool b) := by cases b <;> rfl
set_option maxRecDepth 100000 in
set_option maxHeartbeats 6400000 in
theorem text_any : ∀ (n : Nat) (v : Value) (x : JV) (w : World), JvAt n [] w v x → (JP.text x).length ≤ 4194304 → TabOK w →
    Calls Tryz.prog 43 #[v] w fun e w' => e = .returned (.string (mkB (JP.text x))) ∧ Below w.heap.size w w' := by
  intro n
  induction n with
  | zero => intro v x w h; cases h
  | succ n ih =>
    intro v x w h hlen htab
    have IH := Lib.hid ih
    have Htab := Lib.hid htab
    clear ih htab
    obtain ⟨i0, hi0, hz0, hz1, hz2⟩ := info_parts Tryz.infoStr
    cases x with
    | nul =>
      obtain rfl : v = .nilIface := h
      obtain ⟨g1, g2, g3, g4, g5⟩ := as_nil
      clear hlen
      go_enter Tryz.func43, Tryz.ntmps43
      go_wp2_with fail
      go_ret
      exact ⟨rfl, Below.refl _ _⟩
    | bool b =>
      obtain rfl : v = .iface 4 (.bool b) := h
      obtain ⟨g1, g2, g3, g4, g5⟩ := as_bool (.bool b)
      clear hlen
      go_enter Tryz.func43, Tryz.ntmps43
      go_wp2_with fail
      refine (Tryz.strconv_FormatBool b w).mono ?_
      rintro E w1 ⟨rfl, rfl⟩
      go_wp2_with fail
      go_ret
      exact ⟨ret_mk (formatBool_text b), Below.refl _ _⟩
    | num k =>
      obtain ⟨rfl, k0, k1⟩ := h
      obtain ⟨g1, g2, g3, g4, g5⟩ := as_int64 (.int .i64 k)
      clear hlen
      go_enter Tryz.func43, Tryz.ntmps43
      go_wp2_with fail
      refine (Tryz.strconv_FormatInt_10 k k0 k1 w Htab.out).mono ?_
      rintro E w1 ⟨rfl, q, os, hw1⟩
      have hb1 : Below w.heap.size w w1 := by rw [hw1]; exact Lib.below_grow _ _ (Nat.le_refl _) _ _
      have Hb1 := Lib.hid hb1
      clear hw1 hb1
      go_wp2_with fail
      go_ret
      exact ⟨ret_mk (by rw [JP.text]), Hb1.out⟩
    | str s =>
      obtain rfl : v = .iface 9 (.string (mkB s)) := h
      obtain ⟨g1, g2, g3, g4, g5⟩ := as_string (.string (mkB s))
      have hs : (mkB s).size ≤ 4194304 := by
        rw [mkB_size]
        rw [JP.text] at hlen
        have := quote_size s
        omega
      have HQ := Lib.hid (quote_any (mkB s) w hs)
      clear hlen hs
      go_enter Tryz.func43, Tryz.ntmps43
      go_wp2_with fail
      refine HQ.out.mono ?_
      rintro E w1 ⟨rfl, hb1⟩
      have Hb1 := Lib.hid hb1
      clear hb1
      go_wp2_with fail
      go_ret
      exact ⟨ret_mk (by rw [JP.text, mkB_list]), Hb1.out⟩
    | list l =>
      obtain ⟨u, rfl, hrow, _⟩ := h
      obtain ⟨a, c, rfl, _, _⟩ := hrow.len
      obtain ⟨g1, g2, g3, g4, g5⟩ := as_list (.slice a l.length c)
      have h1 := lenL_text l
      have h2 := lenL_len l
      have hll : l.length ≤ 4194304 := by omega
      have Hlen : Hid (JP.lenL l ≤ 4194304) := Lib.hid (by omega)
      have Hrow := Lib.hid hrow
      have hjl : (Lib.join (JP.textL l) [44]).length ≤ 4194304 := by
        have : (JP.text (.list l)).length = (Lib.join (JP.textL l) [44]).length + 2 := by rw [JP.text]; simp
        omega
      have Hjl := Lib.hid hjl
      have HT : Hid (JP.text (.list l) = 91 :: (Lib.join (JP.textL l) [44] ++ [93])) := Lib.hid (by rw [JP.text])
      clear hrow hlen h1 h2 hjl
      go_enter Tryz.func43, Tryz.ntmps43
      go_wp2_with fail
      go_loopg [7, 35] l.length (fun k u7 u35 wr => ∃ i : Nat, i + k = l.length ∧ u35 = .int .i64 (i : Int) ∧ Hid (OwnAt RString 1 wr w.heap.size 9 u7 ((l.take i).map fun x => mkB (JP.text x))) ∧ Hid (Below w.heap.size w wr))
      case atStart => exact ⟨0, by omega, rfl, Lib.hid (OwnAt.nil _), Lib.hid (Below.refl _ _)⟩
      case round =>
        obtain ⟨i, hik, rfl, Hown, Hbel⟩ := hrel
        have hsr := Hbel.out.size
        cases gk with
        | zero =>
          obtain rfl : i = l.length := by omega
          have hown := Hown.out
          rw [List.take_of_length_le (Nat.le_refl _)] at hown
          have HJ := Lib.hid (joinStrs_any hown.row (by rw [List.length_map]; omega) (by rw [mk_map, ← textL_map]; have := Hjl.out; omega))
          obtain ⟨J, HJe⟩ : ∃ J : Bs, Hid (Lib.join (JP.textL l) [44] = J) := ⟨_, Lib.hid rfl⟩
          rw [mk_map, ← textL_map, HJe.out] at HJ
          have hJs : (mkB J).size ≤ 4194304 := by rw [mkB_size, ← HJe.out]; exact Hjl.out
          rw [HJe.out] at HT
          have q1 : ¬ 9223372036854775807 < 1 + (mkB J).size := by omega
          have q2 : ¬ 9223372036854775807 < 1 + (mkB J).size + 1 := by omega
          clear hown hik hsr
          go_wp2_with fail
          refine HJ.out.mono ?_
          rintro E w1 ⟨rfl, hb1⟩
          have Hb1 := Lib.hid (Hbel.out.trans (hb1.mono Hbel.out.size))
          clear hb1
          go_wp2_with fail
          go_ret
          exact ⟨by rw [HT.out, ← wrap_mk]; rfl, Hb1.out⟩
        | succ k =>
          have hil : i < l.length := by omega
          obtain ⟨x, hx⟩ : ∃ x, l[i]? = some x := ⟨l[i]'(by omega), List.getElem?_eq_getElem _⟩
          obtain ⟨b, o, c', hv, _, _, hbs, hcell⟩ := Hrow.out.form (by omega) (by omega)
          injection hv with u1 u2 u3
          subst u1
          clear u2 u3
          obtain ⟨ds, _, hcc, vx, rfl, hvx⟩ := hcell i x hx
          have e0 : wr.cell? ⟨b, o + i, none⟩ = some vx := (Hbel.out.cell (p := ⟨b, _, none⟩) hbs).trans (by simpa using hcc 0 _ rfl)
          have q1 : (0 : Int) ≤ (i : Int) := by omega
          have q2 : (i : Int) < (l.length : Int) := by omega
          have hmem := lenL_mem (List.mem_of_getElem? hx)
          have HC := Lib.hid (IH.out vx x wr (hvx.below Hbel.out) (by have := Hlen.out; omega) (Htab.out.below Hbel.out))
          have Htk : Hid ((l.take (i + 1)).map (fun x => mkB (JP.text x)) = (l.take i).map (fun x => mkB (JP.text x)) ++ [mkB (JP.text x)]) := Lib.hid (by rw [List.take_add_one, hx, List.map_append]; rfl)
          have hol : ((l.take i).map fun x => mkB (JP.text x)).length ≤ 4194304 := by rw [List.length_map, List.length_take]; omega
          obtain ⟨O, HO⟩ : ∃ O, Hid ((l.take i).map (fun x => mkB (JP.text x)) = O) := ⟨_, Lib.hid rfl⟩
          obtain ⟨t, Ht⟩ : ∃ t, Hid (mkB (JP.text x) = t) := ⟨_, Lib.hid rfl⟩
          rw [HO.out, Ht.out] at Htk
          rw [HO.out] at Hown hol
          rw [Ht.out] at HC
          clear hcell hcc hx hvx hmem
          go_wp2_with fail
          refine HC.out.mono ?_
          rintro E w1 ⟨rfl, hb1⟩
          have Ho1 := Lib.hid (Hown.out.below stays_string hb1)
          have Hb1 := Lib.hid (Hbel.out.trans (hb1.mono Hbel.out.size))
          have hs1 := Hb1.out.size
          clear hb1 e0
          go_wp2_with (at_builtin; refine wpList_append_ownAt (R := RString) (k := 1) (e := 9) (B := w.heap.size) (l := O) (m := [t]) _ (by rfl) _ _ _ (by rfl) i0 _ 16 Tryz.underlying28 hi0 hz0 hz1 hz2 rfl (by omega) flat_string one_string _ (by rfl) (Ho1.out.alloc stays_string _) (.slice (some ⟨w1.heap.size, 0, none⟩) 1 1) (by rfl) (RowAt.one (R := RString) (k := 1) (cs := #[.string t]) (heap_alloc_new w1 _) rfl rfl) (by unfold maxLen; simp; omega) (by simp; omega) (by simp; omega) ?_)
          intro v' w2 hv' hg hr _
          have hb2 : Below w.heap.size w w2 := below_of_grown (Hb1.out.alloc hs1 _) (by simp; omega) hg hr
          have Hb2 := Lib.hid hb2
          have Hv : Hid (OwnAt RString 1 w2 w.heap.size 9 v' ((l.take (i + 1)).map fun x => mkB (JP.text x))) := Lib.hid (by rw [Htk.out]; exact hv')
          clear hv' hg hr hb2
          go_wp2_with fail
          go_roundg k
          case measure => omega
          case rel => exact ⟨i + 1, by omega, by go_num, Hv, Hb2⟩
    | obj l =>
      obtain ⟨q, rfl, _, _, vn, vv, cn, cv, hrn, _, hrv, _⟩ := h
      obtain ⟨an, c1, hu1, _, _⟩ := hrn.len
      obtain ⟨av, c2, hu2, _, _⟩ := hrv.len
      rw [List.length_map] at hu1 hu2
      subst hu1
      subst hu2
      obtain ⟨g1, g2, g3, g4, g5⟩ := as_obj (.pointer (some ⟨q, 0, none⟩))
      have h1 := lenF_text l
      have h2 := lenF_len l
      have hll : l.length ≤ 4194304 := by omega
      have Hlen : Hid (JP.lenF l ≤ 4194304) := Lib.hid (by omega)
      have Hrn := Lib.hid hrn
      have Hrv := Lib.hid hrv
      have hjl : (Lib.join (JP.textF l) [44]).length ≤ 4194304 := by
        have : (JP.text (.obj l)).length = (Lib.join (JP.textF l) [44]).length + 2 := by rw [JP.text]; simp
        omega
      have Hjl := Lib.hid hjl
      have HT : Hid (JP.text (.obj l) = 123 :: (Lib.join (JP.textF l) [44] ++ [125])) := Lib.hid (by rw [JP.text])
      have hqw : q < w.heap.size := World.block_lt_of_cell? w ⟨q, 0, none⟩ cn
      have Cv := Lib.hid cv
      clear hrn hrv hlen h1 h2 hjl cv
      go_enter Tryz.func43, Tryz.ntmps43
      go_wp2_with fail
      clear cn
      go_loopg [11, 57] l.length (fun k u11 u57 wr => ∃ i : Nat, i + k = l.length ∧ u57 = .int .i64 (i : Int) ∧ Hid (OwnAt RString 1 wr w.heap.size 9 u11 ((l.take i).map fun x => mkB (JP.quote x.1 ++ 58 :: JP.text x.2))) ∧ Hid (Below w.heap.size w wr))
      case atStart => exact ⟨0, by omega, rfl, Lib.hid (OwnAt.nil _), Lib.hid (Below.refl _ _)⟩
      case round =>
        obtain ⟨i, hik, rfl, Hown, Hbel⟩ := hrel
        have hsr := Hbel.out.size
        cases gk with
        | zero =>
          obtain rfl : i = l.length := by omega
          have hown := Hown.out
          rw [List.take_of_length_le (Nat.le_refl _)] at hown
          have HJ := Lib.hid (joinStrs_any hown.row (by rw [List.length_map]; omega) (by rw [mk_map, ← textF_map]; have := Hjl.out; omega))
          obtain ⟨J, HJe⟩ : ∃ J : Bs, Hid (Lib.join (JP.textF l) [44] = J) := ⟨_, Lib.hid rfl⟩
          rw [mk_map, ← textF_map, HJe.out] at HJ
          have hJs : (mkB J).size ≤ 4194304 := by rw [mkB_size, ← HJe.out]; exact Hjl.out
          rw [HJe.out] at HT
          have q1 : ¬ 9223372036854775807 < 1 + (mkB J).size := by omega
          have q2 : ¬ 9223372036854775807 < 1 + (mkB J).size + 1 := by omega
          clear hown hik hsr
          go_wp2_with fail
          refine HJ.out.mono ?_
          rintro E w1 ⟨rfl, hb1⟩
          have Hb1 := Lib.hid (Hbel.out.trans (hb1.mono Hbel.out.size))
          clear hb1
          go_wp2_with fail
          go_ret
          exact ⟨by rw [HT.out, ← wrap_mk]; rfl, Hb1.out⟩
        | succ k =>
          have hil : i < l.length := by omega
          obtain ⟨y, hx⟩ : ∃ y, l[i]? = some y := ⟨l[i]'(by omega), List.getElem?_eq_getElem _⟩
          have hxn : (l.map fun x => mkB x.1)[i]? = some (mkB y.1) := by rw [List.getElem?_map, hx]; rfl
          have hxv : (l.map (·.2))[i]? = some y.2 := by rw [List.getElem?_map, hx]; rfl
          obtain ⟨b, o, c', hv, _, _, hbs, hcell⟩ := Hrn.out.form (by rw [List.length_map]; omega) (by omega)
          injection hv with u1 u2 u3
          subst u1
          clear u2 u3
          obtain ⟨b2, o2, c2', hv2, _, _, hbs2, hcell2⟩ := Hrv.out.form (by rw [List.length_map]; omega) (by omega)
          injection hv2 with u1 u2 u3
          subst u1
          clear u2 u3
          obtain ⟨ds, _, hcc, rfl⟩ := hcell i _ hxn
          obtain ⟨es, _, hdd, vx, rfl, hvx⟩ := hcell2 i _ hxv
          have e0 : wr.cell? ⟨b, o + i, none⟩ = some (.string (mkB y.1)) := (Hbel.out.cell (p := ⟨b, _, none⟩) hbs).trans (by simpa using hcc 0 _ rfl)
          have f0 : wr.cell? ⟨b2, o2 + i, none⟩ = some vx := (Hbel.out.cell (p := ⟨b2, _, none⟩) hbs2).trans (by simpa using hdd 0 _ rfl)
          have p1 : wr.cell? ⟨q, 1, none⟩ = some (.slice (some ⟨b2, o2, none⟩) l.length c2) := (Hbel.out.cell (p := ⟨q, 1, none⟩) hqw).trans Cv.out
          have hqr : q < wr.heap.size := Nat.lt_of_lt_of_le hqw hsr
          have hbr2 : b2 < wr.heap.size := Nat.lt_of_lt_of_le hbs2 hsr
          have q1 : (0 : Int) ≤ (i : Int) := by omega
          have q2 : (i : Int) < (l.length : Int) := by omega
          have hmem := lenF_mem (List.mem_of_getElem? hx)
          have hl0 := Hlen.out
          have hns : (mkB y.1).size ≤ 4194304 := by rw [mkB_size]; have := quote_size y.1; omega
          obtain ⟨Q, HQ⟩ : ∃ Q : Bs, Hid (JP.quote y.1 = Q) := ⟨_, Lib.hid rfl⟩
          obtain ⟨X, HX⟩ : ∃ X : Bs, Hid (JP.text y.2 = X) := ⟨_, Lib.hid rfl⟩
          have HC1 : Hid (∀ w', Below wr.heap.size wr w' → Calls Tryz.prog 78 #[.string (mkB y.1)] w' fun e w'' => e = .returned (.string (mkB Q)) ∧ Below w'.heap.size w' w'') := Lib.hid fun w' hb' => by
            refine (quote_any (mkB y.1) w' hns).mono ?_
            rintro E w'' ⟨rfl, hb''⟩
            exact ⟨by rw [mkB_list, HQ.out], hb''⟩
          have HC2 : Hid (∀ w', Below wr.heap.size wr w' → Calls Tryz.prog 43 #[vx] w' fun e w'' => e = .returned (.string (mkB X)) ∧ Below w'.heap.size w' w'') := Lib.hid fun w' hb' => by
            have hbw := Hbel.out.trans (hb'.mono hsr)
            refine (IH.out vx y.2 w' (hvx.below hbw) (by omega) (Htab.out.below hbw)).mono ?_
            rintro E w'' ⟨rfl, hb''⟩
            exact ⟨by rw [HX.out], hb''⟩
          have Htk : Hid ((l.take (i + 1)).map (fun x => mkB (JP.quote x.1 ++ 58 :: JP.text x.2)) = (l.take i).map (fun x => mkB (JP.quote x.1 ++ 58 :: JP.text x.2)) ++ [mkB (Q ++ 58 :: X)]) := Lib.hid (by rw [List.take_add_one, hx, List.map_append, ← HQ.out, ← HX.out]; rfl)
          have hol : ((l.take i).map fun x => mkB (JP.quote x.1 ++ 58 :: JP.text x.2)).length ≤ 4194304 := by rw [List.length_map, List.length_take]; omega
          have hQs : (mkB Q).size ≤ 4194304 := by rw [mkB_size, ← HQ.out]; omega
          have hXs : (mkB X).size ≤ 4194304 := by rw [mkB_size, ← HX.out]; omega
          have q4 : ¬ 9223372036854775807 < (mkB Q).size + 1 := by omega
          have q5 : ¬ 9223372036854775807 < (mkB Q).size + 1 + (mkB X).size := by omega
          obtain ⟨O, HO⟩ : ∃ O, Hid ((l.take i).map (fun x => mkB (JP.quote x.1 ++ 58 :: JP.text x.2)) = O) := ⟨_, Lib.hid rfl⟩
          obtain ⟨t, Ht⟩ : ∃ t, Hid (mkB (Q ++ 58 :: X) = t) := ⟨_, Lib.hid rfl⟩
          have Ht2 : Hid ((mkB Q ++ ⟨#[58]⟩ ++ mkB X : ByteArray) = t) := Lib.hid (by rw [colon_mk]; exact Ht.out)
          rw [HO.out, Ht.out] at Htk
          rw [HO.out] at Hown hol
          clear hcell hcc hcell2 hdd hx hxn hxv hvx hmem hl0
          go_upto_region 26 with fail
          refine wp_region_relB 14 (fun ii U w' => match ii with
            | 0 => U 0 = u11
            | 1 => U 1 = .string (mkB y.1)
            | 2 => U 2 = .string (mkB Q)
            | 3 => U 3 = .string (mkB Q ++ ⟨#[58]⟩)
            | 4 => U 4 = .pointer (some ⟨q, 0, none⟩)
            | 5 => U 5 = .pointer (some ⟨q, 0, none⟩)
            | 6 => U 6 = .pointer (some ⟨q, 1, none⟩)
            | 7 => U 7 = .slice (some ⟨b2, o2, none⟩) l.length c2
            | 8 => U 8 = .int .i64 (i : Int)
            | 9 => U 9 = .pointer (some ⟨b2, o2 + i, none⟩)
            | 10 => U 10 = vx
            | 11 => U 11 = .string (mkB X)
            | 12 => U 12 = .string t
            | 13 => ∃ g, U 13 = .slice (some ⟨g, 0, none⟩) 1 1 ∧ w'.heap[g]? = some (.cells #[.string t] 9 (0, 0))
            | _ => True)
            (fun | 2 => [1] | 3 => [2] | 5 => [4] | 6 => [5] | 7 => [6] | 9 => [7, 8] | 10 => [9] | 11 => [10] | 12 => [3, 11] | 13 => [12] | _ => []) (by kernel_rfl) (by kernel_rfl) ?_ ⟨?_, ?_, ?_, ?_, ?_, ?_, ?_, ?_, ?_, ?_, ?_, ?_, ?_, ?_, trivial⟩ ?_
          · intro j u w1 w2 hb h
            match j, h with
            | 0, h => exact h
            | 1, h => exact h
            | 2, h => exact h
            | 3, h => exact h
            | 4, h => exact h
            | 5, h => exact h
            | 6, h => exact h
            | 7, h => exact h
            | 8, h => exact h
            | 9, h => exact h
            | 10, h => exact h
            | 11, h => exact h
            | 12, h => exact h
            | 13, h => exact (by obtain ⟨g, h1, h2⟩ := h; exact ⟨g, h1, below_block hb h2⟩)
            | _ + 14, h => trivial
          · intro x w' hb hd
            have hbr : Below wr.heap.size wr w' := (below_drew1 wr).trans hb
            refine owes_here u11 (by rfl) ?_ rfl
            simp only [putAll, List.take_succ_cons, List.take_zero]
            go_simp
          · intro x w' hb hd
            have hbr : Below wr.heap.size wr w' := (below_drew1 wr).trans hb
            refine owes_here (.string (mkB y.1)) (by rfl) ?_ rfl
            simp only [putAll, List.take_succ_cons, List.take_zero]
            go_simp
          · intro x w' hb hd
            have hbr : Below wr.heap.size wr w' := (below_drew1 wr).trans hb
            have k1 : x 1 = .string (mkB y.1) := hd 1 (by simp)
            refine owes_call 78 #[.string (mkB y.1)] (by rfl) ?_ ((HC1.out w' hbr).mono fun e w2 h => ⟨_, h.1, rfl, h.2⟩)
            simp only [putAll, List.take_succ_cons, List.take_zero]
            go_simp
          · intro x w' hb hd
            have hbr : Below wr.heap.size wr w' := (below_drew1 wr).trans hb
            have k1 : x 2 = .string (mkB Q) := hd 2 (by simp)
            refine owes_here (.string (mkB Q ++ ⟨#[58]⟩)) (by rfl) ?_ rfl
            simp only [putAll, List.take_succ_cons, List.take_zero]
            go_simp
          · intro x w' hb hd
            have hbr : Below wr.heap.size wr w' := (below_drew1 wr).trans hb
            refine owes_here (.pointer (some ⟨q, 0, none⟩)) (by rfl) ?_ rfl
            simp only [putAll, List.take_succ_cons, List.take_zero]
            go_simp
          · intro x w' hb hd
            have hbr : Below wr.heap.size wr w' := (below_drew1 wr).trans hb
            have k1 : x 4 = .pointer (some ⟨q, 0, none⟩) := hd 4 (by simp)
            refine owes_here (.pointer (some ⟨q, 0, none⟩)) (by rfl) ?_ rfl
            simp only [putAll, List.take_succ_cons, List.take_zero]
            go_simp
          · intro x w' hb hd
            have hbr : Below wr.heap.size wr w' := (below_drew1 wr).trans hb
            have k1 : x 5 = .pointer (some ⟨q, 0, none⟩) := hd 5 (by simp)
            refine owes_here (.pointer (some ⟨q, 1, none⟩)) (by rfl) ?_ rfl
            simp only [putAll, List.take_succ_cons, List.take_zero]
            go_simp
          · intro x w' hb hd
            have hbr : Below wr.heap.size wr w' := (below_drew1 wr).trans hb
            have k1 : x 6 = .pointer (some ⟨q, 1, none⟩) := hd 6 (by simp)
            have d1 := (hbr.cell (p := ⟨q, 1, none⟩) hqr).trans p1
            refine owes_here (.slice (some ⟨b2, o2, none⟩) l.length c2) (by rfl) ?_ rfl
            simp only [putAll, List.take_succ_cons, List.take_zero]
            go_simp
          · intro x w' hb hd
            have hbr : Below wr.heap.size wr w' := (below_drew1 wr).trans hb
            refine owes_here (.int .i64 (i : Int)) (by rfl) ?_ rfl
            simp only [putAll, List.take_succ_cons, List.take_zero]
            go_simp
          · intro x w' hb hd
            have hbr : Below wr.heap.size wr w' := (below_drew1 wr).trans hb
            have k1 : x 7 = .slice (some ⟨b2, o2, none⟩) l.length c2 := hd 7 (by simp)
            have k2 : x 8 = .int .i64 (i : Int) := hd 8 (by simp)
            refine owes_here (.pointer (some ⟨b2, o2 + i, none⟩)) (by rfl) ?_ rfl
            simp only [putAll, List.take_succ_cons, List.take_zero]
            go_simp
          · intro x w' hb hd
            have hbr : Below wr.heap.size wr w' := (below_drew1 wr).trans hb
            have k1 : x 9 = .pointer (some ⟨b2, o2 + i, none⟩) := hd 9 (by simp)
            have d1 := (hbr.cell (p := ⟨b2, o2 + i, none⟩) hbr2).trans f0
            refine owes_here vx (by rfl) ?_ rfl
            simp only [putAll, List.take_succ_cons, List.take_zero]
            go_simp
          · intro x w' hb hd
            have hbr : Below wr.heap.size wr w' := (below_drew1 wr).trans hb
            have k1 : x 10 = vx := hd 10 (by simp)
            refine owes_call 43 #[vx] (by rfl) ?_ ((HC2.out w' hbr).mono fun e w2 h => ⟨_, h.1, rfl, h.2⟩)
            simp only [putAll, List.take_succ_cons, List.take_zero]
            go_simp
          · intro x w' hb hd
            have hbr : Below wr.heap.size wr w' := (below_drew1 wr).trans hb
            have k1 : x 3 = .string (mkB Q ++ ⟨#[58]⟩) := hd 3 (by simp)
            have k2 : x 11 = .string (mkB X) := hd 11 (by simp)
            have hS := Ht2.out
            refine owes_here (.string t) (by rfl) ?_ rfl
            simp only [putAll, List.take_succ_cons, List.take_zero]
            go_simp
          · intro x w' hb hd
            have hbr : Below wr.heap.size wr w' := (below_drew1 wr).trans hb
            have k1 : x 12 = .string t := hd 12 (by simp)
            refine owes_makes (.slice (some ⟨w'.heap.size, 0, none⟩) 1 1) (w' := w'.alloc (.cells #[.string t] 9)) (by rfl) ?_ (⟨_, rfl, heap_alloc_new w' _⟩) ((Below.refl _ _).alloc (Nat.le_refl _) _)
            simp only [putAll, List.take_succ_cons, List.take_zero]
            go_simp
          · intro x w' hb hR
            have hbr : Below wr.heap.size wr w' := (below_drew1 wr).trans hb
            have k0 : x 0 = u11 := hR 0 (by omega)
            obtain ⟨g, kg1, kg2⟩ : ∃ g, x 13 = .slice (some ⟨g, 0, none⟩) 1 1 ∧ w'.heap[g]? = some (.cells #[.string t] 9 (0, 0)) := hR 13 (by omega)
            have Ho1 := Lib.hid (Hown.out.below stays_string hbr)
            have Hb1 := Lib.hid (Hbel.out.trans (hbr.mono Hbel.out.size))
            have hs1 := Hb1.out.size
            have Hg := Lib.hid kg2
            clear hR hb hbr e0 f0 p1 kg2
            simp only [putAll, List.take_succ_cons, List.take_zero, List.drop_succ_cons, List.drop_zero]
            try simp only [Act.put, List.setIfInBounds_toArray, List.set_cons_zero, List.set_cons_succ]
            go_wp2_with (at_builtin; refine wpList_append_ownAt (R := RString) (k := 1) (e := 9) (B := w.heap.size) (l := O) (m := [t]) _ (by rfl) _ _ _ (by rfl) i0 _ 16 Tryz.underlying28 hi0 hz0 hz1 hz2 rfl (by omega) flat_string one_string _ (by exact k0) Ho1.out _ (by exact kg1) (RowAt.one (R := RString) (k := 1) (cs := #[.string t]) Hg.out rfl rfl) (by unfold maxLen; simp; omega) (by simp; omega) (by omega) ?_)
            intro v' w2 hv' hg hr _
            have hb2 : Below w.heap.size w w2 := below_of_grown Hb1.out hs1 hg hr
            have Hb2 := Lib.hid hb2
            have Hv : Hid (OwnAt RString 1 w2 w.heap.size 9 v' ((l.take (i + 1)).map fun x => mkB (JP.quote x.1 ++ 58 :: JP.text x.2))) := Lib.hid (by rw [Htk.out]; exact hv')
            clear hv' hg hr hb2
            go_wp2_with fail
            go_roundg k
            case measure => omega
            case rel => exact ⟨i + 1, by omega, by go_num, Hv, Hb2⟩
end Go.Proofs.YtdcmnpeabjallaaGreatDoor
namespace Go.Proofs.YtdcmnpeabjallaaGreatDoor
open Go.RowKit
open JP (JV Bs)
set_option maxRecDepth 100000 in
set_option maxHeartbeats 1600000 in
theorem kind_any {n : Nat} {v : Value} {x : JV} {w : World} (h : JvAt n [] w v x) : Calls Tryz.prog 31 #[v] w fun e w' => e = .returned (.int .i64 (JP.kind x)) ∧ w' = w := by
  cases n with
  | zero => cases h
  | succ n =>
    cases x with
    | nul =>
      obtain rfl : v = .nilIface := h
      obtain ⟨g1, g2, g3, g4, g5⟩ := as_nil
      go_enter Tryz.func31, Tryz.ntmps31
      go_wp2_with fail
      go_ret
      exact ⟨rfl, rfl⟩
    | bool b =>
      obtain rfl : v = .iface 4 (.bool b) := h
      obtain ⟨g1, g2, g3, g4, g5⟩ := as_bool (.bool b)
      go_enter Tryz.func31, Tryz.ntmps31
      go_wp2_with fail
      go_ret
      exact ⟨rfl, rfl⟩
    | num k =>
      obtain ⟨rfl, _, _⟩ := h
      obtain ⟨g1, g2, g3, g4, g5⟩ := as_int64 (.int .i64 k)
      go_enter Tryz.func31, Tryz.ntmps31
      go_wp2_with fail
      go_ret
      exact ⟨rfl, rfl⟩
    | str s =>
      obtain rfl : v = .iface 9 (.string (mkB s)) := h
      obtain ⟨g1, g2, g3, g4, g5⟩ := as_string (.string (mkB s))
      go_enter Tryz.func31, Tryz.ntmps31
      go_wp2_with fail
      go_ret
      exact ⟨rfl, rfl⟩
    | list l =>
      obtain ⟨u, rfl, _, _⟩ := h
      obtain ⟨g1, g2, g3, g4, g5⟩ := as_list u
      go_enter Tryz.func31, Tryz.ntmps31
      go_wp2_with fail
      go_ret
      exact ⟨rfl, rfl⟩
    | obj l =>
      obtain ⟨q, rfl, _⟩ := h
      obtain ⟨g1, g2, g3, g4, g5⟩ := as_obj (.pointer (some ⟨q, 0, none⟩))
      go_enter Tryz.func31, Tryz.ntmps31
      go_wp2_with fail
      go_ret
      exact ⟨rfl, rfl⟩
theorem sizeF_map (l : List (Bs × JV)) : JP.sizeF l = JP.sizeL (l.map (·.2)) := by
  induction l with
  | nil => rfl
  | cons x r ih => obtain ⟨n, v⟩ := x; rw [JP.sizeF, List.map_cons, JP.sizeL, ih]
theorem deepF_map (l : List (Bs × JV)) : JP.deepF l = JP.deepL (l.map (·.2)) := by
  induction l with
  | nil => rfl
  | cons x r ih => obtain ⟨n, v⟩ := x; rw [JP.deepF, List.map_cons, JP.deepL, ih]
theorem sizeL_len (l : List JV) : l.length ≤ JP.sizeL l := by
  induction l with
  | nil => simp
  | cons x r ih => rw [JP.sizeL, List.length_cons]; have := JP.size_pos x; omega
theorem sizeL_take {l : List JV} {i : Nat} {x : JV} (h : l[i]? = some x) : JP.sizeL (l.take (i + 1)) = JP.sizeL (l.take i) + JP.size x := by
  rw [List.take_add_one, h, JP.sizeL_append]
  simp [JP.sizeL]
theorem deepL_take {l : List JV} {i : Nat} {x : JV} (h : l[i]? = some x) : JP.deepL (l.take (i + 1)) = max (JP.deepL (l.take i)) (JP.deep x) := by
  rw [List.take_add_one, h, JP.deepL_append]
  simp [JP.deepL]
theorem sizeL_le (l : List JV) (i : Nat) : JP.sizeL (l.take i) ≤ JP.sizeL l := by
  have := JP.sizeL_append (l.take i) (l.drop i)
  rw [List.take_append_drop] at this
  omega
theorem deep_size : (∀ x, JP.deep x ≤ JP.size x) ∧ (∀ l, JP.deepL l ≤ JP.sizeL l) ∧ ∀ l, JP.deepF l ≤ JP.sizeF l := by
  refine JP.JV.both ?_ (fun _ => ?_) (fun _ => ?_) (fun _ => ?_) (fun l h => ?_) (fun l h => ?_) ?_ (fun v r h k => ?_) ?_ (fun n v r h k => ?_)
  · rw [JP.deep]; omega
  · rw [JP.deep]; omega
  · rw [JP.deep]; omega
  · rw [JP.deep]; omega
  · rw [JP.deep, JP.size]; omega
  · rw [JP.deep, JP.size]; omega
  · rw [JP.deepL]; omega
  · rw [JP.deepL, JP.sizeL]; omega
  · rw [JP.deepF]; omega
  · rw [JP.deepF, JP.sizeF]; omega
theorem ret_two {a b c d : Int} (h : a = b) (k : c = d) : Ending.returned (.tuple #[.int .i64 a, .int .i64 c]) = .returned (.tuple #[.int .i64 b, .int .i64 d]) := by rw [h, k]
set_option maxRecDepth 100000 in
set_option maxHeartbeats 6400000 in
theorem size_any : ∀ (n : Nat) (v : Value) (x : JV) (w : World), JvAt n [] w v x → JP.size x ≤ 4194304 →
    Calls Tryz.prog 73 #[v] w fun e w' => e = .returned (.tuple #[.int .i64 (JP.size x : Int), .int .i64 (JP.deep x : Int)]) ∧ w = w' := by
  intro n
  induction n with
  | zero => intro v x w h; cases h
  | succ n ih =>
    intro v x w h hlen
    have IH := Lib.hid ih
    clear ih
    cases x with
    | nul =>
      obtain rfl : v = .nilIface := h
      obtain ⟨g1, g2, g3, g4, g5⟩ := as_nil
      clear hlen
      go_enter Tryz.func73, Tryz.ntmps73
      go_wp2_with fail
      go_ret2
      exact ⟨ret_two (by rw [JP.size]; rfl) (by rw [JP.deep]; rfl), rfl⟩
    | bool b =>
      obtain rfl : v = .iface 4 (.bool b) := h
      obtain ⟨g1, g2, g3, g4, g5⟩ := as_bool (.bool b)
      clear hlen
      go_enter Tryz.func73, Tryz.ntmps73
      go_wp2_with fail
      go_ret2
      exact ⟨ret_two (by rw [JP.size]; rfl) (by rw [JP.deep]; rfl), rfl⟩
    | num k =>
      obtain ⟨rfl, _, _⟩ := h
      obtain ⟨g1, g2, g3, g4, g5⟩ := as_int64 (.int .i64 k)
      clear hlen
      go_enter Tryz.func73, Tryz.ntmps73
      go_wp2_with fail
      go_ret2
      exact ⟨ret_two (by rw [JP.size]; rfl) (by rw [JP.deep]; rfl), rfl⟩
    | str s =>
      obtain rfl : v = .iface 9 (.string (mkB s)) := h
      obtain ⟨g1, g2, g3, g4, g5⟩ := as_string (.string (mkB s))
      clear hlen
      go_enter Tryz.func73, Tryz.ntmps73
      go_wp2_with fail
      go_ret2
      exact ⟨ret_two (by rw [JP.size]; rfl) (by rw [JP.deep]; rfl), rfl⟩
    | list L =>
      obtain ⟨u, rfl, hrow, _⟩ := h
      obtain ⟨a, c, rfl, _, _⟩ := hrow.len
      obtain ⟨g1, g2, g3, g4, g5⟩ := as_list (.slice a L.length c)
      have HSZ : Hid (JP.size (.list L) = 1 + JP.sizeL L) := Lib.hid (by rw [JP.size])
      have HDP : Hid (JP.deep (.list L) = JP.deepL L + 1) := Lib.hid (by rw [JP.deep])
      have hlen : JP.sizeL L + 1 ≤ 4194304 := by have := HSZ.out; omega
      have hsl := sizeL_len L
      have hLl : L.length ≤ 4194304 := by omega
      have Hsl : Hid (JP.sizeL L ≤ 4194304) := Lib.hid (by omega)
      have Hrow := Lib.hid hrow
      clear hrow hlen hsl
      go_enter Tryz.func73, Tryz.ntmps73
      go_wp2_with fail
      go_loopg [2, 3, 26] L.length (fun k u2 u3 u26 wr => ∃ (i : Nat) (m d : Nat), i + k = L.length ∧ u26 = .int .i64 (i : Int) ∧ u2 = .int .i64 (m : Int) ∧ u3 = .int .i64 (d : Int) ∧ Hid (m = 1 + JP.sizeL (L.take i)) ∧ Hid (d = JP.deepL (L.take i)) ∧ m ≤ 4194305 ∧ d ≤ 4194304 ∧ wr = w)
      case atStart => exact ⟨0, 1, 0, by omega, rfl, rfl, rfl, Lib.hid (by simp [JP.sizeL]), Lib.hid (by simp [JP.deepL]), by omega, by omega, rfl⟩
      case round =>
        obtain ⟨i, m, d, hik, rfl, rfl, rfl, Hm, Hd, hm, hd, rfl⟩ := hrel
        cases gk with
        | zero =>
          obtain rfl : i = L.length := by omega
          have hm1 := Hm.out
          have hd1 := Hd.out
          rw [List.take_of_length_le (Nat.le_refl _)] at hm1 hd1
          have Hm1 : Hid (m = JP.size (.list L)) := Lib.hid (by rw [hm1]; exact HSZ.out.symm)
          have Hd1 : Hid (d + 1 = JP.deep (.list L)) := Lib.hid (by rw [hd1]; exact HDP.out.symm)
          clear hm1 hd1 hik
          go_wp2_with fail
          go_ret2
          exact ⟨ret_two (by rw [← Hm1.out]) (by rw [← Hd1.out]; omega), rfl⟩
        | succ k =>
          have hil : i < L.length := by omega
          obtain ⟨y, hy⟩ : ∃ y, L[i]? = some y := ⟨L[i]'(by omega), List.getElem?_eq_getElem _⟩
          obtain ⟨b, o, c', hv, _, _, hbs, hcell⟩ := Hrow.out.form (by omega) (by omega)
          injection hv with u1 u2 u3
          subst u1
          clear u2 u3
          obtain ⟨ds, _, hcc, vx, rfl, hvx⟩ := hcell i y hy
          have e0 : wr.cell? ⟨b, o + i, none⟩ = some vx := by simpa using hcc 0 _ rfl
          have q1 : (0 : Int) ≤ (i : Int) := by omega
          have q2 : (i : Int) < (L.length : Int) := by omega
          have ht1 := sizeL_take hy
          have ht2 := deepL_take hy
          have ht3 := sizeL_le L (i + 1)
          have ht4 := deep_size.1 y
          have hs0 := Hsl.out
          have hm0 := Hm.out
          obtain ⟨sy, hsy⟩ : ∃ s, JP.size y = s := ⟨_, rfl⟩
          obtain ⟨dy, hdy⟩ : ∃ d, JP.deep y = d := ⟨_, rfl⟩
          rw [hsy] at ht1 ht4
          rw [hdy] at ht2 ht4
          have HC := Lib.hid (IH.out vx y wr hvx (by omega))
          rw [hsy, hdy] at HC
          have Hm2 : Hid (m + sy = 1 + JP.sizeL (L.take (i + 1))) := Lib.hid (by omega)
          have hm2 : m + sy ≤ 4194305 := by omega
          have hdy2 : dy ≤ 4194304 := by omega
          have Hd2 : Hid (max d dy = JP.deepL (L.take (i + 1))) := Lib.hid (by rw [ht2, ← Hd.out])
          clear ht1 ht2 ht3 ht4 hs0 hm0 hsy hdy hcell hcc hy hvx
          go_wp2_with fail
          refine HC.out.mono ?_
          rintro E w1 ⟨rfl, rfl⟩
          by_cases hdd : d ≤ dy
          · have p1 : (d : Int) ≤ (dy : Int) := by omega
            have hmx : max d dy = dy := by omega
            rw [hmx] at Hd2
            clear hmx
            go_wp2_with fail
            go_roundg k
            case measure => omega
            case rel => exact ⟨i + 1, m + sy, dy, by omega, by go_num, by go_num, by go_num, Hm2, Hd2, hm2, hdy2, rfl⟩
          · have p1 : ¬ (d : Int) ≤ (dy : Int) := by omega
            have hmx : max d dy = d := by omega
            rw [hmx] at Hd2
            clear hmx
            go_wp2_with fail
            go_roundg k
            case measure => omega
            case rel => exact ⟨i + 1, m + sy, d, by omega, by go_num, by go_num, by go_num, Hm2, Hd2, hm2, hd, rfl⟩
    | obj l =>
      obtain ⟨q, rfl, _, _, vn, vv, cn, cv, _, _, hrow, _⟩ := h
      obtain ⟨av, c, hu, _, _⟩ := hrow.len
      obtain ⟨L, hL⟩ : ∃ L : List JV, l.map (·.2) = L := ⟨_, rfl⟩
      rw [hL] at hrow hu
      subst hu
      obtain ⟨g1, g2, g3, g4, g5⟩ := as_obj (.pointer (some ⟨q, 0, none⟩))
      have HSZ : Hid (JP.size (.obj l) = 1 + JP.sizeL L) := Lib.hid (by rw [JP.size, sizeF_map, hL])
      have HDP : Hid (JP.deep (.obj l) = JP.deepL L + 1) := Lib.hid (by rw [JP.deep, deepF_map, hL])
      have hlen : JP.sizeL L + 1 ≤ 4194304 := by have := HSZ.out; omega
      clear hL cn
      have hsl := sizeL_len L
      have hLl : L.length ≤ 4194304 := by omega
      have Hsl : Hid (JP.sizeL L ≤ 4194304) := Lib.hid (by omega)
      have Hrow := Lib.hid hrow
      clear hrow hlen hsl
      go_enter Tryz.func73, Tryz.ntmps73
      go_wp2_with fail
      go_loopg [2, 3, 26] L.length (fun k u2 u3 u26 wr => ∃ (i : Nat) (m d : Nat), i + k = L.length ∧ u26 = .int .i64 (i : Int) ∧ u2 = .int .i64 (m : Int) ∧ u3 = .int .i64 (d : Int) ∧ Hid (m = 1 + JP.sizeL (L.take i)) ∧ Hid (d = JP.deepL (L.take i)) ∧ m ≤ 4194305 ∧ d ≤ 4194304 ∧ wr = w)
      case atStart => exact ⟨0, 1, 0, by omega, rfl, rfl, rfl, Lib.hid (by simp [JP.sizeL]), Lib.hid (by simp [JP.deepL]), by omega, by omega, rfl⟩
      case round =>
        obtain ⟨i, m, d, hik, rfl, rfl, rfl, Hm, Hd, hm, hd, rfl⟩ := hrel
        cases gk with
        | zero =>
          obtain rfl : i = L.length := by omega
          have hm1 := Hm.out
          have hd1 := Hd.out
          rw [List.take_of_length_le (Nat.le_refl _)] at hm1 hd1
          have Hm1 : Hid (m = JP.size (.obj l)) := Lib.hid (by rw [hm1]; exact HSZ.out.symm)
          have Hd1 : Hid (d + 1 = JP.deep (.obj l)) := Lib.hid (by rw [hd1]; exact HDP.out.symm)
          clear hm1 hd1 hik
          go_wp2_with fail
          go_ret2
          exact ⟨ret_two (by rw [← Hm1.out]) (by rw [← Hd1.out]; omega), rfl⟩
        | succ k =>
          have hil : i < L.length := by omega
          obtain ⟨y, hy⟩ : ∃ y, L[i]? = some y := ⟨L[i]'(by omega), List.getElem?_eq_getElem _⟩
          obtain ⟨b, o, c', hv, _, _, hbs, hcell⟩ := Hrow.out.form (by omega) (by omega)
          injection hv with u1 u2 u3
          subst u1
          clear u2 u3
          obtain ⟨ds, _, hcc, vx, rfl, hvx⟩ := hcell i y hy
          have e0 : wr.cell? ⟨b, o + i, none⟩ = some vx := by simpa using hcc 0 _ rfl
          have q1 : (0 : Int) ≤ (i : Int) := by omega
          have q2 : (i : Int) < (L.length : Int) := by omega
          have ht1 := sizeL_take hy
          have ht2 := deepL_take hy
          have ht3 := sizeL_le L (i + 1)
          have ht4 := deep_size.1 y
          have hs0 := Hsl.out
          have hm0 := Hm.out
          obtain ⟨sy, hsy⟩ : ∃ s, JP.size y = s := ⟨_, rfl⟩
          obtain ⟨dy, hdy⟩ : ∃ d, JP.deep y = d := ⟨_, rfl⟩
          rw [hsy] at ht1 ht4
          rw [hdy] at ht2 ht4
          have HC := Lib.hid (IH.out vx y wr hvx (by omega))
          rw [hsy, hdy] at HC
          have Hm2 : Hid (m + sy = 1 + JP.sizeL (L.take (i + 1))) := Lib.hid (by omega)
          have hm2 : m + sy ≤ 4194305 := by omega
          have hdy2 : dy ≤ 4194304 := by omega
          have Hd2 : Hid (max d dy = JP.deepL (L.take (i + 1))) := Lib.hid (by rw [ht2, ← Hd.out])
          clear ht1 ht2 ht3 ht4 hs0 hm0 hsy hdy hcell hcc hy hvx
          go_wp2_with fail
          refine HC.out.mono ?_
          rintro E w1 ⟨rfl, rfl⟩
          by_cases hdd : d ≤ dy
          · have p1 : (d : Int) ≤ (dy : Int) := by omega
            have hmx : max d dy = dy := by omega
            rw [hmx] at Hd2
            clear hmx
            go_wp2_with fail
            go_roundg k
            case measure => omega
            case rel => exact ⟨i + 1, m + sy, dy, by omega, by go_num, by go_num, by go_num, Hm2, Hd2, hm2, hdy2, rfl⟩
          · have p1 : ¬ (d : Int) ≤ (dy : Int) := by omega
            have hmx : max d dy = d := by omega
            rw [hmx] at Hd2
            clear hmx
            go_wp2_with fail
            go_roundg k
            case measure => omega
            case rel => exact ⟨i + 1, m + sy, d, by omega, by go_num, by go_num, by go_num, Hm2, Hd2, hm2, hd, rfl⟩
set_option maxRecDepth 100000 in
set_option maxHeartbeats 1600000 in
theorem same_any {n m : Nat} {v u : Value} {x y : JV} {w : World} (h : JvAt n [] w v x) (k : JvAt m [] w u y) (hx : (JP.text x).length ≤ 4194304) (hy : (JP.text y).length ≤ 4194304) (ht : TabOK w) :
    Calls Tryz.prog 92 #[v, u] w fun e w' => e = .returned (.bool (decide (JP.text x = JP.text y))) ∧ Below w.heap.size w w' := by
  have H := Lib.hid (text_any n v x w h hx ht)
  have K := Lib.hid (fun w' (hb : Below w.heap.size w w') => text_any m u y w' (k.below hb) hy (ht.below hb))
  obtain ⟨X, hX⟩ : ∃ X, JP.text x = X := ⟨_, rfl⟩
  obtain ⟨Y, hY⟩ : ∃ Y, JP.text y = Y := ⟨_, rfl⟩
  rw [hX] at H ⊢
  rw [hY] at K ⊢
  obtain ⟨bb, Hb⟩ : ∃ bb, Hid (decide (X = Y) = bb) := ⟨_, Lib.hid rfl⟩
  rw [Hb.out]
  have hbq : ((mkB X).toList == (mkB Y).toList) = bb := by
    rw [← Hb.out, ByteArray.toList_eq, ByteArray.toList_eq, mkB_list, mkB_list]
    by_cases e : X = Y
    · rw [decide_eq_true e, e]; simp
    · rw [decide_eq_false e, beq_eq_false_iff_ne]; exact e
  clear h k hx hy ht hX hY
  go_enter Tryz.func92, Tryz.ntmps92
  go_wp2_with fail
  refine H.out.mono ?_
  rintro E w1 ⟨rfl, hb1⟩
  have Hb1 := Lib.hid hb1
  clear hb1
  go_wp2_with fail
  refine (K.out w1 Hb1.out).mono ?_
  rintro E w2 ⟨rfl, hb2⟩
  have Hb2 := Lib.hid (Hb1.out.trans (hb2.mono Hb1.out.size))
  clear hb2
  go_wp2_with fail
  go_ret
  exact ⟨rfl, Hb2.out⟩
end Go.Proofs.YtdcmnpeabjallaaGreatDoor
namespace Go.Proofs.YtdcmnpeabjallaaGreatDoor
open Go.RowKit
open JP (JV Bs Fr)
namespace JP
theorem readL_good {s : Bs} {v : JV} (h : readL s = (v, 0)) : wf v ∧ size v ≤ 200 ∧ deep v ≤ 10 ∧ (text v).length ≤ s.length ∧ s.length ≤ 2000 := by
  unfold readL at h
  split at h
  · exact absurd (Prod.mk.inj h).2 (by decide)
  · rename_i hl
    have hi : Inv s.length (.more s 0 []) := ⟨by show s.length + 0 ≤ s.length; omega, rfl, by omega, trivial⟩
    obtain ⟨a, b, c, d⟩ := fin_inv _ hi v h
    exact ⟨a, b, c, d, by omega⟩
end JP
theorem list_size (s : ByteArray) : s.data.toList.length = s.size := by rw [Array.length_toList]; rfl
end Go.Proofs.YtdcmnpeabjallaaGreatDoor
namespace Go.Proofs.YtdcmnpeabjallaaGreatDoor
open Go.RowKit
open JP (JV Bs)
theorem stand_nat (c : UInt8) : JP.stand c = (decide (32 ≤ c.toNat ∧ c.toNat ≤ 126) || decide (c.toNat = 10) || decide (c.toNat = 9)) := by
  have e : ∀ k : UInt8, (c == k) = decide (c.toNat = k.toNat) := fun k => by
    rw [Bool.eq_iff_iff, beq_iff_eq, decide_eq_true_iff]
    exact ⟨fun h => by rw [h], fun h => UInt8.toNat_inj.1 h⟩
  unfold JP.stand
  rw [e 10, e 9]
  have a : decide (32 ≤ c) = decide (32 ≤ c.toNat) := rfl
  have b : decide (c ≤ 126) = decide (c.toNat ≤ 126) := rfl
  rw [a, b]
  by_cases h1 : 32 ≤ c.toNat <;> by_cases h2 : c.toNat ≤ 126 <;> simp [h1, h2]
theorem all_take {s : ByteArray} {i : Nat} (hi : i < s.size) (h : (s.data.toList.take i).all JP.stand = true) (hc : JP.stand s[i] = true) : (s.data.toList.take (i + 1)).all JP.stand = true := by
  have hl : i < s.data.toList.length := by rw [list_size]; exact hi
  rw [List.take_succ_eq_append_getElem hl, List.all_append, h]
  simp only [List.all_cons, List.all_nil, Bool.and_true, Bool.true_and]
  exact hc
theorem not_all {s : ByteArray} {i : Nat} (hi : i < s.size) (hc : JP.stand s[i] = false) : s.data.toList.all JP.stand = false := by
  have hl : i < s.data.toList.length := by rw [list_size]; exact hi
  rw [Bool.eq_false_iff]
  intro h
  rw [List.all_eq_true] at h
  have := h s.data.toList[i] (List.getElem_mem hl)
  rw [show s.data.toList[i] = s[i] from rfl, hc] at this
  cases this
end Go.Proofs.YtdcmnpeabjallaaGreatDoor
namespace Go.Proofs.YtdcmnpeabjallaaGreatDoor
open Go.RowKit
open JP (JV Bs)
theorem ret_bool2 {a b : Bool} (h : a = b) : Ending.returned (.bool a) = .returned (.bool b) := by rw [h]
end Go.Proofs.YtdcmnpeabjallaaGreatDoor
namespace Go.Proofs.YtdcmnpeabjallaaGreatDoor
open Go.RowKit
open JP (JV Bs)
namespace JP
mutual
def sound : JV → Bool
  | .nul => true
  | .bool _ => true
  | .num _ => true
  | .str s => s.all stand
  | .list l => soundL l
  | .obj l => soundF l
termination_by structural x => x
def soundL : List JV → Bool
  | [] => true
  | v :: r => sound v && soundL r
termination_by structural x => x
def soundF : List (Bs × JV) → Bool
  | [] => true
  | (n, v) :: r => n.all stand && sound v && soundF r
termination_by structural x => x
end
theorem soundL_any (l : List JV) : soundL l = !l.any fun x => !sound x := by
  induction l with
  | nil => rfl
  | cons v r ih => rw [soundL, ih, List.any_cons]; cases sound v <;> simp
theorem soundF_all (l : List (Bs × JV)) : soundF l = l.all fun x => x.1.all stand && sound x.2 := by
  induction l with
  | nil => rfl
  | cons x r ih => obtain ⟨n, v⟩ := x; rw [soundF, ih, List.all_cons]
end JP
theorem all_take_of {α : Type} {l : List α} {p : α → Bool} {i : Nat} {x : α} (h : (l.take i).all p = true) (hx : l[i]? = some x) (hp : p x = true) : (l.take (i + 1)).all p = true := by
  rw [List.take_add_one, hx, List.all_append, h]
  simp [hp]
theorem not_all_of {α : Type} {l : List α} {p : α → Bool} {i : Nat} {x : α} (hx : l[i]? = some x) (hp : p x = false) : l.all p = false := by
  rw [Bool.eq_false_iff]
  intro h
  rw [List.all_eq_true] at h
  have := h x (List.mem_of_getElem? hx)
  rw [hp] at this
  cases this
end Go.Proofs.YtdcmnpeabjallaaGreatDoor
namespace Go.Proofs.YtdcmnpeabjallaaGreatDoor
open Go.RowKit
open JP (JV Bs)
namespace JP
def tellE (x : JV) : Int := if sound x = false then 16 else if 10 < deep x then 4 else if 200 < size x then 2 else if 2000 < (text x).length then 2 else 0
def tellT (x : JV) : Bs := if tellE x = 0 then text x else []
end JP
theorem ret_tell {t : ByteArray} {e e' : Int} {l : Bs} (h : mkB l = t) (he : e = e') : Ending.returned (.tuple #[.string t, .int .i64 e]) = .returned (.tuple #[.string (mkB l), .int .i64 e']) := by rw [h, he]
end Go.Proofs.YtdcmnpeabjallaaGreatDoor
namespace Go.Proofs.YtdcmnpeabjallaaGreatDoor
open Go
namespace JP
def fieldsOf : JV → List (Bs × JV)
  | .obj l => l
  | _ => []
mutual
def intoF : List (Bs × JV) → List (Bs × JV) → List (Bs × JV)
  | out, [] => out
  | out, (n, w) :: r => intoF (into1 n out w) r
termination_by structural _ x => x
def into1 : Bs → List (Bs × JV) → JV → List (Bs × JV)
  | n, out, .nul => cut n out
  | n, out, .bool b => put n (.bool b) out
  | n, out, .num k => put n (.num k) out
  | n, out, .str s => put n (.str s) out
  | n, out, .list l => put n (.list l) out
  | n, out, .obj l => put n (.obj (intoF (fieldsOf ((get n out).getD .nul)) l)) out
termination_by structural _ _ x => x
end
def into (d : JV) : JV → JV
  | .obj l => .obj (intoF (fieldsOf d) l)
  | .nul => .nul
  | .bool b => .bool b
  | .num n => .num n
  | .str s => .str s
  | .list l => .list l
theorem sizeF_fields (d : JV) : sizeF (fieldsOf d) ≤ size d := by
  cases d <;> simp only [fieldsOf, size, sizeF] <;> omega
theorem sizeF_cut (n : Bs) : ∀ d, sizeF (cut n d) ≤ sizeF d
  | [] => Nat.le_refl _
  | (m, x) :: r => by
    have ih := sizeF_cut n r
    unfold cut at ih ⊢
    by_cases h : m = n
    · rw [List.filter_cons_of_neg (by simpa using h), sizeF]; omega
    · rw [List.filter_cons_of_pos (by simpa using h), sizeF, sizeF]; omega
theorem sizeF_put (n : Bs) (v : JV) : ∀ d, Srt d → sizeF (put n v d) + (match get n d with | some u => size u | none => 0) = sizeF d + size v
  | [], _ => by simp only [put, get, sizeF]; omega
  | (m, x) :: r, hs => by
    obtain ⟨h1, h2⟩ := List.pairwise_cons.1 hs
    have ih := sizeF_put n v r h2
    unfold put
    by_cases hlt : m < n
    · have hne : m ≠ n := fun e => by subst e; exact List.lt_irrefl _ hlt
      rw [if_pos hlt, sizeF, sizeF, get, if_neg hne]
      omega
    · rw [if_neg hlt]
      by_cases he : m = n
      · rw [if_pos he, sizeF, sizeF, get, if_pos he]
        dsimp only
        omega
      · rw [if_neg he, sizeF, get, if_neg he]
        have hg : get n r = none := by
          have hlt2 : n < m := bs_trich m n hlt he
          have : ∀ l : List (Bs × JV), (∀ a ∈ l, m < a.1) → get n l = none := by
            intro l
            induction l with
            | nil => intro _; rfl
            | cons a t iht =>
              intro ha
              obtain ⟨k, y⟩ := a
              rw [get, if_neg, iht fun b hb => ha b (List.mem_cons_of_mem _ hb)]
              intro e
              have := ha (k, y) (List.mem_cons_self ..)
              rw [e] at this
              exact List.lt_irrefl _ (List.lt_trans hlt2 this)
          exact this r fun a ha => h1 a ha
        rw [hg]
        dsimp only
        omega
theorem srt_cut (n : Bs) {d : List (Bs × JV)} (h : Srt d) : Srt (cut n d) := List.Pairwise.sublist List.filter_sublist h
theorem wfF_cut (n : Bs) : ∀ {d : List (Bs × JV)}, wfF d → wfF (cut n d)
  | [], h => h
  | (m, x) :: r, h => by
    rw [wfF] at h
    have ih := wfF_cut n h.2.2
    unfold cut at ih ⊢
    by_cases hm : m = n
    · rw [List.filter_cons_of_neg (by simpa using hm)]; exact ih
    · rw [List.filter_cons_of_pos (by simpa using hm), wfF]; exact ⟨h.1, h.2.1, ih⟩
theorem wf_get (n : Bs) : ∀ {d : List (Bs × JV)}, wfF d → wf ((get n d).getD .nul)
  | [], _ => trivial
  | (m, x) :: r, h => by
    rw [wfF] at h
    rw [get]
    by_cases hm : m = n
    · rw [if_pos hm]; exact h.2.1
    · rw [if_neg hm]; exact wf_get n h.2.2
end JP
end Go.Proofs.YtdcmnpeabjallaaGreatDoor
namespace Go.Proofs.YtdcmnpeabjallaaGreatDoor
open Go
namespace JP
abbrev Fs := List (Bs × JV)
theorem get_put_same (n : Bs) (v : JV) : ∀ d : Fs, get n (put n v d) = some v
  | [] => by rw [put, get, if_pos rfl]
  | (m, x) :: r => by
    rw [put]
    by_cases hlt : m < n
    · rw [if_pos hlt, get, if_neg (fun e => by subst e; exact List.lt_irrefl _ hlt)]
      exact get_put_same n v r
    · rw [if_neg hlt]
      by_cases he : m = n
      · rw [if_pos he, get, if_pos rfl]
      · rw [if_neg he, get, if_pos rfl]
theorem get_lt {n : Bs} : ∀ {d : Fs}, (∀ x ∈ d, n < x.1) → get n d = none
  | [], _ => rfl
  | (m, x) :: r, h => by
    rw [get, if_neg, get_lt fun y hy => h y (List.mem_cons_of_mem _ hy)]
    intro e
    have := h (m, x) (List.mem_cons_self ..)
    rw [e] at this
    exact List.lt_irrefl _ this
theorem wf_obj {l : Fs} (h : wf (.obj l)) : Srt l ∧ wfF l := by rw [wf] at h; exact h
theorem wf_at {n : Bs} {l : Fs} {x : JV} (h : wfF l) (hg : get n l = some x) : wf x := by have := wf_get n h; rw [hg] at this; exact this
theorem JV.byGet {P : JV → Prop} (h : ∀ v, (∀ l n x, v = .obj l → get n l = some x → P x) → P v) (v : JV) : P v := by
  refine (JV.both (P := P) (PL := fun _ => True) (PF := fun l => ∀ n x, get n l = some x → P x) ?_ ?_ ?_ ?_ ?_ ?_ trivial (fun _ _ _ _ => trivial) ?_ ?_).1 v
  · exact h _ fun l n x e => by cases e
  · exact fun b => h _ fun l n x e => by cases e
  · exact fun b => h _ fun l n x e => by cases e
  · exact fun b => h _ fun l n x e => by cases e
  · exact fun b _ => h _ fun l n x e => by cases e
  · exact fun l ih => h _ fun l' n x e hg => by cases e; exact ih n x hg
  · intro n x hg; rw [get] at hg; cases hg
  · intro n v r hv hr m x hg
    rw [get] at hg
    by_cases hm : n = m
    · rw [if_pos hm] at hg; cases hg; exact hv
    · rw [if_neg hm] at hg; exact hr m x hg
theorem obj_or (x : JV) : (∃ l, x = .obj l) ∨ ∀ l, x ≠ .obj l := by
  cases x with
  | obj l => exact .inl ⟨l, rfl⟩
  | _ => exact .inr fun l e => by cases e
mutual
def both : JV → JV → Option JV
  | p, .obj l => match p with
    | .obj h => (bothF h l).map .obj
    | _ => none
  | _, .nul => some .nul
  | _, .bool b => some (.bool b)
  | _, .num b => some (.num b)
  | _, .str b => some (.str b)
  | _, .list b => some (.list b)
termination_by structural _ x => x
def bothF : Fs → Fs → Option Fs
  | out, [] => some out
  | out, (n, w) :: r => (match get n out with
    | some v => both v w
    | none => some w).bind fun x => bothF (put n x out) r
termination_by structural _ x => x
end
end JP
end Go.Proofs.YtdcmnpeabjallaaGreatDoor
namespace Go.Proofs.YtdcmnpeabjallaaGreatDoor
open Go
namespace JP
theorem obj_len_le (l : Fs) : (text (.obj l)).length ≤ lenF l + 2 := by
  rcases text_obj_len l with h | ⟨_, h⟩ <;> omega
theorem obj_len_ge (l : Fs) : lenF l + 1 ≤ (text (.obj l)).length := by
  rcases join_lenF l with h | rfl
  · rw [text]; simp only [List.length_cons, List.length_append, List.length_nil]; omega
  · simp [lenF, text]
theorem list_len_ge (l : List JV) : lenL l + 1 ≤ (text (.list l)).length := by
  rcases join_len l with h | rfl
  · rw [text]; simp only [List.length_cons, List.length_append, List.length_nil]; omega
  · simp [lenL, text]
def wO (n : Bs) : Option JV → Nat
  | some u => (quote n).length + (text u).length + 2
  | none => 0
def w3 (n : Bs) : Option JV → Nat
  | some _ => (quote n).length + 3
  | none => 0
def w4 : Option JV → Nat
  | some u => 4 * (text u).length
  | none => 0
theorem lenF_cut_get {n : Bs} : ∀ {d : Fs}, Srt d → lenF (cut n d) + wO n (get n d) = lenF d
  | [], _ => by simp [cut, get, lenF, wO]
  | (m, x) :: r, hs => by
    obtain ⟨h1, h2⟩ := List.pairwise_cons.1 hs
    have ih := lenF_cut_get (n := n) h2
    unfold cut at ih ⊢
    by_cases h : m = n
    · subst h
      rw [List.filter_cons_of_neg (by simp), lenF, get, if_pos rfl]
      rw [get_lt h1] at ih
      simp only [wO] at ih ⊢
      omega
    · rw [List.filter_cons_of_pos (by simpa using h), lenF, lenF, get, if_neg h]; omega
theorem lenF_put (n : Bs) (v : JV) : ∀ d : Fs, Srt d → lenF (put n v d) = lenF (cut n d) + (quote n).length + (text v).length + 2
  | [], _ => by simp [put, cut, lenF]; omega
  | (m, x) :: r, hs => by
    obtain ⟨h1, h2⟩ := List.pairwise_cons.1 hs
    have ih := lenF_put n v r h2
    rw [put]
    by_cases hlt : m < n
    · have hne : m ≠ n := fun e => by subst e; exact List.lt_irrefl _ hlt
      unfold cut at ih ⊢
      rw [if_pos hlt, List.filter_cons_of_pos (by simpa using hne), lenF, lenF]; omega
    · rw [if_neg hlt]
      by_cases he : m = n
      · subst he
        have hc := lenF_cut_get (n := m) h2
        rw [get_lt h1] at hc
        simp only [wO] at hc
        unfold cut at hc ⊢
        rw [if_pos rfl, List.filter_cons_of_neg (by simp), lenF]; omega
      · have h3 := bs_trich m n hlt he
        have hc := lenF_cut_get (n := n) h2
        rw [get_lt fun y hy => List.lt_trans h3 (h1 y hy)] at hc
        simp only [wO] at hc
        unfold cut at hc ⊢
        rw [if_neg he, List.filter_cons_of_pos (by simpa using he), lenF, lenF, lenF]; omega
theorem lenF_fields (d : JV) : lenF (fieldsOf d) + 1 ≤ (text d).length := by
  cases d with
  | obj l => exact obj_len_ge l
  | nul => decide
  | bool b => cases b <;> decide
  | num n => obtain ⟨c, t, h, _⟩ := text_head (.num n); rw [h, List.length_cons]; show 0 + 1 ≤ _; omega
  | str n => obtain ⟨c, t, h, _⟩ := text_head (.str n); rw [h, List.length_cons]; show 0 + 1 ≤ _; omega
  | list n => obtain ⟨c, t, h, _⟩ := text_head (.list n); rw [h, List.length_cons]; show 0 + 1 ≤ _; omega
def Fit (v : JV) : Prop := wf v ∧ size v ≤ 200 ∧ deep v ≤ 10 ∧ (text v).length ≤ 2000
theorem getF_le : ∀ {l : Fs} {n : Bs} {x : JV}, get n l = some x → size x ≤ sizeF l ∧ deep x ≤ deepF l ∧ (text x).length ≤ lenF l
  | [], _, _, h => by rw [get] at h; cases h
  | (m, v) :: r, n, x, h => by
    rw [get] at h
    rw [sizeF, deepF, lenF]
    by_cases e : m = n
    · rw [if_pos e] at h
      cases h
      exact ⟨by omega, by omega, by omega⟩
    · rw [if_neg e] at h
      obtain ⟨a, b, c⟩ := getF_le h
      exact ⟨by omega, by omega, by omega⟩
theorem fit_at {l : Fs} {n : Bs} {x : JV} (h : Fit (.obj l)) (hg : get n l = some x) : Fit x := by
  obtain ⟨h1, h2, h3, h4⟩ := h
  obtain ⟨a, b, c⟩ := getF_le hg
  have := obj_len_ge l
  rw [size] at h2
  rw [deep] at h3
  exact ⟨wf_at (wf_obj h1).2 hg, by omega, by omega, by omega⟩
end JP
end Go.Proofs.YtdcmnpeabjallaaGreatDoor
namespace Go.Proofs.YtdcmnpeabjallaaGreatDoor
open Go
namespace JP
def idx (s : Bs) (many : Nat) : Option Nat := (List.range many).find? fun n => decide (Lib.itoa (n : Int) = s)
theorem idx_some {s : Bs} {many n : Nat} (h : idx s many = some n) : n < many ∧ Lib.itoa (n : Int) = s := by
  unfold idx at h
  have h1 := List.find?_some h
  have h2 := List.mem_of_find?_eq_some h
  exact ⟨List.mem_range.1 h2, of_decide_eq_true h1⟩
theorem itoa_inj {a b : Nat} (ha : a < 1000000000000000000) (hb : b < 1000000000000000000) (h : Lib.itoa (a : Int) = Lib.itoa (b : Int)) : a = b := by
  obtain ⟨_, h1, _⟩ := num_reads (n := (a : Int)) (rest := []) ⟨by omega, by omega⟩ (fun c t e => by cases e)
  obtain ⟨_, h2, _⟩ := num_reads (n := (b : Int)) (rest := []) ⟨by omega, by omega⟩ (fun c t e => by cases e)
  rw [h, h2] at h1
  omega
theorem idx_of {s : Bs} {many n : Nat} (hm : many < 1000000000000000000) (hn : n < many) (h : Lib.itoa (n : Int) = s) : idx s many = some n := by
  cases hx : idx s many with
  | none =>
    unfold idx at hx
    have := List.find?_eq_none.1 hx n (List.mem_range.2 hn)
    exact absurd h (by simpa using this)
  | some k =>
    obtain ⟨k1, k2⟩ := idx_some hx
    rw [itoa_inj (by omega) (by omega) (k2.trans h.symm)]
theorem idx_none {s : Bs} {many : Nat} (h : ∀ n, n < many → Lib.itoa (n : Int) ≠ s) : idx s many = none := by
  cases hx : idx s many with
  | none => rfl
  | some k => obtain ⟨k1, k2⟩ := idx_some hx; exact absurd k2 (h k k1)
def child (v : JV) (s : Bs) : Option JV := match v with
  | .obj l => get s l
  | .list l => (idx s l.length).bind fun n => l[n]?
  | _ => none
def atW (v : JV) : List Bs → Option JV
  | [] => some v
  | s :: r => (child v s).bind fun c => atW c r
def repl (v : JV) (s : Bs) (w : JV) : JV := match v with
  | .obj l => .obj (put s w l)
  | .list l => match idx s l.length with
    | some n => .list (l.set n w)
    | none => v
  | _ => v
def under (f : JV → Bs → Option JV) (v : JV) : List Bs → Option JV
  | [] => none
  | [s] => f v s
  | s :: r => (child v s).bind fun c => (under f c r).map (repl v s)
theorem under_one (f : JV → Bs → Option JV) (v : JV) (s : Bs) : under f v [s] = f v s := by rw [under]
theorem under_more (f : JV → Bs → Option JV) (v : JV) (s t : Bs) (r : List Bs) : under f v (s :: t :: r) = (child v s).bind fun c => (under f c (t :: r)).map (repl v s) := by rw [under]; intro h; cases h
def cutL (v : JV) (s : Bs) : Option JV := match v with
  | .obj l => if (get s l).isSome = true then some (.obj (cut s l)) else none
  | .list l => match idx s l.length with
    | some n => some (.list (l.eraseIdx n))
    | none => none
  | _ => none
def cutW (v : JV) (l : List Bs) : Option JV := under cutL v l
mutual
def wfS : JV → Prop
  | .nul => True
  | .bool _ => True
  | .num n => numOK n
  | .str _ => True
  | .list l => wfSL l
  | .obj l => Srt l ∧ wfSF l
termination_by structural x => x
def wfSL : List JV → Prop
  | [] => True
  | v :: r => wfS v ∧ wfSL r
termination_by structural x => x
def wfSF : Fs → Prop
  | [] => True
  | (_, v) :: r => wfS v ∧ wfSF r
termination_by structural x => x
end
theorem wf_S : (∀ v, wf v → wfS v) ∧ (∀ l, wfL l → wfSL l) ∧ ∀ l : Fs, wfF l → wfSF l := by
  refine JV.both ?_ ?_ ?_ ?_ ?_ ?_ ?_ ?_ ?_ ?_
  · intro _; rw [wfS]; trivial
  · intro b _; rw [wfS]; trivial
  · intro n h; rw [wf] at h; rw [wfS]; exact h
  · intro s _; rw [wfS]; trivial
  · intro l ih h; rw [wf] at h; rw [wfS]; exact ih h
  · intro l ih h; rw [wf] at h; rw [wfS]; exact ⟨h.1, ih h.2⟩
  · intro _; rw [wfSL]; trivial
  · intro v r hv hr h; rw [wfL] at h; rw [wfSL]; exact ⟨hv h.1, hr h.2⟩
  · intro _; rw [wfSF]; trivial
  · intro n v r hv hr h; rw [wfF] at h; rw [wfSF]; exact ⟨hv h.2.1, hr h.2.2⟩
theorem wfS_obj {l : Fs} (h : wfS (.obj l)) : Srt l ∧ wfSF l := by rw [wfS] at h; exact h
theorem putS_wf {n : Bs} {v : JV} (hv : wfS v) : ∀ {d : Fs}, wfSF d → wfSF (put n v d)
  | [], _ => by rw [put, wfSF, wfSF]; exact ⟨hv, trivial⟩
  | (m, x) :: r, h => by
    rw [wfSF] at h
    rw [put]
    split
    · rw [wfSF]; exact ⟨h.1, putS_wf hv h.2⟩
    · split
      · rw [wfSF]; exact ⟨hv, h.2⟩
      · rw [wfSF, wfSF]; exact ⟨hv, h⟩
theorem wfS_at {n : Bs} : ∀ {l : Fs} {x : JV}, wfSF l → get n l = some x → wfS x
  | [], _, _, h => by rw [get] at h; cases h
  | (m, v) :: r, x, hw, h => by
    rw [wfSF] at hw
    rw [get] at h
    by_cases e : m = n
    · rw [if_pos e] at h; cases h; exact hw.1
    · rw [if_neg e] at h; exact wfS_at hw.2 h
theorem lenL_set : ∀ {l : List JV} {n : Nat} {w x : JV}, l[n]? = some x → lenL (l.set n w) + (text x).length = lenL l + (text w).length
  | [], _, _, _, h => by simp at h
  | v :: r, 0, w, x, h => by
    simp only [List.getElem?_cons_zero, Option.some.injEq] at h
    subst h
    rw [List.set_cons_zero, lenL, lenL]; omega
  | v :: r, n + 1, w, x, h => by
    rw [List.getElem?_cons_succ] at h
    have := lenL_set (w := w) h
    rw [List.set_cons_succ, lenL, lenL]; omega
theorem lenL_erase : ∀ {l : List JV} {n : Nat} {x : JV}, l[n]? = some x → lenL (l.eraseIdx n) + (text x).length + 1 = lenL l
  | [], _, _, h => by simp at h
  | v :: r, 0, x, h => by
    simp only [List.getElem?_cons_zero, Option.some.injEq] at h
    subst h
    rw [List.eraseIdx_cons_zero, lenL]; omega
  | v :: r, n + 1, x, h => by
    rw [List.getElem?_cons_succ] at h
    have := lenL_erase h
    rw [List.eraseIdx_cons_succ, lenL, lenL]; omega
theorem list_len_le (l : List JV) : (text (.list l)).length ≤ lenL l + 2 := by
  rcases text_list_len l with h | ⟨_, h⟩ <;> omega
theorem list_len_eq (l : List JV) (h : l ≠ []) : (text (.list l)).length = lenL l + 1 := by
  rcases join_len l with h1 | h1
  · rw [text]; simp only [List.length_cons, List.length_append, List.length_nil]; omega
  · exact absurd h1 h
theorem obj_len_eq (l : Fs) (h : l ≠ []) : (text (.obj l)).length = lenF l + 1 := by
  rcases join_lenF l with h1 | h1
  · rw [text]; simp only [List.length_cons, List.length_append, List.length_nil]; omega
  · exact absurd h1 h
theorem mem_len {l : List JV} {n : Nat} {x : JV} (h : l[n]? = some x) : (text x).length + 1 ≤ lenL l ∧ size x ≤ sizeL l ∧ deep x ≤ deepL l := by
  induction l generalizing n with
  | nil => simp at h
  | cons v r ih =>
    rw [lenL, sizeL, deepL]
    cases n with
    | zero =>
      simp only [List.getElem?_cons_zero, Option.some.injEq] at h
      subst h
      exact ⟨by omega, by omega, by omega⟩
    | succ n =>
      rw [List.getElem?_cons_succ] at h
      obtain ⟨a, b, c⟩ := ih h
      exact ⟨by omega, by omega, by omega⟩
theorem wf_list {l : List JV} (h : wf (.list l)) : wfL l := by rw [wf] at h; exact h
theorem wfL_mem : ∀ {l : List JV} {n : Nat} {x : JV}, wfL l → l[n]? = some x → wf x
  | [], _, _, _, h => by simp at h
  | v :: r, 0, x, hw, h => by
    simp only [List.getElem?_cons_zero, Option.some.injEq] at h
    rw [wfL] at hw
    rw [← h]; exact hw.1
  | v :: r, n + 1, x, hw, h => by
    rw [List.getElem?_cons_succ] at h
    rw [wfL] at hw
    exact wfL_mem hw.2 h
theorem child_wf {v c : JV} {s : Bs} (h : wf v) (hc : child v s = some c) : wf c := by
  cases v with
  | obj l => exact wf_at (wf_obj h).2 hc
  | list l =>
    obtain ⟨n, _, h2⟩ := Option.bind_eq_some_iff.1 hc
    exact wfL_mem (wf_list h) h2
  | _ => cases hc
theorem child_len {v c : JV} {s : Bs} (hc : child v s = some c) : (text c).length + 2 ≤ (text v).length ∧ size c + 1 ≤ size v ∧ deep c + 1 ≤ deep v := by
  cases v with
  | obj l =>
    obtain ⟨a, b, d⟩ := getF_le (show get s l = some c from hc)
    have h1 := obj_len_ge l
    rw [size, deep]
    have h2 : (text c).length + 1 ≤ lenF l := by
      have := lenF_cut_get (n := s) (d := l)
      revert hc
      show get s l = some c → _
      clear a b d h1 this
      induction l with
      | nil => intro h; cases h
      | cons y r ih =>
        obtain ⟨m, x⟩ := y
        intro h
        rw [get] at h
        rw [lenF]
        by_cases e : m = s
        · rw [if_pos e] at h; cases h; omega
        · rw [if_neg e] at h; have := ih h; omega
    exact ⟨by omega, by omega, by omega⟩
  | list l =>
    obtain ⟨n, _, h2⟩ := Option.bind_eq_some_iff.1 hc
    obtain ⟨a, b, d⟩ := mem_len h2
    have h1 := list_len_ge l
    rw [size, deep]
    exact ⟨by omega, by omega, by omega⟩
  | _ => cases hc
theorem child_fit {v c : JV} {s : Bs} (h : Fit v) (hc : child v s = some c) : Fit c := by
  obtain ⟨a, b, d⟩ := child_len hc
  exact ⟨child_wf h.1 hc, by have := h.2.1; omega, by have := h.2.2.1; omega, by have := h.2.2.2; omega⟩
theorem at_fit : ∀ {l : List Bs} {v c : JV}, Fit v → atW v l = some c → Fit c
  | [], v, c, h, e => by rw [atW] at e; cases e; exact h
  | s :: r, v, c, h, e => by
    rw [atW] at e
    obtain ⟨x, h1, h2⟩ := Option.bind_eq_some_iff.1 e
    exact at_fit (child_fit h h1) h2
theorem repl_len {v w c : JV} {s : Bs} (h : wfS v) (hc : child v s = some c) : (text (repl v s w)).length + (text c).length ≤ (text v).length + (text w).length := by
  cases v with
  | obj l =>
    obtain ⟨h1, h2⟩ := wfS_obj h
    have hg : get s l = some c := hc
    have a := lenF_put s w l h1
    have b := lenF_cut_get (n := s) h1
    rw [hg] at b
    simp only [wO] at b
    rw [repl]
    have e1 : put s w l ≠ [] := fun e => by have := get_put_same s w l; rw [e] at this; cases this
    have e2 : l ≠ [] := fun e => by rw [e] at hg; cases hg
    rw [obj_len_eq _ e1, obj_len_eq _ e2]; omega
  | list l =>
    obtain ⟨n, h1, h2⟩ := Option.bind_eq_some_iff.1 hc
    rw [repl, h1]
    have a := lenL_set (w := w) h2
    have e2 : l ≠ [] := fun e => by rw [e] at h2; simp at h2
    have e1 : l.set n w ≠ [] := fun e => by
      have := congrArg List.length e
      rw [List.length_set] at this
      exact e2 (List.eq_nil_of_length_eq_zero this)
    show (text (.list (l.set n w))).length + _ ≤ _
    rw [list_len_eq _ e1, list_len_eq _ e2]; omega
  | _ => cases hc
end JP
end Go.Proofs.YtdcmnpeabjallaaGreatDoor
namespace Go.Proofs.YtdcmnpeabjallaaGreatDoor
open Go
namespace JP
theorem atW_cons (v : JV) (s : Bs) (r : List Bs) : atW v (s :: r) = (child v s).bind fun c => atW c r := by rw [atW]
theorem sizeL_set {l : List JV} {n : Nat} {w x : JV} (h : l[n]? = some x) : sizeL (l.set n w) + size x = sizeL l + size w := by
  induction l generalizing n with
  | nil => simp at h
  | cons v r ih =>
    cases n with
    | zero =>
      simp only [List.getElem?_cons_zero, Option.some.injEq] at h
      subst h
      rw [List.set_cons_zero, sizeL, sizeL]; omega
    | succ n =>
      rw [List.getElem?_cons_succ] at h
      have := ih h
      rw [List.set_cons_succ, sizeL, sizeL]; omega
theorem sizeL_erase {l : List JV} {n : Nat} {x : JV} (h : l[n]? = some x) : sizeL (l.eraseIdx n) + size x = sizeL l := by
  induction l generalizing n with
  | nil => simp at h
  | cons v r ih =>
    cases n with
    | zero =>
      simp only [List.getElem?_cons_zero, Option.some.injEq] at h
      subst h
      rw [List.eraseIdx_cons_zero, sizeL]; omega
    | succ n =>
      rw [List.getElem?_cons_succ] at h
      have := ih h
      rw [List.eraseIdx_cons_succ, sizeL, sizeL]; omega
theorem repl_size {v c x : JV} {s : Bs} (h : wfS v) (hc : child v s = some c) : size (repl v s x) + size c = size v + size x := by
  cases v with
  | obj l =>
    have a := sizeF_put s x l (wfS_obj h).1
    have hg : get s l = some c := hc
    rw [hg] at a
    rw [repl, size, size]
    dsimp only at a
    omega
  | list l =>
    obtain ⟨n, h1, h2⟩ := Option.bind_eq_some_iff.1 hc
    have a := sizeL_set (w := x) h2
    rw [repl, h1]
    show size (.list (l.set n x)) + _ = _
    rw [size, size]; omega
  | _ => cases hc
end JP
end Go.Proofs.YtdcmnpeabjallaaGreatDoor
namespace Go.Proofs.YtdcmnpeabjallaaGreatDoor
open Go Go.Lib
theorem replaceAll_eq {old new : List UInt8} (hne : old ≠ new) (s : List UInt8) : replaceAll s old new = replaceK old new (count s old) s := by
  unfold replaceAll replace
  rw [if_neg (by simpa using hne)]
  unfold replaceNum
  rw [if_pos (.inl (by decide))]
theorem replaceAll_nil {old new : List UInt8} (h0 : old ≠ []) (hne : old ≠ new) : replaceAll [] old new = [] := by
  rw [replaceAll_eq hne]
  have h1 : index [] old = -1 := by
    unfold index
    rw [if_neg (by simpa using h0)]
  rw [count_miss h1]
  rfl
theorem replaceAll_hit {old new : List UInt8} (h0 : old ≠ []) (hne : old ≠ new) (t : List UInt8) : replaceAll (old ++ t) old new = new ++ replaceAll t old new := by
  rw [replaceAll_eq hne, replaceAll_eq hne]
  have h1 : index (old ++ t) old = (0 : Nat) := by
    obtain ⟨c, r, rfl⟩ : ∃ c r, old = c :: r := by cases old with | nil => exact absurd rfl h0 | cons c r => exact ⟨c, r, rfl⟩
    rw [List.cons_append, index, if_pos (by rw [List.isPrefixOf_iff_prefix, ← List.cons_append]; exact List.prefix_append _ _)]
    rfl
  rw [count_hit h0 h1, Nat.add_comm, replaceK_hit _ _ _ _ _ h1]
  simp
theorem replaceAll_miss {old new : List UInt8} (h0 : old ≠ []) (hne : old ≠ new) {x : UInt8} {s : List UInt8} (h : old.isPrefixOf (x :: s) = false) : replaceAll (x :: s) old new = x :: replaceAll s old new := by
  rw [replaceAll_eq hne, replaceAll_eq hne]
  have h1 : index (x :: s) old = if index s old == -1 then -1 else index s old + 1 := by
    rw [index, if_neg (by rw [h]; simp)]
  rcases index_spec s old with ⟨h2, _⟩ | ⟨i, h2, _, _⟩
  · rw [h2, if_pos (by decide)] at h1
    rw [count_miss h1, count_miss h2]
    rfl
  · rw [h2, if_neg (by rw [beq_iff_eq]; omega)] at h1
    have h3 : index (x :: s) old = ((i + 1 : Nat) : Int) := by rw [h1]; omega
    rw [count_hit h0 h3, count_hit h0 h2, show i + 1 + old.length = (i + old.length) + 1 by omega, List.drop_succ_cons, Nat.add_comm, replaceK_hit _ _ _ _ _ h3, replaceK_hit _ _ _ _ _ h2, show i + 1 + old.length = (i + old.length) + 1 by omega]
    simp
theorem replaceAll_one {c : UInt8} {new : List UInt8} (hne : [c] ≠ new) : ∀ s : List UInt8, replaceAll s [c] new = s.flatMap fun b => if b = c then new else [b]
  | [] => replaceAll_nil (by simp) hne
  | x :: s => by
    rw [List.flatMap_cons, ← replaceAll_one hne s]
    by_cases h : x = c
    · subst h
      rw [if_pos rfl]
      exact replaceAll_hit (old := [x]) (by simp) hne s
    · rw [if_neg h]
      exact replaceAll_miss (by simp) hne (by simp [List.isPrefixOf, Ne.symm h])
def rep2 (a b : UInt8) (new : List UInt8) : List UInt8 → List UInt8
  | [] => []
  | [x] => [x]
  | x :: y :: r => if x = a ∧ y = b then new ++ rep2 a b new r else x :: rep2 a b new (y :: r)
theorem replaceAll_two {a b : UInt8} {new : List UInt8} (hne : [a, b] ≠ new) : ∀ s : List UInt8, replaceAll s [a, b] new = rep2 a b new s
  | [] => replaceAll_nil (by simp) hne
  | [x] => by
    rw [replaceAll_miss (by simp) hne (by simp [List.isPrefixOf]), replaceAll_nil (by simp) hne]
    rfl
  | x :: y :: r => by
    rw [rep2]
    by_cases h : x = a ∧ y = b
    · obtain ⟨rfl, rfl⟩ := h
      rw [if_pos ⟨rfl, rfl⟩, ← replaceAll_two hne r]
      exact replaceAll_hit (old := [x, y]) (by simp) hne r
    · rw [if_neg h, ← replaceAll_two hne (y :: r)]
      refine replaceAll_miss (by simp) hne ?_
      rw [← Bool.not_eq_true, List.isPrefixOf_iff_prefix]
      rintro ⟨t, ht⟩
      simp only [List.cons_append, List.nil_append, List.cons.injEq] at ht
      exact h ⟨ht.1.symm, ht.2.1.symm⟩
end Go.Proofs.YtdcmnpeabjallaaGreatDoor
namespace Go.Proofs.YtdcmnpeabjallaaGreatDoor
open Go Go.Lib
def escS (l : List UInt8) : List UInt8 := replaceAll (replaceAll l [126] [126, 48]) [47] [126, 49]
def unescS (l : List UInt8) : List UInt8 := replaceAll (replaceAll l [126, 49] [47]) [126, 48] [126]
theorem rep2_ne {a b x : UInt8} {new : List UInt8} (h : x ≠ a) (r : List UInt8) : rep2 a b new (x :: r) = x :: rep2 a b new r := by
  cases r with
  | nil => rfl
  | cons y r => rw [rep2, if_neg (fun e => h e.1)]
def escB (b : UInt8) : List UInt8 := if b = 126 then [126, 48] else if b = 47 then [126, 49] else [b]
theorem escS_eq (l : List UInt8) : escS l = l.flatMap escB := by
  unfold escS
  rw [replaceAll_one (by decide), replaceAll_one (by decide), List.flatMap_assoc]
  congr 1
  funext b
  unfold escB
  by_cases h : b = 126
  · simp [h]
  · by_cases h2 : b = 47 <;> simp [h, h2]
theorem unescS_eq (l : List UInt8) : unescS l = rep2 126 48 [126] (rep2 126 49 [47] l) := by
  unfold unescS
  rw [replaceAll_two (by decide), replaceAll_two (by decide)]
theorem first_pass (l : List UInt8) : rep2 126 49 [47] (l.flatMap escB) = l.flatMap fun b => if b = 126 then [126, 48] else [b] := by
  induction l with
  | nil => rfl
  | cons b l ih =>
    rw [List.flatMap_cons, List.flatMap_cons, ← ih]
    unfold escB
    by_cases h : b = 126
    · subst h
      rw [if_pos rfl, if_pos rfl]
      show rep2 126 49 [47] (126 :: 48 :: _) = _
      rw [rep2, if_neg (by decide), rep2_ne (by decide)]
      rfl
    · rw [if_neg h, if_neg h]
      by_cases h2 : b = 47
      · subst h2
        rw [if_pos rfl]
        simp only [List.cons_append, List.nil_append]
        rw [rep2, if_pos ⟨rfl, rfl⟩]
        rfl
      · rw [if_neg h2]
        exact rep2_ne h _
theorem second_pass (l : List UInt8) : rep2 126 48 [126] (l.flatMap fun b => if b = 126 then [126, 48] else [b]) = l := by
  induction l with
  | nil => rfl
  | cons b l ih =>
    rw [List.flatMap_cons]
    by_cases h : b = 126
    · subst h
      rw [if_pos rfl]
      simp only [List.cons_append, List.nil_append]
      rw [rep2, if_pos ⟨rfl, rfl⟩, ih]
      rfl
    · rw [if_neg h]
      simp only [List.cons_append, List.nil_append]
      rw [rep2_ne h, ih]
theorem unesc_esc (l : List UInt8) : unescS (escS l) = l := by rw [unescS_eq, escS_eq, first_pass, second_pass]
def okEsc : List UInt8 → Bool
  | [] => true
  | [x] => x != 126
  | x :: y :: r => if x = 126 then (y == 48 || y == 49) && okEsc r else okEsc (y :: r)
def decS : List UInt8 → List UInt8
  | [] => []
  | [x] => [x]
  | x :: y :: r => if x = 126 then (if y = 48 then 126 else 47) :: decS r else x :: decS (y :: r)
theorem okEsc_ne {x : UInt8} (h : x ≠ 126) (r : List UInt8) : okEsc (x :: r) = okEsc r := by
  cases r with
  | nil => simp [okEsc, h]
  | cons y r => rw [okEsc, if_neg h]
theorem decS_ne {x : UInt8} (h : x ≠ 126) (r : List UInt8) : decS (x :: r) = x :: decS r := by
  cases r with
  | nil => rfl
  | cons y r => rw [decS, if_neg h]
theorem okEsc_cases {l : List UInt8} (h : okEsc l = true) : l = [] ∨ (∃ x r, x ≠ 126 ∧ l = x :: r ∧ okEsc r = true) ∨ (∃ y r, (y = 48 ∨ y = 49) ∧ l = 126 :: y :: r ∧ okEsc r = true) := by
  match l, h with
  | [], _ => exact .inl rfl
  | [x], h => exact .inr (.inl ⟨x, [], by simpa [okEsc] using h, rfl, rfl⟩)
  | x :: y :: r, h =>
    rw [okEsc] at h
    by_cases h1 : x = 126
    · rw [if_pos h1, Bool.and_eq_true, Bool.or_eq_true, beq_iff_eq, beq_iff_eq] at h
      exact .inr (.inr ⟨y, r, h.1, by rw [h1], h.2⟩)
    · rw [if_neg h1] at h
      exact .inr (.inl ⟨x, y :: r, h1, rfl, h⟩)
theorem dec_unesc (n : Nat) : ∀ l : List UInt8, l.length ≤ n → okEsc l = true → unescS l = decS l := by
  induction n with
  | zero =>
    intro l hl _
    obtain rfl : l = [] := List.eq_nil_of_length_eq_zero (by omega)
    rw [unescS_eq]; rfl
  | succ n ih =>
    intro l hl h
    rw [unescS_eq]
    rcases okEsc_cases h with rfl | ⟨x, r, hx, rfl, hr⟩ | ⟨y, r, hy, rfl, hr⟩
    · rfl
    · rw [rep2_ne hx, rep2_ne hx, decS_ne hx, ← unescS_eq, ih r (by simp at hl; omega) hr]
    · have h2 := ih r (by simp at hl; omega) hr
      rw [unescS_eq] at h2
      rw [decS, if_pos rfl, ← h2]
      rcases hy with rfl | rfl
      · rw [rep2, if_neg (by decide), rep2_ne (x := 48) (a := 126) (by decide), rep2, if_pos ⟨rfl, rfl⟩]
        rfl
      · rw [rep2, if_pos ⟨rfl, rfl⟩]
        simp only [List.cons_append, List.nil_append]
        rw [rep2_ne (x := 47) (a := 126) (by decide)]
        rfl
theorem esc_dec (n : Nat) : ∀ l : List UInt8, l.length ≤ n → okEsc l = true → (47 : UInt8) ∉ l → escS (decS l) = l := by
  induction n with
  | zero =>
    intro l hl _ _
    obtain rfl : l = [] := List.eq_nil_of_length_eq_zero (by omega)
    rw [escS_eq]; rfl
  | succ n ih =>
    intro l hl h h47
    rw [escS_eq]
    rcases okEsc_cases h with rfl | ⟨x, r, hx, rfl, hr⟩ | ⟨y, r, hy, rfl, hr⟩
    · rfl
    · have h2 := ih r (by simp at hl; omega) hr (fun h => h47 (List.mem_cons_of_mem _ h))
      rw [escS_eq] at h2
      have h3 : x ≠ 47 := fun e => h47 (by rw [e]; exact List.mem_cons_self ..)
      rw [decS_ne hx, List.flatMap_cons, h2]
      unfold escB
      rw [if_neg hx, if_neg h3]
      rfl
    · have h2 := ih r (by simp at hl; omega) hr (fun h => h47 (List.mem_cons_of_mem _ (List.mem_cons_of_mem _ h)))
      rw [escS_eq] at h2
      rw [decS, if_pos rfl, List.flatMap_cons, h2]
      rcases hy with rfl | rfl <;> rfl
theorem esc_unesc {l : List UInt8} (h : okEsc l = true) (h47 : (47 : UInt8) ∉ l) : escS (unescS l) = l := by
  rw [dec_unesc _ l (Nat.le_refl _) h, esc_dec _ l (Nat.le_refl _) h h47]
theorem escS_no (l : List UInt8) : (47 : UInt8) ∉ escS l := by
  rw [escS_eq]
  intro h
  obtain ⟨b, _, hb⟩ := List.mem_flatMap.1 h
  unfold escB at hb
  split at hb
  · revert hb; decide
  · split at hb
    · revert hb; decide
    · rename_i h2
      exact h2 (List.mem_singleton.1 hb).symm
theorem escS_ok (l : List UInt8) : okEsc (escS l) = true := by
  rw [escS_eq]
  induction l with
  | nil => rfl
  | cons b l ih =>
    rw [List.flatMap_cons]
    unfold escB
    by_cases h : b = 126
    · rw [if_pos h]
      simp only [List.cons_append, List.nil_append]
      rw [okEsc, if_pos rfl]
      exact ih
    · rw [if_neg h]
      by_cases h2 : b = 47
      · rw [if_pos h2]
        simp only [List.cons_append, List.nil_append]
        rw [okEsc, if_pos rfl]
        exact ih
      · rw [if_neg h2]
        simp only [List.cons_append, List.nil_append]
        rw [okEsc_ne h]
        exact ih
end Go.Proofs.YtdcmnpeabjallaaGreatDoor
namespace Go.Proofs.YtdcmnpeabjallaaGreatDoor
open Go Go.Lib
def splitL (c : UInt8) : List UInt8 → List (List UInt8)
  | [] => [[]]
  | x :: r => if x = c then [] :: splitL c r else match splitL c r with
    | h :: t => (x :: h) :: t
    | [] => [[x]]
theorem splitK_scan (c : UInt8) : ∀ s : List UInt8, splitK [c] 0 (count s [c]) s = splitL c s
  | [] => by
    have h1 : index ([] : List UInt8) [c] = -1 := by unfold index; rfl
    rw [count_miss h1]; rfl
  | x :: r => by
    have ih := splitK_scan c r
    rw [splitL]
    by_cases h : x = c
    · subst h
      rw [if_pos rfl, ← ih, count_cons_eq, Nat.add_comm]
      have h1 : index (x :: r) [x] = 0 := by unfold index; simp
      rw [splitK, h1]
      simp
    · rw [if_neg h, count_cons_ne x c r h, ← ih]
      have h1 : index (x :: r) [c] = if index r [c] == -1 then -1 else index r [c] + 1 := by
        rw [index, if_neg (by simp [List.isPrefixOf, Ne.symm h])]
      rcases index_spec r [c] with ⟨h2, _⟩ | ⟨i, h2, _, _⟩
      · rw [count_miss h2]; rfl
      · rw [h2, if_neg (by rw [beq_iff_eq]; omega)] at h1
        rw [count_hit (by simp) h2, Nat.add_comm, splitK, splitK, h1, h2, if_neg (by rw [beq_iff_eq]; omega), if_neg (by rw [beq_iff_eq]; omega)]
        have e1 : ((i : Int) + 1).toNat = i + 1 := by omega
        have e2 : ((i : Int)).toNat = i := by omega
        rw [e1, e2]
        simp
theorem splitL_ne (c : UInt8) (s : List UInt8) : splitL c s ≠ [] := by
  cases s with
  | nil => simp [splitL]
  | cons x r =>
    rw [splitL]
    split
    · simp
    · split <;> simp
theorem splitL_join (c : UInt8) : ∀ s : List UInt8, (splitL c s).flatMap (fun p => c :: p) = c :: s
  | [] => rfl
  | x :: r => by
    have ih := splitL_join c r
    rw [splitL]
    by_cases h : x = c
    · rw [if_pos h, List.flatMap_cons, ih, h]; rfl
    · rw [if_neg h]
      cases hs : splitL c r with
      | nil => exact absurd hs (splitL_ne c r)
      | cons a t =>
        rw [hs, List.flatMap_cons] at ih
        simp only [List.cons_append, List.cons.injEq, true_and] at ih
        simp only [List.flatMap_cons, List.cons_append, ih]
theorem splitL_no (c : UInt8) : ∀ (s : List UInt8), ∀ p ∈ splitL c s, c ∉ p
  | [], p, hp => by
    obtain rfl : p = [] := by simpa [splitL] using hp
    simp
  | x :: r, p, hp => by
    have ih := splitL_no c r
    rw [splitL] at hp
    by_cases h : x = c
    · rw [if_pos h] at hp
      rcases List.mem_cons.1 hp with rfl | hp
      · simp
      · exact ih p hp
    · rw [if_neg h] at hp
      cases hs : splitL c r with
      | nil => exact absurd hs (splitL_ne c r)
      | cons a t =>
        rw [hs] at hp ih
        rcases List.mem_cons.1 hp with rfl | hp
        · intro hm
          rcases List.mem_cons.1 hm with e | hm
          · exact h e.symm
          · exact ih a (List.mem_cons_self ..) hm
        · exact ih p (List.mem_cons_of_mem _ hp)
theorem splitL_one (c : UInt8) : ∀ p : List UInt8, c ∉ p → splitL c p = [p]
  | [], _ => rfl
  | x :: r, h => by
    rw [splitL, if_neg (fun e => h (by rw [e]; exact List.mem_cons_self ..)), splitL_one c r fun hm => h (List.mem_cons_of_mem _ hm)]
theorem splitL_cut (c : UInt8) (s : List UInt8) : ∀ p : List UInt8, c ∉ p → splitL c (p ++ c :: s) = p :: splitL c s
  | [], _ => by rw [List.nil_append, splitL, if_pos rfl]
  | x :: r, h => by
    rw [List.cons_append, splitL, if_neg (fun e => h (by rw [e]; exact List.mem_cons_self ..)), splitL_cut c s r fun hm => h (List.mem_cons_of_mem _ hm)]
theorem splitL_back (c : UInt8) : ∀ (p : List UInt8) (l : List (List UInt8)), (∀ q ∈ p :: l, c ∉ q) → splitL c (p ++ l.flatMap fun q => c :: q) = p :: l
  | p, [], h => by rw [List.flatMap_nil, List.append_nil, splitL_one c p (h p (List.mem_cons_self ..))]
  | p, q :: l, h => by
    rw [List.flatMap_cons, List.cons_append, splitL_cut c _ p (h p (List.mem_cons_self ..)), splitL_back c q l fun x hx => h x (List.mem_cons_of_mem _ hx)]
end Go.Proofs.YtdcmnpeabjallaaGreatDoor
namespace Go.Proofs.YtdcmnpeabjallaaGreatDoor
open Go Go.Lib
def headOK : List UInt8 → Bool
  | [] => false
  | x :: _ => x == 48 || x == 49
theorem okEsc_split (n : Nat) : ∀ s : List UInt8, s.length ≤ n → okEsc s = (splitL 126 s).tail.all headOK := by
  induction n with
  | zero =>
    intro s hs
    obtain rfl : s = [] := List.eq_nil_of_length_eq_zero (by omega)
    rfl
  | succ n ih =>
    intro s hs
    match s, hs with
    | [], _ => rfl
    | x :: r, hs =>
      by_cases hx : x = 126
      · subst hx
        rw [splitL, if_pos rfl, List.tail_cons]
        match r, hs with
        | [], _ => rfl
        | y :: r', hs =>
          rw [okEsc, if_pos rfl, splitL]
          by_cases hy : y = 126
          · subst hy
            rw [if_pos rfl, List.all_cons]
            rfl
          · rw [if_neg hy]
            have h2 := ih r' (by simp at hs; omega)
            cases hs2 : splitL 126 r' with
            | nil => exact absurd hs2 (splitL_ne 126 r')
            | cons a t =>
              rw [hs2, List.tail_cons] at h2
              rw [h2, List.all_cons]
              rfl
      · rw [okEsc_ne hx, splitL, if_neg hx, ih r (by simp at hs; omega)]
        cases hs2 : splitL 126 r with
        | nil => exact absurd hs2 (splitL_ne 126 r)
        | cons a t => rfl
end Go.Proofs.YtdcmnpeabjallaaGreatDoor
namespace Go.Proofs.YtdcmnpeabjallaaGreatDoor
open Go Go.Lib
def stepsL (q : List UInt8) : List (List UInt8) := (splitL 47 q).map unescS
def stepsP (p : List UInt8) : Int × List (List UInt8) := match p with
  | [] => (0, [])
  | c :: q => if c ≠ 47 then (16, []) else if (splitL 47 q).all okEsc = true then (if 10 < (splitL 47 q).length then (2, []) else (0, stepsL q)) else (16, [])
def joinK (k : List (List UInt8)) : List UInt8 := k.flatMap fun s => 47 :: escS s
theorem joinK_esc (k : List (List UInt8)) : joinK k = (k.map escS).flatMap fun s => 47 :: s := by
  unfold joinK
  rw [List.flatMap_map]
theorem steps_join (k : List (List UInt8)) (h : k.length ≤ 10) : stepsP (joinK k) = (0, k) := by
  cases k with
  | nil => rfl
  | cons x r =>
    rw [joinK_esc, List.map_cons, List.flatMap_cons, List.cons_append]
    have h1 : splitL 47 (escS x ++ (r.map escS).flatMap fun s => 47 :: s) = escS x :: r.map escS := splitL_back 47 _ _ fun q hq => by
      rw [← List.map_cons] at hq
      obtain ⟨y, _, rfl⟩ := List.mem_map.1 hq
      exact escS_no y
    have h2 : (escS x :: r.map escS).all okEsc = true := by
      rw [← List.map_cons, List.all_eq_true]
      intro q hq
      obtain ⟨y, _, rfl⟩ := List.mem_map.1 hq
      exact escS_ok y
    have h3 : ∀ m : List (List UInt8), (m.map escS).map unescS = m := fun m => by
      rw [List.map_map]
      conv => rhs; rw [← List.map_id m]
      congr 1
      funext y
      exact unesc_esc y
    unfold stepsP
    simp only
    rw [if_neg (by simp), h1, if_pos h2, if_neg (by simp at h ⊢; omega)]
    unfold stepsL
    rw [h1, ← List.map_cons, h3]
theorem join_steps {p : List UInt8} {k : List (List UInt8)} (h : stepsP p = (0, k)) : joinK k = p ∧ k.length ≤ 10 := by
  unfold stepsP at h
  cases p with
  | nil => cases h; exact ⟨rfl, by simp⟩
  | cons c q =>
    simp only at h
    by_cases h1 : c = 47
    · rw [if_neg (by simpa using h1)] at h
      by_cases h2 : (splitL 47 q).all okEsc = true
      · rw [if_pos h2] at h
        by_cases h3 : 10 < (splitL 47 q).length
        · rw [if_pos h3] at h; cases h
        · rw [if_neg h3] at h
          cases h
          refine ⟨?_, by unfold stepsL; simp; omega⟩
          unfold joinK stepsL
          rw [List.flatMap_map, h1, ← splitL_join 47 q]
          rw [List.all_eq_true] at h2
          have : ∀ m : List (List UInt8), (∀ s ∈ m, s ∈ splitL 47 q) → m.flatMap (fun s => 47 :: escS (unescS s)) = m.flatMap fun s => 47 :: s := fun m => by
            induction m with
            | nil => intro _; rfl
            | cons x r ih =>
              intro hm
              have hx := hm x (List.mem_cons_self ..)
              rw [List.flatMap_cons, List.flatMap_cons, ih fun s hs => hm s (List.mem_cons_of_mem _ hs), esc_unesc (h2 x hx) (splitL_no 47 q x hx)]
          exact this _ fun _ hs => hs
      · rw [if_neg h2] at h; cases h
    · rw [if_pos h1] at h; cases h
theorem rep2_len {a b : UInt8} {new : List UInt8} (h : new.length ≤ 2) : ∀ (n : Nat) (l : List UInt8), l.length ≤ n → (rep2 a b new l).length ≤ l.length
  | 0, l, hl => by
    obtain rfl : l = [] := List.eq_nil_of_length_eq_zero (by omega)
    simp [rep2]
  | n + 1, l, hl => by
    match l, hl with
    | [], _ => simp [rep2]
    | [x], _ => simp [rep2]
    | x :: y :: r, hl =>
      rw [rep2]
      split
      · have := rep2_len (a := a) (b := b) h n r (by simp at hl; omega)
        rw [List.length_append]; simp only [List.length_cons]; omega
      · have := rep2_len (a := a) (b := b) h n (y :: r) (by simp at hl ⊢; omega)
        simp only [List.length_cons] at this ⊢; omega
theorem unesc_len (l : List UInt8) : (unescS l).length ≤ l.length := by
  rw [unescS_eq]
  exact Nat.le_trans (rep2_len (by decide) _ _ (Nat.le_refl _)) (rep2_len (by decide) _ _ (Nat.le_refl _))
theorem steps_total {p : List UInt8} {k : List (List UInt8)} (h : stepsP p = (0, k)) : (k.map fun s => s.length + 1).sum ≤ p.length := by
  have h1 := (join_steps h).1
  have h2 : ∀ m : List (List UInt8), (m.map fun s => (unescS (escS s)).length + 1).sum ≤ (joinK m).length := fun m => by
    induction m with
    | nil => simp
    | cons x r ih =>
      have := unesc_len (escS x)
      unfold joinK at ih ⊢
      rw [List.map_cons, List.sum_cons, List.flatMap_cons, List.length_append, List.length_cons]
      omega
  have h3 := h2 k
  simp only [unesc_esc] at h3
  rwa [h1] at h3
end Go.Proofs.YtdcmnpeabjallaaGreatDoor
namespace Go.Proofs.YtdcmnpeabjallaaGreatDoor
open Go.RowKit
open JP (JV Bs)
namespace JP
theorem fit_read {v : JV} (h : Fit v) : readL (text v) = (v, 0) := read_text h.1 h.2.1 h.2.2.1 h.2.2.2
theorem tellT_len (v : JV) : (tellT v).length ≤ 2000 := by
  unfold tellT
  by_cases h : tellE v = 0
  · rw [if_pos h]
    unfold tellE at h
    by_cases h3 : 2000 < (text v).length
    · rw [if_pos h3] at h
      split at h
      · cases h
      · split at h
        · cases h
        · split at h <;> cases h
    · omega
  · rw [if_neg h]; exact Nat.zero_le _
theorem read_fit' {a : Bs} (h : (readL a).2 = 0) : Fit (readL a).1 := by
  obtain ⟨h1, h2, h3, h4, h5⟩ := readL_good (s := a) (v := (readL a).1) (Prod.ext rfl h)
  exact ⟨h1, h2, h3, by omega⟩
theorem fit_S {x : JV} (h : Fit x) : wfS x := wf_S.1 x h.1
theorem quote_bound (s : Bs) : (quote s).length ≤ 2 * s.length + 2 := by
  rw [quote_len]
  have : (s.flatMap escB).length ≤ 2 * s.length := by
    induction s with
    | nil => exact Nat.le_refl _
    | cons c r ih =>
      rw [List.flatMap_cons, List.length_append, List.length_cons]
      have : (escB c).length ≤ 2 := by unfold escB; split; · simp
                                       · split; · simp
                                         · split <;> simp
      omega
  omega
end JP
end Go.Proofs.YtdcmnpeabjallaaGreatDoor
namespace Go.Proofs.YtdcmnpeabjallaaGreatDoor
open Go.RowKit
def ErrOK (w : World) : Prop := ∃ tp p tp' p', w.var? Tryz.prog "strconv.ErrSyntax" = some #[.iface tp p] ∧ w.var? Tryz.prog "strconv.ErrRange" = some #[.iface tp' p']
theorem var_below {P : Program} {w w' : World} {n : String} {cs : Array Value} (h : w.var? P n = some cs) (hb : Below w.heap.size w w') : w'.var? P n = some cs := by
  unfold World.var? at h ⊢
  cases hg : P.globalNamed n with
  | none => rw [hg] at h; cases h
  | some g =>
    rw [hg] at h
    simp only [Option.bind_some] at h ⊢
    have hlt : g < w.heap.size := by
      rcases Nat.lt_or_ge g w.heap.size with h1 | h1
      · exact h1
      · rw [Array.getElem?_eq_none h1] at h; cases h
    rw [hb.block g hlt]
    exact h
theorem ErrOK.below {w w' : World} (h : ErrOK w) (hb : Below w.heap.size w w') : ErrOK w' := by
  obtain ⟨tp, p, tp', p', h1, h2⟩ := h
  exact ⟨tp, p, tp', p', var_below h1 hb, var_below h2 hb⟩
end Go.Proofs.YtdcmnpeabjallaaGreatDoor
namespace Go.Proofs.YtdcmnpeabjallaaGreatDoor
open Go.RowKit
open JP (JV Bs)
theorem atoi_itoa {n : Nat} (h : n < 100000000000000000) : Lib.atoiAll (Lib.itoa (n : Int)) = .ok (n : Int) := by
  have h2 : Lib.itoa (n : Int) = Lib.decDigits n := by
    unfold Lib.itoa
    rw [if_neg (by omega)]
    rfl
  have hd := JP.dec_digits n
  have hl := JP.dec_length (u := n) (by omega)
  have hv := JP.dec_value n
  obtain ⟨c, t, hc, _⟩ := JP.dec_head n
  rw [h2, hc]
  rw [hc] at hd hl hv
  have hdc := hd c (List.mem_cons_self ..)
  have n43 : c.toNat ≠ 43 := fun e => by have : c = 43 := u8_eq e; subst this; revert hdc; decide
  have n45 : c.toNat ≠ 45 := fun e => by have : c = 45 := u8_eq e; subst this; revert hdc; decide
  have hm := parse_mag hd (by simp) hl
  rw [Lib.parseUintB_64] at hm
  rw [Lib.atoiAll_plain _ _ n43 n45, hm]
  unfold JP.decV
  rw [hv]
  unfold Lib.signless
  dsimp only [Option.getD]
  rw [if_neg (by omega)]
def IdxAt (s : Bs) (many : Nat) (w : World) (e : Ending) (w' : World) : Prop := ∃ n : Int, e = .returned (.tuple #[.int .i64 n, .bool (JP.idx s many).isSome]) ∧ (∀ k, JP.idx s many = some k → n = (k : Int)) ∧ Below w.heap.size w w'
theorem IdxAt.no {s : Bs} {many : Nat} {w w' : World} {n : Int} (h : JP.idx s many = none) (hb : Below w.heap.size w w') : IdxAt s many w (.returned (.tuple #[.int .i64 n, .bool false])) w' :=
  ⟨n, by rw [h]; rfl, fun k hk => (by rw [h] at hk; cases hk), hb⟩
theorem IdxAt.yes {s : Bs} {many k : Nat} {w w' : World} (h : JP.idx s many = some k) (hb : Below w.heap.size w w') : IdxAt s many w (.returned (.tuple #[.int .i64 (k : Int), .bool true])) w' :=
  ⟨k, by rw [h]; rfl, fun j hj => (by rw [h] at hj; cases hj; rfl), hb⟩
set_option maxRecDepth 100000 in
set_option maxHeartbeats 3200000 in
theorem index_any (s : ByteArray) (many : Nat) (w : World) (hs : s.size ≤ 1073741824) (hm : many ≤ 1048577) (ht : TabOK w) (he : ErrOK w) :
    Calls Tryz.prog 100 #[.string s, .int .i64 (many : Int)] w (IdxAt s.data.toList many w) := by
  have key : ∀ v : Int, Lib.atoiAll s.data.toList = .ok v → ∀ n, n < many → Lib.itoa (n : Int) = s.data.toList → v = (n : Int) := fun v hv n hn e => by
    rw [← e, atoi_itoa (by omega)] at hv
    injection hv with hv
    exact hv.symm
  have no : (∀ v : Int, Lib.atoiAll s.data.toList ≠ .ok v) → JP.idx s.data.toList many = none := fun h => JP.idx_none fun n hn e => by
    refine h n ?_
    rw [← e]; exact atoi_itoa (by omega)
  obtain ⟨tp, p, tp', p', h1, h2⟩ := he
  have fail : ∀ (z : Int) (te : TypeId) (pe : Nat → Value), Hid (JP.idx s.data.toList many = none) → Hid (Calls Tryz.prog 134 #[.string s] w fun e w' => ∃ N, e = .returned (.tuple #[.int .i64 z, .iface te (pe N)]) ∧ Below w.heap.size w w') → Calls Tryz.prog 100 #[.string s, .int .i64 (many : Int)] w (IdxAt s.data.toList many w) := by
    intro z te pe HN HC
    clear key no h1 h2
    go_enter Tryz.func100, Tryz.ntmps100
    go_wp2_with fail
    refine HC.out.mono ?_
    rintro E w1 ⟨N, rfl, hb⟩
    have HB := Lib.hid hb
    clear hb
    go_wp2_with fail
    go_ret2
    exact IdxAt.no HN.out HB.out
  cases hA : Lib.atoiAll s.data.toList
  case range =>
    exact fail _ _ (fun N => .pointer (some ⟨N, 0, none⟩)) (Lib.hid (no fun v e => by rw [hA] at e; cases e)) (Lib.hid ((Tryz.strconv_Atoi_range_var s (by omega) hA tp' p' w h2).mono fun e w' ⟨N, e1, _, _, hb⟩ => ⟨N, e1, hb⟩))
  case ok v =>
    obtain ⟨b1, b2⟩ := Lib.atoiAll_bounds hA
    have HC : Hid (Calls Tryz.prog 134 #[.string s] w fun e w' => e = .returned (.tuple #[.int .i64 v, .nilIface]) ∧ Below w.heap.size w w') := Lib.hid ((Tryz.strconv_Atoi_ok s (by omega) v hA w).mono fun e w' ⟨e1, hw⟩ => ⟨e1, by
      rcases hw with rfl | ⟨t, rfl⟩
      · exact Below.refl _ _
      · exact Lib.bytesWorld_below _ _ _⟩)
    have HT := Lib.hid (fun (w' : World) (hb : Below w.heap.size w w') => Tryz.strconv_Itoa v b1 b2 w' (ht.below hb))
    by_cases hin : 0 ≤ v ∧ v < (many : Int)
    · obtain ⟨i1, i2⟩ := hin
      obtain ⟨k, rfl⟩ : ∃ k : Nat, v = (k : Int) := ⟨v.toNat, by omega⟩
      have hk : k < many := by omega
      obtain ⟨S, hS⟩ : ∃ S : ByteArray, (⟨(Lib.itoa (k : Int)).toArray⟩ : ByteArray) = S := ⟨_, rfl⟩
      have hSd : S.data.toList = Lib.itoa (k : Int) := by rw [← hS]
      obtain ⟨B, hB⟩ : ∃ B, (S.toList == s.toList) = B := ⟨_, rfl⟩
      have hB2 : B = decide (Lib.itoa (k : Int) = s.data.toList) := by
        rw [← hB, ByteArray.toList_eq, ByteArray.toList_eq, hSd, Bool.eq_iff_iff, beq_iff_eq, decide_eq_true_iff]
      have hK : (B = true → JP.idx s.data.toList many = some k) ∧ (B = false → JP.idx s.data.toList many = none) := by
        refine ⟨fun hb => JP.idx_of (by omega) hk (of_decide_eq_true (hB2.symm.trans hb)), fun hb => JP.idx_none fun n hn e => ?_⟩
        have h4 := key _ hA n hn e
        have h5 : ¬ Lib.itoa (k : Int) = s.data.toList := of_decide_eq_false (hB2.symm.trans hb)
        rw [h4] at h5
        exact h5 e
      have HK := Lib.hid hK
      rw [hS] at HT
      have q1 : (k : Int) < (many : Int) := i2
      have q0 : (0 : Int) ≤ (k : Int) := i1
      have HBe := Lib.hid hB
      clear key no h1 h2 fail hA hK hB2 hS hSd b1 b2 i1 i2 ht hB
      go_enter Tryz.func100, Tryz.ntmps100
      go_wp2_with fail
      refine HC.out.mono ?_
      rintro E w1 ⟨rfl, hb⟩
      have HB := Lib.hid hb
      clear hb
      go_wp2_with fail
      refine (HT.out w1 HB.out).mono ?_
      rintro E w2 ⟨rfl, k2, os, hw2⟩
      have HB2 : Hid (Below w.heap.size w w2) := Lib.hid (HB.out.trans (by rw [hw2]; exact Lib.below_grow _ _ HB.out.size _ _))
      clear hw2
      have hBe := HBe.out
      cases B with
      | true =>
        have HI := Lib.hid (HK.out.1 rfl)
        go_wp2_with fail
        go_ret2
        exact IdxAt.yes HI.out HB2.out
      | false =>
        have HI := Lib.hid (HK.out.2 rfl)
        go_wp2_with fail
        go_ret2
        exact IdxAt.no HI.out HB2.out
    · have HN : Hid (JP.idx s.data.toList many = none) := Lib.hid (JP.idx_none fun n hn e => hin (by rw [key v hA n hn e]; exact ⟨by omega, by omega⟩))
      by_cases h0 : 0 ≤ v
      · have q1 : ¬ v < (many : Int) := fun h => hin ⟨h0, h⟩
        clear key no h1 h2 fail hA ht HT hin
        go_enter Tryz.func100, Tryz.ntmps100
        go_wp2_with fail
        refine HC.out.mono ?_
        rintro E w1 ⟨rfl, hb⟩
        have HB := Lib.hid hb
        clear hb
        go_wp2_with fail
        go_ret2
        exact IdxAt.no HN.out HB.out
      · clear key no h1 h2 fail hA ht HT hin
        go_enter Tryz.func100, Tryz.ntmps100
        go_wp2_with fail
        refine HC.out.mono ?_
        rintro E w1 ⟨rfl, hb⟩
        have HB := Lib.hid hb
        clear hb
        go_wp2_with fail
        go_ret2
        exact IdxAt.no HN.out HB.out
  · exact fail 0 _ (fun N => .pointer (some ⟨N, 0, none⟩)) (Lib.hid (no fun v e => by rw [hA] at e; cases e)) (Lib.hid ((Tryz.strconv_Atoi_syntax_var s (by omega) hA tp p w h1).mono fun e w' ⟨N, e1, _, _, hb⟩ => ⟨N, e1, hb⟩))
theorem index_no {s : Bs} {many : Nat} {w : World} (h : JP.idx s many = none) (hs : s.length ≤ 1048576) (hm : many ≤ 1048577) (ht : TabOK w) (he : ErrOK w) :
    Calls Tryz.prog 100 #[.string (mkB s), .int .i64 (many : Int)] w fun e w' => ∃ z : Int, e = .returned (.tuple #[.int .i64 z, .bool false]) ∧ Below w.heap.size w w' := by
  refine (index_any (mkB s) many w (by rw [mkB_size]; omega) hm ht he).mono ?_
  rintro e w' ⟨z, h1, _, h3⟩
  rw [mkB_list, h] at h1
  exact ⟨z, h1, h3⟩
theorem index_yes {s : Bs} {many k : Nat} {w : World} (h : JP.idx s many = some k) (hs : s.length ≤ 1048576) (hm : many ≤ 1048577) (ht : TabOK w) (he : ErrOK w) :
    Calls Tryz.prog 100 #[.string (mkB s), .int .i64 (many : Int)] w fun e w' => e = .returned (.tuple #[.int .i64 (k : Int), .bool true]) ∧ Below w.heap.size w w' := by
  refine (index_any (mkB s) many w (by rw [mkB_size]; omega) hm ht he).mono ?_
  rintro e w' ⟨z, h1, h2, h3⟩
  rw [mkB_list, h] at h1 h2
  rw [← h2 k rfl]
  exact ⟨h1, h3⟩
end Go.Proofs.YtdcmnpeabjallaaGreatDoor
namespace Go.Proofs.YtdcmnpeabjallaaGreatDoor
open Go.RowKit
open JP (JV Bs)
theorem as_other {n : Nat} {T : List Nat} {w : World} {v : Value} {x : JV} (h : JvAt n T w v x) (hx : ∀ l, x ≠ .obj l) : ∀ w' : World, (Instr.typeAssert v 47 88 true).run Tryz.prog w' = .ok (.tuple #[.pointer none, .bool false]) w' := by
  cases n with
  | zero => cases h
  | succ n =>
    cases x with
    | nul => obtain rfl : v = .nilIface := h; exact as_nil.2.2.2.2
    | bool b => obtain rfl : v = .iface 4 (.bool b) := h; exact (as_bool _).2.2.2.2
    | num k => obtain ⟨rfl, _, _⟩ := h; exact (as_int64 _).2.2.2.2
    | str s => obtain rfl : v = .iface 9 (.string (mkB s)) := h; exact (as_string _).2.2.2.2
    | list L => obtain ⟨u, rfl, _, _⟩ := h; exact (as_list _).2.2.2.2
    | obj l => exact absurd rfl (hx l)
theorem as_nolist {n : Nat} {T : List Nat} {w : World} {v : Value} {x : JV} (h : JvAt n T w v x) (hx : ∀ l, x ≠ .list l) : ∀ w' : World, (Instr.typeAssert v 47 87 true).run Tryz.prog w' = .ok (.tuple #[.slice none 0 0, .bool false]) w' := by
  cases n with
  | zero => cases h
  | succ n =>
    cases x with
    | nul => obtain rfl : v = .nilIface := h; exact as_nil.2.2.2.1
    | bool b => obtain rfl : v = .iface 4 (.bool b) := h; exact (as_bool _).2.2.2.1
    | num k => obtain ⟨rfl, _, _⟩ := h; exact (as_int64 _).2.2.2.1
    | str s => obtain rfl : v = .iface 9 (.string (mkB s)) := h; exact (as_string _).2.2.2.1
    | obj L => obtain ⟨u, rfl, _⟩ := h; exact (as_obj _).2.2.2.1
    | list l => exact absurd rfl (hx l)
end Go.Proofs.YtdcmnpeabjallaaGreatDoor
namespace Go.Proofs.YtdcmnpeabjallaaGreatDoor
open Go.RowKit
open JP (JV Bs)
def ChildAt (o : Option JV) (w : World) (e : Ending) (w' : World) : Prop := ∃ u, e = .returned (.tuple #[u, .bool o.isSome]) ∧ (∀ c, o = some c → ∃ k, JvAt k [] w' u c) ∧ Below w.heap.size w w'
theorem ChildAt.no {w w' : World} {o : Option JV} (ho : o = none) (hb : Below w.heap.size w w') : ChildAt o w (.returned (.tuple #[.nilIface, .bool false])) w' := by
  subst ho
  exact ⟨_, rfl, fun c h => (by cases h), hb⟩
theorem ChildAt.yes {w w' : World} {o : Option JV} {k : Nat} {c : JV} {u : Value} (ho : o = some c) (h : JvAt k [] w' u c) (hb : Below w.heap.size w w') : ChildAt o w (.returned (.tuple #[u, .bool true])) w' := by
  subst ho
  exact ⟨_, rfl, fun d e => by cases e; exact ⟨k, h⟩, hb⟩
set_option maxRecDepth 100000 in
set_option maxHeartbeats 3200000 in
theorem child_any {n : Nat} {v : Value} {x : JV} {s : Bs} {w : World} (h : JvAt n [] w v x) (hz : (JP.text x).length ≤ 1000000) (hs : s.length ≤ 1048576) (ht : TabOK w) (he : ErrOK w) :
    Calls Tryz.prog 75 #[v, .string (mkB s)] w (ChildAt (JP.child x s) w) := by
  obtain ⟨R0, hR⟩ : ∃ R, JP.child x s = R := ⟨_, rfl⟩
  rw [hR]
  have HR := Lib.hid hR
  clear hR
  cases n with
  | zero => cases h
  | succ n =>
    have way : (∃ l, x = .obj l) ∨ (∃ l, x = .list l) ∨ ((∀ l, x ≠ .obj l) ∧ (∀ l, x ≠ .list l)) := by
      cases x with
      | obj l => exact .inl ⟨l, rfl⟩
      | list l => exact .inr (.inl ⟨l, rfl⟩)
      | _ => exact .inr (.inr ⟨fun l e => (by cases e), fun l e => (by cases e)⟩)
    rcases way with ⟨l, rfl⟩ | ⟨l, rfl⟩ | ⟨h1, h2⟩
    · obtain ⟨q, rfl, ho⟩ := h
      have G1 := (as_obj (.pointer (some ⟨q, 0, none⟩))).2.2.2.2
      have hl : l.length ≤ 1048576 := by have := lenF_len l; have := JP.obj_len_ge l; omega
      have HG := Lib.hid (get_any (x := s) ho hl)
      rw [show JP.get s l = R0 from HR.out] at HG
      clear ho ht he hz hs hl HR
      go_enter Tryz.func75, Tryz.ntmps75
      go_wp2_with fail
      refine HG.out.mono ?_
      rintro E w1 ⟨vg, rfl, hsome, hnone, k, hw1⟩
      have HB : Hid (Below w.heap.size w w1) := Lib.hid (by rw [hw1]; exact ⟨rfl, rfl, rfl, Nat.le_refl _, fun _ _ => rfl⟩)
      have HJ : Hid (∀ c, R0 = some c → ∃ k, JvAt k [] w1 vg c) := Lib.hid (fun c hc => ⟨n, by rw [hw1]; exact (hsome c hc).keepT (KeepT.drewN w k)⟩)
      clear hw1 hsome hnone
      go_wp2_with fail
      go_ret2
      exact ⟨_, rfl, HJ.out, HB.out⟩
    · obtain ⟨u, rfl, hr, _⟩ := h
      obtain ⟨a1, c1, rfl, _, _⟩ := hr.len
      obtain ⟨G1, G2⟩ := (as_list (.slice a1 l.length c1)).2.2.2
      have hl : l.length ≤ 1048576 := by have := lenL_len l; have := JP.list_len_ge l; omega
      have Hr := Lib.hid hr
      clear hr hz
      cases hix : JP.idx s l.length with
      | none =>
        have HI := Lib.hid (index_no hix hs (by omega) ht he)
        clear ht he hs
        have HN : Hid (R0 = none) := Lib.hid (by rw [← HR.out]; show (JP.idx s l.length).bind _ = none; rw [hix]; rfl)
        clear hix HR
        go_enter Tryz.func75, Tryz.ntmps75
        go_wp2_with fail
        refine HI.out.mono ?_
        rintro E w1 ⟨z, rfl, hb⟩
        have HB := Lib.hid hb
        clear hb
        go_wp2_with fail
        go_ret2
        exact ChildAt.no HN.out HB.out
      | some k =>
        have HI := Lib.hid (index_yes hix hs (by omega) ht he)
        clear ht he hs
        obtain ⟨k1, _⟩ := JP.idx_some hix
        obtain ⟨y, hy⟩ : ∃ y, l[k]? = some y := ⟨_, List.getElem?_eq_getElem k1⟩
        have HN : Hid (R0 = some y) := Lib.hid (by rw [← HR.out]; show (JP.idx s l.length).bind _ = _; rw [hix]; exact hy)
        obtain ⟨b, o, c', hv, _, _, hbs, hcell⟩ := Hr.out.form (by omega) (by omega)
        injection hv with u1 u2 u3
        subst u1
        clear u2 u3
        obtain ⟨cs, _, hcc, vx, rfl, hvx⟩ := hcell k y hy
        have e0 : w.cell? ⟨b, o + k, none⟩ = some vx := by simpa using hcc 0 _ rfl
        have q1 : (0 : Int) ≤ (k : Int) := by omega
        have q2 : (k : Int) < (l.length : Int) := by omega
        have Hvx := Lib.hid hvx
        have He0 := Lib.hid e0
        have hbs' := Lib.hid hbs
        clear hix HR hcell hcc hvx e0 hbs
        go_enter Tryz.func75, Tryz.ntmps75
        go_wp2_with fail
        refine HI.out.mono ?_
        rintro E w1 ⟨rfl, hb⟩
        have e1 : w1.cell? ⟨b, o + k, none⟩ = some vx := (hb.cell (p := ⟨b, _, none⟩) hbs'.out).trans He0.out
        have HB := Lib.hid hb
        have HJ := Lib.hid (Hvx.out.below hb)
        clear hb
        go_wp2_with fail
        go_ret2
        exact ChildAt.yes HN.out HJ.out HB.out
    · have G1 := as_other h h1
      have G2 := as_nolist h h2
      have HN : Hid (R0 = none) := Lib.hid (by
        rw [← HR.out]
        cases x with
        | obj l => exact absurd rfl (h1 l)
        | list l => exact absurd rfl (h2 l)
        | _ => rfl)
      clear h h1 h2 ht he hz hs HR
      go_enter Tryz.func75, Tryz.ntmps75
      go_wp2_with fail
      go_ret2
      exact ChildAt.no HN.out (Below.refl _ _)
end Go.Proofs.YtdcmnpeabjallaaGreatDoor
namespace Go.Proofs.YtdcmnpeabjallaaGreatDoor
open Go.RowKit
open JP (JV Bs)
theorem at_any {n : Nat} {v sv : Value} {x : JV} {l : List Bs} {w : World} (h : JvAt n [] w v x) (hz : (JP.text x).length ≤ 1000000) (hs : StrAt w sv (l.map mkB)) (hl : ∀ s ∈ l, s.length ≤ 1048576) (hll : l.length ≤ 1048576) (ht : TabOK w) (he : ErrOK w) :
    Calls Tryz.prog 42 #[v, sv] w (ChildAt (JP.atW x l) w) := by
  obtain ⟨R0, hR⟩ : ∃ R, JP.atW x l = R := ⟨_, rfl⟩
  rw [hR]
  have HR := Lib.hid hR
  obtain ⟨a1, c1, hu, _, _⟩ := hs.len
  rw [List.length_map] at hu
  subst hu
  have Hs := Lib.hid hs
  have H := Lib.hid h
  have Hz := Lib.hid hz
  have Hl := Lib.hid hl
  have HT := Lib.hid ht
  have HE := Lib.hid he
  clear hR h hs hz hl ht he
  obtain ⟨ln, hln⟩ : ∃ ln, l.length = ln := ⟨_, rfl⟩
  rw [hln] at hll
  have Hln := Lib.hid hln
  rw [hln]
  have Hs : Hid (StrAt w (.slice a1 ln c1) (l.map mkB)) := Lib.hid (by rw [← hln]; exact Hs.out)
  clear hln
  go_enter Tryz.func42, Tryz.ntmps42
  go_wp2_with fail
  go_loopg [12, 0] ln (fun k u12 u0 wr => ∃ (i m : Nat) (y : JV), i + k = ln ∧ u12 = .int .i64 (i : Int) ∧ Hid (JvAt m [] wr u0 y) ∧ Hid (JP.atW y (l.drop i) = R0) ∧ Hid ((JP.text y).length ≤ 1000000) ∧ Hid (Below w.heap.size w wr))
  case atStart => exact ⟨0, n, x, by omega, rfl, H, Lib.hid (by rw [List.drop_zero]; exact HR.out), Hz, Lib.hid (Below.refl _ _)⟩
  case round =>
    obtain ⟨i, m, y, hik, rfl, HJ, HA, Hy, HB⟩ := hrel
    cases gk with
    | zero =>
      have q1 : ¬ (i : Int) < (ln : Int) := by omega
      have Hfin : Hid (R0 = some y) := Lib.hid (by rw [← HA.out, List.drop_of_length_le (by rw [Hln.out]; omega)]; rw [JP.atW])
      go_wp2_with fail
      go_ret2
      exact ChildAt.yes Hfin.out HJ.out HB.out
    | succ k =>
      have hil : i < ln := by omega
      have hil2 : i < l.length := by rw [Hln.out]; exact hil
      obtain ⟨s, hs⟩ : ∃ s, l[i]? = some s := ⟨_, List.getElem?_eq_getElem hil2⟩
      obtain ⟨b1, o1, c', hv, _, _, hbs1, hcell1⟩ := Hs.out.row.form (by rw [List.length_map]; omega) (by omega)
      injection hv with u1 u2 u3
      subst u1
      clear u2 u3
      obtain ⟨ds1, _, hcc1, hR1⟩ := hcell1 i (mkB s) (by rw [List.getElem?_map, hs]; rfl)
      obtain rfl : ds1 = [.string (mkB s)] := hR1
      have e0 : wr.cell? ⟨b1, o1 + i, none⟩ = some (.string (mkB s)) := (HB.out.cell (p := ⟨b1, _, none⟩) hbs1).trans (by simpa using hcc1 0 _ rfl)
      have q0 : (0 : Int) ≤ (i : Int) := by omega
      have q1 : (i : Int) < (ln : Int) := by omega
      have hdrop : l.drop i = s :: l.drop (i + 1) := by
        obtain ⟨g1, g2⟩ := List.getElem?_eq_some_iff.1 hs
        rw [List.drop_eq_getElem_cons g1, g2]
      have hstep : (JP.child y s).bind (fun c => JP.atW c (l.drop (i + 1))) = R0 := by rw [← HA.out, hdrop, JP.atW]
      have HC := Lib.hid (child_any (s := s) HJ.out Hy.out (Hl.out s (List.mem_of_getElem? hs)) (HT.out.below HB.out) (HE.out.below HB.out))
      have Hstep := Lib.hid hstep
      clear hs hcell1 hcc1 hdrop hstep
      cases hc : JP.child y s with
      | none =>
        rw [hc] at HC
        have Hfin : Hid (R0 = none) := Lib.hid (by rw [← Hstep.out, hc]; rfl)
        clear hc
        go_wp2_with fail
        refine HC.out.mono ?_
        rintro E w1 ⟨u, rfl, _, hb⟩
        have HB2 := Lib.hid (HB.out.trans (hb.mono HB.out.size))
        clear hb
        go_wp2_with fail
        go_ret2
        exact ChildAt.no Hfin.out HB2.out
      | some c =>
        rw [hc] at HC
        have Hst : Hid (JP.atW c (l.drop (i + 1)) = R0) := Lib.hid (by rw [← Hstep.out, hc]; rfl)
        have Hcl : Hid ((JP.text c).length ≤ 1000000) := Lib.hid (by have := (JP.child_len hc).1; have := Hy.out; omega)
        clear hc
        go_wp2_with fail
        refine HC.out.mono ?_
        rintro E w1 ⟨u, rfl, hu, hb⟩
        obtain ⟨m2, hm2⟩ := hu c rfl
        have HB2 := Lib.hid (HB.out.trans (hb.mono HB.out.size))
        have HJ2 := Lib.hid hm2
        clear hb hu hm2
        go_wp2_with fail
        go_roundg k
        case measure => omega
        case rel => exact ⟨i + 1, m2, c, by omega, by go_num, HJ2, Hst, Hcl, HB2⟩
end Go.Proofs.YtdcmnpeabjallaaGreatDoor
namespace Go.Proofs.YtdcmnpeabjallaaGreatDoor
open Go.RowKit
def MaxOK (m : Int) (w : World) : Prop := w.cell? ⟨Tryz.laysM143_ren.g 1, 0, none⟩ = some (.int .i64 m)
theorem MaxOK.below {m : Int} {w w' : World} (h : MaxOK m w) (hb : Below w.heap.size w w') : MaxOK m w' := by
  have h' : w.cell? ⟨Tryz.laysM143_ren.g 1, 0, none⟩ = some (.int .i64 m) := h
  exact (hb.cell (p := ⟨Tryz.laysM143_ren.g 1, 0, none⟩) (World.block_lt_of_cell? w _ h')).trans h'
theorem MaxOK.drewN {m : Int} {w : World} (h : MaxOK m w) (k : Nat) : MaxOK m (w.drewN k) := h
theorem max_of {w : World} (h : w.ShapedOpen Tryz.prog) : ∃ m, MaxOK m w := Tryz.laysM143.s1_3 w h
end Go.Proofs.YtdcmnpeabjallaaGreatDoor
namespace Go.Proofs.YtdcmnpeabjallaaGreatDoor
open Go.RowKit
theorem esc_len (l : List UInt8) : (escS l).length ≤ 2 * l.length := by
  rw [escS_eq]
  induction l with
  | nil => simp
  | cons b l ih =>
    rw [List.flatMap_cons, List.length_append, List.length_cons]
    have : (escB b).length ≤ 2 := by unfold escB; split; · simp
                                     split <;> simp
    omega
def joinL (l : List ByteArray) : List UInt8 := l.flatMap fun s => 47 :: escS s.data.toList
theorem joinL_len (l : List ByteArray) : (joinL l).length ≤ 2 * total l := by
  induction l with
  | nil => simp [joinL]
  | cons s r ih =>
    have h1 := esc_len s.data.toList
    have h2 : s.data.toList.length = s.size := by simp
    unfold joinL at ih ⊢
    rw [List.flatMap_cons, List.length_append, List.length_cons]
    have h3 : total (s :: r) = s.size + 1 + total r := by simp [total]
    omega
set_option maxRecDepth 100000 in
set_option maxHeartbeats 800000 in
theorem ptrJoin_any (v : Value) (l : List ByteArray) (m : Int) (w : World) (h : StrAt w v l) (hl : total l ≤ 4194304) (hm : MaxOK m w) :
    Calls Tryz.prog 80 #[v] w fun e w' => e = .returned (if 10 < l.length then .tuple #[.string ⟨#[]⟩, .int .i64 2] else .tuple #[.string ⟨(joinL l).toArray⟩, .int .i64 0]) ∧ Below w.heap.size w w' := by
  have hll : l.length ≤ 4194304 := by have := total_length l; omega
  obtain ⟨a1, c1, rfl, hc1, hc2⟩ := h.row.len
  have H := Lib.hid h
  have Hm := Lib.hid hm
  have Hl := Lib.hid hl
  clear h hm hl
  by_cases h10 : 10 < l.length
  · rw [if_pos h10]
    have q0 : (10 : Int) < (l.length : Int) := by omega
    go_enter Tryz.func80, Tryz.ntmps80
    go_wp2_with fail
    go_ret2
    exact ⟨rfl, Below.refl _ _⟩
  · rw [if_neg h10]
    have q0 : ¬ (10 : Int) < (l.length : Int) := by omega
    go_enter Tryz.func80, Tryz.ntmps80
    go_wp2_with fail
    go_loopg [4, 12] l.length (fun k u4 u12 wr => ∃ i : Nat, i + k = l.length ∧ u12 = .int .i64 (i : Int) ∧ u4 = .string ⟨(joinL (l.take i)).toArray⟩ ∧ Hid (Below w.heap.size w wr))
    case atStart => exact ⟨0, by omega, rfl, rfl, Lib.hid (Below.refl _ _)⟩
    case round =>
      obtain ⟨i, hig, rfl, rfl, Hbel⟩ := hrel
      have hsr := Hbel.out.size
      cases gk with
      | zero =>
        obtain rfl : i = l.length := by omega
        have Ht : Hid (l.take l.length = l) := Lib.hid (List.take_of_length_le (Nat.le_refl _))
        rw [Ht.out]
        go_wp2_with fail
        go_ret2
        exact ⟨rfl, Hbel.out⟩
      | succ k =>
        have hil : i < l.length := by omega
        obtain ⟨x, hxi⟩ : ∃ x, l[i]? = some x := ⟨l[i]'(by omega), List.getElem?_eq_getElem _⟩
        obtain ⟨b, o, c', hv, _, _, hbs, hcell⟩ := H.out.row.form (by omega) (by omega)
        injection hv with u1 u2 u3
        subst u1
        clear u2 u3
        obtain ⟨ds, _, hcc, hR⟩ := hcell i x hxi
        have hR' : ds = [.string x] := hR
        subst hR'
        have e0 : wr.cell? ⟨b, o + i, none⟩ = some (.string x) := (Hbel.out.cell (p := ⟨b, _, none⟩) hbs).trans (by simpa using hcc 0 _ rfl)
        have q1 : (0 : Int) ≤ (i : Int) := by omega
        have q2 : (i : Int) < (l.length : Int) := by omega
        have hx1 := total_mem (List.mem_of_getElem? hxi)
        have hxs : x.size ≤ 4194304 := by have := Hl.out; omega
        have Hxi := Lib.hid hxi
        clear hcc hcell hxi hx1
        obtain ⟨J, HJ⟩ : ∃ J : ByteArray, Hid (⟨(joinL (l.take i)).toArray⟩ = J) := ⟨_, Lib.hid rfl⟩
        have hJ : J.size ≤ 8388608 := by
          rw [← HJ.out]
          have h1 := joinL_len (l.take i)
          have h2 : total (l.take i) ≤ total l := by
            unfold total
            rw [List.map_take]
            conv => rhs; rw [← List.take_append_drop i (l.map fun s => s.size + 1)]
            rw [List.sum_append]; omega
          have h3 := Hl.out
          show (joinL (l.take i)).toArray.size ≤ _
          rw [List.size_toArray]; omega
        rw [HJ.out]
        go_wp2_with fail
        refine (Tryz.strings_ReplaceAll x ⟨#[126]⟩ ⟨#[126, 48]⟩ m wr (by omega) (Hm.out.below Hbel.out) (by decide) (by
          have h1 := Lib.countB_le ⟨#[126]⟩ (by decide) x.size x (Nat.le_refl _)
          have h2 : (ByteArray.mk #[126, 48]).size = 2 := rfl
          rw [h2]; omega)).mono ?_
        rintro E w2 ⟨rfl, hb2⟩
        have Hb2 := Lib.hid (Hbel.out.trans (hb2.mono hsr))
        have hs2 := Hb2.out.size
        clear hb2
        obtain ⟨y, Hy⟩ : ∃ y : ByteArray, Hid ((⟨(Lib.replaceAll x.data.toList [126] [126, 48]).toArray⟩ : ByteArray) = y) := ⟨_, Lib.hid rfl⟩
        have hy0 : (⟨(Lib.replaceAll x.data.toList (⟨#[126]⟩ : ByteArray).data.toList (⟨#[126, 48]⟩ : ByteArray).data.toList).toArray⟩ : ByteArray) = y := Hy.out
        have hyd : y.data.toList = Lib.replaceAll x.data.toList [126] [126, 48] := by rw [← Hy.out]
        have hys : y.size ≤ 8388608 := by
          have h1 : y.data.toList.length = y.size := by simp
          rw [← h1, hyd, replaceAll_one (by decide)]
          have h2 : ∀ q : List UInt8, (q.flatMap fun b => if b = 126 then [126, 48] else [b]).length ≤ 2 * q.length := fun q => by
            induction q with
            | nil => simp
            | cons b q ih =>
              rw [List.flatMap_cons, List.length_append, List.length_cons]
              have : (if b = 126 then [126, 48] else [b] : List UInt8).length ≤ 2 := by split <;> simp
              omega
          have h3 := h2 x.data.toList
          have h4 : x.data.toList.length = x.size := by simp
          omega
        rw [hy0]
        have Hyd := Lib.hid hyd
        clear hy0 hyd
        go_wp2_with fail
        refine (Tryz.strings_ReplaceAll y ⟨#[47]⟩ ⟨#[126, 49]⟩ m w2 (by omega) (Hm.out.below Hb2.out) (by decide) (by
          have h1 := Lib.countB_le ⟨#[47]⟩ (by decide) y.size y (Nat.le_refl _)
          have h2 : (ByteArray.mk #[126, 49]).size = 2 := rfl
          rw [h2]; omega)).mono ?_
        rintro E w3 ⟨rfl, hb3⟩
        have Hb3 := Lib.hid (Hb2.out.trans (hb3.mono hs2))
        obtain ⟨z, Hz⟩ : ∃ z : ByteArray, Hid ((⟨(escS x.data.toList).toArray⟩ : ByteArray) = z) := ⟨_, Lib.hid rfl⟩
        have hz0 : (⟨(Lib.replaceAll y.data.toList (⟨#[47]⟩ : ByteArray).data.toList (⟨#[126, 49]⟩ : ByteArray).data.toList).toArray⟩ : ByteArray) = z := by rw [← Hz.out, Hyd.out]; rfl
        have hzs : z.size ≤ 8388608 := by
          rw [← Hz.out]
          have h1 := esc_len x.data.toList
          have h4 : x.data.toList.length = x.size := by simp
          show (escS x.data.toList).toArray.size ≤ _
          rw [List.size_toArray]; omega
        rw [hz0]
        have s1 : ¬ 9223372036854775807 < 1 + z.size := by omega
        have s2 : ¬ 9223372036854775807 < (⟨#[47]⟩ : ByteArray).size + z.size := by have : (ByteArray.mk #[47]).size = 1 := rfl; rw [this]; omega
        have s3 : ¬ 9223372036854775807 < J.size + (1 + z.size) := by omega
        have s4 : ¬ 9223372036854775807 < J.size + ((⟨#[47]⟩ : ByteArray) ++ z).size := by rw [ByteArray.size_append]; have : (ByteArray.mk #[47]).size = 1 := rfl; rw [this]; omega
        have Hnew : Hid (J ++ ((⟨#[47]⟩ : ByteArray) ++ z) = ⟨(joinL (l.take (i + 1))).toArray⟩) := Lib.hid (by
          rw [← HJ.out, ← Hz.out, List.take_add_one, Hxi.out]
          apply ByteArray.ext
          simp [joinL])
        clear hb3 hz0 e0
        go_wp2_with fail
        go_roundg k
        case measure => omega
        case rel => exact ⟨i + 1, by omega, by go_num, congrArg Value.string Hnew.out, Hb3⟩
end Go.Proofs.YtdcmnpeabjallaaGreatDoor
