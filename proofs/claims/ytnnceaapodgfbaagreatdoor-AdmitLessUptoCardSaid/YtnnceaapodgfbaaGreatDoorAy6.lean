/- Texts of ours joined. -/
import Derived.Lib.AppendIntMem
import Derived.Below
import Derived.Deep.LoopGhost
import Derived.Deep.DeepCutAuto
import Derived.DeepKeys4
import Derived.WalkSpells
import Derived.BigQuiet
import Derived.Lib.Bytealg
import Derived.Lib.ItoaNum
import Derived.Shelf.SlSortCmp.Kit1
import Derived.Test.YtnnceaapodgfbaaGreatDoorAy5
set_option linter.unusedVariables false
set_option linter.unusedSimpArgs false
namespace Go.Proofs.YtnnceaapodgfbaaGreatDoor
open Go.RowKit
open JP (JV Bs)
theorem joinStrs_any {w : World} {v : Value} {l : List ByteArray} (h : RowAt RString 1 w v l) (hl : l.length ≤ 1073741824) (hj : (Lib.join (l.map (·.data.toList)) [44]).length ≤ 1073741824) :
    Calls Tryz.prog 101 #[v, .string ⟨#[44]⟩] w fun e w' => e = .returned (.string (mkB (Lib.join (l.map (·.data.toList)) [44]))) ∧ Below w.heap.size w w' := by
  by_cases h0 : 0 < l.length
  · obtain ⟨b, o, c, rfl, hc, _, hbs, hcell⟩ := h.form h0 (by omega)
    refine Tryz.strings_Join b o c l ⟨#[44]⟩ w (fun j x hx => ?_) hbs (by omega) hc ?_
    · obtain ⟨cs, _, h2, h3⟩ := hcell j x hx
      rw [h3] at h2
      have := h2 0 _ rfl
      simpa using this
    · show (Lib.join (l.map (·.data.toList)) [44]).length ≤ _; omega
  · have hn : l = [] := List.eq_nil_of_length_eq_zero (by omega)
    subst hn
    obtain ⟨a, c, rfl, _, _⟩ := h.len
    refine (Tryz.strings_Join_none a c ⟨#[44]⟩ w).mono ?_
    rintro e w' ⟨rfl, rfl⟩
    exact ⟨rfl, Below.refl _ _⟩
theorem textL_map (l : List JV) : JP.textL l = l.map JP.text := by
  induction l with
  | nil => rfl
  | cons v r ih => rw [JP.textL, ih]; rfl
theorem textF_map (l : List (Bs × JV)) : JP.textF l = l.map fun x => JP.quote x.1 ++ 58 :: JP.text x.2 := by
  induction l with
  | nil => rfl
  | cons x r ih => obtain ⟨n, v⟩ := x; rw [JP.textF, ih]; rfl
theorem mk_map {α : Type} (f : α → Bs) (l : List α) : (l.map fun x => mkB (f x)).map (·.data.toList) = l.map f := by
  rw [List.map_map]
  exact List.map_congr_left fun x _ => mkB_list (f x)
theorem lenL_mem {l : List JV} {x : JV} (h : x ∈ l) : (JP.text x).length + 1 ≤ JP.lenL l := by
  induction l with
  | nil => cases h
  | cons v r ih =>
    rw [JP.lenL]
    rcases List.mem_cons.1 h with rfl | h
    · omega
    · have := ih h; omega
theorem lenL_len (l : List JV) : l.length ≤ JP.lenL l := by
  induction l with
  | nil => simp
  | cons v r ih => rw [JP.lenL, List.length_cons]; omega
theorem lenF_mem {l : List (Bs × JV)} {x : Bs × JV} (h : x ∈ l) : (JP.quote x.1).length + (JP.text x.2).length + 2 ≤ JP.lenF l := by
  induction l with
  | nil => cases h
  | cons v r ih =>
    obtain ⟨n, v⟩ := v
    rw [JP.lenF]
    rcases List.mem_cons.1 h with rfl | h
    · dsimp only; omega
    · have := ih h; omega
theorem lenF_len (l : List (Bs × JV)) : l.length ≤ JP.lenF l := by
  induction l with
  | nil => simp
  | cons v r ih => obtain ⟨n, v⟩ := v; rw [JP.lenF, List.length_cons]; omega
theorem lenL_text (l : List JV) : JP.lenL l ≤ (JP.text (.list l)).length := by
  rcases JP.join_len l with h | rfl
  · rw [JP.text]; simp only [List.length_cons, List.length_append, List.length_nil]; omega
  · simp [JP.lenL]
theorem lenF_text (l : List (Bs × JV)) : JP.lenF l ≤ (JP.text (.obj l)).length := by
  rcases JP.join_lenF l with h | rfl
  · rw [JP.text]; simp only [List.length_cons, List.length_append, List.length_nil]; omega
  · simp [JP.lenF]
theorem quote_size (s : Bs) : s.length ≤ (JP.quote s).length := by
  rw [JP.quote_len]
  have : s.length ≤ (s.flatMap JP.escB).length := by
    induction s with
    | nil => simp
    | cons c r ih =>
      rw [List.flatMap_cons, List.length_append, List.length_cons]
      have : 1 ≤ (JP.escB c).length := by unfold JP.escB; split; · simp
                                          · split; · simp
                                            · split <;> simp
      omega
  omega
theorem ret_mk {a b : Bs} (h : a = b) : Ending.returned (.string (mkB a)) = .returned (.string (mkB b)) := by rw [h]
theorem wrap_mk (a z : UInt8) (j : Bs) : (⟨#[a]⟩ ++ mkB j ++ ⟨#[z]⟩ : ByteArray) = mkB (a :: (j ++ [z])) := by
  rw [← mkB_of (⟨#[a]⟩ ++ mkB j ++ ⟨#[z]⟩ : ByteArray), mkB_inj]
  simp [mkB]
theorem colon_mk (a b : Bs) : (mkB a ++ ⟨#[58]⟩ ++ mkB b : ByteArray) = mkB (a ++ 58 :: b) := by
  rw [← mkB_of (mkB a ++ ⟨#[58]⟩ ++ mkB b : ByteArray), mkB_inj]
  simp [mkB]
theorem below_drew1 (w : World) : Below w.heap.size w w.drew := ⟨rfl, rfl, rfl, Nat.le_refl _, fun _ _ => rfl⟩
theorem formatBool_text (b : Bool) : Lib.formatBool b = JP.text (.bool b) := by cases b <;> rfl
set_option maxRecDepth 100000 in
set_option maxHeartbeats 6400000 in
theorem text_any : ∀ (n : Nat) (v : Value) (x : JV) (w : World), JvAt n [] w v x → (JP.text x).length ≤ 4194304 → TabOK w →
    Calls Tryz.prog 68 #[v] w fun e w' => e = .returned (.string (mkB (JP.text x))) ∧ Below w.heap.size w w' := by
  intro n
  induction n with
  | zero => intro v x w h; cases h
  | succ n ih =>
    intro v x w h hlen htab
    have IH := Lib.hid ih
    have Htab := Lib.hid htab
    clear ih htab
    obtain ⟨i0, hi0, hz0, hz1, hz2⟩ := info_parts Tryz.infoStr
    cases x with
    | nul =>
      obtain rfl : v = .nilIface := h
      obtain ⟨g1, g2, g3, g4, g5⟩ := as_nil
      clear hlen
      go_enter Tryz.func68, Tryz.ntmps68
      go_wp2_with fail
      go_ret
      exact ⟨rfl, Below.refl _ _⟩
    | bool b =>
      obtain rfl : v = .iface 4 (.bool b) := h
      obtain ⟨g1, g2, g3, g4, g5⟩ := as_bool (.bool b)
      clear hlen
      go_enter Tryz.func68, Tryz.ntmps68
      go_wp2_with fail
      refine (Tryz.strconv_FormatBool b w).mono ?_
      rintro E w1 ⟨rfl, rfl⟩
      go_wp2_with fail
      go_ret
      exact ⟨ret_mk (formatBool_text b), Below.refl _ _⟩
    | num k =>
      obtain ⟨rfl, k0, k1⟩ := h
      obtain ⟨g1, g2, g3, g4, g5⟩ := as_int64 (.int .i64 k)
      clear hlen
      go_enter Tryz.func68, Tryz.ntmps68
      go_wp2_with fail
      refine (Tryz.strconv_FormatInt_10 k k0 k1 w Htab.out).mono ?_
      rintro E w1 ⟨rfl, q, os, hw1⟩
      have hb1 : Below w.heap.size w w1 := by rw [hw1]; exact Lib.below_grow _ _ (Nat.le_refl _) _ _
      have Hb1 := Lib.hid hb1
      clear hw1 hb1
      go_wp2_with fail
      go_ret
      exact ⟨ret_mk (by rw [JP.text]), Hb1.out⟩
    | str s =>
      obtain rfl : v = .iface 9 (.string (mkB s)) := h
      obtain ⟨g1, g2, g3, g4, g5⟩ := as_string (.string (mkB s))
      have hs : (mkB s).size ≤ 4194304 := by
        rw [mkB_size]
        rw [JP.text] at hlen
        have := quote_size s
        omega
      have HQ := Lib.hid (quote_any (mkB s) w hs)
      clear hlen hs
      go_enter Tryz.func68, Tryz.ntmps68
      go_wp2_with fail
      refine HQ.out.mono ?_
      rintro E w1 ⟨rfl, hb1⟩
      have Hb1 := Lib.hid hb1
      clear hb1
      go_wp2_with fail
      go_ret
      exact ⟨ret_mk (by rw [JP.text, mkB_list]), Hb1.out⟩
    | list l =>
      obtain ⟨u, rfl, hrow, _⟩ := h
      obtain ⟨a, c, rfl, _, _⟩ := hrow.len
      obtain ⟨g1, g2, g3, g4, g5⟩ := as_list (.slice a l.length c)
      have h1 := lenL_text l
      have h2 := lenL_len l
      have hll : l.length ≤ 4194304 := by omega
      have Hlen : Hid (JP.lenL l ≤ 4194304) := Lib.hid (by omega)
      have Hrow := Lib.hid hrow
      have hjl : (Lib.join (JP.textL l) [44]).length ≤ 4194304 := by
        have : (JP.text (.list l)).length = (Lib.join (JP.textL l) [44]).length + 2 := by rw [JP.text]; simp
        omega
      have Hjl := Lib.hid hjl
      have HT : Hid (JP.text (.list l) = 91 :: (Lib.join (JP.textL l) [44] ++ [93])) := Lib.hid (by rw [JP.text])
      clear hrow hlen h1 h2 hjl
      go_enter Tryz.func68, Tryz.ntmps68
      go_wp2_with fail
      go_loopg [7, 35] l.length (fun k u7 u35 wr => ∃ i : Nat, i + k = l.length ∧ u35 = .int .i64 (i : Int) ∧ Hid (OwnAt RString 1 wr w.heap.size 9 u7 ((l.take i).map fun x => mkB (JP.text x))) ∧ Hid (Below w.heap.size w wr))
      case atStart => exact ⟨0, by omega, rfl, Lib.hid (OwnAt.nil _), Lib.hid (Below.refl _ _)⟩
      case round =>
        obtain ⟨i, hik, rfl, Hown, Hbel⟩ := hrel
        have hsr := Hbel.out.size
        cases gk with
        | zero =>
          obtain rfl : i = l.length := by omega
          have hown := Hown.out
          rw [List.take_of_length_le (Nat.le_refl _)] at hown
          have HJ := Lib.hid (joinStrs_any hown.row (by rw [List.length_map]; omega) (by rw [mk_map, ← textL_map]; have := Hjl.out; omega))
          obtain ⟨J, HJe⟩ : ∃ J : Bs, Hid (Lib.join (JP.textL l) [44] = J) := ⟨_, Lib.hid rfl⟩
          rw [mk_map, ← textL_map, HJe.out] at HJ
          have hJs : (mkB J).size ≤ 4194304 := by rw [mkB_size, ← HJe.out]; exact Hjl.out
          rw [HJe.out] at HT
          have q1 : ¬ 9223372036854775807 < 1 + (mkB J).size := by omega
          have q2 : ¬ 9223372036854775807 < 1 + (mkB J).size + 1 := by omega
          clear hown hik hsr
          go_wp2_with fail
          refine HJ.out.mono ?_
          rintro E w1 ⟨rfl, hb1⟩
          have Hb1 := Lib.hid (Hbel.out.trans (hb1.mono Hbel.out.size))
          clear hb1
          go_wp2_with fail
          go_ret
          exact ⟨by rw [HT.out, ← wrap_mk]; rfl, Hb1.out⟩
        | succ k =>
          have hil : i < l.length := by omega
          obtain ⟨x, hx⟩ : ∃ x, l[i]? = some x := ⟨l[i]'(by omega), List.getElem?_eq_getElem _⟩
          obtain ⟨b, o, c', hv, _, _, hbs, hcell⟩ := Hrow.out.form (by omega) (by omega)
          injection hv with u1 u2 u3
          subst u1
          clear u2 u3
          obtain ⟨ds, _, hcc, vx, rfl, hvx⟩ := hcell i x hx
          have e0 : wr.cell? ⟨b, o + i, none⟩ = some vx := (Hbel.out.cell (p := ⟨b, _, none⟩) hbs).trans (by simpa using hcc 0 _ rfl)
          have q1 : (0 : Int) ≤ (i : Int) := by omega
          have q2 : (i : Int) < (l.length : Int) := by omega
          have hmem := lenL_mem (List.mem_of_getElem? hx)
          have HC := Lib.hid (IH.out vx x wr (hvx.below Hbel.out) (by have := Hlen.out; omega) (Htab.out.below Hbel.out))
          have Htk : Hid ((l.take (i + 1)).map (fun x => mkB (JP.text x)) = (l.take i).map (fun x => mkB (JP.text x)) ++ [mkB (JP.text x)]) := Lib.hid (by rw [List.take_add_one, hx, List.map_append]; rfl)
          have hol : ((l.take i).map fun x => mkB (JP.text x)).length ≤ 4194304 := by rw [List.length_map, List.length_take]; omega
          obtain ⟨O, HO⟩ : ∃ O, Hid ((l.take i).map (fun x => mkB (JP.text x)) = O) := ⟨_, Lib.hid rfl⟩
          obtain ⟨t, Ht⟩ : ∃ t, Hid (mkB (JP.text x) = t) := ⟨_, Lib.hid rfl⟩
          rw [HO.out, Ht.out] at Htk
          rw [HO.out] at Hown hol
          rw [Ht.out] at HC
          clear hcell hcc hx hvx hmem
          go_wp2_with fail
          refine HC.out.mono ?_
          rintro E w1 ⟨rfl, hb1⟩
          have Ho1 := Lib.hid (Hown.out.below stays_string hb1)
          have Hb1 := Lib.hid (Hbel.out.trans (hb1.mono Hbel.out.size))
          have hs1 := Hb1.out.size
          clear hb1 e0
          go_wp2_with (at_builtin; refine wpList_append_ownAt (R := RString) (k := 1) (e := 9) (B := w.heap.size) (l := O) (m := [t]) _ (by rfl) _ _ _ (by rfl) i0 _ 16 Tryz.underlying28 hi0 hz0 hz1 hz2 rfl (by omega) flat_string one_string _ (by rfl) (Ho1.out.alloc stays_string _) (.slice (some ⟨w1.heap.size, 0, none⟩) 1 1) (by rfl) (RowAt.one (R := RString) (k := 1) (cs := #[.string t]) (heap_alloc_new w1 _) rfl rfl) (by unfold maxLen; simp; omega) (by simp; omega) (by simp; omega) ?_)
          intro v' w2 hv' hg hr _
          have hb2 : Below w.heap.size w w2 := below_of_grown (Hb1.out.alloc hs1 _) (by simp; omega) hg hr
          have Hb2 := Lib.hid hb2
          have Hv : Hid (OwnAt RString 1 w2 w.heap.size 9 v' ((l.take (i + 1)).map fun x => mkB (JP.text x))) := Lib.hid (by rw [Htk.out]; exact hv')
          clear hv' hg hr hb2
          go_wp2_with fail
          go_roundg k
          case measure => omega
          case rel => exact ⟨i + 1, by omega, by go_num, Hv, Hb2⟩
    | obj l =>
      obtain ⟨q, rfl, _, _, vn, vv, cn, cv, hrn, _, hrv, _⟩ := h
      obtain ⟨an, c1, hu1, _, _⟩ := hrn.len
      obtain ⟨av, c2, hu2, _, _⟩ := hrv.len
      rw [List.length_map] at hu1 hu2
      subst hu1
      subst hu2
      obtain ⟨g1, g2, g3, g4, g5⟩ := as_obj (.pointer (some ⟨q, 0, none⟩))
      have h1 := lenF_text l
      have h2 := lenF_len l
      have hll : l.length ≤ 4194304 := by omega
      have Hlen : Hid (JP.lenF l ≤ 4194304) := Lib.hid (by omega)
      have Hrn := Lib.hid hrn
      have Hrv := Lib.hid hrv
      have hjl : (Lib.join (JP.textF l) [44]).length ≤ 4194304 := by
        have : (JP.text (.obj l)).length = (Lib.join (JP.textF l) [44]).length + 2 := by rw [JP.text]; simp
        omega
      have Hjl := Lib.hid hjl
      have HT : Hid (JP.text (.obj l) = 123 :: (Lib.join (JP.textF l) [44] ++ [125])) := Lib.hid (by rw [JP.text])
      have hqw : q < w.heap.size := World.block_lt_of_cell? w ⟨q, 0, none⟩ cn
      have Cv := Lib.hid cv
      clear hrn hrv hlen h1 h2 hjl cv
      go_enter Tryz.func68, Tryz.ntmps68
      go_wp2_with fail
      clear cn
      go_loopg [11, 57] l.length (fun k u11 u57 wr => ∃ i : Nat, i + k = l.length ∧ u57 = .int .i64 (i : Int) ∧ Hid (OwnAt RString 1 wr w.heap.size 9 u11 ((l.take i).map fun x => mkB (JP.quote x.1 ++ 58 :: JP.text x.2))) ∧ Hid (Below w.heap.size w wr))
      case atStart => exact ⟨0, by omega, rfl, Lib.hid (OwnAt.nil _), Lib.hid (Below.refl _ _)⟩
      case round =>
        obtain ⟨i, hik, rfl, Hown, Hbel⟩ := hrel
        have hsr := Hbel.out.size
        cases gk with
        | zero =>
          obtain rfl : i = l.length := by omega
          have hown := Hown.out
          rw [List.take_of_length_le (Nat.le_refl _)] at hown
          have HJ := Lib.hid (joinStrs_any hown.row (by rw [List.length_map]; omega) (by rw [mk_map, ← textF_map]; have := Hjl.out; omega))
          obtain ⟨J, HJe⟩ : ∃ J : Bs, Hid (Lib.join (JP.textF l) [44] = J) := ⟨_, Lib.hid rfl⟩
          rw [mk_map, ← textF_map, HJe.out] at HJ
          have hJs : (mkB J).size ≤ 4194304 := by rw [mkB_size, ← HJe.out]; exact Hjl.out
          rw [HJe.out] at HT
          have q1 : ¬ 9223372036854775807 < 1 + (mkB J).size := by omega
          have q2 : ¬ 9223372036854775807 < 1 + (mkB J).size + 1 := by omega
          clear hown hik hsr
          go_wp2_with fail
          refine HJ.out.mono ?_
          rintro E w1 ⟨rfl, hb1⟩
          have Hb1 := Lib.hid (Hbel.out.trans (hb1.mono Hbel.out.size))
          clear hb1
          go_wp2_with fail
          go_ret
          exact ⟨by rw [HT.out, ← wrap_mk]; rfl, Hb1.out⟩
        | succ k =>
          have hil : i < l.length := by omega
          obtain ⟨y, hx⟩ : ∃ y, l[i]? = some y := ⟨l[i]'(by omega), List.getElem?_eq_getElem _⟩
          have hxn : (l.map fun x => mkB x.1)[i]? = some (mkB y.1) := by rw [List.getElem?_map, hx]; rfl
          have hxv : (l.map (·.2))[i]? = some y.2 := by rw [List.getElem?_map, hx]; rfl
          obtain ⟨b, o, c', hv, _, _, hbs, hcell⟩ := Hrn.out.form (by rw [List.length_map]; omega) (by omega)
          injection hv with u1 u2 u3
          subst u1
          clear u2 u3
          obtain ⟨b2, o2, c2', hv2, _, _, hbs2, hcell2⟩ := Hrv.out.form (by rw [List.length_map]; omega) (by omega)
          injection hv2 with u1 u2 u3
          subst u1
          clear u2 u3
          obtain ⟨ds, _, hcc, rfl⟩ := hcell i _ hxn
          obtain ⟨es, _, hdd, vx, rfl, hvx⟩ := hcell2 i _ hxv
          have e0 : wr.cell? ⟨b, o + i, none⟩ = some (.string (mkB y.1)) := (Hbel.out.cell (p := ⟨b, _, none⟩) hbs).trans (by simpa using hcc 0 _ rfl)
          have f0 : wr.cell? ⟨b2, o2 + i, none⟩ = some vx := (Hbel.out.cell (p := ⟨b2, _, none⟩) hbs2).trans (by simpa using hdd 0 _ rfl)
          have p1 : wr.cell? ⟨q, 1, none⟩ = some (.slice (some ⟨b2, o2, none⟩) l.length c2) := (Hbel.out.cell (p := ⟨q, 1, none⟩) hqw).trans Cv.out
          have hqr : q < wr.heap.size := Nat.lt_of_lt_of_le hqw hsr
          have hbr2 : b2 < wr.heap.size := Nat.lt_of_lt_of_le hbs2 hsr
          have q1 : (0 : Int) ≤ (i : Int) := by omega
          have q2 : (i : Int) < (l.length : Int) := by omega
          have hmem := lenF_mem (List.mem_of_getElem? hx)
          have hl0 := Hlen.out
          have hns : (mkB y.1).size ≤ 4194304 := by rw [mkB_size]; have := quote_size y.1; omega
          obtain ⟨Q, HQ⟩ : ∃ Q : Bs, Hid (JP.quote y.1 = Q) := ⟨_, Lib.hid rfl⟩
          obtain ⟨X, HX⟩ : ∃ X : Bs, Hid (JP.text y.2 = X) := ⟨_, Lib.hid rfl⟩
          have HC1 : Hid (∀ w', Below wr.heap.size wr w' → Calls Tryz.prog 100 #[.string (mkB y.1)] w' fun e w'' => e = .returned (.string (mkB Q)) ∧ Below w'.heap.size w' w'') := Lib.hid fun w' hb' => by
            refine (quote_any (mkB y.1) w' hns).mono ?_
            rintro E w'' ⟨rfl, hb''⟩
            exact ⟨by rw [mkB_list, HQ.out], hb''⟩
          have HC2 : Hid (∀ w', Below wr.heap.size wr w' → Calls Tryz.prog 68 #[vx] w' fun e w'' => e = .returned (.string (mkB X)) ∧ Below w'.heap.size w' w'') := Lib.hid fun w' hb' => by
            have hbw := Hbel.out.trans (hb'.mono hsr)
            refine (IH.out vx y.2 w' (hvx.below hbw) (by omega) (Htab.out.below hbw)).mono ?_
            rintro E w'' ⟨rfl, hb''⟩
            exact ⟨by rw [HX.out], hb''⟩
          have Htk : Hid ((l.take (i + 1)).map (fun x => mkB (JP.quote x.1 ++ 58 :: JP.text x.2)) = (l.take i).map (fun x => mkB (JP.quote x.1 ++ 58 :: JP.text x.2)) ++ [mkB (Q ++ 58 :: X)]) := Lib.hid (by rw [List.take_add_one, hx, List.map_append, ← HQ.out, ← HX.out]; rfl)
          have hol : ((l.take i).map fun x => mkB (JP.quote x.1 ++ 58 :: JP.text x.2)).length ≤ 4194304 := by rw [List.length_map, List.length_take]; omega
          have hQs : (mkB Q).size ≤ 4194304 := by rw [mkB_size, ← HQ.out]; omega
          have hXs : (mkB X).size ≤ 4194304 := by rw [mkB_size, ← HX.out]; omega
          have q4 : ¬ 9223372036854775807 < (mkB Q).size + 1 := by omega
          have q5 : ¬ 9223372036854775807 < (mkB Q).size + 1 + (mkB X).size := by omega
          obtain ⟨O, HO⟩ : ∃ O, Hid ((l.take i).map (fun x => mkB (JP.quote x.1 ++ 58 :: JP.text x.2)) = O) := ⟨_, Lib.hid rfl⟩
          obtain ⟨t, Ht⟩ : ∃ t, Hid (mkB (Q ++ 58 :: X) = t) := ⟨_, Lib.hid rfl⟩
          have Ht2 : Hid ((mkB Q ++ ⟨#[58]⟩ ++ mkB X : ByteArray) = t) := Lib.hid (by rw [colon_mk]; exact Ht.out)
          rw [HO.out, Ht.out] at Htk
          rw [HO.out] at Hown hol
          clear hcell hcc hcell2 hdd hx hxn hxv hvx hmem hl0
          go_upto_region 26 with fail
          refine wp_region_relB 14 (fun ii U w' => match ii with
            | 0 => U 0 = u11
            | 1 => U 1 = .string (mkB y.1)
            | 2 => U 2 = .string (mkB Q)
            | 3 => U 3 = .string (mkB Q ++ ⟨#[58]⟩)
            | 4 => U 4 = .pointer (some ⟨q, 0, none⟩)
            | 5 => U 5 = .pointer (some ⟨q, 0, none⟩)
            | 6 => U 6 = .pointer (some ⟨q, 1, none⟩)
            | 7 => U 7 = .slice (some ⟨b2, o2, none⟩) l.length c2
            | 8 => U 8 = .int .i64 (i : Int)
            | 9 => U 9 = .pointer (some ⟨b2, o2 + i, none⟩)
            | 10 => U 10 = vx
            | 11 => U 11 = .string (mkB X)
            | 12 => U 12 = .string t
            | 13 => ∃ g, U 13 = .slice (some ⟨g, 0, none⟩) 1 1 ∧ w'.heap[g]? = some (.cells #[.string t] 9 (0, 0))
            | _ => True)
            (fun | 2 => [1] | 3 => [2] | 5 => [4] | 6 => [5] | 7 => [6] | 9 => [7, 8] | 10 => [9] | 11 => [10] | 12 => [3, 11] | 13 => [12] | _ => []) (by kernel_rfl) (by kernel_rfl) ?_ ⟨?_, ?_, ?_, ?_, ?_, ?_, ?_, ?_, ?_, ?_, ?_, ?_, ?_, ?_, trivial⟩ ?_
          · intro j u w1 w2 hb h
            match j, h with
            | 0, h => exact h
            | 1, h => exact h
            | 2, h => exact h
            | 3, h => exact h
            | 4, h => exact h
            | 5, h => exact h
            | 6, h => exact h
            | 7, h => exact h
            | 8, h => exact h
            | 9, h => exact h
            | 10, h => exact h
            | 11, h => exact h
            | 12, h => exact h
            | 13, h => exact (by obtain ⟨g, h1, h2⟩ := h; exact ⟨g, h1, below_block hb h2⟩)
            | _ + 14, h => trivial
          · intro x w' hb hd
            have hbr : Below wr.heap.size wr w' := (below_drew1 wr).trans hb
            refine owes_here u11 (by rfl) ?_ rfl
            simp only [putAll, List.take_succ_cons, List.take_zero]
            go_simp
          · intro x w' hb hd
            have hbr : Below wr.heap.size wr w' := (below_drew1 wr).trans hb
            refine owes_here (.string (mkB y.1)) (by rfl) ?_ rfl
            simp only [putAll, List.take_succ_cons, List.take_zero]
            go_simp
          · intro x w' hb hd
            have hbr : Below wr.heap.size wr w' := (below_drew1 wr).trans hb
            have k1 : x 1 = .string (mkB y.1) := hd 1 (by simp)
            refine owes_call 100 #[.string (mkB y.1)] (by rfl) ?_ ((HC1.out w' hbr).mono fun e w2 h => ⟨_, h.1, rfl, h.2⟩)
            simp only [putAll, List.take_succ_cons, List.take_zero]
            go_simp
          · intro x w' hb hd
            have hbr : Below wr.heap.size wr w' := (below_drew1 wr).trans hb
            have k1 : x 2 = .string (mkB Q) := hd 2 (by simp)
            refine owes_here (.string (mkB Q ++ ⟨#[58]⟩)) (by rfl) ?_ rfl
            simp only [putAll, List.take_succ_cons, List.take_zero]
            go_simp
          · intro x w' hb hd
            have hbr : Below wr.heap.size wr w' := (below_drew1 wr).trans hb
            refine owes_here (.pointer (some ⟨q, 0, none⟩)) (by rfl) ?_ rfl
            simp only [putAll, List.take_succ_cons, List.take_zero]
            go_simp
          · intro x w' hb hd
            have hbr : Below wr.heap.size wr w' := (below_drew1 wr).trans hb
            have k1 : x 4 = .pointer (some ⟨q, 0, none⟩) := hd 4 (by simp)
            refine owes_here (.pointer (some ⟨q, 0, none⟩)) (by rfl) ?_ rfl
            simp only [putAll, List.take_succ_cons, List.take_zero]
            go_simp
          · intro x w' hb hd
            have hbr : Below wr.heap.size wr w' := (below_drew1 wr).trans hb
            have k1 : x 5 = .pointer (some ⟨q, 0, none⟩) := hd 5 (by simp)
            refine owes_here (.pointer (some ⟨q, 1, none⟩)) (by rfl) ?_ rfl
            simp only [putAll, List.take_succ_cons, List.take_zero]
            go_simp
          · intro x w' hb hd
            have hbr : Below wr.heap.size wr w' := (below_drew1 wr).trans hb
            have k1 : x 6 = .pointer (some ⟨q, 1, none⟩) := hd 6 (by simp)
            have d1 := (hbr.cell (p := ⟨q, 1, none⟩) hqr).trans p1
            refine owes_here (.slice (some ⟨b2, o2, none⟩) l.length c2) (by rfl) ?_ rfl
            simp only [putAll, List.take_succ_cons, List.take_zero]
            go_simp
          · intro x w' hb hd
            have hbr : Below wr.heap.size wr w' := (below_drew1 wr).trans hb
            refine owes_here (.int .i64 (i : Int)) (by rfl) ?_ rfl
            simp only [putAll, List.take_succ_cons, List.take_zero]
            go_simp
          · intro x w' hb hd
            have hbr : Below wr.heap.size wr w' := (below_drew1 wr).trans hb
            have k1 : x 7 = .slice (some ⟨b2, o2, none⟩) l.length c2 := hd 7 (by simp)
            have k2 : x 8 = .int .i64 (i : Int) := hd 8 (by simp)
            refine owes_here (.pointer (some ⟨b2, o2 + i, none⟩)) (by rfl) ?_ rfl
            simp only [putAll, List.take_succ_cons, List.take_zero]
            go_simp
          · intro x w' hb hd
            have hbr : Below wr.heap.size wr w' := (below_drew1 wr).trans hb
            have k1 : x 9 = .pointer (some ⟨b2, o2 + i, none⟩) := hd 9 (by simp)
            have d1 := (hbr.cell (p := ⟨b2, o2 + i, none⟩) hbr2).trans f0
            refine owes_here vx (by rfl) ?_ rfl
            simp only [putAll, List.take_succ_cons, List.take_zero]
            go_simp
          · intro x w' hb hd
            have hbr : Below wr.heap.size wr w' := (below_drew1 wr).trans hb
            have k1 : x 10 = vx := hd 10 (by simp)
            refine owes_call 68 #[vx] (by rfl) ?_ ((HC2.out w' hbr).mono fun e w2 h => ⟨_, h.1, rfl, h.2⟩)
            simp only [putAll, List.take_succ_cons, List.take_zero]
            go_simp
          · intro x w' hb hd
            have hbr : Below wr.heap.size wr w' := (below_drew1 wr).trans hb
            have k1 : x 3 = .string (mkB Q ++ ⟨#[58]⟩) := hd 3 (by simp)
            have k2 : x 11 = .string (mkB X) := hd 11 (by simp)
            have hS := Ht2.out
            refine owes_here (.string t) (by rfl) ?_ rfl
            simp only [putAll, List.take_succ_cons, List.take_zero]
            go_simp
          · intro x w' hb hd
            have hbr : Below wr.heap.size wr w' := (below_drew1 wr).trans hb
            have k1 : x 12 = .string t := hd 12 (by simp)
            refine owes_makes (.slice (some ⟨w'.heap.size, 0, none⟩) 1 1) (w' := w'.alloc (.cells #[.string t] 9)) (by rfl) ?_ (⟨_, rfl, heap_alloc_new w' _⟩) ((Below.refl _ _).alloc (Nat.le_refl _) _)
            simp only [putAll, List.take_succ_cons, List.take_zero]
            go_simp
          · intro x w' hb hR
            have hbr : Below wr.heap.size wr w' := (below_drew1 wr).trans hb
            have k0 : x 0 = u11 := hR 0 (by omega)
            obtain ⟨g, kg1, kg2⟩ : ∃ g, x 13 = .slice (some ⟨g, 0, none⟩) 1 1 ∧ w'.heap[g]? = some (.cells #[.string t] 9 (0, 0)) := hR 13 (by omega)
            have Ho1 := Lib.hid (Hown.out.below stays_string hbr)
            have Hb1 := Lib.hid (Hbel.out.trans (hbr.mono Hbel.out.size))
            have hs1 := Hb1.out.size
            have Hg := Lib.hid kg2
            clear hR hb hbr e0 f0 p1 kg2
            simp only [putAll, List.take_succ_cons, List.take_zero, List.drop_succ_cons, List.drop_zero]
            try simp only [Act.put, List.setIfInBounds_toArray, List.set_cons_zero, List.set_cons_succ]
            go_wp2_with (at_builtin; refine wpList_append_ownAt (R := RString) (k := 1) (e := 9) (B := w.heap.size) (l := O) (m := [t]) _ (by rfl) _ _ _ (by rfl) i0 _ 16 Tryz.underlying28 hi0 hz0 hz1 hz2 rfl (by omega) flat_string one_string _ (by exact k0) Ho1.out _ (by exact kg1) (RowAt.one (R := RString) (k := 1) (cs := #[.string t]) Hg.out rfl rfl) (by unfold maxLen; simp; omega) (by simp; omega) (by omega) ?_)
            intro v' w2 hv' hg hr _
            have hb2 : Below w.heap.size w w2 := below_of_grown Hb1.out hs1 hg hr
            have Hb2 := Lib.hid hb2
            have Hv : Hid (OwnAt RString 1 w2 w.heap.size 9 v' ((l.take (i + 1)).map fun x => mkB (JP.quote x.1 ++ 58 :: JP.text x.2))) := Lib.hid (by rw [Htk.out]; exact hv')
            clear hv' hg hr hb2
            go_wp2_with fail
            go_roundg k
            case measure => omega
            case rel => exact ⟨i + 1, by omega, by go_num, Hv, Hb2⟩
end Go.Proofs.YtnnceaapodgfbaaGreatDoor
namespace Go.Proofs.YtnnceaapodgfbaaGreatDoor
open Go.RowKit
open JP (JV Bs)
theorem sizeF_map (l : List (Bs × JV)) : JP.sizeF l = JP.sizeL (l.map (·.2)) := by
  induction l with
  | nil => rfl
  | cons x r ih => obtain ⟨n, v⟩ := x; rw [JP.sizeF, List.map_cons, JP.sizeL, ih]
theorem deepF_map (l : List (Bs × JV)) : JP.deepF l = JP.deepL (l.map (·.2)) := by
  induction l with
  | nil => rfl
  | cons x r ih => obtain ⟨n, v⟩ := x; rw [JP.deepF, List.map_cons, JP.deepL, ih]
theorem sizeL_len (l : List JV) : l.length ≤ JP.sizeL l := by
  induction l with
  | nil => simp
  | cons x r ih => rw [JP.sizeL, List.length_cons]; have := JP.size_pos x; omega
theorem sizeL_take {l : List JV} {i : Nat} {x : JV} (h : l[i]? = some x) : JP.sizeL (l.take (i + 1)) = JP.sizeL (l.take i) + JP.size x := by
  rw [List.take_add_one, h, JP.sizeL_append]
  simp [JP.sizeL]
theorem deepL_take {l : List JV} {i : Nat} {x : JV} (h : l[i]? = some x) : JP.deepL (l.take (i + 1)) = max (JP.deepL (l.take i)) (JP.deep x) := by
  rw [List.take_add_one, h, JP.deepL_append]
  simp [JP.deepL]
theorem sizeL_le (l : List JV) (i : Nat) : JP.sizeL (l.take i) ≤ JP.sizeL l := by
  have := JP.sizeL_append (l.take i) (l.drop i)
  rw [List.take_append_drop] at this
  omega
theorem deep_size : (∀ x, JP.deep x ≤ JP.size x) ∧ (∀ l, JP.deepL l ≤ JP.sizeL l) ∧ ∀ l, JP.deepF l ≤ JP.sizeF l := by
  refine JP.JV.both ?_ (fun _ => ?_) (fun _ => ?_) (fun _ => ?_) (fun l h => ?_) (fun l h => ?_) ?_ (fun v r h k => ?_) ?_ (fun n v r h k => ?_)
  · rw [JP.deep]; omega
  · rw [JP.deep]; omega
  · rw [JP.deep]; omega
  · rw [JP.deep]; omega
  · rw [JP.deep, JP.size]; omega
  · rw [JP.deep, JP.size]; omega
  · rw [JP.deepL]; omega
  · rw [JP.deepL, JP.sizeL]; omega
  · rw [JP.deepF]; omega
  · rw [JP.deepF, JP.sizeF]; omega
theorem ret_two {a b c d : Int} (h : a = b) (k : c = d) : Ending.returned (.tuple #[.int .i64 a, .int .i64 c]) = .returned (.tuple #[.int .i64 b, .int .i64 d]) := by rw [h, k]
set_option maxRecDepth 100000 in
set_option maxHeartbeats 6400000 in
theorem size_any : ∀ (n : Nat) (v : Value) (x : JV) (w : World), JvAt n [] w v x → JP.size x ≤ 4194304 →
    Calls Tryz.prog 251 #[v] w fun e w' => e = .returned (.tuple #[.int .i64 (JP.size x : Int), .int .i64 (JP.deep x : Int)]) ∧ w = w' := by
  intro n
  induction n with
  | zero => intro v x w h; cases h
  | succ n ih =>
    intro v x w h hlen
    have IH := Lib.hid ih
    clear ih
    cases x with
    | nul =>
      obtain rfl : v = .nilIface := h
      obtain ⟨g1, g2, g3, g4, g5⟩ := as_nil
      clear hlen
      go_enter Tryz.func251, Tryz.ntmps251
      go_wp2_with fail
      go_ret2
      exact ⟨ret_two (by rw [JP.size]; rfl) (by rw [JP.deep]; rfl), rfl⟩
    | bool b =>
      obtain rfl : v = .iface 4 (.bool b) := h
      obtain ⟨g1, g2, g3, g4, g5⟩ := as_bool (.bool b)
      clear hlen
      go_enter Tryz.func251, Tryz.ntmps251
      go_wp2_with fail
      go_ret2
      exact ⟨ret_two (by rw [JP.size]; rfl) (by rw [JP.deep]; rfl), rfl⟩
    | num k =>
      obtain ⟨rfl, _, _⟩ := h
      obtain ⟨g1, g2, g3, g4, g5⟩ := as_int64 (.int .i64 k)
      clear hlen
      go_enter Tryz.func251, Tryz.ntmps251
      go_wp2_with fail
      go_ret2
      exact ⟨ret_two (by rw [JP.size]; rfl) (by rw [JP.deep]; rfl), rfl⟩
    | str s =>
      obtain rfl : v = .iface 9 (.string (mkB s)) := h
      obtain ⟨g1, g2, g3, g4, g5⟩ := as_string (.string (mkB s))
      clear hlen
      go_enter Tryz.func251, Tryz.ntmps251
      go_wp2_with fail
      go_ret2
      exact ⟨ret_two (by rw [JP.size]; rfl) (by rw [JP.deep]; rfl), rfl⟩
    | list L =>
      obtain ⟨u, rfl, hrow, _⟩ := h
      obtain ⟨a, c, rfl, _, _⟩ := hrow.len
      obtain ⟨g1, g2, g3, g4, g5⟩ := as_list (.slice a L.length c)
      have HSZ : Hid (JP.size (.list L) = 1 + JP.sizeL L) := Lib.hid (by rw [JP.size])
      have HDP : Hid (JP.deep (.list L) = JP.deepL L + 1) := Lib.hid (by rw [JP.deep])
      have hlen : JP.sizeL L + 1 ≤ 4194304 := by have := HSZ.out; omega
      have hsl := sizeL_len L
      have hLl : L.length ≤ 4194304 := by omega
      have Hsl : Hid (JP.sizeL L ≤ 4194304) := Lib.hid (by omega)
      have Hrow := Lib.hid hrow
      clear hrow hlen hsl
      go_enter Tryz.func251, Tryz.ntmps251
      go_wp2_with fail
      go_loopg [2, 3, 26] L.length (fun k u2 u3 u26 wr => ∃ (i : Nat) (m d : Nat), i + k = L.length ∧ u26 = .int .i64 (i : Int) ∧ u2 = .int .i64 (m : Int) ∧ u3 = .int .i64 (d : Int) ∧ Hid (m = 1 + JP.sizeL (L.take i)) ∧ Hid (d = JP.deepL (L.take i)) ∧ m ≤ 4194305 ∧ d ≤ 4194304 ∧ wr = w)
      case atStart => exact ⟨0, 1, 0, by omega, rfl, rfl, rfl, Lib.hid (by simp [JP.sizeL]), Lib.hid (by simp [JP.deepL]), by omega, by omega, rfl⟩
      case round =>
        obtain ⟨i, m, d, hik, rfl, rfl, rfl, Hm, Hd, hm, hd, rfl⟩ := hrel
        cases gk with
        | zero =>
          obtain rfl : i = L.length := by omega
          have hm1 := Hm.out
          have hd1 := Hd.out
          rw [List.take_of_length_le (Nat.le_refl _)] at hm1 hd1
          have Hm1 : Hid (m = JP.size (.list L)) := Lib.hid (by rw [hm1]; exact HSZ.out.symm)
          have Hd1 : Hid (d + 1 = JP.deep (.list L)) := Lib.hid (by rw [hd1]; exact HDP.out.symm)
          clear hm1 hd1 hik
          go_wp2_with fail
          go_ret2
          exact ⟨ret_two (by rw [← Hm1.out]) (by rw [← Hd1.out]; omega), rfl⟩
        | succ k =>
          have hil : i < L.length := by omega
          obtain ⟨y, hy⟩ : ∃ y, L[i]? = some y := ⟨L[i]'(by omega), List.getElem?_eq_getElem _⟩
          obtain ⟨b, o, c', hv, _, _, hbs, hcell⟩ := Hrow.out.form (by omega) (by omega)
          injection hv with u1 u2 u3
          subst u1
          clear u2 u3
          obtain ⟨ds, _, hcc, vx, rfl, hvx⟩ := hcell i y hy
          have e0 : wr.cell? ⟨b, o + i, none⟩ = some vx := by simpa using hcc 0 _ rfl
          have q1 : (0 : Int) ≤ (i : Int) := by omega
          have q2 : (i : Int) < (L.length : Int) := by omega
          have ht1 := sizeL_take hy
          have ht2 := deepL_take hy
          have ht3 := sizeL_le L (i + 1)
          have ht4 := deep_size.1 y
          have hs0 := Hsl.out
          have hm0 := Hm.out
          obtain ⟨sy, hsy⟩ : ∃ s, JP.size y = s := ⟨_, rfl⟩
          obtain ⟨dy, hdy⟩ : ∃ d, JP.deep y = d := ⟨_, rfl⟩
          rw [hsy] at ht1 ht4
          rw [hdy] at ht2 ht4
          have HC := Lib.hid (IH.out vx y wr hvx (by omega))
          rw [hsy, hdy] at HC
          have Hm2 : Hid (m + sy = 1 + JP.sizeL (L.take (i + 1))) := Lib.hid (by omega)
          have hm2 : m + sy ≤ 4194305 := by omega
          have hdy2 : dy ≤ 4194304 := by omega
          have Hd2 : Hid (max d dy = JP.deepL (L.take (i + 1))) := Lib.hid (by rw [ht2, ← Hd.out])
          clear ht1 ht2 ht3 ht4 hs0 hm0 hsy hdy hcell hcc hy hvx
          go_wp2_with fail
          refine HC.out.mono ?_
          rintro E w1 ⟨rfl, rfl⟩
          by_cases hdd : d ≤ dy
          · have p1 : (d : Int) ≤ (dy : Int) := by omega
            have hmx : max d dy = dy := by omega
            rw [hmx] at Hd2
            clear hmx
            go_wp2_with fail
            go_roundg k
            case measure => omega
            case rel => exact ⟨i + 1, m + sy, dy, by omega, by go_num, by go_num, by go_num, Hm2, Hd2, hm2, hdy2, rfl⟩
          · have p1 : ¬ (d : Int) ≤ (dy : Int) := by omega
            have hmx : max d dy = d := by omega
            rw [hmx] at Hd2
            clear hmx
            go_wp2_with fail
            go_roundg k
            case measure => omega
            case rel => exact ⟨i + 1, m + sy, d, by omega, by go_num, by go_num, by go_num, Hm2, Hd2, hm2, hd, rfl⟩
    | obj l =>
      obtain ⟨q, rfl, _, _, vn, vv, cn, cv, _, _, hrow, _⟩ := h
      obtain ⟨av, c, hu, _, _⟩ := hrow.len
      obtain ⟨L, hL⟩ : ∃ L : List JV, l.map (·.2) = L := ⟨_, rfl⟩
      rw [hL] at hrow hu
      subst hu
      obtain ⟨g1, g2, g3, g4, g5⟩ := as_obj (.pointer (some ⟨q, 0, none⟩))
      have HSZ : Hid (JP.size (.obj l) = 1 + JP.sizeL L) := Lib.hid (by rw [JP.size, sizeF_map, hL])
      have HDP : Hid (JP.deep (.obj l) = JP.deepL L + 1) := Lib.hid (by rw [JP.deep, deepF_map, hL])
      have hlen : JP.sizeL L + 1 ≤ 4194304 := by have := HSZ.out; omega
      clear hL cn
      have hsl := sizeL_len L
      have hLl : L.length ≤ 4194304 := by omega
      have Hsl : Hid (JP.sizeL L ≤ 4194304) := Lib.hid (by omega)
      have Hrow := Lib.hid hrow
      clear hrow hlen hsl
      go_enter Tryz.func251, Tryz.ntmps251
      go_wp2_with fail
      go_loopg [2, 3, 26] L.length (fun k u2 u3 u26 wr => ∃ (i : Nat) (m d : Nat), i + k = L.length ∧ u26 = .int .i64 (i : Int) ∧ u2 = .int .i64 (m : Int) ∧ u3 = .int .i64 (d : Int) ∧ Hid (m = 1 + JP.sizeL (L.take i)) ∧ Hid (d = JP.deepL (L.take i)) ∧ m ≤ 4194305 ∧ d ≤ 4194304 ∧ wr = w)
      case atStart => exact ⟨0, 1, 0, by omega, rfl, rfl, rfl, Lib.hid (by simp [JP.sizeL]), Lib.hid (by simp [JP.deepL]), by omega, by omega, rfl⟩
      case round =>
        obtain ⟨i, m, d, hik, rfl, rfl, rfl, Hm, Hd, hm, hd, rfl⟩ := hrel
        cases gk with
        | zero =>
          obtain rfl : i = L.length := by omega
          have hm1 := Hm.out
          have hd1 := Hd.out
          rw [List.take_of_length_le (Nat.le_refl _)] at hm1 hd1
          have Hm1 : Hid (m = JP.size (.obj l)) := Lib.hid (by rw [hm1]; exact HSZ.out.symm)
          have Hd1 : Hid (d + 1 = JP.deep (.obj l)) := Lib.hid (by rw [hd1]; exact HDP.out.symm)
          clear hm1 hd1 hik
          go_wp2_with fail
          go_ret2
          exact ⟨ret_two (by rw [← Hm1.out]) (by rw [← Hd1.out]; omega), rfl⟩
        | succ k =>
          have hil : i < L.length := by omega
          obtain ⟨y, hy⟩ : ∃ y, L[i]? = some y := ⟨L[i]'(by omega), List.getElem?_eq_getElem _⟩
          obtain ⟨b, o, c', hv, _, _, hbs, hcell⟩ := Hrow.out.form (by omega) (by omega)
          injection hv with u1 u2 u3
          subst u1
          clear u2 u3
          obtain ⟨ds, _, hcc, vx, rfl, hvx⟩ := hcell i y hy
          have e0 : wr.cell? ⟨b, o + i, none⟩ = some vx := by simpa using hcc 0 _ rfl
          have q1 : (0 : Int) ≤ (i : Int) := by omega
          have q2 : (i : Int) < (L.length : Int) := by omega
          have ht1 := sizeL_take hy
          have ht2 := deepL_take hy
          have ht3 := sizeL_le L (i + 1)
          have ht4 := deep_size.1 y
          have hs0 := Hsl.out
          have hm0 := Hm.out
          obtain ⟨sy, hsy⟩ : ∃ s, JP.size y = s := ⟨_, rfl⟩
          obtain ⟨dy, hdy⟩ : ∃ d, JP.deep y = d := ⟨_, rfl⟩
          rw [hsy] at ht1 ht4
          rw [hdy] at ht2 ht4
          have HC := Lib.hid (IH.out vx y wr hvx (by omega))
          rw [hsy, hdy] at HC
          have Hm2 : Hid (m + sy = 1 + JP.sizeL (L.take (i + 1))) := Lib.hid (by omega)
          have hm2 : m + sy ≤ 4194305 := by omega
          have hdy2 : dy ≤ 4194304 := by omega
          have Hd2 : Hid (max d dy = JP.deepL (L.take (i + 1))) := Lib.hid (by rw [ht2, ← Hd.out])
          clear ht1 ht2 ht3 ht4 hs0 hm0 hsy hdy hcell hcc hy hvx
          go_wp2_with fail
          refine HC.out.mono ?_
          rintro E w1 ⟨rfl, rfl⟩
          by_cases hdd : d ≤ dy
          · have p1 : (d : Int) ≤ (dy : Int) := by omega
            have hmx : max d dy = dy := by omega
            rw [hmx] at Hd2
            clear hmx
            go_wp2_with fail
            go_roundg k
            case measure => omega
            case rel => exact ⟨i + 1, m + sy, dy, by omega, by go_num, by go_num, by go_num, Hm2, Hd2, hm2, hdy2, rfl⟩
          · have p1 : ¬ (d : Int) ≤ (dy : Int) := by omega
            have hmx : max d dy = d := by omega
            rw [hmx] at Hd2
            clear hmx
            go_wp2_with fail
            go_roundg k
            case measure => omega
            case rel => exact ⟨i + 1, m + sy, d, by omega, by go_num, by go_num, by go_num, Hm2, Hd2, hm2, hd, rfl⟩
end Go.Proofs.YtnnceaapodgfbaaGreatDoor
namespace Go.Proofs.YtnnceaapodgfbaaGreatDoor
open Go.RowKit
open JP (JV Bs Fr)
namespace JP
theorem readL_good {s : Bs} {v : JV} (h : readL s = (v, 0)) : wf v ∧ size v ≤ 200 ∧ deep v ≤ 10 ∧ (text v).length ≤ s.length ∧ s.length ≤ 2000 := by
  unfold readL at h
  split at h
  · exact absurd (Prod.mk.inj h).2 (by decide)
  · rename_i hl
    have hi : Inv s.length (.more s 0 []) := ⟨by show s.length + 0 ≤ s.length; omega, rfl, by omega, trivial⟩
    obtain ⟨a, b, c, d⟩ := fin_inv _ hi v h
    exact ⟨a, b, c, d, by omega⟩
def canonT (s : Bs) : Bs := if (readL s).2 = 0 then text (readL s).1 else []
def canonE (s : Bs) : Int := (readL s).2
def kindT (s : Bs) : Int := if (readL s).2 = 0 then kind (readL s).1 else 0
theorem canonT_ok {s : Bs} {v : JV} (h : readL s = (v, 0)) : canonT s = text v := by unfold canonT; rw [h]; exact if_pos rfl
theorem canonT_no {s : Bs} (h : (readL s).2 ≠ 0) : canonT s = [] := if_neg h
end JP
theorem list_size (s : ByteArray) : s.data.toList.length = s.size := by rw [Array.length_toList]; rfl
set_option maxRecDepth 100000 in
set_option maxHeartbeats 3200000 in
theorem canon_any (s : ByteArray) (w : World) (hs : s.size ≤ 1048576) (ht : TabOK w) :
    Calls Tryz.prog 57 #[.string s] w fun e w' => e = .returned (.tuple #[.string (mkB (JP.canonT s.data.toList)), .int .i64 (JP.canonE s.data.toList)]) ∧ Below w.heap.size w w' := by
  have HR := Lib.hid (read_any s w hs)
  obtain ⟨v, hv⟩ : ∃ v, (JP.readL s.data.toList).1 = v := ⟨_, rfl⟩
  obtain ⟨er, her⟩ : ∃ er, (JP.readL s.data.toList).2 = er := ⟨_, rfl⟩
  have hre : JP.readL s.data.toList = (v, er) := Prod.ext hv her
  have HT := Lib.hid ht
  rw [hv, her] at HR
  have hE : JP.canonE s.data.toList = er := her
  have Hre := Lib.hid hre
  obtain ⟨T, hT⟩ : ∃ T, JP.canonT s.data.toList = T := ⟨_, rfl⟩
  rw [hE, hT]
  have HTx := Lib.hid hT
  clear ht hv her hre hE hT
  go_enter Tryz.func57, Tryz.ntmps57
  go_wp2_with fail
  refine HR.out.mono ?_
  rintro E w1 ⟨u, rfl, ⟨n, hj⟩, hb⟩
  have HJ := Lib.hid hj
  have HB := Lib.hid hb
  clear hj hb HR
  by_cases he : er = 0
  · subst he
    obtain ⟨_, _, _, h4, h5⟩ := JP.readL_good Hre.out
    have HTt : Hid (T = JP.text v) := Lib.hid (by rw [← HTx.out]; exact JP.canonT_ok Hre.out)
    go_wp2_with fail
    refine (text_any n u v w1 HJ.out (by omega) (HT.out.below HB.out)).mono ?_
    rintro E w2 ⟨rfl, hb⟩
    have HB2 := Lib.hid (HB.out.trans (hb.mono HB.out.size))
    clear hb
    go_wp2_with fail
    go_ret2
    exact ⟨by rw [HTt.out] <;> rfl, HB2.out⟩
  · have n0 : (er != 0) = true := by rw [bne_iff_ne]; exact he
    have HTt : Hid (T = []) := Lib.hid (by rw [← HTx.out]; exact JP.canonT_no (by rw [Hre.out]; exact he))
    clear he
    go_wp2_with fail
    go_ret2
    exact ⟨by rw [HTt.out] <;> rfl, HB.out⟩
end Go.Proofs.YtnnceaapodgfbaaGreatDoor
namespace Go.Proofs.YtnnceaapodgfbaaGreatDoor
def says (b e : Int) : Int := if b = 0 then e else b
def firstBad : List Int → Int
  | [] => 0
  | e :: r => says e (firstBad r)
theorem says_zero (b : Int) : says b 0 = b := by unfold says; split <;> simp_all
theorem zero_says (b : Int) : says 0 b = b := by unfold says; simp
theorem says_assoc (a b c : Int) : says (says a b) c = says a (says b c) := by unfold says; by_cases h : a = 0 <;> simp [h]
theorem says_eq_zero (a b : Int) : says a b = 0 ↔ a = 0 ∧ b = 0 := by unfold says; by_cases h : a = 0 <;> simp [h]
theorem firstBad_append (l m : List Int) : firstBad (l ++ m) = says (firstBad l) (firstBad m) := by
  induction l with
  | nil => simp [firstBad, zero_says]
  | cons e r ih => simp only [List.cons_append, firstBad, ih, says_assoc]
theorem firstBad_take {l : List Int} {i : Nat} {e : Int} (h : l[i]? = some e) : firstBad (l.take (i + 1)) = says (firstBad (l.take i)) e := by
  rw [List.take_add_one, h, firstBad_append]
  simp [firstBad, says_zero]
end Go.Proofs.YtnnceaapodgfbaaGreatDoor
namespace Go.Proofs.YtnnceaapodgfbaaGreatDoor
open JP (Bs)
namespace AuP
def emptyOr (s : Bs) : Int := if s = [] then 0 else NameP.check s
def keyE (k s n : Bs) : Int := says (NameP.check k) (says (emptyOr s) (NameP.check n))
end AuP
end Go.Proofs.YtnnceaapodgfbaaGreatDoor
namespace Go.Proofs.YtnnceaapodgfbaaGreatDoor
namespace Sto
open Go.RowKit
def IsBad (g : Nat) (w : World) (b : Int) : Prop := w.heap[g]? = some (.cells #[.int .i64 b] 113 (0, 0))
theorem IsBad.below {g : Nat} {w w' : World} {b : Int} (h : IsBad g w b) (hb : Below w.heap.size w w') : IsBad g w' b := below_block hb h
theorem IsBad.lt {g : Nat} {w : World} {b : Int} (h : IsBad g w b) : g < w.heap.size := by
  rcases Nat.lt_or_ge g w.heap.size with h1 | h1
  · exact h1
  · unfold IsBad at h; rw [Array.getElem?_eq_none h1] at h; cases h
def Said (g : Nat) (b : Int) (w : World) (E : Ending) (w' : World) : Prop := E = .returned (.tuple #[]) ∧ IsBad g w' b ∧ But g w w'
set_option maxRecDepth 100000 in
theorem says_any (g : Nat) (b e : Int) (w : World) (h : IsBad g w b) : Calls Tryz.prog 53 #[.pointer (some ⟨g, 0, none⟩), .int .i64 e] w (Said g (says b e) w) := by
  have h' : w.heap[g]? = some (.cells #[.int .i64 b] 113 (0, 0)) := h
  have c0 : w.cell? ⟨g, 0, none⟩ = some (.int .i64 b) := cell_block h' 0
  have z0 : w.frozen? ⟨g, 0, none⟩ = false := free_block h' 0
  have Hh := Lib.hid h'
  clear h h'
  by_cases hb : b = 0
  · subst hb
    go_enter Tryz.func53, Tryz.ntmps53
    go_wp2_with fail
    obtain ⟨t1, t2⟩ := touch_setCell (i := 0) (v := .int .i64 e) Hh.out
    go_end0
    exact ⟨rfl, by rw [zero_says]; exact t1, But.touch t2⟩
  · have q : (b == 0) = false := by rw [beq_eq_false_iff_ne]; exact hb
    have Hs : Hid (says b e = b) := by show _ = _; unfold says; rw [if_neg hb]
    clear hb
    go_enter Tryz.func53, Tryz.ntmps53
    go_wp2_with fail
    go_end0
    exact ⟨rfl, by rw [Hs.out]; exact Hh.out, But.refl _ _⟩
def chk (s : ByteArray) : Int := NameP.check s.data.toList
set_option maxRecDepth 100000 in
set_option maxHeartbeats 800000 in
theorem names_any (g : Nat) (b : Int) (v : Value) (l : List ByteArray) (w : World) (h : IsBad g w b) (hv : StrAt w v l) (hne : 0 < l.length → ∀ a n c, v = .slice (some a) n c → a.block ≠ g) (hx : ∀ x ∈ l, x.size ≤ 1099511627776) (hl : l.length ≤ 1073741824) :
    Calls Tryz.prog 55 #[.pointer (some ⟨g, 0, none⟩), v] w (Said g (says b (firstBad (l.map chk))) w) := by
  have hrow := hv.row
  obtain ⟨a1, c1, rfl, _, _⟩ := hrow.len
  have H := Lib.hid h
  have HV := Lib.hid hrow
  have Hne := Lib.hid hne
  have Hx := Lib.hid hx
  clear h hv hne hx hrow
  go_enter Tryz.func55, Tryz.ntmps55
  go_wp2_with fail
  go_loopg [8] l.length (fun k u8 wr => ∃ i : Nat, i + k = l.length ∧ u8 = .int .i64 (i : Int) ∧ Hid (IsBad g wr (says b (firstBad ((l.map chk).take i)))) ∧ Hid (But g w wr))
  case atStart => exact ⟨0, by omega, rfl, Lib.hid (by rw [List.take_zero]; exact (says_zero b).symm ▸ H.out), Lib.hid (But.refl _ _)⟩
  case round =>
    obtain ⟨i, hig, rfl, Hbad, Hbut⟩ := hrel
    cases gk with
    | zero =>
      obtain rfl : i = l.length := by omega
      have Hend : Hid (IsBad g wr (says b (firstBad (l.map chk)))) := by
        have h9 := Hbad.out
        rw [List.take_of_length_le (by simp)] at h9
        exact Lib.hid h9
      go_wp2_with fail
      go_end0
      exact ⟨rfl, Hend.out, Hbut.out⟩
    | succ k =>
      have hil : i < l.length := by omega
      obtain ⟨s, hsi⟩ : ∃ s, l[i]? = some s := ⟨l[i]'(by omega), List.getElem?_eq_getElem _⟩
      obtain ⟨bk, o, c', hv, _, _, hbs, hcell⟩ := HV.out.form (by omega) (by omega)
      have hbg := Hne.out (by omega) _ _ _ hv
      cases hv
      obtain ⟨ds, _, hcc, hR⟩ := hcell i s hsi
      obtain rfl : ds = [.string s] := hR
      have e0 : wr.cell? ⟨bk, o + i, none⟩ = some (.string s) := (Hbut.out.cell (p := ⟨bk, o + i, none⟩) hbs hbg).trans (by simpa using hcc 0 _ rfl)
      have q1 : (0 : Int) ≤ (i : Int) := by omega
      have q2 : (i : Int) < (l.length : Int) := by omega
      have hss := Hx.out s (List.mem_of_getElem? hsi)
      have Hnext : Hid (says b (firstBad ((l.map chk).take (i + 1))) = says (says b (firstBad ((l.map chk).take i))) (chk s)) := by
        show _ = _
        rw [firstBad_take (e := chk s) (by rw [List.getElem?_map, hsi]; rfl), says_assoc]
      clear hcc hcell hsi hbg
      obtain ⟨cd, Hcd⟩ : ∃ cd, Hid (NameP.check s.data.toList = cd) := ⟨_, Lib.hid rfl⟩
      rw [show chk s = cd from Hcd.out] at Hnext
      go_wp2_with fail
      refine (check_any s wr hss).mono ?_
      rintro E w1 ⟨rfl, rfl⟩
      rw [Hcd.out]
      go_wp2_with fail
      refine (says_any g _ cd wr Hbad.out).mono ?_
      rintro E w1 ⟨rfl, h1, h2⟩
      have H1 := Lib.hid h1
      have H2 := Lib.hid (Hbut.out.trans h2)
      clear h1 h2 e0
      go_wp2_with fail
      go_roundg k
      case measure => omega
      case rel => exact ⟨i + 1, by omega, by go_num, Lib.hid (by rw [Hnext.out]; exact H1.out), H2⟩
theorem one_str {w : World} {g : Nat} {t : TypeId} {a : ByteArray} (h : w.heap[g]? = some (.cells #[.string a] t (0, 0))) : StrAt w (.slice (some ⟨g, 0, none⟩) 1 1) [a] := by
  refine .inr ⟨_, 1, rfl, Nat.le_refl _, by unfold maxLen; decide, fun j x hx => ?_⟩
  have hj : j < 1 := (List.getElem?_eq_some_iff.1 hx).1
  obtain rfl : j = 0 := by omega
  rw [add_plain', Nat.zero_add]
  have : w.cell? ⟨g, 0, none⟩ = #[Value.string a][0]? := cell_block h 0
  rw [this]
  simp at hx; subst hx; rfl
theorem name_one (g : Nat) (b : Int) (s : ByteArray) (w : World) (h : IsBad g w b) (hs : s.size ≤ 1099511627776) :
    Calls Tryz.prog 55 #[.pointer (some ⟨g, 0, none⟩), .slice (some ⟨w.heap.size, 0, none⟩) 1 1] (w.alloc (.cells #[.string s] 9)) (Said g (says b (NameP.check s.data.toList)) w) := by
  have hlt := h.lt
  have hb := (Below.refl w.heap.size w).alloc (Nat.le_refl _) (.cells #[.string s] 9)
  refine (names_any g b _ [s] _ (h.below hb) (one_str (heap_alloc_new w _)) (fun _ a n c e => by cases e; show w.heap.size ≠ g; omega) (fun x hx => by rw [List.mem_singleton.1 hx]; exact hs) (by show 1 ≤ 1073741824; omega)).mono ?_
  rintro E w' ⟨h1, h2, h3⟩
  refine ⟨h1, ?_, (But.of hb).trans h3⟩
  have : firstBad ([s].map chk) = NameP.check s.data.toList := by show says (chk s) 0 = _; rw [says_zero]; rfl
  rw [← this]; exact h2
set_option maxRecDepth 100000 in
theorem space_any (g : Nat) (b : Int) (s : ByteArray) (w : World) (h : IsBad g w b) (hs : s.size ≤ 1099511627776) : Calls Tryz.prog 62 #[.pointer (some ⟨g, 0, none⟩), .string s] w (Said g (says b (AuP.emptyOr s.data.toList)) w) := by
  have H := Lib.hid h
  clear h
  by_cases h0 : s.size = 0
  · have q : s.data.toList = [] := List.eq_nil_of_length_eq_zero (by simpa using h0)
    have q2 : s.toList.isEmpty = true := by rw [ByteArray.toList_eq, q]; rfl
    have Hs : Hid (says b (AuP.emptyOr s.data.toList) = b) := by show _ = _; unfold AuP.emptyOr; rw [if_pos q]; exact says_zero b
    rw [Hs.out]
    clear h0 q
    go_enter Tryz.func62, Tryz.ntmps62
    go_wp2_with fail
    go_end0
    exact ⟨rfl, H.out, But.refl _ _⟩
  · have q : s.data.toList ≠ [] := fun h => by
      have hl : s.data.toList.length = s.size := by simp
      rw [h] at hl
      exact h0 hl.symm
    have q2 : s.toList.isEmpty = false := by rw [ByteArray.toList_eq]; cases hd : s.data.toList with | nil => exact absurd hd q | cons x r => rfl
    have Hs : Hid (says b (AuP.emptyOr s.data.toList) = says b (NameP.check s.data.toList)) := by show _ = _; unfold AuP.emptyOr; rw [if_neg q]
    rw [Hs.out]
    clear h0 q
    go_enter Tryz.func62, Tryz.ntmps62
    go_wp2_with fail
    refine (name_one g b s w H.out hs).mono ?_
    rintro E w1 ⟨rfl, h1, h2⟩
    have H1 := Lib.hid h1
    have H2 := Lib.hid h2
    clear h1 h2 Hs
    go_wp2_with fail
    go_end0
    exact ⟨rfl, H1.out, H2.out⟩
set_option maxRecDepth 100000 in
set_option maxHeartbeats 800000 in
theorem key_any (a b c : ByteArray) (w : World) (ha : a.size ≤ 8388608) (hb : b.size ≤ 8388608) (hc : c.size ≤ 8388608) :
    Calls Tryz.prog 47 #[.agg #[.string a, .string b, .string c]] w fun e w' => e = .returned (.int .i64 (AuP.keyE a.data.toList b.data.toList c.data.toList)) ∧ Below w.heap.size w w' := by
  obtain ⟨R, HR⟩ : ∃ R, Hid (AuP.keyE a.data.toList b.data.toList c.data.toList = R) := ⟨_, Lib.hid rfl⟩
  rw [HR.out]
  go_enter Tryz.func47, Tryz.ntmps47
  go_upto_region 2 with fail
  obtain ⟨w1, hw1⟩ : ∃ w1, w1 = (w.alloc (.cells #[.string a, .string b, .string c] 24)).alloc (.cells #[.int .i64 0] 113) := ⟨_, rfl⟩
  obtain ⟨gc, hgc⟩ : ∃ gc, gc = w.heap.size + 1 := ⟨_, rfl⟩
  obtain ⟨gb, hgb⟩ : ∃ gb, gb = w.heap.size := ⟨_, rfl⟩
  rw [← hw1]
  try rw [← hgc]
  rw [← hgb]
  have b1 : w1.heap[gb]? = some (.cells #[.string a, .string b, .string c] 24 (0, 0)) := by
    rw [hw1, hgb]
    exact below_block ((Below.refl _ _).alloc (Nat.le_refl _) _) (heap_alloc_new w _)
  have h1 : IsBad gc w1 0 := by
    have h9 := heap_alloc_new (w.alloc (.cells #[.string a, .string b, .string c] 24)) (.cells #[.int .i64 0] 113)
    rw [hw1, hgc]
    simpa [IsBad] using h9
  have hb1 : Below w.heap.size w w1 := by rw [hw1]; exact ((Below.refl _ _).alloc (Nat.le_refl _) _).alloc (by simp) _
  have hlt1 := h1.lt
  have hne : gb ≠ gc := by omega
  have hgw : w.heap.size ≤ gb := by omega
  have hgw2 : w.heap.size ≤ gc := by omega
  have hs1 := hb1.size
  have Hb1 := Lib.hid hb1
  have H1 := Lib.hid h1
  have B1 := Lib.hid b1
  have cc := fun i => cell_block b1 i
  clear hw1 hgc hgb b1 h1 hb1
  go_wp2_with fail
  refine (name_one gc 0 a w1 H1.out (by omega)).mono ?_
  rintro E w2 ⟨rfl, h1, h2⟩
  have H2 := Lib.hid h1
  have K2 := Lib.hid h2
  clear cc h1 h2
  have cc := fun i => cell_block (K2.out.keep B1.out hne) i
  go_wp2_with fail
  refine (space_any gc _ b w2 H2.out (by omega)).mono ?_
  rintro E w3 ⟨rfl, h1, h2⟩
  have H3 := Lib.hid h1
  have K3 := Lib.hid (K2.out.trans h2)
  clear cc h1 h2
  have cc := fun i => cell_block (K3.out.keep B1.out hne) i
  go_wp2_with fail
  refine (name_one gc _ c w3 H3.out (by omega)).mono ?_
  rintro E w4 ⟨rfl, h1, h2⟩
  have hR2 : says (says (says 0 (NameP.check a.data.toList)) (AuP.emptyOr b.data.toList)) (NameP.check c.data.toList) = R := by rw [← HR.out, zero_says, says_assoc]; rfl
  rw [hR2] at h1
  have K4 := Lib.hid ((But.of Hb1.out).trans (K3.out.trans h2))
  have c4 : w4.cell? ⟨gc, 0, none⟩ = some (.int .i64 R) := cell_block h1 0
  clear cc h1 h2 hR2 H2 H3
  go_wp2_with fail
  go_ret
  exact ⟨rfl, K4.out.below (Below.refl _ _) (Nat.le_refl _) (by omega)⟩
end Sto
end Go.Proofs.YtnnceaapodgfbaaGreatDoor
namespace Go.Proofs.YtnnceaapodgfbaaGreatDoor
namespace Sto
open Go.RowKit
open JP (Bs)
instance decKey : DecidableEq GKey := fun a b =>
  if h : a.kind = b.kind ∧ a.space = b.space ∧ a.name = b.name then .isTrue (by obtain ⟨a1, a2, a3⟩ := a; obtain ⟨b1, b2, b3⟩ := b; obtain ⟨h1, h2, h3⟩ := h; cases h1; cases h2; cases h3; rfl)
  else .isFalse fun e => h (by subst e; exact ⟨rfl, rfl, rfl⟩)
def noKey : GKey := ⟨ByteArray.empty, ByteArray.empty, ByteArray.empty⟩
def noObj : GObject := ⟨noKey, [], [], [], false, ByteArray.empty, 0, ByteArray.empty⟩
def keyK (k : GKey) : Int := AuP.keyE k.kind.data.toList k.space.data.toList k.name.data.toList
def twiceE (l : List ByteArray) : Int := if l.Nodup then 0 else 5
def firstO (o : GObject) : Int := says (says (keyK o.okey) (labelsE o.labels)) (if 4 < o.owners.length ∨ 4 < o.holds.length then 2 else 0)
def objE (o : GObject) : Int := if firstO o ≠ 0 then firstO o else says (says (says (firstBad (o.owners.map chk)) (firstBad (o.holds.map chk))) (twiceE o.holds)) (JP.canonE o.doc.data.toList)
def keptO (o : GObject) : GObject := { o with doc := mkB (JP.canonT o.doc.data.toList), uid := ByteArray.empty }
structure St where
  log : List GEvent
  comp : Int
def St.rev (S : St) : Nat := S.log.length
def hits (l : List GEvent) (k : GKey) : List GEvent := l.filter fun e => decide (e.object.okey = k)
def cur (l : List GEvent) (k : GKey) : Option GObject := match (hits l k).getLast? with
  | some e => if e.kind = 3 then none else some e.object
  | none => none
def live : List GEvent → Int
  | [] => 0
  | e :: r => live r + (if e.kind = 1 then 1 else if e.kind = 3 then -1 else 0)
def uidOf (n : Nat) : ByteArray := mkB (117 :: Lib.itoa (n : Int))
def putO (n : Nat) (kind : Int) (o : GObject) : GObject := { o with rev := (n : Int), uid := if kind = 1 then uidOf n else o.uid }
def put (S : St) (kind : Int) (o : GObject) : St := { S with log := S.log ++ [⟨kind, (S.rev : Int) + 1, putO (S.rev + 1) kind o⟩] }
abbrev Told := St × GObject × Int
def doPut (S : St) (kind : Int) (o : GObject) : Told := (put S kind o, putO (S.rev + 1) kind o, 0)
def create (S : St) (o : GObject) : Told :=
  if objE o ≠ 0 then (S, noObj, objE o) else if (cur S.log o.okey).isSome = true then (S, noObj, 5) else if live S.log = 60 then (S, noObj, 22) else doPut S 1 { keptO o with ending := false }
def update (S : St) (o : GObject) : Told :=
  if objE o ≠ 0 then (S, noObj, objE o) else match cur S.log o.okey with
  | none => (S, noObj, 7)
  | some was => if o.rev ≠ was.rev then (S, noObj, 12) else if was.ending = true ∧ o.ending = false then (S, noObj, 1) else doPut S 2 { keptO o with uid := was.uid }
def remove (S : St) (k : GKey) (rev : Int) : Told :=
  if keyK k ≠ 0 then (S, noObj, keyK k) else match cur S.log k with
  | none => (S, noObj, 7)
  | some was => if rev ≠ 0 ∧ rev ≠ was.rev then (S, noObj, 12) else doPut S 3 was
def compactE (S : St) (rev : Int) : Int := if (S.rev : Int) < rev ∨ rev < S.comp then 1 else 0
def compact (S : St) (rev : Int) : St := if compactE S rev = 0 then { S with comp := rev } else S
def modI (n m : Int) : Int := n % m
def doS (S : St) (x : GStoreStep) : Told :=
  if modI x.kind 4 = 0 then create S x.o else if modI x.kind 4 = 1 then update S x.o else if modI x.kind 4 = 2 then remove S x.o.okey x.rev else (compact S (modI x.rev 3), noObj, compactE S (modI x.rev 3))
def run (S : St) : List GStoreStep → St
  | [] => S
  | x :: r => run (doS S x).1 r
def timeE (S : St) (rev : Int) : Int := if rev < 0 ∨ (S.rev : Int) < rev then 1 else if rev = 0 then 0 else if rev < S.comp then 13 else 0
def timeT (S : St) (rev : Int) : Nat := if timeE S rev ≠ 0 then 0 else if rev = 0 then S.rev else rev.toNat
def atR (S : St) (k : GKey) (n : Nat) : Option GObject := cur (S.log.take n) k
def getE (S : St) (k : GKey) (rev : Int) : Int := if keyK k ≠ 0 then keyK k else if timeE S rev ≠ 0 then timeE S rev else if (atR S k (timeT S rev)).isSome = true then 0 else 7
def getO (S : St) (k : GKey) (rev : Int) : GObject := if getE S k rev = 0 then (atR S k (timeT S rev)).getD noObj else noObj
def spaceE (s : ByteArray) : Int := AuP.emptyOr s.data.toList
def listE (S : St) (kind space : ByteArray) (rev : Int) : Int := if says (chk kind) (spaceE space) ≠ 0 then says (chk kind) (spaceE space) else timeE S rev
def fitsK (kind space : ByteArray) (k : GKey) : Prop := k.kind = kind ∧ (space = ByteArray.empty ∨ k.space = space)
def lessS (a b : ByteArray) : Prop := Lib.compareBytes a.data.toList b.data.toList < 0
def ahead (a b : GObject) : Prop := lessS a.okey.space b.okey.space ∨ a.okey.space = b.okey.space ∧ lessS a.okey.name b.okey.name
def IsList (l : List GEvent) (kind space : ByteArray) (out : List GObject) : Prop := out.Pairwise ahead ∧ ∀ o, o ∈ out ↔ fitsK kind space o.okey ∧ cur l o.okey = some o
def ListTold (S : St) (kind space : ByteArray) (rev : Int) (out : List GObject) : Prop :=
  (listE S kind space rev ≠ 0 → out = []) ∧ (listE S kind space rev = 0 → IsList (S.log.take (timeT S rev)) kind space out)
end Sto
end Go.Proofs.YtnnceaapodgfbaaGreatDoor
namespace Go.Proofs.YtnnceaapodgfbaaGreatDoor
namespace Sto
open Go.RowKit Go.Maps Go.WideMaps
def keyV (k : GKey) : Value := .agg #[.string k.kind, .string k.space, .string k.name]
def keyL (k : GKey) : Lit := .string (keyBytes [.string k.kind.data.toList, .string k.space.data.toList, .string k.name.data.toList])
def okKey (k : GKey) : Prop := k.kind.size ≤ maxLen ∧ k.space.size ≤ maxLen ∧ k.name.size ≤ maxLen
theorem Tryz.laidOutK : laidOutB Tryz.prog = true := by kernel_rfl
theorem keyRow : 24 < Tryz.prog.types.size := of_decide_eq_true (by kernel_rfl)
theorem keyWide : (match Tryz.prog.underlying 24 with | some (.array _ _) | some (.struct _) => true | _ => false) = true := by kernel_rfl
set_option maxRecDepth 100000 in
theorem keyLaw : KeyLaw Tryz.prog 24 := deep_law_laid Tryz.laidOutK (m := 2) (by omega) keyRow (by kernel_rfl) keyWide
theorem keyIs : Tryz.prog.keyType 24 = true := by kernel_rfl
theorem keyCells : Tryz.prog.cellsOf 24 = 3 := by kernel_rfl
theorem strCells : Tryz.prog.cellsOf 9 = 1 := by kernel_rfl
section
variable {P : Program} {t K : TypeId}
theorem lits_str (hu : P.underlying t = some .string) (d : Nat) (c : Value) : P.keyLits (d + 1) t [c] = match c with
    | .string s => if s.size ≤ maxLen then some [.string s.data.toList] else none
    | _ => none := by
  simp only [Program.keyLits, hu]
  cases c <;> rfl
theorem lits_key {fs : Array Field} {f0 f1 f2 : Field} (hu : P.underlying K = some (.struct fs)) (hf : fs = #[f0, f1, f2]) (h0 : f0.type = t ∧ f0.offset = 0 ∧ (f0.name != "_") = true) (h1 : f1.type = t ∧ f1.offset = 1 ∧ (f1.name != "_") = true) (h2 : f2.type = t ∧ f2.offset = 2 ∧ (f2.name != "_") = true)
    (hK : P.cellsOf K = 3) (ht : P.cellsOf t = 1) (d : Nat) (c0 c1 c2 : Value) :
    P.keyLits (d + 1) K [c0, c1, c2] = ((P.keyLits d t [c0]).bind fun a => (P.keyLits d t [c1]).bind fun b => (P.keyLits d t [c2]).map fun c => a ++ b ++ c) := by
  subst hf
  obtain ⟨a1, a2, a3⟩ := h0
  obtain ⟨b1, b2, b3⟩ := h1
  obtain ⟨e1, e2, e3⟩ := h2
  simp only [Program.keyLits, hu, hK]
  simp only [List.mapM_cons, List.mapM_nil, a1, a2, b1, b2, e1, e2, ht]
  have hall : (#[f0, f1, f2].all fun x => x.name != "_") = true := by simp [a3, b3, e3]
  rw [if_pos ⟨rfl, hall⟩]
  simp only [List.drop_zero, List.drop_succ_cons, List.take_succ_cons, List.take_zero]
  cases P.keyLits d t [c0] with
  | none => rfl
  | some a =>
    cases P.keyLits d t [c1] with
    | none => rfl
    | some b =>
      cases P.keyLits d t [c2] with
      | none => rfl
      | some c => simp
theorem formed_three {cs : Array Value} {fs : Array Field} (hu : P.underlying K = some (.struct fs)) (hK : P.cellsOf K = 3) : (Value.agg cs).formed P K = (cs.size == 3) := by
  unfold Value.formed
  rw [hu, hK]
theorem formed_not {v : Value} {fs : Array Field} (hu : P.underlying K = some (.struct fs)) (h : v.formed P K = true) : ∃ cs, v = .agg cs := by
  cases v with
  | agg cs => exact ⟨cs, rfl⟩
  | _ => first | (unfold Value.formed at h; rw [hu] at h; cases h) | (unfold Value.formed at h; cases h)
theorem keyOf_three {v : Value} {fs : Array Field} (hu : P.underlying K = some (.struct fs)) (hk : P.keyType K = true) : keyOf P K v = if v.formed P K = true then (P.keyLits (P.types.size + 1) K v.cells.toList).map fun ls => .string (keyBytes ls) else none := by
  unfold keyOf
  rw [hu]
  dsimp only
  rw [hk, Bool.true_and]
end
theorem keyOf_is (v : Value) : keyOf Tryz.prog 24 v = if v.formed Tryz.prog 24 = true then (Tryz.prog.keyLits (Tryz.prog.types.size + 1) 24 v.cells.toList).map fun ls => .string (keyBytes ls) else none :=
  keyOf_three Tryz.underlying24 keyIs
theorem lits_is (d : Nat) (c0 c1 c2 : Value) : Tryz.prog.keyLits (d + 1) 24 [c0, c1, c2] = ((Tryz.prog.keyLits d 9 [c0]).bind fun a => (Tryz.prog.keyLits d 9 [c1]).bind fun b => (Tryz.prog.keyLits d 9 [c2]).map fun c => a ++ b ++ c) :=
  lits_key Tryz.underlying24 rfl ⟨rfl, rfl, by decide⟩ ⟨rfl, rfl, by decide⟩ ⟨rfl, rfl, by decide⟩ keyCells strCells d c0 c1 c2
theorem str_is (d : Nat) (c : Value) : Tryz.prog.keyLits (d + 1) 9 [c] = match c with
    | .string s => if s.size ≤ maxLen then some [.string s.data.toList] else none
    | _ => none := lits_str Tryz.underlying9 d c
theorem typesMany : ∃ m, Tryz.prog.types.size = m + 1 := ⟨Tryz.prog.types.size - 1, by have := keyRow; omega⟩
theorem keyOf_key {k : GKey} (h : okKey k) : keyOf Tryz.prog 24 (keyV k) = some (keyL k) := by
  obtain ⟨m, hm⟩ := typesMany
  rw [keyOf_is, hm]
  unfold keyV
  rw [formed_three Tryz.underlying24 keyCells, if_pos (show ((#[Value.string k.kind, Value.string k.space, Value.string k.name] : Array Value).size == 3) = true from rfl)]
  show (Tryz.prog.keyLits (m + 1 + 1) _ [.string k.kind, .string k.space, .string k.name]).map _ = _
  rw [lits_is, str_is, str_is, str_is]
  simp only [if_pos h.1, if_pos h.2.1, if_pos h.2.2]
  rfl
set_option maxRecDepth 100000 in
theorem keyOf_back {v : Value} {l : Lit} (h : keyOf Tryz.prog 24 v = some l) : ∃ k, okKey k ∧ v = keyV k ∧ l = keyL k := by
  obtain ⟨m, hm⟩ := typesMany
  rw [keyOf_is, hm] at h
  split at h
  · rename_i hf
    obtain ⟨cs, rfl⟩ := formed_not Tryz.underlying24 hf
    rw [formed_three Tryz.underlying24 keyCells] at hf
    obtain ⟨l3⟩ := cs
    have hl : l3.length = 3 := by simpa using hf
    match l3, hl with
    | [c0, c1, c2], _ =>
      have h2 : (Tryz.prog.keyLits (m + 1 + 1) 24 [c0, c1, c2]).map (fun ls => Lit.string (keyBytes ls)) = some l := h
      rw [lits_is, str_is, str_is, str_is] at h2
      cases c0 with
      | string a =>
        cases c1 with
        | string b =>
          cases c2 with
          | string c =>
            by_cases ha : a.size ≤ maxLen
            · by_cases hb : b.size ≤ maxLen
              · by_cases hc : c.size ≤ maxLen
                · simp only [if_pos ha, if_pos hb, if_pos hc] at h2
                  exact ⟨⟨a, b, c⟩, ⟨ha, hb, hc⟩, rfl, (Option.some.inj h2).symm⟩
                · simp only [if_pos ha, if_pos hb, if_neg hc] at h2; cases h2
              · simp only [if_pos ha, if_neg hb] at h2; cases h2
            · simp only [if_neg ha] at h2; cases h2
          | _ => simp at h2
        | _ => simp at h2
      | _ => simp at h2
  · cases h
theorem keyV_inj {a b : GKey} (h : keyV a = keyV b) : a = b := by
  unfold keyV at h
  injection h with h
  obtain ⟨a1, a2, a3⟩ := a
  obtain ⟨b1, b2, b3⟩ := b
  simp at h
  obtain ⟨h1, h2, h3⟩ := h
  subst h1 h2 h3
  rfl
def keyC : KeyCode Tryz.prog 24 GKey := ⟨keyV, keyL, okKey, Keyed.of_law keyLaw, fun _ h => keyOf_key h, keyOf_back, keyV_inj⟩
end Sto
end Go.Proofs.YtnnceaapodgfbaaGreatDoor
namespace Go.Proofs.YtnnceaapodgfbaaGreatDoor
namespace Sto
open Go.RowKit
open JP (Bs)
theorem hits_append (l m : List GEvent) (k : GKey) : hits (l ++ m) k = hits l k ++ hits m k := List.filter_append ..
def shown (e : GEvent) : Option GObject := if e.kind = 3 then none else some e.object
theorem take_snoc {α : Type} {l : List α} {i : Nat} {e : α} (h : l[i]? = some e) : l.take (i + 1) = l.take i ++ [e] := by rw [List.take_add_one, h]; rfl
def Step (l : List GEvent) (e : GEvent) : Prop :=
  e.rev = (l.length : Int) + 1 ∧ e.object.rev = (l.length : Int) + 1 ∧
  ((e.kind = 1 ∧ cur l e.object.okey = none ∧ e.object.uid = uidOf (l.length + 1)) ∨ ((e.kind = 2 ∨ e.kind = 3) ∧ ∃ o, cur l e.object.okey = some o ∧ e.object.uid = o.uid))
structure Good (S : St) : Prop where
  step : ∀ i e, S.log[i]? = some e → Step (S.log.take i) e
  full : live S.log ≤ 60
  comp : 0 ≤ S.comp ∧ S.comp ≤ (S.rev : Int)
end Sto
end Go.Proofs.YtnnceaapodgfbaaGreatDoor
namespace Go.Proofs.YtnnceaapodgfbaaGreatDoor
open Go.RowKit
theorem flat_label : Flat LabelR := fun _ _ _ _ h => h
theorem one_label : OneR LabelR := fun _ _ _ h u hu => by rw [h] at hu; simp at hu; rcases hu with rfl | rfl <;> rfl
theorem Tryz.infoLabel : (Tryz.prog.info? 66).map (fun i => (i.zero, i.size, i.bytes)) = some (some (.agg #[.string ByteArray.empty, .string ByteArray.empty]), 2, 32) := by kernel_rfl
set_option maxRecDepth 100000 in
theorem cloneStrs_any (v : Value) (l : List ByteArray) (w : World) (h : StrAt w v l) (hl : l.length ≤ 1073741824) :
    Calls Tryz.prog 78 #[v] w fun e w' => ∃ v', e = .returned v' ∧ OwnAt RString 1 w' w.heap.size 9 v' l ∧ Below w.heap.size w w' := by
  obtain ⟨i0, hi0, hz0, hz1, hz2⟩ := info_parts Tryz.infoStr
  have hrow := h.row
  have hn := fun (w : World) (a : Option Addr) (n c : Nat) => Lib.run_eql_slice_nil (P := Tryz.prog) w 28 9 a n c 0 0 Tryz.underlying28
  rcases h with ⟨rfl, rfl⟩ | ⟨a, c, rfl, _, _, _⟩
  · go_enter Tryz.func78, Tryz.ntmps78
    go_wp2_with fail
    go_ret
    exact ⟨_, rfl, OwnAt.nil _, Below.refl _ _⟩
  · have Hrow := Lib.hid hrow
    clear hrow
    go_enter Tryz.func78, Tryz.ntmps78
    go_wp2_with (at_builtin; refine wpList_append_ownAt (R := RString) (k := 1) (e := 9) (B := w.heap.size) (l := []) (m := l) _ (by rfl) _ _ _ (by rfl) i0 _ 16 Tryz.underlying28 hi0 hz0 hz1 hz2 rfl (by omega) flat_string one_string _ (by rfl) (own_empty w 1 _ (Nat.le_refl _)) _ (by rfl) (Hrow.out.below stays_string ((Below.refl _ _).alloc (Nat.le_refl _) _)) (by unfold maxLen; simp; omega) (by simp; omega) (by simp) ?_)
    intro v' w' hv' hg hr _
    have hb : Below w.heap.size w w' := below_of_grown ((Below.refl _ _).alloc (Nat.le_refl _) _) (by simp) hg hr
    go_wp2_with fail
    go_ret
    exact ⟨_, rfl, by simpa using hv', hb⟩
set_option maxRecDepth 100000 in
theorem cloneLabels_any (v : Value) (l : List GLabel) (w : World) (h : RowAt LabelR 2 w v l) (hl : l.length ≤ 1073741824) :
    Calls Tryz.prog 93 #[v] w fun e w' => ∃ v', e = .returned v' ∧ OwnAt LabelR 2 w' w.heap.size 66 v' l ∧ Below w.heap.size w w' := by
  obtain ⟨i0, hi0, hz0, hz1, hz2⟩ := info_parts Tryz.infoLabel
  have hrow := h
  have hn := fun (w : World) (a : Option Addr) (n c : Nat) => Lib.run_eql_slice_nil (P := Tryz.prog) w 27 66 a n c 0 0 Tryz.underlying27
  rcases h with ⟨rfl, rfl⟩ | ⟨a, c, rfl, _, _, _⟩
  · go_enter Tryz.func93, Tryz.ntmps93
    go_wp2_with fail
    go_ret
    exact ⟨_, rfl, OwnAt.nil _, Below.refl _ _⟩
  · have Hrow := Lib.hid hrow
    clear hrow
    go_enter Tryz.func93, Tryz.ntmps93
    go_wp2_with (at_builtin; refine wpList_append_ownAt (R := LabelR) (k := 2) (e := 66) (B := w.heap.size) (l := []) (m := l) _ (by rfl) _ _ _ (by rfl) i0 _ 32 Tryz.underlying27 hi0 hz0 hz1 hz2 rfl (by omega) flat_label one_label _ (by rfl) (own_empty w 2 _ (Nat.le_refl _)) _ (by rfl) (Hrow.out.below stays_label ((Below.refl _ _).alloc (Nat.le_refl _) _)) (by unfold maxLen; simp; omega) (by simp; omega) (by simp) ?_)
    intro v' w' hv' hg hr _
    have hb : Below w.heap.size w w' := below_of_grown ((Below.refl _ _).alloc (Nat.le_refl _) _) (by simp) hg hr
    go_wp2_with fail
    go_ret
    exact ⟨_, rfl, by simpa using hv', hb⟩
end Go.Proofs.YtnnceaapodgfbaaGreatDoor
namespace Go.Proofs.YtnnceaapodgfbaaGreatDoor
open Go.RowKit
def objV (k : GKey) (vl vo vh : Value) (e : Bool) (u : ByteArray) (r : Int) (d : ByteArray) : Value :=
  .agg #[.string k.kind, .string k.space, .string k.name, vl, vo, vh, .bool e, .string u, .int .i64 r, .string d]
set_option maxRecDepth 100000 in
set_option maxHeartbeats 800000 in
theorem storeCopy_any (k : GKey) (vl vo vh : Value) (e : Bool) (u : ByteArray) (r : Int) (d : ByteArray) (labels : List GLabel) (owners holds : List ByteArray) (w : World)
    (hl : RowAt LabelR 2 w vl labels) (ho : StrAt w vo owners) (hh : StrAt w vh holds) (bl : labels.length ≤ 1073741824) (bo : owners.length ≤ 1073741824) (bh : holds.length ≤ 1073741824) :
    Calls Tryz.prog 65 #[objV k vl vo vh e u r d] w fun E w' => ∃ vl' vo' vh', E = .returned (objV k vl' vo' vh' e u r d) ∧
      OwnAt LabelR 2 w' w.heap.size 66 vl' labels ∧ OwnAt RString 1 w' w.heap.size 9 vo' owners ∧ OwnAt RString 1 w' w.heap.size 9 vh' holds ∧ (∀ g, vh'.ownBlock = some g → vo'.ownBlock ≠ some g) ∧ Below w.heap.size w w' := by
  unfold objV
  have Hl := Lib.hid hl
  have Ho := Lib.hid ho
  have Hh := Lib.hid hh
  clear hl ho hh
  go_enter Tryz.func65, Tryz.ntmps65
  go_wp2_with fail
  have hWb : Below w.heap.size w ((w.alloc (.cells #[.string k.kind, .string k.space, .string k.name, vl, vo, vh, .bool e, .string u, .int .i64 r, .string d] 30)).alloc (.cells #[.string { data := #[] }, .string { data := #[] }, .string { data := #[] }, .slice none 0 0, .slice none 0 0, .slice none 0 0, .bool false, .string { data := #[] }, .int .i64 0, .string { data := #[] }] 30)) :=
    ((Below.refl _ _).alloc (Nat.le_refl _) _).alloc (by simp) _
  generalize hW : World.alloc (World.alloc _ _) _ = W at hWb
  have hWs : W.heap.size = w.heap.size + 2 := by rw [← hW]; simp
  have c0 : W.heap[w.heap.size]? = some (.cells #[.string k.kind, .string k.space, .string k.name, vl, vo, vh, .bool e, .string u, .int .i64 r, .string d] 30 (0, 0)) := by rw [← hW]; exact heap_alloc_old (heap_alloc_at rfl)
  have c1 : W.heap[w.heap.size + 1]? = some (.cells #[.string { data := #[] }, .string { data := #[] }, .string { data := #[] }, .slice none 0 0, .slice none 0 0, .slice none 0 0, .bool false, .string { data := #[] }, .int .i64 0, .string { data := #[] }] 30 (0, 0)) := by rw [← hW]; exact heap_alloc_at (by simp)
  clear hW
  refine wp_region_relB 10 (fun i u w' => match i with
    | 0 => u 0 = .pointer (some ⟨w.heap.size, 3, none⟩) | 1 => u 1 = vl | 2 => OwnAt LabelR 2 w' (w.heap.size + 2) 66 (u 2) labels
    | 3 => u 3 = .pointer (some ⟨w.heap.size, 4, none⟩) | 4 => u 4 = vo | 5 => OwnAt RString 1 w' (w.heap.size + 2) 9 (u 5) owners
    | 6 => u 6 = .pointer (some ⟨w.heap.size, 5, none⟩) | 7 => u 7 = vh | 8 => OwnAt RString 1 w' (w.heap.size + 2) 9 (u 8) holds ∧ ∀ g, (u 8).ownBlock = some g → (u 5).ownBlock ≠ some g
    | 9 => u 9 = .pointer (some ⟨w.heap.size, 3, none⟩) | _ => True)
    (fun | 1 => [0] | 2 => [1] | 4 => [3] | 5 => [4] | 7 => [6] | 8 => [7, 5] | _ => []) (by kernel_rfl) (by kernel_rfl) ?_ ⟨?_, ?_, ?_, ?_, ?_, ?_, ?_, ?_, ?_, ?_, trivial⟩ ?_
  · intro j v w1 w2 hb h
    match j, h with
    | 0, h => exact h
    | 1, h => exact h
    | 2, h => exact OwnAt.below stays_label h hb
    | 3, h => exact h
    | 4, h => exact h
    | 5, h => exact OwnAt.below stays_string h hb
    | 6, h => exact h
    | 7, h => exact h
    | 8, h => exact ⟨OwnAt.below stays_string h.1 hb, h.2⟩
    | 9, h => exact h
    | _ + 10, h => trivial
  · intro x w' hb hd
    refine owes_here (.pointer (some ⟨w.heap.size, 3, none⟩)) (by rfl) ?_ rfl
    simp only [putAll, List.take_succ_cons, List.take_zero]
    go_simp
  · intro x w' hb hd
    have h0 : x 0 = .pointer (some ⟨w.heap.size, 3, none⟩) := hd 0 (by simp)
    have d0 := (hb.block w.heap.size (by show w.heap.size < W.heap.size; omega)).trans c0
    refine owes_here vl (by rfl) ?_ rfl
    simp only [putAll, List.take_succ_cons, List.take_zero]
    have e3 := cell_block d0 3
    go_simp
  · intro x w' hb hd
    have h0 : x 1 = vl := hd 1 (by simp)
    have hb2 : Below w.heap.size w w' := hWb.drew.trans (hb.mono (by show w.heap.size ≤ W.heap.size; omega))
    refine owes_call 93 #[vl] (by rfl) ?_ ((cloneLabels_any _ _ w' (Hl.out.below stays_label hb2) (by omega)).mono ?_)
    · simp only [putAll, List.take_succ_cons, List.take_zero]
      go_simp
    · rintro _ w2 ⟨v2, rfl, ho, hb3⟩
      exact ⟨v2, rfl, ho.mono (by have h9 : W.heap.size ≤ w'.heap.size := hb.size; omega), hb3⟩
  · intro x w' hb hd
    refine owes_here (.pointer (some ⟨w.heap.size, 4, none⟩)) (by rfl) ?_ rfl
    simp only [putAll, List.take_succ_cons, List.take_zero]
    go_simp
  · intro x w' hb hd
    have h0 : x 3 = .pointer (some ⟨w.heap.size, 4, none⟩) := hd 3 (by simp)
    have d0 := (hb.block w.heap.size (by show w.heap.size < W.heap.size; omega)).trans c0
    refine owes_here vo (by rfl) ?_ rfl
    simp only [putAll, List.take_succ_cons, List.take_zero]
    have e3 := cell_block d0 4
    go_simp
  · intro x w' hb hd
    have h0 : x 4 = vo := hd 4 (by simp)
    have hb2 : Below w.heap.size w w' := hWb.drew.trans (hb.mono (by show w.heap.size ≤ W.heap.size; omega))
    refine owes_call 78 #[vo] (by rfl) ?_ ((cloneStrs_any _ _ w' (Ho.out.below hb2) (by omega)).mono ?_)
    · simp only [putAll, List.take_succ_cons, List.take_zero]
      go_simp
    · rintro _ w2 ⟨v2, rfl, ho, hb3⟩
      exact ⟨v2, rfl, ho.mono (by have h9 : W.heap.size ≤ w'.heap.size := hb.size; omega), hb3⟩
  · intro x w' hb hd
    refine owes_here (.pointer (some ⟨w.heap.size, 5, none⟩)) (by rfl) ?_ rfl
    simp only [putAll, List.take_succ_cons, List.take_zero]
    go_simp
  · intro x w' hb hd
    have h0 : x 6 = .pointer (some ⟨w.heap.size, 5, none⟩) := hd 6 (by simp)
    have d0 := (hb.block w.heap.size (by show w.heap.size < W.heap.size; omega)).trans c0
    refine owes_here vh (by rfl) ?_ rfl
    simp only [putAll, List.take_succ_cons, List.take_zero]
    have e3 := cell_block d0 5
    go_simp
  · intro x w' hb hd
    have h0 : x 7 = vh := hd 7 (by simp)
    have h5 : OwnAt RString 1 w' (w.heap.size + 2) 9 (x 5) owners := hd 5 (by simp)
    have hb2 : Below w.heap.size w w' := hWb.drew.trans (hb.mono (by show w.heap.size ≤ W.heap.size; omega))
    refine owes_call 78 #[vh] (by rfl) ?_ ((cloneStrs_any _ _ w' (Hh.out.below hb2) (by omega)).mono ?_)
    · simp only [putAll, List.take_succ_cons, List.take_zero]
      go_simp
    · rintro _ w2 ⟨v2, rfl, ho, hb3⟩
      exact ⟨v2, rfl, ⟨ho.mono (by have h9 : W.heap.size ≤ w'.heap.size := hb.size; omega), fun g hg h5g => absurd (h5.at h5g).2.1 (by have := (ho.at hg).1; omega)⟩, hb3⟩
  · intro x w' hb hd
    refine owes_here (.pointer (some ⟨w.heap.size, 3, none⟩)) (by rfl) ?_ rfl
    simp only [putAll, List.take_succ_cons, List.take_zero]
    go_simp
  · intro x w' hb hR
    have h2 : OwnAt LabelR 2 w' (w.heap.size + 2) 66 (x 2) labels := hR 2 (by omega)
    have h5 : OwnAt RString 1 w' (w.heap.size + 2) 9 (x 5) owners := hR 5 (by omega)
    obtain ⟨h8, h85⟩ : OwnAt RString 1 w' (w.heap.size + 2) 9 (x 8) holds ∧ ∀ g, (x 8).ownBlock = some g → (x 5).ownBlock ≠ some g := hR 8 (by omega)
    have h9 : x 9 = .pointer (some ⟨w.heap.size, 3, none⟩) := hR 9 (by omega)
    have d0 := (hb.block w.heap.size (by show w.heap.size < W.heap.size; omega)).trans c0
    have d1 := (hb.block (w.heap.size + 1) (by show w.heap.size + 1 < W.heap.size; omega)).trans c1
    have hb2 : Below w.heap.size w w' := hWb.drew.trans (hb.mono (by show w.heap.size ≤ W.heap.size; omega))
    obtain ⟨a2, q2, e2, _, _⟩ := h2.row.len
    obtain ⟨a5, q5, e5, _, _⟩ := h5.row.len
    obtain ⟨a8, q8, e8, _, _⟩ := h8.row.len
    rw [e2] at h2
    rw [e5] at h5
    rw [e8] at h8
    rw [e8, e5] at h85
    have H85 := Lib.hid h85
    have H2 := Lib.hid h2
    have H5 := Lib.hid h5
    have H8 := Lib.hid h8
    have Hd0 := Lib.hid d0
    have Hd1 := Lib.hid d1
    clear hR h2 h5 h8 h85 hb d0 d1 c0 c1
    have f0 : w'.cell? ⟨w.heap.size, 0, none⟩ = some (.string k.kind) := cell_block Hd0.out 0
    have f1 : w'.cell? ⟨w.heap.size, 1, none⟩ = some (.string k.space) := cell_block Hd0.out 1
    have f2 : w'.cell? ⟨w.heap.size, 2, none⟩ = some (.string k.name) := cell_block Hd0.out 2
    have f3 : w'.cell? ⟨w.heap.size, 3, none⟩ = some (vl) := cell_block Hd0.out 3
    have f4 : w'.cell? ⟨w.heap.size, 4, none⟩ = some (vo) := cell_block Hd0.out 4
    have f5 : w'.cell? ⟨w.heap.size, 5, none⟩ = some (vh) := cell_block Hd0.out 5
    have f6 : w'.cell? ⟨w.heap.size, 6, none⟩ = some (.bool e) := cell_block Hd0.out 6
    have f7 : w'.cell? ⟨w.heap.size, 7, none⟩ = some (.string u) := cell_block Hd0.out 7
    have f8 : w'.cell? ⟨w.heap.size, 8, none⟩ = some (.int .i64 r) := cell_block Hd0.out 8
    have f9 : w'.cell? ⟨w.heap.size, 9, none⟩ = some (.string d) := cell_block Hd0.out 9
    have g3 : w'.frozen? ⟨w.heap.size, 3, none⟩ = false := free_block Hd0.out 3
    have g4 : w'.frozen? ⟨w.heap.size, 4, none⟩ = false := free_block Hd0.out 4
    have g5 : w'.frozen? ⟨w.heap.size, 5, none⟩ = false := free_block Hd0.out 5
    have pc0 : w'.cell? ⟨w.heap.size + 1, 0, none⟩ = some (.string { data := #[] }) := cell_block Hd1.out 0
    have pf0 : w'.frozen? ⟨w.heap.size + 1, 0, none⟩ = false := free_block Hd1.out 0
    have pc1 : w'.cell? ⟨w.heap.size + 1, 1, none⟩ = some (.string { data := #[] }) := cell_block Hd1.out 1
    have pf1 : w'.frozen? ⟨w.heap.size + 1, 1, none⟩ = false := free_block Hd1.out 1
    have pc2 : w'.cell? ⟨w.heap.size + 1, 2, none⟩ = some (.string { data := #[] }) := cell_block Hd1.out 2
    have pf2 : w'.frozen? ⟨w.heap.size + 1, 2, none⟩ = false := free_block Hd1.out 2
    have pc3 : w'.cell? ⟨w.heap.size + 1, 3, none⟩ = some (.slice none 0 0) := cell_block Hd1.out 3
    have pf3 : w'.frozen? ⟨w.heap.size + 1, 3, none⟩ = false := free_block Hd1.out 3
    have pc4 : w'.cell? ⟨w.heap.size + 1, 4, none⟩ = some (.slice none 0 0) := cell_block Hd1.out 4
    have pf4 : w'.frozen? ⟨w.heap.size + 1, 4, none⟩ = false := free_block Hd1.out 4
    have pc5 : w'.cell? ⟨w.heap.size + 1, 5, none⟩ = some (.slice none 0 0) := cell_block Hd1.out 5
    have pf5 : w'.frozen? ⟨w.heap.size + 1, 5, none⟩ = false := free_block Hd1.out 5
    have pc6 : w'.cell? ⟨w.heap.size + 1, 6, none⟩ = some (.bool false) := cell_block Hd1.out 6
    have pf6 : w'.frozen? ⟨w.heap.size + 1, 6, none⟩ = false := free_block Hd1.out 6
    have pc7 : w'.cell? ⟨w.heap.size + 1, 7, none⟩ = some (.string { data := #[] }) := cell_block Hd1.out 7
    have pf7 : w'.frozen? ⟨w.heap.size + 1, 7, none⟩ = false := free_block Hd1.out 7
    have pc8 : w'.cell? ⟨w.heap.size + 1, 8, none⟩ = some (.int .i64 0) := cell_block Hd1.out 8
    have pf8 : w'.frozen? ⟨w.heap.size + 1, 8, none⟩ = false := free_block Hd1.out 8
    have pc9 : w'.cell? ⟨w.heap.size + 1, 9, none⟩ = some (.string { data := #[] }) := cell_block Hd1.out 9
    have pf9 : w'.frozen? ⟨w.heap.size + 1, 9, none⟩ = false := free_block Hd1.out 9
    simp only [putAll, List.take_succ_cons, List.take_zero, List.drop_succ_cons, List.drop_zero]
    go_wp2_with fail
    refine bodyPost_ret (v := .agg #[.string k.kind, .string k.space, .string k.name, .slice a2 labels.length q2, .slice a5 owners.length q5, .slice a8 holds.length q8, .bool e, .string u, .int .i64 r, .string d]) ?_ rfl ⟨_, _, _, rfl, ?_, ?_, ?_, H85.out, ?_⟩
    · simp [results, Tryz.results65, go_sem, pc0, pc1, pc2, pc3, pc4, pc5, pc6, pc7, pc8, pc9]
    · have h := H2.out
      iterate 13 refine OwnAt.mono (OwnAt.setLow flat_label (B := w.heap.size + 2) ?_ (by simp) _) (by omega)
      exact h
    · have h := H5.out
      iterate 13 refine OwnAt.mono (OwnAt.setLow flat_string (B := w.heap.size + 2) ?_ (by simp) _) (by omega)
      exact h
    · have h := H8.out
      iterate 13 refine OwnAt.mono (OwnAt.setLow flat_string (B := w.heap.size + 2) ?_ (by simp) _) (by omega)
      exact h
    · iterate 13 refine Below.setCell ?_ (by simp) _
      exact hb2
end Go.Proofs.YtnnceaapodgfbaaGreatDoor
namespace Go.Proofs.YtnnceaapodgfbaaGreatDoor
open Go.RowKit
abbrev Dom := Nat → Prop
def Agree (D : Dom) (w w' : World) : Prop := ∀ b, D b → w'.heap[b]? = w.heap[b]?
theorem Agree.refl (D : Dom) (w : World) : Agree D w w := fun _ _ => rfl
theorem Agree.trans {D : Dom} {a b c : World} (h : Agree D a b) (k : Agree D b c) : Agree D a c := fun q hq => (k q hq).trans (h q hq)
theorem Agree.mono {D D' : Dom} {w w' : World} (h : Agree D w w') (hd : ∀ b, D' b → D b) : Agree D' w w' := fun b hb => h b (hd b hb)
structure Only (D : Dom) (w w' : World) : Prop where
  os : w'.os = w.os
  tape : w'.tape = w.tape
  output : w'.output = w.output
  size : w.heap.size ≤ w'.heap.size
  block : ∀ k, k < w.heap.size → ¬ D k → w'.heap[k]? = w.heap[k]?
section
variable {D D' E : Dom} {a w w' w'' : World}
theorem Only.refl (D : Dom) (w : World) : Only D w w := ⟨rfl, rfl, rfl, Nat.le_refl _, fun _ _ _ => rfl⟩
theorem Only.trans (h : Only D w w') (k : Only D' w' w'') (hd : ∀ b, D' b → b < w.heap.size → D b) : Only D w w'' :=
  ⟨k.os.trans h.os, k.tape.trans h.tape, k.output.trans h.output, Nat.le_trans h.size k.size, fun q hq hn => (k.block q (Nat.lt_of_lt_of_le hq h.size) fun h9 => hn (hd q h9 hq)).trans (h.block q hq hn)⟩
theorem Only.of (h : Below w.heap.size w w') : Only D w w' := ⟨h.os, h.tape, h.output, h.size, fun k hk _ => h.block k hk⟩
theorem Only.mono (h : Only D w w') (hd : ∀ b, D b → D' b) : Only D' w w' := ⟨h.os, h.tape, h.output, h.size, fun k hk hn => h.block k hk fun h9 => hn (hd k h9)⟩
theorem Only.then (h : Only D w w') (hb : Below w'.heap.size w' w'') : Only D w w'' :=
  ⟨hb.os.trans h.os, hb.tape.trans h.tape, hb.output.trans h.output, Nat.le_trans h.size hb.size, fun k hk hn => (hb.block k (Nat.lt_of_lt_of_le hk h.size)).trans (h.block k hk hn)⟩
theorem Only.after (hb : Below w.heap.size w w') (h : Only D w' w'') : Only D w w'' :=
  ⟨h.os.trans hb.os, h.tape.trans hb.tape, h.output.trans hb.output, Nat.le_trans hb.size h.size, fun k hk hn => (h.block k (Nat.lt_of_lt_of_le hk hb.size) hn).trans (hb.block k hk)⟩
theorem Only.touch {g : Nat} (h : Touch g w w') (hg : D g) : Only D w w' := ⟨h.os, h.tape, h.output, by rw [h.size]; exact Nat.le_refl _, fun k _ hn => h.other k fun e => hn (e ▸ hg)⟩
theorem Only.but {g : Nat} (h : But g w w') (hg : D g) : Only D w w' := ⟨h.os, h.tape, h.output, h.size, fun k hk hn => h.block k hk fun e => hn (e ▸ hg)⟩
theorem Only.grown {r : Option Nat} (h : w.grownBy w' r) (hg : ∀ g, r = some g → D g) : Only D w w' := ⟨h.os, h.tape, h.output, h.size, fun k hk hn => h.block k hk fun e => hn (hg k e.symm)⟩
theorem Only.agree (h : Only D w w') (hE : ∀ b, E b → b < w.heap.size ∧ ¬ D b) : Agree E w w' := fun b hb => h.block b (hE b hb).1 (hE b hb).2
theorem Only.below {B : Nat} (h : Only D w w') (hd : ∀ b, D b → B ≤ b) (hB : B ≤ w.heap.size) : Below B w w' :=
  ⟨h.os, h.tape, h.output, h.size, fun k hk => h.block k (by omega) fun h9 => by have := hd k h9; omega⟩
theorem Only.cell {p : Addr} (h : Only D w w') (hp : p.block < w.heap.size) (hn : ¬ D p.block) : w'.cell? p = w.cell? p := by unfold World.cell?; rw [h.block _ hp hn]
end
structure Fam {α : Type} (X : Dom → World → Rd α) : Prop where
  flat : ∀ D w, Flat (X D w)
  one : ∀ D w, OneR (X D w)
  agree : ∀ (D : Dom) (w w' u : World) (cs : List Value) (x : α), Agree D w w' → X D w u cs x → X D w' u cs x
  mono : ∀ (D D' : Dom) (w u : World) (cs : List Value) (x : α), (∀ b, D b → D' b) → X D w u cs x → X D' w u cs x
theorem fam_flat {α : Type} {R : Rd α} (h : Flat R) (h1 : OneR R) : Fam (fun _ _ => R) := ⟨fun _ _ => h, fun _ _ => h1, fun _ _ _ _ _ _ _ h => h, fun _ _ _ _ _ _ _ h => h⟩
def OwnX {α : Type} (X : Dom → World → Rd α) (k : Nat) (D : Dom) (w : World) (e : TypeId) (v : Value) (l : List α) : Prop :=
  OwnAt (X D w) k w 0 e v l ∧ ∀ b, v.ownBlock = some b → D b
section
variable {α β : Type} {X : Dom → World → Rd α} {k : Nat} {D D' : Dom} {w w' : World} {e : TypeId} {v : Value} {l : List α}
theorem OwnAt.imp' {R R' : Rd α} {B : Nat} (h : OwnAt R k w B e v l) (hi : ∀ cs x, x ∈ l → R w cs x → R' w cs x) : OwnAt R' k w B e v l := by
  obtain ⟨css, h1, h2, h3, h4⟩ := h
  exact ⟨css, h1, h2, h3, fun j cs x hcs hx => hi cs x (List.mem_of_getElem? hx) (h4 j cs x hcs hx)⟩
theorem OwnAt.stay {R : Rd α} {B : Nat} (hf : Flat R) (h : OwnAt R k w B e v l) (hb : ∀ b, v.ownBlock = some b → w'.heap[b]? = w.heap[b]?) : OwnAt R k w' B e v l := by
  obtain ⟨css, h1, h2, h3, h4⟩ := h
  refine ⟨css, h1, h2, ⟨h3.1, ?_⟩, fun j cs y hcs hy => hf _ _ _ _ (h4 j cs y hcs hy)⟩
  rcases h3.2 with h5 | ⟨q, cap, cur, rfl, hB, hh, hr⟩
  · exact .inl h5
  · exact .inr ⟨q, cap, cur, rfl, hB, (hb q rfl).trans hh, hr⟩
theorem OwnX.own (h : OwnX X k D w e v l) : OwnAt (X D w) k w 0 e v l := h.1
theorem OwnX.lt (h : OwnX X k D w e v l) {b : Nat} (hb : v.ownBlock = some b) : b < w.heap.size := (h.1.at hb).2.1
theorem OwnX.agree (hX : Fam X) (h : OwnX X k D w e v l) (ha : Agree D w w') : OwnX X k D w' e v l :=
  ⟨(h.1.stay (hX.flat D w) fun b hb => ha b (h.2 b hb)).imp' fun _ _ _ hx => hX.agree _ _ _ _ _ _ ha hx, h.2⟩
theorem OwnX.mono (hX : Fam X) (h : OwnX X k D w e v l) (hd : ∀ b, D b → D' b) : OwnX X k D' w e v l :=
  ⟨h.1.imp' fun _ _ _ hx => hX.mono _ _ _ _ _ _ hd hx, fun b hb => hd b (h.2 b hb)⟩
theorem OwnX.nil : OwnX X k D w e (.slice none 0 0) [] := ⟨OwnAt.nil _, fun b h => by cases h⟩
theorem OwnX.ofFlat {R : Rd α} {B : Nat} (h : OwnAt R k w B e v l) (hd : ∀ b, v.ownBlock = some b → D b) : OwnX (fun _ _ => R) k D w e v l := ⟨h.mono (Nat.zero_le _), hd⟩
end
end Go.Proofs.YtnnceaapodgfbaaGreatDoor
namespace Go.Proofs.YtnnceaapodgfbaaGreatDoor
open Go.RowKit
def okLab (x : GLabel) : Prop := x.key.size ≤ 1048576 ∧ x.val.size ≤ 1048576
theorem ret_int {a b : Int} (h : a = b) : Ending.returned (.int .i64 a) = .returned (.int .i64 b) := by rw [h]
end Go.Proofs.YtnnceaapodgfbaaGreatDoor
namespace Go.Proofs.YtnnceaapodgfbaaGreatDoor
open Go.RowKit
theorem zero_snoc {α : Type} {l : List α} {f : α → Int} {i : Nat} {x : α} (h : ∀ y ∈ l.take i, f y = 0) (hx : l[i]? = some x) (hf : f x = 0) : ∀ y ∈ l.take (i + 1), f y = 0 := fun y hy => by
  rw [List.take_add_one, hx] at hy
  rcases List.mem_append.1 hy with h1 | h1
  · exact h y h1
  · simp at h1; subst h1; exact hf
end Go.Proofs.YtnnceaapodgfbaaGreatDoor
namespace Go.Proofs.YtnnceaapodgfbaaGreatDoor
open Go.RowKit
theorem labZ_length (l : List GLabel) : (labZ l).length = l.length := by unfold labZ; simp
theorem labZ_get0 {l : List GLabel} {x : GLabel} (h : l[0]? = some x) : (labZ l)[0]? = some (none, x) := by
  unfold labZ
  rw [List.getElem?_zip_eq_some]
  exact ⟨rfl, h⟩
theorem labZ_get {l : List GLabel} {i : Nat} {x y : GLabel} (h : l[i + 1]? = some x) (hy : l[i]? = some y) : (labZ l)[i + 1]? = some (some y.key, x) := by
  unfold labZ
  rw [List.getElem?_zip_eq_some]
  exact ⟨by simp [hy], h⟩
theorem below_drew (B : Nat) (w : World) : Below B w w.drew := ⟨rfl, rfl, rfl, Nat.le_refl _, fun _ _ => rfl⟩
set_option maxRecDepth 100000 in
set_option maxHeartbeats 3200000 in
theorem labels_any (v : Value) (l : List GLabel) (m : Int) (w : World) (h : RowAt LabelR 2 w v l) (hl : l.length ≤ 1048576) (hok : ∀ r ∈ l, okLab r) (hm : MaxOK m w) :
    Calls Tryz.prog 54 #[v] w fun e w' => e = .returned (.int .i64 (labelsE l)) ∧ Below w.heap.size w w' := by
  obtain ⟨a1, c1, rfl, _, _⟩ := h.len
  obtain ⟨R, HR⟩ : ∃ R, Hid (labelsE l = R) := ⟨_, Lib.hid rfl⟩
  rw [HR.out]
  have hE : R = if 10 < l.length then 2 else errF labE (labZ l) := by rw [← HR.out]; rfl
  have HE := Lib.hid hE
  have H := Lib.hid h
  have Hm := Lib.hid hm
  have Hok := Lib.hid hok
  clear hE h hm hok
  by_cases h8 : 10 < l.length
  · have q0 : (10 : Int) < (l.length : Int) := by omega
    have HR4 : Hid (2 = R) := Lib.hid (by rw [HE.out, if_pos h8])
    clear h8
    go_enter Tryz.func54, Tryz.ntmps54
    go_wp2_with fail
    go_ret
    exact ⟨ret_int HR4.out, Below.refl _ _⟩
  · have q0 : ¬ (10 : Int) < (l.length : Int) := by omega
    have HR4 : Hid (R = errF labE (labZ l)) := Lib.hid (by rw [HE.out, if_neg h8])
    clear h8
    go_enter Tryz.func54, Tryz.ntmps54
    go_wp2_with fail
    go_loopg [12] l.length (fun k u12 wr => ∃ i : Nat, i + k = l.length ∧ u12 = .int .i64 (i : Int) ∧ Hid (∀ x ∈ (labZ l).take i, labE x = 0) ∧ Hid (Below w.heap.size w wr))
    case atStart => exact ⟨0, by omega, rfl, Lib.hid (by simp), Lib.hid (Below.refl _ _)⟩
    case round =>
      obtain ⟨i, hig, rfl, Hall, Hbel⟩ := hrel
      have hsr := Hbel.out.size
      cases gk with
      | zero =>
        obtain rfl : i = l.length := by omega
        have HR5 : Hid (0 = R) := Lib.hid (by
          rw [HR4.out, errF_none]
          intro x hx
          refine Hall.out x ?_
          rw [List.take_of_length_le (by rw [labZ_length]; exact Nat.le_refl _)]; exact hx)
        go_wp2_with fail
        go_ret
        exact ⟨ret_int HR5.out, Hbel.out⟩
      | succ k =>
        have hil : i < l.length := by omega
        obtain ⟨x, hxi⟩ : ∃ x, l[i]? = some x := ⟨l[i]'(by omega), List.getElem?_eq_getElem _⟩
        obtain ⟨b, o, c', hv, _, _, hbs, hcell⟩ := H.out.form (by omega) (by omega)
        injection hv with u1 u2 u3
        subst u1
        clear u2 u3
        obtain ⟨ds, _, hcc, hR⟩ := hcell i x hxi
        obtain rfl : ds = [.string x.key, .string x.val] := hR
        have e0 : wr.cell? ⟨b, o + i * 2, none⟩ = some (.string x.key) := (Hbel.out.cell (p := ⟨b, _, none⟩) hbs).trans (by simpa using hcc 0 _ rfl)
        have e1 : wr.cell? ⟨b, o + i * 2 + 1, none⟩ = some (.string x.val) := (Hbel.out.cell (p := ⟨b, _, none⟩) hbs).trans (hcc 1 _ rfl)
        have q1 : (0 : Int) ≤ (i : Int) := by omega
        have q2 : (i : Int) < (l.length : Int) := by omega
        have Hxi := Lib.hid hxi
        -- the label ahead of it
        have hprev : ∃ p, (labZ l)[i]? = some (p, x) ∧ ((i = 0 ∧ p = none) ∨ ∃ y : GLabel, 0 < i ∧ p = some y.key ∧ w.cell? ⟨b, o + (i - 1) * 2, none⟩ = some (.string y.key)) := by
          cases i with
          | zero => exact ⟨none, labZ_get0 hxi, .inl ⟨rfl, rfl⟩⟩
          | succ j =>
            obtain ⟨y, hy⟩ : ∃ y, l[j]? = some y := ⟨l[j]'(by omega), List.getElem?_eq_getElem _⟩
            obtain ⟨ds, _, hcc2, hR2⟩ := hcell j y hy
            obtain rfl : ds = [.string y.key, .string y.val] := hR2
            exact ⟨some y.key, labZ_get hxi hy, .inr ⟨y, by omega, rfl, by simpa using hcc2 0 _ rfl⟩⟩
        obtain ⟨p, hzi, hp⟩ := hprev
        have Hzi := Lib.hid hzi
        have Hp := Lib.hid hp
        have Hlab : Hid (labE (p, x) = if keyE x.key ≠ 0 then keyE x.key else if valE x.val ≠ 0 then valE x.val else prevE p x.key) := Lib.hid rfl
        obtain ⟨ok1, ok2⟩ := Hok.out x (List.mem_of_getElem? hxi)
        clear hcc hcell hxi hzi hp
        go_upto_region 6 with fail
        obtain ⟨W, hW⟩ : ∃ W, W = wr.alloc (.cells #[.string x.key, .string x.val] 66) := ⟨_, rfl⟩
        obtain ⟨gb, hgb⟩ : ∃ gb, gb = wr.heap.size := ⟨_, rfl⟩
        rw [← hW, ← hgb]
        have c0 : W.heap[gb]? = some (.cells #[.string x.key, .string x.val] 66 (0, 0)) := by rw [hW, hgb]; exact heap_alloc_new wr _
        have hb5 : Below wr.heap.size wr W := by rw [hW]; exact (Below.refl _ _).alloc (Nat.le_refl _) _
        have HW := Lib.hid (Hbel.out.trans (hb5.mono hsr))
        have Hc0 := Lib.hid c0
        have cc := fun i => cell_block c0 i
        clear hW hgb hb5 c0 e0 e1
        go_wp2_with fail
        refine (checkKey_any x.key m W (by omega) (Hm.out.below HW.out)).mono ?_
        rintro E w3 ⟨rfl, hb3⟩
        have Hb3 := Lib.hid (HW.out.trans (hb3.mono HW.out.size))
        have c3 := below_block hb3 Hc0.out
        have Hc3 := Lib.hid c3
        clear hb3 cc
        have cc := fun i => cell_block c3 i
        clear c3
        obtain ⟨kE, HkE⟩ : ∃ kE, Hid (NameP.checkKey x.key.data.toList = kE) := ⟨_, Lib.hid rfl⟩
        rw [HkE.out]
        have hk1 : keyE x.key = kE := HkE.out
        have Hk1 := Lib.hid hk1
        clear hk1
        by_cases hr0 : kE = 0
        · subst hr0
          go_wp2_with fail
          refine (checkVal_any x.val _ (by omega)).mono ?_
          rintro E w' ⟨rfl, rfl⟩
          obtain ⟨vE, HvE⟩ : ∃ vE, Hid (NameP.checkVal x.val.data.toList = vE) := ⟨_, Lib.hid rfl⟩
          rw [HvE.out]
          have hv1 : valE x.val = vE := HvE.out
          have Hv1 := Lib.hid hv1
          clear hv1
          by_cases hv0 : vE = 0
          · subst hv0
            have hl2 : labE (p, x) = prevE p x.key := by rw [Hlab.out, if_neg (by rw [Hk1.out]; simp), if_neg (by rw [Hv1.out]; simp)]
            have Hl2 := Lib.hid hl2
            clear hl2
            go_upto_region 12 with fail
            rcases Hp.out with ⟨hi0, rfl⟩ | ⟨y, hi0, rfl, hy⟩
            · subst hi0
              have hl3 : labE (none, x) = 0 := Hl2.out
              have Hall2 := Lib.hid (zero_snoc Hall.out Hzi.out hl3)
              clear hl3
              go_region
              go_wp2_with fail
              go_roundg k
              case measure => omega
              case rel => exact ⟨1, by omega, by go_num, Hall2, Lib.hid (Hb3.out.trans (below_drew _ _))⟩
            · have q5 : (0 : Int) ≤ (i : Int) - 1 := by omega
              have q6 : (i : Int) - 1 < (l.length : Int) := by omega
              have q7 : (0 : Int) < (i : Int) := by omega
              have f0 : w3.cell? ⟨b, o + (i - 1) * 2, none⟩ = some (.string y.key) := (Hb3.out.cell (p := ⟨b, _, none⟩) hbs).trans hy
              clear hy
              cases hless : Op.bytesLess y.key.toList x.key.toList with
              | true =>
                have hl3 : labE (some y.key, x) = 0 := by rw [Hl2.out]; show (if Op.bytesLess y.key.toList x.key.toList = true then (0 : Int) else 1) = _; rw [hless]; rfl
                have Hall2 := Lib.hid (zero_snoc Hall.out Hzi.out hl3)
                clear hl3
                go_region
                go_wp2_with fail
                go_roundg k
                case measure => omega
                case rel => exact ⟨i + 1, by omega, by go_num, Hall2, Lib.hid (Hb3.out.trans (below_drew _ _))⟩
              | false =>
                have hl3 : labE (some y.key, x) = 1 := by rw [Hl2.out]; show (if Op.bytesLess y.key.toList x.key.toList = true then (0 : Int) else 1) = _; rw [hless]; rfl
                have HR5 : Hid (1 = R) := Lib.hid (by rw [HR4.out, errF_at Hzi.out Hall.out (by rw [hl3]; decide)]; exact hl3.symm)
                clear hl3
                go_region
                go_wp2_with fail
                go_ret
                exact ⟨ret_int HR5.out, Hb3.out.trans (below_drew _ _)⟩
          · have q3 : (vE == 0) = false := by rw [beq_eq_false_iff_ne]; exact hv0
            have q4 : (vE != 0) = true := by rw [bne_iff_ne]; exact hv0
            have hlab : labE (p, x) = vE := by rw [Hlab.out, if_neg (by rw [Hk1.out]; simp), if_pos (by rw [Hv1.out]; exact hv0)]; exact Hv1.out
            have HR5 : Hid (vE = R) := Lib.hid (by rw [HR4.out, errF_at Hzi.out Hall.out (by rw [hlab]; exact hv0)]; exact hlab.symm)
            clear hv0 hlab
            go_wp2_with fail
            go_ret
            exact ⟨ret_int HR5.out, Hb3.out⟩
        · have q3 : (kE == 0) = false := by rw [beq_eq_false_iff_ne]; exact hr0
          have q4 : (kE != 0) = true := by rw [bne_iff_ne]; exact hr0
          have hlab : labE (p, x) = kE := by rw [Hlab.out, if_pos (by rw [Hk1.out]; exact hr0)]; exact Hk1.out
          have HR5 : Hid (kE = R) := Lib.hid (by rw [HR4.out, errF_at Hzi.out Hall.out (by rw [hlab]; exact hr0)]; exact hlab.symm)
          clear hr0 hlab
          go_wp2_with fail
          go_ret
          exact ⟨ret_int HR5.out, Hb3.out⟩
end Go.Proofs.YtnnceaapodgfbaaGreatDoor
namespace Go.Proofs.YtnnceaapodgfbaaGreatDoor
namespace Sto
open Go.RowKit
def objCs (x : GObject) (v1 v2 v3 : Value) : List Value := [.string x.okey.kind, .string x.okey.space, .string x.okey.name, v1, v2, v3, .bool x.ending, .string x.uid, .int .i64 x.rev, .string x.doc]
def objW (x : GObject) (v1 v2 v3 : Value) : Value := objV x.okey v1 v2 v3 x.ending x.uid x.rev x.doc
abbrev LabF : Dom → World → Rd GLabel := fun _ _ => LabelR
abbrev StrF : Dom → World → Rd ByteArray := fun _ _ => RString
theorem flat_label : Flat LabelR := fun _ _ _ _ h => h
theorem one_label : OneR LabelR := fun _ _ _ h u hu => by
  rw [h] at hu
  simp only [List.mem_cons, List.not_mem_nil, or_false] at hu
  rcases hu with rfl | rfl <;> rfl
theorem famLab : Fam LabF := fam_flat flat_label one_label
theorem famStr : Fam StrF := fam_flat flat_string one_string
structure ObjIn (D : Dom) (w : World) (v1 v2 v3 : Value) (x : GObject) : Prop where
  labels : OwnX LabF 2 D w 66 v1 x.labels
  owners : OwnX StrF 1 D w 9 v2 x.owners
  holds : OwnX StrF 1 D w 9 v3 x.holds
section
variable {D D' : Dom} {w w' : World} {v1 v2 v3 : Value} {x : GObject}
theorem ObjIn.agree (h : ObjIn D w v1 v2 v3 x) (ha : Agree D w w') : ObjIn D w' v1 v2 v3 x := ⟨h.labels.agree famLab ha, h.owners.agree famStr ha, h.holds.agree famStr ha⟩
theorem ObjIn.mono (h : ObjIn D w v1 v2 v3 x) (hd : ∀ b, D b → D' b) : ObjIn D' w v1 v2 v3 x := ⟨h.labels.mono famLab hd, h.owners.mono famStr hd, h.holds.mono famStr hd⟩
theorem ObjIn.rowL (h : ObjIn D w v1 v2 v3 x) : RowAt LabelR 2 w v1 x.labels := h.labels.own.row
theorem ObjIn.rowO (h : ObjIn D w v1 v2 v3 x) : StrAt w v2 x.owners := h.owners.own.row.strs
theorem ObjIn.rowH (h : ObjIn D w v1 v2 v3 x) : StrAt w v3 x.holds := h.holds.own.row.strs
theorem own_one {α : Type} {R : Rd α} {k B : Nat} {e : TypeId} {v : Value} {l : List α} (h : OwnAt R k w B e v l) : v.oneCell' = true := by
  rcases h.form with ⟨e, _⟩ | ⟨g, c, e, _⟩ <;> rw [e] <;> rfl
theorem ObjIn.ones (h : ObjIn D w v1 v2 v3 x) : ∀ u ∈ objCs x v1 v2 v3, u.oneCell' = true := fun u hu => by
  unfold objCs at hu
  simp only [List.mem_cons, List.not_mem_nil, or_false] at hu
  rcases hu with rfl | rfl | rfl | rfl | rfl | rfl | rfl | rfl | rfl | rfl
  · rfl
  · rfl
  · rfl
  · exact own_one h.labels.own
  · exact own_one h.owners.own
  · exact own_one h.holds.own
  · rfl
  · rfl
  · rfl
  · rfl
theorem ObjIn.other {y : GObject} (h : ObjIn D w v1 v2 v3 x) (h1 : y.labels = x.labels) (h2 : y.owners = x.owners) (h3 : y.holds = x.holds) : ObjIn D w v1 v2 v3 y := ⟨h1 ▸ h.labels, h2 ▸ h.owners, h3 ▸ h.holds⟩
end
def i64 (n : Int) : Prop := (Lit.int .i64 n).wf = true
def VerX (D : Dom) (w : World) : Rd GEvent := fun _ cs x => ∃ v1 v2 v3, cs = .int .i64 x.rev :: (objCs x.object v1 v2 v3 ++ [.bool (decide (x.kind = 3))]) ∧ ObjIn D w v1 v2 v3 x.object
def EvX (D : Dom) (w : World) : Rd GEvent := fun _ cs x => ∃ v1 v2 v3, cs = .int .i64 x.kind :: .int .i64 x.rev :: objCs x.object v1 v2 v3 ∧ ObjIn D w v1 v2 v3 x.object
theorem famVer : Fam VerX :=
  ⟨fun _ _ _ _ _ _ h => h, fun _ _ _ cs x ⟨v1, v2, v3, h1, h2⟩ u hu => by
    rw [h1] at hu
    rcases List.mem_cons.1 hu with rfl | hu
    · rfl
    · rcases List.mem_append.1 hu with hu | hu
      · exact h2.ones u hu
      · rw [List.mem_singleton] at hu; rw [hu]; rfl,
   fun _ _ _ _ _ _ ha ⟨v1, v2, v3, h1, h2⟩ => ⟨v1, v2, v3, h1, h2.agree ha⟩, fun _ _ _ _ _ _ hd ⟨v1, v2, v3, h1, h2⟩ => ⟨v1, v2, v3, h1, h2.mono hd⟩⟩
theorem famEv : Fam EvX :=
  ⟨fun _ _ _ _ _ _ h => h, fun _ _ _ cs x ⟨v1, v2, v3, h1, h2⟩ u hu => by
    rw [h1] at hu
    rcases List.mem_cons.1 hu with rfl | hu
    · rfl
    · rcases List.mem_cons.1 hu with rfl | hu
      · rfl
      · exact h2.ones u hu,
   fun _ _ _ _ _ _ ha ⟨v1, v2, v3, h1, h2⟩ => ⟨v1, v2, v3, h1, h2.agree ha⟩, fun _ _ _ _ _ _ hd ⟨v1, v2, v3, h1, h2⟩ => ⟨v1, v2, v3, h1, h2.mono hd⟩⟩
structure StoreIn (M I : Dom) (w : World) (g mb n : Nat) (f : GKey → Option Value) (vlog : Value) (S : St) : Prop where
  gM : M g
  mbM : M mb
  apart : ∀ b, M b → ¬ I b
  low : ∀ b, M b ∨ I b → b < w.heap.size
  box : w.heap[g]? = some (.cells #[.int .i64 S.rev, .int .i64 S.comp, .map (some mb), .int .i64 (live S.log), vlog] 110 (0, 0))
  map : MapK keyC w mb n f
  many : n ≤ S.rev
  chain : ∀ k v, f k = some v → OwnAt (VerX I w) 12 w 0 163 v (hits S.log k) ∧ ∀ b, v.ownBlock = some b → M b
  no : ∀ k, f k = none → hits S.log k = []
  own : ∀ k k' v v', f k = some v → f k' = some v' → k ≠ k' → ∀ b, v.ownBlock = some b → v'.ownBlock ≠ some b
  log : OwnAt (EvX I w) 12 w 0 56 vlog S.log
  logM : ∀ b, vlog.ownBlock = some b → M b
def StoreAt (D : Dom) (w : World) (g : Nat) (S : St) : Prop := ∃ M I mb n f vlog, StoreIn M I w g mb n f vlog S ∧ ∀ b, D b ↔ M b ∨ I b
section
variable {M I D D' : Dom} {w w' : World} {g mb n : Nat} {f : GKey → Option Value} {vlog : Value} {S : St}
theorem StoreIn.agree (h : StoreIn M I w g mb n f vlog S) (ha : Agree (fun b => M b ∨ I b) w w') (hs : w.heap.size ≤ w'.heap.size) : StoreIn M I w' g mb n f vlog S := by
  have hI : Agree I w w' := ha.mono fun b hb => .inr hb
  have hM : ∀ b, M b → w'.heap[b]? = w.heap[b]? := fun b hb => ha b (.inl hb)
  refine ⟨h.gM, h.mbM, h.apart, fun b hb => Nat.lt_of_lt_of_le (h.low b hb) hs, (hM g h.gM).trans h.box, h.map.block (hM mb h.mbM), h.many, fun k v hk => ?_, h.no, h.own, ?_, h.logM⟩
  · obtain ⟨h1, h2⟩ := h.chain k v hk
    exact ⟨((h1.stay (famVer.flat I w) fun b hb => hM b (h2 b hb)).imp' fun _ _ _ hx => famVer.agree _ _ _ _ _ _ hI hx), h2⟩
  · exact (h.log.stay (famEv.flat I w) fun b hb => hM b (h.logM b hb)).imp' fun _ _ _ hx => famEv.agree _ _ _ _ _ _ hI hx
theorem StoreAt.agree (h : StoreAt D w g S) (ha : Agree D w w') (hs : w.heap.size ≤ w'.heap.size) : StoreAt D w' g S :=
  let ⟨M, I, mb, n, f, vlog, h1, h2⟩ := h
  ⟨M, I, mb, n, f, vlog, h1.agree (ha.mono fun b hb => (h2 b).2 hb) hs, h2⟩
theorem StoreIn.belowW (h : StoreIn M I w g mb n f vlog S) (hb : Below w.heap.size w w') : StoreIn M I w' g mb n f vlog S := h.agree (fun b hM => hb.block b (h.low b hM)) hb.size
theorem StoreAt.belowW (h : StoreAt D w g S) (hb : Below w.heap.size w w') : StoreAt D w' g S :=
  let ⟨M, I, mb, n, f, vlog, h1, h2⟩ := h
  ⟨M, I, mb, n, f, vlog, h1.belowW hb, h2⟩
theorem StoreAt.box (h : StoreAt D w g S) : ∃ mb vlog, w.heap[g]? = some (.cells #[.int .i64 S.rev, .int .i64 S.comp, .map (some mb), .int .i64 (live S.log), vlog] 110 (0, 0)) :=
  let ⟨_, _, mb, _, _, vlog, h1, _⟩ := h
  ⟨mb, vlog, h1.box⟩
theorem StoreAt.low (h : StoreAt D w g S) {b : Nat} (hb : D b) : b < w.heap.size := let ⟨_, _, _, _, _, _, h1, h2⟩ := h; h1.low b ((h2 b).1 hb)
theorem StoreAt.lt (h : StoreAt D w g S) : g < w.heap.size := let ⟨_, _, _, _, _, _, h1, _⟩ := h; h1.low g (.inl h1.gM)
end
structure OkObj (x : GObject) : Prop where
  kind : x.okey.kind.size ≤ 1048576
  space : x.okey.space.size ≤ 1048576
  name : x.okey.name.size ≤ 1048576
  labels : x.labels.length ≤ 1048576 ∧ ∀ r ∈ x.labels, okLab r
  owners : x.owners.length ≤ 1048576 ∧ ∀ s ∈ x.owners, s.size ≤ 1048576
  holds : x.holds.length ≤ 1048576 ∧ ∀ s ∈ x.holds, s.size ≤ 1048576
  uid : x.uid.size ≤ 1048576
  rev : i64 x.rev
  doc : x.doc.size ≤ 1048576
structure OkSt (S : St) : Prop where
  obj : ∀ e ∈ S.log, OkObj e.object
  rev : S.rev ≤ 4194304
  good : Good S
end Sto
end Go.Proofs.YtnnceaapodgfbaaGreatDoor
namespace Go.Proofs.YtnnceaapodgfbaaGreatDoor
namespace Sto
open Go.RowKit
theorem drewB {B : Nat} {a w : World} (h : Below B a w) (n : Nat) : Below B a (w.drewN n) := ⟨h.os, h.tape, h.output, h.size, h.block⟩
theorem Tryz.sizeObj : (Tryz.prog.info? 30).map (·.size) = some 10 := by kernel_rfl
theorem Tryz.zeroVers (w : World) : (zeroValue 159).run Tryz.prog w = .ok (.slice none 0 0) w := by kernel_rfl
set_option maxRecDepth 100000 in
theorem time_any {D : Dom} {g : Nat} {S : St} {w : World} (h : StoreAt D w g S) (rev : Int) : Calls Tryz.prog 48 #[.pointer (some ⟨g, 0, none⟩), .int .i64 rev] w fun e w' => e = .returned (.tuple #[.int .i64 (timeT S rev), .int .i64 (timeE S rev)]) ∧ w = w' := by
  obtain ⟨mb, vlog, hb⟩ := h.box
  have cc := fun i => cell_block hb i
  obtain ⟨T, HT⟩ : ∃ T, Hid (timeT S rev = T) := ⟨_, Lib.hid rfl⟩
  obtain ⟨E, HE⟩ : ∃ E, Hid (timeE S rev = E) := ⟨_, Lib.hid rfl⟩
  rw [HT.out, HE.out]
  obtain ⟨n, hn⟩ : ∃ n, S.rev = n := ⟨_, rfl⟩
  obtain ⟨c, hc⟩ : ∃ c, S.comp = c := ⟨_, rfl⟩
  rw [hn, hc] at cc
  have HTE : Hid (E = if rev < 0 ∨ (n : Int) < rev then 1 else if rev = 0 then 0 else if rev < c then 13 else 0) := Lib.hid (by rw [← HE.out, ← hn, ← hc]; rfl)
  have HTT : Hid (T = if E ≠ 0 then 0 else if rev = 0 then n else rev.toNat) := Lib.hid (by rw [← HT.out, ← HE.out, ← hn]; rfl)
  clear h hb HT HE hn hc
  by_cases h1 : rev < 0
  · have e1 : E = 1 := by rw [HTE.out, if_pos (.inl h1)]
    have e2 : T = 0 := by rw [HTT.out, e1]; rfl
    subst e1 e2
    clear HTE HTT
    go_enter Tryz.func48, Tryz.ntmps48
    go_wp2_with fail
    go_ret2
    exact ⟨rfl, rfl⟩
  · by_cases h2 : (n : Int) < rev
    · have e1 : E = 1 := by rw [HTE.out, if_pos (.inr h2)]
      have e2 : T = 0 := by rw [HTT.out, e1]; rfl
      subst e1 e2
      clear HTE HTT
      go_enter Tryz.func48, Tryz.ntmps48
      go_wp2_with fail
      go_ret2
      exact ⟨rfl, rfl⟩
    · have hno : ¬ (rev < 0 ∨ (n : Int) < rev) := by omega
      by_cases h3 : rev = 0
      · subst h3
        have e1 : E = 0 := by rw [HTE.out, if_neg hno, if_pos rfl]
        have e2 : T = n := by rw [HTT.out, e1]; rfl
        subst e1 e2
        clear HTE HTT hno h1
        go_enter Tryz.func48, Tryz.ntmps48
        go_wp2_with fail
        go_ret2
        exact ⟨rfl, rfl⟩
      · have q3 : (rev == 0) = false := by rw [beq_eq_false_iff_ne]; exact h3
        by_cases h4 : rev < c
        · have e1 : E = 13 := by rw [HTE.out, if_neg hno, if_neg h3, if_pos h4]
          have e2 : T = 0 := by rw [HTT.out, e1]; rfl
          subst e1 e2
          clear HTE HTT hno h3
          go_enter Tryz.func48, Tryz.ntmps48
          go_wp2_with fail
          go_ret2
          exact ⟨rfl, rfl⟩
        · have e1 : E = 0 := by rw [HTE.out, if_neg hno, if_neg h3, if_neg h4]
          have e2 : (T : Int) = rev := by rw [HTT.out, e1, if_neg (fun h => h rfl), if_neg h3]; omega
          subst e1
          rw [e2]
          clear HTE HTT hno h3 e2
          go_enter Tryz.func48, Tryz.ntmps48
          go_wp2_with fail
          go_ret2
          exact ⟨rfl, rfl⟩
theorem StoreIn.turn {M I : Dom} {w w' : World} {g mb n : Nat} {f : GKey → Option Value} {vlog : Value} {S S' : St} (h : StoreIn M I w g mb n f vlog S) (ht : Touch g w w') (hl : S'.log = S.log)
    (hb : w'.heap[g]? = some (.cells #[.int .i64 S'.rev, .int .i64 S'.comp, .map (some mb), .int .i64 (live S'.log), vlog] 110 (0, 0))) : StoreIn M I w' g mb n f vlog S' := by
  have hI : Agree I w w' := fun b hb => ht.other b fun e => h.apart g h.gM (e ▸ hb)
  refine ⟨h.gM, h.mbM, h.apart, fun b hb => by rw [ht.size]; exact h.low b hb, hb, h.map.block (ht.other mb (h.map.ne h.box)), by unfold St.rev; rw [hl]; exact h.many, fun k v hk => ?_, fun k hk => by rw [hl]; exact h.no k hk, h.own, ?_, h.logM⟩
  · obtain ⟨h1, h2⟩ := h.chain k v hk
    rw [hl]
    refine ⟨(h1.stay (famVer.flat I w) fun b hq => ht.other b fun e => ?_).imp' fun _ _ _ hx => famVer.agree _ _ _ _ _ _ hI hx, h2⟩
    obtain ⟨_, _, cur, hc⟩ := h1.at hq
    rw [e, h.box] at hc; cases hc
  · rw [hl]
    refine (h.log.stay (famEv.flat I w) fun b hq => ht.other b fun e => ?_).imp' fun _ _ _ hx => famEv.agree _ _ _ _ _ _ hI hx
    obtain ⟨_, _, cur, hc⟩ := h.log.at hq
    rw [e, h.box] at hc; cases hc
end Sto
end Go.Proofs.YtnnceaapodgfbaaGreatDoor
namespace Go.Proofs.YtnnceaapodgfbaaGreatDoor
namespace Sto
open Go.RowKit
def nilS : Value := .slice none 0 0
def noW : Value := objW noObj nilS nilS nilS
def noA : Array Value := #[.string { data := #[] }, .string { data := #[] }, .string { data := #[] }, .slice none 0 0, .slice none 0 0, .slice none 0 0, .bool false, .string { data := #[] }, .int .i64 0, .string { data := #[] }]
theorem objA_ones {D : Dom} {w : World} {v1 v2 v3 : Value} {x : GObject} (h : ObjIn D w v1 v2 v3 x) : (objCs x v1 v2 v3).toArray.all (·.oneCell') = true := by
  rw [List.all_toArray]
  exact List.all_eq_true.2 h.ones
theorem StoreIn.look {M I : Dom} {w : World} {g mb n : Nat} {f : GKey → Option Value} {vlog : Value} {S : St} (h : StoreIn M I w g mb n f vlog S) (k : GKey) (hk : okKey k) :
    ∃ va vn vc, (∀ w', Below w.heap.size w w' → (Instr.lookup 108 (.map (some mb)) (keyV k) false).run Tryz.prog w' = .ok (.slice va vn vc) w') ∧ vn = (hits S.log k).length ∧ OwnAt (VerX I w) 12 w 0 163 (.slice va vn vc) (hits S.log k) := by
  have hl := fun w' (hb : Below w.heap.size w w') => ((h.map.belowW hb).look (t := 108) (e := 159) Tryz.underlying108 (Tryz.zeroVers w') k hk).2
  cases hf : f k with
  | none =>
    rw [hf] at hl
    have h1 := h.no k hf
    exact ⟨none, 0, 0, hl, by rw [h1]; rfl, by rw [h1]; exact OwnAt.nil _⟩
  | some v =>
    rw [hf] at hl
    have h1 := (h.chain k v hf).1
    obtain ⟨va, vc, rfl, -, -⟩ := h1.row.len
    exact ⟨va, _, vc, hl, rfl, h1⟩
theorem curL_last {l : List GEvent} {k : GKey} {e : GEvent} (h : (hits l k).getLast? = some e) : cur l k = shown e := by unfold cur shown; rw [h]
end Sto
end Go.Proofs.YtnnceaapodgfbaaGreatDoor
namespace Go.Proofs.YtnnceaapodgfbaaGreatDoor
namespace Sto
open Go.RowKit
def cmpI (a b : Int) : Int := if a < b then -1 else if b < a then 1 else 0
theorem nan_any (x : Int) (w : World) : Calls Tryz.prog 111 #[.int .i64 x] w fun e w' => e = .returned (.bool false) ∧ w = w' := by
  go_enter Tryz.func111, Tryz.ntmps111
  go_wp2_with fail
  go_ret
  exact ⟨by simp, rfl⟩
theorem cmpI_any (a b : Int) (w : World) : Calls Tryz.prog 85 #[.int .i64 a, .int .i64 b] w fun e w' => e = .returned (.int .i64 (cmpI a b)) ∧ w = w' := by
  have H := fun x (w : World) => Lib.hid (nan_any x w)
  go_enter Tryz.func85, Tryz.ntmps85
  go_wp2_with fail
  refine (H a w).out.mono ?_
  rintro E w1 ⟨rfl, rfl⟩
  go_wp2_with fail
  refine (H b w).out.mono ?_
  rintro E w1 ⟨rfl, rfl⟩
  by_cases h1 : a < b
  · have hc : Hid (cmpI a b = -1) := Lib.hid (by unfold cmpI; rw [if_pos h1])
    go_wp2_with fail
    go_ret
    exact ⟨by rw [hc.out]; rfl, rfl⟩
  · by_cases h2 : b < a
    · have hc : Hid (cmpI a b = 1) := Lib.hid (by unfold cmpI; rw [if_neg h1, if_pos h2])
      go_wp2_with fail
      go_ret
      exact ⟨by rw [hc.out]; rfl, rfl⟩
    · have hc : Hid (cmpI a b = 0) := Lib.hid (by unfold cmpI; rw [if_neg h1, if_neg h2])
      go_wp2_with fail
      go_ret
      exact ⟨by rw [hc.out]; rfl, rfl⟩
theorem at1_any (a rev : Int) (v0 v1 v2 v3 v4 v5 v6 v7 v8 v9 v10 : Value) (w : World) : Calls Tryz.prog 84 #[.agg #[.int .i64 a, v0, v1, v2, v3, v4, v5, v6, v7, v8, v9, v10], .int .i64 rev] w fun e w' => e = .returned (.int .i64 (cmpI a rev)) ∧ Below w.heap.size w w' := by
  have H := fun (w : World) => Lib.hid (cmpI_any a rev w)
  go_enter Tryz.func84, Tryz.ntmps84
  go_wp2_with fail
  refine (H _).out.mono ?_
  rintro E w1 ⟨rfl, rfl⟩
  go_wp2_with fail
  go_ret
  refine ⟨rfl, ?_⟩
  exact (Below.refl _ w).alloc (Nat.le_refl _) _
theorem cmpI_neg {a b : Int} : cmpI a b < 0 ↔ a < b := by unfold cmpI; (repeat' split) <;> omega
theorem cmpI_nil {a b : Int} : cmpI a b = 0 ↔ a = b := by unfold cmpI; (repeat' split) <;> omega
theorem ver_cells {I : Dom} {w w' : World} {va : Option Addr} {vn vc : Nat} {T : TypeId} {vs : List GEvent} (h : OwnAt (VerX I w) 12 w 0 T (.slice va vn vc) vs) (hn : vn = vs.length) (hb : Below w.heap.size w w') {m : Nat} {e : GEvent} (he : vs[m]? = some e) :
    ∃ b o v1 v2 v3, va = some ⟨b, o, none⟩ ∧ ObjIn I w v1 v2 v3 e.object ∧ ∀ i u, (Value.int .i64 e.rev :: (objCs e.object v1 v2 v3 ++ [.bool (decide (e.kind = 3))]))[i]? = some u → w'.cell? ⟨b, o + m * 12 + i, none⟩ = some u := by
  have hm := (List.getElem?_eq_some_iff.1 he).1
  obtain ⟨b, o, c', hv, _, _, hbs, hcell⟩ := h.row.form (by omega) (by omega)
  injection hv with u1 u2 u3
  obtain ⟨ds, _, hcc, v1, v2, v3, rfl, hobj⟩ := hcell m e he
  exact ⟨b, o, v1, v2, v3, u1, hobj, fun i u hu => (hb.cell (p := ⟨b, _, none⟩) hbs).trans (hcc i u hu)⟩
set_option maxRecDepth 100000 in
set_option maxHeartbeats 1600000 in
theorem bsearch_any {I : Dom} {w : World} {va : Option Addr} {vn vc : Nat} {T : TypeId} {vs : List GEvent} (h : OwnAt (VerX I w) 12 w 0 T (.slice va vn vc) vs) (hn : vn = vs.length) (hsz : vn ≤ 4194304) (hrise : ∀ (a b : Nat) (x y : GEvent), a < b → vs[a]? = some x → vs[b]? = some y → x.rev < y.rev) (rev : Int) :
    Calls Tryz.prog 83 #[.slice va vn vc, .int .i64 rev, .func (.func 84) #[] #[]] w fun e w' => Below w.heap.size w w' ∧ ∃ i is, e = .returned (.tuple #[.int .i64 (i : Nat), .bool is]) ∧ i ≤ vn ∧ (∀ t x, t < i → vs[t]? = some x → x.rev < rev) ∧ (∀ t x, i ≤ t → vs[t]? = some x → rev ≤ x.rev) ∧ (is = true ↔ ∃ x, vs[i]? = some x ∧ x.rev = rev) := by
  have HR := Lib.hid h
  have HM := Lib.hid hrise
  have HN := Lib.hid hn
  clear h hrise
  clear hn
  go_enter Tryz.func83, Tryz.ntmps83
  go_wp2_with fail
  go_loopg [9, 10] vn (fun kx s9 s10 wr => ∃ lo hi : Nat, s9 = .int .i64 lo ∧ s10 = .int .i64 hi ∧ lo ≤ hi ∧ hi ≤ vn ∧ hi - lo ≤ kx ∧ Hid (Below w.heap.size w wr) ∧ Hid ((∀ t x, t < lo → vs[t]? = some x → x.rev < rev) ∧ (∀ t x, hi ≤ t → vs[t]? = some x → rev ≤ x.rev)))
  case atStart => exact ⟨0, vn, rfl, rfl, Nat.zero_le _, Nat.le_refl _, by omega, Lib.hid (Below.refl _ w), Lib.hid ⟨fun t x ht => absurd ht (Nat.not_lt_zero _), fun t x h1 h2 => by have := (List.getElem?_eq_some_iff.1 h2).1; have := HN.out; omega⟩⟩
  case round =>
    obtain ⟨lo, hi, rfl, rfl, hlh, hin, hg, HB, HF⟩ := hrel
    by_cases hlt : lo < hi
    · obtain ⟨md, Hmd⟩ : ∃ md : Nat, Hid (md = (lo + hi) / 2) := ⟨_, Lib.hid rfl⟩
      have m1 : lo ≤ md ∧ md < hi := by have := Hmd.out; omega
      obtain ⟨e, he⟩ : ∃ e, vs[md]? = some e := ⟨vs[md]'(by have := HN.out; omega), List.getElem?_eq_getElem _⟩
      obtain ⟨b, o, v1, v2, v3, hva, hobj, ec⟩ := ver_cells HR.out HN.out HB.out he
      have HE := Lib.hid he
      have hmd : ((lo : Int) + (hi : Int)) / 2 = (md : Int) := by rw [Hmd.out]; omega
      obtain ⟨rv, Hrv⟩ : ∃ rv, Hid (e.rev = rv) := ⟨_, Lib.hid rfl⟩
      rw [Hrv.out] at ec
      have f0 := ec 0 _ rfl
      have f1 := ec 1 _ rfl
      have f2 := ec 2 _ rfl
      have f3 := ec 3 _ rfl
      have f4 := ec 4 _ rfl
      have f5 := ec 5 _ rfl
      have f6 := ec 6 _ rfl
      have f7 := ec 7 _ rfl
      have f8 := ec 8 _ rfl
      have f9 := ec 9 _ rfl
      have f10 := ec 10 _ rfl
      have f11 := ec 11 _ rfl
      rw [Nat.add_zero] at f0
      subst hva
      clear ec hobj he
      have HA := fun wr => Lib.hid (at1_any rv rev (.string e.object.okey.kind) (.string e.object.okey.space) (.string e.object.okey.name) v1 v2 v3 (.bool e.object.ending) (.string e.object.uid) (.int .i64 e.object.rev) (.string e.object.doc) (.bool (decide (e.kind = 3))) wr)
      by_cases hc : cmpI rv rev < 0
      · have Hc := Lib.hid (cmpI_neg.1 hc)
        go_wp2_with fail
        refine (HA _).out.mono ?_
        rintro E w' ⟨rfl, hb⟩
        have HB' := Lib.hid (HB.out.trans (hb.mono HB.out.size))
        clear hb
        go_wp2_with fail
        go_roundg (hi - (md + 1))
        case measure => omega
        case rel =>
          exact ⟨md + 1, hi, by simp, rfl, by omega, hin, Nat.le_refl _, HB', Lib.hid ⟨fun t x ht hx => by
            rcases Nat.lt_or_ge t md with h1 | h1
            · have := HM.out t md x e h1 hx HE.out; have := Hrv.out; have := Hc.out; omega
            · have h2 : t = md := by omega
              rw [h2, HE.out] at hx
              cases hx
              rw [Hrv.out]
              exact Hc.out, HF.out.2⟩⟩
      · have Hc : Hid (rev ≤ rv) := Lib.hid (Int.not_lt.1 fun h => hc (cmpI_neg.2 h))
        go_wp2_with fail
        refine (HA _).out.mono ?_
        rintro E w' ⟨rfl, hb⟩
        have HB' := Lib.hid (HB.out.trans (hb.mono HB.out.size))
        clear hb
        go_wp2_with fail
        go_roundg (md - lo)
        case measure => omega
        case rel =>
          exact ⟨lo, md, rfl, rfl, by omega, by omega, Nat.le_refl _, HB', Lib.hid ⟨HF.out.1, fun t x ht hx => by
            rcases Nat.lt_or_ge md t with h1 | h1
            · have := HM.out md t e x h1 HE.out hx; have := Hrv.out; have := Hc.out; omega
            · have h2 : t = md := by omega
              rw [h2, HE.out] at hx
              cases hx
              rw [Hrv.out]
              exact Hc.out⟩⟩
    · obtain rfl : hi = lo := by omega
      by_cases hn : hi < vn
      · obtain ⟨e, he⟩ : ∃ e, vs[hi]? = some e := ⟨vs[hi]'(by have := HN.out; omega), List.getElem?_eq_getElem _⟩
        obtain ⟨b, o, v1, v2, v3, hva, hobj, ec⟩ := ver_cells HR.out HN.out HB.out he
        have HE := Lib.hid he
        obtain ⟨rv, Hrv⟩ : ∃ rv, Hid (e.rev = rv) := ⟨_, Lib.hid rfl⟩
        rw [Hrv.out] at ec
        have f0 := ec 0 _ rfl
        have f1 := ec 1 _ rfl
        have f2 := ec 2 _ rfl
        have f3 := ec 3 _ rfl
        have f4 := ec 4 _ rfl
        have f5 := ec 5 _ rfl
        have f6 := ec 6 _ rfl
        have f7 := ec 7 _ rfl
        have f8 := ec 8 _ rfl
        have f9 := ec 9 _ rfl
        have f10 := ec 10 _ rfl
        have f11 := ec 11 _ rfl
        rw [Nat.add_zero] at f0
        subst hva
        clear ec hobj he
        have HA := fun wr => Lib.hid (at1_any rv rev (.string e.object.okey.kind) (.string e.object.okey.space) (.string e.object.okey.name) v1 v2 v3 (.bool e.object.ending) (.string e.object.uid) (.int .i64 e.object.rev) (.string e.object.doc) (.bool (decide (e.kind = 3))) wr)
        go_wp2_with fail
        refine (HA _).out.mono ?_
        rintro E w' ⟨rfl, hb⟩
        have HB' := Lib.hid (HB.out.trans (hb.mono HB.out.size))
        clear hb
        go_wp2_with fail
        go_ret2
        exact ⟨HB'.out, hi, cmpI rv rev == 0, rfl, hin, HF.out.1, HF.out.2, ⟨fun h => ⟨e, HE.out, by rw [Hrv.out]; exact cmpI_nil.1 (eq_of_beq h)⟩, fun ⟨x, h1, h2⟩ => by rw [HE.out] at h1; cases h1; rw [← h2, Hrv.out]; exact beq_iff_eq.2 (cmpI_nil.2 rfl)⟩⟩
      · go_wp2_with fail
        go_ret2
        exact ⟨HB.out, hi, false, rfl, hin, HF.out.1, HF.out.2, ⟨fun h => (by cases h), fun ⟨x, h1, h2⟩ => by have := (List.getElem?_eq_some_iff.1 h1).1; have := HN.out; omega⟩⟩
end Sto
end Go.Proofs.YtnnceaapodgfbaaGreatDoor
namespace Go.Proofs.YtnnceaapodgfbaaGreatDoor
open Go.RowKit
theorem cb_self : ∀ a : List UInt8, Lib.compareBytes a a = 0
  | [] => rfl
  | x :: r => by unfold Lib.compareBytes; simp [cb_self r, UInt8.lt_irrefl]
theorem cb_trans : ∀ a b c : List UInt8, Lib.compareBytes a b < 0 → Lib.compareBytes b c < 0 → Lib.compareBytes a c < 0
  | _, [], [], _, h2 => by simp [Lib.compareBytes] at h2
  | [], [], _ :: _, _, _ => by simp [Lib.compareBytes]
  | _ :: _, [], _ :: _, h1, _ => by simp [Lib.compareBytes] at h1
  | _, _ :: _, [], _, h2 => by simp [Lib.compareBytes] at h2
  | [], _ :: _, _ :: _, _, _ => by simp [Lib.compareBytes]
  | x :: xs, y :: ys, z :: zs, h1, h2 => by
    have ih := cb_trans xs ys zs
    simp only [Lib.compareBytes, UInt8.lt_iff_toNat_lt] at h1 h2 ⊢
    by_cases p1 : x.toNat < y.toNat <;> by_cases p2 : y.toNat < x.toNat <;> by_cases p3 : y.toNat < z.toNat <;> by_cases p4 : z.toNat < y.toNat <;> by_cases p5 : x.toNat < z.toNat <;> by_cases p6 : z.toNat < x.toNat <;> first
      | (exfalso; omega)
      | (simp only [p1, p2, p3, p4, p5, p6, if_true, if_false] at h1 h2 ⊢; first | exact ih h1 h2 | omega)
theorem cb_eq : ∀ a b : List UInt8, Lib.compareBytes a b = 0 → a = b
  | [], [], _ => rfl
  | [], _ :: _, h => by simp [Lib.compareBytes] at h
  | _ :: _, [], h => by simp [Lib.compareBytes] at h
  | x :: xs, y :: ys, h => by
    simp only [Lib.compareBytes, UInt8.lt_iff_toNat_lt] at h
    by_cases p1 : x.toNat < y.toNat
    · rw [if_pos p1] at h; cases h
    · by_cases p2 : y.toNat < x.toNat
      · rw [if_neg p1, if_pos p2] at h; cases h
      · rw [if_neg p1, if_neg p2] at h
        have : x = y := UInt8.toNat_inj.1 (by omega)
        rw [this, cb_eq xs ys h]
theorem cb_range : ∀ a b : List UInt8, Lib.compareBytes a b = -1 ∨ Lib.compareBytes a b = 0 ∨ Lib.compareBytes a b = 1
  | [], [] => .inr (.inl rfl)
  | [], _ :: _ => .inl rfl
  | _ :: _, [] => .inr (.inr rfl)
  | x :: xs, y :: ys => by
    simp only [Lib.compareBytes]
    by_cases p1 : x < y
    · rw [if_pos p1]; exact .inl rfl
    · rw [if_neg p1]
      by_cases p2 : y < x
      · rw [if_pos p2]; exact .inr (.inr rfl)
      · rw [if_neg p2]; exact cb_range xs ys
end Go.Proofs.YtnnceaapodgfbaaGreatDoor
namespace Go.Proofs.YtnnceaapodgfbaaGreatDoor
namespace Sto
open Go.RowKit
theorem bl_cb : ∀ a b : List UInt8, Op.bytesLess a b = decide (Lib.compareBytes a b < 0)
  | [], [] => rfl
  | [], _ :: _ => rfl
  | _ :: _, [] => rfl
  | x :: xs, y :: ys => by
    have ih := bl_cb xs ys
    unfold Op.bytesLess Lib.compareBytes
    by_cases h1 : x < y
    · simp [h1]
    · by_cases h2 : y < x
      · have h3 : ¬ x = y := fun e => by subst e; exact UInt8.lt_irrefl _ h2
        simp [h1, h2, h3]
      · have h3 : x = y := by
          rw [UInt8.lt_iff_toNat_lt] at h1 h2
          exact UInt8.toNat_inj.1 (by omega)
        subst h3
        simp [h1, ih]
theorem nanS_any (x : ByteArray) (w : World) : Calls Tryz.prog 108 #[.string x] w fun e w' => e = .returned (.bool false) ∧ w = w' := by
  go_enter Tryz.func108, Tryz.ntmps108
  go_wp2_with fail
  go_ret
  exact ⟨by simp, rfl⟩
def cmpB (a b : ByteArray) : Int := Lib.compareBytes a.data.toList b.data.toList
theorem cmpB_lt {a b : ByteArray} (h : Op.bytesLess a.toList b.toList = true) : cmpB a b = -1 := by
  rw [bl_cb, decide_eq_true_iff, Lib.toList_data, Lib.toList_data] at h
  unfold cmpB
  rcases cb_range a.data.toList b.data.toList with e | e | e <;> omega
theorem cmpS_any (a b : ByteArray) (w : World) : Calls Tryz.prog 75 #[.string a, .string b] w fun e w' => e = .returned (.int .i64 (cmpB a b)) ∧ w = w' := by
  have H := fun x (w : World) => Lib.hid (nanS_any x w)
  obtain ⟨r, Hr⟩ : ∃ r, Hid (cmpB a b = r) := ⟨_, Lib.hid rfl⟩
  rw [Hr.out]
  go_enter Tryz.func75, Tryz.ntmps75
  go_wp2_with fail
  refine (H a w).out.mono ?_
  rintro E w1 ⟨rfl, rfl⟩
  go_wp2_with fail
  refine (H b w).out.mono ?_
  rintro E w1 ⟨rfl, rfl⟩
  cases h1 : Op.bytesLess a.toList b.toList with
  | true =>
    obtain rfl : r = -1 := by rw [← Hr.out]; exact cmpB_lt h1
    go_wp2_with fail
    go_ret
    exact ⟨rfl, rfl⟩
  | false =>
    have q9 : (binOp .gtr 9 (.string a) (.string b)).run Tryz.prog w = .ok (.bool (!(Op.bytesLess a.toList b.toList || a.toList == b.toList))) w := by simp [binOp, Op.stringOp]
    cases h2 : (a.toList == b.toList) with
    | true =>
      have Hr0 : Hid (r = 0) := Lib.hid (by
        rw [← Hr.out]
        unfold cmpB
        have h3 := eq_of_beq h2
        rw [Lib.toList_data, Lib.toList_data] at h3
        rw [h3, cb_self])
      rw [h1, h2] at q9
      go_wp2_with fail
      go_ret
      exact ⟨by rw [Hr0.out]; rfl, rfl⟩
    | false =>
      have Hr1 : Hid (r = 1) := Lib.hid (by
        rw [← Hr.out]
        unfold cmpB
        rw [bl_cb, decide_eq_false_iff_not, Lib.toList_data, Lib.toList_data] at h1
        rw [beq_eq_false_iff_ne, Lib.toList_data, Lib.toList_data] at h2
        rcases cb_range a.data.toList b.data.toList with e | e | e
        · omega
        · exact absurd (cb_eq _ _ e) h2
        · exact e)
      rw [h1, h2] at q9
      go_wp2_with fail
      go_ret
      exact ⟨by rw [Hr1.out]; rfl, rfl⟩
end Sto
end Go.Proofs.YtnnceaapodgfbaaGreatDoor
namespace Go.Proofs.YtnnceaapodgfbaaGreatDoor
namespace Adm
open Go.RowKit
theorem cmpB_less {a b c : ByteArray} (h : Sto.cmpB a b < 0) (k : Sto.cmpB b c < 0) : Sto.cmpB a c < 0 := cb_trans _ _ _ h k
theorem cmpB_nil {a b : ByteArray} : Sto.cmpB a b = 0 ↔ a = b := by
  unfold Sto.cmpB
  constructor
  · intro h
    have h1 := cb_eq _ _ h
    cases a; cases b
    simp only [ByteArray.mk.injEq]
    exact Array.toList_inj.1 h1
  · intro h; rw [h]; exact cb_self _
set_option maxRecDepth 100000 in
theorem label1_any (k s v : ByteArray) (w : World) : Calls Tryz.prog 241 #[.agg #[.string k, .string v], .string s] w fun e w' => e = .returned (.int .i64 (Sto.cmpB k s)) ∧ Below w.heap.size w w' := by
  have H := fun (w : World) => Lib.hid (Sto.cmpS_any k s w)
  go_enter Tryz.func241, Tryz.ntmps241
  go_wp2_with fail
  refine (H _).out.mono ?_
  rintro E w1 ⟨rfl, rfl⟩
  go_wp2_with fail
  go_ret
  refine ⟨rfl, ?_⟩
  exact (Below.refl _ w).alloc (Nat.le_refl _) _
theorem lab_cells {w w' : World} {va : Option Addr} {vn vc : Nat} {vs : List GLabel} (h : RowAt LabelR 2 w (.slice va vn vc) vs) (hn : vn = vs.length) (hb : Below w.heap.size w w') {m : Nat} {e : GLabel} (he : vs[m]? = some e) :
    ∃ b o, va = some ⟨b, o, none⟩ ∧ w'.cell? ⟨b, o + m * 2, none⟩ = some (.string e.key) ∧ w'.cell? ⟨b, o + m * 2 + 1, none⟩ = some (.string e.val) := by
  have hm := (List.getElem?_eq_some_iff.1 he).1
  obtain ⟨b, o, c', hv, _, _, hbs, hcell⟩ := h.form (by omega) (by omega)
  injection hv with u1 u2 u3
  obtain ⟨ds, _, hcc, rfl⟩ := hcell m e he
  exact ⟨b, o, u1, (hb.cell (p := ⟨b, _, none⟩) hbs).trans (by have h9 := hcc 0 _ rfl; simpa using h9), (hb.cell (p := ⟨b, _, none⟩) hbs).trans (hcc 1 _ rfl)⟩
def Stands (vs : List GLabel) (s : ByteArray) (i : Nat) (is : Bool) : Prop :=
  i ≤ vs.length ∧ (∀ t x, t < i → vs[t]? = some x → Sto.cmpB x.key s < 0) ∧ (∀ t x, i ≤ t → vs[t]? = some x → 0 ≤ Sto.cmpB x.key s) ∧ (is = true ↔ ∃ x, vs[i]? = some x ∧ x.key = s)
def RiseK (vs : List GLabel) : Prop := vs.Pairwise fun a b => Sto.cmpB a.key b.key < 0
theorem RiseK.at {vs : List GLabel} (h : RiseK vs) {a b : Nat} {x y : GLabel} (hab : a < b) (hx : vs[a]? = some x) (hy : vs[b]? = some y) : Sto.cmpB x.key y.key < 0 := by
  obtain ⟨h1, e1⟩ := List.getElem?_eq_some_iff.1 hx
  obtain ⟨h2, e2⟩ := List.getElem?_eq_some_iff.1 hy
  rw [← e1, ← e2]
  exact List.pairwise_iff_getElem.1 h a b h1 h2 hab
set_option maxRecDepth 100000 in
set_option maxHeartbeats 1600000 in
theorem search_lab {w : World} {va : Option Addr} {vn vc : Nat} {vs : List GLabel} (h : RowAt LabelR 2 w (.slice va vn vc) vs) (hn : vn = vs.length) (hsz : vn ≤ 4194304) (hrise : RiseK vs) (s : ByteArray) :
    Calls Tryz.prog 240 #[.slice va vn vc, .string s, .func (.func 241) #[] #[]] w fun e w' => Below w.heap.size w w' ∧ ∃ i is, e = .returned (.tuple #[.int .i64 (i : Nat), .bool is]) ∧ Stands vs s i is := by
  have HR := Lib.hid h
  have HM := Lib.hid hrise
  have HN := Lib.hid hn
  clear h hrise
  clear hn
  go_enter Tryz.func240, Tryz.ntmps240
  go_wp2_with fail
  go_loopg [9, 10] vn (fun kx s9 s10 wr => ∃ lo hi : Nat, s9 = .int .i64 lo ∧ s10 = .int .i64 hi ∧ lo ≤ hi ∧ hi ≤ vn ∧ hi - lo ≤ kx ∧ Hid (Below w.heap.size w wr) ∧ Hid ((∀ t x, t < lo → vs[t]? = some x → Sto.cmpB x.key s < 0) ∧ (∀ t x, hi ≤ t → vs[t]? = some x → 0 ≤ Sto.cmpB x.key s)))
  case atStart => exact ⟨0, vn, rfl, rfl, Nat.zero_le _, Nat.le_refl _, by omega, Lib.hid (Below.refl _ w), Lib.hid ⟨fun t x ht => absurd ht (Nat.not_lt_zero _), fun t x h1 h2 => by have := (List.getElem?_eq_some_iff.1 h2).1; have := HN.out; omega⟩⟩
  case round =>
    obtain ⟨lo, hi, rfl, rfl, hlh, hin, hg, HB, HF⟩ := hrel
    by_cases hlt : lo < hi
    · obtain ⟨md, Hmd⟩ : ∃ md : Nat, Hid (md = (lo + hi) / 2) := ⟨_, Lib.hid rfl⟩
      have m1 : lo ≤ md ∧ md < hi := by have := Hmd.out; omega
      obtain ⟨e, he⟩ : ∃ e, vs[md]? = some e := ⟨vs[md]'(by have := HN.out; omega), List.getElem?_eq_getElem _⟩
      obtain ⟨b, o, hva, f0, f1⟩ := lab_cells HR.out HN.out HB.out he
      have HE := Lib.hid he
      have hmd : ((lo : Int) + (hi : Int)) / 2 = (md : Int) := by rw [Hmd.out]; omega
      obtain ⟨cv, Hcv⟩ : ∃ r, Hid (Sto.cmpB e.key s = r) := ⟨_, Lib.hid rfl⟩
      subst hva
      clear he
      have HA := fun wr => Lib.hid (label1_any e.key s e.val wr)
      rw [Hcv.out] at HA
      by_cases hc : cv < 0
      · have Hc := Lib.hid hc
        go_wp2_with fail
        refine (HA _).out.mono ?_
        rintro E w' ⟨rfl, hb⟩
        have HB' := Lib.hid (HB.out.trans (hb.mono HB.out.size))
        clear hb
        go_wp2_with fail
        go_roundg (hi - (md + 1))
        case measure => omega
        case rel =>
          exact ⟨md + 1, hi, by simp, rfl, by omega, hin, Nat.le_refl _, HB', Lib.hid ⟨fun t x ht hx => by
            rcases Nat.lt_or_ge t md with h1 | h1
            · have h9 := HM.out.at h1 hx HE.out
              exact cmpB_less h9 (by rw [Hcv.out]; exact Hc.out)
            · have h2 : t = md := by omega
              rw [h2, HE.out] at hx
              cases hx
              rw [Hcv.out]
              exact Hc.out, HF.out.2⟩⟩
      · have Hc : Hid (0 ≤ cv) := Lib.hid (by omega)
        go_wp2_with fail
        refine (HA _).out.mono ?_
        rintro E w' ⟨rfl, hb⟩
        have HB' := Lib.hid (HB.out.trans (hb.mono HB.out.size))
        clear hb
        go_wp2_with fail
        go_roundg (md - lo)
        case measure => omega
        case rel =>
          exact ⟨lo, md, rfl, rfl, by omega, by omega, Nat.le_refl _, HB', Lib.hid ⟨HF.out.1, fun t x ht hx => by
            rcases Nat.lt_or_ge md t with h1 | h1
            · have h9 := HM.out.at h1 HE.out hx
              refine Classical.byContradiction fun h8 => ?_
              have h7 : Sto.cmpB e.key s < 0 := cmpB_less h9 (by omega)
              rw [Hcv.out] at h7
              have := Hc.out
              omega
            · have h2 : t = md := by omega
              rw [h2, HE.out] at hx
              cases hx
              rw [Hcv.out]
              exact Hc.out⟩⟩
    · obtain rfl : hi = lo := by omega
      by_cases hn : hi < vn
      · obtain ⟨e, he⟩ : ∃ e, vs[hi]? = some e := ⟨vs[hi]'(by have := HN.out; omega), List.getElem?_eq_getElem _⟩
        obtain ⟨b, o, hva, f0, f1⟩ := lab_cells HR.out HN.out HB.out he
        have HE := Lib.hid he
        obtain ⟨cv, Hcv⟩ : ∃ r, Hid (Sto.cmpB e.key s = r) := ⟨_, Lib.hid rfl⟩
        subst hva
        clear he
        have HA := fun wr => Lib.hid (label1_any e.key s e.val wr)
        rw [Hcv.out] at HA
        go_wp2_with fail
        refine (HA _).out.mono ?_
        rintro E w' ⟨rfl, hb⟩
        have HB' := Lib.hid (HB.out.trans (hb.mono HB.out.size))
        clear hb
        go_wp2_with fail
        go_ret2
        exact ⟨HB'.out, hi, cv == 0, rfl, by rw [← HN.out]; exact hin, HF.out.1, HF.out.2, ⟨fun h => ⟨e, HE.out, cmpB_nil.1 (by rw [Hcv.out]; exact eq_of_beq h)⟩, fun ⟨x, h1, h2⟩ => by rw [HE.out] at h1; cases h1; rw [← Hcv.out]; exact beq_iff_eq.2 (cmpB_nil.2 h2)⟩⟩
      · go_wp2_with fail
        go_ret2
        exact ⟨HB.out, hi, false, rfl, by rw [← HN.out]; exact hin, HF.out.1, HF.out.2, ⟨fun h => (by cases h), fun ⟨x, h1, h2⟩ => by have := (List.getElem?_eq_some_iff.1 h1).1; have := HN.out; omega⟩⟩
end Adm
end Go.Proofs.YtnnceaapodgfbaaGreatDoor
namespace Go.Proofs.YtnnceaapodgfbaaGreatDoor
open Go
namespace JP
def fieldsOf : JV → List (Bs × JV)
  | .obj l => l
  | _ => []
end JP
end Go.Proofs.YtnnceaapodgfbaaGreatDoor
namespace Go.Proofs.YtnnceaapodgfbaaGreatDoor
open Go.RowKit
open JP (JV Bs)
theorem as_other {n : Nat} {T : List Nat} {w : World} {v : Value} {x : JV} (h : JvAt n T w v x) (hx : ∀ l, x ≠ .obj l) : ∀ w' : World, (Instr.typeAssert v 125 190 true).run Tryz.prog w' = .ok (.tuple #[.pointer none, .bool false]) w' := by
  cases n with
  | zero => cases h
  | succ n =>
    cases x with
    | nul => obtain rfl : v = .nilIface := h; exact as_nil.2.2.2.2
    | bool b => obtain rfl : v = .iface 4 (.bool b) := h; exact (as_bool _).2.2.2.2
    | num k => obtain ⟨rfl, _, _⟩ := h; exact (as_int64 _).2.2.2.2
    | str s => obtain rfl : v = .iface 9 (.string (mkB s)) := h; exact (as_string _).2.2.2.2
    | list L => obtain ⟨u, rfl, _, _⟩ := h; exact (as_list _).2.2.2.2
    | obj l => exact absurd rfl (hx l)
theorem as_nolist {n : Nat} {T : List Nat} {w : World} {v : Value} {x : JV} (h : JvAt n T w v x) (hx : ∀ l, x ≠ .list l) : ∀ w' : World, (Instr.typeAssert v 125 188 true).run Tryz.prog w' = .ok (.tuple #[.slice none 0 0, .bool false]) w' := by
  cases n with
  | zero => cases h
  | succ n =>
    cases x with
    | nul => obtain rfl : v = .nilIface := h; exact as_nil.2.2.2.1
    | bool b => obtain rfl : v = .iface 4 (.bool b) := h; exact (as_bool _).2.2.2.1
    | num k => obtain ⟨rfl, _, _⟩ := h; exact (as_int64 _).2.2.2.1
    | str s => obtain rfl : v = .iface 9 (.string (mkB s)) := h; exact (as_string _).2.2.2.1
    | obj L => obtain ⟨u, rfl, _⟩ := h; exact (as_obj _).2.2.2.1
    | list l => exact absurd rfl (hx l)
end Go.Proofs.YtnnceaapodgfbaaGreatDoor
