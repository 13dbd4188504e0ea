/- Texts of ours joined: JsonAs, JsonText, JsonSize, JsonCanon, JsonQuoteJ, JsonStands, JsonSound, JsonTell, MergePlain, MergeLaws, MergeLaws2. -/
import Derived.Test.YtnmhjabihfhobaaGreatDoorProg
import Derived.KernelRfl
import Derived.Lib.AppendIntMem
import Derived.Test.YtnmhjabihfhobaaGreatDoorMq4
set_option linter.unusedVariables false
set_option linter.unusedSimpArgs false
/- json: which type a value has: the answers of type assertions. -/
namespace Go.Proofs.YtnmhjabihfhobaaGreatDoor
open Go

theorem as_nil  : (∀ w : World, (Instr.typeAssert (.nilIface) 53 4 true).run Tryz.prog w = .ok (.tuple #[.bool false, .bool false]) w) ∧ (∀ w : World, (Instr.typeAssert (.nilIface) 53 2 true).run Tryz.prog w = .ok (.tuple #[.int .i64 0, .bool false]) w) ∧ (∀ w : World, (Instr.typeAssert (.nilIface) 53 9 true).run Tryz.prog w = .ok (.tuple #[.string ⟨#[]⟩, .bool false]) w) ∧ (∀ w : World, (Instr.typeAssert (.nilIface) 53 49 true).run Tryz.prog w = .ok (.tuple #[.slice none 0 0, .bool false]) w) ∧ (∀ w : World, (Instr.typeAssert (.nilIface) 53 74 true).run Tryz.prog w = .ok (.tuple #[.pointer none, .bool false]) w) := ⟨fun w => by kernel_rfl, fun w => by kernel_rfl, fun w => by kernel_rfl, fun w => by kernel_rfl, fun w => by kernel_rfl⟩
theorem as_bool (u : Value) : (∀ w : World, (Instr.typeAssert (.iface 4 u) 53 4 true).run Tryz.prog w = .ok (.tuple #[u, .bool true]) w) ∧ (∀ w : World, (Instr.typeAssert (.iface 4 u) 53 2 true).run Tryz.prog w = .ok (.tuple #[.int .i64 0, .bool false]) w) ∧ (∀ w : World, (Instr.typeAssert (.iface 4 u) 53 9 true).run Tryz.prog w = .ok (.tuple #[.string ⟨#[]⟩, .bool false]) w) ∧ (∀ w : World, (Instr.typeAssert (.iface 4 u) 53 49 true).run Tryz.prog w = .ok (.tuple #[.slice none 0 0, .bool false]) w) ∧ (∀ w : World, (Instr.typeAssert (.iface 4 u) 53 74 true).run Tryz.prog w = .ok (.tuple #[.pointer none, .bool false]) w) := ⟨fun w => by kernel_rfl, fun w => by kernel_rfl, fun w => by kernel_rfl, fun w => by kernel_rfl, fun w => by kernel_rfl⟩
theorem as_int64 (u : Value) : (∀ w : World, (Instr.typeAssert (.iface 2 u) 53 4 true).run Tryz.prog w = .ok (.tuple #[.bool false, .bool false]) w) ∧ (∀ w : World, (Instr.typeAssert (.iface 2 u) 53 2 true).run Tryz.prog w = .ok (.tuple #[u, .bool true]) w) ∧ (∀ w : World, (Instr.typeAssert (.iface 2 u) 53 9 true).run Tryz.prog w = .ok (.tuple #[.string ⟨#[]⟩, .bool false]) w) ∧ (∀ w : World, (Instr.typeAssert (.iface 2 u) 53 49 true).run Tryz.prog w = .ok (.tuple #[.slice none 0 0, .bool false]) w) ∧ (∀ w : World, (Instr.typeAssert (.iface 2 u) 53 74 true).run Tryz.prog w = .ok (.tuple #[.pointer none, .bool false]) w) := ⟨fun w => by kernel_rfl, fun w => by kernel_rfl, fun w => by kernel_rfl, fun w => by kernel_rfl, fun w => by kernel_rfl⟩
theorem as_string (u : Value) : (∀ w : World, (Instr.typeAssert (.iface 9 u) 53 4 true).run Tryz.prog w = .ok (.tuple #[.bool false, .bool false]) w) ∧ (∀ w : World, (Instr.typeAssert (.iface 9 u) 53 2 true).run Tryz.prog w = .ok (.tuple #[.int .i64 0, .bool false]) w) ∧ (∀ w : World, (Instr.typeAssert (.iface 9 u) 53 9 true).run Tryz.prog w = .ok (.tuple #[u, .bool true]) w) ∧ (∀ w : World, (Instr.typeAssert (.iface 9 u) 53 49 true).run Tryz.prog w = .ok (.tuple #[.slice none 0 0, .bool false]) w) ∧ (∀ w : World, (Instr.typeAssert (.iface 9 u) 53 74 true).run Tryz.prog w = .ok (.tuple #[.pointer none, .bool false]) w) := ⟨fun w => by kernel_rfl, fun w => by kernel_rfl, fun w => by kernel_rfl, fun w => by kernel_rfl, fun w => by kernel_rfl⟩
theorem as_list (u : Value) : (∀ w : World, (Instr.typeAssert (.iface 49 u) 53 4 true).run Tryz.prog w = .ok (.tuple #[.bool false, .bool false]) w) ∧ (∀ w : World, (Instr.typeAssert (.iface 49 u) 53 2 true).run Tryz.prog w = .ok (.tuple #[.int .i64 0, .bool false]) w) ∧ (∀ w : World, (Instr.typeAssert (.iface 49 u) 53 9 true).run Tryz.prog w = .ok (.tuple #[.string ⟨#[]⟩, .bool false]) w) ∧ (∀ w : World, (Instr.typeAssert (.iface 49 u) 53 49 true).run Tryz.prog w = .ok (.tuple #[u, .bool true]) w) ∧ (∀ w : World, (Instr.typeAssert (.iface 49 u) 53 74 true).run Tryz.prog w = .ok (.tuple #[.pointer none, .bool false]) w) := ⟨fun w => by kernel_rfl, fun w => by kernel_rfl, fun w => by kernel_rfl, fun w => by kernel_rfl, fun w => by kernel_rfl⟩
theorem as_obj (u : Value) : (∀ w : World, (Instr.typeAssert (.iface 74 u) 53 4 true).run Tryz.prog w = .ok (.tuple #[.bool false, .bool false]) w) ∧ (∀ w : World, (Instr.typeAssert (.iface 74 u) 53 2 true).run Tryz.prog w = .ok (.tuple #[.int .i64 0, .bool false]) w) ∧ (∀ w : World, (Instr.typeAssert (.iface 74 u) 53 9 true).run Tryz.prog w = .ok (.tuple #[.string ⟨#[]⟩, .bool false]) w) ∧ (∀ w : World, (Instr.typeAssert (.iface 74 u) 53 49 true).run Tryz.prog w = .ok (.tuple #[.slice none 0 0, .bool false]) w) ∧ (∀ w : World, (Instr.typeAssert (.iface 74 u) 53 74 true).run Tryz.prog w = .ok (.tuple #[u, .bool true]) w) := ⟨fun w => by kernel_rfl, fun w => by kernel_rfl, fun w => by kernel_rfl, fun w => by kernel_rfl, fun w => by kernel_rfl⟩
end Go.Proofs.YtnmhjabihfhobaaGreatDoor
/- tree.Text: its contract. -/
namespace Go.Proofs.YtnmhjabihfhobaaGreatDoor
open Go.RowKit
open JP (JV Bs)

theorem joinStrs_any {w : World} {v : Value} {l : List ByteArray} (h : RowAt RString 1 w v l) (hl : l.length ≤ 1073741824) (hj : (Lib.join (l.map (·.data.toList)) [44]).length ≤ 1073741824) :
    Calls Tryz.prog 61 #[v, .string ⟨#[44]⟩] w fun e w' => e = .returned (.string (mkB (Lib.join (l.map (·.data.toList)) [44]))) ∧ Below w.heap.size w w' := by
  by_cases h0 : 0 < l.length
  · obtain ⟨b, o, c, rfl, hc, _, hbs, hcell⟩ := h.form h0 (by omega)
    refine Tryz.strings_Join b o c l ⟨#[44]⟩ w (fun j x hx => ?_) hbs (by omega) hc ?_
    · obtain ⟨cs, _, h2, h3⟩ := hcell j x hx
      rw [h3] at h2
      have := h2 0 _ rfl
      simpa using this
    · show (Lib.join (l.map (·.data.toList)) [44]).length ≤ _; omega
  · have hn : l = [] := List.eq_nil_of_length_eq_zero (by omega)
    subst hn
    obtain ⟨a, c, rfl, _, _⟩ := h.len
    refine (Tryz.strings_Join_none a c ⟨#[44]⟩ w).mono ?_
    rintro e w' ⟨rfl, rfl⟩
    exact ⟨rfl, Below.refl _ _⟩
theorem textL_map (l : List JV) : JP.textL l = l.map JP.text := by
  induction l with
  | nil => rfl
  | cons v r ih => rw [JP.textL, ih]; rfl
theorem textF_map (l : List (Bs × JV)) : JP.textF l = l.map fun x => JP.quote x.1 ++ 58 :: JP.text x.2 := by
  induction l with
  | nil => rfl
  | cons x r ih => obtain ⟨n, v⟩ := x; rw [JP.textF, ih]; rfl
theorem mk_map {α : Type} (f : α → Bs) (l : List α) : (l.map fun x => mkB (f x)).map (·.data.toList) = l.map f := by
  rw [List.map_map]
  exact List.map_congr_left fun x _ => mkB_list (f x)
theorem lenL_mem {l : List JV} {x : JV} (h : x ∈ l) : (JP.text x).length + 1 ≤ JP.lenL l := by
  induction l with
  | nil => cases h
  | cons v r ih =>
    rw [JP.lenL]
    rcases List.mem_cons.1 h with rfl | h
    · omega
    · have := ih h; omega
theorem lenL_len (l : List JV) : l.length ≤ JP.lenL l := by
  induction l with
  | nil => simp
  | cons v r ih => rw [JP.lenL, List.length_cons]; omega
theorem lenF_mem {l : List (Bs × JV)} {x : Bs × JV} (h : x ∈ l) : (JP.quote x.1).length + (JP.text x.2).length + 2 ≤ JP.lenF l := by
  induction l with
  | nil => cases h
  | cons v r ih =>
    obtain ⟨n, v⟩ := v
    rw [JP.lenF]
    rcases List.mem_cons.1 h with rfl | h
    · dsimp only; omega
    · have := ih h; omega
theorem lenF_len (l : List (Bs × JV)) : l.length ≤ JP.lenF l := by
  induction l with
  | nil => simp
  | cons v r ih => obtain ⟨n, v⟩ := v; rw [JP.lenF, List.length_cons]; omega
theorem lenL_text (l : List JV) : JP.lenL l ≤ (JP.text (.list l)).length := by
  rcases JP.join_len l with h | rfl
  · rw [JP.text]; simp only [List.length_cons, List.length_append, List.length_nil]; omega
  · simp [JP.lenL]
theorem lenF_text (l : List (Bs × JV)) : JP.lenF l ≤ (JP.text (.obj l)).length := by
  rcases JP.join_lenF l with h | rfl
  · rw [JP.text]; simp only [List.length_cons, List.length_append, List.length_nil]; omega
  · simp [JP.lenF]
theorem quote_size (s : Bs) : s.length ≤ (JP.quote s).length := by
  rw [JP.quote_len]
  have : s.length ≤ (s.flatMap JP.escB).length := by
    induction s with
    | nil => simp
    | cons c r ih =>
      rw [List.flatMap_cons, List.length_append, List.length_cons]
      have : 1 ≤ (JP.escB c).length := by unfold JP.escB; split; · simp
                                          · split; · simp
                                            · split <;> simp
      omega
  omega
theorem ret_mk {a b : Bs} (h : a = b) : Ending.returned (.string (mkB a)) = .returned (.string (mkB b)) := by rw [h]
theorem wrap_mk (a z : UInt8) (j : Bs) : (⟨#[a]⟩ ++ mkB j ++ ⟨#[z]⟩ : ByteArray) = mkB (a :: (j ++ [z])) := by
  rw [← mkB_of (⟨#[a]⟩ ++ mkB j ++ ⟨#[z]⟩ : ByteArray), mkB_inj]
  simp [mkB]
theorem colon_mk (a b : Bs) : (mkB a ++ ⟨#[58]⟩ ++ mkB b : ByteArray) = mkB (a ++ 58 :: b) := by
  rw [← mkB_of (mkB a ++ ⟨#[58]⟩ ++ mkB b : ByteArray), mkB_inj]
  simp [mkB]
theorem below_drew1 (w : World) : Below w.heap.size w w.drew := ⟨rfl, rfl, rfl, Nat.le_refl _, fun _ _ => rfl⟩
theorem formatBool_text (b : Bool) : Lib.formatBool b = JP.text (.bool b) := by cases b <;> rfl

set_option maxRecDepth 100000 in
set_option maxHeartbeats 6400000 in
theorem text_any : ∀ (n : Nat) (v : Value) (x : JV) (w : World), JvAt n [] w v x → (JP.text x).length ≤ 4194304 → TabOK w →
    Calls Tryz.prog 32 #[v] w fun e w' => e = .returned (.string (mkB (JP.text x))) ∧ Below w.heap.size w w' := by
  intro n
  induction n with
  | zero => intro v x w h; cases h
  | succ n ih =>
    intro v x w h hlen htab
    have IH := Lib.hid ih
    have Htab := Lib.hid htab
    clear ih htab
    obtain ⟨i0, hi0, hz0, hz1, hz2⟩ := info_parts Tryz.infoStr
    cases x with
    | nul =>
      obtain rfl : v = .nilIface := h
      obtain ⟨g1, g2, g3, g4, g5⟩ := as_nil
      clear hlen
      go_enter Tryz.func32, Tryz.ntmps32
      go_wp2_with fail
      go_ret
      exact ⟨rfl, Below.refl _ _⟩
    | bool b =>
      obtain rfl : v = .iface 4 (.bool b) := h
      obtain ⟨g1, g2, g3, g4, g5⟩ := as_bool (.bool b)
      clear hlen
      go_enter Tryz.func32, Tryz.ntmps32
      go_wp2_with fail
      refine (Tryz.strconv_FormatBool b w).mono ?_
      rintro E w1 ⟨rfl, rfl⟩
      go_wp2_with fail
      go_ret
      exact ⟨ret_mk (formatBool_text b), Below.refl _ _⟩
    | num k =>
      obtain ⟨rfl, k0, k1⟩ := h
      obtain ⟨g1, g2, g3, g4, g5⟩ := as_int64 (.int .i64 k)
      clear hlen
      go_enter Tryz.func32, Tryz.ntmps32
      go_wp2_with fail
      refine (Tryz.strconv_FormatInt_10 k k0 k1 w Htab.out).mono ?_
      rintro E w1 ⟨rfl, q, os, hw1⟩
      have hb1 : Below w.heap.size w w1 := by rw [hw1]; exact Lib.below_grow _ _ (Nat.le_refl _) _ _
      have Hb1 := Lib.hid hb1
      clear hw1 hb1
      go_wp2_with fail
      go_ret
      exact ⟨ret_mk (by rw [JP.text]), Hb1.out⟩
    | str s =>
      obtain rfl : v = .iface 9 (.string (mkB s)) := h
      obtain ⟨g1, g2, g3, g4, g5⟩ := as_string (.string (mkB s))
      have hs : (mkB s).size ≤ 4194304 := by
        rw [mkB_size]
        rw [JP.text] at hlen
        have := quote_size s
        omega
      have HQ := Lib.hid (quote_any (mkB s) w hs)
      clear hlen hs
      go_enter Tryz.func32, Tryz.ntmps32
      go_wp2_with fail
      refine HQ.out.mono ?_
      rintro E w1 ⟨rfl, hb1⟩
      have Hb1 := Lib.hid hb1
      clear hb1
      go_wp2_with fail
      go_ret
      exact ⟨ret_mk (by rw [JP.text, mkB_list]), Hb1.out⟩
    | list l =>
      obtain ⟨u, rfl, hrow, _⟩ := h
      obtain ⟨a, c, rfl, _, _⟩ := hrow.len
      obtain ⟨g1, g2, g3, g4, g5⟩ := as_list (.slice a l.length c)
      have h1 := lenL_text l
      have h2 := lenL_len l
      have hll : l.length ≤ 4194304 := by omega
      have Hlen : Hid (JP.lenL l ≤ 4194304) := Lib.hid (by omega)
      have Hrow := Lib.hid hrow
      have hjl : (Lib.join (JP.textL l) [44]).length ≤ 4194304 := by
        have : (JP.text (.list l)).length = (Lib.join (JP.textL l) [44]).length + 2 := by rw [JP.text]; simp
        omega
      have Hjl := Lib.hid hjl
      have HT : Hid (JP.text (.list l) = 91 :: (Lib.join (JP.textL l) [44] ++ [93])) := Lib.hid (by rw [JP.text])
      clear hrow hlen h1 h2 hjl
      go_enter Tryz.func32, Tryz.ntmps32
      go_wp2_with fail
      go_loopg [7, 35] l.length (fun k u7 u35 wr => ∃ i : Nat, i + k = l.length ∧ u35 = .int .i64 (i : Int) ∧ Hid (OwnAt RString 1 wr w.heap.size 9 u7 ((l.take i).map fun x => mkB (JP.text x))) ∧ Hid (Below w.heap.size w wr))
      case atStart => exact ⟨0, by omega, rfl, Lib.hid (OwnAt.nil _), Lib.hid (Below.refl _ _)⟩
      case round =>
        obtain ⟨i, hik, rfl, Hown, Hbel⟩ := hrel
        have hsr := Hbel.out.size
        cases gk with
        | zero =>
          obtain rfl : i = l.length := by omega
          have hown := Hown.out
          rw [List.take_of_length_le (Nat.le_refl _)] at hown
          have HJ := Lib.hid (joinStrs_any hown.row (by rw [List.length_map]; omega) (by rw [mk_map, ← textL_map]; have := Hjl.out; omega))
          obtain ⟨J, HJe⟩ : ∃ J : Bs, Hid (Lib.join (JP.textL l) [44] = J) := ⟨_, Lib.hid rfl⟩
          rw [mk_map, ← textL_map, HJe.out] at HJ
          have hJs : (mkB J).size ≤ 4194304 := by rw [mkB_size, ← HJe.out]; exact Hjl.out
          rw [HJe.out] at HT
          have q1 : ¬ 9223372036854775807 < 1 + (mkB J).size := by omega
          have q2 : ¬ 9223372036854775807 < 1 + (mkB J).size + 1 := by omega
          clear hown hik hsr
          go_wp2_with fail
          refine HJ.out.mono ?_
          rintro E w1 ⟨rfl, hb1⟩
          have Hb1 := Lib.hid (Hbel.out.trans (hb1.mono Hbel.out.size))
          clear hb1
          go_wp2_with fail
          go_ret
          exact ⟨by rw [HT.out, ← wrap_mk]; rfl, Hb1.out⟩
        | succ k =>
          have hil : i < l.length := by omega
          obtain ⟨x, hx⟩ : ∃ x, l[i]? = some x := ⟨l[i]'(by omega), List.getElem?_eq_getElem _⟩
          obtain ⟨b, o, c', hv, _, _, hbs, hcell⟩ := Hrow.out.form (by omega) (by omega)
          injection hv with u1 u2 u3
          subst u1
          clear u2 u3
          obtain ⟨ds, _, hcc, vx, rfl, hvx⟩ := hcell i x hx
          have e0 : wr.cell? ⟨b, o + i, none⟩ = some vx := (Hbel.out.cell (p := ⟨b, _, none⟩) hbs).trans (by simpa using hcc 0 _ rfl)
          have q1 : (0 : Int) ≤ (i : Int) := by omega
          have q2 : (i : Int) < (l.length : Int) := by omega
          have hmem := lenL_mem (List.mem_of_getElem? hx)
          have HC := Lib.hid (IH.out vx x wr (hvx.below Hbel.out) (by have := Hlen.out; omega) (Htab.out.below Hbel.out))
          have Htk : Hid ((l.take (i + 1)).map (fun x => mkB (JP.text x)) = (l.take i).map (fun x => mkB (JP.text x)) ++ [mkB (JP.text x)]) := Lib.hid (by rw [List.take_add_one, hx, List.map_append]; rfl)
          have hol : ((l.take i).map fun x => mkB (JP.text x)).length ≤ 4194304 := by rw [List.length_map, List.length_take]; omega
          obtain ⟨O, HO⟩ : ∃ O, Hid ((l.take i).map (fun x => mkB (JP.text x)) = O) := ⟨_, Lib.hid rfl⟩
          obtain ⟨t, Ht⟩ : ∃ t, Hid (mkB (JP.text x) = t) := ⟨_, Lib.hid rfl⟩
          rw [HO.out, Ht.out] at Htk
          rw [HO.out] at Hown hol
          rw [Ht.out] at HC
          clear hcell hcc hx hvx hmem
          go_wp2_with fail
          refine HC.out.mono ?_
          rintro E w1 ⟨rfl, hb1⟩
          have Ho1 := Lib.hid (Hown.out.below stays_string hb1)
          have Hb1 := Lib.hid (Hbel.out.trans (hb1.mono Hbel.out.size))
          have hs1 := Hb1.out.size
          clear hb1 e0
          go_wp2_with (at_builtin; refine wpList_append_ownAt (R := RString) (k := 1) (e := 9) (B := w.heap.size) (l := O) (m := [t]) _ (by rfl) _ _ _ (by rfl) i0 _ 16 Tryz.underlying25 hi0 hz0 hz1 hz2 rfl (by omega) flat_string one_string _ (by rfl) (Ho1.out.alloc stays_string _) (.slice (some ⟨w1.heap.size, 0, none⟩) 1 1) (by rfl) (RowAt.one (R := RString) (k := 1) (cs := #[.string t]) (heap_alloc_new w1 _) rfl rfl) (by unfold maxLen; simp; omega) (by simp; omega) (by simp; omega) ?_)
          intro v' w2 hv' hg hr _
          have hb2 : Below w.heap.size w w2 := below_of_grown (Hb1.out.alloc hs1 _) (by simp; omega) hg hr
          have Hb2 := Lib.hid hb2
          have Hv : Hid (OwnAt RString 1 w2 w.heap.size 9 v' ((l.take (i + 1)).map fun x => mkB (JP.text x))) := Lib.hid (by rw [Htk.out]; exact hv')
          clear hv' hg hr hb2
          go_wp2_with fail
          go_roundg k
          case measure => omega
          case rel => exact ⟨i + 1, by omega, by go_num, Hv, Hb2⟩
    | obj l =>
      obtain ⟨q, rfl, _, _, vn, vv, cn, cv, hrn, _, hrv, _⟩ := h
      obtain ⟨an, c1, hu1, _, _⟩ := hrn.len
      obtain ⟨av, c2, hu2, _, _⟩ := hrv.len
      rw [List.length_map] at hu1 hu2
      subst hu1
      subst hu2
      obtain ⟨g1, g2, g3, g4, g5⟩ := as_obj (.pointer (some ⟨q, 0, none⟩))
      have h1 := lenF_text l
      have h2 := lenF_len l
      have hll : l.length ≤ 4194304 := by omega
      have Hlen : Hid (JP.lenF l ≤ 4194304) := Lib.hid (by omega)
      have Hrn := Lib.hid hrn
      have Hrv := Lib.hid hrv
      have hjl : (Lib.join (JP.textF l) [44]).length ≤ 4194304 := by
        have : (JP.text (.obj l)).length = (Lib.join (JP.textF l) [44]).length + 2 := by rw [JP.text]; simp
        omega
      have Hjl := Lib.hid hjl
      have HT : Hid (JP.text (.obj l) = 123 :: (Lib.join (JP.textF l) [44] ++ [125])) := Lib.hid (by rw [JP.text])
      have hqw : q < w.heap.size := World.block_lt_of_cell? w ⟨q, 0, none⟩ cn
      have Cv := Lib.hid cv
      clear hrn hrv hlen h1 h2 hjl cv
      go_enter Tryz.func32, Tryz.ntmps32
      go_wp2_with fail
      clear cn
      go_loopg [11, 57] l.length (fun k u11 u57 wr => ∃ i : Nat, i + k = l.length ∧ u57 = .int .i64 (i : Int) ∧ Hid (OwnAt RString 1 wr w.heap.size 9 u11 ((l.take i).map fun x => mkB (JP.quote x.1 ++ 58 :: JP.text x.2))) ∧ Hid (Below w.heap.size w wr))
      case atStart => exact ⟨0, by omega, rfl, Lib.hid (OwnAt.nil _), Lib.hid (Below.refl _ _)⟩
      case round =>
        obtain ⟨i, hik, rfl, Hown, Hbel⟩ := hrel
        have hsr := Hbel.out.size
        cases gk with
        | zero =>
          obtain rfl : i = l.length := by omega
          have hown := Hown.out
          rw [List.take_of_length_le (Nat.le_refl _)] at hown
          have HJ := Lib.hid (joinStrs_any hown.row (by rw [List.length_map]; omega) (by rw [mk_map, ← textF_map]; have := Hjl.out; omega))
          obtain ⟨J, HJe⟩ : ∃ J : Bs, Hid (Lib.join (JP.textF l) [44] = J) := ⟨_, Lib.hid rfl⟩
          rw [mk_map, ← textF_map, HJe.out] at HJ
          have hJs : (mkB J).size ≤ 4194304 := by rw [mkB_size, ← HJe.out]; exact Hjl.out
          rw [HJe.out] at HT
          have q1 : ¬ 9223372036854775807 < 1 + (mkB J).size := by omega
          have q2 : ¬ 9223372036854775807 < 1 + (mkB J).size + 1 := by omega
          clear hown hik hsr
          go_wp2_with fail
          refine HJ.out.mono ?_
          rintro E w1 ⟨rfl, hb1⟩
          have Hb1 := Lib.hid (Hbel.out.trans (hb1.mono Hbel.out.size))
          clear hb1
          go_wp2_with fail
          go_ret
          exact ⟨by rw [HT.out, ← wrap_mk]; rfl, Hb1.out⟩
        | succ k =>
          have hil : i < l.length := by omega
          obtain ⟨y, hx⟩ : ∃ y, l[i]? = some y := ⟨l[i]'(by omega), List.getElem?_eq_getElem _⟩
          have hxn : (l.map fun x => mkB x.1)[i]? = some (mkB y.1) := by rw [List.getElem?_map, hx]; rfl
          have hxv : (l.map (·.2))[i]? = some y.2 := by rw [List.getElem?_map, hx]; rfl
          obtain ⟨b, o, c', hv, _, _, hbs, hcell⟩ := Hrn.out.form (by rw [List.length_map]; omega) (by omega)
          injection hv with u1 u2 u3
          subst u1
          clear u2 u3
          obtain ⟨b2, o2, c2', hv2, _, _, hbs2, hcell2⟩ := Hrv.out.form (by rw [List.length_map]; omega) (by omega)
          injection hv2 with u1 u2 u3
          subst u1
          clear u2 u3
          obtain ⟨ds, _, hcc, rfl⟩ := hcell i _ hxn
          obtain ⟨es, _, hdd, vx, rfl, hvx⟩ := hcell2 i _ hxv
          have e0 : wr.cell? ⟨b, o + i, none⟩ = some (.string (mkB y.1)) := (Hbel.out.cell (p := ⟨b, _, none⟩) hbs).trans (by simpa using hcc 0 _ rfl)
          have f0 : wr.cell? ⟨b2, o2 + i, none⟩ = some vx := (Hbel.out.cell (p := ⟨b2, _, none⟩) hbs2).trans (by simpa using hdd 0 _ rfl)
          have p1 : wr.cell? ⟨q, 1, none⟩ = some (.slice (some ⟨b2, o2, none⟩) l.length c2) := (Hbel.out.cell (p := ⟨q, 1, none⟩) hqw).trans Cv.out
          have hqr : q < wr.heap.size := Nat.lt_of_lt_of_le hqw hsr
          have hbr2 : b2 < wr.heap.size := Nat.lt_of_lt_of_le hbs2 hsr
          have q1 : (0 : Int) ≤ (i : Int) := by omega
          have q2 : (i : Int) < (l.length : Int) := by omega
          have hmem := lenF_mem (List.mem_of_getElem? hx)
          have hl0 := Hlen.out
          have hns : (mkB y.1).size ≤ 4194304 := by rw [mkB_size]; have := quote_size y.1; omega
          obtain ⟨Q, HQ⟩ : ∃ Q : Bs, Hid (JP.quote y.1 = Q) := ⟨_, Lib.hid rfl⟩
          obtain ⟨X, HX⟩ : ∃ X : Bs, Hid (JP.text y.2 = X) := ⟨_, Lib.hid rfl⟩
          have HC1 : Hid (∀ w', Below wr.heap.size wr w' → Calls Tryz.prog 60 #[.string (mkB y.1)] w' fun e w'' => e = .returned (.string (mkB Q)) ∧ Below w'.heap.size w' w'') := Lib.hid fun w' hb' => by
            refine (quote_any (mkB y.1) w' hns).mono ?_
            rintro E w'' ⟨rfl, hb''⟩
            exact ⟨by rw [mkB_list, HQ.out], hb''⟩
          have HC2 : Hid (∀ w', Below wr.heap.size wr w' → Calls Tryz.prog 32 #[vx] w' fun e w'' => e = .returned (.string (mkB X)) ∧ Below w'.heap.size w' w'') := Lib.hid fun w' hb' => by
            have hbw := Hbel.out.trans (hb'.mono hsr)
            refine (IH.out vx y.2 w' (hvx.below hbw) (by omega) (Htab.out.below hbw)).mono ?_
            rintro E w'' ⟨rfl, hb''⟩
            exact ⟨by rw [HX.out], hb''⟩
          have Htk : Hid ((l.take (i + 1)).map (fun x => mkB (JP.quote x.1 ++ 58 :: JP.text x.2)) = (l.take i).map (fun x => mkB (JP.quote x.1 ++ 58 :: JP.text x.2)) ++ [mkB (Q ++ 58 :: X)]) := Lib.hid (by rw [List.take_add_one, hx, List.map_append, ← HQ.out, ← HX.out]; rfl)
          have hol : ((l.take i).map fun x => mkB (JP.quote x.1 ++ 58 :: JP.text x.2)).length ≤ 4194304 := by rw [List.length_map, List.length_take]; omega
          have hQs : (mkB Q).size ≤ 4194304 := by rw [mkB_size, ← HQ.out]; omega
          have hXs : (mkB X).size ≤ 4194304 := by rw [mkB_size, ← HX.out]; omega
          have q4 : ¬ 9223372036854775807 < (mkB Q).size + 1 := by omega
          have q5 : ¬ 9223372036854775807 < (mkB Q).size + 1 + (mkB X).size := by omega
          obtain ⟨O, HO⟩ : ∃ O, Hid ((l.take i).map (fun x => mkB (JP.quote x.1 ++ 58 :: JP.text x.2)) = O) := ⟨_, Lib.hid rfl⟩
          obtain ⟨t, Ht⟩ : ∃ t, Hid (mkB (Q ++ 58 :: X) = t) := ⟨_, Lib.hid rfl⟩
          have Ht2 : Hid ((mkB Q ++ ⟨#[58]⟩ ++ mkB X : ByteArray) = t) := Lib.hid (by rw [colon_mk]; exact Ht.out)
          rw [HO.out, Ht.out] at Htk
          rw [HO.out] at Hown hol
          clear hcell hcc hcell2 hdd hx hxn hxv hvx hmem hl0
          go_upto_region 26 with fail
          refine wp_region_relB 14 (fun ii U w' => match ii with
            | 0 => U 0 = u11
            | 1 => U 1 = .string (mkB y.1)
            | 2 => U 2 = .string (mkB Q)
            | 3 => U 3 = .string (mkB Q ++ ⟨#[58]⟩)
            | 4 => U 4 = .pointer (some ⟨q, 0, none⟩)
            | 5 => U 5 = .pointer (some ⟨q, 0, none⟩)
            | 6 => U 6 = .pointer (some ⟨q, 1, none⟩)
            | 7 => U 7 = .slice (some ⟨b2, o2, none⟩) l.length c2
            | 8 => U 8 = .int .i64 (i : Int)
            | 9 => U 9 = .pointer (some ⟨b2, o2 + i, none⟩)
            | 10 => U 10 = vx
            | 11 => U 11 = .string (mkB X)
            | 12 => U 12 = .string t
            | 13 => ∃ g, U 13 = .slice (some ⟨g, 0, none⟩) 1 1 ∧ w'.heap[g]? = some (.cells #[.string t] 9 (0, 0))
            | _ => True)
            (fun | 2 => [1] | 3 => [2] | 5 => [4] | 6 => [5] | 7 => [6] | 9 => [7, 8] | 10 => [9] | 11 => [10] | 12 => [3, 11] | 13 => [12] | _ => []) (by kernel_rfl) (by kernel_rfl) ?_ ⟨?_, ?_, ?_, ?_, ?_, ?_, ?_, ?_, ?_, ?_, ?_, ?_, ?_, ?_, trivial⟩ ?_
          · intro j u w1 w2 hb h
            match j, h with
            | 0, h => exact h
            | 1, h => exact h
            | 2, h => exact h
            | 3, h => exact h
            | 4, h => exact h
            | 5, h => exact h
            | 6, h => exact h
            | 7, h => exact h
            | 8, h => exact h
            | 9, h => exact h
            | 10, h => exact h
            | 11, h => exact h
            | 12, h => exact h
            | 13, h => exact (by obtain ⟨g, h1, h2⟩ := h; exact ⟨g, h1, below_block hb h2⟩)
            | _ + 14, h => trivial
          · intro x w' hb hd
            have hbr : Below wr.heap.size wr w' := (below_drew1 wr).trans hb
            refine owes_here u11 (by rfl) ?_ rfl
            simp only [putAll, List.take_succ_cons, List.take_zero]
            go_simp
          · intro x w' hb hd
            have hbr : Below wr.heap.size wr w' := (below_drew1 wr).trans hb
            refine owes_here (.string (mkB y.1)) (by rfl) ?_ rfl
            simp only [putAll, List.take_succ_cons, List.take_zero]
            go_simp
          · intro x w' hb hd
            have hbr : Below wr.heap.size wr w' := (below_drew1 wr).trans hb
            have k1 : x 1 = .string (mkB y.1) := hd 1 (by simp)
            refine owes_call 60 #[.string (mkB y.1)] (by rfl) ?_ ((HC1.out w' hbr).mono fun e w2 h => ⟨_, h.1, rfl, h.2⟩)
            simp only [putAll, List.take_succ_cons, List.take_zero]
            go_simp
          · intro x w' hb hd
            have hbr : Below wr.heap.size wr w' := (below_drew1 wr).trans hb
            have k1 : x 2 = .string (mkB Q) := hd 2 (by simp)
            refine owes_here (.string (mkB Q ++ ⟨#[58]⟩)) (by rfl) ?_ rfl
            simp only [putAll, List.take_succ_cons, List.take_zero]
            go_simp
          · intro x w' hb hd
            have hbr : Below wr.heap.size wr w' := (below_drew1 wr).trans hb
            refine owes_here (.pointer (some ⟨q, 0, none⟩)) (by rfl) ?_ rfl
            simp only [putAll, List.take_succ_cons, List.take_zero]
            go_simp
          · intro x w' hb hd
            have hbr : Below wr.heap.size wr w' := (below_drew1 wr).trans hb
            have k1 : x 4 = .pointer (some ⟨q, 0, none⟩) := hd 4 (by simp)
            refine owes_here (.pointer (some ⟨q, 0, none⟩)) (by rfl) ?_ rfl
            simp only [putAll, List.take_succ_cons, List.take_zero]
            go_simp
          · intro x w' hb hd
            have hbr : Below wr.heap.size wr w' := (below_drew1 wr).trans hb
            have k1 : x 5 = .pointer (some ⟨q, 0, none⟩) := hd 5 (by simp)
            refine owes_here (.pointer (some ⟨q, 1, none⟩)) (by rfl) ?_ rfl
            simp only [putAll, List.take_succ_cons, List.take_zero]
            go_simp
          · intro x w' hb hd
            have hbr : Below wr.heap.size wr w' := (below_drew1 wr).trans hb
            have k1 : x 6 = .pointer (some ⟨q, 1, none⟩) := hd 6 (by simp)
            have d1 := (hbr.cell (p := ⟨q, 1, none⟩) hqr).trans p1
            refine owes_here (.slice (some ⟨b2, o2, none⟩) l.length c2) (by rfl) ?_ rfl
            simp only [putAll, List.take_succ_cons, List.take_zero]
            go_simp
          · intro x w' hb hd
            have hbr : Below wr.heap.size wr w' := (below_drew1 wr).trans hb
            refine owes_here (.int .i64 (i : Int)) (by rfl) ?_ rfl
            simp only [putAll, List.take_succ_cons, List.take_zero]
            go_simp
          · intro x w' hb hd
            have hbr : Below wr.heap.size wr w' := (below_drew1 wr).trans hb
            have k1 : x 7 = .slice (some ⟨b2, o2, none⟩) l.length c2 := hd 7 (by simp)
            have k2 : x 8 = .int .i64 (i : Int) := hd 8 (by simp)
            refine owes_here (.pointer (some ⟨b2, o2 + i, none⟩)) (by rfl) ?_ rfl
            simp only [putAll, List.take_succ_cons, List.take_zero]
            go_simp
          · intro x w' hb hd
            have hbr : Below wr.heap.size wr w' := (below_drew1 wr).trans hb
            have k1 : x 9 = .pointer (some ⟨b2, o2 + i, none⟩) := hd 9 (by simp)
            have d1 := (hbr.cell (p := ⟨b2, o2 + i, none⟩) hbr2).trans f0
            refine owes_here vx (by rfl) ?_ rfl
            simp only [putAll, List.take_succ_cons, List.take_zero]
            go_simp
          · intro x w' hb hd
            have hbr : Below wr.heap.size wr w' := (below_drew1 wr).trans hb
            have k1 : x 10 = vx := hd 10 (by simp)
            refine owes_call 32 #[vx] (by rfl) ?_ ((HC2.out w' hbr).mono fun e w2 h => ⟨_, h.1, rfl, h.2⟩)
            simp only [putAll, List.take_succ_cons, List.take_zero]
            go_simp
          · intro x w' hb hd
            have hbr : Below wr.heap.size wr w' := (below_drew1 wr).trans hb
            have k1 : x 3 = .string (mkB Q ++ ⟨#[58]⟩) := hd 3 (by simp)
            have k2 : x 11 = .string (mkB X) := hd 11 (by simp)
            have hS := Ht2.out
            refine owes_here (.string t) (by rfl) ?_ rfl
            simp only [putAll, List.take_succ_cons, List.take_zero]
            go_simp
          · intro x w' hb hd
            have hbr : Below wr.heap.size wr w' := (below_drew1 wr).trans hb
            have k1 : x 12 = .string t := hd 12 (by simp)
            refine owes_makes (.slice (some ⟨w'.heap.size, 0, none⟩) 1 1) (w' := w'.alloc (.cells #[.string t] 9)) (by rfl) ?_ (⟨_, rfl, heap_alloc_new w' _⟩) ((Below.refl _ _).alloc (Nat.le_refl _) _)
            simp only [putAll, List.take_succ_cons, List.take_zero]
            go_simp
          · intro x w' hb hR
            have hbr : Below wr.heap.size wr w' := (below_drew1 wr).trans hb
            have k0 : x 0 = u11 := hR 0 (by omega)
            obtain ⟨g, kg1, kg2⟩ : ∃ g, x 13 = .slice (some ⟨g, 0, none⟩) 1 1 ∧ w'.heap[g]? = some (.cells #[.string t] 9 (0, 0)) := hR 13 (by omega)
            have Ho1 := Lib.hid (Hown.out.below stays_string hbr)
            have Hb1 := Lib.hid (Hbel.out.trans (hbr.mono Hbel.out.size))
            have hs1 := Hb1.out.size
            have Hg := Lib.hid kg2
            clear hR hb hbr e0 f0 p1 kg2
            simp only [putAll, List.take_succ_cons, List.take_zero, List.drop_succ_cons, List.drop_zero]
            try simp only [Act.put, List.setIfInBounds_toArray, List.set_cons_zero, List.set_cons_succ]
            go_wp2_with (at_builtin; refine wpList_append_ownAt (R := RString) (k := 1) (e := 9) (B := w.heap.size) (l := O) (m := [t]) _ (by rfl) _ _ _ (by rfl) i0 _ 16 Tryz.underlying25 hi0 hz0 hz1 hz2 rfl (by omega) flat_string one_string _ (by exact k0) Ho1.out _ (by exact kg1) (RowAt.one (R := RString) (k := 1) (cs := #[.string t]) Hg.out rfl rfl) (by unfold maxLen; simp; omega) (by simp; omega) (by omega) ?_)
            intro v' w2 hv' hg hr _
            have hb2 : Below w.heap.size w w2 := below_of_grown Hb1.out hs1 hg hr
            have Hb2 := Lib.hid hb2
            have Hv : Hid (OwnAt RString 1 w2 w.heap.size 9 v' ((l.take (i + 1)).map fun x => mkB (JP.quote x.1 ++ 58 :: JP.text x.2))) := Lib.hid (by rw [Htk.out]; exact hv')
            clear hv' hg hr hb2
            go_wp2_with fail
            go_roundg k
            case measure => omega
            case rel => exact ⟨i + 1, by omega, by go_num, Hv, Hb2⟩
end Go.Proofs.YtnmhjabihfhobaaGreatDoor
/- tree.Kind, tree.Size, tree.Same: contracts. -/
namespace Go.Proofs.YtnmhjabihfhobaaGreatDoor
open Go.RowKit
open JP (JV Bs)

set_option maxRecDepth 100000 in
set_option maxHeartbeats 1600000 in
theorem kind_any {n : Nat} {v : Value} {x : JV} {w : World} (h : JvAt n [] w v x) : Calls Tryz.prog 35 #[v] w fun e w' => e = .returned (.int .i64 (JP.kind x)) ∧ w' = w := by
  cases n with
  | zero => cases h
  | succ n =>
    cases x with
    | nul =>
      obtain rfl : v = .nilIface := h
      obtain ⟨g1, g2, g3, g4, g5⟩ := as_nil
      go_enter Tryz.func35, Tryz.ntmps35
      go_wp2_with fail
      go_ret
      exact ⟨rfl, rfl⟩
    | bool b =>
      obtain rfl : v = .iface 4 (.bool b) := h
      obtain ⟨g1, g2, g3, g4, g5⟩ := as_bool (.bool b)
      go_enter Tryz.func35, Tryz.ntmps35
      go_wp2_with fail
      go_ret
      exact ⟨rfl, rfl⟩
    | num k =>
      obtain ⟨rfl, _, _⟩ := h
      obtain ⟨g1, g2, g3, g4, g5⟩ := as_int64 (.int .i64 k)
      go_enter Tryz.func35, Tryz.ntmps35
      go_wp2_with fail
      go_ret
      exact ⟨rfl, rfl⟩
    | str s =>
      obtain rfl : v = .iface 9 (.string (mkB s)) := h
      obtain ⟨g1, g2, g3, g4, g5⟩ := as_string (.string (mkB s))
      go_enter Tryz.func35, Tryz.ntmps35
      go_wp2_with fail
      go_ret
      exact ⟨rfl, rfl⟩
    | list l =>
      obtain ⟨u, rfl, _, _⟩ := h
      obtain ⟨g1, g2, g3, g4, g5⟩ := as_list u
      go_enter Tryz.func35, Tryz.ntmps35
      go_wp2_with fail
      go_ret
      exact ⟨rfl, rfl⟩
    | obj l =>
      obtain ⟨q, rfl, _⟩ := h
      obtain ⟨g1, g2, g3, g4, g5⟩ := as_obj (.pointer (some ⟨q, 0, none⟩))
      go_enter Tryz.func35, Tryz.ntmps35
      go_wp2_with fail
      go_ret
      exact ⟨rfl, rfl⟩

theorem sizeF_map (l : List (Bs × JV)) : JP.sizeF l = JP.sizeL (l.map (·.2)) := by
  induction l with
  | nil => rfl
  | cons x r ih => obtain ⟨n, v⟩ := x; rw [JP.sizeF, List.map_cons, JP.sizeL, ih]
theorem deepF_map (l : List (Bs × JV)) : JP.deepF l = JP.deepL (l.map (·.2)) := by
  induction l with
  | nil => rfl
  | cons x r ih => obtain ⟨n, v⟩ := x; rw [JP.deepF, List.map_cons, JP.deepL, ih]
theorem sizeL_len (l : List JV) : l.length ≤ JP.sizeL l := by
  induction l with
  | nil => simp
  | cons x r ih => rw [JP.sizeL, List.length_cons]; have := JP.size_pos x; omega
theorem sizeL_take {l : List JV} {i : Nat} {x : JV} (h : l[i]? = some x) : JP.sizeL (l.take (i + 1)) = JP.sizeL (l.take i) + JP.size x := by
  rw [List.take_add_one, h, JP.sizeL_append]
  simp [JP.sizeL]
theorem deepL_take {l : List JV} {i : Nat} {x : JV} (h : l[i]? = some x) : JP.deepL (l.take (i + 1)) = max (JP.deepL (l.take i)) (JP.deep x) := by
  rw [List.take_add_one, h, JP.deepL_append]
  simp [JP.deepL]
theorem sizeL_le (l : List JV) (i : Nat) : JP.sizeL (l.take i) ≤ JP.sizeL l := by
  have := JP.sizeL_append (l.take i) (l.drop i)
  rw [List.take_append_drop] at this
  omega
theorem deep_size : (∀ x, JP.deep x ≤ JP.size x) ∧ (∀ l, JP.deepL l ≤ JP.sizeL l) ∧ ∀ l, JP.deepF l ≤ JP.sizeF l := by
  refine JP.JV.both ?_ (fun _ => ?_) (fun _ => ?_) (fun _ => ?_) (fun l h => ?_) (fun l h => ?_) ?_ (fun v r h k => ?_) ?_ (fun n v r h k => ?_)
  · rw [JP.deep]; omega
  · rw [JP.deep]; omega
  · rw [JP.deep]; omega
  · rw [JP.deep]; omega
  · rw [JP.deep, JP.size]; omega
  · rw [JP.deep, JP.size]; omega
  · rw [JP.deepL]; omega
  · rw [JP.deepL, JP.sizeL]; omega
  · rw [JP.deepF]; omega
  · rw [JP.deepF, JP.sizeF]; omega
theorem ret_two {a b c d : Int} (h : a = b) (k : c = d) : Ending.returned (.tuple #[.int .i64 a, .int .i64 c]) = .returned (.tuple #[.int .i64 b, .int .i64 d]) := by rw [h, k]
set_option maxRecDepth 100000 in
set_option maxHeartbeats 6400000 in
theorem size_any : ∀ (n : Nat) (v : Value) (x : JV) (w : World), JvAt n [] w v x → JP.size x ≤ 4194304 →
    Calls Tryz.prog 47 #[v] w fun e w' => e = .returned (.tuple #[.int .i64 (JP.size x : Int), .int .i64 (JP.deep x : Int)]) ∧ w = w' := by
  intro n
  induction n with
  | zero => intro v x w h; cases h
  | succ n ih =>
    intro v x w h hlen
    have IH := Lib.hid ih
    clear ih
    cases x with
    | nul =>
      obtain rfl : v = .nilIface := h
      obtain ⟨g1, g2, g3, g4, g5⟩ := as_nil
      clear hlen
      go_enter Tryz.func47, Tryz.ntmps47
      go_wp2_with fail
      go_ret2
      exact ⟨ret_two (by rw [JP.size]; rfl) (by rw [JP.deep]; rfl), rfl⟩
    | bool b =>
      obtain rfl : v = .iface 4 (.bool b) := h
      obtain ⟨g1, g2, g3, g4, g5⟩ := as_bool (.bool b)
      clear hlen
      go_enter Tryz.func47, Tryz.ntmps47
      go_wp2_with fail
      go_ret2
      exact ⟨ret_two (by rw [JP.size]; rfl) (by rw [JP.deep]; rfl), rfl⟩
    | num k =>
      obtain ⟨rfl, _, _⟩ := h
      obtain ⟨g1, g2, g3, g4, g5⟩ := as_int64 (.int .i64 k)
      clear hlen
      go_enter Tryz.func47, Tryz.ntmps47
      go_wp2_with fail
      go_ret2
      exact ⟨ret_two (by rw [JP.size]; rfl) (by rw [JP.deep]; rfl), rfl⟩
    | str s =>
      obtain rfl : v = .iface 9 (.string (mkB s)) := h
      obtain ⟨g1, g2, g3, g4, g5⟩ := as_string (.string (mkB s))
      clear hlen
      go_enter Tryz.func47, Tryz.ntmps47
      go_wp2_with fail
      go_ret2
      exact ⟨ret_two (by rw [JP.size]; rfl) (by rw [JP.deep]; rfl), rfl⟩
    | list L =>
      obtain ⟨u, rfl, hrow, _⟩ := h
      obtain ⟨a, c, rfl, _, _⟩ := hrow.len
      obtain ⟨g1, g2, g3, g4, g5⟩ := as_list (.slice a L.length c)
      have HSZ : Hid (JP.size (.list L) = 1 + JP.sizeL L) := Lib.hid (by rw [JP.size])
      have HDP : Hid (JP.deep (.list L) = JP.deepL L + 1) := Lib.hid (by rw [JP.deep])
      have hlen : JP.sizeL L + 1 ≤ 4194304 := by have := HSZ.out; omega
      have hsl := sizeL_len L
      have hLl : L.length ≤ 4194304 := by omega
      have Hsl : Hid (JP.sizeL L ≤ 4194304) := Lib.hid (by omega)
      have Hrow := Lib.hid hrow
      clear hrow hlen hsl
      go_enter Tryz.func47, Tryz.ntmps47
      go_wp2_with fail
      go_loopg [2, 3, 26] L.length (fun k u2 u3 u26 wr => ∃ (i : Nat) (m d : Nat), i + k = L.length ∧ u26 = .int .i64 (i : Int) ∧ u2 = .int .i64 (m : Int) ∧ u3 = .int .i64 (d : Int) ∧ Hid (m = 1 + JP.sizeL (L.take i)) ∧ Hid (d = JP.deepL (L.take i)) ∧ m ≤ 4194305 ∧ d ≤ 4194304 ∧ wr = w)
      case atStart => exact ⟨0, 1, 0, by omega, rfl, rfl, rfl, Lib.hid (by simp [JP.sizeL]), Lib.hid (by simp [JP.deepL]), by omega, by omega, rfl⟩
      case round =>
        obtain ⟨i, m, d, hik, rfl, rfl, rfl, Hm, Hd, hm, hd, rfl⟩ := hrel
        cases gk with
        | zero =>
          obtain rfl : i = L.length := by omega
          have hm1 := Hm.out
          have hd1 := Hd.out
          rw [List.take_of_length_le (Nat.le_refl _)] at hm1 hd1
          have Hm1 : Hid (m = JP.size (.list L)) := Lib.hid (by rw [hm1]; exact HSZ.out.symm)
          have Hd1 : Hid (d + 1 = JP.deep (.list L)) := Lib.hid (by rw [hd1]; exact HDP.out.symm)
          clear hm1 hd1 hik
          go_wp2_with fail
          go_ret2
          exact ⟨ret_two (by rw [← Hm1.out]) (by rw [← Hd1.out]; omega), rfl⟩
        | succ k =>
          have hil : i < L.length := by omega
          obtain ⟨y, hy⟩ : ∃ y, L[i]? = some y := ⟨L[i]'(by omega), List.getElem?_eq_getElem _⟩
          obtain ⟨b, o, c', hv, _, _, hbs, hcell⟩ := Hrow.out.form (by omega) (by omega)
          injection hv with u1 u2 u3
          subst u1
          clear u2 u3
          obtain ⟨ds, _, hcc, vx, rfl, hvx⟩ := hcell i y hy
          have e0 : wr.cell? ⟨b, o + i, none⟩ = some vx := by simpa using hcc 0 _ rfl
          have q1 : (0 : Int) ≤ (i : Int) := by omega
          have q2 : (i : Int) < (L.length : Int) := by omega
          have ht1 := sizeL_take hy
          have ht2 := deepL_take hy
          have ht3 := sizeL_le L (i + 1)
          have ht4 := deep_size.1 y
          have hs0 := Hsl.out
          have hm0 := Hm.out
          obtain ⟨sy, hsy⟩ : ∃ s, JP.size y = s := ⟨_, rfl⟩
          obtain ⟨dy, hdy⟩ : ∃ d, JP.deep y = d := ⟨_, rfl⟩
          rw [hsy] at ht1 ht4
          rw [hdy] at ht2 ht4
          have HC := Lib.hid (IH.out vx y wr hvx (by omega))
          rw [hsy, hdy] at HC
          have Hm2 : Hid (m + sy = 1 + JP.sizeL (L.take (i + 1))) := Lib.hid (by omega)
          have hm2 : m + sy ≤ 4194305 := by omega
          have hdy2 : dy ≤ 4194304 := by omega
          have Hd2 : Hid (max d dy = JP.deepL (L.take (i + 1))) := Lib.hid (by rw [ht2, ← Hd.out])
          clear ht1 ht2 ht3 ht4 hs0 hm0 hsy hdy hcell hcc hy hvx
          go_wp2_with fail
          refine HC.out.mono ?_
          rintro E w1 ⟨rfl, rfl⟩
          by_cases hdd : d ≤ dy
          · have p1 : (d : Int) ≤ (dy : Int) := by omega
            have hmx : max d dy = dy := by omega
            rw [hmx] at Hd2
            clear hmx
            go_wp2_with fail
            go_roundg k
            case measure => omega
            case rel => exact ⟨i + 1, m + sy, dy, by omega, by go_num, by go_num, by go_num, Hm2, Hd2, hm2, hdy2, rfl⟩
          · have p1 : ¬ (d : Int) ≤ (dy : Int) := by omega
            have hmx : max d dy = d := by omega
            rw [hmx] at Hd2
            clear hmx
            go_wp2_with fail
            go_roundg k
            case measure => omega
            case rel => exact ⟨i + 1, m + sy, d, by omega, by go_num, by go_num, by go_num, Hm2, Hd2, hm2, hd, rfl⟩
    | obj l =>
      obtain ⟨q, rfl, _, _, vn, vv, cn, cv, _, _, hrow, _⟩ := h
      obtain ⟨av, c, hu, _, _⟩ := hrow.len
      obtain ⟨L, hL⟩ : ∃ L : List JV, l.map (·.2) = L := ⟨_, rfl⟩
      rw [hL] at hrow hu
      subst hu
      obtain ⟨g1, g2, g3, g4, g5⟩ := as_obj (.pointer (some ⟨q, 0, none⟩))
      have HSZ : Hid (JP.size (.obj l) = 1 + JP.sizeL L) := Lib.hid (by rw [JP.size, sizeF_map, hL])
      have HDP : Hid (JP.deep (.obj l) = JP.deepL L + 1) := Lib.hid (by rw [JP.deep, deepF_map, hL])
      have hlen : JP.sizeL L + 1 ≤ 4194304 := by have := HSZ.out; omega
      clear hL cn
      have hsl := sizeL_len L
      have hLl : L.length ≤ 4194304 := by omega
      have Hsl : Hid (JP.sizeL L ≤ 4194304) := Lib.hid (by omega)
      have Hrow := Lib.hid hrow
      clear hrow hlen hsl
      go_enter Tryz.func47, Tryz.ntmps47
      go_wp2_with fail
      go_loopg [2, 3, 26] L.length (fun k u2 u3 u26 wr => ∃ (i : Nat) (m d : Nat), i + k = L.length ∧ u26 = .int .i64 (i : Int) ∧ u2 = .int .i64 (m : Int) ∧ u3 = .int .i64 (d : Int) ∧ Hid (m = 1 + JP.sizeL (L.take i)) ∧ Hid (d = JP.deepL (L.take i)) ∧ m ≤ 4194305 ∧ d ≤ 4194304 ∧ wr = w)
      case atStart => exact ⟨0, 1, 0, by omega, rfl, rfl, rfl, Lib.hid (by simp [JP.sizeL]), Lib.hid (by simp [JP.deepL]), by omega, by omega, rfl⟩
      case round =>
        obtain ⟨i, m, d, hik, rfl, rfl, rfl, Hm, Hd, hm, hd, rfl⟩ := hrel
        cases gk with
        | zero =>
          obtain rfl : i = L.length := by omega
          have hm1 := Hm.out
          have hd1 := Hd.out
          rw [List.take_of_length_le (Nat.le_refl _)] at hm1 hd1
          have Hm1 : Hid (m = JP.size (.obj l)) := Lib.hid (by rw [hm1]; exact HSZ.out.symm)
          have Hd1 : Hid (d + 1 = JP.deep (.obj l)) := Lib.hid (by rw [hd1]; exact HDP.out.symm)
          clear hm1 hd1 hik
          go_wp2_with fail
          go_ret2
          exact ⟨ret_two (by rw [← Hm1.out]) (by rw [← Hd1.out]; omega), rfl⟩
        | succ k =>
          have hil : i < L.length := by omega
          obtain ⟨y, hy⟩ : ∃ y, L[i]? = some y := ⟨L[i]'(by omega), List.getElem?_eq_getElem _⟩
          obtain ⟨b, o, c', hv, _, _, hbs, hcell⟩ := Hrow.out.form (by omega) (by omega)
          injection hv with u1 u2 u3
          subst u1
          clear u2 u3
          obtain ⟨ds, _, hcc, vx, rfl, hvx⟩ := hcell i y hy
          have e0 : wr.cell? ⟨b, o + i, none⟩ = some vx := by simpa using hcc 0 _ rfl
          have q1 : (0 : Int) ≤ (i : Int) := by omega
          have q2 : (i : Int) < (L.length : Int) := by omega
          have ht1 := sizeL_take hy
          have ht2 := deepL_take hy
          have ht3 := sizeL_le L (i + 1)
          have ht4 := deep_size.1 y
          have hs0 := Hsl.out
          have hm0 := Hm.out
          obtain ⟨sy, hsy⟩ : ∃ s, JP.size y = s := ⟨_, rfl⟩
          obtain ⟨dy, hdy⟩ : ∃ d, JP.deep y = d := ⟨_, rfl⟩
          rw [hsy] at ht1 ht4
          rw [hdy] at ht2 ht4
          have HC := Lib.hid (IH.out vx y wr hvx (by omega))
          rw [hsy, hdy] at HC
          have Hm2 : Hid (m + sy = 1 + JP.sizeL (L.take (i + 1))) := Lib.hid (by omega)
          have hm2 : m + sy ≤ 4194305 := by omega
          have hdy2 : dy ≤ 4194304 := by omega
          have Hd2 : Hid (max d dy = JP.deepL (L.take (i + 1))) := Lib.hid (by rw [ht2, ← Hd.out])
          clear ht1 ht2 ht3 ht4 hs0 hm0 hsy hdy hcell hcc hy hvx
          go_wp2_with fail
          refine HC.out.mono ?_
          rintro E w1 ⟨rfl, rfl⟩
          by_cases hdd : d ≤ dy
          · have p1 : (d : Int) ≤ (dy : Int) := by omega
            have hmx : max d dy = dy := by omega
            rw [hmx] at Hd2
            clear hmx
            go_wp2_with fail
            go_roundg k
            case measure => omega
            case rel => exact ⟨i + 1, m + sy, dy, by omega, by go_num, by go_num, by go_num, Hm2, Hd2, hm2, hdy2, rfl⟩
          · have p1 : ¬ (d : Int) ≤ (dy : Int) := by omega
            have hmx : max d dy = d := by omega
            rw [hmx] at Hd2
            clear hmx
            go_wp2_with fail
            go_roundg k
            case measure => omega
            case rel => exact ⟨i + 1, m + sy, d, by omega, by go_num, by go_num, by go_num, Hm2, Hd2, hm2, hd, rfl⟩
set_option maxRecDepth 100000 in
set_option maxHeartbeats 1600000 in
theorem same_any {n m : Nat} {v u : Value} {x y : JV} {w : World} (h : JvAt n [] w v x) (k : JvAt m [] w u y) (hx : (JP.text x).length ≤ 4194304) (hy : (JP.text y).length ≤ 4194304) (ht : TabOK w) :
    Calls Tryz.prog 78 #[v, u] w fun e w' => e = .returned (.bool (decide (JP.text x = JP.text y))) ∧ Below w.heap.size w w' := by
  have H := Lib.hid (text_any n v x w h hx ht)
  have K := Lib.hid (fun w' (hb : Below w.heap.size w w') => text_any m u y w' (k.below hb) hy (ht.below hb))
  obtain ⟨X, hX⟩ : ∃ X, JP.text x = X := ⟨_, rfl⟩
  obtain ⟨Y, hY⟩ : ∃ Y, JP.text y = Y := ⟨_, rfl⟩
  rw [hX] at H ⊢
  rw [hY] at K ⊢
  obtain ⟨bb, Hb⟩ : ∃ bb, Hid (decide (X = Y) = bb) := ⟨_, Lib.hid rfl⟩
  rw [Hb.out]
  have hbq : ((mkB X).toList == (mkB Y).toList) = bb := by
    rw [← Hb.out, ByteArray.toList_eq, ByteArray.toList_eq, mkB_list, mkB_list]
    by_cases e : X = Y
    · rw [decide_eq_true e, e]; simp
    · rw [decide_eq_false e, beq_eq_false_iff_ne]; exact e
  clear h k hx hy ht hX hY
  go_enter Tryz.func78, Tryz.ntmps78
  go_wp2_with fail
  refine H.out.mono ?_
  rintro E w1 ⟨rfl, hb1⟩
  have Hb1 := Lib.hid hb1
  clear hb1
  go_wp2_with fail
  refine (K.out w1 Hb1.out).mono ?_
  rintro E w2 ⟨rfl, hb2⟩
  have Hb2 := Lib.hid (Hb1.out.trans (hb2.mono Hb1.out.size))
  clear hb2
  go_wp2_with fail
  go_ret
  exact ⟨rfl, Hb2.out⟩
end Go.Proofs.YtnmhjabihfhobaaGreatDoor
/- json: Canon, Kind, Size, Same, Quote. -/
namespace Go.Proofs.YtnmhjabihfhobaaGreatDoor
open Go.RowKit
open JP (JV Bs Fr)

namespace JP
theorem readL_good {s : Bs} {v : JV} (h : readL s = (v, 0)) : wf v ∧ size v ≤ 200 ∧ deep v ≤ 10 ∧ (text v).length ≤ s.length ∧ s.length ≤ 2000 := by
  unfold readL at h
  split at h
  · exact absurd (Prod.mk.inj h).2 (by decide)
  · rename_i hl
    have hi : Inv s.length (.more s 0 []) := ⟨by show s.length + 0 ≤ s.length; omega, rfl, by omega, trivial⟩
    obtain ⟨a, b, c, d⟩ := fin_inv _ hi v h
    exact ⟨a, b, c, d, by omega⟩
/-- the canonical document, and what is wrong -/
def canonT (s : Bs) : Bs := if (readL s).2 = 0 then text (readL s).1 else []
def canonE (s : Bs) : Int := (readL s).2
def kindT (s : Bs) : Int := if (readL s).2 = 0 then kind (readL s).1 else 0
def manyT (s : Bs) : Nat := if (readL s).2 = 0 then size (readL s).1 else 0
def deepT (s : Bs) : Nat := if (readL s).2 = 0 then deep (readL s).1 else 0
def sameT (a b : Bs) : Bool := if (readL a).2 = 0 ∧ (readL b).2 = 0 then decide (text (readL a).1 = text (readL b).1) else false
def sameE (a b : Bs) : Int := if (readL a).2 = 0 then (readL b).2 else (readL a).2
def quoteE (s : Bs) : Int := if s.all stand = true then if 2000 < (quote s).length then 2 else 0 else 16
def quoteT (s : Bs) : Bs := if quoteE s = 0 then quote s else []
theorem canonT_ok {s : Bs} {v : JV} (h : readL s = (v, 0)) : canonT s = text v := by unfold canonT; rw [h]; exact if_pos rfl
theorem canonT_no {s : Bs} (h : (readL s).2 ≠ 0) : canonT s = [] := if_neg h
theorem canonT_le (s : Bs) : (canonT s).length ≤ 2000 := by
  unfold canonT
  split
  · rename_i h
    obtain ⟨_, _, _, h4, h5⟩ := readL_good (s := s) (v := (readL s).1) (Prod.ext rfl h)
    omega
  · simp
end JP
theorem list_size (s : ByteArray) : s.data.toList.length = s.size := by rw [Array.length_toList]; rfl
theorem TabOK.ofBelow {B : Nat} {w w' : World} (h : TabOK w) (hb : Below w.heap.size w w') : TabOK w' := h.below hb
set_option maxRecDepth 100000 in
set_option maxHeartbeats 3200000 in
theorem canon_any (s : ByteArray) (w : World) (hs : s.size ≤ 1048576) (ht : TabOK w) :
    Calls Tryz.prog 14 #[.string s] w fun e w' => e = .returned (.tuple #[.string (mkB (JP.canonT s.data.toList)), .int .i64 (JP.canonE s.data.toList)]) ∧ Below w.heap.size w w' := by
  have HR := Lib.hid (read_any s w hs)
  obtain ⟨v, hv⟩ : ∃ v, (JP.readL s.data.toList).1 = v := ⟨_, rfl⟩
  obtain ⟨er, her⟩ : ∃ er, (JP.readL s.data.toList).2 = er := ⟨_, rfl⟩
  have hre : JP.readL s.data.toList = (v, er) := Prod.ext hv her
  have HT := Lib.hid ht
  rw [hv, her] at HR
  have hE : JP.canonE s.data.toList = er := her
  have Hre := Lib.hid hre
  obtain ⟨T, hT⟩ : ∃ T, JP.canonT s.data.toList = T := ⟨_, rfl⟩
  rw [hE, hT]
  have HTx := Lib.hid hT
  clear ht hv her hre hE hT
  go_enter Tryz.func14, Tryz.ntmps14
  go_wp2_with fail
  refine HR.out.mono ?_
  rintro E w1 ⟨u, rfl, ⟨n, hj⟩, hb⟩
  have HJ := Lib.hid hj
  have HB := Lib.hid hb
  clear hj hb HR
  by_cases he : er = 0
  · subst he
    obtain ⟨_, _, _, h4, h5⟩ := JP.readL_good Hre.out
    have HTt : Hid (T = JP.text v) := Lib.hid (by rw [← HTx.out]; exact JP.canonT_ok Hre.out)
    go_wp2_with fail
    refine (text_any n u v w1 HJ.out (by omega) (HT.out.below HB.out)).mono ?_
    rintro E w2 ⟨rfl, hb⟩
    have HB2 := Lib.hid (HB.out.trans (hb.mono HB.out.size))
    clear hb
    go_wp2_with fail
    go_ret2
    exact ⟨by rw [HTt.out] <;> rfl, HB2.out⟩
  · have n0 : (er != 0) = true := by rw [bne_iff_ne]; exact he
    have HTt : Hid (T = []) := Lib.hid (by rw [← HTx.out]; exact JP.canonT_no (by rw [Hre.out]; exact he))
    clear he
    go_wp2_with fail
    go_ret2
    exact ⟨by rw [HTt.out] <;> rfl, HB.out⟩
set_option maxRecDepth 100000 in
set_option maxHeartbeats 3200000 in
theorem kindJ_any (s : ByteArray) (w : World) (hs : s.size ≤ 1048576) :
    Calls Tryz.prog 16 #[.string s] w fun e w' => e = .returned (.tuple #[.int .i64 (JP.kindT s.data.toList), .int .i64 (JP.canonE s.data.toList)]) ∧ Below w.heap.size w w' := by
  have HR := Lib.hid (read_any s w hs)
  obtain ⟨v, hv⟩ : ∃ v, (JP.readL s.data.toList).1 = v := ⟨_, rfl⟩
  obtain ⟨er, her⟩ : ∃ er, (JP.readL s.data.toList).2 = er := ⟨_, rfl⟩
  have hre : JP.readL s.data.toList = (v, er) := Prod.ext hv her
  rw [hv, her] at HR
  have hE : JP.canonE s.data.toList = er := her
  have Hre := Lib.hid hre
  obtain ⟨T, hT⟩ : ∃ T, JP.kindT s.data.toList = T := ⟨_, rfl⟩
  rw [hE, hT]
  have HTx := Lib.hid hT
  clear hv her hre hE hT
  go_enter Tryz.func16, Tryz.ntmps16
  go_wp2_with fail
  refine HR.out.mono ?_
  rintro E w1 ⟨u, rfl, ⟨n, hj⟩, hb⟩
  have HJ := Lib.hid hj
  have HB := Lib.hid hb
  clear hj hb HR
  by_cases he : er = 0
  · subst he
    have HTt : Hid (T = JP.kind v) := Lib.hid (by rw [← HTx.out]; unfold JP.kindT; rw [Hre.out]; exact if_pos rfl)
    go_wp2_with fail
    refine (kind_any HJ.out).mono ?_
    rintro E w2 ⟨rfl, rfl⟩
    go_wp2_with fail
    go_ret2
    exact ⟨by rw [HTt.out] <;> rfl, HB.out⟩
  · have n0 : (er != 0) = true := by rw [bne_iff_ne]; exact he
    have HTt : Hid (T = 0) := Lib.hid (by rw [← HTx.out]; unfold JP.kindT; rw [Hre.out]; exact if_neg he)
    clear he
    go_wp2_with fail
    go_ret2
    exact ⟨by rw [HTt.out] <;> rfl, HB.out⟩
set_option maxRecDepth 100000 in
set_option maxHeartbeats 3200000 in
theorem sizeJ_any (s : ByteArray) (w : World) (hs : s.size ≤ 1048576) :
    Calls Tryz.prog 23 #[.string s] w fun e w' => e = .returned (.tuple #[.int .i64 (JP.manyT s.data.toList : Int), .int .i64 (JP.deepT s.data.toList : Int), .int .i64 (JP.canonE s.data.toList)]) ∧ Below w.heap.size w w' := by
  have HR := Lib.hid (read_any s w hs)
  obtain ⟨v, hv⟩ : ∃ v, (JP.readL s.data.toList).1 = v := ⟨_, rfl⟩
  obtain ⟨er, her⟩ : ∃ er, (JP.readL s.data.toList).2 = er := ⟨_, rfl⟩
  have hre : JP.readL s.data.toList = (v, er) := Prod.ext hv her
  rw [hv, her] at HR
  have hE : JP.canonE s.data.toList = er := her
  have Hre := Lib.hid hre
  obtain ⟨M, hM⟩ : ∃ T, JP.manyT s.data.toList = T := ⟨_, rfl⟩
  obtain ⟨D, hD⟩ : ∃ T, JP.deepT s.data.toList = T := ⟨_, rfl⟩
  rw [hE, hM, hD]
  have HMx := Lib.hid hM
  have HDx := Lib.hid hD
  clear hv her hre hE hM hD
  go_enter Tryz.func23, Tryz.ntmps23
  go_wp2_with fail
  refine HR.out.mono ?_
  rintro E w1 ⟨u, rfl, ⟨n, hj⟩, hb⟩
  have HJ := Lib.hid hj
  have HB := Lib.hid hb
  clear hj hb HR
  by_cases he : er = 0
  · subst he
    obtain ⟨_, h2, _, h4, h5⟩ := JP.readL_good Hre.out
    have HMt : Hid (JP.size v = M) := Lib.hid (by rw [← HMx.out]; unfold JP.manyT; rw [Hre.out]; exact (if_pos rfl).symm)
    have HDt : Hid (JP.deep v = D) := Lib.hid (by rw [← HDx.out]; unfold JP.deepT; rw [Hre.out]; exact (if_pos rfl).symm)
    have hsz := size_any n u v w1 HJ.out (by omega)
    rw [HMt.out, HDt.out] at hsz
    have HSz := Lib.hid hsz
    clear hsz
    go_wp2_with fail
    refine HSz.out.mono ?_
    rintro E w2 ⟨rfl, rfl⟩
    go_wp2_with fail
    go_ret3
    exact ⟨rfl, HB.out⟩
  · have n0 : (er != 0) = true := by rw [bne_iff_ne]; exact he
    have HMt : Hid (M = 0) := Lib.hid (by rw [← HMx.out]; unfold JP.manyT; rw [Hre.out]; exact if_neg he)
    have HDt : Hid (D = 0) := Lib.hid (by rw [← HDx.out]; unfold JP.deepT; rw [Hre.out]; exact if_neg he)
    clear he
    go_wp2_with fail
    go_ret3
    exact ⟨by rw [HMt.out, HDt.out] <;> rfl, HB.out⟩
end Go.Proofs.YtnmhjabihfhobaaGreatDoor
/- json: Quote; the laws' own canon. -/
namespace Go.Proofs.YtnmhjabihfhobaaGreatDoor
open Go.RowKit
open JP (JV Bs)

theorem ba_list (s : ByteArray) : s.toList = s.data.toList := ByteArray.toList_eq s
theorem mkB_eq (a b : Bs) : ((mkB a).toList == (mkB b).toList) = decide (a = b) := by
  rw [ba_list, ba_list, mkB_list, mkB_list]
  rw [Bool.eq_iff_iff, beq_iff_eq, decide_eq_true_iff]
theorem mkB_empty (a : Bs) : (mkB a).toList.isEmpty = decide (a = []) := by
  rw [ba_list, mkB_list]
  cases a <;> rfl
theorem stand_nat (c : UInt8) : JP.stand c = (decide (32 ≤ c.toNat ∧ c.toNat ≤ 126) || decide (c.toNat = 10) || decide (c.toNat = 9)) := by
  have e : ∀ k : UInt8, (c == k) = decide (c.toNat = k.toNat) := fun k => by
    rw [Bool.eq_iff_iff, beq_iff_eq, decide_eq_true_iff]
    exact ⟨fun h => by rw [h], fun h => UInt8.toNat_inj.1 h⟩
  unfold JP.stand
  rw [e 10, e 9]
  have a : decide (32 ≤ c) = decide (32 ≤ c.toNat) := rfl
  have b : decide (c ≤ 126) = decide (c.toNat ≤ 126) := rfl
  rw [a, b]
  by_cases h1 : 32 ≤ c.toNat <;> by_cases h2 : c.toNat ≤ 126 <;> simp [h1, h2]
theorem all_take {s : ByteArray} {i : Nat} (hi : i < s.size) (h : (s.data.toList.take i).all JP.stand = true) (hc : JP.stand s[i] = true) : (s.data.toList.take (i + 1)).all JP.stand = true := by
  have hl : i < s.data.toList.length := by rw [list_size]; exact hi
  rw [List.take_succ_eq_append_getElem hl, List.all_append, h]
  simp only [List.all_cons, List.all_nil, Bool.and_true, Bool.true_and]
  exact hc
theorem not_all {s : ByteArray} {i : Nat} (hi : i < s.size) (hc : JP.stand s[i] = false) : s.data.toList.all JP.stand = false := by
  have hl : i < s.data.toList.length := by rw [list_size]; exact hi
  rw [Bool.eq_false_iff]
  intro h
  rw [List.all_eq_true] at h
  have := h s.data.toList[i] (List.getElem_mem hl)
  rw [show s.data.toList[i] = s[i] from rfl, hc] at this
  cases this
set_option maxRecDepth 100000 in
set_option maxHeartbeats 3200000 in
theorem canonK_any (s : ByteArray) (w : World) (hs : s.size ≤ 1048576) (ht : TabOK w) :
    Calls Tryz.prog 13 #[.string s] w fun e w' => e = .returned (.tuple #[.string (mkB (JP.canonT s.data.toList)), .bool (JP.canonE s.data.toList == 0)]) ∧ Below w.heap.size w w' := by
  have HC := Lib.hid (canon_any s w hs ht)
  obtain ⟨E0, hE⟩ : ∃ T, JP.canonE s.data.toList = T := ⟨_, rfl⟩
  obtain ⟨T, hT⟩ : ∃ T, JP.canonT s.data.toList = T := ⟨_, rfl⟩
  rw [hE, hT] at HC ⊢
  clear hE hT ht
  go_enter Tryz.func13, Tryz.ntmps13
  go_wp2_with fail
  refine HC.out.mono ?_
  rintro E w1 ⟨rfl, hb⟩
  have HB := Lib.hid hb
  clear hb
  go_wp2_with fail
  go_ret2
  exact ⟨rfl, HB.out⟩
end Go.Proofs.YtnmhjabihfhobaaGreatDoor
/- json: have all bytes of a text a place in a document? -/
namespace Go.Proofs.YtnmhjabihfhobaaGreatDoor
open Go.RowKit
open JP (JV Bs)

theorem ret_bool2 {a b : Bool} (h : a = b) : Ending.returned (.bool a) = .returned (.bool b) := by rw [h]
set_option maxRecDepth 100000 in
set_option maxHeartbeats 3200000 in
theorem stands_any (s : ByteArray) (w : World) (hs : s.size ≤ 4194304) :
    Calls Tryz.prog 85 #[.string s] w fun e w' => e = .returned (.bool (s.data.toList.all JP.stand)) ∧ w = w' := by
  obtain ⟨R, hR⟩ : ∃ R, s.data.toList.all JP.stand = R := ⟨_, rfl⟩
  rw [hR]
  have HR := Lib.hid hR
  clear hR
  go_enter Tryz.func85, Tryz.ntmps85
  go_wp2_with fail
  go_loopg [7] s.size (fun k u7 wx => ∃ i : Nat, i + k = s.size ∧ u7 = .int .i64 (i : Int) ∧ Hid ((s.data.toList.take i).all JP.stand = true) ∧ w = wx)
  case atStart => exact ⟨0, by omega, rfl, Lib.hid (by rw [List.take_zero]; rfl), rfl⟩
  case round =>
    obtain ⟨i, hig, rfl, HA, rfl⟩ := hrel
    cases gk with
    | zero =>
      have q1 : ¬ (i : Int) < (s.size : Int) := by omega
      have Hall : Hid (s.data.toList.all JP.stand = true) := Lib.hid (by have h := HA.out; rwa [List.take_of_length_le (by rw [list_size]; omega)] at h)
      clear HA hig
      go_wp2_with fail
      go_ret
      exact ⟨ret_bool2 (Hall.out.symm.trans HR.out), rfl⟩
    | succ k =>
      have hil : i < s.size := by omega
      have q0 : decide (i < s.size) = true := decide_eq_true hil
      have q1 : (i : Int) < (s.size : Int) := by omega
      have q2 : (0 : Int) ≤ (i : Int) := by omega
      have hwr : IntKind.i64.wrap ((i : Int) + 1) = (i : Int) + 1 := IntWalk.i64_in _ (by omega)
      have hsn := stand_nat s[i]
      cases hst : JP.stand s[i] with
      | false =>
        rw [hst] at hsn
        replace hsn := hsn.symm
        simp only [Bool.or_eq_false_iff, decide_eq_false_iff_not] at hsn
        obtain ⟨⟨m1, m2⟩, m3⟩ := hsn
        have e10 : ((s[i].toNat : Int) != 10) = true := by rw [bne_iff_ne]; omega
        have e9 : ((s[i].toNat : Int) != 9) = true := by rw [bne_iff_ne]; omega
        have Hno := Lib.hid (not_all hil hst)
        clear hst HA hig
        by_cases l1 : s[i].toNat < 32
        · have p1 : (s[i].toNat : Int) < 32 := by omega
          have p2 : decide ((s[i].toNat : Int) < 32) = true := decide_eq_true p1
          clear m1 m2 m3
          go_wp2_with fail
          go_ret
          exact ⟨ret_bool2 (Hno.out.symm.trans HR.out), rfl⟩
        · have p1 : ¬ (s[i].toNat : Int) < 32 := by omega
          have p2 : decide ((s[i].toNat : Int) < 32) = false := decide_eq_false p1
          have p3 : (126 : Int) < (s[i].toNat : Int) := by omega
          have p4 : decide ((126 : Int) < (s[i].toNat : Int)) = true := decide_eq_true p3
          clear m1 m2 m3
          go_wp2_with fail
          go_ret
          exact ⟨ret_bool2 (Hno.out.symm.trans HR.out), rfl⟩
      | true =>
        rw [hst] at hsn
        replace hsn := hsn.symm
        simp only [Bool.or_eq_true, decide_eq_true_eq] at hsn
        have HA2 := Lib.hid (all_take hil HA.out hst)
        clear hst HA
        rcases hsn with (⟨m1, m2⟩ | m1) | m1
        · have p1 : ¬ (s[i].toNat : Int) < 32 := by omega
          have p2 : decide ((s[i].toNat : Int) < 32) = false := decide_eq_false p1
          have p3 : ¬ (126 : Int) < (s[i].toNat : Int) := by omega
          have p4 : decide ((126 : Int) < (s[i].toNat : Int)) = false := decide_eq_false p3
          clear m1 m2
          go_wp2_with fail
          go_roundg k
          case measure => omega
          case rel => exact ⟨i + 1, by omega, by go_num, HA2, rfl⟩
        · go_wp2_with fail
          go_roundg k
          case measure => omega
          case rel => exact ⟨i + 1, by omega, by go_num, HA2, rfl⟩
        · go_wp2_with fail
          go_roundg k
          case measure => omega
          case rel => exact ⟨i + 1, by omega, by go_num, HA2, rfl⟩
end Go.Proofs.YtnmhjabihfhobaaGreatDoor
/- json: sound, Tell. -/
namespace Go.Proofs.YtnmhjabihfhobaaGreatDoor
open Go.RowKit
open JP (JV Bs)

namespace JP
mutual
def sound : JV → Bool
  | .nul => true
  | .bool _ => true
  | .num _ => true
  | .str s => s.all stand
  | .list l => soundL l
  | .obj l => soundF l
termination_by structural x => x
def soundL : List JV → Bool
  | [] => true
  | v :: r => sound v && soundL r
termination_by structural x => x
def soundF : List (Bs × JV) → Bool
  | [] => true
  | (n, v) :: r => n.all stand && sound v && soundF r
termination_by structural x => x
end
theorem soundL_any (l : List JV) : soundL l = !l.any fun x => !sound x := by
  induction l with
  | nil => rfl
  | cons v r ih => rw [soundL, ih, List.any_cons]; cases sound v <;> simp
theorem soundF_all (l : List (Bs × JV)) : soundF l = l.all fun x => x.1.all stand && sound x.2 := by
  induction l with
  | nil => rfl
  | cons x r ih => obtain ⟨n, v⟩ := x; rw [soundF, ih, List.all_cons]
end JP
theorem all_take_of {α : Type} {l : List α} {p : α → Bool} {i : Nat} {x : α} (h : (l.take i).all p = true) (hx : l[i]? = some x) (hp : p x = true) : (l.take (i + 1)).all p = true := by
  rw [List.take_add_one, hx, List.all_append, h]
  simp [hp]
theorem not_all_of {α : Type} {l : List α} {p : α → Bool} {i : Nat} {x : α} (hx : l[i]? = some x) (hp : p x = false) : l.all p = false := by
  rw [Bool.eq_false_iff]
  intro h
  rw [List.all_eq_true] at h
  have := h x (List.mem_of_getElem? hx)
  rw [hp] at this
  cases this
def SoundIH (n : Nat) : Prop := ∀ (v : Value) (x : JV) (w : World), JvAt n [] w v x → (JP.text x).length ≤ 4194304 → Calls Tryz.prog 51 #[v] w fun e w' => e = .returned (.bool (JP.sound x)) ∧ w = w'
set_option maxRecDepth 100000 in
set_option maxHeartbeats 1600000 in
theorem cloSound_any {n : Nat} (ih : SoundIH n) (v : Value) (x : JV) (w : World) (h : JvAt n [] w v x) (hl : (JP.text x).length ≤ 4194304) :
    Calls Tryz.prog 87 #[v] w fun e w' => e = .returned (.bool (!JP.sound x)) ∧ w = w' := by
  have H := Lib.hid (ih v x w h hl)
  obtain ⟨b, hb⟩ : ∃ b, JP.sound x = b := ⟨_, rfl⟩
  rw [hb] at H ⊢
  clear ih h hl hb
  go_enter Tryz.func87, Tryz.ntmps87
  go_wp2_with fail
  refine H.out.mono ?_
  rintro E w1 ⟨rfl, rfl⟩
  go_wp2_with fail
  go_ret
  exact ⟨rfl, rfl⟩
set_option maxRecDepth 100000 in
set_option maxHeartbeats 3200000 in
theorem idxSound_any {n : Nat} (ih : SoundIH n) (v : Value) (l : List JV) (w : World) (h : RowAt (JvR n []) 1 w v l) (hl : l.length ≤ 4194304) (hx : ∀ x ∈ l, (JP.text x).length ≤ 4194304) :
    Calls Tryz.prog 125 #[v, .func (.func 87) #[] #[]] w fun e w' => (∃ i : Int, e = .returned (.int .i64 i) ∧ (decide (0 ≤ i) = l.any fun x => !JP.sound x)) ∧ w = w' := by
  obtain ⟨a1, c1, rfl, _, _⟩ := h.len
  have H := Lib.hid h
  have Hx := Lib.hid hx
  have HC := Lib.hid (fun v x w h hl => cloSound_any ih v x w h hl)
  clear h hx ih
  go_enter Tryz.func125, Tryz.ntmps125
  go_wp2_with fail
  go_loopg [8] l.length (fun g u8 wr => ∃ i : Nat, i + g = l.length ∧ u8 = .int .i64 (i : Int) ∧ Hid (∀ x ∈ l.take i, (!JP.sound x) = false) ∧ w = wr)
  case atStart => exact ⟨0, by omega, rfl, Lib.hid (fun x hx => by simp at hx), rfl⟩
  case round =>
    obtain ⟨i, hig, rfl, Hall, rfl⟩ := hrel
    cases gk with
    | zero =>
      obtain rfl : i = l.length := by omega
      have Hany : Hid (decide ((0 : Int) ≤ -1) = l.any fun x => !JP.sound x) := by
        refine Lib.hid ?_
        rw [decide_eq_false (by omega), eq_comm, List.any_eq_false]
        intro x hx
        have := Hall.out x (by rw [List.take_of_length_le (Nat.le_refl _)]; exact hx)
        rw [this]; decide
      clear hig
      go_wp2_with fail
      go_ret
      exact ⟨⟨-1, rfl, Hany.out⟩, rfl⟩
    | succ g =>
      have hil : i < l.length := by omega
      obtain ⟨x, hxi⟩ : ∃ x, l[i]? = some x := ⟨l[i]'(by omega), List.getElem?_eq_getElem _⟩
      obtain ⟨b, o, c', hv, _, _, hbs, hcell⟩ := H.out.form (by omega) (by omega)
      cases hv
      obtain ⟨ds, _, hcc, vx, rfl, hvx⟩ := hcell i x hxi
      have e0 : w.cell? ⟨b, o + i, none⟩ = some vx := by simpa using hcc 0 _ rfl
      have q1 : (0 : Int) ≤ (i : Int) := by omega
      have q2 : (i : Int) < (l.length : Int) := by omega
      have Hxi := Lib.hid hxi
      have HC1 := Lib.hid (HC.out vx x w hvx (Hx.out x (List.mem_of_getElem? hxi)))
      clear hcc hcell hvx hxi
      obtain ⟨pb, Hpb⟩ : ∃ pb, Hid ((!JP.sound x) = pb) := ⟨_, Lib.hid rfl⟩
      have h9 := HC1.out
      rw [Hpb.out] at h9
      have HC2 := Lib.hid h9
      clear h9 HC1
      go_wp2_with fail
      refine HC2.out.mono ?_
      rintro E w1 ⟨rfl, rfl⟩
      cases pb with
      | true =>
        have Hany : Hid (decide ((0 : Int) ≤ (i : Int)) = l.any fun x => !JP.sound x) := by
          refine Lib.hid ?_
          rw [decide_eq_true (by omega), eq_comm, List.any_eq_true]
          exact ⟨x, List.mem_of_getElem? Hxi.out, Hpb.out⟩
        go_wp2_with fail
        go_ret
        exact ⟨⟨_, rfl, Hany.out⟩, rfl⟩
      | false =>
        have Hall2 : Hid (∀ x ∈ l.take (i + 1), (!JP.sound x) = false) := Lib.hid fun y hy => by
          rw [List.take_add_one, Hxi.out] at hy
          rcases List.mem_append.1 hy with h | h
          · exact Hall.out y h
          · have h9 : y = x := by simpa using h
            rw [h9]; exact Hpb.out
        go_wp2_with fail
        go_roundg g
        case measure => omega
        case rel => exact ⟨i + 1, by omega, by go_num, Hall2, rfl⟩
set_option maxRecDepth 100000 in
set_option maxHeartbeats 1600000 in
theorem anySound_any {n : Nat} (ih : SoundIH n) (v : Value) (l : List JV) (w : World) (h : RowAt (JvR n []) 1 w v l) (hl : l.length ≤ 4194304) (hx : ∀ x ∈ l, (JP.text x).length ≤ 4194304) :
    Calls Tryz.prog 86 #[v, .func (.func 87) #[] #[]] w fun e w' => e = .returned (.bool (!JP.soundL l)) ∧ w = w' := by
  have H := Lib.hid (idxSound_any ih v l w h hl hx)
  obtain ⟨B, HB⟩ : ∃ B, Hid ((!JP.soundL l) = B) := ⟨_, Lib.hid rfl⟩
  have HB2 : Hid ((l.any fun x => !JP.sound x) = B) := Lib.hid (by rw [← HB.out, JP.soundL_any, Bool.not_not])
  rw [HB.out]
  clear h ih hx
  go_enter Tryz.func86, Tryz.ntmps86
  go_wp2_with fail
  refine H.out.mono ?_
  rintro E w1 ⟨⟨i, rfl, hn⟩, rfl⟩
  rw [HB2.out] at hn
  have Hn := Lib.hid hn
  clear hn H
  go_wp2_with fail
  go_ret
  exact ⟨congrArg (fun b => Ending.returned (Value.bool b)) Hn.out, rfl⟩
set_option maxRecDepth 100000 in
set_option maxHeartbeats 6400000 in
theorem sound_any : ∀ (n : Nat), SoundIH n := by
  intro n
  induction n with
  | zero => intro v x w h; cases h
  | succ n ih =>
    intro v x w h hlen
    have IH := Lib.hid ih
    clear ih
    cases x with
    | nul =>
      obtain rfl : v = .nilIface := h
      obtain ⟨g1, g2, g3, g4, g5⟩ := as_nil
      clear hlen
      go_enter Tryz.func51, Tryz.ntmps51
      go_wp2_with fail
      go_ret
      exact ⟨ret_bool2 (by rw [JP.sound]), rfl⟩
    | bool b =>
      obtain rfl : v = .iface 4 (.bool b) := h
      obtain ⟨g1, g2, g3, g4, g5⟩ := as_bool (.bool b)
      clear hlen
      go_enter Tryz.func51, Tryz.ntmps51
      go_wp2_with fail
      go_ret
      exact ⟨ret_bool2 (by rw [JP.sound]), rfl⟩
    | num k =>
      obtain ⟨rfl, _, _⟩ := h
      obtain ⟨g1, g2, g3, g4, g5⟩ := as_int64 (.int .i64 k)
      clear hlen
      go_enter Tryz.func51, Tryz.ntmps51
      go_wp2_with fail
      go_ret
      exact ⟨ret_bool2 (by rw [JP.sound]), rfl⟩
    | str s =>
      obtain rfl : v = .iface 9 (.string (mkB s)) := h
      obtain ⟨g1, g2, g3, g4, g5⟩ := as_string (.string (mkB s))
      have hsz : (mkB s).size ≤ 4194304 := by
        rw [mkB_size]
        have := quote_size s
        rw [JP.text] at hlen
        omega
      have HS := stands_any (mkB s) w hsz
      rw [mkB_list] at HS
      obtain ⟨b, hb⟩ : ∃ b, s.all JP.stand = b := ⟨_, rfl⟩
      rw [hb] at HS
      have HS := Lib.hid HS
      have Hb := Lib.hid hb
      clear hlen hb hsz
      go_enter Tryz.func51, Tryz.ntmps51
      go_wp2_with fail
      refine HS.out.mono ?_
      rintro E w1 ⟨rfl, rfl⟩
      go_wp2_with fail
      go_ret
      exact ⟨ret_bool2 (by rw [JP.sound]; exact Hb.out.symm), rfl⟩
    | list L =>
      obtain ⟨u, rfl, hrow, _⟩ := h
      obtain ⟨a, c, rfl, _, _⟩ := hrow.len
      obtain ⟨g1, g2, g3, g4, g5⟩ := as_list (.slice a L.length c)
      have hll := lenL_text L
      have hln := lenL_len L
      have HA := anySound_any IH.out _ L w hrow (by omega) (fun x hx => by have := lenL_mem hx; omega)
      obtain ⟨b, hb⟩ : ∃ b, JP.soundL L = b := ⟨_, rfl⟩
      rw [hb] at HA
      have HA := Lib.hid HA
      have Hb := Lib.hid hb
      clear hlen hb hll hrow
      go_enter Tryz.func51, Tryz.ntmps51
      go_wp2_with fail
      refine HA.out.mono ?_
      rintro E w1 ⟨rfl, rfl⟩
      go_wp2_with fail
      go_ret
      exact ⟨ret_bool2 (by rw [JP.sound]; exact Hb.out.symm), rfl⟩
    | obj l =>
      obtain ⟨q, rfl, _, _, vn, vv, cn, cv, hrn, _, hrv, _⟩ := h
      obtain ⟨a1, c1, hu1, _, _⟩ := hrn.len
      obtain ⟨a2, c2, hu2, _, _⟩ := hrv.len
      obtain ⟨ln, hln⟩ : ∃ ln, l.length = ln := ⟨_, rfl⟩
      rw [List.length_map, hln] at hu1 hu2
      subst hu1
      subst hu2
      obtain ⟨g1, g2, g3, g4, g5⟩ := as_obj (.pointer (some ⟨q, 0, none⟩))
      have hll := lenF_text l
      have hln2 := lenF_len l
      have hlb : ln ≤ 4194304 := by omega
      have Hln := Lib.hid hln
      have Hrn := Lib.hid hrn
      have Hrv := Lib.hid hrv
      have Hlen := Lib.hid (fun x (hx : x ∈ l) => (show x.1.length ≤ 4194304 ∧ (JP.text x.2).length ≤ 4194304 from by
        have h1 := lenF_mem hx
        have h2 := quote_size x.1
        omega))
      have HS : Hid (JP.sound (.obj l) = l.all fun x => x.1.all JP.stand && JP.sound x.2) := Lib.hid (by rw [JP.sound, JP.soundF_all])
      clear hlen hll hln2 hrn hrv hln
      go_enter Tryz.func51, Tryz.ntmps51
      go_wp2_with fail
      go_loopg [28] ln (fun k u28 wr => ∃ i : Nat, i + k = ln ∧ u28 = .int .i64 (i : Int) ∧ Hid ((l.take i).all (fun x => x.1.all JP.stand && JP.sound x.2) = true) ∧ w = wr)
      case atStart => exact ⟨0, by omega, rfl, Lib.hid rfl, rfl⟩
      case round =>
        obtain ⟨i, hik, rfl, Hall, rfl⟩ := hrel
        cases gk with
        | zero =>
          have hall := Hall.out
          rw [List.take_of_length_le (by rw [Hln.out]; omega)] at hall
          have Ha := Lib.hid hall
          have q1 : ¬ (i : Int) < (ln : Int) := by omega
          clear hall hik
          go_wp2_with fail
          go_ret
          exact ⟨ret_bool2 (by rw [HS.out]; exact Ha.out.symm), rfl⟩
        | succ k =>
          have hil : i < ln := by omega
          obtain ⟨y, hy⟩ : ∃ y, l[i]? = some y := ⟨l[i]'(by rw [Hln.out]; exact hil), List.getElem?_eq_getElem _⟩
          have hlm := Hlen.out y (List.mem_of_getElem? hy)
          obtain ⟨b1, o1, c', hv1, _, _, hbs1, hcell1⟩ := Hrn.out.form (by rw [List.length_map, Hln.out]; omega) (by omega)
          injection hv1 with u1 u2 u3
          subst u1
          clear u2 u3
          obtain ⟨ds1, _, hcc1, hR1⟩ := hcell1 i (mkB y.1) (by rw [List.getElem?_map, hy]; rfl)
          obtain rfl : ds1 = [.string (mkB y.1)] := hR1
          have e0 : w.cell? ⟨b1, o1 + i, none⟩ = some (.string (mkB y.1)) := by simpa using hcc1 0 _ rfl
          obtain ⟨b2, o2, c'', hv2, _, _, hbs2, hcell2⟩ := Hrv.out.form (by rw [List.length_map, Hln.out]; omega) (by omega)
          injection hv2 with u1 u2 u3
          subst u1
          clear u2 u3
          obtain ⟨ds2, _, hcc2, vx, rfl, hvx⟩ := hcell2 i y.2 (by rw [List.getElem?_map, hy]; rfl)
          have e1 : w.cell? ⟨b2, o2 + i, none⟩ = some vx := by simpa using hcc2 0 _ rfl
          have q1 : (0 : Int) ≤ (i : Int) := by omega
          have q2 : (i : Int) < (ln : Int) := by omega
          have hST := stands_any (mkB y.1) w (by rw [mkB_size]; exact hlm.1)
          rw [mkB_list] at hST
          have hSO := IH.out vx y.2 w hvx hlm.2
          obtain ⟨p1, hp1⟩ : ∃ p, y.1.all JP.stand = p := ⟨_, rfl⟩
          obtain ⟨p2, hp2⟩ : ∃ p, JP.sound y.2 = p := ⟨_, rfl⟩
          rw [hp1] at hST
          rw [hp2] at hSO
          have HST := Lib.hid hST
          have HSO := Lib.hid hSO
          have Hy := Lib.hid hy
          have Hp : Hid ((y.1.all JP.stand && JP.sound y.2) = (p1 && p2)) := Lib.hid (by rw [hp1, hp2])
          clear hcell1 hcell2 hcc1 hcc2 hvx hy hp1 hp2 hST hSO hlm
          cases p1 with
          | false =>
            go_wp2_with fail
            refine HST.out.mono ?_
            rintro E w1 ⟨rfl, rfl⟩
            go_wp2_with fail
            go_ret
            exact ⟨ret_bool2 (by rw [HS.out]; exact (not_all_of Hy.out Hp.out).symm), rfl⟩
          | true =>
            go_wp2_with fail
            refine HST.out.mono ?_
            rintro E w1 ⟨rfl, rfl⟩
            go_wp2_with fail
            refine HSO.out.mono ?_
            rintro E w1 ⟨rfl, rfl⟩
            cases p2 with
            | false =>
              go_wp2_with fail
              go_ret
              exact ⟨ret_bool2 (by rw [HS.out]; exact (not_all_of Hy.out Hp.out).symm), rfl⟩
            | true =>
              have HA2 := Lib.hid (all_take_of Hall.out Hy.out Hp.out)
              go_wp2_with fail
              go_roundg k
              case measure => omega
              case rel => exact ⟨i + 1, by omega, by go_num, HA2, rfl⟩
end Go.Proofs.YtnmhjabihfhobaaGreatDoor
/- json: Tell. -/
namespace Go.Proofs.YtnmhjabihfhobaaGreatDoor
open Go.RowKit
open JP (JV Bs)

namespace JP
def tellE (x : JV) : Int := if sound x = false then 16 else if 10 < deep x then 4 else if 200 < size x then 2 else if 2000 < (text x).length then 2 else 0
def tellT (x : JV) : Bs := if tellE x = 0 then text x else []
end JP
theorem ret_tell {t : ByteArray} {e e' : Int} {l : Bs} (h : mkB l = t) (he : e = e') : Ending.returned (.tuple #[.string t, .int .i64 e]) = .returned (.tuple #[.string (mkB l), .int .i64 e']) := by rw [h, he]
set_option maxRecDepth 100000 in
set_option maxHeartbeats 3200000 in
theorem tell_any (n : Nat) (v : Value) (x : JV) (w : World) (h : JvAt n [] w v x) (hl : (JP.text x).length ≤ 4194304) (hz : JP.size x ≤ 4194304) (ht : TabOK w) :
    Calls Tryz.prog 26 #[v] w fun e w' => e = .returned (.tuple #[.string (mkB (JP.tellT x)), .int .i64 (JP.tellE x)]) ∧ Below w.heap.size w w' := by
  have HZ := size_any n v x w h hz
  have HS := sound_any n v x w h hl
  have HT := Lib.hid (text_any n v x w h hl ht)
  obtain ⟨S, hS⟩ : ∃ S, JP.sound x = S := ⟨_, rfl⟩
  obtain ⟨M, hM⟩ : ∃ S, JP.size x = S := ⟨_, rfl⟩
  obtain ⟨D, hD⟩ : ∃ S, JP.deep x = S := ⟨_, rfl⟩
  rw [hM, hD] at HZ
  rw [hS] at HS
  have HZ := Lib.hid HZ
  have HS := Lib.hid HS
  obtain ⟨E0, hE⟩ : ∃ T, JP.tellE x = T := ⟨_, rfl⟩
  obtain ⟨T0, hT⟩ : ∃ T, JP.tellT x = T := ⟨_, rfl⟩
  rw [hE, hT]
  have HE : Hid (E0 = if S = false then 16 else if 10 < D then 4 else if 200 < M then 2 else if 2000 < (JP.text x).length then 2 else 0) := Lib.hid (by rw [← hE, ← hS, ← hM, ← hD]; rfl)
  have HTT : Hid (T0 = if E0 = 0 then JP.text x else []) := Lib.hid (by rw [← hE, ← hT]; rfl)
  clear hS hM hD hE hT ht h
  have no : ∀ e : Int, E0 = e → e ≠ 0 → mkB T0 = ByteArray.empty := fun e h1 h2 => by
    rw [HTT.out, if_neg (by rw [h1]; exact h2)]; rfl
  have No := Lib.hid no
  clear no
  cases S with
  | false =>
    have He : Hid (E0 = 16) := Lib.hid (HE.out.trans (if_pos rfl))
    go_enter Tryz.func26, Tryz.ntmps26
    go_wp2_with fail
    refine HZ.out.mono ?_
    rintro E w1 ⟨rfl, rfl⟩
    go_wp2_with fail
    refine HS.out.mono ?_
    rintro E w1 ⟨rfl, rfl⟩
    go_wp2_with fail
    go_ret2
    exact ⟨ret_tell (No.out 16 He.out (by decide)) He.out.symm, Below.refl _ _⟩
  | true =>
    have HE1 : Hid (E0 = if 10 < D then 4 else if 200 < M then 2 else if 2000 < (JP.text x).length then 2 else 0) := Lib.hid (HE.out.trans (if_neg (by decide)))
    clear HE
    by_cases hd : 10 < D
    · have He : Hid (E0 = 4) := Lib.hid (HE1.out.trans (if_pos hd))
      have p1 : (10 : Int) < (D : Int) := by omega
      clear hd
      go_enter Tryz.func26, Tryz.ntmps26
      go_wp2_with fail
      refine HZ.out.mono ?_
      rintro E w1 ⟨rfl, rfl⟩
      go_wp2_with fail
      refine HS.out.mono ?_
      rintro E w1 ⟨rfl, rfl⟩
      go_wp2_with fail
      go_ret2
      exact ⟨ret_tell (No.out 4 He.out (by decide)) He.out.symm, Below.refl _ _⟩
    have p1 : ¬ (10 : Int) < (D : Int) := by omega
    have HE2 : Hid (E0 = if 200 < M then 2 else if 2000 < (JP.text x).length then 2 else 0) := Lib.hid (HE1.out.trans (if_neg hd))
    clear HE1 hd
    by_cases hm : 200 < M
    · have He : Hid (E0 = 2) := Lib.hid (HE2.out.trans (if_pos hm))
      have p2 : (200 : Int) < (M : Int) := by omega
      clear hm
      go_enter Tryz.func26, Tryz.ntmps26
      go_wp2_with fail
      refine HZ.out.mono ?_
      rintro E w1 ⟨rfl, rfl⟩
      go_wp2_with fail
      refine HS.out.mono ?_
      rintro E w1 ⟨rfl, rfl⟩
      go_wp2_with fail
      go_ret2
      exact ⟨ret_tell (No.out 2 He.out (by decide)) He.out.symm, Below.refl _ _⟩
    have p2 : ¬ (200 : Int) < (M : Int) := by omega
    have HE3 : Hid (E0 = if 2000 < (JP.text x).length then 2 else 0) := Lib.hid (HE2.out.trans (if_neg hm))
    clear HE2 hm
    obtain ⟨T, hT⟩ : ∃ T, JP.text x = T := ⟨_, rfl⟩
    rw [hT] at HE3 HT HTT hl
    have hsz := mkB_size T
    by_cases hlg : 2000 < T.length
    · have He : Hid (E0 = 2) := Lib.hid (HE3.out.trans (if_pos hlg))
      have p3 : (2000 : Int) < ((mkB T).size : Int) := by omega
      clear hlg hsz hT
      go_enter Tryz.func26, Tryz.ntmps26
      go_wp2_with fail
      refine HZ.out.mono ?_
      rintro E w1 ⟨rfl, rfl⟩
      go_wp2_with fail
      refine HS.out.mono ?_
      rintro E w1 ⟨rfl, rfl⟩
      go_wp2_with fail
      refine HT.out.mono ?_
      rintro E w1 ⟨rfl, hb⟩
      have HB := Lib.hid hb
      clear hb
      go_wp2_with fail
      go_ret2
      exact ⟨ret_tell (No.out 2 He.out (by decide)) He.out.symm, HB.out⟩
    · have He : Hid (E0 = 0) := Lib.hid (HE3.out.trans (if_neg hlg))
      have p3 : ¬ (2000 : Int) < ((mkB T).size : Int) := by omega
      have HTx : Hid (T0 = T) := Lib.hid (by rw [HTT.out, if_pos He.out])
      clear hlg hsz hT
      go_enter Tryz.func26, Tryz.ntmps26
      go_wp2_with fail
      refine HZ.out.mono ?_
      rintro E w1 ⟨rfl, rfl⟩
      go_wp2_with fail
      refine HS.out.mono ?_
      rintro E w1 ⟨rfl, rfl⟩
      go_wp2_with fail
      refine HT.out.mono ?_
      rintro E w1 ⟨rfl, hb⟩
      have HB := Lib.hid hb
      clear hb
      go_wp2_with fail
      go_ret2
      exact ⟨ret_tell (by rw [HTx.out]) He.out.symm, HB.out⟩
end Go.Proofs.YtnmhjabihfhobaaGreatDoor
/- merge: what the code computes, in plain Lean. -/
namespace Go.Proofs.YtnmhjabihfhobaaGreatDoor
open Go
namespace JP
def fieldsOf : JV → List (Bs × JV)
  | .obj l => l
  | _ => []
mutual
def intoF : List (Bs × JV) → List (Bs × JV) → List (Bs × JV)
  | out, [] => out
  | out, (n, w) :: r => intoF (into1 n out w) r
termination_by structural _ x => x
def into1 : Bs → List (Bs × JV) → JV → List (Bs × JV)
  | n, out, .nul => cut n out
  | n, out, .bool b => put n (.bool b) out
  | n, out, .num k => put n (.num k) out
  | n, out, .str s => put n (.str s) out
  | n, out, .list l => put n (.list l) out
  | n, out, .obj l => put n (.obj (intoF (fieldsOf ((get n out).getD .nul)) l)) out
termination_by structural _ _ x => x
end
def into (d : JV) : JV → JV
  | .obj l => .obj (intoF (fieldsOf d) l)
  | .nul => .nul
  | .bool b => .bool b
  | .num n => .num n
  | .str s => .str s
  | .list l => .list l
theorem into1_nul (n : Bs) (out : List (Bs × JV)) : into1 n out .nul = cut n out := by rw [into1]
theorem into1_put (n : Bs) (out : List (Bs × JV)) (w : JV) (h : w ≠ .nul) : into1 n out w = put n (into ((get n out).getD .nul) w) out := by
  cases w with
  | nul => exact absurd rfl h
  | bool b => rw [into1, into]
  | num b => rw [into1, into]
  | str b => rw [into1, into]
  | list b => rw [into1, into]
  | obj l => rw [into1, into]
theorem intoF_nil (out : List (Bs × JV)) : intoF out [] = out := by rw [intoF]
theorem intoF_cons (out : List (Bs × JV)) (n : Bs) (w : JV) (r : List (Bs × JV)) : intoF out ((n, w) :: r) = intoF (into1 n out w) r := by rw [intoF]
theorem sizeF_fields (d : JV) : sizeF (fieldsOf d) ≤ size d := by
  cases d <;> simp only [fieldsOf, size, sizeF] <;> omega
theorem sizeF_cut (n : Bs) : ∀ d, sizeF (cut n d) ≤ sizeF d
  | [] => Nat.le_refl _
  | (m, x) :: r => by
    have ih := sizeF_cut n r
    unfold cut at ih ⊢
    by_cases h : m = n
    · rw [List.filter_cons_of_neg (by simpa using h), sizeF]; omega
    · rw [List.filter_cons_of_pos (by simpa using h), sizeF, sizeF]; omega
theorem sizeF_put (n : Bs) (v : JV) : ∀ d, Srt d → sizeF (put n v d) + (match get n d with | some u => size u | none => 0) = sizeF d + size v
  | [], _ => by simp only [put, get, sizeF]; omega
  | (m, x) :: r, hs => by
    obtain ⟨h1, h2⟩ := List.pairwise_cons.1 hs
    have ih := sizeF_put n v r h2
    unfold put
    by_cases hlt : m < n
    · have hne : m ≠ n := fun e => by subst e; exact List.lt_irrefl _ hlt
      rw [if_pos hlt, sizeF, sizeF, get, if_neg hne]
      omega
    · rw [if_neg hlt]
      by_cases he : m = n
      · rw [if_pos he, sizeF, sizeF, get, if_pos he]
        dsimp only
        omega
      · rw [if_neg he, sizeF, get, if_neg he]
        have hg : get n r = none := by
          have hlt2 : n < m := bs_trich m n hlt he
          have : ∀ l : List (Bs × JV), (∀ a ∈ l, m < a.1) → get n l = none := by
            intro l
            induction l with
            | nil => intro _; rfl
            | cons a t iht =>
              intro ha
              obtain ⟨k, y⟩ := a
              rw [get, if_neg, iht fun b hb => ha b (List.mem_cons_of_mem _ hb)]
              intro e
              have := ha (k, y) (List.mem_cons_self ..)
              rw [e] at this
              exact List.lt_irrefl _ (List.lt_trans hlt2 this)
          exact this r fun a ha => h1 a ha
        rw [hg]
        dsimp only
        omega
theorem srt_cut (n : Bs) {d : List (Bs × JV)} (h : Srt d) : Srt (cut n d) := List.Pairwise.sublist List.filter_sublist h
theorem wfF_cut (n : Bs) : ∀ {d : List (Bs × JV)}, wfF d → wfF (cut n d)
  | [], h => h
  | (m, x) :: r, h => by
    rw [wfF] at h
    have ih := wfF_cut n h.2.2
    unfold cut at ih ⊢
    by_cases hm : m = n
    · rw [List.filter_cons_of_neg (by simpa using hm)]; exact ih
    · rw [List.filter_cons_of_pos (by simpa using hm), wfF]; exact ⟨h.1, h.2.1, ih⟩
theorem wf_get (n : Bs) : ∀ {d : List (Bs × JV)}, wfF d → wf ((get n d).getD .nul)
  | [], _ => trivial
  | (m, x) :: r, h => by
    rw [wfF] at h
    rw [get]
    by_cases hm : m = n
    · rw [if_pos hm]; exact h.2.1
    · rw [if_neg hm]; exact wf_get n h.2.2
theorem wf_fields {d : JV} (h : wf d) : Srt (fieldsOf d) ∧ wfF (fieldsOf d) := by
  cases d with
  | obj l => rw [wf] at h; exact h
  | _ => exact ⟨List.Pairwise.nil, trivial⟩
def Fld (out : List (Bs × JV)) : Prop := Srt out ∧ wfF out
/-- each field that is merged in: how large it may get -/
theorem into_size : (∀ x : JV, wf x → ∀ (n : Bs) (out : List (Bs × JV)), n.all stand = true → Fld out → Fld (into1 n out x) ∧ sizeF (into1 n out x) ≤ sizeF out + size x) ∧ (∀ _ : List JV, True) ∧ (∀ l : List (Bs × JV), wfF l → ∀ out : List (Bs × JV), Fld out → Fld (intoF out l) ∧ sizeF (intoF out l) ≤ sizeF out + sizeF l) := by
  refine JV.both ?_ ?_ ?_ ?_ ?_ ?_ trivial (fun _ _ _ _ => trivial) ?_ ?_
  · intro _ n out _ hs
    rw [into1]
    exact ⟨⟨srt_cut n hs.1, wfF_cut n hs.2⟩, by have := sizeF_cut n out; omega⟩
  · intro b hw n out hn hs
    rw [into1]
    exact ⟨⟨put_srt hs.1, put_wf hn hw hs.2⟩, by have := sizeF_put n (.bool b) out hs.1; omega⟩
  · intro b hw n out hn hs
    rw [into1]
    exact ⟨⟨put_srt hs.1, put_wf hn hw hs.2⟩, by have := sizeF_put n (.num b) out hs.1; omega⟩
  · intro b hw n out hn hs
    rw [into1]
    exact ⟨⟨put_srt hs.1, put_wf hn hw hs.2⟩, by have := sizeF_put n (.str b) out hs.1; omega⟩
  · intro l _ hw n out hn hs
    rw [into1]
    exact ⟨⟨put_srt hs.1, put_wf hn hw hs.2⟩, by have := sizeF_put n (.list l) out hs.1; omega⟩
  · intro l ih hw n out hn hs
    rw [into1]
    have hwl : wfF l := by rw [wf] at hw; exact hw.2
    obtain ⟨g1, g2⟩ := ih hwl _ (wf_fields (wf_get n hs.2))
    refine ⟨⟨put_srt hs.1, put_wf hn (by rw [wf]; exact g1) hs.2⟩, ?_⟩
    have hp := sizeF_put n (.obj (intoF (fieldsOf ((get n out).getD .nul)) l)) out hs.1
    have hf := sizeF_fields ((get n out).getD .nul)
    rw [size] at hp ⊢
    cases hg : get n out with
    | none =>
      rw [hg] at hp g2
      simp only [Option.getD, fieldsOf, sizeF] at hp g2
      simp only [Option.getD, fieldsOf]
      omega
    | some u =>
      rw [hg] at hp g2
      simp only [Option.getD] at hp g2
      simp only [Option.getD]
      have hu := sizeF_fields u
      omega
  · intro _ out hs
    rw [intoF]
    exact ⟨hs, by omega⟩
  · intro n v r hv hr hw out hs
    rw [wfF] at hw
    rw [intoF, sizeF]
    obtain ⟨h1, h2⟩ := hv hw.2.1 n out hw.1 hs
    obtain ⟨h3, h4⟩ := hr hw.2.2 _ h1
    exact ⟨h3, by omega⟩
end JP
end Go.Proofs.YtnmhjabihfhobaaGreatDoor
/- merge: the laws of Into, between and both, in plain Lean. -/
namespace Go.Proofs.YtnmhjabihfhobaaGreatDoor
open Go
namespace JP
abbrev Fs := List (Bs × JV)
theorem get_put_same (n : Bs) (v : JV) : ∀ d : Fs, get n (put n v d) = some v
  | [] => by rw [put, get, if_pos rfl]
  | (m, x) :: r => by
    rw [put]
    by_cases hlt : m < n
    · rw [if_pos hlt, get, if_neg (fun e => by subst e; exact List.lt_irrefl _ hlt)]
      exact get_put_same n v r
    · rw [if_neg hlt]
      by_cases he : m = n
      · rw [if_pos he, get, if_pos rfl]
      · rw [if_neg he, get, if_pos rfl]
theorem get_put_ne {k n : Bs} (v : JV) (h : k ≠ n) : ∀ d : Fs, get k (put n v d) = get k d
  | [] => by simp only [put, get, if_neg (fun e : n = k => h e.symm)]
  | (m, x) :: r => by
    rw [put]
    by_cases hlt : m < n
    · rw [if_pos hlt, get, get, get_put_ne v h r]
    · rw [if_neg hlt]
      by_cases he : m = n
      · rw [if_pos he, get, get, if_neg (fun e => h e.symm), if_neg (fun e => h (e.symm.trans he))]
      · rw [if_neg he, get, if_neg (fun e => h e.symm)]
theorem get_put (k n : Bs) (v : JV) (d : Fs) : get k (put n v d) = if k = n then some v else get k d := by
  by_cases h : k = n
  · rw [if_pos h, h]; exact get_put_same n v d
  · rw [if_neg h]; exact get_put_ne v h d
theorem get_cut (k n : Bs) : ∀ d : Fs, get k (cut n d) = if k = n then none else get k d
  | [] => by unfold cut; rw [List.filter_nil, get]; split <;> rfl
  | (m, x) :: r => by
    have ih := get_cut k n r
    unfold cut at ih ⊢
    by_cases hm : m = n
    · rw [List.filter_cons_of_neg (by simpa using hm), ih]
      by_cases hk : k = n
      · rw [if_pos hk, if_pos hk]
      · rw [if_neg hk, if_neg hk, get, if_neg (fun e => hk (e.symm.trans hm))]
    · rw [List.filter_cons_of_pos (by simpa using hm), get, ih, get]
      by_cases hk : k = n
      · rw [if_pos hk, if_pos hk, if_neg (fun e => hm (e.trans hk))]
      · rw [if_neg hk, if_neg hk]
theorem get_lt {n : Bs} : ∀ {d : Fs}, (∀ x ∈ d, n < x.1) → get n d = none
  | [], _ => rfl
  | (m, x) :: r, h => by
    rw [get, if_neg, get_lt fun y hy => h y (List.mem_cons_of_mem _ hy)]
    intro e
    have := h (m, x) (List.mem_cons_self ..)
    rw [e] at this
    exact List.lt_irrefl _ this
/-- two lists of fields with the same field at every name are the same -/
theorem fs_ext : ∀ {a b : Fs}, Srt a → Srt b → (∀ n, get n a = get n b) → a = b
  | [], [], _, _, _ => rfl
  | [], (m, x) :: r, _, _, h => by have := h m; rw [get, get, if_pos rfl] at this; cases this
  | (m, x) :: r, [], _, _, h => by have := h m; rw [get, get, if_pos rfl] at this; cases this
  | (m, x) :: r, (k, y) :: s, ha, hb, h => by
    obtain ⟨a1, a2⟩ := List.pairwise_cons.1 ha
    obtain ⟨b1, b2⟩ := List.pairwise_cons.1 hb
    have hmk : m = k := by
      by_cases h1 : m < k
      · have := h m
        rw [get, if_pos rfl, get_lt] at this
        · cases this
        · intro z hz
          rcases List.mem_cons.1 hz with rfl | hz
          · exact h1
          · exact List.lt_trans h1 (b1 z hz)
      · by_cases h2 : m = k
        · exact h2
        · have h3 : k < m := bs_trich m k h1 h2
          have := h k
          rw [get_lt (d := (m, x) :: r), get, if_pos rfl] at this
          · cases this
          · intro z hz
            rcases List.mem_cons.1 hz with rfl | hz
            · exact h3
            · exact List.lt_trans h3 (a1 z hz)
    subst hmk
    have hxy : x = y := by have := h m; rw [get, get, if_pos rfl, if_pos rfl] at this; exact Option.some.inj this
    subst hxy
    rw [fs_ext a2 b2]
    intro n
    by_cases hn : m = n
    · subst hn
      rw [get_lt a1, get_lt b1]
    · have := h n
      rw [get, get, if_neg hn, if_neg hn] at this
      exact this
theorem get_tail {n m : Bs} {w : JV} {r : Fs} (h : Srt ((n, w) :: r)) (he : m = n) : get m r = none := by
  obtain ⟨h1, _⟩ := List.pairwise_cons.1 h
  rw [he]
  exact get_lt h1

/-! Into -/
def isNul : JV → Bool
  | .nul => true
  | _ => false
theorem isNul_iff {w : JV} : isNul w = true ↔ w = .nul := by cases w <;> simp [isNul]
def fieldI (o : Option JV) (w : JV) : Option JV := if isNul w = true then none else some (into (o.getD .nul) w)
theorem fieldI_nul (o : Option JV) : fieldI o .nul = none := rfl
theorem fieldI_some {o : Option JV} {w : JV} (h : w ≠ .nul) : fieldI o w = some (into (o.getD .nul) w) := if_neg fun e => h (isNul_iff.1 e)
theorem get_into1 (m n : Bs) (out : Fs) (w : JV) : get m (into1 n out w) = if m = n then fieldI (get n out) w else get m out := by
  by_cases hw : w = .nul
  · rw [hw, into1_nul, get_cut, fieldI_nul]
  · rw [into1_put _ _ _ hw, get_put, fieldI_some hw]
theorem get_intoF (m : Bs) : ∀ (l out : Fs), Srt l → get m (intoF out l) = match get m l with
    | none => get m out
    | some w => fieldI (get m out) w
  | [], out, _ => by rw [intoF_nil, get]
  | (n, w) :: r, out, h => by
    have h2 := (List.pairwise_cons.1 h).2
    rw [intoF_cons, get_intoF m r _ h2, get]
    by_cases he : n = m
    · rw [get_tail h he.symm, if_pos he]
      dsimp only
      rw [get_into1, if_pos he.symm, he]
    · rw [if_neg he, get_into1, if_neg (fun e => he e.symm)]
theorem srt_into1 {n : Bs} {out : Fs} {w : JV} (h : Srt out) : Srt (into1 n out w) := by
  by_cases hw : w = .nul
  · rw [hw, into1_nul]; exact srt_cut n h
  · rw [into1_put _ _ _ hw]; exact put_srt h
theorem srt_intoF : ∀ {l out : Fs}, Srt out → Srt (intoF out l)
  | [], out, h => by rw [intoF_nil]; exact h
  | (n, w) :: r, out, h => by rw [intoF_cons]; exact srt_intoF (srt_into1 h)
theorem wf_obj {l : Fs} (h : wf (.obj l)) : Srt l ∧ wfF l := by rw [wf] at h; exact h
theorem srt_fields {d : JV} (h : wf d) : Srt (fieldsOf d) := (wf_fields h).1
theorem wf_at {n : Bs} {l : Fs} {x : JV} (h : wfF l) (hg : get n l = some x) : wf x := by have := wf_get n h; rw [hg] at this; exact this
theorem wf_into {d x : JV} (hd : wf d) (hx : wf x) : wf (into d x) := by
  cases x with
  | obj l =>
    obtain ⟨⟨h1, h2⟩, _⟩ := into_size.2.2 l (wf_obj hx).2 (fieldsOf d) (wf_fields hd)
    rw [into, wf]; exact ⟨h1, h2⟩
  | _ => exact hx
/-- by the fields that a value has -/
theorem JV.byGet {P : JV → Prop} (h : ∀ v, (∀ l n x, v = .obj l → get n l = some x → P x) → P v) (v : JV) : P v := by
  refine (JV.both (P := P) (PL := fun _ => True) (PF := fun l => ∀ n x, get n l = some x → P x) ?_ ?_ ?_ ?_ ?_ ?_ trivial (fun _ _ _ _ => trivial) ?_ ?_).1 v
  · exact h _ fun l n x e => by cases e
  · exact fun b => h _ fun l n x e => by cases e
  · exact fun b => h _ fun l n x e => by cases e
  · exact fun b => h _ fun l n x e => by cases e
  · exact fun b _ => h _ fun l n x e => by cases e
  · exact fun l ih => h _ fun l' n x e hg => by cases e; exact ih n x hg
  · intro n x hg; rw [get] at hg; cases hg
  · intro n v r hv hr m x hg
    rw [get] at hg
    by_cases hm : n = m
    · rw [if_pos hm] at hg; cases hg; exact hv
    · rw [if_neg hm] at hg; exact hr m x hg
theorem not_obj {x : JV} (h : ∀ l, x ≠ .obj l) (d : JV) : into d x = x := by
  cases x with
  | obj l => exact absurd rfl (h l)
  | _ => rfl
theorem obj_or (x : JV) : (∃ l, x = .obj l) ∨ ∀ l, x ≠ .obj l := by
  cases x with
  | obj l => exact .inl ⟨l, rfl⟩
  | _ => exact .inr fun l e => by cases e
/-- MergeAgain -/
theorem into_again : ∀ p d : JV, wf d → wf p → into (into d p) p = into d p := by
  intro p
  refine JV.byGet (P := fun p => ∀ d : JV, wf d → wf p → into (into d p) p = into d p) (fun p ih => ?_) p
  intro d hd hp
  rcases obj_or p with ⟨l, rfl⟩ | h
  · obtain ⟨s1, s2⟩ := wf_obj hp
    rw [into, into]
    show JV.obj (intoF (intoF (fieldsOf d) l) l) = _
    refine congrArg JV.obj (fs_ext (srt_intoF (srt_intoF (srt_fields hd))) (srt_intoF (srt_fields hd)) fun n => ?_)
    rw [get_intoF n l _ s1, get_intoF n l _ s1]
    cases hg : get n l with
    | none => rfl
    | some w =>
      dsimp only
      by_cases hw : w = .nul
      · rw [hw, fieldI_nul, fieldI_nul]
      · rw [fieldI_some hw, fieldI_some hw]
        refine congrArg some ?_
        exact ih l n w rfl hg _ (wf_get n (wf_fields hd).2) (wf_at s2 hg)
  · rw [not_obj h, not_obj h]

/-! both -/
mutual
def both : JV → JV → Option JV
  | p, .obj l => match p with
    | .obj h => (bothF h l).map .obj
    | _ => none
  | _, .nul => some .nul
  | _, .bool b => some (.bool b)
  | _, .num b => some (.num b)
  | _, .str b => some (.str b)
  | _, .list b => some (.list b)
termination_by structural _ x => x
def bothF : Fs → Fs → Option Fs
  | out, [] => some out
  | out, (n, w) :: r => (match get n out with
    | some v => both v w
    | none => some w).bind fun x => bothF (put n x out) r
termination_by structural _ x => x
end
def bothO (o : Option JV) (w : JV) : Option JV := match o with
  | some v => both v w
  | none => some w
theorem bothF_nil (out : Fs) : bothF out [] = some out := by rw [bothF]
theorem bothF_cons (out : Fs) (n : Bs) (w : JV) (r : Fs) : bothF out ((n, w) :: r) = (bothO (get n out) w).bind fun x => bothF (put n x out) r := by
  rw [bothF]; rfl
theorem both_other {p q : JV} (h : ∀ l, q ≠ .obj l) : both p q = some q := by
  cases q with
  | obj l => exact absurd rfl (h l)
  | _ => rw [both]
theorem both_obj {p c : JV} {l : Fs} (h : both p (.obj l) = some c) : ∃ k o, p = .obj k ∧ bothF k l = some o ∧ c = .obj o := by
  rw [both.eq_def] at h
  cases p with
  | obj k =>
    obtain ⟨o, h1, h2⟩ := Option.map_eq_some_iff.1 h
    exact ⟨k, o, rfl, h1, h2.symm⟩
  | _ => cases h
/-- what is composed, field by field -/
theorem get_bothF : ∀ (l out o : Fs), Srt l → bothF out l = some o → ∀ m, (match get m l with
    | none => get m o = get m out
    | some w => ∃ x, bothO (get m out) w = some x ∧ get m o = some x)
  | [], out, o, _, h, m => by rw [bothF_nil] at h; rw [Option.some.inj h, get]
  | (n, w) :: r, out, o, hs, h, m => by
    have h2 := (List.pairwise_cons.1 hs).2
    rw [bothF_cons] at h
    obtain ⟨x, hx, hr⟩ := Option.bind_eq_some_iff.1 h
    have ih := get_bothF r _ o h2 hr m
    rw [get]
    by_cases he : n = m
    · rw [if_pos he]
      rw [get_tail hs he.symm] at ih
      dsimp only at ih ⊢
      rw [get_put, if_pos he.symm] at ih
      exact ⟨x, by rw [← he]; exact hx, ih⟩
    · rw [if_neg he]
      rw [get_put, if_neg (fun e => he e.symm)] at ih
      exact ih
theorem srt_bothF : ∀ {l out o : Fs}, Srt out → bothF out l = some o → Srt o
  | [], out, o, h, e => by rw [bothF_nil] at e; rw [← Option.some.inj e]; exact h
  | (n, w) :: r, out, o, h, e => by
    rw [bothF_cons] at e
    obtain ⟨x, _, hr⟩ := Option.bind_eq_some_iff.1 e
    exact srt_bothF (put_srt h) hr
theorem both_nul {p w : JV} (hw : w ≠ .nul) (h : both p w = some .nul) : False := by
  rcases obj_or w with ⟨l, rfl⟩ | h2
  · obtain ⟨_, _, _, _, e⟩ := both_obj h; cases e
  · rw [both_other h2] at h; exact hw (Option.some.inj h)
/-- MergeBoth -/
theorem into_both : ∀ q p d c : JV, wf d → wf p → wf q → both p q = some c → into (into d p) q = into d c := by
  intro q
  refine JV.byGet (P := fun q => ∀ p d c : JV, wf d → wf p → wf q → both p q = some c → into (into d p) q = into d c) (fun q ih => ?_) q
  intro p d c hd hp hq hc
  rcases obj_or q with ⟨l, rfl⟩ | h
  · obtain ⟨k, o, rfl, ho, rfl⟩ := both_obj hc
    obtain ⟨s1, s2⟩ := wf_obj hq
    obtain ⟨k1, k2⟩ := wf_obj hp
    have so := srt_bothF k1 ho
    rw [into, into, into]
    refine congrArg JV.obj (fs_ext (srt_intoF (srt_intoF (srt_fields hd))) (srt_intoF (srt_fields hd)) fun n => ?_)
    show get n (intoF (intoF (fieldsOf d) k) l) = _
    rw [get_intoF n l _ s1, get_intoF n k _ k1, get_intoF n o _ so]
    have hb := get_bothF l k o s1 ho n
    cases hg : get n l with
    | none =>
      rw [hg] at hb
      dsimp only at hb
      rw [hb]
    | some w =>
      rw [hg] at hb
      dsimp only at hb
      obtain ⟨x, hx, ex⟩ := hb
      rw [ex]
      dsimp only
      cases hk : get n k with
      | none =>
        rw [hk] at hx
        rw [show w = x from Option.some.inj hx]
      | some v =>
        rw [hk] at hx
        dsimp only
        have hx' : both v w = some x := hx
        by_cases hw : w = .nul
        · subst hw
          rw [both_other (fun l e => by cases e)] at hx'
          rw [← Option.some.inj hx', fieldI_nul, fieldI_nul]
        · have hxn : x ≠ .nul := fun e => both_nul hw (by rw [← e]; exact hx')
          rw [fieldI_some hw, fieldI_some hxn]
          refine congrArg some ?_
          have wv := wf_at k2 hk
          have ww := wf_at s2 hg
          have wd := wf_get n (wf_fields hd).2
          by_cases hv : v = .nul
          · subst hv
            rw [fieldI_nul]
            rcases obj_or w with ⟨l', rfl⟩ | hw2
            · obtain ⟨_, _, e, _⟩ := both_obj hx'; cases e
            · rw [both_other hw2] at hx'
              rw [← Option.some.inj hx', not_obj hw2, not_obj hw2]
          · rw [fieldI_some hv]
            exact ih l n w rfl hg v _ x wd wv ww hx'
  · rw [both_other h] at hc
    rw [← Option.some.inj hc, not_obj h, not_obj h]
theorem bothF_wf : (∀ w : JV, ∀ p c : JV, wf p → wf w → both p w = some c → wf c) ∧ (∀ _ : List JV, True) ∧ ∀ l : Fs, ∀ out o : Fs, Srt out → wfF out → wfF l → bothF out l = some o → wfF o := by
  refine JV.both ?_ ?_ ?_ ?_ ?_ ?_ trivial (fun _ _ _ _ => trivial) ?_ ?_
  · intro p c _ _ h; rw [both_other (fun l e => by cases e)] at h; rw [← Option.some.inj h]; trivial
  · intro b p c _ hw h; rw [both_other (fun l e => by cases e)] at h; rw [← Option.some.inj h]; exact hw
  · intro b p c _ hw h; rw [both_other (fun l e => by cases e)] at h; rw [← Option.some.inj h]; exact hw
  · intro b p c _ hw h; rw [both_other (fun l e => by cases e)] at h; rw [← Option.some.inj h]; exact hw
  · intro b _ p c _ hw h; rw [both_other (fun l e => by cases e)] at h; rw [← Option.some.inj h]; exact hw
  · intro l ih p c hp hw h
    obtain ⟨k, o, rfl, h1, rfl⟩ := both_obj h
    rw [wf]
    exact ⟨srt_bothF (wf_obj hp).1 h1, ih k o (wf_obj hp).1 (wf_obj hp).2 (wf_obj hw).2 h1⟩
  · intro out o _ hw _ h; rw [bothF_nil] at h; rw [← Option.some.inj h]; exact hw
  · intro n v r hv hr out o hs hw hl h
    rw [wfF] at hl
    rw [bothF_cons] at h
    obtain ⟨x, hx, h⟩ := Option.bind_eq_some_iff.1 h
    have wx : wf x := by
      cases hg : get n out with
      | none => rw [hg] at hx; rw [← (show v = x from Option.some.inj hx)]; exact hl.2.1
      | some u => rw [hg] at hx; exact hv u x (wf_at hw hg) hl.2.1 hx
    exact hr _ o (put_srt hs) (put_wf hl.1 wx hw) hl.2.2 h
theorem wf_both {p w c : JV} (hp : wf p) (hw : wf w) (h : both p w = some c) : wf c := bothF_wf.1 w p c hp hw h
/-- MergeThree -/
theorem both_three : ∀ r p q a b c d : JV, wf p → wf q → wf r → both p q = some a → both q r = some b → both a r = some c → both p b = some d → c = d := by
  intro r
  refine JV.byGet (P := fun r => ∀ p q a b c d : JV, wf p → wf q → wf r → both p q = some a → both q r = some b → both a r = some c → both p b = some d → c = d) (fun r ih => ?_) r
  intro p q a b c d hp hq hr ha hb hc hd
  rcases obj_or r with ⟨l, rfl⟩ | h
  · obtain ⟨k, o, rfl, ho, rfl⟩ := both_obj hb
    obtain ⟨i, o2, rfl, ho2, rfl⟩ := both_obj ha
    obtain ⟨_, o3, e, ho3, rfl⟩ := both_obj hc
    cases e
    obtain ⟨_, o4, e, ho4, rfl⟩ := both_obj hd
    cases e
    obtain ⟨l1, l2⟩ := wf_obj hr
    obtain ⟨k1, k2⟩ := wf_obj hq
    obtain ⟨i1, i2⟩ := wf_obj hp
    have so := srt_bothF k1 ho
    have so2 := srt_bothF i1 ho2
    refine congrArg JV.obj (fs_ext (srt_bothF so2 ho3) (srt_bothF i1 ho4) fun n => ?_)
    have gb := get_bothF l k o l1 ho n
    have ga := get_bothF k i o2 k1 ho2 n
    have gc := get_bothF l o2 o3 l1 ho3 n
    have gd := get_bothF o i o4 so ho4 n
    cases hl : get n l with
    | none =>
      rw [hl] at gb gc
      dsimp only at gb gc
      rw [gc]
      rw [gb] at gd
      cases hk : get n k with
      | none =>
        rw [hk] at ga gd
        dsimp only at ga gd
        rw [ga, gd]
      | some v =>
        rw [hk] at ga gd
        dsimp only at ga gd
        obtain ⟨x, hx, ex⟩ := ga
        obtain ⟨y, hy, ey⟩ := gd
        rw [hx] at hy
        rw [ex, ey, hy]
    | some w =>
      rw [hl] at gb gc
      dsimp only at gb gc
      obtain ⟨x, hx, ex⟩ := gb
      obtain ⟨y, hy, ey⟩ := gc
      rw [ex] at gd
      dsimp only at gd
      obtain ⟨z, hz, ez⟩ := gd
      rw [ey, ez]
      cases hk : get n k with
      | none =>
        rw [hk] at ga hx
        dsimp only at ga
        rw [ga] at hy
        rw [show w = x from Option.some.inj hx] at hy
        rw [← hy, hz]
      | some v =>
        rw [hk] at ga hx
        dsimp only at ga
        obtain ⟨u, hu, eu⟩ := ga
        rw [eu] at hy
        cases hi : get n i with
        | none =>
          rw [hi] at hu hz
          rw [← (show v = u from Option.some.inj hu)] at hy
          rw [← (show x = z from Option.some.inj hz)]
          have hx' : both v w = some x := hx
          have hy' : both v w = some y := hy
          rw [← hx', ← hy']
        | some t =>
          rw [hi] at hu hz
          exact congrArg some (ih l n w rfl hl t v u x y z (wf_at i2 hi) (wf_at k2 hk) (wf_at l2 hl) hu hx hy hz)
  · rw [both_other h] at hb
    obtain rfl := Option.some.inj hb
    rw [both_other h] at hc hd
    rw [← Option.some.inj hc, ← Option.some.inj hd]
end JP
end Go.Proofs.YtnmhjabihfhobaaGreatDoor
/- merge: between, and how long what comes of it may get, in plain Lean. -/
namespace Go.Proofs.YtnmhjabihfhobaaGreatDoor
open Go
namespace JP
/-! lengths -/
theorem obj_len_le (l : Fs) : (text (.obj l)).length ≤ lenF l + 2 := by
  rcases text_obj_len l with h | ⟨_, h⟩ <;> omega
theorem obj_len_ge (l : Fs) : lenF l + 1 ≤ (text (.obj l)).length := by
  rcases join_lenF l with h | rfl
  · rw [text]; simp only [List.length_cons, List.length_append, List.length_nil]; omega
  · simp [lenF, text]
theorem list_len_ge (l : List JV) : lenL l + 1 ≤ (text (.list l)).length := by
  rcases join_len l with h | rfl
  · rw [text]; simp only [List.length_cons, List.length_append, List.length_nil]; omega
  · simp [lenL, text]
theorem size_len : (∀ v, size v ≤ (text v).length) ∧ (∀ l, sizeL l ≤ lenL l) ∧ ∀ l : Fs, sizeF l ≤ lenF l := by
  refine JV.both ?_ ?_ ?_ ?_ ?_ ?_ ?_ ?_ ?_ ?_
  · decide
  · intro b; cases b <;> decide
  · intro n; obtain ⟨c, t, h, _⟩ := text_head (.num n); rw [h, size, List.length_cons]; omega
  · intro n; obtain ⟨c, t, h, _⟩ := text_head (.str n); rw [h, size, List.length_cons]; omega
  · intro l ih; have := list_len_ge l; rw [size]; omega
  · intro l ih; have := obj_len_ge l; rw [size]; omega
  · exact Nat.le_refl _
  · intro v r h1 h2; rw [sizeL, lenL]; omega
  · exact Nat.le_refl _
  · intro n v r h1 h2; rw [sizeF, lenF]; omega
theorem size_le_len (v : JV) : size v ≤ (text v).length := size_len.1 v
def wO (n : Bs) : Option JV → Nat
  | some u => (quote n).length + (text u).length + 2
  | none => 0
def w3 (n : Bs) : Option JV → Nat
  | some _ => (quote n).length + 3
  | none => 0
def w4 : Option JV → Nat
  | some u => 4 * (text u).length
  | none => 0
theorem lenF_cut_get {n : Bs} : ∀ {d : Fs}, Srt d → lenF (cut n d) + wO n (get n d) = lenF d
  | [], _ => by simp [cut, get, lenF, wO]
  | (m, x) :: r, hs => by
    obtain ⟨h1, h2⟩ := List.pairwise_cons.1 hs
    have ih := lenF_cut_get (n := n) h2
    unfold cut at ih ⊢
    by_cases h : m = n
    · subst h
      rw [List.filter_cons_of_neg (by simp), lenF, get, if_pos rfl]
      rw [get_lt h1] at ih
      simp only [wO] at ih ⊢
      omega
    · rw [List.filter_cons_of_pos (by simpa using h), lenF, lenF, get, if_neg h]; omega
theorem lenF_put (n : Bs) (v : JV) : ∀ d : Fs, Srt d → lenF (put n v d) = lenF (cut n d) + (quote n).length + (text v).length + 2
  | [], _ => by simp [put, cut, lenF]; omega
  | (m, x) :: r, hs => by
    obtain ⟨h1, h2⟩ := List.pairwise_cons.1 hs
    have ih := lenF_put n v r h2
    rw [put]
    by_cases hlt : m < n
    · have hne : m ≠ n := fun e => by subst e; exact List.lt_irrefl _ hlt
      unfold cut at ih ⊢
      rw [if_pos hlt, List.filter_cons_of_pos (by simpa using hne), lenF, lenF]; omega
    · rw [if_neg hlt]
      by_cases he : m = n
      · subst he
        have hc := lenF_cut_get (n := m) h2
        rw [get_lt h1] at hc
        simp only [wO] at hc
        unfold cut at hc ⊢
        rw [if_pos rfl, List.filter_cons_of_neg (by simp), lenF]; omega
      · have h3 := bs_trich m n hlt he
        have hc := lenF_cut_get (n := n) h2
        rw [get_lt fun y hy => List.lt_trans h3 (h1 y hy)] at hc
        simp only [wO] at hc
        unfold cut at hc ⊢
        rw [if_neg he, List.filter_cons_of_pos (by simpa using he), lenF, lenF, lenF]; omega
theorem lenF_cut (n : Bs) {d : Fs} (h : Srt d) : lenF (cut n d) ≤ lenF d := by have := lenF_cut_get (n := n) h; omega
theorem lenF_put_le (n : Bs) (v : JV) {d : Fs} (h : Srt d) : lenF (put n v d) ≤ lenF d + ((quote n).length + (text v).length + 2) := by
  have := lenF_put n v d h; have := lenF_cut n h; omega
theorem lenF_fields (d : JV) : lenF (fieldsOf d) + 1 ≤ (text d).length := by
  cases d with
  | obj l => exact obj_len_ge l
  | nul => decide
  | bool b => cases b <;> decide
  | num n => obtain ⟨c, t, h, _⟩ := text_head (.num n); rw [h, List.length_cons]; show 0 + 1 ≤ _; omega
  | str n => obtain ⟨c, t, h, _⟩ := text_head (.str n); rw [h, List.length_cons]; show 0 + 1 ≤ _; omega
  | list n => obtain ⟨c, t, h, _⟩ := text_head (.list n); rw [h, List.length_cons]; show 0 + 1 ≤ _; omega
theorem getD_fields {n : Bs} {out : Fs} (hs : Srt out) : lenF (fieldsOf ((get n out).getD .nul)) + lenF (cut n out) + w3 n (get n out) ≤ lenF out := by
  have h := lenF_cut_get (n := n) hs
  cases hg : get n out with
  | none => rw [hg] at h; simp only [Option.getD, fieldsOf, wO, w3, lenF] at h ⊢; omega
  | some u => rw [hg] at h; have := lenF_fields u; simp only [Option.getD, wO, w3] at h ⊢; omega
/-- each field that is merged in: how long it may get -/
theorem intoF_len : (∀ x : JV, wf x → ∀ (n : Bs) (out : Fs), n.all stand = true → Fld out → lenF (into1 n out x) ≤ lenF out + ((quote n).length + (text x).length + 2)) ∧ (∀ _ : List JV, True) ∧ (∀ l : Fs, wfF l → ∀ out : Fs, Fld out → lenF (intoF out l) ≤ lenF out + lenF l) := by
  refine JV.both ?_ ?_ ?_ ?_ ?_ ?_ trivial (fun _ _ _ _ => trivial) ?_ ?_
  · intro _ n out _ hs
    rw [into1]
    have := lenF_cut n hs.1; omega
  · intro b hw n out hn hs; rw [into1]; exact lenF_put_le n _ hs.1
  · intro b hw n out hn hs; rw [into1]; exact lenF_put_le n _ hs.1
  · intro b hw n out hn hs; rw [into1]; exact lenF_put_le n _ hs.1
  · intro b _ hw n out hn hs; rw [into1]; exact lenF_put_le n _ hs.1
  · intro l ih hw n out hn hs
    rw [into1]
    have g := ih (wf_obj hw).2 _ (wf_fields (wf_get n hs.2))
    have h1 := lenF_put n (.obj (intoF (fieldsOf ((get n out).getD .nul)) l)) out hs.1
    have h2 := obj_len_le (intoF (fieldsOf ((get n out).getD .nul)) l)
    have h3 := getD_fields (n := n) hs.1
    have h4 := obj_len_ge l
    cases hg : get n out with
    | none =>
      rw [hg] at h1 h2 h3 g
      simp only [Option.getD, fieldsOf, w3, lenF] at h1 h2 h3 g ⊢
      have h5 : (text (.obj (intoF [] l))).length ≤ (text (.obj l)).length := by
        rcases text_obj_len (intoF [] l) with h | ⟨_, h⟩
        · omega
        · rcases text_obj_len l with h' | ⟨_, h'⟩
          · cases l with
            | nil => rw [intoF_nil]; exact Nat.le_refl _
            | cons y r => obtain ⟨k, u⟩ := y; rw [lenF] at h4; omega
          · omega
      omega
    | some u =>
      rw [hg] at h1 h2 h3 g
      simp only [Option.getD, w3] at h1 h2 h3 g ⊢
      omega
  · intro _ out hs
    rw [intoF]; omega
  · intro n v r hv hr hw out hs
    rw [wfF] at hw
    rw [intoF, lenF]
    have h1 := hv hw.2.1 n out hw.1 hs
    have h2 := (into_size.1 v hw.2.1 n out hw.1 hs).1
    have h3 := hr hw.2.2 _ h2
    omega
theorem into_len {d x : JV} (hd : wf d) (hx : wf x) : (text (into d x)).length ≤ (text d).length + (text x).length := by
  cases x with
  | obj l =>
    have h1 := intoF_len.2.2 l (wf_obj hx).2 (fieldsOf d) (wf_fields hd)
    have h2 := lenF_fields d
    have h3 := obj_len_ge l
    have h4 := obj_len_le (intoF (fieldsOf d) l)
    rw [into]; omega
  | _ => rw [into]; omega
theorem bothF_len : (∀ w : JV, ∀ p c : JV, wf p → wf w → both p w = some c → (text c).length ≤ (text p).length + (text w).length) ∧ (∀ _ : List JV, True) ∧ ∀ l : Fs, ∀ out o : Fs, Srt out → wfF out → wfF l → bothF out l = some o → lenF o ≤ lenF out + lenF l := by
  refine JV.both ?_ ?_ ?_ ?_ ?_ ?_ trivial (fun _ _ _ _ => trivial) ?_ ?_
  · intro p c _ _ h; rw [both_other (fun l e => by cases e)] at h; rw [← Option.some.inj h]; omega
  · intro b p c _ hw h; rw [both_other (fun l e => by cases e)] at h; rw [← Option.some.inj h]; omega
  · intro b p c _ hw h; rw [both_other (fun l e => by cases e)] at h; rw [← Option.some.inj h]; omega
  · intro b p c _ hw h; rw [both_other (fun l e => by cases e)] at h; rw [← Option.some.inj h]; omega
  · intro b _ p c _ hw h; rw [both_other (fun l e => by cases e)] at h; rw [← Option.some.inj h]; omega
  · intro l ih p c hp hw h
    obtain ⟨k, o, rfl, h1, rfl⟩ := both_obj h
    have g := ih k o (wf_obj hp).1 (wf_obj hp).2 (wf_obj hw).2 h1
    have h2 := obj_len_ge k
    have h3 := obj_len_ge l
    have h4 := obj_len_le o
    omega
  · intro out o _ hw _ h; rw [bothF_nil] at h; rw [← Option.some.inj h]; omega
  · intro n v r hv hr out o hs hw hl h
    rw [wfF] at hl
    rw [bothF_cons] at h
    obtain ⟨x, hx, h⟩ := Option.bind_eq_some_iff.1 h
    have h1 := lenF_put n x out hs
    have h2 := lenF_cut_get (n := n) hs
    rw [lenF]
    cases hg : get n out with
    | none =>
      rw [hg] at hx h2
      obtain rfl : v = x := Option.some.inj hx
      have h3 := hr _ o (put_srt hs) (put_wf hl.1 hl.2.1 hw) hl.2.2 h
      simp only [wO] at h2
      omega
    | some u =>
      rw [hg] at hx h2
      have h3 := hr _ o (put_srt hs) (put_wf hl.1 (wf_both (wf_at hw hg) hl.2.1 hx) hw) hl.2.2 h
      have h4 := hv u x (wf_at hw hg) hl.2.1 hx
      simp only [wO] at h2
      omega
theorem both_len {p w c : JV} (hp : wf p) (hw : wf w) (h : both p w = some c) : (text c).length ≤ (text p).length + (text w).length := bothF_len.1 w p c hp hw h

/-! between -/
mutual
def hasNull : JV → Bool
  | .obj l => hasNullF l
  | .nul => false
  | .bool _ => false
  | .num _ => false
  | .str _ => false
  | .list _ => false
termination_by structural x => x
def hasNullF : Fs → Bool
  | [] => false
  | (_, w) :: r => isNul w || hasNull w || hasNullF r
termination_by structural x => x
end
def sameO (o : Option JV) (w : JV) : Bool := match o with
  | some v => decide (text v = text w)
  | none => false
def gone1 (l out : Fs) (n : Bs) : Fs := if (get n l).isSome = true then out else put n .nul out
def goneF (l : Fs) : Fs → Fs → Fs
  | out, [] => out
  | out, (n, _) :: r => goneF l (gone1 l out n) r
mutual
def btw : JV → JV → Option JV
  | a, .obj l => match a with
    | .obj h => (btwF h (goneF l [] h) l).map .obj
    | _ => if hasNullF l = true then none else some (.obj l)
  | _, .nul => some .nul
  | _, .bool b => some (.bool b)
  | _, .num b => some (.num b)
  | _, .str b => some (.str b)
  | _, .list b => some (.list b)
termination_by structural _ x => x
def btwF : Fs → Fs → Fs → Option Fs
  | _, out, [] => some out
  | h, out, (n, w) :: r => (if sameO (get n h) w = true then some out else if isNul w = true then none else (btw ((get n h).getD .nul) w).map fun x => put n x out).bind fun o => btwF h o r
termination_by structural _ _ x => x
end
def btw1 (h out : Fs) (n : Bs) (w : JV) : Option Fs := if sameO (get n h) w = true then some out else if isNul w = true then none else (btw ((get n h).getD .nul) w).map fun x => put n x out
theorem btwF_nil (h out : Fs) : btwF h out [] = some out := by rw [btwF]
theorem btwF_cons (h out : Fs) (n : Bs) (w : JV) (r : Fs) : btwF h out ((n, w) :: r) = (btw1 h out n w).bind fun o => btwF h o r := by rw [btwF]; rfl
theorem btw_other {a b : JV} (h : ∀ l, b ≠ .obj l) : btw a b = some b := by
  cases b with
  | obj l => exact absurd rfl (h l)
  | _ => rw [btw]
theorem btw_obj (h l : Fs) : btw (.obj h) (.obj l) = (btwF h (goneF l [] h) l).map .obj := by rw [btw]
theorem btw_new {a : JV} (ha : ∀ h, a ≠ .obj h) (l : Fs) : btw a (.obj l) = if hasNullF l = true then none else some (.obj l) := by
  rw [btw.eq_def]
  cases a with
  | obj h => exact absurd rfl (ha h)
  | _ => rfl
theorem get_gone (l : Fs) : ∀ (h out : Fs) (m : Bs), get m (goneF l out h) = if (get m h).isSome = true ∧ (get m l).isSome = false then some .nul else get m out
  | [], out, m => by rw [goneF, get, if_neg (fun h => by cases h.1)]
  | (n, v) :: r, out, m => by
    rw [goneF, get_gone l r, get]
    unfold gone1
    by_cases he : n = m
    · subst he
      rw [if_pos rfl]
      by_cases hl : (get n l).isSome = true
      · rw [if_pos hl, if_neg (fun h => by rw [hl] at h; cases h.2), if_neg (fun h => by rw [hl] at h; cases h.2)]
      · have hl' : (get n l).isSome = false := by simpa using hl
        rw [if_neg hl, get_put_same, if_pos (show (some v).isSome = true ∧ (get n l).isSome = false from ⟨rfl, hl'⟩)]
        split <;> rfl
    · rw [if_neg he]
      by_cases hl : (get n l).isSome = true
      · rw [if_pos hl]
      · rw [if_neg hl, get_put_ne _ (fun e => he e.symm)]
theorem srt_gone (l : Fs) : ∀ {h out : Fs}, Srt out → Srt (goneF l out h)
  | [], _, hs => hs
  | (n, _) :: r, out, hs => by
    rw [goneF]
    refine srt_gone l ?_
    unfold gone1
    split
    · exact hs
    · exact put_srt hs
theorem wf_gone (l : Fs) : ∀ {h out : Fs}, wfF h → wfF out → wfF (goneF l out h)
  | [], _, _, hw => hw
  | (n, _) :: r, out, hh, hw => by
    rw [wfF] at hh
    rw [goneF]
    refine wf_gone l hh.2.2 ?_
    unfold gone1
    split
    · exact hw
    · exact put_wf hh.1 (by rw [wf]; trivial) hw
theorem btw1_cases {h out o : Fs} {n : Bs} {w : JV} (e : btw1 h out n w = some o) : (sameO (get n h) w = true ∧ o = out) ∨ (sameO (get n h) w = false ∧ w ≠ .nul ∧ ∃ x, btw ((get n h).getD .nul) w = some x ∧ o = put n x out) := by
  unfold btw1 at e
  by_cases hs : sameO (get n h) w = true
  · rw [if_pos hs] at e; exact .inl ⟨hs, (Option.some.inj e).symm⟩
  · rw [if_neg hs] at e
    by_cases hn : isNul w = true
    · rw [if_pos hn] at e; cases e
    · rw [if_neg hn] at e
      obtain ⟨x, hx, e⟩ := Option.map_eq_some_iff.1 e
      exact .inr ⟨by simpa using hs, fun e => hn (isNul_iff.2 e), x, hx, e.symm⟩
theorem get_btwF (h : Fs) : ∀ (l out o : Fs), Srt l → btwF h out l = some o → ∀ m, (match get m l with
    | none => get m o = get m out
    | some w => (sameO (get m h) w = true ∧ get m o = get m out) ∨ (sameO (get m h) w = false ∧ w ≠ .nul ∧ ∃ x, btw ((get m h).getD .nul) w = some x ∧ get m o = some x))
  | [], out, o, _, e, m => by rw [btwF_nil] at e; rw [Option.some.inj e, get]
  | (n, w) :: r, out, o, hs, e, m => by
    have h2 := (List.pairwise_cons.1 hs).2
    rw [btwF_cons] at e
    obtain ⟨y, hy, hr⟩ := Option.bind_eq_some_iff.1 e
    have ih := get_btwF h r _ o h2 hr m
    have hc := btw1_cases hy
    rw [get]
    by_cases he : n = m
    · rw [if_pos he]
      rw [get_tail hs he.symm] at ih
      dsimp only at ih ⊢
      subst he
      rcases hc with ⟨h1, rfl⟩ | ⟨h1, h3, x, hx, rfl⟩
      · exact .inl ⟨h1, ih⟩
      · exact .inr ⟨h1, h3, x, hx, by rw [ih, get_put_same]⟩
    · rw [if_neg he]
      have hg : get m y = get m out := by
        rcases hc with ⟨_, rfl⟩ | ⟨_, _, x, _, rfl⟩
        · rfl
        · exact get_put_ne _ (fun e => he e.symm) _
      rw [hg] at ih
      exact ih
theorem srt_btwF (h : Fs) : ∀ {l out o : Fs}, Srt out → btwF h out l = some o → Srt o
  | [], out, o, hs, e => by rw [btwF_nil] at e; rw [← Option.some.inj e]; exact hs
  | (n, w) :: r, out, o, hs, e => by
    rw [btwF_cons] at e
    obtain ⟨y, hy, hr⟩ := Option.bind_eq_some_iff.1 e
    rcases btw1_cases hy with ⟨_, rfl⟩ | ⟨_, _, x, _, rfl⟩
    · exact srt_btwF h hs hr
    · exact srt_btwF h (put_srt hs) hr
theorem btw_nul {a w : JV} (hw : w ≠ .nul) (h : btw a w = some .nul) : False := by
  rcases obj_or w with ⟨l, rfl⟩ | h2
  · rcases obj_or a with ⟨k, rfl⟩ | h3
    · rw [btw_obj] at h; obtain ⟨_, _, e⟩ := Option.map_eq_some_iff.1 h; cases e
    · rw [btw_new h3] at h; split at h <;> cases h
  · rw [btw_other h2] at h; exact hw (Option.some.inj h)
theorem hasNullF_get : ∀ {l : Fs} {n : Bs} {w : JV}, hasNullF l = false → get n l = some w → w ≠ .nul ∧ hasNull w = false
  | [], _, _, _, h => by rw [get] at h; cases h
  | (m, v) :: r, n, w, hn, h => by
    rw [hasNullF, Bool.or_eq_false_iff, Bool.or_eq_false_iff] at hn
    rw [get] at h
    by_cases e : m = n
    · rw [if_pos e] at h
      cases h
      refine ⟨fun e => ?_, hn.1.2⟩
      rw [e] at hn
      cases hn.1.1
    · rw [if_neg e] at h
      exact hasNullF_get hn.2 h
/-- what has no null makes itself of what is no object -/
theorem into_new : ∀ b d : JV, wf b → hasNull b = false → fieldsOf d = [] → into d b = b := by
  intro b
  refine JV.byGet (P := fun b => ∀ d : JV, wf b → hasNull b = false → fieldsOf d = [] → into d b = b) (fun b ih => ?_) b
  intro d hb hn hd
  rcases obj_or b with ⟨l, rfl⟩ | h
  · obtain ⟨s1, s2⟩ := wf_obj hb
    rw [into, hd]
    refine congrArg JV.obj (fs_ext (srt_intoF List.Pairwise.nil) s1 fun n => ?_)
    rw [get_intoF n l _ s1]
    cases hg : get n l with
    | none => rfl
    | some w =>
      have hn' : hasNullF l = false := by rw [hasNull] at hn; exact hn
      obtain ⟨h1, h2⟩ := hasNullF_get hn' hg
      dsimp only
      rw [fieldI_some h1]
      exact congrArg some (ih l n w rfl hg _ (wf_at s2 hg) h2 rfl)
  · exact not_obj h d
/-- a value that fits into a document -/
def Fit (v : JV) : Prop := wf v ∧ size v ≤ 200 ∧ deep v ≤ 10 ∧ (text v).length ≤ 2000
theorem fit_text {v w : JV} (hv : Fit v) (hw : Fit w) (h : text v = text w) : v = w := by
  have h1 := read_text hv.1 hv.2.1 hv.2.2.1 hv.2.2.2
  have h2 := read_text hw.1 hw.2.1 hw.2.2.1 hw.2.2.2
  rw [h, h2] at h1
  exact (Prod.mk.inj h1).1.symm
theorem getF_le : ∀ {l : Fs} {n : Bs} {x : JV}, get n l = some x → size x ≤ sizeF l ∧ deep x ≤ deepF l ∧ (text x).length ≤ lenF l
  | [], _, _, h => by rw [get] at h; cases h
  | (m, v) :: r, n, x, h => by
    rw [get] at h
    rw [sizeF, deepF, lenF]
    by_cases e : m = n
    · rw [if_pos e] at h
      cases h
      exact ⟨by omega, by omega, by omega⟩
    · rw [if_neg e] at h
      obtain ⟨a, b, c⟩ := getF_le h
      exact ⟨by omega, by omega, by omega⟩
theorem fit_at {l : Fs} {n : Bs} {x : JV} (h : Fit (.obj l)) (hg : get n l = some x) : Fit x := by
  obtain ⟨h1, h2, h3, h4⟩ := h
  obtain ⟨a, b, c⟩ := getF_le hg
  have := obj_len_ge l
  rw [size] at h2
  rw [deep] at h3
  exact ⟨wf_at (wf_obj h1).2 hg, by omega, by omega, by omega⟩
theorem fit_nul : Fit .nul := ⟨trivial, by decide, by decide, by decide⟩
/-- MergeMakes -/
theorem into_btw : ∀ b a p : JV, Fit a → Fit b → btw a b = some p → into a p = b := by
  intro b
  refine JV.byGet (P := fun b => ∀ a p : JV, Fit a → Fit b → btw a b = some p → into a p = b) (fun b ih => ?_) b
  intro a p ha hb hp
  rcases obj_or b with ⟨l, rfl⟩ | h
  · obtain ⟨l1, l2⟩ := wf_obj hb.1
    rcases obj_or a with ⟨k, rfl⟩ | h
    · rw [btw_obj] at hp
      obtain ⟨o, ho, rfl⟩ := Option.map_eq_some_iff.1 hp
      obtain ⟨k1, k2⟩ := wf_obj ha.1
      have so : Srt o := srt_btwF k (srt_gone l List.Pairwise.nil) ho
      rw [into]
      refine congrArg JV.obj (fs_ext (srt_intoF k1) l1 fun n => ?_)
      show get n (intoF k o) = _
      rw [get_intoF n o _ so]
      have hg := get_btwF k l _ o l1 ho n
      rw [get_gone] at hg
      cases hl : get n l with
      | none =>
        rw [hl] at hg
        dsimp only at hg
        cases hk : get n k with
        | none =>
          rw [hk, if_neg (fun h => by cases h.1), get] at hg
          rw [hg]
        | some v =>
          rw [hk, if_pos ⟨rfl, rfl⟩] at hg
          rw [hg]
          rfl
      | some w =>
        rw [hl, if_neg (fun h => by cases h.2), get] at hg
        dsimp only at hg
        rcases hg with ⟨h1, h2⟩ | ⟨h1, h2, x, hx, ex⟩
        · rw [h2]
          dsimp only
          unfold sameO at h1
          cases hk : get n k with
          | none => rw [hk] at h1; cases h1
          | some v =>
            rw [hk] at h1
            rw [fit_text (fit_at ha hk) (fit_at hb hl) (of_decide_eq_true h1)]
        · rw [ex]
          dsimp only
          have hxn : x ≠ .nul := fun e => btw_nul h2 (by rw [← e]; exact hx)
          rw [fieldI_some hxn]
          refine congrArg some ?_
          refine ih l n w rfl hl _ x ?_ (fit_at hb hl) hx
          cases hk : get n k with
          | none => exact fit_nul
          | some v => exact fit_at ha hk
    · rw [btw_new h] at hp
      split at hp
      · cases hp
      · rename_i hn
        rw [← Option.some.inj hp]
        refine into_new _ a hb.1 (by rw [hasNull]; simpa using hn) ?_
        cases a with
        | obj k => exact absurd rfl (h k)
        | _ => rfl
  · rw [btw_other h] at hp
    rw [← Option.some.inj hp]
    exact not_obj h a
theorem btwF_wf (h : Fs) (hh : wfF h) : ∀ {l out o : Fs}, wfF l → wfF out → (∀ n w x, get n l = some w → btw ((get n h).getD .nul) w = some x → wf x) → Srt l → btwF h out l = some o → wfF o
  | [], out, o, _, hw, _, _, e => by rw [btwF_nil] at e; rw [← Option.some.inj e]; exact hw
  | (n, w) :: r, out, o, hl, hw, ih, hs, e => by
    have hs2 := (List.pairwise_cons.1 hs).2
    rw [wfF] at hl
    rw [btwF_cons] at e
    obtain ⟨y, hy, hr⟩ := Option.bind_eq_some_iff.1 e
    have ih' : ∀ k w x, get k r = some w → btw ((get k h).getD .nul) w = some x → wf x := fun k w' x hk hx => ih k w' x (by
      rw [get, if_neg]
      · exact hk
      · intro e; rw [get_tail hs e.symm] at hk; cases hk) hx
    rcases btw1_cases hy with ⟨_, rfl⟩ | ⟨_, _, x, hx, rfl⟩
    · exact btwF_wf h hh hl.2.2 hw ih' hs2 hr
    · exact btwF_wf h hh hl.2.2 (put_wf hl.1 (ih n w x (by rw [get, if_pos rfl]) hx) hw) ih' hs2 hr
theorem wf_btw : ∀ b a p : JV, wf a → wf b → btw a b = some p → wf p := by
  intro b
  refine JV.byGet (P := fun b => ∀ a p : JV, wf a → wf b → btw a b = some p → wf p) (fun b ih => ?_) b
  intro a p ha hb hp
  rcases obj_or b with ⟨l, rfl⟩ | h
  · obtain ⟨l1, l2⟩ := wf_obj hb
    rcases obj_or a with ⟨k, rfl⟩ | h
    · rw [btw_obj] at hp
      obtain ⟨o, ho, rfl⟩ := Option.map_eq_some_iff.1 hp
      obtain ⟨k1, k2⟩ := wf_obj ha
      rw [wf]
      exact ⟨srt_btwF k (srt_gone l List.Pairwise.nil) ho, btwF_wf k k2 l2 (wf_gone l k2 (show wfF [] from by rw [wfF]; trivial)) (fun n w x hg hx => ih l n w rfl hg _ x (wf_get n k2) (wf_at l2 hg) hx) l1 ho⟩
    · rw [btw_new h] at hp
      split at hp
      · cases hp
      · rw [← Option.some.inj hp]; exact hb
  · rw [btw_other h] at hp
    rw [← Option.some.inj hp]; exact hb
/-- how long the fields are that stand in l, too -/
def lenIn (l h : Fs) : Nat := lenF (h.filter fun x => (get x.1 l).isSome)
theorem gone_len (l : Fs) : ∀ {h out : Fs}, Srt out → lenF (goneF l out h) + 4 * lenIn l h ≤ lenF out + 4 * lenF h
  | [], out, _ => by rw [goneF]; simp [lenIn, lenF]
  | (n, v) :: r, out, hs => by
    rw [goneF]
    unfold gone1 lenIn
    have := size_le_len v
    have := size_pos v
    by_cases hl : (get n l).isSome = true
    · rw [if_pos hl, List.filter_cons_of_pos (by simpa using hl), lenF, lenF]
      have := gone_len l (h := r) hs
      unfold lenIn at this
      omega
    · rw [if_neg hl, List.filter_cons_of_neg (by simpa using hl), lenF]
      have h1 := gone_len l (h := r) (put_srt (n := n) (v := .nul) hs)
      have h2 := lenF_put_le n .nul hs
      have h3 : (text .nul).length = 4 := by decide
      unfold lenIn at h1
      omega
theorem lenIn_split {n : Bs} {w : JV} {r h : Fs} (hs : Srt ((n, w) :: r)) (hh : Srt h) : lenIn ((n, w) :: r) h = lenIn r h + wO n (get n h) := by
  induction h with
  | nil => rw [get]; simp [lenIn, lenF, wO]
  | cons y t ih =>
    obtain ⟨m, u⟩ := y
    obtain ⟨t1, t2⟩ := List.pairwise_cons.1 hh
    have ih := ih t2
    unfold lenIn at ih ⊢
    rw [get]
    by_cases hm : m = n
    · subst hm
      rw [if_pos rfl, List.filter_cons_of_pos (by rw [get, if_pos rfl]; rfl), List.filter_cons_of_neg (by rw [get_tail hs rfl]; decide), lenF]
      rw [get_lt t1] at ih
      simp only [wO] at ih ⊢
      omega
    · rw [if_neg hm]
      by_cases hr : (get m r).isSome = true
      · rw [List.filter_cons_of_pos (by rw [get, if_neg (fun e => hm e.symm)]; exact hr), List.filter_cons_of_pos (by simpa using hr), lenF, lenF]; omega
      · rw [List.filter_cons_of_neg (by rw [get, if_neg (fun e => hm e.symm)]; exact hr), List.filter_cons_of_neg (by simpa using hr)]; exact ih
theorem btwF_len (h : Fs) (hh : Srt h) : ∀ {l out o : Fs}, Srt out → (∀ n w x, get n l = some w → btw ((get n h).getD .nul) w = some x → (text x).length ≤ w4 (get n h) + (text w).length) → Srt l → btwF h out l = some o → lenF o ≤ lenF out + 4 * lenIn l h + lenF l
  | [], out, o, _, _, _, e => by rw [btwF_nil] at e; rw [← Option.some.inj e]; omega
  | (n, w) :: r, out, o, so, ih, hs, e => by
    have hs2 := (List.pairwise_cons.1 hs).2
    rw [btwF_cons] at e
    obtain ⟨y, hy, hr⟩ := Option.bind_eq_some_iff.1 e
    have ih' : ∀ k w x, get k r = some w → btw ((get k h).getD .nul) w = some x → (text x).length ≤ w4 (get k h) + (text w).length := fun k w' x hk hx => ih k w' x (by
      rw [get, if_neg]
      · exact hk
      · intro e; rw [get_tail hs e.symm] at hk; cases hk) hx
    have h3 := lenIn_split hs hh
    rw [h3, lenF]
    rcases btw1_cases hy with ⟨_, rfl⟩ | ⟨_, _, x, hx, rfl⟩
    · have := btwF_len h hh so ih' hs2 hr
      omega
    · have h1 := btwF_len h hh (put_srt so) ih' hs2 hr
      have h2 := lenF_put_le n x so
      have h4 := ih n w x (by rw [get, if_pos rfl]) hx
      cases hg : get n h with
      | none => rw [hg] at h4; simp only [wO, w4] at h4 ⊢; omega
      | some u => rw [hg] at h4; simp only [wO, w4] at h4 ⊢; omega
theorem btw_len' : ∀ b a p : JV, wf a → wf b → btw a b = some p → (text p).length ≤ 4 * lenF (fieldsOf a) + (text b).length := by
  intro b
  refine JV.byGet (P := fun b => ∀ a p : JV, wf a → wf b → btw a b = some p → (text p).length ≤ 4 * lenF (fieldsOf a) + (text b).length) (fun b ih => ?_) b
  intro a p ha hb hp
  rcases obj_or b with ⟨l, rfl⟩ | h
  · obtain ⟨l1, l2⟩ := wf_obj hb
    rcases obj_or a with ⟨k, rfl⟩ | h
    · rw [btw_obj] at hp
      obtain ⟨o, ho, rfl⟩ := Option.map_eq_some_iff.1 hp
      obtain ⟨k1, k2⟩ := wf_obj ha
      have h1 := gone_len l (h := k) (out := []) List.Pairwise.nil
      have h2 := btwF_len k k1 (srt_gone l List.Pairwise.nil) (fun n w x hg hx => by
        have := ih l n w rfl hg _ x (wf_get n k2) (wf_at l2 hg) hx
        cases hk : get n k with
        | none => rw [hk] at this; simp only [Option.getD, fieldsOf, w4, lenF] at this ⊢; omega
        | some u => rw [hk] at this; have h9 := lenF_fields u; simp only [Option.getD, w4] at this ⊢; omega) l1 ho
      have h3 := obj_len_ge l
      have h4 : (text (.obj o)).length ≤ lenF o + 1 ∨ lenF o = 0 ∧ (text (.obj o)).length = 2 := by
        rcases text_obj_len o with h | ⟨rfl, h⟩
        · exact .inl (by omega)
        · exact .inr ⟨rfl, h⟩
      have h5 : (lenF l = 0 ∧ (text (.obj l)).length = 2) ∨ 2 ≤ lenF l := by
        cases l with
        | nil => exact .inl ⟨rfl, by decide⟩
        | cons y r => obtain ⟨m, u⟩ := y; rw [lenF]; exact .inr (by omega)
      rw [show lenF [] = 0 from rfl] at h1
      show _ ≤ 4 * lenF k + _
      omega
    · rw [btw_new h] at hp
      split at hp
      · cases hp
      · rw [← Option.some.inj hp]; omega
  · rw [btw_other h] at hp
    rw [← Option.some.inj hp]; omega
theorem btw_len {a b p : JV} (ha : wf a) (hb : wf b) (h : btw a b = some p) : (text p).length ≤ 4 * (text a).length + (text b).length := by
  have := btw_len' b a p ha hb h
  have := lenF_fields a
  omega
/-- MergeNothing -/
theorem gone_self (l : Fs) (out : Fs) : ∀ {h : Fs}, (∀ x ∈ h, (get x.1 l).isSome = true) → goneF l out h = out
  | [], _ => rfl
  | (n, v) :: r, hx => by
    rw [goneF]
    unfold gone1
    rw [if_pos (hx (n, v) (List.mem_cons_self ..))]
    exact gone_self l out fun y hy => hx y (List.mem_cons_of_mem _ hy)
theorem get_mem {l : Fs} (hs : Srt l) : ∀ {x : Bs × JV}, x ∈ l → get x.1 l = some x.2 := by
  induction l with
  | nil => intro x h; cases h
  | cons y r ih =>
    obtain ⟨h1, h2⟩ := List.pairwise_cons.1 hs
    intro x hx
    rcases List.mem_cons.1 hx with rfl | hx
    · rw [get, if_pos rfl]
    · rw [get, if_neg (fun e => List.lt_irrefl _ (by have := h1 x hx; rw [e] at this; exact this))]
      exact ih h2 hx
theorem btwF_self (h : Fs) (out : Fs) : ∀ {l : Fs}, (∀ x ∈ l, get x.1 h = some x.2) → btwF h out l = some out
  | [], _ => btwF_nil h out
  | (n, w) :: r, hx => by
    rw [btwF_cons]
    unfold btw1
    have hg : get n h = some w := hx (n, w) (List.mem_cons_self ..)
    rw [hg, if_pos (show sameO (some w) w = true from decide_eq_true rfl)]
    exact btwF_self h out fun y hy => hx y (List.mem_cons_of_mem _ hy)
theorem btw_self {l : Fs} (h : Srt l) : btw (.obj l) (.obj l) = some (.obj []) := by
  rw [btw_obj, gone_self l [] (fun x hx => by rw [get_mem h hx]; rfl), btwF_self l [] (fun x hx => get_mem h hx)]
  rfl
theorem into_none (d : JV) : into d (.obj []) = .obj (fieldsOf d) := by rw [into, intoF_nil]
end JP
end Go.Proofs.YtnmhjabihfhobaaGreatDoor
