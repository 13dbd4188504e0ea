/- Texts of ours joined: JsonAs, JsonText, JsonSize, JsonCanon, MergePair, MergePlain, MergeAs, JsonQuoteJ, JsonStands, RowStore, DelVal, DelStr, JsonWithout. -/
import Derived.Test.YtlcongehmjiabaaDoorProg
import Derived.KernelRfl
import Derived.Lib.AppendIntMem
import Derived.Deep.MidRow
import Derived.ArgAppend
import Derived.BigQuiet
import Derived.Deep.DeepCutAuto
import Derived.Deep.LoopGhost
import Derived.Test.YtlcongehmjiabaaDoorMk4
set_option linter.unusedVariables false
set_option linter.unusedSimpArgs false
/- json: which type a value has: the answers of type assertions. -/
namespace Go.Proofs.YtlcongehmjiabaaDoor
open Go

theorem as_nil  : (∀ w : World, (Instr.typeAssert (.nilIface) 32 4 true).run Tryd.prog w = .ok (.tuple #[.bool false, .bool false]) w) ∧ (∀ w : World, (Instr.typeAssert (.nilIface) 32 2 true).run Tryd.prog w = .ok (.tuple #[.int .i64 0, .bool false]) w) ∧ (∀ w : World, (Instr.typeAssert (.nilIface) 32 9 true).run Tryd.prog w = .ok (.tuple #[.string ⟨#[]⟩, .bool false]) w) ∧ (∀ w : World, (Instr.typeAssert (.nilIface) 32 54 true).run Tryd.prog w = .ok (.tuple #[.slice none 0 0, .bool false]) w) ∧ (∀ w : World, (Instr.typeAssert (.nilIface) 32 43 true).run Tryd.prog w = .ok (.tuple #[.pointer none, .bool false]) w) := ⟨fun w => by kernel_rfl, fun w => by kernel_rfl, fun w => by kernel_rfl, fun w => by kernel_rfl, fun w => by kernel_rfl⟩
theorem as_bool (u : Value) : (∀ w : World, (Instr.typeAssert (.iface 4 u) 32 4 true).run Tryd.prog w = .ok (.tuple #[u, .bool true]) w) ∧ (∀ w : World, (Instr.typeAssert (.iface 4 u) 32 2 true).run Tryd.prog w = .ok (.tuple #[.int .i64 0, .bool false]) w) ∧ (∀ w : World, (Instr.typeAssert (.iface 4 u) 32 9 true).run Tryd.prog w = .ok (.tuple #[.string ⟨#[]⟩, .bool false]) w) ∧ (∀ w : World, (Instr.typeAssert (.iface 4 u) 32 54 true).run Tryd.prog w = .ok (.tuple #[.slice none 0 0, .bool false]) w) ∧ (∀ w : World, (Instr.typeAssert (.iface 4 u) 32 43 true).run Tryd.prog w = .ok (.tuple #[.pointer none, .bool false]) w) := ⟨fun w => by kernel_rfl, fun w => by kernel_rfl, fun w => by kernel_rfl, fun w => by kernel_rfl, fun w => by kernel_rfl⟩
theorem as_int64 (u : Value) : (∀ w : World, (Instr.typeAssert (.iface 2 u) 32 4 true).run Tryd.prog w = .ok (.tuple #[.bool false, .bool false]) w) ∧ (∀ w : World, (Instr.typeAssert (.iface 2 u) 32 2 true).run Tryd.prog w = .ok (.tuple #[u, .bool true]) w) ∧ (∀ w : World, (Instr.typeAssert (.iface 2 u) 32 9 true).run Tryd.prog w = .ok (.tuple #[.string ⟨#[]⟩, .bool false]) w) ∧ (∀ w : World, (Instr.typeAssert (.iface 2 u) 32 54 true).run Tryd.prog w = .ok (.tuple #[.slice none 0 0, .bool false]) w) ∧ (∀ w : World, (Instr.typeAssert (.iface 2 u) 32 43 true).run Tryd.prog w = .ok (.tuple #[.pointer none, .bool false]) w) := ⟨fun w => by kernel_rfl, fun w => by kernel_rfl, fun w => by kernel_rfl, fun w => by kernel_rfl, fun w => by kernel_rfl⟩
theorem as_string (u : Value) : (∀ w : World, (Instr.typeAssert (.iface 9 u) 32 4 true).run Tryd.prog w = .ok (.tuple #[.bool false, .bool false]) w) ∧ (∀ w : World, (Instr.typeAssert (.iface 9 u) 32 2 true).run Tryd.prog w = .ok (.tuple #[.int .i64 0, .bool false]) w) ∧ (∀ w : World, (Instr.typeAssert (.iface 9 u) 32 9 true).run Tryd.prog w = .ok (.tuple #[u, .bool true]) w) ∧ (∀ w : World, (Instr.typeAssert (.iface 9 u) 32 54 true).run Tryd.prog w = .ok (.tuple #[.slice none 0 0, .bool false]) w) ∧ (∀ w : World, (Instr.typeAssert (.iface 9 u) 32 43 true).run Tryd.prog w = .ok (.tuple #[.pointer none, .bool false]) w) := ⟨fun w => by kernel_rfl, fun w => by kernel_rfl, fun w => by kernel_rfl, fun w => by kernel_rfl, fun w => by kernel_rfl⟩
theorem as_list (u : Value) : (∀ w : World, (Instr.typeAssert (.iface 54 u) 32 4 true).run Tryd.prog w = .ok (.tuple #[.bool false, .bool false]) w) ∧ (∀ w : World, (Instr.typeAssert (.iface 54 u) 32 2 true).run Tryd.prog w = .ok (.tuple #[.int .i64 0, .bool false]) w) ∧ (∀ w : World, (Instr.typeAssert (.iface 54 u) 32 9 true).run Tryd.prog w = .ok (.tuple #[.string ⟨#[]⟩, .bool false]) w) ∧ (∀ w : World, (Instr.typeAssert (.iface 54 u) 32 54 true).run Tryd.prog w = .ok (.tuple #[u, .bool true]) w) ∧ (∀ w : World, (Instr.typeAssert (.iface 54 u) 32 43 true).run Tryd.prog w = .ok (.tuple #[.pointer none, .bool false]) w) := ⟨fun w => by kernel_rfl, fun w => by kernel_rfl, fun w => by kernel_rfl, fun w => by kernel_rfl, fun w => by kernel_rfl⟩
theorem as_obj (u : Value) : (∀ w : World, (Instr.typeAssert (.iface 43 u) 32 4 true).run Tryd.prog w = .ok (.tuple #[.bool false, .bool false]) w) ∧ (∀ w : World, (Instr.typeAssert (.iface 43 u) 32 2 true).run Tryd.prog w = .ok (.tuple #[.int .i64 0, .bool false]) w) ∧ (∀ w : World, (Instr.typeAssert (.iface 43 u) 32 9 true).run Tryd.prog w = .ok (.tuple #[.string ⟨#[]⟩, .bool false]) w) ∧ (∀ w : World, (Instr.typeAssert (.iface 43 u) 32 54 true).run Tryd.prog w = .ok (.tuple #[.slice none 0 0, .bool false]) w) ∧ (∀ w : World, (Instr.typeAssert (.iface 43 u) 32 43 true).run Tryd.prog w = .ok (.tuple #[u, .bool true]) w) := ⟨fun w => by kernel_rfl, fun w => by kernel_rfl, fun w => by kernel_rfl, fun w => by kernel_rfl, fun w => by kernel_rfl⟩
end Go.Proofs.YtlcongehmjiabaaDoor
/- tree.Text: its contract. -/
namespace Go.Proofs.YtlcongehmjiabaaDoor
open Go.RowKit
open JP (JV Bs)

theorem joinStrs_any {w : World} {v : Value} {l : List ByteArray} (h : RowAt RString 1 w v l) (hl : l.length ≤ 1073741824) (hj : (Lib.join (l.map (·.data.toList)) [44]).length ≤ 1073741824) :
    Calls Tryd.prog 46 #[v, .string ⟨#[44]⟩] w fun e w' => e = .returned (.string (mkB (Lib.join (l.map (·.data.toList)) [44]))) ∧ Below w.heap.size w w' := by
  by_cases h0 : 0 < l.length
  · obtain ⟨b, o, c, rfl, hc, _, hbs, hcell⟩ := h.form h0 (by omega)
    refine Tryd.strings_Join b o c l ⟨#[44]⟩ w (fun j x hx => ?_) hbs (by omega) hc ?_
    · obtain ⟨cs, _, h2, h3⟩ := hcell j x hx
      rw [h3] at h2
      have := h2 0 _ rfl
      simpa using this
    · show (Lib.join (l.map (·.data.toList)) [44]).length ≤ _; omega
  · have hn : l = [] := List.eq_nil_of_length_eq_zero (by omega)
    subst hn
    obtain ⟨a, c, rfl, _, _⟩ := h.len
    refine (Tryd.strings_Join_none a c ⟨#[44]⟩ w).mono ?_
    rintro e w' ⟨rfl, rfl⟩
    exact ⟨rfl, Below.refl _ _⟩
theorem textL_map (l : List JV) : JP.textL l = l.map JP.text := by
  induction l with
  | nil => rfl
  | cons v r ih => rw [JP.textL, ih]; rfl
theorem textF_map (l : List (Bs × JV)) : JP.textF l = l.map fun x => JP.quote x.1 ++ 58 :: JP.text x.2 := by
  induction l with
  | nil => rfl
  | cons x r ih => obtain ⟨n, v⟩ := x; rw [JP.textF, ih]; rfl
theorem mk_map {α : Type} (f : α → Bs) (l : List α) : (l.map fun x => mkB (f x)).map (·.data.toList) = l.map f := by
  rw [List.map_map]
  exact List.map_congr_left fun x _ => mkB_list (f x)
theorem lenL_mem {l : List JV} {x : JV} (h : x ∈ l) : (JP.text x).length + 1 ≤ JP.lenL l := by
  induction l with
  | nil => cases h
  | cons v r ih =>
    rw [JP.lenL]
    rcases List.mem_cons.1 h with rfl | h
    · omega
    · have := ih h; omega
theorem lenL_len (l : List JV) : l.length ≤ JP.lenL l := by
  induction l with
  | nil => simp
  | cons v r ih => rw [JP.lenL, List.length_cons]; omega
theorem lenF_mem {l : List (Bs × JV)} {x : Bs × JV} (h : x ∈ l) : (JP.quote x.1).length + (JP.text x.2).length + 2 ≤ JP.lenF l := by
  induction l with
  | nil => cases h
  | cons v r ih =>
    obtain ⟨n, v⟩ := v
    rw [JP.lenF]
    rcases List.mem_cons.1 h with rfl | h
    · dsimp only; omega
    · have := ih h; omega
theorem lenF_len (l : List (Bs × JV)) : l.length ≤ JP.lenF l := by
  induction l with
  | nil => simp
  | cons v r ih => obtain ⟨n, v⟩ := v; rw [JP.lenF, List.length_cons]; omega
theorem lenL_text (l : List JV) : JP.lenL l ≤ (JP.text (.list l)).length := by
  rcases JP.join_len l with h | rfl
  · rw [JP.text]; simp only [List.length_cons, List.length_append, List.length_nil]; omega
  · simp [JP.lenL]
theorem lenF_text (l : List (Bs × JV)) : JP.lenF l ≤ (JP.text (.obj l)).length := by
  rcases JP.join_lenF l with h | rfl
  · rw [JP.text]; simp only [List.length_cons, List.length_append, List.length_nil]; omega
  · simp [JP.lenF]
theorem quote_size (s : Bs) : s.length ≤ (JP.quote s).length := by
  rw [JP.quote_len]
  have : s.length ≤ (s.flatMap JP.escB).length := by
    induction s with
    | nil => simp
    | cons c r ih =>
      rw [List.flatMap_cons, List.length_append, List.length_cons]
      have : 1 ≤ (JP.escB c).length := by unfold JP.escB; split; · simp
                                          · split; · simp
                                            · split <;> simp
      omega
  omega
theorem ret_mk {a b : Bs} (h : a = b) : Ending.returned (.string (mkB a)) = .returned (.string (mkB b)) := by rw [h]
theorem wrap_mk (a z : UInt8) (j : Bs) : (⟨#[a]⟩ ++ mkB j ++ ⟨#[z]⟩ : ByteArray) = mkB (a :: (j ++ [z])) := by
  rw [← mkB_of (⟨#[a]⟩ ++ mkB j ++ ⟨#[z]⟩ : ByteArray), mkB_inj]
  simp [mkB]
theorem colon_mk (a b : Bs) : (mkB a ++ ⟨#[58]⟩ ++ mkB b : ByteArray) = mkB (a ++ 58 :: b) := by
  rw [← mkB_of (mkB a ++ ⟨#[58]⟩ ++ mkB b : ByteArray), mkB_inj]
  simp [mkB]
theorem below_drew1 (w : World) : Below w.heap.size w w.drew := ⟨rfl, rfl, rfl, Nat.le_refl _, fun _ _ => rfl⟩
theorem formatBool_text (b : Bool) : Lib.formatBool b = JP.text (.bool b) := by cases b <;> rfl

set_option maxRecDepth 100000 in
set_option maxHeartbeats 6400000 in
theorem text_any : ∀ (n : Nat) (v : Value) (x : JV) (w : World), JvAt n [] w v x → (JP.text x).length ≤ 1048576 → TabOK w →
    Calls Tryd.prog 27 #[v] w fun e w' => e = .returned (.string (mkB (JP.text x))) ∧ Below w.heap.size w w' := by
  intro n
  induction n with
  | zero => intro v x w h; cases h
  | succ n ih =>
    intro v x w h hlen htab
    have IH := Lib.hid ih
    have Htab := Lib.hid htab
    clear ih htab
    obtain ⟨i0, hi0, hz0, hz1, hz2⟩ := info_parts Tryd.infoStr
    cases x with
    | nul =>
      obtain rfl : v = .nilIface := h
      obtain ⟨g1, g2, g3, g4, g5⟩ := as_nil
      clear hlen
      go_enter Tryd.func27, Tryd.ntmps27
      go_wp2_with fail
      go_ret
      exact ⟨rfl, Below.refl _ _⟩
    | bool b =>
      obtain rfl : v = .iface 4 (.bool b) := h
      obtain ⟨g1, g2, g3, g4, g5⟩ := as_bool (.bool b)
      clear hlen
      go_enter Tryd.func27, Tryd.ntmps27
      go_wp2_with fail
      refine (Tryd.strconv_FormatBool b w).mono ?_
      rintro E w1 ⟨rfl, rfl⟩
      go_wp2_with fail
      go_ret
      exact ⟨ret_mk (formatBool_text b), Below.refl _ _⟩
    | num k =>
      obtain ⟨rfl, k0, k1⟩ := h
      obtain ⟨g1, g2, g3, g4, g5⟩ := as_int64 (.int .i64 k)
      clear hlen
      go_enter Tryd.func27, Tryd.ntmps27
      go_wp2_with fail
      refine (Tryd.strconv_FormatInt_10 k k0 k1 w Htab.out).mono ?_
      rintro E w1 ⟨rfl, q, os, hw1⟩
      have hb1 : Below w.heap.size w w1 := by rw [hw1]; exact Lib.below_grow _ _ (Nat.le_refl _) _ _
      have Hb1 := Lib.hid hb1
      clear hw1 hb1
      go_wp2_with fail
      go_ret
      exact ⟨ret_mk (by rw [JP.text]), Hb1.out⟩
    | str s =>
      obtain rfl : v = .iface 9 (.string (mkB s)) := h
      obtain ⟨g1, g2, g3, g4, g5⟩ := as_string (.string (mkB s))
      have hs : (mkB s).size ≤ 1048576 := by
        rw [mkB_size]
        rw [JP.text] at hlen
        have := quote_size s
        omega
      have HQ := Lib.hid (quote_any (mkB s) w hs)
      clear hlen hs
      go_enter Tryd.func27, Tryd.ntmps27
      go_wp2_with fail
      refine HQ.out.mono ?_
      rintro E w1 ⟨rfl, hb1⟩
      have Hb1 := Lib.hid hb1
      clear hb1
      go_wp2_with fail
      go_ret
      exact ⟨ret_mk (by rw [JP.text, mkB_list]), Hb1.out⟩
    | list l =>
      obtain ⟨u, rfl, hrow, _⟩ := h
      obtain ⟨a, c, rfl, _, _⟩ := hrow.len
      obtain ⟨g1, g2, g3, g4, g5⟩ := as_list (.slice a l.length c)
      have h1 := lenL_text l
      have h2 := lenL_len l
      have hll : l.length ≤ 1048576 := by omega
      have Hlen : Hid (JP.lenL l ≤ 1048576) := Lib.hid (by omega)
      have Hrow := Lib.hid hrow
      have hjl : (Lib.join (JP.textL l) [44]).length ≤ 1048576 := by
        have : (JP.text (.list l)).length = (Lib.join (JP.textL l) [44]).length + 2 := by rw [JP.text]; simp
        omega
      have Hjl := Lib.hid hjl
      have HT : Hid (JP.text (.list l) = 91 :: (Lib.join (JP.textL l) [44] ++ [93])) := Lib.hid (by rw [JP.text])
      clear hrow hlen h1 h2 hjl
      go_enter Tryd.func27, Tryd.ntmps27
      go_wp2_with fail
      go_loopg [7, 35] l.length (fun k u7 u35 wr => ∃ i : Nat, i + k = l.length ∧ u35 = .int .i64 (i : Int) ∧ Hid (OwnAt RString 1 wr w.heap.size 9 u7 ((l.take i).map fun x => mkB (JP.text x))) ∧ Hid (Below w.heap.size w wr))
      case atStart => exact ⟨0, by omega, rfl, Lib.hid (OwnAt.nil _), Lib.hid (Below.refl _ _)⟩
      case round =>
        obtain ⟨i, hik, rfl, Hown, Hbel⟩ := hrel
        have hsr := Hbel.out.size
        cases gk with
        | zero =>
          obtain rfl : i = l.length := by omega
          have hown := Hown.out
          rw [List.take_of_length_le (Nat.le_refl _)] at hown
          have HJ := Lib.hid (joinStrs_any hown.row (by rw [List.length_map]; omega) (by rw [mk_map, ← textL_map]; have := Hjl.out; omega))
          obtain ⟨J, HJe⟩ : ∃ J : Bs, Hid (Lib.join (JP.textL l) [44] = J) := ⟨_, Lib.hid rfl⟩
          rw [mk_map, ← textL_map, HJe.out] at HJ
          have hJs : (mkB J).size ≤ 1048576 := by rw [mkB_size, ← HJe.out]; exact Hjl.out
          rw [HJe.out] at HT
          have q1 : ¬ 9223372036854775807 < 1 + (mkB J).size := by omega
          have q2 : ¬ 9223372036854775807 < 1 + (mkB J).size + 1 := by omega
          clear hown hik hsr
          go_wp2_with fail
          refine HJ.out.mono ?_
          rintro E w1 ⟨rfl, hb1⟩
          have Hb1 := Lib.hid (Hbel.out.trans (hb1.mono Hbel.out.size))
          clear hb1
          go_wp2_with fail
          go_ret
          exact ⟨by rw [HT.out, ← wrap_mk]; rfl, Hb1.out⟩
        | succ k =>
          have hil : i < l.length := by omega
          obtain ⟨x, hx⟩ : ∃ x, l[i]? = some x := ⟨l[i]'(by omega), List.getElem?_eq_getElem _⟩
          obtain ⟨b, o, c', hv, _, _, hbs, hcell⟩ := Hrow.out.form (by omega) (by omega)
          injection hv with u1 u2 u3
          subst u1
          clear u2 u3
          obtain ⟨ds, _, hcc, vx, rfl, hvx⟩ := hcell i x hx
          have e0 : wr.cell? ⟨b, o + i, none⟩ = some vx := (Hbel.out.cell (p := ⟨b, _, none⟩) hbs).trans (by simpa using hcc 0 _ rfl)
          have q1 : (0 : Int) ≤ (i : Int) := by omega
          have q2 : (i : Int) < (l.length : Int) := by omega
          have hmem := lenL_mem (List.mem_of_getElem? hx)
          have HC := Lib.hid (IH.out vx x wr (hvx.below Hbel.out) (by have := Hlen.out; omega) (Htab.out.below Hbel.out))
          have Htk : Hid ((l.take (i + 1)).map (fun x => mkB (JP.text x)) = (l.take i).map (fun x => mkB (JP.text x)) ++ [mkB (JP.text x)]) := Lib.hid (by rw [List.take_add_one, hx, List.map_append]; rfl)
          have hol : ((l.take i).map fun x => mkB (JP.text x)).length ≤ 1048576 := by rw [List.length_map, List.length_take]; omega
          obtain ⟨O, HO⟩ : ∃ O, Hid ((l.take i).map (fun x => mkB (JP.text x)) = O) := ⟨_, Lib.hid rfl⟩
          obtain ⟨t, Ht⟩ : ∃ t, Hid (mkB (JP.text x) = t) := ⟨_, Lib.hid rfl⟩
          rw [HO.out, Ht.out] at Htk
          rw [HO.out] at Hown hol
          rw [Ht.out] at HC
          clear hcell hcc hx hvx hmem
          go_wp2_with fail
          refine HC.out.mono ?_
          rintro E w1 ⟨rfl, hb1⟩
          have Ho1 := Lib.hid (Hown.out.below stays_string hb1)
          have Hb1 := Lib.hid (Hbel.out.trans (hb1.mono Hbel.out.size))
          have hs1 := Hb1.out.size
          clear hb1 e0
          go_wp2_with (at_builtin; refine wpList_append_ownAt (R := RString) (k := 1) (e := 9) (B := w.heap.size) (l := O) (m := [t]) _ (by rfl) _ _ _ (by rfl) i0 _ 16 Tryd.underlying45 hi0 hz0 hz1 hz2 rfl (by omega) flat_string one_string _ (by rfl) (Ho1.out.alloc stays_string _) (.slice (some ⟨w1.heap.size, 0, none⟩) 1 1) (by rfl) (RowAt.one (R := RString) (k := 1) (cs := #[.string t]) (heap_alloc_new w1 _) rfl rfl) (by unfold maxLen; simp; omega) (by simp; omega) (by simp; omega) ?_)
          intro v' w2 hv' hg hr _
          have hb2 : Below w.heap.size w w2 := below_of_grown (Hb1.out.alloc hs1 _) (by simp; omega) hg hr
          have Hb2 := Lib.hid hb2
          have Hv : Hid (OwnAt RString 1 w2 w.heap.size 9 v' ((l.take (i + 1)).map fun x => mkB (JP.text x))) := Lib.hid (by rw [Htk.out]; exact hv')
          clear hv' hg hr hb2
          go_wp2_with fail
          go_roundg k
          case measure => omega
          case rel => exact ⟨i + 1, by omega, by go_num, Hv, Hb2⟩
    | obj l =>
      obtain ⟨q, rfl, _, _, vn, vv, cn, cv, hrn, _, hrv, _⟩ := h
      obtain ⟨an, c1, hu1, _, _⟩ := hrn.len
      obtain ⟨av, c2, hu2, _, _⟩ := hrv.len
      rw [List.length_map] at hu1 hu2
      subst hu1
      subst hu2
      obtain ⟨g1, g2, g3, g4, g5⟩ := as_obj (.pointer (some ⟨q, 0, none⟩))
      have h1 := lenF_text l
      have h2 := lenF_len l
      have hll : l.length ≤ 1048576 := by omega
      have Hlen : Hid (JP.lenF l ≤ 1048576) := Lib.hid (by omega)
      have Hrn := Lib.hid hrn
      have Hrv := Lib.hid hrv
      have hjl : (Lib.join (JP.textF l) [44]).length ≤ 1048576 := by
        have : (JP.text (.obj l)).length = (Lib.join (JP.textF l) [44]).length + 2 := by rw [JP.text]; simp
        omega
      have Hjl := Lib.hid hjl
      have HT : Hid (JP.text (.obj l) = 123 :: (Lib.join (JP.textF l) [44] ++ [125])) := Lib.hid (by rw [JP.text])
      have hqw : q < w.heap.size := World.block_lt_of_cell? w ⟨q, 0, none⟩ cn
      have Cv := Lib.hid cv
      clear hrn hrv hlen h1 h2 hjl cv
      go_enter Tryd.func27, Tryd.ntmps27
      go_wp2_with fail
      clear cn
      go_loopg [11, 57] l.length (fun k u11 u57 wr => ∃ i : Nat, i + k = l.length ∧ u57 = .int .i64 (i : Int) ∧ Hid (OwnAt RString 1 wr w.heap.size 9 u11 ((l.take i).map fun x => mkB (JP.quote x.1 ++ 58 :: JP.text x.2))) ∧ Hid (Below w.heap.size w wr))
      case atStart => exact ⟨0, by omega, rfl, Lib.hid (OwnAt.nil _), Lib.hid (Below.refl _ _)⟩
      case round =>
        obtain ⟨i, hik, rfl, Hown, Hbel⟩ := hrel
        have hsr := Hbel.out.size
        cases gk with
        | zero =>
          obtain rfl : i = l.length := by omega
          have hown := Hown.out
          rw [List.take_of_length_le (Nat.le_refl _)] at hown
          have HJ := Lib.hid (joinStrs_any hown.row (by rw [List.length_map]; omega) (by rw [mk_map, ← textF_map]; have := Hjl.out; omega))
          obtain ⟨J, HJe⟩ : ∃ J : Bs, Hid (Lib.join (JP.textF l) [44] = J) := ⟨_, Lib.hid rfl⟩
          rw [mk_map, ← textF_map, HJe.out] at HJ
          have hJs : (mkB J).size ≤ 1048576 := by rw [mkB_size, ← HJe.out]; exact Hjl.out
          rw [HJe.out] at HT
          have q1 : ¬ 9223372036854775807 < 1 + (mkB J).size := by omega
          have q2 : ¬ 9223372036854775807 < 1 + (mkB J).size + 1 := by omega
          clear hown hik hsr
          go_wp2_with fail
          refine HJ.out.mono ?_
          rintro E w1 ⟨rfl, hb1⟩
          have Hb1 := Lib.hid (Hbel.out.trans (hb1.mono Hbel.out.size))
          clear hb1
          go_wp2_with fail
          go_ret
          exact ⟨by rw [HT.out, ← wrap_mk]; rfl, Hb1.out⟩
        | succ k =>
          have hil : i < l.length := by omega
          obtain ⟨y, hx⟩ : ∃ y, l[i]? = some y := ⟨l[i]'(by omega), List.getElem?_eq_getElem _⟩
          have hxn : (l.map fun x => mkB x.1)[i]? = some (mkB y.1) := by rw [List.getElem?_map, hx]; rfl
          have hxv : (l.map (·.2))[i]? = some y.2 := by rw [List.getElem?_map, hx]; rfl
          obtain ⟨b, o, c', hv, _, _, hbs, hcell⟩ := Hrn.out.form (by rw [List.length_map]; omega) (by omega)
          injection hv with u1 u2 u3
          subst u1
          clear u2 u3
          obtain ⟨b2, o2, c2', hv2, _, _, hbs2, hcell2⟩ := Hrv.out.form (by rw [List.length_map]; omega) (by omega)
          injection hv2 with u1 u2 u3
          subst u1
          clear u2 u3
          obtain ⟨ds, _, hcc, rfl⟩ := hcell i _ hxn
          obtain ⟨es, _, hdd, vx, rfl, hvx⟩ := hcell2 i _ hxv
          have e0 : wr.cell? ⟨b, o + i, none⟩ = some (.string (mkB y.1)) := (Hbel.out.cell (p := ⟨b, _, none⟩) hbs).trans (by simpa using hcc 0 _ rfl)
          have f0 : wr.cell? ⟨b2, o2 + i, none⟩ = some vx := (Hbel.out.cell (p := ⟨b2, _, none⟩) hbs2).trans (by simpa using hdd 0 _ rfl)
          have p1 : wr.cell? ⟨q, 1, none⟩ = some (.slice (some ⟨b2, o2, none⟩) l.length c2) := (Hbel.out.cell (p := ⟨q, 1, none⟩) hqw).trans Cv.out
          have hqr : q < wr.heap.size := Nat.lt_of_lt_of_le hqw hsr
          have hbr2 : b2 < wr.heap.size := Nat.lt_of_lt_of_le hbs2 hsr
          have q1 : (0 : Int) ≤ (i : Int) := by omega
          have q2 : (i : Int) < (l.length : Int) := by omega
          have hmem := lenF_mem (List.mem_of_getElem? hx)
          have hl0 := Hlen.out
          have hns : (mkB y.1).size ≤ 1048576 := by rw [mkB_size]; have := quote_size y.1; omega
          obtain ⟨Q, HQ⟩ : ∃ Q : Bs, Hid (JP.quote y.1 = Q) := ⟨_, Lib.hid rfl⟩
          obtain ⟨X, HX⟩ : ∃ X : Bs, Hid (JP.text y.2 = X) := ⟨_, Lib.hid rfl⟩
          have HC1 : Hid (∀ w', Below wr.heap.size wr w' → Calls Tryd.prog 45 #[.string (mkB y.1)] w' fun e w'' => e = .returned (.string (mkB Q)) ∧ Below w'.heap.size w' w'') := Lib.hid fun w' hb' => by
            refine (quote_any (mkB y.1) w' hns).mono ?_
            rintro E w'' ⟨rfl, hb''⟩
            exact ⟨by rw [mkB_list, HQ.out], hb''⟩
          have HC2 : Hid (∀ w', Below wr.heap.size wr w' → Calls Tryd.prog 27 #[vx] w' fun e w'' => e = .returned (.string (mkB X)) ∧ Below w'.heap.size w' w'') := Lib.hid fun w' hb' => by
            have hbw := Hbel.out.trans (hb'.mono hsr)
            refine (IH.out vx y.2 w' (hvx.below hbw) (by omega) (Htab.out.below hbw)).mono ?_
            rintro E w'' ⟨rfl, hb''⟩
            exact ⟨by rw [HX.out], hb''⟩
          have Htk : Hid ((l.take (i + 1)).map (fun x => mkB (JP.quote x.1 ++ 58 :: JP.text x.2)) = (l.take i).map (fun x => mkB (JP.quote x.1 ++ 58 :: JP.text x.2)) ++ [mkB (Q ++ 58 :: X)]) := Lib.hid (by rw [List.take_add_one, hx, List.map_append, ← HQ.out, ← HX.out]; rfl)
          have hol : ((l.take i).map fun x => mkB (JP.quote x.1 ++ 58 :: JP.text x.2)).length ≤ 1048576 := by rw [List.length_map, List.length_take]; omega
          have hQs : (mkB Q).size ≤ 1048576 := by rw [mkB_size, ← HQ.out]; omega
          have hXs : (mkB X).size ≤ 1048576 := by rw [mkB_size, ← HX.out]; omega
          have q4 : ¬ 9223372036854775807 < (mkB Q).size + 1 := by omega
          have q5 : ¬ 9223372036854775807 < (mkB Q).size + 1 + (mkB X).size := by omega
          obtain ⟨O, HO⟩ : ∃ O, Hid ((l.take i).map (fun x => mkB (JP.quote x.1 ++ 58 :: JP.text x.2)) = O) := ⟨_, Lib.hid rfl⟩
          obtain ⟨t, Ht⟩ : ∃ t, Hid (mkB (Q ++ 58 :: X) = t) := ⟨_, Lib.hid rfl⟩
          have Ht2 : Hid ((mkB Q ++ ⟨#[58]⟩ ++ mkB X : ByteArray) = t) := Lib.hid (by rw [colon_mk]; exact Ht.out)
          rw [HO.out, Ht.out] at Htk
          rw [HO.out] at Hown hol
          clear hcell hcc hcell2 hdd hx hxn hxv hvx hmem hl0
          go_upto_region 26 with fail
          refine wp_region_relB 14 (fun ii U w' => match ii with
            | 0 => U 0 = u11
            | 1 => U 1 = .string (mkB y.1)
            | 2 => U 2 = .string (mkB Q)
            | 3 => U 3 = .string (mkB Q ++ ⟨#[58]⟩)
            | 4 => U 4 = .pointer (some ⟨q, 0, none⟩)
            | 5 => U 5 = .pointer (some ⟨q, 0, none⟩)
            | 6 => U 6 = .pointer (some ⟨q, 1, none⟩)
            | 7 => U 7 = .slice (some ⟨b2, o2, none⟩) l.length c2
            | 8 => U 8 = .int .i64 (i : Int)
            | 9 => U 9 = .pointer (some ⟨b2, o2 + i, none⟩)
            | 10 => U 10 = vx
            | 11 => U 11 = .string (mkB X)
            | 12 => U 12 = .string t
            | 13 => ∃ g, U 13 = .slice (some ⟨g, 0, none⟩) 1 1 ∧ w'.heap[g]? = some (.cells #[.string t] 9 (0, 0))
            | _ => True)
            (fun | 2 => [1] | 3 => [2] | 5 => [4] | 6 => [5] | 7 => [6] | 9 => [7, 8] | 10 => [9] | 11 => [10] | 12 => [3, 11] | 13 => [12] | _ => []) (by kernel_rfl) (by kernel_rfl) ?_ ⟨?_, ?_, ?_, ?_, ?_, ?_, ?_, ?_, ?_, ?_, ?_, ?_, ?_, ?_, trivial⟩ ?_
          · intro j u w1 w2 hb h
            match j, h with
            | 0, h => exact h
            | 1, h => exact h
            | 2, h => exact h
            | 3, h => exact h
            | 4, h => exact h
            | 5, h => exact h
            | 6, h => exact h
            | 7, h => exact h
            | 8, h => exact h
            | 9, h => exact h
            | 10, h => exact h
            | 11, h => exact h
            | 12, h => exact h
            | 13, h => exact (by obtain ⟨g, h1, h2⟩ := h; exact ⟨g, h1, below_block hb h2⟩)
            | _ + 14, h => trivial
          · intro x w' hb hd
            have hbr : Below wr.heap.size wr w' := (below_drew1 wr).trans hb
            refine owes_here u11 (by rfl) ?_ rfl
            simp only [putAll, List.take_succ_cons, List.take_zero]
            go_simp
          · intro x w' hb hd
            have hbr : Below wr.heap.size wr w' := (below_drew1 wr).trans hb
            refine owes_here (.string (mkB y.1)) (by rfl) ?_ rfl
            simp only [putAll, List.take_succ_cons, List.take_zero]
            go_simp
          · intro x w' hb hd
            have hbr : Below wr.heap.size wr w' := (below_drew1 wr).trans hb
            have k1 : x 1 = .string (mkB y.1) := hd 1 (by simp)
            refine owes_call 45 #[.string (mkB y.1)] (by rfl) ?_ ((HC1.out w' hbr).mono fun e w2 h => ⟨_, h.1, rfl, h.2⟩)
            simp only [putAll, List.take_succ_cons, List.take_zero]
            go_simp
          · intro x w' hb hd
            have hbr : Below wr.heap.size wr w' := (below_drew1 wr).trans hb
            have k1 : x 2 = .string (mkB Q) := hd 2 (by simp)
            refine owes_here (.string (mkB Q ++ ⟨#[58]⟩)) (by rfl) ?_ rfl
            simp only [putAll, List.take_succ_cons, List.take_zero]
            go_simp
          · intro x w' hb hd
            have hbr : Below wr.heap.size wr w' := (below_drew1 wr).trans hb
            refine owes_here (.pointer (some ⟨q, 0, none⟩)) (by rfl) ?_ rfl
            simp only [putAll, List.take_succ_cons, List.take_zero]
            go_simp
          · intro x w' hb hd
            have hbr : Below wr.heap.size wr w' := (below_drew1 wr).trans hb
            have k1 : x 4 = .pointer (some ⟨q, 0, none⟩) := hd 4 (by simp)
            refine owes_here (.pointer (some ⟨q, 0, none⟩)) (by rfl) ?_ rfl
            simp only [putAll, List.take_succ_cons, List.take_zero]
            go_simp
          · intro x w' hb hd
            have hbr : Below wr.heap.size wr w' := (below_drew1 wr).trans hb
            have k1 : x 5 = .pointer (some ⟨q, 0, none⟩) := hd 5 (by simp)
            refine owes_here (.pointer (some ⟨q, 1, none⟩)) (by rfl) ?_ rfl
            simp only [putAll, List.take_succ_cons, List.take_zero]
            go_simp
          · intro x w' hb hd
            have hbr : Below wr.heap.size wr w' := (below_drew1 wr).trans hb
            have k1 : x 6 = .pointer (some ⟨q, 1, none⟩) := hd 6 (by simp)
            have d1 := (hbr.cell (p := ⟨q, 1, none⟩) hqr).trans p1
            refine owes_here (.slice (some ⟨b2, o2, none⟩) l.length c2) (by rfl) ?_ rfl
            simp only [putAll, List.take_succ_cons, List.take_zero]
            go_simp
          · intro x w' hb hd
            have hbr : Below wr.heap.size wr w' := (below_drew1 wr).trans hb
            refine owes_here (.int .i64 (i : Int)) (by rfl) ?_ rfl
            simp only [putAll, List.take_succ_cons, List.take_zero]
            go_simp
          · intro x w' hb hd
            have hbr : Below wr.heap.size wr w' := (below_drew1 wr).trans hb
            have k1 : x 7 = .slice (some ⟨b2, o2, none⟩) l.length c2 := hd 7 (by simp)
            have k2 : x 8 = .int .i64 (i : Int) := hd 8 (by simp)
            refine owes_here (.pointer (some ⟨b2, o2 + i, none⟩)) (by rfl) ?_ rfl
            simp only [putAll, List.take_succ_cons, List.take_zero]
            go_simp
          · intro x w' hb hd
            have hbr : Below wr.heap.size wr w' := (below_drew1 wr).trans hb
            have k1 : x 9 = .pointer (some ⟨b2, o2 + i, none⟩) := hd 9 (by simp)
            have d1 := (hbr.cell (p := ⟨b2, o2 + i, none⟩) hbr2).trans f0
            refine owes_here vx (by rfl) ?_ rfl
            simp only [putAll, List.take_succ_cons, List.take_zero]
            go_simp
          · intro x w' hb hd
            have hbr : Below wr.heap.size wr w' := (below_drew1 wr).trans hb
            have k1 : x 10 = vx := hd 10 (by simp)
            refine owes_call 27 #[vx] (by rfl) ?_ ((HC2.out w' hbr).mono fun e w2 h => ⟨_, h.1, rfl, h.2⟩)
            simp only [putAll, List.take_succ_cons, List.take_zero]
            go_simp
          · intro x w' hb hd
            have hbr : Below wr.heap.size wr w' := (below_drew1 wr).trans hb
            have k1 : x 3 = .string (mkB Q ++ ⟨#[58]⟩) := hd 3 (by simp)
            have k2 : x 11 = .string (mkB X) := hd 11 (by simp)
            have hS := Ht2.out
            refine owes_here (.string t) (by rfl) ?_ rfl
            simp only [putAll, List.take_succ_cons, List.take_zero]
            go_simp
          · intro x w' hb hd
            have hbr : Below wr.heap.size wr w' := (below_drew1 wr).trans hb
            have k1 : x 12 = .string t := hd 12 (by simp)
            refine owes_makes (.slice (some ⟨w'.heap.size, 0, none⟩) 1 1) (w' := w'.alloc (.cells #[.string t] 9)) (by rfl) ?_ (⟨_, rfl, heap_alloc_new w' _⟩) ((Below.refl _ _).alloc (Nat.le_refl _) _)
            simp only [putAll, List.take_succ_cons, List.take_zero]
            go_simp
          · intro x w' hb hR
            have hbr : Below wr.heap.size wr w' := (below_drew1 wr).trans hb
            have k0 : x 0 = u11 := hR 0 (by omega)
            obtain ⟨g, kg1, kg2⟩ : ∃ g, x 13 = .slice (some ⟨g, 0, none⟩) 1 1 ∧ w'.heap[g]? = some (.cells #[.string t] 9 (0, 0)) := hR 13 (by omega)
            have Ho1 := Lib.hid (Hown.out.below stays_string hbr)
            have Hb1 := Lib.hid (Hbel.out.trans (hbr.mono Hbel.out.size))
            have hs1 := Hb1.out.size
            have Hg := Lib.hid kg2
            clear hR hb hbr e0 f0 p1 kg2
            simp only [putAll, List.take_succ_cons, List.take_zero, List.drop_succ_cons, List.drop_zero]
            try simp only [Act.put, List.setIfInBounds_toArray, List.set_cons_zero, List.set_cons_succ]
            go_wp2_with (at_builtin; refine wpList_append_ownAt (R := RString) (k := 1) (e := 9) (B := w.heap.size) (l := O) (m := [t]) _ (by rfl) _ _ _ (by rfl) i0 _ 16 Tryd.underlying45 hi0 hz0 hz1 hz2 rfl (by omega) flat_string one_string _ (by exact k0) Ho1.out _ (by exact kg1) (RowAt.one (R := RString) (k := 1) (cs := #[.string t]) Hg.out rfl rfl) (by unfold maxLen; simp; omega) (by simp; omega) (by omega) ?_)
            intro v' w2 hv' hg hr _
            have hb2 : Below w.heap.size w w2 := below_of_grown Hb1.out hs1 hg hr
            have Hb2 := Lib.hid hb2
            have Hv : Hid (OwnAt RString 1 w2 w.heap.size 9 v' ((l.take (i + 1)).map fun x => mkB (JP.quote x.1 ++ 58 :: JP.text x.2))) := Lib.hid (by rw [Htk.out]; exact hv')
            clear hv' hg hr hb2
            go_wp2_with fail
            go_roundg k
            case measure => omega
            case rel => exact ⟨i + 1, by omega, by go_num, Hv, Hb2⟩
end Go.Proofs.YtlcongehmjiabaaDoor
/- tree.Kind, tree.Size, tree.Same: contracts. -/
namespace Go.Proofs.YtlcongehmjiabaaDoor
open Go.RowKit
open JP (JV Bs)

set_option maxRecDepth 100000 in
set_option maxHeartbeats 1600000 in
theorem kind_any {n : Nat} {v : Value} {x : JV} {w : World} (h : JvAt n [] w v x) : Calls Tryd.prog 21 #[v] w fun e w' => e = .returned (.int .i64 (JP.kind x)) ∧ w' = w := by
  cases n with
  | zero => cases h
  | succ n =>
    cases x with
    | nul =>
      obtain rfl : v = .nilIface := h
      obtain ⟨g1, g2, g3, g4, g5⟩ := as_nil
      go_enter Tryd.func21, Tryd.ntmps21
      go_wp2_with fail
      go_ret
      exact ⟨rfl, rfl⟩
    | bool b =>
      obtain rfl : v = .iface 4 (.bool b) := h
      obtain ⟨g1, g2, g3, g4, g5⟩ := as_bool (.bool b)
      go_enter Tryd.func21, Tryd.ntmps21
      go_wp2_with fail
      go_ret
      exact ⟨rfl, rfl⟩
    | num k =>
      obtain ⟨rfl, _, _⟩ := h
      obtain ⟨g1, g2, g3, g4, g5⟩ := as_int64 (.int .i64 k)
      go_enter Tryd.func21, Tryd.ntmps21
      go_wp2_with fail
      go_ret
      exact ⟨rfl, rfl⟩
    | str s =>
      obtain rfl : v = .iface 9 (.string (mkB s)) := h
      obtain ⟨g1, g2, g3, g4, g5⟩ := as_string (.string (mkB s))
      go_enter Tryd.func21, Tryd.ntmps21
      go_wp2_with fail
      go_ret
      exact ⟨rfl, rfl⟩
    | list l =>
      obtain ⟨u, rfl, _, _⟩ := h
      obtain ⟨g1, g2, g3, g4, g5⟩ := as_list u
      go_enter Tryd.func21, Tryd.ntmps21
      go_wp2_with fail
      go_ret
      exact ⟨rfl, rfl⟩
    | obj l =>
      obtain ⟨q, rfl, _⟩ := h
      obtain ⟨g1, g2, g3, g4, g5⟩ := as_obj (.pointer (some ⟨q, 0, none⟩))
      go_enter Tryd.func21, Tryd.ntmps21
      go_wp2_with fail
      go_ret
      exact ⟨rfl, rfl⟩

theorem sizeF_map (l : List (Bs × JV)) : JP.sizeF l = JP.sizeL (l.map (·.2)) := by
  induction l with
  | nil => rfl
  | cons x r ih => obtain ⟨n, v⟩ := x; rw [JP.sizeF, List.map_cons, JP.sizeL, ih]
theorem deepF_map (l : List (Bs × JV)) : JP.deepF l = JP.deepL (l.map (·.2)) := by
  induction l with
  | nil => rfl
  | cons x r ih => obtain ⟨n, v⟩ := x; rw [JP.deepF, List.map_cons, JP.deepL, ih]
theorem sizeL_len (l : List JV) : l.length ≤ JP.sizeL l := by
  induction l with
  | nil => simp
  | cons x r ih => rw [JP.sizeL, List.length_cons]; have := JP.size_pos x; omega
theorem sizeL_take {l : List JV} {i : Nat} {x : JV} (h : l[i]? = some x) : JP.sizeL (l.take (i + 1)) = JP.sizeL (l.take i) + JP.size x := by
  rw [List.take_add_one, h, JP.sizeL_append]
  simp [JP.sizeL]
theorem deepL_take {l : List JV} {i : Nat} {x : JV} (h : l[i]? = some x) : JP.deepL (l.take (i + 1)) = max (JP.deepL (l.take i)) (JP.deep x) := by
  rw [List.take_add_one, h, JP.deepL_append]
  simp [JP.deepL]
theorem sizeL_le (l : List JV) (i : Nat) : JP.sizeL (l.take i) ≤ JP.sizeL l := by
  have := JP.sizeL_append (l.take i) (l.drop i)
  rw [List.take_append_drop] at this
  omega
theorem deep_size : (∀ x, JP.deep x ≤ JP.size x) ∧ (∀ l, JP.deepL l ≤ JP.sizeL l) ∧ ∀ l, JP.deepF l ≤ JP.sizeF l := by
  refine JP.JV.both ?_ (fun _ => ?_) (fun _ => ?_) (fun _ => ?_) (fun l h => ?_) (fun l h => ?_) ?_ (fun v r h k => ?_) ?_ (fun n v r h k => ?_)
  · rw [JP.deep]; omega
  · rw [JP.deep]; omega
  · rw [JP.deep]; omega
  · rw [JP.deep]; omega
  · rw [JP.deep, JP.size]; omega
  · rw [JP.deep, JP.size]; omega
  · rw [JP.deepL]; omega
  · rw [JP.deepL, JP.sizeL]; omega
  · rw [JP.deepF]; omega
  · rw [JP.deepF, JP.sizeF]; omega
theorem ret_two {a b c d : Int} (h : a = b) (k : c = d) : Ending.returned (.tuple #[.int .i64 a, .int .i64 c]) = .returned (.tuple #[.int .i64 b, .int .i64 d]) := by rw [h, k]
set_option maxRecDepth 100000 in
set_option maxHeartbeats 6400000 in
theorem size_any : ∀ (n : Nat) (v : Value) (x : JV) (w : World), JvAt n [] w v x → JP.size x ≤ 1048576 →
    Calls Tryd.prog 25 #[v] w fun e w' => e = .returned (.tuple #[.int .i64 (JP.size x : Int), .int .i64 (JP.deep x : Int)]) ∧ w = w' := by
  intro n
  induction n with
  | zero => intro v x w h; cases h
  | succ n ih =>
    intro v x w h hlen
    have IH := Lib.hid ih
    clear ih
    cases x with
    | nul =>
      obtain rfl : v = .nilIface := h
      obtain ⟨g1, g2, g3, g4, g5⟩ := as_nil
      clear hlen
      go_enter Tryd.func25, Tryd.ntmps25
      go_wp2_with fail
      go_ret2
      exact ⟨ret_two (by rw [JP.size]; rfl) (by rw [JP.deep]; rfl), rfl⟩
    | bool b =>
      obtain rfl : v = .iface 4 (.bool b) := h
      obtain ⟨g1, g2, g3, g4, g5⟩ := as_bool (.bool b)
      clear hlen
      go_enter Tryd.func25, Tryd.ntmps25
      go_wp2_with fail
      go_ret2
      exact ⟨ret_two (by rw [JP.size]; rfl) (by rw [JP.deep]; rfl), rfl⟩
    | num k =>
      obtain ⟨rfl, _, _⟩ := h
      obtain ⟨g1, g2, g3, g4, g5⟩ := as_int64 (.int .i64 k)
      clear hlen
      go_enter Tryd.func25, Tryd.ntmps25
      go_wp2_with fail
      go_ret2
      exact ⟨ret_two (by rw [JP.size]; rfl) (by rw [JP.deep]; rfl), rfl⟩
    | str s =>
      obtain rfl : v = .iface 9 (.string (mkB s)) := h
      obtain ⟨g1, g2, g3, g4, g5⟩ := as_string (.string (mkB s))
      clear hlen
      go_enter Tryd.func25, Tryd.ntmps25
      go_wp2_with fail
      go_ret2
      exact ⟨ret_two (by rw [JP.size]; rfl) (by rw [JP.deep]; rfl), rfl⟩
    | list L =>
      obtain ⟨u, rfl, hrow, _⟩ := h
      obtain ⟨a, c, rfl, _, _⟩ := hrow.len
      obtain ⟨g1, g2, g3, g4, g5⟩ := as_list (.slice a L.length c)
      have HSZ : Hid (JP.size (.list L) = 1 + JP.sizeL L) := Lib.hid (by rw [JP.size])
      have HDP : Hid (JP.deep (.list L) = JP.deepL L + 1) := Lib.hid (by rw [JP.deep])
      have hlen : JP.sizeL L + 1 ≤ 1048576 := by have := HSZ.out; omega
      have hsl := sizeL_len L
      have hLl : L.length ≤ 1048576 := by omega
      have Hsl : Hid (JP.sizeL L ≤ 1048576) := Lib.hid (by omega)
      have Hrow := Lib.hid hrow
      clear hrow hlen hsl
      go_enter Tryd.func25, Tryd.ntmps25
      go_wp2_with fail
      go_loopg [2, 3, 26] L.length (fun k u2 u3 u26 wr => ∃ (i : Nat) (m d : Nat), i + k = L.length ∧ u26 = .int .i64 (i : Int) ∧ u2 = .int .i64 (m : Int) ∧ u3 = .int .i64 (d : Int) ∧ Hid (m = 1 + JP.sizeL (L.take i)) ∧ Hid (d = JP.deepL (L.take i)) ∧ m ≤ 1048577 ∧ d ≤ 1048576 ∧ wr = w)
      case atStart => exact ⟨0, 1, 0, by omega, rfl, rfl, rfl, Lib.hid (by simp [JP.sizeL]), Lib.hid (by simp [JP.deepL]), by omega, by omega, rfl⟩
      case round =>
        obtain ⟨i, m, d, hik, rfl, rfl, rfl, Hm, Hd, hm, hd, rfl⟩ := hrel
        cases gk with
        | zero =>
          obtain rfl : i = L.length := by omega
          have hm1 := Hm.out
          have hd1 := Hd.out
          rw [List.take_of_length_le (Nat.le_refl _)] at hm1 hd1
          have Hm1 : Hid (m = JP.size (.list L)) := Lib.hid (by rw [hm1]; exact HSZ.out.symm)
          have Hd1 : Hid (d + 1 = JP.deep (.list L)) := Lib.hid (by rw [hd1]; exact HDP.out.symm)
          clear hm1 hd1 hik
          go_wp2_with fail
          go_ret2
          exact ⟨ret_two (by rw [← Hm1.out]) (by rw [← Hd1.out]; omega), rfl⟩
        | succ k =>
          have hil : i < L.length := by omega
          obtain ⟨y, hy⟩ : ∃ y, L[i]? = some y := ⟨L[i]'(by omega), List.getElem?_eq_getElem _⟩
          obtain ⟨b, o, c', hv, _, _, hbs, hcell⟩ := Hrow.out.form (by omega) (by omega)
          injection hv with u1 u2 u3
          subst u1
          clear u2 u3
          obtain ⟨ds, _, hcc, vx, rfl, hvx⟩ := hcell i y hy
          have e0 : wr.cell? ⟨b, o + i, none⟩ = some vx := by simpa using hcc 0 _ rfl
          have q1 : (0 : Int) ≤ (i : Int) := by omega
          have q2 : (i : Int) < (L.length : Int) := by omega
          have ht1 := sizeL_take hy
          have ht2 := deepL_take hy
          have ht3 := sizeL_le L (i + 1)
          have ht4 := deep_size.1 y
          have hs0 := Hsl.out
          have hm0 := Hm.out
          obtain ⟨sy, hsy⟩ : ∃ s, JP.size y = s := ⟨_, rfl⟩
          obtain ⟨dy, hdy⟩ : ∃ d, JP.deep y = d := ⟨_, rfl⟩
          rw [hsy] at ht1 ht4
          rw [hdy] at ht2 ht4
          have HC := Lib.hid (IH.out vx y wr hvx (by omega))
          rw [hsy, hdy] at HC
          have Hm2 : Hid (m + sy = 1 + JP.sizeL (L.take (i + 1))) := Lib.hid (by omega)
          have hm2 : m + sy ≤ 1048577 := by omega
          have hdy2 : dy ≤ 1048576 := by omega
          have Hd2 : Hid (max d dy = JP.deepL (L.take (i + 1))) := Lib.hid (by rw [ht2, ← Hd.out])
          clear ht1 ht2 ht3 ht4 hs0 hm0 hsy hdy hcell hcc hy hvx
          go_wp2_with fail
          refine HC.out.mono ?_
          rintro E w1 ⟨rfl, rfl⟩
          by_cases hdd : d ≤ dy
          · have p1 : (d : Int) ≤ (dy : Int) := by omega
            have hmx : max d dy = dy := by omega
            rw [hmx] at Hd2
            clear hmx
            go_wp2_with fail
            go_roundg k
            case measure => omega
            case rel => exact ⟨i + 1, m + sy, dy, by omega, by go_num, by go_num, by go_num, Hm2, Hd2, hm2, hdy2, rfl⟩
          · have p1 : ¬ (d : Int) ≤ (dy : Int) := by omega
            have hmx : max d dy = d := by omega
            rw [hmx] at Hd2
            clear hmx
            go_wp2_with fail
            go_roundg k
            case measure => omega
            case rel => exact ⟨i + 1, m + sy, d, by omega, by go_num, by go_num, by go_num, Hm2, Hd2, hm2, hd, rfl⟩
    | obj l =>
      obtain ⟨q, rfl, _, _, vn, vv, cn, cv, _, _, hrow, _⟩ := h
      obtain ⟨av, c, hu, _, _⟩ := hrow.len
      obtain ⟨L, hL⟩ : ∃ L : List JV, l.map (·.2) = L := ⟨_, rfl⟩
      rw [hL] at hrow hu
      subst hu
      obtain ⟨g1, g2, g3, g4, g5⟩ := as_obj (.pointer (some ⟨q, 0, none⟩))
      have HSZ : Hid (JP.size (.obj l) = 1 + JP.sizeL L) := Lib.hid (by rw [JP.size, sizeF_map, hL])
      have HDP : Hid (JP.deep (.obj l) = JP.deepL L + 1) := Lib.hid (by rw [JP.deep, deepF_map, hL])
      have hlen : JP.sizeL L + 1 ≤ 1048576 := by have := HSZ.out; omega
      clear hL cn
      have hsl := sizeL_len L
      have hLl : L.length ≤ 1048576 := by omega
      have Hsl : Hid (JP.sizeL L ≤ 1048576) := Lib.hid (by omega)
      have Hrow := Lib.hid hrow
      clear hrow hlen hsl
      go_enter Tryd.func25, Tryd.ntmps25
      go_wp2_with fail
      go_loopg [2, 3, 26] L.length (fun k u2 u3 u26 wr => ∃ (i : Nat) (m d : Nat), i + k = L.length ∧ u26 = .int .i64 (i : Int) ∧ u2 = .int .i64 (m : Int) ∧ u3 = .int .i64 (d : Int) ∧ Hid (m = 1 + JP.sizeL (L.take i)) ∧ Hid (d = JP.deepL (L.take i)) ∧ m ≤ 1048577 ∧ d ≤ 1048576 ∧ wr = w)
      case atStart => exact ⟨0, 1, 0, by omega, rfl, rfl, rfl, Lib.hid (by simp [JP.sizeL]), Lib.hid (by simp [JP.deepL]), by omega, by omega, rfl⟩
      case round =>
        obtain ⟨i, m, d, hik, rfl, rfl, rfl, Hm, Hd, hm, hd, rfl⟩ := hrel
        cases gk with
        | zero =>
          obtain rfl : i = L.length := by omega
          have hm1 := Hm.out
          have hd1 := Hd.out
          rw [List.take_of_length_le (Nat.le_refl _)] at hm1 hd1
          have Hm1 : Hid (m = JP.size (.obj l)) := Lib.hid (by rw [hm1]; exact HSZ.out.symm)
          have Hd1 : Hid (d + 1 = JP.deep (.obj l)) := Lib.hid (by rw [hd1]; exact HDP.out.symm)
          clear hm1 hd1 hik
          go_wp2_with fail
          go_ret2
          exact ⟨ret_two (by rw [← Hm1.out]) (by rw [← Hd1.out]; omega), rfl⟩
        | succ k =>
          have hil : i < L.length := by omega
          obtain ⟨y, hy⟩ : ∃ y, L[i]? = some y := ⟨L[i]'(by omega), List.getElem?_eq_getElem _⟩
          obtain ⟨b, o, c', hv, _, _, hbs, hcell⟩ := Hrow.out.form (by omega) (by omega)
          injection hv with u1 u2 u3
          subst u1
          clear u2 u3
          obtain ⟨ds, _, hcc, vx, rfl, hvx⟩ := hcell i y hy
          have e0 : wr.cell? ⟨b, o + i, none⟩ = some vx := by simpa using hcc 0 _ rfl
          have q1 : (0 : Int) ≤ (i : Int) := by omega
          have q2 : (i : Int) < (L.length : Int) := by omega
          have ht1 := sizeL_take hy
          have ht2 := deepL_take hy
          have ht3 := sizeL_le L (i + 1)
          have ht4 := deep_size.1 y
          have hs0 := Hsl.out
          have hm0 := Hm.out
          obtain ⟨sy, hsy⟩ : ∃ s, JP.size y = s := ⟨_, rfl⟩
          obtain ⟨dy, hdy⟩ : ∃ d, JP.deep y = d := ⟨_, rfl⟩
          rw [hsy] at ht1 ht4
          rw [hdy] at ht2 ht4
          have HC := Lib.hid (IH.out vx y wr hvx (by omega))
          rw [hsy, hdy] at HC
          have Hm2 : Hid (m + sy = 1 + JP.sizeL (L.take (i + 1))) := Lib.hid (by omega)
          have hm2 : m + sy ≤ 1048577 := by omega
          have hdy2 : dy ≤ 1048576 := by omega
          have Hd2 : Hid (max d dy = JP.deepL (L.take (i + 1))) := Lib.hid (by rw [ht2, ← Hd.out])
          clear ht1 ht2 ht3 ht4 hs0 hm0 hsy hdy hcell hcc hy hvx
          go_wp2_with fail
          refine HC.out.mono ?_
          rintro E w1 ⟨rfl, rfl⟩
          by_cases hdd : d ≤ dy
          · have p1 : (d : Int) ≤ (dy : Int) := by omega
            have hmx : max d dy = dy := by omega
            rw [hmx] at Hd2
            clear hmx
            go_wp2_with fail
            go_roundg k
            case measure => omega
            case rel => exact ⟨i + 1, m + sy, dy, by omega, by go_num, by go_num, by go_num, Hm2, Hd2, hm2, hdy2, rfl⟩
          · have p1 : ¬ (d : Int) ≤ (dy : Int) := by omega
            have hmx : max d dy = d := by omega
            rw [hmx] at Hd2
            clear hmx
            go_wp2_with fail
            go_roundg k
            case measure => omega
            case rel => exact ⟨i + 1, m + sy, d, by omega, by go_num, by go_num, by go_num, Hm2, Hd2, hm2, hd, rfl⟩
set_option maxRecDepth 100000 in
set_option maxHeartbeats 1600000 in
theorem same_any {n m : Nat} {v u : Value} {x y : JV} {w : World} (h : JvAt n [] w v x) (k : JvAt m [] w u y) (hx : (JP.text x).length ≤ 1048576) (hy : (JP.text y).length ≤ 1048576) (ht : TabOK w) :
    Calls Tryd.prog 30 #[v, u] w fun e w' => e = .returned (.bool (decide (JP.text x = JP.text y))) ∧ Below w.heap.size w w' := by
  have H := Lib.hid (text_any n v x w h hx ht)
  have K := Lib.hid (fun w' (hb : Below w.heap.size w w') => text_any m u y w' (k.below hb) hy (ht.below hb))
  obtain ⟨X, hX⟩ : ∃ X, JP.text x = X := ⟨_, rfl⟩
  obtain ⟨Y, hY⟩ : ∃ Y, JP.text y = Y := ⟨_, rfl⟩
  rw [hX] at H ⊢
  rw [hY] at K ⊢
  obtain ⟨bb, Hb⟩ : ∃ bb, Hid (decide (X = Y) = bb) := ⟨_, Lib.hid rfl⟩
  rw [Hb.out]
  have hbq : ((mkB X).toList == (mkB Y).toList) = bb := by
    rw [← Hb.out, ByteArray.toList_eq, ByteArray.toList_eq, mkB_list, mkB_list]
    by_cases e : X = Y
    · rw [decide_eq_true e, e]; simp
    · rw [decide_eq_false e, beq_eq_false_iff_ne]; exact e
  clear h k hx hy ht hX hY
  go_enter Tryd.func30, Tryd.ntmps30
  go_wp2_with fail
  refine H.out.mono ?_
  rintro E w1 ⟨rfl, hb1⟩
  have Hb1 := Lib.hid hb1
  clear hb1
  go_wp2_with fail
  refine (K.out w1 Hb1.out).mono ?_
  rintro E w2 ⟨rfl, hb2⟩
  have Hb2 := Lib.hid (Hb1.out.trans (hb2.mono Hb1.out.size))
  clear hb2
  go_wp2_with fail
  go_ret
  exact ⟨rfl, Hb2.out⟩
end Go.Proofs.YtlcongehmjiabaaDoor
/- json: Canon, Kind, Size, Same, Quote. -/
namespace Go.Proofs.YtlcongehmjiabaaDoor
open Go.RowKit
open JP (JV Bs Fr)

namespace JP
theorem readL_good {s : Bs} {v : JV} (h : readL s = (v, 0)) : wf v ∧ size v ≤ 200 ∧ deep v ≤ 10 ∧ (text v).length ≤ s.length ∧ s.length ≤ 2000 := by
  unfold readL at h
  split at h
  · exact absurd (Prod.mk.inj h).2 (by decide)
  · rename_i hl
    have hi : Inv s.length (.more s 0 []) := ⟨by show s.length + 0 ≤ s.length; omega, rfl, by omega, trivial⟩
    obtain ⟨a, b, c, d⟩ := fin_inv _ hi v h
    exact ⟨a, b, c, d, by omega⟩
/-- the canonical document, and what is wrong -/
def canonT (s : Bs) : Bs := if (readL s).2 = 0 then text (readL s).1 else []
def canonE (s : Bs) : Int := (readL s).2
def kindT (s : Bs) : Int := if (readL s).2 = 0 then kind (readL s).1 else 0
def manyT (s : Bs) : Nat := if (readL s).2 = 0 then size (readL s).1 else 0
def deepT (s : Bs) : Nat := if (readL s).2 = 0 then deep (readL s).1 else 0
def sameT (a b : Bs) : Bool := if (readL a).2 = 0 ∧ (readL b).2 = 0 then decide (text (readL a).1 = text (readL b).1) else false
def sameE (a b : Bs) : Int := if (readL a).2 = 0 then (readL b).2 else (readL a).2
def quoteE (s : Bs) : Int := if s.all stand = true then if 2000 < (quote s).length then 2 else 0 else 16
def quoteT (s : Bs) : Bs := if quoteE s = 0 then quote s else []
theorem canonT_ok {s : Bs} {v : JV} (h : readL s = (v, 0)) : canonT s = text v := by unfold canonT; rw [h]; exact if_pos rfl
theorem canonT_no {s : Bs} (h : (readL s).2 ≠ 0) : canonT s = [] := if_neg h
theorem canonT_le (s : Bs) : (canonT s).length ≤ 2000 := by
  unfold canonT
  split
  · rename_i h
    obtain ⟨_, _, _, h4, h5⟩ := readL_good (s := s) (v := (readL s).1) (Prod.ext rfl h)
    omega
  · simp
end JP
theorem list_size (s : ByteArray) : s.data.toList.length = s.size := by rw [Array.length_toList]; rfl
theorem TabOK.ofBelow {B : Nat} {w w' : World} (h : TabOK w) (hb : Below w.heap.size w w') : TabOK w' := h.below hb
set_option maxRecDepth 100000 in
set_option maxHeartbeats 3200000 in
theorem canon_any (s : ByteArray) (w : World) (hs : s.size ≤ 1048576) (ht : TabOK w) :
    Calls Tryd.prog 19 #[.string s] w fun e w' => e = .returned (.tuple #[.string (mkB (JP.canonT s.data.toList)), .int .i64 (JP.canonE s.data.toList)]) ∧ Below w.heap.size w w' := by
  have HR := Lib.hid (read_any s w hs)
  obtain ⟨v, hv⟩ : ∃ v, (JP.readL s.data.toList).1 = v := ⟨_, rfl⟩
  obtain ⟨er, her⟩ : ∃ er, (JP.readL s.data.toList).2 = er := ⟨_, rfl⟩
  have hre : JP.readL s.data.toList = (v, er) := Prod.ext hv her
  have HT := Lib.hid ht
  rw [hv, her] at HR
  have hE : JP.canonE s.data.toList = er := her
  have Hre := Lib.hid hre
  obtain ⟨T, hT⟩ : ∃ T, JP.canonT s.data.toList = T := ⟨_, rfl⟩
  rw [hE, hT]
  have HTx := Lib.hid hT
  clear ht hv her hre hE hT
  go_enter Tryd.func19, Tryd.ntmps19
  go_wp2_with fail
  refine HR.out.mono ?_
  rintro E w1 ⟨u, rfl, ⟨n, hj⟩, hb⟩
  have HJ := Lib.hid hj
  have HB := Lib.hid hb
  clear hj hb HR
  by_cases he : er = 0
  · subst he
    obtain ⟨_, _, _, h4, h5⟩ := JP.readL_good Hre.out
    have HTt : Hid (T = JP.text v) := Lib.hid (by rw [← HTx.out]; exact JP.canonT_ok Hre.out)
    go_wp2_with fail
    refine (text_any n u v w1 HJ.out (by omega) (HT.out.below HB.out)).mono ?_
    rintro E w2 ⟨rfl, hb⟩
    have HB2 := Lib.hid (HB.out.trans (hb.mono HB.out.size))
    clear hb
    go_wp2_with fail
    go_ret2
    exact ⟨by rw [HTt.out] <;> rfl, HB2.out⟩
  · have n0 : (er != 0) = true := by rw [bne_iff_ne]; exact he
    have HTt : Hid (T = []) := Lib.hid (by rw [← HTx.out]; exact JP.canonT_no (by rw [Hre.out]; exact he))
    clear he
    go_wp2_with fail
    go_ret2
    exact ⟨by rw [HTt.out] <;> rfl, HB.out⟩
set_option maxRecDepth 100000 in
set_option maxHeartbeats 3200000 in
theorem kindJ_any (s : ByteArray) (w : World) (hs : s.size ≤ 1048576) :
    Calls Tryd.prog 12 #[.string s] w fun e w' => e = .returned (.tuple #[.int .i64 (JP.kindT s.data.toList), .int .i64 (JP.canonE s.data.toList)]) ∧ Below w.heap.size w w' := by
  have HR := Lib.hid (read_any s w hs)
  obtain ⟨v, hv⟩ : ∃ v, (JP.readL s.data.toList).1 = v := ⟨_, rfl⟩
  obtain ⟨er, her⟩ : ∃ er, (JP.readL s.data.toList).2 = er := ⟨_, rfl⟩
  have hre : JP.readL s.data.toList = (v, er) := Prod.ext hv her
  rw [hv, her] at HR
  have hE : JP.canonE s.data.toList = er := her
  have Hre := Lib.hid hre
  obtain ⟨T, hT⟩ : ∃ T, JP.kindT s.data.toList = T := ⟨_, rfl⟩
  rw [hE, hT]
  have HTx := Lib.hid hT
  clear hv her hre hE hT
  go_enter Tryd.func12, Tryd.ntmps12
  go_wp2_with fail
  refine HR.out.mono ?_
  rintro E w1 ⟨u, rfl, ⟨n, hj⟩, hb⟩
  have HJ := Lib.hid hj
  have HB := Lib.hid hb
  clear hj hb HR
  by_cases he : er = 0
  · subst he
    have HTt : Hid (T = JP.kind v) := Lib.hid (by rw [← HTx.out]; unfold JP.kindT; rw [Hre.out]; exact if_pos rfl)
    go_wp2_with fail
    refine (kind_any HJ.out).mono ?_
    rintro E w2 ⟨rfl, rfl⟩
    go_wp2_with fail
    go_ret2
    exact ⟨by rw [HTt.out] <;> rfl, HB.out⟩
  · have n0 : (er != 0) = true := by rw [bne_iff_ne]; exact he
    have HTt : Hid (T = 0) := Lib.hid (by rw [← HTx.out]; unfold JP.kindT; rw [Hre.out]; exact if_neg he)
    clear he
    go_wp2_with fail
    go_ret2
    exact ⟨by rw [HTt.out] <;> rfl, HB.out⟩
end Go.Proofs.YtlcongehmjiabaaDoor
/- merge: two documents read. -/
namespace Go.Proofs.YtlcongehmjiabaaDoor
open Go.RowKit
open JP (JV Bs)

set_option maxRecDepth 100000 in
set_option maxHeartbeats 3200000 in
theorem pair_any (a b : ByteArray) (w : World) (ha : a.size ≤ 1048576) (hb : b.size ≤ 1048576) :
    Calls Tryd.prog 13 #[.string a, .string b] w fun e w' => ∃ v u, e = .returned (.tuple #[v, u, .int .i64 (JP.sameE a.data.toList b.data.toList)]) ∧ (JP.sameE a.data.toList b.data.toList = 0 → (∃ n, JvAt n [] w' v (JP.readL a.data.toList).1) ∧ ∃ n, JvAt n [] w' u (JP.readL b.data.toList).1) ∧ Below w.heap.size w w' := by
  have HR := Lib.hid (read_any a w ha)
  have HRb := Lib.hid (fun w' => read_any b w' hb)
  obtain ⟨v, hv⟩ : ∃ v, (JP.readL a.data.toList).1 = v := ⟨_, rfl⟩
  obtain ⟨er, her⟩ : ∃ er, (JP.readL a.data.toList).2 = er := ⟨_, rfl⟩
  have hre : JP.readL a.data.toList = (v, er) := Prod.ext hv her
  obtain ⟨v2, hv2⟩ : ∃ v, (JP.readL b.data.toList).1 = v := ⟨_, rfl⟩
  obtain ⟨er2, her2⟩ : ∃ er, (JP.readL b.data.toList).2 = er := ⟨_, rfl⟩
  have hre2 : JP.readL b.data.toList = (v2, er2) := Prod.ext hv2 her2
  obtain ⟨E0, hE⟩ : ∃ T, JP.sameE a.data.toList b.data.toList = T := ⟨_, rfl⟩
  have HEx : Hid (E0 = if er = 0 then er2 else er) := Lib.hid (by rw [← hE]; unfold JP.sameE; rw [hre, hre2])
  rw [hv, her] at HR
  rw [hv2, her2] at HRb
  rw [hE, hv, hv2]
  clear hv her hre hv2 her2 hre2 hE
  go_enter Tryd.func13, Tryd.ntmps13
  go_wp2_with fail
  refine HR.out.mono ?_
  rintro E w1 ⟨u, rfl, ⟨n, hj⟩, hb⟩
  have HJ := Lib.hid hj
  have HB := Lib.hid hb
  clear hj hb HR
  by_cases he : er = 0
  · subst he
    have HEt : Hid (E0 = er2) := Lib.hid (by rw [HEx.out]; exact if_pos rfl)
    go_wp2_with fail
    refine (HRb.out w1).mono ?_
    rintro E w2 ⟨u2, rfl, ⟨n2, hj⟩, hb⟩
    have HJ2 := Lib.hid hj
    have HJ1 := Lib.hid (HJ.out.below hb)
    have HB2 := Lib.hid (HB.out.trans (hb.mono HB.out.size))
    clear hj hb HRb HJ HB
    go_wp2_with fail
    go_ret3
    exact ⟨_, _, by rw [HEt.out] <;> rfl, fun _ => ⟨⟨_, HJ1.out⟩, ⟨_, HJ2.out⟩⟩, HB2.out⟩
  · have n0 : (er != 0) = true := by rw [bne_iff_ne]; exact he
    have HEt : Hid (E0 = er) := Lib.hid (by rw [HEx.out]; exact if_neg he)
    have Hne := Lib.hid he
    clear he
    go_wp2_with fail
    go_ret3
    exact ⟨_, _, by rw [HEt.out] <;> rfl, fun h => absurd (HEt.out.symm.trans h) Hne.out, HB.out⟩
end Go.Proofs.YtlcongehmjiabaaDoor
/- merge: what the code computes, in plain Lean. -/
namespace Go.Proofs.YtlcongehmjiabaaDoor
open Go
namespace JP
def fieldsOf : JV → List (Bs × JV)
  | .obj l => l
  | _ => []
mutual
def intoF : List (Bs × JV) → List (Bs × JV) → List (Bs × JV)
  | out, [] => out
  | out, (n, w) :: r => intoF (into1 n out w) r
termination_by structural _ x => x
def into1 : Bs → List (Bs × JV) → JV → List (Bs × JV)
  | n, out, .nul => cut n out
  | n, out, .bool b => put n (.bool b) out
  | n, out, .num k => put n (.num k) out
  | n, out, .str s => put n (.str s) out
  | n, out, .list l => put n (.list l) out
  | n, out, .obj l => put n (.obj (intoF (fieldsOf ((get n out).getD .nul)) l)) out
termination_by structural _ _ x => x
end
def into (d : JV) : JV → JV
  | .obj l => .obj (intoF (fieldsOf d) l)
  | .nul => .nul
  | .bool b => .bool b
  | .num n => .num n
  | .str s => .str s
  | .list l => .list l
theorem into1_nul (n : Bs) (out : List (Bs × JV)) : into1 n out .nul = cut n out := by rw [into1]
theorem into1_put (n : Bs) (out : List (Bs × JV)) (w : JV) (h : w ≠ .nul) : into1 n out w = put n (into ((get n out).getD .nul) w) out := by
  cases w with
  | nul => exact absurd rfl h
  | bool b => rw [into1, into]
  | num b => rw [into1, into]
  | str b => rw [into1, into]
  | list b => rw [into1, into]
  | obj l => rw [into1, into]
theorem intoF_nil (out : List (Bs × JV)) : intoF out [] = out := by rw [intoF]
theorem intoF_cons (out : List (Bs × JV)) (n : Bs) (w : JV) (r : List (Bs × JV)) : intoF out ((n, w) :: r) = intoF (into1 n out w) r := by rw [intoF]
theorem sizeF_fields (d : JV) : sizeF (fieldsOf d) ≤ size d := by
  cases d <;> simp only [fieldsOf, size, sizeF] <;> omega
theorem sizeF_cut (n : Bs) : ∀ d, sizeF (cut n d) ≤ sizeF d
  | [] => Nat.le_refl _
  | (m, x) :: r => by
    have ih := sizeF_cut n r
    unfold cut at ih ⊢
    by_cases h : m = n
    · rw [List.filter_cons_of_neg (by simpa using h), sizeF]; omega
    · rw [List.filter_cons_of_pos (by simpa using h), sizeF, sizeF]; omega
theorem sizeF_put (n : Bs) (v : JV) : ∀ d, Srt d → sizeF (put n v d) + (match get n d with | some u => size u | none => 0) = sizeF d + size v
  | [], _ => by simp only [put, get, sizeF]; omega
  | (m, x) :: r, hs => by
    obtain ⟨h1, h2⟩ := List.pairwise_cons.1 hs
    have ih := sizeF_put n v r h2
    unfold put
    by_cases hlt : m < n
    · have hne : m ≠ n := fun e => by subst e; exact List.lt_irrefl _ hlt
      rw [if_pos hlt, sizeF, sizeF, get, if_neg hne]
      omega
    · rw [if_neg hlt]
      by_cases he : m = n
      · rw [if_pos he, sizeF, sizeF, get, if_pos he]
        dsimp only
        omega
      · rw [if_neg he, sizeF, get, if_neg he]
        have hg : get n r = none := by
          have hlt2 : n < m := bs_trich m n hlt he
          have : ∀ l : List (Bs × JV), (∀ a ∈ l, m < a.1) → get n l = none := by
            intro l
            induction l with
            | nil => intro _; rfl
            | cons a t iht =>
              intro ha
              obtain ⟨k, y⟩ := a
              rw [get, if_neg, iht fun b hb => ha b (List.mem_cons_of_mem _ hb)]
              intro e
              have := ha (k, y) (List.mem_cons_self ..)
              rw [e] at this
              exact List.lt_irrefl _ (List.lt_trans hlt2 this)
          exact this r fun a ha => h1 a ha
        rw [hg]
        dsimp only
        omega
theorem srt_cut (n : Bs) {d : List (Bs × JV)} (h : Srt d) : Srt (cut n d) := List.Pairwise.sublist List.filter_sublist h
theorem wfF_cut (n : Bs) : ∀ {d : List (Bs × JV)}, wfF d → wfF (cut n d)
  | [], h => h
  | (m, x) :: r, h => by
    rw [wfF] at h
    have ih := wfF_cut n h.2.2
    unfold cut at ih ⊢
    by_cases hm : m = n
    · rw [List.filter_cons_of_neg (by simpa using hm)]; exact ih
    · rw [List.filter_cons_of_pos (by simpa using hm), wfF]; exact ⟨h.1, h.2.1, ih⟩
theorem wf_get (n : Bs) : ∀ {d : List (Bs × JV)}, wfF d → wf ((get n d).getD .nul)
  | [], _ => trivial
  | (m, x) :: r, h => by
    rw [wfF] at h
    rw [get]
    by_cases hm : m = n
    · rw [if_pos hm]; exact h.2.1
    · rw [if_neg hm]; exact wf_get n h.2.2
theorem wf_fields {d : JV} (h : wf d) : Srt (fieldsOf d) ∧ wfF (fieldsOf d) := by
  cases d with
  | obj l => rw [wf] at h; exact h
  | _ => exact ⟨List.Pairwise.nil, trivial⟩
def Fld (out : List (Bs × JV)) : Prop := Srt out ∧ wfF out
/-- each field that is merged in: how large it may get -/
theorem into_size : (∀ x : JV, wf x → ∀ (n : Bs) (out : List (Bs × JV)), n.all stand = true → Fld out → Fld (into1 n out x) ∧ sizeF (into1 n out x) ≤ sizeF out + size x) ∧ (∀ _ : List JV, True) ∧ (∀ l : List (Bs × JV), wfF l → ∀ out : List (Bs × JV), Fld out → Fld (intoF out l) ∧ sizeF (intoF out l) ≤ sizeF out + sizeF l) := by
  refine JV.both ?_ ?_ ?_ ?_ ?_ ?_ trivial (fun _ _ _ _ => trivial) ?_ ?_
  · intro _ n out _ hs
    rw [into1]
    exact ⟨⟨srt_cut n hs.1, wfF_cut n hs.2⟩, by have := sizeF_cut n out; omega⟩
  · intro b hw n out hn hs
    rw [into1]
    exact ⟨⟨put_srt hs.1, put_wf hn hw hs.2⟩, by have := sizeF_put n (.bool b) out hs.1; omega⟩
  · intro b hw n out hn hs
    rw [into1]
    exact ⟨⟨put_srt hs.1, put_wf hn hw hs.2⟩, by have := sizeF_put n (.num b) out hs.1; omega⟩
  · intro b hw n out hn hs
    rw [into1]
    exact ⟨⟨put_srt hs.1, put_wf hn hw hs.2⟩, by have := sizeF_put n (.str b) out hs.1; omega⟩
  · intro l _ hw n out hn hs
    rw [into1]
    exact ⟨⟨put_srt hs.1, put_wf hn hw hs.2⟩, by have := sizeF_put n (.list l) out hs.1; omega⟩
  · intro l ih hw n out hn hs
    rw [into1]
    have hwl : wfF l := by rw [wf] at hw; exact hw.2
    obtain ⟨g1, g2⟩ := ih hwl _ (wf_fields (wf_get n hs.2))
    refine ⟨⟨put_srt hs.1, put_wf hn (by rw [wf]; exact g1) hs.2⟩, ?_⟩
    have hp := sizeF_put n (.obj (intoF (fieldsOf ((get n out).getD .nul)) l)) out hs.1
    have hf := sizeF_fields ((get n out).getD .nul)
    rw [size] at hp ⊢
    cases hg : get n out with
    | none =>
      rw [hg] at hp g2
      simp only [Option.getD, fieldsOf, sizeF] at hp g2
      simp only [Option.getD, fieldsOf]
      omega
    | some u =>
      rw [hg] at hp g2
      simp only [Option.getD] at hp g2
      simp only [Option.getD]
      have hu := sizeF_fields u
      omega
  · intro _ out hs
    rw [intoF]
    exact ⟨hs, by omega⟩
  · intro n v r hv hr hw out hs
    rw [wfF] at hw
    rw [intoF, sizeF]
    obtain ⟨h1, h2⟩ := hv hw.2.1 n out hw.1 hs
    obtain ⟨h3, h4⟩ := hr hw.2.2 _ h1
    exact ⟨h3, by omega⟩
end JP
end Go.Proofs.YtlcongehmjiabaaDoor
/- merge: is it an object? -/
namespace Go.Proofs.YtlcongehmjiabaaDoor
open Go.RowKit
open JP (JV Bs)

theorem as_other {n : Nat} {T : List Nat} {w : World} {v : Value} {x : JV} (h : JvAt n T w v x) (hx : ∀ l, x ≠ .obj l) : ∀ w' : World, (Instr.typeAssert v 32 43 true).run Tryd.prog w' = .ok (.tuple #[.pointer none, .bool false]) w' := by
  cases n with
  | zero => cases h
  | succ n =>
    cases x with
    | nul => obtain rfl : v = .nilIface := h; exact as_nil.2.2.2.2
    | bool b => obtain rfl : v = .iface 4 (.bool b) := h; exact (as_bool _).2.2.2.2
    | num k => obtain ⟨rfl, _, _⟩ := h; exact (as_int64 _).2.2.2.2
    | str s => obtain rfl : v = .iface 9 (.string (mkB s)) := h; exact (as_string _).2.2.2.2
    | list L => obtain ⟨u, rfl, _, _⟩ := h; exact (as_list _).2.2.2.2
    | obj l => exact absurd rfl (hx l)
theorem intoF_snoc (out : List (Bs × JV)) (l : List (Bs × JV)) (n : Bs) (w : JV) : JP.intoF out (l ++ [(n, w)]) = JP.into1 n (JP.intoF out l) w := by
  induction l generalizing out with
  | nil => rw [List.nil_append, JP.intoF_cons, JP.intoF_nil, JP.intoF_nil]
  | cons x r ih =>
    obtain ⟨m, y⟩ := x
    rw [List.cons_append, JP.intoF_cons, JP.intoF_cons, ih]
theorem intoF_take {out l : List (Bs × JV)} {i : Nat} {x : Bs × JV} (h : l[i]? = some x) : JP.intoF out (l.take (i + 1)) = JP.into1 x.1 (JP.intoF out (l.take i)) x.2 := by
  rw [List.take_add_one, h]
  exact intoF_snoc out (l.take i) x.1 x.2
theorem get_of_at {n : Bs} {y : JV} : ∀ {l : List (Bs × JV)} {i : Nat}, JP.Srt l → l[i]? = some (n, y) → JP.get n l = some y
  | [], _, _, h => by simp at h
  | (m, z) :: r, 0, _, h => by
    simp only [List.getElem?_cons_zero, Option.some.injEq] at h
    cases h
    rw [JP.get, if_pos rfl]
  | (m, z) :: r, i + 1, hs, h => by
    obtain ⟨h1, h2⟩ := List.pairwise_cons.1 hs
    rw [List.getElem?_cons_succ] at h
    have hlt := h1 (n, y) (List.mem_of_getElem? h)
    rw [JP.get, if_neg (fun e => by
      have hlt' : m < n := hlt
      rw [e] at hlt'
      exact List.lt_irrefl _ hlt')]
    exact get_of_at h2 h
end Go.Proofs.YtlcongehmjiabaaDoor
/- json: Quote; the laws' own canon. -/
namespace Go.Proofs.YtlcongehmjiabaaDoor
open Go.RowKit
open JP (JV Bs)

theorem ba_list (s : ByteArray) : s.toList = s.data.toList := ByteArray.toList_eq s
theorem mkB_eq (a b : Bs) : ((mkB a).toList == (mkB b).toList) = decide (a = b) := by
  rw [ba_list, ba_list, mkB_list, mkB_list]
  rw [Bool.eq_iff_iff, beq_iff_eq, decide_eq_true_iff]
theorem mkB_empty (a : Bs) : (mkB a).toList.isEmpty = decide (a = []) := by
  rw [ba_list, mkB_list]
  cases a <;> rfl
theorem stand_nat (c : UInt8) : JP.stand c = (decide (32 ≤ c.toNat ∧ c.toNat ≤ 126) || decide (c.toNat = 10) || decide (c.toNat = 9)) := by
  have e : ∀ k : UInt8, (c == k) = decide (c.toNat = k.toNat) := fun k => by
    rw [Bool.eq_iff_iff, beq_iff_eq, decide_eq_true_iff]
    exact ⟨fun h => by rw [h], fun h => UInt8.toNat_inj.1 h⟩
  unfold JP.stand
  rw [e 10, e 9]
  have a : decide (32 ≤ c) = decide (32 ≤ c.toNat) := rfl
  have b : decide (c ≤ 126) = decide (c.toNat ≤ 126) := rfl
  rw [a, b]
  by_cases h1 : 32 ≤ c.toNat <;> by_cases h2 : c.toNat ≤ 126 <;> simp [h1, h2]
theorem all_take {s : ByteArray} {i : Nat} (hi : i < s.size) (h : (s.data.toList.take i).all JP.stand = true) (hc : JP.stand s[i] = true) : (s.data.toList.take (i + 1)).all JP.stand = true := by
  have hl : i < s.data.toList.length := by rw [list_size]; exact hi
  rw [List.take_succ_eq_append_getElem hl, List.all_append, h]
  simp only [List.all_cons, List.all_nil, Bool.and_true, Bool.true_and]
  exact hc
theorem not_all {s : ByteArray} {i : Nat} (hi : i < s.size) (hc : JP.stand s[i] = false) : s.data.toList.all JP.stand = false := by
  have hl : i < s.data.toList.length := by rw [list_size]; exact hi
  rw [Bool.eq_false_iff]
  intro h
  rw [List.all_eq_true] at h
  have := h s.data.toList[i] (List.getElem_mem hl)
  rw [show s.data.toList[i] = s[i] from rfl, hc] at this
  cases this
set_option maxRecDepth 100000 in
set_option maxHeartbeats 3200000 in
theorem canonK_any (s : ByteArray) (w : World) (hs : s.size ≤ 1048576) (ht : TabOK w) :
    Calls Tryd.prog 11 #[.string s] w fun e w' => e = .returned (.tuple #[.string (mkB (JP.canonT s.data.toList)), .bool (JP.canonE s.data.toList == 0)]) ∧ Below w.heap.size w w' := by
  have HC := Lib.hid (canon_any s w hs ht)
  obtain ⟨E0, hE⟩ : ∃ T, JP.canonE s.data.toList = T := ⟨_, rfl⟩
  obtain ⟨T, hT⟩ : ∃ T, JP.canonT s.data.toList = T := ⟨_, rfl⟩
  rw [hE, hT] at HC ⊢
  clear hE hT ht
  go_enter Tryd.func11, Tryd.ntmps11
  go_wp2_with fail
  refine HC.out.mono ?_
  rintro E w1 ⟨rfl, hb⟩
  have HB := Lib.hid hb
  clear hb
  go_wp2_with fail
  go_ret2
  exact ⟨rfl, HB.out⟩
end Go.Proofs.YtlcongehmjiabaaDoor
/- json: have all bytes of a text a place in a document? -/
namespace Go.Proofs.YtlcongehmjiabaaDoor
open Go.RowKit
open JP (JV Bs)

theorem ret_bool2 {a b : Bool} (h : a = b) : Ending.returned (.bool a) = .returned (.bool b) := by rw [h]
set_option maxRecDepth 100000 in
set_option maxHeartbeats 3200000 in
theorem stands_any (s : ByteArray) (w : World) (hs : s.size ≤ 1048576) :
    Calls Tryd.prog 40 #[.string s] w fun e w' => e = .returned (.bool (s.data.toList.all JP.stand)) ∧ w = w' := by
  obtain ⟨R, hR⟩ : ∃ R, s.data.toList.all JP.stand = R := ⟨_, rfl⟩
  rw [hR]
  have HR := Lib.hid hR
  clear hR
  go_enter Tryd.func40, Tryd.ntmps40
  go_wp2_with fail
  go_loopg [7] s.size (fun k u7 wx => ∃ i : Nat, i + k = s.size ∧ u7 = .int .i64 (i : Int) ∧ Hid ((s.data.toList.take i).all JP.stand = true) ∧ w = wx)
  case atStart => exact ⟨0, by omega, rfl, Lib.hid (by rw [List.take_zero]; rfl), rfl⟩
  case round =>
    obtain ⟨i, hig, rfl, HA, rfl⟩ := hrel
    cases gk with
    | zero =>
      have q1 : ¬ (i : Int) < (s.size : Int) := by omega
      have Hall : Hid (s.data.toList.all JP.stand = true) := Lib.hid (by have h := HA.out; rwa [List.take_of_length_le (by rw [list_size]; omega)] at h)
      clear HA hig
      go_wp2_with fail
      go_ret
      exact ⟨ret_bool2 (Hall.out.symm.trans HR.out), rfl⟩
    | succ k =>
      have hil : i < s.size := by omega
      have q0 : decide (i < s.size) = true := decide_eq_true hil
      have q1 : (i : Int) < (s.size : Int) := by omega
      have q2 : (0 : Int) ≤ (i : Int) := by omega
      have hwr : IntKind.i64.wrap ((i : Int) + 1) = (i : Int) + 1 := IntWalk.i64_in _ (by omega)
      have hsn := stand_nat s[i]
      cases hst : JP.stand s[i] with
      | false =>
        rw [hst] at hsn
        replace hsn := hsn.symm
        simp only [Bool.or_eq_false_iff, decide_eq_false_iff_not] at hsn
        obtain ⟨⟨m1, m2⟩, m3⟩ := hsn
        have e10 : ((s[i].toNat : Int) != 10) = true := by rw [bne_iff_ne]; omega
        have e9 : ((s[i].toNat : Int) != 9) = true := by rw [bne_iff_ne]; omega
        have Hno := Lib.hid (not_all hil hst)
        clear hst HA hig
        by_cases l1 : s[i].toNat < 32
        · have p1 : (s[i].toNat : Int) < 32 := by omega
          have p2 : decide ((s[i].toNat : Int) < 32) = true := decide_eq_true p1
          clear m1 m2 m3
          go_wp2_with fail
          go_ret
          exact ⟨ret_bool2 (Hno.out.symm.trans HR.out), rfl⟩
        · have p1 : ¬ (s[i].toNat : Int) < 32 := by omega
          have p2 : decide ((s[i].toNat : Int) < 32) = false := decide_eq_false p1
          have p3 : (126 : Int) < (s[i].toNat : Int) := by omega
          have p4 : decide ((126 : Int) < (s[i].toNat : Int)) = true := decide_eq_true p3
          clear m1 m2 m3
          go_wp2_with fail
          go_ret
          exact ⟨ret_bool2 (Hno.out.symm.trans HR.out), rfl⟩
      | true =>
        rw [hst] at hsn
        replace hsn := hsn.symm
        simp only [Bool.or_eq_true, decide_eq_true_eq] at hsn
        have HA2 := Lib.hid (all_take hil HA.out hst)
        clear hst HA
        rcases hsn with (⟨m1, m2⟩ | m1) | m1
        · have p1 : ¬ (s[i].toNat : Int) < 32 := by omega
          have p2 : decide ((s[i].toNat : Int) < 32) = false := decide_eq_false p1
          have p3 : ¬ (126 : Int) < (s[i].toNat : Int) := by omega
          have p4 : decide ((126 : Int) < (s[i].toNat : Int)) = false := decide_eq_false p3
          clear m1 m2
          go_wp2_with fail
          go_roundg k
          case measure => omega
          case rel => exact ⟨i + 1, by omega, by go_num, HA2, rfl⟩
        · go_wp2_with fail
          go_roundg k
          case measure => omega
          case rel => exact ⟨i + 1, by omega, by go_num, HA2, rfl⟩
        · go_wp2_with fail
          go_roundg k
          case measure => omega
          case rel => exact ⟨i + 1, by omega, by go_num, HA2, rfl⟩
set_option maxRecDepth 100000 in
theorem names_any (q : Nat) (vn : Value) (w : World) (h : w.cell? ⟨q, 0, none⟩ = some vn) :
    Calls Tryd.prog 22 #[.pointer (some ⟨q, 0, none⟩)] w fun e w' => e = .returned vn ∧ w = w' := by
  go_enter Tryd.func22, Tryd.ntmps22
  go_wp2_with fail
  go_ret
  exact ⟨rfl, rfl⟩
end Go.Proofs.YtlcongehmjiabaaDoor
/- Rows of the call's own: a whole element is stored; the tail is cleared; cut short. Any program. -/
namespace Go.Proofs.YtlcongehmjiabaaDoor
open Go.RowKit

/-- stores into a row of the call's own, one behind the other: all else stays -/
theorem setCells_all (g : Nat) (t : TypeId) : ∀ (vs : List Value) (i : Nat) (cur : Array Value) (w : World), w.heap[g]? = some (.cells cur t (0, 0)) → i + vs.length ≤ cur.size →
    ∃ cur', (w.setCells g i vs).heap[g]? = some (.cells cur' t (0, 0)) ∧ cur'.size = cur.size ∧ (∀ j, j < i ∨ i + vs.length ≤ j → cur'[j]? = cur[j]?) ∧ (∀ j u, vs[j]? = some u → cur'[i + j]? = some u) ∧ Touch g w (w.setCells g i vs)
  | [], i, cur, w, hg, _ => ⟨cur, hg, rfl, fun _ _ => rfl, fun j u h => by simp at h, ⟨rfl, rfl, rfl, rfl, fun _ _ => rfl⟩⟩
  | v :: r, i, cur, w, hg, hl => by
    simp only [List.length_cons] at hl
    obtain ⟨h1, h2⟩ := touch_setCell (w := w) (i := i) (v := v) hg
    obtain ⟨cur', g1, g2, g3, g4, g5⟩ := setCells_all g t r (i + 1) _ _ h1 (by simp; omega)
    refine ⟨cur', g1, by simpa using g2, fun j hj => ?_, fun j u hu => ?_, ?_⟩
    · simp only [List.length_cons] at hj
      rw [g3 j (by omega), Array.getElem?_setIfInBounds, if_neg (by omega)]
    · cases j with
      | zero =>
        simp only [List.getElem?_cons_zero, Option.some.injEq] at hu
        subst hu
        rw [Nat.add_zero, g3 i (by omega), Array.getElem?_setIfInBounds, if_pos rfl, if_pos (by omega)]
      | succ j =>
        have := g4 j u (by simpa using hu)
        rwa [show i + 1 + j = i + (j + 1) by omega] at this
    · show Touch g w ((w.setCell ⟨g, i, none⟩ v).setCells g (i + 1) r)
      exact ⟨g5.os.trans h2.os, g5.tape.trans h2.tape, g5.output.trans h2.output, g5.size.trans h2.size, fun b hb => (g5.other b hb).trans (h2.other b hb)⟩
section
variable {α : Type} {R : Rd α} {k B : Nat} {e : TypeId} {w : World} {g n c : Nat} {l : List α}
/-- its cells may be written -/
theorem OwnAt.there (h : OwnAt R k w B e (.slice (some ⟨g, 0, none⟩) n c) l) {o m : Nat} (hm : o + m ≤ c * k) : w.there g o m := by
  obtain ⟨css, h1, h2, h3, h4⟩ := h
  rcases h3.2 with ⟨h5, _⟩ | ⟨g', cap, cur, hv, hB, hh, hle, hmx, hz, ht⟩
  · cases h5
  · cases hv
    intro j hj
    refine ⟨?_, free_block hh _⟩
    rw [cell_block hh, Array.getElem?_eq_getElem (by omega)]
    rfl
/-- a whole element is stored -/
theorem OwnAt.storeElem (hf : Flat R) (h : OwnAt R k w B e (.slice (some ⟨g, 0, none⟩) n c) l) {i : Nat} (hi : i < l.length) {cs : List Value} (hk : cs.length = k) {x : α} (hR : R w cs x) :
    OwnAt R k (w.setCells g (i * k) cs) B e (.slice (some ⟨g, 0, none⟩) n c) (l.set i x) ∧ Touch g w (w.setCells g (i * k) cs) := by
  obtain ⟨css, h1, h2, h3, h4⟩ := h
  rcases h3.2 with ⟨h5, _⟩ | ⟨g', cap, cur, hv, hB, hh, hle, hmx, hz, ht⟩
  · cases h5
  · have hlen : css.flatten.length = l.length * k := by rw [flat_len h2, h1]
    cases hv
    have hik : i * k + k ≤ l.length * k := by rw [← Nat.succ_mul]; exact Nat.mul_le_mul_right k hi
    have hlc : l.length * k ≤ c * k := Nat.mul_le_mul_right k hle
    obtain ⟨cur', g1, g2, g3, g4, g5⟩ := setCells_all g e cs (i * k) cur w hh (by rw [hk, hz]; omega)
    have hk2 : ∀ q ∈ css.set i cs, q.length = k := fun q hq => by
      rcases List.mem_or_eq_of_mem_set hq with h6 | h6
      · exact h2 q h6
      · rw [h6]; exact hk
    have hfl : ∀ t, t < l.length * k → cur'[t]? = (css.set i cs).flatten[t]? := fun t htl => by
      have hk0 : 0 < k := by
        rcases Nat.eq_zero_or_pos k with h0 | h0
        · subst h0; simp at htl
        · exact h0
      have hdm : t = t / k * k + t % k := by rw [Nat.mul_comm]; exact (Nat.div_add_mod t k).symm
      have hmod : t % k < k := Nat.mod_lt _ hk0
      have hdiv : t / k < css.length := by rw [h1]; exact (Nat.div_lt_iff_lt_mul hk0).2 htl
      by_cases hti : t / k = i
      · have hu : cs[t % k]? = some (cs[t % k]'(by omega)) := List.getElem?_eq_getElem _
        have e1 := get_flat hk2 (j := i) (i := t % k) (cs := cs) (by rw [List.getElem?_set, if_pos rfl, if_pos (by omega)]) hu
        have e2 := g4 (t % k) _ hu
        rw [← hti, ← hdm] at e2
        rw [← hti, ← hdm] at e1
        rw [hti] at e1
        rw [e2, e1]
      · have hq : css[t / k]? = some css[t / k] := List.getElem?_eq_getElem hdiv
        have hu : (css[t / k])[t % k]? = some ((css[t / k])[t % k]'(by rw [h2 _ (List.getElem_mem _)]; exact hmod)) := List.getElem?_eq_getElem _
        have e1 := get_flat hk2 (j := t / k) (i := t % k) (by rw [List.getElem?_set, if_neg (fun h => hti h.symm)]; exact hq) hu
        have e3 := get_flat h2 (j := t / k) (i := t % k) hq hu
        rw [← hdm] at e1 e3
        have hout : t < i * k ∨ i * k + cs.length ≤ t := by
          rw [hk]
          rcases Nat.lt_or_gt_of_ne hti with h7 | h7
          · left
            have : (t / k + 1) * k ≤ i * k := Nat.mul_le_mul_right k h7
            rw [Nat.succ_mul] at this; omega
          · right
            have : (i + 1) * k ≤ t / k * k := Nat.mul_le_mul_right k h7
            rw [Nat.succ_mul] at this; omega
        rw [g3 t hout, e1, ← e3, ← ht, List.getElem?_take_of_lt htl, Array.getElem?_toList]
    refine ⟨⟨css.set i cs, by simp [h1], hk2, ?_, fun j q y hq hy => ?_⟩, g5⟩
    · rw [List.length_set]
      refine ⟨by rw [flat_len hk2, List.length_set, h1], .inr ⟨g, c, cur', rfl, hB, g1, hle, hmx, by rw [g2]; exact hz, ?_⟩⟩
      apply List.ext_getElem?
      intro t
      by_cases htl : t < l.length * k
      · rw [List.getElem?_take_of_lt htl, Array.getElem?_toList, hfl t htl]
      · rw [List.getElem?_eq_none (by rw [List.length_take]; omega), List.getElem?_eq_none (by rw [flat_len hk2, List.length_set, h1]; omega)]
    · by_cases hij : i = j
      · subst hij
        rw [List.getElem?_set, if_pos rfl, if_pos (by omega)] at hq
        rw [List.getElem?_set, if_pos rfl, if_pos hi] at hy
        cases hq; cases hy
        exact hf _ _ _ _ hR
      · rw [List.getElem?_set, if_neg hij] at hq hy
        exact hf _ _ _ _ (h4 j q y hq hy)
/-- stores behind the first i; cut short there -/
theorem OwnAt.behind (hf : Flat R) (h : OwnAt R k w B e (.slice (some ⟨g, 0, none⟩) n c) l) {i : Nat} (hi : i ≤ l.length) {vs : List Value} (hvs : i * k + vs.length ≤ c * k) :
    OwnAt R k (w.setCells g (i * k) vs) B e (.slice (some ⟨g, 0, none⟩) i c) (l.take i) ∧ Touch g w (w.setCells g (i * k) vs) := by
  obtain ⟨css, h1, h2, h3, h4⟩ := h
  rcases h3.2 with ⟨h5, _⟩ | ⟨g', cap, cur, hv, hB, hh, hle, hmx, hz, ht⟩
  · cases h5
  · cases hv
    obtain ⟨cur', g1, g2, g3, g4, g5⟩ := setCells_all g e vs (i * k) cur w hh (by rw [hz]; exact hvs)
    have hik : i * k ≤ l.length * k := Nat.mul_le_mul_right k hi
    have hlk : (l.take i).length = i := by rw [List.length_take]; omega
    have hk2 : ∀ q ∈ css.take i, q.length = k := fun q hq => h2 q (List.mem_of_mem_take hq)
    have hfl : (css.take i).flatten.length = i * k := by rw [flat_len hk2, List.length_take, h1]; congr 1; omega
    have hpre : (css.take i).flatten = css.flatten.take (i * k) := by
      have h7 : css.flatten = (css.take i).flatten ++ (css.drop i).flatten := by rw [← List.flatten_append, List.take_append_drop]
      rw [h7, ← hfl, List.take_left]
    refine ⟨⟨css.take i, by rw [List.length_take, List.length_take, h1], hk2, ?_, fun j q y hq hy => ?_⟩, g5⟩
    · rw [hlk]
      refine ⟨hfl, .inr ⟨g, c, cur', rfl, hB, g1, by omega, hmx, by rw [g2]; exact hz, ?_⟩⟩
      rw [hpre, ← ht]
      apply List.ext_getElem?
      intro t
      by_cases htl : t < i * k
      · rw [List.getElem?_take_of_lt htl, Array.getElem?_toList, g3 t (.inl htl), List.getElem?_take_of_lt htl, List.getElem?_take_of_lt (by omega), Array.getElem?_toList]
      · rw [List.getElem?_eq_none (by rw [List.length_take]; omega), List.getElem?_eq_none (by rw [List.length_take]; omega)]
    · have hj : j < i := by have := (List.getElem?_eq_some_iff.1 hy).1; omega
      rw [List.getElem?_take_of_lt hj] at hq hy
      exact hf _ _ _ _ (h4 j q y hq hy)
end
/-- 'clear(s)' at elements of several cells -/
theorem run_clear_rows {P : Program} (w : World) (t e ty : TypeId) (z : Value) (ht : P.underlying t = some (.slice e)) (hv : ∀ w, (zeroValue e).run P w = .ok z w) (h1 : ∀ u ∈ z.cells, u.oneCell' = true) (b o n c : Nat) (hn : 0 < n)
    (hc : w.there b o (Builtin.zeroCells z.cells n).size) :
    (Builtin.clear_ #[t] ty #[.slice (some ⟨b, o, none⟩) n c]).run P w = .ok (.tuple #[]) (w.setCells b o (Builtin.zeroCells z.cells n).toList) := by
  have hone : ∀ u ∈ (Builtin.zeroCells z.cells n).toList, u.oneCell' = true := fun u hu => by
    unfold Builtin.zeroCells at hu
    rw [Array.toList_map] at hu
    obtain ⟨i, hi, rfl⟩ := List.mem_map.1 hu
    have hi2 : i < n * z.cells.size := by simpa using hi
    have h0 : 0 < z.cells.size := by
      rcases Nat.eq_zero_or_pos z.cells.size with h | h
      · rw [h] at hi2; simp at hi2
      · exact h
    have hlt : i % z.cells.size < z.cells.size := Nat.mod_lt _ h0
    rw [getElem!_pos z.cells _ hlt]
    exact h1 _ (Array.getElem_mem hlt)
  have hst := run_storeCells_cells (P := P) b o (Builtin.zeroCells z.cells n).toList 0 w (fun j hj => by simpa using (hc j (by simpa using hj)).1) (fun j hj => by simpa using (hc j (by simpa using hj)).2) hone
  simp only [Nat.add_zero] at hst
  obtain ⟨m, rfl⟩ : ∃ m, n = m + 1 := ⟨n - 1, by omega⟩
  simp [Builtin.clear_, run_underlying ht, hv, hst]
theorem wpList_clear_rows {P : Program} (w : World) {ops : Array Oper} {rest : List Oper} {o : Oper} {a : Act} {Q : Exit → Act → World → Prop} (hg : o.guard = none) (s : Operand) (t e : TypeId)
    (ho : o.op = .call { callee := .builtin .clear, args := #[s], argTypes := #[t] }) (z : Value) (ht : P.underlying t = some (.slice e)) (hv : ∀ w, (zeroValue e).run P w = .ok z w) (h1 : ∀ u ∈ z.cells, u.oneCell' = true) (b i n c : Nat) (hn : 0 < n)
    (hs : a.eval s = .slice (some ⟨b, i, none⟩) n c) (hc : w.there b i (Builtin.zeroCells z.cells n).size)
    (h : wpList P ops Q rest (a.put o.dst (.tuple #[])) (w.setCells b i (Builtin.zeroCells z.cells n).toList)) : wpList P ops Q (o :: rest) a w := by
  refine wpList_plain hg fun K hK' => ?_
  have hrun := run_clear_rows w t e o.type z ht hv h1 b i n c hn hc
  unfold Oper.wp
  simp [execOp, ho, resolve, invoke, builtin, hs, hrun, Result.andThen]
  exact hK' _ _ h
theorem zeroCells_size (z : Array Value) (n : Nat) : (Builtin.zeroCells z n).size = n * z.size := by simp [Builtin.zeroCells]
end Go.Proofs.YtlcongehmjiabaaDoor
/- slices.Delete at a row of values: one element. -/
namespace Go.Proofs.YtlcongehmjiabaaDoor
open Go.RowKit

theorem wpList_append_here {P : Program} (w : World) {ops : Array Oper} {rest : List Oper} {o : Oper} {a : Act} {Q : Exit → Act → World → Prop} (hg : o.guard = none) (s x : Operand) (t : TypeId)
    (ho : o.op = .call { callee := .builtin .append, args := #[s, x], argTypes := #[t, t] }) (e : TypeId) (i : TypeInfo) (ht : P.underlying t = some (.slice e)) (hi : P.info? e = some i) (h1s : i.size = 1)
    (b n c p m c2 : Nat) (hs : a.eval s = .slice (some ⟨b, 0, none⟩) n c) (hx : a.eval x = .slice (some ⟨b, p, none⟩) m c2) (news : List Value) (hl : news.length = m) (hn : ∀ j u, news[j]? = some u → w.cell? ⟨b, p + j, none⟩ = some u) (h1 : ∀ u ∈ news, u.oneCell' = true)
    (hroom : n + m ≤ c) (hc : ∀ j, j < m → (w.cell? ⟨b, n + j, none⟩).isSome = true) (hf : ∀ j, j < m → w.frozen? ⟨b, n + j, none⟩ = false)
    (h : wpList P ops Q rest (a.put o.dst (.slice (some ⟨b, 0, none⟩) (n + m) c)) (w.setCells b n news)) : wpList P ops Q (o :: rest) a w := by
  refine wpList_plain hg fun K hK' => ?_
  have hrun := run_append_room_cells (P := P) w t o.type e i ht hi b 0 n c ⟨b, p, none⟩ m c2 news (by rw [h1s, Nat.mul_one]; exact hl) (fun j u hu => by rw [add_plain']; exact hn j u hu) h1 hroom (fun j hj => by rw [h1s, Nat.mul_one, Nat.zero_add]; exact hc j (by omega)) (fun j hj => by rw [h1s, Nat.mul_one, Nat.zero_add]; exact hf j (by omega))
  rw [h1s, Nat.mul_one, Nat.zero_add] at hrun
  unfold Oper.wp
  simp [execOp, ho, resolve, invoke, builtin, hs, hx, hrun, Result.andThen]
  exact hK' _ _ h
set_option maxRecDepth 100000 in
set_option maxHeartbeats 3200000 in
theorem delVal_any (v : Value) (xs : List Value) (B i : Nat) (w : World) (h : OwnAt RVal 1 w B 32 v xs) (hi : i < xs.length) (hl : xs.length ≤ 1048576) :
    Calls Tryd.prog 48 #[v, .int .i64 (i : Int), .int .i64 ((i : Int) + 1)] w fun e w' => ∃ g c, v = .slice (some ⟨g, 0, none⟩) xs.length c ∧ B ≤ g ∧ e = .returned (.slice (some ⟨g, 0, none⟩) (xs.length - 1) c) ∧ OwnAt RVal 1 w' B 32 (.slice (some ⟨g, 0, none⟩) (xs.length - 1) c) (xs.eraseIdx i) ∧ Touch g w w' := by
  obtain ⟨i0, hi0, hz0, hz1, hz2⟩ := info_parts Tryd.infoVal
  have h1c := h.ones
  have ho := own_raw h
  rcases ho.2 with ⟨_, h0⟩ | ⟨g, c, cur, rfl, hB, hh, hlc, hc, hcs, htk⟩
  · omega
  have hcur : ∀ (j : Nat) (y : Value), xs[j]? = some y → cur[j]? = some y := fun j y hy => by
    have := ho.cells (g := g) rfl j y hy
    rw [add_plain', Nat.zero_add, cell_block hh] at this
    exact this
  obtain ⟨n, hn⟩ : ∃ n, xs.length = n := ⟨_, rfl⟩
  obtain ⟨m, hm⟩ : ∃ m, n - (i + 1) = m := ⟨_, rfl⟩
  have Hn := Lib.hid hn
  have Hh := Lib.hid hh
  have Hcur := Lib.hid hcur
  have H1 := Lib.hid h1c
  have Hcs := Lib.hid hcs
  have hin : i < n := by omega
  have him : i + m + 1 ≤ n := by omega
  have him2 : n ≤ i + m + 1 := by omega
  have hnc : n ≤ c := by rw [← hn]; exact hlc
  have hcm : c ≤ 9223372036854775807 := by unfold maxLen at hc; omega
  have hn2 : n ≤ 1048576 := by omega
  rw [hn]
  have q1 : (0 : Int) ≤ (i : Int) := by omega
  have q2 : (i : Int) ≤ (i : Int) + 1 := by omega
  have q3 : (i : Int) + 1 ≤ (n : Int) := by omega
  have q4 : (n : Int) ≤ (c : Int) := by omega
  have q5 : (0 : Int) ≤ (i : Int) + 1 := by omega
  have q6 : ((i : Int) + 1).toNat = i + 1 := by omega
  have q7 : ((i : Int) == (i : Int) + 1) = false := by rw [beq_eq_false_iff_ne]; omega
  have q8 : (i : Int) ≤ (c : Int) := by omega
  clear h ho hcur h1c hh hn hl hi htk hlc
  go_enter Tryd.func48, Tryd.ntmps48
  go_upto_region 5 with fail
  refine wp_region_hold 6 (fun w' => ∃ q, w' = w.drewN q) (by kernel_rfl) (by kernel_rfl) ?_ ?_
  · exact ⟨1, rfl⟩
  simp only [List.take_succ_cons, List.take_zero, List.drop_succ_cons, List.drop_zero]
  (first | (refine wpHold_pure (v := ?_) (by rfl) (fun w => ?_) ?_; rotate_left; focus (first | (go_simp; done) | (go_simp; with_reducible rfl))) | (refine wpHold_skip ?_ ?_; focus (go_simp; done)) | (refine wpHold_pure' (v := ?_) ?_ (fun w => ?_) ?_; rotate_left; focus (go_simp; done); focus (first | (go_simp; done) | (go_simp; with_reducible rfl)))); try simp only [Act.put, List.setIfInBounds_toArray, List.set_cons_zero, List.set_cons_succ]
  (first | (refine wpHold_pure (v := ?_) (by rfl) (fun w => ?_) ?_; rotate_left; focus (first | (go_simp; done) | (go_simp; with_reducible rfl))) | (refine wpHold_skip ?_ ?_; focus (go_simp; done)) | (refine wpHold_pure' (v := ?_) ?_ (fun w => ?_) ?_; rotate_left; focus (go_simp; done); focus (first | (go_simp; done) | (go_simp; with_reducible rfl)))); try simp only [Act.put, List.setIfInBounds_toArray, List.set_cons_zero, List.set_cons_succ]
  refine wpHold_pure (v := .slice (some ⟨g, 0, none⟩) i c) (by rfl) (fun w => ?_) ?_
  · go_simp
    done
  try simp only [Act.put, List.setIfInBounds_toArray, List.set_cons_zero, List.set_cons_succ]
  (first | (refine wpHold_pure (v := ?_) (by rfl) (fun w => ?_) ?_; rotate_left; focus (first | (go_simp; done) | (go_simp; with_reducible rfl))) | (refine wpHold_skip ?_ ?_; focus (go_simp; done)) | (refine wpHold_pure' (v := ?_) ?_ (fun w => ?_) ?_; rotate_left; focus (go_simp; done); focus (first | (go_simp; done) | (go_simp; with_reducible rfl)))); try simp only [Act.put, List.setIfInBounds_toArray, List.set_cons_zero, List.set_cons_succ]
  (first | (refine wpHold_pure (v := ?_) (by rfl) (fun w => ?_) ?_; rotate_left; focus (first | (go_simp; done) | (go_simp; with_reducible rfl))) | (refine wpHold_skip ?_ ?_; focus (go_simp; done)) | (refine wpHold_pure' (v := ?_) ?_ (fun w => ?_) ?_; rotate_left; focus (go_simp; done); focus (first | (go_simp; done) | (go_simp; with_reducible rfl)))); try simp only [Act.put, List.setIfInBounds_toArray, List.set_cons_zero, List.set_cons_succ]
  obtain ⟨p, hp⟩ : ∃ p, (c = i + 1 ∧ p = 0) ∨ (c ≠ i + 1 ∧ p = i + 1) := by
    by_cases h : c = i + 1
    · exact ⟨0, .inl ⟨h, rfl⟩⟩
    · exact ⟨i + 1, .inr ⟨h, rfl⟩⟩
  refine wpHold_pure (v := .slice (some ⟨g, p, none⟩) m (c - (i + 1))) (by rfl) (fun w => ?_) ?_
  · rcases hp with ⟨h1, rfl⟩ | ⟨h1, rfl⟩
    · have h2 : n = i + 1 := by omega
      rw [← hm]
      go_simp
    · rw [← hm]
      go_simp
  try simp only [Act.put, List.setIfInBounds_toArray, List.set_cons_zero, List.set_cons_succ]
  refine wpHold_nil ?_
  rintro w' ⟨q, rfl⟩
  try simp only [Act.put, List.setIfInBounds_toArray, List.set_cons_zero, List.set_cons_succ]
  have hml : (xs.drop (i + 1)).length = m := by rw [List.length_drop, Hn.out]; exact hm
  have Hml := Lib.hid hml
  have hnews : ∀ (j : Nat) (u : Value), (xs.drop (i + 1))[j]? = some u → (w.drewN q).cell? ⟨g, p + j, none⟩ = some u := fun j u hu => by
    have hj : j < m := by have := (List.getElem?_eq_some_iff.1 hu).1; omega
    rcases hp with ⟨h1, _⟩ | ⟨_, rfl⟩
    · omega
    · rw [List.getElem?_drop] at hu
      exact (cell_block (w := w.drewN q) Hh.out (i + 1 + j)).trans (Hcur.out _ _ hu)
  have hth : ∀ j, j < m → ((w.drewN q).cell? ⟨g, i + j, none⟩).isSome = true ∧ (w.drewN q).frozen? ⟨g, i + j, none⟩ = false := fun j hj => by
    refine ⟨?_, free_block (w := w.drewN q) Hh.out _⟩
    rw [cell_block (w := w.drewN q) Hh.out, Array.getElem?_eq_getElem (by rw [Hcs.out]; omega)]
    rfl
  have Hnews := Lib.hid hnews
  have Hth := Lib.hid hth
  clear hnews hth hml hp
  obtain ⟨k, hk⟩ : ∃ k, i + m = k := ⟨_, rfl⟩
  have Hk := Lib.hid hk
  have hkn : k + 1 ≤ n := by omega
  have hkn2 : n ≤ k + 1 := by omega
  refine (wpList_append_here _ (by rfl) _ _ _ (by rfl) 32 i0 Tryd.underlying54 hi0 hz1 g i c p m (c - (i + 1)) (by rfl) (by rfl) (xs.drop (i + 1)) Hml.out Hnews.out (fun u hu => H1.out u (List.mem_of_mem_drop hu)) (by omega) (fun j hj => (Hth.out j hj).1) (fun j hj => (Hth.out j hj).2) ?_)
  obtain ⟨cur2, k1, k2, k3, k4, k5⟩ := setCells_all g 32 (xs.drop (i + 1)) i cur (w.drewN q) Hh.out (by rw [Hml.out, Hcs.out]; omega)
  rw [Hml.out, hk] at k3
  rw [hk]
  generalize hW : World.setCells (w.drewN q) g i (xs.drop (i + 1)) = W at k1 k5 ⊢
  have K1 := Lib.hid k1
  have K2 := Lib.hid k2
  have K3 := Lib.hid k3
  have K4 := Lib.hid k4
  have K5 : Hid (Touch g w W) := Lib.hid ⟨k5.os, k5.tape, k5.output, k5.size, k5.other⟩
  clear hW k1 k2 k3 k4 k5 hk
  have r1 : (0 : Int) ≤ (k : Int) := by omega
  have r2 : (k : Int) ≤ (n : Int) := by omega
  have r3 : ¬ c = k := by omega
  go_upto_region 6 with fail
  iterate 16 go_step
  have hzs : (Builtin.zeroCells (Value.nilIface).cells (n - k)).size = n - k := (zeroCells_size _ _).trans (Nat.mul_one _)
  have hthere : W.there g k (Builtin.zeroCells (Value.nilIface).cells (n - k)).size := fun j hj => by
    refine ⟨?_, free_block K1.out _⟩
    rw [cell_block K1.out, Array.getElem?_eq_getElem (by rw [K2.out, Hcs.out]; omega)]
    rfl
  have Hthere := Lib.hid hthere
  have Hzs := Lib.hid hzs
  clear hthere hzs
  refine wpList_clear_rows W (by rfl) _ _ 32 (by rfl) .nilIface Tryd.underlying54 Tryd.zeroValue32 (by simp [Value.cells, Value.oneCell']) g k (n - k) (c - k) (by omega) (by rfl) Hthere.out ?_
  obtain ⟨cur3, k1, k2, k3, k4, k5⟩ := setCells_all g 32 (Builtin.zeroCells (Value.nilIface).cells (n - k)).toList k cur2 W K1.out (by rw [Array.length_toList, Hzs.out, K2.out, Hcs.out]; omega)
  generalize hW : World.setCells W g k _ = W2 at k1 k5 ⊢
  have L1 := Lib.hid k1
  have L2 := Lib.hid k2
  have L3 := Lib.hid k3
  have L5 : Hid (Touch g w W2) := Lib.hid ⟨k5.os.trans K5.out.os, k5.tape.trans K5.out.tape, k5.output.trans K5.out.output, k5.size.trans K5.out.size, fun b hb => (k5.other b hb).trans (K5.out.other b hb)⟩
  clear hW k1 k2 k3 k4 k5
  go_wp2_with fail
  go_ret
  have hel : (xs.eraseIdx i).length = k := by rw [List.length_eraseIdx_of_lt (by rw [Hn.out]; exact hin), Hn.out]; omega
  have hnk : n - 1 = k := by omega
  refine ⟨g, c, rfl, hB, by rw [hnk] <;> rfl, ?_, L5.out⟩
  rw [hnk]
  have hres := own_of_cells (xs := xs.eraseIdx i) (B := B) (c := c) L1.out hB (by rw [hel]; omega) hc (by rw [L2.out, K2.out, Hcs.out, Nat.mul_one]) (fun j u hu => ?_) (fun u hu => H1.out u (List.mem_of_mem_eraseIdx hu))
  · rw [hel] at hres
    exact hres
  · have hjk : j < k := by rw [← hel]; exact (List.getElem?_eq_some_iff.1 hu).1
    rw [L3.out j (.inl hjk)]
    rw [List.getElem?_eraseIdx] at hu
    by_cases hji : j < i
    · rw [if_pos hji] at hu
      rw [K3.out j (.inl hji)]
      exact Hcur.out j u hu
    · rw [if_neg hji] at hu
      have := K4.out (j - i) u (by rw [List.getElem?_drop, show i + 1 + (j - i) = j + 1 by omega]; exact hu)
      rw [show i + (j - i) = j by omega] at this
      exact this
end Go.Proofs.YtlcongehmjiabaaDoor
/- slices.Delete at a row of texts, as their cells: one element. -/
namespace Go.Proofs.YtlcongehmjiabaaDoor
open Go.RowKit

set_option maxRecDepth 100000 in
set_option maxHeartbeats 3200000 in
theorem delStr_any (v : Value) (xs : List Value) (B i : Nat) (w : World) (h : OwnAt RVal 1 w B 9 v xs) (hi : i < xs.length) (hl : xs.length ≤ 1048576) :
    Calls Tryd.prog 47 #[v, .int .i64 (i : Int), .int .i64 ((i : Int) + 1)] w fun e w' => ∃ g c, v = .slice (some ⟨g, 0, none⟩) xs.length c ∧ B ≤ g ∧ e = .returned (.slice (some ⟨g, 0, none⟩) (xs.length - 1) c) ∧ OwnAt RVal 1 w' B 9 (.slice (some ⟨g, 0, none⟩) (xs.length - 1) c) (xs.eraseIdx i) ∧ Touch g w w' := by
  obtain ⟨i0, hi0, hz0, hz1, hz2⟩ := info_parts Tryd.infoStr
  have h1c := h.ones
  have ho := own_raw h
  rcases ho.2 with ⟨_, h0⟩ | ⟨g, c, cur, rfl, hB, hh, hlc, hc, hcs, htk⟩
  · omega
  have hcur : ∀ (j : Nat) (y : Value), xs[j]? = some y → cur[j]? = some y := fun j y hy => by
    have := ho.cells (g := g) rfl j y hy
    rw [add_plain', Nat.zero_add, cell_block hh] at this
    exact this
  obtain ⟨n, hn⟩ : ∃ n, xs.length = n := ⟨_, rfl⟩
  obtain ⟨m, hm⟩ : ∃ m, n - (i + 1) = m := ⟨_, rfl⟩
  have Hn := Lib.hid hn
  have Hh := Lib.hid hh
  have Hcur := Lib.hid hcur
  have H1 := Lib.hid h1c
  have Hcs := Lib.hid hcs
  have hin : i < n := by omega
  have him : i + m + 1 ≤ n := by omega
  have him2 : n ≤ i + m + 1 := by omega
  have hnc : n ≤ c := by rw [← hn]; exact hlc
  have hcm : c ≤ 9223372036854775807 := by unfold maxLen at hc; omega
  have hn2 : n ≤ 1048576 := by omega
  rw [hn]
  have q1 : (0 : Int) ≤ (i : Int) := by omega
  have q2 : (i : Int) ≤ (i : Int) + 1 := by omega
  have q3 : (i : Int) + 1 ≤ (n : Int) := by omega
  have q4 : (n : Int) ≤ (c : Int) := by omega
  have q5 : (0 : Int) ≤ (i : Int) + 1 := by omega
  have q6 : ((i : Int) + 1).toNat = i + 1 := by omega
  have q7 : ((i : Int) == (i : Int) + 1) = false := by rw [beq_eq_false_iff_ne]; omega
  have q8 : (i : Int) ≤ (c : Int) := by omega
  clear h ho hcur h1c hh hn hl hi htk hlc
  go_enter Tryd.func47, Tryd.ntmps47
  go_upto_region 5 with fail
  refine wp_region_hold 6 (fun w' => ∃ q, w' = w.drewN q) (by kernel_rfl) (by kernel_rfl) ?_ ?_
  · exact ⟨1, rfl⟩
  simp only [List.take_succ_cons, List.take_zero, List.drop_succ_cons, List.drop_zero]
  (first | (refine wpHold_pure (v := ?_) (by rfl) (fun w => ?_) ?_; rotate_left; focus (first | (go_simp; done) | (go_simp; with_reducible rfl))) | (refine wpHold_skip ?_ ?_; focus (go_simp; done)) | (refine wpHold_pure' (v := ?_) ?_ (fun w => ?_) ?_; rotate_left; focus (go_simp; done); focus (first | (go_simp; done) | (go_simp; with_reducible rfl)))); try simp only [Act.put, List.setIfInBounds_toArray, List.set_cons_zero, List.set_cons_succ]
  (first | (refine wpHold_pure (v := ?_) (by rfl) (fun w => ?_) ?_; rotate_left; focus (first | (go_simp; done) | (go_simp; with_reducible rfl))) | (refine wpHold_skip ?_ ?_; focus (go_simp; done)) | (refine wpHold_pure' (v := ?_) ?_ (fun w => ?_) ?_; rotate_left; focus (go_simp; done); focus (first | (go_simp; done) | (go_simp; with_reducible rfl)))); try simp only [Act.put, List.setIfInBounds_toArray, List.set_cons_zero, List.set_cons_succ]
  refine wpHold_pure (v := .slice (some ⟨g, 0, none⟩) i c) (by rfl) (fun w => ?_) ?_
  · go_simp
    done
  try simp only [Act.put, List.setIfInBounds_toArray, List.set_cons_zero, List.set_cons_succ]
  (first | (refine wpHold_pure (v := ?_) (by rfl) (fun w => ?_) ?_; rotate_left; focus (first | (go_simp; done) | (go_simp; with_reducible rfl))) | (refine wpHold_skip ?_ ?_; focus (go_simp; done)) | (refine wpHold_pure' (v := ?_) ?_ (fun w => ?_) ?_; rotate_left; focus (go_simp; done); focus (first | (go_simp; done) | (go_simp; with_reducible rfl)))); try simp only [Act.put, List.setIfInBounds_toArray, List.set_cons_zero, List.set_cons_succ]
  (first | (refine wpHold_pure (v := ?_) (by rfl) (fun w => ?_) ?_; rotate_left; focus (first | (go_simp; done) | (go_simp; with_reducible rfl))) | (refine wpHold_skip ?_ ?_; focus (go_simp; done)) | (refine wpHold_pure' (v := ?_) ?_ (fun w => ?_) ?_; rotate_left; focus (go_simp; done); focus (first | (go_simp; done) | (go_simp; with_reducible rfl)))); try simp only [Act.put, List.setIfInBounds_toArray, List.set_cons_zero, List.set_cons_succ]
  obtain ⟨p, hp⟩ : ∃ p, (c = i + 1 ∧ p = 0) ∨ (c ≠ i + 1 ∧ p = i + 1) := by
    by_cases h : c = i + 1
    · exact ⟨0, .inl ⟨h, rfl⟩⟩
    · exact ⟨i + 1, .inr ⟨h, rfl⟩⟩
  refine wpHold_pure (v := .slice (some ⟨g, p, none⟩) m (c - (i + 1))) (by rfl) (fun w => ?_) ?_
  · rcases hp with ⟨h1, rfl⟩ | ⟨h1, rfl⟩
    · have h2 : n = i + 1 := by omega
      rw [← hm]
      go_simp
    · rw [← hm]
      go_simp
  try simp only [Act.put, List.setIfInBounds_toArray, List.set_cons_zero, List.set_cons_succ]
  refine wpHold_nil ?_
  rintro w' ⟨q, rfl⟩
  try simp only [Act.put, List.setIfInBounds_toArray, List.set_cons_zero, List.set_cons_succ]
  have hml : (xs.drop (i + 1)).length = m := by rw [List.length_drop, Hn.out]; exact hm
  have Hml := Lib.hid hml
  have hnews : ∀ (j : Nat) (u : Value), (xs.drop (i + 1))[j]? = some u → (w.drewN q).cell? ⟨g, p + j, none⟩ = some u := fun j u hu => by
    have hj : j < m := by have := (List.getElem?_eq_some_iff.1 hu).1; omega
    rcases hp with ⟨h1, _⟩ | ⟨_, rfl⟩
    · omega
    · rw [List.getElem?_drop] at hu
      exact (cell_block (w := w.drewN q) Hh.out (i + 1 + j)).trans (Hcur.out _ _ hu)
  have hth : ∀ j, j < m → ((w.drewN q).cell? ⟨g, i + j, none⟩).isSome = true ∧ (w.drewN q).frozen? ⟨g, i + j, none⟩ = false := fun j hj => by
    refine ⟨?_, free_block (w := w.drewN q) Hh.out _⟩
    rw [cell_block (w := w.drewN q) Hh.out, Array.getElem?_eq_getElem (by rw [Hcs.out]; omega)]
    rfl
  have Hnews := Lib.hid hnews
  have Hth := Lib.hid hth
  clear hnews hth hml hp
  obtain ⟨k, hk⟩ : ∃ k, i + m = k := ⟨_, rfl⟩
  have Hk := Lib.hid hk
  have hkn : k + 1 ≤ n := by omega
  have hkn2 : n ≤ k + 1 := by omega
  refine (wpList_append_here _ (by rfl) _ _ _ (by rfl) 9 i0 Tryd.underlying45 hi0 hz1 g i c p m (c - (i + 1)) (by rfl) (by rfl) (xs.drop (i + 1)) Hml.out Hnews.out (fun u hu => H1.out u (List.mem_of_mem_drop hu)) (by omega) (fun j hj => (Hth.out j hj).1) (fun j hj => (Hth.out j hj).2) ?_)
  obtain ⟨cur2, k1, k2, k3, k4, k5⟩ := setCells_all g 9 (xs.drop (i + 1)) i cur (w.drewN q) Hh.out (by rw [Hml.out, Hcs.out]; omega)
  rw [Hml.out, hk] at k3
  rw [hk]
  generalize hW : World.setCells (w.drewN q) g i (xs.drop (i + 1)) = W at k1 k5 ⊢
  have K1 := Lib.hid k1
  have K2 := Lib.hid k2
  have K3 := Lib.hid k3
  have K4 := Lib.hid k4
  have K5 : Hid (Touch g w W) := Lib.hid ⟨k5.os, k5.tape, k5.output, k5.size, k5.other⟩
  clear hW k1 k2 k3 k4 k5 hk
  have r1 : (0 : Int) ≤ (k : Int) := by omega
  have r2 : (k : Int) ≤ (n : Int) := by omega
  have r3 : ¬ c = k := by omega
  go_upto_region 6 with fail
  iterate 16 go_step
  have hzs : (Builtin.zeroCells (Value.string ByteArray.empty).cells (n - k)).size = n - k := (zeroCells_size _ _).trans (Nat.mul_one _)
  have hthere : W.there g k (Builtin.zeroCells (Value.string ByteArray.empty).cells (n - k)).size := fun j hj => by
    refine ⟨?_, free_block K1.out _⟩
    rw [cell_block K1.out, Array.getElem?_eq_getElem (by rw [K2.out, Hcs.out]; omega)]
    rfl
  have Hthere := Lib.hid hthere
  have Hzs := Lib.hid hzs
  clear hthere hzs
  refine wpList_clear_rows W (by rfl) _ _ 9 (by rfl) (.string ByteArray.empty) Tryd.underlying45 Tryd.zeroValue9 (by simp [Value.cells, Value.oneCell']) g k (n - k) (c - k) (by omega) (by rfl) Hthere.out ?_
  obtain ⟨cur3, k1, k2, k3, k4, k5⟩ := setCells_all g 9 (Builtin.zeroCells (Value.string ByteArray.empty).cells (n - k)).toList k cur2 W K1.out (by rw [Array.length_toList, Hzs.out, K2.out, Hcs.out]; omega)
  generalize hW : World.setCells W g k _ = W2 at k1 k5 ⊢
  have L1 := Lib.hid k1
  have L2 := Lib.hid k2
  have L3 := Lib.hid k3
  have L5 : Hid (Touch g w W2) := Lib.hid ⟨k5.os.trans K5.out.os, k5.tape.trans K5.out.tape, k5.output.trans K5.out.output, k5.size.trans K5.out.size, fun b hb => (k5.other b hb).trans (K5.out.other b hb)⟩
  clear hW k1 k2 k3 k4 k5
  go_wp2_with fail
  go_ret
  have hel : (xs.eraseIdx i).length = k := by rw [List.length_eraseIdx_of_lt (by rw [Hn.out]; exact hin), Hn.out]; omega
  have hnk : n - 1 = k := by omega
  refine ⟨g, c, rfl, hB, by rw [hnk] <;> rfl, ?_, L5.out⟩
  rw [hnk]
  have hres := own_of_cells (xs := xs.eraseIdx i) (B := B) (c := c) L1.out hB (by rw [hel]; omega) hc (by rw [L2.out, K2.out, Hcs.out, Nat.mul_one]) (fun j u hu => ?_) (fun u hu => H1.out u (List.mem_of_mem_eraseIdx hu))
  · rw [hel] at hres
    exact hres
  · have hjk : j < k := by rw [← hel]; exact (List.getElem?_eq_some_iff.1 hu).1
    rw [L3.out j (.inl hjk)]
    rw [List.getElem?_eraseIdx] at hu
    by_cases hji : j < i
    · rw [if_pos hji] at hu
      rw [K3.out j (.inl hji)]
      exact Hcur.out j u hu
    · rw [if_neg hji] at hu
      have := K4.out (j - i) u (by rw [List.getElem?_drop, show i + 1 + (j - i) = j + 1 by omega]; exact hu)
      rw [show i + (j - i) = j by omega] at this
      exact this
end Go.Proofs.YtlcongehmjiabaaDoor
/- json: (*Object).Without: its contract. -/
namespace Go.Proofs.YtlcongehmjiabaaDoor
open Go.RowKit
open JP (JV Bs)

theorem del_same {w w' : World} {B : Nat} {e : TypeId} {v : Value} {xs : List Value} {g n c : Nat} (h : OwnAt RVal 1 w B e v xs) (hv : v = .slice (some ⟨g, 0, none⟩) n c) (hB : B ≤ g) (ht : Touch g w w') (_hs : B ≤ w.heap.size) : SameBut e w w' ∧ Below B w w' := by
  refine ⟨fun b cur e' fr hb hne => (ht.other b fun eq => ?_).trans hb, ht.below (Below.refl _ _) hB⟩
  obtain ⟨_, _, cur', k⟩ := h.at (g := g) (by rw [hv]; rfl)
  rw [eq, k] at hb
  injection hb with hb
  injection hb with _ hb
  exact hne hb.symm
theorem cut_none {x : Bs} : ∀ {d : List (Bs × JV)}, JP.get x d = none → JP.cut x d = d
  | [], _ => rfl
  | (m, y) :: r, h => by
    unfold JP.get at h
    by_cases hm : m = x
    · rw [if_pos hm] at h; cases h
    · rw [if_neg hm] at h
      unfold JP.cut
      rw [List.filter_cons_of_pos (by simpa using hm)]
      exact congrArg _ (cut_none h)
theorem cut_at {x : Bs} : ∀ {d : List (Bs × JV)} {p : Nat} {y : JV}, JP.Srt d → d[p]? = some (x, y) → JP.cut x d = d.eraseIdx p
  | [], _, _, _, h => by simp at h
  | (m, z) :: r, 0, y, hs, h => by
    simp only [List.getElem?_cons_zero, Option.some.injEq] at h
    cases h
    obtain ⟨h1, _⟩ := List.pairwise_cons.1 hs
    unfold JP.cut
    rw [List.filter_cons_of_neg (by simp), List.eraseIdx_cons_zero, List.filter_eq_self]
    intro a ha
    have := h1 a ha
    rw [bne_iff_ne]
    intro e
    rw [e] at this
    exact List.lt_irrefl _ this
  | (m, z) :: r, p + 1, y, hs, h => by
    obtain ⟨h1, h2⟩ := List.pairwise_cons.1 hs
    rw [List.getElem?_cons_succ] at h
    have hlt := h1 (x, y) (List.mem_of_getElem? h)
    have ih := cut_at h2 h
    unfold JP.cut at ih ⊢
    rw [List.filter_cons_of_pos (by
      rw [bne_iff_ne]
      intro e
      rw [e] at hlt
      exact List.lt_irrefl _ hlt), ih, List.eraseIdx_cons_succ]
theorem cut_srt {x : Bs} {d : List (Bs × JV)} (h : JP.Srt d) : JP.Srt (JP.cut x d) := List.Pairwise.sublist (List.filter_sublist) h
theorem map_erase {α β : Type} (f : α → β) (l : List α) (p : Nat) : (l.eraseIdx p).map f = (l.map f).eraseIdx p := by
  apply List.ext_getElem?
  intro j
  rw [List.getElem?_map, List.getElem?_eraseIdx, List.getElem?_eraseIdx]
  split <;> rw [List.getElem?_map]
theorem pairs_erase {α : Type} {xs : List Value} {l : List α} {P : Value → α → Prop} (h : ∀ (j : Nat) (u : Value) (x : α), xs[j]? = some u → l[j]? = some x → P u x) (p : Nat) :
    ∀ (j : Nat) (u : Value) (x : α), (xs.eraseIdx p)[j]? = some u → (l.eraseIdx p)[j]? = some x → P u x := fun j u x hu hx => by
  rw [List.getElem?_eraseIdx] at hu hx
  by_cases hj : j < p
  · rw [if_pos hj] at hu hx; exact h j u x hu hx
  · rw [if_neg hj] at hu hx; exact h (j + 1) u x hu hx
set_option maxRecDepth 100000 in
set_option maxHeartbeats 6400000 in
theorem without_any {n : Nat} {T : List Nat} {q : Nat} {d : List (Bs × JV)} {x : Bs} {w : World} (h : ObR (JvR n T) T w q d) (hT : ∀ b ∈ T, b < w.heap.size) (hl : d.length ≤ 1048575) :
    Calls Tryd.prog 28 #[.pointer (some ⟨q, 0, none⟩), .string (mkB x)] w fun e w' => ∃ q', e = .returned (.pointer (some ⟨q', 0, none⟩)) ∧ ObR (JvR n T) T w' q' (JP.cut x d) ∧ Below w.heap.size w w' := by
  have hob := h
  obtain ⟨hqT, hs, vn, vv, cn, cv, hrn, hon, hrv, hov⟩ := h
  have HS := Lib.hid (search_any (x := x) hs hrn (by omega))
  have hsp := cut_srt (x := x) hs
  have hF := JP.find_spec (n := x) hs
  obtain ⟨xs, hxl, hxr, hxR⟩ := hrn.raw one_string
  obtain ⟨ys, hyl, hyr, hyR⟩ := hrv.raw (one_jv n T)
  rw [List.length_map] at hxl hyl
  obtain ⟨an, c1, hu1, _, _⟩ := hrn.len
  obtain ⟨av, c2, hu2, _, _⟩ := hrv.len
  obtain ⟨ln, hln⟩ : ∃ n, (d.map fun y => mkB y.1).length = n := ⟨_, rfl⟩
  obtain ⟨lv, hlv⟩ : ∃ n, (d.map (·.2)).length = n := ⟨_, rfl⟩
  rw [hln] at hu1
  rw [hlv] at hu2
  subst hu1
  subst hu2
  clear hln hlv
  have hqw : q < w.heap.size := World.block_lt_of_cell? w ⟨q, 0, none⟩ cn
  rcases hF with ⟨y0, hy0, hg, _⟩ | ⟨_, hg, _⟩
  · have hcut := cut_at hs hy0
    rw [hg] at HS
    have hpn : (JP.cut x d).map (fun z => mkB z.1) = (d.map fun z => mkB z.1).eraseIdx (JP.pos x d) := by rw [hcut]; exact map_erase _ _ _
    have hpv : (JP.cut x d).map (·.2) = (d.map (·.2)).eraseIdx (JP.pos x d) := by rw [hcut]; exact map_erase _ _ _
    have hlt : JP.pos x d < d.length := (List.getElem?_eq_some_iff.1 hy0).1
    obtain ⟨D, hD⟩ : ∃ D, JP.cut x d = D := ⟨_, rfl⟩
    rw [hD] at hpn hpv hsp ⊢
    obtain ⟨p, hp⟩ : ∃ p, JP.pos x d = p := ⟨_, rfl⟩
    rw [hp] at HS hpn hpv hlt
    have HC1 := Lib.hid (fun w' (hb : Below w.heap.size w w') => cloneStr_any (.slice an ln c1) xs w' (hxr.below stays_val hb) (by omega))
    have HC2 := Lib.hid (fun w' (hb : Below w.heap.size w w') => cloneVal_any (.slice av lv c2) ys w' (hyr.below stays_val hb) (by omega))
    have hfin : ∀ w' (q' : Nat) (v8 v9 : Value), KeepT T w w' → q' ∉ T → w'.cell? ⟨q', 0, none⟩ = some v8 → w'.cell? ⟨q', 1, none⟩ = some v9 → RowAt RVal 1 w' v8 (xs.eraseIdx p) → OffT T v8 D → RowAt RVal 1 w' v9 (ys.eraseIdx p) → OffT T v9 D → ObR (JvR n T) T w' q' D := fun w' q' v8 v9 hk hq' k0 k1 hr8 ho8 hr9 ho9 => by
      refine ⟨hq', hsp, v8, v9, k0, k1, ?_, ho8, ?_, ho9⟩
      · rw [hpn]
        refine hr8.ofRaw (by rw [List.length_eraseIdx_of_lt (by omega), List.length_eraseIdx_of_lt (by rw [List.length_map]; omega), List.length_map]; omega) fun j u z hu hz => ?_
        have := pairs_erase (P := fun u z => u = .string z) (strs_raw hxR) p j u z hu hz
        rw [this]; rfl
      · rw [hpv]
        refine hr9.ofRaw (by rw [List.length_eraseIdx_of_lt (by omega), List.length_eraseIdx_of_lt (by rw [List.length_map]; omega), List.length_map]; omega) fun j u z hu hz => ?_
        obtain ⟨v1, e1, h1⟩ := pairs_erase (P := fun u z => JvR n T w [u] z) hyR p j u z hu hz
        exact ⟨v1, e1, h1.keepT hk⟩
    have Hfin := Lib.hid hfin
    have HT := Lib.hid hT
    have hxp : p < xs.length := by omega
    have hyp : p < ys.length := by omega
    have hxs : xs.length ≤ 1048576 := by omega
    have hys : ys.length ≤ 1048576 := by omega
    have hpw : IntKind.i64.wrap ((p : Int) + 1) = (p : Int) + 1 := IntWalk.i64_in _ (by omega)
    clear hg hfin hT hrn hrv hxr hyr hxR hyR hon hov hpn hpv hD hsp hs hxl hyl hp hob hcut hy0 hlt
    go_enter Tryd.func28, Tryd.ntmps28
    go_wp2_with fail
    refine HS.out.mono ?_
    rintro E w1 ⟨rfl, k, rfl⟩
    have Hb1 : Hid (Below w.heap.size w (w.drewN k)) := Lib.hid ((below_drewN0 w k))
    go_upto_region 4 with fail
    refine wp_region_relY 20 (fun w' => Below w.heap.size (w.drewN k) w') (fun i wa wb => if i = 8 then SameBut 9 wa wb ∧ Below w.heap.size wa wb else (if i = 17 then SameBut 32 wa wb ∧ Below w.heap.size wa wb else Below wa.heap.size wa wb)) (fun ii U w' => match ii with
      | 0 => U 0 = .pointer (some ⟨q, 0, none⟩)
      | 1 => U 1 = .pointer (some ⟨q, 0, none⟩)
      | 2 => U 2 = .pointer (some ⟨q, 0, none⟩)
      | 3 => U 3 = .slice an ln c1
      | 4 => OwnAt RVal 1 w' w.heap.size 9 (U 4) xs
      | 5 => U 5 = .int .i64 (p : Int)
      | 6 => U 6 = .int .i64 (p : Int)
      | 7 => U 7 = .int .i64 ((p : Int) + 1)
      | 8 => OwnAt RVal 1 w' w.heap.size 9 (U 8) (xs.eraseIdx p)
      | 9 => U 9 = .pointer (some ⟨q, 0, none⟩)
      | 10 => U 10 = .pointer (some ⟨q, 0, none⟩)
      | 11 => U 11 = .pointer (some ⟨q, 1, none⟩)
      | 12 => U 12 = .slice av lv c2
      | 13 => OwnAt RVal 1 w' w.heap.size 32 (U 13) ys
      | 14 => U 14 = .int .i64 (p : Int)
      | 15 => U 15 = .int .i64 (p : Int)
      | 16 => U 16 = .int .i64 ((p : Int) + 1)
      | 17 => OwnAt RVal 1 w' w.heap.size 32 (U 17) (ys.eraseIdx p)
      | 18 => U 18 = .agg #[U 8, U 17]
      | 19 => ∃ g, U 19 = .pointer (some ⟨g, 0, none⟩) ∧ w.heap.size ≤ g ∧ w'.heap[g]? = some (.cells #[U 8, U 17] 56 (0, 0))
      | _ => True)
      (fun | 1 => [0] | 2 => [1] | 3 => [2] | 4 => [3] | 7 => [6] | 8 => [4, 5, 7] | 10 => [9] | 11 => [10] | 12 => [11] | 13 => [12] | 16 => [15] | 17 => [13, 14, 16] | 18 => [8, 17] | 19 => [18, 8, 17] | _ => [])
      (fun | 4 => [8] | 13 => [17] | _ => []) (by kernel_rfl) (by kernel_rfl) (Below.refl _ _).drew ?_ ?_ ⟨?_, ?_, ?_, ?_, ?_, ?_, ?_, ?_, ?_, ?_, ?_, ?_, ?_, ?_, ?_, ?_, ?_, ?_, ?_, ?_, trivial⟩ ?_
    · intro i wa wb hk hi
      by_cases h8 : i = 8
      · rw [if_pos h8] at hk
        exact hi.trans hk.2
      · rw [if_neg h8] at hk
        by_cases h17 : i = 17
        · rw [if_pos h17] at hk
          exact hi.trans hk.2
        · rw [if_neg h17] at hk
          exact below_then' hi hk
    · intro i j U wa wb hji hkl hk hi h
      by_cases h8 : i = 8
      · rw [if_pos h8] at hk
        subst h8
        have hsm := hk.1
        match j, hji, hkl, h with
        | 0, _, _, h => exact h
        | 1, _, _, h => exact h
        | 2, _, _, h => exact h
        | 3, _, _, h => exact h
        | 4, _, hkl, h => exact absurd (by simp) hkl
        | 5, _, _, h => exact h
        | 6, _, _, h => exact h
        | 7, _, _, h => exact h
        | 8, hji, _, h => exact absurd rfl hji
        | 9, _, _, h => exact h
        | 10, _, _, h => exact h
        | 11, _, _, h => exact h
        | 12, _, _, h => exact h
        | 13, _, _, h => exact OwnAt.same' flat_val h hsm (by decide)
        | 14, _, _, h => exact h
        | 15, _, _, h => exact h
        | 16, _, _, h => exact h
        | 17, _, _, h => exact OwnAt.same' flat_val h hsm (by decide)
        | 18, _, _, h => exact h
        | 19, _, _, h => exact (by obtain ⟨g, h1, h0, h2⟩ := h; exact ⟨g, h1, h0, hsm g _ _ _ h2 (by decide)⟩)
        | _ + 20, _, _, h => trivial
      · rw [if_neg h8] at hk
        by_cases h17 : i = 17
        · rw [if_pos h17] at hk
          subst h17
          have hsm := hk.1
          match j, hji, hkl, h with
          | 0, _, _, h => exact h
          | 1, _, _, h => exact h
          | 2, _, _, h => exact h
          | 3, _, _, h => exact h
          | 4, _, _, h => exact OwnAt.same' flat_val h hsm (by decide)
          | 5, _, _, h => exact h
          | 6, _, _, h => exact h
          | 7, _, _, h => exact h
          | 8, _, _, h => exact OwnAt.same' flat_val h hsm (by decide)
          | 9, _, _, h => exact h
          | 10, _, _, h => exact h
          | 11, _, _, h => exact h
          | 12, _, _, h => exact h
          | 13, _, hkl, h => exact absurd (by simp) hkl
          | 14, _, _, h => exact h
          | 15, _, _, h => exact h
          | 16, _, _, h => exact h
          | 17, hji, _, h => exact absurd rfl hji
          | 18, _, _, h => exact h
          | 19, _, _, h => exact (by obtain ⟨g, h1, h0, h2⟩ := h; exact ⟨g, h1, h0, hsm g _ _ _ h2 (by decide)⟩)
          | _ + 20, _, _, h => trivial
        · rw [if_neg h17] at hk
          match j, h with
          | 0, h => exact h
          | 1, h => exact h
          | 2, h => exact h
          | 3, h => exact h
          | 4, h => exact OwnAt.below stays_val h hk
          | 5, h => exact h
          | 6, h => exact h
          | 7, h => exact h
          | 8, h => exact OwnAt.below stays_val h hk
          | 9, h => exact h
          | 10, h => exact h
          | 11, h => exact h
          | 12, h => exact h
          | 13, h => exact OwnAt.below stays_val h hk
          | 14, h => exact h
          | 15, h => exact h
          | 16, h => exact h
          | 17, h => exact OwnAt.below stays_val h hk
          | 18, h => exact h
          | 19, h => exact (by obtain ⟨g, h1, h0, h2⟩ := h; exact ⟨g, h1, h0, below_block hk h2⟩)
          | _ + 20, h => trivial
    · intro x' w' hb hd
      have hbw : Below w.heap.size w w' := (below_drewN0 w k).trans hb
      have e0 : w'.cell? ⟨q, 0, none⟩ = some (.slice an ln c1) := (hbw.cell (p := ⟨q, 0, none⟩) hqw).trans cn
      have e1 : w'.cell? ⟨q, 1, none⟩ = some (.slice av lv c2) := (hbw.cell (p := ⟨q, 1, none⟩) hqw).trans cv
      refine owesK_here (.pointer (some ⟨q, 0, none⟩)) (by rfl) ?_ rfl (else_of (by decide) (else_of (by decide) (Below.refl _ _)))
      simp only [putAll, List.take_succ_cons, List.take_zero]
      go_simp
    · intro x' w' hb hd
      have hbw : Below w.heap.size w w' := (below_drewN0 w k).trans hb
      have e0 : w'.cell? ⟨q, 0, none⟩ = some (.slice an ln c1) := (hbw.cell (p := ⟨q, 0, none⟩) hqw).trans cn
      have e1 : w'.cell? ⟨q, 1, none⟩ = some (.slice av lv c2) := (hbw.cell (p := ⟨q, 1, none⟩) hqw).trans cv
      have k0 : x' 0 = .pointer (some ⟨q, 0, none⟩) := hd 0 (by simp)
      refine owesK_here (.pointer (some ⟨q, 0, none⟩)) (by rfl) ?_ rfl (else_of (by decide) (else_of (by decide) (Below.refl _ _)))
      simp only [putAll, List.take_succ_cons, List.take_zero]
      go_simp
    · intro x' w' hb hd
      have hbw : Below w.heap.size w w' := (below_drewN0 w k).trans hb
      have e0 : w'.cell? ⟨q, 0, none⟩ = some (.slice an ln c1) := (hbw.cell (p := ⟨q, 0, none⟩) hqw).trans cn
      have e1 : w'.cell? ⟨q, 1, none⟩ = some (.slice av lv c2) := (hbw.cell (p := ⟨q, 1, none⟩) hqw).trans cv
      have k0 : x' 1 = .pointer (some ⟨q, 0, none⟩) := hd 1 (by simp)
      refine owesK_here (.pointer (some ⟨q, 0, none⟩)) (by rfl) ?_ rfl (else_of (by decide) (else_of (by decide) (Below.refl _ _)))
      simp only [putAll, List.take_succ_cons, List.take_zero]
      go_simp
    · intro x' w' hb hd
      have hbw : Below w.heap.size w w' := (below_drewN0 w k).trans hb
      have e0 : w'.cell? ⟨q, 0, none⟩ = some (.slice an ln c1) := (hbw.cell (p := ⟨q, 0, none⟩) hqw).trans cn
      have e1 : w'.cell? ⟨q, 1, none⟩ = some (.slice av lv c2) := (hbw.cell (p := ⟨q, 1, none⟩) hqw).trans cv
      have k0 : x' 2 = .pointer (some ⟨q, 0, none⟩) := hd 2 (by simp)
      refine owesK_here (.slice an ln c1) (by rfl) ?_ rfl (else_of (by decide) (else_of (by decide) (Below.refl _ _)))
      simp only [putAll, List.take_succ_cons, List.take_zero]
      go_simp
    · intro x' w' hb hd
      have hbw : Below w.heap.size w w' := (below_drewN0 w k).trans hb
      have e0 : w'.cell? ⟨q, 0, none⟩ = some (.slice an ln c1) := (hbw.cell (p := ⟨q, 0, none⟩) hqw).trans cn
      have e1 : w'.cell? ⟨q, 1, none⟩ = some (.slice av lv c2) := (hbw.cell (p := ⟨q, 1, none⟩) hqw).trans cv
      have k0 : x' 3 = .slice an ln c1 := hd 3 (by simp)
      refine owesK_call 38 #[.slice an ln c1] (by rfl) ?_ ((HC1.out w' hbw).mono fun e w2 ⟨v', h1, h2, h3⟩ => ⟨v', h1, h2.mono hbw.size, else_of (by decide) (else_of (by decide) h3)⟩)
      simp only [putAll, List.take_succ_cons, List.take_zero]
      go_simp
    · intro x' w' hb hd
      have hbw : Below w.heap.size w w' := (below_drewN0 w k).trans hb
      have e0 : w'.cell? ⟨q, 0, none⟩ = some (.slice an ln c1) := (hbw.cell (p := ⟨q, 0, none⟩) hqw).trans cn
      have e1 : w'.cell? ⟨q, 1, none⟩ = some (.slice av lv c2) := (hbw.cell (p := ⟨q, 1, none⟩) hqw).trans cv
      refine owesK_here (.int .i64 (p : Int)) (by rfl) ?_ rfl (else_of (by decide) (else_of (by decide) (Below.refl _ _)))
      simp only [putAll, List.take_succ_cons, List.take_zero]
      go_simp
    · intro x' w' hb hd
      have hbw : Below w.heap.size w w' := (below_drewN0 w k).trans hb
      have e0 : w'.cell? ⟨q, 0, none⟩ = some (.slice an ln c1) := (hbw.cell (p := ⟨q, 0, none⟩) hqw).trans cn
      have e1 : w'.cell? ⟨q, 1, none⟩ = some (.slice av lv c2) := (hbw.cell (p := ⟨q, 1, none⟩) hqw).trans cv
      refine owesK_here (.int .i64 (p : Int)) (by rfl) ?_ rfl (else_of (by decide) (else_of (by decide) (Below.refl _ _)))
      simp only [putAll, List.take_succ_cons, List.take_zero]
      go_simp
    · intro x' w' hb hd
      have hbw : Below w.heap.size w w' := (below_drewN0 w k).trans hb
      have e0 : w'.cell? ⟨q, 0, none⟩ = some (.slice an ln c1) := (hbw.cell (p := ⟨q, 0, none⟩) hqw).trans cn
      have e1 : w'.cell? ⟨q, 1, none⟩ = some (.slice av lv c2) := (hbw.cell (p := ⟨q, 1, none⟩) hqw).trans cv
      have k0 : x' 6 = .int .i64 (p : Int) := hd 6 (by simp)
      refine owesK_here (.int .i64 ((p : Int) + 1)) (by rfl) ?_ rfl (else_of (by decide) (else_of (by decide) (Below.refl _ _)))
      simp only [putAll, List.take_succ_cons, List.take_zero]
      go_simp
    · intro x' w' hb hd
      have hbw : Below w.heap.size w w' := (below_drewN0 w k).trans hb
      have e0 : w'.cell? ⟨q, 0, none⟩ = some (.slice an ln c1) := (hbw.cell (p := ⟨q, 0, none⟩) hqw).trans cn
      have e1 : w'.cell? ⟨q, 1, none⟩ = some (.slice av lv c2) := (hbw.cell (p := ⟨q, 1, none⟩) hqw).trans cv
      have k4 : OwnAt RVal 1 w' w.heap.size 9 (x' 4) xs := hd 4 (by simp)
      have k5 : x' 5 = .int .i64 (p : Int) := hd 5 (by simp)
      have k7 : x' 7 = .int .i64 ((p : Int) + 1) := hd 7 (by simp)
      refine owesK_call 47 #[x' 4, .int .i64 (p : Int), .int .i64 ((p : Int) + 1)] (by rfl) ?_ ((delStr_any (x' 4) xs w.heap.size p w' k4 hxp hxs).mono fun e w2 ⟨g, c, h0, hB, h1, h2, h3⟩ => ⟨_, h1, h2, then_of rfl (del_same k4 h0 hB h3 hbw.size)⟩)
      simp only [putAll, List.take_succ_cons, List.take_zero]
      go_simp
    · intro x' w' hb hd
      have hbw : Below w.heap.size w w' := (below_drewN0 w k).trans hb
      have e0 : w'.cell? ⟨q, 0, none⟩ = some (.slice an ln c1) := (hbw.cell (p := ⟨q, 0, none⟩) hqw).trans cn
      have e1 : w'.cell? ⟨q, 1, none⟩ = some (.slice av lv c2) := (hbw.cell (p := ⟨q, 1, none⟩) hqw).trans cv
      refine owesK_here (.pointer (some ⟨q, 0, none⟩)) (by rfl) ?_ rfl (else_of (by decide) (else_of (by decide) (Below.refl _ _)))
      simp only [putAll, List.take_succ_cons, List.take_zero]
      go_simp
    · intro x' w' hb hd
      have hbw : Below w.heap.size w w' := (below_drewN0 w k).trans hb
      have e0 : w'.cell? ⟨q, 0, none⟩ = some (.slice an ln c1) := (hbw.cell (p := ⟨q, 0, none⟩) hqw).trans cn
      have e1 : w'.cell? ⟨q, 1, none⟩ = some (.slice av lv c2) := (hbw.cell (p := ⟨q, 1, none⟩) hqw).trans cv
      have k0 : x' 9 = .pointer (some ⟨q, 0, none⟩) := hd 9 (by simp)
      refine owesK_here (.pointer (some ⟨q, 0, none⟩)) (by rfl) ?_ rfl (else_of (by decide) (else_of (by decide) (Below.refl _ _)))
      simp only [putAll, List.take_succ_cons, List.take_zero]
      go_simp
    · intro x' w' hb hd
      have hbw : Below w.heap.size w w' := (below_drewN0 w k).trans hb
      have e0 : w'.cell? ⟨q, 0, none⟩ = some (.slice an ln c1) := (hbw.cell (p := ⟨q, 0, none⟩) hqw).trans cn
      have e1 : w'.cell? ⟨q, 1, none⟩ = some (.slice av lv c2) := (hbw.cell (p := ⟨q, 1, none⟩) hqw).trans cv
      have k0 : x' 10 = .pointer (some ⟨q, 0, none⟩) := hd 10 (by simp)
      refine owesK_here (.pointer (some ⟨q, 1, none⟩)) (by rfl) ?_ rfl (else_of (by decide) (else_of (by decide) (Below.refl _ _)))
      simp only [putAll, List.take_succ_cons, List.take_zero]
      go_simp
    · intro x' w' hb hd
      have hbw : Below w.heap.size w w' := (below_drewN0 w k).trans hb
      have e0 : w'.cell? ⟨q, 0, none⟩ = some (.slice an ln c1) := (hbw.cell (p := ⟨q, 0, none⟩) hqw).trans cn
      have e1 : w'.cell? ⟨q, 1, none⟩ = some (.slice av lv c2) := (hbw.cell (p := ⟨q, 1, none⟩) hqw).trans cv
      have k0 : x' 11 = .pointer (some ⟨q, 1, none⟩) := hd 11 (by simp)
      refine owesK_here (.slice av lv c2) (by rfl) ?_ rfl (else_of (by decide) (else_of (by decide) (Below.refl _ _)))
      simp only [putAll, List.take_succ_cons, List.take_zero]
      go_simp
    · intro x' w' hb hd
      have hbw : Below w.heap.size w w' := (below_drewN0 w k).trans hb
      have e0 : w'.cell? ⟨q, 0, none⟩ = some (.slice an ln c1) := (hbw.cell (p := ⟨q, 0, none⟩) hqw).trans cn
      have e1 : w'.cell? ⟨q, 1, none⟩ = some (.slice av lv c2) := (hbw.cell (p := ⟨q, 1, none⟩) hqw).trans cv
      have k0 : x' 12 = .slice av lv c2 := hd 12 (by simp)
      refine owesK_call 36 #[.slice av lv c2] (by rfl) ?_ ((HC2.out w' hbw).mono fun e w2 ⟨v', h1, h2, h3⟩ => ⟨v', h1, h2.mono hbw.size, else_of (by decide) (else_of (by decide) h3)⟩)
      simp only [putAll, List.take_succ_cons, List.take_zero]
      go_simp
    · intro x' w' hb hd
      have hbw : Below w.heap.size w w' := (below_drewN0 w k).trans hb
      have e0 : w'.cell? ⟨q, 0, none⟩ = some (.slice an ln c1) := (hbw.cell (p := ⟨q, 0, none⟩) hqw).trans cn
      have e1 : w'.cell? ⟨q, 1, none⟩ = some (.slice av lv c2) := (hbw.cell (p := ⟨q, 1, none⟩) hqw).trans cv
      refine owesK_here (.int .i64 (p : Int)) (by rfl) ?_ rfl (else_of (by decide) (else_of (by decide) (Below.refl _ _)))
      simp only [putAll, List.take_succ_cons, List.take_zero]
      go_simp
    · intro x' w' hb hd
      have hbw : Below w.heap.size w w' := (below_drewN0 w k).trans hb
      have e0 : w'.cell? ⟨q, 0, none⟩ = some (.slice an ln c1) := (hbw.cell (p := ⟨q, 0, none⟩) hqw).trans cn
      have e1 : w'.cell? ⟨q, 1, none⟩ = some (.slice av lv c2) := (hbw.cell (p := ⟨q, 1, none⟩) hqw).trans cv
      refine owesK_here (.int .i64 (p : Int)) (by rfl) ?_ rfl (else_of (by decide) (else_of (by decide) (Below.refl _ _)))
      simp only [putAll, List.take_succ_cons, List.take_zero]
      go_simp
    · intro x' w' hb hd
      have hbw : Below w.heap.size w w' := (below_drewN0 w k).trans hb
      have e0 : w'.cell? ⟨q, 0, none⟩ = some (.slice an ln c1) := (hbw.cell (p := ⟨q, 0, none⟩) hqw).trans cn
      have e1 : w'.cell? ⟨q, 1, none⟩ = some (.slice av lv c2) := (hbw.cell (p := ⟨q, 1, none⟩) hqw).trans cv
      have k0 : x' 15 = .int .i64 (p : Int) := hd 15 (by simp)
      refine owesK_here (.int .i64 ((p : Int) + 1)) (by rfl) ?_ rfl (else_of (by decide) (else_of (by decide) (Below.refl _ _)))
      simp only [putAll, List.take_succ_cons, List.take_zero]
      go_simp
    · intro x' w' hb hd
      have hbw : Below w.heap.size w w' := (below_drewN0 w k).trans hb
      have e0 : w'.cell? ⟨q, 0, none⟩ = some (.slice an ln c1) := (hbw.cell (p := ⟨q, 0, none⟩) hqw).trans cn
      have e1 : w'.cell? ⟨q, 1, none⟩ = some (.slice av lv c2) := (hbw.cell (p := ⟨q, 1, none⟩) hqw).trans cv
      have k4 : OwnAt RVal 1 w' w.heap.size 32 (x' 13) ys := hd 13 (by simp)
      have k5 : x' 14 = .int .i64 (p : Int) := hd 14 (by simp)
      have k7 : x' 16 = .int .i64 ((p : Int) + 1) := hd 16 (by simp)
      refine owesK_call 48 #[x' 13, .int .i64 (p : Int), .int .i64 ((p : Int) + 1)] (by rfl) ?_ ((delVal_any (x' 13) ys w.heap.size p w' k4 hyp hys).mono fun e w2 ⟨g, c, h0, hB, h1, h2, h3⟩ => ⟨_, h1, h2, else_of (by decide) (then_of rfl (del_same k4 h0 hB h3 hbw.size))⟩)
      simp only [putAll, List.take_succ_cons, List.take_zero]
      go_simp
    · intro x' w' hb hd
      have hbw : Below w.heap.size w w' := (below_drewN0 w k).trans hb
      have e0 : w'.cell? ⟨q, 0, none⟩ = some (.slice an ln c1) := (hbw.cell (p := ⟨q, 0, none⟩) hqw).trans cn
      have e1 : w'.cell? ⟨q, 1, none⟩ = some (.slice av lv c2) := (hbw.cell (p := ⟨q, 1, none⟩) hqw).trans cv
      have k8 : OwnAt RVal 1 w' w.heap.size 9 (x' 8) (xs.eraseIdx p) := hd 8 (by simp)
      have k17 : OwnAt RVal 1 w' w.heap.size 32 (x' 17) (ys.eraseIdx p) := hd 17 (by simp)
      obtain ⟨a8, c8, e8, _, _⟩ := k8.row.len
      obtain ⟨a17, c17, e17, _, _⟩ := k17.row.len
      refine owesK_here (.agg #[x' 8, x' 17]) (by rfl) ?_ rfl (else_of (by decide) (else_of (by decide) (Below.refl _ _)))
      simp only [putAll, List.take_succ_cons, List.take_zero]
      go_simp
    · intro x' w' hb hd
      have hbw : Below w.heap.size w w' := (below_drewN0 w k).trans hb
      have e0 : w'.cell? ⟨q, 0, none⟩ = some (.slice an ln c1) := (hbw.cell (p := ⟨q, 0, none⟩) hqw).trans cn
      have e1 : w'.cell? ⟨q, 1, none⟩ = some (.slice av lv c2) := (hbw.cell (p := ⟨q, 1, none⟩) hqw).trans cv
      have k8 : OwnAt RVal 1 w' w.heap.size 9 (x' 8) (xs.eraseIdx p) := hd 8 (by simp)
      have k17 : OwnAt RVal 1 w' w.heap.size 32 (x' 17) (ys.eraseIdx p) := hd 17 (by simp)
      have k18 : x' 18 = .agg #[x' 8, x' 17] := hd 18 (by simp)
      obtain ⟨a8, c8, e8, _, _⟩ := k8.row.len
      obtain ⟨a17, c17, e17, _, _⟩ := k17.row.len
      refine owesK_makes (.pointer (some ⟨w'.heap.size, 0, none⟩)) (w' := w'.alloc (.cells #[x' 8, x' 17] 56)) (by rfl) ?_ (⟨_, rfl, hbw.size, heap_alloc_new w' _⟩) (else_of (by decide) (else_of (by decide) ((Below.refl _ _).alloc (Nat.le_refl _) _)))
      simp only [putAll, List.take_succ_cons, List.take_zero]
      go_simp
    · intro x' w' hb hR
      have hbw : Below w.heap.size w w' := (below_drewN0 w k).trans hb
      have e0 : w'.cell? ⟨q, 0, none⟩ = some (.slice an ln c1) := (hbw.cell (p := ⟨q, 0, none⟩) hqw).trans cn
      have e1 : w'.cell? ⟨q, 1, none⟩ = some (.slice av lv c2) := (hbw.cell (p := ⟨q, 1, none⟩) hqw).trans cv
      have k8 : OwnAt RVal 1 w' w.heap.size 9 (x' 8) (xs.eraseIdx p) := hR 8 (by omega) rfl
      have k17 : OwnAt RVal 1 w' w.heap.size 32 (x' 17) (ys.eraseIdx p) := hR 17 (by omega) rfl
      obtain ⟨q', k19, hq1, kq⟩ : ∃ g, x' 19 = .pointer (some ⟨g, 0, none⟩) ∧ w.heap.size ≤ g ∧ w'.heap[g]? = some (.cells #[x' 8, x' 17] 56 (0, 0)) := hR 19 (by omega) rfl
      have Hb := Lib.hid hbw
      have K8 := Lib.hid k8
      have K17 := Lib.hid k17
      have Kq := Lib.hid kq
      clear hR hb hbw k8 k17 kq e0 e1
      simp only [putAll, List.take_succ_cons, List.take_zero, List.drop_succ_cons, List.drop_zero]
      try simp only [Act.put, List.setIfInBounds_toArray, List.set_cons_zero, List.set_cons_succ]
      go_wp2_with fail
      go_ret
      refine ⟨q', ?_, ?_, Hb.out⟩
      · show Ending.returned (x' 19) = _
        rw [k19]
      · refine Hfin.out w' q' (x' 8) (x' 17) (KeepT.of Hb.out) (fun hm => by have h9 := HT.out _ hm; omega) ?_ ?_ K8.out.row (off_new K8.out HT.out) K17.out.row (off_new K17.out HT.out)
        · rw [cell_block Kq.out]; rfl
        · rw [cell_block Kq.out]; rfl
  · rw [hg] at HS
    have hcut := cut_none hg
    rw [hcut]
    have Hob := Lib.hid hob
    clear hg hrn hrv hxr hyr hxR hyR hon hov hsp hs hxl hyl hob hcut hT
    go_enter Tryd.func28, Tryd.ntmps28
    go_wp2_with fail
    refine HS.out.mono ?_
    rintro E w1 ⟨rfl, k, rfl⟩
    go_wp2_with fail
    go_ret
    exact ⟨q, rfl, Hob.out.keepT (KeepT.drewN w k) (fun _ _ ⟨v, e, hv⟩ => ⟨v, e, hv.keepT (KeepT.drewN w k)⟩), below_drewN0 w k⟩
end Go.Proofs.YtlcongehmjiabaaDoor
