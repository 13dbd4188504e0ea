/- tree.Kind, tree.Size, tree.Same: contracts. -/
import Derived.Test.YtaddcchpidpbfaaDoorJsonText
namespace Go.Proofs.YtaddcchpidpbfaaDoor
open Go.RowKit
open JP (JV Bs)

set_option maxRecDepth 100000 in
set_option maxHeartbeats 1600000 in
theorem kind_any {n : Nat} {v : Value} {x : JV} {w : World} (h : JvAt n [] w v x) : Calls Tryd.prog 29 #[v] w fun e w' => e = .returned (.int .i64 (JP.kind x)) ∧ w' = w := by
  cases n with
  | zero => cases h
  | succ n =>
    cases x with
    | nul =>
      obtain rfl : v = .nilIface := h
      obtain ⟨g1, g2, g3, g4, g5⟩ := as_nil
      go_enter Tryd.func29, Tryd.ntmps29
      go_wp2_with fail
      go_ret
      exact ⟨rfl, rfl⟩
    | bool b =>
      obtain rfl : v = .iface 4 (.bool b) := h
      obtain ⟨g1, g2, g3, g4, g5⟩ := as_bool (.bool b)
      go_enter Tryd.func29, Tryd.ntmps29
      go_wp2_with fail
      go_ret
      exact ⟨rfl, rfl⟩
    | num k =>
      obtain ⟨rfl, _, _⟩ := h
      obtain ⟨g1, g2, g3, g4, g5⟩ := as_int64 (.int .i64 k)
      go_enter Tryd.func29, Tryd.ntmps29
      go_wp2_with fail
      go_ret
      exact ⟨rfl, rfl⟩
    | str s =>
      obtain rfl : v = .iface 9 (.string (mkB s)) := h
      obtain ⟨g1, g2, g3, g4, g5⟩ := as_string (.string (mkB s))
      go_enter Tryd.func29, Tryd.ntmps29
      go_wp2_with fail
      go_ret
      exact ⟨rfl, rfl⟩
    | list l =>
      obtain ⟨u, rfl, _, _⟩ := h
      obtain ⟨g1, g2, g3, g4, g5⟩ := as_list u
      go_enter Tryd.func29, Tryd.ntmps29
      go_wp2_with fail
      go_ret
      exact ⟨rfl, rfl⟩
    | obj l =>
      obtain ⟨q, rfl, _⟩ := h
      obtain ⟨g1, g2, g3, g4, g5⟩ := as_obj (.pointer (some ⟨q, 0, none⟩))
      go_enter Tryd.func29, Tryd.ntmps29
      go_wp2_with fail
      go_ret
      exact ⟨rfl, rfl⟩

theorem sizeF_map (l : List (Bs × JV)) : JP.sizeF l = JP.sizeL (l.map (·.2)) := by
  induction l with
  | nil => rfl
  | cons x r ih => obtain ⟨n, v⟩ := x; rw [JP.sizeF, List.map_cons, JP.sizeL, ih]
theorem deepF_map (l : List (Bs × JV)) : JP.deepF l = JP.deepL (l.map (·.2)) := by
  induction l with
  | nil => rfl
  | cons x r ih => obtain ⟨n, v⟩ := x; rw [JP.deepF, List.map_cons, JP.deepL, ih]
theorem sizeL_len (l : List JV) : l.length ≤ JP.sizeL l := by
  induction l with
  | nil => simp
  | cons x r ih => rw [JP.sizeL, List.length_cons]; have := JP.size_pos x; omega
theorem sizeL_take {l : List JV} {i : Nat} {x : JV} (h : l[i]? = some x) : JP.sizeL (l.take (i + 1)) = JP.sizeL (l.take i) + JP.size x := by
  rw [List.take_add_one, h, JP.sizeL_append]
  simp [JP.sizeL]
theorem deepL_take {l : List JV} {i : Nat} {x : JV} (h : l[i]? = some x) : JP.deepL (l.take (i + 1)) = max (JP.deepL (l.take i)) (JP.deep x) := by
  rw [List.take_add_one, h, JP.deepL_append]
  simp [JP.deepL]
theorem sizeL_le (l : List JV) (i : Nat) : JP.sizeL (l.take i) ≤ JP.sizeL l := by
  have := JP.sizeL_append (l.take i) (l.drop i)
  rw [List.take_append_drop] at this
  omega
theorem deep_size : (∀ x, JP.deep x ≤ JP.size x) ∧ (∀ l, JP.deepL l ≤ JP.sizeL l) ∧ ∀ l, JP.deepF l ≤ JP.sizeF l := by
  refine JP.JV.both ?_ (fun _ => ?_) (fun _ => ?_) (fun _ => ?_) (fun l h => ?_) (fun l h => ?_) ?_ (fun v r h k => ?_) ?_ (fun n v r h k => ?_)
  · rw [JP.deep]; omega
  · rw [JP.deep]; omega
  · rw [JP.deep]; omega
  · rw [JP.deep]; omega
  · rw [JP.deep, JP.size]; omega
  · rw [JP.deep, JP.size]; omega
  · rw [JP.deepL]; omega
  · rw [JP.deepL, JP.sizeL]; omega
  · rw [JP.deepF]; omega
  · rw [JP.deepF, JP.sizeF]; omega
theorem ret_two {a b c d : Int} (h : a = b) (k : c = d) : Ending.returned (.tuple #[.int .i64 a, .int .i64 c]) = .returned (.tuple #[.int .i64 b, .int .i64 d]) := by rw [h, k]
set_option maxRecDepth 100000 in
set_option maxHeartbeats 6400000 in
theorem size_any : ∀ (n : Nat) (v : Value) (x : JV) (w : World), JvAt n [] w v x → JP.size x ≤ 1048576 →
    Calls Tryd.prog 30 #[v] w fun e w' => e = .returned (.tuple #[.int .i64 (JP.size x : Int), .int .i64 (JP.deep x : Int)]) ∧ w = w' := by
  intro n
  induction n with
  | zero => intro v x w h; cases h
  | succ n ih =>
    intro v x w h hlen
    have IH := Lib.hid ih
    clear ih
    cases x with
    | nul =>
      obtain rfl : v = .nilIface := h
      obtain ⟨g1, g2, g3, g4, g5⟩ := as_nil
      clear hlen
      go_enter Tryd.func30, Tryd.ntmps30
      go_wp2_with fail
      go_ret2
      exact ⟨ret_two (by rw [JP.size]; rfl) (by rw [JP.deep]; rfl), rfl⟩
    | bool b =>
      obtain rfl : v = .iface 4 (.bool b) := h
      obtain ⟨g1, g2, g3, g4, g5⟩ := as_bool (.bool b)
      clear hlen
      go_enter Tryd.func30, Tryd.ntmps30
      go_wp2_with fail
      go_ret2
      exact ⟨ret_two (by rw [JP.size]; rfl) (by rw [JP.deep]; rfl), rfl⟩
    | num k =>
      obtain ⟨rfl, _, _⟩ := h
      obtain ⟨g1, g2, g3, g4, g5⟩ := as_int64 (.int .i64 k)
      clear hlen
      go_enter Tryd.func30, Tryd.ntmps30
      go_wp2_with fail
      go_ret2
      exact ⟨ret_two (by rw [JP.size]; rfl) (by rw [JP.deep]; rfl), rfl⟩
    | str s =>
      obtain rfl : v = .iface 9 (.string (mkB s)) := h
      obtain ⟨g1, g2, g3, g4, g5⟩ := as_string (.string (mkB s))
      clear hlen
      go_enter Tryd.func30, Tryd.ntmps30
      go_wp2_with fail
      go_ret2
      exact ⟨ret_two (by rw [JP.size]; rfl) (by rw [JP.deep]; rfl), rfl⟩
    | list L =>
      obtain ⟨u, rfl, hrow, _⟩ := h
      obtain ⟨a, c, rfl, _, _⟩ := hrow.len
      obtain ⟨g1, g2, g3, g4, g5⟩ := as_list (.slice a L.length c)
      have HSZ : Hid (JP.size (.list L) = 1 + JP.sizeL L) := Lib.hid (by rw [JP.size])
      have HDP : Hid (JP.deep (.list L) = JP.deepL L + 1) := Lib.hid (by rw [JP.deep])
      have hlen : JP.sizeL L + 1 ≤ 1048576 := by have := HSZ.out; omega
      have hsl := sizeL_len L
      have hLl : L.length ≤ 1048576 := by omega
      have Hsl : Hid (JP.sizeL L ≤ 1048576) := Lib.hid (by omega)
      have Hrow := Lib.hid hrow
      clear hrow hlen hsl
      go_enter Tryd.func30, Tryd.ntmps30
      go_wp2_with fail
      go_loopg [2, 3, 26] L.length (fun k u2 u3 u26 wr => ∃ (i : Nat) (m d : Nat), i + k = L.length ∧ u26 = .int .i64 (i : Int) ∧ u2 = .int .i64 (m : Int) ∧ u3 = .int .i64 (d : Int) ∧ Hid (m = 1 + JP.sizeL (L.take i)) ∧ Hid (d = JP.deepL (L.take i)) ∧ m ≤ 1048577 ∧ d ≤ 1048576 ∧ wr = w)
      case atStart => exact ⟨0, 1, 0, by omega, rfl, rfl, rfl, Lib.hid (by simp [JP.sizeL]), Lib.hid (by simp [JP.deepL]), by omega, by omega, rfl⟩
      case round =>
        obtain ⟨i, m, d, hik, rfl, rfl, rfl, Hm, Hd, hm, hd, rfl⟩ := hrel
        cases gk with
        | zero =>
          obtain rfl : i = L.length := by omega
          have hm1 := Hm.out
          have hd1 := Hd.out
          rw [List.take_of_length_le (Nat.le_refl _)] at hm1 hd1
          have Hm1 : Hid (m = JP.size (.list L)) := Lib.hid (by rw [hm1]; exact HSZ.out.symm)
          have Hd1 : Hid (d + 1 = JP.deep (.list L)) := Lib.hid (by rw [hd1]; exact HDP.out.symm)
          clear hm1 hd1 hik
          go_wp2_with fail
          go_ret2
          exact ⟨ret_two (by rw [← Hm1.out]) (by rw [← Hd1.out]; omega), rfl⟩
        | succ k =>
          have hil : i < L.length := by omega
          obtain ⟨y, hy⟩ : ∃ y, L[i]? = some y := ⟨L[i]'(by omega), List.getElem?_eq_getElem _⟩
          obtain ⟨b, o, c', hv, _, _, hbs, hcell⟩ := Hrow.out.form (by omega) (by omega)
          injection hv with u1 u2 u3
          subst u1
          clear u2 u3
          obtain ⟨ds, _, hcc, vx, rfl, hvx⟩ := hcell i y hy
          have e0 : wr.cell? ⟨b, o + i, none⟩ = some vx := by simpa using hcc 0 _ rfl
          have q1 : (0 : Int) ≤ (i : Int) := by omega
          have q2 : (i : Int) < (L.length : Int) := by omega
          have ht1 := sizeL_take hy
          have ht2 := deepL_take hy
          have ht3 := sizeL_le L (i + 1)
          have ht4 := deep_size.1 y
          have hs0 := Hsl.out
          have hm0 := Hm.out
          obtain ⟨sy, hsy⟩ : ∃ s, JP.size y = s := ⟨_, rfl⟩
          obtain ⟨dy, hdy⟩ : ∃ d, JP.deep y = d := ⟨_, rfl⟩
          rw [hsy] at ht1 ht4
          rw [hdy] at ht2 ht4
          have HC := Lib.hid (IH.out vx y wr hvx (by omega))
          rw [hsy, hdy] at HC
          have Hm2 : Hid (m + sy = 1 + JP.sizeL (L.take (i + 1))) := Lib.hid (by omega)
          have hm2 : m + sy ≤ 1048577 := by omega
          have hdy2 : dy ≤ 1048576 := by omega
          have Hd2 : Hid (max d dy = JP.deepL (L.take (i + 1))) := Lib.hid (by rw [ht2, ← Hd.out])
          clear ht1 ht2 ht3 ht4 hs0 hm0 hsy hdy hcell hcc hy hvx
          go_wp2_with fail
          refine HC.out.mono ?_
          rintro E w1 ⟨rfl, rfl⟩
          by_cases hdd : d ≤ dy
          · have p1 : (d : Int) ≤ (dy : Int) := by omega
            have hmx : max d dy = dy := by omega
            rw [hmx] at Hd2
            clear hmx
            go_wp2_with fail
            go_roundg k
            case measure => omega
            case rel => exact ⟨i + 1, m + sy, dy, by omega, by go_num, by go_num, by go_num, Hm2, Hd2, hm2, hdy2, rfl⟩
          · have p1 : ¬ (d : Int) ≤ (dy : Int) := by omega
            have hmx : max d dy = d := by omega
            rw [hmx] at Hd2
            clear hmx
            go_wp2_with fail
            go_roundg k
            case measure => omega
            case rel => exact ⟨i + 1, m + sy, d, by omega, by go_num, by go_num, by go_num, Hm2, Hd2, hm2, hd, rfl⟩
    | obj l =>
      obtain ⟨q, rfl, _, _, vn, vv, cn, cv, _, _, hrow, _⟩ := h
      obtain ⟨av, c, hu, _, _⟩ := hrow.len
      obtain ⟨L, hL⟩ : ∃ L : List JV, l.map (·.2) = L := ⟨_, rfl⟩
      rw [hL] at hrow hu
      subst hu
      obtain ⟨g1, g2, g3, g4, g5⟩ := as_obj (.pointer (some ⟨q, 0, none⟩))
      have HSZ : Hid (JP.size (.obj l) = 1 + JP.sizeL L) := Lib.hid (by rw [JP.size, sizeF_map, hL])
      have HDP : Hid (JP.deep (.obj l) = JP.deepL L + 1) := Lib.hid (by rw [JP.deep, deepF_map, hL])
      have hlen : JP.sizeL L + 1 ≤ 1048576 := by have := HSZ.out; omega
      clear hL cn
      have hsl := sizeL_len L
      have hLl : L.length ≤ 1048576 := by omega
      have Hsl : Hid (JP.sizeL L ≤ 1048576) := Lib.hid (by omega)
      have Hrow := Lib.hid hrow
      clear hrow hlen hsl
      go_enter Tryd.func30, Tryd.ntmps30
      go_wp2_with fail
      go_loopg [2, 3, 26] L.length (fun k u2 u3 u26 wr => ∃ (i : Nat) (m d : Nat), i + k = L.length ∧ u26 = .int .i64 (i : Int) ∧ u2 = .int .i64 (m : Int) ∧ u3 = .int .i64 (d : Int) ∧ Hid (m = 1 + JP.sizeL (L.take i)) ∧ Hid (d = JP.deepL (L.take i)) ∧ m ≤ 1048577 ∧ d ≤ 1048576 ∧ wr = w)
      case atStart => exact ⟨0, 1, 0, by omega, rfl, rfl, rfl, Lib.hid (by simp [JP.sizeL]), Lib.hid (by simp [JP.deepL]), by omega, by omega, rfl⟩
      case round =>
        obtain ⟨i, m, d, hik, rfl, rfl, rfl, Hm, Hd, hm, hd, rfl⟩ := hrel
        cases gk with
        | zero =>
          obtain rfl : i = L.length := by omega
          have hm1 := Hm.out
          have hd1 := Hd.out
          rw [List.take_of_length_le (Nat.le_refl _)] at hm1 hd1
          have Hm1 : Hid (m = JP.size (.obj l)) := Lib.hid (by rw [hm1]; exact HSZ.out.symm)
          have Hd1 : Hid (d + 1 = JP.deep (.obj l)) := Lib.hid (by rw [hd1]; exact HDP.out.symm)
          clear hm1 hd1 hik
          go_wp2_with fail
          go_ret2
          exact ⟨ret_two (by rw [← Hm1.out]) (by rw [← Hd1.out]; omega), rfl⟩
        | succ k =>
          have hil : i < L.length := by omega
          obtain ⟨y, hy⟩ : ∃ y, L[i]? = some y := ⟨L[i]'(by omega), List.getElem?_eq_getElem _⟩
          obtain ⟨b, o, c', hv, _, _, hbs, hcell⟩ := Hrow.out.form (by omega) (by omega)
          injection hv with u1 u2 u3
          subst u1
          clear u2 u3
          obtain ⟨ds, _, hcc, vx, rfl, hvx⟩ := hcell i y hy
          have e0 : wr.cell? ⟨b, o + i, none⟩ = some vx := by simpa using hcc 0 _ rfl
          have q1 : (0 : Int) ≤ (i : Int) := by omega
          have q2 : (i : Int) < (L.length : Int) := by omega
          have ht1 := sizeL_take hy
          have ht2 := deepL_take hy
          have ht3 := sizeL_le L (i + 1)
          have ht4 := deep_size.1 y
          have hs0 := Hsl.out
          have hm0 := Hm.out
          obtain ⟨sy, hsy⟩ : ∃ s, JP.size y = s := ⟨_, rfl⟩
          obtain ⟨dy, hdy⟩ : ∃ d, JP.deep y = d := ⟨_, rfl⟩
          rw [hsy] at ht1 ht4
          rw [hdy] at ht2 ht4
          have HC := Lib.hid (IH.out vx y wr hvx (by omega))
          rw [hsy, hdy] at HC
          have Hm2 : Hid (m + sy = 1 + JP.sizeL (L.take (i + 1))) := Lib.hid (by omega)
          have hm2 : m + sy ≤ 1048577 := by omega
          have hdy2 : dy ≤ 1048576 := by omega
          have Hd2 : Hid (max d dy = JP.deepL (L.take (i + 1))) := Lib.hid (by rw [ht2, ← Hd.out])
          clear ht1 ht2 ht3 ht4 hs0 hm0 hsy hdy hcell hcc hy hvx
          go_wp2_with fail
          refine HC.out.mono ?_
          rintro E w1 ⟨rfl, rfl⟩
          by_cases hdd : d ≤ dy
          · have p1 : (d : Int) ≤ (dy : Int) := by omega
            have hmx : max d dy = dy := by omega
            rw [hmx] at Hd2
            clear hmx
            go_wp2_with fail
            go_roundg k
            case measure => omega
            case rel => exact ⟨i + 1, m + sy, dy, by omega, by go_num, by go_num, by go_num, Hm2, Hd2, hm2, hdy2, rfl⟩
          · have p1 : ¬ (d : Int) ≤ (dy : Int) := by omega
            have hmx : max d dy = d := by omega
            rw [hmx] at Hd2
            clear hmx
            go_wp2_with fail
            go_roundg k
            case measure => omega
            case rel => exact ⟨i + 1, m + sy, d, by omega, by go_num, by go_num, by go_num, Hm2, Hd2, hm2, hd, rfl⟩
set_option maxRecDepth 100000 in
set_option maxHeartbeats 1600000 in
theorem same_any {n m : Nat} {v u : Value} {x y : JV} {w : World} (h : JvAt n [] w v x) (k : JvAt m [] w u y) (hx : (JP.text x).length ≤ 1048576) (hy : (JP.text y).length ≤ 1048576) (ht : TabOK w) :
    Calls Tryd.prog 28 #[v, u] w fun e w' => e = .returned (.bool (decide (JP.text x = JP.text y))) ∧ Below w.heap.size w w' := by
  have H := Lib.hid (text_any n v x w h hx ht)
  have K := Lib.hid (fun w' (hb : Below w.heap.size w w') => text_any m u y w' (k.below hb) hy (ht.below hb))
  obtain ⟨X, hX⟩ : ∃ X, JP.text x = X := ⟨_, rfl⟩
  obtain ⟨Y, hY⟩ : ∃ Y, JP.text y = Y := ⟨_, rfl⟩
  rw [hX] at H ⊢
  rw [hY] at K ⊢
  obtain ⟨bb, Hb⟩ : ∃ bb, Hid (decide (X = Y) = bb) := ⟨_, Lib.hid rfl⟩
  rw [Hb.out]
  have hbq : ((mkB X).toList == (mkB Y).toList) = bb := by
    rw [← Hb.out, ByteArray.toList_eq, ByteArray.toList_eq, mkB_list, mkB_list]
    by_cases e : X = Y
    · rw [decide_eq_true e, e]; simp
    · rw [decide_eq_false e, beq_eq_false_iff_ne]; exact e
  clear h k hx hy ht hX hY
  go_enter Tryd.func28, Tryd.ntmps28
  go_wp2_with fail
  refine H.out.mono ?_
  rintro E w1 ⟨rfl, hb1⟩
  have Hb1 := Lib.hid hb1
  clear hb1
  go_wp2_with fail
  refine (K.out w1 Hb1.out).mono ?_
  rintro E w2 ⟨rfl, hb2⟩
  have Hb2 := Lib.hid (Hb1.out.trans (hb2.mono Hb1.out.size))
  clear hb2
  go_wp2_with fail
  go_ret
  exact ⟨rfl, Hb2.out⟩
end Go.Proofs.YtaddcchpidpbfaaDoor
