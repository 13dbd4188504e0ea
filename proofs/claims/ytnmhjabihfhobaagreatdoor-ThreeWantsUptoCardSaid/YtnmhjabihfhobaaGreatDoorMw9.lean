/- Texts of ours joined: ThreeRead, ThreeMerge, SortPlain, SlStr, SortJ, ThreeLost, ThreeSum, ThreeAgainWalk, LeafSortLay, LeavesPlain, Gather, LeafSort, WantsPlain, Leaves. -/
import Derived.Lib.SlicesCompact
import Derived.Sort.Walk0
import Derived.Test.YtnmhjabihfhobaaGreatDoorShelf
import Derived.Lib.AppendIntMem
import Derived.Shelf.SlLaysF0
import Derived.Shelf.Small.Strs
import Derived.Test.YtnmhjabihfhobaaGreatDoorProg
import Derived.Deep.LoopGhost
import Derived.Shelf.SlSortCmp.NoneTotal
import Derived.Test.YtnmhjabihfhobaaGreatDoorMw8
set_option linter.unusedVariables false
set_option linter.unusedSimpArgs false
/- three.read: three documents are read. -/
namespace Go.Proofs.YtnmhjabihfhobaaGreatDoor
open Go.RowKit
open JP (JV Bs)

theorem one_form {n : Nat} {T : List Nat} {w : World} {v : Value} {x : JV} (h : JvAt n T w v x) : v.oneCell' = true := by
  rcases jv_form h with rfl | ⟨t, u, rfl⟩ <;> rfl
/-- the values that were read lie there, and look into no block of T -/
def Vals (T : List Nat) (w : World) (xs : List Value) (l : List ByteArray) : Prop := xs.length ≤ l.length ∧ ∀ (j : Nat) (u : Value) (s : ByteArray), xs[j]? = some u → l[j]? = some s → (JP.readL s.data.toList).2 = 0 ∧ ∃ n, JvAt n T w u (JP.readL s.data.toList).1
theorem Vals.keep {T : List Nat} {w w' : World} {xs : List Value} {l : List ByteArray} (h : Vals T w xs l) (hk : KeepT T w w') : Vals T w' xs l := ⟨h.1, fun j u s hu hs => by
  obtain ⟨h1, n, h2⟩ := h.2 j u s hu hs
  exact ⟨h1, n, h2.keepT hk⟩⟩
theorem Vals.fresh {T T' : List Nat} {w : World} {xs : List Value} {l : List ByteArray} (h : Vals T w xs l) (hs : ∀ b ∈ T', b ∈ T ∨ w.heap.size ≤ b) : Vals T' w xs l := ⟨h.1, fun j u s hu hs2 => by
  obtain ⟨h1, n, h2⟩ := h.2 j u s hu hs2
  exact ⟨h1, n, h2.fresh hs⟩⟩
theorem Vals.snoc {T : List Nat} {w : World} {xs : List Value} {l : List ByteArray} {v : Value} {s : ByteArray} {n : Nat} (h : Vals T w xs l) (hs : l[xs.length]? = some s) (he : (JP.readL s.data.toList).2 = 0) (hj : JvAt n T w v (JP.readL s.data.toList).1) : Vals T w (xs ++ [v]) l := by
  have hlt := (List.getElem?_eq_some_iff.1 hs).1
  refine ⟨by rw [List.length_append, List.length_singleton]; omega, fun j u t hu ht => ?_⟩
  by_cases hjl : j < xs.length
  · rw [List.getElem?_append_left hjl] at hu
    exact h.2 j u t hu ht
  · have hje : j = xs.length := by
      have := (List.getElem?_eq_some_iff.1 hu).1
      rw [List.length_append, List.length_singleton] at this
      omega
    subst hje
    rw [List.getElem?_append_right (Nat.le_refl _), Nat.sub_self] at hu
    obtain rfl : v = u := by simpa using hu
    rw [hs] at ht
    obtain rfl := Option.some.inj ht
    exact ⟨he, n, hj⟩
def errs : List ByteArray → Int
  | [] => 0
  | s :: r => if (JP.readL s.data.toList).2 = 0 then errs r else (JP.readL s.data.toList).2
theorem errs_at : ∀ {l : List ByteArray} {i : Nat} {s : ByteArray}, (∀ (j : Nat) (t : ByteArray), j < i → l[j]? = some t → (JP.readL t.data.toList).2 = 0) → l[i]? = some s → (JP.readL s.data.toList).2 ≠ 0 → errs l = (JP.readL s.data.toList).2
  | [], _, _, _, h, _ => by simp at h
  | x :: r, 0, s, _, h, hne => by
    simp only [List.getElem?_cons_zero, Option.some.injEq] at h
    subst h
    rw [errs, if_neg hne]
  | x :: r, i + 1, s, hall, h, hne => by
    rw [List.getElem?_cons_succ] at h
    rw [errs, if_pos (hall 0 x (by omega) rfl)]
    exact errs_at (fun j t hj ht => hall (j + 1) t (by omega) (by rw [List.getElem?_cons_succ]; exact ht)) h hne
theorem errs_none : ∀ {l : List ByteArray}, (∀ (j : Nat) (t : ByteArray), l[j]? = some t → (JP.readL t.data.toList).2 = 0) → errs l = 0
  | [], _ => rfl
  | x :: r, h => by
    rw [errs, if_pos (h 0 x rfl)]
    exact errs_none fun j t ht => h (j + 1) t (by rw [List.getElem?_cons_succ]; exact ht)
set_option maxRecDepth 100000 in
set_option maxHeartbeats 3200000 in
theorem reads_any (T0 : List Nat) (sv : Value) (l : List ByteArray) (w : World) (hs : StrAt w sv l) (hl : l.length ≤ 100) (hz : ∀ s ∈ l, s.size ≤ 1048576) (hT : ∀ b ∈ T0, b < w.heap.size) :
    Calls Tryz.prog 25 #[sv] w fun e w' => ∃ v, e = .returned (.tuple #[v, .int .i64 (errs l)]) ∧ (errs l = 0 → ∃ xs, xs.length = l.length ∧ RowAt RVal 1 w' v xs ∧ Vals T0 w' xs l) ∧ Below w.heap.size w w' := by
  obtain ⟨a0, c0, e1, _⟩ := hs.len
  subst e1
  obtain ⟨ln, hln⟩ : ∃ n, l.length = n := ⟨_, rfl⟩
  have HS := Lib.hid hs.row
  rw [hln] at HS ⊢
  have Hln := Lib.hid hln
  have Hz := Lib.hid hz
  have HT := Lib.hid hT
  have hln2 : ln ≤ 100 := by omega
  obtain ⟨ER, hER⟩ : ∃ n, errs l = n := ⟨_, rfl⟩
  rw [hER]
  have HER := Lib.hid hER
  obtain ⟨i0, hi0, hz0, hz1, hz2⟩ := info_parts Tryz.infoVal
  clear hs hl hz hT hln hER
  go_enter Tryz.func25, Tryz.ntmps25
  go_wp2_with fail
  go_loopg [11, 4] ln (fun k u11 u4 wr => ∃ (i : Nat) (xs : List Value) (T : List Nat), i + k = ln ∧ u11 = .int .i64 (i : Int) ∧ xs.length = i ∧ Hid (OwnAt RVal 1 wr w.heap.size 53 u4 xs) ∧ Hid (∀ b ∈ T0, b ∈ T) ∧ Hid (∀ b, u4.ownBlock = some b → b ∈ T) ∧ Hid (∀ b ∈ T, b < wr.heap.size) ∧ Hid (Vals T wr xs l) ∧ Hid (Below w.heap.size w wr))
  case atStart => exact ⟨0, [], T0, by omega, rfl, rfl, Lib.hid (OwnAt.nil _), Lib.hid (fun b h => h), Lib.hid (fun b h => by cases h), HT, Lib.hid ⟨Nat.zero_le _, fun j u s hu _ => by rw [List.getElem?_nil] at hu; cases hu⟩, Lib.hid (Below.refl _ _)⟩
  case round =>
    obtain ⟨i, xs, T, hik, rfl, hxi, HOwn, HTs, HTo, HTl, HV, HB⟩ := hrel
    cases gk with
    | zero =>
      have hil : i = ln := by omega
      subst hil
      have q9 : ¬ (i : Int) < (i : Int) := by omega
      have Hx := Lib.hid hxi
      have HE0 : Hid (ER = 0) := Lib.hid (by
        rw [← HER.out]
        refine errs_none fun j t ht => ?_
        have hj := (List.getElem?_eq_some_iff.1 ht).1
        have hjx : j < xs.length := by rw [Hx.out, ← Hln.out]; exact hj
        exact (HV.out.2 j xs[j] t (List.getElem?_eq_getElem hjx) ht).1)
      clear hxi
      go_wp2_with fail
      go_ret2
      exact ⟨_, by rw [HE0.out] <;> rfl, fun _ => ⟨xs, by first | exact Hx.out | exact Hx.out.trans Hln.out.symm, HOwn.out.row, HV.out.fresh fun b hb => .inl (HTs.out b hb)⟩, HB.out⟩
    | succ k =>
      have hil : i < ln := by omega
      obtain ⟨s, hsi⟩ : ∃ y, l[i]? = some y := ⟨l[i]'(by rw [Hln.out]; exact hil), List.getElem?_eq_getElem _⟩
      obtain ⟨b1, o1, c', hv1, _, _, hbs1, hcell1⟩ := HS.out.form (by rw [Hln.out]; omega) (by omega)
      injection hv1 with u1 u2 u3
      subst u1
      clear u2 u3
      obtain ⟨ds1, _, hcc1, hR1⟩ := hcell1 i s hsi
      obtain rfl : ds1 = [.string s] := hR1
      have e0 : wr.cell? ⟨b1, o1 + i, none⟩ = some (.string s) := (HB.out.cell (p := ⟨b1, _, none⟩) hbs1).trans (by simpa using hcc1 0 _ rfl)
      have q1 : (0 : Int) ≤ (i : Int) := by omega
      have q2 : (i : Int) < (ln : Int) := by omega
      have Hsi := Lib.hid hsi
      have Hx := Lib.hid hxi
      have HRd := Lib.hid (read_low s wr (Hz.out s (List.mem_of_getElem? hsi)))
      obtain ⟨er, her⟩ : ∃ e, (JP.readL s.data.toList).2 = e := ⟨_, rfl⟩
      rw [her] at HRd
      have Her := Lib.hid her
      clear hcell1 hcc1 hsi hxi her hbs1
      go_wp2_with fail
      refine HRd.out.mono ?_
      rintro E w2 ⟨v, rfl, ⟨n, hj⟩, hb⟩
      have hjT := hj T HTl.out
      have HJ := Lib.hid hjT
      have HV2 := Lib.hid (HV.out.keep (KeepT.of hb))
      have HB2 := Lib.hid (HB.out.trans (hb.mono HB.out.size))
      have HOwn2 := Lib.hid (HOwn.out.below stays_val hb)
      have Hsz := Lib.hid hb.size
      have One : Hid (v.oneCell' = true) := Lib.hid (one_form (hj [] (fun b h => by cases h)))
      clear hj hjT hb HRd e0 HV HOwn
      by_cases he : er = 0
      · subst he
        have hform : v = .nilIface ∨ ∃ t u, v = .iface t u := jv_form HJ.out
        rcases hform with rfl | ⟨ty, uv, rfl⟩
        · have hb7 : Below w2.heap.size w2 (w2.alloc (.cells #[Value.nilIface] 53)) := (Below.refl _ w2).alloc (Nat.le_refl _) _
          have HOwn7 := Lib.hid (HOwn2.out.below stays_val hb7)
          have HV7 := Lib.hid ((HV2.out.snoc (by rw [Hx.out]; exact Hsi.out) Her.out HJ.out).keep (KeepT.of hb7))
          have hr1 : RowAt RVal 1 (w2.alloc (.cells #[Value.nilIface] 53)) (.slice (some ⟨w2.heap.size, 0, none⟩) 1 1) [Value.nilIface] := RowAt.one (R := RVal) (x := .nilIface) (heap_alloc_new w2 _) rfl ⟨rfl, One.out⟩
          have HB7 := Lib.hid (HB2.out.trans (hb7.mono HB2.out.size))
          have Hs7 : Hid (wr.heap.size ≤ (w2.alloc (.cells #[Value.nilIface] 53)).heap.size) := Lib.hid (Nat.le_trans Hsz.out hb7.size)
          have bd1 : xs.length + [Value.nilIface].length ≤ maxLen := by unfold maxLen; rw [Hx.out]; simp only [List.length_cons, List.length_nil]; omega
          have bd2 : (xs.length + [Value.nilIface].length) * 16 ≤ 140737488355328 := by rw [Hx.out]; simp only [List.length_cons, List.length_nil]; omega
          clear hb7
          go_wp2_with (at_builtin; refine wpList_append_ownAt (R := RVal) (k := 1) (e := 53) (B := w.heap.size) (l := xs) (m := [Value.nilIface]) _ (by rfl) _ _ _ (by rfl) i0 _ 16 Tryz.underlying49 hi0 hz0 hz1 hz2 rfl (by omega) flat_val one_val _ (by rfl) HOwn7.out _ (by rfl) hr1 bd1 bd2 HB7.out.size ?_)
          intro v8 w8 hv8 hg8 hr8 hown8
          have HOwn8 := Lib.hid hv8
          have HB8 := Lib.hid (below_of_grown HB7.out HB7.out.size hg8 hr8)
          have hT8 : ∀ b ∈ T ++ v8.ownBlock.toList, b ∈ T ∨ (w2.alloc (.cells #[Value.nilIface] 53)).heap.size ≤ b := fun b hb => by
            rcases List.mem_append.1 hb with h | h
            · exact .inl h
            · rw [Option.mem_toList] at h
              rcases hown8 with e | e
              · exact .inl (HTo.out b (by rw [← e]; exact h))
              · rw [e] at h; cases h; exact .inr (Nat.le_of_eq (World.size_alloc _ _))
          have hk8 : KeepT (T ++ v8.ownBlock.toList) (w2.alloc (.cells #[Value.nilIface] 53)) w8 := ⟨hg8.os, hg8.tape, hg8.output, hg8.size, fun b hb hn => hg8.block b hb (fun e => hn (List.mem_append_left _ (HTo.out b e.symm)))⟩
          have HV8 := Lib.hid ((HV7.out.fresh hT8).keep hk8)
          have HTs8 : Hid (∀ b ∈ T0, b ∈ T ++ v8.ownBlock.toList) := Lib.hid (fun b hb => List.mem_append_left _ (HTs.out b hb))
          have HTo8 : Hid (∀ b, v8.ownBlock = some b → b ∈ T ++ v8.ownBlock.toList) := Lib.hid (fun b hb => List.mem_append_right _ (by rw [Option.mem_toList]; exact hb))
          have HTl8 : Hid (∀ b ∈ T ++ v8.ownBlock.toList, b < w8.heap.size) := Lib.hid (fun b hb => by
            rcases List.mem_append.1 hb with h | h
            · exact Nat.lt_of_lt_of_le (HTl.out b h) (Nat.le_trans Hs7.out hg8.size)
            · rw [Option.mem_toList] at h
              exact (hv8.at h).2.1)
          clear hv8 hg8 hr8 hown8 hT8 hk8 HOwn7 HV7 HB7 Hs7 hr1 bd1 bd2
          go_wp2_with fail
          go_roundg k
          case measure => omega
          case rel => exact ⟨i + 1, xs ++ [Value.nilIface], _, by omega, by go_num, by rw [List.length_append, List.length_singleton, Hx.out], HOwn8, HTs8, HTo8, HTl8, HV8, HB8⟩
        · have hb7 : Below w2.heap.size w2 (w2.alloc (.cells #[(Value.iface ty uv)] 53)) := (Below.refl _ w2).alloc (Nat.le_refl _) _
          have HOwn7 := Lib.hid (HOwn2.out.below stays_val hb7)
          have HV7 := Lib.hid ((HV2.out.snoc (by rw [Hx.out]; exact Hsi.out) Her.out HJ.out).keep (KeepT.of hb7))
          have hr1 : RowAt RVal 1 (w2.alloc (.cells #[(Value.iface ty uv)] 53)) (.slice (some ⟨w2.heap.size, 0, none⟩) 1 1) [(Value.iface ty uv)] := RowAt.one (R := RVal) (x := (Value.iface ty uv)) (heap_alloc_new w2 _) rfl ⟨rfl, One.out⟩
          have HB7 := Lib.hid (HB2.out.trans (hb7.mono HB2.out.size))
          have Hs7 : Hid (wr.heap.size ≤ (w2.alloc (.cells #[(Value.iface ty uv)] 53)).heap.size) := Lib.hid (Nat.le_trans Hsz.out hb7.size)
          have bd1 : xs.length + [(Value.iface ty uv)].length ≤ maxLen := by unfold maxLen; rw [Hx.out]; simp only [List.length_cons, List.length_nil]; omega
          have bd2 : (xs.length + [(Value.iface ty uv)].length) * 16 ≤ 140737488355328 := by rw [Hx.out]; simp only [List.length_cons, List.length_nil]; omega
          clear hb7
          go_wp2_with (at_builtin; refine wpList_append_ownAt (R := RVal) (k := 1) (e := 53) (B := w.heap.size) (l := xs) (m := [(Value.iface ty uv)]) _ (by rfl) _ _ _ (by rfl) i0 _ 16 Tryz.underlying49 hi0 hz0 hz1 hz2 rfl (by omega) flat_val one_val _ (by rfl) HOwn7.out _ (by rfl) hr1 bd1 bd2 HB7.out.size ?_)
          intro v8 w8 hv8 hg8 hr8 hown8
          have HOwn8 := Lib.hid hv8
          have HB8 := Lib.hid (below_of_grown HB7.out HB7.out.size hg8 hr8)
          have hT8 : ∀ b ∈ T ++ v8.ownBlock.toList, b ∈ T ∨ (w2.alloc (.cells #[(Value.iface ty uv)] 53)).heap.size ≤ b := fun b hb => by
            rcases List.mem_append.1 hb with h | h
            · exact .inl h
            · rw [Option.mem_toList] at h
              rcases hown8 with e | e
              · exact .inl (HTo.out b (by rw [← e]; exact h))
              · rw [e] at h; cases h; exact .inr (Nat.le_of_eq (World.size_alloc _ _))
          have hk8 : KeepT (T ++ v8.ownBlock.toList) (w2.alloc (.cells #[(Value.iface ty uv)] 53)) w8 := ⟨hg8.os, hg8.tape, hg8.output, hg8.size, fun b hb hn => hg8.block b hb (fun e => hn (List.mem_append_left _ (HTo.out b e.symm)))⟩
          have HV8 := Lib.hid ((HV7.out.fresh hT8).keep hk8)
          have HTs8 : Hid (∀ b ∈ T0, b ∈ T ++ v8.ownBlock.toList) := Lib.hid (fun b hb => List.mem_append_left _ (HTs.out b hb))
          have HTo8 : Hid (∀ b, v8.ownBlock = some b → b ∈ T ++ v8.ownBlock.toList) := Lib.hid (fun b hb => List.mem_append_right _ (by rw [Option.mem_toList]; exact hb))
          have HTl8 : Hid (∀ b ∈ T ++ v8.ownBlock.toList, b < w8.heap.size) := Lib.hid (fun b hb => by
            rcases List.mem_append.1 hb with h | h
            · exact Nat.lt_of_lt_of_le (HTl.out b h) (Nat.le_trans Hs7.out hg8.size)
            · rw [Option.mem_toList] at h
              exact (hv8.at h).2.1)
          clear hv8 hg8 hr8 hown8 hT8 hk8 HOwn7 HV7 HB7 Hs7 hr1 bd1 bd2
          go_wp2_with fail
          go_roundg k
          case measure => omega
          case rel => exact ⟨i + 1, xs ++ [(Value.iface ty uv)], _, by omega, by go_num, by rw [List.length_append, List.length_singleton, Hx.out], HOwn8, HTs8, HTo8, HTl8, HV8, HB8⟩
      · have n1 : (er != 0) = true := by rw [bne_iff_ne]; exact he
        have HE1 : Hid (ER = er) := Lib.hid (by
          rw [← HER.out, ← Her.out]
          refine errs_at (i := i) (fun j t hj ht => ?_) Hsi.out (by rw [Her.out]; exact he)
          have hjx : j < xs.length := by rw [Hx.out]; exact hj
          exact (HV2.out.2 j xs[j] t (List.getElem?_eq_getElem hjx) ht).1)
        have Hne := Lib.hid he
        clear he
        go_wp2_with fail
        go_ret2
        exact ⟨_, by rw [HE1.out] <;> rfl, fun h => absurd (HE1.out.symm.trans h) Hne.out, HB2.out⟩
end Go.Proofs.YtnmhjabihfhobaaGreatDoor
/- three.Merge: its contract. -/
namespace Go.Proofs.YtnmhjabihfhobaaGreatDoor
open Go.RowKit
open JP (JV Bs)

theorem sees3_none (w0 : World) : Sees3 28 #[] (fun _ _ _ => True) w0 := by
  intro d T way sv w _ hT _ _ hb _
  have HB := Lib.hid hb
  have HT := Lib.hid hT
  clear hb hT
  show Calls Tryz.prog 28 #[sv] w _
  go_enter Tryz.func28, Tryz.ntmps28
  go_wp2_with fail
  go_end0
  exact ⟨rfl, T, trivial, KE.refl HT.out, HB.out⟩
theorem errs3 (a b c : ByteArray) : errs [a, b, c] = JP.readE3 a.data.toList b.data.toList c.data.toList := by
  unfold JP.readE3
  rw [errs, errs, errs, errs]
  by_cases h1 : (JP.readL a.data.toList).2 = 0
  · rw [if_pos h1, if_pos h1]
    by_cases h2 : (JP.readL b.data.toList).2 = 0
    · rw [if_pos h2, if_pos h2]
      by_cases h3 : (JP.readL c.data.toList).2 = 0
      · rw [if_pos h3, h3]
      · rw [if_neg h3]
    · rw [if_neg h2, if_neg h2]
  · rw [if_neg h1, if_neg h1]
/-- three texts in a block -/
theorem three_strs {w : World} {g : Nat} {t : TypeId} {a b c : ByteArray} (h : w.heap[g]? = some (.cells #[.string a, .string b, .string c] t (0, 0))) : StrAt w (.slice (some ⟨g, 0, none⟩) 3 3) [a, b, c] := by
  refine .inr ⟨⟨g, 0, none⟩, 3, rfl, Nat.le_refl _, by decide, fun j x hx => ?_⟩
  have hc := cell_block h j
  rw [add_plain', Nat.zero_add, hc]
  rcases j with _ | _ | _ | j
  · simpa using hx
  · simpa using hx
  · simpa using hx
  · simp at hx
def MergeAt (t : Bs) (c : Int) (w : World) (e : Ending) (w' : World) : Prop := e = .returned (.tuple #[.string (mkB t), .int .i64 c]) ∧ Below w.heap.size w w'
set_option maxRecDepth 100000 in
set_option maxHeartbeats 3200000 in
theorem merge3_any (a b c : ByteArray) (w : World) (ha : a.size ≤ 1048576) (hb : b.size ≤ 1048576) (hc : c.size ≤ 1048576) (ht : TabOK w) :
    Calls Tryz.prog 11 #[.string a, .string b, .string c] w (MergeAt (JP.merge3T a.data.toList b.data.toList c.data.toList) (JP.merge3E a.data.toList b.data.toList c.data.toList) w) := by
  obtain ⟨w1, hw⟩ : ∃ w1, w1 = w.alloc (.cells #[.string a, .string b, .string c] 9) := ⟨_, rfl⟩
  have hb1 : Below w.heap.size w w1 := by rw [hw]; exact (Below.refl _ w).alloc (Nat.le_refl _) _
  have hst : StrAt w1 (.slice (some ⟨w.heap.size, 0, none⟩) 3 3) [a, b, c] := three_strs (by rw [hw]; exact heap_alloc_new w _)
  have HR := Lib.hid (reads_any [] _ [a, b, c] w1 hst (by show 3 ≤ 100; decide) (fun s hs => by
    rcases List.mem_cons.1 hs with rfl | hs
    · exact ha
    · rcases List.mem_cons.1 hs with rfl | hs
      · exact hb
      · rw [List.mem_singleton.1 hs]; exact hc) (fun b h => by cases h))
  rw [errs3] at HR
  obtain ⟨E0, hE0⟩ : ∃ e, JP.readE3 a.data.toList b.data.toList c.data.toList = e := ⟨_, rfl⟩
  obtain ⟨T, hT⟩ : ∃ e, JP.merge3T a.data.toList b.data.toList c.data.toList = e := ⟨_, rfl⟩
  obtain ⟨E, hE⟩ : ∃ e, JP.merge3E a.data.toList b.data.toList c.data.toList = e := ⟨_, rfl⟩
  rw [hT, hE]
  unfold JP.merge3T at hT
  unfold JP.merge3E at hE
  rw [hE0] at HR hT hE
  have HB1 := Lib.hid hb1
  have HTb := Lib.hid (ht.below hb1)
  have hok : E0 = 0 → ∃ x y z, JP.readL a.data.toList = (x, 0) ∧ JP.readL b.data.toList = (y, 0) ∧ JP.readL c.data.toList = (z, 0) ∧ JP.Fit x ∧ JP.Fit y ∧ JP.Fit z := fun h => JP.read3_ok (hE0.trans h)
  clear hb1 hst ha hb hc ht
  go_enter Tryz.func11, Tryz.ntmps11
  go_wp2_with fail
  rw [← hw]
  clear hw
  refine HR.out.mono ?_
  rintro E9 w2 ⟨v, rfl, hx, hb⟩
  have HB2 := Lib.hid (HB1.out.trans (hb.mono HB1.out.size))
  by_cases he : E0 = 0
  · subst he
    obtain ⟨x, y, z, r1, r2, r3, f1, f2, f3⟩ := hok rfl
    obtain ⟨xs, hxl, hrow, hv⟩ := hx rfl
    have hT2 := ((HTb.out).below hb)
    obtain ⟨va, vb, vc, rfl⟩ : ∃ va vb vc, xs = [va, vb, vc] := by
      match xs, hxl with
      | [p, q, r], _ => exact ⟨p, q, r, rfl⟩
    obtain ⟨_, na, ja⟩ := hv.2 0 va a rfl rfl
    obtain ⟨_, nb, jb⟩ := hv.2 1 vb b rfl rfl
    obtain ⟨_, nc, jc⟩ := hv.2 2 vc c rfl rfl
    rw [r1] at ja
    rw [r2] at jb
    rw [r3] at jc
    rw [if_pos rfl, r1, r2, r3] at hT hE
    dsimp only at hT hE ja jb jc
    obtain ⟨bk, off, cap, hv9, _, _, hbk, hcell⟩ := hrow.form (by show 0 < 3; decide) (by decide)
    subst hv9
    have cellAt : ∀ (j : Nat) (u : Value), [va, vb, vc][j]? = some u → w2.cell? ⟨bk, off + j, none⟩ = some u := fun j u hu => by
      obtain ⟨cs, _, hcc, hR⟩ := hcell j u hu
      obtain ⟨hR, _⟩ := hR
      subst hR
      simpa using hcc 0 _ rfl
    have e0 : w2.cell? ⟨bk, off, none⟩ = some va := cellAt 0 va rfl
    have e1 : w2.cell? ⟨bk, off + 1, none⟩ = some vb := cellAt 1 vb rfl
    have e2 : w2.cell? ⟨bk, off + 2, none⟩ = some vc := cellAt 2 vc rfl
    have hlx := f1.2.2.2
    have hly := f2.2.2.2
    have hlz := f3.2.2.2
    have ep : ∀ (a : Array Value) (w : World), (callFunc 28 a).run Tryz.prog w = .ok (.enter 28 a) w := fun a w => by kernel_rfl
    have HIn := Lib.hid (fun (w' : World) (hb' : Below w2.heap.size w2 w') => three0_any (f := 28) (I := fun _ _ _ => True) (w0 := w') ep (fun _ _ _ _ _ _ => trivial) (sees3_none w') nc na nb [] va vb vc (.slice none 0 0) x y z [] [] w' (ja.below hb') (jb.below hb') (jc.below hb') f2.1 f3.1 (by omega) (by omega) (by show 0 + (JP.text z).length ≤ 10000; omega) (StrAt.nil w') (fun h => absurd rfl h) trivial (fun b h => by cases h) (Below.refl _ _) (by show 0 + 4000 * (JP.text z).length ≤ 40000000; omega))
    obtain ⟨fw, fl⟩ := JP.into3_fits (x := x) f2 f3
    obtain ⟨RR, hRR⟩ : ∃ r, JP.into3 x y z = r := ⟨_, rfl⟩
    rw [hRR] at HIn hT hE fw fl
    have HTl := Lib.hid (fun (k : Nat) (u : Value) (w' : World) (hj : JvAt k [] w' u RR) (ht : TabOK w') => tell_any k u RR w' hj (by omega) (by have := JP.size_le_len RR; omega) ht)
    rw [hT, hE] at HTl
    have HTb2 := Lib.hid hT2
    clear hv hcell hrow cellAt ja jb jc f1 f2 f3 hlx hly hlz r1 r2 r3 hT2 hb hx hok hT hE ep fw fl hRR hxl hE0
    go_upto_region 4 with fail
    refine wp_region_relB 14 (fun ii U w' => match ii with
      | 0 => U 0 = .slice (some ⟨bk, off, none⟩) 3 cap
      | 1 => U 1 = .pointer (some ⟨bk, off, none⟩)
      | 2 => U 2 = va
      | 3 => U 3 = .slice (some ⟨bk, off, none⟩) 3 cap
      | 4 => U 4 = .pointer (some ⟨bk, off + 1, none⟩)
      | 5 => U 5 = vb
      | 6 => U 6 = .slice (some ⟨bk, off, none⟩) 3 cap
      | 7 => U 7 = .pointer (some ⟨bk, off + 2, none⟩)
      | 8 => U 8 = vc
      | 9 => ∃ k, JvAt k [] w' (U 9) RR
      | 10 => U 10 = .tuple #[.string (mkB T), .int .i64 E]
      | 11 => U 11 = .string (mkB T)
      | 12 => U 12 = .int .i64 E
      | 13 => U 13 = .string (mkB T)
      | _ => True)
      (fun | 1 => [0] | 2 => [1] | 4 => [3] | 5 => [4] | 7 => [6] | 8 => [7] | 9 => [2, 5, 8] | 10 => [9] | 11 => [10] | 12 => [10] | 13 => [11] | _ => []) (by kernel_rfl) (by kernel_rfl) ?_ ⟨?_, ?_, ?_, ?_, ?_, ?_, ?_, ?_, ?_, ?_, ?_, ?_, ?_, ?_, trivial⟩ ?_
    · intro jj U wa wb hb h
      match jj, h with
      | 0, h => exact h
      | 1, h => exact h
      | 2, h => exact h
      | 3, h => exact h
      | 4, h => exact h
      | 5, h => exact h
      | 6, h => exact h
      | 7, h => exact h
      | 8, h => exact h
      | 9, ⟨k, h⟩ => exact ⟨k, h.below hb⟩
      | 10, h => exact h
      | 11, h => exact h
      | 12, h => exact h
      | 13, h => exact h
      | _ + 14, h => trivial
    · intro y' w' hb hd
      refine owes_here (.slice (some ⟨bk, off, none⟩) 3 cap) (by rfl) ?_ rfl
      simp only [putAll, List.take_succ_cons, List.take_zero]
      go_simp
    · intro y' w' hb hd
      have h0 : y' 0 = .slice (some ⟨bk, off, none⟩) 3 cap := hd 0 (by simp)
      refine owes_here (.pointer (some ⟨bk, off, none⟩)) (by rfl) ?_ rfl
      simp only [putAll, List.take_succ_cons, List.take_zero]
      go_simp
    · intro y' w' hb hd
      have h1 : y' 1 = .pointer (some ⟨bk, off, none⟩) := hd 1 (by simp)
      have hb6 : Below w2.heap.size w2 w' := (Below.refl w2.heap.size w2).drew.trans hb
      have d0 : w'.cell? ⟨bk, off, none⟩ = some va := (hb6.cell (p := ⟨bk, _, none⟩) hbk).trans e0
      refine owes_here (va) (by rfl) ?_ rfl
      simp only [putAll, List.take_succ_cons, List.take_zero]
      go_simp
    · intro y' w' hb hd
      refine owes_here (.slice (some ⟨bk, off, none⟩) 3 cap) (by rfl) ?_ rfl
      simp only [putAll, List.take_succ_cons, List.take_zero]
      go_simp
    · intro y' w' hb hd
      have h3 : y' 3 = .slice (some ⟨bk, off, none⟩) 3 cap := hd 3 (by simp)
      refine owes_here (.pointer (some ⟨bk, off + 1, none⟩)) (by rfl) ?_ rfl
      simp only [putAll, List.take_succ_cons, List.take_zero]
      go_simp
    · intro y' w' hb hd
      have h4 : y' 4 = .pointer (some ⟨bk, off + 1, none⟩) := hd 4 (by simp)
      have hb6 : Below w2.heap.size w2 w' := (Below.refl w2.heap.size w2).drew.trans hb
      have d0 : w'.cell? ⟨bk, off + 1, none⟩ = some vb := (hb6.cell (p := ⟨bk, _, none⟩) hbk).trans e1
      refine owes_here (vb) (by rfl) ?_ rfl
      simp only [putAll, List.take_succ_cons, List.take_zero]
      go_simp
    · intro y' w' hb hd
      refine owes_here (.slice (some ⟨bk, off, none⟩) 3 cap) (by rfl) ?_ rfl
      simp only [putAll, List.take_succ_cons, List.take_zero]
      go_simp
    · intro y' w' hb hd
      have h6 : y' 6 = .slice (some ⟨bk, off, none⟩) 3 cap := hd 6 (by simp)
      refine owes_here (.pointer (some ⟨bk, off + 2, none⟩)) (by rfl) ?_ rfl
      simp only [putAll, List.take_succ_cons, List.take_zero]
      go_simp
    · intro y' w' hb hd
      have h7 : y' 7 = .pointer (some ⟨bk, off + 2, none⟩) := hd 7 (by simp)
      have hb6 : Below w2.heap.size w2 w' := (Below.refl w2.heap.size w2).drew.trans hb
      have d0 : w'.cell? ⟨bk, off + 2, none⟩ = some vc := (hb6.cell (p := ⟨bk, _, none⟩) hbk).trans e2
      refine owes_here (vc) (by rfl) ?_ rfl
      simp only [putAll, List.take_succ_cons, List.take_zero]
      go_simp
    · intro y' w' hb hd
      have h2 : y' 2 = va := hd 2 (by simp)
      have h5 : y' 5 = vb := hd 5 (by simp)
      have h8 : y' 8 = vc := hd 8 (by simp)
      have hb6 : Below w2.heap.size w2 w' := (Below.refl w2.heap.size w2).drew.trans hb
      refine owes_call 27 #[va, vb, vc, .slice none 0 0, .func (.func 28) #[] #[]] (by rfl) ?_ ((HIn.out w' hb6).mono ?_)
      · simp only [putAll, List.take_succ_cons, List.take_zero]
        go_simp
      · rintro _ w7 ⟨u7, T7, rfl, ⟨k7, hj7⟩, _, _, hb7⟩
        exact ⟨_, rfl, ⟨k7, hj7.fresh (fun b h => by cases h)⟩, hb7⟩
    · intro y' w' hb hd
      obtain ⟨k9, h9⟩ : ∃ k, JvAt k [] w' (y' 9) RR := hd 9 (by simp)
      have hb6 : Below w2.heap.size w2 w' := (Below.refl w2.heap.size w2).drew.trans hb
      obtain ⟨u9, hu9⟩ : ∃ u, y' 9 = u := ⟨_, rfl⟩
      rw [hu9] at h9
      refine owes_call 26 #[u9] (by rfl) ?_ ((HTl.out k9 u9 w' h9 (HTb2.out.below hb6)).mono ?_)
      · simp only [putAll, List.take_succ_cons, List.take_zero]
        go_simp
      · rintro _ w7 ⟨rfl, hb7⟩
        exact ⟨_, rfl, rfl, hb7⟩
    · intro y' w' hb hd
      have h10 : y' 10 = .tuple #[.string (mkB T), .int .i64 E] := hd 10 (by simp)
      refine owes_here (.string (mkB T)) (by rfl) ?_ rfl
      simp only [putAll, List.take_succ_cons, List.take_zero]
      go_simp
    · intro y' w' hb hd
      have h10 : y' 10 = .tuple #[.string (mkB T), .int .i64 E] := hd 10 (by simp)
      refine owes_here (.int .i64 E) (by rfl) ?_ rfl
      simp only [putAll, List.take_succ_cons, List.take_zero]
      go_simp
    · intro y' w' hb hd
      have h11 : y' 11 = .string (mkB T) := hd 11 (by simp)
      refine owes_here (.string (mkB T)) (by rfl) ?_ rfl
      simp only [putAll, List.take_succ_cons, List.take_zero]
      go_simp
    · intro y' w' hb hR
      have h12 : y' 12 = .int .i64 E := hR 12 (by omega)
      have h13 : y' 13 = .string (mkB T) := hR 13 (by omega)
      have hb6 : Below w2.heap.size w2 w' := (Below.refl w2.heap.size w2).drew.trans hb
      have HB6 := Lib.hid (HB2.out.trans (hb6.mono HB2.out.size))
      clear hR hb hb6
      simp only [putAll, List.take_succ_cons, List.take_zero, List.drop_succ_cons, List.drop_zero]
      rw [h12, h13]
      clear h12 h13
      try simp only [Act.put, List.setIfInBounds_toArray, List.set_cons_zero, List.set_cons_succ]
      go_wp2_with fail
      go_ret2
      exact ⟨rfl, HB6.out⟩
  · have n0 : (E0 != 0) = true := by rw [bne_iff_ne]; exact he
    rw [if_neg he] at hT hE
    have HT := Lib.hid hT
    have HE := Lib.hid hE
    clear he hx hb hok hT hE hE0
    go_wp2_with fail
    go_ret2
    exact ⟨by first | (rw [← HT.out, ← HE.out] <;> rfl), HB2.out⟩
end Go.Proofs.YtnmhjabihfhobaaGreatDoor
/- Sorted texts, each once: rising. Any program. -/
namespace Go.Proofs.YtnmhjabihfhobaaGreatDoor
open Go.RowKit Go.Sort Go.Proofs

def leL (x y : List UInt8) : Bool := decide (x ≤ y)
theorem leL_eq (x y : List UInt8) : leL x y = !Op.bytesLess y x := by
  unfold leL
  rw [bytesLess_eq]
  by_cases h : y < x
  · rw [decide_eq_true h, decide_eq_false (fun hle : x ≤ y => hle h)]; rfl
  · rw [decide_eq_false h, decide_eq_true (show x ≤ y from h)]; rfl
theorem leL_trans (x y z : List UInt8) (h : leL x y = true) (k : leL y z = true) : leL x z = true := by
  rw [leL_eq, Bool.not_eq_true'] at *
  cases hz : Op.bytesLess z x with
  | false => rfl
  | true =>
    cases hy : Op.bytesLess y z with
    | true => rw [bl_trans y z x hy hz] at h; cases h
    | false =>
      have := bl_total y z hy k
      subst this
      rw [hz] at h; cases h
theorem leL_total (x y : List UInt8) : (leL x y || leL y x) = true := by
  rw [leL_eq, leL_eq]
  cases h : Op.bytesLess y x with
  | false => rfl
  | true => rw [bl_asymm h]; rfl
def sortedL (l : List (List UInt8)) : List (List UInt8) := l.mergeSort fun x y => decide (x ≤ y)
theorem sorted_pair (l : List (List UInt8)) : (sortedL l).Pairwise fun x y => leL x y = true := List.pairwise_mergeSort (le := leL) leL_trans leL_total l
theorem sorted_mem (l : List (List UInt8)) (x : List UInt8) : x ∈ sortedL l ↔ x ∈ l := List.mem_mergeSort
theorem sorted_len (l : List (List UInt8)) : (sortedL l).length = l.length := List.length_mergeSort l
/-- each once -/
theorem compact_rising (zs : List (List UInt8)) (hs : zs.Pairwise fun x y => leL x y = true) :
    (Lib.compact zs).Pairwise (fun x y => Op.bytesLess x y = true) ∧ ∀ x, x ∈ Lib.compact zs ↔ x ∈ zs := by
  have hget : ∀ i j, i < j → j < zs.length → leL (zs.toArray[i]!) (zs.toArray[j]!) = true := fun i j hij hj => by
    have := List.pairwise_iff_getElem.1 hs i j (by omega) hj hij
    rwa [getElem!_pos zs.toArray i (by simpa using (by omega : i < zs.length)), getElem!_pos zs.toArray j (by simpa using hj)]
  have key : ∀ m, m ≤ zs.length → (Lib.compactUpTo zs.toArray m).Pairwise (fun x y => Op.bytesLess x y = true) ∧ (∀ x ∈ Lib.compactUpTo zs.toArray m, ∃ j, j < m ∧ x = zs.toArray[j]!) ∧ (∀ j, j < m → zs.toArray[j]! ∈ Lib.compactUpTo zs.toArray m) := fun m => by
    induction m with
    | zero => intro _; exact ⟨by simp [Lib.compactUpTo], by simp [Lib.compactUpTo], fun j hj => by omega⟩
    | succ m ih =>
      intro hm
      obtain ⟨h1, h2, h3⟩ := ih (by omega)
      rw [Lib.compactUpTo_succ]
      by_cases h0 : m = 0
      · subst h0
        rw [if_pos (Lib.keeps_lt_one _ 0 (by omega))]
        have : Lib.compactUpTo zs.toArray 0 = [] := by simp [Lib.compactUpTo]
        rw [this, List.nil_append]
        refine ⟨by simp, fun x hx => ⟨0, by omega, by simpa using hx⟩, fun j hj => ?_⟩
        obtain rfl : j = 0 := by omega
        simp
      · by_cases he : zs.toArray[m]! = zs.toArray[m - 1]!
        · rw [Lib.keeps_neg (by omega) he]
          simp only [Bool.false_eq_true, if_false, List.append_nil]
          refine ⟨h1, fun x hx => ?_, fun j hj => ?_⟩
          · obtain ⟨j, hj, e⟩ := h2 x hx
            exact ⟨j, by omega, e⟩
          · by_cases hjm : j = m
            · subst hjm
              rw [he]
              exact h3 _ (by omega)
            · exact h3 j (by omega)
        · rw [Lib.keeps_pos he, if_pos rfl]
          refine ⟨?_, fun x hx => ?_, fun j hj => ?_⟩
          · rw [List.pairwise_append]
            refine ⟨h1, by simp, fun a ha b hb => ?_⟩
            obtain rfl : b = zs.toArray[m]! := by simpa using hb
            obtain ⟨j, hj, rfl⟩ := h2 a ha
            have h4 : Op.bytesLess (zs.toArray[m - 1]!) (zs.toArray[m]!) = true := by
              have h5 := hget (m - 1) m (by omega) (by omega)
              rw [leL_eq, Bool.not_eq_true'] at h5
              cases h6 : Op.bytesLess (zs.toArray[m - 1]!) (zs.toArray[m]!) with
              | true => rfl
              | false => exact absurd (bl_total _ _ h6 h5).symm he
            by_cases hjm : j = m - 1
            · rw [hjm]; exact h4
            · have h5 := hget j (m - 1) (by omega) (by omega)
              rw [leL_eq, Bool.not_eq_true'] at h5
              cases h6 : Op.bytesLess (zs.toArray[j]!) (zs.toArray[m - 1]!) with
              | true => exact bl_trans _ _ _ h6 h4
              | false => rw [bl_total _ _ h6 h5]; exact h4
          · rcases List.mem_append.1 hx with hx | hx
            · obtain ⟨j, hj, e⟩ := h2 x hx
              exact ⟨j, by omega, e⟩
            · exact ⟨m, by omega, by simpa using hx⟩
          · by_cases hjm : j = m
            · subst hjm; simp
            · exact List.mem_append_left _ (h3 j (by omega))
  obtain ⟨h1, h2, h3⟩ := key zs.length (Nat.le_refl _)
  refine ⟨h1, fun x => ⟨fun hx => ?_, fun hx => ?_⟩⟩
  · obtain ⟨j, hj, rfl⟩ := h2 x hx
    rw [getElem!_pos zs.toArray j (by simpa using hj)]
    simp
  · obtain ⟨j, hj, rfl⟩ := List.getElem_of_mem hx
    have := h3 j hj
    rw [getElem!_pos zs.toArray j (by simpa using hj)] at this
    exact this
end Go.Proofs.YtnmhjabihfhobaaGreatDoor
/- The library's slices functions at texts, in our words. -/
namespace Go.Proofs.YtnmhjabihfhobaaGreatDoor
open Go.RowKit

theorem strAt_getD {l : List ByteArray} {j : Nat} (hj : j < l.length) : l[j]? = some (l.getD j ByteArray.empty) := by simp [List.getD, hj]
theorem idx_none {l : List ByteArray} {x : ByteArray} (h : x ∉ l) : Lib.idxOfS l x = -1 := by
  have := Lib.idxOfS_miss l l.length x fun j hj e => h (by rw [← e]; exact List.mem_of_getElem? (strAt_getD hj))
  rwa [List.take_of_length_le (Nat.le_refl _)] at this
theorem idx_at {l : List ByteArray} {x : ByteArray} {k : Nat} (hk : l[k]? = some x) (hn : l.Nodup) : Lib.idxOfS l x = (k : Int) := by
  have hkl := (List.getElem?_eq_some_iff.1 hk).1
  have hx : l.getD k ByteArray.empty = x := by simp [List.getD, hk]
  have := Lib.idxOfS_hit l l.length k x hkl (Nat.le_refl _) hx fun j hj e => by
    have h1 : l[j]? = some x := by rw [← e]; exact strAt_getD (by omega)
    have h2 := (List.getElem?_inj (by omega : j < l.length) hn).1 (h1.trans hk.symm)
    omega
  rwa [List.take_of_length_le (Nat.le_refl _)] at this

/-- stores into a row of the call's own, one behind the other -/
theorem setCells_rowS (g : Nat) (t : TypeId) : ∀ (vs : List Value) (i : Nat) (cur : Array Value) (w : World), w.heap[g]? = some (.cells cur t (0, 0)) → i + vs.length ≤ cur.size →
    ∃ cur', (w.setCells g i vs).heap[g]? = some (.cells cur' t (0, 0)) ∧ cur'.size = cur.size ∧ (∀ j, j < i → cur'[j]? = cur[j]?) ∧ (∀ j u, vs[j]? = some u → cur'[i + j]? = some u) ∧ Touch g w (w.setCells g i vs)
  | [], i, cur, w, hg, _ => ⟨cur, hg, rfl, fun _ _ => rfl, fun j u h => by simp at h, ⟨rfl, rfl, rfl, rfl, fun _ _ => rfl⟩⟩
  | v :: r, i, cur, w, hg, hl => by
    simp only [List.length_cons] at hl
    obtain ⟨h1, h2⟩ := touch_setCell (w := w) (i := i) (v := v) hg
    obtain ⟨cur', g1, g2, g3, g4, g5⟩ := setCells_rowS g t r (i + 1) _ _ h1 (by simp; omega)
    refine ⟨cur', g1, by simpa using g2, fun j hj => ?_, fun j u hu => ?_, ?_⟩
    · rw [g3 j (by omega), Array.getElem?_setIfInBounds, if_neg (by omega)]
    · cases j with
      | zero =>
        simp only [List.getElem?_cons_zero, Option.some.injEq] at hu
        subst hu
        rw [Nat.add_zero, g3 i (by omega), Array.getElem?_setIfInBounds, if_pos rfl, if_pos (by omega)]
      | succ j =>
        have := g4 j u (by simpa using hu)
        rwa [show i + 1 + j = i + (j + 1) by omega] at this
    · show Touch g w ((w.setCell ⟨g, i, none⟩ v).setCells g (i + 1) r)
      exact ⟨g5.os.trans h2.os, g5.tape.trans h2.tape, g5.output.trans h2.output, g5.size.trans h2.size, fun b hb => (g5.other b hb).trans (h2.other b hb)⟩
theorem eraseIdx_get {β : Type} (l : List β) (i j : Nat) : (l.eraseIdx i)[j]? = if j < i then l[j]? else l[j + 1]? := List.getElem?_eraseIdx ..
theorem own_strs {w : World} {B : Nat} {e : TypeId} {v : Value} {l : List ByteArray} (h : OwnAt RString 1 w B e v l) : w.ownsRow B e 1 v l.length (strs l) := by
  obtain ⟨css, h1, h2, h3, h4⟩ := h
  have : css.flatten = strs l := by
    apply List.ext_getElem?
    intro j
    by_cases hj : j < l.length
    · have hcs : css[j]? = some css[j] := List.getElem?_eq_getElem (by omega)
      have hR : css[j] = [.string l[j]] := h4 j _ _ hcs (List.getElem?_eq_getElem hj)
      have := get_flat h2 (j := j) (i := 0) hcs (u := .string l[j]) (by rw [hR]; rfl)
      rw [Nat.mul_one, Nat.add_zero] at this
      rw [this]
      simp [strs, hj]
    · rw [List.getElem?_eq_none (by rw [flat_len h2]; omega), List.getElem?_eq_none (by rw [strs_length]; omega)]
  rwa [this] at h3
theorem ownAt_strs {w : World} {B n : Nat} {e : TypeId} {v : Value} {l : List ByteArray} (h : w.ownsRow B e 1 v n (strs l)) (hn : l.length = n) : OwnAt RString 1 w B e v l := by
  subst hn
  refine ⟨l.map fun x => [.string x], by simp, fun cs hcs => ?_, ?_, fun j cs x hcs hx => ?_⟩
  · obtain ⟨x, _, rfl⟩ := List.mem_map.1 hcs; rfl
  · have key : ∀ m : List ByteArray, (m.map fun x => [Value.string x]).flatten = strs m := fun m => by
      induction m with
      | nil => rfl
      | cons y r ih => rw [List.map_cons, List.flatten_cons, ih]; rfl
    rw [key]; exact h
  · simp only [List.getElem?_map, hx, Option.map_some, Option.some.injEq] at hcs
    exact hcs.symm
theorem deleteAt_any (v : Value) (l : List ByteArray) (B i : Nat) (w : World) (h : OwnAt RString 1 w B 9 v l) (hi : i < l.length) (hl : l.length ≤ 1073741824) :
    Calls Tryz.prog 71 #[v, .int .i64 (i : Int), .int .i64 ((i : Int) + 1)] w fun e w' => ∃ g c, v = .slice (some ⟨g, 0, none⟩) l.length c ∧ B ≤ g ∧ e = .returned (.slice (some ⟨g, 0, none⟩) (l.length - 1) c) ∧ OwnAt RString 1 w' B 9 (.slice (some ⟨g, 0, none⟩) (l.length - 1) c) (l.eraseIdx i) ∧ Touch g w w' := by
  have ho := own_strs h
  rw [show (i : Int) + 1 = ((i + 1 : Nat) : Int) by omega]
  rcases ho.2 with ⟨_, h0⟩ | ⟨g, c, cur, rfl, hB, hh, hlc, hc, hcs, htk⟩
  · omega
  have hcell : ∀ j, j < l.length → w.cell? ⟨g, 0 + j, none⟩ = some (.string (l.getD j ByteArray.empty)) := fun j hj => by
    rw [Nat.zero_add]
    have := ho.cells (g := g) rfl j _ (strs_get (strAt_getD hj))
    rwa [add_plain', Nat.zero_add] at this
  refine (Tryz.slices_Delete_string_cells g 0 l.length c i (i + 1) (fun j => l.getD j ByteArray.empty) w hlc (by unfold maxLen at hc; omega) (by omega) (by omega) hcell fun j _ => free_block hh _).mono fun e w' ⟨he, q, hw⟩ => ?_
  obtain ⟨X, HX⟩ : ∃ X, Hid (X = ((Lib.strsOf (fun j => l.getD j ByteArray.empty) l.length).take i ++ (Lib.strsOf (fun j => l.getD j ByteArray.empty) l.length).drop (i + 1) ++ List.replicate (i + 1 - i) [])) := ⟨_, Lib.hid rfl⟩
  have hgg : (w.drewN q).heap[g]? = some (.cells cur 9 (0, 0)) := hh
  have hXl : X.length = l.length := by rw [HX.out]; simp [Lib.strsOf]; omega
  have hXg : ∀ (j : Nat) (x : ByteArray), (l.eraseIdx i)[j]? = some x → X[j]? = some x.data.toList := fun j x hx => by
    have hj : j < l.length - 1 := by have := (List.getElem?_eq_some_iff.1 hx).1; rw [List.length_eraseIdx_of_lt hi] at this; exact this
    rw [eraseIdx_get] at hx
    rw [HX.out]
    by_cases hji : j < i
    · rw [if_pos hji] at hx
      rw [List.append_assoc, List.getElem?_append_left (by simp [Lib.strsOf]; omega), List.getElem?_take_of_lt hji]
      simp only [Lib.strsOf]
      rw [List.getElem?_map, List.getElem?_range (by omega)]
      simp [List.getD, hx]
    · rw [if_neg hji] at hx
      rw [List.append_assoc, List.getElem?_append_right (by simp [Lib.strsOf]; omega), List.getElem?_append_left (by simp [Lib.strsOf]; omega), List.getElem?_drop]
      simp only [Lib.strsOf, List.length_take, List.length_map, List.length_range]
      rw [show i + 1 + (j - min i l.length) = j + 1 by omega]
      rw [List.getElem?_map, List.getElem?_range (by omega)]
      simp [List.getD, hx]
  rw [← HX.out] at hw
  obtain ⟨cur', g1, g2, g3, g4, g5⟩ := setCells_rowS g 9 (X.map encStr) 0 cur (w.drewN q) hgg (by simp [hXl]; omega)
  have hel : (l.eraseIdx i).length = l.length - 1 := List.length_eraseIdx_of_lt hi
  refine ⟨g, c, rfl, hB, ?_, ownAt_strs (n := l.length - 1) ⟨by simp [strs, hel], .inr ⟨g, c, cur', rfl, hB, by rw [hw]; exact g1, by omega, hc, by rw [g2, hcs], ?_⟩⟩ hel, by rw [hw]; exact ⟨g5.os, g5.tape, g5.output, g5.size, g5.other⟩⟩
  · rw [he]
    congr 2
    omega
  · apply List.ext_getElem?
    intro j
    by_cases hj : j < l.length - 1
    · have hx : (l.eraseIdx i)[j]? = some ((l.eraseIdx i)[j]'(by omega)) := List.getElem?_eq_getElem (by omega)
      have h5 := g4 j (.string ((l.eraseIdx i)[j]'(by omega))) (by rw [List.getElem?_map, hXg j _ hx]; rfl)
      rw [List.getElem?_take_of_lt (by omega), Array.getElem?_toList, ← Nat.zero_add j, h5, Nat.zero_add, strs_get hx]
    · rw [List.getElem?_eq_none (by simp; omega), List.getElem?_eq_none (by rw [strs_length]; omega)]
end Go.Proofs.YtnmhjabihfhobaaGreatDoor
/- slices.Sort at texts, in our words, beside the documents. -/
namespace Go.Proofs.YtnmhjabihfhobaaGreatDoor
open Go.RowKit

theorem mkB_data (l : List ByteArray) : (l.map (·.data.toList)).map mkB = l := by
  rw [List.map_map]
  conv => rhs; rw [← List.map_id l]
  congr 1
theorem own_texts {w : World} {B : Nat} {e : TypeId} {g n c : Nat} {l : List ByteArray} (h : OwnAt RString 1 w B e (.slice (some ⟨g, 0, none⟩) n c) l) : n = l.length ∧ B ≤ g ∧ g < w.heap.size ∧ l.length ≤ c ∧ c ≤ maxLen ∧ Go.Sort.Holds encStr w g 0 (l.map (·.data.toList)).toArray := by
  have ho := own_strs h
  rcases h.form with ⟨h1, _⟩ | ⟨g', c', h1, h2, h3, h4, h5⟩
  · cases h1
  · injection h1 with u1 u2 u3
    injection u1 with u1
    injection u1 with u1
    subst u1; subst u2; subst u3
    refine ⟨rfl, h2, h3, h4, h5, fun j hj => ?_⟩
    have hjl : j < l.length := by simpa using hj
    rcases ho.2 with ⟨e1, _⟩ | ⟨g2, cap, cur, e1, _, hh, _, _, _, _⟩
    · cases e1
    · have hc := ho.cells (g := g) rfl j _ (strs_get (List.getElem?_eq_getElem hjl))
      rw [add_plain'] at hc
      injection e1 with u1 _ _
      injection u1 with u1
      injection u1 with u1
      subst u1
      refine ⟨?_, free_block hh _⟩
      rw [hc, getElem!_pos _ j (by simpa using hjl)]
      simp [encStr]
/-- other texts in the same row -/
theorem own_putRow {w : World} {B : Nat} {e : TypeId} {g n c q : Nat} {l : List ByteArray} (h : OwnAt RString 1 w B e (.slice (some ⟨g, 0, none⟩) n c) l) (zs : List (List UInt8)) (hz : zs.length = l.length) :
    OwnAt RString 1 (Go.Sort.putRow encStr (Go.Sort.ahead w q) g 0 zs.toArray) B e (.slice (some ⟨g, 0, none⟩) n c) (zs.map mkB) ∧ RowKit.Below B w (Go.Sort.putRow encStr (Go.Sort.ahead w q) g 0 zs.toArray) ∧ (Go.Sort.putRow encStr (Go.Sort.ahead w q) g 0 zs.toArray).heap.size = w.heap.size := by
  obtain ⟨css, c1, c2, ⟨c3, c4⟩, c5⟩ := h
  rcases c4 with ⟨h0, _⟩ | ⟨g', cap, cur, hv, hB, hh, hle, hm, hzc, ht⟩
  · cases h0
  · injection hv with u1 u2 u3
    injection u1 with u1
    injection u1 with u1
    subst u1; subst u2; subst u3
    obtain ⟨W, hW⟩ : ∃ W, Go.Sort.putRow encStr (Go.Sort.ahead w q) g 0 zs.toArray = W := ⟨_, rfl⟩
    rw [hW]
    have hw : W.heap[g]? = some (.cells (Go.Sort.putCells encStr 0 zs.toArray cur) e (0, 0)) := by
      rw [← hW]
      unfold Go.Sort.putRow Go.Sort.mapBlock
      show (Array.modify w.heap g _)[g]? = _
      rw [Array.getElem?_modify, if_pos rfl, hh]
      rfl
    have ho : ∀ k, k ≠ g → W.heap[k]? = w.heap[k]? := fun k hk => by
      rw [← hW]
      unfold Go.Sort.putRow Go.Sort.mapBlock
      show (Array.modify w.heap g _)[k]? = _
      rw [Array.getElem?_modify, if_neg (Ne.symm hk)]
    have hs : W.heap.size = w.heap.size := by
      rw [← hW]
      unfold Go.Sort.putRow Go.Sort.mapBlock
      show (Array.modify w.heap g _).size = _
      rw [Array.size_modify]
    refine ⟨ownAt_strs (n := l.length) ⟨by rw [strs_length, List.length_map, hz, Nat.mul_one], .inr ⟨g, c, _, rfl, hB, hw, hle, hm, by unfold Go.Sort.putCells; rw [Array.size_mapIdx]; exact hzc, ?_⟩⟩ (by rw [List.length_map, hz]), ⟨by rw [← hW]; rfl, by rw [← hW]; rfl, by rw [← hW]; rfl, by rw [hs]; exact Nat.le_refl _, fun k hk => ho k (by omega)⟩, hs⟩
    apply List.ext_getElem?
    intro t
    rw [Nat.mul_one]
    by_cases htl : t < l.length
    · have htc : t < cur.size := by rw [hzc]; omega
      rw [List.getElem?_take_of_lt htl, Array.getElem?_toList]
      unfold Go.Sort.putCells
      rw [Array.getElem?_mapIdx, Array.getElem?_eq_getElem htc, Option.map_some, if_pos ⟨by omega, by simp [hz]; omega⟩, Nat.sub_zero, getElem!_pos zs.toArray t (by simpa [hz] using htl)]
      unfold strs
      rw [List.map_map, List.getElem?_map, List.getElem?_eq_getElem (by omega)]
      rfl
    · rw [List.getElem?_eq_none (by rw [List.length_take]; omega), List.getElem?_eq_none (by rw [strs_length, List.length_map, hz]; omega)]
theorem sortStr_any (v : Value) (l : List ByteArray) (B : Nat) (w : World) (h : OwnAt RString 1 w B 9 v l) (hB : B ≤ w.heap.size) (hl : l.length ≤ 1073741824) :
    Calls Tryz.prog 30 #[v] w fun e w' => e = .returned (.tuple #[]) ∧ OwnAt RString 1 w' B 9 v ((sortedL (l.map (·.data.toList))).map mkB) ∧ RowKit.Below B w w' := by
  rcases h.form with ⟨rfl, rfl⟩ | ⟨g, c, rfl, _, hg, _, _⟩
  · refine (Tryz.slices_Sort_string_none none 0 w).mono fun e w' ⟨h1, h2⟩ => ?_
    subst h2
    refine ⟨h1, ?_, Below.refl _ _⟩
    have : sortedL (([] : List ByteArray).map (·.data.toList)) = [] := by simp [sortedL]
    rw [this]
    exact OwnAt.nil _
  · obtain ⟨_, _, _, _, _, hH⟩ := own_texts h
    have hs := Tryz.slices_Sort_string g 0 c (l.map (·.data.toList)) w hH hg (by rw [List.length_map]; omega)
    rw [List.length_map] at hs
    refine hs.mono fun e w' ⟨h1, n, os, h2⟩ => ?_
    obtain ⟨o1, o2, o3⟩ := own_putRow (q := n) h (sortedL (l.map (·.data.toList))) (by rw [sorted_len, List.length_map])
    have hgr : RowKit.Below (Go.Sort.putRow encStr (Go.Sort.ahead w n) g 0 (sortedL (l.map (·.data.toList))).toArray).heap.size (Go.Sort.putRow encStr (Go.Sort.ahead w n) g 0 (sortedL (l.map (·.data.toList))).toArray) w' := by
      rw [h2]
      exact Lib.below_grow _ _ (Nat.le_refl _) 0 os
    refine ⟨h1, o1.below stays_string hgr, o2.trans (hgr.mono (by rw [o3]; exact hB))⟩
end Go.Proofs.YtnmhjabihfhobaaGreatDoor
/- three.Lost: its contract. -/
namespace Go.Proofs.YtnmhjabihfhobaaGreatDoor
open Go.RowKit
open JP (JV Bs)

/-- what is told of a way -/
def JP.lostP (way : List Bs) : Bs := if 10 < way.length then [] else joinK way
theorem join3_any {sv : Value} {way : List Bs} {w : World} (hs : StrAt w sv (way.map mkB)) (ht : (way.map fun s => s.length + 1).sum ≤ 4194304) (hE : Env w) :
    ∃ c, Calls Tryz.prog 17 #[sv] w fun e w' => e = .returned (.tuple #[.string (mkB (JP.lostP way)), .int .i64 c]) ∧ Below w.heap.size w w' := by
  obtain ⟨m, hm⟩ := hE.2.2
  have htot : total (way.map mkB) = (way.map fun s => s.length + 1).sum := by
    unfold total
    rw [List.map_map]
    exact congrArg List.sum (List.map_congr_left fun s _ => by show (mkB s).size + 1 = _; rw [mkB_size])
  have HJ := ptrJoin_any sv (way.map mkB) m w hs (by rw [htot]; exact ht) hm
  rw [List.length_map] at HJ
  unfold JP.lostP
  by_cases h : 10 < way.length
  · rw [if_pos h] at HJ ⊢
    exact ⟨_, HJ⟩
  · have hjl : joinL (way.map mkB) = joinK way := by
      rw [joinL_map, List.map_map]
      have e : ((fun s : ByteArray => s.data.toList) ∘ mkB) = id := by funext s; exact mkB_list s
      rw [e, List.map_id]
    rw [if_neg h, hjl] at HJ
    rw [if_neg h]
    exact ⟨_, HJ⟩
/-- what is told lies here -/
def LostAt (g : Nat) (d : List (List Bs)) (T : List Nat) (w : World) : Prop :=
  ∃ ov, g ∈ T ∧ (∀ b, ov.ownBlock = some b → b ∈ T) ∧ (∀ b ∈ T, g ≤ b) ∧ w.heap[g]? = some (.cells #[ov] 25 (0, 0)) ∧ OwnAt RString 1 w (g + 1) 9 ov (d.map fun way => mkB (JP.lostP way))
set_option maxRecDepth 100000 in
set_option maxHeartbeats 3200000 in
theorem sees_lost (w0 : World) (hE : Env w0) : Sees3 29 #[.pointer (some ⟨w0.heap.size, 0, none⟩)] (LostAt w0.heap.size) w0 := by
  intro d T way sv w hI hTl hst hsum hb0 hdl
  obtain ⟨ov, hgT, hoT, hT0, hg, hown⟩ := hI
  obtain ⟨g, hgg⟩ : ∃ g, w0.heap.size = g := ⟨_, rfl⟩
  unfold LostAt
  rw [hgg] at hgT hT0 hg hown ⊢
  obtain ⟨cj, hj⟩ := join3_any hst (by omega) (hE.below hb0)
  obtain ⟨ou, hou⟩ : ∃ b, (d.map fun way => mkB (JP.lostP way)) = b := ⟨_, rfl⟩
  obtain ⟨P, hP⟩ : ∃ p, mkB (JP.lostP way) = p := ⟨_, rfl⟩
  have hnew : ((d ++ [way]).map fun way => mkB (JP.lostP way)) = ou ++ [P] := by rw [List.map_append, hou, ← hP]; rfl
  rw [hP] at hj
  have HJ := Lib.hid hj
  rw [hou] at hown
  have lou : ou.length ≤ 40000000 := by rw [← hou, List.length_map]; omega
  obtain ⟨ao, co, e1, _⟩ := hown.row.len
  obtain ⟨lo, hlo⟩ : ∃ n, ou.length = n := ⟨_, rfl⟩
  rw [hlo] at e1
  subst e1
  have hgw : g < w.heap.size := blk_lt hg
  have HgT := Lib.hid hgT
  have HoT := Lib.hid hoT
  have HT0 := Lib.hid hT0
  have HTl := Lib.hid hTl
  have G1 := Lib.hid hg
  have HOw := Lib.hid hown
  have Hb0 := Lib.hid hb0
  have Hnew := Lib.hid hnew
  have Hgg := Lib.hid hgg
  have Hlo := Lib.hid hlo
  obtain ⟨i0, hi0, hz0, hz1, hz2⟩ := info_parts Tryz.infoStr
  obtain ⟨asv, csv, esv, _⟩ := hst.row.len
  obtain ⟨nsv, hnsv⟩ : ∃ n, (way.map mkB).length = n := ⟨_, rfl⟩
  rw [hnsv] at esv
  subst esv
  show Calls Tryz.prog 29 #[.slice asv nsv csv, .pointer (some ⟨g, 0, none⟩)] w _
  clear hgT hoT hT0 hTl hg hown hst hsum hb0 hdl hE hj hou hP hnew hgg hlo hnsv
  go_enter Tryz.func29, Tryz.ntmps29
  go_wp2_with fail
  refine HJ.out.mono ?_
  rintro E w1 ⟨rfl, hb⟩
  have q1 := cell_block (below_block hb G1.out) 0
  have z1 := free_block (below_block hb G1.out) 0
  have HB1 := Lib.hid hb
  have hs1 := hb.size
  have G2 := Lib.hid (below_block hb G1.out)
  have HOw2 := Lib.hid (HOw.out.below stays_string hb)
  clear hb
  go_wp2_with (at_builtin; refine wpList_append_ownAt (R := RString) (k := 1) (e := 9) (B := g + 1) (l := ou) (m := [P]) _ (by rfl) _ _ _ (by rfl) i0 _ 16 Tryz.underlying25 hi0 hz0 hz1 hz2 rfl (by omega) flat_string one_string _ (by rfl) (HOw2.out.alloc stays_string _) (.slice (some ⟨w1.heap.size, 0, none⟩) 1 1) (by rfl) (RowAt.one (R := RString) (k := 1) (cs := #[.string P]) (heap_alloc_new w1 _) rfl rfl) (by unfold maxLen; simp; omega) (by simp; omega) (by simp; omega) ?_)
  intro v8 w8 hv8 hg8 hr8 ha8
  have hb8 : Below (g + 1) w1 w8 := below_of_grown (((Below.refl _ w1).alloc (by omega) _)) (by simp; omega) hg8 hr8
  have g8 : w8.heap[g]? = some (.cells #[.slice ao lo co] 25 (0, 0)) := (hb8.block g (by omega)).trans G2.out
  obtain ⟨a8, c8, e8, _⟩ := hv8.row.len
  obtain ⟨n8, hn8⟩ : ∃ n, (ou ++ [P]).length = n := ⟨_, rfl⟩
  rw [hn8] at e8
  subst e8
  obtain ⟨W, hW⟩ : ∃ W, W = w8.setCell ⟨g, 0, none⟩ (.slice a8 n8 c8) := ⟨_, rfl⟩
  obtain ⟨t1, t2⟩ := touch_setCell (i := 0) (v := .slice a8 n8 c8) g8
  rw [← hW] at t1 t2
  have HG := Lib.hid (show W.heap[g]? = some (.cells #[.slice a8 n8 c8] 25 (0, 0)) from t1)
  have HV := Lib.hid (hv8.touchLow flat_string t2 (by omega))
  have hs8 : w1.heap.size ≤ w8.heap.size := hb8.size
  have hbw8 : Below (g + 1) w w8 := (HB1.out.mono (by omega)).trans hb8
  obtain ⟨nw, hnw⟩ : ∃ l : List Nat, l = (match (Value.slice a8 n8 c8).ownBlock with | some b => [b] | none => []) := ⟨_, rfl⟩
  have mnw : ∀ b, (Value.slice a8 n8 c8).ownBlock = some b ↔ b ∈ nw := by
    intro b
    rw [hnw]
    cases (Value.slice a8 n8 c8).ownBlock with
    | none => simp
    | some x => simp [eq_comm]
  have hal : (w1.alloc (.cells #[.string P] 9)).heap.size = w1.heap.size + 1 := World.size_alloc _ _
  have hnew8 : ∀ b ∈ nw, b ∈ T ∨ w.heap.size ≤ b := fun b hb => by
    have hb := (mnw b).2 hb
    rcases ha8 with h | h
    · rw [h] at hb; exact .inl (HoT.out b hb)
    · rw [h] at hb
      obtain rfl := Option.some.inj hb
      exact .inr (by omega)
  have hlt8 : ∀ b ∈ nw, b < w8.heap.size := fun b hb => (hv8.at ((mnw b).2 hb)).2.1
  have hsW : W.heap.size = w8.heap.size := t2.size
  have hs9 : w1.heap.size + 1 ≤ w8.heap.size := by have := hg8.size; omega
  have hkp : KeepT T w W := ⟨hbw8.os ▸ t2.os, hbw8.tape ▸ t2.tape, hbw8.output ▸ t2.output, by rw [hsW]; omega, fun b hb hn => by
    have hbg : b ≠ g := fun e => hn (by rw [e]; exact HgT.out)
    refine (t2.other b hbg).trans ?_
    refine (hg8.block b (by omega) (fun e => hn (HoT.out b e.symm))).trans ?_
    exact (((Below.refl _ w1).alloc (Nat.le_refl _) _).block b (by omega)).trans (HB1.out.block b hb)⟩
  have HK : Hid (KE T (nw ++ T) w W) := Lib.hid ⟨hkp, fun b hb => List.mem_append_right _ hb, fun b hb => (List.mem_append.1 hb).elim (hnew8 b) .inl, fun b hb => (List.mem_append.1 hb).elim (fun h => by rw [hsW]; exact hlt8 b h) (fun h => by have := HTl.out b h; omega)⟩
  have HTn : Hid (∀ b ∈ nw ++ T, g ≤ b) := Lib.hid fun b hb => (List.mem_append.1 hb).elim (fun h => by have := (hv8.at ((mnw b).2 h)).1; omega) (HT0.out b)
  have Hmn := Lib.hid mnw
  have hb08 : Below g w0 w8 := (Hb0.out.mono (show g ≤ w0.heap.size by rw [Hgg.out]; exact Nat.le_refl _)).trans (hbw8.mono (Nat.le_succ g))
  have HB := Lib.hid (t2.below hb08 (Nat.le_refl _))
  have q8 := cell_block g8 0
  have z8 := free_block g8 0
  clear t1 t2 hv8 hg8 hr8 hb8 g8 hbw8 hn8 hs8 q1 z1 hkp hsW hs9 hnew8 hlt8 hal mnw hnw ha8
  go_wp2_with fail
  rw [← hW]
  go_end0
  exact ⟨rfl, nw ++ T, ⟨_, List.mem_append_right _ HgT.out, fun b hb => List.mem_append_left _ ((Hmn.out b).1 hb), HTn.out, HG.out, by rw [Hnew.out]; exact HV.out⟩, HK.out, HB.out⟩
theorem JP.lost3L_none {a b c : Bs} (h : JP.readE3 a b c ≠ 0) : JP.lost3L a b c = [] := by unfold JP.lost3L; rw [if_neg h]
/-- what 'Lost' tells -/
def JP.lostT (a b c : Bs) : List Bs := sortedL ((JP.lost3L a b c).map JP.lostP)
def LosesAt (L : List Bs) (E : Int) (w : World) (e : Ending) (w' : World) : Prop :=
  ∃ v', e = .returned (.tuple #[v', .int .i64 E]) ∧ OwnAt RString 1 w' w.heap.size 9 v' (L.map mkB) ∧ Below w.heap.size w w'
set_option maxRecDepth 100000 in
set_option maxHeartbeats 3200000 in
theorem lost3_any (a b c : ByteArray) (w : World) (ha : a.size ≤ 1048576) (hb : b.size ≤ 1048576) (hc : c.size ≤ 1048576) (hE : Env w) :
    Calls Tryz.prog 12 #[.string a, .string b, .string c] w (LosesAt (JP.lostT a.data.toList b.data.toList c.data.toList) (JP.readE3 a.data.toList b.data.toList c.data.toList) w) := by
  obtain ⟨w1, hw⟩ : ∃ w1, w1 = w.alloc (.cells #[.string a, .string b, .string c] 9) := ⟨_, rfl⟩
  have hb1 : Below w.heap.size w w1 := by rw [hw]; exact (Below.refl _ w).alloc (Nat.le_refl _) _
  have hst : StrAt w1 (.slice (some ⟨w.heap.size, 0, none⟩) 3 3) [a, b, c] := three_strs (by rw [hw]; exact heap_alloc_new w _)
  have HR := Lib.hid (reads_any [] _ [a, b, c] w1 hst (by show 3 ≤ 100; decide) (fun s hs => by
    rcases List.mem_cons.1 hs with rfl | hs
    · exact ha
    · rcases List.mem_cons.1 hs with rfl | hs
      · exact hb
      · rw [List.mem_singleton.1 hs]; exact hc) (fun b h => by cases h))
  rw [errs3] at HR
  obtain ⟨E0, hE0⟩ : ∃ e, JP.readE3 a.data.toList b.data.toList c.data.toList = e := ⟨_, rfl⟩
  obtain ⟨L0, hL0⟩ : ∃ e, JP.lost3L a.data.toList b.data.toList c.data.toList = e := ⟨_, rfl⟩
  unfold JP.lostT
  rw [hE0, hL0]
  have hnone : E0 ≠ 0 → L0 = [] := fun h => by rw [← hL0]; exact JP.lost3L_none (by rw [hE0]; exact h)
  unfold JP.lost3L at hL0
  rw [hE0] at HR hL0
  have HB1 := Lib.hid hb1
  have HEb := Lib.hid (hE.below hb1)
  have hok : E0 = 0 → ∃ x y z, JP.readL a.data.toList = (x, 0) ∧ JP.readL b.data.toList = (y, 0) ∧ JP.readL c.data.toList = (z, 0) ∧ JP.Fit x ∧ JP.Fit y ∧ JP.Fit z := fun h => JP.read3_ok (hE0.trans h)
  clear hb1 hst ha hb hc hE
  go_enter Tryz.func12, Tryz.ntmps12
  go_wp2_with fail
  rw [← hw]
  clear hw
  refine HR.out.mono ?_
  rintro E9 w2 ⟨v, rfl, hx, hb⟩
  have HB2 := Lib.hid (HB1.out.trans (hb.mono HB1.out.size))
  by_cases he : E0 = 0
  · subst he
    obtain ⟨x, y, z, r1, r2, r3, f1, f2, f3⟩ := hok rfl
    obtain ⟨xs, hxl, hrow, hv⟩ := hx rfl
    have hE2 := ((HEb.out).below hb)
    obtain ⟨va, vb, vc, rfl⟩ : ∃ va vb vc, xs = [va, vb, vc] := by
      match xs, hxl with
      | [p, q, r], _ => exact ⟨p, q, r, rfl⟩
    obtain ⟨_, na, ja⟩ := hv.2 0 va a rfl rfl
    obtain ⟨_, nb, jb⟩ := hv.2 1 vb b rfl rfl
    obtain ⟨_, nc, jc⟩ := hv.2 2 vc c rfl rfl
    rw [r1] at ja
    rw [r2] at jb
    rw [r3] at jc
    rw [if_pos rfl, r1, r2, r3] at hL0
    dsimp only at hL0 ja jb jc
    obtain ⟨bk, off, cap, hv9, _, _, hbk, hcell⟩ := hrow.form (by show 0 < 3; decide) (by decide)
    subst hv9
    have cellAt : ∀ (j : Nat) (u : Value), [va, vb, vc][j]? = some u → w2.cell? ⟨bk, off + j, none⟩ = some u := fun j u hu => by
      obtain ⟨cs, _, hcc, hR⟩ := hcell j u hu
      obtain ⟨hR, _⟩ := hR
      subst hR
      simpa using hcc 0 _ rfl
    have hlx := f1.2.2.2
    have hly := f2.2.2.2
    have hlz := f3.2.2.2
    obtain ⟨g, hg⟩ : ∃ g, w2.heap.size = g := ⟨_, rfl⟩
    obtain ⟨w3, hw3⟩ : ∃ w3, w3 = w2.alloc (.cells #[.slice none 0 0] 25) := ⟨_, rfl⟩
    have hb3 : Below w2.heap.size w2 w3 := by rw [hw3]; exact (Below.refl _ w2).alloc (Nat.le_refl _) _
    have hbox : w3.heap[w2.heap.size]? = some (.cells #[.slice none 0 0] 25 (0, 0)) := by rw [hw3]; exact heap_alloc_new w2 _
    have hgw : g < w3.heap.size := by rw [← hg]; exact blk_lt hbox
    have e0 : w3.cell? ⟨bk, off, none⟩ = some va := (hb3.cell (p := ⟨bk, _, none⟩) hbk).trans (cellAt 0 va rfl)
    have e1 : w3.cell? ⟨bk, off + 1, none⟩ = some vb := (hb3.cell (p := ⟨bk, _, none⟩) hbk).trans (cellAt 1 vb rfl)
    have e2 : w3.cell? ⟨bk, off + 2, none⟩ = some vc := (hb3.cell (p := ⟨bk, _, none⟩) hbk).trans (cellAt 2 vc rfl)
    have hbk3 : bk < w3.heap.size := Nat.lt_of_lt_of_le hbk hb3.size
    have ep : ∀ (a : Array Value) (w : World), (callFunc 29 a).run Tryz.prog w = .ok (.enter 29 a) w := fun a w => by kernel_rfl
    have nob : ∀ b ∈ [w2.heap.size], b ∈ ([] : List Nat) ∨ w2.heap.size ≤ b := fun b hm => .inr (by rw [List.mem_singleton.1 hm]; exact Nat.le_refl _)
    have hIn := fun (w' : World) (hb' : Below w3.heap.size w3 w') => three1_any (f := 29) (cap := .pointer (some ⟨w2.heap.size, 0, none⟩)) (I := LostAt w2.heap.size) (w0 := w2) ep (fun d T w w' h hb => by
        obtain ⟨o, h1, h2, h3, h4, h5⟩ := h
        exact ⟨o, h1, h2, h3, below_block hb h4, h5.below stays_string hb⟩) (sees_lost w2 hE2) nc na nb [w2.heap.size] va vb vc (.slice none 0 0) x y z [] [] w' (((ja.fresh nob).below hb3).below hb') (((jb.fresh nob).below hb3).below hb') (((jc.fresh nob).below hb3).below hb') f2.1 f3.1 (by omega) (by omega) (by show 0 + (JP.text z).length ≤ 10000; omega) (StrAt.nil w') (fun h => absurd rfl h)
        (show LostAt w2.heap.size [] [w2.heap.size] w' from ⟨.slice none 0 0, List.mem_singleton.2 rfl, (fun b h => by cases h), (fun b hm => by rw [List.mem_singleton.1 hm]; exact Nat.le_refl _), below_block hb' hbox, OwnAt.nil w'⟩) (fun b hm => by rw [List.mem_singleton.1 hm]; exact Nat.lt_of_lt_of_le (blk_lt hbox) hb'.size) (hb3.trans (hb'.mono hb3.size)) (by show 0 + 4000 * (JP.text z).length ≤ 40000000; omega)
    have hlen : L0.length ≤ 8000000 := by
      rw [← hL0]
      have := JP.lost_len.1 z x y (by omega)
      omega
    have emap : (JP.lost3 x y z).map (([] : List Bs) ++ ·) = L0 := by rw [hL0]; exact List.map_id _
    rw [List.nil_append, emap, hg] at hIn
    have HIn := Lib.hid hIn
    have HB3 : Hid (Below w.heap.size w w3) := Lib.hid (HB2.out.trans (hb3.mono HB2.out.size))
    have Hwg : Hid (w.heap.size ≤ g) := Lib.hid (by rw [← hg]; exact HB2.out.size)
    have Hg := Lib.hid hg
    clear hv hcell hrow cellAt ja jb jc f1 f2 f3 hlx hly hlz r1 r2 r3 hE2 hb hx hok hL0 ep hxl hE0 emap hIn hb3 hbox nob hbk HR hnone
    go_upto_region 5 with fail
    rw [← hw3]
    clear hw3
    try rw [hg]
    refine wp_region_relB 10 (fun ii U w' => match ii with
      | 0 => U 0 = .slice (some ⟨bk, off, none⟩) 3 cap
      | 1 => U 1 = .pointer (some ⟨bk, off, none⟩)
      | 2 => U 2 = va
      | 3 => U 3 = .slice (some ⟨bk, off, none⟩) 3 cap
      | 4 => U 4 = .pointer (some ⟨bk, off + 1, none⟩)
      | 5 => U 5 = vb
      | 6 => U 6 = .slice (some ⟨bk, off, none⟩) 3 cap
      | 7 => U 7 = .pointer (some ⟨bk, off + 2, none⟩)
      | 8 => U 8 = vc
      | 9 => U 9 = .func (.func 29) #[] #[.pointer (some ⟨g, 0, none⟩)]
      | _ => True)
      (fun | 1 => [0] | 2 => [1] | 4 => [3] | 5 => [4] | 7 => [6] | 8 => [7] | _ => []) (by kernel_rfl) (by kernel_rfl) ?_ ⟨?_, ?_, ?_, ?_, ?_, ?_, ?_, ?_, ?_, ?_, trivial⟩ ?_
    · intro jj U wa wb hb h
      match jj, h with
      | 0, h => exact h
      | 1, h => exact h
      | 2, h => exact h
      | 3, h => exact h
      | 4, h => exact h
      | 5, h => exact h
      | 6, h => exact h
      | 7, h => exact h
      | 8, h => exact h
      | 9, h => exact h
      | _ + 10, h => trivial
    · intro y' w' hb hd
      refine owes_here (.slice (some ⟨bk, off, none⟩) 3 cap) (by rfl) ?_ rfl
      simp only [putAll, List.take_succ_cons, List.take_zero]
      go_simp
    · intro y' w' hb hd
      have h0 : y' 0 = .slice (some ⟨bk, off, none⟩) 3 cap := hd 0 (by simp)
      refine owes_here (.pointer (some ⟨bk, off, none⟩)) (by rfl) ?_ rfl
      simp only [putAll, List.take_succ_cons, List.take_zero]
      go_simp
    · intro y' w' hb hd
      have h1 : y' 1 = .pointer (some ⟨bk, off, none⟩) := hd 1 (by simp)
      have hb6 : Below w3.heap.size w3 w' := (Below.refl w3.heap.size w3).drew.trans hb
      have d0 : w'.cell? ⟨bk, off, none⟩ = some va := (hb6.cell (p := ⟨bk, _, none⟩) hbk3).trans e0
      refine owes_here (va) (by rfl) ?_ rfl
      simp only [putAll, List.take_succ_cons, List.take_zero]
      go_simp
    · intro y' w' hb hd
      refine owes_here (.slice (some ⟨bk, off, none⟩) 3 cap) (by rfl) ?_ rfl
      simp only [putAll, List.take_succ_cons, List.take_zero]
      go_simp
    · intro y' w' hb hd
      have h3 : y' 3 = .slice (some ⟨bk, off, none⟩) 3 cap := hd 3 (by simp)
      refine owes_here (.pointer (some ⟨bk, off + 1, none⟩)) (by rfl) ?_ rfl
      simp only [putAll, List.take_succ_cons, List.take_zero]
      go_simp
    · intro y' w' hb hd
      have h4 : y' 4 = .pointer (some ⟨bk, off + 1, none⟩) := hd 4 (by simp)
      have hb6 : Below w3.heap.size w3 w' := (Below.refl w3.heap.size w3).drew.trans hb
      have d0 : w'.cell? ⟨bk, off + 1, none⟩ = some vb := (hb6.cell (p := ⟨bk, _, none⟩) hbk3).trans e1
      refine owes_here (vb) (by rfl) ?_ rfl
      simp only [putAll, List.take_succ_cons, List.take_zero]
      go_simp
    · intro y' w' hb hd
      refine owes_here (.slice (some ⟨bk, off, none⟩) 3 cap) (by rfl) ?_ rfl
      simp only [putAll, List.take_succ_cons, List.take_zero]
      go_simp
    · intro y' w' hb hd
      have h6 : y' 6 = .slice (some ⟨bk, off, none⟩) 3 cap := hd 6 (by simp)
      refine owes_here (.pointer (some ⟨bk, off + 2, none⟩)) (by rfl) ?_ rfl
      simp only [putAll, List.take_succ_cons, List.take_zero]
      go_simp
    · intro y' w' hb hd
      have h7 : y' 7 = .pointer (some ⟨bk, off + 2, none⟩) := hd 7 (by simp)
      have hb6 : Below w3.heap.size w3 w' := (Below.refl w3.heap.size w3).drew.trans hb
      have d0 : w'.cell? ⟨bk, off + 2, none⟩ = some vc := (hb6.cell (p := ⟨bk, _, none⟩) hbk3).trans e2
      refine owes_here (vc) (by rfl) ?_ rfl
      simp only [putAll, List.take_succ_cons, List.take_zero]
      go_simp
    · intro y' w' hb hd
      refine owes_here (.func (.func 29) #[] #[.pointer (some ⟨g, 0, none⟩)]) (by rfl) ?_ rfl
      simp only [putAll, List.take_succ_cons, List.take_zero]
      go_simp
    · intro y' w' hb hR
      have h2 : y' 2 = va := hR 2 (by omega)
      have h5 : y' 5 = vb := hR 5 (by omega)
      have h8 : y' 8 = vc := hR 8 (by omega)
      have h9 : y' 9 = .func (.func 29) #[] #[.pointer (some ⟨g, 0, none⟩)] := hR 9 (by omega)
      have hb6 : Below w3.heap.size w3 w' := (Below.refl w3.heap.size w3).drew.trans hb
      have HC6 := Lib.hid (HIn.out w' hb6)
      have Hb6 := Lib.hid hb6
      clear hR hb hb6
      simp only [putAll, List.take_succ_cons, List.take_zero, List.drop_succ_cons, List.drop_zero]
      rw [h2, h5, h8, h9]
      clear h2 h5 h8 h9
      try simp only [Act.put, List.setIfInBounds_toArray, List.set_cons_zero, List.set_cons_succ]
      go_wp2_with fail
      refine HC6.out.mono ?_
      rintro E7 w7 ⟨u7, T7, rfl, _, hI7, _, hb7⟩
      obtain ⟨ov, _, _, _, hg7, hown7⟩ := hI7
      have hb7' : Below g w2 w7 := by have h9 := hb7; rw [Hg.out] at h9; exact h9
      have hgs7 : g < w7.heap.size := blk_lt hg7
      obtain ⟨a7, c7, e7, _⟩ := hown7.row.len
      obtain ⟨n7, hn7⟩ : ∃ n, (L0.map fun way => mkB (JP.lostP way)).length = n := ⟨_, rfl⟩
      rw [hn7] at e7
      subst e7
      have hSo := sortStr_any _ _ _ w7 hown7 (by omega) (by rw [List.length_map]; omega)
      have em : ((L0.map fun way => mkB (JP.lostP way)).map (·.data.toList)) = L0.map JP.lostP := by
        rw [List.map_map]
        exact List.map_congr_left fun s _ => mkB_list _
      rw [em] at hSo
      have HSo := Lib.hid hSo
      have HB7 : Hid (Below w.heap.size w w7) := Lib.hid (HB2.out.trans (hb7'.mono Hwg.out))
      have q7 := cell_block hg7 0
      have z7 := free_block hg7 0
      have Hg7 := Lib.hid hg7
      clear hb7 hb7' hown7 hg7 hn7 hSo em hlen
      go_wp2_with fail
      refine HSo.out.mono ?_
      rintro E8 w8 ⟨rfl, hown8, hb8⟩
      have hg8 := (hb8.block g (by omega)).trans Hg7.out
      have q8 := cell_block hg8 0
      have z8 := free_block hg8 0
      have HB8 : Hid (Below w.heap.size w w8) := Lib.hid (HB7.out.trans (hb8.mono (Nat.le_succ_of_le Hwg.out)))
      have HO8 : Hid (OwnAt RString 1 w8 w.heap.size 9 _ _) := Lib.hid (hown8.mono (Nat.le_succ_of_le Hwg.out))
      clear hown8 hb8 hg8 q7 z7 HSo
      go_wp2_with fail
      go_ret2
      exact ⟨_, rfl, HO8.out, HB8.out⟩
  · have n0 : (E0 != 0) = true := by rw [bne_iff_ne]; exact he
    have hL0 : L0 = [] := hnone he
    subst hL0
    clear he hx hb hok hE0 hnone HR
    go_wp2_with fail
    go_ret2
    refine ⟨.slice none 0 0, rfl, ?_, HB2.out⟩
    have : (sortedL (([] : List (List Bs)).map JP.lostP)).map mkB = [] := by simp [sortedL]
    rw [this]
    exact OwnAt.nil _
end Go.Proofs.YtnmhjabihfhobaaGreatDoor
/- three: how long the ways to what is lost are, in plain Lean. -/
namespace Go.Proofs.YtnmhjabihfhobaaGreatDoor
open Go.RowKit
open JP (JV Bs)

namespace JP
theorem mem_len3 {l : Fs} {n : Bs} {x : JV} (h : (n, x) ∈ l) : n.length + 1 + (text x).length + 2 ≤ lenF l := by
  obtain ⟨i, hi⟩ := List.getElem?_of_mem h
  exact name_len hi
theorem get_in : ∀ {l : Fs} {n : Bs} {x : JV}, get n l = some x → (n, x) ∈ l
  | [], _, _, h => by rw [get] at h; cases h
  | (m, v) :: r, n, x, h => by
    rw [get] at h
    by_cases e : m = n
    · rw [if_pos e] at h
      cases h
      rw [e]
      exact List.mem_cons_self ..
    · rw [if_neg e] at h
      exact List.mem_cons_of_mem _ (get_in h)
def wayS (way : List Bs) : Nat := (way.map fun s => s.length + 1).sum
theorem wayS_cons (n : Bs) (r : List Bs) : wayS (n :: r) = n.length + 1 + wayS r := by unfold wayS; rw [List.map_cons, List.sum_cons]
theorem lost_sum : ∀ want last live : JV, wf want → ∀ way ∈ lost3 last live want, wayS way ≤ (text last).length := by
  refine JV.byGet (P := fun want => ∀ last live : JV, wf want → ∀ way ∈ lost3 last live want, wayS way ≤ (text last).length) (fun want ih => ?_)
  intro last live hw way hm
  have hf := lenF_fields last
  rcases obj_or want with ⟨o, rfl⟩ | hn
  · obtain ⟨so, fo⟩ := wf_obj hw
    rw [lost3_obj] at hm
    rcases List.mem_append.1 hm with hm | hm
    · obtain ⟨n, hn, rfl⟩ := List.mem_map.1 hm
      unfold goesL at hn
      obtain ⟨y, hy, rfl⟩ := List.mem_map.1 hn
      obtain ⟨h1, _⟩ := List.mem_filter.1 hy
      have := mem_len3 (show (y.1, y.2) ∈ _ from h1)
      rw [wayS_cons]
      have e0 : wayS [] = 0 := rfl
      omega
    · obtain ⟨n, w, r, k1, rfl, k3⟩ := mem_lost3F so hm
      have hg := get_memS so k1
      have hi := ih o n w rfl hg _ _ (wf_at fo hg) r k3
      rw [wayS_cons]
      cases hgh : get n (fieldsOf last) with
      | none =>
        have e : gto n (fieldsOf last) = .nul := by unfold gto; rw [hgh]; rfl
        rw [e, lost3_new.1 _ _ _ rfl] at k3
        cases k3
      | some x =>
        rw [gto_some hgh] at hi
        have := mem_len3 (get_in hgh)
        omega
  · rw [lost3_not hn] at hm; cases hm
theorem joinK_len : ∀ l : List Bs, (joinK l).length ≤ 2 * wayS l
  | [] => Nat.zero_le _
  | s :: r => by
    have h1 := joinK_len r
    have h2 := esc_len s
    rw [wayS_cons]
    have e : joinK (s :: r) = 47 :: escS s ++ joinK r := rfl
    rw [e, List.length_append, List.length_cons]
    omega
/-- what is told of what is lost -/
theorem three_paths {a b c : Bs} (h : merge3E a b c = 0) : readE3 a b c = 0 ∧ ∀ p ∈ lostT a b c, p.length ≤ 4000 ∧ getE b p = 0 ∧ getE a p = 0 ∧ getE (merge3T a b c) p ≠ 0 := by
  obtain ⟨h0, hl⟩ := three_loses h
  refine ⟨h0, fun p hp => ?_⟩
  unfold lostT at hp
  have hp : p ∈ (lost3L a b c).map lostP := List.mem_mergeSort.1 hp
  obtain ⟨way, hw, rfl⟩ := List.mem_map.1 hp
  obtain ⟨k1, k2, k3, k4⟩ := hl way hw
  have e : lostP way = joinK way := if_neg (by omega)
  rw [e]
  refine ⟨?_, k2, k3, k4⟩
  obtain ⟨x, y, z, h1, h2, h3, f1, f2, f3⟩ := read3_ok h0
  unfold lost3L at hw
  rw [if_pos h0, h1, h2, h3] at hw
  have := lost_sum z x y f3.1 way hw
  have := f1.2.2.2
  have := joinK_len way
  omega
theorem lostT_len {a b c : Bs} (h : merge3E a b c = 0) : (lostT a b c).length ≤ 8000000 := by
  obtain ⟨h0, _⟩ := three_loses h
  unfold lostT sortedL
  rw [List.length_mergeSort, List.length_map]
  obtain ⟨x, y, z, h1, h2, h3, f1, f2, f3⟩ := read3_ok h0
  unfold lost3L
  rw [if_pos h0, h1, h2, h3]
  have h9 := lost_len.1 z x y (by have := f1.2.2.2; omega)
  have h8 := f3.2.2.2
  show (lost3 x y z).length ≤ _
  omega
end JP
end Go.Proofs.YtnmhjabihfhobaaGreatDoor
/- The law ThreeAgain. -/
namespace Go.Proofs.YtnmhjabihfhobaaGreatDoor
open Go.RowKit
open JP (JV Bs)

theorem merge3_const (w : World) (hE : Env w) : Calls Tryz.prog 11 #[.string ⟨#[49]⟩, .string ⟨#[50]⟩, .string ⟨#[51]⟩] w (MergeAt [51] 0 w) := by
  have h := merge3_any ⟨#[49]⟩ ⟨#[50]⟩ ⟨#[51]⟩ w (by decide) (by decide) (by decide) hE.1
  have e1 : JP.merge3E (⟨#[49]⟩ : ByteArray).data.toList (⟨#[50]⟩ : ByteArray).data.toList (⟨#[51]⟩ : ByteArray).data.toList = 0 := JP.three_const.1
  have e2 : JP.merge3T (⟨#[49]⟩ : ByteArray).data.toList (⟨#[50]⟩ : ByteArray).data.toList (⟨#[51]⟩ : ByteArray).data.toList = [51] := JP.three_const.2
  rw [e1, e2] at h
  exact h
set_option maxRecDepth 100000 in
set_option maxHeartbeats 6400000 in
theorem threeAgain_walk (a b c : ByteArray) (w : World) (hbulk : a.data.toList.length + 1 + (b.data.toList.length + 1 + (c.data.toList.length + 1 + 0)) ≤ 1048576) (hE : Env w) :
    Calls Tryz.prog 3 #[.string a, .string b, .string c] w fun e w' => e = .returned (.bool true) ∧ Below w.heap.size w w' := by
  have ha : a.size ≤ 1048576 := by rw [list_size a] at hbulk; omega
  have hb : b.size ≤ 1048576 := by rw [list_size b] at hbulk; omega
  have hc : c.size ≤ 1048576 := by rw [list_size c] at hbulk; omega
  have HB0 := Lib.hid (Below.refl w.heap.size w)
  obtain ⟨w0, hw0⟩ : ∃ x, x = w := ⟨_, rfl⟩
  have t0 : (mkB []).toList.isEmpty = true := by rw [mkB_empty]; rfl
  have t9 : ((mkB [51]).toList == [51]) = true := by rw [mkB_toList]; rfl
  have H1 := Lib.hid (fun (w' : World) (h : Below w.heap.size w w') => merge3_any a b c w' ha hb hc (hE.1.below h))
  have H2 := Lib.hid (fun (w' : World) (h : Below w.heap.size w w') => merge3_const w' (hE.below h))
  have hlen := JP.merge3T_len a.data.toList b.data.toList c.data.toList
  have hag := @JP.three_again a.data.toList b.data.toList c.data.toList
  have hno := @JP.merge3_no a.data.toList b.data.toList c.data.toList
  obtain ⟨T1, hT1⟩ : ∃ T, JP.merge3T a.data.toList b.data.toList c.data.toList = T := ⟨_, rfl⟩
  obtain ⟨E1, hE1⟩ : ∃ T, JP.merge3E a.data.toList b.data.toList c.data.toList = T := ⟨_, rfl⟩
  rw [hT1, hE1] at H1 hag hno
  rw [hT1] at hlen
  by_cases he : E1 = 0
  · subst he
    obtain ⟨k1, k2, k3, k4⟩ := hag rfl
    have H3 := Lib.hid (fun (w' : World) (h : Below w.heap.size w w') => merge3_any c (mkB T1) c w' hc (by rw [mkB_size]; omega) hc (hE.1.below h))
    have H4 := Lib.hid (fun (w' : World) (h : Below w.heap.size w w') => lost3_any c (mkB T1) c w' hc (by rw [mkB_size]; omega) hc (hE.below h))
    have k5 : JP.lostT c.data.toList T1 c.data.toList = [] := by unfold JP.lostT; rw [k4]; simp [sortedL]
    rw [mkB_list, k1, k2] at H3
    rw [mkB_list, k3, k5] at H4
    have t1 : ((mkB T1).toList == (mkB T1).toList) = true := by simp
    clear hT1 hE1 k1 k2 k3 k4 k5 hag hno hlen hE ha hb hc hbulk
    subst hw0
    go_enter Tryz.func3, Tryz.ntmps3
    go_wp2_with fail
    refine (H1.out w0 HB0.out).mono ?_
    rintro E w1 ⟨rfl, hb⟩
    have HB1 := Lib.hid (HB0.out.trans (hb.mono HB0.out.size))
    clear hb
    go_wp2_with fail
    refine (H2.out w1 HB1.out).mono ?_
    rintro E w2 ⟨rfl, hb⟩
    have HB2 := Lib.hid (HB1.out.trans (hb.mono HB1.out.size))
    clear hb
    go_wp2_with fail
    refine (H3.out w2 HB2.out).mono ?_
    rintro E w3 ⟨rfl, hb⟩
    have HB3 := Lib.hid (HB2.out.trans (hb.mono HB2.out.size))
    clear hb
    go_wp2_with fail
    refine (H4.out w3 HB3.out).mono ?_
    rintro E w4 ⟨v4, rfl, ho, hb⟩
    obtain ⟨a4, c4, e4, _⟩ := ho.row.len
    have e4 : v4 = .slice a4 0 c4 := e4
    subst e4
    have HB4 := Lib.hid (HB3.out.trans (hb.mono HB3.out.size))
    clear hb ho
    go_wp2_with fail
    go_ret
    exact ⟨rfl, HB4.out⟩
  · have n0 : (E1 != 0) = true := by rw [bne_iff_ne]; exact he
    obtain rfl := hno he
    clear hT1 hE1 hag hno hlen hE ha hb hc hbulk he
    subst hw0
    go_enter Tryz.func3, Tryz.ntmps3
    go_wp2_with fail
    refine (H1.out w0 HB0.out).mono ?_
    rintro E w1 ⟨rfl, hb⟩
    have HB1 := Lib.hid (HB0.out.trans (hb.mono HB0.out.size))
    clear hb
    go_wp2_with fail
    refine (H2.out w1 HB1.out).mono ?_
    rintro E w2 ⟨rfl, hb⟩
    have HB2 := Lib.hid (HB1.out.trans (hb.mono HB1.out.size))
    clear hb
    go_wp2_with fail
    go_ret
    exact ⟨by first | rfl | (rw [t0] <;> rfl), HB2.out⟩
end Go.Proofs.YtnmhjabihfhobaaGreatDoor
/- slices.SortFunc at the leaves: its laying, in plain words (written by the kit: lay-plain.mjs). -/
namespace Go.Proofs.YtnmhjabihfhobaaGreatDoor
open Go.Shelf
def Tryz.leafSort_ren : Go.Shelf.Ren := ⟨fun | 6 => 66 | 15 => 53 | 14 => 112 | 28 => 97 | 29 => 98 | 20 => 147 | 21 => 148 | 22 => 149 | 23 => 150 | 24 => 151 | 25 => 152 | 26 => 153 | 27 => 154 | 46 => 176 | 47 => 127 | 48 => 128 | 49 => 177 | 50 => 178 | 57 => 191 | n => n, fun | 22 => 65 | 24 => 68 | 25 => 116 | 3 => 3 | 39 => 98 | 0 => 0 | 53 => 146 | 55 => 148 | 4 => 4 | 46 => 139 | 45 => 138 | 50 => 77 | 5 => 5 | 9 => 9 | 66 => 179 | 70 => 183 | 76 => 200 | 77 => 86 | n => n, fun | n => n⟩
theorem Tryz.leafSort : Go.Proofs.SlLaysF0.n6 Tryz.prog Tryz.leafSort_ren := {
  mixed := by kernel_rfl
  f6 := ⟨Tryz.f66.name, by decide, Tryz.func66.trans (congrArg some (by kernel_rfl))⟩
  f14 := ⟨Tryz.f112.name, by decide, Tryz.func112.trans (congrArg some (by kernel_rfl))⟩
  f15 := Tryz.func53.trans (congrArg some (by kernel_rfl))
  f20 := ⟨Tryz.f147.name, by decide, Tryz.func147.trans (congrArg some (by kernel_rfl))⟩
  f21 := ⟨Tryz.f148.name, by decide, Tryz.func148.trans (congrArg some (by kernel_rfl))⟩
  f22 := ⟨Tryz.f149.name, by decide, Tryz.func149.trans (congrArg some (by kernel_rfl))⟩
  f23 := ⟨Tryz.f150.name, by decide, Tryz.func150.trans (congrArg some (by kernel_rfl))⟩
  f24 := ⟨Tryz.f151.name, by decide, Tryz.func151.trans (congrArg some (by kernel_rfl))⟩
  f25 := ⟨Tryz.f152.name, by decide, Tryz.func152.trans (congrArg some (by kernel_rfl))⟩
  f26 := ⟨Tryz.f153.name, by decide, Tryz.func153.trans (congrArg some (by kernel_rfl))⟩
  f27 := ⟨Tryz.f154.name, by decide, Tryz.func154.trans (congrArg some (by kernel_rfl))⟩
  f28 := Tryz.func97.trans (congrArg some (by kernel_rfl))
  f29 := Tryz.func98.trans (congrArg some (by kernel_rfl))
  f46 := ⟨Tryz.f176.name, by decide, Tryz.func176.trans (congrArg some (by kernel_rfl))⟩
  f47 := Tryz.func127.trans (congrArg some (by kernel_rfl))
  f48 := Tryz.func128.trans (congrArg some (by kernel_rfl))
  f49 := ⟨Tryz.f177.name, by decide, Tryz.func177.trans (congrArg some (by kernel_rfl))⟩
  f50 := ⟨Tryz.f178.name, by decide, Tryz.func178.trans (congrArg some (by kernel_rfl))⟩
  f57 := ⟨Tryz.f191.name, by decide, Tryz.func191.trans (congrArg some (by kernel_rfl))⟩
  t0 := Tryz.underlying0
  a0 := Tryz.isAgg0
  z0 := Tryz.sizeOf0
  v0 := Tryz.zeroValue0
  t3 := Tryz.underlying3
  a3 := Tryz.isAgg3
  z3 := Tryz.sizeOf3
  v3 := Tryz.zeroValue3
  t4 := Tryz.underlying4
  a4 := Tryz.isAgg4
  z4 := Tryz.sizeOf4
  v4 := Tryz.zeroValue4
  t5 := Tryz.underlying5
  a5 := Tryz.isAgg5
  z5 := Tryz.sizeOf5
  v5 := Tryz.zeroValue5
  t9 := Tryz.underlying9
  a9 := Tryz.isAgg9
  z9 := Tryz.sizeOf9
  v9 := Tryz.zeroValue9
  t22 := Tryz.underlying65
  a22 := Tryz.isAgg65
  z22 := Tryz.sizeOf65
  v22 := Tryz.zeroValue65
  t25 := Tryz.underlying116
  a25 := Tryz.isAgg116
  z25 := Tryz.sizeOf116
  v25 := Tryz.zeroValue116
  t39 := Tryz.underlying98
  a39 := Tryz.isAgg98
  z39 := Tryz.sizeOf98
  v39 := Tryz.zeroValue98
  t45 := Tryz.underlying138
  a45 := Tryz.isAgg138
  z45 := Tryz.sizeOf138
  v45 := Tryz.zeroValue138
  t46 := Tryz.underlying139
  a46 := Tryz.isAgg139
  z46 := Tryz.sizeOf139
  v46 := Tryz.zeroValue139
  t50 := Tryz.underlying77
  a50 := Tryz.isAgg77
  z50 := Tryz.sizeOf77
  v50 := Tryz.zeroValue77
  t53 := Tryz.underlying146
  a53 := Tryz.isAgg146
  z53 := Tryz.sizeOf146
  v53 := Tryz.zeroValue146
  t55 := Tryz.underlying148
  a55 := Tryz.isAgg148
  z55 := Tryz.sizeOf148
  v55 := Tryz.zeroValue148
  t66 := Tryz.underlying179
  a66 := Tryz.isAgg179
  z66 := Tryz.sizeOf179
  v66 := Tryz.zeroValue179
  t70 := Tryz.underlying183
  a70 := Tryz.isAgg183
  z70 := Tryz.sizeOf183
  v70 := Tryz.zeroValue183
  t76 := Tryz.underlying200
  a76 := Tryz.isAgg200
  z76 := Tryz.sizeOf200
  v76 := Tryz.zeroValue200
  t77 := Tryz.underlying86
  a77 := Tryz.isAgg86
  z77 := Tryz.sizeOf86
  v77 := Tryz.zeroValue86 }
def Tryz.lays213_ren : Go.Shelf.Ren := ⟨fun | 213 => 113 | 265 => 155 | n => n, fun | 9 => 9 | 3 => 3 | n => n, fun | n => n⟩
theorem Tryz.lays213 : Go.Proofs.Lays.n213 Tryz.prog Tryz.lays213_ren := {
  mixed := by kernel_rfl
  f213 := Tryz.func113.trans (congrArg some (by kernel_rfl))
  f265 := Tryz.func155.trans (congrArg some (by kernel_rfl))
  t3 := Tryz.underlying3
  a3 := Tryz.isAgg3
  z3 := Tryz.sizeOf3
  v3 := Tryz.zeroValue3
  t9 := Tryz.underlying9
  a9 := Tryz.isAgg9
  z9 := Tryz.sizeOf9
  v9 := Tryz.zeroValue9 }
open Go.RowKit in
/-- internal/bytealg.CompareString (what strings.Compare calls): IT RETURNS 'Lib.compareBytes a b'; the world is as it was. (LAID: no walk: one application.) -/
theorem Tryz.bytealg_CompareString (a b : ByteArray) (w : World) :
    Calls Tryz.prog 113 #[.string a, .string b] w fun e w' => e = .returned (.int .i64 (Lib.compareBytes a.data.toList b.data.toList)) ∧ w' = w := Any.bytealg_CompareString Tryz.lays213 a b w
def Tryz.lays106_ren : Go.Shelf.Ren := ⟨fun | 106 => 68 | 213 => 113 | 265 => 155 | n => n, fun | 9 => 9 | 3 => 3 | n => n, fun | n => n⟩
theorem Tryz.lays106 : Go.Proofs.Lays.n106 Tryz.prog Tryz.lays106_ren := {
  mixed := by kernel_rfl
  f106 := Tryz.func68.trans (congrArg some (by kernel_rfl))
  f213 := Tryz.func113.trans (congrArg some (by kernel_rfl))
  f265 := Tryz.func155.trans (congrArg some (by kernel_rfl))
  t3 := Tryz.underlying3
  a3 := Tryz.isAgg3
  z3 := Tryz.sizeOf3
  v3 := Tryz.zeroValue3
  t9 := Tryz.underlying9
  a9 := Tryz.isAgg9
  z9 := Tryz.sizeOf9
  v9 := Tryz.zeroValue9 }
open Go.RowKit in
/-- strings.Compare: "Compare returns an integer comparing two strings lexicographically. The result will be 0 if a == b, -1 if a < b, and +1 if a > b.": IT RETURNS 'Lib.compareBytes a b'; the world is as it was. (LAID: no walk: one application.) -/
theorem Tryz.strings_Compare (a b : ByteArray) (w : World) :
    Calls Tryz.prog 68 #[.string a, .string b] w fun e w' => e = .returned (.int .i64 (Lib.compareBytes a.data.toList b.data.toList)) ∧ w' = w := Any.strings_Compare Tryz.lays106 a b w
end Go.Proofs.YtnmhjabihfhobaaGreatDoor
/- The leaves of a document: plain. -/
namespace Go.Proofs.YtnmhjabihfhobaaGreatDoor
open Go
namespace JP
mutual
def gat : List Bs → JV → List (List Bs × JV)
  | way, .obj l => if l.isEmpty = true then (if way.isEmpty = true then [] else [(way, .obj [])]) else gatF way l
  | way, .list l => [(way, .list l)]
  | way, .nul => [(way, .nul)]
  | way, .bool b => [(way, .bool b)]
  | way, .num n => [(way, .num n)]
  | way, .str s => [(way, .str s)]
termination_by structural _ x => x
def gatF : List Bs → List (Bs × JV) → List (List Bs × JV)
  | _, [] => []
  | way, (n, v) :: r => gat (way ++ [n]) v ++ gatF way r
termination_by structural _ x => x
end
theorem gat_other {x : JV} (h : ∀ l, x ≠ .obj l) (way : List Bs) : gat way x = [(way, x)] := by
  cases x with
  | obj l => exact absurd rfl (h l)
  | _ => rw [gat]
theorem gatF_append (way : List Bs) : ∀ a b : List (Bs × JV), gatF way (a ++ b) = gatF way a ++ gatF way b
  | [], b => by rw [gatF]; rfl
  | (n, v) :: r, b => by rw [List.cons_append, gatF, gatF, gatF_append way r b, List.append_assoc]
theorem gatF_one (way : List Bs) (n : Bs) (v : JV) : gatF way [(n, v)] = gat (way ++ [n]) v := by rw [gatF, gatF, List.append_nil]
theorem gatF_step (way : List Bs) {l : List (Bs × JV)} {i : Nat} {y : Bs × JV} (h : l[i]? = some y) : gatF way (l.take (i + 1)) = gatF way (l.take i) ++ gat (way ++ [y.1]) y.2 := by
  rw [List.take_add_one, h, gatF_append]
  show _ ++ gatF way [(y.1, y.2)] = _
  rw [gatF_one]
theorem sizeF_here : ∀ {l : List (Bs × JV)} {j : Nat} {y : Bs × JV}, l[j]? = some y → sizeF (l.take j) + size y.2 ≤ sizeF l
  | [], j, y, h => by simp at h
  | (n, v) :: r, 0, y, h => by
    simp at h
    subst h
    rw [List.take_zero, sizeF, sizeF]; simp only; omega
  | (n, v) :: r, j + 1, y, h => by
    rw [List.getElem?_cons_succ] at h
    have := sizeF_here h
    rw [List.take_succ_cons, sizeF, sizeF]
    omega
mutual
theorem gat_len : ∀ (way : List Bs) (x : JV), (gat way x).length ≤ size x
  | way, .obj l => by
    rw [gat, size]
    split
    · split <;> simp
    · have := gatF_len way l; omega
  | way, .list l => by rw [gat]; have := size_pos (.list l); simpa using this
  | way, .nul => by rw [gat]; simp [size]
  | way, .bool b => by rw [gat]; simp [size]
  | way, .num n => by rw [gat]; simp [size]
  | way, .str s => by rw [gat]; simp [size]
termination_by structural _ x => x
theorem gatF_len : ∀ (way : List Bs) (l : List (Bs × JV)), (gatF way l).length ≤ sizeF l
  | _, [] => by rw [gatF]; simp
  | way, (n, v) :: r => by
    rw [gatF, sizeF, List.length_append]
    have := gat_len (way ++ [n]) v
    have := gatF_len way r
    omega
termination_by structural _ x => x
end
end JP
end Go.Proofs.YtnmhjabihfhobaaGreatDoor
/- fields.gather: its contract. -/
namespace Go.Proofs.YtnmhjabihfhobaaGreatDoor
open Go.RowKit
open JP (JV Bs)

abbrev Leaf := List Bs × JV
def pathP (way : List Bs) : Bs := if 10 < way.length then [] else joinK way
/-- a leaf in memory: its value as it lay in w0 -/
def LeafX (w0 : World) : Rd Leaf := fun w cs p => ∃ sv vv k, cs = [.string (mkB (pathP p.1)), sv, vv] ∧ StrX 68 w sv (p.1.map mkB) ∧ JvAt k [] w0 vv p.2
theorem leafX_staysX (w0 : World) : StaysX 68 (LeafX w0) := fun _ _ _ _ hs ⟨sv, vv, k, h1, h2, h3⟩ => ⟨sv, vv, k, h1, h2.stays hs, h3⟩
theorem strX_cell {e : TypeId} {w : World} {v : Value} {l : List ByteArray} (h : StrX e w v l) : v.oneCell' = true := by
  obtain ⟨a, c, hv, _, _⟩ := h.1.len
  rw [hv]; rfl
theorem leafX_one (w0 : World) : OneR (LeafX w0) := fun w cs x ⟨sv, vv, k, h1, h2, h3⟩ u hu => by
  rw [h1] at hu
  simp only [List.mem_cons, List.not_mem_nil, or_false] at hu
  rcases hu with rfl | rfl | rfl
  · rfl
  · exact strX_cell h2
  · exact one_jv k [] w0 [u] x.2 ⟨u, rfl, h3⟩ u (List.mem_singleton.2 rfl)
theorem Tryz.infoLeaf : (Tryz.prog.info? 68).map (fun i => (i.zero, i.size, i.bytes)) = some (some (.agg #[.string ByteArray.empty, .slice none 0 0, .nilIface]), 3, 56) := by kernel_rfl
def GatAt (w0 : World) (out : List Leaf) (x : JV) (way : List Bs) (w : World) (e : Ending) (w' : World) : Prop :=
  ∃ ov', e = .returned ov' ∧ OwnAt (LeafX w0) 3 w' w0.heap.size 68 ov' (out ++ JP.gat way x) ∧ Below w0.heap.size w0 w' ∧ SameBut 68 w w' ∧ w.heap.size ≤ w'.heap.size
def GatIn (n : Nat) : Prop := ∀ (v wv ov : Value) (x : JV) (way : List Bs) (out : List Leaf) (w0 w : World), JvAt n [] w0 v x → StrX 68 w wv (way.map mkB) → OwnAt (LeafX w0) 3 w w0.heap.size 68 ov out → Below w0.heap.size w0 w →
    out.length + JP.size x ≤ 1048576 → (way.map fun s => s.length + 1).sum + (JP.text x).length ≤ 20000 → (∃ m, MaxOK m w0) → Calls Tryz.prog 65 #[v, wv, ov] w (GatAt w0 out x way w)
theorem below_drewG (B : Nat) (w : World) (k : Nat) : Below B w (w.drewN k) := ⟨rfl, rfl, rfl, Nat.le_refl _, fun _ _ => rfl⟩
theorem joinL_mk (way : List Bs) : joinL (way.map mkB) = joinK way := by
  rw [joinL_map, List.map_map]
  have : ((fun s : ByteArray => s.data.toList) ∘ mkB) = id := funext fun s => mkB_list s
  rw [this, List.map_id]
theorem total_mk (way : List Bs) : total (way.map mkB) = (way.map fun s => s.length + 1).sum := by
  unfold total
  rw [List.map_map]
  refine congrArg List.sum (List.map_congr_left fun s _ => ?_)
  show (mkB s).size + 1 = _
  rw [mkB_size]
theorem way_len2 (way : List Bs) : way.length ≤ (way.map fun s => s.length + 1).sum := by
  induction way with
  | nil => exact Nat.le_refl _
  | cons s r ih => rw [List.map_cons, List.sum_cons, List.length_cons]; omega
theorem way_sum2 (way : List Bs) (n : Bs) : ((way ++ [n]).map fun s => s.length + 1).sum = (way.map fun s => s.length + 1).sum + (n.length + 1) := by
  rw [List.map_append, List.sum_append]; simp
theorem JP.sizeF_long : ∀ l : List (Bs × JV), l.length ≤ JP.sizeF l
  | [] => Nat.zero_le _
  | (n, v) :: r => by
    have := JP.sizeF_long r
    have := JP.size_pos v
    rw [List.length_cons, JP.sizeF]; omega
theorem jv_shape {n : Nat} {T : List Nat} {w : World} {v : Value} {x : JV} (h : JvAt n T w v x) : v = .nilIface ∨ ∃ t u, v = .iface t u := by
  cases n with
  | zero => cases h
  | succ n =>
    cases x with
    | nul => exact .inl h
    | bool b => exact .inr ⟨_, _, h⟩
    | num k => exact .inr ⟨_, _, h.1⟩
    | str s => exact .inr ⟨_, _, h⟩
    | list l => obtain ⟨u, h1, _⟩ := h; exact .inr ⟨_, _, h1⟩
    | obj l => obtain ⟨q, h1, _⟩ := h; exact .inr ⟨_, _, h1⟩
theorem jv_alloc {n : Nat} {w w' : World} {v : Value} {x : JV} (h : JvAt n [] w v x) (hb : Below w.heap.size w w') : JvAt n [] w' v x := h.keepT (KeepT.of hb)
theorem strX_raw {w : World} {v : Value} {L : List ByteArray} (h : StrAt w v L) : RowAt RVal 1 w v (L.map .string) := by
  rcases h.row with ⟨h1, rfl⟩ | ⟨a, c, h1, h2, h3, h4⟩
  · exact .inl ⟨h1, rfl⟩
  · refine .inr ⟨a, c, by rw [List.length_map]; exact h1, by rw [List.length_map]; exact h2, h3, fun j x hx => ?_⟩
    rw [List.getElem?_map] at hx
    obtain ⟨y, hy, rfl⟩ := Option.map_eq_some_iff.1 hx
    obtain ⟨cs, g1, g2, g3⟩ := h4 j y hy
    obtain rfl : cs = [.string y] := g3
    exact ⟨_, g1, g2, rfl, rfl⟩
theorem raw_own {w : World} {B : Nat} {e : TypeId} {v : Value} {L : List ByteArray} (h : OwnAt RVal 1 w B e v (L.map .string)) : OwnAt RString 1 w B e v L := by
  obtain ⟨css, h1, h2, h3, h4⟩ := h
  rw [List.length_map] at h1 h3
  refine ⟨css, h1, h2, h3, fun j cs x hcs hx => ?_⟩
  have := h4 j cs (.string x) hcs (by rw [List.getElem?_map, hx]; rfl)
  exact this.1
def AtJ (n : Nat) (w0 : World) : Rd JV := fun _ cs x => ∃ v, cs = [v] ∧ JvAt n [] w0 v x
set_option maxRecDepth 100000 in
set_option maxHeartbeats 1600000 in
theorem get_at {n : Nat} {w0 : World} {T : List Nat} {q : Nat} {d : List (Bs × JV)} {x : Bs} {w : World} (h : ObR (AtJ n w0) T w q d) (hl : d.length ≤ 1048576) :
    Calls Tryz.prog 49 #[.pointer (some ⟨q, 0, none⟩), .string (mkB x)] w fun e w' => ∃ v, e = .returned (.tuple #[v, .bool (JP.get x d).isSome]) ∧ (∀ y, JP.get x d = some y → JvAt n [] w0 v y) ∧ (JP.get x d = none → v = .nilIface) ∧ ∃ k, w' = w.drewN k := by
  obtain ⟨_, hs, vn, vv, cn, cv, hrn, _, hrv, _⟩ := h
  have HS := Lib.hid (search_any (x := x) hs hrn hl)
  have hpl := JP.pos_le x d
  have HF := Lib.hid (JP.find_spec (n := x) hs)
  obtain ⟨p, hp⟩ : ∃ p, JP.pos x d = p := ⟨_, rfl⟩
  rw [hp] at HS HF hpl
  have Hrv := Lib.hid hrv
  clear hrn hrv hs hp
  rcases HF.out with ⟨y, hy, hg, _⟩ | ⟨_, hg, _⟩
  · have hlt : p < d.length := (List.getElem?_eq_some_iff.1 hy).1
    obtain ⟨b, o, c, rfl, _, _, hbs, hcell⟩ := Hrv.out.form (by rw [List.length_map]; omega) (by omega)
    rw [List.length_map] at cv
    obtain ⟨cs, _, hcc, vx, rfl, hvx⟩ := hcell p y (by rw [List.getElem?_map, hy]; rfl)
    have e0 : w.cell? ⟨b, o + p, none⟩ = some vx := by simpa using hcc 0 _ rfl
    have HX := Lib.hid hvx
    have HG := Lib.hid hg
    rw [hg] at HS
    have q1 : (0 : Int) ≤ (p : Int) := by omega
    have q2 : (p : Int) < (d.length : Int) := by omega
    clear hcell hcc hvx hg hy HF
    go_enter Tryz.func49, Tryz.ntmps49
    go_wp2_with fail
    refine HS.out.mono ?_
    rintro E w1 ⟨rfl, k, rfl⟩
    have e1 : (w.drewN k).cell? ⟨b, o + p, none⟩ = some vx := e0
    have cv1 : (w.drewN k).cell? ⟨q, 1, none⟩ = _ := cv
    go_wp2_with fail
    go_ret2
    have hg := HG.out
    refine ⟨vx, by rw [hg]; rfl, ?_, ?_, k, rfl⟩
    · intro y' h'
      rw [hg] at h'
      cases h'
      exact HX.out
    · intro h'
      rw [hg] at h'
      cases h'
  · have HG := Lib.hid hg
    rw [hg] at HS
    clear hg HF
    go_enter Tryz.func49, Tryz.ntmps49
    go_wp2_with fail
    refine HS.out.mono ?_
    rintro E w1 ⟨rfl, k, rfl⟩
    go_wp2_with fail
    go_ret2
    have hg := HG.out
    refine ⟨.nilIface, by rw [hg]; rfl, ?_, fun _ => rfl, k, rfl⟩
    intro y' h'
    rw [hg] at h'
    cases h'
/-- what a leaf's append makes of the row -/
theorem gat_leaf {w0 : World} {out : List Leaf} {x : JV} {way : List Bs} {w w' : World} {ov' : Value} (h1 : JP.gat way x = [(way, x)]) (hv : OwnAt (LeafX w0) 3 w' w0.heap.size 68 ov' (out ++ [(way, x)])) (hb : Below w0.heap.size w0 w') (hs : SameBut 68 w w') (hz : w.heap.size ≤ w'.heap.size) : GatAt w0 out x way w (.returned ov') w' :=
  ⟨ov', rfl, by rw [h1]; exact hv, hb, hs, hz⟩

set_option maxRecDepth 100000 in
set_option maxHeartbeats 12800000 in
theorem gather_step (n : Nat) (ih : GatIn n) : GatIn (n + 1) := by
  intro v wv ov x way out w0 w hv hw ho hb hl ht hm
  obtain ⟨mx, hm⟩ := hm
  obtain ⟨i0, hi0, hz0, hz1, hz2⟩ := info_parts Tryz.infoLeaf
  obtain ⟨j0, hj0, hy0, hy1, hy2⟩ := info_parts Tryz.infoStr
  have hway := way_len2 way
  have htot := total_mk way
  have hgl := JP.gat_len way x
  have hxs := JP.size_pos x
  obtain ⟨wa, wc, hwe, _, _⟩ := hw.1.len
  obtain ⟨wn, hwn⟩ : ∃ m, (way.map mkB).length = m := ⟨_, rfl⟩
  rw [hwn] at hwe
  subst hwe
  have hwl : way.length = wn := by rw [← hwn, List.length_map]
  have hJ0 := ptrJoin_any (.slice wa wn wc) (way.map mkB) mx w hw.1 (by rw [htot]; omega) (hm.below hb)
  have hJr : (if 10 < (way.map mkB).length then Value.tuple #[.string ⟨#[]⟩, .int .i64 2] else .tuple #[.string ⟨(joinL (way.map mkB)).toArray⟩, .int .i64 0]) = .tuple #[.string (mkB (pathP way)), .int .i64 (if 10 < way.length then 2 else 0)] := by
    rw [joinL_mk, List.length_map]
    unfold pathP
    split <;> rfl
  rw [hJr] at hJ0
  obtain ⟨JE, hJE⟩ : ∃ e : Int, (if 10 < way.length then 2 else 0) = e := ⟨_, rfl⟩
  rw [hJE] at hJ0
  have HJ := Lib.hid hJ0
  have HO := Lib.hid ho
  have HW := Lib.hid hw
  have HB := Lib.hid hb
  have Hm := Lib.hid hm
  have hs := hb.size
  clear hJ0 hJr hJE ho hm htot
  by_cases hobj : ∃ l, x = .obj l
  · obtain ⟨l, rfl⟩ := hobj
    obtain ⟨q, rfl, hob⟩ := hv
    have GB := (as_obj (.pointer (some ⟨q, 0, none⟩))).2.2.2.2
    have hqm : q ∉ ([] : List Nat) := hob.1
    have hob0 := hob
    obtain ⟨_, hsrt, vn, vv, cn, cv, hrn, _, hrv, _⟩ := hob0
    obtain ⟨an, cn2, hne, _, _⟩ := hrn.len
    obtain ⟨ln, hln⟩ : ∃ m, l.length = m := ⟨_, rfl⟩
    rw [List.length_map, hln] at hne
    subst hne
    have hq0 : q < w0.heap.size := World.block_lt_of_cell? w0 _ cn
    have cnw := (hb.cell (p := ⟨q, 0, none⟩) hq0).trans cn
    have HOb := Lib.hid hob
    have HRn := Lib.hid hrn
    have HV : Hid (JvAt (n + 1) [] w0 (.iface 74 (.pointer (some ⟨q, 0, none⟩))) (.obj l)) := Lib.hid ⟨q, rfl, hob⟩
    have HCn := Lib.hid cn
    by_cases h0 : ln = 0
    · subst h0
      obtain rfl : l = [] := List.eq_nil_of_length_eq_zero hln
      by_cases hw0 : wn = 0
      · have hwy : way = [] := List.eq_nil_of_length_eq_zero (by omega)
        have HGo : Hid (GatAt w0 out (.obj []) way w (.returned ov) w) := Lib.hid ⟨ov, rfl, by rw [hwy, JP.gat]; simpa using HO.out, HB.out, fun _ _ _ _ h _ => h, Nat.le_refl _⟩
        have HNm := Lib.hid (names_any q _ w cnw)
        subst hw0
        clear hwy hwl hwn hln hob hrn hrv cn cv hsrt hqm ih hw hb cnw hgl HJ
        go_enter Tryz.func65, Tryz.ntmps65
        go_wp2_with fail
        refine HNm.out.mono ?_
        rintro E wz ⟨rfl, rfl⟩
        go_wp2_with fail
        go_ret
        exact HGo.out
      · have hwy : way ≠ [] := fun e => hw0 (by rw [← hwl, e]; rfl)
        have Hgat : Hid (JP.gat way (.obj []) = [(way, .obj [])]) := Lib.hid (by rw [JP.gat]; simp [hwy])
        have HNm := Lib.hid (names_any q _ w cnw)
        have qn : ((wn : Int) == 0) = false := by rw [beq_eq_false_iff_ne]; omega
        obtain ⟨x0, hx0⟩ : ∃ y, y = JV.obj [] := ⟨_, rfl⟩
        rw [← hx0] at HV Hgat hl ht ⊢
        clear hwy hwl hwn hln hob hrn hrv cn cv hsrt hqm ih hw hb cnw hgl hx0 hw0
        go_enter Tryz.func65, Tryz.ntmps65
        go_wp2_with fail
        refine HNm.out.mono ?_
        rintro E wz ⟨rfl, rfl⟩
        clear HNm
        go_wp2_with fail
        refine HJ.out.mono ?_
        rintro E w1 ⟨rfl, hb1⟩
        have HO1 := Lib.hid (HO.out.belowX (leafX_staysX _) hb1)
        have HB1 := Lib.hid (HB.out.trans (hb1.mono HB.out.size))
        have HW1 := Lib.hid (HW.out.stays (sameBut_below hb1))
        have HS1 := Lib.hid (sameBut_below (e := 68) hb1)
        have hs1 := hb1.size
        have hs0 := HB1.out.size
        clear hb1 HJ HO HB HW
        obtain ⟨w2, hw2⟩ : ∃ w2, w2 = w1.alloc (.cells #[.string (mkB (pathP way)), .slice wa wn wc, .iface 74 (.pointer (some ⟨q, 0, none⟩))] 68) := ⟨_, rfl⟩
        have hb2 : Below w1.heap.size w1 w2 := by rw [hw2]; exact (Below.refl _ w1).alloc (Nat.le_refl _) _
        have hx2 : LeafX w0 w2 [.string (mkB (pathP way)), .slice wa wn wc, .iface 74 (.pointer (some ⟨q, 0, none⟩))] (way, x0) := ⟨_, _, _, rfl, HW1.out.stays (sameBut_below hb2), HV.out⟩
        have hr2 : RowAt (LeafX w0) 3 w2 (.slice (some ⟨w1.heap.size, 0, none⟩) 1 1) [(way, x0)] := by rw [hw2]; exact RowAt.one (R := LeafX w0) (k := 3) (cs := #[.string (mkB (pathP way)), .slice wa wn wc, .iface 74 (.pointer (some ⟨q, 0, none⟩))]) (heap_alloc_new w1 _) rfl (by rw [← hw2]; exact hx2)
        have HR2 := Lib.hid hr2
        have HO2 := Lib.hid (HO1.out.belowX (leafX_staysX _) hb2)
        have HB2 := Lib.hid (HB1.out.trans (hb2.mono HB1.out.size))
        have HS2 := Lib.hid (HS1.out.trans (sameBut_below (e := 68) hb2))
        have hs2 := hb2.size
        have hs02 : w0.heap.size ≤ w2.heap.size := by omega
        clear hb2 hx2 hr2 HO1 HB1 HW1 HS1
        go_wp2_with (at_builtin; rw [← hw2]; refine wpList_append_ownAtX (R := LeafX w0) (k := 3) (e := 68) (B := w0.heap.size) (l := out) (m := [(way, x0)]) _ (by rfl) _ _ _ (by rfl) i0 _ 56 Tryz.underlying65 hi0 hz0 hz1 hz2 rfl (by omega) (leafX_staysX _) (leafX_one _) _ (by rfl) HO2.out _ (by rfl) HR2.out (by unfold maxLen; simp; omega) (by simp; omega) hs02 ?_)
        intro v' w3 hv' hgr hr _
        rw [← hw2] at hgr
        have hb3 := below_of_grown HB2.out hs02 hgr hr
        have hs3 := HS2.out.trans (HO2.out.sameBut hgr)
        have HGo := Lib.hid (gat_leaf (w := w) (Hgat.out) hv' hb3 hs3 (by have := hgr.size; omega))
        clear hv' hgr hr hb3 hs3 hw2 HR2 HO2 HB2 HS2
        go_wp2_with fail
        go_ret
        exact HGo.out
    · have hpos : (0 : Int) < (ln : Int) := by omega
      have Hgat : Hid (JP.gat way (.obj l) = JP.gatF way l) := Lib.hid (by
        rw [JP.gat, if_neg]
        intro e
        have : l = [] := by simpa using e
        rw [this] at hln
        exact h0 hln.symm)
      have HNm := Lib.hid (names_any q _ w cnw)
      have Hln := Lib.hid hln
      have hln9 : ln ≤ 1048576 := by
        have h8 : JP.size (.obj l) = 1 + JP.sizeF l := by rw [JP.size]
        have h9 := JP.sizeF_long l
        omega
      have Hsz : Hid (out.length + 1 + JP.sizeF l ≤ 1048576) := Lib.hid (by have h8 : JP.size (.obj l) = 1 + JP.sizeF l := by rw [JP.size]
                                                                            show _ ≤ _; omega)
      have Hty : Hid ((way.map fun s => s.length + 1).sum + (JP.text (.obj l)).length ≤ 20000) := Lib.hid ht
      have HIh := Lib.hid ih
      have Hwn := Lib.hid hwn
      have Hsrt := Lib.hid hsrt
      have Hw0 : Hid (way.length ≤ 20000) := Lib.hid (by have := ht; omega)
      clear h0 hwl hwn hln hob hrn hrv cn cv hsrt hqm ih hw hb hgl HJ hl ht hxs
      go_enter Tryz.func65, Tryz.ntmps65
      go_wp2_with fail
      refine HNm.out.mono ?_
      rintro E wz ⟨rfl, rfl⟩
      go_wp2_with fail
      refine HNm.out.mono ?_
      rintro E wz ⟨rfl, rfl⟩
      clear HNm
      go_wp2_with fail
      go_loopg [2, 30] ln (fun k u2 u30 wr => ∃ i : Nat, i + k = ln ∧ u30 = .int .i64 (i : Int) ∧ Hid (OwnAt (LeafX w0) 3 wr w0.heap.size 68 u2 (out ++ JP.gatF way (l.take i))) ∧ Hid (Below w0.heap.size w0 wr) ∧ Hid (SameBut 68 w wr) ∧ Hid (w.heap.size ≤ wr.heap.size))
      case atStart => exact ⟨0, by omega, rfl, Lib.hid (by rw [List.take_zero, JP.gatF, List.append_nil]; exact HO.out), HB, Lib.hid (fun _ _ _ _ h _ => h), Lib.hid (Nat.le_refl _)⟩
      case round =>
        obtain ⟨i, hik, rfl, HO, HB, HS, HZ⟩ := hrel
        cases gk with
        | zero =>
          have hil : i = ln := by omega
          subst hil
          have q9 : ¬ (i : Int) < (i : Int) := by omega
          have htk : l.take i = l := List.take_of_length_le (by rw [Hln.out]; exact Nat.le_refl _)
          rw [htk] at HO
          have HGo := Lib.hid (show GatAt w0 out (.obj l) way w (.returned _) _ from ⟨_, rfl, by rw [Hgat.out]; exact HO.out, HB.out, HS.out, HZ.out⟩)
          clear htk HO HB HS HZ
          go_wp2_with fail
          go_ret
          exact HGo.out
        | succ k =>
          have hil : i < ln := by omega
          obtain ⟨y, hy⟩ : ∃ y, l[i]? = some y := ⟨l[i]'(by rw [Hln.out]; exact hil), List.getElem?_eq_getElem _⟩
          obtain ⟨b1, o1, c', hv1, _, _, hbs1, hcell1⟩ := HRn.out.form (by rw [List.length_map, Hln.out]; omega) (by omega)
          injection hv1 with u1 u2 u3
          subst u1
          clear u2 u3
          obtain ⟨ds1, _, hcc1, hR1⟩ := hcell1 i (mkB y.1) (by rw [List.getElem?_map, hy]; rfl)
          obtain rfl : ds1 = [.string (mkB y.1)] := hR1
          have e9 : w0.cell? ⟨b1, o1 + i, none⟩ = some (.string (mkB y.1)) := by simpa using hcc1 0 _ rfl
          have e0 := (HB.out.cell (p := ⟨b1, o1 + i, none⟩) (World.block_lt_of_cell? w0 _ e9)).trans e9
          have q1 : (0 : Int) ≤ (i : Int) := by omega
          have q2 : (i : Int) < (ln : Int) := by omega
          have Hy := Lib.hid hy
          have HG := Lib.hid (get_at (x := y.1) (HOb.out.keepT (R' := AtJ n w0) (KeepT.of HB.out) (fun _ _ h => h)) (by rw [Hln.out]; exact hln9))
          have hget := JP.get_at3 Hsrt.out hy
          rw [hget] at HG
          have Hst := Lib.hid (JP.gatF_step way hy)
          have Hs1 := Lib.hid (JP.sizeF_here hy)
          have Hs2 := Lib.hid (JP.gatF_len way (l.take i))
          have Hs3 : Hid (y.1.length + 1 + (JP.text y.2).length + 2 ≤ JP.lenF l) := Lib.hid (JP.name_len (show l[i]? = some (y.1, y.2) from hy))
          have Hs4 := Lib.hid (lenF_text l)
          clear hcell1 hcc1 hy e9 hget hbs1
          go_wp2_with fail
          refine HG.out.mono ?_
          rintro E w1 ⟨vg, rfl, hvg, _, kd, rfl⟩
          have Hvg := Lib.hid (hvg y.2 rfl)
          have hbd := below_drewG (wr.heap.size) wr kd
          obtain ⟨w3, hw3⟩ : ∃ u, wr.drewN kd = u := ⟨_, rfl⟩
          rw [hw3] at hbd ⊢
          have HO3 := Lib.hid (HO.out.belowX (leafX_staysX _) hbd)
          have HB3 := Lib.hid (HB.out.trans (hbd.mono HB.out.size))
          have HS3 := Lib.hid (HS.out.trans (sameBut_below (e := 68) hbd))
          have HZ3 : Hid (w.heap.size ≤ w3.heap.size) := Lib.hid (Nat.le_trans HZ.out hbd.size)
          have HW3 := Lib.hid (HW.out.stays HS3.out)
          clear hvg hbd hw3 HG e0 HO HB HS HZ
          have HCl := Lib.hid (cloneStr_any (.slice wa wn wc) _ w3 (strX_raw HW3.out.1) (by rw [List.length_map, List.length_map]; have := Hw0.out; omega))
          go_wp2_with fail
          refine HCl.out.mono ?_
          rintro E wk ⟨vc, rfl, hown, hbc⟩
          have HOwn := Lib.hid hown
          have Hbc := Lib.hid hbc
          clear hown hbc HCl
          have hb7 : Below wk.heap.size wk (wk.alloc (.cells #[.string (mkB y.1)] 9)) := (Below.refl _ wk).alloc (Nat.le_refl _) _
          have HOwn7 := Lib.hid (HOwn.out.below stays_val hb7)
          have Hb7 := Lib.hid (Hbc.out.trans (hb7.mono Hbc.out.size))
          have Hs7 : Hid (w3.heap.size ≤ (wk.alloc (.cells #[.string (mkB y.1)] 9)).heap.size) := Lib.hid Hb7.out.size
          have hr1 : RowAt RVal 1 (wk.alloc (.cells #[.string (mkB y.1)] 9)) (.slice (some ⟨wk.heap.size, 0, none⟩) 1 1) [Value.string (mkB y.1)] := RowAt.one (R := RVal) (x := Value.string (mkB y.1)) (heap_alloc_new wk _) rfl ⟨rfl, rfl⟩
          have bd1 : ((way.map mkB).map Value.string).length + [Value.string (mkB y.1)].length ≤ maxLen := by unfold maxLen; rw [List.length_map, List.length_map]; simp only [List.length_cons, List.length_nil]; have := Hw0.out; omega
          have bd2 : (((way.map mkB).map Value.string).length + [Value.string (mkB y.1)].length) * 16 ≤ 140737488355328 := by rw [List.length_map, List.length_map]; simp only [List.length_cons, List.length_nil]; have := Hw0.out; omega
          clear hb7
          go_wp2_with (at_builtin; refine wpList_append_ownAt (R := RVal) (k := 1) (e := 9) (B := w3.heap.size) (l := (way.map mkB).map .string) (m := [.string (mkB y.1)]) _ (by rfl) _ _ _ (by rfl) j0 _ 16 Tryz.underlying25 hj0 hy0 hy1 hy2 rfl (by omega) flat_val one_val _ (by rfl) HOwn7.out _ (by rfl) hr1 bd1 bd2 Hs7.out ?_)
          intro v8 w8 hv8 hg8 hr8 _
          have hb8 : Below w3.heap.size w3 w8 := Hb7.out.trans (below_of_grown (Below.refl _ _) Hs7.out hg8 hr8)
          have hst8 : StrX 68 w8 v8 ((way ++ [y.1]).map mkB) := by
            refine (raw_own (L := (way ++ [y.1]).map mkB) (by rw [List.map_append, List.map_append, List.map_map]; exact hv8)).strX (by decide)
          have HO8 := Lib.hid (HO3.out.belowX (leafX_staysX _) hb8)
          have HB8 := Lib.hid (HB3.out.trans (hb8.mono HB3.out.size))
          have HS8 := Lib.hid (HS3.out.trans (sameBut_below (e := 68) hb8))
          have HZ8 : Hid (w.heap.size ≤ w8.heap.size) := Lib.hid (Nat.le_trans HZ3.out hb8.size)
          have HI := Lib.hid (HIh.out vg v8 _ y.2 (way ++ [y.1]) (out ++ JP.gatF way (l.take i)) w0 w8 Hvg.out hst8 HO8.out HB8.out (by rw [List.length_append]; have := Hs1.out; have := Hs2.out; have := Hsz.out; omega) (by rw [way_sum2]; have := Hs3.out; have := Hs4.out; have := Hty.out; omega) ⟨mx, Hm.out⟩)
          clear hv8 hg8 hr8 hb8 hst8 HOwn7 HOwn Hb7 Hs7 hr1 bd1 bd2 Hbc HO3 HB3 HS3 HZ3 HW3 HO8 HB8
          go_wp2_with fail
          refine HI.out.mono ?_
          rintro E w9 ⟨v9, rfl, ho9, hb9, hs9, hz9⟩
          have HO9 : Hid (OwnAt (LeafX w0) 3 w9 w0.heap.size 68 v9 (out ++ JP.gatF way (l.take (i + 1)))) := Lib.hid (by rw [Hst.out, ← List.append_assoc]; exact ho9)
          have HB9 := Lib.hid hb9
          have HS9 := Lib.hid (HS8.out.trans hs9)
          have HZ9 : Hid (w.heap.size ≤ w9.heap.size) := Lib.hid (Nat.le_trans HZ8.out hz9)
          clear ho9 hb9 hs9 hz9 HI HS8 HZ8
          go_wp2_with fail
          go_roundg k
          case measure => omega
          case rel => exact ⟨i + 1, by omega, by go_num, HO9, HB9, HS9, HZ9⟩
  · have hno : ∀ l, x ≠ .obj l := fun l e => hobj ⟨l, e⟩
    have GA := as_other hv hno
    have hgat := JP.gat_other hno way
    obtain ⟨x0, hx0⟩ : ∃ y, x = y := ⟨_, rfl⟩
    have HV := Lib.hid hv
    rw [hx0] at HV hgat ⊢
    have Hgat := Lib.hid hgat
    have hform := jv_shape hv
    clear hobj hno hv hw hb hgat ih hgl hx0 hwn hwl
    rcases hform with rfl | ⟨vt, vu, rfl⟩
    · go_enter Tryz.func65, Tryz.ntmps65
      go_wp2_with fail
      refine HJ.out.mono ?_
      rintro E w1 ⟨rfl, hb1⟩
      have HO1 := Lib.hid (HO.out.belowX (leafX_staysX _) hb1)
      have HB1 := Lib.hid (HB.out.trans (hb1.mono HB.out.size))
      have HW1 := Lib.hid (HW.out.stays (sameBut_below hb1))
      have HS1 := Lib.hid (sameBut_below (e := 68) hb1)
      have hs1 := hb1.size
      have hs0 := HB1.out.size
      clear hb1 HJ HO HB HW
      obtain ⟨w2, hw2⟩ : ∃ w2, w2 = w1.alloc (.cells #[.string (mkB (pathP way)), .slice wa wn wc, .nilIface] 68) := ⟨_, rfl⟩
      have hb2 : Below w1.heap.size w1 w2 := by rw [hw2]; exact (Below.refl _ w1).alloc (Nat.le_refl _) _
      have hx2 : LeafX w0 w2 [.string (mkB (pathP way)), .slice wa wn wc, .nilIface] (way, x0) := ⟨_, _, _, rfl, HW1.out.stays (sameBut_below hb2), HV.out⟩
      have hr2 : RowAt (LeafX w0) 3 w2 (.slice (some ⟨w1.heap.size, 0, none⟩) 1 1) [(way, x0)] := by rw [hw2]; exact RowAt.one (R := LeafX w0) (k := 3) (cs := #[.string (mkB (pathP way)), .slice wa wn wc, .nilIface]) (heap_alloc_new w1 _) rfl (by rw [← hw2]; exact hx2)
      have HR2 := Lib.hid hr2
      have HO2 := Lib.hid (HO1.out.belowX (leafX_staysX _) hb2)
      have HB2 := Lib.hid (HB1.out.trans (hb2.mono HB1.out.size))
      have HS2 := Lib.hid (HS1.out.trans (sameBut_below (e := 68) hb2))
      have hs2 := hb2.size
      have hs02 : w0.heap.size ≤ w2.heap.size := by omega
      clear hb2 hx2 hr2 HO1 HB1 HW1 HS1
      go_wp2_with (at_builtin; rw [← hw2]; refine wpList_append_ownAtX (R := LeafX w0) (k := 3) (e := 68) (B := w0.heap.size) (l := out) (m := [(way, x0)]) _ (by rfl) _ _ _ (by rfl) i0 _ 56 Tryz.underlying65 hi0 hz0 hz1 hz2 rfl (by omega) (leafX_staysX _) (leafX_one _) _ (by rfl) HO2.out _ (by rfl) HR2.out (by unfold maxLen; simp; omega) (by simp; omega) hs02 ?_)
      intro v' w3 hv' hgr hr _
      rw [← hw2] at hgr
      have hb3 := below_of_grown HB2.out hs02 hgr hr
      have hs3 := HS2.out.trans (HO2.out.sameBut hgr)
      have HGo := Lib.hid (gat_leaf (w := w) (Hgat.out) hv' hb3 hs3 (by have := hgr.size; omega))
      clear hv' hgr hr hb3 hs3 hw2 HR2 HO2 HB2 HS2
      go_wp2_with fail
      go_ret
      exact HGo.out
    · go_enter Tryz.func65, Tryz.ntmps65
      go_wp2_with fail
      refine HJ.out.mono ?_
      rintro E w1 ⟨rfl, hb1⟩
      have HO1 := Lib.hid (HO.out.belowX (leafX_staysX _) hb1)
      have HB1 := Lib.hid (HB.out.trans (hb1.mono HB.out.size))
      have HW1 := Lib.hid (HW.out.stays (sameBut_below hb1))
      have HS1 := Lib.hid (sameBut_below (e := 68) hb1)
      have hs1 := hb1.size
      have hs0 := HB1.out.size
      clear hb1 HJ HO HB HW
      obtain ⟨w2, hw2⟩ : ∃ w2, w2 = w1.alloc (.cells #[.string (mkB (pathP way)), .slice wa wn wc, .iface vt vu] 68) := ⟨_, rfl⟩
      have hb2 : Below w1.heap.size w1 w2 := by rw [hw2]; exact (Below.refl _ w1).alloc (Nat.le_refl _) _
      have hx2 : LeafX w0 w2 [.string (mkB (pathP way)), .slice wa wn wc, .iface vt vu] (way, x0) := ⟨_, _, _, rfl, HW1.out.stays (sameBut_below hb2), HV.out⟩
      have hr2 : RowAt (LeafX w0) 3 w2 (.slice (some ⟨w1.heap.size, 0, none⟩) 1 1) [(way, x0)] := by rw [hw2]; exact RowAt.one (R := LeafX w0) (k := 3) (cs := #[.string (mkB (pathP way)), .slice wa wn wc, .iface vt vu]) (heap_alloc_new w1 _) rfl (by rw [← hw2]; exact hx2)
      have HR2 := Lib.hid hr2
      have HO2 := Lib.hid (HO1.out.belowX (leafX_staysX _) hb2)
      have HB2 := Lib.hid (HB1.out.trans (hb2.mono HB1.out.size))
      have HS2 := Lib.hid (HS1.out.trans (sameBut_below (e := 68) hb2))
      have hs2 := hb2.size
      have hs02 : w0.heap.size ≤ w2.heap.size := by omega
      clear hb2 hx2 hr2 HO1 HB1 HW1 HS1
      go_wp2_with (at_builtin; rw [← hw2]; refine wpList_append_ownAtX (R := LeafX w0) (k := 3) (e := 68) (B := w0.heap.size) (l := out) (m := [(way, x0)]) _ (by rfl) _ _ _ (by rfl) i0 _ 56 Tryz.underlying65 hi0 hz0 hz1 hz2 rfl (by omega) (leafX_staysX _) (leafX_one _) _ (by rfl) HO2.out _ (by rfl) HR2.out (by unfold maxLen; simp; omega) (by simp; omega) hs02 ?_)
      intro v' w3 hv' hgr hr _
      rw [← hw2] at hgr
      have hb3 := below_of_grown HB2.out hs02 hgr hr
      have hs3 := HS2.out.trans (HO2.out.sameBut hgr)
      have HGo := Lib.hid (gat_leaf (w := w) (Hgat.out) hv' hb3 hs3 (by have := hgr.size; omega))
      clear hv' hgr hr hb3 hs3 hw2 HR2 HO2 HB2 HS2
      go_wp2_with fail
      go_ret
      exact HGo.out
end Go.Proofs.YtnmhjabihfhobaaGreatDoor
/- slices.SortFunc at the leaves: its contract. -/
namespace Go.Proofs.YtnmhjabihfhobaaGreatDoor
open Go.RowKit Go.Shelf Go.Sort
open JP (JV Bs)

theorem cmpB_self : ∀ a : List UInt8, Lib.compareBytes a a = 0
  | [] => rfl
  | x :: r => by unfold Lib.compareBytes; simp [cmpB_self r, UInt8.lt_irrefl]
theorem cmpB_trans : ∀ a b c : List UInt8, Lib.compareBytes a b < 0 → Lib.compareBytes b c < 0 → Lib.compareBytes a c < 0
  | _, [], [], _, h2 => by simp [Lib.compareBytes] at h2
  | [], [], _ :: _, _, _ => by simp [Lib.compareBytes]
  | _ :: _, [], _ :: _, h1, _ => by simp [Lib.compareBytes] at h1
  | _, _ :: _, [], _, h2 => by simp [Lib.compareBytes] at h2
  | [], _ :: _, _ :: _, _, _ => by simp [Lib.compareBytes]
  | x :: xs, y :: ys, z :: zs, h1, h2 => by
    have ih := cmpB_trans xs ys zs
    simp only [Lib.compareBytes, UInt8.lt_iff_toNat_lt] at h1 h2 ⊢
    by_cases p1 : x.toNat < y.toNat <;> by_cases p2 : y.toNat < x.toNat <;> by_cases p3 : y.toNat < z.toNat <;> by_cases p4 : z.toNat < y.toNat <;> by_cases p5 : x.toNat < z.toNat <;> by_cases p6 : z.toNat < x.toNat <;> first
      | (exfalso; omega)
      | (simp only [p1, p2, p3, p4, p5, p6, if_true, if_false] at h1 h2 ⊢; first | exact ih h1 h2 | omega)
theorem cmpB_ntrans : ∀ a b c : List UInt8, ¬ Lib.compareBytes a b < 0 → ¬ Lib.compareBytes b c < 0 → ¬ Lib.compareBytes a c < 0
  | [], [], [], _, _ => by simp [Lib.compareBytes]
  | _ :: _, [], [], _, _ => by simp [Lib.compareBytes]
  | _, [], _ :: _, _, h2 => by simp [Lib.compareBytes] at h2
  | [], _ :: _, _, h1, _ => by simp [Lib.compareBytes] at h1
  | _ :: _, _ :: _, [], _, _ => by simp [Lib.compareBytes]
  | x :: xs, y :: ys, z :: zs, h1, h2 => by
    have ih := cmpB_ntrans xs ys zs
    simp only [Lib.compareBytes, UInt8.lt_iff_toNat_lt] at h1 h2 ⊢
    by_cases p1 : x.toNat < y.toNat <;> by_cases p2 : y.toNat < x.toNat <;> by_cases p3 : y.toNat < z.toNat <;> by_cases p4 : z.toNat < y.toNat <;> by_cases p5 : x.toNat < z.toNat <;> by_cases p6 : z.toNat < x.toNat <;> first
      | (exfalso; omega)
      | (simp only [p1, p2, p3, p4, p5, p6, if_true, if_false] at h1 h2 ⊢; first | exact ih h1 h2 | omega)

instance inhJV : Inhabited JV := ⟨.nul⟩
abbrev LC := Value × Value × Leaf
def oneV (v : Value) : Value := if v.oneCell' = true then v else .nilIface
theorem oneV_one (v : Value) : (oneV v).oneCell' = true := by
  unfold oneV
  split
  · assumption
  · rfl
theorem oneV_of {v : Value} (h : v.oneCell' = true) : oneV v = v := if_pos h
def encLf (p : LC) : List Value := [.string (mkB (pathP p.2.2.1)), oneV p.1, oneV p.2.1]
def cfLf (p q : LC) : Int := Lib.compareBytes (pathP p.2.2.1) (pathP q.2.2.1)
theorem ltLf (p q : LC) : ltOf cfLf p q = decide (Lib.compareBytes (pathP p.2.2.1) (pathP q.2.2.1) < 0) := rfl
theorem swoLf : SWO (ltOf cfLf) where
  irrefl x := by rw [ltLf, cmpB_self]; rfl
  trans x y z h1 h2 := by
    rw [ltLf, decide_eq_true_iff] at *
    exact cmpB_trans _ _ _ h1 h2
  ntrans x y z h1 h2 := by
    rw [ltLf, decide_eq_false_iff_not] at *
    exact cmpB_ntrans _ _ _ h1 h2

set_option maxHeartbeats 1000000 in
theorem leafCmp (x y : LC) (W : World) : Calls Tryz.prog 67 #[.agg (encLf x).toArray, .agg (encLf y).toArray] W fun e w' => e = .returned (.int .i64 (cfLf x y)) ∧ ∃ q os', w' = Go.Sort.grow (W.drewN q) os' := by
  obtain ⟨a1, a2, lx⟩ := x
  obtain ⟨b1, b2, ly⟩ := y
  have hcon := fun W' => Tryz.strings_Compare (mkB (pathP lx.1)) (mkB (pathP ly.1)) W'
  rw [show cfLf (a1, a2, lx) (b1, b2, ly) = Lib.compareBytes (mkB (pathP lx.1)).data.toList (mkB (pathP ly.1)).data.toList by rw [mkB_list, mkB_list]; rfl]
  generalize Lib.compareBytes (mkB (pathP lx.1)).data.toList (mkB (pathP ly.1)).data.toList = r at hcon ⊢
  unfold encLf
  generalize mkB (pathP lx.1) = s1 at hcon ⊢
  generalize mkB (pathP ly.1) = s2 at hcon ⊢
  generalize oneV (a1, a2, lx).1 = c1
  generalize oneV (a1, a2, lx).2.1 = c2
  generalize oneV (b1, b2, ly).1 = d1
  generalize oneV (b1, b2, ly).2.1 = d2
  show Calls Tryz.prog 67 #[.agg #[.string s1, c1, c2], .agg #[.string s2, d1, d2]] W _
  go_enter Tryz.func67, Tryz.ntmps67
  go_wp2_with (go_at_call 68; refine (hcon _).mono ?_; rintro e w' ⟨rfl, rfl⟩)
  go_ret
  exact ⟨rfl, 0, _, by rw [alloc_eq_grow, alloc_eq_grow, grow_grow]; rfl⟩
theorem leafLays (blk off size : Nat) (w : World) : CmpLays Tryz.prog 67 #[] encLf 3 cfLf blk off size w := fun _ _ _ _ x y => leafCmp x y _
theorem encLf_len (x : LC) : (encLf x).length = 3 := rfl
theorem encLf_one (x : LC) : ∀ v ∈ encLf x, v.oneCell' = true := fun v hv => by
  unfold encLf at hv
  simp only [List.mem_cons, List.not_mem_nil, or_false] at hv
  rcases hv with rfl | rfl | rfl
  · rfl
  · exact oneV_one _
  · exact oneV_one _
/-- the flat row, cell by cell -/
theorem flatK_get (d : List LC) : (flatK encLf 3 d.toArray).toList = (d.map encLf).flatten := by
  have hk : ∀ cs ∈ d.map encLf, cs.length = 3 := fun cs h => by
    obtain ⟨x, _, rfl⟩ := List.mem_map.1 h
    rfl
  have hl : (d.map encLf).flatten.length = d.length * 3 := by rw [flat_len hk, List.length_map]
  refine List.ext_getElem? fun t => ?_
  by_cases ht : t < d.length * 3
  · have e1 : t = t / 3 * 3 + t % 3 := by omega
    have hj : t / 3 < d.length := by omega
    have hi : t % 3 < 3 := by omega
    have e2 : (d.map encLf).flatten[t]? = some (encLf d[t / 3])[t % 3] := by
      conv => lhs; rw [e1]
      exact get_flat hk (by rw [List.getElem?_map, List.getElem?_eq_getElem hj]; rfl) (List.getElem?_eq_getElem (by rw [encLf_len]; exact hi))
    rw [e2]
    have e3 := get_flatK encLf 3 d.toArray t (by simpa using ht)
    have e4 : t < (flatK encLf 3 d.toArray).size := by rw [size_flatK]; simpa using ht
    rw [getElem!_pos _ t e4] at e3
    rw [Array.getElem?_toList, Array.getElem?_eq_getElem e4, e3, getElem!_pos d.toArray (t / 3) (by simpa using hj), getElem!_pos _ (t % 3) (by rw [encLf_len]; exact hi)]
    rfl
  · rw [List.getElem?_eq_none (by rw [Array.length_toList, size_flatK]; simp; omega), List.getElem?_eq_none (by rw [hl]; omega)]
/-- another order of the same leaves -/
theorem own_sorted {w0 w : World} {B g n c : Nat} {l : List Leaf} (h : OwnAt (LeafX w0) 3 w B 68 (.slice (some ⟨g, 0, none⟩) n c) l) :
    n = l.length ∧ g < w.heap.size ∧ ∃ d : List LC, d.length = l.length ∧ HoldsK encLf 3 w g 0 d.toArray ∧ ∀ (q : Nat) (d' : List LC), d'.Perm d → (d'.map (·.2.2)).Perm l ∧
      OwnAt (LeafX w0) 3 (putRowK encLf 3 (Go.Sort.ahead w q) g 0 d'.toArray) B 68 (.slice (some ⟨g, 0, none⟩) n c) (d'.map (·.2.2)) ∧ RowKit.Below B w (putRowK encLf 3 (Go.Sort.ahead w q) g 0 d'.toArray) ∧ SameBut 68 w (putRowK encLf 3 (Go.Sort.ahead w q) g 0 d'.toArray) ∧ (putRowK encLf 3 (Go.Sort.ahead w q) g 0 d'.toArray).heap.size = w.heap.size := by
  obtain ⟨css, c1, c2, ⟨c3, c4⟩, c5⟩ := h
  rcases c4 with ⟨h0, _⟩ | ⟨g', cap, cur, hv, hB, hh, hle, hm, hzc, ht⟩
  · cases h0
  · injection hv with u1 u2 u3
    injection u1 with u1
    injection u1 with u1
    subst u1; subst u2; subst u3
    have hgl : g < w.heap.size := by
      rcases Nat.lt_or_ge g w.heap.size with h1 | h1
      · exact h1
      · rw [Array.getElem?_eq_none h1] at hh; cases hh
    obtain ⟨d, hd1, hd2⟩ := pick_each (fun j (p : LC) => ∃ cs x, css[j]? = some cs ∧ l[j]? = some x ∧ p.2.2 = x ∧ encLf p = cs) l.length (fun j hj => by
      have hj1 : css[j]? = some (css[j]'(by omega)) := List.getElem?_eq_getElem _
      have hj2 : l[j]? = some l[j] := List.getElem?_eq_getElem _
      obtain ⟨sv, vv, k, e1, e2, e3⟩ := c5 j _ _ hj1 hj2
      refine ⟨(sv, vv, l[j]), _, _, hj1, hj2, rfl, ?_⟩
      rw [e1]
      unfold encLf
      rw [oneV_of (strX_cell e2), oneV_of (one_jv k [] w0 [vv] _ ⟨vv, rfl, e3⟩ vv (List.mem_singleton.2 rfl))])
    have hdl : d.map (·.2.2) = l := by
      refine List.ext_getElem? fun j => ?_
      rw [List.getElem?_map]
      by_cases hj : j < l.length
      · have hp : d[j]? = some (d[j]'(by omega)) := List.getElem?_eq_getElem _
        obtain ⟨cs, x, _, e2, e3, _⟩ := hd2 j _ hp
        rw [hp, e2, ← e3]
        rfl
      · rw [List.getElem?_eq_none (by omega), List.getElem?_eq_none (by omega)]; rfl
    have hdc : d.map encLf = css := by
      refine List.ext_getElem? fun j => ?_
      rw [List.getElem?_map]
      by_cases hj : j < l.length
      · have hp : d[j]? = some (d[j]'(by omega)) := List.getElem?_eq_getElem _
        obtain ⟨cs, x, e1, _, _, e4⟩ := hd2 j _ hp
        rw [hp, e1, ← e4]
        rfl
      · rw [List.getElem?_eq_none (by omega), List.getElem?_eq_none (by omega)]; rfl
    have hR : ∀ p ∈ d, LeafX w0 w (encLf p) p.2.2 := fun p hp => by
      obtain ⟨j, hj, rfl⟩ := List.getElem_of_mem hp
      obtain ⟨cs, x, e1, e2, e3, e4⟩ := hd2 j _ (List.getElem?_eq_getElem hj)
      rw [e3, e4]
      exact c5 j cs x e1 e2
    refine ⟨rfl, hgl, d, hd1, ?_, ?_⟩
    · intro j hj
      rw [size_flatK] at hj
      have hj3 : j < l.length * 3 := by simpa [hd1] using hj
      refine ⟨?_, free_block hh _⟩
      have e4 : j < (flatK encLf 3 d.toArray).size := by rw [size_flatK]; exact hj
      rw [getElem!_pos _ j e4, Nat.zero_add, cell_block hh]
      have e5 : (flatK encLf 3 d.toArray).toList[j]? = cur.toList[j]? := by
        rw [flatK_get, hdc, ← ht, List.getElem?_take_of_lt hj3]
      rw [Array.getElem?_toList, Array.getElem?_toList, Array.getElem?_eq_getElem e4] at e5
      exact e5.symm
    · intro q d' hp
      have hl' : d'.length = l.length := by rw [hp.length_eq, hd1]
      obtain ⟨W, hW⟩ : ∃ W, putRowK encLf 3 (Go.Sort.ahead w q) g 0 d'.toArray = W := ⟨_, rfl⟩
      rw [hW]
      have hw : W.heap[g]? = some (.cells (putCells id 0 (flatK encLf 3 d'.toArray) cur) 68 (0, 0)) := by
        rw [← hW]
        unfold putRowK putRow mapBlock
        show (Array.modify w.heap g _)[g]? = _
        rw [Array.getElem?_modify, if_pos rfl, hh]
        rfl
      have ho : ∀ k, k ≠ g → W.heap[k]? = w.heap[k]? := fun k hk => by
        rw [← hW]
        unfold putRowK putRow mapBlock
        show (Array.modify w.heap g _)[k]? = _
        rw [Array.getElem?_modify, if_neg (Ne.symm hk)]
      have hs : W.heap.size = w.heap.size := by
        rw [← hW]
        unfold putRowK putRow mapBlock
        show (Array.modify w.heap g _).size = _
        rw [Array.size_modify]
      have hsb : SameBut 68 w W := fun b cs t fr hb htn => by
        rw [ho b (fun e => by rw [e, hh] at hb; injection hb with hb; injection hb with _ hb _; exact htn hb.symm)]
        exact hb
      have hk' : ∀ cs ∈ d'.map encLf, cs.length = 3 := fun cs h => by
        obtain ⟨x, _, rfl⟩ := List.mem_map.1 h
        rfl
      refine ⟨by rw [← hdl]; exact hp.map _, ⟨d'.map encLf, by rw [List.length_map, List.length_map], hk', ⟨by rw [flat_len hk', List.length_map, List.length_map], .inr ⟨g, c, _, by rw [List.length_map, hl'], hB, hw, by rw [List.length_map, hl']; exact hle, hm, by unfold putCells; rw [Array.size_mapIdx]; exact hzc, ?_⟩⟩, ?_⟩, ⟨by rw [← hW]; rfl, by rw [← hW]; rfl, by rw [← hW]; rfl, by rw [hs]; exact Nat.le_refl _, fun k hk => ho k (by omega)⟩, hsb, hs⟩
      · rw [← flatK_get, List.length_map, hl']
        apply List.ext_getElem?
        intro t
        by_cases htl : t < l.length * 3
        · have htc : t < cur.size := by rw [hzc]; omega
          have e4 : t < (flatK encLf 3 d'.toArray).size := by rw [size_flatK]; simp [hl']; omega
          rw [List.getElem?_take_of_lt htl, Array.getElem?_toList, Array.getElem?_toList]
          unfold putCells
          rw [Array.getElem?_mapIdx, Array.getElem?_eq_getElem htc, Option.map_some, if_pos ⟨by omega, by omega⟩, Nat.sub_zero, getElem!_pos _ t e4, Array.getElem?_eq_getElem e4]
          rfl
        · rw [List.getElem?_eq_none (by rw [List.length_take]; omega), List.getElem?_eq_none (by rw [Array.length_toList, size_flatK]; simp [hl']; omega)]
      · intro j cs x hcs hx
        rw [List.getElem?_map] at hcs hx
        obtain ⟨p, hp1, rfl⟩ := Option.map_eq_some_iff.1 hcs
        rw [hp1] at hx
        obtain rfl : p.2.2 = x := by simpa using hx
        exact leafX_staysX w0 _ _ _ _ hsb (hR p (hp.mem_iff.1 (List.mem_of_getElem? hp1)))
theorem leafSort_any (v : Value) (l : List Leaf) (B : Nat) (w0 w : World) (h : OwnAt (LeafX w0) 3 w B 68 v l) (hB : B ≤ w.heap.size) (hl : l.length ≤ 1073741824) :
    Calls Tryz.prog 66 #[v, .func (.func 67) #[] #[]] w fun e w' => e = .returned (.tuple #[]) ∧ ∃ l', l'.Perm l ∧ OwnAt (LeafX w0) 3 w' B 68 v l' ∧ RowKit.Below B w w' ∧ SameBut 68 w w' := by
  rcases h.form with ⟨rfl, rfl⟩ | ⟨g, c, rfl, _, hg, _, _⟩
  · refine (AnyF.slices_SortFunc_none Tryz.leafSort none 0 _ w).mono fun e w' ⟨h1, h2⟩ => ?_
    subst h2
    exact ⟨h1, [], List.Perm.refl _, OwnAt.nil _, Below.refl _ _, fun _ _ _ _ h _ => h⟩
  · obtain ⟨_, _, d, hd1, hH, ho⟩ := own_sorted h
    have eg : ∀ args w, (callFunc 67 args).run Tryz.prog w = .ok (.enter 67 args) w := enters_of Tryz.func67 (by kernel_rfl) rfl
    have hs := AnyQ.slices_SortFunc Tryz.leafSort 3 Tryz.isAgg68 Tryz.sizeOf68 encLf encLf_len encLf_one cfLf swoLf 67 #[] g 0 c d.toArray w eg (leafLays g 0 _ w) hH hg (by simp [hd1]; omega)
    have hsz : d.toArray.size = l.length := by simp [hd1]
    rw [hsz] at hs
    refine hs.mono fun e w' ⟨h1, d', n, os, hp, _, h2⟩ => ?_
    have hpp : d'.toList.Perm d := by
      obtain ⟨p1, _, p3⟩ := hp
      have e1 : d'.size = l.length := by rw [p1, hsz]
      have e2 : d'.extract 0 l.length = d' := by rw [← e1]; exact Array.extract_size
      have e3 : d.toArray.extract 0 l.length = d.toArray := by rw [← hsz]; exact Array.extract_size
      rw [e2, e3] at p3
      exact p3
    obtain ⟨o0, o1, o2, o3, o4⟩ := ho n d'.toList hpp
    rw [Array.toArray_toList] at o1 o2 o3 o4
    have hgr : RowKit.Below (putRowK encLf 3 (Go.Sort.ahead w n) g 0 d').heap.size (putRowK encLf 3 (Go.Sort.ahead w n) g 0 d') w' := by
      rw [h2]
      exact Lib.below_grow _ _ (Nat.le_refl _) 0 os
    exact ⟨h1, _, o0, o1.belowX (leafX_staysX _) hgr, o2.trans (hgr.mono (by rw [o4]; exact hB)), o3.trans (sameBut_below hgr)⟩
end Go.Proofs.YtnmhjabihfhobaaGreatDoor
/- three: what is wanted is there: in plain Lean. -/
namespace Go.Proofs.YtnmhjabihfhobaaGreatDoor
open Go.RowKit
open JP (JV Bs)

namespace JP
theorem mem_gatF : ∀ {l : Fs} {way : List Bs} {p : List Bs × JV}, p ∈ gatF way l → ∃ n w, (n, w) ∈ l ∧ p ∈ gat (way ++ [n]) w
  | [], _, _, h => by rw [gatF] at h; cases h
  | (n, w) :: r, way, p, h => by
    rw [gatF] at h
    rcases List.mem_append.1 h with h | h
    · exact ⟨n, w, List.mem_cons_self .., h⟩
    · obtain ⟨m, v, h1, h2⟩ := mem_gatF h
      exact ⟨m, v, List.mem_cons_of_mem _ h1, h2⟩
theorem want_there : ∀ want : JV, ∀ base : List Bs, Fit want → ∀ p ∈ gat base want, ∃ r, p.1 = base ++ r ∧ atW want r = some p.2 ∧ Fit p.2 ∧ ∀ last live : JV, ∃ y, atW (into3 last live want) r = some y ∧ (y = p.2 ∨ kind p.2 = 6) := by
  refine JV.byGet (P := fun want => ∀ base : List Bs, Fit want → ∀ p ∈ gat base want, ∃ r, p.1 = base ++ r ∧ atW want r = some p.2 ∧ Fit p.2 ∧ ∀ last live : JV, ∃ y, atW (into3 last live want) r = some y ∧ (y = p.2 ∨ kind p.2 = 6)) (fun want ih => ?_)
  intro base hf p hp
  rcases obj_or want with ⟨o, rfl⟩ | hn
  · obtain ⟨so, fo⟩ := wf_obj hf.1
    rw [gat] at hp
    by_cases ho : o.isEmpty = true
    · rw [if_pos ho] at hp
      have : o = [] := by simpa using ho
      subst this
      by_cases hb : base.isEmpty = true
      · rw [if_pos hb] at hp; cases hp
      · rw [if_neg hb] at hp
        obtain rfl := List.mem_singleton.1 hp
        exact ⟨[], by simp, by rw [atW], hf, fun last live => ⟨_, by rw [into3_obj, atW], .inr rfl⟩⟩
    · rw [if_neg ho] at hp
      obtain ⟨n, w, k1, k2⟩ := mem_gatF hp
      have hg := get_memS so k1
      obtain ⟨r, e1, e2, e3, e4⟩ := ih o n w rfl hg (base ++ [n]) (fit_at hf hg) p k2
      refine ⟨n :: r, by rw [e1, List.append_assoc]; rfl, ?_, e3, fun last live => ?_⟩
      · rw [atW_cons]
        show (get n o).bind _ = _
        rw [hg]; exact e2
      · obtain ⟨y, g1, g2⟩ := e4 (gto n (fieldsOf last)) (gto n (remF (fieldsOf last) o (fieldsOf live)))
        refine ⟨y, ?_, g2⟩
        rw [into3_obj, atW_cons]
        show (get n _).bind _ = _
        rw [get_into3F _ _ _ _ so, hg]
        exact g1
  · rw [gat_other hn] at hp
    obtain rfl := List.mem_singleton.1 hp
    exact ⟨[], by simp, by rw [atW], hf, fun last live => ⟨_, by rw [into3_not hn, atW], .inl rfl⟩⟩
theorem wayS_snoc (way : List Bs) (n : Bs) : wayS (way ++ [n]) = wayS way + (n.length + 1) := by
  unfold wayS
  rw [List.map_append, List.sum_append]; simp
theorem gat_sum : ∀ x : JV, ∀ base : List Bs, wf x → ∀ p ∈ gat base x, wayS p.1 ≤ wayS base + (text x).length := by
  refine JV.byGet (P := fun x => ∀ base : List Bs, wf x → ∀ p ∈ gat base x, wayS p.1 ≤ wayS base + (text x).length) (fun x ih => ?_)
  intro base hf p hp
  rcases obj_or x with ⟨o, rfl⟩ | hn
  · obtain ⟨so, fo⟩ := wf_obj hf
    rw [gat] at hp
    by_cases ho : o.isEmpty = true
    · rw [if_pos ho] at hp
      by_cases hb : base.isEmpty = true
      · rw [if_pos hb] at hp; cases hp
      · rw [if_neg hb] at hp
        obtain rfl := List.mem_singleton.1 hp
        exact Nat.le_add_right _ _
    · rw [if_neg ho] at hp
      obtain ⟨n, w, k1, k2⟩ := mem_gatF hp
      have hg := get_memS so k1
      have h1 := ih o n w rfl hg (base ++ [n]) (wf_at fo hg) p k2
      rw [wayS_snoc] at h1
      obtain ⟨i, hi⟩ := List.getElem?_of_mem k1
      have h2 := name_len hi
      have h3 := lenF_text o
      omega
  · rw [gat_other hn] at hp
    obtain rfl := List.mem_singleton.1 hp
    exact Nat.le_add_right _ _
theorem kind_text {v : JV} (h : Fit v) : kindT (text v) = kind v := by
  unfold kindT
  rw [fit_read h]; rfl
/-- ThreeWants -/
theorem three_wants {a b c : Bs} (h : merge3E a b c = 0) : (readL c).2 = 0 ∧ ∀ p ∈ gat [] (readL c).1, p.1.length ≤ 10 ∧ getE c (joinK p.1) = 0 ∧ getE (merge3T a b c) (joinK p.1) = 0 ∧ (getT c (joinK p.1) = getT (merge3T a b c) (joinK p.1) ∨ kindT (getT c (joinK p.1)) = 6) := by
  obtain ⟨x, y, z, h1, h2, h3, f1, f2, f3, ff, e⟩ := merge3_ok h
  rw [h3]
  refine ⟨rfl, fun p hp => ?_⟩
  obtain ⟨r, e1, e2, e3, e4⟩ := want_there z [] f3 p hp
  rw [List.nil_append] at e1
  rw [e1]
  have hl : r.length ≤ 10 := by have := at_deep e2; have := f3.2.2.1; omega
  have hs := steps_join r hl
  obtain ⟨v, g1, g2⟩ := e4 x y
  obtain ⟨q1, q2⟩ := (get_of h3 hs).1 _ e2
  obtain ⟨q3, q4⟩ := (get_of (fit_read ff) hs).1 _ g1
  rw [e, q1, q2, q3, q4]
  refine ⟨hl, rfl, rfl, ?_⟩
  rcases g2 with rfl | g2
  · exact .inl rfl
  · exact .inr (by rw [kind_text e3]; exact g2)
end JP
end Go.Proofs.YtnmhjabihfhobaaGreatDoor
/- fields.leaves, fields.Leaves: their contracts. -/
namespace Go.Proofs.YtnmhjabihfhobaaGreatDoor
open Go.RowKit
open JP (JV Bs)

theorem alloc_ge (w : World) (o : Obj) : w.heap.size ≤ (w.alloc o).heap.size := ((Below.refl 0 w).alloc (Nat.zero_le _) o).size
theorem alloc_sz (w : World) (o : Obj) : (w.alloc o).heap.size = w.heap.size + 1 := by unfold World.alloc; simp
theorem gather_all : ∀ n, GatIn n
  | 0 => fun _ _ _ _ _ _ _ _ h => by cases h
  | n + 1 => gather_step n (gather_all n)
theorem strX_nil (e : TypeId) (w : World) : StrX e w (.slice none 0 0) [] := ⟨.inl ⟨rfl, rfl⟩, fun h => absurd h (by decide)⟩
set_option maxRecDepth 100000 in
set_option maxHeartbeats 3200000 in
theorem leaves_any (n : Nat) (v : Value) (x : JV) (w : World) (hv : JvAt n [] w v x) (hl : JP.size x ≤ 1048576) (ht : (JP.text x).length ≤ 20000) (hm : ∃ m, MaxOK m w) :
    Calls Tryz.prog 37 #[v] w fun e w' => ∃ v' l', e = .returned v' ∧ l'.Perm (JP.gat [] x) ∧ OwnAt (LeafX w) 3 w' w.heap.size 68 v' l' ∧ Below w.heap.size w w' := by
  have HG := Lib.hid (gather_all n v (.slice none 0 0) (.slice none 0 0) x [] [] w w hv (strX_nil _ _) (OwnAt.nil _) (Below.refl _ _) (by simpa using hl) (by simpa using ht) hm)
  have hgl := JP.gat_len [] x
  clear hv hm ht
  go_enter Tryz.func37, Tryz.ntmps37
  go_wp2_with fail
  refine HG.out.mono ?_
  rintro E w1 ⟨v1, rfl, ho, hb, _, hz⟩
  rw [List.nil_append] at ho
  have HS := Lib.hid (leafSort_any v1 _ _ w w1 ho hz (by omega))
  have HB := Lib.hid hb
  clear ho hb HG
  go_wp2_with fail
  refine HS.out.mono ?_
  rintro E w2 ⟨rfl, l', hp, ho, hb, _⟩
  have HO := Lib.hid ho
  have HP := Lib.hid hp
  have HB2 := Lib.hid (HB.out.trans hb)
  clear ho hp hb HS HB hz
  go_wp2_with fail
  go_ret
  exact ⟨_, l', rfl, HP.out, HO.out, HB2.out⟩
/-- the paths of the leaves -/
def LeavesAt (L : List (List Bs × JV)) (er : Int) (w : World) (e : Ending) (w' : World) : Prop :=
  ∃ (v : Value) (l' : List Leaf), e = .returned (.tuple #[v, .int .i64 er]) ∧ l'.Perm L ∧ OwnAt RString 1 w' w.heap.size 9 v (l'.map fun p => mkB (pathP p.1)) ∧ Below w.heap.size w w'
def leavesL (s : Bs) : List (List Bs × JV) := if (JP.readL s).2 = 0 then JP.gat [] (JP.readL s).1 else []
set_option maxRecDepth 100000 in
set_option maxHeartbeats 6400000 in
theorem leavesDoc_any (s : ByteArray) (w : World) (hs : s.size ≤ 1048576) (hm : ∃ m, MaxOK m w) :
    Calls Tryz.prog 18 #[.string s] w (LeavesAt (leavesL s.data.toList) (JP.readL s.data.toList).2 w) := by
  obtain ⟨mx, hm⟩ := hm
  obtain ⟨j0, hj0, hy0, hy1, hy2⟩ := info_parts Tryz.infoStr
  have HR := Lib.hid (read_any s w hs)
  obtain ⟨x, hx⟩ : ∃ x, (JP.readL s.data.toList).1 = x := ⟨_, rfl⟩
  obtain ⟨er, her⟩ : ∃ er, (JP.readL s.data.toList).2 = er := ⟨_, rfl⟩
  have hre : JP.readL s.data.toList = (x, er) := Prod.ext hx her
  have hL : leavesL s.data.toList = if er = 0 then JP.gat [] x else [] := by unfold leavesL; rw [hx, her]
  rw [hx, her] at HR
  rw [her, hL]
  have Hm := Lib.hid hm
  have Hre := Lib.hid hre
  clear hx her hre hL hm
  by_cases h0 : er = 0
  · subst h0
    rw [if_pos rfl]
    obtain ⟨g1, g2, g3, g4, g5⟩ := JP.readL_good Hre.out
    have hgl := JP.gat_len [] x
    have Hg : Hid (JP.size x ≤ 1048576 ∧ (JP.text x).length ≤ 20000 ∧ (JP.gat [] x).length ≤ 200) := Lib.hid ⟨by omega, by omega, by omega⟩
    clear g1 g2 g3 g4 g5 hgl
    go_enter Tryz.func18, Tryz.ntmps18
    go_wp2_with fail
    refine HR.out.mono ?_
    rintro E w1 ⟨v1, rfl, ⟨n, hj⟩, hb⟩
    have HB1 := Lib.hid hb
    have HL := Lib.hid (leaves_any n v1 x w1 hj Hg.out.1 Hg.out.2.1 ⟨mx, Hm.out.below hb⟩)
    clear hj hb HR
    go_wp2_with fail
    refine HL.out.mono ?_
    rintro E w2 ⟨v2, l', rfl, hp, ho, hb⟩
    obtain ⟨a2, c2, e2, _⟩ := ho.row.len
    obtain ⟨ln, hln⟩ : ∃ m, l'.length = m := ⟨_, rfl⟩
    rw [hln] at e2
    subst e2
    have HP := Lib.hid hp
    have Hln := Lib.hid hln
    have hln9 : ln ≤ 200 := by rw [← hln, hp.length_eq]; exact Hg.out.2.2
    have HRow := Lib.hid ho.row
    have HB2 := Lib.hid (HB1.out.trans (hb.mono HB1.out.size))
    clear hp ho hb hln HL HB1
    go_wp2_with fail
    go_loopg [6, 20] ln (fun k u6 u20 wr => ∃ i : Nat, i + k = ln ∧ u20 = .int .i64 (i : Int) ∧ Hid (OwnAt RString 1 wr w2.heap.size 9 u6 ((l'.take i).map fun p => mkB (pathP p.1))) ∧ Hid (Below w2.heap.size w2 wr))
    case atStart => exact ⟨0, by omega, rfl, Lib.hid (OwnAt.nil _), Lib.hid (Below.refl _ _)⟩
    case round =>
      obtain ⟨i, hik, rfl, HO, HR⟩ := hrel
      cases gk with
      | zero =>
        have hil : i = ln := by omega
        subst hil
        have q9 : ¬ (i : Int) < (i : Int) := by omega
        have htk : l'.take i = l' := List.take_of_length_le (by rw [Hln.out]; exact Nat.le_refl _)
        rw [htk] at HO
        have HO' := Lib.hid (HO.out.mono (B' := w.heap.size) HB2.out.size)
        have HBn := Lib.hid (HB2.out.trans (HR.out.mono HB2.out.size))
        clear htk HO HR
        go_wp2_with fail
        go_ret2
        exact ⟨_, l', rfl, HP.out, HO'.out, HBn.out⟩
      | succ k =>
        have hil : i < ln := by omega
        obtain ⟨y, hy⟩ : ∃ y, l'[i]? = some y := ⟨l'[i]'(by rw [Hln.out]; exact hil), List.getElem?_eq_getElem _⟩
        obtain ⟨b1, o1, c', hv1, _, _, hbs1, hcell1⟩ := HRow.out.form (by rw [Hln.out]; omega) (by omega)
        injection hv1 with u1 u2 u3
        subst u1
        clear u2 u3
        obtain ⟨ds1, _, hcc1, sv, vv, kk, hds, hsx, hjv⟩ := hcell1 i y hy
        subst hds
        obtain ⟨d1, f1, hsv, _, _⟩ := hsx.1.len
        rw [hsv] at hcc1
        have e0 : wr.cell? ⟨b1, o1 + i * 3, none⟩ = some (.string (mkB (pathP y.1))) := (HR.out.cell (p := ⟨b1, _, none⟩) hbs1).trans (by simpa using hcc1 0 _ rfl)
        have e1 : wr.cell? ⟨b1, o1 + i * 3 + 1, none⟩ = some (.slice d1 (y.1.map mkB).length f1) := (HR.out.cell (p := ⟨b1, _, none⟩) hbs1).trans (hcc1 1 _ rfl)
        have e2 : wr.cell? ⟨b1, o1 + i * 3 + 2, none⟩ = some vv := (HR.out.cell (p := ⟨b1, _, none⟩) hbs1).trans (hcc1 2 _ rfl)
        have hvf := jv_shape hjv
        obtain ⟨sl, hsl⟩ : ∃ m, (y.1.map mkB).length = m := ⟨_, rfl⟩
        rw [hsl] at e1
        obtain ⟨P, hP⟩ : ∃ P, mkB (pathP y.1) = P := ⟨_, rfl⟩
        rw [hP] at e0
        have Hst : Hid ((l'.take (i + 1)).map (fun p => mkB (pathP p.1)) = (l'.take i).map (fun p => mkB (pathP p.1)) ++ [P]) := Lib.hid (by rw [List.take_add_one, hy, List.map_append, ← hP]; rfl)
        have hll : ((l'.take i).map fun p => mkB (pathP p.1)).length = i := by rw [List.length_map, List.length_take, Hln.out]; omega
        have Hll := Lib.hid hll
        have q1 : (0 : Int) ≤ (i : Int) := by omega
        have q2 : (i : Int) < (ln : Int) := by omega
        clear hcell1 hcc1 hy hsx hjv hsv hbs1 hsl hP hll
        rcases hvf with rfl | ⟨t9, u9, rfl⟩
        · skip
          obtain ⟨W1, hW1⟩ : ∃ W, W = (wr.alloc (.cells #[.string P, .slice d1 sl f1, .nilIface] 68)).alloc (.cells #[.string P] 9) := ⟨_, rfl⟩
          have hbl : Below w2.heap.size w2 W1 := by rw [hW1]; exact ((HR.out).alloc HR.out.size _).alloc (Nat.le_trans HR.out.size (alloc_ge wr _)) _
          have hg1 : Below wr.heap.size wr W1 := by rw [hW1]; exact ((Below.refl _ wr).alloc (Nat.le_refl _) _).alloc (alloc_ge wr _) _
          have HO1 := Lib.hid (HO.out.below stays_string hg1)
          have hr1 : RowAt RString 1 W1 (.slice (some ⟨wr.heap.size + 1, 0, none⟩) 1 1) [P] := by rw [hW1, ← alloc_sz wr (.cells #[.string P, .slice d1 sl f1, .nilIface] 68)]; exact RowAt.one (R := RString) (k := 1) (cs := #[.string P]) (heap_alloc_new _ _) rfl rfl
          have HR1 := Lib.hid hr1
          have HBl := Lib.hid hbl
          clear hg1 hr1 hbl
          have Hs2 : Hid (w2.heap.size ≤ W1.heap.size) := Lib.hid HBl.out.size
          go_wp2_with (at_builtin; rw [← hW1]; refine wpList_append_ownAt (R := RString) (k := 1) (e := 9) (B := w2.heap.size) (l := (l'.take i).map fun p => mkB (pathP p.1)) (m := [P]) _ (by rfl) _ _ _ (by rfl) j0 _ 16 Tryz.underlying25 hj0 hy0 hy1 hy2 rfl (by omega) flat_string one_string _ (by rfl) HO1.out _ (by rfl) HR1.out (by rw [Hll.out]; simp only [List.length_cons, List.length_nil]; exact Nat.le_trans (m := 300) (by omega) (by decide)) (by rw [Hll.out]; simp only [List.length_cons, List.length_nil]; omega) Hs2.out ?_)
          intro v8 w8 hv8 hg8 hr8 _
          rw [← hW1] at hg8
          have HBn : Hid (Below w2.heap.size w2 w8) := Lib.hid (below_of_grown HBl.out Hs2.out hg8 hr8)
          have HOn : Hid (OwnAt RString 1 w8 w2.heap.size 9 v8 ((l'.take (i + 1)).map fun p => mkB (pathP p.1))) := Lib.hid (by rw [Hst.out, List.map_take]; exact hv8)
          clear hv8 hg8 hr8 Hs2 HO1 HR1 HBl hW1
          go_wp2_with fail
          go_roundg k
          case measure => omega
          case rel => exact ⟨i + 1, by omega, by go_num, HOn, HBn⟩
        · skip
          obtain ⟨W1, hW1⟩ : ∃ W, W = (wr.alloc (.cells #[.string P, .slice d1 sl f1, .iface t9 u9] 68)).alloc (.cells #[.string P] 9) := ⟨_, rfl⟩
          have hbl : Below w2.heap.size w2 W1 := by rw [hW1]; exact ((HR.out).alloc HR.out.size _).alloc (Nat.le_trans HR.out.size (alloc_ge wr _)) _
          have hg1 : Below wr.heap.size wr W1 := by rw [hW1]; exact ((Below.refl _ wr).alloc (Nat.le_refl _) _).alloc (alloc_ge wr _) _
          have HO1 := Lib.hid (HO.out.below stays_string hg1)
          have hr1 : RowAt RString 1 W1 (.slice (some ⟨wr.heap.size + 1, 0, none⟩) 1 1) [P] := by rw [hW1, ← alloc_sz wr (.cells #[.string P, .slice d1 sl f1, .iface t9 u9] 68)]; exact RowAt.one (R := RString) (k := 1) (cs := #[.string P]) (heap_alloc_new _ _) rfl rfl
          have HR1 := Lib.hid hr1
          have HBl := Lib.hid hbl
          clear hg1 hr1 hbl
          have Hs2 : Hid (w2.heap.size ≤ W1.heap.size) := Lib.hid HBl.out.size
          go_wp2_with (at_builtin; rw [← hW1]; refine wpList_append_ownAt (R := RString) (k := 1) (e := 9) (B := w2.heap.size) (l := (l'.take i).map fun p => mkB (pathP p.1)) (m := [P]) _ (by rfl) _ _ _ (by rfl) j0 _ 16 Tryz.underlying25 hj0 hy0 hy1 hy2 rfl (by omega) flat_string one_string _ (by rfl) HO1.out _ (by rfl) HR1.out (by rw [Hll.out]; simp only [List.length_cons, List.length_nil]; exact Nat.le_trans (m := 300) (by omega) (by decide)) (by rw [Hll.out]; simp only [List.length_cons, List.length_nil]; omega) Hs2.out ?_)
          intro v8 w8 hv8 hg8 hr8 _
          rw [← hW1] at hg8
          have HBn : Hid (Below w2.heap.size w2 w8) := Lib.hid (below_of_grown HBl.out Hs2.out hg8 hr8)
          have HOn : Hid (OwnAt RString 1 w8 w2.heap.size 9 v8 ((l'.take (i + 1)).map fun p => mkB (pathP p.1))) := Lib.hid (by rw [Hst.out, List.map_take]; exact hv8)
          clear hv8 hg8 hr8 Hs2 HO1 HR1 HBl hW1
          go_wp2_with fail
          go_roundg k
          case measure => omega
          case rel => exact ⟨i + 1, by omega, by go_num, HOn, HBn⟩
  · have n0 : (er != 0) = true := by rw [bne_iff_ne]; exact h0
    rw [if_neg h0]
    clear h0
    go_enter Tryz.func18, Tryz.ntmps18
    go_wp2_with fail
    refine HR.out.mono ?_
    rintro E w1 ⟨v1, rfl, _, hb⟩
    have HB1 := Lib.hid hb
    clear hb HR
    go_wp2_with fail
    go_ret2
    exact ⟨_, [], rfl, List.Perm.refl _, OwnAt.nil _, HB1.out⟩
end Go.Proofs.YtnmhjabihfhobaaGreatDoor
