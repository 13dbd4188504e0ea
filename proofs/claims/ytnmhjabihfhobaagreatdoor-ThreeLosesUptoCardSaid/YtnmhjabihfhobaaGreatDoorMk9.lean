/- Texts of ours joined: ThreeLaws, ThreeRead, ThreeMerge, SortPlain, SlStr, SortJ, ThreeLost, ThreeAgainWalk, ThreeAloneWalk, ThreeLoses, ThreeSum, ThreeLosesWalk. -/
import Derived.Lib.SlicesCompact
import Derived.Sort.Walk0
import Derived.Test.YtnmhjabihfhobaaGreatDoorShelf
import Derived.Lib.AppendIntMem
import Derived.Deep.LoopGhost
import Derived.Test.YtnmhjabihfhobaaGreatDoorMk8
set_option linter.unusedVariables false
set_option linter.unusedSimpArgs false
/- three: the laws of what is answered, in plain Lean. -/
namespace Go.Proofs.YtnmhjabihfhobaaGreatDoor
open Go.RowKit
open JP (JV Bs)

namespace JP
/-- three documents, read -/
def readE3 (a b c : Bs) : Int := if (readL a).2 = 0 then (if (readL b).2 = 0 then (readL c).2 else (readL b).2) else (readL a).2
def merge3E (a b c : Bs) : Int := if readE3 a b c = 0 then tellE (into3 (readL a).1 (readL b).1 (readL c).1) else readE3 a b c
def merge3T (a b c : Bs) : Bs := if readE3 a b c = 0 then tellT (into3 (readL a).1 (readL b).1 (readL c).1) else []
/-- the ways to what goes -/
def lost3L (a b c : Bs) : List (List Bs) := if readE3 a b c = 0 then lost3 (readL a).1 (readL b).1 (readL c).1 else []
theorem read3_ok {a b c : Bs} (h : readE3 a b c = 0) : ∃ x y z, readL a = (x, 0) ∧ readL b = (y, 0) ∧ readL c = (z, 0) ∧ Fit x ∧ Fit y ∧ Fit z := by
  unfold readE3 at h
  by_cases h1 : (readL a).2 = 0
  · rw [if_pos h1] at h
    by_cases h2 : (readL b).2 = 0
    · rw [if_pos h2] at h
      exact ⟨_, _, _, Prod.ext rfl h1, Prod.ext rfl h2, Prod.ext rfl h, read_fit' h1, read_fit' h2, read_fit' h⟩
    · rw [if_neg h2] at h; exact absurd h h2
  · rw [if_neg h1] at h; exact absurd h h1
theorem read3_of {a b c : Bs} {x y z : JV} (h1 : readL a = (x, 0)) (h2 : readL b = (y, 0)) (h3 : readL c = (z, 0)) : readE3 a b c = 0 := by
  unfold readE3
  rw [h1, h2, h3]; rfl
theorem into3_fits {x y z : JV} (hy : Fit y) (hz : Fit z) : wf (into3 x y z) ∧ (text (into3 x y z)).length ≤ 4000 := by
  obtain ⟨h1, h2⟩ := into3_fit.1 z hz.1 x y hy.1
  have := lenF_fields y
  have := hy.2.2.2
  have := hz.2.2.2
  exact ⟨h1, by omega⟩
theorem merge3_ok {a b c : Bs} (h : merge3E a b c = 0) : ∃ x y z, readL a = (x, 0) ∧ readL b = (y, 0) ∧ readL c = (z, 0) ∧ Fit x ∧ Fit y ∧ Fit z ∧ Fit (into3 x y z) ∧ merge3T a b c = text (into3 x y z) := by
  unfold merge3E at h
  by_cases h0 : readE3 a b c = 0
  · obtain ⟨x, y, z, h1, h2, h3, f1, f2, f3⟩ := read3_ok h0
    rw [if_pos h0, h1, h2, h3] at h
    obtain ⟨g1, g2⟩ := tell_ok (wf_S.1 _ (into3_fits f2 f3).1) h
    refine ⟨x, y, z, h1, h2, h3, f1, f2, f3, g1, ?_⟩
    unfold merge3T
    rw [if_pos h0, h1, h2, h3]
    exact g2
  · rw [if_neg h0] at h; exact absurd h h0
theorem merge3_of {a b c : Bs} {x y z : JV} (h1 : readL a = (x, 0)) (h2 : readL b = (y, 0)) (h3 : readL c = (z, 0)) (hf : Fit (into3 x y z)) : merge3E a b c = 0 ∧ merge3T a b c = text (into3 x y z) := by
  unfold merge3E merge3T
  rw [if_pos (read3_of h1 h2 h3), if_pos (read3_of h1 h2 h3), h1, h2, h3]
  exact tell_fit hf
theorem merge3_no {a b c : Bs} (h : merge3E a b c ≠ 0) : merge3T a b c = [] := by
  unfold merge3T
  by_cases h0 : readE3 a b c = 0
  · unfold merge3E at h
    rw [if_pos h0] at h ⊢
    exact tellT_no h
  · rw [if_neg h0]
theorem merge3T_len (a b c : Bs) : (merge3T a b c).length ≤ 2000 := by
  by_cases h : merge3E a b c = 0
  · obtain ⟨x, y, z, _, _, _, _, _, _, f, e⟩ := merge3_ok h
    rw [e]; exact f.2.2.2
  · rw [merge3_no h]; exact Nat.zero_le _
/-- ThreeAgain -/
theorem three_again {a b c : Bs} (h : merge3E a b c = 0) : merge3E c (merge3T a b c) c = 0 ∧ merge3T c (merge3T a b c) c = merge3T a b c ∧ readE3 c (merge3T a b c) c = 0 ∧ lost3L c (merge3T a b c) c = [] := by
  obtain ⟨x, y, z, h1, h2, h3, f1, f2, f3, ff, e⟩ := merge3_ok h
  rw [e]
  have hr := fit_read ff
  have hag := into3_again z x y f2.1 f3.1
  obtain ⟨g1, g2⟩ := merge3_of h3 hr h3 (by rw [hag]; exact ff)
  refine ⟨g1, by rw [g2, hag], read3_of h3 hr h3, ?_⟩
  unfold lost3L
  rw [if_pos (read3_of h3 hr h3), h3, hr]
  exact lost3_again z x y f2.1 f3.1
/-- ThreeAlone -/
theorem three_bad {a b c : Bs} (h : (readL c).2 ≠ 0) : merge3E a b c ≠ 0 := by
  intro e
  obtain ⟨x, y, z, _, _, h3, _⟩ := merge3_ok e
  rw [h3] at h
  exact h rfl
theorem three_first {a b c : Bs} (h : (readL a).2 ≠ 0) : merge3E a b c = (readL a).2 := by
  unfold merge3E readE3
  rw [if_neg h, if_neg h]
theorem three_alone {a c : Bs} (h1 : (readL a).2 = 0) (h3 : (readL c).2 = 0) : merge3E a a c = 0 ∧ merge3T a a c = canonT c := by
  have r1 : readL a = ((readL a).1, 0) := Prod.ext rfl h1
  have r3 : readL c = ((readL c).1, 0) := Prod.ext rfl h3
  have f1 := read_fit' h1
  have f3 := read_fit' h3
  have e := into3_alone (readL c).1 (readL a).1 f1.1 f3.1
  obtain ⟨g1, g2⟩ := merge3_of r1 r1 r3 (by rw [e]; exact f3)
  exact ⟨g1, by rw [g2, e, canonT_ok r3]⟩
theorem read_empty : readL [123, 125] = (.obj [], 0) := by
  have := fit_read (v := .obj []) ⟨by rw [wf]; exact ⟨List.Pairwise.nil, trivial⟩, by decide, by decide, by decide +kernel⟩
  rw [show text (.obj []) = [123, 125] from by decide +kernel] at this; exact this
theorem three_new {b c : Bs} (h3 : (readL c).2 = 0) : lost3L [123, 125] b c = [] ∧ readE3 [123, 125] b c = (readL b).2 := by
  refine ⟨?_, ?_⟩
  · unfold lost3L
    by_cases h0 : readE3 [123, 125] b c = 0
    · rw [if_pos h0, read_empty]
      exact lost3_new.1 _ _ _ rfl
    · rw [if_neg h0]
  · unfold readE3
    rw [read_empty, if_pos rfl, h3]
    by_cases h : (readL b).2 = 0
    · rw [if_pos h, h]
    · rw [if_neg h]
theorem three_const : merge3E [49] [50] [51] = 0 ∧ merge3T [49] [50] [51] = [51] := by
  have r : ∀ n : Int, n = 1 ∨ n = 2 ∨ n = 3 → Fit (.num n) := fun n h => by
    rcases h with rfl | rfl | rfl <;> exact ⟨by rw [wf]; exact ⟨by decide, by decide⟩, by decide, by decide, by decide +kernel⟩
  have h1 := fit_read (r 1 (.inl rfl))
  have h2 := fit_read (r 2 (.inr (.inl rfl)))
  have h3 := fit_read (r 3 (.inr (.inr rfl)))
  rw [show text (.num 1) = [49] from by decide +kernel] at h1
  rw [show text (.num 2) = [50] from by decide +kernel] at h2
  rw [show text (.num 3) = [51] from by decide +kernel] at h3
  have e : into3 (.num 1) (.num 2) (.num 3) = .num 3 := by rw [into3]
  obtain ⟨a, b⟩ := merge3_of h1 h2 h3 (by rw [e]; exact r 3 (.inr (.inr rfl)))
  exact ⟨a, by rw [b, e]; decide +kernel⟩
end JP
end Go.Proofs.YtnmhjabihfhobaaGreatDoor
/- three.read: three documents are read. -/
namespace Go.Proofs.YtnmhjabihfhobaaGreatDoor
open Go.RowKit
open JP (JV Bs)

theorem one_form {n : Nat} {T : List Nat} {w : World} {v : Value} {x : JV} (h : JvAt n T w v x) : v.oneCell' = true := by
  rcases jv_form h with rfl | ⟨t, u, rfl⟩ <;> rfl
/-- the values that were read lie there, and look into no block of T -/
def Vals (T : List Nat) (w : World) (xs : List Value) (l : List ByteArray) : Prop := xs.length ≤ l.length ∧ ∀ (j : Nat) (u : Value) (s : ByteArray), xs[j]? = some u → l[j]? = some s → (JP.readL s.data.toList).2 = 0 ∧ ∃ n, JvAt n T w u (JP.readL s.data.toList).1
theorem Vals.keep {T : List Nat} {w w' : World} {xs : List Value} {l : List ByteArray} (h : Vals T w xs l) (hk : KeepT T w w') : Vals T w' xs l := ⟨h.1, fun j u s hu hs => by
  obtain ⟨h1, n, h2⟩ := h.2 j u s hu hs
  exact ⟨h1, n, h2.keepT hk⟩⟩
theorem Vals.fresh {T T' : List Nat} {w : World} {xs : List Value} {l : List ByteArray} (h : Vals T w xs l) (hs : ∀ b ∈ T', b ∈ T ∨ w.heap.size ≤ b) : Vals T' w xs l := ⟨h.1, fun j u s hu hs2 => by
  obtain ⟨h1, n, h2⟩ := h.2 j u s hu hs2
  exact ⟨h1, n, h2.fresh hs⟩⟩
theorem Vals.snoc {T : List Nat} {w : World} {xs : List Value} {l : List ByteArray} {v : Value} {s : ByteArray} {n : Nat} (h : Vals T w xs l) (hs : l[xs.length]? = some s) (he : (JP.readL s.data.toList).2 = 0) (hj : JvAt n T w v (JP.readL s.data.toList).1) : Vals T w (xs ++ [v]) l := by
  have hlt := (List.getElem?_eq_some_iff.1 hs).1
  refine ⟨by rw [List.length_append, List.length_singleton]; omega, fun j u t hu ht => ?_⟩
  by_cases hjl : j < xs.length
  · rw [List.getElem?_append_left hjl] at hu
    exact h.2 j u t hu ht
  · have hje : j = xs.length := by
      have := (List.getElem?_eq_some_iff.1 hu).1
      rw [List.length_append, List.length_singleton] at this
      omega
    subst hje
    rw [List.getElem?_append_right (Nat.le_refl _), Nat.sub_self] at hu
    obtain rfl : v = u := by simpa using hu
    rw [hs] at ht
    obtain rfl := Option.some.inj ht
    exact ⟨he, n, hj⟩
def errs : List ByteArray → Int
  | [] => 0
  | s :: r => if (JP.readL s.data.toList).2 = 0 then errs r else (JP.readL s.data.toList).2
theorem errs_at : ∀ {l : List ByteArray} {i : Nat} {s : ByteArray}, (∀ (j : Nat) (t : ByteArray), j < i → l[j]? = some t → (JP.readL t.data.toList).2 = 0) → l[i]? = some s → (JP.readL s.data.toList).2 ≠ 0 → errs l = (JP.readL s.data.toList).2
  | [], _, _, _, h, _ => by simp at h
  | x :: r, 0, s, _, h, hne => by
    simp only [List.getElem?_cons_zero, Option.some.injEq] at h
    subst h
    rw [errs, if_neg hne]
  | x :: r, i + 1, s, hall, h, hne => by
    rw [List.getElem?_cons_succ] at h
    rw [errs, if_pos (hall 0 x (by omega) rfl)]
    exact errs_at (fun j t hj ht => hall (j + 1) t (by omega) (by rw [List.getElem?_cons_succ]; exact ht)) h hne
theorem errs_none : ∀ {l : List ByteArray}, (∀ (j : Nat) (t : ByteArray), l[j]? = some t → (JP.readL t.data.toList).2 = 0) → errs l = 0
  | [], _ => rfl
  | x :: r, h => by
    rw [errs, if_pos (h 0 x rfl)]
    exact errs_none fun j t ht => h (j + 1) t (by rw [List.getElem?_cons_succ]; exact ht)
set_option maxRecDepth 100000 in
set_option maxHeartbeats 3200000 in
theorem reads_any (T0 : List Nat) (sv : Value) (l : List ByteArray) (w : World) (hs : StrAt w sv l) (hl : l.length ≤ 100) (hz : ∀ s ∈ l, s.size ≤ 1048576) (hT : ∀ b ∈ T0, b < w.heap.size) :
    Calls Tryz.prog 25 #[sv] w fun e w' => ∃ v, e = .returned (.tuple #[v, .int .i64 (errs l)]) ∧ (errs l = 0 → ∃ xs, xs.length = l.length ∧ RowAt RVal 1 w' v xs ∧ Vals T0 w' xs l) ∧ Below w.heap.size w w' := by
  obtain ⟨a0, c0, e1, _⟩ := hs.len
  subst e1
  obtain ⟨ln, hln⟩ : ∃ n, l.length = n := ⟨_, rfl⟩
  have HS := Lib.hid hs.row
  rw [hln] at HS ⊢
  have Hln := Lib.hid hln
  have Hz := Lib.hid hz
  have HT := Lib.hid hT
  have hln2 : ln ≤ 100 := by omega
  obtain ⟨ER, hER⟩ : ∃ n, errs l = n := ⟨_, rfl⟩
  rw [hER]
  have HER := Lib.hid hER
  obtain ⟨i0, hi0, hz0, hz1, hz2⟩ := info_parts Tryz.infoVal
  clear hs hl hz hT hln hER
  go_enter Tryz.func25, Tryz.ntmps25
  go_wp2_with fail
  go_loopg [11, 4] ln (fun k u11 u4 wr => ∃ (i : Nat) (xs : List Value) (T : List Nat), i + k = ln ∧ u11 = .int .i64 (i : Int) ∧ xs.length = i ∧ Hid (OwnAt RVal 1 wr w.heap.size 53 u4 xs) ∧ Hid (∀ b ∈ T0, b ∈ T) ∧ Hid (∀ b, u4.ownBlock = some b → b ∈ T) ∧ Hid (∀ b ∈ T, b < wr.heap.size) ∧ Hid (Vals T wr xs l) ∧ Hid (Below w.heap.size w wr))
  case atStart => exact ⟨0, [], T0, by omega, rfl, rfl, Lib.hid (OwnAt.nil _), Lib.hid (fun b h => h), Lib.hid (fun b h => by cases h), HT, Lib.hid ⟨Nat.zero_le _, fun j u s hu _ => by rw [List.getElem?_nil] at hu; cases hu⟩, Lib.hid (Below.refl _ _)⟩
  case round =>
    obtain ⟨i, xs, T, hik, rfl, hxi, HOwn, HTs, HTo, HTl, HV, HB⟩ := hrel
    cases gk with
    | zero =>
      have hil : i = ln := by omega
      subst hil
      have q9 : ¬ (i : Int) < (i : Int) := by omega
      have Hx := Lib.hid hxi
      have HE0 : Hid (ER = 0) := Lib.hid (by
        rw [← HER.out]
        refine errs_none fun j t ht => ?_
        have hj := (List.getElem?_eq_some_iff.1 ht).1
        have hjx : j < xs.length := by rw [Hx.out, ← Hln.out]; exact hj
        exact (HV.out.2 j xs[j] t (List.getElem?_eq_getElem hjx) ht).1)
      clear hxi
      go_wp2_with fail
      go_ret2
      exact ⟨_, by rw [HE0.out] <;> rfl, fun _ => ⟨xs, by first | exact Hx.out | exact Hx.out.trans Hln.out.symm, HOwn.out.row, HV.out.fresh fun b hb => .inl (HTs.out b hb)⟩, HB.out⟩
    | succ k =>
      have hil : i < ln := by omega
      obtain ⟨s, hsi⟩ : ∃ y, l[i]? = some y := ⟨l[i]'(by rw [Hln.out]; exact hil), List.getElem?_eq_getElem _⟩
      obtain ⟨b1, o1, c', hv1, _, _, hbs1, hcell1⟩ := HS.out.form (by rw [Hln.out]; omega) (by omega)
      injection hv1 with u1 u2 u3
      subst u1
      clear u2 u3
      obtain ⟨ds1, _, hcc1, hR1⟩ := hcell1 i s hsi
      obtain rfl : ds1 = [.string s] := hR1
      have e0 : wr.cell? ⟨b1, o1 + i, none⟩ = some (.string s) := (HB.out.cell (p := ⟨b1, _, none⟩) hbs1).trans (by simpa using hcc1 0 _ rfl)
      have q1 : (0 : Int) ≤ (i : Int) := by omega
      have q2 : (i : Int) < (ln : Int) := by omega
      have Hsi := Lib.hid hsi
      have Hx := Lib.hid hxi
      have HRd := Lib.hid (read_low s wr (Hz.out s (List.mem_of_getElem? hsi)))
      obtain ⟨er, her⟩ : ∃ e, (JP.readL s.data.toList).2 = e := ⟨_, rfl⟩
      rw [her] at HRd
      have Her := Lib.hid her
      clear hcell1 hcc1 hsi hxi her hbs1
      go_wp2_with fail
      refine HRd.out.mono ?_
      rintro E w2 ⟨v, rfl, ⟨n, hj⟩, hb⟩
      have hjT := hj T HTl.out
      have HJ := Lib.hid hjT
      have HV2 := Lib.hid (HV.out.keep (KeepT.of hb))
      have HB2 := Lib.hid (HB.out.trans (hb.mono HB.out.size))
      have HOwn2 := Lib.hid (HOwn.out.below stays_val hb)
      have Hsz := Lib.hid hb.size
      have One : Hid (v.oneCell' = true) := Lib.hid (one_form (hj [] (fun b h => by cases h)))
      clear hj hjT hb HRd e0 HV HOwn
      by_cases he : er = 0
      · subst he
        have hform : v = .nilIface ∨ ∃ t u, v = .iface t u := jv_form HJ.out
        rcases hform with rfl | ⟨ty, uv, rfl⟩
        · have hb7 : Below w2.heap.size w2 (w2.alloc (.cells #[Value.nilIface] 53)) := (Below.refl _ w2).alloc (Nat.le_refl _) _
          have HOwn7 := Lib.hid (HOwn2.out.below stays_val hb7)
          have HV7 := Lib.hid ((HV2.out.snoc (by rw [Hx.out]; exact Hsi.out) Her.out HJ.out).keep (KeepT.of hb7))
          have hr1 : RowAt RVal 1 (w2.alloc (.cells #[Value.nilIface] 53)) (.slice (some ⟨w2.heap.size, 0, none⟩) 1 1) [Value.nilIface] := RowAt.one (R := RVal) (x := .nilIface) (heap_alloc_new w2 _) rfl ⟨rfl, One.out⟩
          have HB7 := Lib.hid (HB2.out.trans (hb7.mono HB2.out.size))
          have Hs7 : Hid (wr.heap.size ≤ (w2.alloc (.cells #[Value.nilIface] 53)).heap.size) := Lib.hid (Nat.le_trans Hsz.out hb7.size)
          have bd1 : xs.length + [Value.nilIface].length ≤ maxLen := by unfold maxLen; rw [Hx.out]; simp only [List.length_cons, List.length_nil]; omega
          have bd2 : (xs.length + [Value.nilIface].length) * 16 ≤ 140737488355328 := by rw [Hx.out]; simp only [List.length_cons, List.length_nil]; omega
          clear hb7
          go_wp2_with (at_builtin; refine wpList_append_ownAt (R := RVal) (k := 1) (e := 53) (B := w.heap.size) (l := xs) (m := [Value.nilIface]) _ (by rfl) _ _ _ (by rfl) i0 _ 16 Tryz.underlying49 hi0 hz0 hz1 hz2 rfl (by omega) flat_val one_val _ (by rfl) HOwn7.out _ (by rfl) hr1 bd1 bd2 HB7.out.size ?_)
          intro v8 w8 hv8 hg8 hr8 hown8
          have HOwn8 := Lib.hid hv8
          have HB8 := Lib.hid (below_of_grown HB7.out HB7.out.size hg8 hr8)
          have hT8 : ∀ b ∈ T ++ v8.ownBlock.toList, b ∈ T ∨ (w2.alloc (.cells #[Value.nilIface] 53)).heap.size ≤ b := fun b hb => by
            rcases List.mem_append.1 hb with h | h
            · exact .inl h
            · rw [Option.mem_toList] at h
              rcases hown8 with e | e
              · exact .inl (HTo.out b (by rw [← e]; exact h))
              · rw [e] at h; cases h; exact .inr (Nat.le_of_eq (World.size_alloc _ _))
          have hk8 : KeepT (T ++ v8.ownBlock.toList) (w2.alloc (.cells #[Value.nilIface] 53)) w8 := ⟨hg8.os, hg8.tape, hg8.output, hg8.size, fun b hb hn => hg8.block b hb (fun e => hn (List.mem_append_left _ (HTo.out b e.symm)))⟩
          have HV8 := Lib.hid ((HV7.out.fresh hT8).keep hk8)
          have HTs8 : Hid (∀ b ∈ T0, b ∈ T ++ v8.ownBlock.toList) := Lib.hid (fun b hb => List.mem_append_left _ (HTs.out b hb))
          have HTo8 : Hid (∀ b, v8.ownBlock = some b → b ∈ T ++ v8.ownBlock.toList) := Lib.hid (fun b hb => List.mem_append_right _ (by rw [Option.mem_toList]; exact hb))
          have HTl8 : Hid (∀ b ∈ T ++ v8.ownBlock.toList, b < w8.heap.size) := Lib.hid (fun b hb => by
            rcases List.mem_append.1 hb with h | h
            · exact Nat.lt_of_lt_of_le (HTl.out b h) (Nat.le_trans Hs7.out hg8.size)
            · rw [Option.mem_toList] at h
              exact (hv8.at h).2.1)
          clear hv8 hg8 hr8 hown8 hT8 hk8 HOwn7 HV7 HB7 Hs7 hr1 bd1 bd2
          go_wp2_with fail
          go_roundg k
          case measure => omega
          case rel => exact ⟨i + 1, xs ++ [Value.nilIface], _, by omega, by go_num, by rw [List.length_append, List.length_singleton, Hx.out], HOwn8, HTs8, HTo8, HTl8, HV8, HB8⟩
        · have hb7 : Below w2.heap.size w2 (w2.alloc (.cells #[(Value.iface ty uv)] 53)) := (Below.refl _ w2).alloc (Nat.le_refl _) _
          have HOwn7 := Lib.hid (HOwn2.out.below stays_val hb7)
          have HV7 := Lib.hid ((HV2.out.snoc (by rw [Hx.out]; exact Hsi.out) Her.out HJ.out).keep (KeepT.of hb7))
          have hr1 : RowAt RVal 1 (w2.alloc (.cells #[(Value.iface ty uv)] 53)) (.slice (some ⟨w2.heap.size, 0, none⟩) 1 1) [(Value.iface ty uv)] := RowAt.one (R := RVal) (x := (Value.iface ty uv)) (heap_alloc_new w2 _) rfl ⟨rfl, One.out⟩
          have HB7 := Lib.hid (HB2.out.trans (hb7.mono HB2.out.size))
          have Hs7 : Hid (wr.heap.size ≤ (w2.alloc (.cells #[(Value.iface ty uv)] 53)).heap.size) := Lib.hid (Nat.le_trans Hsz.out hb7.size)
          have bd1 : xs.length + [(Value.iface ty uv)].length ≤ maxLen := by unfold maxLen; rw [Hx.out]; simp only [List.length_cons, List.length_nil]; omega
          have bd2 : (xs.length + [(Value.iface ty uv)].length) * 16 ≤ 140737488355328 := by rw [Hx.out]; simp only [List.length_cons, List.length_nil]; omega
          clear hb7
          go_wp2_with (at_builtin; refine wpList_append_ownAt (R := RVal) (k := 1) (e := 53) (B := w.heap.size) (l := xs) (m := [(Value.iface ty uv)]) _ (by rfl) _ _ _ (by rfl) i0 _ 16 Tryz.underlying49 hi0 hz0 hz1 hz2 rfl (by omega) flat_val one_val _ (by rfl) HOwn7.out _ (by rfl) hr1 bd1 bd2 HB7.out.size ?_)
          intro v8 w8 hv8 hg8 hr8 hown8
          have HOwn8 := Lib.hid hv8
          have HB8 := Lib.hid (below_of_grown HB7.out HB7.out.size hg8 hr8)
          have hT8 : ∀ b ∈ T ++ v8.ownBlock.toList, b ∈ T ∨ (w2.alloc (.cells #[(Value.iface ty uv)] 53)).heap.size ≤ b := fun b hb => by
            rcases List.mem_append.1 hb with h | h
            · exact .inl h
            · rw [Option.mem_toList] at h
              rcases hown8 with e | e
              · exact .inl (HTo.out b (by rw [← e]; exact h))
              · rw [e] at h; cases h; exact .inr (Nat.le_of_eq (World.size_alloc _ _))
          have hk8 : KeepT (T ++ v8.ownBlock.toList) (w2.alloc (.cells #[(Value.iface ty uv)] 53)) w8 := ⟨hg8.os, hg8.tape, hg8.output, hg8.size, fun b hb hn => hg8.block b hb (fun e => hn (List.mem_append_left _ (HTo.out b e.symm)))⟩
          have HV8 := Lib.hid ((HV7.out.fresh hT8).keep hk8)
          have HTs8 : Hid (∀ b ∈ T0, b ∈ T ++ v8.ownBlock.toList) := Lib.hid (fun b hb => List.mem_append_left _ (HTs.out b hb))
          have HTo8 : Hid (∀ b, v8.ownBlock = some b → b ∈ T ++ v8.ownBlock.toList) := Lib.hid (fun b hb => List.mem_append_right _ (by rw [Option.mem_toList]; exact hb))
          have HTl8 : Hid (∀ b ∈ T ++ v8.ownBlock.toList, b < w8.heap.size) := Lib.hid (fun b hb => by
            rcases List.mem_append.1 hb with h | h
            · exact Nat.lt_of_lt_of_le (HTl.out b h) (Nat.le_trans Hs7.out hg8.size)
            · rw [Option.mem_toList] at h
              exact (hv8.at h).2.1)
          clear hv8 hg8 hr8 hown8 hT8 hk8 HOwn7 HV7 HB7 Hs7 hr1 bd1 bd2
          go_wp2_with fail
          go_roundg k
          case measure => omega
          case rel => exact ⟨i + 1, xs ++ [(Value.iface ty uv)], _, by omega, by go_num, by rw [List.length_append, List.length_singleton, Hx.out], HOwn8, HTs8, HTo8, HTl8, HV8, HB8⟩
      · have n1 : (er != 0) = true := by rw [bne_iff_ne]; exact he
        have HE1 : Hid (ER = er) := Lib.hid (by
          rw [← HER.out, ← Her.out]
          refine errs_at (i := i) (fun j t hj ht => ?_) Hsi.out (by rw [Her.out]; exact he)
          have hjx : j < xs.length := by rw [Hx.out]; exact hj
          exact (HV2.out.2 j xs[j] t (List.getElem?_eq_getElem hjx) ht).1)
        have Hne := Lib.hid he
        clear he
        go_wp2_with fail
        go_ret2
        exact ⟨_, by rw [HE1.out] <;> rfl, fun h => absurd (HE1.out.symm.trans h) Hne.out, HB2.out⟩
end Go.Proofs.YtnmhjabihfhobaaGreatDoor
/- three.Merge: its contract. -/
namespace Go.Proofs.YtnmhjabihfhobaaGreatDoor
open Go.RowKit
open JP (JV Bs)

theorem sees3_none (w0 : World) : Sees3 28 #[] (fun _ _ _ => True) w0 := by
  intro d T way sv w _ hT _ _ hb _
  have HB := Lib.hid hb
  have HT := Lib.hid hT
  clear hb hT
  show Calls Tryz.prog 28 #[sv] w _
  go_enter Tryz.func28, Tryz.ntmps28
  go_wp2_with fail
  go_end0
  exact ⟨rfl, T, trivial, KE.refl HT.out, HB.out⟩
theorem errs3 (a b c : ByteArray) : errs [a, b, c] = JP.readE3 a.data.toList b.data.toList c.data.toList := by
  unfold JP.readE3
  rw [errs, errs, errs, errs]
  by_cases h1 : (JP.readL a.data.toList).2 = 0
  · rw [if_pos h1, if_pos h1]
    by_cases h2 : (JP.readL b.data.toList).2 = 0
    · rw [if_pos h2, if_pos h2]
      by_cases h3 : (JP.readL c.data.toList).2 = 0
      · rw [if_pos h3, h3]
      · rw [if_neg h3]
    · rw [if_neg h2, if_neg h2]
  · rw [if_neg h1, if_neg h1]
/-- three texts in a block -/
theorem three_strs {w : World} {g : Nat} {t : TypeId} {a b c : ByteArray} (h : w.heap[g]? = some (.cells #[.string a, .string b, .string c] t (0, 0))) : StrAt w (.slice (some ⟨g, 0, none⟩) 3 3) [a, b, c] := by
  refine .inr ⟨⟨g, 0, none⟩, 3, rfl, Nat.le_refl _, by decide, fun j x hx => ?_⟩
  have hc := cell_block h j
  rw [add_plain', Nat.zero_add, hc]
  rcases j with _ | _ | _ | j
  · simpa using hx
  · simpa using hx
  · simpa using hx
  · simp at hx
def MergeAt (t : Bs) (c : Int) (w : World) (e : Ending) (w' : World) : Prop := e = .returned (.tuple #[.string (mkB t), .int .i64 c]) ∧ Below w.heap.size w w'
set_option maxRecDepth 100000 in
set_option maxHeartbeats 3200000 in
theorem merge3_any (a b c : ByteArray) (w : World) (ha : a.size ≤ 1048576) (hb : b.size ≤ 1048576) (hc : c.size ≤ 1048576) (ht : TabOK w) :
    Calls Tryz.prog 11 #[.string a, .string b, .string c] w (MergeAt (JP.merge3T a.data.toList b.data.toList c.data.toList) (JP.merge3E a.data.toList b.data.toList c.data.toList) w) := by
  obtain ⟨w1, hw⟩ : ∃ w1, w1 = w.alloc (.cells #[.string a, .string b, .string c] 9) := ⟨_, rfl⟩
  have hb1 : Below w.heap.size w w1 := by rw [hw]; exact (Below.refl _ w).alloc (Nat.le_refl _) _
  have hst : StrAt w1 (.slice (some ⟨w.heap.size, 0, none⟩) 3 3) [a, b, c] := three_strs (by rw [hw]; exact heap_alloc_new w _)
  have HR := Lib.hid (reads_any [] _ [a, b, c] w1 hst (by show 3 ≤ 100; decide) (fun s hs => by
    rcases List.mem_cons.1 hs with rfl | hs
    · exact ha
    · rcases List.mem_cons.1 hs with rfl | hs
      · exact hb
      · rw [List.mem_singleton.1 hs]; exact hc) (fun b h => by cases h))
  rw [errs3] at HR
  obtain ⟨E0, hE0⟩ : ∃ e, JP.readE3 a.data.toList b.data.toList c.data.toList = e := ⟨_, rfl⟩
  obtain ⟨T, hT⟩ : ∃ e, JP.merge3T a.data.toList b.data.toList c.data.toList = e := ⟨_, rfl⟩
  obtain ⟨E, hE⟩ : ∃ e, JP.merge3E a.data.toList b.data.toList c.data.toList = e := ⟨_, rfl⟩
  rw [hT, hE]
  unfold JP.merge3T at hT
  unfold JP.merge3E at hE
  rw [hE0] at HR hT hE
  have HB1 := Lib.hid hb1
  have HTb := Lib.hid (ht.below hb1)
  have hok : E0 = 0 → ∃ x y z, JP.readL a.data.toList = (x, 0) ∧ JP.readL b.data.toList = (y, 0) ∧ JP.readL c.data.toList = (z, 0) ∧ JP.Fit x ∧ JP.Fit y ∧ JP.Fit z := fun h => JP.read3_ok (hE0.trans h)
  clear hb1 hst ha hb hc ht
  go_enter Tryz.func11, Tryz.ntmps11
  go_wp2_with fail
  rw [← hw]
  clear hw
  refine HR.out.mono ?_
  rintro E9 w2 ⟨v, rfl, hx, hb⟩
  have HB2 := Lib.hid (HB1.out.trans (hb.mono HB1.out.size))
  by_cases he : E0 = 0
  · subst he
    obtain ⟨x, y, z, r1, r2, r3, f1, f2, f3⟩ := hok rfl
    obtain ⟨xs, hxl, hrow, hv⟩ := hx rfl
    have hT2 := ((HTb.out).below hb)
    obtain ⟨va, vb, vc, rfl⟩ : ∃ va vb vc, xs = [va, vb, vc] := by
      match xs, hxl with
      | [p, q, r], _ => exact ⟨p, q, r, rfl⟩
    obtain ⟨_, na, ja⟩ := hv.2 0 va a rfl rfl
    obtain ⟨_, nb, jb⟩ := hv.2 1 vb b rfl rfl
    obtain ⟨_, nc, jc⟩ := hv.2 2 vc c rfl rfl
    rw [r1] at ja
    rw [r2] at jb
    rw [r3] at jc
    rw [if_pos rfl, r1, r2, r3] at hT hE
    dsimp only at hT hE ja jb jc
    obtain ⟨bk, off, cap, hv9, _, _, hbk, hcell⟩ := hrow.form (by show 0 < 3; decide) (by decide)
    subst hv9
    have cellAt : ∀ (j : Nat) (u : Value), [va, vb, vc][j]? = some u → w2.cell? ⟨bk, off + j, none⟩ = some u := fun j u hu => by
      obtain ⟨cs, _, hcc, hR⟩ := hcell j u hu
      obtain ⟨hR, _⟩ := hR
      subst hR
      simpa using hcc 0 _ rfl
    have e0 : w2.cell? ⟨bk, off, none⟩ = some va := cellAt 0 va rfl
    have e1 : w2.cell? ⟨bk, off + 1, none⟩ = some vb := cellAt 1 vb rfl
    have e2 : w2.cell? ⟨bk, off + 2, none⟩ = some vc := cellAt 2 vc rfl
    have hlx := f1.2.2.2
    have hly := f2.2.2.2
    have hlz := f3.2.2.2
    have ep : ∀ (a : Array Value) (w : World), (callFunc 28 a).run Tryz.prog w = .ok (.enter 28 a) w := fun a w => by kernel_rfl
    have HIn := Lib.hid (fun (w' : World) (hb' : Below w2.heap.size w2 w') => three0_any (f := 28) (I := fun _ _ _ => True) (w0 := w') ep (fun _ _ _ _ _ _ => trivial) (sees3_none w') nc na nb [] va vb vc (.slice none 0 0) x y z [] [] w' (ja.below hb') (jb.below hb') (jc.below hb') f2.1 f3.1 (by omega) (by omega) (by show 0 + (JP.text z).length ≤ 10000; omega) (StrAt.nil w') (fun h => absurd rfl h) trivial (fun b h => by cases h) (Below.refl _ _) (by show 0 + 4000 * (JP.text z).length ≤ 40000000; omega))
    obtain ⟨fw, fl⟩ := JP.into3_fits (x := x) f2 f3
    obtain ⟨RR, hRR⟩ : ∃ r, JP.into3 x y z = r := ⟨_, rfl⟩
    rw [hRR] at HIn hT hE fw fl
    have HTl := Lib.hid (fun (k : Nat) (u : Value) (w' : World) (hj : JvAt k [] w' u RR) (ht : TabOK w') => tell_any k u RR w' hj (by omega) (by have := JP.size_le_len RR; omega) ht)
    rw [hT, hE] at HTl
    have HTb2 := Lib.hid hT2
    clear hv hcell hrow cellAt ja jb jc f1 f2 f3 hlx hly hlz r1 r2 r3 hT2 hb hx hok hT hE ep fw fl hRR hxl hE0
    go_upto_region 4 with fail
    refine wp_region_relB 14 (fun ii U w' => match ii with
      | 0 => U 0 = .slice (some ⟨bk, off, none⟩) 3 cap
      | 1 => U 1 = .pointer (some ⟨bk, off, none⟩)
      | 2 => U 2 = va
      | 3 => U 3 = .slice (some ⟨bk, off, none⟩) 3 cap
      | 4 => U 4 = .pointer (some ⟨bk, off + 1, none⟩)
      | 5 => U 5 = vb
      | 6 => U 6 = .slice (some ⟨bk, off, none⟩) 3 cap
      | 7 => U 7 = .pointer (some ⟨bk, off + 2, none⟩)
      | 8 => U 8 = vc
      | 9 => ∃ k, JvAt k [] w' (U 9) RR
      | 10 => U 10 = .tuple #[.string (mkB T), .int .i64 E]
      | 11 => U 11 = .string (mkB T)
      | 12 => U 12 = .int .i64 E
      | 13 => U 13 = .string (mkB T)
      | _ => True)
      (fun | 1 => [0] | 2 => [1] | 4 => [3] | 5 => [4] | 7 => [6] | 8 => [7] | 9 => [2, 5, 8] | 10 => [9] | 11 => [10] | 12 => [10] | 13 => [11] | _ => []) (by kernel_rfl) (by kernel_rfl) ?_ ⟨?_, ?_, ?_, ?_, ?_, ?_, ?_, ?_, ?_, ?_, ?_, ?_, ?_, ?_, trivial⟩ ?_
    · intro jj U wa wb hb h
      match jj, h with
      | 0, h => exact h
      | 1, h => exact h
      | 2, h => exact h
      | 3, h => exact h
      | 4, h => exact h
      | 5, h => exact h
      | 6, h => exact h
      | 7, h => exact h
      | 8, h => exact h
      | 9, ⟨k, h⟩ => exact ⟨k, h.below hb⟩
      | 10, h => exact h
      | 11, h => exact h
      | 12, h => exact h
      | 13, h => exact h
      | _ + 14, h => trivial
    · intro y' w' hb hd
      refine owes_here (.slice (some ⟨bk, off, none⟩) 3 cap) (by rfl) ?_ rfl
      simp only [putAll, List.take_succ_cons, List.take_zero]
      go_simp
    · intro y' w' hb hd
      have h0 : y' 0 = .slice (some ⟨bk, off, none⟩) 3 cap := hd 0 (by simp)
      refine owes_here (.pointer (some ⟨bk, off, none⟩)) (by rfl) ?_ rfl
      simp only [putAll, List.take_succ_cons, List.take_zero]
      go_simp
    · intro y' w' hb hd
      have h1 : y' 1 = .pointer (some ⟨bk, off, none⟩) := hd 1 (by simp)
      have hb6 : Below w2.heap.size w2 w' := (Below.refl w2.heap.size w2).drew.trans hb
      have d0 : w'.cell? ⟨bk, off, none⟩ = some va := (hb6.cell (p := ⟨bk, _, none⟩) hbk).trans e0
      refine owes_here (va) (by rfl) ?_ rfl
      simp only [putAll, List.take_succ_cons, List.take_zero]
      go_simp
    · intro y' w' hb hd
      refine owes_here (.slice (some ⟨bk, off, none⟩) 3 cap) (by rfl) ?_ rfl
      simp only [putAll, List.take_succ_cons, List.take_zero]
      go_simp
    · intro y' w' hb hd
      have h3 : y' 3 = .slice (some ⟨bk, off, none⟩) 3 cap := hd 3 (by simp)
      refine owes_here (.pointer (some ⟨bk, off + 1, none⟩)) (by rfl) ?_ rfl
      simp only [putAll, List.take_succ_cons, List.take_zero]
      go_simp
    · intro y' w' hb hd
      have h4 : y' 4 = .pointer (some ⟨bk, off + 1, none⟩) := hd 4 (by simp)
      have hb6 : Below w2.heap.size w2 w' := (Below.refl w2.heap.size w2).drew.trans hb
      have d0 : w'.cell? ⟨bk, off + 1, none⟩ = some vb := (hb6.cell (p := ⟨bk, _, none⟩) hbk).trans e1
      refine owes_here (vb) (by rfl) ?_ rfl
      simp only [putAll, List.take_succ_cons, List.take_zero]
      go_simp
    · intro y' w' hb hd
      refine owes_here (.slice (some ⟨bk, off, none⟩) 3 cap) (by rfl) ?_ rfl
      simp only [putAll, List.take_succ_cons, List.take_zero]
      go_simp
    · intro y' w' hb hd
      have h6 : y' 6 = .slice (some ⟨bk, off, none⟩) 3 cap := hd 6 (by simp)
      refine owes_here (.pointer (some ⟨bk, off + 2, none⟩)) (by rfl) ?_ rfl
      simp only [putAll, List.take_succ_cons, List.take_zero]
      go_simp
    · intro y' w' hb hd
      have h7 : y' 7 = .pointer (some ⟨bk, off + 2, none⟩) := hd 7 (by simp)
      have hb6 : Below w2.heap.size w2 w' := (Below.refl w2.heap.size w2).drew.trans hb
      have d0 : w'.cell? ⟨bk, off + 2, none⟩ = some vc := (hb6.cell (p := ⟨bk, _, none⟩) hbk).trans e2
      refine owes_here (vc) (by rfl) ?_ rfl
      simp only [putAll, List.take_succ_cons, List.take_zero]
      go_simp
    · intro y' w' hb hd
      have h2 : y' 2 = va := hd 2 (by simp)
      have h5 : y' 5 = vb := hd 5 (by simp)
      have h8 : y' 8 = vc := hd 8 (by simp)
      have hb6 : Below w2.heap.size w2 w' := (Below.refl w2.heap.size w2).drew.trans hb
      refine owes_call 27 #[va, vb, vc, .slice none 0 0, .func (.func 28) #[] #[]] (by rfl) ?_ ((HIn.out w' hb6).mono ?_)
      · simp only [putAll, List.take_succ_cons, List.take_zero]
        go_simp
      · rintro _ w7 ⟨u7, T7, rfl, ⟨k7, hj7⟩, _, _, hb7⟩
        exact ⟨_, rfl, ⟨k7, hj7.fresh (fun b h => by cases h)⟩, hb7⟩
    · intro y' w' hb hd
      obtain ⟨k9, h9⟩ : ∃ k, JvAt k [] w' (y' 9) RR := hd 9 (by simp)
      have hb6 : Below w2.heap.size w2 w' := (Below.refl w2.heap.size w2).drew.trans hb
      obtain ⟨u9, hu9⟩ : ∃ u, y' 9 = u := ⟨_, rfl⟩
      rw [hu9] at h9
      refine owes_call 26 #[u9] (by rfl) ?_ ((HTl.out k9 u9 w' h9 (HTb2.out.below hb6)).mono ?_)
      · simp only [putAll, List.take_succ_cons, List.take_zero]
        go_simp
      · rintro _ w7 ⟨rfl, hb7⟩
        exact ⟨_, rfl, rfl, hb7⟩
    · intro y' w' hb hd
      have h10 : y' 10 = .tuple #[.string (mkB T), .int .i64 E] := hd 10 (by simp)
      refine owes_here (.string (mkB T)) (by rfl) ?_ rfl
      simp only [putAll, List.take_succ_cons, List.take_zero]
      go_simp
    · intro y' w' hb hd
      have h10 : y' 10 = .tuple #[.string (mkB T), .int .i64 E] := hd 10 (by simp)
      refine owes_here (.int .i64 E) (by rfl) ?_ rfl
      simp only [putAll, List.take_succ_cons, List.take_zero]
      go_simp
    · intro y' w' hb hd
      have h11 : y' 11 = .string (mkB T) := hd 11 (by simp)
      refine owes_here (.string (mkB T)) (by rfl) ?_ rfl
      simp only [putAll, List.take_succ_cons, List.take_zero]
      go_simp
    · intro y' w' hb hR
      have h12 : y' 12 = .int .i64 E := hR 12 (by omega)
      have h13 : y' 13 = .string (mkB T) := hR 13 (by omega)
      have hb6 : Below w2.heap.size w2 w' := (Below.refl w2.heap.size w2).drew.trans hb
      have HB6 := Lib.hid (HB2.out.trans (hb6.mono HB2.out.size))
      clear hR hb hb6
      simp only [putAll, List.take_succ_cons, List.take_zero, List.drop_succ_cons, List.drop_zero]
      rw [h12, h13]
      clear h12 h13
      try simp only [Act.put, List.setIfInBounds_toArray, List.set_cons_zero, List.set_cons_succ]
      go_wp2_with fail
      go_ret2
      exact ⟨rfl, HB6.out⟩
  · have n0 : (E0 != 0) = true := by rw [bne_iff_ne]; exact he
    rw [if_neg he] at hT hE
    have HT := Lib.hid hT
    have HE := Lib.hid hE
    clear he hx hb hok hT hE hE0
    go_wp2_with fail
    go_ret2
    exact ⟨by first | (rw [← HT.out, ← HE.out] <;> rfl), HB2.out⟩
end Go.Proofs.YtnmhjabihfhobaaGreatDoor
/- Sorted texts, each once: rising. Any program. -/
namespace Go.Proofs.YtnmhjabihfhobaaGreatDoor
open Go.RowKit Go.Sort Go.Proofs

def leL (x y : List UInt8) : Bool := decide (x ≤ y)
theorem leL_eq (x y : List UInt8) : leL x y = !Op.bytesLess y x := by
  unfold leL
  rw [bytesLess_eq]
  by_cases h : y < x
  · rw [decide_eq_true h, decide_eq_false (fun hle : x ≤ y => hle h)]; rfl
  · rw [decide_eq_false h, decide_eq_true (show x ≤ y from h)]; rfl
theorem leL_trans (x y z : List UInt8) (h : leL x y = true) (k : leL y z = true) : leL x z = true := by
  rw [leL_eq, Bool.not_eq_true'] at *
  cases hz : Op.bytesLess z x with
  | false => rfl
  | true =>
    cases hy : Op.bytesLess y z with
    | true => rw [bl_trans y z x hy hz] at h; cases h
    | false =>
      have := bl_total y z hy k
      subst this
      rw [hz] at h; cases h
theorem leL_total (x y : List UInt8) : (leL x y || leL y x) = true := by
  rw [leL_eq, leL_eq]
  cases h : Op.bytesLess y x with
  | false => rfl
  | true => rw [bl_asymm h]; rfl
def sortedL (l : List (List UInt8)) : List (List UInt8) := l.mergeSort fun x y => decide (x ≤ y)
theorem sorted_pair (l : List (List UInt8)) : (sortedL l).Pairwise fun x y => leL x y = true := List.pairwise_mergeSort (le := leL) leL_trans leL_total l
theorem sorted_mem (l : List (List UInt8)) (x : List UInt8) : x ∈ sortedL l ↔ x ∈ l := List.mem_mergeSort
theorem sorted_len (l : List (List UInt8)) : (sortedL l).length = l.length := List.length_mergeSort l
/-- each once -/
theorem compact_rising (zs : List (List UInt8)) (hs : zs.Pairwise fun x y => leL x y = true) :
    (Lib.compact zs).Pairwise (fun x y => Op.bytesLess x y = true) ∧ ∀ x, x ∈ Lib.compact zs ↔ x ∈ zs := by
  have hget : ∀ i j, i < j → j < zs.length → leL (zs.toArray[i]!) (zs.toArray[j]!) = true := fun i j hij hj => by
    have := List.pairwise_iff_getElem.1 hs i j (by omega) hj hij
    rwa [getElem!_pos zs.toArray i (by simpa using (by omega : i < zs.length)), getElem!_pos zs.toArray j (by simpa using hj)]
  have key : ∀ m, m ≤ zs.length → (Lib.compactUpTo zs.toArray m).Pairwise (fun x y => Op.bytesLess x y = true) ∧ (∀ x ∈ Lib.compactUpTo zs.toArray m, ∃ j, j < m ∧ x = zs.toArray[j]!) ∧ (∀ j, j < m → zs.toArray[j]! ∈ Lib.compactUpTo zs.toArray m) := fun m => by
    induction m with
    | zero => intro _; exact ⟨by simp [Lib.compactUpTo], by simp [Lib.compactUpTo], fun j hj => by omega⟩
    | succ m ih =>
      intro hm
      obtain ⟨h1, h2, h3⟩ := ih (by omega)
      rw [Lib.compactUpTo_succ]
      by_cases h0 : m = 0
      · subst h0
        rw [if_pos (Lib.keeps_lt_one _ 0 (by omega))]
        have : Lib.compactUpTo zs.toArray 0 = [] := by simp [Lib.compactUpTo]
        rw [this, List.nil_append]
        refine ⟨by simp, fun x hx => ⟨0, by omega, by simpa using hx⟩, fun j hj => ?_⟩
        obtain rfl : j = 0 := by omega
        simp
      · by_cases he : zs.toArray[m]! = zs.toArray[m - 1]!
        · rw [Lib.keeps_neg (by omega) he]
          simp only [Bool.false_eq_true, if_false, List.append_nil]
          refine ⟨h1, fun x hx => ?_, fun j hj => ?_⟩
          · obtain ⟨j, hj, e⟩ := h2 x hx
            exact ⟨j, by omega, e⟩
          · by_cases hjm : j = m
            · subst hjm
              rw [he]
              exact h3 _ (by omega)
            · exact h3 j (by omega)
        · rw [Lib.keeps_pos he, if_pos rfl]
          refine ⟨?_, fun x hx => ?_, fun j hj => ?_⟩
          · rw [List.pairwise_append]
            refine ⟨h1, by simp, fun a ha b hb => ?_⟩
            obtain rfl : b = zs.toArray[m]! := by simpa using hb
            obtain ⟨j, hj, rfl⟩ := h2 a ha
            have h4 : Op.bytesLess (zs.toArray[m - 1]!) (zs.toArray[m]!) = true := by
              have h5 := hget (m - 1) m (by omega) (by omega)
              rw [leL_eq, Bool.not_eq_true'] at h5
              cases h6 : Op.bytesLess (zs.toArray[m - 1]!) (zs.toArray[m]!) with
              | true => rfl
              | false => exact absurd (bl_total _ _ h6 h5).symm he
            by_cases hjm : j = m - 1
            · rw [hjm]; exact h4
            · have h5 := hget j (m - 1) (by omega) (by omega)
              rw [leL_eq, Bool.not_eq_true'] at h5
              cases h6 : Op.bytesLess (zs.toArray[j]!) (zs.toArray[m - 1]!) with
              | true => exact bl_trans _ _ _ h6 h4
              | false => rw [bl_total _ _ h6 h5]; exact h4
          · rcases List.mem_append.1 hx with hx | hx
            · obtain ⟨j, hj, e⟩ := h2 x hx
              exact ⟨j, by omega, e⟩
            · exact ⟨m, by omega, by simpa using hx⟩
          · by_cases hjm : j = m
            · subst hjm; simp
            · exact List.mem_append_left _ (h3 j (by omega))
  obtain ⟨h1, h2, h3⟩ := key zs.length (Nat.le_refl _)
  refine ⟨h1, fun x => ⟨fun hx => ?_, fun hx => ?_⟩⟩
  · obtain ⟨j, hj, rfl⟩ := h2 x hx
    rw [getElem!_pos zs.toArray j (by simpa using hj)]
    simp
  · obtain ⟨j, hj, rfl⟩ := List.getElem_of_mem hx
    have := h3 j hj
    rw [getElem!_pos zs.toArray j (by simpa using hj)] at this
    exact this
end Go.Proofs.YtnmhjabihfhobaaGreatDoor
/- The library's slices functions at texts, in our words. -/
namespace Go.Proofs.YtnmhjabihfhobaaGreatDoor
open Go.RowKit

theorem strAt_getD {l : List ByteArray} {j : Nat} (hj : j < l.length) : l[j]? = some (l.getD j ByteArray.empty) := by simp [List.getD, hj]
theorem idx_none {l : List ByteArray} {x : ByteArray} (h : x ∉ l) : Lib.idxOfS l x = -1 := by
  have := Lib.idxOfS_miss l l.length x fun j hj e => h (by rw [← e]; exact List.mem_of_getElem? (strAt_getD hj))
  rwa [List.take_of_length_le (Nat.le_refl _)] at this
theorem idx_at {l : List ByteArray} {x : ByteArray} {k : Nat} (hk : l[k]? = some x) (hn : l.Nodup) : Lib.idxOfS l x = (k : Int) := by
  have hkl := (List.getElem?_eq_some_iff.1 hk).1
  have hx : l.getD k ByteArray.empty = x := by simp [List.getD, hk]
  have := Lib.idxOfS_hit l l.length k x hkl (Nat.le_refl _) hx fun j hj e => by
    have h1 : l[j]? = some x := by rw [← e]; exact strAt_getD (by omega)
    have h2 := (List.getElem?_inj (by omega : j < l.length) hn).1 (h1.trans hk.symm)
    omega
  rwa [List.take_of_length_le (Nat.le_refl _)] at this

/-- stores into a row of the call's own, one behind the other -/
theorem setCells_rowS (g : Nat) (t : TypeId) : ∀ (vs : List Value) (i : Nat) (cur : Array Value) (w : World), w.heap[g]? = some (.cells cur t (0, 0)) → i + vs.length ≤ cur.size →
    ∃ cur', (w.setCells g i vs).heap[g]? = some (.cells cur' t (0, 0)) ∧ cur'.size = cur.size ∧ (∀ j, j < i → cur'[j]? = cur[j]?) ∧ (∀ j u, vs[j]? = some u → cur'[i + j]? = some u) ∧ Touch g w (w.setCells g i vs)
  | [], i, cur, w, hg, _ => ⟨cur, hg, rfl, fun _ _ => rfl, fun j u h => by simp at h, ⟨rfl, rfl, rfl, rfl, fun _ _ => rfl⟩⟩
  | v :: r, i, cur, w, hg, hl => by
    simp only [List.length_cons] at hl
    obtain ⟨h1, h2⟩ := touch_setCell (w := w) (i := i) (v := v) hg
    obtain ⟨cur', g1, g2, g3, g4, g5⟩ := setCells_rowS g t r (i + 1) _ _ h1 (by simp; omega)
    refine ⟨cur', g1, by simpa using g2, fun j hj => ?_, fun j u hu => ?_, ?_⟩
    · rw [g3 j (by omega), Array.getElem?_setIfInBounds, if_neg (by omega)]
    · cases j with
      | zero =>
        simp only [List.getElem?_cons_zero, Option.some.injEq] at hu
        subst hu
        rw [Nat.add_zero, g3 i (by omega), Array.getElem?_setIfInBounds, if_pos rfl, if_pos (by omega)]
      | succ j =>
        have := g4 j u (by simpa using hu)
        rwa [show i + 1 + j = i + (j + 1) by omega] at this
    · show Touch g w ((w.setCell ⟨g, i, none⟩ v).setCells g (i + 1) r)
      exact ⟨g5.os.trans h2.os, g5.tape.trans h2.tape, g5.output.trans h2.output, g5.size.trans h2.size, fun b hb => (g5.other b hb).trans (h2.other b hb)⟩
theorem eraseIdx_get {β : Type} (l : List β) (i j : Nat) : (l.eraseIdx i)[j]? = if j < i then l[j]? else l[j + 1]? := List.getElem?_eraseIdx ..
theorem own_strs {w : World} {B : Nat} {e : TypeId} {v : Value} {l : List ByteArray} (h : OwnAt RString 1 w B e v l) : w.ownsRow B e 1 v l.length (strs l) := by
  obtain ⟨css, h1, h2, h3, h4⟩ := h
  have : css.flatten = strs l := by
    apply List.ext_getElem?
    intro j
    by_cases hj : j < l.length
    · have hcs : css[j]? = some css[j] := List.getElem?_eq_getElem (by omega)
      have hR : css[j] = [.string l[j]] := h4 j _ _ hcs (List.getElem?_eq_getElem hj)
      have := get_flat h2 (j := j) (i := 0) hcs (u := .string l[j]) (by rw [hR]; rfl)
      rw [Nat.mul_one, Nat.add_zero] at this
      rw [this]
      simp [strs, hj]
    · rw [List.getElem?_eq_none (by rw [flat_len h2]; omega), List.getElem?_eq_none (by rw [strs_length]; omega)]
  rwa [this] at h3
theorem ownAt_strs {w : World} {B n : Nat} {e : TypeId} {v : Value} {l : List ByteArray} (h : w.ownsRow B e 1 v n (strs l)) (hn : l.length = n) : OwnAt RString 1 w B e v l := by
  subst hn
  refine ⟨l.map fun x => [.string x], by simp, fun cs hcs => ?_, ?_, fun j cs x hcs hx => ?_⟩
  · obtain ⟨x, _, rfl⟩ := List.mem_map.1 hcs; rfl
  · have key : ∀ m : List ByteArray, (m.map fun x => [Value.string x]).flatten = strs m := fun m => by
      induction m with
      | nil => rfl
      | cons y r ih => rw [List.map_cons, List.flatten_cons, ih]; rfl
    rw [key]; exact h
  · simp only [List.getElem?_map, hx, Option.map_some, Option.some.injEq] at hcs
    exact hcs.symm
theorem deleteAt_any (v : Value) (l : List ByteArray) (B i : Nat) (w : World) (h : OwnAt RString 1 w B 9 v l) (hi : i < l.length) (hl : l.length ≤ 1073741824) :
    Calls Tryz.prog 71 #[v, .int .i64 (i : Int), .int .i64 ((i : Int) + 1)] w fun e w' => ∃ g c, v = .slice (some ⟨g, 0, none⟩) l.length c ∧ B ≤ g ∧ e = .returned (.slice (some ⟨g, 0, none⟩) (l.length - 1) c) ∧ OwnAt RString 1 w' B 9 (.slice (some ⟨g, 0, none⟩) (l.length - 1) c) (l.eraseIdx i) ∧ Touch g w w' := by
  have ho := own_strs h
  rw [show (i : Int) + 1 = ((i + 1 : Nat) : Int) by omega]
  rcases ho.2 with ⟨_, h0⟩ | ⟨g, c, cur, rfl, hB, hh, hlc, hc, hcs, htk⟩
  · omega
  have hcell : ∀ j, j < l.length → w.cell? ⟨g, 0 + j, none⟩ = some (.string (l.getD j ByteArray.empty)) := fun j hj => by
    rw [Nat.zero_add]
    have := ho.cells (g := g) rfl j _ (strs_get (strAt_getD hj))
    rwa [add_plain', Nat.zero_add] at this
  refine (Tryz.slices_Delete_string_cells g 0 l.length c i (i + 1) (fun j => l.getD j ByteArray.empty) w hlc (by unfold maxLen at hc; omega) (by omega) (by omega) hcell fun j _ => free_block hh _).mono fun e w' ⟨he, q, hw⟩ => ?_
  obtain ⟨X, HX⟩ : ∃ X, Hid (X = ((Lib.strsOf (fun j => l.getD j ByteArray.empty) l.length).take i ++ (Lib.strsOf (fun j => l.getD j ByteArray.empty) l.length).drop (i + 1) ++ List.replicate (i + 1 - i) [])) := ⟨_, Lib.hid rfl⟩
  have hgg : (w.drewN q).heap[g]? = some (.cells cur 9 (0, 0)) := hh
  have hXl : X.length = l.length := by rw [HX.out]; simp [Lib.strsOf]; omega
  have hXg : ∀ (j : Nat) (x : ByteArray), (l.eraseIdx i)[j]? = some x → X[j]? = some x.data.toList := fun j x hx => by
    have hj : j < l.length - 1 := by have := (List.getElem?_eq_some_iff.1 hx).1; rw [List.length_eraseIdx_of_lt hi] at this; exact this
    rw [eraseIdx_get] at hx
    rw [HX.out]
    by_cases hji : j < i
    · rw [if_pos hji] at hx
      rw [List.append_assoc, List.getElem?_append_left (by simp [Lib.strsOf]; omega), List.getElem?_take_of_lt hji]
      simp only [Lib.strsOf]
      rw [List.getElem?_map, List.getElem?_range (by omega)]
      simp [List.getD, hx]
    · rw [if_neg hji] at hx
      rw [List.append_assoc, List.getElem?_append_right (by simp [Lib.strsOf]; omega), List.getElem?_append_left (by simp [Lib.strsOf]; omega), List.getElem?_drop]
      simp only [Lib.strsOf, List.length_take, List.length_map, List.length_range]
      rw [show i + 1 + (j - min i l.length) = j + 1 by omega]
      rw [List.getElem?_map, List.getElem?_range (by omega)]
      simp [List.getD, hx]
  rw [← HX.out] at hw
  obtain ⟨cur', g1, g2, g3, g4, g5⟩ := setCells_rowS g 9 (X.map encStr) 0 cur (w.drewN q) hgg (by simp [hXl]; omega)
  have hel : (l.eraseIdx i).length = l.length - 1 := List.length_eraseIdx_of_lt hi
  refine ⟨g, c, rfl, hB, ?_, ownAt_strs (n := l.length - 1) ⟨by simp [strs, hel], .inr ⟨g, c, cur', rfl, hB, by rw [hw]; exact g1, by omega, hc, by rw [g2, hcs], ?_⟩⟩ hel, by rw [hw]; exact ⟨g5.os, g5.tape, g5.output, g5.size, g5.other⟩⟩
  · rw [he]
    congr 2
    omega
  · apply List.ext_getElem?
    intro j
    by_cases hj : j < l.length - 1
    · have hx : (l.eraseIdx i)[j]? = some ((l.eraseIdx i)[j]'(by omega)) := List.getElem?_eq_getElem (by omega)
      have h5 := g4 j (.string ((l.eraseIdx i)[j]'(by omega))) (by rw [List.getElem?_map, hXg j _ hx]; rfl)
      rw [List.getElem?_take_of_lt (by omega), Array.getElem?_toList, ← Nat.zero_add j, h5, Nat.zero_add, strs_get hx]
    · rw [List.getElem?_eq_none (by simp; omega), List.getElem?_eq_none (by rw [strs_length]; omega)]
end Go.Proofs.YtnmhjabihfhobaaGreatDoor
/- slices.Sort at texts, in our words, beside the documents. -/
namespace Go.Proofs.YtnmhjabihfhobaaGreatDoor
open Go.RowKit

theorem mkB_data (l : List ByteArray) : (l.map (·.data.toList)).map mkB = l := by
  rw [List.map_map]
  conv => rhs; rw [← List.map_id l]
  congr 1
theorem own_texts {w : World} {B : Nat} {e : TypeId} {g n c : Nat} {l : List ByteArray} (h : OwnAt RString 1 w B e (.slice (some ⟨g, 0, none⟩) n c) l) : n = l.length ∧ B ≤ g ∧ g < w.heap.size ∧ l.length ≤ c ∧ c ≤ maxLen ∧ Go.Sort.Holds encStr w g 0 (l.map (·.data.toList)).toArray := by
  have ho := own_strs h
  rcases h.form with ⟨h1, _⟩ | ⟨g', c', h1, h2, h3, h4, h5⟩
  · cases h1
  · injection h1 with u1 u2 u3
    injection u1 with u1
    injection u1 with u1
    subst u1; subst u2; subst u3
    refine ⟨rfl, h2, h3, h4, h5, fun j hj => ?_⟩
    have hjl : j < l.length := by simpa using hj
    rcases ho.2 with ⟨e1, _⟩ | ⟨g2, cap, cur, e1, _, hh, _, _, _, _⟩
    · cases e1
    · have hc := ho.cells (g := g) rfl j _ (strs_get (List.getElem?_eq_getElem hjl))
      rw [add_plain'] at hc
      injection e1 with u1 _ _
      injection u1 with u1
      injection u1 with u1
      subst u1
      refine ⟨?_, free_block hh _⟩
      rw [hc, getElem!_pos _ j (by simpa using hjl)]
      simp [encStr]
/-- other texts in the same row -/
theorem own_putRow {w : World} {B : Nat} {e : TypeId} {g n c q : Nat} {l : List ByteArray} (h : OwnAt RString 1 w B e (.slice (some ⟨g, 0, none⟩) n c) l) (zs : List (List UInt8)) (hz : zs.length = l.length) :
    OwnAt RString 1 (Go.Sort.putRow encStr (Go.Sort.ahead w q) g 0 zs.toArray) B e (.slice (some ⟨g, 0, none⟩) n c) (zs.map mkB) ∧ RowKit.Below B w (Go.Sort.putRow encStr (Go.Sort.ahead w q) g 0 zs.toArray) ∧ (Go.Sort.putRow encStr (Go.Sort.ahead w q) g 0 zs.toArray).heap.size = w.heap.size := by
  obtain ⟨css, c1, c2, ⟨c3, c4⟩, c5⟩ := h
  rcases c4 with ⟨h0, _⟩ | ⟨g', cap, cur, hv, hB, hh, hle, hm, hzc, ht⟩
  · cases h0
  · injection hv with u1 u2 u3
    injection u1 with u1
    injection u1 with u1
    subst u1; subst u2; subst u3
    obtain ⟨W, hW⟩ : ∃ W, Go.Sort.putRow encStr (Go.Sort.ahead w q) g 0 zs.toArray = W := ⟨_, rfl⟩
    rw [hW]
    have hw : W.heap[g]? = some (.cells (Go.Sort.putCells encStr 0 zs.toArray cur) e (0, 0)) := by
      rw [← hW]
      unfold Go.Sort.putRow Go.Sort.mapBlock
      show (Array.modify w.heap g _)[g]? = _
      rw [Array.getElem?_modify, if_pos rfl, hh]
      rfl
    have ho : ∀ k, k ≠ g → W.heap[k]? = w.heap[k]? := fun k hk => by
      rw [← hW]
      unfold Go.Sort.putRow Go.Sort.mapBlock
      show (Array.modify w.heap g _)[k]? = _
      rw [Array.getElem?_modify, if_neg (Ne.symm hk)]
    have hs : W.heap.size = w.heap.size := by
      rw [← hW]
      unfold Go.Sort.putRow Go.Sort.mapBlock
      show (Array.modify w.heap g _).size = _
      rw [Array.size_modify]
    refine ⟨ownAt_strs (n := l.length) ⟨by rw [strs_length, List.length_map, hz, Nat.mul_one], .inr ⟨g, c, _, rfl, hB, hw, hle, hm, by unfold Go.Sort.putCells; rw [Array.size_mapIdx]; exact hzc, ?_⟩⟩ (by rw [List.length_map, hz]), ⟨by rw [← hW]; rfl, by rw [← hW]; rfl, by rw [← hW]; rfl, by rw [hs]; exact Nat.le_refl _, fun k hk => ho k (by omega)⟩, hs⟩
    apply List.ext_getElem?
    intro t
    rw [Nat.mul_one]
    by_cases htl : t < l.length
    · have htc : t < cur.size := by rw [hzc]; omega
      rw [List.getElem?_take_of_lt htl, Array.getElem?_toList]
      unfold Go.Sort.putCells
      rw [Array.getElem?_mapIdx, Array.getElem?_eq_getElem htc, Option.map_some, if_pos ⟨by omega, by simp [hz]; omega⟩, Nat.sub_zero, getElem!_pos zs.toArray t (by simpa [hz] using htl)]
      unfold strs
      rw [List.map_map, List.getElem?_map, List.getElem?_eq_getElem (by omega)]
      rfl
    · rw [List.getElem?_eq_none (by rw [List.length_take]; omega), List.getElem?_eq_none (by rw [strs_length, List.length_map, hz]; omega)]
theorem sortStr_any (v : Value) (l : List ByteArray) (B : Nat) (w : World) (h : OwnAt RString 1 w B 9 v l) (hB : B ≤ w.heap.size) (hl : l.length ≤ 1073741824) :
    Calls Tryz.prog 30 #[v] w fun e w' => e = .returned (.tuple #[]) ∧ OwnAt RString 1 w' B 9 v ((sortedL (l.map (·.data.toList))).map mkB) ∧ RowKit.Below B w w' := by
  rcases h.form with ⟨rfl, rfl⟩ | ⟨g, c, rfl, _, hg, _, _⟩
  · refine (Tryz.slices_Sort_string_none none 0 w).mono fun e w' ⟨h1, h2⟩ => ?_
    subst h2
    refine ⟨h1, ?_, Below.refl _ _⟩
    have : sortedL (([] : List ByteArray).map (·.data.toList)) = [] := by simp [sortedL]
    rw [this]
    exact OwnAt.nil _
  · obtain ⟨_, _, _, _, _, hH⟩ := own_texts h
    have hs := Tryz.slices_Sort_string g 0 c (l.map (·.data.toList)) w hH hg (by rw [List.length_map]; omega)
    rw [List.length_map] at hs
    refine hs.mono fun e w' ⟨h1, n, os, h2⟩ => ?_
    obtain ⟨o1, o2, o3⟩ := own_putRow (q := n) h (sortedL (l.map (·.data.toList))) (by rw [sorted_len, List.length_map])
    have hgr : RowKit.Below (Go.Sort.putRow encStr (Go.Sort.ahead w n) g 0 (sortedL (l.map (·.data.toList))).toArray).heap.size (Go.Sort.putRow encStr (Go.Sort.ahead w n) g 0 (sortedL (l.map (·.data.toList))).toArray) w' := by
      rw [h2]
      exact Lib.below_grow _ _ (Nat.le_refl _) 0 os
    refine ⟨h1, o1.below stays_string hgr, o2.trans (hgr.mono (by rw [o3]; exact hB))⟩
end Go.Proofs.YtnmhjabihfhobaaGreatDoor
/- three.Lost: its contract. -/
namespace Go.Proofs.YtnmhjabihfhobaaGreatDoor
open Go.RowKit
open JP (JV Bs)

/-- what is told of a way -/
def JP.lostP (way : List Bs) : Bs := if 10 < way.length then [] else joinK way
theorem join3_any {sv : Value} {way : List Bs} {w : World} (hs : StrAt w sv (way.map mkB)) (ht : (way.map fun s => s.length + 1).sum ≤ 4194304) (hE : Env w) :
    ∃ c, Calls Tryz.prog 17 #[sv] w fun e w' => e = .returned (.tuple #[.string (mkB (JP.lostP way)), .int .i64 c]) ∧ Below w.heap.size w w' := by
  obtain ⟨m, hm⟩ := hE.2.2
  have htot : total (way.map mkB) = (way.map fun s => s.length + 1).sum := by
    unfold total
    rw [List.map_map]
    exact congrArg List.sum (List.map_congr_left fun s _ => by show (mkB s).size + 1 = _; rw [mkB_size])
  have HJ := ptrJoin_any sv (way.map mkB) m w hs (by rw [htot]; exact ht) hm
  rw [List.length_map] at HJ
  unfold JP.lostP
  by_cases h : 10 < way.length
  · rw [if_pos h] at HJ ⊢
    exact ⟨_, HJ⟩
  · have hjl : joinL (way.map mkB) = joinK way := by
      rw [joinL_map, List.map_map]
      have e : ((fun s : ByteArray => s.data.toList) ∘ mkB) = id := by funext s; exact mkB_list s
      rw [e, List.map_id]
    rw [if_neg h, hjl] at HJ
    rw [if_neg h]
    exact ⟨_, HJ⟩
/-- what is told lies here -/
def LostAt (g : Nat) (d : List (List Bs)) (T : List Nat) (w : World) : Prop :=
  ∃ ov, g ∈ T ∧ (∀ b, ov.ownBlock = some b → b ∈ T) ∧ (∀ b ∈ T, g ≤ b) ∧ w.heap[g]? = some (.cells #[ov] 25 (0, 0)) ∧ OwnAt RString 1 w (g + 1) 9 ov (d.map fun way => mkB (JP.lostP way))
set_option maxRecDepth 100000 in
set_option maxHeartbeats 3200000 in
theorem sees_lost (w0 : World) (hE : Env w0) : Sees3 29 #[.pointer (some ⟨w0.heap.size, 0, none⟩)] (LostAt w0.heap.size) w0 := by
  intro d T way sv w hI hTl hst hsum hb0 hdl
  obtain ⟨ov, hgT, hoT, hT0, hg, hown⟩ := hI
  obtain ⟨g, hgg⟩ : ∃ g, w0.heap.size = g := ⟨_, rfl⟩
  unfold LostAt
  rw [hgg] at hgT hT0 hg hown ⊢
  obtain ⟨cj, hj⟩ := join3_any hst (by omega) (hE.below hb0)
  obtain ⟨ou, hou⟩ : ∃ b, (d.map fun way => mkB (JP.lostP way)) = b := ⟨_, rfl⟩
  obtain ⟨P, hP⟩ : ∃ p, mkB (JP.lostP way) = p := ⟨_, rfl⟩
  have hnew : ((d ++ [way]).map fun way => mkB (JP.lostP way)) = ou ++ [P] := by rw [List.map_append, hou, ← hP]; rfl
  rw [hP] at hj
  have HJ := Lib.hid hj
  rw [hou] at hown
  have lou : ou.length ≤ 40000000 := by rw [← hou, List.length_map]; omega
  obtain ⟨ao, co, e1, _⟩ := hown.row.len
  obtain ⟨lo, hlo⟩ : ∃ n, ou.length = n := ⟨_, rfl⟩
  rw [hlo] at e1
  subst e1
  have hgw : g < w.heap.size := blk_lt hg
  have HgT := Lib.hid hgT
  have HoT := Lib.hid hoT
  have HT0 := Lib.hid hT0
  have HTl := Lib.hid hTl
  have G1 := Lib.hid hg
  have HOw := Lib.hid hown
  have Hb0 := Lib.hid hb0
  have Hnew := Lib.hid hnew
  have Hgg := Lib.hid hgg
  have Hlo := Lib.hid hlo
  obtain ⟨i0, hi0, hz0, hz1, hz2⟩ := info_parts Tryz.infoStr
  obtain ⟨asv, csv, esv, _⟩ := hst.row.len
  obtain ⟨nsv, hnsv⟩ : ∃ n, (way.map mkB).length = n := ⟨_, rfl⟩
  rw [hnsv] at esv
  subst esv
  show Calls Tryz.prog 29 #[.slice asv nsv csv, .pointer (some ⟨g, 0, none⟩)] w _
  clear hgT hoT hT0 hTl hg hown hst hsum hb0 hdl hE hj hou hP hnew hgg hlo hnsv
  go_enter Tryz.func29, Tryz.ntmps29
  go_wp2_with fail
  refine HJ.out.mono ?_
  rintro E w1 ⟨rfl, hb⟩
  have q1 := cell_block (below_block hb G1.out) 0
  have z1 := free_block (below_block hb G1.out) 0
  have HB1 := Lib.hid hb
  have hs1 := hb.size
  have G2 := Lib.hid (below_block hb G1.out)
  have HOw2 := Lib.hid (HOw.out.below stays_string hb)
  clear hb
  go_wp2_with (at_builtin; refine wpList_append_ownAt (R := RString) (k := 1) (e := 9) (B := g + 1) (l := ou) (m := [P]) _ (by rfl) _ _ _ (by rfl) i0 _ 16 Tryz.underlying25 hi0 hz0 hz1 hz2 rfl (by omega) flat_string one_string _ (by rfl) (HOw2.out.alloc stays_string _) (.slice (some ⟨w1.heap.size, 0, none⟩) 1 1) (by rfl) (RowAt.one (R := RString) (k := 1) (cs := #[.string P]) (heap_alloc_new w1 _) rfl rfl) (by unfold maxLen; simp; omega) (by simp; omega) (by simp; omega) ?_)
  intro v8 w8 hv8 hg8 hr8 ha8
  have hb8 : Below (g + 1) w1 w8 := below_of_grown (((Below.refl _ w1).alloc (by omega) _)) (by simp; omega) hg8 hr8
  have g8 : w8.heap[g]? = some (.cells #[.slice ao lo co] 25 (0, 0)) := (hb8.block g (by omega)).trans G2.out
  obtain ⟨a8, c8, e8, _⟩ := hv8.row.len
  obtain ⟨n8, hn8⟩ : ∃ n, (ou ++ [P]).length = n := ⟨_, rfl⟩
  rw [hn8] at e8
  subst e8
  obtain ⟨W, hW⟩ : ∃ W, W = w8.setCell ⟨g, 0, none⟩ (.slice a8 n8 c8) := ⟨_, rfl⟩
  obtain ⟨t1, t2⟩ := touch_setCell (i := 0) (v := .slice a8 n8 c8) g8
  rw [← hW] at t1 t2
  have HG := Lib.hid (show W.heap[g]? = some (.cells #[.slice a8 n8 c8] 25 (0, 0)) from t1)
  have HV := Lib.hid (hv8.touchLow flat_string t2 (by omega))
  have hs8 : w1.heap.size ≤ w8.heap.size := hb8.size
  have hbw8 : Below (g + 1) w w8 := (HB1.out.mono (by omega)).trans hb8
  obtain ⟨nw, hnw⟩ : ∃ l : List Nat, l = (match (Value.slice a8 n8 c8).ownBlock with | some b => [b] | none => []) := ⟨_, rfl⟩
  have mnw : ∀ b, (Value.slice a8 n8 c8).ownBlock = some b ↔ b ∈ nw := by
    intro b
    rw [hnw]
    cases (Value.slice a8 n8 c8).ownBlock with
    | none => simp
    | some x => simp [eq_comm]
  have hal : (w1.alloc (.cells #[.string P] 9)).heap.size = w1.heap.size + 1 := World.size_alloc _ _
  have hnew8 : ∀ b ∈ nw, b ∈ T ∨ w.heap.size ≤ b := fun b hb => by
    have hb := (mnw b).2 hb
    rcases ha8 with h | h
    · rw [h] at hb; exact .inl (HoT.out b hb)
    · rw [h] at hb
      obtain rfl := Option.some.inj hb
      exact .inr (by omega)
  have hlt8 : ∀ b ∈ nw, b < w8.heap.size := fun b hb => (hv8.at ((mnw b).2 hb)).2.1
  have hsW : W.heap.size = w8.heap.size := t2.size
  have hs9 : w1.heap.size + 1 ≤ w8.heap.size := by have := hg8.size; omega
  have hkp : KeepT T w W := ⟨hbw8.os ▸ t2.os, hbw8.tape ▸ t2.tape, hbw8.output ▸ t2.output, by rw [hsW]; omega, fun b hb hn => by
    have hbg : b ≠ g := fun e => hn (by rw [e]; exact HgT.out)
    refine (t2.other b hbg).trans ?_
    refine (hg8.block b (by omega) (fun e => hn (HoT.out b e.symm))).trans ?_
    exact (((Below.refl _ w1).alloc (Nat.le_refl _) _).block b (by omega)).trans (HB1.out.block b hb)⟩
  have HK : Hid (KE T (nw ++ T) w W) := Lib.hid ⟨hkp, fun b hb => List.mem_append_right _ hb, fun b hb => (List.mem_append.1 hb).elim (hnew8 b) .inl, fun b hb => (List.mem_append.1 hb).elim (fun h => by rw [hsW]; exact hlt8 b h) (fun h => by have := HTl.out b h; omega)⟩
  have HTn : Hid (∀ b ∈ nw ++ T, g ≤ b) := Lib.hid fun b hb => (List.mem_append.1 hb).elim (fun h => by have := (hv8.at ((mnw b).2 h)).1; omega) (HT0.out b)
  have Hmn := Lib.hid mnw
  have hb08 : Below g w0 w8 := (Hb0.out.mono (show g ≤ w0.heap.size by rw [Hgg.out]; exact Nat.le_refl _)).trans (hbw8.mono (Nat.le_succ g))
  have HB := Lib.hid (t2.below hb08 (Nat.le_refl _))
  have q8 := cell_block g8 0
  have z8 := free_block g8 0
  clear t1 t2 hv8 hg8 hr8 hb8 g8 hbw8 hn8 hs8 q1 z1 hkp hsW hs9 hnew8 hlt8 hal mnw hnw ha8
  go_wp2_with fail
  rw [← hW]
  go_end0
  exact ⟨rfl, nw ++ T, ⟨_, List.mem_append_right _ HgT.out, fun b hb => List.mem_append_left _ ((Hmn.out b).1 hb), HTn.out, HG.out, by rw [Hnew.out]; exact HV.out⟩, HK.out, HB.out⟩
theorem JP.lost3L_none {a b c : Bs} (h : JP.readE3 a b c ≠ 0) : JP.lost3L a b c = [] := by unfold JP.lost3L; rw [if_neg h]
/-- what 'Lost' tells -/
def JP.lostT (a b c : Bs) : List Bs := sortedL ((JP.lost3L a b c).map JP.lostP)
def LosesAt (L : List Bs) (E : Int) (w : World) (e : Ending) (w' : World) : Prop :=
  ∃ v', e = .returned (.tuple #[v', .int .i64 E]) ∧ OwnAt RString 1 w' w.heap.size 9 v' (L.map mkB) ∧ Below w.heap.size w w'
set_option maxRecDepth 100000 in
set_option maxHeartbeats 3200000 in
theorem lost3_any (a b c : ByteArray) (w : World) (ha : a.size ≤ 1048576) (hb : b.size ≤ 1048576) (hc : c.size ≤ 1048576) (hE : Env w) :
    Calls Tryz.prog 12 #[.string a, .string b, .string c] w (LosesAt (JP.lostT a.data.toList b.data.toList c.data.toList) (JP.readE3 a.data.toList b.data.toList c.data.toList) w) := by
  obtain ⟨w1, hw⟩ : ∃ w1, w1 = w.alloc (.cells #[.string a, .string b, .string c] 9) := ⟨_, rfl⟩
  have hb1 : Below w.heap.size w w1 := by rw [hw]; exact (Below.refl _ w).alloc (Nat.le_refl _) _
  have hst : StrAt w1 (.slice (some ⟨w.heap.size, 0, none⟩) 3 3) [a, b, c] := three_strs (by rw [hw]; exact heap_alloc_new w _)
  have HR := Lib.hid (reads_any [] _ [a, b, c] w1 hst (by show 3 ≤ 100; decide) (fun s hs => by
    rcases List.mem_cons.1 hs with rfl | hs
    · exact ha
    · rcases List.mem_cons.1 hs with rfl | hs
      · exact hb
      · rw [List.mem_singleton.1 hs]; exact hc) (fun b h => by cases h))
  rw [errs3] at HR
  obtain ⟨E0, hE0⟩ : ∃ e, JP.readE3 a.data.toList b.data.toList c.data.toList = e := ⟨_, rfl⟩
  obtain ⟨L0, hL0⟩ : ∃ e, JP.lost3L a.data.toList b.data.toList c.data.toList = e := ⟨_, rfl⟩
  unfold JP.lostT
  rw [hE0, hL0]
  have hnone : E0 ≠ 0 → L0 = [] := fun h => by rw [← hL0]; exact JP.lost3L_none (by rw [hE0]; exact h)
  unfold JP.lost3L at hL0
  rw [hE0] at HR hL0
  have HB1 := Lib.hid hb1
  have HEb := Lib.hid (hE.below hb1)
  have hok : E0 = 0 → ∃ x y z, JP.readL a.data.toList = (x, 0) ∧ JP.readL b.data.toList = (y, 0) ∧ JP.readL c.data.toList = (z, 0) ∧ JP.Fit x ∧ JP.Fit y ∧ JP.Fit z := fun h => JP.read3_ok (hE0.trans h)
  clear hb1 hst ha hb hc hE
  go_enter Tryz.func12, Tryz.ntmps12
  go_wp2_with fail
  rw [← hw]
  clear hw
  refine HR.out.mono ?_
  rintro E9 w2 ⟨v, rfl, hx, hb⟩
  have HB2 := Lib.hid (HB1.out.trans (hb.mono HB1.out.size))
  by_cases he : E0 = 0
  · subst he
    obtain ⟨x, y, z, r1, r2, r3, f1, f2, f3⟩ := hok rfl
    obtain ⟨xs, hxl, hrow, hv⟩ := hx rfl
    have hE2 := ((HEb.out).below hb)
    obtain ⟨va, vb, vc, rfl⟩ : ∃ va vb vc, xs = [va, vb, vc] := by
      match xs, hxl with
      | [p, q, r], _ => exact ⟨p, q, r, rfl⟩
    obtain ⟨_, na, ja⟩ := hv.2 0 va a rfl rfl
    obtain ⟨_, nb, jb⟩ := hv.2 1 vb b rfl rfl
    obtain ⟨_, nc, jc⟩ := hv.2 2 vc c rfl rfl
    rw [r1] at ja
    rw [r2] at jb
    rw [r3] at jc
    rw [if_pos rfl, r1, r2, r3] at hL0
    dsimp only at hL0 ja jb jc
    obtain ⟨bk, off, cap, hv9, _, _, hbk, hcell⟩ := hrow.form (by show 0 < 3; decide) (by decide)
    subst hv9
    have cellAt : ∀ (j : Nat) (u : Value), [va, vb, vc][j]? = some u → w2.cell? ⟨bk, off + j, none⟩ = some u := fun j u hu => by
      obtain ⟨cs, _, hcc, hR⟩ := hcell j u hu
      obtain ⟨hR, _⟩ := hR
      subst hR
      simpa using hcc 0 _ rfl
    have hlx := f1.2.2.2
    have hly := f2.2.2.2
    have hlz := f3.2.2.2
    obtain ⟨g, hg⟩ : ∃ g, w2.heap.size = g := ⟨_, rfl⟩
    obtain ⟨w3, hw3⟩ : ∃ w3, w3 = w2.alloc (.cells #[.slice none 0 0] 25) := ⟨_, rfl⟩
    have hb3 : Below w2.heap.size w2 w3 := by rw [hw3]; exact (Below.refl _ w2).alloc (Nat.le_refl _) _
    have hbox : w3.heap[w2.heap.size]? = some (.cells #[.slice none 0 0] 25 (0, 0)) := by rw [hw3]; exact heap_alloc_new w2 _
    have hgw : g < w3.heap.size := by rw [← hg]; exact blk_lt hbox
    have e0 : w3.cell? ⟨bk, off, none⟩ = some va := (hb3.cell (p := ⟨bk, _, none⟩) hbk).trans (cellAt 0 va rfl)
    have e1 : w3.cell? ⟨bk, off + 1, none⟩ = some vb := (hb3.cell (p := ⟨bk, _, none⟩) hbk).trans (cellAt 1 vb rfl)
    have e2 : w3.cell? ⟨bk, off + 2, none⟩ = some vc := (hb3.cell (p := ⟨bk, _, none⟩) hbk).trans (cellAt 2 vc rfl)
    have hbk3 : bk < w3.heap.size := Nat.lt_of_lt_of_le hbk hb3.size
    have ep : ∀ (a : Array Value) (w : World), (callFunc 29 a).run Tryz.prog w = .ok (.enter 29 a) w := fun a w => by kernel_rfl
    have nob : ∀ b ∈ [w2.heap.size], b ∈ ([] : List Nat) ∨ w2.heap.size ≤ b := fun b hm => .inr (by rw [List.mem_singleton.1 hm]; exact Nat.le_refl _)
    have hIn := fun (w' : World) (hb' : Below w3.heap.size w3 w') => three1_any (f := 29) (cap := .pointer (some ⟨w2.heap.size, 0, none⟩)) (I := LostAt w2.heap.size) (w0 := w2) ep (fun d T w w' h hb => by
        obtain ⟨o, h1, h2, h3, h4, h5⟩ := h
        exact ⟨o, h1, h2, h3, below_block hb h4, h5.below stays_string hb⟩) (sees_lost w2 hE2) nc na nb [w2.heap.size] va vb vc (.slice none 0 0) x y z [] [] w' (((ja.fresh nob).below hb3).below hb') (((jb.fresh nob).below hb3).below hb') (((jc.fresh nob).below hb3).below hb') f2.1 f3.1 (by omega) (by omega) (by show 0 + (JP.text z).length ≤ 10000; omega) (StrAt.nil w') (fun h => absurd rfl h)
        (show LostAt w2.heap.size [] [w2.heap.size] w' from ⟨.slice none 0 0, List.mem_singleton.2 rfl, (fun b h => by cases h), (fun b hm => by rw [List.mem_singleton.1 hm]; exact Nat.le_refl _), below_block hb' hbox, OwnAt.nil w'⟩) (fun b hm => by rw [List.mem_singleton.1 hm]; exact Nat.lt_of_lt_of_le (blk_lt hbox) hb'.size) (hb3.trans (hb'.mono hb3.size)) (by show 0 + 4000 * (JP.text z).length ≤ 40000000; omega)
    have hlen : L0.length ≤ 8000000 := by
      rw [← hL0]
      have := JP.lost_len.1 z x y (by omega)
      omega
    have emap : (JP.lost3 x y z).map (([] : List Bs) ++ ·) = L0 := by rw [hL0]; exact List.map_id _
    rw [List.nil_append, emap, hg] at hIn
    have HIn := Lib.hid hIn
    have HB3 : Hid (Below w.heap.size w w3) := Lib.hid (HB2.out.trans (hb3.mono HB2.out.size))
    have Hwg : Hid (w.heap.size ≤ g) := Lib.hid (by rw [← hg]; exact HB2.out.size)
    have Hg := Lib.hid hg
    clear hv hcell hrow cellAt ja jb jc f1 f2 f3 hlx hly hlz r1 r2 r3 hE2 hb hx hok hL0 ep hxl hE0 emap hIn hb3 hbox nob hbk HR hnone
    go_upto_region 5 with fail
    rw [← hw3]
    clear hw3
    try rw [hg]
    refine wp_region_relB 10 (fun ii U w' => match ii with
      | 0 => U 0 = .slice (some ⟨bk, off, none⟩) 3 cap
      | 1 => U 1 = .pointer (some ⟨bk, off, none⟩)
      | 2 => U 2 = va
      | 3 => U 3 = .slice (some ⟨bk, off, none⟩) 3 cap
      | 4 => U 4 = .pointer (some ⟨bk, off + 1, none⟩)
      | 5 => U 5 = vb
      | 6 => U 6 = .slice (some ⟨bk, off, none⟩) 3 cap
      | 7 => U 7 = .pointer (some ⟨bk, off + 2, none⟩)
      | 8 => U 8 = vc
      | 9 => U 9 = .func (.func 29) #[] #[.pointer (some ⟨g, 0, none⟩)]
      | _ => True)
      (fun | 1 => [0] | 2 => [1] | 4 => [3] | 5 => [4] | 7 => [6] | 8 => [7] | _ => []) (by kernel_rfl) (by kernel_rfl) ?_ ⟨?_, ?_, ?_, ?_, ?_, ?_, ?_, ?_, ?_, ?_, trivial⟩ ?_
    · intro jj U wa wb hb h
      match jj, h with
      | 0, h => exact h
      | 1, h => exact h
      | 2, h => exact h
      | 3, h => exact h
      | 4, h => exact h
      | 5, h => exact h
      | 6, h => exact h
      | 7, h => exact h
      | 8, h => exact h
      | 9, h => exact h
      | _ + 10, h => trivial
    · intro y' w' hb hd
      refine owes_here (.slice (some ⟨bk, off, none⟩) 3 cap) (by rfl) ?_ rfl
      simp only [putAll, List.take_succ_cons, List.take_zero]
      go_simp
    · intro y' w' hb hd
      have h0 : y' 0 = .slice (some ⟨bk, off, none⟩) 3 cap := hd 0 (by simp)
      refine owes_here (.pointer (some ⟨bk, off, none⟩)) (by rfl) ?_ rfl
      simp only [putAll, List.take_succ_cons, List.take_zero]
      go_simp
    · intro y' w' hb hd
      have h1 : y' 1 = .pointer (some ⟨bk, off, none⟩) := hd 1 (by simp)
      have hb6 : Below w3.heap.size w3 w' := (Below.refl w3.heap.size w3).drew.trans hb
      have d0 : w'.cell? ⟨bk, off, none⟩ = some va := (hb6.cell (p := ⟨bk, _, none⟩) hbk3).trans e0
      refine owes_here (va) (by rfl) ?_ rfl
      simp only [putAll, List.take_succ_cons, List.take_zero]
      go_simp
    · intro y' w' hb hd
      refine owes_here (.slice (some ⟨bk, off, none⟩) 3 cap) (by rfl) ?_ rfl
      simp only [putAll, List.take_succ_cons, List.take_zero]
      go_simp
    · intro y' w' hb hd
      have h3 : y' 3 = .slice (some ⟨bk, off, none⟩) 3 cap := hd 3 (by simp)
      refine owes_here (.pointer (some ⟨bk, off + 1, none⟩)) (by rfl) ?_ rfl
      simp only [putAll, List.take_succ_cons, List.take_zero]
      go_simp
    · intro y' w' hb hd
      have h4 : y' 4 = .pointer (some ⟨bk, off + 1, none⟩) := hd 4 (by simp)
      have hb6 : Below w3.heap.size w3 w' := (Below.refl w3.heap.size w3).drew.trans hb
      have d0 : w'.cell? ⟨bk, off + 1, none⟩ = some vb := (hb6.cell (p := ⟨bk, _, none⟩) hbk3).trans e1
      refine owes_here (vb) (by rfl) ?_ rfl
      simp only [putAll, List.take_succ_cons, List.take_zero]
      go_simp
    · intro y' w' hb hd
      refine owes_here (.slice (some ⟨bk, off, none⟩) 3 cap) (by rfl) ?_ rfl
      simp only [putAll, List.take_succ_cons, List.take_zero]
      go_simp
    · intro y' w' hb hd
      have h6 : y' 6 = .slice (some ⟨bk, off, none⟩) 3 cap := hd 6 (by simp)
      refine owes_here (.pointer (some ⟨bk, off + 2, none⟩)) (by rfl) ?_ rfl
      simp only [putAll, List.take_succ_cons, List.take_zero]
      go_simp
    · intro y' w' hb hd
      have h7 : y' 7 = .pointer (some ⟨bk, off + 2, none⟩) := hd 7 (by simp)
      have hb6 : Below w3.heap.size w3 w' := (Below.refl w3.heap.size w3).drew.trans hb
      have d0 : w'.cell? ⟨bk, off + 2, none⟩ = some vc := (hb6.cell (p := ⟨bk, _, none⟩) hbk3).trans e2
      refine owes_here (vc) (by rfl) ?_ rfl
      simp only [putAll, List.take_succ_cons, List.take_zero]
      go_simp
    · intro y' w' hb hd
      refine owes_here (.func (.func 29) #[] #[.pointer (some ⟨g, 0, none⟩)]) (by rfl) ?_ rfl
      simp only [putAll, List.take_succ_cons, List.take_zero]
      go_simp
    · intro y' w' hb hR
      have h2 : y' 2 = va := hR 2 (by omega)
      have h5 : y' 5 = vb := hR 5 (by omega)
      have h8 : y' 8 = vc := hR 8 (by omega)
      have h9 : y' 9 = .func (.func 29) #[] #[.pointer (some ⟨g, 0, none⟩)] := hR 9 (by omega)
      have hb6 : Below w3.heap.size w3 w' := (Below.refl w3.heap.size w3).drew.trans hb
      have HC6 := Lib.hid (HIn.out w' hb6)
      have Hb6 := Lib.hid hb6
      clear hR hb hb6
      simp only [putAll, List.take_succ_cons, List.take_zero, List.drop_succ_cons, List.drop_zero]
      rw [h2, h5, h8, h9]
      clear h2 h5 h8 h9
      try simp only [Act.put, List.setIfInBounds_toArray, List.set_cons_zero, List.set_cons_succ]
      go_wp2_with fail
      refine HC6.out.mono ?_
      rintro E7 w7 ⟨u7, T7, rfl, _, hI7, _, hb7⟩
      obtain ⟨ov, _, _, _, hg7, hown7⟩ := hI7
      have hb7' : Below g w2 w7 := by have h9 := hb7; rw [Hg.out] at h9; exact h9
      have hgs7 : g < w7.heap.size := blk_lt hg7
      obtain ⟨a7, c7, e7, _⟩ := hown7.row.len
      obtain ⟨n7, hn7⟩ : ∃ n, (L0.map fun way => mkB (JP.lostP way)).length = n := ⟨_, rfl⟩
      rw [hn7] at e7
      subst e7
      have hSo := sortStr_any _ _ _ w7 hown7 (by omega) (by rw [List.length_map]; omega)
      have em : ((L0.map fun way => mkB (JP.lostP way)).map (·.data.toList)) = L0.map JP.lostP := by
        rw [List.map_map]
        exact List.map_congr_left fun s _ => mkB_list _
      rw [em] at hSo
      have HSo := Lib.hid hSo
      have HB7 : Hid (Below w.heap.size w w7) := Lib.hid (HB2.out.trans (hb7'.mono Hwg.out))
      have q7 := cell_block hg7 0
      have z7 := free_block hg7 0
      have Hg7 := Lib.hid hg7
      clear hb7 hb7' hown7 hg7 hn7 hSo em hlen
      go_wp2_with fail
      refine HSo.out.mono ?_
      rintro E8 w8 ⟨rfl, hown8, hb8⟩
      have hg8 := (hb8.block g (by omega)).trans Hg7.out
      have q8 := cell_block hg8 0
      have z8 := free_block hg8 0
      have HB8 : Hid (Below w.heap.size w w8) := Lib.hid (HB7.out.trans (hb8.mono (Nat.le_succ_of_le Hwg.out)))
      have HO8 : Hid (OwnAt RString 1 w8 w.heap.size 9 _ _) := Lib.hid (hown8.mono (Nat.le_succ_of_le Hwg.out))
      clear hown8 hb8 hg8 q7 z7 HSo
      go_wp2_with fail
      go_ret2
      exact ⟨_, rfl, HO8.out, HB8.out⟩
  · have n0 : (E0 != 0) = true := by rw [bne_iff_ne]; exact he
    have hL0 : L0 = [] := hnone he
    subst hL0
    clear he hx hb hok hE0 hnone HR
    go_wp2_with fail
    go_ret2
    refine ⟨.slice none 0 0, rfl, ?_, HB2.out⟩
    have : (sortedL (([] : List (List Bs)).map JP.lostP)).map mkB = [] := by simp [sortedL]
    rw [this]
    exact OwnAt.nil _
end Go.Proofs.YtnmhjabihfhobaaGreatDoor
/- The law ThreeAgain. -/
namespace Go.Proofs.YtnmhjabihfhobaaGreatDoor
open Go.RowKit
open JP (JV Bs)

theorem merge3_const (w : World) (hE : Env w) : Calls Tryz.prog 11 #[.string ⟨#[49]⟩, .string ⟨#[50]⟩, .string ⟨#[51]⟩] w (MergeAt [51] 0 w) := by
  have h := merge3_any ⟨#[49]⟩ ⟨#[50]⟩ ⟨#[51]⟩ w (by decide) (by decide) (by decide) hE.1
  have e1 : JP.merge3E (⟨#[49]⟩ : ByteArray).data.toList (⟨#[50]⟩ : ByteArray).data.toList (⟨#[51]⟩ : ByteArray).data.toList = 0 := JP.three_const.1
  have e2 : JP.merge3T (⟨#[49]⟩ : ByteArray).data.toList (⟨#[50]⟩ : ByteArray).data.toList (⟨#[51]⟩ : ByteArray).data.toList = [51] := JP.three_const.2
  rw [e1, e2] at h
  exact h
set_option maxRecDepth 100000 in
set_option maxHeartbeats 6400000 in
theorem threeAgain_walk (a b c : ByteArray) (w : World) (hbulk : a.data.toList.length + 1 + (b.data.toList.length + 1 + (c.data.toList.length + 1 + 0)) ≤ 1048576) (hE : Env w) :
    Calls Tryz.prog 3 #[.string a, .string b, .string c] w fun e w' => e = .returned (.bool true) ∧ Below w.heap.size w w' := by
  have ha : a.size ≤ 1048576 := by rw [list_size a] at hbulk; omega
  have hb : b.size ≤ 1048576 := by rw [list_size b] at hbulk; omega
  have hc : c.size ≤ 1048576 := by rw [list_size c] at hbulk; omega
  have HB0 := Lib.hid (Below.refl w.heap.size w)
  obtain ⟨w0, hw0⟩ : ∃ x, x = w := ⟨_, rfl⟩
  have t0 : (mkB []).toList.isEmpty = true := by rw [mkB_empty]; rfl
  have t9 : ((mkB [51]).toList == [51]) = true := by rw [mkB_toList]; rfl
  have H1 := Lib.hid (fun (w' : World) (h : Below w.heap.size w w') => merge3_any a b c w' ha hb hc (hE.1.below h))
  have H2 := Lib.hid (fun (w' : World) (h : Below w.heap.size w w') => merge3_const w' (hE.below h))
  have hlen := JP.merge3T_len a.data.toList b.data.toList c.data.toList
  have hag := @JP.three_again a.data.toList b.data.toList c.data.toList
  have hno := @JP.merge3_no a.data.toList b.data.toList c.data.toList
  obtain ⟨T1, hT1⟩ : ∃ T, JP.merge3T a.data.toList b.data.toList c.data.toList = T := ⟨_, rfl⟩
  obtain ⟨E1, hE1⟩ : ∃ T, JP.merge3E a.data.toList b.data.toList c.data.toList = T := ⟨_, rfl⟩
  rw [hT1, hE1] at H1 hag hno
  rw [hT1] at hlen
  by_cases he : E1 = 0
  · subst he
    obtain ⟨k1, k2, k3, k4⟩ := hag rfl
    have H3 := Lib.hid (fun (w' : World) (h : Below w.heap.size w w') => merge3_any c (mkB T1) c w' hc (by rw [mkB_size]; omega) hc (hE.1.below h))
    have H4 := Lib.hid (fun (w' : World) (h : Below w.heap.size w w') => lost3_any c (mkB T1) c w' hc (by rw [mkB_size]; omega) hc (hE.below h))
    have k5 : JP.lostT c.data.toList T1 c.data.toList = [] := by unfold JP.lostT; rw [k4]; simp [sortedL]
    rw [mkB_list, k1, k2] at H3
    rw [mkB_list, k3, k5] at H4
    have t1 : ((mkB T1).toList == (mkB T1).toList) = true := by simp
    clear hT1 hE1 k1 k2 k3 k4 k5 hag hno hlen hE ha hb hc hbulk
    subst hw0
    go_enter Tryz.func3, Tryz.ntmps3
    go_wp2_with fail
    refine (H1.out w0 HB0.out).mono ?_
    rintro E w1 ⟨rfl, hb⟩
    have HB1 := Lib.hid (HB0.out.trans (hb.mono HB0.out.size))
    clear hb
    go_wp2_with fail
    refine (H2.out w1 HB1.out).mono ?_
    rintro E w2 ⟨rfl, hb⟩
    have HB2 := Lib.hid (HB1.out.trans (hb.mono HB1.out.size))
    clear hb
    go_wp2_with fail
    refine (H3.out w2 HB2.out).mono ?_
    rintro E w3 ⟨rfl, hb⟩
    have HB3 := Lib.hid (HB2.out.trans (hb.mono HB2.out.size))
    clear hb
    go_wp2_with fail
    refine (H4.out w3 HB3.out).mono ?_
    rintro E w4 ⟨v4, rfl, ho, hb⟩
    obtain ⟨a4, c4, e4, _⟩ := ho.row.len
    have e4 : v4 = .slice a4 0 c4 := e4
    subst e4
    have HB4 := Lib.hid (HB3.out.trans (hb.mono HB3.out.size))
    clear hb ho
    go_wp2_with fail
    go_ret
    exact ⟨rfl, HB4.out⟩
  · have n0 : (E1 != 0) = true := by rw [bne_iff_ne]; exact he
    obtain rfl := hno he
    clear hT1 hE1 hag hno hlen hE ha hb hc hbulk he
    subst hw0
    go_enter Tryz.func3, Tryz.ntmps3
    go_wp2_with fail
    refine (H1.out w0 HB0.out).mono ?_
    rintro E w1 ⟨rfl, hb⟩
    have HB1 := Lib.hid (HB0.out.trans (hb.mono HB0.out.size))
    clear hb
    go_wp2_with fail
    refine (H2.out w1 HB1.out).mono ?_
    rintro E w2 ⟨rfl, hb⟩
    have HB2 := Lib.hid (HB1.out.trans (hb.mono HB1.out.size))
    clear hb
    go_wp2_with fail
    go_ret
    exact ⟨by first | rfl | (rw [t0] <;> rfl), HB2.out⟩
end Go.Proofs.YtnmhjabihfhobaaGreatDoor
/- The law ThreeAlone. -/
namespace Go.Proofs.YtnmhjabihfhobaaGreatDoor
open Go.RowKit
open JP (JV Bs)

set_option maxRecDepth 100000 in
set_option maxHeartbeats 6400000 in
theorem threeAlone_walk (a b c : ByteArray) (w : World) (hbulk : a.data.toList.length + 1 + (b.data.toList.length + 1 + (c.data.toList.length + 1 + 0)) ≤ 1048576) (hE : Env w) :
    Calls Tryz.prog 4 #[.string a, .string b, .string c] w fun e w' => e = .returned (.bool true) ∧ Below w.heap.size w w' := by
  have ha : a.size ≤ 1048576 := by rw [list_size a] at hbulk; omega
  have hb : b.size ≤ 1048576 := by rw [list_size b] at hbulk; omega
  have hc : c.size ≤ 1048576 := by rw [list_size c] at hbulk; omega
  have HB0 := Lib.hid (Below.refl w.heap.size w)
  obtain ⟨w0, hw0⟩ : ∃ x, x = w := ⟨_, rfl⟩
  have t0 : (mkB []).toList.isEmpty = true := by rw [mkB_empty]; rfl
  have t9 : ((mkB [51]).toList == [51]) = true := by rw [mkB_toList]; rfl
  have H0 := Lib.hid (fun (w' : World) (h : Below w.heap.size w w') => canonK_any c w' hc (hE.1.below h))
  have H1 := Lib.hid (fun (w' : World) (h : Below w.heap.size w w') => merge3_any a a c w' ha ha hc (hE.1.below h))
  have H2 := Lib.hid (fun (w' : World) (h : Below w.heap.size w w') => merge3_const w' (hE.below h))
  have H3 := Lib.hid (fun (w' : World) (h : Below w.heap.size w w') => canon_any a w' ha (hE.1.below h))
  have H4 := Lib.hid (fun (w' : World) (h : Below w.heap.size w w') => lost3_any ⟨#[123, 125]⟩ b c w' (by decide) hb hc (hE.below h))
  have H5 := Lib.hid (fun (w' : World) (h : Below w.heap.size w w') => canon_any b w' hb (hE.1.below h))
  rw [show (⟨#[123, 125]⟩ : ByteArray).data.toList = [123, 125] from rfl] at H4
  have hbad := @JP.three_bad a.data.toList a.data.toList c.data.toList
  have hfirst := @JP.three_first a.data.toList a.data.toList c.data.toList
  have halone := @JP.three_alone a.data.toList c.data.toList
  have hnew := @JP.three_new b.data.toList c.data.toList
  have hno := @JP.merge3_no a.data.toList a.data.toList c.data.toList
  unfold JP.lostT at H4
  obtain ⟨L4, hL4⟩ : ∃ T, JP.lost3L [123, 125] b.data.toList c.data.toList = T := ⟨_, rfl⟩
  obtain ⟨E4, hE4⟩ : ∃ T, JP.readE3 [123, 125] b.data.toList c.data.toList = T := ⟨_, rfl⟩
  obtain ⟨T1, hT1⟩ : ∃ T, JP.merge3T a.data.toList a.data.toList c.data.toList = T := ⟨_, rfl⟩
  obtain ⟨E1, hE1⟩ : ∃ T, JP.merge3E a.data.toList a.data.toList c.data.toList = T := ⟨_, rfl⟩
  obtain ⟨T0, hT0⟩ : ∃ T, JP.canonT c.data.toList = T := ⟨_, rfl⟩
  obtain ⟨E0, hE0⟩ : ∃ T, (JP.readL c.data.toList).2 = T := ⟨_, rfl⟩
  obtain ⟨T3, hT3⟩ : ∃ T, JP.canonT a.data.toList = T := ⟨_, rfl⟩
  obtain ⟨E3, hE3⟩ : ∃ T, (JP.readL a.data.toList).2 = T := ⟨_, rfl⟩
  obtain ⟨T5, hT5⟩ : ∃ T, JP.canonT b.data.toList = T := ⟨_, rfl⟩
  obtain ⟨E5, hE5⟩ : ∃ T, (JP.readL b.data.toList).2 = T := ⟨_, rfl⟩
  rw [show JP.canonE c.data.toList = E0 from hE0, hT0] at H0
  rw [show JP.canonE a.data.toList = E3 from hE3, hT3] at H3
  rw [show JP.canonE b.data.toList = E5 from hE5, hT5] at H5
  rw [hT1, hE1] at H1
  rw [hL4, hE4] at H4
  rw [hE0, hE1] at hbad
  rw [hE3, hE1] at hfirst
  rw [hE3, hE0, hE1, hT1, hT0] at halone
  rw [hE0, hL4, hE4, hE5] at hnew
  rw [hT1, hE1] at hno
  clear hT1 hE1 hL4 hE4 hT0 hE0 hT3 hE3 hT5 hE5 hE ha hb hc hbulk
  subst hw0
  by_cases h0 : E0 = 0
  · subst h0
    obtain ⟨rfl, rfl⟩ := hnew rfl
    have q0 : ((0 : Int) == 0) = true := rfl
    by_cases h3 : E3 = 0
    · subst h3
      obtain ⟨rfl, rfl⟩ := halone rfl rfl
      have t1 : ((mkB T1).toList == (mkB T1).toList) = true := by simp
      have t2 : (E4 == E4) = true := by simp
      have hso : (sortedL (([] : List (List Bs)).map JP.lostP)) = [] := by simp [sortedL]
      rw [hso] at H4
      clear hso hbad hfirst halone hnew hno
      go_enter Tryz.func4, Tryz.ntmps4
      go_wp2_with fail
      refine (H0.out w0 HB0.out).mono ?_
      rintro E w1 ⟨rfl, hb⟩
      have HB1 := Lib.hid (HB0.out.trans (hb.mono HB0.out.size))
      clear hb
      go_wp2_with fail
      refine (H1.out w1 HB1.out).mono ?_
      rintro E w2 ⟨rfl, hb⟩
      have HB2 := Lib.hid (HB1.out.trans (hb.mono HB1.out.size))
      clear hb
      go_wp2_with fail
      refine (H2.out w2 HB2.out).mono ?_
      rintro E w3 ⟨rfl, hb⟩
      have HB3 := Lib.hid (HB2.out.trans (hb.mono HB2.out.size))
      clear hb
      go_wp2_with fail
      refine (H3.out w3 HB3.out).mono ?_
      rintro E w4 ⟨rfl, hb⟩
      have HB4 := Lib.hid (HB3.out.trans (hb.mono HB3.out.size))
      clear hb
      go_wp2_with fail
      refine (H4.out w4 HB4.out).mono ?_
      rintro E w5 ⟨v5, rfl, ho, hb⟩
      obtain ⟨a5, c5, e5, _⟩ := ho.row.len
      have e5 : v5 = .slice a5 0 c5 := e5
      subst e5
      have HB5 := Lib.hid (HB4.out.trans (hb.mono HB4.out.size))
      clear hb ho
      go_wp2_with fail
      refine (H5.out w5 HB5.out).mono ?_
      rintro E w6 ⟨rfl, hb⟩
      have HB6 := Lib.hid (HB5.out.trans (hb.mono HB5.out.size))
      clear hb
      go_wp2_with fail
      go_ret
      exact ⟨by first | rfl | (rw [t2] <;> rfl), HB6.out⟩
    · obtain rfl := hfirst h3
      obtain rfl := hno h3
      have n3 : (E1 != 0) = true := by rw [bne_iff_ne]; exact h3
      have t2 : (E1 == E1) = true := by simp
      clear hbad hfirst halone hnew hno h3
      go_enter Tryz.func4, Tryz.ntmps4
      go_wp2_with fail
      refine (H0.out w0 HB0.out).mono ?_
      rintro E w1 ⟨rfl, hb⟩
      have HB1 := Lib.hid (HB0.out.trans (hb.mono HB0.out.size))
      clear hb
      go_wp2_with fail
      refine (H1.out w1 HB1.out).mono ?_
      rintro E w2 ⟨rfl, hb⟩
      have HB2 := Lib.hid (HB1.out.trans (hb.mono HB1.out.size))
      clear hb
      go_wp2_with fail
      refine (H2.out w2 HB2.out).mono ?_
      rintro E w3 ⟨rfl, hb⟩
      have HB3 := Lib.hid (HB2.out.trans (hb.mono HB2.out.size))
      clear hb
      go_wp2_with fail
      refine (H3.out w3 HB3.out).mono ?_
      rintro E w4 ⟨rfl, hb⟩
      have HB4 := Lib.hid (HB3.out.trans (hb.mono HB3.out.size))
      clear hb
      go_wp2_with fail
      go_ret
      exact ⟨by first | rfl | (rw [t2] <;> rfl), HB4.out⟩
  · have h1 := hbad h0
    obtain rfl := hno h1
    have q0 : (E0 == 0) = false := by rw [beq_eq_false_iff_ne]; exact h0
    have n1 : (E1 != 0) = true := by rw [bne_iff_ne]; exact h1
    rw [q0] at H0
    clear hbad hfirst halone hnew hno h0 h1
    go_enter Tryz.func4, Tryz.ntmps4
    go_wp2_with fail
    refine (H0.out w0 HB0.out).mono ?_
    rintro E w1 ⟨rfl, hb⟩
    have HB1 := Lib.hid (HB0.out.trans (hb.mono HB0.out.size))
    clear hb
    go_wp2_with fail
    refine (H1.out w1 HB1.out).mono ?_
    rintro E w2 ⟨rfl, hb⟩
    have HB2 := Lib.hid (HB1.out.trans (hb.mono HB1.out.size))
    clear hb
    go_wp2_with fail
    refine (H2.out w2 HB2.out).mono ?_
    rintro E w3 ⟨rfl, hb⟩
    have HB3 := Lib.hid (HB2.out.trans (hb.mono HB2.out.size))
    clear hb
    go_wp2_with fail
    go_ret
    exact ⟨by first | rfl | (rw [n1] <;> rfl), HB3.out⟩
end Go.Proofs.YtnmhjabihfhobaaGreatDoor
/- three: what is lost, in plain Lean. -/
namespace Go.Proofs.YtnmhjabihfhobaaGreatDoor
open Go.RowKit
open JP (JV Bs)

namespace JP
theorem get_of_mem {l : Fs} {y : Bs × JV} (h : y ∈ l) : (get y.1 l).isSome = true := by
  induction l with
  | nil => cases h
  | cons z r ih =>
    obtain ⟨m, x⟩ := z
    rw [get]
    by_cases e : m = y.1
    · rw [if_pos e]; rfl
    · rw [if_neg e]
      rcases List.mem_cons.1 h with h | h
      · exact absurd (by rw [h]) e
      · exact ih h
theorem mem_lost3F : ∀ {l had out : Fs} {way : List Bs}, Srt l → way ∈ lost3F had out l → ∃ n w r, (n, w) ∈ l ∧ way = n :: r ∧ r ∈ lost3 (gto n had) (gto n out) w
  | [], _, _, _, _, h => by rw [lost3F_nil] at h; cases h
  | (n, w) :: r, had, out, way, hs, h => by
    rw [lost3F_cons] at h
    rcases List.mem_append.1 h with h | h
    · obtain ⟨r', h1, rfl⟩ := List.mem_map.1 h
      exact ⟨n, w, r', List.mem_cons_self .., rfl, h1⟩
    · obtain ⟨h1, h2⟩ := List.pairwise_cons.1 hs
      obtain ⟨m, v, r', k1, k2, k3⟩ := mem_lost3F h2 h
      refine ⟨m, v, r', List.mem_cons_of_mem _ k1, k2, ?_⟩
      have hne : m ≠ n := fun e => by
        have h9 := h1 (m, v) k1
        rw [e] at h9
        exact List.lt_irrefl _ h9
      have : gto m (put n (into3 (gto n had) (gto n out) w) out) = gto m out := by unfold gto; rw [get_put, if_neg hne]
      rw [this] at k3
      exact k3
theorem at_nul {s : Bs} {r : List Bs} : atW .nul (s :: r) = none := by rw [atW_cons]; rfl
theorem child_fields {v : JV} {n : Bs} {x : JV} (h : get n (fieldsOf v) = some x) : child v n = some x := by
  cases v with
  | obj l => exact h
  | _ => cases h
theorem at_gto {v : JV} {n s : Bs} {r : List Bs} (h : (atW (gto n (fieldsOf v)) (s :: r)).isSome = true) : (atW v (n :: s :: r)).isSome = true := by
  cases hg : get n (fieldsOf v) with
  | none =>
    have : gto n (fieldsOf v) = .nul := by unfold gto; rw [hg]; rfl
    rw [this, at_nul] at h; cases h
  | some x =>
    rw [gto_some hg] at h
    rw [atW_cons, child_fields hg]; exact h
theorem lost_there : ∀ want last live : JV, wf want → ∀ way ∈ lost3 last live want, (atW live way).isSome = true ∧ (atW last way).isSome = true ∧ atW (into3 last live want) way = none ∧ way ≠ [] := by
  refine JV.byGet (P := fun want => ∀ last live : JV, wf want → ∀ way ∈ lost3 last live want, (atW live way).isSome = true ∧ (atW last way).isSome = true ∧ atW (into3 last live want) way = none ∧ way ≠ []) (fun want ih => ?_)
  intro last live hw way hm
  rcases obj_or want with ⟨o, rfl⟩ | hn
  · obtain ⟨so, fo⟩ := wf_obj hw
    rw [lost3_obj] at hm
    rw [into3_obj]
    rcases List.mem_append.1 hm with hm | hm
    · obtain ⟨n, hn, rfl⟩ := List.mem_map.1 hm
      unfold goesL at hn
      obtain ⟨y, hy, rfl⟩ := List.mem_map.1 hn
      obtain ⟨h1, h2⟩ := List.mem_filter.1 hy
      rw [Bool.and_eq_true] at h2
      have h3 := get_of_mem h1
      refine ⟨?_, ?_, ?_, by simp⟩
      · cases hg : get y.1 (fieldsOf live) with
        | none => rw [hg] at h2; cases h2.1
        | some x => rw [atW_cons, child_fields hg]; rfl
      · cases hg : get y.1 (fieldsOf last) with
        | none => rw [hg] at h3; cases h3
        | some x => rw [atW_cons, child_fields hg]; rfl
      · rw [atW_cons]
        show (get y.1 _).bind _ = none
        rw [get_into3F _ _ _ _ so]
        cases hg : get y.1 o with
        | some x => rw [hg] at h2; cases h2.2
        | none =>
          dsimp only
          rw [get_rem, if_pos ⟨h3, by rw [hg]; rfl⟩]; rfl
    · obtain ⟨n, w, r, k1, rfl, k3⟩ := mem_lost3F so hm
      have hg := get_memS so k1
      obtain ⟨g1, g2, g3, g4⟩ := ih o n w rfl hg _ _ (wf_at fo hg) r k3
      have e2 : gto n (remF (fieldsOf last) o (fieldsOf live)) = gto n (fieldsOf live) := by
        unfold gto
        rw [get_rem, if_neg (by rw [hg]; intro h; cases h.2)]
      rw [e2] at g1 g3
      cases r with
      | nil => exact absurd rfl g4
      | cons s r =>
        refine ⟨at_gto g1, at_gto g2, ?_, by simp⟩
        rw [atW_cons]
        show (get n _).bind _ = none
        rw [get_into3F _ _ _ _ so, hg]
        dsimp only
        rw [e2]
        exact g3
  · rw [lost3_not hn] at hm; cases hm
theorem at_deep : ∀ {l : List Bs} {v c : JV}, atW v l = some c → l.length + deep c ≤ deep v
  | [], v, c, h => by rw [atW] at h; cases h; simp
  | s :: r, v, c, h => by
    rw [atW_cons] at h
    obtain ⟨x, h1, h2⟩ := Option.bind_eq_some_iff.1 h
    have := at_deep h2
    have := (child_len h1).2.2
    rw [List.length_cons]; omega
/-- ThreeLoses -/
theorem three_loses {a b c : Bs} (h : merge3E a b c = 0) : readE3 a b c = 0 ∧ ∀ way ∈ lost3L a b c, way.length ≤ 10 ∧ getE b (joinK way) = 0 ∧ getE a (joinK way) = 0 ∧ getE (merge3T a b c) (joinK way) ≠ 0 := by
  obtain ⟨x, y, z, h1, h2, h3, f1, f2, f3, ff, e⟩ := merge3_ok h
  have hr := read3_of h1 h2 h3
  refine ⟨hr, fun way hm => ?_⟩
  unfold lost3L at hm
  rw [if_pos hr, h1, h2, h3] at hm
  obtain ⟨g1, g2, g3, g4⟩ := lost_there z x y f3.1 way hm
  obtain ⟨cy, hy⟩ := Option.isSome_iff_exists.1 g1
  obtain ⟨cx, hx⟩ := Option.isSome_iff_exists.1 g2
  have hl : way.length ≤ 10 := by have := at_deep hy; have := f2.2.2.1; omega
  have hs := steps_join way hl
  refine ⟨hl, ((get_of h2 hs).1 cy hy).1, ((get_of h1 hs).1 cx hx).1, ?_⟩
  rw [e]
  rw [((get_of (fit_read ff) hs).2 g3).1]
  decide
theorem three_key {a b c k : Bs} (h : merge3E a b c = 0) (hc : kindT c = 6) (hb : getE b (joinK [k]) = 0) (ha : getE a (joinK [k]) ≠ 0) (hcn : getE c (joinK [k]) ≠ 0) (hbk : kindT b = 6) : kindT a = 5 ∨ (getE (merge3T a b c) (joinK [k]) = 0 ∧ getT (merge3T a b c) (joinK [k]) = getT b (joinK [k])) := by
  obtain ⟨x, y, z, h1, h2, h3, f1, f2, f3, ff, e⟩ := merge3_ok h
  have hs := steps_join [k] (by show 1 ≤ 10; decide)
  have kt : ∀ {s : Bs} {v : JV}, readL s = (v, 0) → kindT s = kind v := fun {s v} h => by unfold kindT; rw [h]; rfl
  rw [kt h3] at hc
  rw [kt h2] at hbk
  obtain ⟨o, rfl⟩ : ∃ o, z = .obj o := by cases z <;> first | exact ⟨_, rfl⟩ | (cases hc)
  obtain ⟨l, rfl⟩ : ∃ o, y = .obj o := by cases y <;> first | exact ⟨_, rfl⟩ | (cases hbk)
  have one : ∀ v : JV, atW v [k] = child v k := fun v => by rw [atW_cons]; cases child v k <;> rfl
  have hko : get k o = none := by
    cases hg : get k o with
    | none => rfl
    | some w => exact absurd ((get_of h3 hs).1 w (by rw [one]; exact hg)).1 hcn
  obtain ⟨v, hv⟩ : ∃ v, get k l = some v := by
    cases hg : get k l with
    | some w => exact ⟨w, rfl⟩
    | none => rw [((get_of h2 hs).2 (by rw [one]; exact hg)).1] at hb; cases hb
  by_cases hx : kind x = 5
  · exact .inl (by rw [kt h1]; exact hx)
  · refine .inr ?_
    have hkh : get k (fieldsOf x) = none := by
      cases x with
      | obj q =>
        cases hg : get k q with
        | none => exact hg
        | some w => exact absurd ((get_of h1 hs).1 w (by rw [one]; exact hg)).1 ha
      | list q => exact absurd rfl hx
      | _ => rfl
    have key : atW (into3 x (.obj l) (.obj o)) [k] = some v := by
      rw [one, into3_obj]
      show get k _ = _
      rw [get_into3F _ _ _ _ (wf_obj f3.1).1, hko]
      dsimp only
      rw [get_rem, if_neg (by rw [hkh]; intro h; cases h.1)]
      exact hv
    obtain ⟨g1, g2⟩ := (get_of (fit_read ff) hs).1 v key
    obtain ⟨_, g4⟩ := (get_of h2 hs).1 v (by rw [one]; exact hv)
    rw [e, g1, g2, g4]
    exact ⟨rfl, rfl⟩
end JP
end Go.Proofs.YtnmhjabihfhobaaGreatDoor
/- three: how long the ways to what is lost are, in plain Lean. -/
namespace Go.Proofs.YtnmhjabihfhobaaGreatDoor
open Go.RowKit
open JP (JV Bs)

namespace JP
theorem mem_len3 {l : Fs} {n : Bs} {x : JV} (h : (n, x) ∈ l) : n.length + 1 + (text x).length + 2 ≤ lenF l := by
  obtain ⟨i, hi⟩ := List.getElem?_of_mem h
  exact name_len hi
theorem get_in : ∀ {l : Fs} {n : Bs} {x : JV}, get n l = some x → (n, x) ∈ l
  | [], _, _, h => by rw [get] at h; cases h
  | (m, v) :: r, n, x, h => by
    rw [get] at h
    by_cases e : m = n
    · rw [if_pos e] at h
      cases h
      rw [e]
      exact List.mem_cons_self ..
    · rw [if_neg e] at h
      exact List.mem_cons_of_mem _ (get_in h)
def wayS (way : List Bs) : Nat := (way.map fun s => s.length + 1).sum
theorem wayS_cons (n : Bs) (r : List Bs) : wayS (n :: r) = n.length + 1 + wayS r := by unfold wayS; rw [List.map_cons, List.sum_cons]
theorem lost_sum : ∀ want last live : JV, wf want → ∀ way ∈ lost3 last live want, wayS way ≤ (text last).length := by
  refine JV.byGet (P := fun want => ∀ last live : JV, wf want → ∀ way ∈ lost3 last live want, wayS way ≤ (text last).length) (fun want ih => ?_)
  intro last live hw way hm
  have hf := lenF_fields last
  rcases obj_or want with ⟨o, rfl⟩ | hn
  · obtain ⟨so, fo⟩ := wf_obj hw
    rw [lost3_obj] at hm
    rcases List.mem_append.1 hm with hm | hm
    · obtain ⟨n, hn, rfl⟩ := List.mem_map.1 hm
      unfold goesL at hn
      obtain ⟨y, hy, rfl⟩ := List.mem_map.1 hn
      obtain ⟨h1, _⟩ := List.mem_filter.1 hy
      have := mem_len3 (show (y.1, y.2) ∈ _ from h1)
      rw [wayS_cons]
      have e0 : wayS [] = 0 := rfl
      omega
    · obtain ⟨n, w, r, k1, rfl, k3⟩ := mem_lost3F so hm
      have hg := get_memS so k1
      have hi := ih o n w rfl hg _ _ (wf_at fo hg) r k3
      rw [wayS_cons]
      cases hgh : get n (fieldsOf last) with
      | none =>
        have e : gto n (fieldsOf last) = .nul := by unfold gto; rw [hgh]; rfl
        rw [e, lost3_new.1 _ _ _ rfl] at k3
        cases k3
      | some x =>
        rw [gto_some hgh] at hi
        have := mem_len3 (get_in hgh)
        omega
  · rw [lost3_not hn] at hm; cases hm
theorem joinK_len : ∀ l : List Bs, (joinK l).length ≤ 2 * wayS l
  | [] => Nat.zero_le _
  | s :: r => by
    have h1 := joinK_len r
    have h2 := esc_len s
    rw [wayS_cons]
    have e : joinK (s :: r) = 47 :: escS s ++ joinK r := rfl
    rw [e, List.length_append, List.length_cons]
    omega
/-- what is told of what is lost -/
theorem three_paths {a b c : Bs} (h : merge3E a b c = 0) : readE3 a b c = 0 ∧ ∀ p ∈ lostT a b c, p.length ≤ 4000 ∧ getE b p = 0 ∧ getE a p = 0 ∧ getE (merge3T a b c) p ≠ 0 := by
  obtain ⟨h0, hl⟩ := three_loses h
  refine ⟨h0, fun p hp => ?_⟩
  unfold lostT at hp
  have hp : p ∈ (lost3L a b c).map lostP := List.mem_mergeSort.1 hp
  obtain ⟨way, hw, rfl⟩ := List.mem_map.1 hp
  obtain ⟨k1, k2, k3, k4⟩ := hl way hw
  have e : lostP way = joinK way := if_neg (by omega)
  rw [e]
  refine ⟨?_, k2, k3, k4⟩
  obtain ⟨x, y, z, h1, h2, h3, f1, f2, f3⟩ := read3_ok h0
  unfold lost3L at hw
  rw [if_pos h0, h1, h2, h3] at hw
  have := lost_sum z x y f3.1 way hw
  have := f1.2.2.2
  have := joinK_len way
  omega
theorem lostT_len {a b c : Bs} (h : merge3E a b c = 0) : (lostT a b c).length ≤ 8000000 := by
  obtain ⟨h0, _⟩ := three_loses h
  unfold lostT sortedL
  rw [List.length_mergeSort, List.length_map]
  obtain ⟨x, y, z, h1, h2, h3, f1, f2, f3⟩ := read3_ok h0
  unfold lost3L
  rw [if_pos h0, h1, h2, h3]
  have h9 := lost_len.1 z x y (by have := f1.2.2.2; omega)
  have h8 := f3.2.2.2
  show (lost3 x y z).length ≤ _
  omega
end JP
end Go.Proofs.YtnmhjabihfhobaaGreatDoor
/- The law ThreeLoses. -/
namespace Go.Proofs.YtnmhjabihfhobaaGreatDoor
open Go.RowKit
open JP (JV Bs)

/-- the way of one step -/
theorem joinOne_any (k : ByteArray) (g : Nat) (w : World) (hk : k.size ≤ 1048576) (hg : w.heap[g]? = some (.cells #[.string k] 9 (0, 0))) (hE : Env w) :
    ∃ c, Calls Tryz.prog 17 #[.slice (some ⟨g, 0, none⟩) 1 1] w fun e w' => e = .returned (.tuple #[.string (mkB (joinK [k.data.toList])), .int .i64 c]) ∧ Below w.heap.size w w' := by
  have hs : StrAt w (.slice (some ⟨g, 0, none⟩) 1 1) ([k.data.toList].map mkB) := by
    show StrAt w _ [mkB k.data.toList]
    rw [mkB_of]
    exact RowAt.strs (RowAt.one (R := RString) (k := 1) (cs := #[.string k]) hg rfl rfl)
  have := join3_any hs (by rw [List.map_cons, List.sum_cons, list_size]; show _ + 0 ≤ _; omega) hE
  rw [show JP.lostP [k.data.toList] = joinK [k.data.toList] from if_neg (by simp)] at this
  exact this
set_option maxRecDepth 100000 in
set_option maxHeartbeats 12800000 in
theorem threeLoses_walk (a b c k : ByteArray) (w : World) (hbulk : a.data.toList.length + 1 + (b.data.toList.length + 1 + (c.data.toList.length + 1 + (k.data.toList.length + 1 + 0))) ≤ 1048576) (hE : Env w) :
    Calls Tryz.prog 5 #[.string a, .string b, .string c, .string k] w fun e w' => e = .returned (.bool true) ∧ Below w.heap.size w w' := by
  have ha : a.size ≤ 1048576 := by rw [list_size a] at hbulk; omega
  have hb : b.size ≤ 1048576 := by rw [list_size b] at hbulk; omega
  have hc : c.size ≤ 1048576 := by rw [list_size c] at hbulk; omega
  have hk : k.size ≤ 1048576 := by rw [list_size k] at hbulk; omega
  have HB0 := Lib.hid (Below.refl w.heap.size w)
  obtain ⟨w0, hw0⟩ : ∃ x, x = w := ⟨_, rfl⟩
  have t0 : (mkB []).toList.isEmpty = true := by rw [mkB_empty]; rfl
  have t9 : ((mkB [51]).toList == [51]) = true := by rw [mkB_toList]; rfl
  have H0 := Lib.hid (fun (w' : World) (h : Below w.heap.size w w') => merge3_any a b c w' ha hb hc (hE.1.below h))
  have H1 := Lib.hid (fun (w' : World) (h : Below w.heap.size w w') => lost3_any a b c w' ha hb hc (hE.below h))
  have H2 := Lib.hid (fun (w' : World) (h : Below w.heap.size w w') => merge3_const w' (hE.below h))
  have hpth := @JP.three_paths a.data.toList b.data.toList c.data.toList
  have hLl := @JP.lostT_len a.data.toList b.data.toList c.data.toList
  have hno := @JP.merge3_no a.data.toList b.data.toList c.data.toList
  have hkey := @JP.three_key a.data.toList b.data.toList c.data.toList k.data.toList
  have hTl := JP.merge3T_len a.data.toList b.data.toList c.data.toList
  obtain ⟨L, hL⟩ : ∃ T, JP.lostT a.data.toList b.data.toList c.data.toList = T := ⟨_, rfl⟩
  obtain ⟨E2, hE2⟩ : ∃ T, JP.readE3 a.data.toList b.data.toList c.data.toList = T := ⟨_, rfl⟩
  obtain ⟨T1, hT1⟩ : ∃ T, JP.merge3T a.data.toList b.data.toList c.data.toList = T := ⟨_, rfl⟩
  obtain ⟨E1, hE1⟩ : ∃ T, JP.merge3E a.data.toList b.data.toList c.data.toList = T := ⟨_, rfl⟩
  rw [hT1, hE1] at H0 hno hkey
  rw [hE1] at hLl
  rw [hL, hE2] at H1
  rw [hL] at hLl
  rw [hL, hE2, hT1, hE1] at hpth
  rw [hT1] at hTl
  clear hL hE2 hT1 hE1 hbulk
  by_cases h1 : E1 = 0
  · subst h1
    obtain ⟨rfl, hp⟩ := hpth rfl
    have hLl2 := hLl rfl
    clear hLl
    have hT1s : (mkB T1).size ≤ 1048576 := by rw [mkB_size]; omega
    have HP := Lib.hid (fun (p : Bs) (hm : p ∈ L) (w' : World) (h : Below w.heap.size w w') => (by
      obtain ⟨k1, k2, k3, k4⟩ := hp p hm
      have hps : (mkB p).size ≤ 1048576 := by rw [mkB_size]; omega
      have r1 := pget_any b (mkB p) w' hb hps (hE.below h)
      rw [mkB_list, k2] at r1
      exact r1 : Calls Tryz.prog 15 #[.string b, .string (mkB p)] w' (AnsAt (JP.getT b.data.toList p) 0 w')))
    have HPa := Lib.hid (fun (p : Bs) (hm : p ∈ L) (w' : World) (h : Below w.heap.size w w') => (by
      obtain ⟨k1, k2, k3, k4⟩ := hp p hm
      have hps : (mkB p).size ≤ 1048576 := by rw [mkB_size]; omega
      have r1 := pget_any a (mkB p) w' ha hps (hE.below h)
      rw [mkB_list, k3] at r1
      exact r1 : Calls Tryz.prog 15 #[.string a, .string (mkB p)] w' (AnsAt (JP.getT a.data.toList p) 0 w')))
    have HPt := Lib.hid (fun (p : Bs) (hm : p ∈ L) (w' : World) (h : Below w.heap.size w w') => (by
      obtain ⟨k1, k2, k3, k4⟩ := hp p hm
      have hps : (mkB p).size ≤ 1048576 := by rw [mkB_size]; omega
      have r1 := pget_any (mkB T1) (mkB p) w' hT1s hps (hE.below h)
      rw [mkB_list, mkB_list] at r1
      exact ⟨k4, r1⟩ : JP.getE T1 p ≠ 0 ∧ Calls Tryz.prog 15 #[.string (mkB T1), .string (mkB p)] w' (AnsAt (JP.getT T1 p) (JP.getE T1 p) w')))
    have HKc := Lib.hid (fun (w' : World) (_ : Below w.heap.size w w') => kindJ_any c w' hc)
    have HKb := Lib.hid (fun (w' : World) (_ : Below w.heap.size w w') => kindJ_any b w' hb)
    have HKa := Lib.hid (fun (w' : World) (_ : Below w.heap.size w w') => kindJ_any a w' ha)
    have HJn := Lib.hid (fun (g : Nat) (w' : World) (h : Below w.heap.size w w') (hg : w'.heap[g]? = some (.cells #[.string k] 9 (0, 0))) => joinOne_any k g w' hk hg (hE.below h))
    obtain ⟨PK, hPK⟩ : ∃ P, joinK [k.data.toList] = P := ⟨_, rfl⟩
    have hPs : (mkB PK).size ≤ 4194304 := by
      rw [mkB_size, ← hPK]
      have := JP.joinK_len [k.data.toList]
      have e : JP.wayS [k.data.toList] = k.data.toList.length + 1 := by rw [JP.wayS_cons]; rfl
      rw [e, list_size] at this
      omega
    have hPm : ∀ l, stepsP (mkB PK).data.toList = (0, l) → ∀ s ∈ l, s.length ≤ 1048576 := fun l hl s hs => by
      rw [mkB_list, ← hPK, steps_join _ (by simp)] at hl
      cases hl
      rw [List.mem_singleton.1 hs, list_size]; exact hk
    have HGb := Lib.hid (fun (w' : World) (h : Below w.heap.size w w') => pgetW_any b (mkB PK) w' hb hPs hPm (hE.below h))
    have HGa := Lib.hid (fun (w' : World) (h : Below w.heap.size w w') => pgetW_any a (mkB PK) w' ha hPs hPm (hE.below h))
    have HGc := Lib.hid (fun (w' : World) (h : Below w.heap.size w w') => pgetW_any c (mkB PK) w' hc hPs hPm (hE.below h))
    have HGt := Lib.hid (fun (w' : World) (h : Below w.heap.size w w') => pgetW_any (mkB T1) (mkB PK) w' hT1s hPs hPm (hE.below h))
    have hkey := hkey rfl
    rw [hPK] at HJn hkey
    rw [mkB_list] at HGb HGa HGc HGt
    rw [mkB_list] at HGt
    obtain ⟨EB, hEB⟩ : ∃ P, JP.getE b.data.toList PK = P := ⟨_, rfl⟩
    obtain ⟨EA, hEA⟩ : ∃ P, JP.getE a.data.toList PK = P := ⟨_, rfl⟩
    obtain ⟨EC, hEC⟩ : ∃ P, JP.getE c.data.toList PK = P := ⟨_, rfl⟩
    obtain ⟨ET, hET⟩ : ∃ P, JP.getE T1 PK = P := ⟨_, rfl⟩
    obtain ⟨TB, hTB⟩ : ∃ P, JP.getT b.data.toList PK = P := ⟨_, rfl⟩
    obtain ⟨TA, hTA⟩ : ∃ P, JP.getT a.data.toList PK = P := ⟨_, rfl⟩
    obtain ⟨TC, hTC⟩ : ∃ P, JP.getT c.data.toList PK = P := ⟨_, rfl⟩
    obtain ⟨TT, hTT⟩ : ∃ P, JP.getT T1 PK = P := ⟨_, rfl⟩
    obtain ⟨KA, hKA⟩ : ∃ P, JP.kindT a.data.toList = P := ⟨_, rfl⟩
    obtain ⟨KB, hKB⟩ : ∃ P, JP.kindT b.data.toList = P := ⟨_, rfl⟩
    obtain ⟨KC, hKC⟩ : ∃ P, JP.kindT c.data.toList = P := ⟨_, rfl⟩
    obtain ⟨XA, hXA⟩ : ∃ P, JP.canonE a.data.toList = P := ⟨_, rfl⟩
    obtain ⟨XB, hXB⟩ : ∃ P, JP.canonE b.data.toList = P := ⟨_, rfl⟩
    obtain ⟨XC, hXC⟩ : ∃ P, JP.canonE c.data.toList = P := ⟨_, rfl⟩
    rw [hEB, hTB] at HGb
    rw [hEA, hTA] at HGa
    rw [hEC, hTC] at HGc
    rw [hET, hTT] at HGt
    rw [hKA, hXA] at HKa
    rw [hKB, hXB] at HKb
    rw [hKC, hXC] at HKc
    rw [hKC, hEB, hEA, hEC, hKB, hKA, hET, hTT, hTB] at hkey
    have HKey := Lib.hid hkey
    clear hkey hEB hEA hEC hET hTB hTA hTC hTT hKA hKB hKC hXA hXB hXC hPK hPs hPm hT1s hpth hp hno hE ha hb hc hk hTl
    subst hw0
    go_enter Tryz.func5, Tryz.ntmps5
    go_wp2_with fail
    refine (H0.out w0 HB0.out).mono ?_
    rintro E w1 ⟨rfl, hb⟩
    have HB1 := Lib.hid (HB0.out.trans (hb.mono HB0.out.size))
    clear hb
    go_wp2_with fail
    refine (H1.out w1 HB1.out).mono ?_
    rintro E w2 ⟨v2, rfl, ho, hb⟩
    obtain ⟨a2, c2, e2, _⟩ := ho.row.len
    obtain ⟨ln, hln⟩ : ∃ n, (L.map mkB).length = n := ⟨_, rfl⟩
    rw [hln] at e2
    subst e2
    have HRow2 := Lib.hid ho.row
    have Hln : Hid (L.length = ln) := Lib.hid (by rw [← hln, List.length_map])
    have hlnl : ln ≤ 8000000 := by rw [← Hln.out]; exact hLl2
    have HB2 := Lib.hid (HB1.out.trans (hb.mono HB1.out.size))
    clear hb ho hln hLl2
    go_wp2_with fail
    refine (H2.out w2 HB2.out).mono ?_
    rintro E w3 ⟨rfl, hb⟩
    have HB3 := Lib.hid (HB2.out.trans (hb.mono HB2.out.size))
    have HRow : Hid (RowAt RString 1 w3 (.slice a2 ln c2) (L.map mkB)) := Lib.hid (HRow2.out.below stays_string hb)
    clear HRow2 hb
    go_wp2_with fail
    go_loopg [68] ln (fun k u68 wr => ∃ (i : Nat), i + k = ln ∧ u68 = .int .i64 (i : Int) ∧ Hid (Below w3.heap.size w3 wr))
    case atStart => exact ⟨0, by omega, rfl, Lib.hid (Below.refl _ _)⟩
    case round =>
      obtain ⟨i, hik, rfl, HR⟩ := hrel
      have HBr : Hid (Below w0.heap.size w0 wr) := Lib.hid (HB3.out.trans (HR.out.mono HB3.out.size))
      cases gk with
      | succ k9 =>
        have hil : i < ln := by omega
        obtain ⟨y, hy⟩ : ∃ y, L[i]? = some y := ⟨L[i]'(by rw [Hln.out]; exact hil), List.getElem?_eq_getElem _⟩
        obtain ⟨b1, o1, c', hv1, _, _, hbs1, hcell1⟩ := HRow.out.form (by rw [List.length_map, Hln.out]; omega) (by omega)
        injection hv1 with u1 u2 u3
        subst u1
        clear u2 u3
        obtain ⟨ds1, _, hcc1, hR1⟩ := hcell1 i (mkB y) (by rw [List.getElem?_map, hy]; rfl)
        obtain rfl : ds1 = [.string (mkB y)] := hR1
        have e0 : wr.cell? ⟨b1, o1 + i, none⟩ = some (.string (mkB y)) := (HR.out.cell (p := ⟨b1, _, none⟩) hbs1).trans (by simpa using hcc1 0 _ rfl)
        have q1 : (0 : Int) ≤ (i : Int) := by omega
        have q2 : (i : Int) < (ln : Int) := by omega
        have Hm := Lib.hid (List.mem_of_getElem? hy)
        clear hcell1 hcc1 hy hbs1
        go_wp2_with fail
        refine (HP.out y Hm.out wr HBr.out).mono ?_
        rintro E w4 ⟨rfl, hb⟩
        have HR4 := Lib.hid (HR.out.trans (hb.mono HR.out.size))
        have HB4 := Lib.hid (HBr.out.trans (hb.mono HBr.out.size))
        clear hb e0
        go_wp2_with fail
        refine (HPa.out y Hm.out w4 HB4.out).mono ?_
        rintro E w5 ⟨rfl, hb⟩
        have HR5 := Lib.hid (HR4.out.trans (hb.mono HR4.out.size))
        have HB5 := Lib.hid (HB4.out.trans (hb.mono HB4.out.size))
        clear hb
        obtain ⟨hne, hgt⟩ := HPt.out y Hm.out w5 HB5.out
        obtain ⟨EY, hEY⟩ : ∃ e, JP.getE T1 y = e := ⟨_, rfl⟩
        rw [hEY] at hne hgt
        have HGy := Lib.hid hgt
        have n0 : (EY == 0) = false := by rw [beq_eq_false_iff_ne]; exact hne
        clear hgt hne hEY
        go_wp2_with fail
        refine HGy.out.mono ?_
        rintro E w6 ⟨rfl, hb⟩
        have HR6 := Lib.hid (HR5.out.trans (hb.mono HR5.out.size))
        clear hb
        go_wp2_with fail
        go_roundg k9
        case measure => omega
        case rel => exact ⟨i + 1, by omega, by go_num, HR6⟩
      | zero =>
        have hil : i = ln := by omega
        subst hil
        have q9 : ¬ (i : Int) < (i : Int) := by omega
        go_wp2_with fail
        refine (HKc.out wr HBr.out).mono ?_
        rintro E w4 ⟨rfl, hb⟩
        have HB4 := Lib.hid (HBr.out.trans (hb.mono HBr.out.size))
        clear hb
        by_cases hkc : KC = 6
        · subst hkc
          go_wp2_with fail
          obtain ⟨W4, hW4⟩ : ∃ W, W = w4.alloc (.cells #[.string k] 9) := ⟨_, rfl⟩
          have hb4 : Below w4.heap.size w4 W4 := by rw [hW4]; exact (Below.refl _ w4).alloc (Nat.le_refl _) _
          have HBw := Lib.hid (HB4.out.trans (hb4.mono HB4.out.size))
          obtain ⟨cj, hj⟩ := HJn.out w4.heap.size W4 HBw.out (by rw [hW4]; exact heap_alloc_new w4 _)
          have HJ := Lib.hid hj
          clear hj hb4
          rw [← hW4]
          clear hW4
          refine HJ.out.mono ?_
          rintro E w5 ⟨rfl, hb⟩
          have HB5 := Lib.hid (HBw.out.trans (hb.mono HBw.out.size))
          clear hb
          go_wp2_with fail
          refine (HGb.out w5 HB5.out).mono ?_
          rintro E w6 ⟨rfl, hb⟩
          have HB6 := Lib.hid (HB5.out.trans (hb.mono HB5.out.size))
          clear hb
          go_wp2_with fail
          refine (HGa.out w6 HB6.out).mono ?_
          rintro E w7 ⟨rfl, hb⟩
          have HB7 := Lib.hid (HB6.out.trans (hb.mono HB6.out.size))
          clear hb
          go_wp2_with fail
          refine (HGc.out w7 HB7.out).mono ?_
          rintro E w8 ⟨rfl, hb⟩
          have HB8 := Lib.hid (HB7.out.trans (hb.mono HB7.out.size))
          clear hb
          go_wp2_with fail
          refine (HKb.out w8 HB8.out).mono ?_
          rintro E w9 ⟨rfl, hb⟩
          have HB9 := Lib.hid (HB8.out.trans (hb.mono HB8.out.size))
          clear hb
          by_cases h1 : EB = 0
          · subst h1
            by_cases h2 : EA = 0
            · subst h2
              go_wp2_with fail
              go_ret
              exact ⟨rfl, HB9.out⟩
            · have n2 : (EA == 0) = false := by rw [beq_eq_false_iff_ne]; exact h2
              by_cases h3 : EC = 0
              · subst h3
                clear h2
                go_wp2_with fail
                go_ret
                exact ⟨rfl, HB9.out⟩
              · have n3 : (EC == 0) = false := by rw [beq_eq_false_iff_ne]; exact h3
                by_cases h4 : KB = 6
                · subst h4
                  have hk := HKey.out (by first | rfl | trivial) (by first | rfl | trivial) h2 h3 (by first | rfl | trivial)
                  have Hk := Lib.hid hk
                  clear h2 h3 hk
                  go_wp2_with fail
                  refine (HKa.out w9 HB9.out).mono ?_
                  rintro E w10 ⟨rfl, hb⟩
                  have HB10 := Lib.hid (HB9.out.trans (hb.mono HB9.out.size))
                  clear hb
                  go_wp2_with fail
                  refine (HGt.out w10 HB10.out).mono ?_
                  rintro E w11 ⟨rfl, hb⟩
                  have HB11 := Lib.hid (HB10.out.trans (hb.mono HB10.out.size))
                  clear hb
                  by_cases h5 : KA = 5
                  · subst h5
                    go_wp2_with fail
                    go_ret
                    exact ⟨rfl, HB11.out⟩
                  · obtain ⟨rfl, rfl⟩ := Hk.out.resolve_left h5
                    have n5 : (KA == 5) = false := by rw [beq_eq_false_iff_ne]; exact h5
                    have t1 : ((mkB TT).toList == (mkB TT).toList) = true := by simp
                    clear h5
                    go_wp2_with fail
                    go_ret
                    exact ⟨by first | rfl | (rw [t1] <;> rfl), HB11.out⟩
                · have n4 : (KB != 6) = true := by rw [bne_iff_ne]; exact h4
                  clear h2 h3 h4
                  go_wp2_with fail
                  go_ret
                  exact ⟨rfl, HB9.out⟩
          · have n1 : (EB != 0) = true := by rw [bne_iff_ne]; exact h1
            clear h1
            go_wp2_with fail
            go_ret
            exact ⟨rfl, HB9.out⟩
        · have n0 : (KC != 6) = true := by rw [bne_iff_ne]; exact hkc
          clear hkc
          go_wp2_with fail
          go_ret
          exact ⟨rfl, HB4.out⟩
  · have n0 : (E1 != 0) = true := by rw [bne_iff_ne]; exact h1
    obtain rfl := hno h1
    clear hpth hLl hkey hno hTl hE ha hb hc hk h1
    subst hw0
    go_enter Tryz.func5, Tryz.ntmps5
    go_wp2_with fail
    refine (H0.out w0 HB0.out).mono ?_
    rintro E w1 ⟨rfl, hb⟩
    have HB1 := Lib.hid (HB0.out.trans (hb.mono HB0.out.size))
    clear hb
    go_wp2_with fail
    refine (H1.out w1 HB1.out).mono ?_
    rintro E w2 ⟨v2, rfl, ho, hb⟩
    obtain ⟨a2, c2, e2, _⟩ := ho.row.len
    subst e2
    have HB2 := Lib.hid (HB1.out.trans (hb.mono HB1.out.size))
    clear hb ho
    go_wp2_with fail
    refine (H2.out w2 HB2.out).mono ?_
    rintro E w3 ⟨rfl, hb⟩
    have HB3 := Lib.hid (HB2.out.trans (hb.mono HB2.out.size))
    clear hb
    go_wp2_with fail
    go_ret
    exact ⟨by first | rfl | (rw [t0] <;> rfl), HB3.out⟩
end Go.Proofs.YtnmhjabihfhobaaGreatDoor
