/- grants: the checker's methods: what becomes of the first thing that is wrong. -/
import Derived.Test.YtkkfnihdnclgiaaDoorGrantsIdx
import Derived.Test.YtkkfnihdnclgiaaDoorMadeWalk
import Derived.Test.YtkkfnihdnclgiaaDoorBox
namespace Go.Proofs.YtkkfnihdnclgiaaDoor
open Go.RowKit

/-- one block may have turned, no other that was there -/
structure But (g : Nat) (w w' : World) : Prop where
  os : w'.os = w.os
  tape : w'.tape = w.tape
  output : w'.output = w.output
  size : w.heap.size ≤ w'.heap.size
  block : ∀ k, k < w.heap.size → k ≠ g → w'.heap[k]? = w.heap[k]?
theorem But.refl (g : Nat) (w : World) : But g w w := ⟨rfl, rfl, rfl, Nat.le_refl _, fun _ _ _ => rfl⟩
theorem But.trans {g : Nat} {a b c : World} (h : But g a b) (k : But g b c) : But g a c :=
  ⟨k.os.trans h.os, k.tape.trans h.tape, k.output.trans h.output, Nat.le_trans h.size k.size, fun q hq hn => (k.block q (Nat.lt_of_lt_of_le hq h.size) hn).trans (h.block q hq hn)⟩
theorem But.of {g : Nat} {w w' : World} (h : Below w.heap.size w w') : But g w w' := ⟨h.os, h.tape, h.output, h.size, fun k hk _ => h.block k hk⟩
theorem But.touch {g : Nat} {w w' : World} (h : Touch g w w') : But g w w' := ⟨h.os, h.tape, h.output, by rw [h.size]; exact Nat.le_refl _, fun k _ hn => h.other k hn⟩
theorem But.below {g B : Nat} {a w w' : World} (h : But g w w') (hb : Below B a w) (hB : B ≤ w.heap.size) (hg : B ≤ g) : Below B a w' :=
  hb.trans ⟨h.os, h.tape, h.output, h.size, fun k hk => h.block k (by omega) (by omega)⟩
theorem But.keep {g k : Nat} {w w' : World} {x : Obj} (h : But g w w') (hx : w.heap[k]? = some x) (hn : k ≠ g) : w'.heap[k]? = some x := by
  have hb : k < w.heap.size := by
    rcases Nat.lt_or_ge k w.heap.size with h1 | h1
    · exact h1
    · rw [Array.getElem?_eq_none h1] at hx; cases hx
  exact (h.block k hb hn).trans hx
theorem But.cell {g : Nat} {w w' : World} {p : Addr} (h : But g w w') (hp : p.block < w.heap.size) (hn : p.block ≠ g) : w'.cell? p = w.cell? p := by
  unfold World.cell?
  rw [h.block _ hp hn]
/-- the first thing that was wrong lies there -/
def IsBad (g : Nat) (w : World) (b : Int) : Prop := w.heap[g]? = some (.cells #[.int .i64 b] 69 (0, 0))
theorem IsBad.below {g : Nat} {w w' : World} {b : Int} (h : IsBad g w b) (hb : Below w.heap.size w w') : IsBad g w' b := below_block hb h
/-- what a checker's method does -/
def Said (g : Nat) (b : Int) (w : World) (E : Ending) (w' : World) : Prop := E = .returned (.tuple #[]) ∧ IsBad g w' b ∧ But g w w'

set_option maxRecDepth 100000 in
theorem says_any (g : Nat) (b e : Int) (w : World) (h : IsBad g w b) : Calls Tryd.prog 31 #[.pointer (some ⟨g, 0, none⟩), .int .i64 e] w (Said g (says b e) w) := by
  have h' : w.heap[g]? = some (.cells #[.int .i64 b] 69 (0, 0)) := h
  have c0 : w.cell? ⟨g, 0, none⟩ = some (.int .i64 b) := cell_block h' 0
  have z0 : w.frozen? ⟨g, 0, none⟩ = false := free_block h' 0
  have Hh := Lib.hid h'
  clear h h'
  by_cases hb : b = 0
  · subst hb
    go_enter Tryd.func31, Tryd.ntmps31
    go_wp2_with fail
    obtain ⟨t1, t2⟩ := touch_setCell (i := 0) (v := .int .i64 e) Hh.out
    go_end0
    exact ⟨rfl, by rw [zero_says]; exact t1, But.touch t2⟩
  · have q : (b == 0) = false := by rw [beq_eq_false_iff_ne]; exact hb
    have Hs : Hid (says b e = b) := by show _ = _; unfold says; rw [if_neg hb]
    clear hb
    go_enter Tryd.func31, Tryd.ntmps31
    go_wp2_with fail
    go_end0
    exact ⟨rfl, by rw [Hs.out]; exact Hh.out, But.refl _ _⟩
set_option maxRecDepth 100000 in
theorem need_any (g : Nat) (b : Int) (is : Bool) (e : Int) (w : World) (h : IsBad g w b) : Calls Tryd.prog 53 #[.pointer (some ⟨g, 0, none⟩), .bool is, .int .i64 e] w (Said g (says b (need is e)) w) := by
  have H := Lib.hid h
  clear h
  cases is with
  | true =>
    have Hs : Hid (says b (need true e) = b) := by show _ = _; exact says_zero b
    rw [Hs.out]
    go_enter Tryd.func53, Tryd.ntmps53
    go_wp2_with fail
    go_end0
    exact ⟨rfl, H.out, But.refl _ _⟩
  | false =>
    have Hs : Hid (says b (need false e) = says b e) := by show _ = _; rfl
    rw [Hs.out]
    go_enter Tryd.func53, Tryd.ntmps53
    go_wp2_with fail
    refine (says_any g b e w H.out).mono ?_
    rintro E w1 ⟨rfl, h1, h2⟩
    have H1 := Lib.hid h1
    have H2 := Lib.hid h2
    clear h1 h2 Hs
    go_wp2_with fail
    go_end0
    exact ⟨rfl, H1.out, H2.out⟩
set_option maxRecDepth 100000 in
theorem space_any (g : Nat) (b : Int) (s : ByteArray) (w : World) (h : IsBad g w b) (hs : s.size ≤ 1099511627776) : Calls Tryd.prog 46 #[.pointer (some ⟨g, 0, none⟩), .string s] w (Said g (says b (spaceC s)) w) := by
  have H := Lib.hid h
  clear h
  by_cases h0 : s.size = 0
  · have q : s.toList = [] := by rw [ByteArray.toList_eq]; exact List.eq_nil_of_length_eq_zero (by simpa using h0)
    have Hs : Hid (says b (spaceC s) = b) := by show _ = _; unfold spaceC; rw [if_pos h0]; exact says_zero b
    have q2 : s.toList.isEmpty = true := by rw [q]; rfl
    rw [Hs.out]
    clear h0
    go_enter Tryd.func46, Tryd.ntmps46
    go_wp2_with fail
    go_end0
    exact ⟨rfl, H.out, But.refl _ _⟩
  · have q : (!s.toList.isEmpty) = true := by
      rw [ByteArray.toList_eq]
      have hl : s.data.toList.length = s.size := by simp
      cases hd : s.data.toList with | nil => rw [hd] at hl; simp at hl; omega | cons x r => rfl
    have q2 : s.toList.isEmpty = false := by simpa using q
    have Hs : Hid (says b (spaceC s) = says b (NameP.check s.data.toList)) := by show _ = _; unfold spaceC; rw [if_neg h0]
    obtain ⟨cd, Hcd⟩ : ∃ cd, Hid (NameP.check s.data.toList = cd) := ⟨_, Lib.hid rfl⟩
    rw [Hs.out, Hcd.out]
    clear h0
    go_enter Tryd.func46, Tryd.ntmps46
    go_wp2_with fail
    refine (check_any s w hs).mono ?_
    rintro E w1 ⟨rfl, rfl⟩
    rw [Hcd.out]
    go_wp2_with fail
    refine (says_any g b cd w H.out).mono ?_
    rintro E w1 ⟨rfl, h1, h2⟩
    have H1 := Lib.hid h1
    have H2 := Lib.hid h2
    clear h1 h2 Hs
    go_wp2_with fail
    go_end0
    exact ⟨rfl, H1.out, H2.out⟩
theorem starB_list : starB.toList = [42] := by decide +kernel
set_option maxRecDepth 100000 in
set_option maxHeartbeats 800000 in
theorem names_any (g : Nat) (b : Int) (v : Value) (l : List ByteArray) (st : Bool) (w : World) (h : IsBad g w b) (hv : StrAt w v l) (hne : 0 < l.length → ∀ a n c, v = .slice (some a) n c → a.block ≠ g) (hx : ∀ x ∈ l, x.size ≤ 1099511627776) (hl : l.length ≤ 1073741824) :
    Calls Tryd.prog 45 #[.pointer (some ⟨g, 0, none⟩), v, .bool st] w (Said g (says b (namesC st l)) w) := by
  have hrow := hv.row
  obtain ⟨a1, c1, rfl, _, _⟩ := hrow.len
  have H := Lib.hid h
  have HV := Lib.hid hrow
  have Hne := Lib.hid hne
  have Hx := Lib.hid hx
  clear h hv hne hx hrow
  go_enter Tryd.func45, Tryd.ntmps45
  go_wp2_with fail
  go_loopg [10] l.length (fun k u10 wr => ∃ i : Nat, i + k = l.length ∧ u10 = .int .i64 (i : Int) ∧ Hid (IsBad g wr (says b (firstBad ((l.map (nameC st)).take i)))) ∧ Hid (But g w wr))
  case atStart => exact ⟨0, by omega, rfl, Lib.hid (by rw [List.take_zero]; exact (says_zero b).symm ▸ H.out), Lib.hid (But.refl _ _)⟩
  case round =>
    obtain ⟨i, hig, rfl, Hbad, Hbut⟩ := hrel
    cases gk with
    | zero =>
      obtain rfl : i = l.length := by omega
      have Hend : Hid (IsBad g wr (says b (namesC st l))) := by
        have h9 := Hbad.out
        rw [List.take_of_length_le (by simp)] at h9
        exact Lib.hid h9
      go_wp2_with fail
      go_end0
      exact ⟨rfl, Hend.out, Hbut.out⟩
    | succ k =>
      have hil : i < l.length := by omega
      obtain ⟨s, hsi⟩ : ∃ s, l[i]? = some s := ⟨l[i]'(by omega), List.getElem?_eq_getElem _⟩
      obtain ⟨bk, o, c', hv, _, _, hbs, hcell⟩ := HV.out.form (by omega) (by omega)
      have hbg := Hne.out (by omega) _ _ _ hv
      cases hv
      obtain ⟨ds, _, hcc, hR⟩ := hcell i s hsi
      obtain rfl : ds = [.string s] := hR
      have e0 : wr.cell? ⟨bk, o + i, none⟩ = some (.string s) := (Hbut.out.cell (p := ⟨bk, o + i, none⟩) hbs hbg).trans (by simpa using hcc 0 _ rfl)
      have q1 : (0 : Int) ≤ (i : Int) := by omega
      have q2 : (i : Int) < (l.length : Int) := by omega
      have hss := Hx.out s (List.mem_of_getElem? hsi)
      have Hnext : Hid (says b (firstBad ((l.map (nameC st)).take (i + 1))) = says (says b (firstBad ((l.map (nameC st)).take i))) (nameC st s)) := by
        show _ = _
        rw [firstBad_take (e := nameC st s) (by rw [List.getElem?_map, hsi]; rfl), says_assoc]
      clear hcc hcell hsi hbg
      by_cases hskip : st = true ∧ s = starB
      · obtain ⟨rfl, rfl⟩ := hskip
        have q3 : starB.toList = [42] := starB_list
        have Hn2 : Hid (says b (firstBad ((l.map (nameC true)).take (i + 1))) = says b (firstBad ((l.map (nameC true)).take i))) := by
          show _ = _
          rw [Hnext.out]
          exact says_zero _
        go_wp2_with fail
        go_roundg k
        case measure => omega
        case rel => exact ⟨i + 1, by omega, by go_num, Lib.hid (by rw [Hn2.out]; exact Hbad.out), Hbut⟩
      · have Hn2 : Hid (nameC st s = NameP.check s.data.toList) := by show _ = _; unfold nameC; rw [if_neg hskip]
        have q3 : st = true → (s.toList == [42]) = false := fun h => by
          rw [beq_eq_false_iff_ne]
          intro h2
          exact hskip ⟨h, toList_inj (by rw [h2, starB_list])⟩
        clear hskip
        obtain ⟨cd, Hcd⟩ : ∃ cd, Hid (NameP.check s.data.toList = cd) := ⟨_, Lib.hid rfl⟩
        rw [Hn2.out, Hcd.out] at Hnext
        cases st
        all_goals
          go_wp2_with fail
          refine (check_any s wr hss).mono ?_
          rintro E w1 ⟨rfl, rfl⟩
          rw [Hcd.out]
          go_wp2_with fail
          refine (says_any g _ cd wr Hbad.out).mono ?_
          rintro E w1 ⟨rfl, h1, h2⟩
          have H1 := Lib.hid h1
          have H2 := Lib.hid (Hbut.out.trans h2)
          clear h1 h2 e0
          go_wp2_with fail
          go_roundg k
          case measure => omega
          case rel => exact ⟨i + 1, by omega, by go_num, Lib.hid (by rw [Hnext.out]; exact H1.out), H2⟩
end Go.Proofs.YtkkfnihdnclgiaaDoor
