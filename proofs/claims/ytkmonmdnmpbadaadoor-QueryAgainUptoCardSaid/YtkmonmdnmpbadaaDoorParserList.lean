/- query: the parser's list. -/
import Derived.Test.YtkmonmdnmpbadaaDoorParserWord
import Derived.Test.YtkmonmdnmpbadaaDoorRow
import Derived.Test.YtkmonmdnmpbadaaDoorTabs
namespace Go.Proofs.YtkmonmdnmpbadaaDoor
open Go.RowKit
open QP

theorem But.thenBelow {g : Nat} {w wx w' : World} (h : But g w wx) (hb : Below w.heap.size wx w') : But g w w' :=
  ⟨hb.os.trans h.os, hb.tape.trans h.tape, hb.output.trans h.output, Nat.le_trans h.size hb.size, fun k hk hn => (hb.block k hk).trans (h.block k hk hn)⟩
theorem Par.below {g : Nat} {s : ByteArray} {bad : Bool} {r : List UInt8} {B : Nat} {w w' : World} (h : Par g s bad r w) (hb : Below B w w') (hg : g < B) : Par g s bad r w' := by
  obtain ⟨a, h1, h2, h3⟩ := h
  exact ⟨a, h1, h2, (hb.block g hg).trans h3⟩
theorem Par.size {g : Nat} {s : ByteArray} {bad : Bool} {r : List UInt8} {w : World} (h : Par g s bad r w) : g < w.heap.size := by
  obtain ⟨a, h1, h2, h3⟩ := h
  rcases Nat.lt_or_ge g w.heap.size with h4 | h4
  · exact h4
  · unfold ParAt at h3; rw [Array.getElem?_eq_none h4] at h3; cases h3
theorem Par.len {g : Nat} {s : ByteArray} {bad : Bool} {r : List UInt8} {w : World} (h : Par g s bad r w) : r.length ≤ s.size := by
  obtain ⟨a, h1, h2, h3⟩ := h
  have hl : s.data.toList.length = s.size := by simp
  rw [← h2, List.length_drop]; omega
theorem hasPrefix_one (c : UInt8) (r : List UInt8) : Lib.hasPrefix r [c] = headIs c r := by
  cases r with
  | nil => rfl
  | cons x t =>
    show (c == x && true) = (x == c)
    rw [Bool.and_true, Bool.eq_iff_iff, beq_iff_eq, beq_iff_eq]
    exact eq_comm
theorem hasR_one (c : UInt8) (r : List UInt8) : hasR [c] r = if headIs c r = true then r.tail else r := by
  unfold hasR
  rw [hasPrefix_one]
  simp
theorem has1_any (g : Nat) (s : ByteArray) (bad : Bool) (r : List UInt8) (c : UInt8) (w : World) (h : Par g s bad r w) (hs : s.size ≤ 1048576) :
    Calls Tryd.prog 28 #[.pointer (some ⟨g, 0, none⟩), .string ⟨#[c]⟩] w fun e w' => e = .returned (.bool (headIs c r)) ∧ Par g s bad (if headIs c r = true then r.tail else r) w' ∧ But g w w' := by
  have h1 := has_any g s bad r ⟨#[c]⟩ w h hs
  rw [show (⟨#[c]⟩ : ByteArray).data.toList = [c] from rfl, hasPrefix_one, hasR_one] at h1
  exact h1
theorem skip_len (r : List UInt8) : (skipB r).length ≤ r.length := by unfold skipB; exact (List.dropWhile_sublist _).length_le
theorem wordE_len (r : List UInt8) : (wordE r).length ≤ r.length := by
  unfold wordE wordR
  exact Nat.le_trans (skip_len _) (Nat.le_trans (List.dropWhile_sublist _).length_le (skip_len _))
theorem tail_len {c : UInt8} {r : List UInt8} (h : headIs c r = true) : r.tail.length < r.length := by
  cases r with
  | nil => cases h
  | cons x t => simp
theorem wordS_size (r : List UInt8) : (wordS r).size ≤ r.length := by
  unfold wordS wordW
  show (((skipB r).takeWhile wordB).toArray).size ≤ _
  rw [List.size_toArray]
  exact Nat.le_trans (List.takeWhile_sublist _).length_le (skip_len _)
/-- what a list is told as -/
def ListTold (g : Nat) (s : ByteArray) (o : Option (List ByteArray × List UInt8)) (v : Value) (vals : List ByteArray) (w' : World) : Prop :=
  match o with
  | some x => vals = x.1 ∧ Par g s false x.2 w'
  | none => vals = [] ∧ v = .slice none 0 0 ∧ ∃ r, Par g s true r w'
theorem par_bad {g : Nat} {s : ByteArray} {bad : Bool} {r : List UInt8} {w : World} (h : Par g s bad r w) : Par g s true r (w.setCell ⟨g, 2, none⟩ (.bool true)) ∧ Touch g w (w.setCell ⟨g, 2, none⟩ (.bool true)) := by
  obtain ⟨a, h1, h2, h3⟩ := h
  obtain ⟨t1, t2⟩ := touch_setCell (i := 2) (v := .bool true) h3
  exact ⟨⟨a, h1, h2, t1⟩, t2⟩
theorem par_cells {g : Nat} {s : ByteArray} {bad : Bool} {r : List UInt8} {w : World} (h : Par g s bad r w) : (w.cell? ⟨g, 2, none⟩ = some (.bool bad)) ∧ w.frozen? ⟨g, 2, none⟩ = false := by
  obtain ⟨a, h1, h2, h3⟩ := h
  exact ⟨cell_block h3 2, free_block h3 2⟩
def ListAt (g : Nat) (s : ByteArray) (r : List UInt8) (w : World) (E : Ending) (w' : World) : Prop :=
  ∃ v vals, E = .returned v ∧ OwnAt RString 1 w' w.heap.size 9 v vals ∧ ListTold g s (listP r) v vals w' ∧ But g w w'
set_option maxRecDepth 100000 in
set_option maxHeartbeats 3200000 in
theorem list_any (g : Nat) (s : ByteArray) (r : List UInt8) (w : World) (h : Par g s false r w) (hs : s.size ≤ 300) :
    Calls Tryd.prog 77 #[.pointer (some ⟨g, 0, none⟩)] w (ListAt g s r w) := by
  obtain ⟨i0, hi0, hz0, hz1, hz2⟩ := info_parts Tryd.infoStr
  have hgw := h.size
  obtain ⟨L, HL⟩ : ∃ L, Hid (listP r = L) := ⟨_, Lib.hid rfl⟩
  have H := Lib.hid h
  clear h
  unfold ListAt
  rw [HL.out]
  have HL2 : Hid ((if headIs 40 (skipB r) = true then listF 400 (skipB r).tail [] else none) = L) := Lib.hid (by rw [← HL.out]; rfl)
  go_enter Tryd.func77, Tryd.ntmps77
  go_wp2_with fail
  refine (blanks_any g s false r w H.out (by omega)).mono ?_
  rintro E w1 ⟨rfl, hp, hb⟩
  have HP1 := Lib.hid hp
  have HB1 := Lib.hid hb
  clear hp hb
  go_wp2_with fail
  refine (has1_any g s false (skipB r) 40 w1 HP1.out (by omega)).mono ?_
  rintro E w2 ⟨rfl, hp, hb⟩
  cases h40 : headIs 40 (skipB r) with
  | false =>
    rw [h40, if_neg (by simp)] at hp
    have HP2 := Lib.hid hp
    have HB2 := Lib.hid (HB1.out.trans hb)
    obtain ⟨c2, z2⟩ := par_cells hp
    have HL3 : Hid (L = none) := Lib.hid (by have := HL2.out; rw [h40, if_neg (by simp)] at this; exact this.symm)
    clear hp hb HL2
    go_wp2_with fail
    obtain ⟨t1, t2⟩ := par_bad HP2.out
    go_ret
    refine ⟨_, [], rfl, OwnAt.nil _, ?_, HB2.out.trans (But.touch t2)⟩
    rw [HL3.out]
    exact ⟨rfl, rfl, _, t1⟩
  | true =>
    rw [h40, if_pos rfl] at hp
    have HP2 := Lib.hid hp
    have HB2 := Lib.hid (HB1.out.trans hb)
    have HL3 : Hid (listF 400 (skipB r).tail [] = L) := Lib.hid (by have := HL2.out; rw [h40, if_pos rfl] at this; exact this)
    have hlen := HP2.out.len
    clear hp hb HL2
    go_wp2_with fail
    go_loopg [3] 400 (fun k u3 wr => ∃ (q : List UInt8) (out : List ByteArray), out.length + k = 400 ∧ q.length < k ∧ Hid (OwnAt RString 1 wr w.heap.size 9 u3 out) ∧ Hid (Par g s false q wr) ∧ Hid (listF k q out = L) ∧ Hid (But g w wr))
    case atStart => exact ⟨(skipB r).tail, [], rfl, by omega, Lib.hid (OwnAt.nil _), HP2, HL3, HB2⟩
    case round =>
      obtain ⟨q, out, hok, hqk, Hout, HP, HLk, HB⟩ := hrel
      cases gk with
      | zero => omega
      | succ k =>
        have hol : out.length ≤ 400 := by omega
        have hbyte : out.length + 1 ≤ 8796093022208 := by omega
        have hqs := HP.out.len
        have hwl := wordE_len q
        have hHB := HB.out.size
        go_wp2_with fail
        refine (word_any g s false q wr HP.out (by omega)).mono ?_
        rintro E w3 ⟨rfl, hp, hb⟩
        have HP3 := Lib.hid hp
        have HB3 := Lib.hid (HB.out.trans hb)
        have Hout3 := Lib.hid (Hout.out.butLow flat_string hb hgw)
        have h3s := HB3.out.size
        obtain ⟨t, Ht⟩ : ∃ t, Hid (wordS q = t) := ⟨_, Lib.hid rfl⟩
        obtain ⟨q3, Hq3⟩ : ∃ q3, Hid (wordE q = q3) := ⟨_, Lib.hid rfl⟩
        rw [Ht.out]
        rw [Hq3.out] at HP3 hwl
        have HLk2 : Hid ((if headIs 44 q3 = true then listF k q3.tail (out ++ [t]) else if headIs 41 q3 = true then some (out ++ [t], skipB q3.tail) else none) = L) := Lib.hid (by rw [← HLk.out, ← Ht.out, ← Hq3.out]; rfl)
        clear hp hb HLk
        go_wp2_with (at_builtin; refine wpList_append_ownAt (R := RString) (k := 1) (e := 9) (B := w.heap.size) (l := out) (m := [t]) _ (by rfl) _ _ _ (by rfl) i0 _ 16 Tryd.underlying31 hi0 hz0 hz1 hz2 rfl (by omega) flat_string one_string _ (by rfl) (Hout3.out.alloc stays_string _) (.slice (some ⟨w3.heap.size, 0, none⟩) 1 1) (by rfl) (RowAt.one (R := RString) (k := 1) (cs := #[.string t]) (heap_alloc_new w3 _) rfl rfl) (by unfold maxLen; simp; omega) (by simp; omega) (by simp; omega) ?_)
        intro v' w4 hv' hg hr _
        have hb : Below w.heap.size w3 w4 := below_of_grown ((Below.refl _ w3).alloc (by omega) _) (by simp; omega) hg hr
        have Hv := Lib.hid hv'
        have HB4 := Lib.hid (HB3.out.thenBelow hb)
        have HP4 := Lib.hid (HP3.out.below hb hgw)
        clear hv' hg hr hb
        go_wp2_with fail
        refine (has1_any g s false q3 44 w4 HP4.out (by omega)).mono ?_
        rintro E w5 ⟨rfl, hp, hb⟩
        cases h44 : headIs 44 q3 with
        | true =>
          rw [h44, if_pos rfl] at hp
          have HP5 := Lib.hid hp
          have HB5 := Lib.hid (HB4.out.trans hb)
          have Hv5 := Lib.hid (Hv.out.butLow flat_string hb hgw)
          have HL5 : Hid (listF k q3.tail (out ++ [t]) = L) := Lib.hid (by have := HLk2.out; rw [h44, if_pos rfl] at this; exact this)
          have htl := tail_len h44
          clear hp hb HLk2
          go_wp2_with fail
          go_roundg k
          case measure => omega
          case rel => exact ⟨q3.tail, out ++ [t], by rw [List.length_append, List.length_singleton]; omega, by omega, Hv5, HP5, HL5, HB5⟩
        | false =>
          rw [h44, if_neg (by simp)] at hp
          have HP5 := Lib.hid hp
          have HB5 := Lib.hid (HB4.out.trans hb)
          have Hv5 := Lib.hid (Hv.out.butLow flat_string hb hgw)
          have HL5 : Hid ((if headIs 41 q3 = true then some (out ++ [t], skipB q3.tail) else none) = L) := Lib.hid (by have := HLk2.out; rw [h44, if_neg (by simp)] at this; exact this)
          clear hp hb HLk2
          go_wp2_with fail
          refine (has1_any g s false q3 41 w5 HP5.out (by omega)).mono ?_
          rintro E w6 ⟨rfl, hp, hb⟩
          cases h41 : headIs 41 q3 with
          | true =>
            rw [h41, if_pos rfl] at hp
            have HP6 := Lib.hid hp
            have HB6 := Lib.hid (HB5.out.trans hb)
            have Hv6 := Lib.hid (Hv5.out.butLow flat_string hb hgw)
            have HL6 : Hid (some (out ++ [t], skipB q3.tail) = L) := Lib.hid (by have := HL5.out; rw [h41, if_pos rfl] at this; exact this)
            clear hp hb HL5
            go_wp2_with fail
            refine (blanks_any g s false q3.tail w6 HP6.out (by omega)).mono ?_
            rintro E w7 ⟨rfl, hp, hb⟩
            have HP7 := Lib.hid hp
            have HB7 := Lib.hid (HB6.out.trans hb)
            have Hv7 := Lib.hid (Hv6.out.butLow flat_string hb hgw)
            clear hp hb
            go_wp2_with fail
            go_ret
            refine ⟨_, out ++ [t], rfl, Hv7.out, ?_, HB7.out⟩
            rw [← HL6.out]
            exact ⟨rfl, HP7.out⟩
          | false =>
            rw [h41, if_neg (by simp)] at hp
            have HP6 := Lib.hid hp
            have HB6 := Lib.hid (HB5.out.trans hb)
            have HL6 : Hid (none = L) := Lib.hid (by have := HL5.out; rw [h41, if_neg (by simp)] at this; exact this)
            obtain ⟨c2, z2⟩ := par_cells HP6.out
            clear hp hb HL5
            go_wp2_with fail
            obtain ⟨t1, t2⟩ := par_bad HP6.out
            go_ret
            refine ⟨_, [], rfl, OwnAt.nil _, ?_, HB6.out.trans (But.touch t2)⟩
            rw [← HL6.out]
            exact ⟨rfl, rfl, _, t1⟩
end Go.Proofs.YtkmonmdnmpbadaaDoor
