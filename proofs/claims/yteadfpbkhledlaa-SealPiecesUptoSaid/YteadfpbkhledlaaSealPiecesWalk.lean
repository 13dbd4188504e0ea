/- The walk of the law SealPieces. -/
import Derived.Test.YteadfpbkhledlaaSum
import Derived.Test.YteadfpbkhledlaaHold
import Derived.Test.YteadfpbkhledlaaOpen
import Derived.Test.YteadfpbkhledlaaShelf
namespace Go.Proofs.Yteadfpbkhledlaa
open Go.RowKit

theorem absorbAll_go : ∀ (n : Nat) (h : List Int) (a b : List UInt8), a.length ≤ n → absorbAll (absorbAll h a).1 ((absorbAll h a).2 ++ b) = absorbAll h (a ++ b)
  | 0, h, a, b, hn => by
    rw [absorbAll_end (h := h) (l := a) (by omega)]
  | n + 1, h, a, b, hn => by
    by_cases h64 : 64 ≤ a.length
    · rw [absorbAll_step h64, absorbAll_step (l := a ++ b) (by simp; omega), List.take_append_of_le_length h64, List.drop_append_of_le_length h64]
      exact absorbAll_go n _ (a.drop 64) b (by simp; omega)
    · rw [absorbAll_end (h := h) (l := a) (by omega)]
theorem absorbAll_append (h : List Int) (a b : List UInt8) : absorbAll (absorbAll h a).1 ((absorbAll h a).2 ++ b) = absorbAll h (a ++ b) := absorbAll_go a.length h a b (Nat.le_refl _)
theorem join_flat (l : List (List UInt8)) : Lib.join l [] = l.flatten := by
  cases l with
  | nil => rfl
  | cons x r =>
    rw [Lib.join_cons]
    simp [Lib.joinTail]
theorem flat_total (l : List ByteArray) : (l.map (·.data.toList)).flatten.length ≤ total l := by
  induction l with
  | nil => simp [total]
  | cons x r ih =>
    simp only [List.map_cons, List.flatten_cons, List.length_append, total, List.sum_cons] at *
    have : x.data.toList.length = x.size := by simp
    omega
theorem flat_take (l : List ByteArray) (k : Nat) (x : ByteArray) (h : l[k]? = some x) : ((l.take (k + 1)).map (·.data.toList)).flatten = ((l.take k).map (·.data.toList)).flatten ++ x.data.toList := by
  obtain ⟨hk, rfl⟩ := List.getElem?_eq_some_iff.1 h
  rw [List.take_succ_eq_append_getElem hk, List.map_append, List.flatten_append]
  simp only [List.map_cons, List.map_nil, List.flatten_cons, List.flatten_nil, List.append_nil]

set_option maxRecDepth 100000 in
set_option maxHeartbeats 800000 in
theorem sealPieces_walk (vl : Value) (l : List ByteArray) (w : World) (hl : StrAt w vl l) (hbulk : total l + 1 + 0 ≤ 1048576) :
    Calls Try.prog 5 #[vl] w fun e w' => e = .returned (.bool true) ∧ Below w.heap.size w w' := by
  have hll : l.length ≤ 1048576 := by have := total_length l; omega
  have hflat := flat_total l
  have hpart : ∀ k, ((l.take k).map (·.data.toList)).flatten.length ≤ 1048576 := fun k => by
    have h1 : ((l.take k).map (·.data.toList)).flatten.length ≤ (l.map (·.data.toList)).flatten.length := by
      rw [← List.take_append_drop k l, List.map_append, List.flatten_append, List.length_append]
      simp
    omega
  have hlx : ∀ x ∈ l, x.size ≤ 1048576 := fun x hx => by have := total_mem hx; omega
  have hfl : (l.map (·.data.toList)).flatten.length ≤ 1048576 := by omega
  clear hbulk hflat
  have Hpart := Lib.hid hpart
  have Hlx := Lib.hid hlx
  have Hl := Lib.hid hl
  obtain ⟨ao, c, rfl, h1, h2⟩ := hl.len
  clear hpart hlx hl
  go_enter Try.func5, Try.ntmps5
  go_wp2_with fail
  refine (new_any w).mono ?_
  rintro e w1 ⟨g, rfl, hg, hat, hb1⟩
  go_wp2_with fail
  refine (sum_any _ w1 (by simp [ByteArray.size])).mono ?_
  rintro e w2 ⟨rfl, hb2⟩
  have hat2 := hat.keep (w' := w2) (hb2.block g hat.lt)
  have hb12 := below_then hb1 hb2
  have hs32 : (sumOf (ByteArray.mk #[]).data.toList).length = 32 := sumOf_length _
  clear hb1 hb2 hat
  have hatrow : HashAt w2 g (absorbAll hNums []).1 (.slice none 0 0) 0 := hat2
  have hrow0 : OffRow w2 w.heap.size 5 (.slice none 0 0) (absorbAll hNums []).2 := OffRow.nil _ _ _
  clear hat2
  go_wp2_with fail
  go_loopg [4, 17] l.length (fun n r i wr => ∃ (k : Nat) (A : ByteArray) (rv : Value), k + n = l.length ∧ i = .int .i64 (k : Int) ∧ r = .string A ∧ Hid (A.data.toList = ((l.take k).map (·.data.toList)).flatten) ∧ HashAt wr g (absorbAll hNums A.data.toList).1 rv (A.size : Nat) ∧
    OffRow wr w.heap.size 5 rv (absorbAll hNums A.data.toList).2 ∧ Below w.heap.size w wr)
  case atStart => exact ⟨0, _, _, by omega, rfl, rfl, rfl, hatrow, hrow0, hb12⟩
  case round =>
    clear hatrow hrow0 hb12 hs32
    obtain ⟨k, A, rv, hk, rfl, rfl, HA, hat, hrow, hb⟩ := hrel
    have hAs : A.size ≤ 1048576 := by
      have h3 : A.size = A.data.toList.length := by simp
      rw [h3, HA.out]
      exact Hpart.out k
    have hgl := hat.lt
    cases gk with
    | zero =>
      obtain rfl : k = l.length := by omega
      have hA1 : A.data.toList = (l.map (·.data.toList)).flatten := by rw [HA.out, List.take_length]
      have HA1 := Lib.hid hA1
      clear HA hA1
      go_wp2_with fail
      refine (hashSum_any g w.heap.size _ rv A.size _ _ hat hrow (absorbAll_small _ _) (by omega)).mono ?_
      rintro e w3 ⟨rfl, hb3⟩
      have hb13 := hb.trans (hb3.mono hb.size)
      clear hb hb3 hat hrow hgl
      rw [show finish (absorbAll hNums A.data.toList).1 (absorbAll hNums A.data.toList).2 A.size = sumOf A.data.toList from by unfold sumOf; simp]
      rcases Nat.eq_zero_or_pos l.length with h0 | h0
      · have : l = [] := List.eq_nil_of_length_eq_zero h0
        subst this
        go_wp2_with fail
        refine (Try.strings_Join_none ao c _ w3).mono ?_
        rintro e w4 ⟨rfl, rfl⟩
        go_wp2_with fail
        refine (sum_any _ _ (by simp [ByteArray.size])).mono ?_
        rintro e w5 ⟨rfl, hb5⟩
        rw [show (ByteArray.mk #[]).data.toList = A.data.toList from by rw [HA1.out]; rfl]
        go_wp2_with fail
        go_ret
        exact ⟨rfl, hb13.trans (hb5.mono hb13.size)⟩
      · obtain ⟨b, o, c', hv, h5, _, h3, hc⟩ := Hl.out.form h0
        cases hv
        have Hc := Lib.hid hc
        clear hc
        go_wp2_with fail
        refine (Try.strings_Join b o c l ⟨#[]⟩ w3 (fun j x hx => (hb13.cell (p := ⟨b, o + j, none⟩) h3).trans (Hc.out j x hx)) (by have := hb13.size; omega) (by omega) h5 (by rw [show (ByteArray.mk #[]).data.toList = [] from rfl, join_flat]; omega)).mono ?_
        rintro e w4 ⟨rfl, hb4⟩
        have hb14 := hb13.trans (hb4.mono hb13.size)
        clear hb13 hb4
        rw [show (ByteArray.mk (Lib.join (l.map (·.data.toList)) (ByteArray.mk #[]).data.toList).toArray) = A from by rw [show (ByteArray.mk #[]).data.toList = [] from rfl, join_flat, ← HA1.out]]
        go_wp2_with fail
        refine (sum_any A _ (by omega)).mono ?_
        rintro e w5 ⟨rfl, hb5⟩
        go_wp2_with fail
        go_ret
        exact ⟨rfl, hb14.trans (hb5.mono hb14.size)⟩
    | succ n =>
      have hkl : k < l.length := by omega
      obtain ⟨b, o, c', hv, _, _, h3, hc⟩ := Hl.out.form (by omega)
      cases hv
      have q1 : (k : Int) < (l.length : Int) := by omega
      have q2 : (0 : Int) ≤ (k : Int) := by omega
      obtain ⟨x, hx⟩ : ∃ x, l[k]? = some x := ⟨l[k], by simp [hkl]⟩
      have Hx := Lib.hid hx
      have hxs : x.size ≤ 1048576 := Hlx.out x (List.mem_of_getElem? hx)
      have e0 : wr.cell? ⟨b, o + k, none⟩ = some (.string x) := (hb.cell (p := ⟨b, o + k, none⟩) h3).trans (hc k x hx)
      clear hx hc
      have z1 : ¬ 9223372036854775807 < A.size + x.size := by omega
      go_wp2_with fail
      refine (write_any g w.heap.size _ rv A.size _ x wr hat hrow hg hb.size (by have := absorbAll_small hNums A.data.toList; omega) (by omega) (by omega)).mono ?_
      rintro e w3 ⟨rv3, rfl, hat3, hrow3, hb3⟩
      rw [absorbAll_append] at hat3 hrow3
      have hb13 := hb.trans hb3
      clear hb hb3 e0 hat hrow hgl
      obtain ⟨A', HA'⟩ : ∃ A' : ByteArray, Hid (A ++ x = A') := ⟨_, Lib.hid rfl⟩
      have hA'd : A.data.toList ++ x.data.toList = A'.data.toList := by rw [← HA'.out]; simp
      have hA's : A.size + x.size = A'.size := by rw [← HA'.out, ByteArray.size_append]
      rw [hA'd] at hat3 hrow3
      rw [hA's] at hat3
      have HA2 : Hid (A'.data.toList = ((l.take (k + 1)).map (·.data.toList)).flatten) := by show _ = _; rw [flat_take l k x Hx.out, ← HA.out, hA'd]
      have hA'b : A'.size ≤ 1048576 := by
        have h4 : A'.size = A'.data.toList.length := by simp
        rw [h4, HA2.out]
        exact Hpart.out (k + 1)
      have hfin : finish (absorbAll hNums A'.data.toList).1 (absorbAll hNums A'.data.toList).2 A'.size = sumOf A'.data.toList := by unfold sumOf; simp
      have Hfin := Lib.hid hfin
      clear hA'd hA's hfin HA
      go_wp2_with fail
      rw [HA'.out]
      refine (hashSum_any g w.heap.size _ rv3 A'.size _ _ hat3 hrow3 (absorbAll_small _ _) (by omega)).mono ?_
      rintro e w4 ⟨rfl, hb4⟩
      rw [Hfin.out]
      have hat4 := hat3.keep (w' := w4) (hb4.block g hat3.lt)
      have hrow4 := hrow3.below hb4 (Nat.le_refl _)
      have hb14 := hb13.trans (hb4.mono hb13.size)
      clear hat3 hrow3 hb4 hb13
      go_wp2_with fail
      refine (sum_any A' _ (by omega)).mono ?_
      rintro e w5 ⟨rfl, hb5⟩
      have hat5 := hat4.keep (w' := w5) (hb5.block g hat4.lt)
      have hrow5 := hrow4.below hb5 (Nat.le_refl _)
      have hb15 := hb14.trans (hb5.mono hb14.size)
      clear hat4 hrow4 hb5 hb14
      go_wp2_with fail
      refine (hashSum_any g w.heap.size _ rv3 A'.size _ _ hat5 hrow5 (absorbAll_small _ _) (by omega)).mono ?_
      rintro e w6 ⟨rfl, hb6⟩
      rw [Hfin.out]
      have hat6 := hat5.keep (w' := w6) (hb6.block g hat5.lt)
      have hrow6 := hrow5.below hb6 (Nat.le_refl _)
      have hb16 := hb15.trans (hb6.mono hb15.size)
      clear hat5 hrow5 hb6 hb15
      go_wp2_with fail
      refine (hashSum_any g w.heap.size _ rv3 A'.size _ _ hat6 hrow6 (absorbAll_small _ _) (by omega)).mono ?_
      rintro e w7 ⟨rfl, hb7⟩
      rw [Hfin.out]
      have hat7 := hat6.keep (w' := w7) (hb7.block g hat6.lt)
      have hrow7 := hrow6.below hb7 (Nat.le_refl _)
      have hb17 := hb16.trans (hb7.mono hb16.size)
      clear hat6 hrow6 hb7 hb16
      go_wp2_with fail
      go_roundg n
      case measure => omega
      case rel => exact ⟨k + 1, A', rv3, by omega, rfl, rfl, HA2, hat7, hrow7, hb17⟩
end Go.Proofs.Yteadfpbkhledlaa
