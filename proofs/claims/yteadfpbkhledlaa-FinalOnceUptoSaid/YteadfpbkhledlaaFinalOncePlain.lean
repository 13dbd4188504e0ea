/- Who holds an object, one after the other asking for it. -/
import Derived.Test.YteadfpbkhledlaaFinalFree
namespace Go.Proofs.Yteadfpbkhledlaa
open Go.RowKit

def holdStep (hs : List ByteArray) (x : ByteArray) : List ByteArray := if holdCode false hs x = 0 then hs ++ [x] else hs
def holdAll (l : List ByteArray) : List ByteArray := l.foldl holdStep []
theorem holdCode_zero {hs : List ByteArray} {x : ByteArray} (h : holdCode false hs x = 0) : Lib.containsS hs x = false ∧ hs.length < 4 := by
  unfold holdCode at h
  by_cases h1 : NameP.check x.data.toList ≠ 0
  · rw [if_pos h1] at h; exact absurd h h1
  rw [if_neg h1, if_neg (by simp)] at h
  by_cases h3 : Lib.containsS hs x = true
  · rw [if_pos h3] at h; cases h
  rw [if_neg h3] at h
  by_cases h4 : 4 ≤ hs.length
  · rw [if_pos h4] at h; cases h
  · exact ⟨by simpa using h3, by omega⟩
theorem holdStep_ok {hs : List ByteArray} {x : ByteArray} (hl : hs.length ≤ 4) (hn : hs.Nodup) : (holdStep hs x).length ≤ 4 ∧ (holdStep hs x).Nodup ∧ hs.length ≤ (holdStep hs x).length := by
  unfold holdStep
  split
  · rename_i h
    obtain ⟨h1, h2⟩ := holdCode_zero h
    refine ⟨by simp; omega, ?_, by simp⟩
    rw [List.nodup_append]
    refine ⟨hn, by simp, fun a ha b hb e => ?_⟩
    simp at hb
    subst hb
    subst e
    have := (Lib.containsS_iff hs a).2 ha
    rw [h1] at this
    cases this
  · exact ⟨hl, hn, Nat.le_refl _⟩
theorem fold_ok (l : List ByteArray) : ∀ hs : List ByteArray, hs.length ≤ 4 → hs.Nodup → (l.foldl holdStep hs).length ≤ 4 ∧ (l.foldl holdStep hs).Nodup ∧ hs.length ≤ (l.foldl holdStep hs).length := by
  induction l with
  | nil => exact fun hs h1 h2 => ⟨h1, h2, Nat.le_refl _⟩
  | cons x r ih =>
    intro hs h1 h2
    obtain ⟨g1, g2, g3⟩ := holdStep_ok (x := x) h1 h2
    obtain ⟨k1, k2, k3⟩ := ih _ g1 g2
    exact ⟨k1, k2, by rw [List.foldl_cons]; omega⟩
theorem holdAll_ok (l : List ByteArray) : (holdAll l).length ≤ 4 ∧ (holdAll l).Nodup := by
  have := fold_ok l [] (by simp) (by simp)
  exact ⟨this.1, this.2.1⟩
theorem holdAll_take {l : List ByteArray} {j : Nat} {x : ByteArray} (h : l[j]? = some x) : holdAll (l.take (j + 1)) = holdStep (holdAll (l.take j)) x := by
  unfold holdAll
  rw [List.take_add_one, h, List.foldl_append]
  rfl
theorem holdA : holdCode false [] ⟨#[97]⟩ = 0 := by decide +kernel
theorem holdAll_a {l : List ByteArray} (h : l[0]? = some ⟨#[97]⟩) : 0 < (holdAll l).length := by
  match l, h with
  | x :: r, h =>
    simp only [List.getElem?_cons_zero, Option.some.injEq] at h
    subst h
    have h1 : holdStep [] ⟨#[97]⟩ = [⟨#[97]⟩] := by unfold holdStep; rw [if_pos holdA]; rfl
    have := fold_ok r [⟨#[97]⟩] (by simp) (by simp)
    unfold holdAll
    rw [List.foldl_cons, h1]
    have h3 := this.2.2
    simp at h3
    omega
/-- the holders that are left: all but the last n -/
theorem take_erase (hs : List ByteArray) (m : Nat) (hm : m < hs.length) : (hs.take (m + 1)).eraseIdx m = hs.take m := by
  rw [List.eraseIdx_eq_take_drop_succ, List.take_take, List.drop_eq_nil_of_le (by simp; omega)]
  simp
/-- the law's second loop: is this behind the last round; was the end asked for; how many have let go -/
def lastB (n i : Nat) : Bool := decide (i = n + 1)
def endB (k n i : Nat) : Bool := decide (k < i) && decide (k < n)
def freed (k i : Nat) : Nat := if i ≤ k then i else i - 1
theorem lastB_low {n i : Nat} (h : i ≤ n) : lastB n i = false := by unfold lastB; rw [decide_eq_false_iff_not]; omega
theorem lastB_at (n : Nat) : lastB n (n + 1) = true := by unfold lastB; simp
theorem endB_zero (k n : Nat) : endB k n 0 = false := by unfold endB; simp
theorem freed_low {k i : Nat} (h : i ≤ k) : freed k i = i := by unfold freed; rw [if_pos h]
theorem freed_high {k i : Nat} (h : k < i) : freed k i = i - 1 := by unfold freed; rw [if_neg (by omega)]
theorem endB_low {k n i : Nat} (h : i ≤ k) : endB k n i = false := by unfold endB; rw [decide_eq_false (by omega)]; rfl
theorem endB_high {k n i : Nat} (h : k < i) (h2 : k < n) : endB k n i = true := by unfold endB; rw [decide_eq_true h, decide_eq_true h2]; rfl
theorem endB_full {k n i : Nat} (h : n ≤ k) : endB k n i = false := by unfold endB; rw [decide_eq_false (p := k < n) (by omega), Bool.and_false]
end Go.Proofs.Yteadfpbkhledlaa
