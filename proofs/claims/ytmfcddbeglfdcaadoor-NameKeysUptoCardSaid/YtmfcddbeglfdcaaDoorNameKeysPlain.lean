/- NameKeys: the plain law. -/
import Derived.Test.YtmfcddbeglfdcaaDoorCheckKey
namespace Go.Proofs.YtmfcddbeglfdcaaDoor.NameP

theorem cut_none {l : List UInt8} (h : (47 : UInt8) ∉ l) : Lib.cut l [47] = (l, [], false) := by
  have h1 : Lib.index l [47] = -1 := by
    rw [Lib.index_one]
    induction l with
    | nil => rfl
    | cons b r ih =>
      unfold Lib.indexByte
      rw [if_neg (by intro e; exact h (by rw [beq_iff_eq] at e; rw [e]; exact List.mem_cons_self ..)), ih fun hm => h (List.mem_cons_of_mem _ hm)]
      rfl
  unfold Lib.cut
  rw [h1]
  simp
theorem cut_at {a b : List UInt8} (h : (47 : UInt8) ∉ a) : Lib.cut (a ++ 47 :: b) [47] = (a, b, true) := by
  have h1 : Lib.index (a ++ 47 :: b) [47] = (a.length : Int) := by
    rw [Lib.index_one]
    induction a with
    | nil => simp [Lib.indexByte]
    | cons x r ih =>
      rw [List.cons_append]
      unfold Lib.indexByte
      rw [if_neg (by intro e; exact h (by rw [beq_iff_eq] at e; rw [e]; exact List.mem_cons_self ..)), ih fun hm => h (List.mem_cons_of_mem _ hm)]
      rw [if_neg (by rw [beq_iff_eq]; omega)]
      simp
  unfold Lib.cut
  rw [h1]
  simp
theorem low_no {c : Nat} (h : low c = true ∨ dash c = true) : c ≠ 47 ∧ c ≠ 46 := by
  constructor
  · rintro rfl; revert h; decide
  · rintro rfl; revert h; decide
theorem isName_no {a : List UInt8} (h : isName a = true) : (47 : UInt8) ∉ a ∧ (46 : UInt8) ∉ a := by
  unfold isName at h
  rw [made_iff] at h
  obtain ⟨_, _, _, h3⟩ := h
  exact ⟨fun hm => (low_no (h3 _ hm)).1 rfl, fun hm => (low_no (h3 _ hm)).2 rfl⟩
theorem key_slash : checkKey [47] = 6 := by decide
theorem key_name {a : List UInt8} (h : check a = 0) : checkKey a = 0 := by
  rw [check_ok] at h
  have h1 : keyGood a = true := by
    unfold keyGood
    rw [cut_none (isName_no h.2).1]
    simp [h.1, isName_word h.2]
  unfold checkKey judge
  rw [if_neg (by omega), h1, if_pos rfl]
theorem val_slash {a b : List UInt8} : checkVal (a ++ 47 :: b) ≠ 0 := by
  have h1 : isWord (a ++ 47 :: b) = false := by
    cases h : isWord (a ++ 47 :: b) with
    | false => rfl
    | true =>
      unfold isWord at h
      rw [made_iff] at h
      obtain ⟨_, _, _, h3⟩ := h
      have := h3 47 (by simp)
      revert this; decide
  have h2 : (a ++ 47 :: b).isEmpty = false := by cases a <;> rfl
  unfold checkVal judge
  rw [h1, h2]
  split
  · decide
  · decide
theorem key_long {a b : List UInt8} (h : 63 < a.length + b.length) : checkKey (a ++ 47 :: b) = 2 := by
  unfold checkKey judge
  rw [if_pos (by simp; omega)]
theorem key_two {a b : List UInt8} (ha : check a = 0) (h : ¬ 63 < a.length + b.length) : (checkKey (a ++ 47 :: b) == 0) = (!b.isEmpty && (checkVal b == 0)) := by
  rw [check_ok] at ha
  have hn := isName_no ha.2
  have h1 : keyGood (a ++ 47 :: b) = isWord b := by
    unfold keyGood
    rw [cut_at hn.1]
    simp only [if_true]
    rw [splitL_one 46 a hn.2]
    simp [part, ha.1, ha.2]
    intro _; omega
  have h2 : (checkKey (a ++ 47 :: b) == 0) = isWord b := by
    unfold checkKey judge
    rw [if_neg (by simp; omega), h1]
    cases isWord b <;> rfl
  rw [h2]
  unfold checkVal judge
  rw [if_neg (by omega)]
  cases b with
  | nil => rfl
  | cons x r => cases h3 : isWord (x :: r) <;> simp
end Go.Proofs.YtmfcddbeglfdcaaDoor.NameP
