/- A scan over a text: the bytes that a test lets pass. Any program. -/
import Derived.Test.YtaddcchpidpbfaaDoorBytes
namespace Go.Proofs.YtaddcchpidpbfaaDoor
open Go

theorem drop_at {s : ByteArray} {i : Nat} (h : i < s.size) : s.data.toList.drop i = s[i] :: s.data.toList.drop (i + 1) := by
  have hl : s.data.toList.length = s.size := by simp
  rw [List.drop_eq_getElem_cons (by omega)]
  rfl
theorem drop_end {s : ByteArray} {i : Nat} (h : s.size ≤ i) : s.data.toList.drop i = [] := by
  have hl : s.data.toList.length = s.size := by simp
  exact List.drop_eq_nil_of_le (by omega)
/-- from a to i all pass -/
structure Runs (p : UInt8 → Bool) (s : ByteArray) (a i : Nat) : Prop where
  le : a ≤ i
  room : i ≤ s.size
  drop : (s.data.toList.drop a).dropWhile p = (s.data.toList.drop i).dropWhile p
  take : (s.data.toList.drop a).takeWhile p = (s.data.toList.drop a).take (i - a) ++ (s.data.toList.drop i).takeWhile p
theorem Runs.start (p : UInt8 → Bool) {s : ByteArray} {a : Nat} (h : a ≤ s.size) : Runs p s a a := ⟨Nat.le_refl _, h, rfl, by simp⟩
theorem Runs.step {p : UInt8 → Bool} {s : ByteArray} {a i : Nat} (h : Runs p s a i) (hi : i < s.size) (hp : p s[i] = true) : Runs p s a (i + 1) := by
  obtain ⟨h1, h2, h3, h4⟩ := h
  refine ⟨by omega, by omega, ?_, ?_⟩
  · rw [h3, drop_at hi, List.dropWhile_cons_of_pos hp]
  · rw [h4, drop_at hi, List.takeWhile_cons_of_pos hp]
    have : (s.data.toList.drop a).take (i + 1 - a) = (s.data.toList.drop a).take (i - a) ++ [s[i]] := by
      rw [show i + 1 - a = (i - a) + 1 by omega, List.take_add_one, List.getElem?_drop, show a + (i - a) = i by omega]
      have hl : s.data.toList.length = s.size := by simp
      rw [List.getElem?_eq_getElem (by omega)]
      rfl
    rw [this, List.append_assoc]
    rfl
theorem Runs.stop {p : UInt8 → Bool} {s : ByteArray} {a i : Nat} (h : Runs p s a i) (hi : ∀ h : i < s.size, p s[i] = false) :
    (s.data.toList.drop a).dropWhile p = s.data.toList.drop i ∧ (s.data.toList.drop a).takeWhile p = (s.data.toList.drop a).take (i - a) := by
  obtain ⟨h1, h2, h3, h4⟩ := h
  by_cases hl : i < s.size
  · rw [drop_at hl] at h3 h4
    rw [List.dropWhile_cons_of_neg (by rw [hi hl]; simp), ← drop_at hl] at h3
    rw [List.takeWhile_cons_of_neg (by rw [hi hl]; simp), List.append_nil] at h4
    exact ⟨h3, h4⟩
  · rw [drop_end (i := i) (by omega)] at h3 h4 ⊢
    exact ⟨h3, by simpa using h4⟩
/-- the first byte is let pass just if the scan went on -/
theorem Runs.moved {p : UInt8 → Bool} {s : ByteArray} {a i : Nat} (h : Runs p s a i) (hi : ∀ h : i < s.size, p s[i] = false) (ha : a < s.size) : decide (a < i) = p s[a] := by
  have h4 := (h.stop hi).2
  rw [drop_at ha] at h4
  cases hp : p s[a] with
  | true =>
    rw [List.takeWhile_cons_of_pos hp] at h4
    by_cases hai : a < i
    · exact decide_eq_true hai
    · rw [show i - a = 0 by omega] at h4; simp at h4
  | false =>
    rw [List.takeWhile_cons_of_neg (by rw [hp]; simp)] at h4
    by_cases hai : a < i
    · obtain ⟨k, hk⟩ : ∃ k, i - a = k + 1 := ⟨i - a - 1, by omega⟩
      rw [hk] at h4; simp at h4
    · exact decide_eq_false hai
/-- s[a:i] -/
theorem extract_take {s : ByteArray} {a i : Nat} (h1 : a ≤ i) (h2 : i ≤ s.size) : (s.extract a i).data.toList = (s.data.toList.drop a).take (i - a) := by
  simp [ByteArray.data_extract]
end Go.Proofs.YtaddcchpidpbfaaDoor
