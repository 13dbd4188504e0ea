/- strings.ReplaceAll as a scan: three rules. Any program. -/
import Derived.Lib.Replace
import Derived.Lib.CountLaws
import Derived.Lib.SplitLaws
namespace Go.Proofs.YtkmonmdnmpbadaaDoor
open Go Go.Lib

theorem replaceAll_eq {old new : List UInt8} (hne : old ≠ new) (s : List UInt8) : replaceAll s old new = replaceK old new (count s old) s := by
  unfold replaceAll replace
  rw [if_neg (by simpa using hne)]
  unfold replaceNum
  rw [if_pos (.inl (by decide))]
theorem replaceAll_nil {old new : List UInt8} (h0 : old ≠ []) (hne : old ≠ new) : replaceAll [] old new = [] := by
  rw [replaceAll_eq hne]
  have h1 : index [] old = -1 := by
    unfold index
    rw [if_neg (by simpa using h0)]
  rw [count_miss h1]
  rfl
theorem replaceAll_hit {old new : List UInt8} (h0 : old ≠ []) (hne : old ≠ new) (t : List UInt8) : replaceAll (old ++ t) old new = new ++ replaceAll t old new := by
  rw [replaceAll_eq hne, replaceAll_eq hne]
  have h1 : index (old ++ t) old = (0 : Nat) := by
    obtain ⟨c, r, rfl⟩ : ∃ c r, old = c :: r := by cases old with | nil => exact absurd rfl h0 | cons c r => exact ⟨c, r, rfl⟩
    rw [List.cons_append, index, if_pos (by rw [List.isPrefixOf_iff_prefix, ← List.cons_append]; exact List.prefix_append _ _)]
    rfl
  rw [count_hit h0 h1, Nat.add_comm, replaceK_hit _ _ _ _ _ h1]
  simp
theorem replaceAll_miss {old new : List UInt8} (h0 : old ≠ []) (hne : old ≠ new) {x : UInt8} {s : List UInt8} (h : old.isPrefixOf (x :: s) = false) : replaceAll (x :: s) old new = x :: replaceAll s old new := by
  rw [replaceAll_eq hne, replaceAll_eq hne]
  have h1 : index (x :: s) old = if index s old == -1 then -1 else index s old + 1 := by
    rw [index, if_neg (by rw [h]; simp)]
  rcases index_spec s old with ⟨h2, _⟩ | ⟨i, h2, _, _⟩
  · rw [h2, if_pos (by decide)] at h1
    rw [count_miss h1, count_miss h2]
    rfl
  · rw [h2, if_neg (by rw [beq_iff_eq]; omega)] at h1
    have h3 : index (x :: s) old = ((i + 1 : Nat) : Int) := by rw [h1]; omega
    rw [count_hit h0 h3, count_hit h0 h2, show i + 1 + old.length = (i + old.length) + 1 by omega, List.drop_succ_cons, Nat.add_comm, replaceK_hit _ _ _ _ _ h3, replaceK_hit _ _ _ _ _ h2, show i + 1 + old.length = (i + old.length) + 1 by omega]
    simp
/-- one byte: each for itself -/
theorem replaceAll_one {c : UInt8} {new : List UInt8} (hne : [c] ≠ new) : ∀ s : List UInt8, replaceAll s [c] new = s.flatMap fun b => if b = c then new else [b]
  | [] => replaceAll_nil (by simp) hne
  | x :: s => by
    rw [List.flatMap_cons, ← replaceAll_one hne s]
    by_cases h : x = c
    · subst h
      rw [if_pos rfl]
      exact replaceAll_hit (old := [x]) (by simp) hne s
    · rw [if_neg h]
      exact replaceAll_miss (by simp) hne (by simp [List.isPrefixOf, Ne.symm h])
/-- two bytes: a scan -/
def rep2 (a b : UInt8) (new : List UInt8) : List UInt8 → List UInt8
  | [] => []
  | [x] => [x]
  | x :: y :: r => if x = a ∧ y = b then new ++ rep2 a b new r else x :: rep2 a b new (y :: r)
theorem replaceAll_two {a b : UInt8} {new : List UInt8} (hne : [a, b] ≠ new) : ∀ s : List UInt8, replaceAll s [a, b] new = rep2 a b new s
  | [] => replaceAll_nil (by simp) hne
  | [x] => by
    rw [replaceAll_miss (by simp) hne (by simp [List.isPrefixOf]), replaceAll_nil (by simp) hne]
    rfl
  | x :: y :: r => by
    rw [rep2]
    by_cases h : x = a ∧ y = b
    · obtain ⟨rfl, rfl⟩ := h
      rw [if_pos ⟨rfl, rfl⟩, ← replaceAll_two hne r]
      exact replaceAll_hit (old := [x, y]) (by simp) hne r
    · rw [if_neg h, ← replaceAll_two hne (y :: r)]
      refine replaceAll_miss (by simp) hne ?_
      rw [← Bool.not_eq_true, List.isPrefixOf_iff_prefix]
      rintro ⟨t, ht⟩
      simp only [List.cons_append, List.nil_append, List.cons.injEq] at ht
      exact h ⟨ht.1.symm, ht.2.1.symm⟩
end Go.Proofs.YtkmonmdnmpbadaaDoor
