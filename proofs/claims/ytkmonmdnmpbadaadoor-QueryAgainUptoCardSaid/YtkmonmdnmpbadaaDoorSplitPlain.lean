/- strings.Split at one byte as a scan. Any program. -/
import Derived.Test.YtkmonmdnmpbadaaDoorReplPlain
import Derived.Lib.Split
namespace Go.Proofs.YtkmonmdnmpbadaaDoor
open Go Go.Lib

def splitL (c : UInt8) : List UInt8 → List (List UInt8)
  | [] => [[]]
  | x :: r => if x = c then [] :: splitL c r else match splitL c r with
    | h :: t => (x :: h) :: t
    | [] => [[x]]
theorem splitK_scan (c : UInt8) : ∀ s : List UInt8, splitK [c] 0 (count s [c]) s = splitL c s
  | [] => by
    have h1 : index ([] : List UInt8) [c] = -1 := by unfold index; rfl
    rw [count_miss h1]; rfl
  | x :: r => by
    have ih := splitK_scan c r
    rw [splitL]
    by_cases h : x = c
    · subst h
      rw [if_pos rfl, ← ih, count_cons_eq, Nat.add_comm]
      have h1 : index (x :: r) [x] = 0 := by unfold index; simp
      rw [splitK, h1]
      simp
    · rw [if_neg h, count_cons_ne x c r h, ← ih]
      have h1 : index (x :: r) [c] = if index r [c] == -1 then -1 else index r [c] + 1 := by
        rw [index, if_neg (by simp [List.isPrefixOf, Ne.symm h])]
      rcases index_spec r [c] with ⟨h2, _⟩ | ⟨i, h2, _, _⟩
      · rw [count_miss h2]; rfl
      · rw [h2, if_neg (by rw [beq_iff_eq]; omega)] at h1
        rw [count_hit (by simp) h2, Nat.add_comm, splitK, splitK, h1, h2, if_neg (by rw [beq_iff_eq]; omega), if_neg (by rw [beq_iff_eq]; omega)]
        have e1 : ((i : Int) + 1).toNat = i + 1 := by omega
        have e2 : ((i : Int)).toNat = i := by omega
        rw [e1, e2]
        simp
theorem splitL_ne (c : UInt8) (s : List UInt8) : splitL c s ≠ [] := by
  cases s with
  | nil => simp [splitL]
  | cons x r =>
    rw [splitL]
    split
    · simp
    · split <;> simp
/-- what was split is joined again -/
theorem splitL_join (c : UInt8) : ∀ s : List UInt8, (splitL c s).flatMap (fun p => c :: p) = c :: s
  | [] => rfl
  | x :: r => by
    have ih := splitL_join c r
    rw [splitL]
    by_cases h : x = c
    · rw [if_pos h, List.flatMap_cons, ih, h]; rfl
    · rw [if_neg h]
      cases hs : splitL c r with
      | nil => exact absurd hs (splitL_ne c r)
      | cons a t =>
        rw [hs, List.flatMap_cons] at ih
        simp only [List.cons_append, List.cons.injEq, true_and] at ih
        simp only [List.flatMap_cons, List.cons_append, ih]
theorem splitL_no (c : UInt8) : ∀ (s : List UInt8), ∀ p ∈ splitL c s, c ∉ p
  | [], p, hp => by
    obtain rfl : p = [] := by simpa [splitL] using hp
    simp
  | x :: r, p, hp => by
    have ih := splitL_no c r
    rw [splitL] at hp
    by_cases h : x = c
    · rw [if_pos h] at hp
      rcases List.mem_cons.1 hp with rfl | hp
      · simp
      · exact ih p hp
    · rw [if_neg h] at hp
      cases hs : splitL c r with
      | nil => exact absurd hs (splitL_ne c r)
      | cons a t =>
        rw [hs] at hp ih
        rcases List.mem_cons.1 hp with rfl | hp
        · intro hm
          rcases List.mem_cons.1 hm with e | hm
          · exact h e.symm
          · exact ih a (List.mem_cons_self ..) hm
        · exact ih p (List.mem_cons_of_mem _ hp)
theorem splitL_one (c : UInt8) : ∀ p : List UInt8, c ∉ p → splitL c p = [p]
  | [], _ => rfl
  | x :: r, h => by
    rw [splitL, if_neg (fun e => h (by rw [e]; exact List.mem_cons_self ..)), splitL_one c r fun hm => h (List.mem_cons_of_mem _ hm)]
theorem splitL_cut (c : UInt8) (s : List UInt8) : ∀ p : List UInt8, c ∉ p → splitL c (p ++ c :: s) = p :: splitL c s
  | [], _ => by rw [List.nil_append, splitL, if_pos rfl]
  | x :: r, h => by
    rw [List.cons_append, splitL, if_neg (fun e => h (by rw [e]; exact List.mem_cons_self ..)), splitL_cut c s r fun hm => h (List.mem_cons_of_mem _ hm)]
/-- what was joined is split again -/
theorem splitL_back (c : UInt8) : ∀ (p : List UInt8) (l : List (List UInt8)), (∀ q ∈ p :: l, c ∉ q) → splitL c (p ++ l.flatMap fun q => c :: q) = p :: l
  | p, [], h => by rw [List.flatMap_nil, List.append_nil, splitL_one c p (h p (List.mem_cons_self ..))]
  | p, q :: l, h => by
    rw [List.flatMap_cons, List.cons_append, splitL_cut c _ p (h p (List.mem_cons_self ..)), splitL_back c q l fun x hx => h x (List.mem_cons_of_mem _ hx)]
end Go.Proofs.YtkmonmdnmpbadaaDoor
