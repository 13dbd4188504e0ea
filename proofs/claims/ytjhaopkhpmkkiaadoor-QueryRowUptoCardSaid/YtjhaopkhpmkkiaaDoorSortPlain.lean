/- Sorted texts, each once: rising. Any program. -/
import Derived.Test.YtjhaopkhpmkkiaaDoorBytes
import Derived.Lib.SlicesCompact
import Derived.Sort.Walk0
namespace Go.Proofs.YtjhaopkhpmkkiaaDoor
open Go.RowKit Go.Sort Go.Proofs

def leL (x y : List UInt8) : Bool := decide (x ≤ y)
theorem leL_eq (x y : List UInt8) : leL x y = !Op.bytesLess y x := by
  unfold leL
  rw [bytesLess_eq]
  by_cases h : y < x
  · rw [decide_eq_true h, decide_eq_false (fun hle : x ≤ y => hle h)]; rfl
  · rw [decide_eq_false h, decide_eq_true (show x ≤ y from h)]; rfl
theorem leL_trans (x y z : List UInt8) (h : leL x y = true) (k : leL y z = true) : leL x z = true := by
  rw [leL_eq, Bool.not_eq_true'] at *
  cases hz : Op.bytesLess z x with
  | false => rfl
  | true =>
    cases hy : Op.bytesLess y z with
    | true => rw [bl_trans y z x hy hz] at h; cases h
    | false =>
      have := bl_total y z hy k
      subst this
      rw [hz] at h; cases h
theorem leL_total (x y : List UInt8) : (leL x y || leL y x) = true := by
  rw [leL_eq, leL_eq]
  cases h : Op.bytesLess y x with
  | false => rfl
  | true => rw [bl_asymm h]; rfl
def sortedL (l : List (List UInt8)) : List (List UInt8) := l.mergeSort fun x y => decide (x ≤ y)
theorem sorted_pair (l : List (List UInt8)) : (sortedL l).Pairwise fun x y => leL x y = true := List.pairwise_mergeSort (le := leL) leL_trans leL_total l
theorem sorted_mem (l : List (List UInt8)) (x : List UInt8) : x ∈ sortedL l ↔ x ∈ l := List.mem_mergeSort
theorem sorted_len (l : List (List UInt8)) : (sortedL l).length = l.length := List.length_mergeSort l
/-- each once -/
theorem compact_rising (zs : List (List UInt8)) (hs : zs.Pairwise fun x y => leL x y = true) :
    (Lib.compact zs).Pairwise (fun x y => Op.bytesLess x y = true) ∧ ∀ x, x ∈ Lib.compact zs ↔ x ∈ zs := by
  have hget : ∀ i j, i < j → j < zs.length → leL (zs.toArray[i]!) (zs.toArray[j]!) = true := fun i j hij hj => by
    have := List.pairwise_iff_getElem.1 hs i j (by omega) hj hij
    rwa [getElem!_pos zs.toArray i (by simpa using (by omega : i < zs.length)), getElem!_pos zs.toArray j (by simpa using hj)]
  have key : ∀ m, m ≤ zs.length → (Lib.compactUpTo zs.toArray m).Pairwise (fun x y => Op.bytesLess x y = true) ∧ (∀ x ∈ Lib.compactUpTo zs.toArray m, ∃ j, j < m ∧ x = zs.toArray[j]!) ∧ (∀ j, j < m → zs.toArray[j]! ∈ Lib.compactUpTo zs.toArray m) := fun m => by
    induction m with
    | zero => intro _; exact ⟨by simp [Lib.compactUpTo], by simp [Lib.compactUpTo], fun j hj => by omega⟩
    | succ m ih =>
      intro hm
      obtain ⟨h1, h2, h3⟩ := ih (by omega)
      rw [Lib.compactUpTo_succ]
      by_cases h0 : m = 0
      · subst h0
        rw [if_pos (Lib.keeps_lt_one _ 0 (by omega))]
        have : Lib.compactUpTo zs.toArray 0 = [] := by simp [Lib.compactUpTo]
        rw [this, List.nil_append]
        refine ⟨by simp, fun x hx => ⟨0, by omega, by simpa using hx⟩, fun j hj => ?_⟩
        obtain rfl : j = 0 := by omega
        simp
      · by_cases he : zs.toArray[m]! = zs.toArray[m - 1]!
        · rw [Lib.keeps_neg (by omega) he]
          simp only [Bool.false_eq_true, if_false, List.append_nil]
          refine ⟨h1, fun x hx => ?_, fun j hj => ?_⟩
          · obtain ⟨j, hj, e⟩ := h2 x hx
            exact ⟨j, by omega, e⟩
          · by_cases hjm : j = m
            · subst hjm
              rw [he]
              exact h3 _ (by omega)
            · exact h3 j (by omega)
        · rw [Lib.keeps_pos he, if_pos rfl]
          refine ⟨?_, fun x hx => ?_, fun j hj => ?_⟩
          · rw [List.pairwise_append]
            refine ⟨h1, by simp, fun a ha b hb => ?_⟩
            obtain rfl : b = zs.toArray[m]! := by simpa using hb
            obtain ⟨j, hj, rfl⟩ := h2 a ha
            have h4 : Op.bytesLess (zs.toArray[m - 1]!) (zs.toArray[m]!) = true := by
              have h5 := hget (m - 1) m (by omega) (by omega)
              rw [leL_eq, Bool.not_eq_true'] at h5
              cases h6 : Op.bytesLess (zs.toArray[m - 1]!) (zs.toArray[m]!) with
              | true => rfl
              | false => exact absurd (bl_total _ _ h6 h5).symm he
            by_cases hjm : j = m - 1
            · rw [hjm]; exact h4
            · have h5 := hget j (m - 1) (by omega) (by omega)
              rw [leL_eq, Bool.not_eq_true'] at h5
              cases h6 : Op.bytesLess (zs.toArray[j]!) (zs.toArray[m - 1]!) with
              | true => exact bl_trans _ _ _ h6 h4
              | false => rw [bl_total _ _ h6 h5]; exact h4
          · rcases List.mem_append.1 hx with hx | hx
            · obtain ⟨j, hj, e⟩ := h2 x hx
              exact ⟨j, by omega, e⟩
            · exact ⟨m, by omega, by simpa using hx⟩
          · by_cases hjm : j = m
            · subst hjm; simp
            · exact List.mem_append_left _ (h3 j (by omega))
  obtain ⟨h1, h2, h3⟩ := key zs.length (Nat.le_refl _)
  refine ⟨h1, fun x => ⟨fun hx => ?_, fun hx => ?_⟩⟩
  · obtain ⟨j, hj, rfl⟩ := h2 x hx
    rw [getElem!_pos zs.toArray j (by simpa using hj)]
    simp
  · obtain ⟨j, hj, rfl⟩ := List.getElem_of_mem hx
    have := h3 j hj
    rw [getElem!_pos zs.toArray j (by simpa using hj)] at this
    exact this
end Go.Proofs.YtjhaopkhpmkkiaaDoor
