/- ptr: Steps' test of a step is 'okEsc'. -/
import Derived.Test.YtmfcddbeglfdcaaDoorPtrPlain
import Derived.Test.YtmfcddbeglfdcaaDoorSplitPlain
namespace Go.Proofs.YtmfcddbeglfdcaaDoor
open Go Go.Lib

def headOK : List UInt8 → Bool
  | [] => false
  | x :: _ => x == 48 || x == 49
theorem okEsc_split (n : Nat) : ∀ s : List UInt8, s.length ≤ n → okEsc s = (splitL 126 s).tail.all headOK := by
  induction n with
  | zero =>
    intro s hs
    obtain rfl : s = [] := List.eq_nil_of_length_eq_zero (by omega)
    rfl
  | succ n ih =>
    intro s hs
    match s, hs with
    | [], _ => rfl
    | x :: r, hs =>
      by_cases hx : x = 126
      · subst hx
        rw [splitL, if_pos rfl, List.tail_cons]
        match r, hs with
        | [], _ => rfl
        | y :: r', hs =>
          rw [okEsc, if_pos rfl, splitL]
          by_cases hy : y = 126
          · subst hy
            rw [if_pos rfl, List.all_cons]
            rfl
          · rw [if_neg hy]
            have h2 := ih r' (by simp at hs; omega)
            cases hs2 : splitL 126 r' with
            | nil => exact absurd hs2 (splitL_ne 126 r')
            | cons a t =>
              rw [hs2, List.tail_cons] at h2
              rw [h2, List.all_cons]
              rfl
      · rw [okEsc_ne hx, splitL, if_neg hx, ih r (by simp at hs; omega)]
        cases hs2 : splitL 126 r with
        | nil => exact absurd hs2 (splitL_ne 126 r)
        | cons a t => rfl
end Go.Proofs.YtmfcddbeglfdcaaDoor
