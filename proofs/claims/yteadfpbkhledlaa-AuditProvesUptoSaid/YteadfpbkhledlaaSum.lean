/- The walk of seal.Sum. -/
import Derived.Test.YteadfpbkhledlaaHashSum
namespace Go.Proofs.Yteadfpbkhledlaa
open Go.RowKit

/-- a text's sum -/
def sumOf (l : List UInt8) : List UInt8 := finish (absorbAll hNums l).1 (absorbAll hNums l).2 l.length

theorem blockF_len8 {h : List Int} {b : List UInt8} (hh : h.length = 8) : (blockF h b).length = 8 := by rw [blockF_length]; exact hh
theorem absorb_len8 : ∀ (n : Nat) (h : List Int) (l : List UInt8), h.length = 8 → (absorb n h l).1.length = 8
  | 0, h, l, hh => by unfold absorb; exact hh
  | n + 1, h, l, hh => by
    unfold absorb
    split
    · exact absorb_len8 n _ _ (blockF_len8 hh)
    · exact hh
theorem absorbAll_len8 {h : List Int} (l : List UInt8) (hh : h.length = 8) : (absorbAll h l).1.length = 8 := absorb_len8 _ _ _ hh
theorem absorb_small : ∀ (n : Nat) (h : List Int) (l : List UInt8), l.length < 64 * n + 64 → (absorb n h l).2.length < 64
  | 0, h, l, hl => by unfold absorb; simpa using hl
  | n + 1, h, l, hl => by
    unfold absorb
    split
    · exact absorb_small n _ _ (by simp; omega)
    · show l.length < 64; omega
theorem absorbAll_small (h : List Int) (l : List UInt8) : (absorbAll h l).2.length < 64 := absorb_small _ _ _ (by omega)
theorem sumOf_length (l : List UInt8) : (sumOf l).length = 32 := by
  unfold sumOf finish
  rw [outF_length, absorbAll_len8 _ (absorbAll_len8 _ (by rfl))]

set_option maxRecDepth 100000 in
theorem sum_any (s : ByteArray) (w : World) (hs : s.size ≤ 1099510579200) :
    Calls Try.prog 16 #[.string s] w fun e w' => e = .returned (.string ⟨(sumOf s.data.toList).toArray⟩) ∧ Below w.heap.size w w' := by
  go_enter Try.func16, Try.ntmps16
  go_wp2_with fail
  refine (new_any w).mono ?_
  rintro e w1 ⟨g, rfl, hg, hat, hb1⟩
  go_wp2_with fail
  refine (write_any g w.heap.size hNums (.slice none 0 0) 0 [] s w1 hat (OffRow.nil _ _ _) hg hb1.size (by simp) hs (by omega)).mono ?_
  rintro e w2 ⟨rv, rfl, hat2, hrow2, hb2⟩
  go_wp2_with fail
  refine (hashSum_any g w.heap.size _ rv (0 + s.size) _ w2 hat2 hrow2 (absorbAll_small _ _) (by omega)).mono ?_
  rintro e w3 ⟨rfl, hb3⟩
  go_wp2_with fail
  go_ret
  refine ⟨?_, ?_⟩
  · have hsl : s.size = s.data.toList.length := by simp
    have h := congrArg (fun n => Ending.returned (Value.string ⟨(finish (absorbAll hNums s.data.toList).1 (absorbAll hNums s.data.toList).2 n).toArray⟩)) hsl
    exact h
  · have h12 := hb1.trans hb2
    exact h12.trans (hb3.mono h12.size)
end Go.Proofs.Yteadfpbkhledlaa
