/- The table of powers of ten that strconv reads. -/
import Derived.Test.YtaddcchpidpbfaaDoorKit
import Derived.Lib.LaidTab
import Derived.Test.YtaddcchpidpbfaaDoorShelf
namespace Go.Proofs.YtaddcchpidpbfaaDoor
open Go.RowKit

theorem var_keep {P : Program} {w w' : World} {n : String} {k : IntKind} {zs : List Int} (h : Lib.TabIs P w n k zs) (hb : Below w.heap.size w w') : Lib.TabIs P w' n k zs := by
  unfold Lib.TabIs World.var? at h ⊢
  cases hg : P.globalNamed n with
  | none => rw [hg] at h; cases h
  | some g =>
    rw [hg] at h
    simp only [Option.bind_some] at h ⊢
    have hlt : g < w.heap.size := by
      rcases Nat.lt_or_ge g w.heap.size with h1 | h1
      · exact h1
      · rw [Array.getElem?_eq_none h1] at h; cases h
    rw [hb.block g hlt]
    exact h
/-- the table that strconv reads -/
def TabOK (w : World) : Prop := Lib.TabIs Tryd.prog w "internal/strconv.uint64pow10" .u64 Lib.pow10Tab
theorem TabOK.below {w w' : World} (h : TabOK w) (hb : Below w.heap.size w w') : TabOK w' := var_keep h hb
end Go.Proofs.YtaddcchpidpbfaaDoor
