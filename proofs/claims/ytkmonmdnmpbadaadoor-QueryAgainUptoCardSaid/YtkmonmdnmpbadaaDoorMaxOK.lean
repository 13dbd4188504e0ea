/- What the library's string functions read: one variable's cell, of whatever value. -/
import Derived.Test.YtkmonmdnmpbadaaDoorShelf
import Derived.Test.YtkmonmdnmpbadaaDoorRow
namespace Go.Proofs.YtkmonmdnmpbadaaDoor
open Go.RowKit

/-- what the library's string functions read -/
def MaxOK (m : Int) (w : World) : Prop := w.cell? ⟨0, 0, none⟩ = some (.int .i64 m)
theorem MaxOK.below {m : Int} {w w' : World} (h : MaxOK m w) (hb : Below w.heap.size w w') : MaxOK m w' := by
  have hlt : 0 < w.heap.size := by
    rcases Nat.eq_zero_or_pos w.heap.size with h0 | h0
    · unfold MaxOK World.cell? at h
      rw [Array.getElem?_eq_none (by simpa using h0)] at h
      simp at h
    · exact h0
  exact (hb.cell (p := ⟨0, 0, none⟩) hlt).trans h
theorem MaxOK.drewN {m : Int} {w : World} (h : MaxOK m w) (k : Nat) : MaxOK m (w.drewN k) := h
theorem max_of {w : World} (h : w.ShapedOpen Tryd.prog) : ∃ m, MaxOK m w := Tryd.laysM143.s1_3 w h
end Go.Proofs.YtkmonmdnmpbadaaDoor
