/- One block may have turned, no other that was there. Any program. -/
import Derived.Test.YtaddcchpidpbfaaDoorBox
import Derived.Test.YtaddcchpidpbfaaDoorRow
namespace Go.Proofs.YtaddcchpidpbfaaDoor
open Go.RowKit

/-- one block may have turned, no other that was there -/
structure But (g : Nat) (w w' : World) : Prop where
  os : w'.os = w.os
  tape : w'.tape = w.tape
  output : w'.output = w.output
  size : w.heap.size ≤ w'.heap.size
  block : ∀ k, k < w.heap.size → k ≠ g → w'.heap[k]? = w.heap[k]?
theorem But.refl (g : Nat) (w : World) : But g w w := ⟨rfl, rfl, rfl, Nat.le_refl _, fun _ _ _ => rfl⟩
theorem But.trans {g : Nat} {a b c : World} (h : But g a b) (k : But g b c) : But g a c :=
  ⟨k.os.trans h.os, k.tape.trans h.tape, k.output.trans h.output, Nat.le_trans h.size k.size, fun q hq hn => (k.block q (Nat.lt_of_lt_of_le hq h.size) hn).trans (h.block q hq hn)⟩
theorem But.of {g : Nat} {w w' : World} (h : Below w.heap.size w w') : But g w w' := ⟨h.os, h.tape, h.output, h.size, fun k hk _ => h.block k hk⟩
theorem But.touch {g : Nat} {w w' : World} (h : Touch g w w') : But g w w' := ⟨h.os, h.tape, h.output, by rw [h.size]; exact Nat.le_refl _, fun k _ hn => h.other k hn⟩
theorem But.below {g B : Nat} {a w w' : World} (h : But g w w') (hb : Below B a w) (hB : B ≤ w.heap.size) (hg : B ≤ g) : Below B a w' :=
  hb.trans ⟨h.os, h.tape, h.output, h.size, fun k hk => h.block k (by omega) (by omega)⟩
theorem But.keep {g k : Nat} {w w' : World} {x : Obj} (h : But g w w') (hx : w.heap[k]? = some x) (hn : k ≠ g) : w'.heap[k]? = some x := by
  have hb : k < w.heap.size := by
    rcases Nat.lt_or_ge k w.heap.size with h1 | h1
    · exact h1
    · rw [Array.getElem?_eq_none h1] at hx; cases hx
  exact (h.block k hb hn).trans hx
theorem But.cell {g : Nat} {w w' : World} {p : Addr} (h : But g w w') (hp : p.block < w.heap.size) (hn : p.block ≠ g) : w'.cell? p = w.cell? p := by
  unfold World.cell?
  rw [h.block _ hp hn]
section
variable {α : Type} {R : Rd α} {k : Nat} {e : TypeId} {v : Value} {l : List α} {B g : Nat} {w w' : World}
theorem OwnAt.but (hf : Flat R) (h : OwnAt R k w B e v l) (hb : But g w w') (hne : ∀ q, v.ownBlock = some q → q ≠ g) : OwnAt R k w' B e v l := by
  obtain ⟨css, h1, h2, h3, h4⟩ := h
  refine ⟨css, h1, h2, ⟨h3.1, ?_⟩, fun j cs y hcs hy => hf _ _ _ _ (h4 j cs y hcs hy)⟩
  rcases h3.2 with h5 | ⟨q, cap, cur, rfl, hB, hh, hr⟩
  · exact .inl h5
  · exact .inr ⟨q, cap, cur, rfl, hB, hb.keep hh (hne q rfl), hr⟩
theorem OwnAt.butLow (hf : Flat R) (h : OwnAt R k w B e v l) (hb : But g w w') (hg : g < B) : OwnAt R k w' B e v l :=
  h.but hf hb fun q hq => by have := (h.at hq).1; omega
end
end Go.Proofs.YtaddcchpidpbfaaDoor
