/- A parameter that is a slice of texts, opened: what its cells hold, and its share of the bound. -/
import Derived.Test.YtaddcchpidpbfaaDoorRows
import Derived.Test.YtaddcchpidpbfaaDoorStrs
namespace Go.Proofs.YtaddcchpidpbfaaDoor
open Go.RowKit Go.ChangeShapes Go.WideShapes

/-- what a row of texts takes of the bound -/
def total (l : List ByteArray) : Nat := (l.map fun s => s.size + 1).sum
theorem total_mem {l : List ByteArray} {x : ByteArray} (h : x ∈ l) : x.size + 1 ≤ total l := by
  induction l with
  | nil => cases h
  | cons y r ih =>
    simp only [total, List.map_cons, List.sum_cons]
    rcases List.mem_cons.1 h with rfl | h
    · omega
    · have := ih h
      simp only [total] at this
      omega
theorem total_length (l : List ByteArray) : l.length ≤ total l := by
  induction l with
  | nil => simp
  | cons y r ih =>
    simp only [total, List.map_cons, List.sum_cons, List.length_cons] at *
    omega
theorem bulk_strs {H : Type} (l : List ByteArray) : Rows.uptoBulkAll (l.map fun s => (DataW.lit (.string s.data.toList) : DataW H)) = total l := by
  induction l with
  | nil => rfl
  | cons y r ih =>
    simp only [List.map_cons, Rows.uptoBulkAll, Rows.uptoBulk, ih, total, List.sum_cons]
    simp
theorem open_strAt {H : Type} {enc : TypeId × Value → H} {P : Program} {w : World} {base : Nat} {spare : Nat → Bool} {held : Bool} {t e : TypeId} {v : Value} {d : DataW H} {ps : List MemPlace}
    (ht : P.underlying t = some (.slice e)) (he : P.underlying e = some .string) (hc : P.cellsOf e = 1) (hv : v.cells = #[v]) (h : DataW.Trod enc P w base spare held t v d ps) :
    ∃ l, StrAt w v l ∧ total l + 1 ≤ Rows.uptoBulk d := by
  obtain ⟨fuel, hf⟩ := h
  rw [hv] at hf
  rcases Deep.open_strs ht he hc hf with ⟨hcs, hx⟩ | ⟨a, len, cap, m, Sx, hcs, _, hl, hm, hmm, hx, hcell⟩
  · simp only [List.cons.injEq, and_true] at hcs
    obtain ⟨rfl, rfl⟩ := Prod.mk.inj hx
    exact ⟨[], .inl ⟨hcs, rfl⟩, by simp [total, Rows.uptoBulk]⟩
  · simp only [List.cons.injEq, and_true] at hcs
    obtain ⟨rfl, rfl⟩ := Prod.mk.inj hx
    have hlm : len ≤ m := by rw [hmm]; split <;> omega
    refine ⟨(List.range len).map Sx, .inr ⟨a, cap, by rw [hcs]; simp, by simpa using hl, hm, fun j x hj => ?_⟩, ?_⟩
    · have hj' : j < len := by have := (List.getElem?_eq_some_iff.1 hj).1; simpa using this
      rw [List.getElem?_map, List.getElem?_range hj'] at hj
      simp only [Option.map_some, Option.some.injEq] at hj
      subst hj
      exact (hcell j (by omega)).1
    · have : ((List.range len).map fun i => (DataW.lit (.string (Sx i).data.toList) : DataW H)) = ((List.range len).map Sx).map fun s => (DataW.lit (.string s.data.toList) : DataW H) := by rw [List.map_map]; rfl
      rw [this]
      simp only [Rows.uptoBulk, bulk_strs]
      omega
end Go.Proofs.YtaddcchpidpbfaaDoor
