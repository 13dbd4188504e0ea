/- Parameters of whatever type, opened: what their cells hold, and their share of the bound. Any program. -/
import Derived.Test.YtaddcchpidpbfaaDoorOpen
import Derived.Test.YtaddcchpidpbfaaDoorTabs
namespace Go.Proofs.YtaddcchpidpbfaaDoor
open Go.RowKit Go.ChangeShapes Go.WideShapes

/-- how some cells read -/
abbrev Rd (α : Type) := World → List Value → α → Prop
/-- what is in memory stays there -/
abbrev Keeps (w w' : World) : Prop := ∀ p v, w.cell? p = some v → w'.cell? p = some v
def Stays {α : Type} (R : Rd α) : Prop := ∀ w w' cs a, Keeps w w' → R w cs a → R w' cs a
theorem keeps_below {w w' : World} (h : Below w.heap.size w w') : Keeps w w' := fun _ _ hp => (h.cell (World.block_lt_of_cell? w _ hp)).trans hp
theorem keeps_refl (w : World) : Keeps w w := fun _ _ h => h
theorem keeps_trans {a b c : World} (h : Keeps a b) (k : Keeps b c) : Keeps a c := fun p v hp => k p v (h p v hp)

def RString : Rd ByteArray := fun _ cs s => cs = [.string s]
def RInt (k : IntKind) : Rd Int := fun _ cs n => cs = [.int k n] ∧ (Lit.int k n).wf = true
def RBool : Rd Bool := fun _ cs b => cs = [.bool b]
def RStrs : Rd (List ByteArray) := fun w cs l => ∃ v, cs = [v] ∧ StrAt w v l

/-- a slice: nil, or one whose elements (of k cells) read so -/
def RowAt {α : Type} (R : Rd α) (k : Nat) (w : World) (v : Value) (l : List α) : Prop :=
  (v = .slice none 0 0 ∧ l = []) ∨ ∃ a c, v = .slice (some a) l.length c ∧ l.length ≤ c ∧ c ≤ maxLen ∧
    ∀ j x, l[j]? = some x → ∃ cs, cs.length = k ∧ (∀ i u, cs[i]? = some u → w.cell? (a.add (j * k + i)) = some u) ∧ R w cs x
def RRow {α : Type} (R : Rd α) (k : Nat) : Rd (List α) := fun w cs l => ∃ v, cs = [v] ∧ RowAt R k w v l

theorem stays_string : Stays RString := fun _ _ _ _ _ h => h
theorem stays_int (k : IntKind) : Stays (RInt k) := fun _ _ _ _ _ h => h
theorem stays_bool : Stays RBool := fun _ _ _ _ _ h => h
theorem stays_strs : Stays RStrs := fun _ _ _ _ hk ⟨v, h1, h2⟩ => ⟨v, h1, h2.keep hk⟩
section
variable {α : Type} {R : Rd α} {k : Nat} {w w' : World} {v : Value} {l : List α}
theorem RowAt.keep (hs : Stays R) (h : RowAt R k w v l) (hk : Keeps w w') : RowAt R k w' v l := by
  rcases h with h | ⟨a, c, h1, h2, h3, h4⟩
  · exact .inl h
  · exact .inr ⟨a, c, h1, h2, h3, fun j x hx => by
      obtain ⟨cs, g1, g2, g3⟩ := h4 j x hx
      exact ⟨cs, g1, fun i u hu => hk _ _ (g2 i u hu), hs _ _ _ _ hk g3⟩⟩
theorem RowAt.below (hs : Stays R) (h : RowAt R k w v l) (hb : Below w.heap.size w w') : RowAt R k w' v l := h.keep hs (keeps_below hb)
theorem RowAt.nil (w : World) : RowAt R k w (.slice none 0 0) [] := .inl ⟨rfl, rfl⟩
theorem RowAt.len (h : RowAt R k w v l) : ∃ ao c, v = .slice ao l.length c ∧ l.length ≤ c ∧ c ≤ maxLen := by
  rcases h with ⟨rfl, rfl⟩ | ⟨a, c, rfl, h1, h2, _⟩
  · exact ⟨_, _, rfl, by simp, by simp⟩
  · exact ⟨_, _, rfl, h1, h2⟩
theorem stays_row (hs : Stays R) : Stays (RRow R k) := fun _ _ _ _ hk ⟨v, h1, h2⟩ => ⟨v, h1, h2.keep hs hk⟩
theorem RowAt.form (h : RowAt R k w v l) (hl : 0 < l.length) (hk : 0 < k) :
    ∃ b o c, v = .slice (some ⟨b, o, none⟩) l.length c ∧ l.length ≤ c ∧ c ≤ maxLen ∧ b < w.heap.size ∧
      ∀ j x, l[j]? = some x → ∃ cs, cs.length = k ∧ (∀ i u, cs[i]? = some u → w.cell? ⟨b, o + j * k + i, none⟩ = some u) ∧ R w cs x := by
  rcases h with ⟨_, rfl⟩ | ⟨a, c, rfl, h1, h2, h3⟩
  · simp at hl
  · obtain ⟨cs, g1, g2, _⟩ := h3 0 l[0] (by simp [hl])
    have h0 := g2 0 cs[0] (by simp)
    rw [show a.add (0 * k + 0) = a from by simp [Addr.add]] at h0
    have ha := spot_none h0
    refine ⟨a.block, a.off, c, by rw [← ha], h1, h2, World.block_lt_of_cell? w _ h0, fun j x hx => ?_⟩
    obtain ⟨cs, g1, g2, g3⟩ := h3 j x hx
    refine ⟨cs, g1, fun i u hu => ?_, g3⟩
    have h4 := g2 i u hu
    rw [ha, add_plain', ← Nat.add_assoc] at h4
    exact h4
theorem RowAt.cut (h : RowAt R k w v l) {b o c : Nat} (hv : v = .slice (some ⟨b, o, none⟩) l.length c) {i j : Nat} (hi : i ≤ j) (hj : j ≤ l.length) :
    RowAt R k w (.slice (some ⟨b, o + i * k, none⟩) (j - i) (c - i)) ((l.take j).drop i) := by
  rcases h with ⟨rfl, rfl⟩ | ⟨a, c', h0, h1, h2, h3⟩
  · cases hv
  · rw [h0] at hv
    obtain ⟨rfl, rfl⟩ : a = ⟨b, o, none⟩ ∧ c' = c := by injection hv with e1 e2 e3; exact ⟨by injection e1, e3⟩
    have hlen : ((l.take j).drop i).length = j - i := by simp; omega
    refine .inr ⟨_, _, by rw [hlen], by rw [hlen]; omega, by omega, fun m x hx => ?_⟩
    have hm : m < j - i := by have := (List.getElem?_eq_some_iff.1 hx).1; rwa [hlen] at this
    obtain ⟨cs, g1, g2, g3⟩ := h3 (i + m) x (by rw [List.getElem?_drop, List.getElem?_take_of_lt (by omega)] at hx; exact hx)
    refine ⟨cs, g1, fun q u hu => ?_, g3⟩
    have := g2 q u hu
    rw [add_plain'] at this ⊢
    rw [← this]
    congr 2
    rw [Nat.add_mul]
    omega
end
theorem RowAt.strs {w : World} {v : Value} {l : List ByteArray} (h : RowAt RString 1 w v l) : StrAt w v l := by
  rcases h with ⟨rfl, rfl⟩ | ⟨a, c, rfl, h1, h2, h3⟩
  · exact .inl ⟨rfl, rfl⟩
  · refine .inr ⟨a, c, rfl, h1, h2, fun j x hx => ?_⟩
    obtain ⟨cs, _, g2, rfl⟩ := h3 j x hx
    simpa using g2 0 _ rfl
theorem StrAt.row {w : World} {v : Value} {l : List ByteArray} (h : StrAt w v l) : RowAt RString 1 w v l := by
  rcases h with ⟨rfl, rfl⟩ | ⟨a, c, rfl, h1, h2, h3⟩
  · exact .inl ⟨rfl, rfl⟩
  · refine .inr ⟨a, c, rfl, h1, h2, fun j x hx => ⟨[.string x], rfl, fun i u hu => ?_, rfl⟩⟩
    match i, hu with
    | 0, hu => simp only [List.getElem?_cons_zero, Option.some.injEq] at hu; subst hu; simpa using h3 j x hx

theorem sum_ge_length {α : Type} (μ : α → Nat) (h : ∀ x, 1 ≤ μ x) (l : List α) : l.length ≤ (l.map μ).sum := by
  induction l with
  | nil => simp
  | cons x r ih => have := h x; simp only [List.length_cons, List.map_cons, List.sum_cons]; omega
/-- what a type's cells read as -/
def Opens (P : Program) (t : TypeId) {α : Type} (R : Rd α) (μ : α → Nat) : Prop :=
  ∀ (H : Type) (enc : TypeId × Value → H) (w : World) (base : Nat) (spare : Nat → Bool) (held : Bool) (fuel : Nat) (cs : List Value) (x : DataW H × List MemPlace),
    DataW.trod enc P w base spare held fuel t cs = some x → ∃ a, R w cs a ∧ μ a ≤ Rows.uptoBulk x.1

section
variable {P : Program} {t e : TypeId}
theorem opens_string (ht : P.underlying t = some .string) : Opens P t RString (fun s => s.size + 1) := fun _ _ _ _ _ _ _ _ _ h => by
  obtain ⟨s, rfl, rfl, _⟩ := DataW.trod_string ht h
  exact ⟨s, rfl, by simp [Rows.uptoBulk]⟩
theorem opens_int {k : IntKind} (ht : P.underlying t = some (.int k)) : Opens P t (RInt k) (fun _ => 1) := fun _ _ _ _ _ _ _ _ _ h => by
  obtain ⟨n, rfl, rfl, hw⟩ := DataW.trod_int ht h
  exact ⟨n, ⟨rfl, hw⟩, by simp [Rows.uptoBulk]⟩
theorem opens_bool (ht : P.underlying t = some .bool) : Opens P t RBool (fun _ => 1) := fun _ _ _ _ _ _ _ _ _ h => by
  obtain ⟨b, rfl, rfl⟩ := DataW.trod_bool ht h
  exact ⟨b, rfl, by simp [Rows.uptoBulk]⟩
theorem uptoBulkAll_append {H : Type} (l m : List (DataW H)) : Rows.uptoBulkAll (l ++ m) = Rows.uptoBulkAll l + Rows.uptoBulkAll m := by
  induction l with
  | nil => simp [Rows.uptoBulkAll]
  | cons d r ih => simp only [List.cons_append, Rows.uptoBulkAll, ih]; omega
theorem list_of_each {α : Type} {H : Type} (Q : Nat → α → Prop) (μ : α → Nat) (D : Nat → DataW H) : ∀ n : Nat, (∀ i, i < n → ∃ a, Q i a ∧ μ a ≤ Rows.uptoBulk (D i)) →
    ∃ l : List α, l.length = n ∧ (∀ i x, l[i]? = some x → Q i x) ∧ (l.map μ).sum ≤ Rows.uptoBulkAll ((List.range n).map D)
  | 0, _ => ⟨[], rfl, fun i x h => by simp at h, by simp⟩
  | n + 1, h => by
    obtain ⟨l, h1, h2, h3⟩ := list_of_each Q μ D n fun i hi => h i (by omega)
    obtain ⟨a, ha, hm⟩ := h n (by omega)
    refine ⟨l ++ [a], by simp [h1], fun i x hx => ?_, ?_⟩
    · by_cases hi : i < n
      · rw [List.getElem?_append_left (by omega)] at hx
        exact h2 i x hx
      · have : i = n := by have := (List.getElem?_eq_some_iff.1 hx).1; simp [h1] at this; omega
        subst this
        rw [List.getElem?_append_right (by omega), h1] at hx
        simp at hx
        subst hx
        exact ha
    · rw [List.range_succ, List.map_append (l₁ := List.range n), uptoBulkAll_append, List.map_append, List.sum_append]
      simp only [List.map_cons, List.map_nil, List.sum_cons, List.sum_nil, Rows.uptoBulkAll]
      omega
theorem opens_row {α : Type} {R : Rd α} {μ : α → Nat} {k : Nat} (ht : P.underlying t = some (.slice e)) (hC : P.cellsOf e = k) (h : Opens P e R μ) : Opens P t (RRow R k) (fun l => (l.map μ).sum + 1) := fun H enc w base spare held fuel cs x hx => by
  rcases Deep.open_slice ht hx with ⟨rfl, rfl⟩ | ⟨a, len, cap, m, n, D, Pl, rfl, _, hl, hm, hmm, rfl, hel⟩
  · exact ⟨[], ⟨_, rfl, .inl ⟨rfl, rfl⟩⟩, by simp [Rows.uptoBulk]⟩
  · have hlm : len ≤ m := by rw [hmm]; split <;> omega
    obtain ⟨l, h1, h2, h3⟩ := list_of_each (fun i y => ∃ cs, cs.length = k ∧ (∀ j u, cs[j]? = some u → w.cell? (a.add (i * k + j)) = some u) ∧ R w cs y) μ D len fun i hi => by
      obtain ⟨cs', hc, ht'⟩ := hel i (by omega)
      rw [hC] at hc
      obtain ⟨_, hcl, hat⟩ := World.cells?_some hc
      obtain ⟨y, hy, hb⟩ := h _ _ _ _ _ _ _ _ _ ht'
      refine ⟨y, ⟨cs', hcl, fun j u hu => ?_, hy⟩, hb⟩
      have hjk : j < k := by have := (List.getElem?_eq_some_iff.1 hu).1; omega
      rw [← Deep.add_add, hat j hjk]
      exact hu
    subst h1
    refine ⟨l, ⟨_, rfl, .inr ⟨a, cap, rfl, hl, hm, h2⟩⟩, ?_⟩
    simp only [Rows.uptoBulk]
    omega
theorem opens_strs (ht : P.underlying t = some (.slice e)) (he : P.underlying e = some .string) (hC : P.cellsOf e = 1) : Opens P t RStrs (fun l => total l + 1) := fun H enc w base spare held fuel cs x hx => by
  obtain ⟨l, ⟨v, rfl, h1⟩, h2⟩ := opens_row ht hC (opens_string he) H enc w base spare held fuel cs x hx
  exact ⟨l, ⟨v, rfl, h1.strs⟩, h2⟩
/-- a field's cells -/
theorem Opens.at {α : Type} {R : Rd α} {μ : α → Nat} (h : Opens P t R μ) {H : Type} {enc : TypeId × Value → H} {w : World} {base : Nat} {spare : Nat → Bool} {held : Bool} {fuel k o : Nat} {cs ds : List Value} {x : DataW H × List MemPlace}
    (hx : DataW.trod enc P w base spare held fuel t ((cs.drop o).take (P.cellsOf t)) = some x) (hk : P.cellsOf t = k) (hd : (cs.drop o).take k = ds) : ∃ a, R w ds a ∧ μ a ≤ Rows.uptoBulk x.1 := by
  rw [hk, hd] at hx
  exact h _ _ _ _ _ _ _ _ _ hx
end
end Go.Proofs.YtaddcchpidpbfaaDoor
