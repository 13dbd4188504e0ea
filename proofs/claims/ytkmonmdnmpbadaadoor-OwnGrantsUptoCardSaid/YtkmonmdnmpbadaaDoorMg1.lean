/- Texts of ours joined. -/
import Derived.WalkKit
import Derived.Deep.AppendLies
import Derived.Laws.BytesArg
import Derived.Laws.AppendOwn
import Derived.Laws.AppendOwnNone
import Derived.Deep.Strs
import Derived.Lib.Hide
import Derived.Test.YtkmonmdnmpbadaaDoorChecked
import Derived.KernelRfl
import Derived.Test.YtkmonmdnmpbadaaDoorRows
import Derived.ArgAppend
import Derived.Maps.AppendAt
import Derived.Deep.Upon
import Derived.Laws.OwnMore
import Derived.StillTail
import Derived.StillTactics
import Derived.Deep.RegionHeld3
import Derived.Laws.Tables
import Derived.Laws.Rows
import Derived.Deep.DeepAppendRoom
import Derived.Laws.MakeOwn
import Derived.Deep.LoopGhost
import Derived.Test.YtkmonmdnmpbadaaDoorShelf
import Derived.WalkLawsBesides
import Derived.WalkSpells
set_option linter.unusedVariables false
set_option linter.unusedSimpArgs false
namespace Go.Proofs.YtkmonmdnmpbadaaDoor
open Go.RowKit
theorem take_snoc (s : ByteArray) (k : Nat) (h : k < s.size) : s.data.toList.take (k + 1) = s.data.toList.take k ++ [s[k]] := by
  rw [List.take_succ_eq_append_getElem (by simpa using h)]; rfl
/-- a call of a function that has a body enters it -/
theorem run_callFunc_body {P : Program} {f : FuncId} {fn : Func} (hf : P.funcs[f]? = some fn) (hname : (fn.name == "runtime.NumGoroutine") = false) (hb : fn.body.isNone = false) (args : Array Value) (w : World) :
    (callFunc f args).run P w = .ok (.enter f args) w := by
  have h1 : fn.name ≠ "runtime.NumGoroutine" := by simpa using hname
  have h2 : ¬ fn.body = none := fun e => by rw [e] at hb; cases hb
  simp [callFunc, hf, h1, h2]
theorem cell_block {w : World} {g : Nat} {cs : Array Value} {t : TypeId} {fr : Nat × Nat} (h : w.heap[g]? = some (.cells cs t fr)) (i : Nat) : w.cell? ⟨g, i, none⟩ = cs[i]? := by simp [World.cell?, h]
theorem free_block {w : World} {g : Nat} {cs : Array Value} {t : TypeId} (h : w.heap[g]? = some (.cells cs t (0, 0))) (i : Nat) : w.frozen? ⟨g, i, none⟩ = false := by simp [World.frozen?, h]
end Go.Proofs.YtkmonmdnmpbadaaDoor
namespace Go.Proofs.YtkmonmdnmpbadaaDoor
open Go.RowKit
def strs (l : List ByteArray) : List Value := l.map Value.string
theorem strs_length (l : List ByteArray) : (strs l).length = l.length := by simp [strs]
theorem strs_append (l m : List ByteArray) : strs (l ++ m) = strs l ++ strs m := by simp [strs]
theorem strs_get {l : List ByteArray} {j : Nat} {x : ByteArray} (h : l[j]? = some x) : (strs l)[j]? = some (.string x) := by simp [strs, h]
/-- a slice of strings: nil, or one whose cells hold these texts -/
def StrAt (w : World) (v : Value) (l : List ByteArray) : Prop :=
  (v = .slice none 0 0 ∧ l = []) ∨ ∃ a c, v = .slice (some a) l.length c ∧ l.length ≤ c ∧ c ≤ maxLen ∧ ∀ j x, l[j]? = some x → w.cell? (a.add j) = some (.string x)
section
variable {w w' : World} {v : Value} {l : List ByteArray}
theorem StrAt.nil (w : World) : StrAt w (.slice none 0 0) [] := .inl ⟨rfl, rfl⟩
theorem StrAt.len (h : StrAt w v l) : ∃ ao c, v = .slice ao l.length c ∧ l.length ≤ c ∧ c ≤ maxLen := by
  rcases h with ⟨rfl, rfl⟩ | ⟨a, c, rfl, h1, h2, _⟩
  · exact ⟨_, _, rfl, by simp, by simp⟩
  · exact ⟨_, _, rfl, h1, h2⟩
theorem spot_none {a : Addr} {x : Value} (h : w.cell? a = some x) : a = ⟨a.block, a.off, none⟩ := by
  obtain ⟨b, o, s⟩ := a
  cases s with
  | none => rfl
  | some s =>
    unfold World.cell? at h
    simp only at h
    split at h
    · simp at h
    · cases h
theorem add_plain' (b o j : Nat) : (⟨b, o, none⟩ : Addr).add j = ⟨b, o + j, none⟩ := by unfold Addr.add; split <;> simp_all
theorem StrAt.form (h : StrAt w v l) (hl : 0 < l.length) :
    ∃ b o c, v = .slice (some ⟨b, o, none⟩) l.length c ∧ l.length ≤ c ∧ c ≤ maxLen ∧ b < w.heap.size ∧ ∀ j x, l[j]? = some x → w.cell? ⟨b, o + j, none⟩ = some (.string x) := by
  rcases h with ⟨_, rfl⟩ | ⟨a, c, rfl, h1, h2, h3⟩
  · simp at hl
  · have h0 := h3 0 l[0] (by simp [hl])
    rw [show a.add 0 = a from by simp [Addr.add]] at h0
    have ha := spot_none h0
    refine ⟨a.block, a.off, c, by rw [← ha], h1, h2, World.block_lt_of_cell? w _ h0, fun j x hx => ?_⟩
    have h4 := h3 j x hx
    rw [ha, add_plain'] at h4
    exact h4
theorem StrAt.keep (h : StrAt w v l) (hk : ∀ p x, w.cell? p = some x → w'.cell? p = some x) : StrAt w' v l := by
  rcases h with ⟨rfl, rfl⟩ | ⟨a, c, rfl, h1, h2, h3⟩
  · exact .inl ⟨rfl, rfl⟩
  · exact .inr ⟨a, c, rfl, h1, h2, fun j x hx => hk _ _ (h3 j x hx)⟩
theorem StrAt.below (h : StrAt w v l) (hb : Below w.heap.size w w') : StrAt w' v l :=
  h.keep fun p x hp => by rw [← hp]; exact hb.cell (World.block_lt_of_cell? w _ hp)
theorem StrAt.drew (h : StrAt w v l) : StrAt w.drew v l := h
theorem StrAt.cut (h : StrAt w v l) {b o c : Nat} (hv : v = .slice (some ⟨b, o, none⟩) l.length c) {i j : Nat} (hi : i ≤ j) (hj : j ≤ l.length) : StrAt w (.slice (some ⟨b, o + i, none⟩) (j - i) (c - i)) ((l.take j).drop i) := by
  rcases h with ⟨rfl, rfl⟩ | ⟨a, c', h0, h1, h2, h3⟩
  · cases hv
  · rw [h0] at hv
    obtain ⟨rfl, rfl⟩ : a = ⟨b, o, none⟩ ∧ c' = c := by injection hv with e1 e2 e3; exact ⟨by injection e1, e3⟩
    have hlen : ((l.take j).drop i).length = j - i := by simp; omega
    refine .inr ⟨_, _, by rw [hlen], by rw [hlen]; omega, by omega, fun k x hx => ?_⟩
    have hk : k < j - i := by have := (List.getElem?_eq_some_iff.1 hx).1; rwa [hlen] at this
    have := h3 (i + k) x (by rw [List.getElem?_drop, List.getElem?_take_of_lt (by omega)] at hx; exact hx)
    rw [add_plain'] at this ⊢
    rw [← this]
    congr 2
    omega
end
end Go.Proofs.YtkmonmdnmpbadaaDoor
namespace Go.Proofs.YtkmonmdnmpbadaaDoor
theorem Tryd.infoStr : (Tryd.prog.info? 9).map (fun i => (i.zero, i.size, i.bytes)) = some (some (.string ByteArray.empty), 1, 16) := by kernel_rfl
end Go.Proofs.YtkmonmdnmpbadaaDoor
namespace Go.Proofs.YtkmonmdnmpbadaaDoor
open Go.RowKit Go.ChangeShapes Go.WideShapes
/-- what a row of texts takes of the bound -/
def total (l : List ByteArray) : Nat := (l.map fun s => s.size + 1).sum
theorem total_mem {l : List ByteArray} {x : ByteArray} (h : x ∈ l) : x.size + 1 ≤ total l := by
  induction l with
  | nil => cases h
  | cons y r ih =>
    simp only [total, List.map_cons, List.sum_cons]
    rcases List.mem_cons.1 h with rfl | h
    · omega
    · have := ih h
      simp only [total] at this
      omega
theorem total_length (l : List ByteArray) : l.length ≤ total l := by
  induction l with
  | nil => simp
  | cons y r ih =>
    simp only [total, List.map_cons, List.sum_cons, List.length_cons] at *
    omega
end Go.Proofs.YtkmonmdnmpbadaaDoor
namespace Go.Proofs.YtkmonmdnmpbadaaDoor
open Go.RowKit Go.ChangeShapes Go.WideShapes
/-- how some cells read -/
abbrev Rd (α : Type) := World → List Value → α → Prop
/-- what is in memory stays there -/
abbrev Keeps (w w' : World) : Prop := ∀ p v, w.cell? p = some v → w'.cell? p = some v
def Stays {α : Type} (R : Rd α) : Prop := ∀ w w' cs a, Keeps w w' → R w cs a → R w' cs a
theorem keeps_below {w w' : World} (h : Below w.heap.size w w') : Keeps w w' := fun _ _ hp => (h.cell (World.block_lt_of_cell? w _ hp)).trans hp
def RString : Rd ByteArray := fun _ cs s => cs = [.string s]
def RBool : Rd Bool := fun _ cs b => cs = [.bool b]
def RStrs : Rd (List ByteArray) := fun w cs l => ∃ v, cs = [v] ∧ StrAt w v l
/-- a slice: nil, or one whose elements (of k cells) read so -/
def RowAt {α : Type} (R : Rd α) (k : Nat) (w : World) (v : Value) (l : List α) : Prop :=
  (v = .slice none 0 0 ∧ l = []) ∨ ∃ a c, v = .slice (some a) l.length c ∧ l.length ≤ c ∧ c ≤ maxLen ∧
    ∀ j x, l[j]? = some x → ∃ cs, cs.length = k ∧ (∀ i u, cs[i]? = some u → w.cell? (a.add (j * k + i)) = some u) ∧ R w cs x
def RRow {α : Type} (R : Rd α) (k : Nat) : Rd (List α) := fun w cs l => ∃ v, cs = [v] ∧ RowAt R k w v l
theorem stays_string : Stays RString := fun _ _ _ _ _ h => h
theorem stays_strs : Stays RStrs := fun _ _ _ _ hk ⟨v, h1, h2⟩ => ⟨v, h1, h2.keep hk⟩
section
variable {α : Type} {R : Rd α} {k : Nat} {w w' : World} {v : Value} {l : List α}
theorem RowAt.keep (hs : Stays R) (h : RowAt R k w v l) (hk : Keeps w w') : RowAt R k w' v l := by
  rcases h with h | ⟨a, c, h1, h2, h3, h4⟩
  · exact .inl h
  · exact .inr ⟨a, c, h1, h2, h3, fun j x hx => by
      obtain ⟨cs, g1, g2, g3⟩ := h4 j x hx
      exact ⟨cs, g1, fun i u hu => hk _ _ (g2 i u hu), hs _ _ _ _ hk g3⟩⟩
theorem RowAt.below (hs : Stays R) (h : RowAt R k w v l) (hb : Below w.heap.size w w') : RowAt R k w' v l := h.keep hs (keeps_below hb)
theorem RowAt.nil (w : World) : RowAt R k w (.slice none 0 0) [] := .inl ⟨rfl, rfl⟩
theorem RowAt.len (h : RowAt R k w v l) : ∃ ao c, v = .slice ao l.length c ∧ l.length ≤ c ∧ c ≤ maxLen := by
  rcases h with ⟨rfl, rfl⟩ | ⟨a, c, rfl, h1, h2, _⟩
  · exact ⟨_, _, rfl, by simp, by simp⟩
  · exact ⟨_, _, rfl, h1, h2⟩
theorem RowAt.form (h : RowAt R k w v l) (hl : 0 < l.length) (hk : 0 < k) :
    ∃ b o c, v = .slice (some ⟨b, o, none⟩) l.length c ∧ l.length ≤ c ∧ c ≤ maxLen ∧ b < w.heap.size ∧
      ∀ j x, l[j]? = some x → ∃ cs, cs.length = k ∧ (∀ i u, cs[i]? = some u → w.cell? ⟨b, o + j * k + i, none⟩ = some u) ∧ R w cs x := by
  rcases h with ⟨_, rfl⟩ | ⟨a, c, rfl, h1, h2, h3⟩
  · simp at hl
  · obtain ⟨cs, g1, g2, _⟩ := h3 0 l[0] (by simp [hl])
    have h0 := g2 0 cs[0] (by simp)
    rw [show a.add (0 * k + 0) = a from by simp [Addr.add]] at h0
    have ha := spot_none h0
    refine ⟨a.block, a.off, c, by rw [← ha], h1, h2, World.block_lt_of_cell? w _ h0, fun j x hx => ?_⟩
    obtain ⟨cs, g1, g2, g3⟩ := h3 j x hx
    refine ⟨cs, g1, fun i u hu => ?_, g3⟩
    have h4 := g2 i u hu
    rw [ha, add_plain', ← Nat.add_assoc] at h4
    exact h4
theorem RowAt.cut (h : RowAt R k w v l) {b o c : Nat} (hv : v = .slice (some ⟨b, o, none⟩) l.length c) {i j : Nat} (hi : i ≤ j) (hj : j ≤ l.length) :
    RowAt R k w (.slice (some ⟨b, o + i * k, none⟩) (j - i) (c - i)) ((l.take j).drop i) := by
  rcases h with ⟨rfl, rfl⟩ | ⟨a, c', h0, h1, h2, h3⟩
  · cases hv
  · rw [h0] at hv
    obtain ⟨rfl, rfl⟩ : a = ⟨b, o, none⟩ ∧ c' = c := by injection hv with e1 e2 e3; exact ⟨by injection e1, e3⟩
    have hlen : ((l.take j).drop i).length = j - i := by simp; omega
    refine .inr ⟨_, _, by rw [hlen], by rw [hlen]; omega, by omega, fun m x hx => ?_⟩
    have hm : m < j - i := by have := (List.getElem?_eq_some_iff.1 hx).1; rwa [hlen] at this
    obtain ⟨cs, g1, g2, g3⟩ := h3 (i + m) x (by rw [List.getElem?_drop, List.getElem?_take_of_lt (by omega)] at hx; exact hx)
    refine ⟨cs, g1, fun q u hu => ?_, g3⟩
    have := g2 q u hu
    rw [add_plain'] at this ⊢
    rw [← this]
    congr 2
    rw [Nat.add_mul]
    omega
end
theorem RowAt.strs {w : World} {v : Value} {l : List ByteArray} (h : RowAt RString 1 w v l) : StrAt w v l := by
  rcases h with ⟨rfl, rfl⟩ | ⟨a, c, rfl, h1, h2, h3⟩
  · exact .inl ⟨rfl, rfl⟩
  · refine .inr ⟨a, c, rfl, h1, h2, fun j x hx => ?_⟩
    obtain ⟨cs, _, g2, rfl⟩ := h3 j x hx
    simpa using g2 0 _ rfl
theorem StrAt.row {w : World} {v : Value} {l : List ByteArray} (h : StrAt w v l) : RowAt RString 1 w v l := by
  rcases h with ⟨rfl, rfl⟩ | ⟨a, c, rfl, h1, h2, h3⟩
  · exact .inl ⟨rfl, rfl⟩
  · refine .inr ⟨a, c, rfl, h1, h2, fun j x hx => ⟨[.string x], rfl, fun i u hu => ?_, rfl⟩⟩
    match i, hu with
    | 0, hu => simp only [List.getElem?_cons_zero, Option.some.injEq] at hu; subst hu; simpa using h3 j x hx
theorem sum_ge_length {α : Type} (μ : α → Nat) (h : ∀ x, 1 ≤ μ x) (l : List α) : l.length ≤ (l.map μ).sum := by
  induction l with
  | nil => simp
  | cons x r ih => have := h x; simp only [List.length_cons, List.map_cons, List.sum_cons]; omega
/-- what a type's cells read as -/
def Opens (P : Program) (t : TypeId) {α : Type} (R : Rd α) (μ : α → Nat) : Prop :=
  ∀ (H : Type) (enc : TypeId × Value → H) (w : World) (base : Nat) (spare : Nat → Bool) (held : Bool) (fuel : Nat) (cs : List Value) (x : DataW H × List MemPlace),
    DataW.trod enc P w base spare held fuel t cs = some x → ∃ a, R w cs a ∧ μ a ≤ Rows.uptoBulk x.1
section
variable {P : Program} {t e : TypeId}
theorem opens_string (ht : P.underlying t = some .string) : Opens P t RString (fun s => s.size + 1) := fun _ _ _ _ _ _ _ _ _ h => by
  obtain ⟨s, rfl, rfl, _⟩ := DataW.trod_string ht h
  exact ⟨s, rfl, by simp [Rows.uptoBulk]⟩
theorem opens_bool (ht : P.underlying t = some .bool) : Opens P t RBool (fun _ => 1) := fun _ _ _ _ _ _ _ _ _ h => by
  obtain ⟨b, rfl, rfl⟩ := DataW.trod_bool ht h
  exact ⟨b, rfl, by simp [Rows.uptoBulk]⟩
theorem uptoBulkAll_append {H : Type} (l m : List (DataW H)) : Rows.uptoBulkAll (l ++ m) = Rows.uptoBulkAll l + Rows.uptoBulkAll m := by
  induction l with
  | nil => simp [Rows.uptoBulkAll]
  | cons d r ih => simp only [List.cons_append, Rows.uptoBulkAll, ih]; omega
theorem list_of_each {α : Type} {H : Type} (Q : Nat → α → Prop) (μ : α → Nat) (D : Nat → DataW H) : ∀ n : Nat, (∀ i, i < n → ∃ a, Q i a ∧ μ a ≤ Rows.uptoBulk (D i)) →
    ∃ l : List α, l.length = n ∧ (∀ i x, l[i]? = some x → Q i x) ∧ (l.map μ).sum ≤ Rows.uptoBulkAll ((List.range n).map D)
  | 0, _ => ⟨[], rfl, fun i x h => by simp at h, by simp⟩
  | n + 1, h => by
    obtain ⟨l, h1, h2, h3⟩ := list_of_each Q μ D n fun i hi => h i (by omega)
    obtain ⟨a, ha, hm⟩ := h n (by omega)
    refine ⟨l ++ [a], by simp [h1], fun i x hx => ?_, ?_⟩
    · by_cases hi : i < n
      · rw [List.getElem?_append_left (by omega)] at hx
        exact h2 i x hx
      · have : i = n := by have := (List.getElem?_eq_some_iff.1 hx).1; simp [h1] at this; omega
        subst this
        rw [List.getElem?_append_right (by omega), h1] at hx
        simp at hx
        subst hx
        exact ha
    · rw [List.range_succ, List.map_append (l₁ := List.range n), uptoBulkAll_append, List.map_append, List.sum_append]
      simp only [List.map_cons, List.map_nil, List.sum_cons, List.sum_nil, Rows.uptoBulkAll]
      omega
theorem opens_row {α : Type} {R : Rd α} {μ : α → Nat} {k : Nat} (ht : P.underlying t = some (.slice e)) (hC : P.cellsOf e = k) (h : Opens P e R μ) : Opens P t (RRow R k) (fun l => (l.map μ).sum + 1) := fun H enc w base spare held fuel cs x hx => by
  rcases Deep.open_slice ht hx with ⟨rfl, rfl⟩ | ⟨a, len, cap, m, n, D, Pl, rfl, _, hl, hm, hmm, rfl, hel⟩
  · exact ⟨[], ⟨_, rfl, .inl ⟨rfl, rfl⟩⟩, by simp [Rows.uptoBulk]⟩
  · have hlm : len ≤ m := by rw [hmm]; split <;> omega
    obtain ⟨l, h1, h2, h3⟩ := list_of_each (fun i y => ∃ cs, cs.length = k ∧ (∀ j u, cs[j]? = some u → w.cell? (a.add (i * k + j)) = some u) ∧ R w cs y) μ D len fun i hi => by
      obtain ⟨cs', hc, ht'⟩ := hel i (by omega)
      rw [hC] at hc
      obtain ⟨_, hcl, hat⟩ := World.cells?_some hc
      obtain ⟨y, hy, hb⟩ := h _ _ _ _ _ _ _ _ _ ht'
      refine ⟨y, ⟨cs', hcl, fun j u hu => ?_, hy⟩, hb⟩
      have hjk : j < k := by have := (List.getElem?_eq_some_iff.1 hu).1; omega
      rw [← Deep.add_add, hat j hjk]
      exact hu
    subst h1
    refine ⟨l, ⟨_, rfl, .inr ⟨a, cap, rfl, hl, hm, h2⟩⟩, ?_⟩
    simp only [Rows.uptoBulk]
    omega
theorem opens_strs (ht : P.underlying t = some (.slice e)) (he : P.underlying e = some .string) (hC : P.cellsOf e = 1) : Opens P t RStrs (fun l => total l + 1) := fun H enc w base spare held fuel cs x hx => by
  obtain ⟨l, ⟨v, rfl, h1⟩, h2⟩ := opens_row ht hC (opens_string he) H enc w base spare held fuel cs x hx
  exact ⟨l, ⟨v, rfl, h1.strs⟩, h2⟩
/-- a field's cells -/
theorem Opens.at {α : Type} {R : Rd α} {μ : α → Nat} (h : Opens P t R μ) {H : Type} {enc : TypeId × Value → H} {w : World} {base : Nat} {spare : Nat → Bool} {held : Bool} {fuel k o : Nat} {cs ds : List Value} {x : DataW H × List MemPlace}
    (hx : DataW.trod enc P w base spare held fuel t ((cs.drop o).take (P.cellsOf t)) = some x) (hk : P.cellsOf t = k) (hd : (cs.drop o).take k = ds) : ∃ a, R w ds a ∧ μ a ≤ Rows.uptoBulk x.1 := by
  rw [hk, hd] at hx
  exact h _ _ _ _ _ _ _ _ _ hx
end
end Go.Proofs.YtkmonmdnmpbadaaDoor
namespace Go.Proofs.YtkmonmdnmpbadaaDoor
open Go.RowKit
theorem own_below' {w w' : World} {B n k : Nat} {e : TypeId} {v : Value} {xs : List Value} (h : w.ownsRow B e k v n xs) (hb : Below w.heap.size w w') : w'.ownsRow B e k v n xs := by
  refine ⟨h.1, ?_⟩
  rcases h.2 with h0 | ⟨g, cap, cur, hv, hB, hh, hr⟩
  · exact .inl h0
  · have hg : g < w.heap.size := by
      rcases Nat.lt_or_ge g w.heap.size with h1 | h1
      · exact h1
      · rw [Array.getElem?_eq_none h1] at hh; cases hh
    exact .inr ⟨g, cap, cur, hv, hB, (hb.block g hg).trans hh, hr⟩
/-- equal pieces, one behind the other -/
theorem flat_get {β : Type} {k : Nat} : ∀ {css : List (List β)}, (∀ cs ∈ css, cs.length = k) → ∀ {m : Nat} {u : β}, css.flatten[m]? = some u → ∃ j i cs, m = j * k + i ∧ css[j]? = some cs ∧ cs[i]? = some u
  | [], _, m, u, h => by simp at h
  | c :: r, hk, m, u, h => by
    have hc : c.length = k := hk c (List.mem_cons_self ..)
    rw [List.flatten_cons] at h
    by_cases hm : m < c.length
    · rw [List.getElem?_append_left hm] at h
      exact ⟨0, m, c, by omega, rfl, h⟩
    · rw [List.getElem?_append_right (by omega)] at h
      obtain ⟨j, i, cs, h1, h2, h3⟩ := flat_get (fun cs hcs => hk cs (List.mem_cons_of_mem _ hcs)) h
      exact ⟨j + 1, i, cs, by rw [Nat.add_mul]; omega, by simpa using h2, h3⟩
theorem get_flat {β : Type} {k : Nat} : ∀ {css : List (List β)}, (∀ cs ∈ css, cs.length = k) → ∀ {j i : Nat} {cs : List β} {u : β}, css[j]? = some cs → cs[i]? = some u → css.flatten[j * k + i]? = some u
  | [], _, j, i, cs, u, h, _ => by simp at h
  | c :: r, hk, j, i, cs, u, h, hi => by
    have hc : c.length = k := hk c (List.mem_cons_self ..)
    rw [List.flatten_cons]
    cases j with
    | zero =>
      simp only [List.getElem?_cons_zero, Option.some.injEq] at h
      subst h
      have := (List.getElem?_eq_some_iff.1 hi).1
      rw [Nat.zero_mul, Nat.zero_add, List.getElem?_append_left this]
      exact hi
    | succ j =>
      have h' : r[j]? = some cs := by simpa using h
      rw [Nat.add_mul, Nat.one_mul, List.getElem?_append_right (by omega), show j * k + k + i - c.length = j * k + i by omega]
      exact get_flat (fun cs hcs => hk cs (List.mem_cons_of_mem _ hcs)) h' hi
theorem flat_len {β : Type} {k : Nat} : ∀ {css : List (List β)}, (∀ cs ∈ css, cs.length = k) → css.flatten.length = css.length * k
  | [], _ => by simp
  | c :: r, hk => by
    rw [List.flatten_cons, List.length_append, flat_len fun cs hcs => hk cs (List.mem_cons_of_mem _ hcs), hk c (List.mem_cons_self ..), List.length_cons, Nat.add_mul]
    omega
theorem pick_each {β : Type} (Q : Nat → β → Prop) : ∀ n : Nat, (∀ i, i < n → ∃ y, Q i y) → ∃ ys : List β, ys.length = n ∧ ∀ i y, ys[i]? = some y → Q i y
  | 0, _ => ⟨[], rfl, fun i y h => by simp at h⟩
  | n + 1, h => by
    obtain ⟨ys, h1, h2⟩ := pick_each Q n fun i hi => h i (by omega)
    obtain ⟨y, hy⟩ := h n (by omega)
    refine ⟨ys ++ [y], by simp [h1], fun i z hz => ?_⟩
    by_cases hi : i < n
    · rw [List.getElem?_append_left (by omega)] at hz
      exact h2 i z hz
    · have : i = n := by have := (List.getElem?_eq_some_iff.1 hz).1; simp [h1] at this; omega
      subst this
      rw [List.getElem?_append_right (by omega), h1] at hz
      simp at hz
      subst hz
      exact hy
/-- all cells of one cell each -/
def OneR {α : Type} (R : Rd α) : Prop := ∀ w cs x, R w cs x → ∀ u ∈ cs, u.oneCell' = true
section
variable {α : Type} {R : Rd α} {k : Nat} {w w' : World} {v : Value} {l m : List α} {B : Nat} {e : TypeId}
/-- the cells of a slice that is not nil -/
theorem RowAt.cells (h : RowAt R k w v l) {a : Addr} {n c : Nat} (hv : v = .slice (some a) n c) :
    n = l.length ∧ ∃ css : List (List Value), css.length = l.length ∧ (∀ cs ∈ css, cs.length = k) ∧ (∀ (j : Nat) (u : Value), css.flatten[j]? = some u → w.cell? (a.add j) = some u) ∧ ∀ (j : Nat) (cs : List Value) (x : α), css[j]? = some cs → l[j]? = some x → R w cs x := by
  rcases h with ⟨rfl, rfl⟩ | ⟨a', c', rfl, _, _, h4⟩
  · cases hv
  · cases hv
    refine ⟨rfl, ?_⟩
    obtain ⟨css, h1, h2⟩ := pick_each (fun j cs => ∃ x, l[j]? = some x ∧ cs.length = k ∧ (∀ i u, cs[i]? = some u → w.cell? (a.add (j * k + i)) = some u) ∧ R w cs x) l.length (fun j hj => by
      obtain ⟨cs, g1, g2, g3⟩ := h4 j l[j] (by simp [hj])
      exact ⟨cs, l[j], by simp [hj], g1, g2, g3⟩)
    have hk : ∀ cs ∈ css, cs.length = k := fun cs hcs => by
      obtain ⟨j, hj, rfl⟩ := List.getElem_of_mem hcs
      obtain ⟨x, _, g, _⟩ := h2 j _ (List.getElem?_eq_getElem hj)
      exact g
    refine ⟨css, h1, hk, fun j u hu => ?_, fun j cs x hcs hx => ?_⟩
    · obtain ⟨q, i, cs, rfl, hq, hi⟩ := flat_get hk hu
      obtain ⟨x, _, _, g, _⟩ := h2 q cs hq
      exact g i u hi
    · obtain ⟨y, hy, _, _, g⟩ := h2 j cs hcs
      rw [hx] at hy
      cases hy
      exact g
/-- a slice of the call's own: nil or a row in a block from B on -/
def OwnAt (R : Rd α) (k : Nat) (w : World) (B : Nat) (e : TypeId) (v : Value) (l : List α) : Prop :=
  ∃ css : List (List Value), css.length = l.length ∧ (∀ cs ∈ css, cs.length = k) ∧ w.ownsRow B e k v l.length css.flatten ∧ ∀ (j : Nat) (cs : List Value) (x : α), css[j]? = some cs → l[j]? = some x → R w cs x
theorem OwnAt.nil (w : World) : OwnAt R k w B e (.slice none 0 0) [] := ⟨[], rfl, fun _ h => (by cases h), World.ownsRow_nil _ _ _ _, fun j cs x h => (by simp at h)⟩
theorem OwnAt.form (h : OwnAt R k w B e v l) : (v = .slice none 0 0 ∧ l = []) ∨ ∃ g c, v = .slice (some ⟨g, 0, none⟩) l.length c ∧ B ≤ g ∧ g < w.heap.size ∧ l.length ≤ c ∧ c ≤ maxLen := by
  obtain ⟨css, _, _, h3, _⟩ := h
  rcases h3.2 with ⟨h4, h5⟩ | ⟨g, cap, cur, h4, h5, h6, h7, h8, _⟩
  · exact .inl ⟨h4, List.eq_nil_of_length_eq_zero h5⟩
  · refine .inr ⟨g, cap, h4, h5, ?_, h7, h8⟩
    rcases Nat.lt_or_ge g w.heap.size with h1 | h1
    · exact h1
    · rw [Array.getElem?_eq_none h1] at h6; cases h6
/-- where it lies -/
theorem OwnAt.at (h : OwnAt R k w B e v l) {g : Nat} (hg : v.ownBlock = some g) : B ≤ g ∧ g < w.heap.size ∧ ∃ cur, w.heap[g]? = some (.cells cur e (0, 0)) := by
  obtain ⟨css, _, _, h3, _⟩ := h
  rcases h3.2 with ⟨rfl, _⟩ | ⟨g', cap, cur, rfl, h5, h6, _⟩
  · cases hg
  · obtain rfl : g' = g := by simpa [Value.ownBlock] using hg
    refine ⟨h5, ?_, cur, h6⟩
    rcases Nat.lt_or_ge g' w.heap.size with h1 | h1
    · exact h1
    · rw [Array.getElem?_eq_none h1] at h6; cases h6
theorem OwnAt.other {β : Type} {R' : Rd β} {k' : Nat} {B' : Nat} {e' : TypeId} {v' : Value} {l' : List β} (h : OwnAt R k w B e v l) (h' : OwnAt R' k' w B' e' v' l') (hne : e ≠ e') {g : Nat} (hg : v.ownBlock = some g) : v'.ownBlock ≠ some g := fun hg' => by
  obtain ⟨_, _, cur, h1⟩ := h.at hg
  obtain ⟨_, _, cur', h2⟩ := h'.at hg'
  rw [h1] at h2
  cases h2
  exact hne rfl
theorem OwnAt.row (h : OwnAt R k w B e v l) : RowAt R k w v l := by
  obtain ⟨css, h1, h2, h3, h4⟩ := h
  rcases h3.2 with ⟨h5, h6⟩ | ⟨g, cap, cur, h5, _, _, h7, h8, _, hc⟩
  · exact .inl ⟨h5, List.eq_nil_of_length_eq_zero h6⟩
  · refine .inr ⟨_, cap, h5, h7, h8, fun j x hx => ?_⟩
    have hj : j < css.length := by rw [h1]; exact (List.getElem?_eq_some_iff.1 hx).1
    have hcs : css[j]? = some css[j] := List.getElem?_eq_getElem hj
    exact ⟨css[j], h2 _ (List.getElem_mem hj), fun i u hu => h3.cells (by rw [h5]; rfl) (j * k + i) u (get_flat h2 hcs hu), h4 j _ x hcs hx⟩
theorem OwnAt.keepRow (hs : Stays R) (h : OwnAt R k w B e v l) (hk : Keeps w w') (ho : ∀ xs, w.ownsRow B e k v l.length xs → w'.ownsRow B e k v l.length xs) : OwnAt R k w' B e v l := by
  obtain ⟨css, h1, h2, h3, h4⟩ := h
  exact ⟨css, h1, h2, ho _ h3, fun j cs x hcs hx => hs _ _ _ _ hk (h4 j cs x hcs hx)⟩
theorem OwnAt.below (hs : Stays R) (h : OwnAt R k w B e v l) (hb : Below w.heap.size w w') : OwnAt R k w' B e v l := h.keepRow hs (keeps_below hb) fun _ ho => own_below' ho hb
theorem OwnAt.mono {B' : Nat} (h : OwnAt R k w B e v l) (hB : B' ≤ B) : OwnAt R k w B' e v l := by
  obtain ⟨css, h1, h2, h3, h4⟩ := h
  exact ⟨css, h1, h2, h3.mono hB, h4⟩
theorem OwnAt.alloc (hs : Stays R) (h : OwnAt R k w B e v l) (o : Obj) : OwnAt R k (w.alloc o) B e v l := h.below hs ((Below.refl _ _).alloc (Nat.le_refl _) o)
/-- one thing in a block of its own -/
theorem RowAt.one {b : Nat} {cs : Array Value} {fr : Nat × Nat} (hb : w.heap[b]? = some (.cells cs e fr)) (hk : cs.size = k) {x : α} (h : R w cs.toList x) : RowAt R k w (.slice (some ⟨b, 0, none⟩) 1 1) [x] := by
  refine .inr ⟨_, 1, rfl, Nat.le_refl _, by unfold maxLen; decide, fun j y hy => ?_⟩
  have hj : j < 1 := (List.getElem?_eq_some_iff.1 hy).1
  obtain rfl : j = 0 := by omega
  simp only [List.getElem?_cons_zero, Option.some.injEq] at hy
  subst hy
  refine ⟨cs.toList, by simpa using hk, fun i u hu => ?_, h⟩
  rw [Nat.zero_mul, Nat.zero_add, add_plain', Nat.zero_add]
  have hi : i < cs.size := by have := (List.getElem?_eq_some_iff.1 hu).1; simpa using this
  have : w.cell? ⟨b, i, none⟩ = cs[i]? := by unfold World.cell?; simp [hb]
  rw [this]
  simpa using hu
end
/-- how a thing reads does not hang on memory -/
def Flat {α : Type} (R : Rd α) : Prop := ∀ w w' cs x, R w cs x → R w' cs x
theorem Flat.stays {α : Type} {R : Rd α} (h : Flat R) : Stays R := fun _ _ _ _ _ hR => h _ _ _ _ hR
section
variable {P : Program} {α : Type} {R : Rd α} {k : Nat} {l m : List α} {B : Nat} {e : TypeId}
theorem OwnAt.grown (hf : Flat R) {w w' : World} {v : Value} (h : OwnAt R k w B e v l) {r : Option Nat} (hg : w.grownBy w' r) (hne : ∀ q, v.ownBlock = some q → some q ≠ r) : OwnAt R k w' B e v l := by
  obtain ⟨css, h1, h2, h3, h4⟩ := h
  refine ⟨css, h1, h2, ⟨h3.1, ?_⟩, fun j cs y hcs hy => hf _ _ _ _ (h4 j cs y hcs hy)⟩
  rcases h3.2 with h5 | ⟨q, cap, cur, rfl, hB, hh, hr⟩
  · exact .inl h5
  · have hq : q < w.heap.size := by
      rcases Nat.lt_or_ge q w.heap.size with h1 | h1
      · exact h1
      · rw [Array.getElem?_eq_none h1] at hh; cases hh
    exact .inr ⟨q, cap, cur, rfl, hB, (hg.block q hq (hne q rfl)).trans hh, hr⟩
theorem nil_of_len {β : Type} {l : List β} (h : l.length = 0) : l = [] := List.eq_nil_of_length_eq_zero h
theorem run_append_ownAt (w : World) (t ty : TypeId) (i : TypeInfo) (z : Value) (bytes : Nat) (ht : P.underlying t = some (.slice e)) (hi : P.info? e = some i) (hz : i.zero = some z) (hsize : i.size = k) (hby : i.bytes = bytes)
    (hzs : z.cells.size = k) (hsz : 0 < k) (hf : Flat R) (h1 : OneR R) (v : Value) (hv : OwnAt R k w B e v l) (x : Value) (hx : RowAt R k w x m) (hlen : l.length + m.length ≤ maxLen)
    (hbytes : (l.length + m.length) * bytes ≤ 140737488355328) (hbase : B ≤ w.heap.size) :
    ∃ v' w', (Builtin.append_ #[t, t] ty #[v, x]).run P w = .ok v' w' ∧ OwnAt R k w' B e v' (l ++ m) ∧ w.grownBy w' v.ownBlock ∧ (∀ g, v.ownBlock = some g → B ≤ g) ∧ (v'.ownBlock = v.ownBlock ∨ v'.ownBlock = some w.heap.size) := by
  obtain ⟨css, c1, c2, c3, c4⟩ := hv
  rcases hx with ⟨rfl, rfl⟩ | ⟨a, c, rfl, hc1, hc2, hc3⟩
  · exact ⟨v, w, run_append_owned_none (P := P) w B t ty e i k ht hi v _ _ c3, ⟨css, by simpa using c1, c2, by simpa using c3, fun j cs y hcs hy => c4 j cs y hcs (by simpa using hy)⟩, World.grownBy.refl w _, fun g hg => (c3.lt g hg).1, .inl rfl⟩
  · obtain ⟨_, ds, d1, d2, d3, d4⟩ := RowAt.cells (R := R) (k := k) (w := w) (l := m) (.inr ⟨a, c, rfl, hc1, hc2, hc3⟩) rfl
    have d6 : ∀ u ∈ ds.flatten, u.oneCell' = true := fun u hu => by
      obtain ⟨cs, hcs, hu'⟩ := List.mem_flatten.1 hu
      obtain ⟨j, hj, rfl⟩ := List.getElem_of_mem hcs
      exact h1 w _ m[j] (d4 j _ _ (List.getElem?_eq_getElem hj) (List.getElem?_eq_getElem (by omega))) u hu'
    obtain ⟨v', w', hrun, r1, r2, _, r4⟩ := run_append_own_at (P := P) w B t ty e i z k bytes ht hi hz hsize hby hzs hsz v l.length css.flatten c3 a m.length c ds.flatten (by rw [flat_len d2, d1]) d3 d6 hlen hbytes hbase
    refine ⟨v', w', hrun, ⟨css ++ ds, by simp [c1, d1], fun cs hcs => (List.mem_append.1 hcs).elim (c2 cs) (d2 cs), by rw [List.flatten_append, List.length_append]; exact r1, fun j cs y hcs hy => ?_⟩, r2, fun g hg => (c3.lt g hg).1, r4⟩
    by_cases hj : j < l.length
    · rw [List.getElem?_append_left (by omega)] at hcs hy
      exact hf _ _ _ _ (c4 j cs y hcs hy)
    · rw [List.getElem?_append_right (by omega)] at hcs hy
      rw [c1] at hcs
      exact hf _ _ _ _ (d4 _ cs y hcs hy)
theorem wpList_append_ownAt (w : World) {ops : Array Oper} {rest : List Oper} {o : Oper} {a : Act} {Q : Exit → Act → World → Prop} (hg : o.guard = none) (s x : Operand) (t : TypeId)
    (ho : o.op = .call { callee := .builtin .append, args := #[s, x], argTypes := #[t, t] })
    (i : TypeInfo) (z : Value) (bytes : Nat) (ht : P.underlying t = some (.slice e)) (hi : P.info? e = some i) (hz : i.zero = some z) (hsize : i.size = k) (hby : i.bytes = bytes) (hzs : z.cells.size = k) (hsz : 0 < k) (hf : Flat R) (h1 : OneR R)
    (v : Value) (hs : a.eval s = v) (hv : OwnAt R k w B e v l) (xv : Value) (hxv : a.eval x = xv) (hx : RowAt R k w xv m) (hlen : l.length + m.length ≤ maxLen)
    (hbytes : (l.length + m.length) * bytes ≤ 140737488355328) (hbase : B ≤ w.heap.size)
    (h : ∀ v' w', OwnAt R k w' B e v' (l ++ m) → w.grownBy w' v.ownBlock → (∀ g, v.ownBlock = some g → B ≤ g) → (v'.ownBlock = v.ownBlock ∨ v'.ownBlock = some w.heap.size) → wpList P ops Q rest (a.put o.dst v') w') : wpList P ops Q (o :: rest) a w := by
  refine wpList_plain hg fun K hK' => ?_
  obtain ⟨v', w', hrun, r1, r2, r3, r4⟩ := run_append_ownAt w t o.type i z bytes ht hi hz hsize hby hzs hsz hf h1 v hv xv hx hlen hbytes hbase
  unfold Oper.wp
  simp [execOp, ho, resolve, invoke, builtin, hs, hxv, hrun, Result.andThen]
  exact hK' _ _ (h v' w' r1 r2 r3 r4)
theorem below_of_grown {B : Nat} {W w w' : World} (h : Below B W w) (hB : B ≤ w.heap.size) {r : Option Nat} (hg : w.grownBy w' r) (hr : ∀ g, r = some g → B ≤ g) : Below B W w' := h.grown hg hB hr
end
theorem own_empty {α : Type} {R : Rd α} (w : World) (k : Nat) (e : TypeId) {B : Nat} (hB : B ≤ w.heap.size) : OwnAt R k (w.alloc (.cells #[] e)) B e (.slice (some ⟨w.heap.size, 0, none⟩) 0 0) [] :=
  ⟨[], rfl, fun _ h => (by cases h), ⟨by simp, .inr ⟨w.heap.size, 0, #[], rfl, hB, heap_alloc_new w _, Nat.le_refl _, by simp, by simp, by simp⟩⟩, fun j cs x h => (by simp at h)⟩
theorem flat_string : Flat RString := fun _ _ _ _ h => h
theorem one_string : OneR RString := fun _ _ _ h u hu => by rw [h] at hu; simp at hu; subst hu; rfl
end Go.Proofs.YtkmonmdnmpbadaaDoor
namespace Go.Proofs.YtkmonmdnmpbadaaDoor
open Go
section
variable {P : Program} {ops : Array Oper} {md : Region.Mode}
/-- t waits for i, by one edge or by many -/
inductive Behind (md : Region.Mode) (ops : Array Oper) (i : Nat) : Nat → Prop
  | edge {t : Nat} {o : Oper} {e : Edge} (ho : ops[t]? = some o) (he : e ∈ o.after) (hb : Region.binds md e = true) (hi : e.on = i) : Behind md ops i t
  | step {t : Nat} {o : Oper} {e : Edge} (ho : ops[t]? = some o) (he : e ∈ o.after) (hb : Region.binds md e = true) (h : Behind md ops i e.on) : Behind md ops i t
def Shut (md : Region.Mode) (ops : Array Oper) (listed : Array Bool) : Prop :=
  ∀ j oj, ops[j]? = some oj → listed.getD j false = true → ∀ e ∈ oj.after, Region.binds md e = true → listed.getD e.on false = true
theorem Behind.listed {i t : Nat} {listed : Array Bool} (h : Behind md ops i t) (hc : Shut md ops listed) :
    (∀ o, ops[t]? = some o → ∀ e ∈ o.after, Region.binds md e = true → listed.getD e.on false = true) → listed.getD i false = true := by
  induction h with
  | edge ho he hb hi => intro hall; rw [← hi]; exact hall _ ho _ he hb
  | step ho he hb _ ih =>
    intro hall
    have h1 := hall _ ho _ he hb
    exact ih (fun o2 ho2 e2 he2 hb2 => hc _ o2 ho2 h1 e2 he2 hb2)
theorem Shut.set {i : Nat} {listed : Array Bool} (hc : Shut md ops listed) (hi : i ∈ Region.ready md ops listed) : Shut md ops (listed.setIfInBounds i true) := by
  obtain ⟨_, oi, hoi, hall⟩ := mem_ready.1 hi
  intro j oj hj hl e he hb
  by_cases hij : i = j
  · subst hij
    have : oj = oi := Option.some.inj (hj.symm.trans hoi)
    subst this
    exact getD_set_true (hall e he hb)
  · rw [getD_set_ne false hij] at hl
    exact getD_set_true (hc j oj hj hl e he hb)
end
end Go.Proofs.YtkmonmdnmpbadaaDoor
namespace Go.Proofs.YtkmonmdnmpbadaaDoor
open Go
section
variable {P : Program} {ops : Array Oper} {md : Region.Mode} {I : World → Prop}
/-- what an operation comes to, where it neither panics nor defers -/
def gives (P : Program) (R : Value → World → Prop) : Result Next → Prop
  | .ok (.value v) w' => R v w'
  | .ok .skip w' => R undef w'
  | .ok (.enter f args) w' => Calls P f args w' fun e w'' => ∃ v, e = .returned v ∧ R v w''
  | _ => False
theorem gives_upon {o : Oper} {a : Act} {R : Value → World → Prop} {K : Act → World → Prop} {Q : Exit → Act → World → Prop} (h : ∀ v w, R v w → K (a.put o.dst v) w) :
    ∀ {r : Result Next}, gives P R r → o.upon P a K Q r
  | .ok (.value v) w', hr => h _ _ hr
  | .ok .skip w', hr => h _ _ hr
  | .ok (.enter f args) w', hr => Calls.mono hr fun e w'' he => by
      obtain ⟨v, rfl, hR⟩ := he
      exact h _ _ hR
/-- the operation yields v in every world of the kind, and stays within it -/
def YieldsIn (P : Program) (ops : Array Oper) (I : World → Prop) (o : Oper) (v : Value) (a : Act) : Prop :=
  (Region.wanted o (yielded ops a.tmps) = true ∧ ∀ w, I w → gives P (fun u w' => u = v ∧ I w') ((execOp a.eval o).run P w)) ∨
  (Region.wanted o (yielded ops a.tmps) = false ∧ v = undef)
theorem YieldsIn.of_same {o : Oper} {v : Value} {a a' : Act} (hy : YieldsIn P ops I o v a) (he : execOp a'.eval o = execOp a.eval o)
    (hw : Region.wanted o (yielded ops a'.tmps) = Region.wanted o (yielded ops a.tmps)) : YieldsIn P ops I o v a' := by
  unfold YieldsIn at *
  rw [he, hw]
  exact hy
theorem YieldsIn.wpOp {i : Nat} {o : Oper} {v : Value} {a : Act} {w : World} (hi : ops[i]? = some o) (hy : YieldsIn P ops I o v a) (hI : I w) {K : Act → World → Prop} {Q : Exit → Act → World → Prop}
    (h : ∀ w', I w' → K (a.put o.dst v) w') : wpOp P ops Q i K a w := by
  unfold Go.wpOp
  simp only [hi]
  rcases hy with ⟨hw, hv⟩ | ⟨hw, rfl⟩
  · simp only [hw, if_true]
    refine .inl ?_
    unfold Oper.wp
    exact gives_upon (R := fun u w' => u = v ∧ I w') (fun u w' hR => by obtain ⟨rfl, hI'⟩ := hR; exact h _ hI') (hv w hI)
  · simp only [hw, Bool.false_eq_true, if_false]
    exact h _ hI
def wpHold (P : Program) (ops : Array Oper) (I : World → Prop) (Q : Act → Prop) : List Oper → Act → Prop
  | [], a => Q a
  | o :: rest, a => ∃ v, YieldsIn P ops I o v a ∧ wpHold P ops I Q rest (a.put o.dst v)
/-- the heads in whatever order -/
def wpAnyV (P : Program) (md : Region.Mode) (ops : Array Oper) (I : World → Prop) (n : Nat) (L : Array Bool → Act → Prop) : Nat → Array Bool → Act → Prop
  | 0, listed, a => L listed a
  | f + 1, listed, a =>
    Region.ready md ops listed ≠ [] ∧ ∀ i ∈ Region.ready md ops listed, i < n ∧ ∃ o v, ops[i]? = some o ∧ YieldsIn P ops I o v a ∧ wpAnyV P md ops I n L f (listed.setIfInBounds i true) (a.put o.dst v)
theorem wpAny_of_hold {n g : Nat} {L : Array Bool → Act → Prop} {Q' : Exit → Act → World → Prop} (hL : ∀ listed a w, L listed a → I w → wpAny P md ops Q' g listed a w) :
    ∀ (f : Nat) (listed : Array Bool) (a : Act) (w : World), I w → wpAnyV P md ops I n L f listed a → wpAny P md ops Q' (f + g) listed a w
  | 0, listed, a, w, hI, h => by rw [Nat.zero_add]; exact hL _ _ _ h hI
  | f + 1, listed, a, w, hI, h => by
    rw [show f + 1 + g = (f + g) + 1 by omega]
    refine ⟨fun h0 => absurd h0 h.1, fun i hi => ?_⟩
    obtain ⟨_, o, v, ho, hy, hK⟩ := h.2 i hi
    exact hy.wpOp ho hI fun w' hI' => wpAny_of_hold hL f _ _ w' hI' hK
theorem wpAnyV_first {n i : Nat} {oi : Oper} {v : Value} {L : Array Bool → Act → Prop} (hi : ops[i]? = some oi) (hsel : ∀ (j : Nat) (o : Oper) cs b, ops[j]? = some o → o.op ≠ .select cs b)
    (htw : ∀ (listed : Array Bool) (i : Nat), HeadInv md ops n listed → i < n → listed.getD i true = false → ∀ t, n ≤ t → t ∉ Region.ready md ops listed) (hin : i < n)
    (hdone : ∀ listed a, L listed a → ∀ j ∈ Region.ready md ops listed, n ≤ j) :
    ∀ (f : Nat) (listed : Array Bool) (a : Act), HeadInv md ops n listed →
      (∀ j oj, ops[j]? = some oj → j ≠ i → listed.getD j true = false → (∀ e ∈ oj.after, Region.binds md e = true → e.on ≠ i) → oi.apart ops oj = true) →
      i ∈ Region.ready md ops listed → YieldsIn P ops I oi v a →
      wpAnyV P md ops I n L f (listed.setIfInBounds i true) (a.put oi.dst v) → wpAnyV P md ops I n L (f + 1) listed a := by
  intro f
  induction f with
  | zero =>
    intro listed a inv _ hr hy H
    have hun := (mem_ready.1 hr).1
    refine ⟨fun h => (by rw [h] at hr; cases hr), fun j hj => ?_⟩
    have hjn : j < n := by
      rcases Nat.lt_or_ge j n with h | h
      · exact h
      · exact absurd hj (htw _ i inv hin hun j h)
    refine ⟨hjn, ?_⟩
    by_cases hji : j = i
    · subst hji; exact ⟨oi, v, hi, hy, H⟩
    · have := hdone _ _ H j (ready_mono hj hji)
      omega
  | succ f ih =>
    intro listed a inv hfree hr hy H
    have hun := (mem_ready.1 hr).1
    refine ⟨fun h => (by rw [h] at hr; cases hr), fun j hj => ?_⟩
    have hjn : j < n := by
      rcases Nat.lt_or_ge j n with h | h
      · exact h
      · exact absurd hj (htw _ i inv hin hun j h)
    refine ⟨hjn, ?_⟩
    by_cases hji : j = i
    · subst hji; exact ⟨oi, v, hi, hy, H⟩
    · obtain ⟨oj, u, hoj, hyj, hK⟩ := (H.2 j (ready_mono hj hji)).2
      obtain ⟨hjun, oj', hoj', hall⟩ := mem_ready.1 hj
      have : oj' = oj := Option.some.inj (hoj'.symm.trans hoj)
      subst this
      have hnot : ∀ e ∈ oj'.after, Region.binds md e = true → e.on ≠ i := fun e he hb heq => by
        have h1 := hall e he hb
        rw [heq, getD_both hun] at h1
        cases h1
      have hap := hfree j oj' hoj hji hjun hnot
      obtain ⟨h1, h2, h3⟩ := Oper.apart_spec hap
      have hfree' : ∀ k ok, ops[k]? = some ok → k ≠ i → (listed.setIfInBounds j true).getD k true = false →
          (∀ e ∈ ok.after, Region.binds md e = true → e.on ≠ i) → oi.apart ops ok = true := fun k ok hk hki hun' hno => by
        refine hfree k ok hk hki ?_ hno
        by_cases hjk : j = k
        · subst hjk; exact hjun
        · rw [getD_set_ne true hjk] at hun'; exact hun'
      have hyj' : YieldsIn P ops I oj' u a := hyj.of_same (execOp_put oj' (fun cs b => hsel j oj' cs b hoj) a oi.dst v h1).symm (wanted_put oj' a oi.dst v h1).symm
      have hyi' : YieldsIn P ops I oi v (a.put oj'.dst u) := hy.of_same (execOp_put oi (fun cs b => hsel i oi cs b hi) a oj'.dst u h3) (wanted_put oi a oj'.dst u h3)
      refine ⟨oj', u, hoj, hyj', ih (listed.setIfInBounds j true) _ (inv.set hj hjn) hfree' (ready_mono hr (Ne.symm hji)) hyi' ?_⟩
      rw [Array.setIfInBounds_comm _ _ hji, ← Act.put_comm a v u h2]
      exact hK
theorem wpAnyV_lex {n g : Nat} {Lq : Act → Prop} (hsel : Region.noSelect ops = true)
    (htw : ∀ (listed : Array Bool) (i : Nat), HeadInv md ops n listed → i < n → listed.getD i true = false → ∀ t, n ≤ t → t ∉ Region.ready md ops listed) :
    ∀ (l : List Oper) (k : Nat) (listed : Array Bool) (a : Act), (∀ j, j < l.length → l[j]? = ops[k + j]?) → k + l.length = n → HeadInv md ops n listed →
    Region.lexHead md ops g l.length k listed = true → wpHold P ops I Lq l a →
    wpAnyV P md ops I n (fun listed' a' => Region.seqB md ops g n listed' = true ∧ Lq a') l.length listed a
  | [], k, listed, a, _, hk, _, hB, h => by
    have : k = n := by simpa using hk
    subst this
    exact ⟨by simpa [Region.lexHead] using hB, h⟩
  | o :: l, k, listed, a, hl, hk, inv, hB, h => by
    have h0 : ops[k]? = some o := by simpa using (hl 0 (by simp)).symm
    simp only [List.length_cons, Region.lexHead, Bool.and_eq_true] at hB
    obtain ⟨⟨hr, hf⟩, hB'⟩ := hB
    have hkn : k < n := by simp only [List.length_cons] at hk; omega
    have hr' : k ∈ Region.ready md ops listed := by simpa using hr
    obtain ⟨v, hy, hK⟩ := h
    exact wpAnyV_first h0 (Region.noSelect_spec hsel) htw hkn (fun listed' a' hL => seqB_ready hL.1) l.length listed a inv (Region.free_spec h0 hf) hr' hy
      (wpAnyV_lex hsel htw l (k + 1) _ _ (fun j hj => by have := hl (j + 1) (by simp; omega); simpa [Nat.add_assoc, Nat.add_comm 1 j] using this) (by simp only [List.length_cons] at hk; omega) (inv.set hr' hkn) hB' hK)
/-- THE LAW: the first n operations by values, in whatever order; the others one by one behind them all -/
theorem wp_region_hold {id : Nat} {Q : Exit → Act → World → Prop} {a : Act} {w : World} {l : List Oper} (n : Nat) (I : World → Prop) (hm : P.follows .mixedOrders = true) (hB : Region.lexTailB .any l.toArray n = true)
    (hI : I w.drew) (h : wpHold P l.toArray I (fun a' => ∀ w', I w' → wpList P l.toArray Q (l.drop n) a' w') (l.take n) a) : (Code.region id l.toArray true).wp P Q a w := by
  simp only [Region.lexTailB, Bool.and_eq_true, decide_eq_true_eq] at hB
  obtain ⟨⟨⟨⟨hsel, hn⟩, hs⟩, hc⟩, hlex⟩ := hB
  have hn' : n < l.length := by simpa using hn
  have htl : (l.take n).length = n := by simp; omega
  have hdl : (l.drop n).length = l.toArray.size - n := by simp
  have inv0 : HeadInv .any l.toArray n (Array.replicate l.toArray.size false) :=
    ⟨by simp, fun j oj _ hl => (by rw [getD_replicate_false] at hl; cases hl), fun t _ ht => getD_in (by simpa using ht) (getD_replicate_false _ _)⟩
  have H := wpAnyV_lex (md := .any) (g := l.toArray.size - n) (n := n) hsel (fun listed i inv hi hun => tail_waits hs hc hn inv _ i rfl hi hun) (l.take n) 0 _ a (fun j hj => by
    have hj' : j < n := by rw [htl] at hj; exact hj
    simp [hj']) (by simpa using htl) inv0 (by rw [htl]; exact hlex) h
  refine wp_region_any hm ?_
  have := wpAny_of_hold (Q' := Q) (g := l.toArray.size - n) (fun listed a' w' hL hI' => by
    have := wpAny_of_seq (md := .any) (Q' := Q) (l.drop n) n listed a' w' (fun j => by simp [List.getElem?_drop]) (by rw [hdl]; exact hL.1) (hL.2 w' hI')
    rwa [hdl] at this) _ _ _ w.drew hI H
  rw [htl, show n + (l.toArray.size - n) = l.toArray.size by omega] at this
  exact this
theorem below_then {a b c : World} (h : RowKit.Below a.heap.size a b) (k : RowKit.Below b.heap.size b c) : RowKit.Below a.heap.size a c := h.trans (k.mono h.size)
theorem wpHold_nil {Q : Act → Prop} {a : Act} (h : Q a) : wpHold P ops I Q [] a := h
theorem wpHold_pure {Q : Act → Prop} {a : Act} {o : Oper} {rest : List Oper} {v : Value} (hg : o.guard = none) (h : ∀ w, (execOp a.eval o).run P w = .ok (.value v) w) (k : wpHold P ops I Q rest (a.put o.dst v)) :
    wpHold P ops I Q (o :: rest) a :=
  ⟨v, .inl ⟨by simp [Region.wanted, hg], fun w hI => by rw [h w]; exact ⟨rfl, hI⟩⟩, k⟩
theorem wpHold_read {Q : Act → Prop} {a : Act} {o : Oper} {rest : List Oper} {v : Value} (hg : o.guard = none) (h : ∀ w, I w → (execOp a.eval o).run P w = .ok (.value v) w) (k : wpHold P ops I Q rest (a.put o.dst v)) :
    wpHold P ops I Q (o :: rest) a :=
  ⟨v, .inl ⟨by simp [Region.wanted, hg], fun w hI => by rw [h w hI]; exact ⟨rfl, hI⟩⟩, k⟩
theorem wpHold_call {Q : Act → Prop} {a : Act} {o : Oper} {rest : List Oper} {v : Value} {f : FuncId} {args : Array Value} (hg : o.guard = none) (h : ∀ w, (execOp a.eval o).run P w = .ok (.enter f args) w)
    (hc : ∀ w, I w → Calls P f args w fun e w' => e = .returned v ∧ I w') (k : wpHold P ops I Q rest (a.put o.dst v)) : wpHold P ops I Q (o :: rest) a :=
  ⟨v, .inl ⟨by simp [Region.wanted, hg], fun w hI => by rw [h w]; exact (hc w hI).mono fun e w' h' => ⟨v, h'.1, rfl, h'.2⟩⟩, k⟩
/-- guarded ones: let in, or passed over -/
theorem wpHold_pure' {Q : Act → Prop} {a : Act} {o : Oper} {rest : List Oper} {v : Value} (hg : Region.wanted o (yielded ops a.tmps) = true) (h : ∀ w, (execOp a.eval o).run P w = .ok (.value v) w) (k : wpHold P ops I Q rest (a.put o.dst v)) :
    wpHold P ops I Q (o :: rest) a :=
  ⟨v, .inl ⟨hg, fun w hI => by rw [h w]; exact ⟨rfl, hI⟩⟩, k⟩
theorem wpHold_skip {Q : Act → Prop} {a : Act} {o : Oper} {rest : List Oper} (hg : Region.wanted o (yielded ops a.tmps) = false) (k : wpHold P ops I Q rest (a.put o.dst undef)) : wpHold P ops I Q (o :: rest) a :=
  ⟨undef, .inr ⟨hg, rfl⟩, k⟩
end
end Go.Proofs.YtkmonmdnmpbadaaDoor
namespace Go.Proofs.YtkmonmdnmpbadaaDoor
open Go
section
variable {P : Program} {ops : Array Oper} {md : Region.Mode}
/-- the frame with these values in the heads' slots -/
def putAll : List Oper → (Nat → Value) → Nat → Act → Act
  | [], _, _, a => a
  | o :: r, u, k, a => putAll r u (k + 1) (a.put o.dst (u k))
def slotOf (a : Act) : Option Tmp → Value
  | some d => a.tmps.getD d undef
  | none => undef
theorem put_same (a : Act) (d : Option Tmp) (v w : Value) : (a.put d v).put d w = a.put d w := by
  cases d with
  | none => rfl
  | some d => simp [Act.put]
theorem put_own (a : Act) (d : Option Tmp) : a.put d (slotOf a d) = a := by
  cases d with
  | none => rfl
  | some d =>
    unfold Act.put slotOf
    simp only
    congr 1
    apply Array.ext
    · simp
    · intro i h1 h2
      rw [Array.getElem_setIfInBounds]
      split
      · rename_i h
        subst h
        simp [Array.getD, h2]
      · rfl
def apartDsts (l : List Oper) : Prop := l.Pairwise fun x y => ∀ d, x.dst = some d → y.dst ≠ some d
theorem putAll_put : ∀ (l : List Oper) (u : Nat → Value) (k : Nat) (a : Act) (d : Option Tmp) (v : Value), (∀ o ∈ l, ∀ t, d = some t → o.dst ≠ some t) → (putAll l u k a).put d v = putAll l u k (a.put d v)
  | [], _, _, _, _, _, _ => rfl
  | o :: r, u, k, a, d, v, h => by
    show (putAll r u (k + 1) (a.put o.dst (u k))).put d v = putAll r u (k + 1) ((a.put d v).put o.dst (u k))
    rw [putAll_put r u (k + 1) _ d v (fun o' ho => h o' (List.mem_cons_of_mem _ ho)), ← Act.put_comm a v (u k) (h o (List.mem_cons_self ..))]
theorem putAll_congr : ∀ (l : List Oper) (u u' : Nat → Value) (k : Nat) (a : Act), (∀ j, k ≤ j → u j = u' j) → putAll l u k a = putAll l u' k a
  | [], _, _, _, _, _ => rfl
  | o :: r, u, u', k, a, h => by
    show putAll r u (k + 1) (a.put o.dst (u k)) = putAll r u' (k + 1) (a.put o.dst (u' k))
    rw [h k (Nat.le_refl _)]
    exact putAll_congr r u u' (k + 1) _ (fun j hj => h j (by omega))
theorem putAll_set : ∀ (l : List Oper) (u : Nat → Value) (k i : Nat) (a : Act) (o : Oper) (v : Value), apartDsts l → l[i]? = some o → (putAll l u k a).put o.dst v = putAll l (fun j => if j = k + i then v else u j) k a
  | [], _, _, _, _, _, _, _, h => by simp at h
  | x :: r, u, k, 0, a, o, v, hd, h => by
    obtain rfl : x = o := by simpa using h
    show (putAll r u (k + 1) (a.put x.dst (u k))).put x.dst v = putAll r _ (k + 1) (a.put x.dst (if k = k + 0 then v else u k))
    rw [if_pos (by omega), putAll_put r u (k + 1) _ x.dst v (fun o' ho t ht => (List.pairwise_cons.1 hd).1 o' ho t ht), put_same]
    exact putAll_congr r _ _ (k + 1) _ (fun j hj => by rw [if_neg (by omega)])
  | x :: r, u, k, i + 1, a, o, v, hd, h => by
    show (putAll r u (k + 1) (a.put x.dst (u k))).put o.dst v = putAll r _ (k + 1) (a.put x.dst (if k = k + (i + 1) then v else u k))
    rw [if_neg (by omega), putAll_set r u (k + 1) i _ o v (List.pairwise_cons.1 hd).2 (by simpa using h)]
    exact putAll_congr r _ _ (k + 1) _ (fun j _ => by simp [show k + 1 + i = k + (i + 1) by omega])
theorem putAll_own : ∀ (l : List Oper) (k : Nat) (a : Act) (u : Nat → Value), (∀ j o, l[j]? = some o → u (k + j) = slotOf a o.dst) → putAll l u k a = a
  | [], _, _, _, _ => rfl
  | x :: r, k, a, u, h => by
    show putAll r u (k + 1) (a.put x.dst (u k)) = a
    rw [show u k = slotOf a x.dst from h 0 x rfl, put_own]
    exact putAll_own r (k + 1) a u (fun j o ho => by rw [show k + 1 + j = k + (j + 1) by omega]; exact h (j + 1) o (by simpa using ho))
/-- how many heads are not yet listed -/
def unl (listed : Array Bool) : Nat → Nat
  | 0 => 0
  | n + 1 => unl listed n + if listed.getD n true = true then 0 else 1
theorem unl_set {listed : Array Bool} {i : Nat} : ∀ {n : Nat}, i < n → listed.getD i true = false → i < listed.size → unl (listed.setIfInBounds i true) n + 1 = unl listed n
  | 0, h, _, _ => by omega
  | n + 1, h, hu, hs => by
    unfold unl
    by_cases hin : i = n
    · subst hin
      rw [hu, getD_set_true_own hs]
      have : unl (listed.setIfInBounds i true) i = unl listed i := unl_far (Nat.le_refl _)
      rw [this]
      simp
    · rw [getD_set_ne true hin]
      have := unl_set (n := n) (by omega) hu hs
      omega
where
  unl_far {i : Nat} : ∀ {n : Nat}, n ≤ i → unl (listed.setIfInBounds i true) n = unl listed n
    | 0, _ => rfl
    | n + 1, h => by
      unfold unl
      rw [unl_far (n := n) (by omega), getD_set_ne true (by omega)]
  getD_set_true_own {i : Nat} (hs : i < listed.size) : (listed.setIfInBounds i true).getD i true = true := by
    simp [Array.getD, hs]
theorem unl_zero {listed : Array Bool} : ∀ {n : Nat}, unl listed n = 0 → ∀ j, j < n → listed.getD j true = true
  | 0, _, j, h => by omega
  | n + 1, h0, j, h => by
    unfold unl at h0
    by_cases hj : j = n
    · subst hj
      by_cases hl : listed.getD j true = true
      · exact hl
      · rw [if_neg hl] at h0; omega
    · exact unl_zero (n := n) (by omega) j (by omega)
theorem unl_least {listed : Array Bool} {n : Nat} (hu : unl listed n ≠ 0) : ∃ i, i < n ∧ listed.getD i true = false ∧ ∀ j, j < i → listed.getD j true = true := by
  induction n with
  | zero => exact absurd rfl hu
  | succ n ih =>
    by_cases h : unl listed n = 0
    · refine ⟨n, by omega, ?_, unl_zero h⟩
      unfold unl at hu
      rw [h] at hu
      cases hl : listed.getD n true with
      | false => rfl
      | true => rw [hl] at hu; simp at hu
    · obtain ⟨i, hi, h1, h2⟩ := ih h
      exact ⟨i, by omega, h1, h2⟩
theorem getD_false {listed : Array Bool} {i : Nat} (hi : i < listed.size) (h : listed.getD i true = true) : listed.getD i false = true := by
  simp [Array.getD, hi] at h ⊢
  exact h
theorem ready_ex {n : Nat} {listed : Array Bool} (inv : HeadInv md ops n listed) (hback : ∀ i o, ops[i]? = some o → ∀ e ∈ o.after, Region.binds md e = true → e.on < i) (hn : n ≤ ops.size) (hu : unl listed n ≠ 0) :
    ∃ i, i < n ∧ listed.getD i true = false ∧ i ∈ Region.ready md ops listed := by
  obtain ⟨i, hi, h1, h2⟩ := unl_least hu
  refine ⟨i, hi, h1, mem_ready.2 ⟨h1, ops[i]'(by omega), by simp, fun e he hb => ?_⟩⟩
  have h3 := hback i _ (by simp) e he hb
  exact getD_false (by rw [inv.size]; omega) (h2 _ h3)
def canon (n m : Nat) : Array Bool := (Array.range m).map fun j => decide (j < n)
theorem eq_canon {n : Nat} {listed : Array Bool} (inv : HeadInv md ops n listed) (hu : unl listed n = 0) : listed = canon n ops.size := by
  apply Array.ext
  · simp [canon, inv.size]
  · intro i h1 h2
    have h3 : (canon n ops.size)[i] = decide (i < n) := by simp [canon]
    rw [h3]
    by_cases h : i < n
    · have := unl_zero hu i h
      simp [Array.getD, h1] at this
      simp [this, h]
    · have := inv.tail i (by omega) (by rw [← inv.size]; exact h1)
      simp [Array.getD, h1] at this
      simp [this, h]
/-- one value more -/
def upd (u : Nat → Value) (i : Nat) (v : Value) : Nat → Value := fun j => if j = i then v else u j
theorem wpAny_rel {n g : Nat} {hs : List Oper} {a0 : Act} {I : World → Prop} {R : Nat → (Nat → Value) → World → Prop} {deps : Nat → List Nat} {Q : Exit → Act → World → Prop}
    (hops : ∀ j, j < n → hs[j]? = ops[j]?) (hn : n < ops.size) (hap : apartDsts hs)
    (hs1 : Region.sinkB md ops n = true) (hc1 : Region.chainB md ops n = true)
    (hback : ∀ i o, ops[i]? = some o → ∀ e ∈ o.after, Region.binds md e = true → e.on < i)
    (hdeps : ∀ i o, hs[i]? = some o → ∀ j ∈ deps i, j < n ∧ ∃ e ∈ o.after, Region.binds md e = true ∧ e.on = j)
    (hloc : ∀ j u u' w, (∀ k, (k = j ∨ k ∈ deps j) → u k = u' k) → R j u w → R j u' w)
    (obl : ∀ i o, hs[i]? = some o → ∀ (u : Nat → Value) w, I w → (∀ j ∈ deps i, R j u w) →
      (Region.wanted o (yielded ops (putAll hs u 0 a0).tmps) = true ∧ gives P (fun v w' => R i (upd u i v) w' ∧ I w' ∧ ∀ j u, j ≠ i → R j u w → R j u w') ((execOp (putAll hs u 0 a0).eval o).run P w)) ∨
      (Region.wanted o (yielded ops (putAll hs u 0 a0).tmps) = false ∧ R i (upd u i undef) w))
    (hend : ∀ (u : Nat → Value) w, I w → (∀ j, j < n → R j u w) → wpAny P md ops Q g (canon n ops.size) (putAll hs u 0 a0) w) :
    ∀ (f : Nat) (listed : Array Bool) (u : Nat → Value) (w : World), unl listed n = f → HeadInv md ops n listed → I w → (∀ j, j < n → listed.getD j false = true → R j u w) →
      wpAny P md ops Q (f + g) listed (putAll hs u 0 a0) w := by
  intro f
  induction f with
  | zero =>
    intro listed u w hf inv hI hR
    rw [Nat.zero_add, eq_canon inv hf]
    refine hend u w hI fun j hj => hR j hj (getD_false (by rw [inv.size]; omega) (unl_zero hf j hj))
  | succ f ih =>
    intro listed u w hf inv hI hR
    obtain ⟨k, hk, hku, hkr⟩ := ready_ex inv hback (by omega) (by omega)
    rw [show f + 1 + g = (f + g) + 1 by omega]
    refine ⟨fun h => (by rw [h] at hkr; cases hkr), fun i hi => ?_⟩
    have hin : i < n := by
      rcases Nat.lt_or_ge i n with h | h
      · exact h
      · exact absurd hi (tail_waits hs1 hc1 hn inv _ k rfl hk hku i h)
    obtain ⟨hiu, o, ho, hall⟩ := mem_ready.1 hi
    have ho' : hs[i]? = some o := (hops i hin).trans ho
    have hRd : ∀ j ∈ deps i, R j u w := fun j hj => by
      obtain ⟨hjn, e, he, hb, hon⟩ := hdeps i o ho' j hj
      exact hR j hjn (by rw [← hon]; exact hall e he hb)
    have next : ∀ v w', R i (upd u i v) w' → I w' → (∀ j u, j ≠ i → R j u w → R j u w') → wpAny P md ops Q (f + g) (listed.setIfInBounds i true) ((putAll hs u 0 a0).put o.dst v) w' := fun v w' hv hI' hst => by
      rw [putAll_set hs u 0 i a0 o v hap ho']
      have hil : i < listed.size := by rw [inv.size]; omega
      refine ih _ _ w' (by have := unl_set hin hiu hil; omega) (inv.set hi hin) hI' fun j hj hl => ?_
      have hup : (fun j => if j = 0 + i then v else u j) = upd u i v := by funext j; simp [upd]
      rw [hup]
      by_cases hji : j = i
      · subst hji; exact hv
      · rw [getD_set_ne false (fun h => hji h.symm)] at hl
        refine hloc j u _ w' (fun q hq => ?_) (hst _ _ hji (hR j hj hl))
        unfold upd
        rw [if_neg ?_]
        rintro rfl
        rcases hq with rfl | hq
        · exact hji rfl
        · have hjo : ∃ oj, hs[j]? = some oj := by
            have hlen := hops j hj
            have : j < ops.size := by omega
            exact ⟨ops[j], by rw [hlen]; simp [this]⟩
          obtain ⟨oj, hoj⟩ := hjo
          obtain ⟨_, e, he, hb, hon⟩ := hdeps j oj hoj q hq
          have h1 := inv.closed j oj ((hops j hj).symm.trans hoj) hl e he hb
          rw [hon, getD_both hiu] at h1
          cases h1
    unfold wpOp
    simp only [ho]
    rcases obl i o ho' u w hI hRd with ⟨hw, hg⟩ | ⟨hw, hv⟩
    · rw [if_pos hw]
      refine .inl ?_
      unfold Oper.wp
      exact gives_upon (R := fun v w' => R i (upd u i v) w' ∧ I w' ∧ ∀ j u, j ≠ i → R j u w → R j u w') (fun v w' h => next v w' h.1 h.2.1 h.2.2) hg
    · rw [if_neg (by rw [hw]; simp)]
      exact next undef w hv hI (fun _ _ _ h => h)
/-- what the kernel reckons: edges lead back, the heads' slots are apart, the operations looked back at are edges, the tail is forced -/
def relB (md : Region.Mode) (l : List Oper) (n : Nat) (deps : Nat → List Nat) : Bool :=
  decide (n < l.length) && Region.sinkB md l.toArray n && Region.chainB md l.toArray n &&
  ((List.range l.length).all fun i => match l[i]? with | some o => o.after.all fun e => !Region.binds md e || decide (e.on < i) | none => true) &&
  ((List.range n).all fun i => (List.range i).all fun j => match l[i]?, l[j]? with | some x, some y => (match y.dst with | some d => x.dst != some d | none => true) | _, _ => true) &&
  ((List.range n).all fun i => match l[i]? with | some o => (deps i).all fun j => decide (j < n) && o.after.any fun e => Region.binds md e && e.on == j | none => true) &&
  Region.seqB md l.toArray (l.length - n) n (canon n l.length)
theorem wp_region_rel {id : Nat} {Q : Exit → Act → World → Prop} {a : Act} {w : World} {l : List Oper} (n : Nat) (I : World → Prop) (R : Nat → (Nat → Value) → World → Prop) (deps : Nat → List Nat)
    (hm : P.follows .mixedOrders = true) (hB : relB .any l n deps = true) (hloc : ∀ j u u' w, (∀ k, (k = j ∨ k ∈ deps j) → u k = u' k) → R j u w → R j u' w) (hI : I w.drew)
    (obl : ∀ i o, (l.take n)[i]? = some o → ∀ (u : Nat → Value) w, I w → (∀ j ∈ deps i, R j u w) →
      (Region.wanted o (yielded l.toArray (putAll (l.take n) u 0 a).tmps) = true ∧ gives P (fun v w' => R i (upd u i v) w' ∧ I w' ∧ ∀ j u, j ≠ i → R j u w → R j u w') ((execOp (putAll (l.take n) u 0 a).eval o).run P w)) ∨
      (Region.wanted o (yielded l.toArray (putAll (l.take n) u 0 a).tmps) = false ∧ R i (upd u i undef) w))
    (htail : ∀ (u : Nat → Value) w, I w → (∀ j, j < n → R j u w) → wpList P l.toArray Q (l.drop n) (putAll (l.take n) u 0 a) w) : (Code.region id l.toArray true).wp P Q a w := by
  simp only [relB, Bool.and_eq_true, decide_eq_true_eq, List.all_eq_true, List.mem_range] at hB
  obtain ⟨⟨⟨⟨⟨⟨hn, hs1⟩, hc1⟩, hback⟩, hap⟩, hdeps⟩, hseq⟩ := hB
  have hsz : l.toArray.size = l.length := by simp
  refine wp_region_any hm ?_
  have hown : putAll (l.take n) (fun j => slotOf a (((l.take n)[j]?).bind (·.dst))) 0 a = a := putAll_own _ 0 a _ fun j o ho => by simp only [Nat.zero_add]; rw [ho]; rfl
  have hu0 : unl (Array.replicate l.toArray.size false) n = n := by
    have key : ∀ m, m ≤ l.length → unl (Array.replicate l.toArray.size false) m = m := by
      intro m
      induction m with
      | zero => intro _; rfl
      | succ m ih =>
        intro h
        unfold unl
        rw [ih (by omega), if_neg (by simp [Array.getD, show m < l.length by omega])]
    exact key n (by omega)
  have inv0 : HeadInv .any l.toArray n (Array.replicate l.toArray.size false) :=
    ⟨by simp, fun j oj _ hl => (by rw [getD_replicate_false] at hl; cases hl), fun t _ ht => getD_in (by simpa using ht) (getD_replicate_false _ _)⟩
  have H := wpAny_rel (P := P) (ops := l.toArray) (md := .any) (n := n) (g := l.length - n) (hs := l.take n) (a0 := a) (I := I) (R := R) (deps := deps) (Q := Q)
    (fun j hj => by simp [List.getElem?_take_of_lt hj]) (by simpa using hn)
    (List.pairwise_iff_getElem.2 fun i j hi hj hij d hd => by
      have hi' : i < l.length := by simp at hi; omega
      have hj' : j < l.length := by simp at hj; omega
      have hjn : j < n := by simp at hj; omega
      have := hap j hjn i hij
      rw [List.getElem?_eq_getElem hj', List.getElem?_eq_getElem hi'] at this
      simp only [List.getElem_take] at hd ⊢
      simp only [hd] at this
      simpa using this)
    hs1 hc1
    (fun i o ho e he hb => by
      have ho' : l[i]? = some o := by simpa using ho
      have hil : i < l.length := (List.getElem?_eq_some_iff.1 ho').1
      have := hback i hil
      rw [ho'] at this
      have := Array.all_eq_true'.1 this e he
      simpa [hb] using this)
    (fun i o ho j hj => by
      have hin : i < n := by have := (List.getElem?_eq_some_iff.1 ho).1; simp at this; omega
      have ho' : l[i]? = some o := by rw [List.getElem?_take_of_lt hin] at ho; exact ho
      have := hdeps i hin
      rw [ho'] at this
      have := List.all_eq_true.1 this j hj
      simp only [Bool.and_eq_true, decide_eq_true_eq] at this
      obtain ⟨e, he, hb⟩ := Array.any_eq_true'.1 this.2
      simp only [Bool.and_eq_true, beq_iff_eq] at hb
      exact ⟨this.1, e, he, hb.1, hb.2⟩)
    hloc obl
    (fun u w' hI' hR => by
      have := wpAny_of_seq (md := .any) (Q' := Q) (l.drop n) n (canon n l.toArray.size) (putAll (l.take n) u 0 a) w' (fun j => by simp [List.getElem?_drop]) (by rw [List.length_drop, hsz]; exact hseq) (htail u w' hI' hR)
      rwa [List.length_drop] at this)
    n (Array.replicate l.toArray.size false) (fun j => slotOf a (((l.take n)[j]?).bind (·.dst))) w.drew hu0 inv0 hI (fun j _ hl => by rw [getD_replicate_false] at hl; cases hl)
  rw [hown, show n + (l.length - n) = l.length by omega] at H
  rw [hsz]
  exact H
/-- the values that a fact may speak of: an operation's own, and those it waits for -/
def mask (ds : List Nat) (j : Nat) (u : Nat → Value) : Nat → Value := fun k => if k = j ∨ k ∈ ds then u k else undef
theorem mask_congr {ds : List Nat} {j : Nat} {u u' : Nat → Value} (h : ∀ k, (k = j ∨ k ∈ ds) → u k = u' k) : mask ds j u = mask ds j u' := by
  funext k
  unfold mask
  split
  · rename_i hk; exact h k hk
  · rfl
/-- one obligation an operation, in any world above W -/
def relObl (P : Program) (ops : Array Oper) (W : World) (R : Nat → (Nat → Value) → World → Prop) (deps : Nat → List Nat) (hs : List Oper) (a0 : Act) : List Oper → Nat → Prop
  | [], _ => True
  | o :: r, i => (∀ (u : Nat → Value) w, RowKit.Below W.heap.size W w → (∀ j ∈ deps i, R j (mask (deps j) j u) w) →
      (Region.wanted o (yielded ops (putAll hs u 0 a0).tmps) = true ∧ gives P (fun v w' => R i (mask (deps i) i (upd u i v)) w' ∧ RowKit.Below w.heap.size w w') ((execOp (putAll hs u 0 a0).eval o).run P w)) ∨
      (Region.wanted o (yielded ops (putAll hs u 0 a0).tmps) = false ∧ R i (mask (deps i) i (upd u i undef)) w)) ∧ relObl P ops W R deps hs a0 r (i + 1)
theorem relObl_get {W : World} {R : Nat → (Nat → Value) → World → Prop} {deps : Nat → List Nat} {hs : List Oper} {a0 : Act} : ∀ (l : List Oper) (k : Nat), relObl P ops W R deps hs a0 l k → ∀ j o, l[j]? = some o →
    (∀ (u : Nat → Value) w, RowKit.Below W.heap.size W w → (∀ i ∈ deps (k + j), R i (mask (deps i) i u) w) →
      (Region.wanted o (yielded ops (putAll hs u 0 a0).tmps) = true ∧ gives P (fun v w' => R (k + j) (mask (deps (k + j)) (k + j) (upd u (k + j) v)) w' ∧ RowKit.Below w.heap.size w w') ((execOp (putAll hs u 0 a0).eval o).run P w)) ∨
      (Region.wanted o (yielded ops (putAll hs u 0 a0).tmps) = false ∧ R (k + j) (mask (deps (k + j)) (k + j) (upd u (k + j) undef)) w))
  | [], _, _, j, o, h => by simp at h
  | x :: r, k, h, j, o, ho => by
    cases j with
    | zero =>
      simp only [List.getElem?_cons_zero, Option.some.injEq] at ho
      subst ho
      exact h.1
    | succ j =>
      have := relObl_get r (k + 1) h.2 j o (by simpa using ho)
      rw [show k + 1 + j = k + (j + 1) by omega] at this
      exact this
theorem gives_mono {P : Program} {R R' : Value → World → Prop} (h : ∀ v w, R v w → R' v w) : ∀ {r : Result Next}, gives P R r → gives P R' r
  | .ok (.value _) _, hr => h _ _ hr
  | .ok .skip _, hr => h _ _ hr
  | .ok (.enter _ _) _, hr => Calls.mono hr fun _ _ ⟨v, h1, h2⟩ => ⟨v, h1, h _ _ h2⟩
/-- THE LAW, all worlds above the one at the region's head -/
theorem wp_region_relB {id : Nat} {Q : Exit → Act → World → Prop} {a : Act} {w : World} {l : List Oper} (n : Nat) (R : Nat → (Nat → Value) → World → Prop) (deps : Nat → List Nat)
    (hm : P.follows .mixedOrders = true) (hB : relB .any l n deps = true) (hst : ∀ j u w w', RowKit.Below w.heap.size w w' → R j u w → R j u w')
    (obl : relObl P l.toArray w.drew R deps (l.take n) a (l.take n) 0)
    (htail : ∀ (u : Nat → Value) w', RowKit.Below w.drew.heap.size w.drew w' → (∀ j, j < n → R j (mask (deps j) j u) w') → wpList P l.toArray Q (l.drop n) (putAll (l.take n) u 0 a) w') : (Code.region id l.toArray true).wp P Q a w := by
  refine wp_region_rel n (fun w' => RowKit.Below w.drew.heap.size w.drew w') (fun j u w => R j (mask (deps j) j u) w) deps hm hB (fun j u u' w h hR => by rw [← mask_congr h]; exact hR) (RowKit.Below.refl _ _) (fun i o ho u w' hI hd => ?_) htail
  have h := relObl_get (l.take n) 0 obl i o ho u w' hI (by rw [Nat.zero_add]; exact hd)
  rw [Nat.zero_add] at h
  rcases h with ⟨h1, h2⟩ | h
  · exact .inl ⟨h1, gives_mono (fun v w'' ⟨g1, g2⟩ => ⟨g1, below_then hI g2, fun j u _ hj => hst j _ _ _ g2 hj⟩) h2⟩
  · exact .inr h
/-- what an operation owes -/
def owes (P : Program) (ops : Array Oper) (Ri : Value → World → Prop) (A : Act) (o : Oper) (w : World) : Prop :=
  (Region.wanted o (yielded ops A.tmps) = true ∧ gives P (fun v w' => Ri v w' ∧ RowKit.Below w.heap.size w w') ((execOp A.eval o).run P w)) ∨ (Region.wanted o (yielded ops A.tmps) = false ∧ Ri undef w)
/-- an operation that leaves the world alone -/
theorem owes_here {Ri : Value → World → Prop} {A : Act} {o : Oper} {w : World} (v : Value) (hg : o.guard = none) (h : (execOp A.eval o).run P w = .ok (.value v) w) (hR : Ri v w) : owes P ops Ri A o w :=
  .inl ⟨by simp [Region.wanted, hg], by rw [h]; exact ⟨hR, RowKit.Below.refl _ _⟩⟩
theorem owes_call {Ri : Value → World → Prop} {A : Act} {o : Oper} {w : World} (f : FuncId) (args : Array Value) (hg : o.guard = none) (h : (execOp A.eval o).run P w = .ok (.enter f args) w)
    (hc : Calls P f args w fun e w' => ∃ v, e = .returned v ∧ Ri v w' ∧ RowKit.Below w.heap.size w w') : owes P ops Ri A o w :=
  .inl ⟨by simp [Region.wanted, hg], by rw [h]; exact hc⟩
/-- an operation that makes memory -/
theorem owes_makes {Ri : Value → World → Prop} {A : Act} {o : Oper} {w w' : World} (v : Value) (hg : o.guard = none) (h : (execOp A.eval o).run P w = .ok (.value v) w') (hR : Ri v w') (hb : RowKit.Below w.heap.size w w') : owes P ops Ri A o w :=
  .inl ⟨by simp [Region.wanted, hg], by rw [h]; exact ⟨hR, hb⟩⟩
def owesK (P : Program) (ops : Array Oper) (Ri : Value → World → Prop) (Ki : World → World → Prop) (A : Act) (o : Oper) (w : World) : Prop :=
  (Region.wanted o (yielded ops A.tmps) = true ∧ gives P (fun v w' => Ri v w' ∧ Ki w w') ((execOp A.eval o).run P w)) ∨ (Region.wanted o (yielded ops A.tmps) = false ∧ Ri undef w)
def relOblK (P : Program) (ops : Array Oper) (I : World → Prop) (K : Nat → World → World → Prop) (R : Nat → (Nat → Value) → World → Prop) (deps : Nat → List Nat) (hs : List Oper) (a0 : Act) : List Oper → Nat → Prop
  | [], _ => True
  | o :: r, i => (∀ (u : Nat → Value) w, I w → (∀ j ∈ deps i, R j (mask (deps j) j u) w) → owesK P ops (fun v w' => R i (mask (deps i) i (upd u i v)) w') (K i) (putAll hs u 0 a0) o w) ∧ relOblK P ops I K R deps hs a0 r (i + 1)
theorem relOblK_get {I : World → Prop} {K : Nat → World → World → Prop} {R : Nat → (Nat → Value) → World → Prop} {deps : Nat → List Nat} {hs : List Oper} {a0 : Act} : ∀ (l : List Oper) (k : Nat), relOblK P ops I K R deps hs a0 l k → ∀ j o, l[j]? = some o →
    (∀ (u : Nat → Value) w, I w → (∀ i ∈ deps (k + j), R i (mask (deps i) i u) w) → owesK P ops (fun v w' => R (k + j) (mask (deps (k + j)) (k + j) (upd u (k + j) v)) w') (K (k + j)) (putAll hs u 0 a0) o w)
  | [], _, _, j, o, h => by simp at h
  | x :: r, k, h, j, o, ho => by
    cases j with
    | zero =>
      simp only [List.getElem?_cons_zero, Option.some.injEq] at ho
      subst ho
      exact h.1
    | succ j =>
      have := relOblK_get r (k + 1) h.2 j o (by simpa using ho)
      rw [show k + 1 + j = k + (j + 1) by omega] at this
      exact this
theorem wp_region_relK {id : Nat} {Q : Exit → Act → World → Prop} {a : Act} {w : World} {l : List Oper} (n : Nat) (I : World → Prop) (K : Nat → World → World → Prop) (R : Nat → (Nat → Value) → World → Prop) (deps : Nat → List Nat)
    (hm : P.follows .mixedOrders = true) (hB : relB .any l n deps = true) (hI0 : I w.drew) (hI : ∀ i w w', K i w w' → I w → I w') (hst : ∀ i j u w w', j ≠ i → K i w w' → I w → R j u w → R j u w')
    (obl : relOblK P l.toArray I K R deps (l.take n) a (l.take n) 0)
    (htail : ∀ (u : Nat → Value) w', I w' → (∀ j, j < n → R j (mask (deps j) j u) w') → wpList P l.toArray Q (l.drop n) (putAll (l.take n) u 0 a) w') : (Code.region id l.toArray true).wp P Q a w := by
  refine wp_region_rel n I (fun j u w => R j (mask (deps j) j u) w) deps hm hB (fun j u u' w h hR => by rw [← mask_congr h]; exact hR) hI0 (fun i o ho u w' hI' hd => ?_) htail
  have h := relOblK_get (l.take n) 0 obl i o ho u w' hI' (by rw [Nat.zero_add]; exact hd)
  rw [Nat.zero_add] at h
  rcases h with ⟨h1, h2⟩ | h
  · exact .inl ⟨h1, gives_mono (fun v w'' ⟨g1, g2⟩ => ⟨g1, hI _ _ _ g2 hI', fun j u hji hj => hst i j _ _ _ hji g2 hI' hj⟩) h2⟩
  · exact .inr h
theorem owesK_here {Ri : Value → World → Prop} {Ki : World → World → Prop} {A : Act} {o : Oper} {w : World} (v : Value) (hg : o.guard = none) (h : (execOp A.eval o).run P w = .ok (.value v) w) (hR : Ri v w) (hk : Ki w w) : owesK P ops Ri Ki A o w :=
  .inl ⟨by simp [Region.wanted, hg], by rw [h]; exact ⟨hR, hk⟩⟩
theorem owesK_call {Ri : Value → World → Prop} {Ki : World → World → Prop} {A : Act} {o : Oper} {w : World} (f : FuncId) (args : Array Value) (hg : o.guard = none) (h : (execOp A.eval o).run P w = .ok (.enter f args) w)
    (hc : Calls P f args w fun e w' => ∃ v, e = .returned v ∧ Ri v w' ∧ Ki w w') : owesK P ops Ri Ki A o w :=
  .inl ⟨by simp [Region.wanted, hg], by rw [h]; exact hc⟩
theorem owesK_makes {Ri : Value → World → Prop} {Ki : World → World → Prop} {A : Act} {o : Oper} {w w' : World} (v : Value) (hg : o.guard = none) (h : (execOp A.eval o).run P w = .ok (.value v) w') (hR : Ri v w') (hk : Ki w w') : owesK P ops Ri Ki A o w :=
  .inl ⟨by simp [Region.wanted, hg], by rw [h]; exact ⟨hR, hk⟩⟩
end
end Go.Proofs.YtkmonmdnmpbadaaDoor
namespace Go.Proofs.YtkmonmdnmpbadaaDoor
open Go.RowKit
/-- one block has turned, no other -/
structure Touch (g : Nat) (w W : World) : Prop where
  os : W.os = w.os
  tape : W.tape = w.tape
  output : W.output = w.output
  size : W.heap.size = w.heap.size
  other : ∀ b, b ≠ g → W.heap[b]? = w.heap[b]?
section
variable {g B : Nat} {a w W : World}
theorem Touch.below (h : Touch g w W) (hb : Below B a w) (hg : B ≤ g) : Below B a W :=
  hb.trans ⟨h.os, h.tape, h.output, by rw [h.size]; exact Nat.le_refl _, fun k hk => h.other k (by omega)⟩
theorem Touch.block (h : Touch g w W) {b : Nat} {x : Obj} (hx : w.heap[b]? = some x) (hne : b ≠ g) : W.heap[b]? = some x := (h.other b hne).trans hx
theorem below_block (h : Below w.heap.size w W) {b : Nat} {x : Obj} (hx : w.heap[b]? = some x) : W.heap[b]? = some x := by
  have hb : b < w.heap.size := by
    rcases Nat.lt_or_ge b w.heap.size with h1 | h1
    · exact h1
    · rw [Array.getElem?_eq_none h1] at hx; cases hx
  exact (h.block b hb).trans hx
theorem touch_setRow (w : World) (g : Nat) (cs : Array Value) : Touch g w (w.setRow g cs) := ⟨rfl, rfl, rfl, by simp, fun b hb => setRow_other w g b cs hb⟩
theorem OwnAt.touch {α : Type} {R : Rd α} {k : Nat} {e : TypeId} {v : Value} {l : List α} (hf : Flat R) (h : OwnAt R k w B e v l) (ht : Touch g w W) (hne : ∀ q, v.ownBlock = some q → q ≠ g) : OwnAt R k W B e v l := by
  obtain ⟨css, h1, h2, h3, h4⟩ := h
  refine ⟨css, h1, h2, ⟨h3.1, ?_⟩, fun j cs y hcs hy => hf _ _ _ _ (h4 j cs y hcs hy)⟩
  rcases h3.2 with h5 | ⟨q, cap, cur, rfl, hB, hh, hr⟩
  · exact .inl h5
  · exact .inr ⟨q, cap, cur, rfl, hB, (ht.other q (hne q rfl)).trans hh, hr⟩
end
section
variable {P : Program} {ops : Array Oper} {rest : List Oper} {o : Oper} {a : Act} {w : World} {Q : Exit → Act → World → Prop}
/-- the whole is stored -/
theorem wpList_store_box (hgd : o.guard = none) (ty : TypeId) (x y : Operand) (ho : o.op = .store ty x y) (g : Nat) (cells : Array Value) (hx : a.eval x = .pointer (some ⟨g, 0, none⟩)) (hy : a.eval y = .agg cells)
    (t : TypeId) (old : Array Value) (hg : w.heap[g]? = some (.cells old t (0, 0))) (hi : (P.info? ty).map (·.size) = some cells.size) (hold : old.size = cells.size) (h1 : cells.all (·.oneCell') = true)
    (h : ∀ W, W.heap[g]? = some (.cells cells t (0, 0)) → Touch g w W → wpList P ops Q rest (a.put o.dst undef) W) : wpList P ops Q (o :: rest) a w :=
  wpList_store_row hgd ty x y ho g cells hx hy t old hg hi hold h1 (h _ (setRow_heap w g old cells t (0, 0) hg) (touch_setRow w g cells))
/-- the whole of one box is loaded and stored into another -/
theorem wpList_copy_box {o2 : Oper} (hgd : o.guard = none) (ty : TypeId) (x : Operand) (ho : o.op = .load ty x) (hgd2 : o2.guard = none) (y z : Operand) (ho2 : o2.op = .store ty y z) (g1 g2 : Nat) (hx : a.eval x = .pointer (some ⟨g1, 0, none⟩))
    (t1 : TypeId) (cells : Array Value) (fr : Nat × Nat) (d : TypeDesc) (hg1 : w.heap[g1]? = some (.cells cells t1 fr)) (hy : (a.put o.dst (.agg cells)).eval y = .pointer (some ⟨g2, 0, none⟩)) (hz : (a.put o.dst (.agg cells)).eval z = .agg cells)
    (t : TypeId) (old : Array Value) (hg : w.heap[g2]? = some (.cells old t (0, 0))) (hu : P.underlying ty = some d) (hd : (match d with | .struct _ | .array _ _ => true | _ => false) = true)
    (hi : (P.info? ty).map (·.size) = some cells.size) (hold : old.size = cells.size) (h1 : cells.all (·.oneCell') = true)
    (h : ∀ W, W.heap[g2]? = some (.cells cells t (0, 0)) → Touch g2 w W → wpList P ops Q rest ((a.put o.dst (.agg cells)).put o2.dst undef) W) : wpList P ops Q (o :: o2 :: rest) a w :=
  wpList_load_row hgd ty x ho g1 hx t1 cells fr d hg1 hu hd hi (wpList_store_box hgd2 ty y z ho2 g2 cells hy hz t old hg hi hold h1 h)
/-- a store into one cell of a box -/
theorem touch_setCell {g i : Nat} {cs : Array Value} {t : TypeId} {v : Value} (hg : w.heap[g]? = some (.cells cs t (0, 0))) : (w.setCell ⟨g, i, none⟩ v).heap[g]? = some (.cells (cs.setIfInBounds i v) t (0, 0)) ∧ Touch g w (w.setCell ⟨g, i, none⟩ v) := by
  rw [setCell_eq_setRow w g i cs t (0, 0) v hg]
  exact ⟨setRow_heap w g _ _ t _ hg, touch_setRow w g _⟩
end
theorem flat_set {β : Type} {k : Nat} : ∀ {css : List (List β)}, (∀ cs ∈ css, cs.length = k) → ∀ {j i : Nat} {cs : List β} (u : β), css[j]? = some cs → i < k → css.flatten.set (j * k + i) u = (css.set j (cs.set i u)).flatten
  | [], _, j, i, cs, u, h, _ => by simp at h
  | c :: r, hk, j, i, cs, u, h, hi => by
    have hc : c.length = k := hk c (List.mem_cons_self ..)
    cases j with
    | zero =>
      simp only [List.getElem?_cons_zero, Option.some.injEq] at h
      subst h
      rw [List.flatten_cons, List.set_cons_zero, List.flatten_cons, Nat.zero_mul, Nat.zero_add, List.set_append_left _ _ (by omega)]
    | succ j =>
      rw [List.flatten_cons, List.set_cons_succ, List.flatten_cons, List.set_append_right _ _ (by rw [Nat.add_mul]; omega), show (j + 1) * k + i - c.length = j * k + i by rw [Nat.add_mul]; omega,
        flat_set (fun cs hcs => hk cs (List.mem_cons_of_mem _ hcs)) u (by simpa using h) hi]
/-- a cell of an own row is stored -/
theorem OwnAt.store {α : Type} {R : Rd α} {k : Nat} {l : List α} {B : Nat} {e : TypeId} (hf : Flat R) {w : World} {g c n : Nat} (h : OwnAt R k w B e (.slice (some ⟨g, 0, none⟩) n c) l) {j i : Nat} {x x' : α} (hj : l[j]? = some x) (hi : i < k) (u : Value) (hR : ∀ cs, R w cs x → R w (cs.set i u) x') :
    OwnAt R k (w.setCell ⟨g, j * k + i, none⟩ u) B e (.slice (some ⟨g, 0, none⟩) n c) (l.set j x') ∧ Touch g w (w.setCell ⟨g, j * k + i, none⟩ u) := by
  obtain ⟨css, h1, h2, h3, h4⟩ := h
  have hjl := (List.getElem?_eq_some_iff.1 hj).1
  have hcs : css[j]? = some (css[j]'(by omega)) := List.getElem?_eq_getElem _
  have hck : (css[j]'(by omega)).length = k := h2 _ (List.getElem_mem _)
  rcases h3.2 with ⟨h5, _⟩ | ⟨g', cap, cur, hv, hB, hh, hle, hm, hz, ht⟩
  · cases h5
  · cases hv
    obtain ⟨t1, t2⟩ := touch_setCell (i := j * k + i) (v := u) hh
    refine ⟨⟨css.set j ((css[j]'(by omega)).set i u), by simp [h1], fun cs hcs' => ?_, ?_, fun q cs y hq hy => ?_⟩, t2⟩
    · rcases List.mem_or_eq_of_mem_set hcs' with h6 | h6
      · exact h2 cs h6
      · rw [h6, List.length_set]; exact hck
    · rw [List.length_set]
      refine ⟨?_, .inr ⟨g, c, _, rfl, hB, t1, hle, hm, by simpa using hz, ?_⟩⟩
      · rw [← flat_set h2 u hcs hi, List.length_set]; exact h3.1
      · rw [← flat_set h2 u hcs hi, ← ht, Array.toList_setIfInBounds, List.take_set]
    · by_cases hqj : j = q
      · subst hqj
        rw [List.getElem?_set, if_pos rfl, if_pos (by omega)] at hq hy
        cases hq; cases hy
        exact hf _ _ _ _ (hR _ (h4 j _ x hcs hj))
      · rw [List.getElem?_set, if_neg hqj] at hq hy
        exact hf _ _ _ _ (h4 q cs y hq hy)
end Go.Proofs.YtkmonmdnmpbadaaDoor
namespace Go.Proofs.YtkmonmdnmpbadaaDoor
open Go.RowKit
/-- one block may have turned, no other that was there -/
structure But (g : Nat) (w w' : World) : Prop where
  os : w'.os = w.os
  tape : w'.tape = w.tape
  output : w'.output = w.output
  size : w.heap.size ≤ w'.heap.size
  block : ∀ k, k < w.heap.size → k ≠ g → w'.heap[k]? = w.heap[k]?
theorem But.refl (g : Nat) (w : World) : But g w w := ⟨rfl, rfl, rfl, Nat.le_refl _, fun _ _ _ => rfl⟩
theorem But.trans {g : Nat} {a b c : World} (h : But g a b) (k : But g b c) : But g a c :=
  ⟨k.os.trans h.os, k.tape.trans h.tape, k.output.trans h.output, Nat.le_trans h.size k.size, fun q hq hn => (k.block q (Nat.lt_of_lt_of_le hq h.size) hn).trans (h.block q hq hn)⟩
theorem But.of {g : Nat} {w w' : World} (h : Below w.heap.size w w') : But g w w' := ⟨h.os, h.tape, h.output, h.size, fun k hk _ => h.block k hk⟩
theorem But.touch {g : Nat} {w w' : World} (h : Touch g w w') : But g w w' := ⟨h.os, h.tape, h.output, by rw [h.size]; exact Nat.le_refl _, fun k _ hn => h.other k hn⟩
theorem But.below {g B : Nat} {a w w' : World} (h : But g w w') (hb : Below B a w) (hB : B ≤ w.heap.size) (hg : B ≤ g) : Below B a w' :=
  hb.trans ⟨h.os, h.tape, h.output, h.size, fun k hk => h.block k (by omega) (by omega)⟩
theorem But.keep {g k : Nat} {w w' : World} {x : Obj} (h : But g w w') (hx : w.heap[k]? = some x) (hn : k ≠ g) : w'.heap[k]? = some x := by
  have hb : k < w.heap.size := by
    rcases Nat.lt_or_ge k w.heap.size with h1 | h1
    · exact h1
    · rw [Array.getElem?_eq_none h1] at hx; cases hx
  exact (h.block k hb hn).trans hx
theorem But.cell {g : Nat} {w w' : World} {p : Addr} (h : But g w w') (hp : p.block < w.heap.size) (hn : p.block ≠ g) : w'.cell? p = w.cell? p := by
  unfold World.cell?
  rw [h.block _ hp hn]
section
variable {α : Type} {R : Rd α} {k : Nat} {e : TypeId} {v : Value} {l : List α} {B g : Nat} {w w' : World}
theorem OwnAt.but (hf : Flat R) (h : OwnAt R k w B e v l) (hb : But g w w') (hne : ∀ q, v.ownBlock = some q → q ≠ g) : OwnAt R k w' B e v l := by
  obtain ⟨css, h1, h2, h3, h4⟩ := h
  refine ⟨css, h1, h2, ⟨h3.1, ?_⟩, fun j cs y hcs hy => hf _ _ _ _ (h4 j cs y hcs hy)⟩
  rcases h3.2 with h5 | ⟨q, cap, cur, rfl, hB, hh, hr⟩
  · exact .inl h5
  · exact .inr ⟨q, cap, cur, rfl, hB, hb.keep hh (hne q rfl), hr⟩
end
end Go.Proofs.YtkmonmdnmpbadaaDoor
namespace Go.Proofs.YtkmonmdnmpbadaaDoor
open Go.RowKit
def markB : ByteArray := ⟨#[109, 97, 114, 107]⟩
/-- append of a row of strings behind a row of the call's own that has room -/
theorem wpList_append_strs_spare {P : Program} {l m : List ByteArray} (w : World) {ops : Array Oper} {rest : List Oper} {o : Oper} {a : Act} {Q : Exit → Act → World → Prop} (hgd : o.guard = none) (s x : Operand) (t : TypeId)
    (ho : o.op = .call { callee := .builtin .append, args := #[s, x], argTypes := #[t, t] })
    (base : Nat) (e : TypeId) (i : TypeInfo) (ht : P.underlying t = some (.slice e)) (hi : P.info? e = some i) (hsize : i.size = 1)
    (g n cap : Nat) (hs : a.eval s = .slice (some ⟨g, 0, none⟩) n cap) (hown : w.ownsRow base e 1 (.slice (some ⟨g, 0, none⟩) n cap) n (strs l)) (xv : Value) (hx : a.eval x = xv) (hrow : StrAt w xv m)
    (k : Nat) (hk : k = n + m.length) (hroom : k ≤ cap)
    (h : ∀ w', w'.ownsRow base e 1 (.slice (some ⟨g, 0, none⟩) k cap) k (strs (l ++ m)) → w.grownBy w' (some g) → wpList P ops Q rest (a.put o.dst (.slice (some ⟨g, 0, none⟩) k cap)) w') : wpList P ops Q (o :: rest) a w := by
  subst hk
  rcases hrow with ⟨rfl, rfl⟩ | ⟨ad, c, rfl, h1, h2, h3⟩
  · have h9 := h w (by simpa using hown) (World.grownBy.refl w _)
    simp only [List.length_nil, Nat.add_zero] at h9
    exact wpList_append_own_none hgd s x t ho base e i 1 ht hi _ n _ hs hown hx h9
  · refine wpList_append_own_spare w hgd s x t ho base e i 1 ht hi hsize g n cap _ hs hown ad m.length c (strs m) hx (by simp [strs]) (fun j u hu => ?_) (by simp [strs]; intros; subst_vars; rfl) hroom
      (fun w' h2 h3 => h w' (by rw [strs_append]; exact h2) h3)
    simp only [strs, List.getElem?_map] at hu
    cases hm : m[j]? with
    | none => rw [hm] at hu; cases hu
    | some y =>
      rw [hm] at hu
      simp only [Option.map_some, Option.some.injEq] at hu
      subst hu
      exact h3 j y hm
theorem two_marks {w : World} {g : Nat} {t : TypeId} (h : w.heap[g]? = some (.cells #[.string markB, .string markB] t (0, 0))) : StrAt w (.slice (some ⟨g, 0, none⟩) 2 2) [markB, markB] := by
  refine .inr ⟨_, 2, rfl, Nat.le_refl _, by unfold maxLen; decide, fun j x hx => ?_⟩
  have hj : j < 2 := (List.getElem?_eq_some_iff.1 hx).1
  rw [add_plain', Nat.zero_add]
  have : w.cell? ⟨g, j, none⟩ = #[Value.string markB, Value.string markB][j]? := cell_block h j
  rw [this]
  match j, hj with
  | 0, _ => simp at hx; subst hx; rfl
  | 1, _ => simp at hx; subst hx; rfl
/-- a row that fills its block -/
theorem own_full {w : World} {B g n : Nat} {e : TypeId} {L : List ByteArray} (h : w.ownsRow B e 1 (.slice (some ⟨g, 0, none⟩) n n) n (strs L)) (hL : L.length = n) : w.heap[g]? = some (.cells (strs L).toArray e (0, 0)) ∧ B ≤ g := by
  rcases h.2 with ⟨hv, _⟩ | ⟨g', cap, cur, hv, h1, h2, _, _, h4, h5⟩
  · cases hv
  · injection hv with e1 e2 e3
    injection e1 with e1
    injection e1 with e1
    subst e1 e3
    rw [Nat.mul_one] at h4 h5
    have : cur.toList = strs L := by rw [← h5, List.take_of_length_le (by simp [h4])]
    refine ⟨?_, h1⟩
    rw [h2, ← this]
set_option maxRecDepth 100000 in
set_option maxHeartbeats 800000 in
theorem texts_any (v : Value) (l : List ByteArray) (w : World) (h : StrAt w v l) (hl : l.length ≤ 1048576) :
    Calls Tryd.prog 30 #[v] w fun e w' => ∃ g, e = .returned (.slice (some ⟨g, 0, none⟩) l.length (l.length + 2)) ∧ w.heap.size ≤ g ∧ w'.heap[g]? = some (.cells (strs (l ++ [markB, markB])).toArray 9 (0, 0)) ∧ Below w.heap.size w w' := by
  obtain ⟨i0, hi0, hz0, hz1, hz2⟩ := info_parts Tryd.infoStr
  obtain ⟨a1, c1, rfl, hc1, hc2⟩ := h.len
  obtain ⟨n, hn⟩ : ∃ n, l.length = n := ⟨_, rfl⟩
  rw [hn] at hc1 hl h ⊢
  have q1 : (0 : Int) ≤ (n : Int) + 2 := by omega
  have q2 : (n : Int) + 2 = ((n + 2 : Nat) : Int) := by omega
  obtain ⟨w1, hr1, hown1, hg1⟩ := run_make_own (P := Tryd.prog) w w.heap.size 31 9 i0 _ 1 Tryd.underlying31 hi0 hz0 hz1 .i64 .i64 (n + 2) (by rw [hz2]; omega) (by unfold maxLen; omega) (Nat.le_refl _)
  rw [← q2] at hr1
  clear q2
  have HO1 := Lib.hid hown1
  have HG1 := Lib.hid hg1
  have H := Lib.hid h
  have Hn := Lib.hid hn
  clear hown1 hg1 h hn
  go_enter Tryd.func30, Tryd.ntmps30
  go_wp2_with (at_builtin; refine wpList_append_strs_spare _ (by rfl) _ _ _ (by rfl) w.heap.size _ i0 Tryd.underlying31 hi0 hz1 w.heap.size 0 (n + 2) (by rfl) (l := []) (by exact HO1.out) _ (by rfl) (by exact H.out.below (below_of_grown (Below.refl w.heap.size w) (Nat.le_refl _) HG1.out (fun g h => by cases h))) n (by rw [Hn.out, Nat.zero_add]) (by omega) ?_)
  intro w2 hown2 hg2
  have hb1 : Below w.heap.size w w1 := below_of_grown (Below.refl w.heap.size w) (Nat.le_refl _) HG1.out (fun g h => by cases h)
  have hb2 : Below w.heap.size w w2 := below_of_grown hb1 hb1.size hg2 (fun g h => by cases h; exact Nat.le_refl _)
  have HO2 := Lib.hid hown2
  have HB2 := Lib.hid hb2
  clear hown2 hg2 hb1 hb2
  have HO3 := Lib.hid (HO2.out.alloc (.cells #[.string markB, .string markB] 9))
  have HM := Lib.hid (two_marks (heap_alloc_new w2 (.cells #[.string markB, .string markB] 9)))
  go_wp2_with (at_builtin; refine wpList_append_strs_spare _ (by rfl) _ _ _ (by rfl) w.heap.size _ i0 Tryd.underlying31 hi0 hz1 w.heap.size n (n + 2) (by rfl) (l := [] ++ l) (by exact HO3.out) _ (by rfl) (by exact HM.out) (n + 2) (by rfl) (by omega) ?_)
  intro w4 hown4 hg4
  have hb4 : Below w.heap.size w w4 := below_of_grown (HB2.out.alloc HB2.out.size _) (Nat.le_trans HB2.out.size (by simp)) hg4 (fun g h => by cases h; exact Nat.le_refl _)
  obtain ⟨hf, _⟩ := own_full hown4 (by simp [Hn.out])
  have HF := Lib.hid hf
  have HB4 := Lib.hid hb4
  clear hown4 hg4 hb4 hf HO2 HO3 HM HB2 HO1 HG1 hr1
  have p1 : (0 : Int) ≤ (n : Int) := by omega
  have p2 : (n : Int) ≤ (n : Int) + 2 := by omega
  go_wp2_with fail
  go_ret
  exact ⟨w.heap.size, rfl, Nat.le_refl _, by simpa using HF.out, HB4.out⟩
set_option maxRecDepth 100000 in
theorem spoil_nil (n : Nat) (w : World) : Calls Tryd.prog 45 #[.slice none n 0] w fun e w' => e = .returned (.tuple #[]) ∧ w = w' := by
  go_enter Tryd.func45, Tryd.ntmps45
  go_wp2_with fail
  go_loopg [9] 0 (fun k u9 wr => k = 0 ∧ u9 = .int .i64 0 ∧ w = wr)
  case atStart => exact ⟨rfl, rfl, rfl⟩
  case round =>
    obtain ⟨rfl, rfl, rfl⟩ := hrel
    go_wp2_with fail
    go_end0
    exact ⟨rfl, rfl⟩
end Go.Proofs.YtkmonmdnmpbadaaDoor
namespace Go.Proofs.YtkmonmdnmpbadaaDoor
open Go.RowKit Go.ChangeShapes Go.WideShapes
structure GRule where
  verbs : List ByteArray
  kinds : List ByteArray
  names : List ByteArray
def RuleR : Rd GRule := fun w cs x => ∃ v0 v1 v2, cs = [v0, v1, v2] ∧ StrAt w v0 x.verbs ∧ StrAt w v1 x.kinds ∧ StrAt w v2 x.names
theorem stays_rule : Stays RuleR := fun _ _ _ _ hk ⟨v0, v1, v2, h, g0, g1, g2⟩ => ⟨v0, v1, v2, h, g0.keep hk, g1.keep hk, g2.keep hk⟩
def ruleB (x : GRule) : Nat := ((total x.verbs + 1) + ((total x.kinds + 1) + ((total x.names + 1) + 0))) + 1
set_option maxRecDepth 10000 in
theorem opens_rule : Opens Tryd.prog 44 RuleR ruleB := by
  intro H enc w base spare held fuel cs x h
  obtain ⟨xs, n, _, rfl, hl, hx, hf⟩ := DataW.trod_struct Tryd.underlying44 h
  have hl2 : cs.length = 3 := hl.trans (by kernel_rfl)
  clear hl h
  match cs, hl2, xs, hx, hf with
  | [c0, c1, c2], _, [x0, x1, x2], _, hf =>
    obtain ⟨a0, r0, m0⟩ := (opens_strs Tryd.underlying31 Tryd.underlying9 (by kernel_rfl)).at (o := 0) (cs := [c0, c1, c2]) (ds := [c0]) (x := x0) (hf 0 _ rfl) (k := 1) (by kernel_rfl) rfl
    obtain ⟨a1, r1, m1⟩ := (opens_strs Tryd.underlying31 Tryd.underlying9 (by kernel_rfl)).at (o := 1) (cs := [c0, c1, c2]) (ds := [c1]) (x := x1) (hf 1 _ rfl) (k := 1) (by kernel_rfl) rfl
    obtain ⟨a2, r2, m2⟩ := (opens_strs Tryd.underlying31 Tryd.underlying9 (by kernel_rfl)).at (o := 2) (cs := [c0, c1, c2]) (ds := [c2]) (x := x2) (hf 2 _ rfl) (k := 1) (by kernel_rfl) rfl
    clear hf
    obtain ⟨v0, r0, s0⟩ := r0
    obtain rfl : c0 = v0 := by simpa using r0
    obtain ⟨v1, r1, s1⟩ := r1
    obtain rfl : c1 = v1 := by simpa using r1
    obtain ⟨v2, r2, s2⟩ := r2
    obtain rfl : c2 = v2 := by simpa using r2
    refine ⟨⟨a0, a1, a2⟩, ⟨c0, c1, c2, rfl, s0, s1, s2⟩, ?_⟩
    simp only [List.map_cons, List.map_nil, Rows.uptoBulk, Rows.uptoBulkAll, ruleB]
    omega
structure GRole where
  space : ByteArray
  name : ByteArray
  rules : List GRule
def RoleR : Rd GRole := fun w cs x => ∃ v2, cs = [.string x.space, .string x.name, v2] ∧ RowAt RuleR 3 w v2 x.rules
theorem stays_role : Stays RoleR := fun _ _ _ _ hk ⟨v2, h, g2⟩ => ⟨v2, h, g2.keep stays_rule hk⟩
def roleB (x : GRole) : Nat := ((x.space.size + 1) + ((x.name.size + 1) + (((x.rules.map ruleB).sum + 1) + 0))) + 1
set_option maxRecDepth 10000 in
theorem opens_role : Opens Tryd.prog 69 RoleR roleB := by
  intro H enc w base spare held fuel cs x h
  obtain ⟨xs, n, _, rfl, hl, hx, hf⟩ := DataW.trod_struct Tryd.underlying69 h
  have hl2 : cs.length = 3 := hl.trans (by kernel_rfl)
  clear hl h
  match cs, hl2, xs, hx, hf with
  | [c0, c1, c2], _, [x0, x1, x2], _, hf =>
    obtain ⟨a0, r0, m0⟩ := (opens_string Tryd.underlying9).at (o := 0) (cs := [c0, c1, c2]) (ds := [c0]) (x := x0) (hf 0 _ rfl) (k := 1) (by kernel_rfl) rfl
    obtain ⟨a1, r1, m1⟩ := (opens_string Tryd.underlying9).at (o := 1) (cs := [c0, c1, c2]) (ds := [c1]) (x := x1) (hf 1 _ rfl) (k := 1) (by kernel_rfl) rfl
    obtain ⟨a2, r2, m2⟩ := (opens_row (k := 3) Tryd.underlying46 (by kernel_rfl) opens_rule).at (o := 2) (cs := [c0, c1, c2]) (ds := [c2]) (x := x2) (hf 2 _ rfl) (k := 1) (by kernel_rfl) rfl
    clear hf
    obtain rfl : c0 = .string a0 := by simpa [RString] using r0
    obtain rfl : c1 = .string a1 := by simpa [RString] using r1
    obtain ⟨v2, r2, s2⟩ := r2
    obtain rfl : c2 = v2 := by simpa using r2
    refine ⟨⟨a0, a1, a2⟩, ⟨c2, rfl, s2⟩, ?_⟩
    simp only [List.map_cons, List.map_nil, Rows.uptoBulk, Rows.uptoBulkAll, roleB]
    omega
structure GBind where
  space : ByteArray
  name : ByteArray
  role : ByteArray
  whole : Bool
  users : List ByteArray
  groups : List ByteArray
def BindR : Rd GBind := fun w cs x => ∃ v4 v5, cs = [.string x.space, .string x.name, .string x.role, .bool x.whole, v4, v5] ∧ StrAt w v4 x.users ∧ StrAt w v5 x.groups
theorem stays_bind : Stays BindR := fun _ _ _ _ hk ⟨v4, v5, h, g4, g5⟩ => ⟨v4, v5, h, g4.keep hk, g5.keep hk⟩
def bindB (x : GBind) : Nat := ((x.space.size + 1) + ((x.name.size + 1) + ((x.role.size + 1) + (1 + ((total x.users + 1) + ((total x.groups + 1) + 0)))))) + 1
set_option maxRecDepth 10000 in
theorem opens_bind : Opens Tryd.prog 71 BindR bindB := by
  intro H enc w base spare held fuel cs x h
  obtain ⟨xs, n, _, rfl, hl, hx, hf⟩ := DataW.trod_struct Tryd.underlying71 h
  have hl2 : cs.length = 6 := hl.trans (by kernel_rfl)
  clear hl h
  match cs, hl2, xs, hx, hf with
  | [c0, c1, c2, c3, c4, c5], _, [x0, x1, x2, x3, x4, x5], _, hf =>
    obtain ⟨a0, r0, m0⟩ := (opens_string Tryd.underlying9).at (o := 0) (cs := [c0, c1, c2, c3, c4, c5]) (ds := [c0]) (x := x0) (hf 0 _ rfl) (k := 1) (by kernel_rfl) rfl
    obtain ⟨a1, r1, m1⟩ := (opens_string Tryd.underlying9).at (o := 1) (cs := [c0, c1, c2, c3, c4, c5]) (ds := [c1]) (x := x1) (hf 1 _ rfl) (k := 1) (by kernel_rfl) rfl
    obtain ⟨a2, r2, m2⟩ := (opens_string Tryd.underlying9).at (o := 2) (cs := [c0, c1, c2, c3, c4, c5]) (ds := [c2]) (x := x2) (hf 2 _ rfl) (k := 1) (by kernel_rfl) rfl
    obtain ⟨a3, r3, m3⟩ := (opens_bool Tryd.underlying4).at (o := 3) (cs := [c0, c1, c2, c3, c4, c5]) (ds := [c3]) (x := x3) (hf 3 _ rfl) (k := 1) (by kernel_rfl) rfl
    obtain ⟨a4, r4, m4⟩ := (opens_strs Tryd.underlying31 Tryd.underlying9 (by kernel_rfl)).at (o := 4) (cs := [c0, c1, c2, c3, c4, c5]) (ds := [c4]) (x := x4) (hf 4 _ rfl) (k := 1) (by kernel_rfl) rfl
    obtain ⟨a5, r5, m5⟩ := (opens_strs Tryd.underlying31 Tryd.underlying9 (by kernel_rfl)).at (o := 5) (cs := [c0, c1, c2, c3, c4, c5]) (ds := [c5]) (x := x5) (hf 5 _ rfl) (k := 1) (by kernel_rfl) rfl
    clear hf
    obtain rfl : c0 = .string a0 := by simpa [RString] using r0
    obtain rfl : c1 = .string a1 := by simpa [RString] using r1
    obtain rfl : c2 = .string a2 := by simpa [RString] using r2
    obtain rfl : c3 = .bool a3 := by simpa [RBool] using r3
    obtain ⟨v4, r4, s4⟩ := r4
    obtain rfl : c4 = v4 := by simpa using r4
    obtain ⟨v5, r5, s5⟩ := r5
    obtain rfl : c5 = v5 := by simpa using r5
    refine ⟨⟨a0, a1, a2, a3, a4, a5⟩, ⟨c4, c5, rfl, s4, s5⟩, ?_⟩
    simp only [List.map_cons, List.map_nil, Rows.uptoBulk, Rows.uptoBulkAll, bindB]
    omega
structure GGrants where
  roles : List GRole
  binds : List GBind
def GrantsR : Rd GGrants := fun w cs x => ∃ v0 v1, cs = [v0, v1] ∧ RowAt RoleR 3 w v0 x.roles ∧ RowAt BindR 6 w v1 x.binds
theorem stays_grants : Stays GrantsR := fun _ _ _ _ hk ⟨v0, v1, h, g0, g1⟩ => ⟨v0, v1, h, g0.keep stays_role hk, g1.keep stays_bind hk⟩
def grantsB (x : GGrants) : Nat := (((x.roles.map roleB).sum + 1) + (((x.binds.map bindB).sum + 1) + 0)) + 1
set_option maxRecDepth 10000 in
theorem opens_grants : Opens Tryd.prog 40 GrantsR grantsB := by
  intro H enc w base spare held fuel cs x h
  obtain ⟨xs, n, _, rfl, hl, hx, hf⟩ := DataW.trod_struct Tryd.underlying40 h
  have hl2 : cs.length = 2 := hl.trans (by kernel_rfl)
  clear hl h
  match cs, hl2, xs, hx, hf with
  | [c0, c1], _, [x0, x1], _, hf =>
    obtain ⟨a0, r0, m0⟩ := (opens_row (k := 3) Tryd.underlying37 (by kernel_rfl) opens_role).at (o := 0) (cs := [c0, c1]) (ds := [c0]) (x := x0) (hf 0 _ rfl) (k := 1) (by kernel_rfl) rfl
    obtain ⟨a1, r1, m1⟩ := (opens_row (k := 6) Tryd.underlying38 (by kernel_rfl) opens_bind).at (o := 1) (cs := [c0, c1]) (ds := [c1]) (x := x1) (hf 1 _ rfl) (k := 1) (by kernel_rfl) rfl
    clear hf
    obtain ⟨v0, r0, s0⟩ := r0
    obtain rfl : c0 = v0 := by simpa using r0
    obtain ⟨v1, r1, s1⟩ := r1
    obtain rfl : c1 = v1 := by simpa using r1
    refine ⟨⟨a0, a1⟩, ⟨c0, c1, rfl, s0, s1⟩, ?_⟩
    simp only [List.map_cons, List.map_nil, Rows.uptoBulk, Rows.uptoBulkAll, grantsB]
    omega
structure GUser where
  name : ByteArray
  groups : List ByteArray
def UserR : Rd GUser := fun w cs x => ∃ v1, cs = [.string x.name, v1] ∧ StrAt w v1 x.groups
theorem stays_user : Stays UserR := fun _ _ _ _ hk ⟨v1, h, g1⟩ => ⟨v1, h, g1.keep hk⟩
def userB (x : GUser) : Nat := ((x.name.size + 1) + ((total x.groups + 1) + 0)) + 1
set_option maxRecDepth 10000 in
theorem opens_user : Opens Tryd.prog 42 UserR userB := by
  intro H enc w base spare held fuel cs x h
  obtain ⟨xs, n, _, rfl, hl, hx, hf⟩ := DataW.trod_struct Tryd.underlying42 h
  have hl2 : cs.length = 2 := hl.trans (by kernel_rfl)
  clear hl h
  match cs, hl2, xs, hx, hf with
  | [c0, c1], _, [x0, x1], _, hf =>
    obtain ⟨a0, r0, m0⟩ := (opens_string Tryd.underlying9).at (o := 0) (cs := [c0, c1]) (ds := [c0]) (x := x0) (hf 0 _ rfl) (k := 1) (by kernel_rfl) rfl
    obtain ⟨a1, r1, m1⟩ := (opens_strs Tryd.underlying31 Tryd.underlying9 (by kernel_rfl)).at (o := 1) (cs := [c0, c1]) (ds := [c1]) (x := x1) (hf 1 _ rfl) (k := 1) (by kernel_rfl) rfl
    clear hf
    obtain rfl : c0 = .string a0 := by simpa [RString] using r0
    obtain ⟨v1, r1, s1⟩ := r1
    obtain rfl : c1 = v1 := by simpa using r1
    refine ⟨⟨a0, a1⟩, ⟨c1, rfl, s1⟩, ?_⟩
    simp only [List.map_cons, List.map_nil, Rows.uptoBulk, Rows.uptoBulkAll, userB]
    omega
structure GAsk where
  verb : ByteArray
  kind : ByteArray
  space : ByteArray
  name : ByteArray
end Go.Proofs.YtkmonmdnmpbadaaDoor
namespace Go.Proofs.YtkmonmdnmpbadaaDoor.NameP
def edge (c : Nat) : Bool := decide (97 ≤ c ∧ c ≤ 122) || decide (65 ≤ c ∧ c ≤ 90) || decide (48 ≤ c ∧ c ≤ 57)
def low (c : Nat) : Bool := edge c && (decide (c < 65) || decide (90 < c))
def dash (c : Nat) : Bool := c == 45
def made (e v : Nat → Bool) (l : List UInt8) : Bool :=
  match l with
  | [] => false
  | x :: r => e x.toNat && e ((x :: r).getLast (by simp)).toNat && (x :: r).all fun c => e c.toNat || v c.toNat
def isName (l : List UInt8) : Bool := made low dash l
def judge (n most : Nat) (is : Bool) : Int := if most < n then 2 else if is then 0 else 6
def check (l : List UInt8) : Int := judge l.length 63 (isName l)
end Go.Proofs.YtkmonmdnmpbadaaDoor.NameP
namespace Go.Proofs.YtkmonmdnmpbadaaDoor
open Go.RowKit
theorem strAt_getD {l : List ByteArray} {j : Nat} (hj : j < l.length) : l[j]? = some (l.getD j ByteArray.empty) := by simp [List.getD, hj]
set_option maxRecDepth 100000 in
theorem contains_any (v : Value) (l : List ByteArray) (x : ByteArray) (w : World) (h : StrAt w v l) (hl : l.length ≤ 1073741824) : Calls Tryd.prog 63 #[v, .string x] w fun e w' => e = .returned (.bool (Lib.containsS l x)) ∧ w = w' := by
  rcases Nat.eq_zero_or_pos l.length with h0 | h0
  · obtain rfl := nil_of_len h0
    obtain ⟨ao, c, rfl, _, _⟩ := h.len
    exact (Tryd.slices_Contains_string_empty ao c x w).mono fun e w' ⟨h1, h2⟩ => ⟨by rw [h1]; rfl, h2.symm⟩
  · obtain ⟨b, o, c, rfl, _, _, _, hc⟩ := h.form h0
    refine (Tryd.slices_Contains_string b o l.length c l x w (Nat.le_refl _) (by omega) fun j hj => hc j _ (strAt_getD hj)).mono fun e w' ⟨h1, h2⟩ => ⟨?_, h2.symm⟩
    rw [h1, List.take_of_length_le (Nat.le_refl _)]
end Go.Proofs.YtkmonmdnmpbadaaDoor
namespace Go.Proofs.YtkmonmdnmpbadaaDoor
open Go.RowKit
theorem toList_inj {a b : ByteArray} (h : a.toList = b.toList) : a = b := by
  rw [ByteArray.toList_eq, ByteArray.toList_eq] at h
  cases a; cases b
  simp only [ByteArray.mk.injEq]
  exact Array.toList_inj.1 h
end Go.Proofs.YtkmonmdnmpbadaaDoor
namespace Go.Proofs.YtkmonmdnmpbadaaDoor
open Go.RowKit
/-- the first thing that is wrong -/
def says (b e : Int) : Int := if b = 0 then e else b
def firstBad : List Int → Int
  | [] => 0
  | e :: r => says e (firstBad r)
theorem says_zero (b : Int) : says b 0 = b := by unfold says; split <;> simp_all
theorem zero_says (b : Int) : says 0 b = b := by unfold says; simp
theorem says_assoc (a b c : Int) : says (says a b) c = says a (says b c) := by unfold says; by_cases h : a = 0 <;> simp [h]
theorem says_eq_zero (a b : Int) : says a b = 0 ↔ a = 0 ∧ b = 0 := by unfold says; by_cases h : a = 0 <;> simp [h]
theorem firstBad_append (l m : List Int) : firstBad (l ++ m) = says (firstBad l) (firstBad m) := by
  induction l with
  | nil => simp [firstBad, zero_says]
  | cons e r ih => simp only [List.cons_append, firstBad, ih, says_assoc]
theorem firstBad_zero (l : List Int) : firstBad l = 0 ↔ ∀ e ∈ l, e = 0 := by
  induction l with
  | nil => simp [firstBad]
  | cons e r ih => simp [firstBad, says_eq_zero, ih]
theorem firstBad_take {l : List Int} {i : Nat} {e : Int} (h : l[i]? = some e) : firstBad (l.take (i + 1)) = says (firstBad (l.take i)) e := by
  rw [List.take_add_one, h, firstBad_append]
  simp [firstBad, says_zero]
def need (b : Bool) (e : Int) : Int := if b = true then 0 else e
def starB : ByteArray := "*".toUTF8
def nameC (st : Bool) (s : ByteArray) : Int := if st = true ∧ s = starB then 0 else NameP.check s.data.toList
def namesC (st : Bool) (l : List ByteArray) : Int := firstBad (l.map (nameC st))
def spaceC (s : ByteArray) : Int := if s.size = 0 then 0 else NameP.check s.data.toList
def smallR (r : GRule) : Bool := decide (r.verbs.length ≤ 6) && (decide (r.kinds.length ≤ 6) && decide (r.names.length ≤ 6))
def fullR (r : GRule) : Bool := decide (0 < r.verbs.length) && decide (0 < r.kinds.length)
def ruleC (r : GRule) : Int := says (need (smallR r) 2) (says (need (fullR r) 1) (says (namesC true r.verbs) (says (namesC true r.kinds) (namesC false r.names))))
def rulesC (l : List GRule) : Int := says (need (decide (l.length ≤ 8)) 2) (firstBad (l.map ruleC))
def eqB (a b : ByteArray) : Bool := a.toList == b.toList
theorem eqB_iff (a b : ByteArray) : eqB a b = true ↔ a = b := ⟨fun h => toList_inj (by simpa [eqB] using h), fun h => by subst h; simp [eqB]⟩
theorem str_none {s : ByteArray} (h : s.size = 0) : s.toList = [] := by rw [ByteArray.toList_eq]; exact List.eq_nil_of_length_eq_zero (by simpa using h)
theorem str_some {s : ByteArray} (h : s.size ≠ 0) : (!s.toList.isEmpty) = true := by
  rw [ByteArray.toList_eq]
  have hl : s.data.toList.length = s.size := by simp
  cases hd : s.data.toList with | nil => rw [hd] at hl; simp at hl; omega | cons x r => rfl
theorem eqB_empty (s : ByteArray) : eqB s ByteArray.empty = decide (s.size = 0) := by
  rw [Bool.eq_iff_iff, eqB_iff, decide_eq_true_iff]
  constructor
  · intro h; rw [h]; rfl
  · intro h; exact toList_inj (by rw [str_none h, str_none (s := ByteArray.empty) rfl])
def sameRole (q r : GRole) : Bool := eqB q.space r.space && eqB q.name r.name
def sameBind (q r : GBind) : Bool := eqB q.space r.space && eqB q.name r.name
def roleC (bef : List GRole) (r : GRole) : Int := says (spaceC r.space) (says (NameP.check r.name.data.toList) (says (need (!bef.any fun q => sameRole q r) 5) (rulesC r.rules)))
def bindC (bef : List GBind) (b : GBind) : Int :=
  says (spaceC b.space) (says (namesC false [b.name, b.role]) (says (need (!bef.any fun q => sameBind q b) 5) (says (need (!eqB b.space ByteArray.empty || b.whole) 1)
    (says (need (decide (b.users.length ≤ 6) && decide (b.groups.length ≤ 6)) 2) (says (namesC false b.users) (namesC false b.groups))))))
def rolesC (l : List GRole) : List Int := l.mapIdx fun i r => roleC (l.take i) r
def bindsC (l : List GBind) : List Int := l.mapIdx fun i b => bindC (l.take i) b
def grantsC (g : GGrants) : Int := says (need (decide (g.roles.length ≤ 12) && decide (g.binds.length ≤ 12)) 2) (says (firstBad (rolesC g.roles)) (firstBad (bindsC g.binds)))
def askC (a : GAsk) : Int := says (namesC false [a.verb, a.kind]) (says (spaceC a.space) (spaceC a.name))
def shortC (s : ByteArray) : Int := says (NameP.check s.data.toList) (if 20 < s.size then 2 else 0)
def userC (u : GUser) : Int :=
  says (shortC u.name) (if 6 < u.groups.length then 2 else firstBad (u.groups.mapIdx fun i g => says (shortC g) (if Lib.containsS (u.groups.take i) g = true then 5 else 0)))
def codeC (g : GGrants) (u : GUser) (space : ByteArray) : Int := says (grantsC g) (says (userC u) (spaceC space))
def hasL (l : List ByteArray) (s : ByteArray) : Bool := Lib.containsS l s || Lib.containsS l starB
def allowsR (a : GAsk) (r : GRule) : Bool := hasL r.verbs a.verb && (hasL r.kinds a.kind && (decide (r.names.length = 0) || (!eqB a.name ByteArray.empty && Lib.containsS r.names a.name)))
def allowsL (l : List GRule) (a : GAsk) : Bool := l.any (allowsR a)
def isForB (b : GBind) (u : GUser) : Bool := Lib.containsS b.users u.name || u.groups.any fun g => Lib.containsS b.groups g
/-- is a binding one of a user in a space? -/
def bindOn (u : GUser) (space : ByteArray) (b : GBind) : Bool := isForB b u && (eqB b.space ByteArray.empty || eqB b.space space)
def fromOf (b : GBind) : ByteArray := if b.whole = true then ByteArray.empty else b.space
def rulesOf (b : GBind) (r : GRole) : List GRule := if (eqB r.space (fromOf b) && eqB r.name b.role) = true then r.rules else []
def bindRules (g : GGrants) (u : GUser) (space : ByteArray) (b : GBind) : List GRule := if bindOn u space b = true then g.roles.flatMap (rulesOf b) else []
def heldL (g : GGrants) (u : GUser) (space : ByteArray) : List GRule := g.binds.flatMap (bindRules g u space)
theorem take_flatMap {α β : Type} (f : α → List β) (l : List α) {i : Nat} {x : α} (h : l[i]? = some x) : (l.take (i + 1)).flatMap f = (l.take i).flatMap f ++ f x := by
  rw [List.take_add_one, h, List.flatMap_append]
  simp
end Go.Proofs.YtkmonmdnmpbadaaDoor
namespace Go.Proofs.YtkmonmdnmpbadaaDoor
open Go.RowKit
/-- is one of them so? -/
def AnyAt {α : Type} (l : List α) (p : α → Bool) (w : World) (e : Ending) (w' : World) : Prop := ∃ n : Int, e = .returned (.int .i64 n) ∧ (decide (0 ≤ n) = l.any p) ∧ Below w.heap.size w w'
set_option maxRecDepth 100000 in
set_option maxHeartbeats 800000 in
theorem idxRole_any {f : FuncId} {cap : Value} {Cap : World → Prop} {p : GRole → Bool} {OK : GRole → Prop} (enter : ∀ (a : Array Value) (w : World), (callFunc f a).run Tryd.prog w = .ok (.enter f a) w)
    (keepC : ∀ w w' : World, Cap w → Below w.heap.size w w' → Cap w')
    (clo : ∀ (x : GRole) (y2 : Value) (w : World), RoleR w [.string x.space, .string x.name, y2] x → OK x → Cap w → Calls Tryd.prog f #[.agg #[.string x.space, .string x.name, y2], cap] w fun e w' => e = .returned (.bool (p x)) ∧ Below w.heap.size w w')
    (v : Value) (l : List GRole) (w : World) (h : RowAt RoleR 3 w v l) (hl : l.length ≤ 1073741824) (hok : ∀ x ∈ l, OK x) (hc : Cap w) : Calls Tryd.prog 102 #[v, .func (.func f) #[] #[cap]] w (AnyAt l p w) := by
  obtain ⟨a1, c1, rfl, _, _⟩ := h.len
  have H := Lib.hid h
  have Hc := Lib.hid hc
  have HC := Lib.hid clo
  have HK := Lib.hid keepC
  have Hok := Lib.hid hok
  have ep := enter
  clear h hc clo keepC enter hok
  go_enter Tryd.func102, Tryd.ntmps102
  go_wp2_with fail
  go_loopg [8] l.length (fun g u8 wr => ∃ i : Nat, i + g = l.length ∧ u8 = .int .i64 (i : Int) ∧ Hid (∀ x ∈ l.take i, p x = false) ∧ Hid (Cap wr) ∧ Below w.heap.size w wr)
  case atStart => exact ⟨0, by omega, rfl, Lib.hid (fun x hx => by simp at hx), Hc, Below.refl _ _⟩
  case round =>
    obtain ⟨i, hig, rfl, Hall, Hcr, hbel⟩ := hrel
    cases gk with
    | zero =>
      obtain rfl : i = l.length := by omega
      have Hany : Hid (decide ((0 : Int) ≤ -1) = l.any p) := by
        refine Lib.hid ?_
        rw [decide_eq_false (by omega), eq_comm, List.any_eq_false]
        intro x hx
        rw [Hall.out x (by rw [List.take_length]; exact hx)]; simp
      have Hbel := Lib.hid hbel
      clear hbel
      go_wp2_with fail
      go_ret
      exact ⟨-1, rfl, Hany.out, Hbel.out⟩
    | succ g =>
      have hil : i < l.length := by omega
      obtain ⟨x, hxi⟩ : ∃ x, l[i]? = some x := ⟨l[i]'(by omega), List.getElem?_eq_getElem _⟩
      obtain ⟨b, o, c', hv, _, _, hbs, hcell⟩ := H.out.form (by omega) (by omega)
      cases hv
      obtain ⟨ds, _, hcc, hR⟩ := hcell i x hxi
      have hR2 := hR
      obtain ⟨y2, rfl, _⟩ := hR
      have HR := Lib.hid (stays_role _ _ _ _ (keeps_below hbel) hR2)
      have e0 : wr.cell? ⟨b, o + i * 3, none⟩ = some (.string x.space) := (hbel.cell (p := ⟨b, _, none⟩) hbs).trans (by simpa using hcc 0 _ rfl)
      have e1 : wr.cell? ⟨b, o + i * 3 + 1, none⟩ = some (.string x.name) := (hbel.cell (p := ⟨b, _, none⟩) hbs).trans (hcc 1 _ rfl)
      have e2 : wr.cell? ⟨b, o + i * 3 + 2, none⟩ = some (y2) := (hbel.cell (p := ⟨b, _, none⟩) hbs).trans (hcc 2 _ rfl)
      have q1 : (0 : Int) ≤ (i : Int) := by omega
      have q2 : (i : Int) < (l.length : Int) := by omega
      have Hbel := Lib.hid hbel
      have hs0 := hbel.size
      have Hxi := Lib.hid hxi
      clear hcc hcell hbel hR2 hxi
      obtain ⟨pb, Hpb⟩ : ∃ pb, Hid (p x = pb) := ⟨_, Lib.hid rfl⟩
      go_wp2_with fail
      refine (HC.out x y2 wr HR.out (Hok.out x (List.mem_of_getElem? Hxi.out)) Hcr.out).mono ?_
      rintro E w1 ⟨rfl, hb1⟩
      rw [Hpb.out]
      have Hb1 := Lib.hid (Hbel.out.trans (hb1.mono hs0))
      have Hc1 := Lib.hid (HK.out _ _ Hcr.out hb1)
      clear hb1 e0 e1 e2
      cases pb with
      | true =>
        have Hany : Hid (decide ((0 : Int) ≤ (i : Int)) = l.any p) := by
          refine Lib.hid ?_
          rw [decide_eq_true (by omega), eq_comm, List.any_eq_true]
          exact ⟨x, List.mem_of_getElem? Hxi.out, Hpb.out⟩
        go_wp2_with fail
        go_ret
        exact ⟨_, rfl, Hany.out, Hb1.out⟩
      | false =>
        have Hall2 : Hid (∀ x ∈ l.take (i + 1), p x = false) := Lib.hid fun y hy => by
          rw [List.take_add_one, Hxi.out] at hy
          rcases List.mem_append.1 hy with h | h
          · exact Hall.out y h
          · have h9 : y = x := by simpa using h
            rw [h9]; exact Hpb.out
        go_wp2_with fail
        go_roundg g
        case measure => omega
        case rel => exact ⟨i + 1, by omega, by go_num, Hall2, Hc1, Hb1.out⟩
set_option maxRecDepth 100000 in
theorem anyRole_any {f : FuncId} {cap : Value} {Cap : World → Prop} {p : GRole → Bool} {OK : GRole → Prop} (enter : ∀ (a : Array Value) (w : World), (callFunc f a).run Tryd.prog w = .ok (.enter f a) w)
    (keepC : ∀ w w' : World, Cap w → Below w.heap.size w w' → Cap w')
    (clo : ∀ (x : GRole) (y2 : Value) (w : World), RoleR w [.string x.space, .string x.name, y2] x → OK x → Cap w → Calls Tryd.prog f #[.agg #[.string x.space, .string x.name, y2], cap] w fun e w' => e = .returned (.bool (p x)) ∧ Below w.heap.size w w')
    (v : Value) (l : List GRole) (w : World) (h : RowAt RoleR 3 w v l) (hl : l.length ≤ 1073741824) (hok : ∀ x ∈ l, OK x) (hc : Cap w) : Calls Tryd.prog 80 #[v, .func (.func f) #[] #[cap]] w fun e w' => e = .returned (.bool (l.any p)) ∧ Below w.heap.size w w' := by
  have H := Lib.hid (idxRole_any enter keepC clo v l w h hl hok hc)
  obtain ⟨B, HB⟩ : ∃ B, Hid (l.any p = B) := ⟨_, Lib.hid rfl⟩
  rw [HB.out]
  clear h hc clo keepC enter
  go_enter Tryd.func80, Tryd.ntmps80
  go_wp2_with fail
  refine H.out.mono ?_
  rintro E w1 ⟨n, rfl, hn, hb⟩
  rw [HB.out] at hn
  have Hb := Lib.hid hb
  have Hn := Lib.hid hn
  clear hb hn H
  go_wp2_with fail
  go_ret
  exact ⟨congrArg (fun b => Ending.returned (Value.bool b)) Hn.out, Hb.out⟩
set_option maxRecDepth 100000 in
set_option maxHeartbeats 800000 in
theorem idxBind_any {f : FuncId} {cap : Value} {Cap : World → Prop} {p : GBind → Bool} {OK : GBind → Prop} (enter : ∀ (a : Array Value) (w : World), (callFunc f a).run Tryd.prog w = .ok (.enter f a) w)
    (keepC : ∀ w w' : World, Cap w → Below w.heap.size w w' → Cap w')
    (clo : ∀ (x : GBind) (y4 y5 : Value) (w : World), BindR w [.string x.space, .string x.name, .string x.role, .bool x.whole, y4, y5] x → OK x → Cap w → Calls Tryd.prog f #[.agg #[.string x.space, .string x.name, .string x.role, .bool x.whole, y4, y5], cap] w fun e w' => e = .returned (.bool (p x)) ∧ Below w.heap.size w w')
    (v : Value) (l : List GBind) (w : World) (h : RowAt BindR 6 w v l) (hl : l.length ≤ 1073741824) (hok : ∀ x ∈ l, OK x) (hc : Cap w) : Calls Tryd.prog 103 #[v, .func (.func f) #[] #[cap]] w (AnyAt l p w) := by
  obtain ⟨a1, c1, rfl, _, _⟩ := h.len
  have H := Lib.hid h
  have Hc := Lib.hid hc
  have HC := Lib.hid clo
  have HK := Lib.hid keepC
  have Hok := Lib.hid hok
  have ep := enter
  clear h hc clo keepC enter hok
  go_enter Tryd.func103, Tryd.ntmps103
  go_wp2_with fail
  go_loopg [8] l.length (fun g u8 wr => ∃ i : Nat, i + g = l.length ∧ u8 = .int .i64 (i : Int) ∧ Hid (∀ x ∈ l.take i, p x = false) ∧ Hid (Cap wr) ∧ Below w.heap.size w wr)
  case atStart => exact ⟨0, by omega, rfl, Lib.hid (fun x hx => by simp at hx), Hc, Below.refl _ _⟩
  case round =>
    obtain ⟨i, hig, rfl, Hall, Hcr, hbel⟩ := hrel
    cases gk with
    | zero =>
      obtain rfl : i = l.length := by omega
      have Hany : Hid (decide ((0 : Int) ≤ -1) = l.any p) := by
        refine Lib.hid ?_
        rw [decide_eq_false (by omega), eq_comm, List.any_eq_false]
        intro x hx
        rw [Hall.out x (by rw [List.take_length]; exact hx)]; simp
      have Hbel := Lib.hid hbel
      clear hbel
      go_wp2_with fail
      go_ret
      exact ⟨-1, rfl, Hany.out, Hbel.out⟩
    | succ g =>
      have hil : i < l.length := by omega
      obtain ⟨x, hxi⟩ : ∃ x, l[i]? = some x := ⟨l[i]'(by omega), List.getElem?_eq_getElem _⟩
      obtain ⟨b, o, c', hv, _, _, hbs, hcell⟩ := H.out.form (by omega) (by omega)
      cases hv
      obtain ⟨ds, _, hcc, hR⟩ := hcell i x hxi
      have hR2 := hR
      obtain ⟨y4, y5, rfl, _⟩ := hR
      have HR := Lib.hid (stays_bind _ _ _ _ (keeps_below hbel) hR2)
      have e0 : wr.cell? ⟨b, o + i * 6, none⟩ = some (.string x.space) := (hbel.cell (p := ⟨b, _, none⟩) hbs).trans (by simpa using hcc 0 _ rfl)
      have e1 : wr.cell? ⟨b, o + i * 6 + 1, none⟩ = some (.string x.name) := (hbel.cell (p := ⟨b, _, none⟩) hbs).trans (hcc 1 _ rfl)
      have e2 : wr.cell? ⟨b, o + i * 6 + 2, none⟩ = some (.string x.role) := (hbel.cell (p := ⟨b, _, none⟩) hbs).trans (hcc 2 _ rfl)
      have e3 : wr.cell? ⟨b, o + i * 6 + 3, none⟩ = some (.bool x.whole) := (hbel.cell (p := ⟨b, _, none⟩) hbs).trans (hcc 3 _ rfl)
      have e4 : wr.cell? ⟨b, o + i * 6 + 4, none⟩ = some (y4) := (hbel.cell (p := ⟨b, _, none⟩) hbs).trans (hcc 4 _ rfl)
      have e5 : wr.cell? ⟨b, o + i * 6 + 5, none⟩ = some (y5) := (hbel.cell (p := ⟨b, _, none⟩) hbs).trans (hcc 5 _ rfl)
      have q1 : (0 : Int) ≤ (i : Int) := by omega
      have q2 : (i : Int) < (l.length : Int) := by omega
      have Hbel := Lib.hid hbel
      have hs0 := hbel.size
      have Hxi := Lib.hid hxi
      clear hcc hcell hbel hR2 hxi
      obtain ⟨pb, Hpb⟩ : ∃ pb, Hid (p x = pb) := ⟨_, Lib.hid rfl⟩
      go_wp2_with fail
      refine (HC.out x y4 y5 wr HR.out (Hok.out x (List.mem_of_getElem? Hxi.out)) Hcr.out).mono ?_
      rintro E w1 ⟨rfl, hb1⟩
      rw [Hpb.out]
      have Hb1 := Lib.hid (Hbel.out.trans (hb1.mono hs0))
      have Hc1 := Lib.hid (HK.out _ _ Hcr.out hb1)
      clear hb1 e0 e1 e2 e3 e4 e5
      cases pb with
      | true =>
        have Hany : Hid (decide ((0 : Int) ≤ (i : Int)) = l.any p) := by
          refine Lib.hid ?_
          rw [decide_eq_true (by omega), eq_comm, List.any_eq_true]
          exact ⟨x, List.mem_of_getElem? Hxi.out, Hpb.out⟩
        go_wp2_with fail
        go_ret
        exact ⟨_, rfl, Hany.out, Hb1.out⟩
      | false =>
        have Hall2 : Hid (∀ x ∈ l.take (i + 1), p x = false) := Lib.hid fun y hy => by
          rw [List.take_add_one, Hxi.out] at hy
          rcases List.mem_append.1 hy with h | h
          · exact Hall.out y h
          · have h9 : y = x := by simpa using h
            rw [h9]; exact Hpb.out
        go_wp2_with fail
        go_roundg g
        case measure => omega
        case rel => exact ⟨i + 1, by omega, by go_num, Hall2, Hc1, Hb1.out⟩
set_option maxRecDepth 100000 in
theorem anyBind_any {f : FuncId} {cap : Value} {Cap : World → Prop} {p : GBind → Bool} {OK : GBind → Prop} (enter : ∀ (a : Array Value) (w : World), (callFunc f a).run Tryd.prog w = .ok (.enter f a) w)
    (keepC : ∀ w w' : World, Cap w → Below w.heap.size w w' → Cap w')
    (clo : ∀ (x : GBind) (y4 y5 : Value) (w : World), BindR w [.string x.space, .string x.name, .string x.role, .bool x.whole, y4, y5] x → OK x → Cap w → Calls Tryd.prog f #[.agg #[.string x.space, .string x.name, .string x.role, .bool x.whole, y4, y5], cap] w fun e w' => e = .returned (.bool (p x)) ∧ Below w.heap.size w w')
    (v : Value) (l : List GBind) (w : World) (h : RowAt BindR 6 w v l) (hl : l.length ≤ 1073741824) (hok : ∀ x ∈ l, OK x) (hc : Cap w) : Calls Tryd.prog 82 #[v, .func (.func f) #[] #[cap]] w fun e w' => e = .returned (.bool (l.any p)) ∧ Below w.heap.size w w' := by
  have H := Lib.hid (idxBind_any enter keepC clo v l w h hl hok hc)
  obtain ⟨B, HB⟩ : ∃ B, Hid (l.any p = B) := ⟨_, Lib.hid rfl⟩
  rw [HB.out]
  clear h hc clo keepC enter
  go_enter Tryd.func82, Tryd.ntmps82
  go_wp2_with fail
  refine H.out.mono ?_
  rintro E w1 ⟨n, rfl, hn, hb⟩
  rw [HB.out] at hn
  have Hb := Lib.hid hb
  have Hn := Lib.hid hn
  clear hb hn H
  go_wp2_with fail
  go_ret
  exact ⟨congrArg (fun b => Ending.returned (Value.bool b)) Hn.out, Hb.out⟩
set_option maxRecDepth 100000 in
set_option maxHeartbeats 800000 in
theorem idxRule_any {f : FuncId} {cap : Value} {Cap : World → Prop} {p : GRule → Bool} {OK : GRule → Prop} (enter : ∀ (a : Array Value) (w : World), (callFunc f a).run Tryd.prog w = .ok (.enter f a) w)
    (keepC : ∀ w w' : World, Cap w → Below w.heap.size w w' → Cap w')
    (clo : ∀ (x : GRule) (y0 y1 y2 : Value) (w : World), RuleR w [y0, y1, y2] x → OK x → Cap w → Calls Tryd.prog f #[.agg #[y0, y1, y2], cap] w fun e w' => e = .returned (.bool (p x)) ∧ Below w.heap.size w w')
    (v : Value) (l : List GRule) (w : World) (h : RowAt RuleR 3 w v l) (hl : l.length ≤ 1073741824) (hok : ∀ x ∈ l, OK x) (hc : Cap w) : Calls Tryd.prog 90 #[v, .func (.func f) #[] #[cap]] w (AnyAt l p w) := by
  obtain ⟨a1, c1, rfl, _, _⟩ := h.len
  have H := Lib.hid h
  have Hc := Lib.hid hc
  have HC := Lib.hid clo
  have HK := Lib.hid keepC
  have Hok := Lib.hid hok
  have ep := enter
  clear h hc clo keepC enter hok
  go_enter Tryd.func90, Tryd.ntmps90
  go_wp2_with fail
  go_loopg [8] l.length (fun g u8 wr => ∃ i : Nat, i + g = l.length ∧ u8 = .int .i64 (i : Int) ∧ Hid (∀ x ∈ l.take i, p x = false) ∧ Hid (Cap wr) ∧ Below w.heap.size w wr)
  case atStart => exact ⟨0, by omega, rfl, Lib.hid (fun x hx => by simp at hx), Hc, Below.refl _ _⟩
  case round =>
    obtain ⟨i, hig, rfl, Hall, Hcr, hbel⟩ := hrel
    cases gk with
    | zero =>
      obtain rfl : i = l.length := by omega
      have Hany : Hid (decide ((0 : Int) ≤ -1) = l.any p) := by
        refine Lib.hid ?_
        rw [decide_eq_false (by omega), eq_comm, List.any_eq_false]
        intro x hx
        rw [Hall.out x (by rw [List.take_length]; exact hx)]; simp
      have Hbel := Lib.hid hbel
      clear hbel
      go_wp2_with fail
      go_ret
      exact ⟨-1, rfl, Hany.out, Hbel.out⟩
    | succ g =>
      have hil : i < l.length := by omega
      obtain ⟨x, hxi⟩ : ∃ x, l[i]? = some x := ⟨l[i]'(by omega), List.getElem?_eq_getElem _⟩
      obtain ⟨b, o, c', hv, _, _, hbs, hcell⟩ := H.out.form (by omega) (by omega)
      cases hv
      obtain ⟨ds, _, hcc, hR⟩ := hcell i x hxi
      have hR2 := hR
      obtain ⟨y0, y1, y2, rfl, _⟩ := hR
      have HR := Lib.hid (stays_rule _ _ _ _ (keeps_below hbel) hR2)
      have e0 : wr.cell? ⟨b, o + i * 3, none⟩ = some (y0) := (hbel.cell (p := ⟨b, _, none⟩) hbs).trans (by simpa using hcc 0 _ rfl)
      have e1 : wr.cell? ⟨b, o + i * 3 + 1, none⟩ = some (y1) := (hbel.cell (p := ⟨b, _, none⟩) hbs).trans (hcc 1 _ rfl)
      have e2 : wr.cell? ⟨b, o + i * 3 + 2, none⟩ = some (y2) := (hbel.cell (p := ⟨b, _, none⟩) hbs).trans (hcc 2 _ rfl)
      have q1 : (0 : Int) ≤ (i : Int) := by omega
      have q2 : (i : Int) < (l.length : Int) := by omega
      have Hbel := Lib.hid hbel
      have hs0 := hbel.size
      have Hxi := Lib.hid hxi
      clear hcc hcell hbel hR2 hxi
      obtain ⟨pb, Hpb⟩ : ∃ pb, Hid (p x = pb) := ⟨_, Lib.hid rfl⟩
      go_wp2_with fail
      refine (HC.out x y0 y1 y2 wr HR.out (Hok.out x (List.mem_of_getElem? Hxi.out)) Hcr.out).mono ?_
      rintro E w1 ⟨rfl, hb1⟩
      rw [Hpb.out]
      have Hb1 := Lib.hid (Hbel.out.trans (hb1.mono hs0))
      have Hc1 := Lib.hid (HK.out _ _ Hcr.out hb1)
      clear hb1 e0 e1 e2
      cases pb with
      | true =>
        have Hany : Hid (decide ((0 : Int) ≤ (i : Int)) = l.any p) := by
          refine Lib.hid ?_
          rw [decide_eq_true (by omega), eq_comm, List.any_eq_true]
          exact ⟨x, List.mem_of_getElem? Hxi.out, Hpb.out⟩
        go_wp2_with fail
        go_ret
        exact ⟨_, rfl, Hany.out, Hb1.out⟩
      | false =>
        have Hall2 : Hid (∀ x ∈ l.take (i + 1), p x = false) := Lib.hid fun y hy => by
          rw [List.take_add_one, Hxi.out] at hy
          rcases List.mem_append.1 hy with h | h
          · exact Hall.out y h
          · have h9 : y = x := by simpa using h
            rw [h9]; exact Hpb.out
        go_wp2_with fail
        go_roundg g
        case measure => omega
        case rel => exact ⟨i + 1, by omega, by go_num, Hall2, Hc1, Hb1.out⟩
set_option maxRecDepth 100000 in
theorem anyRule_any {f : FuncId} {cap : Value} {Cap : World → Prop} {p : GRule → Bool} {OK : GRule → Prop} (enter : ∀ (a : Array Value) (w : World), (callFunc f a).run Tryd.prog w = .ok (.enter f a) w)
    (keepC : ∀ w w' : World, Cap w → Below w.heap.size w w' → Cap w')
    (clo : ∀ (x : GRule) (y0 y1 y2 : Value) (w : World), RuleR w [y0, y1, y2] x → OK x → Cap w → Calls Tryd.prog f #[.agg #[y0, y1, y2], cap] w fun e w' => e = .returned (.bool (p x)) ∧ Below w.heap.size w w')
    (v : Value) (l : List GRule) (w : World) (h : RowAt RuleR 3 w v l) (hl : l.length ≤ 1073741824) (hok : ∀ x ∈ l, OK x) (hc : Cap w) : Calls Tryd.prog 64 #[v, .func (.func f) #[] #[cap]] w fun e w' => e = .returned (.bool (l.any p)) ∧ Below w.heap.size w w' := by
  have H := Lib.hid (idxRule_any enter keepC clo v l w h hl hok hc)
  obtain ⟨B, HB⟩ : ∃ B, Hid (l.any p = B) := ⟨_, Lib.hid rfl⟩
  rw [HB.out]
  clear h hc clo keepC enter
  go_enter Tryd.func64, Tryd.ntmps64
  go_wp2_with fail
  refine H.out.mono ?_
  rintro E w1 ⟨n, rfl, hn, hb⟩
  rw [HB.out] at hn
  have Hb := Lib.hid hb
  have Hn := Lib.hid hn
  clear hb hn H
  go_wp2_with fail
  go_ret
  exact ⟨congrArg (fun b => Ending.returned (Value.bool b)) Hn.out, Hb.out⟩
set_option maxRecDepth 100000 in
set_option maxHeartbeats 800000 in
theorem idxStr_any {f : FuncId} {cap : Value} {Cap : World → Prop} {p : ByteArray → Bool} {OK : ByteArray → Prop} (enter : ∀ (a : Array Value) (w : World), (callFunc f a).run Tryd.prog w = .ok (.enter f a) w)
    (keepC : ∀ w w' : World, Cap w → Below w.heap.size w w' → Cap w')
    (clo : ∀ (x : ByteArray) (w : World), RString w [.string x] x → OK x → Cap w → Calls Tryd.prog f #[.string x, cap] w fun e w' => e = .returned (.bool (p x)) ∧ Below w.heap.size w w')
    (v : Value) (l : List ByteArray) (w : World) (h : RowAt RString 1 w v l) (hl : l.length ≤ 1073741824) (hok : ∀ x ∈ l, OK x) (hc : Cap w) : Calls Tryd.prog 104 #[v, .func (.func f) #[] #[cap]] w (AnyAt l p w) := by
  obtain ⟨a1, c1, rfl, _, _⟩ := h.len
  have H := Lib.hid h
  have Hc := Lib.hid hc
  have HC := Lib.hid clo
  have HK := Lib.hid keepC
  have Hok := Lib.hid hok
  have ep := enter
  clear h hc clo keepC enter hok
  go_enter Tryd.func104, Tryd.ntmps104
  go_wp2_with fail
  go_loopg [8] l.length (fun g u8 wr => ∃ i : Nat, i + g = l.length ∧ u8 = .int .i64 (i : Int) ∧ Hid (∀ x ∈ l.take i, p x = false) ∧ Hid (Cap wr) ∧ Below w.heap.size w wr)
  case atStart => exact ⟨0, by omega, rfl, Lib.hid (fun x hx => by simp at hx), Hc, Below.refl _ _⟩
  case round =>
    obtain ⟨i, hig, rfl, Hall, Hcr, hbel⟩ := hrel
    cases gk with
    | zero =>
      obtain rfl : i = l.length := by omega
      have Hany : Hid (decide ((0 : Int) ≤ -1) = l.any p) := by
        refine Lib.hid ?_
        rw [decide_eq_false (by omega), eq_comm, List.any_eq_false]
        intro x hx
        rw [Hall.out x (by rw [List.take_length]; exact hx)]; simp
      have Hbel := Lib.hid hbel
      clear hbel
      go_wp2_with fail
      go_ret
      exact ⟨-1, rfl, Hany.out, Hbel.out⟩
    | succ g =>
      have hil : i < l.length := by omega
      obtain ⟨x, hxi⟩ : ∃ x, l[i]? = some x := ⟨l[i]'(by omega), List.getElem?_eq_getElem _⟩
      obtain ⟨b, o, c', hv, _, _, hbs, hcell⟩ := H.out.form (by omega) (by omega)
      cases hv
      obtain ⟨ds, _, hcc, hR⟩ := hcell i x hxi
      have hR2 := hR
      obtain rfl : ds = [.string x] := hR
      have HR := Lib.hid (stays_string _ _ _ _ (keeps_below hbel) hR2)
      have e0 : wr.cell? ⟨b, o + i, none⟩ = some (.string x) := (hbel.cell (p := ⟨b, _, none⟩) hbs).trans (by simpa using hcc 0 _ rfl)
      have q1 : (0 : Int) ≤ (i : Int) := by omega
      have q2 : (i : Int) < (l.length : Int) := by omega
      have Hbel := Lib.hid hbel
      have hs0 := hbel.size
      have Hxi := Lib.hid hxi
      clear hcc hcell hbel hR2 hxi
      obtain ⟨pb, Hpb⟩ : ∃ pb, Hid (p x = pb) := ⟨_, Lib.hid rfl⟩
      go_wp2_with fail
      refine (HC.out x  wr HR.out (Hok.out x (List.mem_of_getElem? Hxi.out)) Hcr.out).mono ?_
      rintro E w1 ⟨rfl, hb1⟩
      rw [Hpb.out]
      have Hb1 := Lib.hid (Hbel.out.trans (hb1.mono hs0))
      have Hc1 := Lib.hid (HK.out _ _ Hcr.out hb1)
      clear hb1 e0
      cases pb with
      | true =>
        have Hany : Hid (decide ((0 : Int) ≤ (i : Int)) = l.any p) := by
          refine Lib.hid ?_
          rw [decide_eq_true (by omega), eq_comm, List.any_eq_true]
          exact ⟨x, List.mem_of_getElem? Hxi.out, Hpb.out⟩
        go_wp2_with fail
        go_ret
        exact ⟨_, rfl, Hany.out, Hb1.out⟩
      | false =>
        have Hall2 : Hid (∀ x ∈ l.take (i + 1), p x = false) := Lib.hid fun y hy => by
          rw [List.take_add_one, Hxi.out] at hy
          rcases List.mem_append.1 hy with h | h
          · exact Hall.out y h
          · have h9 : y = x := by simpa using h
            rw [h9]; exact Hpb.out
        go_wp2_with fail
        go_roundg g
        case measure => omega
        case rel => exact ⟨i + 1, by omega, by go_num, Hall2, Hc1, Hb1.out⟩
set_option maxRecDepth 100000 in
theorem anyStr_any {f : FuncId} {cap : Value} {Cap : World → Prop} {p : ByteArray → Bool} {OK : ByteArray → Prop} (enter : ∀ (a : Array Value) (w : World), (callFunc f a).run Tryd.prog w = .ok (.enter f a) w)
    (keepC : ∀ w w' : World, Cap w → Below w.heap.size w w' → Cap w')
    (clo : ∀ (x : ByteArray) (w : World), RString w [.string x] x → OK x → Cap w → Calls Tryd.prog f #[.string x, cap] w fun e w' => e = .returned (.bool (p x)) ∧ Below w.heap.size w w')
    (v : Value) (l : List ByteArray) (w : World) (h : RowAt RString 1 w v l) (hl : l.length ≤ 1073741824) (hok : ∀ x ∈ l, OK x) (hc : Cap w) : Calls Tryd.prog 85 #[v, .func (.func f) #[] #[cap]] w fun e w' => e = .returned (.bool (l.any p)) ∧ Below w.heap.size w w' := by
  have H := Lib.hid (idxStr_any enter keepC clo v l w h hl hok hc)
  obtain ⟨B, HB⟩ : ∃ B, Hid (l.any p = B) := ⟨_, Lib.hid rfl⟩
  rw [HB.out]
  clear h hc clo keepC enter
  go_enter Tryd.func85, Tryd.ntmps85
  go_wp2_with fail
  refine H.out.mono ?_
  rintro E w1 ⟨n, rfl, hn, hb⟩
  rw [HB.out] at hn
  have Hb := Lib.hid hb
  have Hn := Lib.hid hn
  clear hb hn H
  go_wp2_with fail
  go_ret
  exact ⟨congrArg (fun b => Ending.returned (Value.bool b)) Hn.out, Hb.out⟩
end Go.Proofs.YtkmonmdnmpbadaaDoor
namespace Go.Proofs.YtkmonmdnmpbadaaDoor
open Go.RowKit
theorem byteRanges (c : Nat) : c < 48 ∨ (48 ≤ c ∧ c ≤ 57) ∨ (57 < c ∧ c < 65) ∨ (65 ≤ c ∧ c ≤ 90) ∨ (90 < c ∧ c < 97) ∨ (97 ≤ c ∧ c ≤ 122) ∨ 122 < c := by omega
set_option maxHeartbeats 800000 in
theorem isEdge_any (c : Nat) (w : World) (_h8 : c < 256) :
    Calls Tryd.prog 99 #[.int .u8 (c : Int)] w fun e w' => e = .returned (.bool (NameP.edge c)) ∧ w = w' := by
  rcases byteRanges c with h | ⟨h, h'⟩ | ⟨h, h'⟩ | ⟨h, h'⟩ | ⟨h, h'⟩ | ⟨h, h'⟩ | h
  all_goals
    go_enter Tryd.func99, Tryd.ntmps99
    go_wp2
    go_ret
    exact ⟨congrArg (fun b => Ending.returned (.bool b)) (by unfold NameP.edge; rw [Bool.eq_iff_iff]; simp; omega), rfl⟩
set_option maxHeartbeats 800000 in
theorem isLow_any (c : Nat) (w : World) (h8 : c < 256) :
    Calls Tryd.prog 97 #[.int .u8 (c : Int)] w fun e w' => e = .returned (.bool (NameP.low c)) ∧ w = w' := by
  cases he : NameP.edge c with
  | false =>
    have He := Lib.hid he; clear he
    go_enter Tryd.func97, Tryd.ntmps97
    go_wp2_with fail
    refine (isEdge_any c _ h8).mono ?_
    rintro e w' ⟨rfl, rfl⟩
    rw [He.out]
    go_wp2
    go_ret
    exact ⟨congrArg (fun b => Ending.returned (.bool b)) (by simp [NameP.low, He.out]), rfl⟩
  | true =>
    have He := Lib.hid he; clear he
    by_cases h1 : c < 65
    · go_enter Tryd.func97, Tryd.ntmps97
      go_wp2_with fail
      refine (isEdge_any c _ h8).mono ?_
      rintro e w' ⟨rfl, rfl⟩
      rw [He.out]
      go_wp2
      go_ret
      exact ⟨congrArg (fun b => Ending.returned (.bool b)) (by unfold NameP.low; rw [He.out, Bool.eq_iff_iff]; simp; omega), rfl⟩
    · by_cases h2 : 90 < c
      · go_enter Tryd.func97, Tryd.ntmps97
        go_wp2_with fail
        refine (isEdge_any c _ h8).mono ?_
        rintro e w' ⟨rfl, rfl⟩
        rw [He.out]
        go_wp2
        go_ret
        exact ⟨congrArg (fun b => Ending.returned (.bool b)) (by unfold NameP.low; rw [He.out, Bool.eq_iff_iff]; simp; omega), rfl⟩
      · go_enter Tryd.func97, Tryd.ntmps97
        go_wp2_with fail
        refine (isEdge_any c _ h8).mono ?_
        rintro e w' ⟨rfl, rfl⟩
        rw [He.out]
        go_wp2
        go_ret
        exact ⟨congrArg (fun b => Ending.returned (.bool b)) (by unfold NameP.low; rw [He.out, Bool.eq_iff_iff]; simp; omega), rfl⟩
theorem dash_any (c : Nat) (w : World) (_h8 : c < 256) :
    Calls Tryd.prog 98 #[.int .u8 (c : Int)] w fun e w' => e = .returned (.bool (NameP.dash c)) ∧ w = w' := by
  by_cases h : c = 45
  · subst h
    go_enter Tryd.func98, Tryd.ntmps98
    go_wp2
    go_ret
    exact ⟨rfl, rfl⟩
  · have hc : ((c : Int) == 45) = false := by rw [beq_eq_false_iff_ne]; omega
    have Hc := Lib.hid h; clear h
    go_enter Tryd.func98, Tryd.ntmps98
    go_wp2
    go_ret
    exact ⟨congrArg (fun b => Ending.returned (.bool b)) (by simp [NameP.dash]; exact Hc.out), rfl⟩
end Go.Proofs.YtkmonmdnmpbadaaDoor
namespace Go.Proofs.YtkmonmdnmpbadaaDoor
open Go.RowKit
/-- a function on bytes that answers p and leaves the world alone -/
structure Tells (f : FuncId) (p : Nat → Bool) : Prop where
  enter : ∀ (a : Array Value) (w : World), (callFunc f a).run Tryd.prog w = .ok (.enter f a) w
  calls : ∀ (c : Nat) (w : World), c < 256 → Calls Tryd.prog f #[.int .u8 (c : Int)] w fun e w' => e = .returned (.bool (p c)) ∧ w = w'
theorem low_tells : Tells 97 NameP.low := ⟨run_callFunc_body Tryd.func97 (by kernel_rfl) (by kernel_rfl), fun c w h => isLow_any c w h⟩
theorem dash_tells : Tells 98 NameP.dash := ⟨run_callFunc_body Tryd.func98 (by kernel_rfl) (by kernel_rfl), fun c w h => dash_any c w h⟩
theorem made_nil {e v : Nat → Bool} {s : ByteArray} (h : s.toList = []) : NameP.made e v s.data.toList = false := by
  rw [ByteArray.toList_eq] at h; rw [h]; rfl
theorem made_cons {p q : Nat → Bool} (s : ByteArray) (h : 1 ≤ s.size) :
    NameP.made p q s.data.toList = (p s[0].toNat && p s[s.size - 1].toNat && s.data.toList.all fun c => p c.toNat || q c.toNat) := by
  have hl : s.data.toList.length = s.size := by simp
  have h0 : s.data.toList[0]? = some s[0] := by rw [List.getElem?_eq_getElem (by omega)]; rfl
  have h1 : s.data.toList.getLast? = some s[s.size - 1] := by
    rw [List.getLast?_eq_getElem?, hl, List.getElem?_eq_getElem (by omega)]; rfl
  cases hd : s.data.toList with
  | nil => rw [hd] at hl; simp at hl; omega
  | cons x r =>
    rw [hd] at h0 h1
    simp only [List.getElem?_cons_zero, Option.some.injEq] at h0
    rw [List.getLast?_eq_some_getLast (by simp)] at h1
    simp only [Option.some.injEq] at h1
    unfold NameP.made
    rw [← h0, ← h1]
theorem all_snoc {s : ByteArray} {k : Nat} {f : UInt8 → Bool} (h : k < s.size) (ha : Hid ((s.data.toList.take k).all f = true)) (hk : f s[k] = true) : Hid ((s.data.toList.take (k + 1)).all f = true) := by
  show _ = _
  rw [take_snoc s k h, List.all_append, ha.out]
  simp [hk]
theorem all_not {s : ByteArray} {k : Nat} {f : UInt8 → Bool} (h : k < s.size) (hk : f s[k] = false) : s.data.toList.all f = false := by
  rw [List.all_eq_false]
  refine ⟨s[k], ?_, by rw [hk]; simp⟩
  have : s[k] = s.data.toList[k]'(by simpa using h) := rfl
  rw [this]
  exact List.getElem_mem _
set_option maxRecDepth 100000 in
set_option maxHeartbeats 1600000 in
theorem made_any {ef vf : FuncId} {p q : Nat → Bool} (hp : Tells ef p) (hq : Tells vf q) (s : ByteArray) (w : World) (hs : s.size ≤ 1099511627776) :
    Calls Tryd.prog 96 #[.string s, .func (.func ef) #[] #[], .func (.func vf) #[] #[]] w fun e w' => e = .returned (.bool (NameP.made p q s.data.toList)) ∧ w = w' := by
  by_cases h0 : s.size = 0
  · have hl : s.toList = [] := by rw [ByteArray.toList_eq]; exact List.eq_nil_of_length_eq_zero (by simpa using h0)
    have Hm := Lib.hid (made_nil (e := p) (v := q) hl)
    have hle : s.toList.isEmpty = true := by rw [hl]; rfl
    clear h0
    go_enter Tryd.func96, Tryd.ntmps96
    go_wp2
    go_ret
    exact ⟨by rw [Hm.out]; rfl, rfl⟩
  · have h1 : 1 ≤ s.size := by omega
    have hne : (!s.toList.isEmpty) = true := by
      rw [ByteArray.toList_eq]
      have hl : s.data.toList.length = s.size := by simp
      cases hd : s.data.toList with | nil => rw [hd] at hl; simp at hl; omega | cons x r => rfl
    have hne2 : s.toList.isEmpty = false := by simpa using hne
    have HM := Lib.hid (made_cons (p := p) (q := q) s h1)
    clear h0
    have c0 : s[0].toNat < 256 := s[0].toNat_lt
    have cl : s[s.size - 1].toNat < 256 := s[s.size - 1].toNat_lt
    have i0 : (0 : Int) < (s.size : Int) := by omega
    have i1 : (0 : Int) ≤ (s.size : Int) - 1 := by omega
    have i2 : (s.size : Int) - 1 < (s.size : Int) := by omega
    have i3 : ((s.size : Int) - 1).toNat = s.size - 1 := by omega
    have ep := hp.enter
    have eq := hq.enter
    cases h2 : p s[0].toNat with
    | false =>
      have H2 := Lib.hid h2; clear h2
      go_enter Tryd.func96, Tryd.ntmps96
      go_wp2_with fail
      refine (hp.calls _ _ c0).mono ?_
      rintro e w' ⟨rfl, rfl⟩
      rw [H2.out]
      go_wp2_with fail
      go_ret
      exact ⟨congrArg (fun b => Ending.returned (.bool b)) (by rw [HM.out, H2.out]; rfl), rfl⟩
    | true =>
      have H2 := Lib.hid h2; clear h2
      cases h3 : p s[s.size - 1].toNat with
      | false =>
        have H3 := Lib.hid h3; clear h3
        go_enter Tryd.func96, Tryd.ntmps96
        go_wp2_with fail
        refine (hp.calls _ _ c0).mono ?_
        rintro e w' ⟨rfl, rfl⟩
        rw [H2.out]
        go_wp2_with fail
        refine (hp.calls _ _ cl).mono ?_
        rintro e w' ⟨rfl, rfl⟩
        rw [H3.out]
        go_wp2_with fail
        go_ret
        exact ⟨congrArg (fun b => Ending.returned (.bool b)) (by rw [HM.out, H2.out, H3.out]; rfl), rfl⟩
      | true =>
        have H3 := Lib.hid h3; clear h3
        go_enter Tryd.func96, Tryd.ntmps96
        go_wp2_with fail
        refine (hp.calls _ _ c0).mono ?_
        rintro e w' ⟨rfl, rfl⟩
        rw [H2.out]
        go_wp2_with fail
        refine (hp.calls _ _ cl).mono ?_
        rintro e w' ⟨rfl, rfl⟩
        rw [H3.out]
        go_wp2_with fail
        go_loop [29] (fun i => ∃ k : Nat, k ≤ s.size ∧ i = .int .i64 k ∧ Hid (((s.data.toList.take k).all fun c => p c.toNat || q c.toNat) = true)) (fun i => s.size - (intOf i).toNat)
        case atStart => exact ⟨0, Nat.zero_le _, rfl, by show _ = _; simp⟩
        case round =>
          obtain ⟨k, hk, rfl, HA⟩ := hrel
          by_cases hlt : k < s.size
          · have ck : s[k].toNat < 256 := s[k].toNat_lt
            have j0 : (0 : Int) ≤ (k : Int) := by omega
            have j1 : (k : Int) < (s.size : Int) := by omega
            cases h4 : p s[k].toNat with
            | true =>
              have H4 := Lib.hid h4; clear h4
              go_wp2_with fail
              refine (hp.calls _ _ ck).mono ?_
              rintro e w' ⟨rfl, rfl⟩
              rw [H4.out]
              go_wp2_with fail
              go_round
              case rel => exact ⟨k + 1, by omega, by go_num, all_snoc hlt HA (by rw [H4.out]; rfl)⟩
              case measure => simp [intOf]; omega
            | false =>
              have H4 := Lib.hid h4; clear h4
              cases h5 : q s[k].toNat with
              | true =>
                have H5 := Lib.hid h5; clear h5
                go_wp2_with fail
                refine (hp.calls _ _ ck).mono ?_
                rintro e w' ⟨rfl, rfl⟩
                rw [H4.out]
                go_wp2_with fail
                refine (hq.calls _ _ ck).mono ?_
                rintro e w' ⟨rfl, rfl⟩
                rw [H5.out]
                go_wp2_with fail
                go_round
                case rel => exact ⟨k + 1, by omega, by go_num, all_snoc hlt HA (by rw [H4.out, H5.out]; rfl)⟩
                case measure => simp [intOf]; omega
              | false =>
                have H5 := Lib.hid h5; clear h5
                go_wp2_with fail
                refine (hp.calls _ _ ck).mono ?_
                rintro e w' ⟨rfl, rfl⟩
                rw [H4.out]
                go_wp2_with fail
                refine (hq.calls _ _ ck).mono ?_
                rintro e w' ⟨rfl, rfl⟩
                rw [H5.out]
                go_wp2_with fail
                go_ret
                exact ⟨congrArg (fun b => Ending.returned (.bool b)) (by rw [HM.out, all_not hlt (by rw [H4.out, H5.out]; rfl)]; simp), rfl⟩
          · go_wp2_with fail
            go_ret
            refine ⟨congrArg (fun b => Ending.returned (.bool b)) ?_, rfl⟩
            have := HA.out
            rw [List.take_of_length_le (by simp; omega)] at this
            rw [HM.out, H2.out, H3.out, this]; rfl
set_option maxHeartbeats 800000 in
theorem judge_any (s : ByteArray) (most : Nat) (b : Bool) (w : World) (_hs : s.size ≤ 1099511627776) (_hm : most ≤ 1000) :
    Calls Tryd.prog 74 #[.string s, .int .i64 (most : Int), .bool b] w fun e w' => e = .returned (.int .i64 (NameP.judge s.size most b)) ∧ w = w' := by
  by_cases h : most < s.size
  · go_enter Tryd.func74, Tryd.ntmps74
    go_wp2
    go_ret
    exact ⟨congrArg (fun b => Ending.returned (.int .i64 b)) (by unfold NameP.judge; rw [if_pos h]), rfl⟩
  · cases b
    all_goals
      go_enter Tryd.func74, Tryd.ntmps74
      go_wp2
      go_ret
      exact ⟨congrArg (fun b => Ending.returned (.int .i64 b)) (by unfold NameP.judge; rw [if_neg h]; rfl), rfl⟩
theorem isName_any (s : ByteArray) (w : World) (hs : s.size ≤ 1099511627776) :
    Calls Tryd.prog 73 #[.string s] w fun e w' => e = .returned (.bool (NameP.isName s.data.toList)) ∧ w = w' := by
  go_enter Tryd.func73, Tryd.ntmps73
  go_wp2_with fail
  refine (made_any low_tells dash_tells s _ hs).mono ?_
  rintro e w' ⟨rfl, rfl⟩
  go_wp2_with fail
  go_ret
  exact ⟨rfl, rfl⟩
theorem check_any (s : ByteArray) (w : World) (hs : s.size ≤ 1099511627776) :
    Calls Tryd.prog 79 #[.string s] w fun e w' => e = .returned (.int .i64 (NameP.check s.data.toList)) ∧ w = w' := by
  go_enter Tryd.func79, Tryd.ntmps79
  go_wp2_with fail
  refine (isName_any s _ hs).mono ?_
  rintro e w' ⟨rfl, rfl⟩
  go_wp2_with fail
  refine (judge_any s 63 _ _ hs (by omega)).mono ?_
  rintro e w' ⟨rfl, rfl⟩
  go_wp2_with fail
  go_ret
  exact ⟨by simp [NameP.check], rfl⟩
end Go.Proofs.YtkmonmdnmpbadaaDoor
