/- Texts of ours joined. -/
import Derived.WalkKit
import Derived.Deep.AppendLies
import Derived.Laws.BytesArg
import Derived.Laws.AppendOwn
import Derived.Laws.AppendOwnNone
import Derived.Deep.Strs
import Derived.Lib.Hide
import Derived.Test.YtgoapmjcfdbjpaaRows
import Derived.Test.YtgoapmjcfdbjpaaChecked
import Derived.KernelRfl
import Derived.ArgAppend
import Derived.Maps.AppendAt
import Derived.Deep.Upon
import Derived.Laws.OwnMore
import Derived.StillTail
import Derived.StillTactics
import Derived.Deep.RegionHeld3
import Derived.Laws.Tables
import Derived.Laws.Rows
import Derived.Test.YtgoapmjcfdbjpaaShelf
import Derived.Deep.MidRow
import Derived.Deep.QuietTactic
import Derived.BigQuiet
import Derived.RegionTactic
import Derived.ChangeAlike
import Derived.Below
import Derived.WalkSpells
import Derived.WalkLawsBesides
import Derived.Maps.OwnSet
import Derived.Maps.RangeWalk
set_option linter.unusedVariables false
set_option linter.unusedSimpArgs false
namespace Go.Proofs.Ytgoapmjcfdbjpaa
open Go.RowKit
theorem run_callFunc_body {P : Program} {f : FuncId} {fn : Func} (hf : P.funcs[f]? = some fn) (hname : (fn.name == "runtime.NumGoroutine") = false) (hb : fn.body.isNone = false) (args : Array Value) (w : World) :
    (callFunc f args).run P w = .ok (.enter f args) w := by
  have h1 : fn.name ≠ "runtime.NumGoroutine" := by simpa using hname
  have h2 : ¬ fn.body = none := fun e => by rw [e] at hb; cases hb
  simp [callFunc, hf, h1, h2]
theorem heap_alloc_old {w : World} {o x : Obj} {n : Nat} (h : w.heap[n]? = some x) : (w.alloc o).heap[n]? = some x := by
  have hn : n < w.heap.size := by
    rcases Nat.lt_or_ge n w.heap.size with h1 | h1
    · exact h1
    · rw [Array.getElem?_eq_none h1] at h; cases h
  exact (Below.heap_alloc w o n hn).trans h
theorem cell_block {w : World} {g : Nat} {cs : Array Value} {t : TypeId} {fr : Nat × Nat} (h : w.heap[g]? = some (.cells cs t fr)) (i : Nat) : w.cell? ⟨g, i, none⟩ = cs[i]? := by simp [World.cell?, h]
theorem free_block {w : World} {g : Nat} {cs : Array Value} {t : TypeId} (h : w.heap[g]? = some (.cells cs t (0, 0))) (i : Nat) : w.frozen? ⟨g, i, none⟩ = false := by simp [World.frozen?, h]
end Go.Proofs.Ytgoapmjcfdbjpaa
namespace Go.Proofs.Ytgoapmjcfdbjpaa
open Go.RowKit
def strs (l : List ByteArray) : List Value := l.map Value.string
def StrAt (w : World) (v : Value) (l : List ByteArray) : Prop :=
  (v = .slice none 0 0 ∧ l = []) ∨ ∃ a c, v = .slice (some a) l.length c ∧ l.length ≤ c ∧ c ≤ maxLen ∧ ∀ j x, l[j]? = some x → w.cell? (a.add j) = some (.string x)
section
variable {w w' : World} {v : Value} {l : List ByteArray}
theorem StrAt.nil (w : World) : StrAt w (.slice none 0 0) [] := .inl ⟨rfl, rfl⟩
theorem StrAt.len (h : StrAt w v l) : ∃ ao c, v = .slice ao l.length c ∧ l.length ≤ c ∧ c ≤ maxLen := by
  rcases h with ⟨rfl, rfl⟩ | ⟨a, c, rfl, h1, h2, _⟩
  · exact ⟨_, _, rfl, by simp, by simp⟩
  · exact ⟨_, _, rfl, h1, h2⟩
theorem spot_none {a : Addr} {x : Value} (h : w.cell? a = some x) : a = ⟨a.block, a.off, none⟩ := by
  obtain ⟨b, o, s⟩ := a
  cases s with
  | none => rfl
  | some s =>
    unfold World.cell? at h
    simp only at h
    split at h
    · simp at h
    · cases h
theorem add_plain' (b o j : Nat) : (⟨b, o, none⟩ : Addr).add j = ⟨b, o + j, none⟩ := by unfold Addr.add; split <;> simp_all
theorem StrAt.form (h : StrAt w v l) (hl : 0 < l.length) :
    ∃ b o c, v = .slice (some ⟨b, o, none⟩) l.length c ∧ l.length ≤ c ∧ c ≤ maxLen ∧ b < w.heap.size ∧ ∀ j x, l[j]? = some x → w.cell? ⟨b, o + j, none⟩ = some (.string x) := by
  rcases h with ⟨_, rfl⟩ | ⟨a, c, rfl, h1, h2, h3⟩
  · simp at hl
  · have h0 := h3 0 l[0] (by simp [hl])
    rw [show a.add 0 = a from by simp [Addr.add]] at h0
    have ha := spot_none h0
    refine ⟨a.block, a.off, c, by rw [← ha], h1, h2, World.block_lt_of_cell? w _ h0, fun j x hx => ?_⟩
    have h4 := h3 j x hx
    rw [ha, add_plain'] at h4
    exact h4
theorem StrAt.keep (h : StrAt w v l) (hk : ∀ p x, w.cell? p = some x → w'.cell? p = some x) : StrAt w' v l := by
  rcases h with ⟨rfl, rfl⟩ | ⟨a, c, rfl, h1, h2, h3⟩
  · exact .inl ⟨rfl, rfl⟩
  · exact .inr ⟨a, c, rfl, h1, h2, fun j x hx => hk _ _ (h3 j x hx)⟩
theorem StrAt.below (h : StrAt w v l) (hb : Below w.heap.size w w') : StrAt w' v l :=
  h.keep fun p x hp => by rw [← hp]; exact hb.cell (World.block_lt_of_cell? w _ hp)
theorem StrAt.drew (h : StrAt w v l) : StrAt w.drew v l := h
theorem StrAt.cut (h : StrAt w v l) {b o c : Nat} (hv : v = .slice (some ⟨b, o, none⟩) l.length c) {i j : Nat} (hi : i ≤ j) (hj : j ≤ l.length) : StrAt w (.slice (some ⟨b, o + i, none⟩) (j - i) (c - i)) ((l.take j).drop i) := by
  rcases h with ⟨rfl, rfl⟩ | ⟨a, c', h0, h1, h2, h3⟩
  · cases hv
  · rw [h0] at hv
    obtain ⟨rfl, rfl⟩ : a = ⟨b, o, none⟩ ∧ c' = c := by injection hv with e1 e2 e3; exact ⟨by injection e1, e3⟩
    have hlen : ((l.take j).drop i).length = j - i := by simp; omega
    refine .inr ⟨_, _, by rw [hlen], by rw [hlen]; omega, by omega, fun k x hx => ?_⟩
    have hk : k < j - i := by have := (List.getElem?_eq_some_iff.1 hx).1; rwa [hlen] at this
    have := h3 (i + k) x (by rw [List.getElem?_drop, List.getElem?_take_of_lt (by omega)] at hx; exact hx)
    rw [add_plain'] at this ⊢
    rw [← this]
    congr 2
    omega
end
end Go.Proofs.Ytgoapmjcfdbjpaa
namespace Go.Proofs.Ytgoapmjcfdbjpaa
open Go.RowKit Go.ChangeShapes Go.WideShapes
end Go.Proofs.Ytgoapmjcfdbjpaa
namespace Go.Proofs.Ytgoapmjcfdbjpaa
theorem Try.infoInt : (Try.prog.info? 3).map (fun i => (i.zero, i.size, i.bytes)) = some (some (.int .i64 0), 1, 8) := by kernel_rfl
end Go.Proofs.Ytgoapmjcfdbjpaa
namespace Go.Proofs.Ytgoapmjcfdbjpaa
open Go.RowKit Go.ChangeShapes Go.WideShapes
abbrev Rd (α : Type) := World → List Value → α → Prop
abbrev Keeps (w w' : World) : Prop := ∀ p v, w.cell? p = some v → w'.cell? p = some v
def Stays {α : Type} (R : Rd α) : Prop := ∀ w w' cs a, Keeps w w' → R w cs a → R w' cs a
theorem keeps_below {w w' : World} (h : Below w.heap.size w w') : Keeps w w' := fun _ _ hp => (h.cell (World.block_lt_of_cell? w _ hp)).trans hp
def RString : Rd ByteArray := fun _ cs s => cs = [.string s]
def RInt (k : IntKind) : Rd Int := fun _ cs n => cs = [.int k n] ∧ (Lit.int k n).wf = true
def RowAt {α : Type} (R : Rd α) (k : Nat) (w : World) (v : Value) (l : List α) : Prop :=
  (v = .slice none 0 0 ∧ l = []) ∨ ∃ a c, v = .slice (some a) l.length c ∧ l.length ≤ c ∧ c ≤ maxLen ∧
    ∀ j x, l[j]? = some x → ∃ cs, cs.length = k ∧ (∀ i u, cs[i]? = some u → w.cell? (a.add (j * k + i)) = some u) ∧ R w cs x
def RRow {α : Type} (R : Rd α) (k : Nat) : Rd (List α) := fun w cs l => ∃ v, cs = [v] ∧ RowAt R k w v l
theorem stays_int (k : IntKind) : Stays (RInt k) := fun _ _ _ _ _ h => h
section
variable {α : Type} {R : Rd α} {k : Nat} {w w' : World} {v : Value} {l : List α}
theorem RowAt.keep (hs : Stays R) (h : RowAt R k w v l) (hk : Keeps w w') : RowAt R k w' v l := by
  rcases h with h | ⟨a, c, h1, h2, h3, h4⟩
  · exact .inl h
  · exact .inr ⟨a, c, h1, h2, h3, fun j x hx => by
      obtain ⟨cs, g1, g2, g3⟩ := h4 j x hx
      exact ⟨cs, g1, fun i u hu => hk _ _ (g2 i u hu), hs _ _ _ _ hk g3⟩⟩
theorem RowAt.below (hs : Stays R) (h : RowAt R k w v l) (hb : Below w.heap.size w w') : RowAt R k w' v l := h.keep hs (keeps_below hb)
theorem RowAt.nil (w : World) : RowAt R k w (.slice none 0 0) [] := .inl ⟨rfl, rfl⟩
theorem RowAt.len (h : RowAt R k w v l) : ∃ ao c, v = .slice ao l.length c ∧ l.length ≤ c ∧ c ≤ maxLen := by
  rcases h with ⟨rfl, rfl⟩ | ⟨a, c, rfl, h1, h2, _⟩
  · exact ⟨_, _, rfl, by simp, by simp⟩
  · exact ⟨_, _, rfl, h1, h2⟩
theorem RowAt.form (h : RowAt R k w v l) (hl : 0 < l.length) (hk : 0 < k) :
    ∃ b o c, v = .slice (some ⟨b, o, none⟩) l.length c ∧ l.length ≤ c ∧ c ≤ maxLen ∧ b < w.heap.size ∧
      ∀ j x, l[j]? = some x → ∃ cs, cs.length = k ∧ (∀ i u, cs[i]? = some u → w.cell? ⟨b, o + j * k + i, none⟩ = some u) ∧ R w cs x := by
  rcases h with ⟨_, rfl⟩ | ⟨a, c, rfl, h1, h2, h3⟩
  · simp at hl
  · obtain ⟨cs, g1, g2, _⟩ := h3 0 l[0] (by simp [hl])
    have h0 := g2 0 cs[0] (by simp)
    rw [show a.add (0 * k + 0) = a from by simp [Addr.add]] at h0
    have ha := spot_none h0
    refine ⟨a.block, a.off, c, by rw [← ha], h1, h2, World.block_lt_of_cell? w _ h0, fun j x hx => ?_⟩
    obtain ⟨cs, g1, g2, g3⟩ := h3 j x hx
    refine ⟨cs, g1, fun i u hu => ?_, g3⟩
    have h4 := g2 i u hu
    rw [ha, add_plain', ← Nat.add_assoc] at h4
    exact h4
theorem RowAt.cut (h : RowAt R k w v l) {b o c : Nat} (hv : v = .slice (some ⟨b, o, none⟩) l.length c) {i j : Nat} (hi : i ≤ j) (hj : j ≤ l.length) :
    RowAt R k w (.slice (some ⟨b, o + i * k, none⟩) (j - i) (c - i)) ((l.take j).drop i) := by
  rcases h with ⟨rfl, rfl⟩ | ⟨a, c', h0, h1, h2, h3⟩
  · cases hv
  · rw [h0] at hv
    obtain ⟨rfl, rfl⟩ : a = ⟨b, o, none⟩ ∧ c' = c := by injection hv with e1 e2 e3; exact ⟨by injection e1, e3⟩
    have hlen : ((l.take j).drop i).length = j - i := by simp; omega
    refine .inr ⟨_, _, by rw [hlen], by rw [hlen]; omega, by omega, fun m x hx => ?_⟩
    have hm : m < j - i := by have := (List.getElem?_eq_some_iff.1 hx).1; rwa [hlen] at this
    obtain ⟨cs, g1, g2, g3⟩ := h3 (i + m) x (by rw [List.getElem?_drop, List.getElem?_take_of_lt (by omega)] at hx; exact hx)
    refine ⟨cs, g1, fun q u hu => ?_, g3⟩
    have := g2 q u hu
    rw [add_plain'] at this ⊢
    rw [← this]
    congr 2
    rw [Nat.add_mul]
    omega
end
theorem RowAt.strs {w : World} {v : Value} {l : List ByteArray} (h : RowAt RString 1 w v l) : StrAt w v l := by
  rcases h with ⟨rfl, rfl⟩ | ⟨a, c, rfl, h1, h2, h3⟩
  · exact .inl ⟨rfl, rfl⟩
  · refine .inr ⟨a, c, rfl, h1, h2, fun j x hx => ?_⟩
    obtain ⟨cs, _, g2, rfl⟩ := h3 j x hx
    simpa using g2 0 _ rfl
theorem StrAt.row {w : World} {v : Value} {l : List ByteArray} (h : StrAt w v l) : RowAt RString 1 w v l := by
  rcases h with ⟨rfl, rfl⟩ | ⟨a, c, rfl, h1, h2, h3⟩
  · exact .inl ⟨rfl, rfl⟩
  · refine .inr ⟨a, c, rfl, h1, h2, fun j x hx => ⟨[.string x], rfl, fun i u hu => ?_, rfl⟩⟩
    match i, hu with
    | 0, hu => simp only [List.getElem?_cons_zero, Option.some.injEq] at hu; subst hu; simpa using h3 j x hx
def Opens (P : Program) (t : TypeId) {α : Type} (R : Rd α) (μ : α → Nat) : Prop :=
  ∀ (H : Type) (enc : TypeId × Value → H) (w : World) (base : Nat) (spare : Nat → Bool) (held : Bool) (fuel : Nat) (cs : List Value) (x : DataW H × List MemPlace),
    DataW.trod enc P w base spare held fuel t cs = some x → ∃ a, R w cs a ∧ μ a ≤ Rows.uptoBulk x.1
section
variable {P : Program} {t e : TypeId}
theorem opens_int {k : IntKind} (ht : P.underlying t = some (.int k)) : Opens P t (RInt k) (fun _ => 1) := fun _ _ _ _ _ _ _ _ _ h => by
  obtain ⟨n, rfl, rfl, hw⟩ := DataW.trod_int ht h
  exact ⟨n, ⟨rfl, hw⟩, by simp [Rows.uptoBulk]⟩
theorem uptoBulkAll_append {H : Type} (l m : List (DataW H)) : Rows.uptoBulkAll (l ++ m) = Rows.uptoBulkAll l + Rows.uptoBulkAll m := by
  induction l with
  | nil => simp [Rows.uptoBulkAll]
  | cons d r ih => simp only [List.cons_append, Rows.uptoBulkAll, ih]; omega
theorem list_of_each {α : Type} {H : Type} (Q : Nat → α → Prop) (μ : α → Nat) (D : Nat → DataW H) : ∀ n : Nat, (∀ i, i < n → ∃ a, Q i a ∧ μ a ≤ Rows.uptoBulk (D i)) →
    ∃ l : List α, l.length = n ∧ (∀ i x, l[i]? = some x → Q i x) ∧ (l.map μ).sum ≤ Rows.uptoBulkAll ((List.range n).map D)
  | 0, _ => ⟨[], rfl, fun i x h => by simp at h, by simp⟩
  | n + 1, h => by
    obtain ⟨l, h1, h2, h3⟩ := list_of_each Q μ D n fun i hi => h i (by omega)
    obtain ⟨a, ha, hm⟩ := h n (by omega)
    refine ⟨l ++ [a], by simp [h1], fun i x hx => ?_, ?_⟩
    · by_cases hi : i < n
      · rw [List.getElem?_append_left (by omega)] at hx
        exact h2 i x hx
      · have : i = n := by have := (List.getElem?_eq_some_iff.1 hx).1; simp [h1] at this; omega
        subst this
        rw [List.getElem?_append_right (by omega), h1] at hx
        simp at hx
        subst hx
        exact ha
    · rw [List.range_succ, List.map_append (l₁ := List.range n), uptoBulkAll_append, List.map_append, List.sum_append]
      simp only [List.map_cons, List.map_nil, List.sum_cons, List.sum_nil, Rows.uptoBulkAll]
      omega
theorem opens_row {α : Type} {R : Rd α} {μ : α → Nat} {k : Nat} (ht : P.underlying t = some (.slice e)) (hC : P.cellsOf e = k) (h : Opens P e R μ) : Opens P t (RRow R k) (fun l => (l.map μ).sum + 1) := fun H enc w base spare held fuel cs x hx => by
  rcases Deep.open_slice ht hx with ⟨rfl, rfl⟩ | ⟨a, len, cap, m, n, D, Pl, rfl, _, hl, hm, hmm, rfl, hel⟩
  · exact ⟨[], ⟨_, rfl, .inl ⟨rfl, rfl⟩⟩, by simp [Rows.uptoBulk]⟩
  · have hlm : len ≤ m := by rw [hmm]; split <;> omega
    obtain ⟨l, h1, h2, h3⟩ := list_of_each (fun i y => ∃ cs, cs.length = k ∧ (∀ j u, cs[j]? = some u → w.cell? (a.add (i * k + j)) = some u) ∧ R w cs y) μ D len fun i hi => by
      obtain ⟨cs', hc, ht'⟩ := hel i (by omega)
      rw [hC] at hc
      obtain ⟨_, hcl, hat⟩ := World.cells?_some hc
      obtain ⟨y, hy, hb⟩ := h _ _ _ _ _ _ _ _ _ ht'
      refine ⟨y, ⟨cs', hcl, fun j u hu => ?_, hy⟩, hb⟩
      have hjk : j < k := by have := (List.getElem?_eq_some_iff.1 hu).1; omega
      rw [← Deep.add_add, hat j hjk]
      exact hu
    subst h1
    refine ⟨l, ⟨_, rfl, .inr ⟨a, cap, rfl, hl, hm, h2⟩⟩, ?_⟩
    simp only [Rows.uptoBulk]
    omega
theorem Opens.at {α : Type} {R : Rd α} {μ : α → Nat} (h : Opens P t R μ) {H : Type} {enc : TypeId × Value → H} {w : World} {base : Nat} {spare : Nat → Bool} {held : Bool} {fuel k o : Nat} {cs ds : List Value} {x : DataW H × List MemPlace}
    (hx : DataW.trod enc P w base spare held fuel t ((cs.drop o).take (P.cellsOf t)) = some x) (hk : P.cellsOf t = k) (hd : (cs.drop o).take k = ds) : ∃ a, R w ds a ∧ μ a ≤ Rows.uptoBulk x.1 := by
  rw [hk, hd] at hx
  exact h _ _ _ _ _ _ _ _ _ hx
end
end Go.Proofs.Ytgoapmjcfdbjpaa
namespace Go.Proofs.Ytgoapmjcfdbjpaa
open Go.RowKit
theorem own_below' {w w' : World} {B n k : Nat} {e : TypeId} {v : Value} {xs : List Value} (h : w.ownsRow B e k v n xs) (hb : Below w.heap.size w w') : w'.ownsRow B e k v n xs := by
  refine ⟨h.1, ?_⟩
  rcases h.2 with h0 | ⟨g, cap, cur, hv, hB, hh, hr⟩
  · exact .inl h0
  · have hg : g < w.heap.size := by
      rcases Nat.lt_or_ge g w.heap.size with h1 | h1
      · exact h1
      · rw [Array.getElem?_eq_none h1] at hh; cases hh
    exact .inr ⟨g, cap, cur, hv, hB, (hb.block g hg).trans hh, hr⟩
theorem flat_get {β : Type} {k : Nat} : ∀ {css : List (List β)}, (∀ cs ∈ css, cs.length = k) → ∀ {m : Nat} {u : β}, css.flatten[m]? = some u → ∃ j i cs, m = j * k + i ∧ css[j]? = some cs ∧ cs[i]? = some u
  | [], _, m, u, h => by simp at h
  | c :: r, hk, m, u, h => by
    have hc : c.length = k := hk c (List.mem_cons_self ..)
    rw [List.flatten_cons] at h
    by_cases hm : m < c.length
    · rw [List.getElem?_append_left hm] at h
      exact ⟨0, m, c, by omega, rfl, h⟩
    · rw [List.getElem?_append_right (by omega)] at h
      obtain ⟨j, i, cs, h1, h2, h3⟩ := flat_get (fun cs hcs => hk cs (List.mem_cons_of_mem _ hcs)) h
      exact ⟨j + 1, i, cs, by rw [Nat.add_mul]; omega, by simpa using h2, h3⟩
theorem get_flat {β : Type} {k : Nat} : ∀ {css : List (List β)}, (∀ cs ∈ css, cs.length = k) → ∀ {j i : Nat} {cs : List β} {u : β}, css[j]? = some cs → cs[i]? = some u → css.flatten[j * k + i]? = some u
  | [], _, j, i, cs, u, h, _ => by simp at h
  | c :: r, hk, j, i, cs, u, h, hi => by
    have hc : c.length = k := hk c (List.mem_cons_self ..)
    rw [List.flatten_cons]
    cases j with
    | zero =>
      simp only [List.getElem?_cons_zero, Option.some.injEq] at h
      subst h
      have := (List.getElem?_eq_some_iff.1 hi).1
      rw [Nat.zero_mul, Nat.zero_add, List.getElem?_append_left this]
      exact hi
    | succ j =>
      have h' : r[j]? = some cs := by simpa using h
      rw [Nat.add_mul, Nat.one_mul, List.getElem?_append_right (by omega), show j * k + k + i - c.length = j * k + i by omega]
      exact get_flat (fun cs hcs => hk cs (List.mem_cons_of_mem _ hcs)) h' hi
theorem flat_len {β : Type} {k : Nat} : ∀ {css : List (List β)}, (∀ cs ∈ css, cs.length = k) → css.flatten.length = css.length * k
  | [], _ => by simp
  | c :: r, hk => by
    rw [List.flatten_cons, List.length_append, flat_len fun cs hcs => hk cs (List.mem_cons_of_mem _ hcs), hk c (List.mem_cons_self ..), List.length_cons, Nat.add_mul]
    omega
theorem pick_each {β : Type} (Q : Nat → β → Prop) : ∀ n : Nat, (∀ i, i < n → ∃ y, Q i y) → ∃ ys : List β, ys.length = n ∧ ∀ i y, ys[i]? = some y → Q i y
  | 0, _ => ⟨[], rfl, fun i y h => by simp at h⟩
  | n + 1, h => by
    obtain ⟨ys, h1, h2⟩ := pick_each Q n fun i hi => h i (by omega)
    obtain ⟨y, hy⟩ := h n (by omega)
    refine ⟨ys ++ [y], by simp [h1], fun i z hz => ?_⟩
    by_cases hi : i < n
    · rw [List.getElem?_append_left (by omega)] at hz
      exact h2 i z hz
    · have : i = n := by have := (List.getElem?_eq_some_iff.1 hz).1; simp [h1] at this; omega
      subst this
      rw [List.getElem?_append_right (by omega), h1] at hz
      simp at hz
      subst hz
      exact hy
def OneR {α : Type} (R : Rd α) : Prop := ∀ w cs x, R w cs x → ∀ u ∈ cs, u.oneCell' = true
section
variable {α : Type} {R : Rd α} {k : Nat} {w w' : World} {v : Value} {l m : List α} {B : Nat} {e : TypeId}
theorem RowAt.cells (h : RowAt R k w v l) {a : Addr} {n c : Nat} (hv : v = .slice (some a) n c) :
    n = l.length ∧ ∃ css : List (List Value), css.length = l.length ∧ (∀ cs ∈ css, cs.length = k) ∧ (∀ (j : Nat) (u : Value), css.flatten[j]? = some u → w.cell? (a.add j) = some u) ∧ ∀ (j : Nat) (cs : List Value) (x : α), css[j]? = some cs → l[j]? = some x → R w cs x := by
  rcases h with ⟨rfl, rfl⟩ | ⟨a', c', rfl, _, _, h4⟩
  · cases hv
  · cases hv
    refine ⟨rfl, ?_⟩
    obtain ⟨css, h1, h2⟩ := pick_each (fun j cs => ∃ x, l[j]? = some x ∧ cs.length = k ∧ (∀ i u, cs[i]? = some u → w.cell? (a.add (j * k + i)) = some u) ∧ R w cs x) l.length (fun j hj => by
      obtain ⟨cs, g1, g2, g3⟩ := h4 j l[j] (by simp [hj])
      exact ⟨cs, l[j], by simp [hj], g1, g2, g3⟩)
    have hk : ∀ cs ∈ css, cs.length = k := fun cs hcs => by
      obtain ⟨j, hj, rfl⟩ := List.getElem_of_mem hcs
      obtain ⟨x, _, g, _⟩ := h2 j _ (List.getElem?_eq_getElem hj)
      exact g
    refine ⟨css, h1, hk, fun j u hu => ?_, fun j cs x hcs hx => ?_⟩
    · obtain ⟨q, i, cs, rfl, hq, hi⟩ := flat_get hk hu
      obtain ⟨x, _, _, g, _⟩ := h2 q cs hq
      exact g i u hi
    · obtain ⟨y, hy, _, _, g⟩ := h2 j cs hcs
      rw [hx] at hy
      cases hy
      exact g
def OwnAt (R : Rd α) (k : Nat) (w : World) (B : Nat) (e : TypeId) (v : Value) (l : List α) : Prop :=
  ∃ css : List (List Value), css.length = l.length ∧ (∀ cs ∈ css, cs.length = k) ∧ w.ownsRow B e k v l.length css.flatten ∧ ∀ (j : Nat) (cs : List Value) (x : α), css[j]? = some cs → l[j]? = some x → R w cs x
theorem OwnAt.nil (w : World) : OwnAt R k w B e (.slice none 0 0) [] := ⟨[], rfl, fun _ h => (by cases h), World.ownsRow_nil _ _ _ _, fun j cs x h => (by simp at h)⟩
theorem OwnAt.form (h : OwnAt R k w B e v l) : (v = .slice none 0 0 ∧ l = []) ∨ ∃ g c, v = .slice (some ⟨g, 0, none⟩) l.length c ∧ B ≤ g ∧ g < w.heap.size ∧ l.length ≤ c ∧ c ≤ maxLen := by
  obtain ⟨css, _, _, h3, _⟩ := h
  rcases h3.2 with ⟨h4, h5⟩ | ⟨g, cap, cur, h4, h5, h6, h7, h8, _⟩
  · exact .inl ⟨h4, List.eq_nil_of_length_eq_zero h5⟩
  · refine .inr ⟨g, cap, h4, h5, ?_, h7, h8⟩
    rcases Nat.lt_or_ge g w.heap.size with h1 | h1
    · exact h1
    · rw [Array.getElem?_eq_none h1] at h6; cases h6
theorem OwnAt.at (h : OwnAt R k w B e v l) {g : Nat} (hg : v.ownBlock = some g) : B ≤ g ∧ g < w.heap.size ∧ ∃ cur, w.heap[g]? = some (.cells cur e (0, 0)) := by
  obtain ⟨css, _, _, h3, _⟩ := h
  rcases h3.2 with ⟨rfl, _⟩ | ⟨g', cap, cur, rfl, h5, h6, _⟩
  · cases hg
  · obtain rfl : g' = g := by simpa [Value.ownBlock] using hg
    refine ⟨h5, ?_, cur, h6⟩
    rcases Nat.lt_or_ge g' w.heap.size with h1 | h1
    · exact h1
    · rw [Array.getElem?_eq_none h1] at h6; cases h6
theorem OwnAt.other {β : Type} {R' : Rd β} {k' : Nat} {B' : Nat} {e' : TypeId} {v' : Value} {l' : List β} (h : OwnAt R k w B e v l) (h' : OwnAt R' k' w B' e' v' l') (hne : e ≠ e') {g : Nat} (hg : v.ownBlock = some g) : v'.ownBlock ≠ some g := fun hg' => by
  obtain ⟨_, _, cur, h1⟩ := h.at hg
  obtain ⟨_, _, cur', h2⟩ := h'.at hg'
  rw [h1] at h2
  cases h2
  exact hne rfl
theorem OwnAt.row (h : OwnAt R k w B e v l) : RowAt R k w v l := by
  obtain ⟨css, h1, h2, h3, h4⟩ := h
  rcases h3.2 with ⟨h5, h6⟩ | ⟨g, cap, cur, h5, _, _, h7, h8, _, hc⟩
  · exact .inl ⟨h5, List.eq_nil_of_length_eq_zero h6⟩
  · refine .inr ⟨_, cap, h5, h7, h8, fun j x hx => ?_⟩
    have hj : j < css.length := by rw [h1]; exact (List.getElem?_eq_some_iff.1 hx).1
    have hcs : css[j]? = some css[j] := List.getElem?_eq_getElem hj
    exact ⟨css[j], h2 _ (List.getElem_mem hj), fun i u hu => h3.cells (by rw [h5]; rfl) (j * k + i) u (get_flat h2 hcs hu), h4 j _ x hcs hx⟩
theorem OwnAt.keepRow (hs : Stays R) (h : OwnAt R k w B e v l) (hk : Keeps w w') (ho : ∀ xs, w.ownsRow B e k v l.length xs → w'.ownsRow B e k v l.length xs) : OwnAt R k w' B e v l := by
  obtain ⟨css, h1, h2, h3, h4⟩ := h
  exact ⟨css, h1, h2, ho _ h3, fun j cs x hcs hx => hs _ _ _ _ hk (h4 j cs x hcs hx)⟩
theorem OwnAt.below (hs : Stays R) (h : OwnAt R k w B e v l) (hb : Below w.heap.size w w') : OwnAt R k w' B e v l := h.keepRow hs (keeps_below hb) fun _ ho => own_below' ho hb
theorem OwnAt.mono {B' : Nat} (h : OwnAt R k w B e v l) (hB : B' ≤ B) : OwnAt R k w B' e v l := by
  obtain ⟨css, h1, h2, h3, h4⟩ := h
  exact ⟨css, h1, h2, h3.mono hB, h4⟩
theorem OwnAt.alloc (hs : Stays R) (h : OwnAt R k w B e v l) (o : Obj) : OwnAt R k (w.alloc o) B e v l := h.below hs ((Below.refl _ _).alloc (Nat.le_refl _) o)
theorem RowAt.one {b : Nat} {cs : Array Value} {fr : Nat × Nat} (hb : w.heap[b]? = some (.cells cs e fr)) (hk : cs.size = k) {x : α} (h : R w cs.toList x) : RowAt R k w (.slice (some ⟨b, 0, none⟩) 1 1) [x] := by
  refine .inr ⟨_, 1, rfl, Nat.le_refl _, by unfold maxLen; decide, fun j y hy => ?_⟩
  have hj : j < 1 := (List.getElem?_eq_some_iff.1 hy).1
  obtain rfl : j = 0 := by omega
  simp only [List.getElem?_cons_zero, Option.some.injEq] at hy
  subst hy
  refine ⟨cs.toList, by simpa using hk, fun i u hu => ?_, h⟩
  rw [Nat.zero_mul, Nat.zero_add, add_plain', Nat.zero_add]
  have hi : i < cs.size := by have := (List.getElem?_eq_some_iff.1 hu).1; simpa using this
  have : w.cell? ⟨b, i, none⟩ = cs[i]? := by unfold World.cell?; simp [hb]
  rw [this]
  simpa using hu
end
def Flat {α : Type} (R : Rd α) : Prop := ∀ w w' cs x, R w cs x → R w' cs x
theorem Flat.stays {α : Type} {R : Rd α} (h : Flat R) : Stays R := fun _ _ _ _ _ hR => h _ _ _ _ hR
section
variable {P : Program} {α : Type} {R : Rd α} {k : Nat} {l m : List α} {B : Nat} {e : TypeId}
theorem run_append_ownAt (w : World) (t ty : TypeId) (i : TypeInfo) (z : Value) (bytes : Nat) (ht : P.underlying t = some (.slice e)) (hi : P.info? e = some i) (hz : i.zero = some z) (hsize : i.size = k) (hby : i.bytes = bytes)
    (hzs : z.cells.size = k) (hsz : 0 < k) (hf : Flat R) (h1 : OneR R) (v : Value) (hv : OwnAt R k w B e v l) (x : Value) (hx : RowAt R k w x m) (hlen : l.length + m.length ≤ maxLen)
    (hbytes : (l.length + m.length) * bytes ≤ 140737488355328) (hbase : B ≤ w.heap.size) :
    ∃ v' w', (Builtin.append_ #[t, t] ty #[v, x]).run P w = .ok v' w' ∧ OwnAt R k w' B e v' (l ++ m) ∧ w.grownBy w' v.ownBlock ∧ (∀ g, v.ownBlock = some g → B ≤ g) ∧ (v'.ownBlock = v.ownBlock ∨ v'.ownBlock = some w.heap.size) := by
  obtain ⟨css, c1, c2, c3, c4⟩ := hv
  rcases hx with ⟨rfl, rfl⟩ | ⟨a, c, rfl, hc1, hc2, hc3⟩
  · exact ⟨v, w, run_append_owned_none (P := P) w B t ty e i k ht hi v _ _ c3, ⟨css, by simpa using c1, c2, by simpa using c3, fun j cs y hcs hy => c4 j cs y hcs (by simpa using hy)⟩, World.grownBy.refl w _, fun g hg => (c3.lt g hg).1, .inl rfl⟩
  · obtain ⟨_, ds, d1, d2, d3, d4⟩ := RowAt.cells (R := R) (k := k) (w := w) (l := m) (.inr ⟨a, c, rfl, hc1, hc2, hc3⟩) rfl
    have d6 : ∀ u ∈ ds.flatten, u.oneCell' = true := fun u hu => by
      obtain ⟨cs, hcs, hu'⟩ := List.mem_flatten.1 hu
      obtain ⟨j, hj, rfl⟩ := List.getElem_of_mem hcs
      exact h1 w _ m[j] (d4 j _ _ (List.getElem?_eq_getElem hj) (List.getElem?_eq_getElem (by omega))) u hu'
    obtain ⟨v', w', hrun, r1, r2, _, r4⟩ := run_append_own_at (P := P) w B t ty e i z k bytes ht hi hz hsize hby hzs hsz v l.length css.flatten c3 a m.length c ds.flatten (by rw [flat_len d2, d1]) d3 d6 hlen hbytes hbase
    refine ⟨v', w', hrun, ⟨css ++ ds, by simp [c1, d1], fun cs hcs => (List.mem_append.1 hcs).elim (c2 cs) (d2 cs), by rw [List.flatten_append, List.length_append]; exact r1, fun j cs y hcs hy => ?_⟩, r2, fun g hg => (c3.lt g hg).1, r4⟩
    by_cases hj : j < l.length
    · rw [List.getElem?_append_left (by omega)] at hcs hy
      exact hf _ _ _ _ (c4 j cs y hcs hy)
    · rw [List.getElem?_append_right (by omega)] at hcs hy
      rw [c1] at hcs
      exact hf _ _ _ _ (d4 _ cs y hcs hy)
end
end Go.Proofs.Ytgoapmjcfdbjpaa
namespace Go.Proofs.Ytgoapmjcfdbjpaa
open Go
section
variable {P : Program} {ops : Array Oper} {md : Region.Mode}
inductive Behind (md : Region.Mode) (ops : Array Oper) (i : Nat) : Nat → Prop
  | edge {t : Nat} {o : Oper} {e : Edge} (ho : ops[t]? = some o) (he : e ∈ o.after) (hb : Region.binds md e = true) (hi : e.on = i) : Behind md ops i t
  | step {t : Nat} {o : Oper} {e : Edge} (ho : ops[t]? = some o) (he : e ∈ o.after) (hb : Region.binds md e = true) (h : Behind md ops i e.on) : Behind md ops i t
def Shut (md : Region.Mode) (ops : Array Oper) (listed : Array Bool) : Prop :=
  ∀ j oj, ops[j]? = some oj → listed.getD j false = true → ∀ e ∈ oj.after, Region.binds md e = true → listed.getD e.on false = true
theorem Behind.listed {i t : Nat} {listed : Array Bool} (h : Behind md ops i t) (hc : Shut md ops listed) :
    (∀ o, ops[t]? = some o → ∀ e ∈ o.after, Region.binds md e = true → listed.getD e.on false = true) → listed.getD i false = true := by
  induction h with
  | edge ho he hb hi => intro hall; rw [← hi]; exact hall _ ho _ he hb
  | step ho he hb _ ih =>
    intro hall
    have h1 := hall _ ho _ he hb
    exact ih (fun o2 ho2 e2 he2 hb2 => hc _ o2 ho2 h1 e2 he2 hb2)
theorem Shut.set {i : Nat} {listed : Array Bool} (hc : Shut md ops listed) (hi : i ∈ Region.ready md ops listed) : Shut md ops (listed.setIfInBounds i true) := by
  obtain ⟨_, oi, hoi, hall⟩ := mem_ready.1 hi
  intro j oj hj hl e he hb
  by_cases hij : i = j
  · subst hij
    have : oj = oi := Option.some.inj (hj.symm.trans hoi)
    subst this
    exact getD_set_true (hall e he hb)
  · rw [getD_set_ne false hij] at hl
    exact getD_set_true (hc j oj hj hl e he hb)
end
end Go.Proofs.Ytgoapmjcfdbjpaa
namespace Go.Proofs.Ytgoapmjcfdbjpaa
open Go
section
variable {P : Program} {ops : Array Oper} {md : Region.Mode} {I : World → Prop}
def gives (P : Program) (R : Value → World → Prop) : Result Next → Prop
  | .ok (.value v) w' => R v w'
  | .ok .skip w' => R undef w'
  | .ok (.enter f args) w' => Calls P f args w' fun e w'' => ∃ v, e = .returned v ∧ R v w''
  | _ => False
theorem gives_upon {o : Oper} {a : Act} {R : Value → World → Prop} {K : Act → World → Prop} {Q : Exit → Act → World → Prop} (h : ∀ v w, R v w → K (a.put o.dst v) w) :
    ∀ {r : Result Next}, gives P R r → o.upon P a K Q r
  | .ok (.value v) w', hr => h _ _ hr
  | .ok .skip w', hr => h _ _ hr
  | .ok (.enter f args) w', hr => Calls.mono hr fun e w'' he => by
      obtain ⟨v, rfl, hR⟩ := he
      exact h _ _ hR
def YieldsIn (P : Program) (ops : Array Oper) (I : World → Prop) (o : Oper) (v : Value) (a : Act) : Prop :=
  (Region.wanted o (yielded ops a.tmps) = true ∧ ∀ w, I w → gives P (fun u w' => u = v ∧ I w') ((execOp a.eval o).run P w)) ∨
  (Region.wanted o (yielded ops a.tmps) = false ∧ v = undef)
theorem YieldsIn.wpOp {i : Nat} {o : Oper} {v : Value} {a : Act} {w : World} (hi : ops[i]? = some o) (hy : YieldsIn P ops I o v a) (hI : I w) {K : Act → World → Prop} {Q : Exit → Act → World → Prop}
    (h : ∀ w', I w' → K (a.put o.dst v) w') : wpOp P ops Q i K a w := by
  unfold Go.wpOp
  simp only [hi]
  rcases hy with ⟨hw, hv⟩ | ⟨hw, rfl⟩
  · simp only [hw, if_true]
    refine .inl ?_
    unfold Oper.wp
    exact gives_upon (R := fun u w' => u = v ∧ I w') (fun u w' hR => by obtain ⟨rfl, hI'⟩ := hR; exact h _ hI') (hv w hI)
  · simp only [hw, Bool.false_eq_true, if_false]
    exact h _ hI
theorem below_then {a b c : World} (h : RowKit.Below a.heap.size a b) (k : RowKit.Below b.heap.size b c) : RowKit.Below a.heap.size a c := h.trans (k.mono h.size)
end
end Go.Proofs.Ytgoapmjcfdbjpaa
namespace Go.Proofs.Ytgoapmjcfdbjpaa
open Go
section
variable {P : Program} {ops : Array Oper} {md : Region.Mode}
def putAll : List Oper → (Nat → Value) → Nat → Act → Act
  | [], _, _, a => a
  | o :: r, u, k, a => putAll r u (k + 1) (a.put o.dst (u k))
def slotOf (a : Act) : Option Tmp → Value
  | some d => a.tmps.getD d undef
  | none => undef
theorem put_same (a : Act) (d : Option Tmp) (v w : Value) : (a.put d v).put d w = a.put d w := by
  cases d with
  | none => rfl
  | some d => simp [Act.put]
theorem put_own (a : Act) (d : Option Tmp) : a.put d (slotOf a d) = a := by
  cases d with
  | none => rfl
  | some d =>
    unfold Act.put slotOf
    simp only
    congr 1
    apply Array.ext
    · simp
    · intro i h1 h2
      rw [Array.getElem_setIfInBounds]
      split
      · rename_i h
        subst h
        simp [Array.getD, h2]
      · rfl
def apartDsts (l : List Oper) : Prop := l.Pairwise fun x y => ∀ d, x.dst = some d → y.dst ≠ some d
theorem putAll_put : ∀ (l : List Oper) (u : Nat → Value) (k : Nat) (a : Act) (d : Option Tmp) (v : Value), (∀ o ∈ l, ∀ t, d = some t → o.dst ≠ some t) → (putAll l u k a).put d v = putAll l u k (a.put d v)
  | [], _, _, _, _, _, _ => rfl
  | o :: r, u, k, a, d, v, h => by
    show (putAll r u (k + 1) (a.put o.dst (u k))).put d v = putAll r u (k + 1) ((a.put d v).put o.dst (u k))
    rw [putAll_put r u (k + 1) _ d v (fun o' ho => h o' (List.mem_cons_of_mem _ ho)), ← Act.put_comm a v (u k) (h o (List.mem_cons_self ..))]
theorem putAll_congr : ∀ (l : List Oper) (u u' : Nat → Value) (k : Nat) (a : Act), (∀ j, k ≤ j → u j = u' j) → putAll l u k a = putAll l u' k a
  | [], _, _, _, _, _ => rfl
  | o :: r, u, u', k, a, h => by
    show putAll r u (k + 1) (a.put o.dst (u k)) = putAll r u' (k + 1) (a.put o.dst (u' k))
    rw [h k (Nat.le_refl _)]
    exact putAll_congr r u u' (k + 1) _ (fun j hj => h j (by omega))
theorem putAll_set : ∀ (l : List Oper) (u : Nat → Value) (k i : Nat) (a : Act) (o : Oper) (v : Value), apartDsts l → l[i]? = some o → (putAll l u k a).put o.dst v = putAll l (fun j => if j = k + i then v else u j) k a
  | [], _, _, _, _, _, _, _, h => by simp at h
  | x :: r, u, k, 0, a, o, v, hd, h => by
    obtain rfl : x = o := by simpa using h
    show (putAll r u (k + 1) (a.put x.dst (u k))).put x.dst v = putAll r _ (k + 1) (a.put x.dst (if k = k + 0 then v else u k))
    rw [if_pos (by omega), putAll_put r u (k + 1) _ x.dst v (fun o' ho t ht => (List.pairwise_cons.1 hd).1 o' ho t ht), put_same]
    exact putAll_congr r _ _ (k + 1) _ (fun j hj => by rw [if_neg (by omega)])
  | x :: r, u, k, i + 1, a, o, v, hd, h => by
    show (putAll r u (k + 1) (a.put x.dst (u k))).put o.dst v = putAll r _ (k + 1) (a.put x.dst (if k = k + (i + 1) then v else u k))
    rw [if_neg (by omega), putAll_set r u (k + 1) i _ o v (List.pairwise_cons.1 hd).2 (by simpa using h)]
    exact putAll_congr r _ _ (k + 1) _ (fun j _ => by simp [show k + 1 + i = k + (i + 1) by omega])
theorem putAll_own : ∀ (l : List Oper) (k : Nat) (a : Act) (u : Nat → Value), (∀ j o, l[j]? = some o → u (k + j) = slotOf a o.dst) → putAll l u k a = a
  | [], _, _, _, _ => rfl
  | x :: r, k, a, u, h => by
    show putAll r u (k + 1) (a.put x.dst (u k)) = a
    rw [show u k = slotOf a x.dst from h 0 x rfl, put_own]
    exact putAll_own r (k + 1) a u (fun j o ho => by rw [show k + 1 + j = k + (j + 1) by omega]; exact h (j + 1) o (by simpa using ho))
def unl (listed : Array Bool) : Nat → Nat
  | 0 => 0
  | n + 1 => unl listed n + if listed.getD n true = true then 0 else 1
theorem unl_set {listed : Array Bool} {i : Nat} : ∀ {n : Nat}, i < n → listed.getD i true = false → i < listed.size → unl (listed.setIfInBounds i true) n + 1 = unl listed n
  | 0, h, _, _ => by omega
  | n + 1, h, hu, hs => by
    unfold unl
    by_cases hin : i = n
    · subst hin
      rw [hu, getD_set_true_own hs]
      have : unl (listed.setIfInBounds i true) i = unl listed i := unl_far (Nat.le_refl _)
      rw [this]
      simp
    · rw [getD_set_ne true hin]
      have := unl_set (n := n) (by omega) hu hs
      omega
where
  unl_far {i : Nat} : ∀ {n : Nat}, n ≤ i → unl (listed.setIfInBounds i true) n = unl listed n
    | 0, _ => rfl
    | n + 1, h => by
      unfold unl
      rw [unl_far (n := n) (by omega), getD_set_ne true (by omega)]
  getD_set_true_own {i : Nat} (hs : i < listed.size) : (listed.setIfInBounds i true).getD i true = true := by
    simp [Array.getD, hs]
theorem unl_zero {listed : Array Bool} : ∀ {n : Nat}, unl listed n = 0 → ∀ j, j < n → listed.getD j true = true
  | 0, _, j, h => by omega
  | n + 1, h0, j, h => by
    unfold unl at h0
    by_cases hj : j = n
    · subst hj
      by_cases hl : listed.getD j true = true
      · exact hl
      · rw [if_neg hl] at h0; omega
    · exact unl_zero (n := n) (by omega) j (by omega)
theorem unl_least {listed : Array Bool} {n : Nat} (hu : unl listed n ≠ 0) : ∃ i, i < n ∧ listed.getD i true = false ∧ ∀ j, j < i → listed.getD j true = true := by
  induction n with
  | zero => exact absurd rfl hu
  | succ n ih =>
    by_cases h : unl listed n = 0
    · refine ⟨n, by omega, ?_, unl_zero h⟩
      unfold unl at hu
      rw [h] at hu
      cases hl : listed.getD n true with
      | false => rfl
      | true => rw [hl] at hu; simp at hu
    · obtain ⟨i, hi, h1, h2⟩ := ih h
      exact ⟨i, by omega, h1, h2⟩
theorem getD_false {listed : Array Bool} {i : Nat} (hi : i < listed.size) (h : listed.getD i true = true) : listed.getD i false = true := by
  simp [Array.getD, hi] at h ⊢
  exact h
theorem ready_ex {n : Nat} {listed : Array Bool} (inv : HeadInv md ops n listed) (hback : ∀ i o, ops[i]? = some o → ∀ e ∈ o.after, Region.binds md e = true → e.on < i) (hn : n ≤ ops.size) (hu : unl listed n ≠ 0) :
    ∃ i, i < n ∧ listed.getD i true = false ∧ i ∈ Region.ready md ops listed := by
  obtain ⟨i, hi, h1, h2⟩ := unl_least hu
  refine ⟨i, hi, h1, mem_ready.2 ⟨h1, ops[i]'(by omega), by simp, fun e he hb => ?_⟩⟩
  have h3 := hback i _ (by simp) e he hb
  exact getD_false (by rw [inv.size]; omega) (h2 _ h3)
def canon (n m : Nat) : Array Bool := (Array.range m).map fun j => decide (j < n)
theorem eq_canon {n : Nat} {listed : Array Bool} (inv : HeadInv md ops n listed) (hu : unl listed n = 0) : listed = canon n ops.size := by
  apply Array.ext
  · simp [canon, inv.size]
  · intro i h1 h2
    have h3 : (canon n ops.size)[i] = decide (i < n) := by simp [canon]
    rw [h3]
    by_cases h : i < n
    · have := unl_zero hu i h
      simp [Array.getD, h1] at this
      simp [this, h]
    · have := inv.tail i (by omega) (by rw [← inv.size]; exact h1)
      simp [Array.getD, h1] at this
      simp [this, h]
def upd (u : Nat → Value) (i : Nat) (v : Value) : Nat → Value := fun j => if j = i then v else u j
theorem wpAny_rel {n g : Nat} {hs : List Oper} {a0 : Act} {I : World → Prop} {R : Nat → (Nat → Value) → World → Prop} {deps : Nat → List Nat} {Q : Exit → Act → World → Prop}
    (hops : ∀ j, j < n → hs[j]? = ops[j]?) (hn : n < ops.size) (hap : apartDsts hs)
    (hs1 : Region.sinkB md ops n = true) (hc1 : Region.chainB md ops n = true)
    (hback : ∀ i o, ops[i]? = some o → ∀ e ∈ o.after, Region.binds md e = true → e.on < i)
    (hdeps : ∀ i o, hs[i]? = some o → ∀ j ∈ deps i, j < n ∧ ∃ e ∈ o.after, Region.binds md e = true ∧ e.on = j)
    (hloc : ∀ j u u' w, (∀ k, (k = j ∨ k ∈ deps j) → u k = u' k) → R j u w → R j u' w)
    (obl : ∀ i o, hs[i]? = some o → ∀ (u : Nat → Value) w, I w → (∀ j ∈ deps i, R j u w) →
      (Region.wanted o (yielded ops (putAll hs u 0 a0).tmps) = true ∧ gives P (fun v w' => R i (upd u i v) w' ∧ I w' ∧ ∀ j u, j ≠ i → R j u w → R j u w') ((execOp (putAll hs u 0 a0).eval o).run P w)) ∨
      (Region.wanted o (yielded ops (putAll hs u 0 a0).tmps) = false ∧ R i (upd u i undef) w))
    (hend : ∀ (u : Nat → Value) w, I w → (∀ j, j < n → R j u w) → wpAny P md ops Q g (canon n ops.size) (putAll hs u 0 a0) w) :
    ∀ (f : Nat) (listed : Array Bool) (u : Nat → Value) (w : World), unl listed n = f → HeadInv md ops n listed → I w → (∀ j, j < n → listed.getD j false = true → R j u w) →
      wpAny P md ops Q (f + g) listed (putAll hs u 0 a0) w := by
  intro f
  induction f with
  | zero =>
    intro listed u w hf inv hI hR
    rw [Nat.zero_add, eq_canon inv hf]
    refine hend u w hI fun j hj => hR j hj (getD_false (by rw [inv.size]; omega) (unl_zero hf j hj))
  | succ f ih =>
    intro listed u w hf inv hI hR
    obtain ⟨k, hk, hku, hkr⟩ := ready_ex inv hback (by omega) (by omega)
    rw [show f + 1 + g = (f + g) + 1 by omega]
    refine ⟨fun h => (by rw [h] at hkr; cases hkr), fun i hi => ?_⟩
    have hin : i < n := by
      rcases Nat.lt_or_ge i n with h | h
      · exact h
      · exact absurd hi (tail_waits hs1 hc1 hn inv _ k rfl hk hku i h)
    obtain ⟨hiu, o, ho, hall⟩ := mem_ready.1 hi
    have ho' : hs[i]? = some o := (hops i hin).trans ho
    have hRd : ∀ j ∈ deps i, R j u w := fun j hj => by
      obtain ⟨hjn, e, he, hb, hon⟩ := hdeps i o ho' j hj
      exact hR j hjn (by rw [← hon]; exact hall e he hb)
    have next : ∀ v w', R i (upd u i v) w' → I w' → (∀ j u, j ≠ i → R j u w → R j u w') → wpAny P md ops Q (f + g) (listed.setIfInBounds i true) ((putAll hs u 0 a0).put o.dst v) w' := fun v w' hv hI' hst => by
      rw [putAll_set hs u 0 i a0 o v hap ho']
      have hil : i < listed.size := by rw [inv.size]; omega
      refine ih _ _ w' (by have := unl_set hin hiu hil; omega) (inv.set hi hin) hI' fun j hj hl => ?_
      have hup : (fun j => if j = 0 + i then v else u j) = upd u i v := by funext j; simp [upd]
      rw [hup]
      by_cases hji : j = i
      · subst hji; exact hv
      · rw [getD_set_ne false (fun h => hji h.symm)] at hl
        refine hloc j u _ w' (fun q hq => ?_) (hst _ _ hji (hR j hj hl))
        unfold upd
        rw [if_neg ?_]
        rintro rfl
        rcases hq with rfl | hq
        · exact hji rfl
        · have hjo : ∃ oj, hs[j]? = some oj := by
            have hlen := hops j hj
            have : j < ops.size := by omega
            exact ⟨ops[j], by rw [hlen]; simp [this]⟩
          obtain ⟨oj, hoj⟩ := hjo
          obtain ⟨_, e, he, hb, hon⟩ := hdeps j oj hoj q hq
          have h1 := inv.closed j oj ((hops j hj).symm.trans hoj) hl e he hb
          rw [hon, getD_both hiu] at h1
          cases h1
    unfold wpOp
    simp only [ho]
    rcases obl i o ho' u w hI hRd with ⟨hw, hg⟩ | ⟨hw, hv⟩
    · rw [if_pos hw]
      refine .inl ?_
      unfold Oper.wp
      exact gives_upon (R := fun v w' => R i (upd u i v) w' ∧ I w' ∧ ∀ j u, j ≠ i → R j u w → R j u w') (fun v w' h => next v w' h.1 h.2.1 h.2.2) hg
    · rw [if_neg (by rw [hw]; simp)]
      exact next undef w hv hI (fun _ _ _ h => h)
def relB (md : Region.Mode) (l : List Oper) (n : Nat) (deps : Nat → List Nat) : Bool :=
  decide (n < l.length) && Region.sinkB md l.toArray n && Region.chainB md l.toArray n &&
  ((List.range l.length).all fun i => match l[i]? with | some o => o.after.all fun e => !Region.binds md e || decide (e.on < i) | none => true) &&
  ((List.range n).all fun i => (List.range i).all fun j => match l[i]?, l[j]? with | some x, some y => (match y.dst with | some d => x.dst != some d | none => true) | _, _ => true) &&
  ((List.range n).all fun i => match l[i]? with | some o => (deps i).all fun j => decide (j < n) && o.after.any fun e => Region.binds md e && e.on == j | none => true) &&
  Region.seqB md l.toArray (l.length - n) n (canon n l.length)
theorem wp_region_rel {id : Nat} {Q : Exit → Act → World → Prop} {a : Act} {w : World} {l : List Oper} (n : Nat) (I : World → Prop) (R : Nat → (Nat → Value) → World → Prop) (deps : Nat → List Nat)
    (hm : P.follows .mixedOrders = true) (hB : relB .any l n deps = true) (hloc : ∀ j u u' w, (∀ k, (k = j ∨ k ∈ deps j) → u k = u' k) → R j u w → R j u' w) (hI : I w.drew)
    (obl : ∀ i o, (l.take n)[i]? = some o → ∀ (u : Nat → Value) w, I w → (∀ j ∈ deps i, R j u w) →
      (Region.wanted o (yielded l.toArray (putAll (l.take n) u 0 a).tmps) = true ∧ gives P (fun v w' => R i (upd u i v) w' ∧ I w' ∧ ∀ j u, j ≠ i → R j u w → R j u w') ((execOp (putAll (l.take n) u 0 a).eval o).run P w)) ∨
      (Region.wanted o (yielded l.toArray (putAll (l.take n) u 0 a).tmps) = false ∧ R i (upd u i undef) w))
    (htail : ∀ (u : Nat → Value) w, I w → (∀ j, j < n → R j u w) → wpList P l.toArray Q (l.drop n) (putAll (l.take n) u 0 a) w) : (Code.region id l.toArray true).wp P Q a w := by
  simp only [relB, Bool.and_eq_true, decide_eq_true_eq, List.all_eq_true, List.mem_range] at hB
  obtain ⟨⟨⟨⟨⟨⟨hn, hs1⟩, hc1⟩, hback⟩, hap⟩, hdeps⟩, hseq⟩ := hB
  have hsz : l.toArray.size = l.length := by simp
  refine wp_region_any hm ?_
  have hown : putAll (l.take n) (fun j => slotOf a (((l.take n)[j]?).bind (·.dst))) 0 a = a := putAll_own _ 0 a _ fun j o ho => by simp only [Nat.zero_add]; rw [ho]; rfl
  have hu0 : unl (Array.replicate l.toArray.size false) n = n := by
    have key : ∀ m, m ≤ l.length → unl (Array.replicate l.toArray.size false) m = m := by
      intro m
      induction m with
      | zero => intro _; rfl
      | succ m ih =>
        intro h
        unfold unl
        rw [ih (by omega), if_neg (by simp [Array.getD, show m < l.length by omega])]
    exact key n (by omega)
  have inv0 : HeadInv .any l.toArray n (Array.replicate l.toArray.size false) :=
    ⟨by simp, fun j oj _ hl => (by rw [getD_replicate_false] at hl; cases hl), fun t _ ht => getD_in (by simpa using ht) (getD_replicate_false _ _)⟩
  have H := wpAny_rel (P := P) (ops := l.toArray) (md := .any) (n := n) (g := l.length - n) (hs := l.take n) (a0 := a) (I := I) (R := R) (deps := deps) (Q := Q)
    (fun j hj => by simp [List.getElem?_take_of_lt hj]) (by simpa using hn)
    (List.pairwise_iff_getElem.2 fun i j hi hj hij d hd => by
      have hi' : i < l.length := by simp at hi; omega
      have hj' : j < l.length := by simp at hj; omega
      have hjn : j < n := by simp at hj; omega
      have := hap j hjn i hij
      rw [List.getElem?_eq_getElem hj', List.getElem?_eq_getElem hi'] at this
      simp only [List.getElem_take] at hd ⊢
      simp only [hd] at this
      simpa using this)
    hs1 hc1
    (fun i o ho e he hb => by
      have ho' : l[i]? = some o := by simpa using ho
      have hil : i < l.length := (List.getElem?_eq_some_iff.1 ho').1
      have := hback i hil
      rw [ho'] at this
      have := Array.all_eq_true'.1 this e he
      simpa [hb] using this)
    (fun i o ho j hj => by
      have hin : i < n := by have := (List.getElem?_eq_some_iff.1 ho).1; simp at this; omega
      have ho' : l[i]? = some o := by rw [List.getElem?_take_of_lt hin] at ho; exact ho
      have := hdeps i hin
      rw [ho'] at this
      have := List.all_eq_true.1 this j hj
      simp only [Bool.and_eq_true, decide_eq_true_eq] at this
      obtain ⟨e, he, hb⟩ := Array.any_eq_true'.1 this.2
      simp only [Bool.and_eq_true, beq_iff_eq] at hb
      exact ⟨this.1, e, he, hb.1, hb.2⟩)
    hloc obl
    (fun u w' hI' hR => by
      have := wpAny_of_seq (md := .any) (Q' := Q) (l.drop n) n (canon n l.toArray.size) (putAll (l.take n) u 0 a) w' (fun j => by simp [List.getElem?_drop]) (by rw [List.length_drop, hsz]; exact hseq) (htail u w' hI' hR)
      rwa [List.length_drop] at this)
    n (Array.replicate l.toArray.size false) (fun j => slotOf a (((l.take n)[j]?).bind (·.dst))) w.drew hu0 inv0 hI (fun j _ hl => by rw [getD_replicate_false] at hl; cases hl)
  rw [hown, show n + (l.length - n) = l.length by omega] at H
  rw [hsz]
  exact H
def mask (ds : List Nat) (j : Nat) (u : Nat → Value) : Nat → Value := fun k => if k = j ∨ k ∈ ds then u k else undef
theorem mask_congr {ds : List Nat} {j : Nat} {u u' : Nat → Value} (h : ∀ k, (k = j ∨ k ∈ ds) → u k = u' k) : mask ds j u = mask ds j u' := by
  funext k
  unfold mask
  split
  · rename_i hk; exact h k hk
  · rfl
def relObl (P : Program) (ops : Array Oper) (W : World) (R : Nat → (Nat → Value) → World → Prop) (deps : Nat → List Nat) (hs : List Oper) (a0 : Act) : List Oper → Nat → Prop
  | [], _ => True
  | o :: r, i => (∀ (u : Nat → Value) w, RowKit.Below W.heap.size W w → (∀ j ∈ deps i, R j (mask (deps j) j u) w) →
      (Region.wanted o (yielded ops (putAll hs u 0 a0).tmps) = true ∧ gives P (fun v w' => R i (mask (deps i) i (upd u i v)) w' ∧ RowKit.Below w.heap.size w w') ((execOp (putAll hs u 0 a0).eval o).run P w)) ∨
      (Region.wanted o (yielded ops (putAll hs u 0 a0).tmps) = false ∧ R i (mask (deps i) i (upd u i undef)) w)) ∧ relObl P ops W R deps hs a0 r (i + 1)
theorem relObl_get {W : World} {R : Nat → (Nat → Value) → World → Prop} {deps : Nat → List Nat} {hs : List Oper} {a0 : Act} : ∀ (l : List Oper) (k : Nat), relObl P ops W R deps hs a0 l k → ∀ j o, l[j]? = some o →
    (∀ (u : Nat → Value) w, RowKit.Below W.heap.size W w → (∀ i ∈ deps (k + j), R i (mask (deps i) i u) w) →
      (Region.wanted o (yielded ops (putAll hs u 0 a0).tmps) = true ∧ gives P (fun v w' => R (k + j) (mask (deps (k + j)) (k + j) (upd u (k + j) v)) w' ∧ RowKit.Below w.heap.size w w') ((execOp (putAll hs u 0 a0).eval o).run P w)) ∨
      (Region.wanted o (yielded ops (putAll hs u 0 a0).tmps) = false ∧ R (k + j) (mask (deps (k + j)) (k + j) (upd u (k + j) undef)) w))
  | [], _, _, j, o, h => by simp at h
  | x :: r, k, h, j, o, ho => by
    cases j with
    | zero =>
      simp only [List.getElem?_cons_zero, Option.some.injEq] at ho
      subst ho
      exact h.1
    | succ j =>
      have := relObl_get r (k + 1) h.2 j o (by simpa using ho)
      rw [show k + 1 + j = k + (j + 1) by omega] at this
      exact this
theorem gives_mono {P : Program} {R R' : Value → World → Prop} (h : ∀ v w, R v w → R' v w) : ∀ {r : Result Next}, gives P R r → gives P R' r
  | .ok (.value _) _, hr => h _ _ hr
  | .ok .skip _, hr => h _ _ hr
  | .ok (.enter _ _) _, hr => Calls.mono hr fun _ _ ⟨v, h1, h2⟩ => ⟨v, h1, h _ _ h2⟩
theorem wp_region_relB {id : Nat} {Q : Exit → Act → World → Prop} {a : Act} {w : World} {l : List Oper} (n : Nat) (R : Nat → (Nat → Value) → World → Prop) (deps : Nat → List Nat)
    (hm : P.follows .mixedOrders = true) (hB : relB .any l n deps = true) (hst : ∀ j u w w', RowKit.Below w.heap.size w w' → R j u w → R j u w')
    (obl : relObl P l.toArray w.drew R deps (l.take n) a (l.take n) 0)
    (htail : ∀ (u : Nat → Value) w', RowKit.Below w.drew.heap.size w.drew w' → (∀ j, j < n → R j (mask (deps j) j u) w') → wpList P l.toArray Q (l.drop n) (putAll (l.take n) u 0 a) w') : (Code.region id l.toArray true).wp P Q a w := by
  refine wp_region_rel n (fun w' => RowKit.Below w.drew.heap.size w.drew w') (fun j u w => R j (mask (deps j) j u) w) deps hm hB (fun j u u' w h hR => by rw [← mask_congr h]; exact hR) (RowKit.Below.refl _ _) (fun i o ho u w' hI hd => ?_) htail
  have h := relObl_get (l.take n) 0 obl i o ho u w' hI (by rw [Nat.zero_add]; exact hd)
  rw [Nat.zero_add] at h
  rcases h with ⟨h1, h2⟩ | h
  · exact .inl ⟨h1, gives_mono (fun v w'' ⟨g1, g2⟩ => ⟨g1, below_then hI g2, fun j u _ hj => hst j _ _ _ g2 hj⟩) h2⟩
  · exact .inr h
def owes (P : Program) (ops : Array Oper) (Ri : Value → World → Prop) (A : Act) (o : Oper) (w : World) : Prop :=
  (Region.wanted o (yielded ops A.tmps) = true ∧ gives P (fun v w' => Ri v w' ∧ RowKit.Below w.heap.size w w') ((execOp A.eval o).run P w)) ∨ (Region.wanted o (yielded ops A.tmps) = false ∧ Ri undef w)
theorem owes_here {Ri : Value → World → Prop} {A : Act} {o : Oper} {w : World} (v : Value) (hg : o.guard = none) (h : (execOp A.eval o).run P w = .ok (.value v) w) (hR : Ri v w) : owes P ops Ri A o w :=
  .inl ⟨by simp [Region.wanted, hg], by rw [h]; exact ⟨hR, RowKit.Below.refl _ _⟩⟩
theorem owes_call {Ri : Value → World → Prop} {A : Act} {o : Oper} {w : World} (f : FuncId) (args : Array Value) (hg : o.guard = none) (h : (execOp A.eval o).run P w = .ok (.enter f args) w)
    (hc : Calls P f args w fun e w' => ∃ v, e = .returned v ∧ Ri v w' ∧ RowKit.Below w.heap.size w w') : owes P ops Ri A o w :=
  .inl ⟨by simp [Region.wanted, hg], by rw [h]; exact hc⟩
theorem owes_makes {Ri : Value → World → Prop} {A : Act} {o : Oper} {w w' : World} (v : Value) (hg : o.guard = none) (h : (execOp A.eval o).run P w = .ok (.value v) w') (hR : Ri v w') (hb : RowKit.Below w.heap.size w w') : owes P ops Ri A o w :=
  .inl ⟨by simp [Region.wanted, hg], by rw [h]; exact ⟨hR, hb⟩⟩
def owesK (P : Program) (ops : Array Oper) (Ri : Value → World → Prop) (Ki : World → World → Prop) (A : Act) (o : Oper) (w : World) : Prop :=
  (Region.wanted o (yielded ops A.tmps) = true ∧ gives P (fun v w' => Ri v w' ∧ Ki w w') ((execOp A.eval o).run P w)) ∨ (Region.wanted o (yielded ops A.tmps) = false ∧ Ri undef w)
theorem owesK_here {Ri : Value → World → Prop} {Ki : World → World → Prop} {A : Act} {o : Oper} {w : World} (v : Value) (hg : o.guard = none) (h : (execOp A.eval o).run P w = .ok (.value v) w) (hR : Ri v w) (hk : Ki w w) : owesK P ops Ri Ki A o w :=
  .inl ⟨by simp [Region.wanted, hg], by rw [h]; exact ⟨hR, hk⟩⟩
theorem owesK_makes {Ri : Value → World → Prop} {Ki : World → World → Prop} {A : Act} {o : Oper} {w w' : World} (v : Value) (hg : o.guard = none) (h : (execOp A.eval o).run P w = .ok (.value v) w') (hR : Ri v w') (hk : Ki w w') : owesK P ops Ri Ki A o w :=
  .inl ⟨by simp [Region.wanted, hg], by rw [h]; exact ⟨hR, hk⟩⟩
end
end Go.Proofs.Ytgoapmjcfdbjpaa
namespace Go.Proofs.Ytgoapmjcfdbjpaa
open Go.RowKit
structure Touch (g : Nat) (w W : World) : Prop where
  os : W.os = w.os
  tape : W.tape = w.tape
  output : W.output = w.output
  size : W.heap.size = w.heap.size
  other : ∀ b, b ≠ g → W.heap[b]? = w.heap[b]?
section
variable {g B : Nat} {a w W : World}
theorem Touch.below (h : Touch g w W) (hb : Below B a w) (hg : B ≤ g) : Below B a W :=
  hb.trans ⟨h.os, h.tape, h.output, by rw [h.size]; exact Nat.le_refl _, fun k hk => h.other k (by omega)⟩
theorem Touch.block (h : Touch g w W) {b : Nat} {x : Obj} (hx : w.heap[b]? = some x) (hne : b ≠ g) : W.heap[b]? = some x := (h.other b hne).trans hx
theorem below_block (h : Below w.heap.size w W) {b : Nat} {x : Obj} (hx : w.heap[b]? = some x) : W.heap[b]? = some x := by
  have hb : b < w.heap.size := by
    rcases Nat.lt_or_ge b w.heap.size with h1 | h1
    · exact h1
    · rw [Array.getElem?_eq_none h1] at hx; cases hx
  exact (h.block b hb).trans hx
theorem touch_setRow (w : World) (g : Nat) (cs : Array Value) : Touch g w (w.setRow g cs) := ⟨rfl, rfl, rfl, by simp, fun b hb => setRow_other w g b cs hb⟩
theorem OwnAt.touch {α : Type} {R : Rd α} {k : Nat} {e : TypeId} {v : Value} {l : List α} (hf : Flat R) (h : OwnAt R k w B e v l) (ht : Touch g w W) (hne : ∀ q, v.ownBlock = some q → q ≠ g) : OwnAt R k W B e v l := by
  obtain ⟨css, h1, h2, h3, h4⟩ := h
  refine ⟨css, h1, h2, ⟨h3.1, ?_⟩, fun j cs y hcs hy => hf _ _ _ _ (h4 j cs y hcs hy)⟩
  rcases h3.2 with h5 | ⟨q, cap, cur, rfl, hB, hh, hr⟩
  · exact .inl h5
  · exact .inr ⟨q, cap, cur, rfl, hB, (ht.other q (hne q rfl)).trans hh, hr⟩
end
section
variable {P : Program} {ops : Array Oper} {rest : List Oper} {o : Oper} {a : Act} {w : World} {Q : Exit → Act → World → Prop}
theorem touch_setCell {g i : Nat} {cs : Array Value} {t : TypeId} {v : Value} (hg : w.heap[g]? = some (.cells cs t (0, 0))) : (w.setCell ⟨g, i, none⟩ v).heap[g]? = some (.cells (cs.setIfInBounds i v) t (0, 0)) ∧ Touch g w (w.setCell ⟨g, i, none⟩ v) := by
  rw [setCell_eq_setRow w g i cs t (0, 0) v hg]
  exact ⟨setRow_heap w g _ _ t _ hg, touch_setRow w g _⟩
end
end Go.Proofs.Ytgoapmjcfdbjpaa
namespace Go.Proofs.Ytgoapmjcfdbjpaa
open Go.RowKit
end Go.Proofs.Ytgoapmjcfdbjpaa
namespace Go.Proofs.Ytgoapmjcfdbjpaa
open Go.RowKit
def QAt {α : Type} (enc : α → Value) (e : TypeId) (w : World) (B : Nat) (v : Value) (l : List α) : Prop :=
  (v = .slice none 0 0 ∧ l = []) ∨
  ∃ b o c cur, v = .slice (some ⟨b, o, none⟩) l.length c ∧ B ≤ b ∧ w.heap[b]? = some (.cells cur e (0, 0)) ∧ o + c ≤ cur.size ∧ l.length ≤ c ∧ c ≤ maxLen ∧ ∀ (j : Nat) x, l[j]? = some x → cur[o + j]? = some (enc x)
section
variable {α : Type} {enc : α → Value} {e : TypeId} {w w' : World} {B : Nat} {v : Value} {l : List α}
theorem QAt.nil (enc : α → Value) (e : TypeId) (w : World) (B : Nat) : QAt enc e w B (.slice none 0 0) [] := .inl ⟨rfl, rfl⟩
theorem QAt.keep (h : QAt enc e w B v l) (hk : ∀ b, v.ownBlock = some b → w'.heap[b]? = w.heap[b]?) : QAt enc e w' B v l := by
  rcases h with h | ⟨b, o, c, cur, rfl, hB, hh, r⟩
  · exact .inl h
  · exact .inr ⟨b, o, c, cur, rfl, hB, (hk b rfl).trans hh, r⟩
theorem QAt.at (h : QAt enc e w B v l) {b : Nat} (hb : v.ownBlock = some b) : B ≤ b ∧ b < w.heap.size ∧ ∃ cur, w.heap[b]? = some (.cells cur e (0, 0)) := by
  rcases h with ⟨rfl, _⟩ | ⟨b', o, c, cur, rfl, hB, hh, r⟩
  · cases hb
  · simp [Value.ownBlock] at hb
    subst hb
    exact ⟨hB, (Array.getElem?_eq_some_iff.1 hh).1, cur, hh⟩
theorem QAt.below (h : QAt enc e w B v l) (hb : Below w.heap.size w w') : QAt enc e w' B v l := h.keep fun _ hq => hb.block _ (h.at hq).2.1
theorem QAt.len (h : QAt enc e w B v l) : ∃ a c, v = .slice a l.length c ∧ l.length ≤ c ∧ c ≤ maxLen := by
  rcases h with ⟨rfl, rfl⟩ | ⟨b, o, c, cur, rfl, _, _, _, h1, h2, _⟩
  · exact ⟨_, _, rfl, Nat.le_refl _, Nat.zero_le _⟩
  · exact ⟨_, _, rfl, h1, h2⟩
theorem QAt.one {b : Nat} {x : α} (hb : w.heap[b]? = some (.cells #[enc x] e (0, 0))) (hB : B ≤ b) : QAt enc e w B (.slice (some ⟨b, 0, none⟩) 1 1) [x] := by
  refine .inr ⟨b, 0, 1, _, rfl, hB, hb, by simp, by simp, by unfold maxLen; omega, fun j y hy => ?_⟩
  match j, hy with
  | 0, hy => simp at hy; subst hy; rfl
  | j + 1, hy => simp at hy
end
section
variable {P : Program} {α : Type} {enc : α → Value} {e : TypeId} {w : World} {B : Nat} {v : Value} {l : List α} {ops : Array Oper} {rest : List Oper} {o : Oper} {a : Act} {Q : Exit → Act → World → Prop}
end
end Go.Proofs.Ytgoapmjcfdbjpaa
namespace Go.Proofs.Ytgoapmjcfdbjpaa
open Go.RowKit
theorem setCells_all (g : Nat) (t : TypeId) : ∀ (vs : List Value) (i : Nat) (cur : Array Value) (w : World), w.heap[g]? = some (.cells cur t (0, 0)) → i + vs.length ≤ cur.size →
    ∃ cur', (w.setCells g i vs).heap[g]? = some (.cells cur' t (0, 0)) ∧ cur'.size = cur.size ∧ (∀ j, j < i ∨ i + vs.length ≤ j → cur'[j]? = cur[j]?) ∧ (∀ j u, vs[j]? = some u → cur'[i + j]? = some u) ∧ Touch g w (w.setCells g i vs)
  | [], i, cur, w, hg, _ => ⟨cur, hg, rfl, fun _ _ => rfl, fun j u h => by simp at h, ⟨rfl, rfl, rfl, rfl, fun _ _ => rfl⟩⟩
  | v :: r, i, cur, w, hg, hl => by
    simp only [List.length_cons] at hl
    obtain ⟨h1, h2⟩ := touch_setCell (w := w) (i := i) (v := v) hg
    obtain ⟨cur', g1, g2, g3, g4, g5⟩ := setCells_all g t r (i + 1) _ _ h1 (by simp; omega)
    refine ⟨cur', g1, by simpa using g2, fun j hj => ?_, fun j u hu => ?_, ?_⟩
    · simp only [List.length_cons] at hj
      rw [g3 j (by omega), Array.getElem?_setIfInBounds, if_neg (by omega)]
    · cases j with
      | zero =>
        simp only [List.getElem?_cons_zero, Option.some.injEq] at hu
        subst hu
        rw [Nat.add_zero, g3 i (by omega), Array.getElem?_setIfInBounds, if_pos rfl, if_pos (by omega)]
      | succ j =>
        have := g4 j u (by simpa using hu)
        rwa [show i + 1 + j = i + (j + 1) by omega] at this
    · show Touch g w ((w.setCell ⟨g, i, none⟩ v).setCells g (i + 1) r)
      exact ⟨g5.os.trans h2.os, g5.tape.trans h2.tape, g5.output.trans h2.output, g5.size.trans h2.size, fun b hb => (g5.other b hb).trans (h2.other b hb)⟩
section
variable {α : Type} {R : Rd α} {k B : Nat} {e : TypeId} {w : World} {g n c : Nat} {l : List α}
theorem OwnAt.there (h : OwnAt R k w B e (.slice (some ⟨g, 0, none⟩) n c) l) {o m : Nat} (hm : o + m ≤ c * k) : w.there g o m := by
  obtain ⟨css, h1, h2, h3, h4⟩ := h
  rcases h3.2 with ⟨h5, _⟩ | ⟨g', cap, cur, hv, hB, hh, hle, hmx, hz, ht⟩
  · cases h5
  · cases hv
    intro j hj
    refine ⟨?_, free_block hh _⟩
    rw [cell_block hh, Array.getElem?_eq_getElem (by omega)]
    rfl
theorem OwnAt.storeElem (hf : Flat R) (h : OwnAt R k w B e (.slice (some ⟨g, 0, none⟩) n c) l) {i : Nat} (hi : i < l.length) {cs : List Value} (hk : cs.length = k) {x : α} (hR : R w cs x) :
    OwnAt R k (w.setCells g (i * k) cs) B e (.slice (some ⟨g, 0, none⟩) n c) (l.set i x) ∧ Touch g w (w.setCells g (i * k) cs) := by
  obtain ⟨css, h1, h2, h3, h4⟩ := h
  rcases h3.2 with ⟨h5, _⟩ | ⟨g', cap, cur, hv, hB, hh, hle, hmx, hz, ht⟩
  · cases h5
  · have hlen : css.flatten.length = l.length * k := by rw [flat_len h2, h1]
    cases hv
    have hik : i * k + k ≤ l.length * k := by rw [← Nat.succ_mul]; exact Nat.mul_le_mul_right k hi
    have hlc : l.length * k ≤ c * k := Nat.mul_le_mul_right k hle
    obtain ⟨cur', g1, g2, g3, g4, g5⟩ := setCells_all g e cs (i * k) cur w hh (by rw [hk, hz]; omega)
    have hk2 : ∀ q ∈ css.set i cs, q.length = k := fun q hq => by
      rcases List.mem_or_eq_of_mem_set hq with h6 | h6
      · exact h2 q h6
      · rw [h6]; exact hk
    have hfl : ∀ t, t < l.length * k → cur'[t]? = (css.set i cs).flatten[t]? := fun t htl => by
      have hk0 : 0 < k := by
        rcases Nat.eq_zero_or_pos k with h0 | h0
        · subst h0; simp at htl
        · exact h0
      have hdm : t = t / k * k + t % k := by rw [Nat.mul_comm]; exact (Nat.div_add_mod t k).symm
      have hmod : t % k < k := Nat.mod_lt _ hk0
      have hdiv : t / k < css.length := by rw [h1]; exact (Nat.div_lt_iff_lt_mul hk0).2 htl
      by_cases hti : t / k = i
      · have hu : cs[t % k]? = some (cs[t % k]'(by omega)) := List.getElem?_eq_getElem _
        have e1 := get_flat hk2 (j := i) (i := t % k) (cs := cs) (by rw [List.getElem?_set, if_pos rfl, if_pos (by omega)]) hu
        have e2 := g4 (t % k) _ hu
        rw [← hti, ← hdm] at e2
        rw [← hti, ← hdm] at e1
        rw [hti] at e1
        rw [e2, e1]
      · have hq : css[t / k]? = some css[t / k] := List.getElem?_eq_getElem hdiv
        have hu : (css[t / k])[t % k]? = some ((css[t / k])[t % k]'(by rw [h2 _ (List.getElem_mem _)]; exact hmod)) := List.getElem?_eq_getElem _
        have e1 := get_flat hk2 (j := t / k) (i := t % k) (by rw [List.getElem?_set, if_neg (fun h => hti h.symm)]; exact hq) hu
        have e3 := get_flat h2 (j := t / k) (i := t % k) hq hu
        rw [← hdm] at e1 e3
        have hout : t < i * k ∨ i * k + cs.length ≤ t := by
          rw [hk]
          rcases Nat.lt_or_gt_of_ne hti with h7 | h7
          · left
            have : (t / k + 1) * k ≤ i * k := Nat.mul_le_mul_right k h7
            rw [Nat.succ_mul] at this; omega
          · right
            have : (i + 1) * k ≤ t / k * k := Nat.mul_le_mul_right k h7
            rw [Nat.succ_mul] at this; omega
        rw [g3 t hout, e1, ← e3, ← ht, List.getElem?_take_of_lt htl, Array.getElem?_toList]
    refine ⟨⟨css.set i cs, by simp [h1], hk2, ?_, fun j q y hq hy => ?_⟩, g5⟩
    · rw [List.length_set]
      refine ⟨by rw [flat_len hk2, List.length_set, h1], .inr ⟨g, c, cur', rfl, hB, g1, hle, hmx, by rw [g2]; exact hz, ?_⟩⟩
      apply List.ext_getElem?
      intro t
      by_cases htl : t < l.length * k
      · rw [List.getElem?_take_of_lt htl, Array.getElem?_toList, hfl t htl]
      · rw [List.getElem?_eq_none (by rw [List.length_take]; omega), List.getElem?_eq_none (by rw [flat_len hk2, List.length_set, h1]; omega)]
    · by_cases hij : i = j
      · subst hij
        rw [List.getElem?_set, if_pos rfl, if_pos (by omega)] at hq
        rw [List.getElem?_set, if_pos rfl, if_pos hi] at hy
        cases hq; cases hy
        exact hf _ _ _ _ hR
      · rw [List.getElem?_set, if_neg hij] at hq hy
        exact hf _ _ _ _ (h4 j q y hq hy)
theorem OwnAt.behind (hf : Flat R) (h : OwnAt R k w B e (.slice (some ⟨g, 0, none⟩) n c) l) {i : Nat} (hi : i ≤ l.length) {vs : List Value} (hvs : i * k + vs.length ≤ c * k) :
    OwnAt R k (w.setCells g (i * k) vs) B e (.slice (some ⟨g, 0, none⟩) i c) (l.take i) ∧ Touch g w (w.setCells g (i * k) vs) := by
  obtain ⟨css, h1, h2, h3, h4⟩ := h
  rcases h3.2 with ⟨h5, _⟩ | ⟨g', cap, cur, hv, hB, hh, hle, hmx, hz, ht⟩
  · cases h5
  · cases hv
    obtain ⟨cur', g1, g2, g3, g4, g5⟩ := setCells_all g e vs (i * k) cur w hh (by rw [hz]; exact hvs)
    have hik : i * k ≤ l.length * k := Nat.mul_le_mul_right k hi
    have hlk : (l.take i).length = i := by rw [List.length_take]; omega
    have hk2 : ∀ q ∈ css.take i, q.length = k := fun q hq => h2 q (List.mem_of_mem_take hq)
    have hfl : (css.take i).flatten.length = i * k := by rw [flat_len hk2, List.length_take, h1]; congr 1; omega
    have hpre : (css.take i).flatten = css.flatten.take (i * k) := by
      have h7 : css.flatten = (css.take i).flatten ++ (css.drop i).flatten := by rw [← List.flatten_append, List.take_append_drop]
      rw [h7, ← hfl, List.take_left]
    refine ⟨⟨css.take i, by rw [List.length_take, List.length_take, h1], hk2, ?_, fun j q y hq hy => ?_⟩, g5⟩
    · rw [hlk]
      refine ⟨hfl, .inr ⟨g, c, cur', rfl, hB, g1, by omega, hmx, by rw [g2]; exact hz, ?_⟩⟩
      rw [hpre, ← ht]
      apply List.ext_getElem?
      intro t
      by_cases htl : t < i * k
      · rw [List.getElem?_take_of_lt htl, Array.getElem?_toList, g3 t (.inl htl), List.getElem?_take_of_lt htl, List.getElem?_take_of_lt (by omega), Array.getElem?_toList]
      · rw [List.getElem?_eq_none (by rw [List.length_take]; omega), List.getElem?_eq_none (by rw [List.length_take]; omega)]
    · have hj : j < i := by have := (List.getElem?_eq_some_iff.1 hy).1; omega
      rw [List.getElem?_take_of_lt hj] at hq hy
      exact hf _ _ _ _ (h4 j q y hq hy)
end
end Go.Proofs.Ytgoapmjcfdbjpaa
namespace Go.Proofs.Ytgoapmjcfdbjpaa
open Go.RowKit
theorem run_wrapNil {P : Program} {xt ty : TypeId} {a : Addr} {s : String} {w : World} : (Builtin.ssaWrapNilChk_ #[xt] ty #[.pointer (some a), strVal "", strVal s]).run P w = .ok (.pointer (some a)) w := by rfl
theorem run_method_deref {P : Program} {T elem : TypeId} {i : TypeInfo} {m : Method} {name : String} {f : FuncId} {a : Addr} {w : World} {v : Value} {fuel : Nat} (hi : P.info? T = some i) (hm : i.methods.find? (·.name == name) = some m) (hp : m.path = #[]) (hf : m.func = some (f, false))
    (hu : P.underlying T = some (.pointer elem)) (hg : (isAgg elem).run P w = .ok false w) (hl : w.cell? a = some v) : (method (fuel + 1) T (.pointer (some a)) name).run P w = .ok (f, v) w := by
  rw [method]
  simp [typeInfo, hi, hm, hp, hf, follow, receiverAt, run_underlying hu, Place.get, run_wrapNil, asAddr, hg, hl, go_sem]
theorem run_method_ptr {P : Program} {T elem : TypeId} {i : TypeInfo} {m : Method} {name : String} {f : FuncId} {a : Addr} {w : World} {fuel : Nat} (hi : P.info? T = some i) (hm : i.methods.find? (·.name == name) = some m) (hp : m.path = #[]) (hf : m.func = some (f, true))
    (hu : P.underlying T = some (.pointer elem)) : (method (fuel + 1) T (.pointer (some a)) name).run P w = .ok (f, .pointer (some a)) w := by
  rw [method]
  simp [typeInfo, hi, hm, hp, hf, follow, receiverAt, run_underlying hu, Place.get, go_sem]
theorem fuelT : Try.prog.types.size + 100 = 235 := by kernel_rfl
theorem meth_len (g : Nat) (v : Value) (w : World) (h : w.cell? ⟨g, 3, none⟩ = some v) : Sem.run Try.prog (method (Try.prog.types.size + 100) 77 (.pointer (some ⟨g, 3, none⟩)) "Len") w = .ok (86, v) w :=
  run_method_deref (i := Try.t77) (m := ⟨"Len", 50, #[], some (86, false)⟩) (by kernel_rfl) (by kernel_rfl) rfl rfl Try.underlying77 (by kernel_rfl) h
theorem meth_less (g : Nat) (v : Value) (w : World) (h : w.cell? ⟨g, 3, none⟩ = some v) : Sem.run Try.prog (method (Try.prog.types.size + 100) 77 (.pointer (some ⟨g, 3, none⟩)) "Less") w = .ok (87, v) w :=
  run_method_deref (i := Try.t77) (m := ⟨"Less", 109, #[], some (87, false)⟩) (by kernel_rfl) (by kernel_rfl) rfl rfl Try.underlying77 (by kernel_rfl) h
theorem meth_swap (g : Nat) (v : Value) (w : World) (h : w.cell? ⟨g, 3, none⟩ = some v) : Sem.run Try.prog (method (Try.prog.types.size + 100) 77 (.pointer (some ⟨g, 3, none⟩)) "Swap") w = .ok (88, v) w :=
  run_method_deref (i := Try.t77) (m := ⟨"Swap", 89, #[], some (88, false)⟩) (by kernel_rfl) (by kernel_rfl) rfl rfl Try.underlying77 (by kernel_rfl) h
theorem meth_push (g : Nat) (w : World) : Sem.run Try.prog (method (Try.prog.types.size + 100) 77 (.pointer (some ⟨g, 3, none⟩)) "Push") w = .ok (90, .pointer (some ⟨g, 3, none⟩)) w :=
  run_method_ptr (i := Try.t77) (m := ⟨"Push", 92, #[], some (90, true)⟩) (by kernel_rfl) (by kernel_rfl) rfl rfl Try.underlying77
theorem meth_pop (g : Nat) (w : World) : Sem.run Try.prog (method (Try.prog.types.size + 100) 77 (.pointer (some ⟨g, 3, none⟩)) "Pop") w = .ok (89, .pointer (some ⟨g, 3, none⟩)) w :=
  run_method_ptr (i := Try.t77) (m := ⟨"Pop", 91, #[], some (89, true)⟩) (by kernel_rfl) (by kernel_rfl) rfl rfl Try.underlying77
theorem m_len (g : Nat) (v : Value) (w : World) (h : w.cell? ⟨g, 3, none⟩ = some v) : Sem.run Try.prog (method 235 77 (.pointer (some ⟨g, 3, none⟩)) "Len") w = .ok (86, v) w := by
  have h9 := meth_len g v w h
  rwa [fuelT] at h9
theorem m_less (g : Nat) (v : Value) (w : World) (h : w.cell? ⟨g, 3, none⟩ = some v) : Sem.run Try.prog (method 235 77 (.pointer (some ⟨g, 3, none⟩)) "Less") w = .ok (87, v) w := by
  have h9 := meth_less g v w h
  rwa [fuelT] at h9
theorem m_swap (g : Nat) (v : Value) (w : World) (h : w.cell? ⟨g, 3, none⟩ = some v) : Sem.run Try.prog (method 235 77 (.pointer (some ⟨g, 3, none⟩)) "Swap") w = .ok (88, v) w := by
  have h9 := meth_swap g v w h
  rwa [fuelT] at h9
theorem m_push (g : Nat) (w : World) : Sem.run Try.prog (method 235 77 (.pointer (some ⟨g, 3, none⟩)) "Push") w = .ok (90, .pointer (some ⟨g, 3, none⟩)) w := by
  have h9 := meth_push g w
  rwa [fuelT] at h9
theorem m_pop (g : Nat) (w : World) : Sem.run Try.prog (method 235 77 (.pointer (some ⟨g, 3, none⟩)) "Pop") w = .ok (89, .pointer (some ⟨g, 3, none⟩)) w := by
  have h9 := meth_pop g w
  rwa [fuelT] at h9
theorem enter_len : ∀ (a : Array Value) (w : World), (callFunc 86 a).run Try.prog w = .ok (.enter 86 a) w := run_callFunc_body Try.func86 (by kernel_rfl) (by kernel_rfl)
theorem enter_less : ∀ (a : Array Value) (w : World), (callFunc 87 a).run Try.prog w = .ok (.enter 87 a) w := run_callFunc_body Try.func87 (by kernel_rfl) (by kernel_rfl)
theorem enter_swap : ∀ (a : Array Value) (w : World), (callFunc 88 a).run Try.prog w = .ok (.enter 88 a) w := run_callFunc_body Try.func88 (by kernel_rfl) (by kernel_rfl)
theorem enter_push : ∀ (a : Array Value) (w : World), (callFunc 90 a).run Try.prog w = .ok (.enter 90 a) w := run_callFunc_body Try.func90 (by kernel_rfl) (by kernel_rfl)
theorem enter_pop : ∀ (a : Array Value) (w : World), (callFunc 89 a).run Try.prog w = .ok (.enter 89 a) w := run_callFunc_body Try.func89 (by kernel_rfl) (by kernel_rfl)
structure Th where
  id : Int
  flow : Int
  start : Int
def ThR : Rd Th := fun _ cs x => cs = [.int .i64 x.id, .int .i64 x.flow, .int .i64 x.start]
theorem flat_th : Flat ThR := fun _ _ _ _ h => h
theorem one_th : OneR ThR := fun _ _ _ h u hu => by
  subst h
  simp at hu
  rcases hu with rfl | rfl | rfl <;> rfl
def Th.less (a b : Th) : Bool := if a.start = b.start then decide (a.flow < b.flow) else decide (a.start < b.start)
def thV (x : Th) : Value := .agg #[.int .i64 x.id, .int .i64 x.flow, .int .i64 x.start]
theorem len_any (v : Value) (l : List Th) (w : World) (h : RowAt ThR 3 w v l) : Calls Try.prog 86 #[v] w fun e w' => e = .returned (.int .i64 (l.length : Int)) ∧ w = w' := by
  obtain ⟨a, c, rfl, -, -⟩ := h.len
  go_enter Try.func86, Try.ntmps86
  go_wp2
  go_ret
  exact ⟨rfl, rfl⟩
end Go.Proofs.Ytgoapmjcfdbjpaa
namespace Go.Proofs.Ytgoapmjcfdbjpaa
open Go
section
variable {P : Program} {ops : Array Oper} {md : Region.Mode}
end
end Go.Proofs.Ytgoapmjcfdbjpaa
namespace Go.Proofs.Ytgoapmjcfdbjpaa
open Go.RowKit
theorem below_drewT (w : World) (k : Nat) : Below w.heap.size w (w.drewN k) := ⟨rfl, rfl, rfl, Nat.le_refl _, fun _ _ => rfl⟩
theorem th_cells {w : World} {a : Option Addr} {n c : Nat} {l : List Th} (h : RowAt ThR 3 w (.slice a n c) l) (hn : l.length = n) {i : Nat} {x : Th} (hx : l[i]? = some x) :
    ∃ b o, a = some ⟨b, o, none⟩ ∧ w.cell? ⟨b, o + i * 3, none⟩ = some (.int .i64 x.id) ∧ w.cell? ⟨b, o + i * 3 + 1, none⟩ = some (.int .i64 x.flow) ∧ w.cell? ⟨b, o + i * 3 + 2, none⟩ = some (.int .i64 x.start) := by
  have hi : i < l.length := (List.getElem?_eq_some_iff.1 hx).1
  obtain ⟨bb, o, c', hv, _, _, hbs, hcell⟩ := h.form (by omega) (by omega)
  injection hv with u1 u2 u3
  obtain ⟨ds, _, hcc, hds⟩ := hcell i x hx
  have hds' : ds = [.int .i64 x.id, .int .i64 x.flow, .int .i64 x.start] := hds
  subst hds'
  exact ⟨bb, o, u1, by simpa using hcc 0 _ rfl, hcc 1 _ rfl, hcc 2 _ rfl⟩
set_option maxRecDepth 100000 in
set_option maxHeartbeats 3200000 in
theorem less_any (v : Value) (l : List Th) (i j : Nat) (x y : Th) (w : World) (h : RowAt ThR 3 w v l) (hx : l[i]? = some x) (hy : l[j]? = some y) (_hl : l.length ≤ 1048576) :
    Calls Try.prog 87 #[v, .int .i64 (i : Int), .int .i64 (j : Int)] w fun e w' => e = .returned (.bool (x.less y)) ∧ Below w.heap.size w w' := by
  obtain ⟨a, c, rfl, -, -⟩ := h.len
  obtain ⟨nl, hnl⟩ : ∃ n, l.length = n := ⟨_, rfl⟩
  rw [hnl] at h ⊢
  obtain ⟨b, o, hab, x0, x1, x2⟩ := th_cells h hnl hx
  obtain ⟨b', o', hab', y0, y1, y2⟩ := th_cells h hnl hy
  subst hab
  injection hab' with hab'
  injection hab' with k1 k2 k3
  subst k1
  subst k2
  have hi : i < nl := by rw [← hnl]; exact (List.getElem?_eq_some_iff.1 hx).1
  have hj : j < nl := by rw [← hnl]; exact (List.getElem?_eq_some_iff.1 hy).1
  have q1 : (0 : Int) ≤ (i : Int) := by omega
  have q2 : (i : Int) < (nl : Int) := by omega
  have q3 : (0 : Int) ≤ (j : Int) := by omega
  have q4 : (j : Int) < (nl : Int) := by omega
  clear h hx hy hnl
  by_cases hs : x.start = y.start
  · have HE : Hid (decide (x.flow < y.flow) = x.less y) := Lib.hid (by unfold Th.less; rw [if_pos hs])
    obtain ⟨ys, hys⟩ : ∃ z, y.start = z := ⟨_, rfl⟩
    rw [hys] at hs y2
    rw [hs] at x2
    clear hs hys
    go_enter Try.func87, Try.ntmps87
    go_upto_region 1 with fail
    go_quiet (fail)
    go_upto_region 3 with fail
    go_quiet (fail)
    go_wp2_with fail
    go_ret
    exact ⟨congrArg (fun b => Ending.returned (Value.bool b)) HE.out, by first | exact below_drewT _ _ | exact (below_drewT w _).trans (below_drewT _ _)⟩
  · have HE : Hid (decide (x.start < y.start) = x.less y) := Lib.hid (by unfold Th.less; rw [if_neg hs])
    have t1 : (x.start == y.start) = false := by simpa using hs
    have t2 : (x.start != y.start) = true := by unfold bne; rw [t1]; rfl
    go_enter Try.func87, Try.ntmps87
    go_upto_region 1 with fail
    go_quiet (fail)
    go_upto_region 2 with fail
    go_quiet (fail)
    go_wp2_with fail
    go_ret
    exact ⟨congrArg (fun b => Ending.returned (Value.bool b)) HE.out, by first | exact below_drewT _ _ | exact (below_drewT w _).trans (below_drewT _ _)⟩
end Go.Proofs.Ytgoapmjcfdbjpaa
namespace Go.Proofs.Ytgoapmjcfdbjpaa
open Go.RowKit
theorem set3 (w : World) (g o : Nat) (a b c : Value) : w.setCells g o [a, b, c] = ((w.setCell ⟨g, o, none⟩ a).setCell ⟨g, o + 1, none⟩ b).setCell ⟨g, o + 2, none⟩ c := rfl
def swapL (l : List Th) (i j : Nat) (x y : Th) : List Th := (l.set i y).set j x
set_option maxRecDepth 100000 in
set_option maxHeartbeats 1600000 in
theorem swap_any (v : Value) (l : List Th) (i j B : Nat) (x y : Th) (w : World) (h : OwnAt ThR 3 w B 75 v l) (hx : l[i]? = some x) (hy : l[j]? = some y) :
    Calls Try.prog 88 #[v, .int .i64 (i : Int), .int .i64 (j : Int)] w fun e w' => e = .returned (.tuple #[]) ∧ OwnAt ThR 3 w' B 75 v (swapL l i j x y) ∧ w.grownBy w' v.ownBlock := by
  have hi : i < l.length := (List.getElem?_eq_some_iff.1 hx).1
  have hj : j < l.length := (List.getElem?_eq_some_iff.1 hy).1
  rcases h.form with ⟨rfl, rfl⟩ | ⟨g, c, rfl, hB, hg, hc, hm⟩
  · simp at hi
  · obtain ⟨b, o, hab, x0, x1, x2⟩ := th_cells h.row rfl hx
    obtain ⟨b', o', hab', y0, y1, y2⟩ := th_cells h.row rfl hy
    injection hab with hab
    injection hab with k1 k2 k3
    subst k1
    subst k2
    injection hab' with hab'
    injection hab' with k1 k2 k3
    subst k1
    subst k2
    rw [Nat.zero_add] at x0 x1 x2 y0 y1 y2
    obtain ⟨nl, hnl⟩ : ∃ n, l.length = n := ⟨_, rfl⟩
    have ti := h.there (o := i * 3) (m := 3) (by omega)
    have tj := h.there (o := j * 3) (m := 3) (by omega)
    obtain ⟨f0, f1, f2⟩ : w.frozen? ⟨g, i * 3, none⟩ = false ∧ w.frozen? ⟨g, i * 3 + 1, none⟩ = false ∧ w.frozen? ⟨g, i * 3 + 2, none⟩ = false := ⟨(ti 0 (by omega)).2, (ti 1 (by omega)).2, (ti 2 (by omega)).2⟩
    obtain ⟨g0, g1, g2⟩ : w.frozen? ⟨g, j * 3, none⟩ = false ∧ w.frozen? ⟨g, j * 3 + 1, none⟩ = false ∧ w.frozen? ⟨g, j * 3 + 2, none⟩ = false := ⟨(tj 0 (by omega)).2, (tj 1 (by omega)).2, (tj 2 (by omega)).2⟩
    have H := Lib.hid h
    rw [hnl] at hi hj ⊢
    have q1 : (0 : Int) ≤ (i : Int) := by omega
    have q2 : (i : Int) < (nl : Int) := by omega
    have q3 : (0 : Int) ≤ (j : Int) := by omega
    have q4 : (j : Int) < (nl : Int) := by omega
    clear ti tj
    by_cases hij : i = j
    · subst hij
      obtain rfl : x = y := by rw [hx] at hy; exact Option.some.inj hy
      clear h hx hy
      go_enter Try.func88, Try.ntmps88
      go_region
      go_end0
      obtain ⟨s1, s2⟩ := H.out.storeElem flat_th (i := i) (by omega) (cs := [.int .i64 x.id, .int .i64 x.flow, .int .i64 x.start]) rfl (x := x) rfl
      obtain ⟨s3, s4⟩ := s1.storeElem flat_th (i := i) (by rw [List.length_set]; omega) (cs := [.int .i64 x.id, .int .i64 x.flow, .int .i64 x.start]) rfl (x := x) rfl
      rw [hnl] at s3
      rw [set3, set3] at s3 s4
      rw [set3] at s2
      generalize World.setCell _ ⟨g, i * 3 + 2, none⟩ (Value.int .i64 x.start) = X at s3 s4 ⊢
      have hbd : Below X.heap.size X X.drew := (Below.refl _ _).drew
      refine ⟨rfl, s3.below flat_th.stays hbd, ⟨s4.os.trans s2.os, s4.tape.trans s2.tape, s4.output.trans s2.output, ?_, fun k hk hne => ?_⟩⟩
      · show w.heap.size ≤ X.heap.size
        rw [s4.size, s2.size]; exact Nat.le_refl _
      · have hkg : k ≠ g := fun e => hne (by rw [e]; rfl)
        exact (s4.other k hkg).trans (s2.other k hkg)
    · clear h hx hy
      go_enter Try.func88, Try.ntmps88
      go_region
      go_end0
      obtain ⟨s1, s2⟩ := H.out.storeElem flat_th (i := i) (by omega) (cs := [.int .i64 y.id, .int .i64 y.flow, .int .i64 y.start]) rfl (x := y) rfl
      obtain ⟨s3, s4⟩ := s1.storeElem flat_th (i := j) (by rw [List.length_set]; omega) (cs := [.int .i64 x.id, .int .i64 x.flow, .int .i64 x.start]) rfl (x := x) rfl
      rw [hnl] at s3
      rw [set3, set3] at s3 s4
      rw [set3] at s2
      generalize World.setCell _ ⟨g, j * 3 + 2, none⟩ (Value.int .i64 x.start) = X at s3 s4 ⊢
      have hbd : Below X.heap.size X X.drew := (Below.refl _ _).drew
      refine ⟨rfl, s3.below flat_th.stays hbd, ⟨s4.os.trans s2.os, s4.tape.trans s2.tape, s4.output.trans s2.output, ?_, fun k hk hne => ?_⟩⟩
      · show w.heap.size ≤ X.heap.size
        rw [s4.size, s2.size]; exact Nat.le_refl _
      · have hkg : k ≠ g := fun e => hne (by rw [e]; rfl)
        exact (s4.other k hkg).trans (s2.other k hkg)
end Go.Proofs.Ytgoapmjcfdbjpaa
namespace Go.Proofs.Ytgoapmjcfdbjpaa
open Go.RowKit
theorem Th.less_irrefl (a : Th) : a.less a = false := by unfold Th.less; simp
theorem Th.less_asymm {a b : Th} (h : a.less b = true) : b.less a = false := by
  unfold Th.less at *
  by_cases e : a.start = b.start
  · rw [if_pos e] at h; rw [if_pos e.symm]
    have := of_decide_eq_true h
    exact decide_eq_false (by omega)
  · rw [if_neg e] at h; rw [if_neg (Ne.symm e)]
    have := of_decide_eq_true h
    exact decide_eq_false (by omega)
theorem Th.le_trans {a b c : Th} (h : b.less a = false) (k : c.less b = false) : c.less a = false := by
  unfold Th.less at *
  by_cases e1 : b.start = a.start
  · rw [if_pos e1] at h
    have h1 := of_decide_eq_false h
    by_cases e2 : c.start = b.start
    · rw [if_pos e2] at k
      have k1 := of_decide_eq_false k
      rw [if_pos (e2.trans e1)]
      exact decide_eq_false (by omega)
    · rw [if_neg e2] at k
      have k1 := of_decide_eq_false k
      rw [if_neg (fun e => e2 (e.trans e1.symm))]
      exact decide_eq_false (by omega)
  · rw [if_neg e1] at h
    have h1 := of_decide_eq_false h
    by_cases e2 : c.start = b.start
    · rw [if_pos e2] at k
      rw [if_neg (fun e => e1 (e2.symm.trans e))]
      exact decide_eq_false (by omega)
    · rw [if_neg e2] at k
      have k1 := of_decide_eq_false k
      by_cases e3 : c.start = a.start
      · omega
      · rw [if_neg e3]
        exact decide_eq_false (by omega)
def LeO (a b : Option Th) : Prop := ∀ x y, a = some x → b = some y → y.less x = false
theorem LeO.refl (a : Option Th) : LeO a a := fun x y hx hy => by rw [hx] at hy; cases hy; exact x.less_irrefl
theorem LeO.of {x y : Th} (h : y.less x = false) : LeO (some x) (some y) := fun _ _ hx hy => by cases hx; cases hy; exact h
theorem LeO.lt {x y : Th} (h : x.less y = true) : LeO (some x) (some y) := LeO.of (Th.less_asymm h)
theorem LeO.trans {a c : Option Th} {b : Th} (h : LeO a (some b)) (k : LeO (some b) c) : LeO a c := fun x y hx hy => Th.le_trans (h x b hx rfl) (k b y rfl hy)
def HeapL (l : List Th) (n : Nat) : Prop := ∀ c, 0 < c → c < n → LeO l[(c - 1) / 2]? l[c]?
theorem swap_get {l : List Th} {i j : Nat} {x y : Th} (hx : l[i]? = some x) (hy : l[j]? = some y) (k : Nat) : (swapL l i j x y)[k]? = if k = j then some x else if k = i then some y else l[k]? := by
  unfold swapL
  have hi := (List.getElem?_eq_some_iff.1 hx).1
  have hj := (List.getElem?_eq_some_iff.1 hy).1
  by_cases h1 : k = j
  · subst h1; rw [if_pos rfl, List.getElem?_set, if_pos rfl, if_pos (by rw [List.length_set]; exact hj)]
  · rw [if_neg h1, List.getElem?_set, if_neg (Ne.symm h1)]
    by_cases h2 : k = i
    · subst h2; rw [if_pos rfl, List.getElem?_set, if_pos rfl, if_pos hi]
    · rw [if_neg h2, List.getElem?_set, if_neg (Ne.symm h2)]
theorem swap_len (l : List Th) (i j : Nat) (x y : Th) : (swapL l i j x y).length = l.length := by unfold swapL; simp
theorem swap_self {l : List Th} {i : Nat} {x : Th} (hx : l[i]? = some x) : swapL l i i x x = l := by
  refine List.ext_getElem? fun k => ?_
  rw [swap_get hx hx]
  by_cases h : k = i
  · subst h; rw [if_pos rfl, hx]
  · rw [if_neg h, if_neg h]
theorem split_two {l : List Th} {i j : Nat} {x y : Th} (hij : i < j) (hx : l[i]? = some x) (hy : l[j]? = some y) : ∃ a b c, l = a ++ x :: (b ++ y :: c) ∧ a.length = i ∧ b.length = j - i - 1 := by
  have hj := (List.getElem?_eq_some_iff.1 hy).1
  refine ⟨l.take i, (l.drop (i + 1)).take (j - i - 1), l.drop (j + 1), ?_, by rw [List.length_take]; omega, by rw [List.length_take, List.length_drop]; omega⟩
  have h1 : l = l.take i ++ (x :: l.drop (i + 1)) := by
    have hi := List.getElem?_eq_some_iff.1 hx
    obtain ⟨h1, h2⟩ := hi
    rw [← h2, ← List.drop_eq_getElem_cons h1, List.take_append_drop]
  have h2 : l.drop (i + 1) = (l.drop (i + 1)).take (j - i - 1) ++ (y :: l.drop (j + 1)) := by
    have h3 : (l.drop (i + 1))[j - i - 1]? = some y := by rw [List.getElem?_drop]; rw [show i + 1 + (j - i - 1) = j by omega]; exact hy
    obtain ⟨h4, h5⟩ := List.getElem?_eq_some_iff.1 h3
    have h6 : (l.drop (i + 1)).drop (j - i - 1) = y :: l.drop (j + 1) := by
      rw [List.drop_eq_getElem_cons h4, h5, List.drop_drop]
      congr 2
      omega
    rw [← h6, List.take_append_drop]
  rw [← h2]
  exact h1
theorem swap_perm_lt {l : List Th} {i j : Nat} {x y : Th} (hij : i < j) (hx : l[i]? = some x) (hy : l[j]? = some y) : (swapL l i j x y).Perm l := by
  obtain ⟨a, b, c, h, ha, hb⟩ := split_two hij hx hy
  have h2 : swapL l i j x y = a ++ y :: (b ++ x :: c) := by
    refine List.ext_getElem? fun k => ?_
    rw [swap_get hx hy, h]
    by_cases h1 : k = j
    · subst h1
      rw [if_pos rfl, List.getElem?_append_right (by omega), List.getElem?_cons, if_neg (by omega), List.getElem?_append_right (by omega), List.getElem?_cons, if_pos (by omega)]
    · rw [if_neg h1]
      by_cases h2 : k = i
      · subst h2
        rw [if_pos rfl, List.getElem?_append_right (by omega), List.getElem?_cons, if_pos (by omega)]
      · rw [if_neg h2]
        by_cases h3 : k < a.length
        · rw [List.getElem?_append_left h3, List.getElem?_append_left h3]
        · rw [List.getElem?_append_right (by omega), List.getElem?_append_right (by omega), List.getElem?_cons, List.getElem?_cons, if_neg (by omega), if_neg (by omega)]
          by_cases h4 : k - a.length - 1 < b.length
          · rw [List.getElem?_append_left h4, List.getElem?_append_left h4]
          · rw [List.getElem?_append_right (by omega), List.getElem?_append_right (by omega), List.getElem?_cons, List.getElem?_cons, if_neg (by omega), if_neg (by omega)]
  rw [h2, h]
  refine List.Perm.append_left a ?_
  have p1 : (y :: (b ++ x :: c)).Perm (y :: x :: (b ++ c)) := List.Perm.cons _ List.perm_middle
  have p2 : (x :: (b ++ y :: c)).Perm (x :: y :: (b ++ c)) := List.Perm.cons _ List.perm_middle
  exact p1.trans ((List.Perm.swap x y _).trans p2.symm)
theorem swap_comm {l : List Th} {i j : Nat} {x y : Th} (hx : l[i]? = some x) (hy : l[j]? = some y) : swapL l i j x y = swapL l j i y x := by
  refine List.ext_getElem? fun k => ?_
  rw [swap_get hx hy, swap_get hy hx]
  by_cases h1 : k = j
  · subst h1
    rw [if_pos rfl]
    by_cases h2 : k = i
    · subst h2; rw [if_pos rfl, ← hx, hy]
    · rw [if_neg h2, if_pos rfl]
  · rw [if_neg h1, if_neg h1]
theorem swap_perm {l : List Th} {i j : Nat} {x y : Th} (hx : l[i]? = some x) (hy : l[j]? = some y) : (swapL l i j x y).Perm l := by
  rcases Nat.lt_trichotomy i j with h | h | h
  · exact swap_perm_lt h hx hy
  · subst h
    rw [hx] at hy
    cases hy
    rw [swap_self hx]
  · rw [swap_comm hx hy]; exact swap_perm_lt h hy hx
structure UpInv (l : List Th) (j : Nat) : Prop where
  ord : ∀ c, 0 < c → c < l.length → c ≠ j → LeO l[(c - 1) / 2]? l[c]?
  over : ∀ c, 0 < c → c < l.length → (c - 1) / 2 = j → 0 < j → LeO l[(j - 1) / 2]? l[c]?
theorem UpInv.stop {l : List Th} {j : Nat} (h : UpInv l j) (hj : j = 0 ∨ LeO l[(j - 1) / 2]? l[j]?) : HeapL l l.length := fun c h0 hc => by
  by_cases e : c = j
  · subst e
    rcases hj with h1 | h1
    · omega
    · exact h1
  · exact h.ord c h0 hc e
theorem UpInv.swap {l : List Th} {j : Nat} {x y : Th} (h : UpInv l j) (h0 : 0 < j) (hx : l[(j - 1) / 2]? = some x) (hy : l[j]? = some y) (hl : y.less x = true) : UpInv (swapL l ((j - 1) / 2) j x y) ((j - 1) / 2) := by
  have hj := (List.getElem?_eq_some_iff.1 hy).1
  have hg := swap_get hx hy
  have hpj : (j - 1) / 2 < j := by omega
  refine ⟨fun c hc0 hc hne => ?_, fun c hc0 hc hp hi0 => ?_⟩
  · rw [swap_len] at hc
    rw [hg, hg]
    by_cases e1 : c = j
    · subst e1
      rw [if_pos rfl, if_neg (by omega), if_pos rfl]
      exact LeO.lt hl
    · rw [if_neg e1, if_neg hne]
      by_cases e2 : (c - 1) / 2 = j
      · rw [if_pos e2]
        have := h.over c hc0 hc e2 h0
        rwa [hx] at this
      · rw [if_neg e2]
        by_cases e3 : (c - 1) / 2 = (j - 1) / 2
        · rw [if_pos e3]
          have h1 := h.ord c hc0 hc e1
          rw [e3, hx] at h1
          exact (LeO.lt hl).trans h1
        · rw [if_neg e3]; exact h.ord c hc0 hc e1
  · rw [swap_len] at hc
    rw [hg, hg]
    rw [if_neg (show ¬ ((j - 1) / 2 - 1) / 2 = j by omega), if_neg (show ¬ ((j - 1) / 2 - 1) / 2 = (j - 1) / 2 by omega)]
    have h1 := h.ord ((j - 1) / 2) hi0 (by omega) (by omega)
    by_cases e1 : c = j
    · rw [if_pos e1, ← hx]; exact h1
    · rw [if_neg e1, if_neg (by omega)]
      have h2 := h.ord c hc0 hc e1
      rw [hp] at h2
      rw [hx] at h1 h2
      exact h1.trans h2
structure DownInv (l : List Th) (i n : Nat) : Prop where
  ord : ∀ c, 0 < c → c < n → (c - 1) / 2 ≠ i → LeO l[(c - 1) / 2]? l[c]?
  over : 0 < i → ∀ c, 0 < c → c < n → (c - 1) / 2 = i → LeO l[(i - 1) / 2]? l[c]?
theorem DownInv.stop {l : List Th} {i n : Nat} (h : DownInv l i n) (hj : ∀ c, 0 < c → c < n → (c - 1) / 2 = i → LeO l[i]? l[c]?) : HeapL l n := fun c h0 hc => by
  by_cases e : (c - 1) / 2 = i
  · rw [e]; exact hj c h0 hc e
  · exact h.ord c h0 hc e
theorem DownInv.swap {l : List Th} {i j n : Nat} {x y : Th} (h : DownInv l i n) (_hn : n ≤ l.length) (h0 : 0 < j) (hjn : j < n) (hp : (j - 1) / 2 = i) (hx : l[i]? = some x) (hy : l[j]? = some y) (hl : y.less x = true)
    (hmin : ∀ c, 0 < c → c < n → (c - 1) / 2 = i → LeO (some y) l[c]?) : DownInv (swapL l i j x y) j n := by
  have hg := swap_get hx hy
  have hij : i < j := by omega
  refine ⟨fun c hc0 hc hne => ?_, fun _ c hc0 hc hpc => ?_⟩
  · rw [hg, hg, if_neg hne]
    by_cases e1 : (c - 1) / 2 = i
    · rw [if_pos e1]
      by_cases e2 : c = j
      · rw [if_pos e2]; exact LeO.lt hl
      · rw [if_neg e2, if_neg (by omega)]; exact hmin c hc0 hc e1
    · rw [if_neg e1]
      have h1 := h.ord c hc0 hc e1
      by_cases e2 : c = j
      · subst e2; exact absurd hp e1
      · rw [if_neg e2]
        by_cases e3 : c = i
        · rw [if_pos e3]
          subst e3
          have := h.over hc0 j h0 hjn hp
          rwa [hy] at this
        · rw [if_neg e3]; exact h1
  · rw [hp, hg, hg, if_neg (show ¬ i = j by omega), if_pos rfl, if_neg (show ¬ c = j by omega), if_neg (show ¬ c = i by omega)]
    have h1 := h.ord c hc0 hc (by omega)
    rw [hpc, hy] at h1
    exact h1
theorem HeapL.first {l : List Th} {n : Nat} (h : HeapL l n) (hn : n ≤ l.length) : ∀ c, c < n → LeO l[0]? l[c]? := by
  intro c
  induction c using Nat.strongRecOn with
  | _ c ih =>
    intro hc
    by_cases h0 : c = 0
    · subst h0; exact LeO.refl _
    · have hp : (c - 1) / 2 < c := by omega
      have h1 := ih _ hp (by omega)
      have h2 := h c (by omega) hc
      obtain ⟨z, hz⟩ : ∃ z, l[(c - 1) / 2]? = some z := ⟨l[(c - 1) / 2]'(by omega), List.getElem?_eq_getElem _⟩
      rw [hz] at h1 h2
      exact h1.trans h2
end Go.Proofs.Ytgoapmjcfdbjpaa
namespace Go.Proofs.Ytgoapmjcfdbjpaa
namespace Rf
variable {α : Type} [DecidableEq α]
theorem nodup_len : ∀ {l ks : List α}, l.Nodup → (∀ x, x ∈ l → x ∈ ks) → l.length ≤ ks.length
  | [], _, _, _ => Nat.zero_le _
  | a :: r, ks, h, hs => by
    obtain ⟨h1, h2⟩ := List.nodup_cons.1 h
    have ha := hs a (List.mem_cons_self ..)
    have ih := nodup_len (ks := ks.erase a) h2 fun x hx => (List.mem_erase_of_ne (fun e => h1 (by rw [← e]; exact hx))).2 (hs x (List.mem_cons_of_mem _ hx))
    rw [List.length_erase_of_mem ha] at ih
    have := List.length_pos_of_mem ha
    rw [List.length_cons]; omega
structure C (α : Type) where
  uid : α
  own : List α
def uids (l : List (C α)) : List α := l.map C.uid
def ownsL (l : List (C α)) (o : α) : List α := (l.filter (fun x => decide (o ∈ x.own))).map C.uid
theorem mem_owns {l : List (C α)} {o u : α} : u ∈ ownsL l o ↔ ∃ x ∈ l, o ∈ x.own ∧ x.uid = u := by
  unfold ownsL
  simp only [List.mem_map, List.mem_filter, decide_eq_true_eq]
  constructor
  · rintro ⟨x, ⟨h1, h2⟩, h3⟩; exact ⟨x, h1, h2, h3⟩
  · rintro ⟨x, h1, h2, h3⟩; exact ⟨x, ⟨h1, h2⟩, h3⟩
theorem owns_uids {l : List (C α)} {o u : α} (h : u ∈ ownsL l o) : u ∈ uids l := by
  obtain ⟨x, h1, _, rfl⟩ := mem_owns.1 h
  exact List.mem_map_of_mem h1
theorem uid_one {β : Type} : ∀ {l : List (C β)}, (uids l).Nodup → ∀ {x y : C β}, x ∈ l → y ∈ l → x.uid = y.uid → x = y
  | [], _, _, _, hx, _, _ => by cases hx
  | z :: r, hn, x, y, hx, hy, he => by
    have hn' : z.uid ∉ uids r ∧ (uids r).Nodup := List.nodup_cons.1 hn
    rcases List.mem_cons.1 hx with rfl | hx' <;> rcases List.mem_cons.1 hy with rfl | hy'
    · rfl
    · exact (hn'.1 (he ▸ List.mem_map_of_mem hy')).elim
    · exact (hn'.1 (he ▸ List.mem_map_of_mem hx')).elim
    · exact uid_one hn'.2 hx' hy' he
def Cnt (S : α → Prop) (n : Nat) : Prop := ∃ s : List α, s.Nodup ∧ (∀ o, o ∈ s ↔ S o) ∧ s.length = n
theorem Cnt.congr {β : Type} {S T : β → Prop} {n : Nat} (h : Cnt S n) (hst : ∀ o, S o ↔ T o) : Cnt T n := let ⟨s, h1, h2, h3⟩ := h; ⟨s, h1, fun o => (h2 o).trans (hst o), h3⟩
theorem Cnt.zero {β : Type} {S : β → Prop} (h : ∀ o, ¬ S o) : Cnt S 0 := ⟨[], List.nodup_nil, fun o => ⟨fun h' => (by cases h'), fun h' => (h o h').elim⟩, rfl⟩
theorem Cnt.none {β : Type} {S : β → Prop} (h : Cnt S 0) (o : β) : ¬ S o := by
  obtain ⟨s, _, h2, h3⟩ := h
  have : s = [] := List.eq_nil_of_length_eq_zero h3
  subst this
  intro ho
  have := (h2 o).2 ho
  cases this
theorem Cnt.eq_zero {β : Type} {S : β → Prop} {n : Nat} (h : Cnt S n) (hs : ∀ o, ¬ S o) : n = 0 := by
  obtain ⟨s, _, h2, rfl⟩ := h
  cases s with
  | nil => rfl
  | cons a r => exact (hs a ((h2 a).1 (List.mem_cons_self ..))).elim
theorem Cnt.add {β : Type} {S : β → Prop} {n : Nat} {u : β} (h : Cnt S n) (hu : ¬ S u) : Cnt (fun o => S o ∨ o = u) (n + 1) := by
  obtain ⟨s, h1, h2, rfl⟩ := h
  refine ⟨u :: s, List.nodup_cons.2 ⟨fun hm => hu ((h2 u).1 hm), h1⟩, fun o => ?_, rfl⟩
  rw [List.mem_cons, h2]
  exact or_comm
theorem Cnt.drop {S : α → Prop} {n : Nat} {u : α} (h : Cnt S n) (hu : S u) : 1 ≤ n ∧ Cnt (fun o => S o ∧ o ≠ u) (n - 1) := by
  obtain ⟨s, h1, h2, rfl⟩ := h
  have hm : u ∈ s := (h2 u).2 hu
  have hlen := List.length_erase_of_mem hm
  have hpos : 0 < s.length := List.length_pos_of_mem hm
  refine ⟨hpos, s.erase u, h1.erase u, fun o => ?_, by omega⟩
  rw [h1.mem_erase_iff, h2]
  exact and_comm
theorem Cnt.le {S : α → Prop} {n : Nat} {m : List α} (h : Cnt S n) (hm : ∀ o, S o → o ∈ m) : n ≤ m.length := by
  obtain ⟨s, h1, h2, rfl⟩ := h
  exact nodup_len h1 fun o ho => hm o ((h2 o).1 ho)
theorem Cnt.of {β : Type} {l : List β} (h : l.Nodup) : Cnt (· ∈ l) l.length := ⟨l, h, fun _ => Iff.rfl, rfl⟩
inductive Gone (l : List (C α)) : α → Prop
  | mk (x : C α) (hx : x ∈ l) (hne : x.own ≠ []) (h : ∀ o ∈ x.own, o ∈ uids l → Gone l o) : Gone l x.uid
theorem Gone.uid {β : Type} {l : List (C β)} {u : β} (h : Gone l u) : u ∈ uids l := by
  cases h with | mk x hx _ _ => exact List.mem_map_of_mem hx
structure GInv (l : List (C α)) (W : α → Nat) (Q : List α) (D : α → α → Prop) : Prop where
  nodup : Q.Nodup
  gone : ∀ u ∈ Q, Gone l u
  cnt : ∀ x ∈ l, Cnt (fun o => o ∈ x.own ∧ o ∈ uids l ∧ ¬ D o x.uid) (W x.uid)
  inq : ∀ x ∈ l, x.own ≠ [] → (W x.uid = 0 ↔ x.uid ∈ Q)
  dq : ∀ o u, D o u → o ∈ Q
theorem GInv.congr {β : Type} {l : List (C β)} {W : β → Nat} {Q : List β} {D D' : β → β → Prop} (h : GInv l W Q D) (hD : ∀ x ∈ l, ∀ o ∈ x.own, o ∈ uids l → (D o x.uid ↔ D' o x.uid)) (hq : ∀ o u, D' o u → o ∈ Q) : GInv l W Q D' :=
  ⟨h.nodup, h.gone, fun x hx => (h.cnt x hx).congr fun o => ⟨fun ⟨a, b, c⟩ => ⟨a, b, fun d => c ((hD x hx o a b).2 d)⟩, fun ⟨a, b, c⟩ => ⟨a, b, fun d => c ((hD x hx o a b).1 d)⟩⟩, h.inq, hq⟩
def upd (W : α → Nat) (u : α) (n : Nat) : α → Nat := fun z => if z = u then n else W z
theorem upd_same (W : α → Nat) (u : α) (n : Nat) : upd W u n u = n := if_pos rfl
theorem upd_other (W : α → Nat) {u z : α} (n : Nat) (h : z ≠ u) : upd W u n z = W z := if_neg h
theorem GInv.step {l : List (C α)} (hn : (uids l).Nodup) {W : α → Nat} {Q : List α} {D : α → α → Prop} (h : GInv l W Q D) {o u : α} (ho : o ∈ Q) (hu : u ∈ ownsL l o) (hD : ¬ D o u) :
    1 ≤ W u ∧ GInv l (upd W u (W u - 1)) (if W u - 1 = 0 then Q ++ [u] else Q) (fun a b => D a b ∨ (a = o ∧ b = u)) := by
  obtain ⟨x, hx, hox, rfl⟩ := mem_owns.1 hu
  have hol : o ∈ uids l := (h.gone o ho).uid
  obtain ⟨h1, h2⟩ := (h.cnt x hx).drop ⟨hox, hol, hD⟩
  have hne : x.own ≠ [] := fun e => by rw [e] at hox; cases hox
  have hxq : x.uid ∉ Q := fun hq => by have := (h.inq x hx hne).2 hq; omega
  have hsub : ∀ z ∈ Q, z ∈ (if W x.uid - 1 = 0 then Q ++ [x.uid] else Q) := fun z hz => by
    split
    · exact List.mem_append_left _ hz
    · exact hz
  have hcnt : ∀ y ∈ l, Cnt (fun z => z ∈ y.own ∧ z ∈ uids l ∧ ¬ (D z y.uid ∨ (z = o ∧ y.uid = x.uid))) (upd W x.uid (W x.uid - 1) y.uid) := by
    intro y hy
    by_cases hyx : y.uid = x.uid
    · obtain rfl := uid_one hn hy hx hyx
      rw [upd_same]
      refine h2.congr fun z => ?_
      constructor
      · rintro ⟨⟨a, b, c⟩, d⟩
        exact ⟨a, b, fun e => e.elim c fun e => d e.1⟩
      · rintro ⟨a, b, c⟩
        exact ⟨⟨a, b, fun e => c (.inl e)⟩, fun e => c (.inr ⟨e, rfl⟩)⟩
    · rw [upd_other _ _ hyx]
      refine (h.cnt y hy).congr fun z => ?_
      constructor
      · rintro ⟨a, b, c⟩
        exact ⟨a, b, fun e => e.elim c fun e => hyx e.2⟩
      · rintro ⟨a, b, c⟩
        exact ⟨a, b, fun e => c (.inl e)⟩
  refine ⟨h1, ?_, ?_, hcnt, ?_, ?_⟩
  · split
    · exact List.nodup_append.2 ⟨h.nodup, by simp, fun a ha b hb e => by simp only [List.mem_singleton] at hb; subst hb; subst e; exact hxq ha⟩
    · exact h.nodup
  · intro z hz
    by_cases hw : W x.uid - 1 = 0
    · rw [if_pos hw] at hz
      rcases List.mem_append.1 hz with hz | hz
      · exact h.gone z hz
      · simp only [List.mem_singleton] at hz
        subst hz
        have h3 := hcnt x hx
        rw [upd_same, hw] at h3
        refine .mk x hx hne fun a ha hal => ?_
        have h4 := h3.none a
        have h5 : D a x.uid ∨ (a = o ∧ x.uid = x.uid) := Classical.byContradiction fun e => h4 ⟨ha, hal, e⟩
        rcases h5 with h5 | h5
        · exact h.gone a (h.dq _ _ h5)
        · rw [h5.1]; exact h.gone o ho
    · rw [if_neg hw] at hz
      exact h.gone z hz
  · intro y hy hyn
    by_cases hyx : y.uid = x.uid
    · rw [hyx, upd_same]
      constructor
      · intro e; rw [if_pos e]; simp
      · intro e
        by_cases hw : W x.uid - 1 = 0
        · exact hw
        · rw [if_neg hw] at e; exact (hxq e).elim
    · rw [upd_other _ _ hyx, h.inq y hy hyn]
      constructor
      · exact fun e => hsub _ e
      · intro e
        split at e
        · rcases List.mem_append.1 e with e | e
          · exact e
          · simp only [List.mem_singleton] at e; exact (hyx e).elim
        · exact e
  · rintro a b (e | e)
    · exact hsub _ (h.dq _ _ e)
    · rw [e.1]; exact hsub _ ho
theorem GInv.all {β : Type} {l : List (C β)} {W : β → Nat} {Q : List β} (h : GInv l W Q (fun o _ => o ∈ Q)) (u : β) : u ∈ Q ↔ Gone l u := by
  refine ⟨h.gone u, fun hg => ?_⟩
  induction hg with
  | mk x hx hne _ ih =>
    refine (h.inq x hx hne).1 ((h.cnt x hx).eq_zero ?_)
    rintro o ⟨a, b, c⟩
    exact c (ih o a b)
def IsGone (l : List (C α)) (g : List α) : Prop := g.Nodup ∧ ∀ u, u ∈ g ↔ Gone l u
structure GPre (l : List (C α)) (i : Nat) (W : α → Nat) (Q : List α) : Prop where
  nodup : Q.Nodup
  cnt : ∀ x ∈ l.take i, Cnt (fun o => o ∈ x.own ∧ o ∈ uids l) (W x.uid)
  rest : ∀ x ∈ l.drop i, W x.uid = 0
  inq : ∀ u, u ∈ Q ↔ ∃ x ∈ l.take i, x.uid = u ∧ x.own ≠ [] ∧ W x.uid = 0
theorem take_succ {β : Type} {l : List β} {i : Nat} {x : β} (hx : l[i]? = some x) : l.take (i + 1) = l.take i ++ [x] := by rw [List.take_add_one, hx]; rfl
theorem drop_succ {β : Type} {l : List β} {i : Nat} {x : β} (hx : l[i]? = some x) : l.drop i = x :: l.drop (i + 1) := by
  have hi := (List.getElem?_eq_some_iff.1 hx)
  obtain ⟨h1, h2⟩ := hi
  rw [List.drop_eq_getElem_cons h1, h2]
theorem uid_apart {β : Type} {l : List (C β)} (hn : (uids l).Nodup) {i : Nat} {x : C β} (hx : l[i]? = some x) : (∀ y ∈ l.take i, y.uid ≠ x.uid) ∧ ∀ y ∈ l.drop (i + 1), y.uid ≠ x.uid := by
  have h1 : l = l.take i ++ (x :: l.drop (i + 1)) := by rw [← drop_succ hx, List.take_append_drop]
  have hn2 : ((l.take i).map C.uid ++ (x.uid :: (l.drop (i + 1)).map C.uid)).Nodup := by
    have : uids l = (l.take i).map C.uid ++ (x.uid :: (l.drop (i + 1)).map C.uid) := by
      conv => lhs; rw [h1]
      simp [uids]
    rw [← this]; exact hn
  obtain ⟨_, h3, h4⟩ := List.nodup_append.1 hn2
  refine ⟨fun y hy e => h4 _ (List.mem_map_of_mem hy) _ (List.mem_cons_self ..) e, fun y hy e => (List.nodup_cons.1 h3).1 (e ▸ List.mem_map_of_mem hy)⟩
theorem GPre.step {l : List (C α)} (hn : (uids l).Nodup) {i : Nat} {W : α → Nat} {Q : List α} (h : GPre l i W Q) {x : C α} (hx : l[i]? = some x) {c : Nat} (hc : Cnt (fun o => o ∈ x.own ∧ o ∈ uids l) c) :
    GPre l (i + 1) (upd W x.uid c) (if x.own ≠ [] ∧ c = 0 then Q ++ [x.uid] else Q) := by
  obtain ⟨hA, hB⟩ := uid_apart hn hx
  have hxq : x.uid ∉ Q := fun e => by obtain ⟨y, hy, he, _⟩ := (h.inq _).1 e; exact hA y hy he
  refine ⟨?_, ?_, ?_, ?_⟩
  · split
    · exact List.nodup_append.2 ⟨h.nodup, by simp, fun a ha b hb e => by simp only [List.mem_singleton] at hb; subst hb; subst e; exact hxq ha⟩
    · exact h.nodup
  · intro y hy
    rw [take_succ hx] at hy
    rcases List.mem_append.1 hy with hy | hy
    · rw [upd_other _ _ (hA y hy)]; exact h.cnt y hy
    · simp only [List.mem_singleton] at hy
      subst hy
      rw [upd_same]; exact hc
  · intro y hy
    rw [upd_other _ _ (hB y hy)]
    exact h.rest y (by rw [drop_succ hx]; exact List.mem_cons_of_mem _ hy)
  · intro u
    rw [take_succ hx]
    have old : (∃ y ∈ l.take i, y.uid = u ∧ y.own ≠ [] ∧ upd W x.uid c y.uid = 0) ↔ u ∈ Q := by
      rw [h.inq]
      constructor
      · rintro ⟨y, h1, h2, h3, h4⟩
        rw [upd_other _ _ (hA y h1)] at h4
        exact ⟨y, h1, h2, h3, h4⟩
      · rintro ⟨y, h1, h2, h3, h4⟩
        refine ⟨y, h1, h2, h3, ?_⟩
        rw [upd_other _ _ (hA y h1)]; exact h4
    constructor
    · intro hu
      split at hu
      · rename_i hcc
        rcases List.mem_append.1 hu with hu | hu
        · obtain ⟨y, h1, h2⟩ := old.2 hu
          exact ⟨y, List.mem_append_left _ h1, h2⟩
        · simp only [List.mem_singleton] at hu
          subst hu
          exact ⟨x, by simp, rfl, hcc.1, by rw [upd_same]; exact hcc.2⟩
      · obtain ⟨y, h1, h2⟩ := old.2 hu
        exact ⟨y, List.mem_append_left _ h1, h2⟩
    · rintro ⟨y, h1, h2, h3, h4⟩
      rcases List.mem_append.1 h1 with h1 | h1
      · have := old.1 ⟨y, h1, h2, h3, h4⟩
        split
        · exact List.mem_append_left _ this
        · exact this
      · simp only [List.mem_singleton] at h1
        subst h1
        rw [upd_same] at h4
        rw [if_pos ⟨h3, h4⟩]
        subst h2
        simp
theorem GPre.inv {β : Type} {l : List (C β)} (hn : (uids l).Nodup) {W : β → Nat} {Q : List β} (h : GPre l l.length W Q) : GInv l W Q (fun _ _ => False) := by
  have ht : l.take l.length = l := List.take_of_length_le (Nat.le_refl _)
  have hc := h.cnt
  have hq := h.inq
  rw [ht] at hc hq
  refine ⟨h.nodup, fun u hu => ?_, fun x hx => (hc x hx).congr fun o => by simp, fun x hx hne => ?_, fun _ _ e => e.elim⟩
  · obtain ⟨x, hx, rfl, hne, h0⟩ := (hq u).1 hu
    have h1 := hc x hx
    rw [h0] at h1
    exact .mk x hx hne fun o ho hol => (h1.none o ⟨ho, hol⟩).elim
  · rw [hq]
    constructor
    · exact fun e => ⟨x, hx, rfl, hne, e⟩
    · rintro ⟨y, hy, he, _, h0⟩
      obtain rfl := uid_one hn hy hx he
      exact h0
inductive Comes (l : List (C α)) (a : α) : α → Prop
  | first (u : α) (h : u ∈ ownsL l a) : Comes l a u
  | more (v u : α) (h : Comes l a v) (hu : u ∈ ownsL l v) : Comes l a u
theorem Comes.trans {l : List (C α)} {a b c : α} (h : Comes l a b) (k : Comes l b c) : Comes l a c := by
  induction k with
  | first u hu => exact .more b u h hu
  | more v u _ hu ih => exact .more v u ih hu
theorem Comes.uid {l : List (C α)} {a u : α} (h : Comes l a u) : u ∈ uids l := by
  cases h with
  | first _ h => exact owns_uids h
  | more _ _ _ h => exact owns_uids h
structure UInv (l : List (C α)) (a : α) (sn : List α) (k j : Nat) : Prop where
  nodup : sn.Nodup
  comes : ∀ u ∈ sn, Comes l a u
  done : ∀ (i : Nat) (v : α), i < k → (a :: sn)[i]? = some v → ∀ u ∈ ownsL l v, u ∈ sn
  part : ∀ v, (a :: sn)[k]? = some v → ∀ u ∈ (ownsL l v).take j, u ∈ sn
theorem UInv.seen {l : List (C α)} {a : α} {sn : List α} {k j : Nat} (h : UInv l a sn k j) {v u : α} (hv : (a :: sn)[k]? = some v) (hu : (ownsL l v)[j]? = some u) (hin : u ∈ sn) : UInv l a sn k (j + 1) :=
  ⟨h.nodup, h.comes, h.done, fun v' hv' z hz => by
    rw [hv] at hv'
    cases hv'
    rw [take_succ hu] at hz
    rcases List.mem_append.1 hz with hz | hz
    · exact h.part v hv z hz
    · simp only [List.mem_singleton] at hz; subst hz; exact hin⟩
theorem UInv.next {l : List (C α)} {a : α} {sn : List α} {k j : Nat} (h : UInv l a sn k j) {v : α} (hv : (a :: sn)[k]? = some v) (hj : (ownsL l v).length ≤ j) : UInv l a sn (k + 1) 0 :=
  ⟨h.nodup, h.comes, fun i z hi hz u hu => by
    by_cases hik : i < k
    · exact h.done i z hik hz u hu
    · obtain rfl : i = k := by omega
      rw [hv] at hz
      cases hz
      exact h.part v hv u (by rw [List.take_of_length_le hj]; exact hu), fun v' _ u hu => by simp at hu⟩
theorem UInv.len {l : List (C α)} {a : α} {sn : List α} {k j : Nat} (h : UInv l a sn k j) : sn.length ≤ l.length := by
  have := nodup_len h.nodup (fun u hu => (h.comes u hu).uid)
  simpa [uids] using this
theorem UInv.all {l : List (C α)} {a : α} {sn : List α} {k j : Nat} (h : UInv l a sn k j) (hk : sn.length + 1 ≤ k) (u : α) : u ∈ sn ↔ Comes l a u := by
  refine ⟨h.comes u, fun hc => ?_⟩
  induction hc with
  | first u hu => exact h.done 0 a (by omega) rfl u hu
  | more v u _ hu ih =>
    obtain ⟨i, hi, hiv⟩ := List.getElem_of_mem ih
    exact h.done (i + 1) v (by omega) (by simp [hi, hiv]) u hu
structure OInv (l : List (C α)) (L : α → Option Nat) (out : List α) (E : α → α → Prop) : Prop where
  nodup : out.Nodup
  sub : ∀ u ∈ out, u ∈ uids l
  left : ∀ u, (L u).isSome = true ↔ u ∈ uids l ∧ u ∉ out
  cnt : ∀ u n, L u = some n → Cnt (fun v => v ∈ ownsL l u ∧ ¬ E u v) n
  eout : ∀ u v, E u v → v ∈ out
  row : ∀ u ∈ out, ∀ v ∈ ownsL l u, v ∈ out ∧ out.idxOf v < out.idxOf u
def delO (L : α → Option Nat) (u : α) : α → Option Nat := fun z => if z = u then none else L z
theorem OInv.take {l : List (C α)} {L : α → Option Nat} {out : List α} (h : OInv l L out (fun _ v => v ∈ out)) {a : α} (ha : L a = some 0) : OInv l (delO L a) (out ++ [a]) (fun _ v => v ∈ out) := by
  obtain ⟨hal, hao⟩ := (h.left a).1 (by rw [ha]; rfl)
  refine ⟨List.nodup_append.2 ⟨h.nodup, by simp, fun x hx y hy e => by simp only [List.mem_singleton] at hy; subst hy; subst e; exact hao hx⟩, fun u hu => ?_, fun u => ?_, fun u n hu => ?_, fun u v hv => List.mem_append_left _ hv, fun u hu v hv => ?_⟩
  · rcases List.mem_append.1 hu with hu | hu
    · exact h.sub u hu
    · simp only [List.mem_singleton] at hu; subst hu; exact hal
  · unfold delO
    by_cases hu : u = a
    · subst hu; simp
    · rw [if_neg hu, h.left]; simp [hu]
  · unfold delO at hu
    by_cases hua : u = a
    · rw [if_pos hua] at hu; cases hu
    · rw [if_neg hua] at hu; exact h.cnt u n hu
  · rcases List.mem_append.1 hu with hu | hu
    · obtain ⟨h1, h2⟩ := h.row u hu v hv
      exact ⟨List.mem_append_left _ h1, by rw [List.idxOf_append, List.idxOf_append, if_pos h1, if_pos hu]; exact h2⟩
    · simp only [List.mem_singleton] at hu
      subst hu
      have h1 : v ∈ out := Classical.byContradiction fun e => (h.cnt u 0 ha).none v ⟨hv, e⟩
      refine ⟨List.mem_append_left _ h1, ?_⟩
      rw [List.idxOf_append, List.idxOf_append, if_pos h1, if_neg hao]
      have := List.idxOf_lt_length_of_mem h1
      omega
theorem OInv.congr {l : List (C α)} {L : α → Option Nat} {out : List α} {E E' : α → α → Prop} (h : OInv l L out E) (hE : ∀ u v, (L u).isSome = true → v ∈ ownsL l u → (E u v ↔ E' u v)) (he : ∀ u v, E' u v → v ∈ out) : OInv l L out E' :=
  ⟨h.nodup, h.sub, h.left, fun u n hu => (h.cnt u n hu).congr fun v => ⟨fun ⟨a, b⟩ => ⟨a, fun c => b ((hE u v (by rw [hu]; rfl) a).2 c)⟩, fun ⟨a, b⟩ => ⟨a, fun c => b ((hE u v (by rw [hu]; rfl) a).1 c)⟩⟩, he, h.row⟩
theorem OInv.len {l : List (C α)} {L : α → Option Nat} {out : List α} {E : α → α → Prop} (h : OInv l L out E) : out.length ≤ l.length := by
  have := nodup_len h.nodup h.sub
  simpa [uids] using this
def IsRow (l : List (C α)) (out : List α) : Prop := out.Nodup ∧ (∀ u, u ∈ out ↔ u ∈ uids l) ∧ ∀ u ∈ out, ∀ v ∈ ownsL l u, v ∈ out ∧ out.idxOf v < out.idxOf u
theorem OInv.all {l : List (C α)} {L : α → Option Nat} {out : List α} {E : α → α → Prop} (h : OInv l L out E) (h0 : ∀ u, L u = none) : IsRow l out :=
  ⟨h.nodup, fun u => ⟨h.sub u, fun hu => Classical.byContradiction fun e => by have := (h.left u).2 ⟨hu, e⟩; rw [h0 u] at this; cases this⟩, h.row⟩
theorem IsRow.len {l : List (C α)} (hn : (uids l).Nodup) {out : List α} (h : IsRow l out) : out.length = l.length := by
  have h1 := nodup_len h.1 (fun u hu => (h.2.1 u).1 hu)
  have h2 := nodup_len hn (fun u hu => (h.2.1 u).2 hu)
  simp only [uids, List.length_map] at h1 h2
  omega
theorem IsRow.comes {l : List (C α)} {out : List α} (h : IsRow l out) {a u : α} (ha : a ∈ out) (hc : Comes l a u) : u ∈ out ∧ out.idxOf u < out.idxOf a := by
  induction hc with
  | first u hu => exact h.2.2 a ha u hu
  | more v u _ hu ih =>
    obtain ⟨h1, h2⟩ := ih
    obtain ⟨h3, h4⟩ := h.2.2 v h1 u hu
    exact ⟨h3, by omega⟩
theorem uids_filter {β : Type} {l : List (C β)} (hn : (uids l).Nodup) (p : C β → Bool) : (uids (l.filter p)).Nodup := ((List.filter_sublist).map C.uid).nodup hn
theorem closed {l : List (C α)} (hn : (uids l).Nodup) {g : List α} (hg : IsGone l g) {p : C α → Bool} (hp : ∀ x, p x = decide (x.uid ∉ g)) {h : List α} (hh : IsGone (l.filter p) h) :
    h = [] ∧ (l.filter p).length + g.length = l.length ∧ ∀ x ∈ l.filter p, x.own = [] ∨ ∃ o ∈ x.own, o ∈ uids (l.filter p) := by
  have hmem : ∀ u, u ∈ uids (l.filter p) ↔ u ∈ uids l ∧ u ∉ g := by
    intro u
    simp only [uids, List.mem_map, List.mem_filter, hp, decide_eq_true_eq]
    constructor
    · rintro ⟨x, ⟨h1, h2⟩, rfl⟩; exact ⟨⟨x, h1, rfl⟩, h2⟩
    · rintro ⟨⟨x, h1, rfl⟩, h2⟩; exact ⟨x, ⟨h1, h2⟩, rfl⟩
  have hgone : ∀ u, Gone (l.filter p) u → Gone l u := by
    intro u hu
    induction hu with
    | mk x hx hne _ ih =>
      refine .mk x ((List.mem_filter.1 hx).1) hne fun o ho hol => ?_
      by_cases hog : o ∈ g
      · exact (hg.2 o).1 hog
      · exact ih o ho ((hmem o).2 ⟨hol, hog⟩)
  refine ⟨?_, ?_, ?_⟩
  · cases h with
    | nil => rfl
    | cons u r =>
      have h1 := (hh.2 u).1 (List.mem_cons_self ..)
      exact (((hmem u).1 h1.uid).2 ((hg.2 u).2 (hgone u h1))).elim
  · have h1 : (uids (l.filter p) ++ g).Nodup := List.nodup_append.2 ⟨uids_filter hn p, hg.1, fun a ha b hb e => by subst e; exact ((hmem a).1 ha).2 hb⟩
    have h2 := nodup_len h1 (ks := uids l) (fun u hu => by
      rcases List.mem_append.1 hu with hu | hu
      · exact ((hmem u).1 hu).1
      · exact ((hg.2 u).1 hu).uid)
    have h3 := nodup_len hn (ks := uids (l.filter p) ++ g) (fun u hu => by
      by_cases hug : u ∈ g
      · exact List.mem_append_right _ hug
      · exact List.mem_append_left _ ((hmem u).2 ⟨hu, hug⟩))
    simp only [List.length_append, uids, List.length_map] at h2 h3
    omega
  · intro x hx
    by_cases hne : x.own = []
    · exact .inl hne
    · right
      apply Classical.byContradiction
      intro hno
      have hxm := (List.mem_filter.1 hx).1
      have hxu : x.uid ∈ uids (l.filter p) := List.mem_map_of_mem hx
      refine ((hmem x.uid).1 hxu).2 ((hg.2 _).2 (.mk x hxm hne fun o ho hol => ?_))
      by_cases hog : o ∈ g
      · exact (hg.2 o).1 hog
      · exact (hno ⟨o, ho, (hmem o).2 ⟨hol, hog⟩⟩).elim
theorem more {l : List (C α)} (_hn : (uids l).Nodup) {x : C α} {p : C α → Bool} (hp : ∀ y, p y = decide (y.uid ≠ x.uid)) {g h : List α} (hg : IsGone l g) (hh : IsGone (l.filter p) h) :
    (∀ u ∈ g, u ≠ x.uid → u ∈ h) ∧ ∀ u ∈ h, u ∈ g ∨ Comes l x.uid u := by
  have hmem : ∀ u, u ∈ uids (l.filter p) ↔ u ∈ uids l ∧ u ≠ x.uid := by
    intro u
    simp only [uids, List.mem_map, List.mem_filter, hp, decide_eq_true_eq]
    constructor
    · rintro ⟨y, ⟨h1, h2⟩, rfl⟩; exact ⟨⟨y, h1, rfl⟩, h2⟩
    · rintro ⟨⟨y, h1, rfl⟩, h2⟩; exact ⟨y, ⟨h1, h2⟩, rfl⟩
  constructor
  · intro u hu hne
    rw [hh.2]
    have hu' := (hg.2 u).1 hu
    clear hu
    revert hne
    induction hu' with
    | mk y hy hyn _ ih =>
      intro hne
      refine .mk y (List.mem_filter.2 ⟨hy, by rw [hp]; exact decide_eq_true hne⟩) hyn fun o ho hol => ?_
      obtain ⟨h1, h2⟩ := (hmem o).1 hol
      exact ih o ho h1 h2
  · intro u hu
    have hu' := (hh.2 u).1 hu
    clear hu
    rw [hg.2]
    induction hu' with
    | mk y hy hyn _ ih =>
      have hyl := (List.mem_filter.1 hy).1
      by_cases hxo : x.uid ∈ y.own
      · exact .inr (.first _ (mem_owns.2 ⟨y, hyl, hxo, rfl⟩))
      · by_cases hu : ∃ o ∈ y.own, Comes l x.uid o
        · obtain ⟨o, ho, hc⟩ := hu
          exact .inr (.more o _ hc (mem_owns.2 ⟨y, hyl, ho, rfl⟩))
        · left
          refine .mk y hyl hyn fun o ho hol => ?_
          have := ih o ho ((hmem o).2 ⟨hol, fun e => hxo (e ▸ ho)⟩)
          rcases this with h1 | h1
          · exact h1
          · exact (hu ⟨o, ho, h1⟩).elim
end Rf
end Go.Proofs.Ytgoapmjcfdbjpaa
namespace Go.Proofs.Ytgoapmjcfdbjpaa.NameP
def edge (c : Nat) : Bool := decide (97 ≤ c ∧ c ≤ 122) || decide (65 ≤ c ∧ c ≤ 90) || decide (48 ≤ c ∧ c ≤ 57)
def low (c : Nat) : Bool := edge c && (decide (c < 65) || decide (90 < c))
def dash (c : Nat) : Bool := c == 45
def made (e v : Nat → Bool) (l : List UInt8) : Bool :=
  match l with
  | [] => false
  | x :: r => e x.toNat && e ((x :: r).getLast (by simp)).toNat && (x :: r).all fun c => e c.toNat || v c.toNat
def isName (l : List UInt8) : Bool := made low dash l
def judge (n most : Nat) (is : Bool) : Int := if most < n then 2 else if is then 0 else 6
def check (l : List UInt8) : Int := judge l.length 63 (isName l)
end Go.Proofs.Ytgoapmjcfdbjpaa.NameP
namespace Go.Proofs.Ytgoapmjcfdbjpaa
open Go.RowKit
end Go.Proofs.Ytgoapmjcfdbjpaa
namespace Go.Proofs.Ytgoapmjcfdbjpaa
open Go.RowKit
structure Tells (f : FuncId) (p : Nat → Bool) : Prop where
  enter : ∀ (a : Array Value) (w : World), (callFunc f a).run Try.prog w = .ok (.enter f a) w
  calls : ∀ (c : Nat) (w : World), c < 256 → Calls Try.prog f #[.int .u8 (c : Int)] w fun e w' => e = .returned (.bool (p c)) ∧ w = w'
end Go.Proofs.Ytgoapmjcfdbjpaa
namespace Go.Proofs.Ytgoapmjcfdbjpaa
open Go.RowKit Go.ChangeShapes Go.WideShapes
structure GCard where
  uid : ByteArray
  owners : List ByteArray
end Go.Proofs.Ytgoapmjcfdbjpaa
namespace Go.Proofs.Ytgoapmjcfdbjpaa
open Go.RowKit Go.ChangeMaps Go.MapKept
open Go.WideMaps
open Go.WideElems (Fit rd rg pl rd_val rd_key rg_of)
open Go.Maps (Keyed)
abbrev KB := List UInt8
def kb (k : KB) : Lit := .string k
def rawE (v : Value) : Option (DataW Value × List MemPlace) := some (.held v, [])
def rawOf : DataW Value → Option Value
  | .held v => some v
  | _ => none
def lookD (D : DataW Value) (k : KB) : Option Value := if Maps.has D (kb k) = true then rawOf (D.atKey (kb k) .nil) else none
def MapS (P : Program) (K : TypeId) (w : World) (b n : Nat) (f : KB → Option Value) : Prop := ∃ D : DataW Value, w.ownsMap P K rawE b n D ∧ ∀ k, f k = lookD D k
def updF (f : KB → Option Value) (k : KB) (v : Value) : KB → Option Value := fun z => if z = k then some v else f z
def delF (f : KB → Option Value) (k : KB) : KB → Option Value := fun z => if z = k then none else f z
theorem kb_key (k : KB) : WideAt.IsKeyLit (kb k) := trivial
theorem kb_inj {a b : KB} (h : kb a = kb b) : a = b := by unfold kb at h; injection h
theorem kb_same (a b : KB) : (kb a).sameKey (kb b) = decide (a = b) := by
  by_cases h : a = b
  · subst h; rw [WideAt.sameKey_self (kb_key _)]; simp
  · rw [Maps.sameKey_ne (fun e => h (kb_inj e))]; simp [h]
theorem atKey_mem {es : List (Lit × DataW Value)} {k : Lit} (h : Maps.has (DataW.map es) k = true) : ∃ q ∈ es, ∀ z, (DataW.map es).atKey k z = q.2 := by
  rw [Maps.has_eq] at h
  obtain ⟨p, h1, h2⟩ := List.any_eq_true.1 h
  cases hf : es.find? (fun p => p.1.sameKey k) with
  | none => exact absurd h2 (by simpa using List.find?_eq_none.1 hf p h1)
  | some q => exact ⟨q, List.mem_of_find?_eq_some hf, fun z => by unfold DataW.atKey; simp only [hf]⟩
section
variable {P : Program} {K e t : TypeId} {w w' : World} {b n : Nat} {f : KB → Option Value}
theorem MapS.mono {n' : Nat} (h : MapS P K w b n f) (hn : n ≤ n') : MapS P K w b n' f := let ⟨D, h1, h2⟩ := h; ⟨D, h1.mono hn, h2⟩
theorem MapS.lt (h : MapS P K w b n f) : b < w.heap.size := let ⟨_, h1, _⟩ := h; h1.lt
theorem MapS.kept {row : Option Nat} (h : MapS P K w b n f) (hg : w.grownBy w' row) (hne : some b ≠ row) : MapS P K w' b n f := let ⟨D, h1, h2⟩ := h; ⟨D, h1.kept hg hne, h2⟩
theorem MapS.block (h : MapS P K w b n f) (hb : w'.heap[b]? = w.heap[b]?) : MapS P K w' b n f := by
  obtain ⟨D, ⟨es, clock, h1, h2⟩, h3⟩ := h
  exact ⟨D, ⟨es, clock, hb.trans h1, h2⟩, h3⟩
theorem MapS.below {B : Nat} (h : MapS P K w b n f) (hb : Below B w w') (hB : b < B) : MapS P K w' b n f := h.block (hb.block b hB)
theorem MapS.belowW (h : MapS P K w b n f) (hb : Below w.heap.size w w') : MapS P K w' b n f := h.block (hb.block b h.lt)
theorem MapS.alloc (h : MapS P K w b n f) (o : Obj) : MapS P K (w.alloc o) b n f := let ⟨D, h1, h2⟩ := h; ⟨D, h1.alloc o, h2⟩
theorem MapS.setCell (h : MapS P K w b n f) {a : Addr} (ha : b ≠ a.block) (u : Value) : MapS P K (w.setCell a u) b n f := let ⟨D, h1, h2⟩ := h; ⟨D, h1.setCell ha u, h2⟩
theorem MapS.isMap (h : MapS P K w b n f) : ∃ es clock, w.heap[b]? = some (.map es clock) := let ⟨_, ⟨es, clock, h1, _⟩, _⟩ := h; ⟨es, clock, h1⟩
theorem MapS.ne (h : MapS P K w b n f) {g : Nat} {cs : Array Value} {T : TypeId} {fr : Nat × Nat} (hg : w.heap[g]? = some (.cells cs T fr)) : b ≠ g := by
  rintro rfl
  obtain ⟨es, clock, h1⟩ := h.isMap
  rw [h1] at hg; cases hg
theorem lookD_del (D : DataW Value) (k z : KB) : lookD (D.del (kb k)) z = delF (lookD D) k z := by
  unfold delF
  by_cases hz : z = k
  · subst hz
    rw [if_pos rfl]
    unfold lookD
    rw [Maps.has_del_same]; rfl
  · rw [if_neg hz]
    unfold lookD
    have hne : kb z ≠ kb k := fun e => hz (kb_inj e)
    rw [Maps.has_del_other hne, Maps.atKey_del_other hne]
theorem MapS.drop (h : MapS P K w b n f) (hk : P.underlying K = some .string) (ht : P.underlying t = some (.map K e)) (s : ByteArray) (hs : s.size ≤ maxLen) (ty : TypeId) :
    ∃ w', (Builtin.delete_ #[t, K] ty #[.map (some b), .string s]).run P w = .ok (.tuple #[]) w' ∧ MapS P K w' b n (delF f s.data.toList) ∧ w.mapTurned w' b := by
  obtain ⟨D, h1, h2⟩ := h
  obtain ⟨w', r1, r2, r3⟩ := h1.drop (Maps.string_keyed hk) ht (keyOf_string_mk hk hs) ty
  refine ⟨w', r1, ⟨_, r2, fun z => ?_⟩, r3⟩
  rw [show (Lit.string s.data.toList) = kb s.data.toList from rfl, lookD_del]
  unfold delF
  rw [h2]
theorem keyed_is (hk : P.underlying K = some .string) {v : Value} {l : Lit} (h : keyOf P K v = some l) : ∃ s : ByteArray, v = .string s ∧ l = kb s.data.toList ∧ s.size ≤ maxLen := by
  rw [keyOf_string hk] at h
  unfold mapKey at h
  rw [hk] at h
  cases v <;> simp at h
  obtain ⟨h1, rfl⟩ := h
  exact ⟨_, rfl, rfl, h1⟩
theorem MapS.keys (h : MapS P K w b n f) (hk : P.underlying K = some .string) : ∃ ks : List KB, ks.Nodup ∧ (∀ k, k ∈ ks ↔ (f k).isSome = true) ∧ ks.length ≤ n ∧ ∀ (t e ty : TypeId), P.underlying t = some (.map K e) → (Builtin.len_ #[t] ty #[.map (some b)]).run P w = .ok (.int .i64 ks.length) w := by
  obtain ⟨D, h1, h2⟩ := h
  obtain ⟨es, hD, hap, hkk⟩ := h1.entries (Maps.string_keyed hk)
  obtain ⟨ms, clock, hb, F, hs, hD2⟩ := id h1
  have hform : ∀ p ∈ es, ∃ k v, p = (kb k, .held v) := fun p hp => by
    have hp2 : p ∈ (ms.toList.map (rg P K rawE)).foldr DataW.insert [] := by
      have := hD.symm.trans hD2
      injection this with this
      rw [← this]; exact hp
    obtain ⟨x, hx, hx2⟩ := List.mem_map.1 (mem_sorted.1 hp2)
    obtain ⟨y, hy⟩ := F.reads x hx
    obtain ⟨s, hs1, hs2, _⟩ := keyed_is hk (rd_key hy)
    obtain ⟨z, hz, hz2⟩ := rd_val hy
    rw [rg_of hy] at hx2
    refine ⟨s.data.toList, x.val, ?_⟩
    rw [← hx2]
    refine Prod.ext hs2 ?_
    rw [hz2]
    unfold rawE at hz
    rw [← Option.some.inj hz]
  refine ⟨es.map fun p => match p.1 with | .string s => s | _ => [], ?_, fun k => ?_, ?_, fun t e ty ht => ?_⟩
  · rw [List.nodup_iff_pairwise_ne, List.pairwise_map]
    refine hap.imp_of_mem fun {a c} ha hc hne he => hne ?_
    obtain ⟨k1, v1, rfl⟩ := hform a ha
    obtain ⟨k2, v2, rfl⟩ := hform c hc
    exact congrArg kb he
  · rw [h2]
    have hhas : Maps.has D (kb k) = true ↔ ∃ p ∈ es, p.1 = kb k := by
      rw [hD, Maps.has_eq, List.any_eq_true]
      constructor
      · rintro ⟨p, h1, h2⟩; exact ⟨p, h1, WideAt.sameKey_eq h2⟩
      · rintro ⟨p, h1, h2⟩; exact ⟨p, h1, by rw [h2]; exact WideAt.sameKey_self (kb_key _)⟩
    constructor
    · intro hm
      obtain ⟨p, hp, hpk⟩ := List.mem_map.1 hm
      obtain ⟨k1, v1, rfl⟩ := hform p hp
      have h9 : k1 = k := hpk
      subst h9
      have hh := hhas.2 ⟨_, hp, rfl⟩
      rw [hD] at hh
      obtain ⟨q, hq, hq2⟩ := atKey_mem hh
      obtain ⟨k2, v2, rfl⟩ := hform q hq
      unfold lookD
      rw [hD, if_pos hh, hq2]; rfl
    · intro hm
      unfold lookD at hm
      by_cases hh : Maps.has D (kb k) = true
      · obtain ⟨p, hp, hpk⟩ := hhas.1 hh
        obtain ⟨k1, v1, rfl⟩ := hform p hp
        exact List.mem_map.2 ⟨_, hp, kb_inj hpk⟩
      · rw [if_neg hh] at hm; cases hm
  · rw [List.length_map]
    have := h1.size_le
    rw [hD, Maps.size_eq] at this
    exact this
  · rw [h1.len ht ty, hD, Maps.size_eq, List.length_map]
end
end Go.Proofs.Ytgoapmjcfdbjpaa
namespace Go.Proofs.Ytgoapmjcfdbjpaa
open Go.RowKit Go.ChangeMaps Go.MapKept Go.WideMaps
open Go.WideElems (Fit rd rg pl rd_val rd_key rg_of rd_mk other_key)
open Go.Maps (Keyed)
section
variable {P : Program} (w : World) {ops : Array Oper} {rest : List Oper} {o : Oper} {a : Act} {Q : Exit → Act → World → Prop}
end
def RangeS (P : Program) (K : TypeId) (w : World) (b r n : Nat) (f : KB → Option Value) (left : KB → Bool) (cnt : Nat) : Prop := ∃ (D : DataW Value) (L : Lit → Bool), w.ranges P K rawE b r n D L cnt ∧ (∀ k, f k = lookD D k) ∧ ∀ k, left k = L (kb k)
theorem lookD_has {P : Program} {K : TypeId} (hk : P.underlying K = some .string) {w : World} {b n : Nat} {D : DataW Value} (h : w.ownsMap P K rawE b n D) (k : KB) : (lookD D k).isSome = Maps.has D (kb k) := by
  obtain ⟨ks, _, h2, _⟩ := MapS.keys (f := lookD D) ⟨D, h, fun _ => rfl⟩ hk
  cases hh : Maps.has D (kb k) with
  | false => unfold lookD; rw [hh]; rfl
  | true =>
    obtain ⟨ms, clock, hb, F, hs, hD2⟩ := h
    rw [hD2] at hh
    obtain ⟨q, hq, hq2⟩ := atKey_mem hh
    obtain ⟨x, hx, hx2⟩ := List.mem_map.1 (mem_sorted.1 hq)
    obtain ⟨y, hy⟩ := F.reads x hx
    obtain ⟨z, hz, hz2⟩ := rd_val hy
    rw [rg_of hy] at hx2
    unfold lookD
    rw [hD2, if_pos hh, hq2, ← hx2, hz2]
    unfold rawE at hz
    rw [← Option.some.inj hz]; rfl
section
variable {P : Program} {K e t : TypeId} {w w' : World} {b r n cnt : Nat} {f : KB → Option Value} {left : KB → Bool}
theorem RangeS.map (h : RangeS P K w b r n f left cnt) : MapS P K w b n f := let ⟨D, _, h1, h2, _⟩ := h; ⟨D, h1.owns, h2⟩
theorem RangeS.ne (h : RangeS P K w b r n f left cnt) : r ≠ b := let ⟨_, _, h1, _⟩ := h; h1.ne
theorem RangeS.lt (h : RangeS P K w b r n f left cnt) : r < w.heap.size := let ⟨_, _, h1, _⟩ := h; h1.lt
theorem RangeS.kept {row : Option Nat} (h : RangeS P K w b r n f left cnt) (hg : w.grownBy w' row) (hb : some b ≠ row) (hr : some r ≠ row) : RangeS P K w' b r n f left cnt := let ⟨D, L, h1, h2⟩ := h; ⟨D, L, h1.kept hg hb hr, h2⟩
theorem RangeS.block (h : RangeS P K w b r n f left cnt) (hb : w'.heap[b]? = w.heap[b]?) (hr : w'.heap[r]? = w.heap[r]?) : RangeS P K w' b r n f left cnt := by
  obtain ⟨D, L, ⟨es, clock, since, seen, c0, h1, h3, h4, h5, h6, h7⟩, h2⟩ := h
  exact ⟨D, L, ⟨es, clock, since, seen, c0, hb.trans h1, h3, h4, h5, hr.trans h6, h7⟩, h2⟩
theorem RangeS.belowW (h : RangeS P K w b r n f left cnt) (hb : Below w.heap.size w w') : RangeS P K w' b r n f left cnt := h.block (hb.block b h.map.lt) (hb.block r h.lt)
theorem MapS.range (h : MapS P K w b n f) (hk : P.underlying K = some .string) (ht : P.underlying t = some (.map K e)) :
    ∃ w', (Instr.range t (.map (some b))).run P w = .ok (.pointer (some ⟨w.heap.size, 0, none⟩)) w' ∧ (∃ cnt, RangeS P K w' b w.heap.size n f (fun k => (f k).isSome) cnt) ∧ w.grownBy w' none ∧ w'.heap.size = w.heap.size + 1 := by
  obtain ⟨D, h1, h2⟩ := h
  obtain ⟨w', r1, r2, r3, r4⟩ := h1.range (Maps.string_keyed hk) ht
  exact ⟨w', r1, ⟨_, D, _, r2, h2, fun k => by show (f k).isSome = _; rw [h2, lookD_has hk h1]⟩, r3, r4⟩
theorem RangeS.next (h : RangeS P K w b r n f left cnt) (hk : P.underlying K = some .string) (ty : TypeId) :
    ((∀ k, left k = false) ∧ (Instr.next (.pointer (some ⟨r, 0, none⟩)) false ty).run P w = .ok (.tuple #[.bool false]) w) ∨
    ∃ (s : ByteArray) (v : Value) (w' : World) (cnt' : Nat), s.size ≤ maxLen ∧ left s.data.toList = true ∧ f s.data.toList = some v ∧ (Instr.next (.pointer (some ⟨r, 0, none⟩)) false ty).run P w = .ok (.tuple #[.bool true, .string s, v]) w' ∧
      RangeS P K w' b r n f (fun k => left k && !decide (k = s.data.toList)) cnt' ∧ cnt' < cnt ∧ w.grownBy w' (some r) ∧ w'.heap.size = w.heap.size ∧ (Instr.entry (.pointer (some ⟨r, 0, none⟩))).run P w' = .ok (.tuple #[.string s, v]) w' := by
  obtain ⟨D, L, h1, h2, h3⟩ := h
  rcases h1.next (Maps.string_keyed hk) ty with ⟨_, hl, hrun⟩ | ⟨key, v, kl, y, w', cnt', hkey, hlk, hv, hat, hrun, hrg, hlt, hgr, hsz, hen⟩
  · exact .inl ⟨fun k => by rw [h3]; exact hl _, hrun⟩
  · obtain ⟨s, rfl, rfl, hs⟩ := keyed_is hk hkey
    refine .inr ⟨s, v, w', cnt', hs, by rw [h3]; exact hlk, ?_, hrun, ⟨D, _, hrg, h2, fun k => ?_⟩, hlt, hgr, hsz, hen⟩
    · have hy : y.1 = .held v := by unfold rawE at hv; rw [← Option.some.inj hv]
      have hh : Maps.has D (kb s.data.toList) = true := by
        cases hh : Maps.has D (kb s.data.toList) with
        | true => rfl
        | false =>
          have h4 := hat .nil
          rw [Maps.atKey_of_not_has hh, hy] at h4
          cases h4
      rw [h2]
      unfold lookD
      rw [if_pos hh, hat, hy]; rfl
    · show (left k && _) = (L (kb k) && _)
      rw [h3, kb_same]
end
section
variable {P : Program} (w : World) {ops : Array Oper} {rest : List Oper} {o : Oper} {a : Act} {Q : Exit → Act → World → Prop}
end
end Go.Proofs.Ytgoapmjcfdbjpaa
namespace Go.Proofs.Ytgoapmjcfdbjpaa
open Go.RowKit
end Go.Proofs.Ytgoapmjcfdbjpaa
namespace Go.Proofs.Ytgoapmjcfdbjpaa
open Go.RowKit Go.MapKept Go.ChangeMaps
theorem kb_eq {a b : ByteArray} (h : a.data.toList = b.data.toList) : a = b := by
  cases a; cases b
  simp only [ByteArray.mk.injEq]
  exact Array.toList_inj.1 h
theorem ba_beq {a b : ByteArray} : (a == b) = true ↔ a = b := by
  cases a with | mk a => cases b with | mk b =>
  show ByteArray.beq ⟨a⟩ ⟨b⟩ = true ↔ _
  unfold ByteArray.beq
  simp
instance : ReflBEq ByteArray where
  rfl := ba_beq.2 rfl
instance : LawfulBEq ByteArray where
  eq_of_beq h := ba_beq.1 h
def cdOf (x : GCard) : Rf.C ByteArray := ⟨x.uid, x.owners⟩
def cds (l : List GCard) : List (Rf.C ByteArray) := l.map cdOf
theorem cds_uids (l : List GCard) : Rf.uids (cds l) = l.map (·.uid) := by unfold Rf.uids cds; rw [List.map_map]; rfl
def nameE (s : ByteArray) : Int := NameP.check s.data.toList
def ownE : List ByteArray → Int
  | [] => 0
  | o :: r => if nameE o ≠ 0 then nameE o else ownE r
def GoodC (x : GCard) : Prop := nameE x.uid = 0 ∧ x.owners.length ≤ 4 ∧ ownE x.owners = 0 ∧ x.uid ∉ x.owners
structure GoodL (l : List GCard) : Prop where
  len : l.length ≤ 60
  good : ∀ x ∈ l, GoodC x
  uids : (l.map (·.uid)).Nodup
theorem GoodL.filter {l : List GCard} (h : GoodL l) (p : GCard → Bool) : GoodL (l.filter p) :=
  ⟨Nat.le_trans (List.length_filter_le ..) h.len, fun x hx => h.good x (List.mem_filter.1 hx).1, ((List.filter_sublist).map _).nodup h.uids⟩
theorem GoodL.nodup {l : List GCard} (h : GoodL l) : (Rf.uids (cds l)).Nodup := by rw [cds_uids]; exact h.uids
theorem turned_block {w w' : World} {b k : Nat} (h : w.mapTurned w' b) (hk : k ≠ b) : w'.heap[k]? = w.heap[k]? := by
  obtain ⟨es, clock, es', clock', hb, rfl⟩ := h
  exact heap_setBlock_other hb _ hk
def SeenM (f : KB → Option Value) (l : List ByteArray) : Prop := ∀ s : ByteArray, (f s.data.toList).isSome = decide (s ∈ l)
theorem SeenM.add {f : KB → Option Value} {l : List ByteArray} (h : SeenM f l) (s : ByteArray) (v : Value) : SeenM (updF f s.data.toList v) (l ++ [s]) := by
  intro z
  unfold updF
  by_cases e : z = s
  · subst e; simp
  · rw [if_neg (fun e' => e (kb_eq e')), h z]
    simp [e]
end Go.Proofs.Ytgoapmjcfdbjpaa
namespace Go.Proofs.Ytgoapmjcfdbjpaa
open Go
section
variable {P : Program} {ops : Array Oper} {md : Region.Mode}
def relYB (md : Region.Mode) (l : List Oper) (n : Nat) (deps kills : Nat → List Nat) : Bool :=
  decide (n < l.length) && Region.sinkB md l.toArray n && Region.chainB md l.toArray n &&
  ((List.range l.length).all fun i => match l[i]? with | some o => o.after.all fun e => !Region.binds md e || decide (e.on < i) | none => true) &&
  ((List.range n).all fun i => (List.range i).all fun j => match l[i]?, l[j]? with | some x, some y => (match y.dst with | some d => x.dst != some d | none => true) | _, _ => true) &&
  ((List.range n).all fun i => match l[i]? with | some o => (deps i).all fun j => decide (j < n) && o.after.any fun e => Region.binds md e && (e.on == j || (decide (e.on < i) && (deps e.on).contains j)) | none => true) &&
  Region.seqB md l.toArray (l.length - n) n (canon n l.length) &&
  ((List.range n).all fun i => (deps i).all fun d => (kills d).all fun i' => i' == i || (match l[i']? with | some o' => o'.after.any fun e => Region.binds md e && e.on == i | none => false))
end
end Go.Proofs.Ytgoapmjcfdbjpaa
