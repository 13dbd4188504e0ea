/- Slices of things of some cells each: that the call made itself, appended to, cloned. Any program. -/
import Derived.Test.YtaddcchpidpbfaaDoorData
import Derived.ArgAppend
import Derived.Maps.AppendAt
import Derived.Deep.Upon
import Derived.Laws.OwnMore
namespace Go.Proofs.YtaddcchpidpbfaaDoor
open Go.RowKit

theorem own_below' {w w' : World} {B n k : Nat} {e : TypeId} {v : Value} {xs : List Value} (h : w.ownsRow B e k v n xs) (hb : Below w.heap.size w w') : w'.ownsRow B e k v n xs := by
  refine ⟨h.1, ?_⟩
  rcases h.2 with h0 | ⟨g, cap, cur, hv, hB, hh, hr⟩
  · exact .inl h0
  · have hg : g < w.heap.size := by
      rcases Nat.lt_or_ge g w.heap.size with h1 | h1
      · exact h1
      · rw [Array.getElem?_eq_none h1] at hh; cases hh
    exact .inr ⟨g, cap, cur, hv, hB, (hb.block g hg).trans hh, hr⟩

/-- equal pieces, one behind the other -/
theorem flat_get {β : Type} {k : Nat} : ∀ {css : List (List β)}, (∀ cs ∈ css, cs.length = k) → ∀ {m : Nat} {u : β}, css.flatten[m]? = some u → ∃ j i cs, m = j * k + i ∧ css[j]? = some cs ∧ cs[i]? = some u
  | [], _, m, u, h => by simp at h
  | c :: r, hk, m, u, h => by
    have hc : c.length = k := hk c (List.mem_cons_self ..)
    rw [List.flatten_cons] at h
    by_cases hm : m < c.length
    · rw [List.getElem?_append_left hm] at h
      exact ⟨0, m, c, by omega, rfl, h⟩
    · rw [List.getElem?_append_right (by omega)] at h
      obtain ⟨j, i, cs, h1, h2, h3⟩ := flat_get (fun cs hcs => hk cs (List.mem_cons_of_mem _ hcs)) h
      exact ⟨j + 1, i, cs, by rw [Nat.add_mul]; omega, by simpa using h2, h3⟩
theorem get_flat {β : Type} {k : Nat} : ∀ {css : List (List β)}, (∀ cs ∈ css, cs.length = k) → ∀ {j i : Nat} {cs : List β} {u : β}, css[j]? = some cs → cs[i]? = some u → css.flatten[j * k + i]? = some u
  | [], _, j, i, cs, u, h, _ => by simp at h
  | c :: r, hk, j, i, cs, u, h, hi => by
    have hc : c.length = k := hk c (List.mem_cons_self ..)
    rw [List.flatten_cons]
    cases j with
    | zero =>
      simp only [List.getElem?_cons_zero, Option.some.injEq] at h
      subst h
      have := (List.getElem?_eq_some_iff.1 hi).1
      rw [Nat.zero_mul, Nat.zero_add, List.getElem?_append_left this]
      exact hi
    | succ j =>
      have h' : r[j]? = some cs := by simpa using h
      rw [Nat.add_mul, Nat.one_mul, List.getElem?_append_right (by omega), show j * k + k + i - c.length = j * k + i by omega]
      exact get_flat (fun cs hcs => hk cs (List.mem_cons_of_mem _ hcs)) h' hi
theorem flat_len {β : Type} {k : Nat} : ∀ {css : List (List β)}, (∀ cs ∈ css, cs.length = k) → css.flatten.length = css.length * k
  | [], _ => by simp
  | c :: r, hk => by
    rw [List.flatten_cons, List.length_append, flat_len fun cs hcs => hk cs (List.mem_cons_of_mem _ hcs), hk c (List.mem_cons_self ..), List.length_cons, Nat.add_mul]
    omega
theorem pick_each {β : Type} (Q : Nat → β → Prop) : ∀ n : Nat, (∀ i, i < n → ∃ y, Q i y) → ∃ ys : List β, ys.length = n ∧ ∀ i y, ys[i]? = some y → Q i y
  | 0, _ => ⟨[], rfl, fun i y h => by simp at h⟩
  | n + 1, h => by
    obtain ⟨ys, h1, h2⟩ := pick_each Q n fun i hi => h i (by omega)
    obtain ⟨y, hy⟩ := h n (by omega)
    refine ⟨ys ++ [y], by simp [h1], fun i z hz => ?_⟩
    by_cases hi : i < n
    · rw [List.getElem?_append_left (by omega)] at hz
      exact h2 i z hz
    · have : i = n := by have := (List.getElem?_eq_some_iff.1 hz).1; simp [h1] at this; omega
      subst this
      rw [List.getElem?_append_right (by omega), h1] at hz
      simp at hz
      subst hz
      exact hy

/-- all cells of one cell each -/
def OneR {α : Type} (R : Rd α) : Prop := ∀ w cs x, R w cs x → ∀ u ∈ cs, u.oneCell' = true

section
variable {α : Type} {R : Rd α} {k : Nat} {w w' : World} {v : Value} {l m : List α} {B : Nat} {e : TypeId}

/-- the cells of a slice that is not nil -/
theorem RowAt.cells (h : RowAt R k w v l) {a : Addr} {n c : Nat} (hv : v = .slice (some a) n c) :
    n = l.length ∧ ∃ css : List (List Value), css.length = l.length ∧ (∀ cs ∈ css, cs.length = k) ∧ (∀ (j : Nat) (u : Value), css.flatten[j]? = some u → w.cell? (a.add j) = some u) ∧ ∀ (j : Nat) (cs : List Value) (x : α), css[j]? = some cs → l[j]? = some x → R w cs x := by
  rcases h with ⟨rfl, rfl⟩ | ⟨a', c', rfl, _, _, h4⟩
  · cases hv
  · cases hv
    refine ⟨rfl, ?_⟩
    obtain ⟨css, h1, h2⟩ := pick_each (fun j cs => ∃ x, l[j]? = some x ∧ cs.length = k ∧ (∀ i u, cs[i]? = some u → w.cell? (a.add (j * k + i)) = some u) ∧ R w cs x) l.length (fun j hj => by
      obtain ⟨cs, g1, g2, g3⟩ := h4 j l[j] (by simp [hj])
      exact ⟨cs, l[j], by simp [hj], g1, g2, g3⟩)
    have hk : ∀ cs ∈ css, cs.length = k := fun cs hcs => by
      obtain ⟨j, hj, rfl⟩ := List.getElem_of_mem hcs
      obtain ⟨x, _, g, _⟩ := h2 j _ (List.getElem?_eq_getElem hj)
      exact g
    refine ⟨css, h1, hk, fun j u hu => ?_, fun j cs x hcs hx => ?_⟩
    · obtain ⟨q, i, cs, rfl, hq, hi⟩ := flat_get hk hu
      obtain ⟨x, _, _, g, _⟩ := h2 q cs hq
      exact g i u hi
    · obtain ⟨y, hy, _, _, g⟩ := h2 j cs hcs
      rw [hx] at hy
      cases hy
      exact g

/-- a slice of the call's own: nil or a row in a block from B on -/
def OwnAt (R : Rd α) (k : Nat) (w : World) (B : Nat) (e : TypeId) (v : Value) (l : List α) : Prop :=
  ∃ css : List (List Value), css.length = l.length ∧ (∀ cs ∈ css, cs.length = k) ∧ w.ownsRow B e k v l.length css.flatten ∧ ∀ (j : Nat) (cs : List Value) (x : α), css[j]? = some cs → l[j]? = some x → R w cs x
theorem OwnAt.nil (w : World) : OwnAt R k w B e (.slice none 0 0) [] := ⟨[], rfl, fun _ h => (by cases h), World.ownsRow_nil _ _ _ _, fun j cs x h => (by simp at h)⟩

theorem OwnAt.form (h : OwnAt R k w B e v l) : (v = .slice none 0 0 ∧ l = []) ∨ ∃ g c, v = .slice (some ⟨g, 0, none⟩) l.length c ∧ B ≤ g ∧ g < w.heap.size ∧ l.length ≤ c ∧ c ≤ maxLen := by
  obtain ⟨css, _, _, h3, _⟩ := h
  rcases h3.2 with ⟨h4, h5⟩ | ⟨g, cap, cur, h4, h5, h6, h7, h8, _⟩
  · exact .inl ⟨h4, List.eq_nil_of_length_eq_zero h5⟩
  · refine .inr ⟨g, cap, h4, h5, ?_, h7, h8⟩
    rcases Nat.lt_or_ge g w.heap.size with h1 | h1
    · exact h1
    · rw [Array.getElem?_eq_none h1] at h6; cases h6
/-- where it lies -/
theorem OwnAt.at (h : OwnAt R k w B e v l) {g : Nat} (hg : v.ownBlock = some g) : B ≤ g ∧ g < w.heap.size ∧ ∃ cur, w.heap[g]? = some (.cells cur e (0, 0)) := by
  obtain ⟨css, _, _, h3, _⟩ := h
  rcases h3.2 with ⟨rfl, _⟩ | ⟨g', cap, cur, rfl, h5, h6, _⟩
  · cases hg
  · obtain rfl : g' = g := by simpa [Value.ownBlock] using hg
    refine ⟨h5, ?_, cur, h6⟩
    rcases Nat.lt_or_ge g' w.heap.size with h1 | h1
    · exact h1
    · rw [Array.getElem?_eq_none h1] at h6; cases h6
theorem OwnAt.other {β : Type} {R' : Rd β} {k' : Nat} {B' : Nat} {e' : TypeId} {v' : Value} {l' : List β} (h : OwnAt R k w B e v l) (h' : OwnAt R' k' w B' e' v' l') (hne : e ≠ e') {g : Nat} (hg : v.ownBlock = some g) : v'.ownBlock ≠ some g := fun hg' => by
  obtain ⟨_, _, cur, h1⟩ := h.at hg
  obtain ⟨_, _, cur', h2⟩ := h'.at hg'
  rw [h1] at h2
  cases h2
  exact hne rfl
theorem OwnAt.row (h : OwnAt R k w B e v l) : RowAt R k w v l := by
  obtain ⟨css, h1, h2, h3, h4⟩ := h
  rcases h3.2 with ⟨h5, h6⟩ | ⟨g, cap, cur, h5, _, _, h7, h8, _, hc⟩
  · exact .inl ⟨h5, List.eq_nil_of_length_eq_zero h6⟩
  · refine .inr ⟨_, cap, h5, h7, h8, fun j x hx => ?_⟩
    have hj : j < css.length := by rw [h1]; exact (List.getElem?_eq_some_iff.1 hx).1
    have hcs : css[j]? = some css[j] := List.getElem?_eq_getElem hj
    exact ⟨css[j], h2 _ (List.getElem_mem hj), fun i u hu => h3.cells (by rw [h5]; rfl) (j * k + i) u (get_flat h2 hcs hu), h4 j _ x hcs hx⟩

theorem OwnAt.keepRow (hs : Stays R) (h : OwnAt R k w B e v l) (hk : Keeps w w') (ho : ∀ xs, w.ownsRow B e k v l.length xs → w'.ownsRow B e k v l.length xs) : OwnAt R k w' B e v l := by
  obtain ⟨css, h1, h2, h3, h4⟩ := h
  exact ⟨css, h1, h2, ho _ h3, fun j cs x hcs hx => hs _ _ _ _ hk (h4 j cs x hcs hx)⟩
theorem OwnAt.below (hs : Stays R) (h : OwnAt R k w B e v l) (hb : Below w.heap.size w w') : OwnAt R k w' B e v l := h.keepRow hs (keeps_below hb) fun _ ho => own_below' ho hb



theorem OwnAt.mono {B' : Nat} (h : OwnAt R k w B e v l) (hB : B' ≤ B) : OwnAt R k w B' e v l := by
  obtain ⟨css, h1, h2, h3, h4⟩ := h
  exact ⟨css, h1, h2, h3.mono hB, h4⟩
theorem OwnAt.alloc (hs : Stays R) (h : OwnAt R k w B e v l) (o : Obj) : OwnAt R k (w.alloc o) B e v l := h.below hs ((Below.refl _ _).alloc (Nat.le_refl _) o)
/-- one thing in a block of its own -/
theorem RowAt.one {b : Nat} {cs : Array Value} {fr : Nat × Nat} (hb : w.heap[b]? = some (.cells cs e fr)) (hk : cs.size = k) {x : α} (h : R w cs.toList x) : RowAt R k w (.slice (some ⟨b, 0, none⟩) 1 1) [x] := by
  refine .inr ⟨_, 1, rfl, Nat.le_refl _, by unfold maxLen; decide, fun j y hy => ?_⟩
  have hj : j < 1 := (List.getElem?_eq_some_iff.1 hy).1
  obtain rfl : j = 0 := by omega
  simp only [List.getElem?_cons_zero, Option.some.injEq] at hy
  subst hy
  refine ⟨cs.toList, by simpa using hk, fun i u hu => ?_, h⟩
  rw [Nat.zero_mul, Nat.zero_add, add_plain', Nat.zero_add]
  have hi : i < cs.size := by have := (List.getElem?_eq_some_iff.1 hu).1; simpa using this
  have : w.cell? ⟨b, i, none⟩ = cs[i]? := by unfold World.cell?; simp [hb]
  rw [this]
  simpa using hu
end

theorem own_setLow {w : World} {B n k : Nat} {e : TypeId} {v : Value} {xs : List Value} (h : w.ownsRow B e k v n xs) {p : Addr} (hp : p.block < B) (x : Value) : (w.setCell p x).ownsRow B e k v n xs := by
  refine ⟨h.1, ?_⟩
  rcases h.2 with h0 | ⟨g, cap, cur, hv, hB, hh, hr⟩
  · exact .inl h0
  · exact .inr ⟨g, cap, cur, hv, hB, (Below.heap_setCell w p x g (by omega)).trans hh, hr⟩
/-- how a thing reads does not hang on memory -/
def Flat {α : Type} (R : Rd α) : Prop := ∀ w w' cs x, R w cs x → R w' cs x
theorem Flat.stays {α : Type} {R : Rd α} (h : Flat R) : Stays R := fun _ _ _ _ _ hR => h _ _ _ _ hR

section
variable {P : Program} {α : Type} {R : Rd α} {k : Nat} {l m : List α} {B : Nat} {e : TypeId}
theorem OwnAt.setLow (hf : Flat R) {w : World} {v : Value} (h : OwnAt R k w B e v l) {p : Addr} (hp : p.block < B) (x : Value) : OwnAt R k (w.setCell p x) B e v l := by
  obtain ⟨css, h1, h2, h3, h4⟩ := h
  exact ⟨css, h1, h2, own_setLow h3 hp x, fun j cs y hcs hy => hf _ _ _ _ (h4 j cs y hcs hy)⟩
theorem OwnAt.grown (hf : Flat R) {w w' : World} {v : Value} (h : OwnAt R k w B e v l) {r : Option Nat} (hg : w.grownBy w' r) (hne : ∀ q, v.ownBlock = some q → some q ≠ r) : OwnAt R k w' B e v l := by
  obtain ⟨css, h1, h2, h3, h4⟩ := h
  refine ⟨css, h1, h2, ⟨h3.1, ?_⟩, fun j cs y hcs hy => hf _ _ _ _ (h4 j cs y hcs hy)⟩
  rcases h3.2 with h5 | ⟨q, cap, cur, rfl, hB, hh, hr⟩
  · exact .inl h5
  · have hq : q < w.heap.size := by
      rcases Nat.lt_or_ge q w.heap.size with h1 | h1
      · exact h1
      · rw [Array.getElem?_eq_none h1] at hh; cases hh
    exact .inr ⟨q, cap, cur, rfl, hB, (hg.block q hq (hne q rfl)).trans hh, hr⟩
theorem nil_of_len {β : Type} {l : List β} (h : l.length = 0) : l = [] := List.eq_nil_of_length_eq_zero h

theorem run_append_ownAt (w : World) (t ty : TypeId) (i : TypeInfo) (z : Value) (bytes : Nat) (ht : P.underlying t = some (.slice e)) (hi : P.info? e = some i) (hz : i.zero = some z) (hsize : i.size = k) (hby : i.bytes = bytes)
    (hzs : z.cells.size = k) (hsz : 0 < k) (hf : Flat R) (h1 : OneR R) (v : Value) (hv : OwnAt R k w B e v l) (x : Value) (hx : RowAt R k w x m) (hlen : l.length + m.length ≤ maxLen)
    (hbytes : (l.length + m.length) * bytes ≤ 140737488355328) (hbase : B ≤ w.heap.size) :
    ∃ v' w', (Builtin.append_ #[t, t] ty #[v, x]).run P w = .ok v' w' ∧ OwnAt R k w' B e v' (l ++ m) ∧ w.grownBy w' v.ownBlock ∧ (∀ g, v.ownBlock = some g → B ≤ g) ∧ (v'.ownBlock = v.ownBlock ∨ v'.ownBlock = some w.heap.size) := by
  obtain ⟨css, c1, c2, c3, c4⟩ := hv
  rcases hx with ⟨rfl, rfl⟩ | ⟨a, c, rfl, hc1, hc2, hc3⟩
  · exact ⟨v, w, run_append_owned_none (P := P) w B t ty e i k ht hi v _ _ c3, ⟨css, by simpa using c1, c2, by simpa using c3, fun j cs y hcs hy => c4 j cs y hcs (by simpa using hy)⟩, World.grownBy.refl w _, fun g hg => (c3.lt g hg).1, .inl rfl⟩
  · obtain ⟨_, ds, d1, d2, d3, d4⟩ := RowAt.cells (R := R) (k := k) (w := w) (l := m) (.inr ⟨a, c, rfl, hc1, hc2, hc3⟩) rfl
    have d6 : ∀ u ∈ ds.flatten, u.oneCell' = true := fun u hu => by
      obtain ⟨cs, hcs, hu'⟩ := List.mem_flatten.1 hu
      obtain ⟨j, hj, rfl⟩ := List.getElem_of_mem hcs
      exact h1 w _ m[j] (d4 j _ _ (List.getElem?_eq_getElem hj) (List.getElem?_eq_getElem (by omega))) u hu'
    obtain ⟨v', w', hrun, r1, r2, _, r4⟩ := run_append_own_at (P := P) w B t ty e i z k bytes ht hi hz hsize hby hzs hsz v l.length css.flatten c3 a m.length c ds.flatten (by rw [flat_len d2, d1]) d3 d6 hlen hbytes hbase
    refine ⟨v', w', hrun, ⟨css ++ ds, by simp [c1, d1], fun cs hcs => (List.mem_append.1 hcs).elim (c2 cs) (d2 cs), by rw [List.flatten_append, List.length_append]; exact r1, fun j cs y hcs hy => ?_⟩, r2, fun g hg => (c3.lt g hg).1, r4⟩
    by_cases hj : j < l.length
    · rw [List.getElem?_append_left (by omega)] at hcs hy
      exact hf _ _ _ _ (c4 j cs y hcs hy)
    · rw [List.getElem?_append_right (by omega)] at hcs hy
      rw [c1] at hcs
      exact hf _ _ _ _ (d4 _ cs y hcs hy)

theorem wpList_append_ownAt (w : World) {ops : Array Oper} {rest : List Oper} {o : Oper} {a : Act} {Q : Exit → Act → World → Prop} (hg : o.guard = none) (s x : Operand) (t : TypeId)
    (ho : o.op = .call { callee := .builtin .append, args := #[s, x], argTypes := #[t, t] })
    (i : TypeInfo) (z : Value) (bytes : Nat) (ht : P.underlying t = some (.slice e)) (hi : P.info? e = some i) (hz : i.zero = some z) (hsize : i.size = k) (hby : i.bytes = bytes) (hzs : z.cells.size = k) (hsz : 0 < k) (hf : Flat R) (h1 : OneR R)
    (v : Value) (hs : a.eval s = v) (hv : OwnAt R k w B e v l) (xv : Value) (hxv : a.eval x = xv) (hx : RowAt R k w xv m) (hlen : l.length + m.length ≤ maxLen)
    (hbytes : (l.length + m.length) * bytes ≤ 140737488355328) (hbase : B ≤ w.heap.size)
    (h : ∀ v' w', OwnAt R k w' B e v' (l ++ m) → w.grownBy w' v.ownBlock → (∀ g, v.ownBlock = some g → B ≤ g) → (v'.ownBlock = v.ownBlock ∨ v'.ownBlock = some w.heap.size) → wpList P ops Q rest (a.put o.dst v') w') : wpList P ops Q (o :: rest) a w := by
  refine wpList_plain hg fun K hK' => ?_
  obtain ⟨v', w', hrun, r1, r2, r3, r4⟩ := run_append_ownAt w t o.type i z bytes ht hi hz hsize hby hzs hsz hf h1 v hv xv hx hlen hbytes hbase
  unfold Oper.wp
  simp [execOp, ho, resolve, invoke, builtin, hs, hxv, hrun, Result.andThen]
  exact hK' _ _ (h v' w' r1 r2 r3 r4)
theorem below_of_grown {B : Nat} {W w w' : World} (h : Below B W w) (hB : B ≤ w.heap.size) {r : Option Nat} (hg : w.grownBy w' r) (hr : ∀ g, r = some g → B ≤ g) : Below B W w' := h.grown hg hB hr
end
theorem own_empty {α : Type} {R : Rd α} (w : World) (k : Nat) (e : TypeId) {B : Nat} (hB : B ≤ w.heap.size) : OwnAt R k (w.alloc (.cells #[] e)) B e (.slice (some ⟨w.heap.size, 0, none⟩) 0 0) [] :=
  ⟨[], rfl, fun _ h => (by cases h), ⟨by simp, .inr ⟨w.heap.size, 0, #[], rfl, hB, heap_alloc_new w _, Nat.le_refl _, by simp, by simp, by simp⟩⟩, fun j cs x h => (by simp at h)⟩
theorem flat_string : Flat RString := fun _ _ _ _ h => h
theorem one_string : OneR RString := fun _ _ _ h u hu => by rw [h] at hu; simp at hu; subst hu; rfl
end Go.Proofs.YtaddcchpidpbfaaDoor
