/- Slices of the call's own whose things look into memory: append, where what they look into lies in blocks of another element type. Any program. -/
import Derived.Test.YtaddcchpidpbfaaDoorRow
import Derived.Test.YtaddcchpidpbfaaDoorBox
namespace Go.Proofs.YtaddcchpidpbfaaDoor
open Go.RowKit

/-- blocks of every element type but e stay -/
def SameBut (e : TypeId) (w w' : World) : Prop := ∀ (b : Nat) (cs : Array Value) (t : TypeId) (fr : Nat × Nat), w.heap[b]? = some (.cells cs t fr) → t ≠ e → w'.heap[b]? = some (.cells cs t fr)
theorem sameBut_below {e : TypeId} {w w' : World} (h : Below w.heap.size w w') : SameBut e w w' := fun _ _ _ _ hb _ => below_block h hb
theorem SameBut.trans {e : TypeId} {a b c : World} (h : SameBut e a b) (k : SameBut e b c) : SameBut e a c := fun q cs t fr hq ht => k q cs t fr (h q cs t fr hq ht) ht
/-- a reading that does not look into blocks of type e -/
def StaysX {α : Type} (e : TypeId) (R : Rd α) : Prop := ∀ w w' cs x, SameBut e w w' → R w cs x → R w' cs x
/-- the reading at a world that is kept in mind -/
def AtW {α : Type} (w0 : World) (R : Rd α) : Rd α := fun _ cs x => R w0 cs x
theorem flat_atW {α : Type} (w0 : World) (R : Rd α) : Flat (AtW w0 R) := fun _ _ _ _ h => h
theorem one_atW {α : Type} {R : Rd α} (w0 : World) (h : OneR R) : OneR (AtW w0 R) := fun _ cs x hx u hu => h w0 cs x hx u hu
theorem RowAt.atW {α : Type} {R : Rd α} {k : Nat} {w w' : World} {v : Value} {l : List α} (h : RowAt R k w v l) (hb : Below w.heap.size w w') : RowAt (AtW w R) k w' v l := by
  rcases h with h | ⟨a, c, h1, h2, h3, h4⟩
  · exact .inl h
  · exact .inr ⟨a, c, h1, h2, h3, fun j x hx => by
      obtain ⟨cs, g1, g2, g3⟩ := h4 j x hx
      exact ⟨cs, g1, fun i u hu => keeps_below hb _ _ (g2 i u hu), g3⟩⟩
theorem RowAt.ofW {α : Type} {R : Rd α} {k : Nat} {w w' : World} {v : Value} {l : List α} (hs : Stays R) (h : RowAt (AtW w R) k w' v l) (hb : Below w.heap.size w w') : RowAt R k w' v l := by
  rcases h with h | ⟨a, c, h1, h2, h3, h4⟩
  · exact .inl h
  · exact .inr ⟨a, c, h1, h2, h3, fun j x hx => by
      obtain ⟨cs, g1, g2, g3⟩ := h4 j x hx
      exact ⟨cs, g1, g2, hs _ _ _ _ (keeps_below hb) g3⟩⟩
section
variable {α : Type} {R : Rd α} {k : Nat} {w w' : World} {v : Value} {l m : List α} {B : Nat} {e : TypeId}
theorem OwnAt.sameBut (h : OwnAt R k w B e v l) (hg : w.grownBy w' v.ownBlock) : SameBut e w w' := fun b cs t fr hb ht => by
  have hlt : b < w.heap.size := by
    rcases Nat.lt_or_ge b w.heap.size with h1 | h1
    · exact h1
    · rw [Array.getElem?_eq_none h1] at hb; cases hb
  refine (hg.block b hlt fun hv => ?_).trans hb
  obtain ⟨_, _, cur, hc⟩ := h.at hv.symm
  rw [hb] at hc
  cases hc
  exact ht rfl
theorem OwnAt.belowX (hs : StaysX e R) (h : OwnAt R k w B e v l) (hb : Below w.heap.size w w') : OwnAt R k w' B e v l := by
  obtain ⟨css, h1, h2, h3, h4⟩ := h
  exact ⟨css, h1, h2, own_below' h3 hb, fun j cs y hcs hy => hs _ _ _ _ (sameBut_below hb) (h4 j cs y hcs hy)⟩
end
section
variable {P : Program} {α : Type} {R : Rd α} {k : Nat} {l m : List α} {B : Nat} {e : TypeId}
theorem run_append_ownAtX (w : World) (t ty : TypeId) (i : TypeInfo) (z : Value) (bytes : Nat) (ht : P.underlying t = some (.slice e)) (hi : P.info? e = some i) (hz : i.zero = some z) (hsize : i.size = k) (hby : i.bytes = bytes)
    (hzs : z.cells.size = k) (hsz : 0 < k) (hf : StaysX e R) (h1 : OneR R) (v : Value) (hv : OwnAt R k w B e v l) (x : Value) (hx : RowAt R k w x m) (hlen : l.length + m.length ≤ maxLen)
    (hbytes : (l.length + m.length) * bytes ≤ 140737488355328) (hbase : B ≤ w.heap.size) :
    ∃ v' w', (Builtin.append_ #[t, t] ty #[v, x]).run P w = .ok v' w' ∧ OwnAt R k w' B e v' (l ++ m) ∧ w.grownBy w' v.ownBlock ∧ (∀ g, v.ownBlock = some g → B ≤ g) ∧ (v'.ownBlock = v.ownBlock ∨ v'.ownBlock = some w.heap.size) := by
  have hv0 := hv
  obtain ⟨css, c1, c2, c3, c4⟩ := hv
  rcases hx with ⟨rfl, rfl⟩ | ⟨a, c, rfl, hc1, hc2, hc3⟩
  · exact ⟨v, w, run_append_owned_none (P := P) w B t ty e i k ht hi v _ _ c3, ⟨css, by simpa using c1, c2, by simpa using c3, fun j cs y hcs hy => c4 j cs y hcs (by simpa using hy)⟩, World.grownBy.refl w _, fun g hg => (c3.lt g hg).1, .inl rfl⟩
  · obtain ⟨_, ds, d1, d2, d3, d4⟩ := RowAt.cells (R := R) (k := k) (w := w) (l := m) (.inr ⟨a, c, rfl, hc1, hc2, hc3⟩) rfl
    have d6 : ∀ u ∈ ds.flatten, u.oneCell' = true := fun u hu => by
      obtain ⟨cs, hcs, hu'⟩ := List.mem_flatten.1 hu
      obtain ⟨j, hj, rfl⟩ := List.getElem_of_mem hcs
      exact h1 w _ m[j] (d4 j _ _ (List.getElem?_eq_getElem hj) (List.getElem?_eq_getElem (by omega))) u hu'
    obtain ⟨v', w', hrun, r1, r2, _, r4⟩ := run_append_own_at (P := P) w B t ty e i z k bytes ht hi hz hsize hby hzs hsz v l.length css.flatten c3 a m.length c ds.flatten (by rw [flat_len d2, d1]) d3 d6 hlen hbytes hbase
    have hsm := hv0.sameBut r2
    refine ⟨v', w', hrun, ⟨css ++ ds, by simp [c1, d1], fun cs hcs => (List.mem_append.1 hcs).elim (c2 cs) (d2 cs), by rw [List.flatten_append, List.length_append]; exact r1, fun j cs y hcs hy => ?_⟩, r2, fun g hg => (c3.lt g hg).1, r4⟩
    by_cases hj : j < l.length
    · rw [List.getElem?_append_left (by omega)] at hcs hy
      exact hf _ _ _ _ hsm (c4 j cs y hcs hy)
    · rw [List.getElem?_append_right (by omega)] at hcs hy
      rw [c1] at hcs
      exact hf _ _ _ _ hsm (d4 _ cs y hcs hy)
theorem wpList_append_ownAtX (w : World) {ops : Array Oper} {rest : List Oper} {o : Oper} {a : Act} {Q : Exit → Act → World → Prop} (hg : o.guard = none) (s x : Operand) (t : TypeId)
    (ho : o.op = .call { callee := .builtin .append, args := #[s, x], argTypes := #[t, t] })
    (i : TypeInfo) (z : Value) (bytes : Nat) (ht : P.underlying t = some (.slice e)) (hi : P.info? e = some i) (hz : i.zero = some z) (hsize : i.size = k) (hby : i.bytes = bytes) (hzs : z.cells.size = k) (hsz : 0 < k) (hf : StaysX e R) (h1 : OneR R)
    (v : Value) (hs : a.eval s = v) (hv : OwnAt R k w B e v l) (xv : Value) (hxv : a.eval x = xv) (hx : RowAt R k w xv m) (hlen : l.length + m.length ≤ maxLen)
    (hbytes : (l.length + m.length) * bytes ≤ 140737488355328) (hbase : B ≤ w.heap.size)
    (h : ∀ v' w', OwnAt R k w' B e v' (l ++ m) → w.grownBy w' v.ownBlock → (∀ g, v.ownBlock = some g → B ≤ g) → (v'.ownBlock = v.ownBlock ∨ v'.ownBlock = some w.heap.size) → wpList P ops Q rest (a.put o.dst v') w') : wpList P ops Q (o :: rest) a w := by
  refine wpList_plain hg fun K hK' => ?_
  obtain ⟨v', w', hrun, r1, r2, r3, r4⟩ := run_append_ownAtX w t o.type i z bytes ht hi hz hsize hby hzs hsz hf h1 v hv xv hx hlen hbytes hbase
  unfold Oper.wp
  simp [execOp, ho, resolve, invoke, builtin, hs, hxv, hrun, Result.andThen]
  exact hK' _ _ (h v' w' r1 r2 r3 r4)
end
/-- texts that lie in blocks of another type than e -/
def StrX (e : TypeId) (w : World) (v : Value) (l : List ByteArray) : Prop := StrAt w v l ∧ (0 < l.length → ∃ (b o n c : Nat) (cs : Array Value) (t : TypeId) (fr : Nat × Nat), v = .slice (some ⟨b, o, none⟩) n c ∧ w.heap[b]? = some (.cells cs t fr) ∧ t ≠ e)
theorem StrX.stays {e : TypeId} {w w' : World} {v : Value} {l : List ByteArray} (h : StrX e w v l) (hs : SameBut e w w') : StrX e w' v l := by
  obtain ⟨h1, h2⟩ := h
  refine ⟨?_, fun hl => ?_⟩
  · rcases h1 with h3 | ⟨a, c, rfl, h3, h4, h5⟩
    · exact .inl h3
    · refine .inr ⟨a, c, rfl, h3, h4, fun j x hx => ?_⟩
      have hl : 0 < l.length := by have := (List.getElem?_eq_some_iff.1 hx).1; omega
      obtain ⟨b, o, n, c', cs, t, fr, hv, hb, ht⟩ := h2 hl
      cases hv
      have h6 := h5 j x hx
      have hb' := hs b cs t fr hb ht
      rw [add_plain'] at h6 ⊢
      rw [World.cell?_of_block (a := ⟨b, o + j, none⟩) (w := w) (w' := w') (by show w'.heap[b]? = w.heap[b]?; rw [hb, hb'])]
      exact h6
  · obtain ⟨b, o, n, c', cs, t, fr, hv, hb, ht⟩ := h2 hl
    exact ⟨b, o, n, c', cs, t, fr, hv, hs b cs t fr hb ht, ht⟩
theorem OwnAt.strX {e t : TypeId} {w : World} {B : Nat} {v : Value} {l : List ByteArray} (h : OwnAt RString 1 w B t v l) (ht : t ≠ e) : StrX e w v l := by
  refine ⟨h.row.strs, fun hl => ?_⟩
  rcases h.form with ⟨_, rfl⟩ | ⟨g, c, rfl, _, _, _, _⟩
  · simp at hl
  · obtain ⟨_, _, cur, hc⟩ := h.at (g := g) rfl
    exact ⟨g, 0, _, c, cur, t, _, rfl, hc, ht⟩
end Go.Proofs.YtaddcchpidpbfaaDoor
