/- A slice of bytes that lies anywhere in a block of its own: reading, cutting, a text put behind it. Any program. -/
import Derived.Test.YteadfpbkhledlaaKit
import Derived.Lib.AppendStr
import Derived.Laws.AppendOwnNone
import Derived.Laws.OwnMore
namespace Go.Proofs.Yteadfpbkhledlaa
open Go.RowKit

/-- v holds the bytes l, in a block from B on (or is nil) -/
def OffRow (w : World) (B : Nat) (e : TypeId) (v : Value) (l : List UInt8) : Prop :=
  (v = .slice none 0 0 ∧ l = []) ∨
  ∃ b off cap cur, v = .slice (some ⟨b, off, none⟩) l.length cap ∧ B ≤ b ∧ w.heap[b]? = some (.cells cur e (0, 0)) ∧ off + cap ≤ cur.size ∧ l.length ≤ cap ∧ cap ≤ maxLen ∧
    ∀ j, j < l.length → cur[off + j]? = some (.int .u8 ((l.getD j 0).toNat : Int))

section
variable {w w' : World} {B : Nat} {e : TypeId} {v : Value} {l : List UInt8}
theorem OffRow.nil (w : World) (B : Nat) (e : TypeId) : OffRow w B e (.slice none 0 0) [] := .inl ⟨rfl, rfl⟩
theorem OffRow.keep (h : OffRow w B e v l) (hk : ∀ b, v.ownBlock = some b → w'.heap[b]? = w.heap[b]?) : OffRow w' B e v l := by
  rcases h with h | ⟨b, off, cap, cur, rfl, hB, hh, r⟩
  · exact .inl h
  · exact .inr ⟨b, off, cap, cur, rfl, hB, (hk b rfl).trans hh, r⟩
theorem OffRow.lt (h : OffRow w B e v l) : ∀ b, v.ownBlock = some b → B ≤ b ∧ b < w.heap.size := by
  rcases h with ⟨rfl, _⟩ | ⟨b, off, cap, cur, rfl, hB, hh, r⟩
  · intro b hb; simp [Value.ownBlock] at hb
  · intro b' hb
    simp [Value.ownBlock] at hb
    subst hb
    refine ⟨hB, ?_⟩
    rcases Nat.lt_or_ge b w.heap.size with h | h
    · exact h
    · rw [Array.getElem?_eq_none h] at hh; cases hh
theorem OffRow.ne_block (h : OffRow w B e v l) {g : Nat} {cs : Array Value} {t : TypeId} {fr : Nat × Nat} (hg : w.heap[g]? = some (.cells cs t fr)) (hne : e ≠ t) : v.ownBlock ≠ some g := by
  rcases h with ⟨rfl, _⟩ | ⟨b, off, cap, cur, rfl, hB, hh, r⟩
  · simp [Value.ownBlock]
  · intro hb
    simp [Value.ownBlock] at hb
    subst hb
    rw [hh] at hg
    simp only [Option.some.injEq, Obj.cells.injEq] at hg
    exact hne hg.2.1
theorem OffRow.below {B' : Nat} (h : OffRow w B e v l) (hb : Below B' w w') (hB : w.heap.size ≤ B') : OffRow w' B e v l := h.keep fun b hb' => hb.block b (Nat.lt_of_lt_of_le (h.lt b hb').2 hB)
theorem OffRow.len (h : OffRow w B e v l) : ∃ a c, v = .slice a l.length c := by
  rcases h with ⟨rfl, rfl⟩ | ⟨b, off, cap, cur, rfl, _⟩
  · exact ⟨_, _, rfl⟩
  · exact ⟨_, _, rfl⟩
theorem OffRow.of_own (h : w.ownsRow B e 1 v l.length (byteCells l)) : OffRow w B e v l := by
  rcases h.2 with ⟨rfl, h0⟩ | ⟨g, cap, cur, rfl, hB, hh, hn, hm, hs, ht⟩
  · exact .inl ⟨rfl, List.eq_nil_of_length_eq_zero h0⟩
  · refine .inr ⟨g, 0, cap, cur, rfl, hB, hh, by omega, hn, hm, fun j hj => ?_⟩
    have h1 : (cur.toList.take (l.length * 1))[j]? = (byteCells l)[j]? := by rw [ht]
    rw [List.getElem?_take_of_lt (by omega)] at h1
    simp [byteCells, hj] at h1
    simpa [hj] using h1

/-- a cut ahead: s[k:] -/
theorem OffRow.cut {b off cap : Nat} {k : Nat} (h : OffRow w B e (.slice (some ⟨b, off, none⟩) l.length cap) l) (hk : k ≤ l.length) :
    OffRow w B e (.slice (if cap = k then some ⟨b, off, none⟩ else some ⟨b, off + k, none⟩) (l.length - k) (cap - k)) (l.drop k) := by
  rcases h with ⟨h1, _⟩ | ⟨b', off', cap', cur, hv, hB, hh, hs, hl, hm, hc⟩
  · cases h1
  · simp only [Value.slice.injEq, Option.some.injEq, Addr.mk.injEq, and_true, true_and] at hv
    obtain ⟨⟨rfl, rfl⟩, rfl⟩ := hv
    by_cases hck : cap = k
    · rw [if_pos hck]
      have h0 : l.drop k = [] := List.drop_eq_nil_of_le (by omega)
      rw [h0]
      exact .inr ⟨b, off, cap - k, cur, by simp; omega, hB, hh, by omega, by simp, by omega, fun j hj => by simp at hj⟩
    · rw [if_neg hck]
      refine .inr ⟨b, off + k, cap - k, cur, by simp, hB, hh, by omega, by simp; omega, by omega, fun j hj => ?_⟩
      have hj' : j < l.length - k := by simpa using hj
      have := hc (k + j) (by omega)
      rw [show off + k + j = off + (k + j) by omega, this]
      simp [List.getD]
theorem OffRow.cells {b off cap : Nat} (h : OffRow w B e (.slice (some ⟨b, off, none⟩) l.length cap) l) (j : Nat) (hj : j < l.length) : w.cell? ⟨b, off + j, none⟩ = some (.int .u8 ((l.getD j 0).toNat : Int)) := by
  rcases h with ⟨h1, _⟩ | ⟨b', off', cap', cur, hv, hB, hh, hs, hl, hm, hc⟩
  · cases h1
  · simp only [Value.slice.injEq, Option.some.injEq, Addr.mk.injEq, and_true, true_and] at hv
    obtain ⟨⟨rfl, rfl⟩, rfl⟩ := hv
    rw [cell_of_row w b (off + j) cur e (0, 0) hh, hc j hj]
theorem OffRow.form (h : OffRow w B e v l) (hl : 0 < l.length) : ∃ b off cap, v = .slice (some ⟨b, off, none⟩) l.length cap ∧ l.length ≤ cap := by
  rcases h with ⟨_, rfl⟩ | ⟨b, off, cap, cur, rfl, _, _, _, h4, _⟩
  · simp at hl
  · exact ⟨b, off, cap, rfl, h4⟩

theorem strCells_eq (s : ByteArray) : Lib.strCells s = byteCells s.data.toList := rfl
theorem byteCells_getD {l : List UInt8} {j : Nat} (hj : j < l.length) : (byteCells l)[j]? = some (.int .u8 ((l.getD j 0).toNat : Int)) := by simp [byteCells, hj]

theorem run_append_off_string {P : Program} (w : World) (t u ty : TypeId) (i : TypeInfo) (ht : P.underlying t = some (.slice e)) (hu : P.underlying u = some .string) (hi : P.info? e = some i) (hz : i.zero = some (.int .u8 0))
    (hsize : i.size = 1) (hby : i.bytes = 1) (h : OffRow w B e v l) (s : ByteArray) (hlen : l.length + s.size ≤ 1099511627776) (hbase : B ≤ w.heap.size) :
    ∃ v' w', (Builtin.append_ #[t, u] ty #[v, .string s]).run P w = .ok v' w' ∧ OffRow w' B e v' (l ++ s.data.toList) ∧ w.grownBy w' v.ownBlock ∧ (v'.ownBlock = v.ownBlock ∨ v'.ownBlock = some w.heap.size) := by
  have hss : s.data.toList.length = s.size := by simp
  rcases h with ⟨rfl, rfl⟩ | ⟨b, off, cap, cur, rfl, hB, hh, hs, hl, hm, hc⟩
  · obtain ⟨v', w', hr, h2, h3, h4⟩ := Lib.run_append_own_string (P := P) w B t u ty e i ht hu hi hz hsize hby (.slice none 0 0) 0 [] (World.ownsRow_nil w B e 1) s (by unfold maxLen; simp at hlen; omega) (by simp at hlen; omega) hbase
    have h5 : w'.ownsRow B e 1 v' s.data.toList.length (byteCells s.data.toList) := by rw [hss]; simpa [strCells_eq] using h2
    refine ⟨v', w', hr, by simpa using OffRow.of_own h5, h3, ?_⟩
    rcases h5.2 with ⟨rfl, _⟩ | ⟨g, cap, cur, rfl, _, hh, _⟩
    · exact .inl rfl
    · right
      have hz0 : ¬ s.size = 0 ∨ s.size = 0 := by omega
      rcases hz0 with hz0 | hz0
      · have hrn := run_append_nil_string (P := P) w t u ty e i (.int .u8 0) ht hu hi hz s (by omega) (by simp at hlen; omega) (by rw [hby]; simp at hlen; omega)
        rw [hrn] at hr
        simp only [Result.ok.injEq, Value.slice.injEq, Option.some.injEq, Addr.mk.injEq] at hr
        simp [Value.ownBlock, ← hr.1.1.1]
      · have := h4.2 ⟨rfl, hz0⟩
        cases this
  · by_cases hroom : l.length + s.size ≤ cap
    · have hf := Lib.run_firstCells_string (P := P) w 1 s
      have hst := run_storeCells_at P b (off + l.length) e (Lib.strCells s) 0 cur w hh (by rw [Lib.strCells_length]; omega) (Lib.strCells_oneCell s)
      simp only [Nat.add_zero, Lib.strCells_length] at hst
      refine ⟨.slice (some ⟨b, off, none⟩) (l.length + s.size) cap, w.setRow b (cur.toList.take (off + l.length) ++ Lib.strCells s ++ cur.toList.drop (off + l.length + s.size)).toArray, ?_, .inr ⟨b, off, cap, _, by simp, hB, setRow_heap w b cur _ e _ hh, ?_, by simp; omega, hm, fun j hj => ?_⟩,
        ⟨rfl, rfl, rfl, by simp, fun k _ hk => setRow_other w b k _ (fun e => hk (by simp [Value.ownBlock, e]))⟩, .inl rfl⟩
      · have ha : (⟨b, off, none⟩ : Addr).add l.length = ⟨b, off + l.length, none⟩ := by unfold Addr.add; split <;> simp_all
        simp [Builtin.append_, run_underlying ht, run_underlying hu, sizeOf, typeInfo, hi, hsize, Builtin.lenOf, hroom, hf, ha, hst]
      · simp only [List.size_toArray, List.length_append, List.length_take, List.length_drop, Array.length_toList, Lib.strCells_length]; omega
      · simp only [List.getElem?_toArray, strCells_eq]
        by_cases hjl : j < l.length
        · rw [List.append_assoc, List.getElem?_append_left (by simp; omega), List.getElem?_take_of_lt (by omega), Array.getElem?_toList, hc j hjl]
          simp [List.getD, List.getElem?_append_left hjl]
        · have hj2 : j - l.length < s.data.toList.length := by simp at hj; omega
          rw [List.append_assoc, List.getElem?_append_right (by simp; omega), List.getElem?_append_left (by simp [byteCells]; omega)]
          have hmin : min (off + l.length) cur.size = off + l.length := by omega
          rw [show off + j - (cur.toList.take (off + l.length)).length = j - l.length by simp [hmin]; omega, byteCells_getD hj2]
          simp only [List.getD]
          rw [List.getElem?_append_right (by omega)]
    · have hr := Lib.run_append_grow_string (P := P) w t u ty e i (.int .u8 0) ht hu hi hz ⟨b, off, none⟩ l.length cap (byteCells l) (by rw [hsize]; simp [byteCells]) (fun j v hv => by
          have hjl : j < l.length := by have := (List.getElem?_eq_some_iff.1 hv).1; simpa [byteCells] using this
          have ha : (⟨b, off, none⟩ : Addr).add j = ⟨b, off + j, none⟩ := by unfold Addr.add; split <;> simp_all
          rw [ha, cell_of_row w b (off + j) cur e (0, 0) hh, hc j hjl, ← byteCells_getD hjl, hv]) s (by omega) (by omega) (by rw [hby]; exact growslice_fits (by omega) (by omega))
      have hge := grownCap_ge w (l.length + s.size) cap e
      have hcm : grownCap w (l.length + s.size) cap e ≤ maxLen := grownCap_le_maxLen w (l.length + s.size) cap e (by unfold maxLen; omega)
      refine ⟨_, _, hr, .inr ⟨w.heap.size, 0, _, _, by simp, hbase, heap_alloc_new w.drew _, ?_, by simp; omega, hcm, fun j hj => ?_⟩, ⟨rfl, rfl, rfl, by simp, fun k hk _ => Below.heap_alloc w.drew _ k hk⟩, .inr rfl⟩
      · have hz1 : (Value.int IntKind.u8 0).cells.size = 1 := rfl
        simp only [Array.size_append, List.size_toArray, size_zeroCells, hz1, Lib.strCells_length, byteCells_length]
        omega
      · have hj' : j < (byteCells l).length + (Lib.strCells s).length := by rw [byteCells_length, Lib.strCells_length]; simpa using hj
        rw [Nat.zero_add, Array.getElem?_append_left (by simpa using hj')]
        simp only [List.append_toArray, List.getElem?_toArray]
        rw [strCells_eq, ← byteCells_append]
        exact byteCells_getD hj

theorem wpList_append_off_string {P : Program} (w : World) {ops : Array Oper} {rest : List Oper} {o : Oper} {a : Act} {Q : Exit → Act → World → Prop} (hgd : o.guard = none) (sl x : Operand) (t u : TypeId)
    (ho : o.op = .call { callee := .builtin .append, args := #[sl, x], argTypes := #[t, u] })
    (i : TypeInfo) (ht : P.underlying t = some (.slice e)) (hu : P.underlying u = some .string) (hi : P.info? e = some i) (hz : i.zero = some (.int .u8 0))
    (hsize : i.size = 1) (hby : i.bytes = 1) (v : Value) (hs : a.eval sl = v) (hrow : OffRow w B e v l) (s : ByteArray) (hx : a.eval x = .string s) (hlen : l.length + s.size ≤ 1099511627776) (hbase : B ≤ w.heap.size)
    (h : ∀ v' w', OffRow w' B e v' (l ++ s.data.toList) → w.grownBy w' v.ownBlock → (v'.ownBlock = v.ownBlock ∨ v'.ownBlock = some w.heap.size) → wpList P ops Q rest (a.put o.dst v') w') : wpList P ops Q (o :: rest) a w := by
  refine wpList_plain hgd fun K hK => ?_
  obtain ⟨v', w', hr, h2, h3, h4⟩ := run_append_off_string (P := P) w t u o.type i ht hu hi hz hsize hby hrow s hlen hbase
  unfold Oper.wp execOp
  simp only [ho, resolve, invoke, builtin, Sem.run_bind, Sem.run_pure, Result.andThen_ok, List.map_toArray, List.map_cons, List.map_nil, hs, hx, hr]
  exact hK _ _ (h v' w' h2 h3 h4)

def spliced (cur : Array Value) (off : Nat) (cells : Array Value) : Array Value := (cur.toList.take off ++ cells.toList ++ cur.toList.drop (off + cells.size)).toArray
/-- an array stored into the midst of a block -/
theorem wpList_store_at {P : Program} {ops : Array Oper} {rest : List Oper} {o : Oper} {a : Act} {w : World} {Q : Exit → Act → World → Prop} (hgd : o.guard = none) (ty : TypeId) (x y : Operand) (ho : o.op = .store ty x y)
    (g off : Nat) (cells : Array Value) (hx : a.eval x = .pointer (some ⟨g, off, none⟩)) (hy : a.eval y = .agg cells)
    (t : TypeId) (cur : Array Value) (hg : w.heap[g]? = some (.cells cur t (0, 0))) (hi : (P.info? ty).map (·.size) = some cells.size)
    (hfit : off + cells.size ≤ cur.size) (h1 : cells.all (·.oneCell') = true)
    (h : wpList P ops Q rest (a.put o.dst undef) (w.setRow g (spliced cur off cells))) : wpList P ops Q (o :: rest) a w := by
  refine wpList_plain hgd fun K hK => ?_
  have hst := run_storeCells_at P g off t cells.toList 0 cur w hg (by simpa using hfit) (fun v hv => (Array.all_eq_true_iff_forall_mem.1 h1) v (by simpa using hv))
  simp only [Nat.add_zero, Array.length_toList] at hst
  cases hq : P.info? ty with
  | none => simp [hq] at hi
  | some i =>
    have hs : i.size = cells.size := by simpa [hq] using hi
    have hrun : (storeVar ty ⟨g, off, none⟩ (.agg cells)).run P w = .ok () (w.setRow g (cur.toList.take off ++ cells.toList ++ cur.toList.drop (off + cells.size)).toArray) := by
      simp [storeVar, sizeOf, typeInfo, hq, Value.cells, hs, hst]
    unfold Oper.wp execOp
    simp only [ho, hx, hy, Instr.storeAt, Instr.sureAddr, Sem.run_bind, Sem.run_pure, Result.andThen_ok, hrun]
    exact hK _ _ h

/-- a whole block loaded: the run of the operation -/
theorem exec_load_row {P : Program} {ρ : Operand → Value} {o : Oper} (w : World) (ty : TypeId) (x : Operand) (ho : o.op = .load ty x) (g : Nat) (hx : ρ x = .pointer (some ⟨g, 0, none⟩))
    (t : TypeId) (cs : Array Value) (fr : Nat × Nat) (d : TypeDesc) (hg : w.heap[g]? = some (.cells cs t fr))
    (hu : P.underlying ty = some d) (hd : (match d with | .struct _ | .array _ _ => true | _ => false) = true) (hi : (P.info? ty).map (·.size) = some cs.size) :
    (execOp ρ o).run P w = .ok (.value (.agg cs)) w := by
  unfold execOp
  simp only [ho, hx, Instr.loadAt, Instr.sureAddr, Sem.run_bind, Sem.run_pure, Result.andThen_ok, run_loadVar_row w g t ty cs fr d hg hu hd hi]

/-- a row of bytes (or nil) put behind a row of the call's own -/
theorem wpList_append_row {P : Program} {B : Nat} {e : TypeId} {l m : List UInt8} (w : World) {ops : Array Oper} {rest : List Oper} {o : Oper} {a : Act} {Q : Exit → Act → World → Prop} (hgd : o.guard = none) (s x : Operand) (t : TypeId)
    (ho : o.op = .call { callee := .builtin .append, args := #[s, x], argTypes := #[t, t] })
    (base : Nat) (i : TypeInfo) (ht : P.underlying t = some (.slice e)) (hi : P.info? e = some i) (hz : i.zero = some (.int .u8 0))
    (hsize : i.size = 1) (hby : i.bytes = 1) (v : Value) (n : Nat) (hs : a.eval s = v) (hown : w.ownsRow base e 1 v n (byteCells l)) (xv : Value) (hx : a.eval x = xv) (hrow : OffRow w B e xv m)
    (hlen : n + m.length ≤ 1099511627776) (hbase : base ≤ w.heap.size)
    (h : ∀ v' w', w'.ownsRow base e 1 v' (n + m.length) (byteCells (l ++ m)) → w.grownBy w' v.ownBlock → wpList P ops Q rest (a.put o.dst v') w') : wpList P ops Q (o :: rest) a w := by
  rcases hrow with ⟨rfl, rfl⟩ | ⟨b, off, cap, cur, rfl, hB, hh, hs', hc, hmx, hcel⟩
  · exact wpList_append_own_none hgd s x t ho base e i 1 ht hi v n _ hs hown hx (h v w (by simpa using hown) (World.grownBy.refl w _))
  · refine wpList_append_own w hgd s x t ho base e i _ 1 1 ht hi hz hsize hby rfl (by omega) v n _ hs hown ⟨b, off, none⟩ m.length cap (byteCells m) hx (by simp [byteCells]) (fun j u hu => ?_) (by simp [byteCells]; intros; subst_vars; rfl) (by unfold maxLen; omega) (by omega) hbase
      (fun v' w' h2 h3 _ => h v' w' (by rw [byteCells_append]; exact h2) h3)
    have hj : j < m.length := by have := (List.getElem?_eq_some_iff.1 hu).1; simpa [byteCells] using this
    have ha : (⟨b, off, none⟩ : Addr).add j = ⟨b, off + j, none⟩ := by unfold Addr.add; split <;> simp_all
    rw [ha, cell_of_row w b (off + j) cur _ (0, 0) hh, hcel j hj, ← hu, byteCells_getD hj]

/-- one byte more -/
theorem own_snoc {w1 : World} {B n : Nat} {e : TypeId} {v1 : Value} {b : List UInt8} {x : UInt8} {z : Int} (h : w1.ownsRow B e 1 v1 (n + 1) (byteCells b ++ [Value.int .u8 z])) (hz : z = (x.toNat : Int)) :
    w1.ownsRow B e 1 v1 (n + 1) (byteCells (b ++ [x])) := by
  subst hz
  rw [byteCells_append]
  simpa [byteCells] using h
theorem Below.trans' {B B' : Nat} {a b c : World} (h : Below B a b) (k : Below B' b c) (hB : B ≤ B') : Below B a c := h.trans (k.mono hB)
end
end Go.Proofs.Yteadfpbkhledlaa
