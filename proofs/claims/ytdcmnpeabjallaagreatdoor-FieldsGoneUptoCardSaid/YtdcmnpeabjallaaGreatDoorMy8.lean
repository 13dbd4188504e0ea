/- Texts of ours joined. -/
import Derived.Test.YtdcmnpeabjallaaGreatDoorMy7
set_option linter.unusedVariables false
set_option linter.unusedSimpArgs false
namespace Go.Proofs.YtdcmnpeabjallaaGreatDoor
open Go.RowKit Go.ChangeMaps Go.MapKept Go.WideMaps
open Go.WideElems (Fit rd rg pl rd_val rd_key rg_of rd_mk other_key)
open Go.Maps (Keyed)
section
variable {P : Program} (w : World) {ops : Array Oper} {rest : List Oper} {o : Oper} {a : Act} {Q : Exit → Act → World → Prop}
theorem wpList_store_mapS (hg : o.guard = none) (m x v : Operand) (t : TypeId) (hop : o.op = Op.mapUpdate t m x v) (K e : TypeId) (hk : P.underlying K = some .string) (ht : P.underlying t = some (.map K e)) (b n : Nat) (f : KB → Option Value)
    (hm : a.eval m = .map (some b)) (h : MapS P K w b n f) (hn : n < maxLen) (s : ByteArray) (hs : s.size ≤ maxLen) (hx : a.eval x = .string s) (u : Value) (hv : a.eval v = u)
    (hK : ∀ w', MapS P K w' b (n + 1) (updF f s.data.toList u) → w.mapTurned w' b → wpList P ops Q rest (a.put o.dst undef) w') : wpList P ops Q (o :: rest) a w := by
  refine wpList_plain hg fun K' hK' => ?_
  obtain ⟨w', hrun, r1, r2⟩ := h.store hk ht hn s hs u
  unfold Oper.wp
  simp [execOp, hop, hm, hx, hv, hrun, Result.andThen]
  exact hK' _ _ (hK w' r1 r2)
end
def RangeS (P : Program) (K : TypeId) (w : World) (b r n : Nat) (f : KB → Option Value) (left : KB → Bool) (cnt : Nat) : Prop := ∃ (D : DataW Value) (L : Lit → Bool), w.ranges P K rawE b r n D L cnt ∧ (∀ k, f k = lookD D k) ∧ ∀ k, left k = L (kb k)
theorem lookD_has {P : Program} {K : TypeId} (hk : P.underlying K = some .string) {w : World} {b n : Nat} {D : DataW Value} (h : w.ownsMap P K rawE b n D) (k : KB) : (lookD D k).isSome = Maps.has D (kb k) := by
  obtain ⟨ks, _, h2, _⟩ := MapS.keys (f := lookD D) ⟨D, h, fun _ => rfl⟩ hk
  cases hh : Maps.has D (kb k) with
  | false => unfold lookD; rw [hh]; rfl
  | true =>
    obtain ⟨ms, clock, hb, F, hs, hD2⟩ := h
    rw [hD2] at hh
    obtain ⟨q, hq, hq2⟩ := atKey_mem hh
    obtain ⟨x, hx, hx2⟩ := List.mem_map.1 (mem_sorted.1 hq)
    obtain ⟨y, hy⟩ := F.reads x hx
    obtain ⟨z, hz, hz2⟩ := rd_val hy
    rw [rg_of hy] at hx2
    unfold lookD
    rw [hD2, if_pos hh, hq2, ← hx2, hz2]
    unfold rawE at hz
    rw [← Option.some.inj hz]; rfl
section
variable {P : Program} {K e t : TypeId} {w w' : World} {b r n cnt : Nat} {f : KB → Option Value} {left : KB → Bool}
theorem RangeS.map (h : RangeS P K w b r n f left cnt) : MapS P K w b n f := let ⟨D, _, h1, h2, _⟩ := h; ⟨D, h1.owns, h2⟩
theorem RangeS.ne (h : RangeS P K w b r n f left cnt) : r ≠ b := let ⟨_, _, h1, _⟩ := h; h1.ne
theorem RangeS.lt (h : RangeS P K w b r n f left cnt) : r < w.heap.size := let ⟨_, _, h1, _⟩ := h; h1.lt
theorem RangeS.kept {row : Option Nat} (h : RangeS P K w b r n f left cnt) (hg : w.grownBy w' row) (hb : some b ≠ row) (hr : some r ≠ row) : RangeS P K w' b r n f left cnt := let ⟨D, L, h1, h2⟩ := h; ⟨D, L, h1.kept hg hb hr, h2⟩
theorem RangeS.block (h : RangeS P K w b r n f left cnt) (hb : w'.heap[b]? = w.heap[b]?) (hr : w'.heap[r]? = w.heap[r]?) : RangeS P K w' b r n f left cnt := by
  obtain ⟨D, L, ⟨es, clock, since, seen, c0, h1, h3, h4, h5, h6, h7⟩, h2⟩ := h
  exact ⟨D, L, ⟨es, clock, since, seen, c0, hb.trans h1, h3, h4, h5, hr.trans h6, h7⟩, h2⟩
theorem RangeS.belowW (h : RangeS P K w b r n f left cnt) (hb : Below w.heap.size w w') : RangeS P K w' b r n f left cnt := h.block (hb.block b h.map.lt) (hb.block r h.lt)
theorem MapS.range (h : MapS P K w b n f) (hk : P.underlying K = some .string) (ht : P.underlying t = some (.map K e)) :
    ∃ w', (Instr.range t (.map (some b))).run P w = .ok (.pointer (some ⟨w.heap.size, 0, none⟩)) w' ∧ (∃ cnt, RangeS P K w' b w.heap.size n f (fun k => (f k).isSome) cnt) ∧ w.grownBy w' none ∧ w'.heap.size = w.heap.size + 1 := by
  obtain ⟨D, h1, h2⟩ := h
  obtain ⟨w', r1, r2, r3, r4⟩ := h1.range (Maps.string_keyed hk) ht
  exact ⟨w', r1, ⟨_, D, _, r2, h2, fun k => by show (f k).isSome = _; rw [h2, lookD_has hk h1]⟩, r3, r4⟩
theorem RangeS.next (h : RangeS P K w b r n f left cnt) (hk : P.underlying K = some .string) (ty : TypeId) :
    ((∀ k, left k = false) ∧ (Instr.next (.pointer (some ⟨r, 0, none⟩)) false ty).run P w = .ok (.tuple #[.bool false]) w) ∨
    ∃ (s : ByteArray) (v : Value) (w' : World) (cnt' : Nat), s.size ≤ maxLen ∧ left s.data.toList = true ∧ f s.data.toList = some v ∧ (Instr.next (.pointer (some ⟨r, 0, none⟩)) false ty).run P w = .ok (.tuple #[.bool true, .string s, v]) w' ∧
      RangeS P K w' b r n f (fun k => left k && !decide (k = s.data.toList)) cnt' ∧ cnt' < cnt ∧ w.grownBy w' (some r) ∧ w'.heap.size = w.heap.size ∧ (Instr.entry (.pointer (some ⟨r, 0, none⟩))).run P w' = .ok (.tuple #[.string s, v]) w' := by
  obtain ⟨D, L, h1, h2, h3⟩ := h
  rcases h1.next (Maps.string_keyed hk) ty with ⟨_, hl, hrun⟩ | ⟨key, v, kl, y, w', cnt', hkey, hlk, hv, hat, hrun, hrg, hlt, hgr, hsz, hen⟩
  · exact .inl ⟨fun k => by rw [h3]; exact hl _, hrun⟩
  · obtain ⟨s, rfl, rfl, hs⟩ := keyed_is hk hkey
    refine .inr ⟨s, v, w', cnt', hs, by rw [h3]; exact hlk, ?_, hrun, ⟨D, _, hrg, h2, fun k => ?_⟩, hlt, hgr, hsz, hen⟩
    · have hy : y.1 = .held v := by unfold rawE at hv; rw [← Option.some.inj hv]
      have hh : Maps.has D (kb s.data.toList) = true := by
        cases hh : Maps.has D (kb s.data.toList) with
        | true => rfl
        | false =>
          have h4 := hat .nil
          rw [Maps.atKey_of_not_has hh, hy] at h4
          cases h4
      rw [h2]
      unfold lookD
      rw [if_pos hh, hat, hy]; rfl
    · show (left k && _) = (L (kb k) && _)
      rw [h3, kb_same]
theorem leftOf_size (es : Array MapEntry) (seen : Array Nat) : (leftOf es seen).size = es.toList.countP fun e => !seen.contains e.born := by
  unfold leftOf
  rw [List.countP_eq_length_filter, ← Array.toList_filter, Array.length_toList]
theorem countP_set {α : Type} (p : α → Bool) : ∀ (l : List α) (j : Nat) (x y : α), l[j]? = some x → p y = p x → (l.set j y).countP p = l.countP p
  | [], _, _, _, h, _ => by simp at h
  | z :: r, 0, x, y, h, hp => by simp at h; subst h; rw [List.set_cons_zero, List.countP_cons, List.countP_cons, hp]
  | z :: r, j + 1, x, y, h, hp => by
    rw [List.getElem?_cons_succ] at h
    rw [List.set_cons_succ, List.countP_cons, List.countP_cons, countP_set p r j x y h hp]
theorem RangeS.store (h : RangeS P K w b r n f left cnt) (hk : P.underlying K = some .string) (ht : P.underlying t = some (.map K e)) (hn : n < maxLen) (s : ByteArray) (hs : s.size ≤ maxLen) (hf : (f s.data.toList).isSome = true) (v : Value) :
    ∃ w', (Instr.mapUpdate t (.map (some b)) (.string s) v).run P w = .ok () w' ∧ RangeS P K w' b r n (updF f s.data.toList v) left cnt ∧ w.mapTurned w' b := by
  have hK := Maps.string_keyed (P := P) hk
  have hkey := keyOf_string_mk (P := P) hk hs
  obtain ⟨D, L, h1, h2, h3⟩ := h
  have hown := h1.owns
  have hhas : Maps.has D (kb s.data.toList) = true := by rw [← lookD_has hk hown, ← h2]; exact hf
  have hput := fun z => lookD_put (D := D) hown.isMap s.data.toList z v
  have hne := h1.ne
  obtain ⟨es, clock, since, seen, c0, hb, F, hsz, hD, hr, hold, hcnt, hl1, hl2, hsc, hsk⟩ := h1
  obtain ⟨es', clock', hrun, F', hsort, _⟩ := Maps.fit_store (R' := rawE) hK ht hb F (Nat.lt_of_le_of_lt hsz hn) (fun _ _ _ _ hz => hz) hkey (val := v) (yv := (.held v, [])) rfl
  rcases hK.find w hkey es.toList F.keys with ⟨q1, q2⟩ | ⟨j, e0, q1, q2, q3⟩
  · exfalso
    rw [hD] at hhas
    obtain ⟨q, hq, hsame⟩ := List.any_eq_true.1 hhas
    obtain ⟨x, hx, hx2⟩ := List.mem_map.1 (mem_sorted.1 hq)
    obtain ⟨y, hy⟩ := F.reads x hx
    rw [rg_of hy] at hx2
    have h8 := WideAt.sameKey_eq hsame
    rw [← hx2] at h8
    have h7 := rd_key hy
    rw [h8] at h7
    exact q2 x hx (hK.inj h7 hkey)
  · have hj : es[j]? = some e0 := by simpa using q2
    have hrun2 : (Instr.mapUpdate t (.map (some b)) (.string s) v).run P w = .ok () (setBlock w b (.map (es.modify j fun e' => { e' with key := .string s, val := v }) clock)) := by
      simp [Instr.mapUpdate, run_underlying ht, MapKept.run_getObj_map hb, hK.check w false hkey, q1, hj, q3, hK.stays w hkey, MapKept.run_setObj_map _ hb, Result.andThen, setBlock]
    have heq : es' = (es.modify j fun e' => { e' with key := .string s, val := v }) ∧ clock' = clock := by
      have := hrun.symm.trans hrun2
      injection this with _ this
      have h9 := heap_setBlock_same (o := .map es' clock') hb
      rw [this, heap_setBlock_same hb] at h9
      cases h9; exact ⟨rfl, rfl⟩
    obtain ⟨rfl, rfl⟩ := heq
    have hlist : (es.modify j (fun e' => { e' with key := .string s, val := v })).toList = es.toList.set j { e0 with key := .string s, val := v } := by rw [Array.toList_modify, modify_eq_set _ _ _ _ q2]
    have hjl : j < es.toList.length := (List.getElem?_eq_some_iff.1 q2).1
    have he0 : e0 ∈ es.toList := List.mem_of_getElem? q2
    have hrg0 : (rg P K rawE e0).1 = kb s.data.toList := by
      obtain ⟨y, hy⟩ := F.reads e0 he0
      have := rd_key hy
      rw [q3, hkey] at this
      rw [rg_of hy]; exact (Option.some.inj this).symm
    have hrg1 : (rg P K rawE ({ e0 with key := .string s, val := v } : MapEntry)).1 = kb s.data.toList := by rw [rg_of (rd_mk hkey (yv := (.held v, [])) rfl)]; rfl
    have who : ∀ x ∈ es.toList.set j { e0 with key := .string s, val := v }, x = { e0 with key := .string s, val := v } ∨ x ∈ es.toList := by
      intro x hx
      rcases List.mem_or_eq_of_mem_set hx with h | h
      · exact .inr h
      · exact .inl h
    refine ⟨_, hrun, ⟨D.put (kb s.data.toList) (.held v), L, ⟨_, _, since, seen, c0, heap_setBlock_same hb _, F', ?_, ?_, (heap_setBlock_other hb _ hne).trans hr, ?_, ?_, ?_, ?_, hsc, hsk⟩, fun z => ?_, h3⟩, ⟨es, _, _, _, hb, rfl⟩⟩
    · simpa using hsz
    · rw [hD, DataW.put_eq, hsort]; rfl
    · intro x hx
      rw [hlist] at hx
      rcases who x hx with rfl | hx'
      · exact hold e0 he0
      · exact hold x hx'
    · rw [leftOf_size, hlist, countP_set _ _ j e0 ({ e0 with key := .string s, val := v } : MapEntry) q2 rfl, ← leftOf_size]; exact hcnt
    · intro x hx
      rw [hlist] at hx
      rcases who x hx with rfl | hx'
      · rw [hrg1, ← hrg0]; exact hl1 e0 he0
      · exact hl1 x hx'
    · intro kl hkl
      obtain ⟨x, hx, hxk⟩ := hl2 kl hkl
      rw [hlist]
      obtain ⟨i, hi⟩ := List.getElem?_of_mem hx
      by_cases hij : i = j
      · subst hij
        rw [q2] at hi
        cases hi
        exact ⟨_, List.mem_set (by simpa using hjl) _, by rw [hrg1, ← hrg0]; exact hxk⟩
      · exact ⟨x, List.mem_of_getElem? (i := i) (by rw [List.getElem?_set_ne (Ne.symm hij)]; exact hi), hxk⟩
    · rw [hput]; unfold updF; rw [h2]
end
section
variable {P : Program} (w : World) {ops : Array Oper} {rest : List Oper} {o : Oper} {a : Act} {Q : Exit → Act → World → Prop}
theorem wpList_range_mapS (hg : o.guard = none) (m : Operand) (t : TypeId) (hop : o.op = Op.range t m) (K e : TypeId) (hk : P.underlying K = some .string) (ht : P.underlying t = some (.map K e)) (b n : Nat) (f : KB → Option Value)
    (hm : a.eval m = .map (some b)) (h : MapS P K w b n f)
    (hK : ∀ w' cnt, RangeS P K w' b w.heap.size n f (fun k => (f k).isSome) cnt → w.grownBy w' none → w'.heap.size = w.heap.size + 1 → wpList P ops Q rest (a.put o.dst (.pointer (some ⟨w.heap.size, 0, none⟩))) w') :
    wpList P ops Q (o :: rest) a w := by
  refine wpList_plain hg fun K' hK' => ?_
  obtain ⟨w', hrun, ⟨cnt, r1⟩, r2, r3⟩ := h.range hk ht
  unfold Oper.wp
  simp [execOp, hop, hm, hrun, Result.andThen]
  exact hK' _ _ (hK w' cnt r1 r2 r3)
theorem wpList_next_rangeS (hg : o.guard = none) (it : Operand) (hop : o.op = Op.next it false) (K : TypeId) (hk : P.underlying K = some .string) (b r n : Nat) (f : KB → Option Value) (left : KB → Bool) (cnt : Nat)
    (hit : a.eval it = .pointer (some ⟨r, 0, none⟩)) (h : RangeS P K w b r n f left cnt)
    (hDone : (∀ k, left k = false) → wpList P ops Q rest (a.put o.dst (.tuple #[.bool false])) w)
    (hMore : ∀ (s : ByteArray) (v : Value) (w' : World) (cnt' : Nat), s.size ≤ maxLen → left s.data.toList = true → f s.data.toList = some v → RangeS P K w' b r n f (fun k => left k && !decide (k = s.data.toList)) cnt' → cnt' < cnt →
      w.grownBy w' (some r) → w'.heap.size = w.heap.size → (Instr.entry (.pointer (some ⟨r, 0, none⟩))).run P w' = .ok (.tuple #[.string s, v]) w' → wpList P ops Q rest (a.put o.dst (.tuple #[.bool true, .string s, v])) w') :
    wpList P ops Q (o :: rest) a w := by
  refine wpList_plain hg fun K' hK' => ?_
  unfold Oper.wp
  rcases h.next hk o.type with ⟨hl, hrun⟩ | ⟨s, v, w', cnt', hs, hlk, hv, hrun, hrg, hlt, hgr, hsz, hen⟩
  · simp [execOp, hop, hit, hrun, Result.andThen]
    exact hK' _ _ (hDone hl)
  · simp [execOp, hop, hit, hrun, Result.andThen]
    exact hK' _ _ (hMore s v w' cnt' hs hlk hv hrg hlt hgr hsz hen)
theorem wpList_store_rangeS (hg : o.guard = none) (m x v : Operand) (t : TypeId) (hop : o.op = Op.mapUpdate t m x v) (K e : TypeId) (hk : P.underlying K = some .string) (ht : P.underlying t = some (.map K e)) (b r n : Nat) (f : KB → Option Value) (left : KB → Bool) (cnt : Nat)
    (hm : a.eval m = .map (some b)) (h : RangeS P K w b r n f left cnt) (hn : n < maxLen) (s : ByteArray) (hs : s.size ≤ maxLen) (hx : a.eval x = .string s) (hf : (f s.data.toList).isSome = true) (u : Value) (hv : a.eval v = u)
    (hK : ∀ w', RangeS P K w' b r n (updF f s.data.toList u) left cnt → w.mapTurned w' b → wpList P ops Q rest (a.put o.dst undef) w') : wpList P ops Q (o :: rest) a w := by
  refine wpList_plain hg fun K' hK' => ?_
  obtain ⟨w', hrun, r1, r2⟩ := h.store hk ht hn s hs hf u
  unfold Oper.wp
  simp [execOp, hop, hm, hx, hv, hrun, Result.andThen]
  exact hK' _ _ (hK w' r1 r2)
end
end Go.Proofs.YtdcmnpeabjallaaGreatDoor
namespace Go.Proofs.YtdcmnpeabjallaaGreatDoor
open Go.RowKit Go.MapKept Go.ChangeMaps
open JP (JV Bs Lf)
abbrev BookF := Bs → Option (List Bs)
def BookAt (w : World) (lo b n : Nat) (g : BookF) : Prop := ∃ f : KB → Option Value, MapS Tryz.prog 9 w b n f ∧ (∀ k, (f k).isSome = (g k).isSome) ∧ (∀ k v l, f k = some v → g k = some l → OwnAt RString 1 w lo 9 v (l.map mkB)) ∧
  (∀ k k' v v' q, k ≠ k' → f k = some v → f k' = some v' → v.ownBlock = some q → v'.ownBlock ≠ some q) ∧ lo ≤ b
theorem own_keepB {w w' : World} {B : Nat} {v : Value} {l : List ByteArray} (h : OwnAt RString 1 w B 9 v l) (hb : ∀ q, v.ownBlock = some q → w'.heap[q]? = w.heap[q]?) : OwnAt RString 1 w' B 9 v l := by
  obtain ⟨css, h1, h2, h3, h4⟩ := h
  refine ⟨css, h1, h2, ⟨h3.1, ?_⟩, h4⟩
  rcases h3.2 with h5 | ⟨q, cap, cur, rfl, hB, hh, hr⟩
  · exact .inl h5
  · exact .inr ⟨q, cap, cur, rfl, hB, (hb q rfl).trans hh, hr⟩
theorem turned_block {w w' : World} {b k : Nat} (h : w.mapTurned w' b) (hk : k ≠ b) : w'.heap[k]? = w.heap[k]? := by
  obtain ⟨es, clock, es', clock', hb, rfl⟩ := h
  exact heap_setBlock_other hb _ hk
theorem own_turned {w w' : World} {B b : Nat} {v : Value} {l : List ByteArray} (h : OwnAt RString 1 w B 9 v l) (ht : w.mapTurned w' b) : OwnAt RString 1 w' B 9 v l :=
  own_keepB h fun q hq => turned_block ht fun e => by
    obtain ⟨_, _, cur, h1⟩ := h.at hq
    obtain ⟨es, clock, _, _, hb, _⟩ := ht
    rw [e, hb] at h1; cases h1
theorem BookAt.below {w w' : World} {lo b n : Nat} {g : BookF} (h : BookAt w lo b n g) (hb : Below w.heap.size w w') : BookAt w' lo b n g := by
  obtain ⟨f, h1, h2, h3, h4, h5⟩ := h
  exact ⟨f, h1.belowW hb, h2, fun k v l hk hg => own_keepB (h3 k v l hk hg) fun q hq => hb.block q ((h3 k v l hk hg).at hq).2.1, h4, h5⟩
theorem BookAt.lt {w : World} {lo b n : Nat} {g : BookF} (h : BookAt w lo b n g) : b < w.heap.size := let ⟨_, h1, _⟩ := h; h1.lt
theorem book_made (w : World) : BookAt (w.alloc (.map #[] 0)) w.heap.size w.heap.size 0 fun _ => none :=
  ⟨fun _ => none, mapS_made _ _ _, fun _ => rfl, fun _ _ _ h => (by cases h), fun _ _ _ _ _ _ h => (by cases h), Nat.le_refl _⟩
def updG (g : BookF) (k : Bs) (l : List Bs) : BookF := fun z => if z = k then some l else g z
theorem book_put {w w' : World} {lo b n n' : Nat} {g : BookF} {f : KB → Option Value} {k : Bs} {v : Value} {l : List Bs} (h2 : ∀ k, (f k).isSome = (g k).isSome) (h3 : ∀ k v l, f k = some v → g k = some l → OwnAt RString 1 w lo 9 v (l.map mkB))
    (h4 : ∀ k k' v v' q, k ≠ k' → f k = some v → f k' = some v' → v.ownBlock = some q → v'.ownBlock ≠ some q) (h5 : lo ≤ b) (hm : MapS Tryz.prog 9 w' b n' (updF f k v)) (ht : w.mapTurned w' b) (hv : OwnAt RString 1 w lo 9 v (l.map mkB))
    (hap : ∀ k' v' q, k' ≠ k → f k' = some v' → v'.ownBlock = some q → v.ownBlock ≠ some q) : BookAt w' lo b n' (updG g k l) := by
  refine ⟨_, hm, fun z => ?_, fun z u m hz hg => ?_, fun z z' u u' q hne hz hz' hq => ?_, h5⟩
  · unfold updF updG; split
    · rfl
    · exact h2 z
  · unfold updF at hz; unfold updG at hg
    by_cases e : z = k
    · rw [if_pos e] at hz hg; cases hz; cases hg; exact own_turned hv ht
    · rw [if_neg e] at hz hg; exact own_turned (h3 z u m hz hg) ht
  · unfold updF at hz hz'
    by_cases e : z = k
    · rw [if_pos e] at hz; cases hz
      rw [if_neg (fun e2 => hne (e.trans e2.symm))] at hz'
      intro hq'
      exact hap z' u' q (fun e2 => hne (e.trans e2.symm)) hz' hq' hq
    · rw [if_neg e] at hz
      by_cases e' : z' = k
      · rw [if_pos e'] at hz'; cases hz'
        exact fun hq' => hap z u q e hz hq hq'
      · rw [if_neg e'] at hz'
        exact h4 z z' u u' q hne hz hz' hq
theorem Tryz.zeroStrs (w : World) : (zeroValue 28).run Tryz.prog w = .ok (.slice none 0 0) w := by kernel_rfl
def OthersIs (g : BookF) (m : Bs) (p : Bs → Bool) (B : Bool) : Prop := B = true ↔ ∃ k l, g k = some l ∧ k ≠ m ∧ l.any p = true
end Go.Proofs.YtdcmnpeabjallaaGreatDoor
namespace Go.Proofs.YtdcmnpeabjallaaGreatDoor
open Go.RowKit
open JP (JV Bs Lf)
set_option maxRecDepth 100000 in
set_option maxHeartbeats 3200000 in
theorem others1_any {f : FuncId} {cap1 : Value} {Cap : World → Prop} {p : Bs → Bool} (enter : ∀ (a : Array Value) (w : World), (callFunc f a).run Tryz.prog w = .ok (.enter f a) w)
    (keepC : ∀ w w' : World, Cap w → Below w.heap.size w w' → Cap w')
    (clo : ∀ (x : ByteArray) (w : World), x.size ≤ 1048576 → Cap w → Calls Tryz.prog f #[.string x, cap1] w fun e w' => e = .returned (.bool (p x.data.toList)) ∧ Below w.heap.size w w')
    (w : World) (lo b n : Nat) (g : BookF) (m : Bs) (hb : BookAt w lo b n g) (hg : ∀ k l, g k = some l → l.length ≤ 1048576 ∧ ∀ s ∈ l, s.length ≤ 1048576) (hc : Cap w) :
    Calls Tryz.prog 57 #[.map (some b), .string (mkB m), .func (.func f) #[] #[cap1]] w fun e w' => ∃ B, e = .returned (.bool B) ∧ OthersIs g m p B ∧ Below w.heap.size w w' := by
  obtain ⟨F, hm, h2, h3, h4, h5⟩ := hb
  have HM := Lib.hid hm
  have H2 := Lib.hid h2
  have H3 := Lib.hid h3
  have Hg := Lib.hid hg
  have Hc := Lib.hid hc
  have HC := Lib.hid clo
  have HK := Lib.hid keepC
  have ep := enter
  have hbw := hm.lt
  clear hm h2 h3 h4 h5 hg hc clo keepC enter
  go_enter Tryz.func57, Tryz.ntmps57
  go_wp2_with (at_range; refine wpList_range_mapS _ (by rfl) _ 56 (by rfl) 9 28 Tryz.underlying9 Tryz.underlying56 b n F (by rfl) HM.out ?_; intro w1 cnt hrg hgr hsz)
  try go_frame
  have hb1 : Below w.heap.size w w1 := ⟨hgr.os, hgr.tape, hgr.output, hgr.size, fun k hk => hgr.block k hk (by simp)⟩
  have HR1 := Lib.hid hrg
  have HB1 := Lib.hid hb1
  obtain ⟨r, hr⟩ : ∃ r, w.heap.size = r := ⟨_, rfl⟩
  rw [hr] at HR1 ⊢
  have Hr := Lib.hid hr
  clear hrg hgr hsz hb1 hr
  go_loopg [7, 8] cnt (fun k u7 u8 wr => ∃ left : KB → Bool, Hid (RangeS Tryz.prog 9 wr b r n F left k) ∧ Hid (∀ k l, g k = some l → left k = false → k ≠ m → l.any p = false) ∧ Hid (Below w.heap.size w wr))
  case atStart =>
    refine ⟨_, HR1, Lib.hid fun k l hk hl => ?_, HB1⟩
    have h9 := H2.out k
    rw [hl, hk] at h9; cases h9
  case round =>
    obtain ⟨left, HR, Hno, Hbel⟩ := hrel
    go_wp2_with (at_next; refine wpList_next_rangeS _ (by rfl) _ (by rfl) 9 Tryz.underlying9 b r n F left gk (by rfl) HR.out ?_ ?_)
    · intro hl0
      have Hans : Hid (OthersIs g m p false) := Lib.hid ⟨fun h => (by cases h), fun ⟨k, l, h1, h2, h3⟩ => by rw [Hno.out k l h1 (hl0 k) h2] at h3; cases h3⟩
      clear hl0 Hno
      go_wp2_with fail
      go_ret
      exact ⟨false, rfl, Hans.out, Hbel.out⟩
    · intro s v w2 cnt2 hs hlk hv hrg2 hlt hgr2 hsz2 hen
      obtain ⟨l, hgl⟩ : ∃ l, g s.data.toList = some l := by
        have h9 := H2.out s.data.toList
        rw [hv] at h9
        exact Option.isSome_iff_exists.1 h9.symm
      have hown := H3.out _ _ _ hv hgl
      have hrw : w.heap.size ≤ r := by rw [Hr.out]; exact Nat.le_refl _
      have hbel2 : Below w.heap.size w w2 := Hbel.out.grown hgr2 Hbel.out.size (fun j hj => by cases hj; exact hrw)
      have hsz2' : w.heap.size ≤ w2.heap.size := hbel2.size
      have hrow : RowAt RString 1 w2 v (l.map mkB) := (own_keepB hown fun q hq => hbel2.block q (hown.at hq).2.1).row
      obtain ⟨va, vc, rfl, -, -⟩ := hrow.len
      obtain ⟨vn, hvn⟩ : ∃ vn, (l.map mkB).length = vn := ⟨_, rfl⟩
      rw [hvn] at hen hrow ⊢
      have hvl : vn ≤ 1048576 := by rw [← hvn, List.length_map]; exact (Hg.out _ _ hgl).1
      have Hen := hen
      have hCap2 : Cap w2 := HK.out w w2 Hc.out hbel2
      have HANY := Lib.hid (anyStr1_any (p := fun x => p x.data.toList) (OK := fun x => x.size ≤ 1048576) ep HK.out (fun x w' h1 h2 => HC.out x w' h1 h2) _ _ w2 hrow (by rw [hvn]; omega) (fun x hx => by
        obtain ⟨t, ht, rfl⟩ := List.mem_map.1 hx
        rw [mkB_size]; exact (Hg.out _ _ hgl).2 t ht) hCap2)
      have hsz3 := hbel2.size
      have HR2 := Lib.hid hrg2
      have HB2 := Lib.hid hbel2
      have Hgl := Lib.hid hgl
      have hany : (l.map mkB).any (fun x => p x.data.toList) = l.any p := by
        rw [List.any_map]
        refine congrArg (fun q => l.any q) (funext fun t => ?_)
        show p (mkB t).data.toList = p t
        rw [mkB_list]
      rw [hany] at HANY
      obtain ⟨hit, Hhit⟩ : ∃ hit, Hid (l.any p = hit) := ⟨_, Lib.hid rfl⟩
      rw [Hhit.out] at HANY
      have e1 : ((s).toList == (mkB m).toList) = decide (s.data.toList = m) := by
        rw [ByteArray.toList_eq, ByteArray.toList_eq, mkB_list, Bool.eq_iff_iff, beq_iff_eq, decide_eq_true_iff]
      obtain ⟨km, Hkm⟩ : ∃ km, Hid (decide (s.data.toList = m) = km) := ⟨_, Lib.hid rfl⟩
      rw [Hkm.out] at e1
      have hnext : Hid (km = true ∨ hit = false → ∀ k l, g k = some l → (left k && !decide (k = s.data.toList)) = false → k ≠ m → l.any p = false) := Lib.hid fun hor k l' h1 h2 h3 => by
        by_cases e : k = s.data.toList
        · subst e
          rw [Hgl.out] at h1
          cases h1
          rcases hor with h | h
          · have := Hkm.out
            rw [h] at this
            exact absurd (of_decide_eq_true this) h3
          · rw [Hhit.out]; exact h
        · rw [decide_eq_false e] at h2
          exact Hno.out k l' h1 (by simpa using h2) h3
      have hans : Hid (km = false → hit = true → OthersIs g m p true) := Lib.hid fun h1 h2 => ⟨fun _ => ⟨s.data.toList, l, Hgl.out, by
        have := Hkm.out
        rw [h1] at this
        exact of_decide_eq_false this, by rw [Hhit.out]; exact h2⟩, fun _ => rfl⟩
      clear hrg2 hgr2 hsz2 hbel2 hrow hown hv hlk hgl hCap2 hany hvn Hen
      cases km with
      | true =>
        go_wp2_with fail
        go_roundg cnt2
        case measure => exact hlt
        case rel => exact ⟨_, HR2, Lib.hid (hnext.out (.inl trivial)), HB2⟩
      | false =>
        go_wp2_with fail
        refine HANY.out.mono ?_
        rintro E w3 ⟨rfl, hb3⟩
        have HR3 := Lib.hid (HR2.out.belowW hb3)
        have HB3 := Lib.hid (HB2.out.trans (hb3.mono hsz3))
        clear hb3
        cases hit with
        | true =>
          go_wp2_with fail
          go_ret
          exact ⟨true, rfl, hans.out trivial trivial, HB3.out⟩
        | false =>
          go_wp2_with fail
          go_roundg cnt2
          case measure => exact hlt
          case rel => exact ⟨_, HR3, Lib.hid (hnext.out (.inr trivial)), HB3⟩
set_option maxRecDepth 100000 in
set_option maxHeartbeats 3200000 in
theorem others2_any {f : FuncId} {cap1 cap2 : Value} {Cap : World → Prop} {p : Bs → Bool} (enter : ∀ (a : Array Value) (w : World), (callFunc f a).run Tryz.prog w = .ok (.enter f a) w)
    (keepC : ∀ w w' : World, Cap w → Below w.heap.size w w' → Cap w')
    (clo : ∀ (x : ByteArray) (w : World), x.size ≤ 1048576 → Cap w → Calls Tryz.prog f #[.string x, cap1, cap2] w fun e w' => e = .returned (.bool (p x.data.toList)) ∧ Below w.heap.size w w')
    (w : World) (lo b n : Nat) (g : BookF) (m : Bs) (hb : BookAt w lo b n g) (hg : ∀ k l, g k = some l → l.length ≤ 1048576 ∧ ∀ s ∈ l, s.length ≤ 1048576) (hc : Cap w) :
    Calls Tryz.prog 57 #[.map (some b), .string (mkB m), .func (.func f) #[] #[cap1, cap2]] w fun e w' => ∃ B, e = .returned (.bool B) ∧ OthersIs g m p B ∧ Below w.heap.size w w' := by
  obtain ⟨F, hm, h2, h3, h4, h5⟩ := hb
  have HM := Lib.hid hm
  have H2 := Lib.hid h2
  have H3 := Lib.hid h3
  have Hg := Lib.hid hg
  have Hc := Lib.hid hc
  have HC := Lib.hid clo
  have HK := Lib.hid keepC
  have ep := enter
  have hbw := hm.lt
  clear hm h2 h3 h4 h5 hg hc clo keepC enter
  go_enter Tryz.func57, Tryz.ntmps57
  go_wp2_with (at_range; refine wpList_range_mapS _ (by rfl) _ 56 (by rfl) 9 28 Tryz.underlying9 Tryz.underlying56 b n F (by rfl) HM.out ?_; intro w1 cnt hrg hgr hsz)
  try go_frame
  have hb1 : Below w.heap.size w w1 := ⟨hgr.os, hgr.tape, hgr.output, hgr.size, fun k hk => hgr.block k hk (by simp)⟩
  have HR1 := Lib.hid hrg
  have HB1 := Lib.hid hb1
  obtain ⟨r, hr⟩ : ∃ r, w.heap.size = r := ⟨_, rfl⟩
  rw [hr] at HR1 ⊢
  have Hr := Lib.hid hr
  clear hrg hgr hsz hb1 hr
  go_loopg [7, 8] cnt (fun k u7 u8 wr => ∃ left : KB → Bool, Hid (RangeS Tryz.prog 9 wr b r n F left k) ∧ Hid (∀ k l, g k = some l → left k = false → k ≠ m → l.any p = false) ∧ Hid (Below w.heap.size w wr))
  case atStart =>
    refine ⟨_, HR1, Lib.hid fun k l hk hl => ?_, HB1⟩
    have h9 := H2.out k
    rw [hl, hk] at h9; cases h9
  case round =>
    obtain ⟨left, HR, Hno, Hbel⟩ := hrel
    go_wp2_with (at_next; refine wpList_next_rangeS _ (by rfl) _ (by rfl) 9 Tryz.underlying9 b r n F left gk (by rfl) HR.out ?_ ?_)
    · intro hl0
      have Hans : Hid (OthersIs g m p false) := Lib.hid ⟨fun h => (by cases h), fun ⟨k, l, h1, h2, h3⟩ => by rw [Hno.out k l h1 (hl0 k) h2] at h3; cases h3⟩
      clear hl0 Hno
      go_wp2_with fail
      go_ret
      exact ⟨false, rfl, Hans.out, Hbel.out⟩
    · intro s v w2 cnt2 hs hlk hv hrg2 hlt hgr2 hsz2 hen
      obtain ⟨l, hgl⟩ : ∃ l, g s.data.toList = some l := by
        have h9 := H2.out s.data.toList
        rw [hv] at h9
        exact Option.isSome_iff_exists.1 h9.symm
      have hown := H3.out _ _ _ hv hgl
      have hrw : w.heap.size ≤ r := by rw [Hr.out]; exact Nat.le_refl _
      have hbel2 : Below w.heap.size w w2 := Hbel.out.grown hgr2 Hbel.out.size (fun j hj => by cases hj; exact hrw)
      have hsz2' : w.heap.size ≤ w2.heap.size := hbel2.size
      have hrow : RowAt RString 1 w2 v (l.map mkB) := (own_keepB hown fun q hq => hbel2.block q (hown.at hq).2.1).row
      obtain ⟨va, vc, rfl, -, -⟩ := hrow.len
      obtain ⟨vn, hvn⟩ : ∃ vn, (l.map mkB).length = vn := ⟨_, rfl⟩
      rw [hvn] at hen hrow ⊢
      have hvl : vn ≤ 1048576 := by rw [← hvn, List.length_map]; exact (Hg.out _ _ hgl).1
      have Hen := hen
      have hCap2 : Cap w2 := HK.out w w2 Hc.out hbel2
      have HANY := Lib.hid (anyStr2_any (p := fun x => p x.data.toList) (OK := fun x => x.size ≤ 1048576) ep HK.out (fun x w' h1 h2 => HC.out x w' h1 h2) _ _ w2 hrow (by rw [hvn]; omega) (fun x hx => by
        obtain ⟨t, ht, rfl⟩ := List.mem_map.1 hx
        rw [mkB_size]; exact (Hg.out _ _ hgl).2 t ht) hCap2)
      have hsz3 := hbel2.size
      have HR2 := Lib.hid hrg2
      have HB2 := Lib.hid hbel2
      have Hgl := Lib.hid hgl
      have hany : (l.map mkB).any (fun x => p x.data.toList) = l.any p := by
        rw [List.any_map]
        refine congrArg (fun q => l.any q) (funext fun t => ?_)
        show p (mkB t).data.toList = p t
        rw [mkB_list]
      rw [hany] at HANY
      obtain ⟨hit, Hhit⟩ : ∃ hit, Hid (l.any p = hit) := ⟨_, Lib.hid rfl⟩
      rw [Hhit.out] at HANY
      have e1 : ((s).toList == (mkB m).toList) = decide (s.data.toList = m) := by
        rw [ByteArray.toList_eq, ByteArray.toList_eq, mkB_list, Bool.eq_iff_iff, beq_iff_eq, decide_eq_true_iff]
      obtain ⟨km, Hkm⟩ : ∃ km, Hid (decide (s.data.toList = m) = km) := ⟨_, Lib.hid rfl⟩
      rw [Hkm.out] at e1
      have hnext : Hid (km = true ∨ hit = false → ∀ k l, g k = some l → (left k && !decide (k = s.data.toList)) = false → k ≠ m → l.any p = false) := Lib.hid fun hor k l' h1 h2 h3 => by
        by_cases e : k = s.data.toList
        · subst e
          rw [Hgl.out] at h1
          cases h1
          rcases hor with h | h
          · have := Hkm.out
            rw [h] at this
            exact absurd (of_decide_eq_true this) h3
          · rw [Hhit.out]; exact h
        · rw [decide_eq_false e] at h2
          exact Hno.out k l' h1 (by simpa using h2) h3
      have hans : Hid (km = false → hit = true → OthersIs g m p true) := Lib.hid fun h1 h2 => ⟨fun _ => ⟨s.data.toList, l, Hgl.out, by
        have := Hkm.out
        rw [h1] at this
        exact of_decide_eq_false this, by rw [Hhit.out]; exact h2⟩, fun _ => rfl⟩
      clear hrg2 hgr2 hsz2 hbel2 hrow hown hv hlk hgl hCap2 hany hvn Hen
      cases km with
      | true =>
        go_wp2_with fail
        go_roundg cnt2
        case measure => exact hlt
        case rel => exact ⟨_, HR2, Lib.hid (hnext.out (.inl trivial)), HB2⟩
      | false =>
        go_wp2_with fail
        refine HANY.out.mono ?_
        rintro E w3 ⟨rfl, hb3⟩
        have HR3 := Lib.hid (HR2.out.belowW hb3)
        have HB3 := Lib.hid (HB2.out.trans (hb3.mono hsz3))
        clear hb3
        cases hit with
        | true =>
          go_wp2_with fail
          go_ret
          exact ⟨true, rfl, hans.out trivial trivial, HB3.out⟩
        | false =>
          go_wp2_with fail
          go_roundg cnt2
          case measure => exact hlt
          case rel => exact ⟨_, HR3, Lib.hid (hnext.out (.inr trivial)), HB3⟩
end Go.Proofs.YtdcmnpeabjallaaGreatDoor
namespace Go.Proofs.YtdcmnpeabjallaaGreatDoor
open Go.RowKit
open JP (JV Bs Lf)
open Classical in
noncomputable def othersG (g : BookF) (m : Bs) (p : Bs → Bool) : Bool := decide (∃ k l, g k = some l ∧ k ≠ m ∧ l.any p = true)
theorem OthersIs.eq {g : BookF} {m : Bs} {p : Bs → Bool} {B : Bool} (h : OthersIs g m p B) : B = othersG g m p := by
  unfold othersG
  rw [Bool.eq_iff_iff]
  exact h.trans (@decide_eq_true_iff _ (Classical.propDecidable _)).symm
structure BarCap (gd gx g : Nat) (lv mv lf sv vv : Value) (m : Bs) (live : JV) (x : Leaf) (w : World) : Prop where
  bd : w.heap[gd]? = some (.cells #[.pointer (some ⟨g, 0, none⟩)] 54 (0, 0))
  bx : w.heap[gx]? = some (.cells #[.string (mkB (pathP x.1)), sv, vv] 65 (0, 0))
  deal : DealAt w g lv mv m lf
  live : ∃ n, JvAt n [] w lv live
  steps : StrAt w sv (x.1.map mkB)
  val : ∃ k, JvAt k [] w vv x.2
  env : Env w
theorem DealAt.below {w w' : World} {g : Nat} {lv mv lf : Value} {m : Bs} (h : DealAt w g lv mv m lf) (hb : Below w.heap.size w w') : DealAt w' g lv mv m lf := by
  unfold DealAt at h ⊢
  exact below_block hb h
theorem BarCap.below {gd gx g : Nat} {lv mv lf sv vv : Value} {m : Bs} {live : JV} {x : Leaf} {w w' : World} (h : BarCap gd gx g lv mv lf sv vv m live x w) (hb : Below w.heap.size w w') : BarCap gd gx g lv mv lf sv vv m live x w' :=
  ⟨below_block hb h.bd, below_block hb h.bx, h.deal.below hb, (let ⟨n, hn⟩ := h.live; ⟨n, hn.below hb⟩), h.steps.below hb, (let ⟨n, hn⟩ := h.val; ⟨n, hn.below hb⟩), h.env.below hb⟩
set_option maxRecDepth 100000 in
set_option maxHeartbeats 1600000 in
theorem conf1_any {gd gx g : Nat} {lv mv lf sv vv : Value} {m : Bs} {live : JV} {x : Leaf} {w : World} (p : ByteArray) (hp : p.size ≤ 1048576) (h : BarCap gd gx g lv mv lf sv vv m live x w) (hf : JP.Fit live) (hx : LeafFit x) :
    Calls Tryz.prog 58 #[.string p, .pointer (some ⟨gd, 0, none⟩), .pointer (some ⟨gx, 0, none⟩)] w fun e w' => e = .returned (.bool (JP.barsB live x p.data.toList)) ∧ Below w.heap.size w w' := by
  have HB := Lib.hid (bars_any (p := p.data.toList) h.deal h.live hf h.steps h.val hx (by rw [Array.length_toList]; exact hp) h.env)
  rw [mkB_of] at HB
  have c1 := fun i => cell_block h.bd i
  have c2 := fun i => cell_block h.bx i
  obtain ⟨sa, sc, rfl, -, -⟩ := h.steps.row.len
  have hvf : vv = .nilIface ∨ ∃ t u, vv = .iface t u := by obtain ⟨k, hk⟩ := h.val; exact jv_form hk
  obtain ⟨sn, hsn⟩ : ∃ sn, (x.1.map mkB).length = sn := ⟨_, rfl⟩
  rw [hsn] at c2 HB
  obtain ⟨ans, Hans⟩ : ∃ ans, Hid (JP.barsB live x p.data.toList = ans) := ⟨_, Lib.hid rfl⟩
  rw [Hans.out] at HB ⊢
  clear h hf hx hsn
  rcases hvf with rfl | ⟨vt, vu, rfl⟩
  all_goals
    go_enter Tryz.func58, Tryz.ntmps58
    go_wp2_with fail
    refine HB.out.mono ?_
    rintro E w1 ⟨rfl, hb1⟩
    have Hb1 := Lib.hid hb1
    clear hb1
    go_wp2_with fail
    go_ret
    exact ⟨rfl, Hb1.out⟩
theorem run_conf1 : ∀ (a : Array Value) (w : World), (callFunc 58 a).run Tryz.prog w = .ok (.enter 58 a) w := run_callFunc_body Tryz.func58 (by kernel_rfl) (by kernel_rfl)
theorem below_drewF (w : World) : Below w.heap.size w w.drew := ⟨rfl, rfl, rfl, Nat.le_refl _, fun _ _ => rfl⟩
set_option maxRecDepth 100000 in
set_option maxHeartbeats 6400000 in
theorem conflicts_any {g lo b n : Nat} {lv lf : Value} {m : Bs} {live : JV} {W : List Leaf} {bk : BookF} {w : World} (hd : DealAt w g lv (.map (some b)) m lf) (hl : ∃ n, JvAt n [] w lv live) (hf : JP.Fit live) (hW : RowAt LeafR 3 w lf W) (hWl : W.length ≤ 1048576) (hx : ∀ x ∈ W, LeafFit x)
    (hb : BookAt w lo b n bk) (hg : ∀ k l, bk k = some l → l.length ≤ 1048576 ∧ ∀ s ∈ l, s.length ≤ 1048576) (hE : Env w) :
    Calls Tryz.prog 34 #[.pointer (some ⟨g, 0, none⟩)] w fun e w' => ∃ v, e = .returned v ∧ OwnAt RString 1 w' w.heap.size 9 v ((W.filter fun x => othersG bk m (JP.barsB live x)).map fun x => mkB (pathP x.1)) ∧ Below w.heap.size w w' := by
  obtain ⟨j0, hj0, hy0, hy1, hy2⟩ := info_parts Tryz.infoStr
  obtain ⟨a1, c1, rfl, _, _⟩ := hW.len
  obtain ⟨nW, hnW⟩ : ∃ n, W.length = n := ⟨_, rfl⟩
  rw [hnW] at hW hd hWl
  have hlf : lv = .nilIface ∨ ∃ t u, lv = .iface t u := by obtain ⟨k, hk⟩ := hl; exact jv_form hk
  obtain ⟨w1, hw1⟩ : ∃ w1, w1 = w.alloc (.cells #[.pointer (some ⟨g, 0, none⟩)] 54) := ⟨_, rfl⟩
  obtain ⟨gd, hgd⟩ : ∃ gd, gd = w.heap.size := ⟨_, rfl⟩
  have b1 : w1.heap[gd]? = some (.cells #[.pointer (some ⟨g, 0, none⟩)] 54 (0, 0)) := by rw [hw1, hgd]; exact heap_alloc_new w _
  have hb1 : Below w.heap.size w w1 := by rw [hw1]; exact (Below.refl _ w).alloc (Nat.le_refl _) _
  have D1 : Hid (DealAt w1 g lv (.map (some b)) m (.slice a1 nW c1)) := Lib.hid (hd.below hb1)
  have HB1 := Lib.hid hb1
  have G1 := Lib.hid b1
  have HBk := Lib.hid (hb.below hb1)
  have HW := Lib.hid (leaves_below hW hb1)
  have HL : Hid (∃ n, JvAt n [] w1 lv live) := Lib.hid (let ⟨k, hk⟩ := hl; ⟨k, hk.below hb1⟩)
  have HE := Lib.hid (hE.below hb1)
  have HnW := Lib.hid hnW
  have Hx := Lib.hid hx
  have Hf := Lib.hid hf
  have Hg := Lib.hid hg
  have cc := fun i => cell_block b1 i
  have dd : ∀ i, w1.cell? ⟨g, i, none⟩ = #[lv, .map (some b), .string (mkB m), .slice a1 nW c1][i]? := fun i => cell_block D1.out i
  clear hd hl hb hg hE hf hW b1 hb1 hx hnW
  rcases hlf with rfl | ⟨lt, lu, rfl⟩
  all_goals
    go_enter Tryz.func34, Tryz.ntmps34
    go_upto_region 1 with fail
    rw [← hw1]
    try rw [← hgd]
    clear hw1 hgd
    go_wp2_with fail
    clear cc dd
    go_loopg [3, 11] nW (fun k u3 u11 wr => ∃ i : Nat, i + k = nW ∧ u11 = .int .i64 (i : Int) ∧ Hid (OwnAt RString 1 wr w1.heap.size 9 u3 (((W.take i).filter fun x => othersG bk m (JP.barsB live x)).map fun x => mkB (pathP x.1))) ∧ Hid (Below w1.heap.size w1 wr))
    case atStart => exact ⟨0, by omega, rfl, Lib.hid (OwnAt.nil _), Lib.hid (Below.refl _ _)⟩
    case round =>
      obtain ⟨i, hik, rfl, HO, Hbel⟩ := hrel
      cases gk with
      | zero =>
        obtain rfl : nW = i := by omega
        have htk : W.take nW = W := List.take_of_length_le (by rw [HnW.out]; exact Nat.le_refl _)
        rw [htk] at HO
        have HO' := Lib.hid (HO.out.mono (B' := w.heap.size) HB1.out.size)
        have HBn := Lib.hid (HB1.out.trans (Hbel.out.mono HB1.out.size))
        clear htk HO Hbel
        go_wp2_with fail
        go_ret
        exact ⟨_, rfl, HO'.out, HBn.out⟩
      | succ k =>
        have hil : i < nW := by omega
        obtain ⟨x, hxi⟩ : ∃ x, W[i]? = some x := ⟨W[i]'(by rw [HnW.out]; exact hil), List.getElem?_eq_getElem _⟩
        obtain ⟨bb, o, c', hv, _, _, hbs, hcell⟩ := HW.out.form (by rw [HnW.out]; omega) (by omega)
        injection hv with u1 u2 u3
        subst u1
        clear u2 u3
        obtain ⟨ds, _, hcc, sv, vv, rfl, hsv, hjv⟩ := hcell i x hxi
        obtain ⟨sa, sc, rfl, -, -⟩ := hsv.row.len
        obtain ⟨sn, hsn⟩ : ∃ sn, (x.1.map mkB).length = sn := ⟨_, rfl⟩
        rw [hsn] at hcc hsv
        have hvf : vv = .nilIface ∨ ∃ t u, vv = .iface t u := by obtain ⟨k, hk⟩ := hjv; exact jv_form hk
        have e0 : wr.cell? ⟨bb, o + i * 3, none⟩ = some (.string (mkB (pathP x.1))) := (Hbel.out.cell (p := ⟨bb, _, none⟩) hbs).trans (by simpa using hcc 0 _ rfl)
        have e1 : wr.cell? ⟨bb, o + i * 3 + 1, none⟩ = some (.slice sa sn sc) := (Hbel.out.cell (p := ⟨bb, _, none⟩) hbs).trans (hcc 1 _ rfl)
        have e2 : wr.cell? ⟨bb, o + i * 3 + 2, none⟩ = some vv := (Hbel.out.cell (p := ⟨bb, _, none⟩) hbs).trans (hcc 2 _ rfl)
        have q1 : (0 : Int) ≤ (i : Int) := by omega
        have q2 : (i : Int) < (nW : Int) := by omega
        obtain ⟨w2, hw2⟩ : ∃ w2, w2 = wr.alloc (.cells #[.string (mkB (pathP x.1)), .slice sa sn sc, vv] 65) := ⟨_, rfl⟩
        obtain ⟨gx, hgx⟩ : ∃ gx, gx = wr.heap.size := ⟨_, rfl⟩
        have b2 : w2.heap[gx]? = some (.cells #[.string (mkB (pathP x.1)), .slice sa sn sc, vv] 65 (0, 0)) := by rw [hw2, hgx]; exact heap_alloc_new wr _
        have hb2 : Below wr.heap.size wr w2 := by rw [hw2]; exact (Below.refl _ wr).alloc (Nat.le_refl _) _
        have hb12 := Hbel.out.trans (hb2.mono Hbel.out.size)
        obtain ⟨LV, LF, hcap⟩ : ∃ LV LF, BarCap gd gx g LV (.map (some b)) LF (.slice sa sn sc) vv m live x w2 :=
          ⟨_, _, below_block hb12 G1.out, b2, D1.out.below hb12, (let ⟨n, hn⟩ := HL.out; ⟨n, hn.below hb12⟩), hsv.below hb12, (let ⟨n, hn⟩ := hjv; ⟨n, hn.below hb12⟩), HE.out.below hb12⟩
        have HCap := Lib.hid hcap
        have HO2 := Lib.hid (HO.out.below stays_string hb2)
        have HB2 := Lib.hid hb12
        have HBk2 := Lib.hid (HBk.out.below hb12)
        have Hxi := Lib.hid hxi
        have hxf := Hx.out x (List.mem_of_getElem? hxi)
        have hother := others2_any (cap1 := .pointer (some ⟨gd, 0, none⟩)) (cap2 := .pointer (some ⟨gx, 0, none⟩)) (Cap := BarCap gd gx g LV (.map (some b)) LF (.slice sa sn sc) vv m live x) (p := JP.barsB live x) run_conf1 (fun _ _ h hb => h.below hb) (fun p w' hp hc => conf1_any p hp hc Hf.out hxf)
        have HOth : Hid (∀ w', Below w2.heap.size w2 w' → Calls Tryz.prog 57 #[.map (some b), .string (mkB m), .func (.func 58) #[] #[.pointer (some ⟨gd, 0, none⟩), .pointer (some ⟨gx, 0, none⟩)]] w' fun e w'' => e = .returned (.bool (othersG bk m (JP.barsB live x))) ∧ Below w2.heap.size w2 w'') := Lib.hid fun w' hb' => by
          refine (hother w' lo b n bk m (HBk2.out.below hb') Hg.out (HCap.out.below hb')).mono ?_
          rintro E w'' ⟨B, rfl, hB, hb''⟩
          exact ⟨by rw [hB.eq], hb'.trans (hb''.mono hb'.size)⟩
        obtain ⟨ans, Hans⟩ : ∃ ans, Hid (othersG bk m (JP.barsB live x) = ans) := ⟨_, Lib.hid rfl⟩
        rw [Hans.out] at HOth
        have hgdl : gd < w2.heap.size := Nat.lt_of_lt_of_le (by
          rcases Nat.lt_or_ge gd w1.heap.size with h1 | h1
          · exact h1
          · have h9 := G1.out; rw [Array.getElem?_eq_none h1] at h9; cases h9) hb12.size
        have hgl : g < w2.heap.size := Nat.lt_of_lt_of_le (by
          rcases Nat.lt_or_ge g w1.heap.size with h1 | h1
          · exact h1
          · have h9 : w1.heap[g]? = some _ := D1.out; rw [Array.getElem?_eq_none h1] at h9; cases h9) hb12.size
        clear hcc hcell hxi hsv hjv hcap hb2 b2 hb12 hother HO hsn hbs
        rcases hvf with rfl | ⟨vt, vu, rfl⟩
        all_goals
          go_upto_region 5 with fail
          rw [← hw2]
          try rw [← hgx]
          clear hw2 hgx e0 e1 e2
          refine wp_region_hold 9 (fun w' => Below w2.heap.size w2 w') (by kernel_rfl) (by kernel_rfl) ?_ ?_
          · exact below_drewF w2
          simp only [List.take_succ_cons, List.take_zero, List.drop_succ_cons, List.drop_zero]
          refine wpHold_read (v := .pointer (some ⟨g, 0, none⟩)) (by rfl) (fun w' hI => ?_) ?_
          · have d0 := (hI.cell (p := ⟨gd, 0, none⟩) hgdl).trans (cell_block HCap.out.bd 0)
            go_simp
            done
          try simp only [Act.put, List.setIfInBounds_toArray, List.set_cons_zero, List.set_cons_succ]
          (first | (refine wpHold_pure (v := ?_) (by rfl) (fun w => ?_) ?_; rotate_left; focus (first | (go_simp; done) | (go_simp; with_reducible rfl))) | (refine wpHold_skip ?_ ?_; focus (go_simp; done)) | (refine wpHold_pure' (v := ?_) ?_ (fun w => ?_) ?_; rotate_left; focus (go_simp; done); focus (first | (go_simp; done) | (go_simp; with_reducible rfl)))); try simp only [Act.put, List.setIfInBounds_toArray, List.set_cons_zero, List.set_cons_succ]
          (first | (refine wpHold_pure (v := ?_) (by rfl) (fun w => ?_) ?_; rotate_left; focus (first | (go_simp; done) | (go_simp; with_reducible rfl))) | (refine wpHold_skip ?_ ?_; focus (go_simp; done)) | (refine wpHold_pure' (v := ?_) ?_ (fun w => ?_) ?_; rotate_left; focus (go_simp; done); focus (first | (go_simp; done) | (go_simp; with_reducible rfl)))); try simp only [Act.put, List.setIfInBounds_toArray, List.set_cons_zero, List.set_cons_succ]
          refine wpHold_read (v := .map (some b)) (by rfl) (fun w' hI => ?_) ?_
          · have d0 := (hI.cell (p := ⟨g, 1, none⟩) hgl).trans (cell_block HCap.out.deal 1)
            go_simp
            done
          try simp only [Act.put, List.setIfInBounds_toArray, List.set_cons_zero, List.set_cons_succ]
          refine wpHold_read (v := .pointer (some ⟨g, 0, none⟩)) (by rfl) (fun w' hI => ?_) ?_
          · have d0 := (hI.cell (p := ⟨gd, 0, none⟩) hgdl).trans (cell_block HCap.out.bd 0)
            go_simp
            done
          try simp only [Act.put, List.setIfInBounds_toArray, List.set_cons_zero, List.set_cons_succ]
          (first | (refine wpHold_pure (v := ?_) (by rfl) (fun w => ?_) ?_; rotate_left; focus (first | (go_simp; done) | (go_simp; with_reducible rfl))) | (refine wpHold_skip ?_ ?_; focus (go_simp; done)) | (refine wpHold_pure' (v := ?_) ?_ (fun w => ?_) ?_; rotate_left; focus (go_simp; done); focus (first | (go_simp; done) | (go_simp; with_reducible rfl)))); try simp only [Act.put, List.setIfInBounds_toArray, List.set_cons_zero, List.set_cons_succ]
          (first | (refine wpHold_pure (v := ?_) (by rfl) (fun w => ?_) ?_; rotate_left; focus (first | (go_simp; done) | (go_simp; with_reducible rfl))) | (refine wpHold_skip ?_ ?_; focus (go_simp; done)) | (refine wpHold_pure' (v := ?_) ?_ (fun w => ?_) ?_; rotate_left; focus (go_simp; done); focus (first | (go_simp; done) | (go_simp; with_reducible rfl)))); try simp only [Act.put, List.setIfInBounds_toArray, List.set_cons_zero, List.set_cons_succ]
          refine wpHold_read (v := .string (mkB m)) (by rfl) (fun w' hI => ?_) ?_
          · have d0 := (hI.cell (p := ⟨g, 2, none⟩) hgl).trans (cell_block HCap.out.deal 2)
            go_simp
            done
          try simp only [Act.put, List.setIfInBounds_toArray, List.set_cons_zero, List.set_cons_succ]
          (first | (refine wpHold_pure (v := ?_) (by rfl) (fun w => ?_) ?_; rotate_left; focus (first | (go_simp; done) | (go_simp; with_reducible rfl))) | (refine wpHold_skip ?_ ?_; focus (go_simp; done)) | (refine wpHold_pure' (v := ?_) ?_ (fun w => ?_) ?_; rotate_left; focus (go_simp; done); focus (first | (go_simp; done) | (go_simp; with_reducible rfl)))); try simp only [Act.put, List.setIfInBounds_toArray, List.set_cons_zero, List.set_cons_succ]
          refine wpHold_nil ?_
          intro w2' hI'
          go_wp2_with fail
          refine (HOth.out w2' hI').mono ?_
          rintro E w3 ⟨rfl, hI⟩
          clear hI'
          have hsz3 := hI.size
          have HO3 := Lib.hid (HO2.out.below stays_string hI)
          have HB3 := Lib.hid (HB2.out.trans (hI.mono HB2.out.size))
          have c3 := fun j => cell_block (below_block hI HCap.out.bx) j
          have hlen : ((((W.take i).filter fun x => othersG bk m (JP.barsB live x)).map fun x => mkB (pathP x.1)).length ≤ i) := by
            rw [List.length_map]
            have h1 := List.length_filter_le (fun x => othersG bk m (JP.barsB live x)) (W.take i)
            rw [List.length_take] at h1
            have : min i W.length ≤ i := Nat.min_le_left _ _
            omega
          have hw13 := HB3.out.size
          clear hI HOth HCap HBk2
          cases ans with
          | false =>
            have HO4 : Hid (OwnAt RString 1 w3 w1.heap.size 9 u3 (((W.take (i + 1)).filter fun x => othersG bk m (JP.barsB live x)).map fun x => mkB (pathP x.1))) := Lib.hid (by
              rw [List.take_add_one, Hxi.out, List.filter_append]
              have : ([x].filter fun x => othersG bk m (JP.barsB live x)) = [] := by simp [Hans.out]
              show OwnAt RString 1 w3 w1.heap.size 9 u3 ((_ ++ ([x].filter fun x => othersG bk m (JP.barsB live x))).map fun x => mkB (pathP x.1))
              rw [this, List.append_nil]; exact HO3.out)
            clear c3
            go_wp2_with fail
            go_roundg k
            case measure => omega
            case rel => exact ⟨i + 1, by omega, by go_num, HO4, HB3⟩
          | true =>
            have HO5 := Lib.hid (HO3.out.below stays_string ((Below.refl _ w3).alloc (Nat.le_refl _) (.cells #[.string (mkB (pathP x.1))] 9)))
            have HB5 := Lib.hid (HB3.out.alloc HB3.out.size (.cells #[.string (mkB (pathP x.1))] 9))
            have hsz5 := HB5.out.size
            go_wp2_with (at_builtin; refine wpList_append_ownAt (R := RString) (k := 1) (e := 9) (B := w1.heap.size) (m := [mkB (pathP x.1)]) _ (by rfl) _ _ _ (by rfl) j0 _ 16 Tryz.underlying28 hj0 hy0 hy1 hy2 rfl (by omega) flat_string one_string _ (by rfl) HO5.out _ (by rfl) (RowAt.one (R := RString) (k := 1) (cs := #[.string (mkB (pathP x.1))]) (x := mkB (pathP x.1)) (heap_alloc_new w3 _) rfl rfl) (by unfold maxLen; simp only [List.length_singleton]; omega) (by simp only [List.length_singleton]; omega) hsz5 ?_)
            intro v' w6 hv' hg6 hr6 _
            have HB6 := Lib.hid (below_of_grown HB5.out hsz5 hg6 hr6)
            have HO6 : Hid (OwnAt RString 1 w6 w1.heap.size 9 v' (((W.take (i + 1)).filter fun x => othersG bk m (JP.barsB live x)).map fun x => mkB (pathP x.1))) := Lib.hid (by
              rw [List.take_add_one, Hxi.out, List.filter_append]
              have : ([x].filter fun x => othersG bk m (JP.barsB live x)) = [x] := by simp [Hans.out]
              show OwnAt RString 1 w6 w1.heap.size 9 v' ((_ ++ ([x].filter fun x => othersG bk m (JP.barsB live x))).map fun x => mkB (pathP x.1))
              rw [this, List.map_append]; exact hv')
            clear hv' hg6 hr6 HO5 HB5 c3
            go_wp2_with fail
            go_roundg k
            case measure => omega
            case rel => exact ⟨i + 1, by omega, by go_num, HO6, HB6⟩
end Go.Proofs.YtdcmnpeabjallaaGreatDoor
namespace Go.Proofs.YtdcmnpeabjallaaGreatDoor
open Go.RowKit
open JP (JV Bs Lf)
theorem below_grown {w w' : World} (h : Below w.heap.size w w') (row : Option Nat) : w.grownBy w' row := ⟨h.os, h.tape, h.output, h.size, fun k hk _ => h.block k hk⟩
theorem grown_trans {a b c : World} {row : Option Nat} (h : a.grownBy b row) (k : b.grownBy c row) : a.grownBy c row := ⟨k.os.trans h.os, k.tape.trans h.tape, k.output.trans h.output, Nat.le_trans h.size k.size, fun i hi hne => (k.block i (Nat.lt_of_lt_of_le hi h.size) hne).trans (h.block i hi hne)⟩
theorem grown_touch {g : Nat} {w w' : World} (h : Touch g w w') : w.grownBy w' (some g) := ⟨h.os, h.tape, h.output, by rw [h.size]; exact Nat.le_refl _, fun k hk hne => h.other k (fun e => hne (by rw [e]))⟩
set_option maxRecDepth 100000 in
set_option maxHeartbeats 3200000 in
theorem deleteStr_any {f : FuncId} {cap : Value} {Cap : World → Prop} {p : ByteArray → Bool} {OK : ByteArray → Prop} (B : Nat) (v : Value) (enter : ∀ (a : Array Value) (w : World), (callFunc f a).run Tryz.prog w = .ok (.enter f a) w)
    (keepC : ∀ w w' : World, Cap w → w.grownBy w' v.ownBlock → Cap w')
    (clo : ∀ (x : ByteArray) (w : World), OK x → Cap w → Calls Tryz.prog f #[.string x, cap] w fun e w' => e = .returned (.bool (p x)) ∧ Below w.heap.size w w')
    (l : List ByteArray) (w : World) (h : OwnAt RString 1 w B 9 v l) (hl : l.length ≤ 1048576) (hok : ∀ x ∈ l, OK x) (hc : Cap w) :
    Calls Tryz.prog 60 #[v, .func (.func f) #[] #[cap]] w fun e w' => ∃ v', e = .returned v' ∧ OwnAt RString 1 w' B 9 v' (l.filter fun r => !p r) ∧ (∀ q, v'.ownBlock = some q → v.ownBlock = some q) ∧ w.grownBy w' v.ownBlock := by
  have hidx := idxStr1_any (p := p) (Cap := Cap) (OK := OK) enter (fun w w' hc hb => keepC w w' hc (below_grown hb _)) clo v l w h.row (by omega) hok hc
  have Hidx := Lib.hid hidx
  have H := Lib.hid h
  have HC := Lib.hid clo
  have HK := Lib.hid keepC
  have Hc := Lib.hid hc
  have Hok := Lib.hid hok
  have ep := enter
  rcases h.form with ⟨rfl, rfl⟩ | ⟨g, c, rfl, hgB, hgw, hlc, hcm⟩
  · clear h clo keepC hc enter hidx hok
    go_enter Tryz.func60, Tryz.ntmps60
    go_wp2_with fail
    refine Hidx.out.mono ?_
    rintro E w1 ⟨n, rfl, hn, hb1⟩
    rcases hn with ⟨rfl, _⟩ | ⟨i, x, rfl, hx, _⟩
    · have Hb1 := Lib.hid (below_grown hb1 none)
      clear hb1
      go_wp2_with fail
      go_ret
      exact ⟨_, rfl, OwnAt.nil _, fun _ h => h, Hb1.out⟩
    · simp at hx
  · have HK2 : Hid (∀ w w' : World, Cap w → w.grownBy w' (some g) → Cap w') := HK
    clear h clo keepC hc enter hidx hok HK
    go_enter Tryz.func60, Tryz.ntmps60
    go_wp2_with fail
    refine Hidx.out.mono ?_
    rintro E w1 ⟨n, rfl, hn, hb1⟩
    have Hown := Lib.hid (H.out.below stays_string hb1)
    have Hb1 := Lib.hid (below_grown hb1 (some g))
    have Hc1 := Lib.hid (HK2.out w w1 Hc.out (below_grown hb1 (some g)))
    clear hb1
    rcases hn with ⟨rfl, hnone⟩ | ⟨i0, x0, rfl, hx0, hf0, hpre⟩
    · have hfil : l.filter (fun r => !p r) = l := List.filter_eq_self.2 fun r hr => by
        have := List.find?_eq_none.1 hnone r hr
        simpa using this
      go_wp2_with fail
      go_ret
      exact ⟨_, rfl, by rw [hfil]; exact Hown.out, fun _ h => h, Hb1.out⟩
    · have hi0 : i0 < l.length := (List.getElem?_eq_some_iff.1 hx0).1
      have hpx0 : p x0 = true := by have := List.find?_some hf0; exact this
      have hfil0 : (l.take (i0 + 1)).filter (fun r => !p r) = l.take i0 := by
        rw [List.take_add_one, hx0, List.filter_append, List.filter_eq_self.2 fun r hr => by rw [hpre r hr]; rfl]
        simp [hpx0]
      have q0 : ((i0 : Int) == -1) = false := by rw [beq_eq_false_iff_ne]; omega
      have Hfil0 := Lib.hid hfil0
      clear hx0 hf0 hpre hpx0 hfil0
      go_wp2_with fail
      go_loopg [5, 6] l.length (fun gq u5 u6 wr => ∃ (i j : Nat) (S : List ByteArray), j + gq = l.length + (i0 + 1) ∧ j ≤ l.length ∧ i < j ∧ u5 = .int .i64 (i : Int) ∧ u6 = .int .i64 (j : Int) ∧ Hid (OwnAt RString 1 wr B 9 (.slice (some ⟨g, 0, none⟩) l.length c) S) ∧ S.length = l.length ∧ Hid (S.take i = (l.take j).filter fun r => !p r) ∧ Hid (S.drop j = l.drop j) ∧ Hid (w.grownBy wr (some g)) ∧ Hid (Cap wr))
      case atStart => exact ⟨i0, i0 + 1, l, by omega, by omega, by omega, rfl, by go_num, Hown, rfl, Lib.hid Hfil0.out.symm, Lib.hid rfl, Hb1, Hc1⟩
      case round =>
        obtain ⟨i, j, S, hjg, hjl, hij, rfl, rfl, HS, hSl, Hf, Hd, Hbel, Hcr⟩ := hrel
        by_cases hend : j < l.length
        · have hSj : j < S.length := by omega
          obtain ⟨x, hxi⟩ : ∃ x, l[j]? = some x := ⟨l[j], List.getElem?_eq_getElem hend⟩
          have hxS : S[j]? = some x := by
            have h1 := congrArg (fun m => m[0]?) Hd.out
            simp only [List.getElem?_drop, Nat.add_zero] at h1
            rw [h1, hxi]
          obtain ⟨b, o, c', hv, _, _, hbs, hcell⟩ := HS.out.row.form (by omega) (by omega)
          injection hv with u1 u2 u3
          injection u1 with u1
          injection u1 with u1 u4
          subst u1; subst u4
          clear u2 u3
          obtain ⟨ds, _, hcc, hR⟩ := hcell j x hxS
          obtain rfl : ds = [.string x] := hR
          have e0 : wr.cell? ⟨g, j, none⟩ = some (.string x) := by simpa using hcc 0 _ rfl
          have q1 : (0 : Int) ≤ (j : Int) := by omega
          have q2 : (j : Int) < (l.length : Int) := by omega
          have q3 : (0 : Int) ≤ (i : Int) := by omega
          have q4 : (i : Int) < (l.length : Int) := by omega
          have Hxi := Lib.hid hxi
          clear hcc hcell hxi hxS
          go_wp2_with fail
          refine (HC.out x wr (Hok.out x (List.mem_of_getElem? Hxi.out)) Hcr.out).mono ?_
          rintro E w3 ⟨rfl, hb3⟩
          have HS3 := Lib.hid (HS.out.below stays_string hb3)
          have Hb3 := Lib.hid (grown_trans Hbel.out (below_grown hb3 (some g)))
          have Hc3 := Lib.hid (HK2.out _ _ Hcr.out (below_grown hb3 (some g)))
          clear hb3 e0
          obtain ⟨pb, Hpb⟩ : ∃ pb, Hid (p x = pb) := ⟨_, Lib.hid rfl⟩
          rw [Hpb.out]
          cases pb with
          | true =>
            have Hf2 : Hid (S.take i = (l.take (j + 1)).filter fun r => !p r) := Lib.hid (by
              rw [List.take_add_one, Hxi.out, List.filter_append, ← Hf.out]
              simp [Hpb.out])
            have Hd2 : Hid (S.drop (j + 1) = l.drop (j + 1)) := Lib.hid (by rw [← List.drop_drop, ← List.drop_drop, Hd.out])
            go_wp2_with fail
            go_roundg (gk - 1)
            case measure => omega
            case rel => exact ⟨i, j + 1, S, by omega, by omega, by omega, rfl, by go_num, HS3, hSl, Hf2, Hd2, Hb3, Hc3⟩
          | false =>
            obtain ⟨hnew, htouch⟩ := HS3.out.storeElem flat_string (i := i) (by omega) (cs := [.string x]) rfl (x := x) rfl
            rw [Nat.mul_one] at hnew htouch
            have hset : w3.setCells g i [.string x] = w3.setCell ⟨g, i, none⟩ (.string x) := rfl
            rw [hset] at hnew htouch
            have fr : w3.frozen? ⟨g, i, none⟩ = false := by
              obtain ⟨_, _, cur, h1⟩ := HS3.out.at (g := g) rfl
              exact free_block h1 i
            have ce : ∃ y, w3.cell? ⟨g, i, none⟩ = some y := by
              have h1 := HS3.out.there (o := i) (m := 1) (by omega)
              have h2 := (h1 0 (by omega)).1
              rw [Nat.add_zero] at h2
              exact Option.isSome_iff_exists.1 h2
            obtain ⟨y, hy⟩ := ce
            obtain ⟨w4, hw4⟩ : ∃ w4, w3.setCell ⟨g, i, none⟩ (.string x) = w4 := ⟨_, rfl⟩
            rw [hw4] at hnew htouch
            have Hnew := Lib.hid hnew
            have Hb4 := Lib.hid (grown_trans Hb3.out (grown_touch htouch))
            have Hc4 := Lib.hid (HK2.out _ _ Hc3.out (grown_touch htouch))
            have Hw4 := Lib.hid hw4
            clear hnew htouch hset hw4
            have Hf2 : Hid ((S.set i x).take (i + 1) = (l.take (j + 1)).filter fun r => !p r) := Lib.hid (by
              rw [List.take_add_one, List.getElem?_set, if_pos rfl, if_pos (by omega), List.take_set_of_le (Nat.le_refl i), List.take_add_one, Hxi.out, List.filter_append, ← Hf.out]
              simp [Hpb.out])
            have Hd2 : Hid ((S.set i x).drop (j + 1) = l.drop (j + 1)) := Lib.hid (by rw [List.drop_set_of_lt (by omega), ← List.drop_drop, ← List.drop_drop, Hd.out])
            go_upto_region 10 with fail
            rw [Hw4.out]
            clear fr hy Hw4
            go_wp2_with fail
            go_roundg (gk - 1)
            case measure => omega
            case rel => exact ⟨i + 1, j + 1, S.set i x, by omega, by omega, by omega, by go_num, by go_num, Hnew, by rw [List.length_set]; exact hSl, Hf2, Hd2, Hb4, Hc4⟩
        · have hjn : j = l.length := by omega
          have hfin : S.take i = l.filter fun r => !p r := by
            rw [Hf.out, List.take_of_length_le (by omega)]
          have q2 : ¬ (j : Int) < (l.length : Int) := by omega
          have q3 : (0 : Int) ≤ (i : Int) := by omega
          have q4 : (i : Int) ≤ (l.length : Int) := by omega
          have q5 : (i : Int) ≤ (c : Int) := by omega
          have Hfin := Lib.hid hfin
          have hlt : i < l.length := by omega
          obtain ⟨m, hm⟩ : ∃ m, l.length - i = m := ⟨_, rfl⟩
          go_upto_region 11 with fail
          iterate 10 go_step
          have hzs : (Builtin.zeroCells (Value.string ByteArray.empty).cells m).size = m * 1 := zeroCells_size _ _
          obtain ⟨hend1, htouch⟩ := HS.out.behind flat_string (i := i) (vs := (Builtin.zeroCells (Value.string ByteArray.empty).cells m).toList) (by omega) (by rw [Array.length_toList, hzs]; omega)
          have hthere := HS.out.there (o := i * 1) (m := m * 1) (by omega)
          rw [← hzs] at hthere
          rw [Nat.mul_one] at hend1 htouch hthere
          have Hend1 := Lib.hid hend1
          have Hthere := Lib.hid hthere
          have Htouch := Lib.hid htouch
          clear hend1 htouch hthere
          refine wpList_clear_rows wr (by rfl) _ _ 9 (by rfl) (.string ByteArray.empty) Tryz.underlying28 Tryz.zeroValue9 (by simp [Value.cells, Value.oneCell']) g i m (c - i) (by omega) (by rfl) Hthere.out ?_
          obtain ⟨w4, Hw4⟩ : ∃ w4, Hid (wr.setCells g i (Builtin.zeroCells (Value.string ByteArray.empty).cells m).toList = w4) := ⟨_, Lib.hid rfl⟩
          rw [Hw4.out]
          have h1 := Hend1.out
          have h2 := Htouch.out
          rw [Hw4.out] at h1 h2
          rw [Hfin.out] at h1
          have H1 := Lib.hid h1
          have H2 := Lib.hid (grown_trans Hbel.out (grown_touch h2))
          clear h1 h2 hm hzs
          go_wp2_with fail
          go_ret
          exact ⟨_, rfl, H1.out, fun _ h => h, H2.out⟩
end Go.Proofs.YtdcmnpeabjallaaGreatDoor
namespace Go.Proofs.YtdcmnpeabjallaaGreatDoor
open Go
section
variable {P : Program} {ops : Array Oper} {md : Region.Mode}
theorem wpAny_relZ {n g : Nat} {hs : List Oper} {a0 : Act} {I : World → Prop} {S : Nat → World → Prop} {R : Nat → (Nat → Value) → World → Prop} {deps kills : Nat → List Nat} {Q : Exit → Act → World → Prop}
    (hops : ∀ j, j < n → hs[j]? = ops[j]?) (hn : n < ops.size) (hap : apartDsts hs)
    (hs1 : Region.sinkB md ops n = true) (hc1 : Region.chainB md ops n = true)
    (hback : ∀ i o, ops[i]? = some o → ∀ e ∈ o.after, Region.binds md e = true → e.on < i)
    (hdeps : ∀ i o, hs[i]? = some o → ∀ j ∈ deps i, j < n ∧ ∃ e ∈ o.after, Region.binds md e = true ∧ (e.on = j ∨ (e.on < i ∧ j ∈ deps e.on)))
    (hkill : ∀ i o, hs[i]? = some o → ∀ d ∈ deps i, ∀ i' ∈ kills d, i' = i ∨ ∃ o', ops[i']? = some o' ∧ ∃ e ∈ o'.after, Region.binds md e = true ∧ e.on = i)
    (hloc : ∀ j u u' w, (∀ k, (k = j ∨ k ∈ deps j) → u k = u' k) → R j u w → R j u' w)
    (obl : ∀ i o, hs[i]? = some o → ∀ (u : Nat → Value) w, I w → S i w → (∀ j ∈ deps i, R j u w) →
      (Region.wanted o (yielded ops (putAll hs u 0 a0).tmps) = true ∧ gives P (fun v w' => R i (upd u i v) w' ∧ I w' ∧ (∀ j u, j ≠ i → i ∉ kills j → R j u w → R j u w') ∧ (∀ j, j ≠ i → S j w → S j w')) ((execOp (putAll hs u 0 a0).eval o).run P w)) ∨
      (Region.wanted o (yielded ops (putAll hs u 0 a0).tmps) = false ∧ R i (upd u i undef) w))
    (hend : ∀ (u : Nat → Value) w, I w → (∀ j, j < n → kills j = [] → R j u w) → wpAny P md ops Q g (canon n ops.size) (putAll hs u 0 a0) w) :
    ∀ (f : Nat) (listed : Array Bool) (u : Nat → Value) (w : World), unl listed n = f → HeadInv md ops n listed → I w → (∀ j, j < n → listed.getD j false = true → (∀ i ∈ kills j, listed.getD i false = false) → R j u w) → (∀ j, j < n → listed.getD j false = false → S j w) →
      wpAny P md ops Q (f + g) listed (putAll hs u 0 a0) w := by
  have clos : ∀ (listed : Array Bool), HeadInv md ops n listed → ∀ (m j : Nat), j < n → j ≤ m → listed.getD j false = true → ∀ d ∈ deps j, listed.getD d false = true := by
    intro listed inv m
    induction m with
    | zero =>
      intro j hjn hjm hl d hd
      have hj0 : j = 0 := by omega
      subst hj0
      have hoj : ops[0]? = some (ops[0]'(by omega)) := by simp [show 0 < ops.size by omega]
      obtain ⟨_, e, he, hb, hon⟩ := hdeps 0 _ ((hops 0 hjn).trans hoj) d hd
      have h1 := inv.closed 0 _ hoj hl e he hb
      rcases hon with h2 | ⟨h2, _⟩
      · rw [← h2]; exact h1
      · omega
    | succ m ihm =>
      intro j hjn hjm hl d hd
      have hoj : ops[j]? = some (ops[j]'(by omega)) := by simp [show j < ops.size by omega]
      obtain ⟨_, e, he, hb, hon⟩ := hdeps j _ ((hops j hjn).trans hoj) d hd
      have h1 := inv.closed j _ hoj hl e he hb
      rcases hon with h2 | ⟨h2, h3⟩
      · rw [← h2]; exact h1
      · exact ihm e.on (by omega) (by omega) h1 d h3
  intro f
  induction f with
  | zero =>
    intro listed u w hf inv hI hR hS
    rw [Nat.zero_add, eq_canon inv hf]
    refine hend u w hI fun j hj hk0 => hR j hj (getD_false (by rw [inv.size]; omega) (unl_zero hf j hj)) (fun i hi => by rw [hk0] at hi; cases hi)
  | succ f ih =>
    intro listed u w hf inv hI hR hS
    obtain ⟨k, hk, hku, hkr⟩ := ready_ex inv hback (by omega) (by omega)
    rw [show f + 1 + g = (f + g) + 1 by omega]
    refine ⟨fun h => (by rw [h] at hkr; cases hkr), fun i hi => ?_⟩
    have hin : i < n := by
      rcases Nat.lt_or_ge i n with h | h
      · exact h
      · exact absurd hi (tail_waits hs1 hc1 hn inv _ k rfl hk hku i h)
    obtain ⟨hiu, o, ho, hall⟩ := mem_ready.1 hi
    have ho' : hs[i]? = some o := (hops i hin).trans ho
    have hRd : ∀ j ∈ deps i, R j u w := fun j hj => by
      obtain ⟨hjn, e, he, hb, hon⟩ := hdeps i o ho' j hj
      refine hR j hjn (by rcases hon with h2 | ⟨h2, h3⟩; · rw [← h2]; exact hall e he hb
                          · exact clos listed inv e.on e.on (by omega) (Nat.le_refl _) (hall e he hb) j h3) fun i' hi' => ?_
      rcases hkill i o ho' j hj i' hi' with rfl | ⟨o', ho2, e', he', hb', hon'⟩
      · exact getD_both hiu
      · cases hl : listed.getD i' false with
        | false => rfl
        | true =>
          have h1 := inv.closed i' o' ho2 hl e' he' hb'
          rw [hon', getD_both hiu] at h1
          cases h1
    have next : ∀ v w', R i (upd u i v) w' → I w' → (∀ j u, j ≠ i → i ∉ kills j → R j u w → R j u w') → (∀ j, j ≠ i → S j w → S j w') → wpAny P md ops Q (f + g) (listed.setIfInBounds i true) ((putAll hs u 0 a0).put o.dst v) w' := fun v w' hv hI' hst hsS => by
      rw [putAll_set hs u 0 i a0 o v hap ho']
      have hil : i < listed.size := by rw [inv.size]; omega
      refine ih _ _ w' (by have := unl_set hin hiu hil; omega) (inv.set hi hin) hI' (fun j hj hl hal => ?_) fun j hj hl => by
        by_cases hji : j = i
        · subst hji
          have : (listed.setIfInBounds j true).getD j false = true := by simp [Array.getD, hil]
          rw [this] at hl; cases hl
        · exact hsS j hji (hS j hj (by rwa [getD_set_ne false (fun h => hji h.symm)] at hl))
      have hup : (fun j => if j = 0 + i then v else u j) = upd u i v := by funext j; simp [upd]
      rw [hup]
      by_cases hji : j = i
      · subst hji; exact hv
      · rw [getD_set_ne false (fun h => hji h.symm)] at hl
        have hik : i ∉ kills j := fun hik => by
          have h1 := hal i hik
          have hil2 : i < listed.size := hil
          have : (listed.setIfInBounds i true).getD i false = true := by simp [Array.getD, hil2]
          rw [this] at h1
          cases h1
        refine hloc j u _ w' (fun q hq => ?_) (hst _ _ hji hik (hR j hj hl (fun i' hi' => by
          have h1 := hal i' hi'
          by_cases hii : i' = i
          · subst hii; exact absurd hi' hik
          · rwa [getD_set_ne false (fun h => hii h.symm)] at h1)))
        unfold upd
        rw [if_neg ?_]
        rintro rfl
        rcases hq with rfl | hq
        · exact hji rfl
        · have h1 := clos listed inv j j hj (Nat.le_refl _) hl q hq
          rw [getD_both hiu] at h1
          cases h1
    unfold wpOp
    simp only [ho]
    rcases obl i o ho' u w hI (hS i hin (getD_both hiu)) hRd with ⟨hw, hg⟩ | ⟨hw, hv⟩
    · rw [if_pos hw]
      refine .inl ?_
      unfold Oper.wp
      exact gives_upon (R := fun v w' => R i (upd u i v) w' ∧ I w' ∧ (∀ j u, j ≠ i → i ∉ kills j → R j u w → R j u w') ∧ ∀ j, j ≠ i → S j w → S j w') (fun v w' h => next v w' h.1 h.2.1 h.2.2.1 h.2.2.2) hg
    · rw [if_neg (by rw [hw]; simp)]
      exact next undef w hv hI (fun _ _ _ _ h => h) (fun _ _ h => h)
theorem wp_region_relZr {id : Nat} {Q : Exit → Act → World → Prop} {a : Act} {w : World} {l : List Oper} (n : Nat) (I : World → Prop) (S : Nat → World → Prop) (R : Nat → (Nat → Value) → World → Prop) (deps kills : Nat → List Nat)
    (hm : P.follows .mixedOrders = true) (hB : relYB .any l n deps kills = true) (hloc : ∀ j u u' w, (∀ k, (k = j ∨ k ∈ deps j) → u k = u' k) → R j u w → R j u' w) (hI : I w.drew) (hS0 : ∀ j, S j w.drew)
    (obl : ∀ i o, (l.take n)[i]? = some o → ∀ (u : Nat → Value) w, I w → S i w → (∀ j ∈ deps i, R j u w) →
      (Region.wanted o (yielded l.toArray (putAll (l.take n) u 0 a).tmps) = true ∧ gives P (fun v w' => R i (upd u i v) w' ∧ I w' ∧ (∀ j u, j ≠ i → i ∉ kills j → R j u w → R j u w') ∧ (∀ j, j ≠ i → S j w → S j w')) ((execOp (putAll (l.take n) u 0 a).eval o).run P w)) ∨
      (Region.wanted o (yielded l.toArray (putAll (l.take n) u 0 a).tmps) = false ∧ R i (upd u i undef) w))
    (htail : ∀ (u : Nat → Value) w, I w → (∀ j, j < n → kills j = [] → R j u w) → wpList P l.toArray Q (l.drop n) (putAll (l.take n) u 0 a) w) : (Code.region id l.toArray true).wp P Q a w := by
  simp only [relYB, Bool.and_eq_true, decide_eq_true_eq, List.all_eq_true, List.mem_range] at hB
  obtain ⟨⟨⟨⟨⟨⟨⟨hn, hs1⟩, hc1⟩, hback⟩, hap⟩, hdeps⟩, hseq⟩, hkl⟩ := hB
  have hsz : l.toArray.size = l.length := by simp
  refine wp_region_any hm ?_
  have hown : putAll (l.take n) (fun j => slotOf a (((l.take n)[j]?).bind (·.dst))) 0 a = a := putAll_own _ 0 a _ fun j o ho => by simp only [Nat.zero_add]; rw [ho]; rfl
  have hu0 : unl (Array.replicate l.toArray.size false) n = n := by
    have key : ∀ m, m ≤ l.length → unl (Array.replicate l.toArray.size false) m = m := by
      intro m
      induction m with
      | zero => intro _; rfl
      | succ m ih =>
        intro h
        unfold unl
        rw [ih (by omega), if_neg (by simp [Array.getD, show m < l.length by omega])]
    exact key n (by omega)
  have inv0 : HeadInv .any l.toArray n (Array.replicate l.toArray.size false) :=
    ⟨by simp, fun j oj _ hl => (by rw [getD_replicate_false] at hl; cases hl), fun t _ ht => getD_in (by simpa using ht) (getD_replicate_false _ _)⟩
  have H := wpAny_relZ (P := P) (ops := l.toArray) (md := .any) (n := n) (g := l.length - n) (hs := l.take n) (a0 := a) (I := I) (S := S) (R := R) (deps := deps) (kills := kills) (Q := Q)
    (fun j hj => by simp [List.getElem?_take_of_lt hj]) (by simpa using hn)
    (List.pairwise_iff_getElem.2 fun i j hi hj hij d hd => by
      have hi' : i < l.length := by simp at hi; omega
      have hj' : j < l.length := by simp at hj; omega
      have hjn : j < n := by simp at hj; omega
      have := hap j hjn i hij
      rw [List.getElem?_eq_getElem hj', List.getElem?_eq_getElem hi'] at this
      simp only [List.getElem_take] at hd ⊢
      simp only [hd] at this
      simpa using this)
    hs1 hc1
    (fun i o ho e he hb => by
      have ho' : l[i]? = some o := by simpa using ho
      have hil : i < l.length := (List.getElem?_eq_some_iff.1 ho').1
      have := hback i hil
      rw [ho'] at this
      have := Array.all_eq_true'.1 this e he
      simpa [hb] using this)
    (fun i o ho j hj => by
      have hin : i < n := by have := (List.getElem?_eq_some_iff.1 ho).1; simp at this; omega
      have ho' : l[i]? = some o := by rw [List.getElem?_take_of_lt hin] at ho; exact ho
      have := hdeps i hin
      rw [ho'] at this
      have := List.all_eq_true.1 this j hj
      simp only [Bool.and_eq_true, decide_eq_true_eq] at this
      obtain ⟨e, he, hb⟩ := Array.any_eq_true'.1 this.2
      simp only [Bool.and_eq_true, Bool.or_eq_true, beq_iff_eq, decide_eq_true_eq, List.contains_iff_mem] at hb
      exact ⟨this.1, e, he, hb.1, hb.2⟩)
    (fun i o ho d hd i' hi' => by
      have hin : i < n := by have := (List.getElem?_eq_some_iff.1 ho).1; simp at this; omega
      have ho' : l[i]? = some o := by rw [List.getElem?_take_of_lt hin] at ho; exact ho
      have h1 := hkl i hin d hd i' hi'
      rw [Bool.or_eq_true] at h1
      rcases h1 with h1 | h1
      · left; simpa using h1
      · right
        cases ho2 : l[i']? with
        | none => rw [ho2] at h1; cases h1
        | some o' =>
          rw [ho2] at h1
          obtain ⟨e, he, hb⟩ := Array.any_eq_true'.1 h1
          simp only [Bool.and_eq_true, beq_iff_eq] at hb
          exact ⟨o', by simpa using ho2, e, he, hb.1, hb.2⟩)
    hloc obl
    (fun u w' hI' hR => by
      have := wpAny_of_seq (md := .any) (Q' := Q) (l.drop n) n (canon n l.toArray.size) (putAll (l.take n) u 0 a) w' (fun j => by simp [List.getElem?_drop]) (by rw [List.length_drop, hsz]; exact hseq) (htail u w' hI' hR)
      rwa [List.length_drop] at this)
    n (Array.replicate l.toArray.size false) (fun j => slotOf a (((l.take n)[j]?).bind (·.dst))) w.drew hu0 inv0 hI (fun j _ hl _ => by rw [getD_replicate_false] at hl; cases hl) (fun j _ _ => hS0 j)
  rw [hown, show n + (l.length - n) = l.length by omega] at H
  rw [hsz]
  exact H
def relOblZ (P : Program) (ops : Array Oper) (I : World → Prop) (S : Nat → World → Prop) (K : Nat → World → World → Prop) (R : Nat → (Nat → Value) → World → Prop) (deps : Nat → List Nat) (hs : List Oper) (a0 : Act) : List Oper → Nat → Prop
  | [], _ => True
  | o :: r, i => (∀ (u : Nat → Value) w, I w → S i w → (∀ j ∈ deps i, R j (mask (deps j) j u) w) → owesK P ops (fun v w' => R i (mask (deps i) i (upd u i v)) w') (K i) (putAll hs u 0 a0) o w) ∧ relOblZ P ops I S K R deps hs a0 r (i + 1)
theorem relOblZ_get {I : World → Prop} {S : Nat → World → Prop} {K : Nat → World → World → Prop} {R : Nat → (Nat → Value) → World → Prop} {deps : Nat → List Nat} {hs : List Oper} {a0 : Act} : ∀ (l : List Oper) (k : Nat), relOblZ P ops I S K R deps hs a0 l k → ∀ j o, l[j]? = some o →
    (∀ (u : Nat → Value) w, I w → S (k + j) w → (∀ i ∈ deps (k + j), R i (mask (deps i) i u) w) → owesK P ops (fun v w' => R (k + j) (mask (deps (k + j)) (k + j) (upd u (k + j) v)) w') (K (k + j)) (putAll hs u 0 a0) o w)
  | [], _, _, j, o, h => by simp at h
  | x :: r, k, h, j, o, ho => by
    cases j with
    | zero =>
      simp only [List.getElem?_cons_zero, Option.some.injEq] at ho
      subst ho
      exact h.1
    | succ j =>
      have := relOblZ_get r (k + 1) h.2 j o (by simpa using ho)
      rw [show k + 1 + j = k + (j + 1) by omega] at this
      exact this
theorem wp_region_relZ {id : Nat} {Q : Exit → Act → World → Prop} {a : Act} {w : World} {l : List Oper} (n : Nat) (I : World → Prop) (S : Nat → World → Prop) (K : Nat → World → World → Prop) (R : Nat → (Nat → Value) → World → Prop) (deps : Nat → List Nat)
    (hm : P.follows .mixedOrders = true) (hB : relYB .any l n deps (fun _ => []) = true) (hI0 : I w.drew) (hS0 : ∀ j, S j w.drew) (hI : ∀ i w w', K i w w' → I w → I w') (hS : ∀ i j w w', j ≠ i → K i w w' → I w → S j w → S j w') (hst : ∀ i j u w w', j ≠ i → K i w w' → I w → R j u w → R j u w')
    (obl : relOblZ P l.toArray I S K R deps (l.take n) a (l.take n) 0)
    (htail : ∀ (u : Nat → Value) w', I w' → (∀ j, j < n → R j (mask (deps j) j u) w') → wpList P l.toArray Q (l.drop n) (putAll (l.take n) u 0 a) w') : (Code.region id l.toArray true).wp P Q a w := by
  refine wp_region_relZr n I S (fun j u w => R j (mask (deps j) j u) w) deps (fun _ => []) hm hB (fun j u u' w h hR => by rw [← mask_congr h]; exact hR) hI0 hS0 (fun i o ho u w' hI' hS' hd => ?_) (fun u w' hI' hR => htail u w' hI' fun j hj => hR j hj rfl)
  have h := relOblZ_get (l.take n) 0 obl i o ho u w' hI' (by rw [Nat.zero_add]; exact hS') (by rw [Nat.zero_add]; exact hd)
  rw [Nat.zero_add] at h
  rcases h with ⟨h1, h2⟩ | h
  · exact .inl ⟨h1, gives_mono (fun v w'' ⟨g1, g2⟩ => ⟨g1, hI _ _ _ g2 hI', (fun j u hji _ hj => hst i j _ _ _ hji g2 hI' hj), fun j hji hj => hS i j _ _ hji g2 hI' hj⟩) h2⟩
  · exact .inr h
end
end Go.Proofs.YtdcmnpeabjallaaGreatDoor
namespace Go.Proofs.YtdcmnpeabjallaaGreatDoor
open Go
section
variable {P : Program} {ops : Array Oper} {md : Region.Mode}
end
end Go.Proofs.YtdcmnpeabjallaaGreatDoor
namespace Go.Proofs.YtdcmnpeabjallaaGreatDoor
open Go.RowKit
open JP (JV Bs Lf)
structure Only (lo hi : Nat) (w w' : World) : Prop where
  os : w'.os = w.os
  tape : w'.tape = w.tape
  output : w'.output = w.output
  size : w.heap.size ≤ w'.heap.size
  block : ∀ k, k < w.heap.size → (k < lo ∨ hi ≤ k) → w'.heap[k]? = w.heap[k]?
theorem Only.refl (lo hi : Nat) (w : World) : Only lo hi w w := ⟨rfl, rfl, rfl, Nat.le_refl _, fun _ _ _ => rfl⟩
theorem Only.trans {lo hi : Nat} {a b c : World} (h : Only lo hi a b) (k : Only lo hi b c) : Only lo hi a c := ⟨k.os.trans h.os, k.tape.trans h.tape, k.output.trans h.output, Nat.le_trans h.size k.size, fun i hi' ho => (k.block i (Nat.lt_of_lt_of_le hi' h.size) ho).trans (h.block i hi' ho)⟩
theorem Only.of {lo hi : Nat} {w w' : World} (h : Below w.heap.size w w') : Only lo hi w w' := ⟨h.os, h.tape, h.output, h.size, fun k hk _ => h.block k hk⟩
theorem Only.grown {lo hi : Nat} {w w' : World} {row : Option Nat} (h : w.grownBy w' row) (hr : ∀ q, row = some q → lo ≤ q ∧ q < hi) : Only lo hi w w' := ⟨h.os, h.tape, h.output, h.size, fun k hk ho => h.block k hk fun e => by have := hr k e.symm; omega⟩
theorem Only.below {lo hi B : Nat} {a w w' : World} (h : Only lo hi w w') (hb : Below B a w) (hB : B ≤ lo) (hs : B ≤ w.heap.size) : Below B a w' := hb.trans ⟨h.os, h.tape, h.output, h.size, fun k hk => h.block k (by omega) (.inl (by omega))⟩
def LeavesFix (lo hi : Nat) (wF : World) (lf : Value) (W : List Leaf) : Prop := ∃ (T : List Nat) (wL wE : World), OwnAt (LeafX T wL) 3 wE wL.heap.size 65 lf W ∧ Below wL.heap.size wL wE ∧ Below wE.heap.size wE wF ∧
  (∀ b, lo ≤ b → b < hi → b ∈ T ∨ wL.heap.size ≤ b) ∧ (wE.heap.size ≤ lo ∨ hi ≤ wL.heap.size)
theorem LeavesFix.below {lo hi : Nat} {wF w : World} {lf : Value} {W : List Leaf} (h : LeavesFix lo hi wF lf W) (hb : Below wF.heap.size wF w) : LeavesFix lo hi w lf W := by
  obtain ⟨T, wL, wE, h1, h2, h3, h4⟩ := h
  exact ⟨T, wL, wE, h1, h2, h3.trans (hb.mono h3.size), h4⟩
theorem LeavesFix.row {lo hi : Nat} {wF w : World} {lf : Value} {W : List Leaf} (h : LeavesFix lo hi wF lf W) (ho : Only lo hi wF w) : RowAt LeafR 3 w lf W := by
  obtain ⟨T, wL, wE, h1, h2, h3, h4, h5⟩ := h
  have off : ∀ q, wL.heap.size ≤ q → q < wE.heap.size → w.heap[q]? = wE.heap[q]? := fun q q1 q2 => by
    rw [ho.block q (Nat.lt_of_lt_of_le q2 h3.size) (by omega), h3.block q q2]
  have hkeep : KeepT (List.range' lo (hi - lo)) wL w := by
    refine ⟨ho.os.trans (h3.os.trans h2.os), ho.tape.trans (h3.tape.trans h2.tape), ho.output.trans (h3.output.trans h2.output), Nat.le_trans h2.size (Nat.le_trans h3.size ho.size), fun b hb hn => ?_⟩
    have hbE := Nat.lt_of_lt_of_le hb h2.size
    have hn2 : b < lo ∨ hi ≤ b := by
      rw [List.mem_range'_1] at hn
      omega
    rw [ho.block b (Nat.lt_of_lt_of_le hbE h3.size) hn2, h3.block b hbE, h2.block b hb]
  rcases h1.row with h6 | ⟨a, c, e1, e2, e3, e4⟩
  · exact .inl h6
  · have hat := fun (hpos : 0 < W.length) => h1.form
    refine .inr ⟨a, c, e1, e2, e3, fun j x hx => ?_⟩
    obtain ⟨cs, g1, g2, sv, vv, k, hcs, hsv, hjv⟩ := e4 j x hx
    have hblk : wL.heap.size ≤ a.block ∧ a.block < wE.heap.size := by
      rcases h1.form with ⟨h7, _⟩ | ⟨q, c', h7, h8, h9, _⟩
      · rw [e1] at h7; cases h7
      · rw [e1] at h7
        injection h7 with h7
        injection h7 with h7
        rw [h7]; exact ⟨h8, h9⟩
    refine ⟨cs, g1, fun i u hu => ?_, sv, vv, hcs, (own_keepB (w' := w) hsv fun q hq => ?_).row.strs, k, ?_⟩
    · have h7 := g2 i u hu
      have hb : (a.add (j * 3 + i)).block = a.block := by unfold Addr.add; split <;> rfl
      rw [World.cell?_of_block (w := wE) (w' := w) (by rw [hb]; exact off _ hblk.1 hblk.2)]
      exact h7
    · have h7 := OwnAt.at hsv hq
      exact off q h7.1 h7.2.1
    · have h8 := (hjv.fresh (T' := List.range' lo (hi - lo)) fun b hb => by
        rw [List.mem_range'_1] at hb
        exact h4 b hb.1 (by omega)).keepT hkeep
      exact h8.fresh (T' := []) fun b hb => by cases hb
structure FixAt (lo hi g : Nat) (w0 wF : World) (lv mv lf : Value) (m : Bs) (live : JV) (W : List Leaf) : Prop where
  base : Below w0.heap.size w0 wF
  low : w0.heap.size ≤ lo
  deal : DealAt wF g lv mv m lf
  goff : g < lo ∨ hi ≤ g
  live : ∃ n, JvAt n [] w0 lv live
  rows : LeavesFix lo hi wF lf W
  env : Env w0
section
variable {lo hi g : Nat} {w0 wF w : World} {lv mv lf : Value} {m : Bs} {live : JV} {W : List Leaf}
theorem FixAt.below (h : FixAt lo hi g w0 wF lv mv lf m live W) (hb : Below wF.heap.size wF w) : FixAt lo hi g w0 w lv mv lf m live W :=
  ⟨h.base.trans (hb.mono h.base.size), h.low, h.deal.below hb, h.goff, h.live, h.rows.below hb, h.env⟩
theorem deal_lt (h : DealAt w g lv mv m lf) : g < w.heap.size := by
  unfold DealAt at h
  rcases Nat.lt_or_ge g w.heap.size with h1 | h1
  · exact h1
  · rw [Array.getElem?_eq_none h1] at h; cases h
theorem FixAt.dealO (h : FixAt lo hi g w0 wF lv mv lf m live W) (ho : Only lo hi wF w) : DealAt w g lv mv m lf := by
  have h1 := h.deal
  unfold DealAt at h1 ⊢
  rw [ho.block g (deal_lt h.deal) h.goff]; exact h1
theorem FixAt.baseO (h : FixAt lo hi g w0 wF lv mv lf m live W) (ho : Only lo hi wF w) : Below w0.heap.size w0 w := ho.below h.base h.low h.base.size
theorem FixAt.liveO (h : FixAt lo hi g w0 wF lv mv lf m live W) (ho : Only lo hi wF w) : ∃ n, JvAt n [] w lv live := let ⟨n, hn⟩ := h.live; ⟨n, hn.below (h.baseO ho)⟩
theorem FixAt.envO (h : FixAt lo hi g w0 wF lv mv lf m live W) (ho : Only lo hi wF w) : Env w := h.env.below (h.baseO ho)
end
structure SzCap (lo hi gd g : Nat) (wF w : World) : Prop where
  bd : w.heap[gd]? = some (.cells #[.pointer (some ⟨g, 0, none⟩)] 54 (0, 0))
  off : gd < lo ∨ hi ≤ gd
  only : Only lo hi wF w
theorem SzCap.below {lo hi gd g : Nat} {wF w w' : World} (h : SzCap lo hi gd g wF w) (hb : Below w.heap.size w w') : SzCap lo hi gd g wF w' := ⟨below_block hb h.bd, h.off, h.only.trans (.of hb)⟩
theorem SzCap.grown {lo hi gd g : Nat} {wF w w' : World} {row : Option Nat} (h : SzCap lo hi gd g wF w) (hb : w.grownBy w' row) (hr : ∀ q, row = some q → lo ≤ q ∧ q < hi) : SzCap lo hi gd g wF w' := by
  have hlt : gd < w.heap.size := by
    rcases Nat.lt_or_ge gd w.heap.size with h1 | h1
    · exact h1
    · have h9 := h.bd; rw [Array.getElem?_eq_none h1] at h9; cases h9
  exact ⟨(hb.block gd hlt fun e => by have := hr gd e.symm; have := h.off; omega).trans h.bd, h.off, h.only.trans (.grown hb hr)⟩
set_option maxRecDepth 100000 in
set_option maxHeartbeats 1600000 in
theorem seize11_any {lo hi gd gp g : Nat} {w0 wF w : World} {lv mv lf sv vv : Value} {m : Bs} {live : JV} {W : List Leaf} (hF : FixAt lo hi g w0 wF lv mv lf m live W) (hf : JP.Fit live) (x : Leaf) (hx : LeafFit x) (hr : LeafR w [.string (mkB (pathP x.1)), sv, vv] x) (p : ByteArray) (hp : p.size ≤ 1048576) (hc : SzCap lo hi gd g wF w) (hg : w.heap[gp]? = some (.cells #[.string p] 9 (0, 0))) :
    Calls Tryz.prog 63 #[.agg #[.string (mkB (pathP x.1)), sv, vv], .pointer (some ⟨gd, 0, none⟩), .pointer (some ⟨gp, 0, none⟩)] w fun e w' => e = .returned (.bool (JP.barsB live x p.data.toList)) ∧ Below w.heap.size w w' := by
  obtain ⟨_, _, hcs, hs, hv⟩ := hr
  simp only [List.cons.injEq, and_true, true_and] at hcs
  obtain ⟨rfl, rfl⟩ := hcs
  obtain ⟨sa, sc, rfl, -, -⟩ := hs.row.len
  have hvf : vv = .nilIface ∨ ∃ t u, vv = .iface t u := by obtain ⟨k, hk⟩ := hv; exact jv_form hk
  obtain ⟨sn, hsn⟩ : ∃ sn, (x.1.map mkB).length = sn := ⟨_, rfl⟩
  rw [hsn] at hs ⊢
  obtain ⟨w1, hw1⟩ : ∃ w1, w1 = w.alloc (.cells #[.string (mkB (pathP x.1)), .slice sa sn sc, vv] 65) := ⟨_, rfl⟩
  obtain ⟨gb, hgb⟩ : ∃ gb, gb = w.heap.size := ⟨_, rfl⟩
  have b1 : w1.heap[gb]? = some (.cells #[.string (mkB (pathP x.1)), .slice sa sn sc, vv] 65 (0, 0)) := by rw [hw1, hgb]; exact heap_alloc_new w _
  have hb1 : Below w.heap.size w w1 := by rw [hw1]; exact (Below.refl _ w).alloc (Nat.le_refl _) _
  have hc1 := hc.below hb1
  have HB := Lib.hid (bars_any (p := p.data.toList) (hF.dealO hc1.only) (hF.liveO hc1.only) hf (hs.below hb1) (let ⟨k, hk⟩ := hv; ⟨k, hk.below hb1⟩) hx (by rw [Array.length_toList]; exact hp) (hF.envO hc1.only))
  rw [mkB_of] at HB
  have HB1 := Lib.hid hb1
  have c1 := fun i => cell_block hc1.bd i
  have c2 := fun i => cell_block b1 i
  have c3 := fun i => cell_block (below_block hb1 hg) i
  obtain ⟨ans, Hans⟩ : ∃ ans, Hid (JP.barsB live x p.data.toList = ans) := ⟨_, Lib.hid rfl⟩
  rw [Hans.out] at HB ⊢
  clear hF hf hx hsn hs hv hc hg hb1 b1 hc1
  rcases hvf with rfl | ⟨vt, vu, rfl⟩
  all_goals
    go_enter Tryz.func63, Tryz.ntmps63
    go_upto_region 1 with fail
    rw [← hw1]
    try rw [← hgb]
    clear hw1 hgb
    go_wp2_with fail
    refine HB.out.mono ?_
    rintro E w2 ⟨rfl, hb2⟩
    have Hb2 := Lib.hid (HB1.out.trans (hb2.mono HB1.out.size))
    clear hb2
    go_wp2_with fail
    go_ret
    exact ⟨rfl, Hb2.out⟩
theorem run_seize11 : ∀ (a : Array Value) (w : World), (callFunc 63 a).run Tryz.prog w = .ok (.enter 63 a) w := run_callFunc_body Tryz.func63 (by kernel_rfl) (by kernel_rfl)
theorem run_seize1 : ∀ (a : Array Value) (w : World), (callFunc 61 a).run Tryz.prog w = .ok (.enter 61 a) w := run_callFunc_body Tryz.func61 (by kernel_rfl) (by kernel_rfl)
set_option maxRecDepth 100000 in
set_option maxHeartbeats 1600000 in
theorem seize1_any {lo hi gd g : Nat} {w0 wF w : World} {lv mv lf : Value} {m : Bs} {live : JV} {W : List Leaf} (hF : FixAt lo hi g w0 wF lv mv lf m live W) (hf : JP.Fit live) (hx : ∀ x ∈ W, LeafFit x) (hWl : W.length ≤ 1048576) (p : ByteArray) (hp : p.size ≤ 1048576) (hc : SzCap lo hi gd g wF w) :
    Calls Tryz.prog 61 #[.string p, .pointer (some ⟨gd, 0, none⟩)] w fun e w' => e = .returned (.bool (W.any fun x => JP.barsB live x p.data.toList)) ∧ Below w.heap.size w w' := by
  obtain ⟨w1, hw1⟩ : ∃ w1, w1 = w.alloc (.cells #[.string p] 9) := ⟨_, rfl⟩
  obtain ⟨gp, hgp⟩ : ∃ gp, gp = w.heap.size := ⟨_, rfl⟩
  have b1 : w1.heap[gp]? = some (.cells #[.string p] 9 (0, 0)) := by rw [hw1, hgp]; exact heap_alloc_new w _
  have hb1 : Below w.heap.size w w1 := by rw [hw1]; exact (Below.refl _ w).alloc (Nat.le_refl _) _
  have hc1 := hc.below hb1
  have HA := Lib.hid (anyLeaf2_any (cap1 := .pointer (some ⟨gd, 0, none⟩)) (cap2 := .pointer (some ⟨gp, 0, none⟩)) (Cap := fun w' => SzCap lo hi gd g wF w' ∧ w'.heap[gp]? = some (.cells #[.string p] 9 (0, 0))) (p := fun x => JP.barsB live x p.data.toList) (OK := LeafFit) run_seize11 (fun a b h hb => ⟨h.1.below hb, below_block hb h.2⟩)
    (fun x sv vv w' hr hx hc => seize11_any hF hf x hx hr p hp hc.1 hc.2) lf W w1 (hF.rows.row hc1.only) (by omega) hx ⟨hc1, b1⟩)
  have HB1 := Lib.hid hb1
  have c1 := fun i => cell_block hc1.bd i
  have hd := hF.dealO hc1.only
  have c2 : ∀ i, w1.cell? ⟨g, i, none⟩ = #[lv, mv, .string (mkB m), lf][i]? := fun i => cell_block hd i
  obtain ⟨la, lc, hlf, -, -⟩ := (hF.rows.row hc1.only).len
  obtain ⟨ans, Hans⟩ : ∃ ans, Hid ((W.any fun x => JP.barsB live x p.data.toList) = ans) := ⟨_, Lib.hid rfl⟩
  rw [Hans.out] at HA ⊢
  obtain ⟨ln, hln⟩ : ∃ ln, W.length = ln := ⟨_, rfl⟩
  rw [hln] at hlf
  subst hlf
  clear hF hf hx hc hb1 b1 hc1 hd hln
  go_enter Tryz.func61, Tryz.ntmps61
  go_upto_region 1 with fail
  rw [← hw1]
  try rw [← hgp]
  clear hw1 hgp
  go_wp2_with fail
  refine HA.out.mono ?_
  rintro E w2 ⟨rfl, hb2⟩
  have Hb2 := Lib.hid (HB1.out.trans (hb2.mono HB1.out.size))
  clear hb2
  go_wp2_with fail
  go_ret
  exact ⟨rfl, Hb2.out⟩
end Go.Proofs.YtdcmnpeabjallaaGreatDoor
namespace Go.Proofs.YtdcmnpeabjallaaGreatDoor
open Go.RowKit Go.MapKept Go.ChangeMaps
open JP (JV Bs Lf)
def BookF' (w : World) (lo hi b : Nat) (f : KB → Option Value) (g : BookF) : Prop := (∀ k, (f k).isSome = (g k).isSome) ∧ (∀ k v l, f k = some v → g k = some l → OwnAt RString 1 w lo 9 v (l.map mkB)) ∧
  (∀ k k' v v' q, k ≠ k' → f k = some v → f k' = some v' → v.ownBlock = some q → v'.ownBlock ≠ some q) ∧ (∀ k v q, f k = some v → v.ownBlock = some q → q < hi) ∧ lo ≤ b ∧ b < hi
def BookIn (lo hi : Nat) (w : World) (b n : Nat) (g : BookF) : Prop := ∃ f : KB → Option Value, MapS Tryz.prog 9 w b n f ∧ BookF' w lo hi b f g
theorem BookIn.at {lo hi b n : Nat} {w : World} {g : BookF} (h : BookIn lo hi w b n g) : BookAt w lo b n g := by
  obtain ⟨f, h1, h2, h3, h4, h5, h6, h7⟩ := h
  exact ⟨f, h1, h2, h3, h4, h6⟩
theorem BookIn.below {lo hi b n : Nat} {w w' : World} {g : BookF} (h : BookIn lo hi w b n g) (hb : Below w.heap.size w w') : BookIn lo hi w' b n g := by
  obtain ⟨f, h1, h2, h3, h4, h5, h6, h7⟩ := h
  exact ⟨f, h1.belowW hb, h2, fun k v l hk hg => own_keepB (h3 k v l hk hg) fun q hq => hb.block q ((h3 k v l hk hg).at hq).2.1, h4, h5, h6, h7⟩
theorem BookF'.below {lo hi b : Nat} {w w' : World} {f : KB → Option Value} {g : BookF} (h : BookF' w lo hi b f g) (hb : Below w.heap.size w w') : BookF' w' lo hi b f g := by
  obtain ⟨h2, h3, h4, h5, h6, h7⟩ := h
  exact ⟨h2, fun k v l hk hg => own_keepB (h3 k v l hk hg) fun q hq => hb.block q ((h3 k v l hk hg).at hq).2.1, h4, h5, h6, h7⟩
theorem SzCap.iter {lo hi gd g r : Nat} {wF w w' : World} (h : SzCap lo hi gd g wF w) (hg : w.grownBy w' (some r)) (hr : wF.heap.size ≤ r) (hgd : gd < wF.heap.size) : SzCap lo hi gd g wF w' := by
  refine ⟨(hg.block gd (Nat.lt_of_lt_of_le hgd h.only.size) (fun e => by cases e; omega)).trans h.bd, h.off, ⟨hg.os.trans h.only.os, hg.tape.trans h.only.tape, hg.output.trans h.only.output, Nat.le_trans h.only.size hg.size, fun k hk ho => ?_⟩⟩
  rw [hg.block k (Nat.lt_of_lt_of_le hk h.only.size) (fun e => by cases e; omega)]
  exact h.only.block k hk ho
open Classical in
noncomputable def seizeG (live : JV) (m : Bs) (W : List Leaf) (g : BookF) : BookF := fun k => if k = m then g k else (g k).map fun l => l.filter fun p => !(W.any fun x => JP.barsB live x p)
set_option maxRecDepth 100000 in
set_option maxHeartbeats 6400000 in
theorem seize_any {lo hi g b n : Nat} {w0 w : World} {lv lf : Value} {m : Bs} {live : JV} {W : List Leaf} {bk : BookF} (hF : FixAt lo hi g w0 w lv (.map (some b)) lf m live W) (hf : JP.Fit live) (hx : ∀ x ∈ W, LeafFit x) (hWl : W.length ≤ 1048576)
    (hb : BookIn lo hi w b n bk) (hg : ∀ k l, bk k = some l → l.length ≤ 1048576 ∧ ∀ s ∈ l, s.length ≤ 1048576) (hn : n ≤ 1048576) (hhi : hi ≤ w.heap.size) :
    Calls Tryz.prog 35 #[.pointer (some ⟨g, 0, none⟩)] w fun e w' => e = .returned (.tuple #[]) ∧ BookIn lo hi w' b n (seizeG live m W bk) ∧ Only lo hi w w' := by
  obtain ⟨w1, hw1⟩ : ∃ w1, w1 = w.alloc (.cells #[.pointer (some ⟨g, 0, none⟩)] 54) := ⟨_, rfl⟩
  obtain ⟨gd, hgd⟩ : ∃ gd, gd = w.heap.size := ⟨_, rfl⟩
  have b1 : w1.heap[gd]? = some (.cells #[.pointer (some ⟨g, 0, none⟩)] 54 (0, 0)) := by rw [hw1, hgd]; exact heap_alloc_new w _
  have hb1 : Below w.heap.size w w1 := by rw [hw1]; exact (Below.refl _ w).alloc (Nat.le_refl _) _
  have hF1 := hF.below hb1
  have hgd1 : gd < w1.heap.size := by rw [hw1, hgd, World.size_alloc]; omega
  have hs1 := hb1.size
  have HF := Lib.hid hF1
  have Hcap : Hid (SzCap lo hi gd g w1 w1) := Lib.hid ⟨b1, .inr (by omega), Only.refl _ _ _⟩
  have HO1 : Hid (Only lo hi w w1) := Lib.hid (Only.of hb1)
  obtain ⟨F0, hM, hBF⟩ := hb.below hb1
  have HM := Lib.hid hM
  have HBF := Lib.hid hBF
  have Hg := Lib.hid hg
  have hcl := fun (p : ByteArray) (w' : World) (hp : p.size ≤ 1048576) (hc : SzCap lo hi gd g w1 w') => seize1_any hF1 hf hx hWl p hp hc
  have HCl := Lib.hid hcl
  have cc := fun i => cell_block b1 i
  have dd : ∀ i, w1.cell? ⟨g, i, none⟩ = #[lv, .map (some b), .string (mkB m), lf][i]? := fun i => cell_block hF1.deal i
  clear hF hf hx hWl hb hg hM hBF hcl b1 hb1 hF1
  go_enter Tryz.func35, Tryz.ntmps35
  go_upto_region 1 with fail
  rw [← hw1]
  try rw [← hgd]
  clear hw1 hgd
  go_wp2_with (at_range; refine wpList_range_mapS _ (by rfl) _ 56 (by rfl) 9 28 Tryz.underlying9 Tryz.underlying56 b n F0 (by rfl) HM.out ?_; intro w2 cnt hrg hgr hsz)
  try go_frame
  have hb2 : Below w1.heap.size w1 w2 := ⟨hgr.os, hgr.tape, hgr.output, hgr.size, fun k hk => hgr.block k hk (by simp)⟩
  have HC2 := Lib.hid (Hcap.out.below hb2)
  have HBF2 := Lib.hid (HBF.out.below hb2)
  have HR1 := Lib.hid hrg
  obtain ⟨r, hr⟩ : ∃ r, w1.heap.size = r := ⟨_, rfl⟩
  rw [hr] at HR1 hgd1 hs1 ⊢
  have Hr := Lib.hid hr
  clear hrg hgr hsz hb2 hr cc dd
  go_loopg [2, 3] cnt (fun k u2 u3 wr => ∃ (left : KB → Bool) (f : KB → Option Value), Hid (RangeS Tryz.prog 9 wr b r n f left k) ∧ Hid (BookF' wr lo hi b f fun z => if left z = true then bk z else seizeG live m W bk z) ∧ Hid (SzCap lo hi gd g w1 wr))
  case atStart =>
    refine ⟨_, _, HR1, Lib.hid ?_, HC2⟩
    have h9 : (fun z => if (F0 z).isSome = true then bk z else seizeG live m W bk z) = bk := by
      funext z
      have h8 := HBF.out.1 z
      split
      · rfl
      · rename_i h7
        have h6 : bk z = none := by
          cases hz : bk z with
          | none => rfl
          | some l => rw [hz] at h8; exact absurd h8 h7
        unfold seizeG
        split
        · rfl
        · rw [h6]; rfl
    rw [h9]; exact HBF2.out
  case round =>
    obtain ⟨left, f, HR, HB, HC⟩ := hrel
    have dF := HF.out.dealO HC.out.only
    have cc := fun i => cell_block HC.out.bd i
    have dd : ∀ i, wr.cell? ⟨g, i, none⟩ = #[lv, .map (some b), .string (mkB m), lf][i]? := fun i => cell_block dF i
    clear cc dd dF
    go_wp2_with (at_next; refine wpList_next_rangeS _ (by rfl) _ (by rfl) 9 Tryz.underlying9 b r n f left gk (by rfl) HR.out ?_ ?_)
    · intro hl0
      have HBe : Hid (BookIn lo hi wr b n (seizeG live m W bk)) := Lib.hid (by
        have h9 : (fun z => if left z = true then bk z else seizeG live m W bk z) = seizeG live m W bk := by funext z; rw [hl0 z]; rfl
        rw [← h9]; exact ⟨f, HR.out.map, HB.out⟩)
      have HOe := Lib.hid (HO1.out.trans HC.out.only)
      clear hl0 HB HR HC
      go_wp2_with fail
      go_end0
      exact ⟨rfl, HBe.out, HOe.out⟩
    · intro s v w3 cnt3 hs hlk hv hrg3 hlt hgr3 hsz3 hen
      obtain ⟨l, hgl⟩ : ∃ l, bk s.data.toList = some l := by
        have h9 := HB.out.1 s.data.toList
        rw [hv] at h9
        simp only [hlk, if_true] at h9
        exact Option.isSome_iff_exists.1 h9.symm
      have hown := HB.out.2.1 _ v l hv (by simp only [hlk, if_true]; exact hgl)
      have hvb : ∀ q, v.ownBlock = some q → lo ≤ q ∧ q < hi := fun q hq => ⟨(hown.at hq).1, HB.out.2.2.2.1 _ _ _ hv hq⟩
      have hri : hi ≤ r := by omega
      have hC3 := HC.out.iter hgr3 (by rw [Hr.out]; exact Nat.le_refl _) (by rw [Hr.out]; exact hgd1)
      have hB3 : BookF' w3 lo hi b f fun z => if left z = true then bk z else seizeG live m W bk z := by
        obtain ⟨p2, p3, p4, p5, p6, p7⟩ := HB.out
        exact ⟨p2, fun k v l hk hg => own_keepB (p3 k v l hk hg) fun q hq => hgr3.block q ((p3 k v l hk hg).at hq).2.1 (fun e => by cases e; have := p5 k v _ hk hq; omega), p4, p5, p6, p7⟩
      have hown3 := own_keepB hown (w' := w3) fun q hq => hgr3.block q (hown.at hq).2.1 (fun e => by cases e; have := (hvb _ hq).2; omega)
      have hgl2 := Hg.out _ _ hgl
      obtain ⟨va, vc, rfl, -, -⟩ := hown.row.len
      obtain ⟨vn, hvn⟩ : ∃ vn, (l.map mkB).length = vn := ⟨_, rfl⟩
      rw [hvn] at hen hown3 hvb hv ⊢
      have e1 : ((s).toList == (mkB m).toList) = decide (s.data.toList = m) := by
        rw [ByteArray.toList_eq, ByteArray.toList_eq, mkB_list, Bool.eq_iff_iff, beq_iff_eq, decide_eq_true_iff]
      obtain ⟨km, Hkm⟩ : ∃ km, Hid (decide (s.data.toList = m) = km) := ⟨_, Lib.hid rfl⟩
      rw [Hkm.out] at e1
      have HR3 := Lib.hid hrg3
      have HB3 := Lib.hid hB3
      have HC3 := Lib.hid hC3
      have Hgl := Lib.hid hgl
      have Hgl2 := Lib.hid hgl2
      have Hown3 := Lib.hid hown3
      have Hvb := Lib.hid hvb
      have Hv := Lib.hid hv
      have hss : s.size ≤ 9223372036854775807 := by unfold maxLen at hs; omega
      have dF := HF.out.dealO hC3.only
      have cc := fun i => cell_block hC3.bd i
      have dd : ∀ i, w3.cell? ⟨g, i, none⟩ = #[lv, .map (some b), .string (mkB m), lf][i]? := fun i => cell_block dF i
      have hgl3 : g < w3.heap.size := deal_lt dF
      have hgdl3 : gd < w3.heap.size := by have := hC3.only.size; have := Hr.out; omega
      clear hrg3 hgr3 hsz3 hB3 hC3 hgl hgl2 hown hown3 hvb hv hlk dF HB HR HC hvn
      cases km with
      | true =>
        have hsm : s.data.toList = m := of_decide_eq_true Hkm.out
        have HB4 : Hid (BookF' w3 lo hi b f fun z => if (left z && !decide (z = s.data.toList)) = true then bk z else seizeG live m W bk z) := Lib.hid (by
          have h9 : (fun z => if (left z && !decide (z = s.data.toList)) = true then bk z else seizeG live m W bk z) = fun z => if left z = true then bk z else seizeG live m W bk z := by
            funext z
            by_cases e : z = s.data.toList
            · rw [decide_eq_true e]
              unfold seizeG
              rw [if_pos (e.trans hsm)]
              simp
            · rw [decide_eq_false e]; simp
          rw [h9]; exact HB3.out)
        clear hsm HB3
        go_wp2_with fail
        clear cc dd
        go_roundg cnt3
        case measure => exact hlt
        case rel => exact ⟨_, _, HR3, HB4, HC3⟩
      | false =>
        have hsm : s.data.toList ≠ m := of_decide_eq_false Hkm.out
        have hdel := fun (w' : World) (hcap : SzCap lo hi gd g w1 w') (hw' : OwnAt RString 1 w' lo 9 (.slice va vn vc) (l.map mkB)) => deleteStr_any (cap := .pointer (some ⟨gd, 0, none⟩)) (Cap := SzCap lo hi gd g w1) (p := fun x => W.any fun y => JP.barsB live y x.data.toList) (OK := fun x => x.size ≤ 1048576) lo (.slice va vn vc) run_seize1
          (fun a c h hb => h.grown hb Hvb.out) (fun x w' hx hc => HCl.out x w' hx hc) (l.map mkB) w' hw' (by rw [List.length_map]; exact Hgl2.out.1) (fun x hx => by
            obtain ⟨t, ht, rfl⟩ := List.mem_map.1 hx
            rw [mkB_size]; exact Hgl2.out.2 t ht) hcap
        have HDel := Lib.hid hdel
        clear hdel
        go_upto_region 5 with fail
        clear cc dd
        refine wp_region_relZ 8 (fun w' => w3.grownBy w' (Value.slice va vn vc).ownBlock ∧ SzCap lo hi gd g w1 w') (fun j w' => j = 7 → OwnAt RString 1 w' lo 9 (.slice va vn vc) (l.map mkB)) (fun i wa wb => if i = 7 then wa.grownBy wb (Value.slice va vn vc).ownBlock else wb = wa) (fun j U w' => match j with
          | 0 => U 0 = .pointer (some ⟨g, 0, none⟩)
          | 1 => U 1 = .pointer (some ⟨g, 0, none⟩)
          | 2 => U 2 = .pointer (some ⟨g, 1, none⟩)
          | 3 => U 3 = .map (some b)
          | 4 => U 4 = .string s
          | 5 => U 5 = .slice va vn vc
          | 6 => U 6 = .func (.func 61) #[] #[.pointer (some ⟨gd, 0, none⟩)]
          | 7 => OwnAt RString 1 w' lo 9 (U 7) ((l.map mkB).filter fun r => !(W.any fun y => JP.barsB live y r.data.toList)) ∧ (∀ q, (U 7).ownBlock = some q → (Value.slice va vn vc).ownBlock = some q)
          | _ => True)
          (fun | 1 => [0] | 2 => [1] | 3 => [2] | 7 => [5, 6] | _ => []) (by kernel_rfl) (by kernel_rfl) ⟨below_grown (below_drewF w3) _, HC3.out.below (below_drewF w3)⟩ (fun _ _ => Hown3.out.below stays_string (below_drewF w3)) (fun i wa wb hk hi => ?_) (fun i j wa wb hji hk hi h h7 => by
            have e : i ≠ 7 := fun e => hji (h7.trans e.symm)
            rw [if_neg e] at hk; subst hk; exact h h7) (fun i j U wa wb hji hk hi h => ?_) ⟨?_, ?_, ?_, ?_, ?_, ?_, ?_, ?_, trivial⟩ ?_
        · by_cases e : i = 7
          · rw [if_pos e] at hk; exact ⟨grown_trans hi.1 hk, hi.2.grown hk Hvb.out⟩
          · rw [if_neg e] at hk; subst hk; exact hi
        · by_cases e : i = 7
          · subst e
            match j, hji, h with
            | 0, _, h => exact h
            | 1, _, h => exact h
            | 2, _, h => exact h
            | 3, _, h => exact h
            | 4, _, h => exact h
            | 5, _, h => exact h
            | 6, _, h => exact h
            | 7, hji, _ => exact absurd rfl hji
            | _ + 8, _, _ => trivial
          · rw [if_neg e] at hk; subst hk; exact h
        · intro x' w' hb hS hd
          refine owesK_here (.pointer (some ⟨g, 0, none⟩)) (by rfl) ?_ rfl (else_of (by decide) rfl)
          simp only [putAll, List.take_succ_cons, List.take_zero]
          have c9 := fun i => cell_block hb.2.bd i
          go_simp
        · intro x' w' hb hS hd
          have k0 : x' 0 = .pointer (some ⟨g, 0, none⟩) := hd 0 (by simp)
          refine owesK_here (.pointer (some ⟨g, 0, none⟩)) (by rfl) ?_ rfl (else_of (by decide) rfl)
          simp only [putAll, List.take_succ_cons, List.take_zero]
          go_simp
        · intro x' w' hb hS hd
          have k0 : x' 1 = .pointer (some ⟨g, 0, none⟩) := hd 1 (by simp)
          refine owesK_here (.pointer (some ⟨g, 1, none⟩)) (by rfl) ?_ rfl (else_of (by decide) rfl)
          simp only [putAll, List.take_succ_cons, List.take_zero]
          go_simp
        · intro x' w' hb hS hd
          have k0 : x' 2 = .pointer (some ⟨g, 1, none⟩) := hd 2 (by simp)
          refine owesK_here (.map (some b)) (by rfl) ?_ rfl (else_of (by decide) rfl)
          simp only [putAll, List.take_succ_cons, List.take_zero]
          have d9 := HF.out.dealO hb.2.only
          have c9 : w'.cell? ⟨g, 1, none⟩ = some (.map (some b)) := cell_block d9 1
          go_simp
        · intro x' w' hb hS hd
          refine owesK_here (.string s) (by rfl) ?_ rfl (else_of (by decide) rfl)
          simp only [putAll, List.take_succ_cons, List.take_zero]
          go_simp
        · intro x' w' hb hS hd
          refine owesK_here (.slice va vn vc) (by rfl) ?_ rfl (else_of (by decide) rfl)
          simp only [putAll, List.take_succ_cons, List.take_zero]
          go_simp
        · intro x' w' hb hS hd
          refine owesK_here (.func (.func 61) #[] #[.pointer (some ⟨gd, 0, none⟩)]) (by rfl) ?_ rfl (else_of (by decide) rfl)
          simp only [putAll, List.take_succ_cons, List.take_zero]
          go_simp
        · intro x' w' hb hS hd
          have k5 : x' 5 = .slice va vn vc := hd 5 (by simp)
          have k6 : x' 6 = .func (.func 61) #[] #[.pointer (some ⟨gd, 0, none⟩)] := hd 6 (by simp)
          refine owesK_call 60 #[.slice va vn vc, .func (.func 61) #[] #[.pointer (some ⟨gd, 0, none⟩)]] (by rfl) ?_ ((HDel.out w' hb.2 (hS rfl)).mono ?_)
          · simp only [putAll, List.take_succ_cons, List.take_zero]
            go_simp
          · rintro _ w9 ⟨v9, rfl, h1, h2, h3⟩
            exact ⟨v9, rfl, ⟨h1, h2⟩, then_of (by decide) h3⟩
        · intro x' w' hb hR
          have k3 : x' 3 = .map (some b) := hR 3 (by omega)
          have k4 : x' 4 = .string s := hR 4 (by omega)
          obtain ⟨k7, k8⟩ : OwnAt RString 1 w' lo 9 (x' 7) ((l.map mkB).filter fun r => !(W.any fun y => JP.barsB live y r.data.toList)) ∧ (∀ q, (x' 7).ownBlock = some q → (Value.slice va vn vc).ownBlock = some q) := hR 7 (by omega)
          obtain ⟨v9, hv9⟩ : ∃ v9, x' 7 = v9 := ⟨_, rfl⟩
          rw [hv9] at k7 k8
          have hfil : ((l.map mkB).filter fun r => !(W.any fun y => JP.barsB live y r.data.toList)) = (l.filter fun p => !(W.any fun x => JP.barsB live x p)).map mkB := by
            rw [List.filter_map]
            refine congrArg (List.map mkB) (List.filter_congr fun t _ => ?_)
            show (!(W.any fun y => JP.barsB live y (mkB t).data.toList)) = _
            rw [mkB_list]
          rw [hfil] at k7
          have hRg := HR3.out.kept hb.1 (by
            intro e
            obtain ⟨q1, q2⟩ := Hvb.out b e.symm
            have hm := HR3.out.map
            obtain ⟨_, _, cur, h1⟩ := Hown3.out.at e.symm
            exact hm.ne h1 rfl) (by
            intro e
            have := (Hvb.out r e.symm).2
            omega)
          have HRg := Lib.hid hRg
          have Hb := Lib.hid hb.1
          have HCb := Lib.hid hb.2
          have K7 := Lib.hid k7
          have K8 := Lib.hid k8
          have hns : n < maxLen := by unfold maxLen; omega
          clear hR hb hRg k7 k8 HDel
          simp only [putAll, List.take_succ_cons, List.take_zero, List.drop_succ_cons, List.drop_zero]
          rw [k3, k4, hv9]
          clear k3 k4 hv9 hfil
          try simp only [Act.put, List.setIfInBounds_toArray, List.set_cons_zero, List.set_cons_succ]
          go_wp2_with (at_mapUpdate; refine wpList_store_rangeS _ (by rfl) _ _ _ 56 (by rfl) 9 28 Tryz.underlying9 Tryz.underlying56 b r n f _ cnt3 (by rfl) HRg.out hns s hs (by rfl) (by rw [Hv.out]; rfl) v9 (by rfl) ?_; intro w4 hrg4 ht4)
          try go_frame
          have HR4 := Lib.hid hrg4
          have HC4 : Hid (SzCap lo hi gd g w1 w4) := Lib.hid (HCb.out.grown ht4.grown (fun q hq => by cases hq; exact ⟨HB3.out.2.2.2.2.1, HB3.out.2.2.2.2.2⟩))
          have HB4 : Hid (BookF' w4 lo hi b (updF f s.data.toList v9) fun z => if (left z && !decide (z = s.data.toList)) = true then bk z else seizeG live m W bk z) := Lib.hid (by
            obtain ⟨p2, p3, p4, p5, p6, p7⟩ := HB3.out
            have hgs : (fun z => if (left z && !decide (z = s.data.toList)) = true then bk z else seizeG live m W bk z) s.data.toList = some (l.filter fun p => !(W.any fun x => JP.barsB live x p)) := by
              show (if (left s.data.toList && !decide (s.data.toList = s.data.toList)) = true then _ else _) = _
              rw [decide_eq_true rfl]
              simp only [Bool.not_true, Bool.and_false, Bool.false_eq_true, if_false]
              unfold seizeG
              rw [if_neg hsm, Hgl.out]; rfl
            have hgo : ∀ z, z ≠ s.data.toList → (fun z => if (left z && !decide (z = s.data.toList)) = true then bk z else seizeG live m W bk z) z = (if left z = true then bk z else seizeG live m W bk z) := fun z hz => by
              show (if (left z && !decide (z = s.data.toList)) = true then _ else _) = _
              rw [decide_eq_false hz]; simp
            refine ⟨fun k => ?_, fun k u l' hk hg => ?_, fun k k' u u' q hne hk hk' hq => ?_, fun k u q hk hq => ?_, p6, p7⟩
            · by_cases e : k = s.data.toList
              · subst e; rw [hgs]; unfold updF; rw [if_pos rfl]; rfl
              · rw [hgo k e]; unfold updF; rw [if_neg e]; exact p2 k
            · by_cases e : k = s.data.toList
              · subst e
                rw [hgs] at hg
                cases hg
                unfold updF at hk
                rw [if_pos rfl] at hk
                cases hk
                exact own_turned K7.out ht4
              · rw [hgo k e] at hg
                unfold updF at hk
                rw [if_neg e] at hk
                have h1 := p3 k u l' hk hg
                refine own_turned (own_keepB (w' := w') h1 fun q hq => Hb.out.block q (h1.at hq).2.1 fun e9 => ?_) ht4
                exact p4 k s.data.toList u _ q e hk Hv.out hq e9.symm
            · unfold updF at hk hk'
              by_cases e : k = s.data.toList
              · rw [if_pos e] at hk; cases hk
                rw [if_neg (fun e2 => hne (e.trans e2.symm))] at hk'
                exact p4 s.data.toList k' _ u' q (fun e2 => hne (e.trans e2)) Hv.out hk' (K8.out q hq)
              · rw [if_neg e] at hk
                by_cases e' : k' = s.data.toList
                · rw [if_pos e'] at hk'; cases hk'
                  exact fun hq' => p4 k s.data.toList u _ q e hk Hv.out hq (K8.out q hq')
                · rw [if_neg e'] at hk'
                  exact p4 k k' u u' q hne hk hk' hq
            · unfold updF at hk
              by_cases e : k = s.data.toList
              · rw [if_pos e] at hk; cases hk
                exact (Hvb.out q (K8.out q hq)).2
              · rw [if_neg e] at hk; exact p5 k u q hk hq)
          clear hrg4 ht4 HRg Hb HCb K7 K8 HB3 HC3 HR3
          go_roundg cnt3
          case measure => exact hlt
          case rel => exact ⟨_, _, HR4, HB4, HC4⟩
end Go.Proofs.YtdcmnpeabjallaaGreatDoor
namespace Go.Proofs.YtdcmnpeabjallaaGreatDoor
open Go.RowKit
open JP (JV Bs)
namespace JP
def Less (p q : JV) : Prop := Fit q ∧ (text q).length ≤ (text p).length ∧ size q ≤ size p ∧ deep q ≤ deep p
theorem deepF_cut (n : Bs) : ∀ d : Fs, deepF (cut n d) ≤ deepF d
  | [] => Nat.le_refl _
  | (m, x) :: r => by
    have ih := deepF_cut n r
    unfold cut at ih ⊢
    by_cases hm : m = n
    · rw [List.filter_cons_of_neg (by simpa using hm), deepF]; omega
    · rw [List.filter_cons_of_pos (by simpa using hm), deepF, deepF]; omega
theorem deepL_erase : ∀ (l : List JV) (n : Nat), deepL (l.eraseIdx n) ≤ deepL l
  | [], _ => Nat.le_refl _
  | v :: r, 0 => by rw [List.eraseIdx_cons_zero, deepL]; omega
  | v :: r, n + 1 => by have := deepL_erase r n; rw [List.eraseIdx_cons_succ, deepL, deepL]; omega
theorem deepL_set : ∀ (l : List JV) (n : Nat) (x : JV), deepL (l.set n x) ≤ max (deepL l) (deep x)
  | [], _, _ => by rw [List.set_nil]; omega
  | v :: r, 0, x => by rw [List.set_cons_zero, deepL, deepL]; omega
  | v :: r, n + 1, x => by have := deepL_set r n x; rw [List.set_cons_succ, deepL, deepL]; omega
theorem wfL_erase : ∀ {l : List JV} {n : Nat}, wfL l → wfL (l.eraseIdx n)
  | [], _, h => h
  | v :: r, 0, h => by rw [wfL] at h; rw [List.eraseIdx_cons_zero]; exact h.2
  | v :: r, n + 1, h => by rw [wfL] at h; rw [List.eraseIdx_cons_succ, wfL]; exact ⟨h.1, wfL_erase h.2⟩
theorem wfL_set : ∀ {l : List JV} {n : Nat} {w : JV}, wfL l → wf w → wfL (l.set n w)
  | [], _, _, h, _ => h
  | v :: r, 0, w, h, hw => by rw [wfL] at h; rw [List.set_cons_zero, wfL]; exact ⟨hw, h.2⟩
  | v :: r, n + 1, w, h, hw => by rw [wfL] at h; rw [List.set_cons_succ, wfL]; exact ⟨h.1, wfL_set h.2 hw⟩
theorem name_stands {n : Bs} {x : JV} : ∀ {l : Fs}, wfF l → get n l = some x → n.all stand = true
  | [], _, h => by rw [get] at h; cases h
  | (m, v) :: r, hw, h => by
    rw [wfF] at hw
    rw [get] at h
    by_cases e : m = n
    · rw [← e]; exact hw.1
    · rw [if_neg e] at h; exact name_stands hw.2.2 h
theorem wf_S' {v : JV} (h : wf v) : wfS v := wf_S.1 v h
theorem repl_less {v c x : JV} {s : Bs} (hv : Fit v) (hc : child v s = some c) (hx : Less c x) : Less v (repl v s x) := by
  obtain ⟨h1, h2, h3, h4⟩ := hx
  have a := repl_len (w := x) (wf_S' hv.1) hc
  have b := repl_size (x := x) (wf_S' hv.1) hc
  have d : deep (repl v s x) ≤ deep v ∧ wf (repl v s x) := by
    obtain ⟨_, _, hcd⟩ := child_len hc
    cases v with
    | obj l =>
      have := put_deep s x l
      rw [repl, deep, deep]
      rw [deep] at hcd
      refine ⟨by omega, ?_⟩
      have hw := wf_obj hv.1
      rw [wf]; exact ⟨put_srt hw.1, put_wf (name_stands hw.2 hc) h1.1 hw.2⟩
    | list l =>
      obtain ⟨n, k1, k2⟩ := Option.bind_eq_some_iff.1 hc
      rw [repl, k1]
      dsimp only
      have := deepL_set l n x
      rw [deep, deep]
      rw [deep] at hcd
      refine ⟨by omega, ?_⟩
      rw [wf]; exact wfL_set (wf_list hv.1) h1.1
    | _ => cases hc
  have f2 := hv.2.1
  have f3 := hv.2.2.1
  have f4 := hv.2.2.2
  exact ⟨⟨d.2, by omega, by omega, by omega⟩, by omega, by omega, d.1⟩
theorem cutL_less {v u : JV} {s : Bs} (hv : Fit v) (h : cutL v s = some u) : Less v u := by
  have f2 := hv.2.1
  have f3 := hv.2.2.1
  have f4 := hv.2.2.2
  cases v with
  | obj l =>
    have hw := wf_obj hv.1
    rw [cutL] at h
    cases hg : get s l with
    | none => rw [hg] at h; cases h
    | some was =>
      rw [hg] at h
      cases h
      have a := lenF_cut_get (n := s) hw.1
      rw [hg] at a
      simp only [wO] at a
      have := obj_len_le (cut s l)
      have := obj_len_ge l
      have := sizeF_cut s l
      have := deepF_cut s l
      have hq : 2 ≤ (quote s).length := by rw [quote_len]; omega
      have g1 : size (.obj (cut s l)) ≤ size (.obj l) := by rw [size, size]; omega
      have g2 : deep (.obj (cut s l)) ≤ deep (.obj l) := by rw [deep, deep]; omega
      have g3 : (text (.obj (cut s l))).length ≤ (text (.obj l)).length := by omega
      exact ⟨⟨by rw [wf]; exact ⟨srt_cut s hw.1, wfF_cut s hw.2⟩, by omega, by omega, by omega⟩, g3, g1, g2⟩
  | list l =>
    rw [cutL] at h
    cases hp : idx s l.length with
    | none => rw [hp] at h; cases h
    | some n =>
      rw [hp] at h
      cases h
      obtain ⟨h1, _⟩ := idx_some hp
      have := lenL_erase (List.getElem?_eq_getElem h1)
      have := sizeL_erase (List.getElem?_eq_getElem h1)
      have := list_len_ge l
      have := list_len_le (l.eraseIdx n)
      have := deepL_erase l n
      have g1 : size (.list (l.eraseIdx n)) ≤ size (.list l) := by rw [size, size]; omega
      have g2 : deep (.list (l.eraseIdx n)) ≤ deep (.list l) := by rw [deep, deep]; omega
      have g3 : (text (.list (l.eraseIdx n))).length ≤ (text (.list l)).length := by omega
      exact ⟨⟨by rw [wf]; exact wfL_erase (wf_list hv.1), by omega, by omega, by omega⟩, g3, g1, g2⟩
  | _ => cases h
theorem cutW_less : ∀ {l : List Bs} {v u : JV}, Fit v → cutW v l = some u → Less v u
  | [], v, u, _, h => by unfold cutW at h; rw [under] at h; cases h
  | [s], v, u, hv, h => by unfold cutW at h; rw [under_one] at h; exact cutL_less hv h
  | s :: t :: r, v, u, hv, h => by
    unfold cutW at h
    rw [under_more] at h
    obtain ⟨c, hc, h⟩ := Option.bind_eq_some_iff.1 h
    obtain ⟨x, hx, rfl⟩ := Option.map_eq_some_iff.1 h
    exact repl_less hv hc (cutW_less (l := t :: r) (child_fit hv hc) hx)
end JP
end Go.Proofs.YtdcmnpeabjallaaGreatDoor
namespace Go.Proofs.YtdcmnpeabjallaaGreatDoor
open Go.RowKit
open JP (JV Bs)
theorem store_val {w : World} {B g n c i : Nat} {e : TypeId} {xs : List Value} {v : Value} (h : OwnAt RVal 1 w B e (.slice (some ⟨g, 0, none⟩) n c) xs) (hi : i < xs.length) (hv : v.oneCell' = true) :
    ∃ w3, (storeCells ⟨g, i, none⟩ [v]).run Tryz.prog w = .ok () w3 ∧ OwnAt RVal 1 w3 B e (.slice (some ⟨g, 0, none⟩) n c) (xs.set i v) ∧ Touch g w w3 := by
  obtain ⟨css, hc1, hc2, hc3, hc4⟩ := h
  have h : OwnAt RVal 1 w B e (.slice (some ⟨g, 0, none⟩) n c) xs := ⟨css, hc1, hc2, hc3, hc4⟩
  obtain ⟨o1, o2⟩ := h.storeElem flat_val hi (cs := [v]) rfl (x := v) ⟨rfl, hv⟩
  have hle : xs.length ≤ c := by
    rcases h.form with ⟨h5, _⟩ | ⟨g', c', h5, _, _, h6, _⟩
    · cases h5
    · cases h5; exact h6
  have ht := h.there (o := i) (m := 1) (by omega)
  have e1 : w.setCells g (i * 1) [v] = w.setCell ⟨g, i, none⟩ v := by rw [Nat.mul_one]; rfl
  rw [e1] at o1 o2
  refine ⟨_, ?_, o1, o2⟩
  have h9 := run_storeCells_cells (P := Tryz.prog) g i [v] 0 w (fun j hj => by
    obtain rfl : j = 0 := by simpa using hj
    exact (ht 0 (by omega)).1) (fun j hj => by
    obtain rfl : j = 0 := by simpa using hj
    exact (ht 0 (by omega)).2) (fun u hu => by rw [List.mem_singleton.1 hu]; exact hv)
  rw [h9]; rfl
theorem jv_list {n : Nat} {w : World} {v : Value} {xs : List Value} {l : List JV} (h : RowAt RVal 1 w v xs) (hl : xs.length = l.length) (hx : ∀ (j : Nat) (u : Value) (y : JV), xs[j]? = some u → l[j]? = some y → JvAt n [] w u y) : JvAt (n + 1) [] w (.iface 87 v) (.list l) :=
  ⟨v, rfl, h.ofRaw hl fun j u y hu hy => ⟨u, rfl, hx j u y hu hy⟩, fun _ b _ hm => by cases hm⟩
theorem list_raw {n : Nat} {w : World} {u : Value} {l : List JV} (h : RowAt (JvR n []) 1 w u l) : ∃ xs, xs.length = l.length ∧ RowAt RVal 1 w u xs ∧ ∀ (j : Nat) (v : Value) (x : JV), xs[j]? = some v → l[j]? = some x → JvAt n [] w v x := by
  obtain ⟨xs, h1, h2, h3⟩ := h.raw (one_jv n [])
  exact ⟨xs, h1, h2, fun j v x hv hx => by obtain ⟨v', e, h⟩ := h3 j v x hv hx; cases e; exact h⟩
theorem jv_cell {n : Nat} {w : World} {v : Value} {x : JV} (h : JvAt n [] w v x) : v.oneCell' = true := one_jv n [] w [v] x ⟨v, rfl, h⟩ v (List.mem_singleton.2 rfl)
def MadeAt (x : JV) (w : World) (e : Ending) (w' : World) : Prop := ∃ u, e = .returned u ∧ (∃ k, JvAt k [] w' u x) ∧ Below w.heap.size w w'
set_option maxRecDepth 100000 in
set_option maxHeartbeats 3200000 in
theorem replaced_any {n m : Nat} {v wv : Value} {x y c : JV} {s : Bs} {w : World} (h : JvAt n [] w v x) (hy : JvAt m [] w wv y) (hc : JP.child x s = some c) (hz : (JP.text x).length ≤ 1000000) (hs : s.length ≤ 1048576) (ht : TabOK w) (he : ErrOK w) :
    Calls Tryz.prog 132 #[v, .string (mkB s), wv] w (MadeAt (JP.repl x s y) w) := by
  obtain ⟨R0, hR⟩ : ∃ R, JP.repl x s y = R := ⟨_, rfl⟩
  rw [hR]
  have HR := Lib.hid hR
  clear hR
  cases n with
  | zero => cases h
  | succ n =>
    have way : (∃ l, x = .obj l) ∨ (∃ l, x = .list l) := by
      cases x with
      | obj l => exact .inl ⟨l, rfl⟩
      | list l => exact .inr ⟨l, rfl⟩
      | _ => cases hc
    rcases way with ⟨l, rfl⟩ | ⟨l, rfl⟩
    · obtain ⟨q, rfl, ho⟩ := h
      have G1 := (as_obj (.pointer (some ⟨q, 0, none⟩))).2.2.2.2
      have hl : l.length ≤ 1000000 := by have := lenF_len l; have := JP.obj_len_ge l; omega
      have HWi := Lib.hid (with_any (x := s) (ho.upsJ (Nat.le_max_left n m)) (hy.ups (Nat.le_max_right n m)) (fun b hb => by cases hb) (by omega))
      clear ho hy ht he hz hs hl hc
      go_enter Tryz.func132, Tryz.ntmps132
      go_wp2_with fail
      refine HWi.out.mono ?_
      rintro E w1 ⟨q', rfl, ho, hb⟩
      have HB := Lib.hid hb
      have HO := Lib.hid ho
      clear hb ho
      go_wp2_with fail
      go_ret
      exact ⟨_, rfl, ⟨max n m + 1, by rw [← HR.out]; exact ⟨q', rfl, HO.out⟩⟩, HB.out⟩
    · obtain ⟨u, rfl, hr, _⟩ := h
      obtain ⟨a1, c1, rfl, _, _⟩ := hr.len
      obtain ⟨G1, G2⟩ := (as_list (.slice a1 l.length c1)).2.2.2
      have hl : l.length ≤ 1000000 := by have := lenL_len l; have := JP.list_len_ge l; omega
      obtain ⟨k, hix, _⟩ := Option.bind_eq_some_iff.1 (show (JP.idx s l.length).bind (fun n => l[n]?) = some c from hc)
      have HI := Lib.hid (index_yes hix hs (by omega) ht he)
      obtain ⟨k1, _⟩ := JP.idx_some hix
      have HR2 : Hid (R0 = .list (l.set k y)) := Lib.hid (by rw [← HR.out, JP.repl, hix])
      obtain ⟨xs, x1, x2, x3⟩ := list_raw hr
      have HC := Lib.hid (fun w' (hb : Below w.heap.size w w') => cloneVal_any (.slice a1 l.length c1) xs w' (x2.below stays_val hb) (by omega))
      have HX3 := Lib.hid x3
      have HX1 := Lib.hid x1
      have HY := Lib.hid hy
      have hv1 := jv_cell hy
      have q1 : (0 : Int) ≤ (k : Int) := by omega
      clear ht he hs hr x2 x3 hc hz HR hix x1 hy
      go_enter Tryz.func132, Tryz.ntmps132
      go_wp2_with fail
      refine HI.out.mono ?_
      rintro E w1 ⟨rfl, hb⟩
      have HB1 := Lib.hid hb
      clear hb
      go_wp2_with fail
      refine (HC.out w1 HB1.out).mono ?_
      rintro E w2 ⟨v9, rfl, hown, hb⟩
      have HB2 := Lib.hid (HB1.out.trans (hb.mono HB1.out.size))
      rcases hown.form with ⟨_, h0⟩ | ⟨g, c9, rfl, hB, hg, _, _⟩
      · have := HX1.out; rw [h0] at this; simp only [List.length_nil] at this; omega
      · obtain ⟨w3, hst, hown3, t3⟩ := store_val hown (i := k) (by rw [HX1.out]; exact k1) hv1
        have hb3 : Below w.heap.size w w3 := t3.below HB2.out (by have := HB1.out.size; omega)
        have HB3 := Lib.hid hb3
        have HO3 := Lib.hid hown3
        rw [HX1.out]
        have q2 : (k : Int) < (l.length : Int) := by omega
        have Hst := Lib.hid hst
        clear hst hown hb hown3 t3 hb3
        go_wp2_with fail
        rw [Hst.out]
        go_wp2_with fail
        go_ret
        refine ⟨_, rfl, ⟨max n m + 1, ?_⟩, HB3.out⟩
        rw [HR2.out]
        have hrow := HO3.out.row
        rw [HX1.out] at hrow
        refine jv_list hrow (by rw [List.length_set, List.length_set, HX1.out]) fun j u z hu hz => ?_
        by_cases hjk : j = k
        · subst hjk
          rw [List.getElem?_set_self (by rw [HX1.out]; omega)] at hu
          rw [List.getElem?_set_self k1] at hz
          cases hu
          cases hz
          exact (HY.out.below HB3.out).ups (Nat.le_max_right n m)
        · rw [List.getElem?_set_ne (fun e => hjk e.symm)] at hu hz
          exact ((HX3.out j u z hu hz).below HB3.out).ups (Nat.le_max_left n m)
end Go.Proofs.YtdcmnpeabjallaaGreatDoor
namespace Go.Proofs.YtdcmnpeabjallaaGreatDoor
open Go.RowKit
open JP (JV Bs)
namespace JP
def codE (c : Int) : Option JV → Int
  | some _ => 0
  | none => c
end JP
def MadeE (o : Option JV) (w : World) (e : Ending) (w' : World) : Prop := ∃ u, e = .returned (.tuple #[u, .int .i64 (JP.codE 7 o)]) ∧ (∀ z, o = some z → ∃ k, JvAt k [] w' u z) ∧ Below w.heap.size w w'
theorem MadeE.no {w w' : World} {o : Option JV} {u : Value} (ho : o = none) (hb : Below w.heap.size w w') : MadeE o w (.returned (.tuple #[u, .int .i64 7])) w' := by
  subst ho
  exact ⟨_, rfl, fun c h => (by cases h), hb⟩
theorem MadeE.yes {w w' : World} {o : Option JV} {k : Nat} {c : JV} {u : Value} (ho : o = some c) (h : JvAt k [] w' u c) (hb : Below w.heap.size w w') : MadeE o w (.returned (.tuple #[u, .int .i64 0])) w' := by
  subst ho
  exact ⟨_, rfl, fun d e => (by cases e; exact ⟨k, h⟩), hb⟩
theorem str_cell {w wr : World} {l : List Bs} {i c : Nat} {a : Option Addr} {y : Bs} {n : Nat} (h : StrAt w (.slice a n c) (l.map mkB)) (hb : Below w.heap.size w wr) (hy : l[i]? = some y) : ∃ b o, a = some ⟨b, o, none⟩ ∧ wr.cell? ⟨b, o + i, none⟩ = some (.string (mkB y)) := by
  have hil := (List.getElem?_eq_some_iff.1 hy).1
  obtain ⟨b1, o1, c', hv1, _, _, hbs1, hcell1⟩ := h.row.form (by rw [List.length_map]; omega) (by omega)
  injection hv1 with u1 u2 u3
  obtain ⟨ds1, _, hcc1, hR1⟩ := hcell1 i (mkB y) (by rw [List.getElem?_map, hy]; rfl)
  obtain rfl : ds1 = [.string (mkB y)] := hR1
  exact ⟨b1, o1, u1, (hb.cell (p := ⟨b1, _, none⟩) hbs1).trans (by simpa using hcc1 0 _ rfl)⟩
set_option maxRecDepth 100000 in
set_option maxHeartbeats 6400000 in
theorem under0_any {f : FuncId} {Cap : World → Prop} {F : JV → Bs → Option JV} (enter : ∀ (a : Array Value) (w : World), (callFunc f a).run Tryz.prog w = .ok (.enter f a) w)
    (keepC : ∀ w w' : World, Cap w → Below w.heap.size w w' → Cap w')
    (clo : ∀ (n : Nat) (v : Value) (x : JV) (s : Bs) (w : World), JvAt n [] w v x → (JP.text x).length ≤ 1000000 → s.length ≤ 1048576 → TabOK w → ErrOK w → Cap w → Calls Tryz.prog f #[v, .string (mkB s)] w (MadeE (F x s) w)) :
    ∀ (l : List Bs) (n : Nat) (v sv : Value) (x : JV) (w : World), l ≠ [] → JvAt n [] w v x → (JP.text x).length ≤ 1000000 → StrAt w sv (l.map mkB) → (∀ s ∈ l, s.length ≤ 1048576) → l.length ≤ 1048576 → TabOK w → ErrOK w → Cap w →
      Calls Tryz.prog 97 #[v, sv, .func (.func f) #[] #[]] w (MadeE (JP.under F x l) w) := by
  have HClo := Lib.hid clo
  have HK := Lib.hid keepC
  have ep := enter
  clear clo keepC enter
  intro l
  induction l with
  | nil => intro n v sv x w h; exact absurd rfl h
  | cons s r ih =>
    intro n v sv x w _ h hz hs hl hll ht he hc
    obtain ⟨a1, c1, hu, hlc, _⟩ := hs.len
    rw [List.length_map] at hu hlc
    subst hu
    obtain ⟨b, o, ea, e0⟩ := str_cell (wr := w) hs (Below.refl _ _) (i := 0) (y := s) rfl
    subst ea
    have e0 : w.cell? ⟨b, o, none⟩ = some (.string (mkB s)) := e0
    have hsl := hl s (List.mem_cons_self ..)
    cases r with
    | nil =>
      have HC := Lib.hid (HClo.out n v x s w h hz hsl ht he hc)
      rw [JP.under_one]
      clear ih h hz hs hl hll ht he hc hsl hlc
      go_enter Tryz.func97, Tryz.ntmps97
      go_wp2_with fail
      refine HC.out.mono ?_
      rintro E w1 ⟨u, rfl, hu, hb⟩
      have HU := Lib.hid hu
      have HB := Lib.hid hb
      clear hb hu
      go_wp2_with fail
      go_ret2
      exact ⟨u, rfl, HU.out, HB.out⟩
    | cons t r =>
      obtain ⟨R0, hR⟩ : ∃ R, JP.under F x (s :: t :: r) = R := ⟨_, rfl⟩
      rw [hR]
      have HR : Hid (R0 = (JP.child x s).bind fun c => (JP.under F c (t :: r)).map (JP.repl x s)) := Lib.hid (by rw [← hR, JP.under_more])
      clear hR
      have hlen : (s :: t :: r).length = (t :: r).length + 1 := rfl
      obtain ⟨m, hm⟩ : ∃ m, (t :: r).length = m := ⟨_, rfl⟩
      have hm1 : 1 ≤ m := by rw [← hm, List.length_cons]; omega
      rw [hm] at hlen
      rw [hlen] at hs hll hlc ⊢
      have hcut := hs.cut (i := 1) (j := m + 1) (b := b) (o := o) (c := c1) (by rw [List.length_map, hlen]) (by omega) (by rw [List.length_map, hlen]; omega)
      rw [List.take_of_length_le (by rw [List.length_map, hlen]; omega), List.map_cons, List.drop_one, List.tail_cons] at hcut
      have HCut := Lib.hid hcut
      have HCh := Lib.hid (child_any (s := s) h hz hsl ht he)
      have H := Lib.hid h
      have Hz := Lib.hid hz
      have Hl := Lib.hid hl
      have HT := Lib.hid ht
      have HE := Lib.hid he
      have HCp := Lib.hid hc
      have IH := Lib.hid ih
      have Hm := Lib.hid hm
      have q1 : ((m : Int) + 1 == 1) = false := by rw [beq_eq_false_iff_ne]; omega
      have q2 : (0 : Int) < (m : Int) + 1 := by omega
      have q3 : (1 : Int) ≤ (m : Int) + 1 := by omega
      have q4 : (m : Int) + 1 ≤ (c1 : Int) := by omega
      have q5 : ((m : Int) + 1).toNat = m + 1 := by omega
      clear ih h hz hs hl ht he hc hcut hm hlen
      cases hcd : JP.child x s with
      | none =>
        rw [hcd] at HCh
        have HN : Hid (R0 = none) := Lib.hid (by rw [HR.out, hcd]; rfl)
        clear hcd
        go_enter Tryz.func97, Tryz.ntmps97
        go_wp2_with fail
        refine HCh.out.mono ?_
        rintro E w1 ⟨u, rfl, _, hb⟩
        have HB := Lib.hid hb
        clear hb
        go_wp2_with fail
        go_ret2
        exact MadeE.no HN.out HB.out
      | some c =>
        rw [hcd] at HCh
        have HRc : Hid (R0 = (JP.under F c (t :: r)).map (JP.repl x s)) := Lib.hid (by rw [HR.out, hcd]; rfl)
        have Hcd := Lib.hid hcd
        have hcl := (JP.child_len hcd).1
        have Hcl : Hid ((JP.text c).length ≤ 1000000) := Lib.hid (by have := Hz.out; omega)
        clear hcd hcl
        go_enter Tryz.func97, Tryz.ntmps97
        go_wp2_with fail
        refine HCh.out.mono ?_
        rintro E w1 ⟨u, rfl, hu, hb⟩
        obtain ⟨k1, hk1⟩ := hu c rfl
        have HB := Lib.hid hb
        have hcall := IH.out k1 u (.slice (some ⟨b, o + 1, none⟩) (m + 1 - 1) (c1 - 1)) c w1 (by intro e; cases e) hk1 Hcl.out (HCut.out.below hb) (fun s' hs' => Hl.out s' (List.mem_cons_of_mem _ hs')) (by rw [Hm.out]; omega) (HT.out.below hb) (HE.out.below hb) (HK.out _ _ HCp.out hb)
        obtain ⟨R1, hR1⟩ : ∃ R, JP.under F c (t :: r) = R := ⟨_, rfl⟩
        rw [hR1] at hcall
        have HRR : Hid (R0 = R1.map (JP.repl x s)) := Lib.hid (by rw [HRc.out, hR1])
        have HCa := Lib.hid hcall
        clear hcall hR1 hk1 hu hb
        go_wp2_with fail
        refine HCa.out.mono ?_
        rintro E w2 ⟨u2, rfl, hu2, hb2⟩
        have HB2 := Lib.hid (HB.out.trans (hb2.mono HB.out.size))
        cases R1 with
        | none =>
          have HN : Hid (R0 = none) := Lib.hid HRR.out
          have hq : JP.codE 7 none = 7 := rfl
          rw [hq]
          clear hb2 hu2 hq
          go_wp2_with fail
          go_ret2
          exact MadeE.no HN.out HB2.out
        | some z =>
          have HN : Hid (R0 = some (JP.repl x s z)) := Lib.hid HRR.out
          obtain ⟨k2, hk2⟩ := hu2 z rfl
          have hrep := replaced_any (s := s) (H.out.below HB2.out) hk2 Hcd.out Hz.out hsl (HT.out.below HB2.out) (HE.out.below HB2.out)
          have HRp := Lib.hid hrep
          have hq : JP.codE 7 (some z) = 0 := rfl
          have e2 : w2.cell? ⟨b, o, none⟩ = some (.string (mkB s)) := (HB2.out.cell (p := ⟨b, o, none⟩) (World.block_lt_of_cell? w ⟨b, o, none⟩ e0)).trans e0
          rw [hq]
          clear hb2 hu2 hq hk2 hrep
          go_wp2_with fail
          refine HRp.out.mono ?_
          rintro E w3 ⟨u3, rfl, ⟨k3, hk3⟩, hb3⟩
          have HB3 := Lib.hid (HB2.out.trans (hb3.mono HB2.out.size))
          have HJ := Lib.hid hk3
          clear hb3 hk3
          go_wp2_with fail
          go_ret2
          exact MadeE.yes HN.out HJ.out HB3.out
end Go.Proofs.YtdcmnpeabjallaaGreatDoor
namespace Go.Proofs.YtdcmnpeabjallaaGreatDoor
open Go.RowKit
open JP (JV Bs)
def BoxOf (cb : Nat) (y : JV) (w : World) : Prop := ∃ wv m, w.cell? ⟨cb, 0, none⟩ = some wv ∧ JvAt m [] w wv y
theorem BoxOf.below {cb : Nat} {y : JV} {w w' : World} (h : BoxOf cb y w) (hb : Below w.heap.size w w') : BoxOf cb y w' := by
  obtain ⟨wv, m, h1, h2⟩ := h
  exact ⟨wv, m, (hb.cell (p := ⟨cb, 0, none⟩) (World.block_lt_of_cell? w ⟨cb, 0, none⟩ h1)).trans h1, h2.below hb⟩
theorem three_ways (x : JV) : (∃ l, x = .obj l) ∨ (∃ l, x = .list l) ∨ ((∀ l, x ≠ .obj l) ∧ (∀ l, x ≠ .list l)) := by
  cases x with
  | obj l => exact .inl ⟨l, rfl⟩
  | list l => exact .inr (.inl ⟨l, rfl⟩)
  | _ => exact .inr (.inr ⟨fun l e => (by cases e), fun l e => (by cases e)⟩)
set_option maxRecDepth 100000 in
set_option maxHeartbeats 6400000 in
theorem tcutL_any (n : Nat) (v : Value) (x : JV) (s : Bs) (w : World) (h : JvAt n [] w v x) (hz : (JP.text x).length ≤ 1000000) (hs : s.length ≤ 1048576) (ht : TabOK w) (he : ErrOK w) :
    Calls Tryz.prog 98 #[v, .string (mkB s)] w (MadeE (JP.cutL x s) w) := by
  obtain ⟨R0, hR⟩ : ∃ R, JP.cutL x s = R := ⟨_, rfl⟩
  rw [hR]
  have HR := Lib.hid hR
  clear hR
  have HCh := Lib.hid (child_any (s := s) h hz hs ht he)
  cases n with
  | zero => cases h
  | succ n =>
    have G1o : ∀ hh : (∀ l, x ≠ .obj l), _ := fun hh => as_other h hh
    cases hcd : JP.child x s with
    | none =>
      rw [hcd] at HCh
      have HN : Hid (R0 = none) := Lib.hid (by
        rw [← HR.out]
        cases x with
        | obj l => rw [JP.cutL, if_neg (by rw [show JP.get s l = none from hcd]; decide)]
        | list l =>
          rw [JP.cutL]
          cases hi : JP.idx s l.length with
          | none => rfl
          | some k =>
            have h9 : (JP.idx s l.length).bind (fun n => l[n]?) = none := hcd
            rw [hi] at h9
            have := (JP.idx_some hi).1
            have h8 : l[k]? = none := h9
            rw [List.getElem?_eq_getElem this] at h8
            cases h8
        | _ => rfl)
      clear hcd G1o h hz hs ht he HR
      go_enter Tryz.func98, Tryz.ntmps98
      go_wp2_with fail
      refine HCh.out.mono ?_
      rintro E w1 ⟨u, rfl, _, hb⟩
      have HB := Lib.hid hb
      clear hb
      go_wp2_with fail
      go_ret2
      exact MadeE.no HN.out HB.out
    | some c =>
      rw [hcd] at HCh
      clear G1o
      rcases three_ways x with ⟨l, rfl⟩ | ⟨l, rfl⟩ | ⟨h1, h2⟩
      · obtain ⟨q, rfl, ho⟩ := h
        have G1 := (as_obj (.pointer (some ⟨q, 0, none⟩))).2.2.2.2
        have hl : l.length ≤ 1000000 := by have := lenF_len l; have := JP.obj_len_ge l; omega
        have HWi := Lib.hid (fun (w' : World) (hb : Below w.heap.size w w') => without_any (x := s) (ho.keepJ (KeepT.of hb)) (fun b hb => by cases hb) (by omega))
        have HN : Hid (R0 = some (.obj (JP.cut s l))) := Lib.hid (by rw [← HR.out, JP.cutL, if_pos (by rw [show JP.get s l = some c from hcd]; rfl)])
        clear ho ht he hz hs hl hcd HR
        go_enter Tryz.func98, Tryz.ntmps98
        go_wp2_with fail
        refine HCh.out.mono ?_
        rintro E w1 ⟨u, rfl, _, hb⟩
        have HB1 := Lib.hid hb
        clear hb
        go_wp2_with fail
        refine (HWi.out w1 HB1.out).mono ?_
        rintro E w2 ⟨q', rfl, ho, hb⟩
        have HB := Lib.hid (HB1.out.trans (hb.mono HB1.out.size))
        have HO := Lib.hid ho
        clear hb ho
        go_wp2_with fail
        go_ret2
        exact MadeE.yes (k := n + 1) HN.out ⟨q', rfl, HO.out⟩ HB.out
      · obtain ⟨u, rfl, hr, _⟩ := h
        obtain ⟨a1, c1, rfl, _, _⟩ := hr.len
        obtain ⟨G1, G2⟩ := (as_list (.slice a1 l.length c1)).2.2.2
        have hl : l.length ≤ 1000000 := by have := lenL_len l; have := JP.list_len_ge l; omega
        obtain ⟨k, hix, _⟩ := Option.bind_eq_some_iff.1 (show (JP.idx s l.length).bind (fun n => l[n]?) = some c from hcd)
        have k1 := (JP.idx_some hix).1
        have HI := Lib.hid (fun (w' : World) (hb : Below w.heap.size w w') => index_yes hix hs (by omega) (ht.below hb) (he.below hb))
        have HN : Hid (R0 = some (.list (l.eraseIdx k))) := Lib.hid (by rw [← HR.out, JP.cutL, hix])
        obtain ⟨xs, x1, x2, x3⟩ := list_raw hr
        have HC1 := Lib.hid (fun w' (hb : Below w.heap.size w w') => cloneVal_any (.slice a1 l.length c1) xs w' (x2.below stays_val hb) (by omega))
        have HX3 := Lib.hid x3
        have HX1 := Lib.hid x1
        clear ht he hs hr x2 x3 hz HR hix x1 hcd
        go_enter Tryz.func98, Tryz.ntmps98
        go_wp2_with fail
        refine HCh.out.mono ?_
        rintro E w1 ⟨u, rfl, _, hb⟩
        have HB1 := Lib.hid hb
        clear hb
        go_wp2_with fail
        refine (HI.out w1 HB1.out).mono ?_
        rintro E w2 ⟨rfl, hb⟩
        have HB2 := Lib.hid (HB1.out.trans (hb.mono HB1.out.size))
        clear hb
        go_wp2_with fail
        refine (HC1.out w2 HB2.out).mono ?_
        rintro E w3 ⟨v9, rfl, hown, hb⟩
        have HB3 := Lib.hid (HB2.out.trans (hb.mono HB2.out.size))
        have HD := Lib.hid (delVal_any v9 xs w2.heap.size k w3 hown (by rw [HX1.out]; exact k1) (by rw [HX1.out]; omega))
        have hs2 := HB2.out.size
        clear hown hb
        go_wp2_with fail
        refine HD.out.mono ?_
        rintro E w4 ⟨g, c9, _, hB, rfl, hown, t4⟩
        have HB4 : Hid (Below w.heap.size w w4) := Lib.hid (t4.below HB3.out (by omega))
        have HO := Lib.hid hown
        clear hown t4
        go_wp2_with fail
        go_ret2
        refine MadeE.yes (k := n + 1) HN.out ?_ HB4.out
        refine jv_list HO.out.row (by rw [List.length_eraseIdx_of_lt (by rw [HX1.out]; exact k1), List.length_eraseIdx_of_lt k1, HX1.out]) fun j u z hu hz => ?_
        exact pairs_erase (P := fun u z => JvAt n [] w4 u z) (fun j u z hu hz => (HX3.out j u z hu hz).below HB4.out) k j u z hu hz
      · exfalso
        cases x with
        | obj l => exact absurd rfl (h1 l)
        | list l => exact absurd rfl (h2 l)
        | _ => cases hcd
theorem enter_tcut (a : Array Value) (w : World) : (callFunc 98 a).run Tryz.prog w = .ok (.enter 98 a) w := by kernel_rfl
set_option maxRecDepth 100000 in
set_option maxHeartbeats 3200000 in
theorem tcut_any {n : Nat} {v sv : Value} {x : JV} {l : List Bs} {w : World} (h : JvAt n [] w v x) (hz : (JP.text x).length ≤ 1000000) (hs : StrAt w sv (l.map mkB)) (hl : ∀ s ∈ l, s.length ≤ 1048576) (hll : l.length ≤ 1048576) (h0 : l ≠ []) (ht : TabOK w) (he : ErrOK w) :
    Calls Tryz.prog 68 #[v, sv] w (MadeE (JP.cutW x l) w) := by
  have HU := Lib.hid (under0_any (F := JP.cutL) enter_tcut (Cap := fun _ => True) (fun _ _ _ _ => trivial) (fun n v x s w' h1 h2 h3 h4 h5 _ => tcutL_any n v x s w' h1 h2 h3 h4 h5) l n v sv x w h0 h hz hs hl hll ht he trivial)
  unfold JP.cutW
  clear h hz hs hl hll ht he h0
  go_enter Tryz.func68, Tryz.ntmps68
  go_wp2_with fail
  refine HU.out.mono ?_
  rintro E w1 ⟨u, rfl, hu, hb1⟩
  have HB1 := Lib.hid hb1
  have Hu := Lib.hid hu
  clear hb1 hu
  go_wp2_with fail
  go_ret2
  exact ⟨u, rfl, Hu.out, HB1.out⟩
end Go.Proofs.YtdcmnpeabjallaaGreatDoor
