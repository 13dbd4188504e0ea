/- Texts of ours joined. -/
import Derived.Maps.OwnSet
import Derived.Maps.RangeWalk
import Derived.Below
import Derived.DeepKeys4
import Derived.WalkSpells
import Derived.Deep.LoopGhost
import Derived.Deep.DeepCutAuto
import Derived.Deep.MidRow
import Derived.BigQuiet
import Derived.Test.YtnnceaapodgfbaaGreatDoorMw5
set_option linter.unusedVariables false
set_option linter.unusedSimpArgs false
namespace Go.Proofs.YtnnceaapodgfbaaGreatDoor
open Go.RowKit Go.ChangeMaps Go.MapKept
open Go.WideMaps
open Go.WideElems (Fit rd rg pl rd_val rd_key rg_of rd_mk other_key)
open Go.Maps (Keyed)
structure KeyCode (P : Program) (K : TypeId) (κ : Type) where
  val : κ → Value
  lit : κ → Lit
  ok : κ → Prop
  keyed : Keyed P K
  key : ∀ k, ok k → keyOf P K (val k) = some (lit k)
  back : ∀ {v l}, keyOf P K v = some l → ∃ k, ok k ∧ v = val k ∧ l = lit k
  vinj : ∀ {a b}, val a = val b → a = b
variable {κ : Type}
section
variable {P : Program} {K : TypeId} (C : KeyCode P K κ)
theorem KeyCode.inj {a b : κ} (ha : C.ok a) (hb : C.ok b) (h : C.lit a = C.lit b) : a = b :=
  C.vinj (C.keyed.inj (C.key a ha) (by rw [h]; exact C.key b hb))
theorem KeyCode.isKey {a : κ} (ha : C.ok a) : WideAt.IsKeyLit (C.lit a) := C.keyed.key (C.key a ha)
theorem KeyCode.same [DecidableEq κ] {a b : κ} (ha : C.ok a) (hb : C.ok b) : (C.lit a).sameKey (C.lit b) = decide (a = b) := by
  by_cases h : a = b
  · subst h; rw [WideAt.sameKey_self (C.isKey ha)]; simp
  · rw [Maps.sameKey_ne (fun e => h (C.inj ha hb e))]; simp [h]
end
def lookK (D : DataW Value) (k : Lit) : Option Value := if Maps.has D k = true then rawOf (D.atKey k .nil) else none
def MapK {P : Program} {K : TypeId} (C : KeyCode P K κ) (w : World) (b n : Nat) (f : κ → Option Value) : Prop :=
  ∃ D : DataW Value, w.ownsMap P K rawE b n D ∧ (∀ k, C.ok k → f k = lookK D (C.lit k)) ∧ ∀ k, (f k).isSome = true → C.ok k
def updK [DecidableEq κ] (f : κ → Option Value) (k : κ) (v : Value) : κ → Option Value := fun z => if z = k then some v else f z
def delK [DecidableEq κ] (f : κ → Option Value) (k : κ) : κ → Option Value := fun z => if z = k then none else f z
theorem updK_same [DecidableEq κ] (f : κ → Option Value) (k : κ) (v : Value) : updK f k v k = some v := if_pos rfl
theorem updK_other [DecidableEq κ] (f : κ → Option Value) {k z : κ} (v : Value) (h : z ≠ k) : updK f k v z = f z := if_neg h
theorem delK_other [DecidableEq κ] (f : κ → Option Value) {k z : κ} (h : z ≠ k) : delK f k z = f z := if_neg h
section
variable {P : Program} {K e t : TypeId} {C : KeyCode P K κ} {w w' : World} {b n : Nat} {f : κ → Option Value}
theorem mapK_made (C : KeyCode P K κ) (w : World) : MapK C (w.alloc (.map #[] 0)) w.heap.size 0 fun _ => none :=
  ⟨.map [], World.ownsMap_made w P K rawE, fun _ _ => rfl, fun _ h => by cases h⟩
theorem MapK.mono {n' : Nat} (h : MapK C w b n f) (hn : n ≤ n') : MapK C w b n' f := let ⟨D, h1, h2⟩ := h; ⟨D, h1.mono hn, h2⟩
theorem MapK.lt (h : MapK C w b n f) : b < w.heap.size := let ⟨_, h1, _⟩ := h; h1.lt
theorem MapK.kept {row : Option Nat} (h : MapK C w b n f) (hg : w.grownBy w' row) (hne : some b ≠ row) : MapK C w' b n f := let ⟨D, h1, h2⟩ := h; ⟨D, h1.kept hg hne, h2⟩
theorem MapK.block (h : MapK C w b n f) (hb : w'.heap[b]? = w.heap[b]?) : MapK C w' b n f := by
  obtain ⟨D, ⟨es, clock, h1, h2⟩, h3⟩ := h
  exact ⟨D, ⟨es, clock, hb.trans h1, h2⟩, h3⟩
theorem MapK.below {B : Nat} (h : MapK C w b n f) (hb : Below B w w') (hB : b < B) : MapK C w' b n f := h.block (hb.block b hB)
theorem MapK.belowW (h : MapK C w b n f) (hb : Below w.heap.size w w') : MapK C w' b n f := h.block (hb.block b h.lt)
theorem MapK.alloc (h : MapK C w b n f) (o : Obj) : MapK C (w.alloc o) b n f := let ⟨D, h1, h2⟩ := h; ⟨D, h1.alloc o, h2⟩
theorem MapK.setCell (h : MapK C w b n f) {a : Addr} (ha : b ≠ a.block) (u : Value) : MapK C (w.setCell a u) b n f := let ⟨D, h1, h2⟩ := h; ⟨D, h1.setCell ha u, h2⟩
theorem MapK.isMap (h : MapK C w b n f) : ∃ es clock, w.heap[b]? = some (.map es clock) := let ⟨_, ⟨es, clock, h1, _⟩, _⟩ := h; ⟨es, clock, h1⟩
theorem MapK.ne (h : MapK C w b n f) {g : Nat} {cs : Array Value} {T : TypeId} {fr : Nat × Nat} (hg : w.heap[g]? = some (.cells cs T fr)) : b ≠ g := by
  rintro rfl
  obtain ⟨es, clock, h1⟩ := h.isMap
  rw [h1] at hg; cases hg
theorem MapK.congr {f' : κ → Option Value} (h : MapK C w b n f) (e : ∀ k, f' k = f k) : MapK C w b n f' := by
  rw [show f' = f from funext e]; exact h
theorem lookK_at {D : DataW Value} (hown : w.ownsMap P K rawE b n D) (ht : P.underlying t = some (.map K e)) {z : Value} (hz : (zeroValue e).run P w = .ok z w) (k : κ) (hs : C.ok k) :
    (Instr.lookup t (.map (some b)) (C.val k) true).run P w = .ok (.tuple #[(lookK D (C.lit k)).getD z, .bool (lookK D (C.lit k)).isSome]) w ∧ (Instr.lookup t (.map (some b)) (C.val k) false).run P w = .ok ((lookK D (C.lit k)).getD z) w := by
  have key := C.key k hs
  obtain ⟨v, ps, hrun, hv⟩ := hown.look_ok C.keyed ht hz (zd := .held z) (zp := []) rfl key
  obtain ⟨v', ps', hrun', hv'⟩ := hown.lookup C.keyed ht hz (zd := .held z) (zp := []) rfl key
  have e1 : DataW.held v = D.atKey (C.lit k) (.held z) := by unfold rawE at hv; exact (Prod.mk.inj (Option.some.inj hv)).1
  have e2 : DataW.held v' = D.atKey (C.lit k) (.held z) := by unfold rawE at hv'; exact (Prod.mk.inj (Option.some.inj hv')).1
  have ev : v = v' := by have := e1.trans e2.symm; injection this
  rw [hrun, hrun', ← ev]
  cases hh : Maps.has D (C.lit k) with
  | false =>
    have h0 : lookK D (C.lit k) = none := by unfold lookK; rw [hh]; simp
    rw [Maps.atKey_of_not_has hh] at e1
    injection e1 with e1
    rw [h0, e1]
    exact ⟨rfl, rfl⟩
  | true =>
    obtain ⟨y, hy⟩ := atKey_find hh
    have h0 : lookK D (C.lit k) = some v := by
      unfold lookK
      rw [if_pos hh, hy, ← hy (.held z), ← e1]; rfl
    rw [h0]
    exact ⟨rfl, rfl⟩
theorem MapK.look (h : MapK C w b n f) (ht : P.underlying t = some (.map K e)) {z : Value} (hz : (zeroValue e).run P w = .ok z w) (k : κ) (hs : C.ok k) :
    (Instr.lookup t (.map (some b)) (C.val k) true).run P w = .ok (.tuple #[(f k).getD z, .bool (f k).isSome]) w ∧ (Instr.lookup t (.map (some b)) (C.val k) false).run P w = .ok ((f k).getD z) w := by
  obtain ⟨D, h1, h2, _⟩ := h
  rw [h2 k hs]
  exact lookK_at h1 ht hz k hs
theorem lookK_put [DecidableEq κ] {D : DataW Value} (hD : Maps.IsMap D) {k : κ} (hk : C.ok k) (v : Value) {z : κ} (hz : C.ok z) : lookK (D.put (C.lit k) (.held v)) (C.lit z) = updK (fun z => lookK D (C.lit z)) k v z := by
  unfold updK
  by_cases h9 : z = k
  · subst h9
    rw [if_pos rfl]
    unfold lookK
    rw [Maps.has_put_same hD (C.isKey hk), if_pos rfl, Maps.atKey_put_same hD (C.isKey hk)]; rfl
  · rw [if_neg h9]
    unfold lookK
    have hne : C.lit z ≠ C.lit k := fun e => h9 (C.inj hz hk e)
    rw [Maps.has_put_other hne, Maps.atKey_put_other hne]
theorem lookK_del [DecidableEq κ] (D : DataW Value) {k : κ} (hk : C.ok k) {z : κ} (hz : C.ok z) : lookK (D.del (C.lit k)) (C.lit z) = delK (fun z => lookK D (C.lit z)) k z := by
  unfold delK
  by_cases h9 : z = k
  · subst h9
    rw [if_pos rfl]
    unfold lookK
    rw [Maps.has_del_same]; rfl
  · rw [if_neg h9]
    unfold lookK
    have hne : C.lit z ≠ C.lit k := fun e => h9 (C.inj hz hk e)
    rw [Maps.has_del_other hne, Maps.atKey_del_other hne]
theorem MapK.store [DecidableEq κ] (h : MapK C w b n f) (ht : P.underlying t = some (.map K e)) (hn : n < maxLen) (k : κ) (hs : C.ok k) (v : Value) :
    ∃ w', (Instr.mapUpdate t (.map (some b)) (C.val k) v).run P w = .ok () w' ∧ MapK C w' b (n + 1) (updK f k v) ∧ w.mapTurned w' b := by
  obtain ⟨D, h1, h2, h4⟩ := h
  obtain ⟨w', r1, r2, r3⟩ := h1.store C.keyed ht hn (C.key k hs) (val := v) (d := .held v) (ps := []) rfl
  refine ⟨w', r1, ⟨_, r2, fun z hz => ?_, fun z hz => ?_⟩, r3⟩
  · rw [lookK_put h1.isMap hs v hz]
    unfold updK
    rw [h2 z hz]
  · by_cases h9 : z = k
    · rw [h9]; exact hs
    · rw [updK_other f v h9] at hz; exact h4 z hz
theorem MapK.drop [DecidableEq κ] (h : MapK C w b n f) (ht : P.underlying t = some (.map K e)) (k : κ) (hs : C.ok k) (ty : TypeId) :
    ∃ w', (Builtin.delete_ #[t, K] ty #[.map (some b), C.val k]).run P w = .ok (.tuple #[]) w' ∧ MapK C w' b n (delK f k) ∧ w.mapTurned w' b := by
  obtain ⟨D, h1, h2, h4⟩ := h
  obtain ⟨w', r1, r2, r3⟩ := h1.drop C.keyed ht (C.key k hs) ty
  refine ⟨w', r1, ⟨_, r2, fun z hz => ?_, fun z hz => ?_⟩, r3⟩
  · rw [lookK_del D hs hz]
    unfold delK
    rw [h2 z hz]
  · by_cases h9 : z = k
    · rw [h9]; exact hs
    · rw [delK_other f h9] at hz; exact h4 z hz
theorem MapK.keys (h : MapK C w b n f) : ∃ ks : List κ, ks.Nodup ∧ (∀ k, k ∈ ks ↔ (f k).isSome = true) ∧ ks.length ≤ n ∧ ∀ (t e ty : TypeId), P.underlying t = some (.map K e) → (Builtin.len_ #[t] ty #[.map (some b)]).run P w = .ok (.int .i64 ks.length) w := by
  obtain ⟨D, h1, h2, h4⟩ := h
  obtain ⟨es, hD, hap, hkk⟩ := h1.entries C.keyed
  obtain ⟨ms, clock, hb, F, hs, hD2⟩ := id h1
  have hform : ∀ p ∈ es, ∃ k v, C.ok k ∧ p = (C.lit k, .held v) := fun p hp => by
    have hp2 : p ∈ (ms.toList.map (rg P K rawE)).foldr DataW.insert [] := by
      have := hD.symm.trans hD2
      injection this with this
      rw [← this]; exact hp
    obtain ⟨x, hx, hx2⟩ := List.mem_map.1 (mem_sorted.1 hp2)
    obtain ⟨y, hy⟩ := F.reads x hx
    obtain ⟨k, hk1, hk2, hk3⟩ := C.back (rd_key hy)
    obtain ⟨z, hz, hz2⟩ := rd_val hy
    rw [rg_of hy] at hx2
    refine ⟨k, x.val, hk1, ?_⟩
    rw [← hx2]
    refine Prod.ext hk3 ?_
    rw [hz2]
    unfold rawE at hz
    rw [← Option.some.inj hz]
  have hall : ∃ ks : List κ, (∀ k ∈ ks, C.ok k) ∧ es.map Prod.fst = ks.map C.lit := by
    clear hD hap hkk hD2
    induction es with
    | nil => exact ⟨[], fun _ h => (by cases h), rfl⟩
    | cons p r ih =>
      obtain ⟨k, v, hk, rfl⟩ := hform p (List.mem_cons_self ..)
      obtain ⟨ks, g1, g2⟩ := ih fun p hp => hform p (List.mem_cons_of_mem _ hp)
      refine ⟨k :: ks, fun z hz => ?_, by rw [List.map_cons, List.map_cons, g2]⟩
      rcases List.mem_cons.1 hz with rfl | hz
      · exact hk
      · exact g1 z hz
  obtain ⟨ks, hks, hmap⟩ := hall
  have hlen : ks.length = es.length := by have := congrArg List.length hmap; simpa using this.symm
  refine ⟨ks, ?_, fun k => ?_, ?_, fun t e ty ht => ?_⟩
  · have h9 : (es.map Prod.fst).Pairwise (· ≠ ·) := by rw [List.pairwise_map]; exact hap.imp fun h => h
    rw [hmap, List.pairwise_map] at h9
    rw [List.nodup_iff_pairwise_ne]
    exact h9.imp fun h e => h (by rw [e])
  · have hhas : C.ok k → (Maps.has D (C.lit k) = true ↔ k ∈ ks) := fun hok => by
      rw [hD, Maps.has_eq, List.any_eq_true]
      constructor
      · rintro ⟨p, h1, h2⟩
        have h3 : p.1 = C.lit k := WideAt.sameKey_eq h2
        have h5 : C.lit k ∈ ks.map C.lit := by rw [← hmap, ← h3]; exact List.mem_map.2 ⟨p, h1, rfl⟩
        obtain ⟨z, hz, he⟩ := List.mem_map.1 h5
        rw [← C.inj (hks z hz) hok he]; exact hz
      · intro hm
        have h5 : C.lit k ∈ es.map Prod.fst := by rw [hmap]; exact List.mem_map.2 ⟨k, hm, rfl⟩
        obtain ⟨p, hp, he⟩ := List.mem_map.1 h5
        exact ⟨p, hp, by rw [he]; exact WideAt.sameKey_self (C.isKey hok)⟩
    constructor
    · intro hm
      have hok := hks k hm
      rw [h2 k hok]
      have hh := (hhas hok).2 hm
      have hh2 := hh
      rw [hD] at hh2
      obtain ⟨q, hq, hq2⟩ := atKey_mem hh2
      obtain ⟨k2, v2, _, rfl⟩ := hform q hq
      unfold lookK
      rw [hD, if_pos hh2, hq2]; rfl
    · intro hm
      have hok := h4 k hm
      rw [h2 k hok] at hm
      unfold lookK at hm
      by_cases hh : Maps.has D (C.lit k) = true
      · exact (hhas hok).1 hh
      · rw [if_neg hh] at hm; cases hm
  · rw [hlen]
    have := h1.size_le
    rw [hD, Maps.size_eq] at this
    exact this
  · rw [h1.len ht ty, hD, Maps.size_eq, hlen]
end
end Go.Proofs.YtnnceaapodgfbaaGreatDoor
namespace Go.Proofs.YtnnceaapodgfbaaGreatDoor
open Go.RowKit Go.ChangeMaps Go.MapKept Go.WideMaps
open Go.WideElems (Fit rd rg pl rd_val rd_key rg_of rd_mk other_key)
open Go.Maps (Keyed)
section
variable {P : Program} (w : World) {ops : Array Oper} {rest : List Oper} {o : Oper} {a : Act} {Q : Exit → Act → World → Prop}
end
def RangeS (P : Program) (K : TypeId) (w : World) (b r n : Nat) (f : KB → Option Value) (left : KB → Bool) (cnt : Nat) : Prop := ∃ (D : DataW Value) (L : Lit → Bool), w.ranges P K rawE b r n D L cnt ∧ (∀ k, f k = lookD D k) ∧ ∀ k, left k = L (kb k)
theorem lookD_has {P : Program} {K : TypeId} (hk : P.underlying K = some .string) {w : World} {b n : Nat} {D : DataW Value} (h : w.ownsMap P K rawE b n D) (k : KB) : (lookD D k).isSome = Maps.has D (kb k) := by
  obtain ⟨ks, _, h2, _⟩ := MapS.keys (f := lookD D) ⟨D, h, fun _ => rfl⟩ hk
  cases hh : Maps.has D (kb k) with
  | false => unfold lookD; rw [hh]; rfl
  | true =>
    obtain ⟨ms, clock, hb, F, hs, hD2⟩ := h
    rw [hD2] at hh
    obtain ⟨q, hq, hq2⟩ := atKey_mem hh
    obtain ⟨x, hx, hx2⟩ := List.mem_map.1 (mem_sorted.1 hq)
    obtain ⟨y, hy⟩ := F.reads x hx
    obtain ⟨z, hz, hz2⟩ := rd_val hy
    rw [rg_of hy] at hx2
    unfold lookD
    rw [hD2, if_pos hh, hq2, ← hx2, hz2]
    unfold rawE at hz
    rw [← Option.some.inj hz]; rfl
section
variable {P : Program} {K e t : TypeId} {w w' : World} {b r n cnt : Nat} {f : KB → Option Value} {left : KB → Bool}
theorem RangeS.map (h : RangeS P K w b r n f left cnt) : MapS P K w b n f := let ⟨D, _, h1, h2, _⟩ := h; ⟨D, h1.owns, h2⟩
theorem RangeS.ne (h : RangeS P K w b r n f left cnt) : r ≠ b := let ⟨_, _, h1, _⟩ := h; h1.ne
theorem RangeS.lt (h : RangeS P K w b r n f left cnt) : r < w.heap.size := let ⟨_, _, h1, _⟩ := h; h1.lt
theorem RangeS.kept {row : Option Nat} (h : RangeS P K w b r n f left cnt) (hg : w.grownBy w' row) (hb : some b ≠ row) (hr : some r ≠ row) : RangeS P K w' b r n f left cnt := let ⟨D, L, h1, h2⟩ := h; ⟨D, L, h1.kept hg hb hr, h2⟩
theorem RangeS.block (h : RangeS P K w b r n f left cnt) (hb : w'.heap[b]? = w.heap[b]?) (hr : w'.heap[r]? = w.heap[r]?) : RangeS P K w' b r n f left cnt := by
  obtain ⟨D, L, ⟨es, clock, since, seen, c0, h1, h3, h4, h5, h6, h7⟩, h2⟩ := h
  exact ⟨D, L, ⟨es, clock, since, seen, c0, hb.trans h1, h3, h4, h5, hr.trans h6, h7⟩, h2⟩
theorem RangeS.belowW (h : RangeS P K w b r n f left cnt) (hb : Below w.heap.size w w') : RangeS P K w' b r n f left cnt := h.block (hb.block b h.map.lt) (hb.block r h.lt)
theorem MapS.range (h : MapS P K w b n f) (hk : P.underlying K = some .string) (ht : P.underlying t = some (.map K e)) :
    ∃ w', (Instr.range t (.map (some b))).run P w = .ok (.pointer (some ⟨w.heap.size, 0, none⟩)) w' ∧ (∃ cnt, RangeS P K w' b w.heap.size n f (fun k => (f k).isSome) cnt) ∧ w.grownBy w' none ∧ w'.heap.size = w.heap.size + 1 := by
  obtain ⟨D, h1, h2⟩ := h
  obtain ⟨w', r1, r2, r3, r4⟩ := h1.range (Maps.string_keyed hk) ht
  exact ⟨w', r1, ⟨_, D, _, r2, h2, fun k => by show (f k).isSome = _; rw [h2, lookD_has hk h1]⟩, r3, r4⟩
theorem RangeS.next (h : RangeS P K w b r n f left cnt) (hk : P.underlying K = some .string) (ty : TypeId) :
    ((∀ k, left k = false) ∧ (Instr.next (.pointer (some ⟨r, 0, none⟩)) false ty).run P w = .ok (.tuple #[.bool false]) w) ∨
    ∃ (s : ByteArray) (v : Value) (w' : World) (cnt' : Nat), s.size ≤ maxLen ∧ left s.data.toList = true ∧ f s.data.toList = some v ∧ (Instr.next (.pointer (some ⟨r, 0, none⟩)) false ty).run P w = .ok (.tuple #[.bool true, .string s, v]) w' ∧
      RangeS P K w' b r n f (fun k => left k && !decide (k = s.data.toList)) cnt' ∧ cnt' < cnt ∧ w.grownBy w' (some r) ∧ w'.heap.size = w.heap.size ∧ (Instr.entry (.pointer (some ⟨r, 0, none⟩))).run P w' = .ok (.tuple #[.string s, v]) w' := by
  obtain ⟨D, L, h1, h2, h3⟩ := h
  rcases h1.next (Maps.string_keyed hk) ty with ⟨_, hl, hrun⟩ | ⟨key, v, kl, y, w', cnt', hkey, hlk, hv, hat, hrun, hrg, hlt, hgr, hsz, hen⟩
  · exact .inl ⟨fun k => by rw [h3]; exact hl _, hrun⟩
  · obtain ⟨s, rfl, rfl, hs⟩ := keyed_is hk hkey
    refine .inr ⟨s, v, w', cnt', hs, by rw [h3]; exact hlk, ?_, hrun, ⟨D, _, hrg, h2, fun k => ?_⟩, hlt, hgr, hsz, hen⟩
    · have hy : y.1 = .held v := by unfold rawE at hv; rw [← Option.some.inj hv]
      have hh : Maps.has D (kb s.data.toList) = true := by
        cases hh : Maps.has D (kb s.data.toList) with
        | true => rfl
        | false =>
          have h4 := hat .nil
          rw [Maps.atKey_of_not_has hh, hy] at h4
          cases h4
      rw [h2]
      unfold lookD
      rw [if_pos hh, hat, hy]; rfl
    · show (left k && _) = (L (kb k) && _)
      rw [h3, kb_same]
theorem leftOf_size (es : Array MapEntry) (seen : Array Nat) : (leftOf es seen).size = es.toList.countP fun e => !seen.contains e.born := by
  unfold leftOf
  rw [List.countP_eq_length_filter, ← Array.toList_filter, Array.length_toList]
theorem countP_set {α : Type} (p : α → Bool) : ∀ (l : List α) (j : Nat) (x y : α), l[j]? = some x → p y = p x → (l.set j y).countP p = l.countP p
  | [], _, _, _, h, _ => by simp at h
  | z :: r, 0, x, y, h, hp => by simp at h; subst h; rw [List.set_cons_zero, List.countP_cons, List.countP_cons, hp]
  | z :: r, j + 1, x, y, h, hp => by
    rw [List.getElem?_cons_succ] at h
    rw [List.set_cons_succ, List.countP_cons, List.countP_cons, countP_set p r j x y h hp]
theorem RangeS.store (h : RangeS P K w b r n f left cnt) (hk : P.underlying K = some .string) (ht : P.underlying t = some (.map K e)) (hn : n < maxLen) (s : ByteArray) (hs : s.size ≤ maxLen) (hf : (f s.data.toList).isSome = true) (v : Value) :
    ∃ w', (Instr.mapUpdate t (.map (some b)) (.string s) v).run P w = .ok () w' ∧ RangeS P K w' b r n (updF f s.data.toList v) left cnt ∧ w.mapTurned w' b := by
  have hK := Maps.string_keyed (P := P) hk
  have hkey := keyOf_string_mk (P := P) hk hs
  obtain ⟨D, L, h1, h2, h3⟩ := h
  have hown := h1.owns
  have hhas : Maps.has D (kb s.data.toList) = true := by rw [← lookD_has hk hown, ← h2]; exact hf
  have hput := fun z => lookD_put (D := D) hown.isMap s.data.toList z v
  have hne := h1.ne
  obtain ⟨es, clock, since, seen, c0, hb, F, hsz, hD, hr, hold, hcnt, hl1, hl2, hsc, hsk⟩ := h1
  obtain ⟨es', clock', hrun, F', hsort, _⟩ := Maps.fit_store (R' := rawE) hK ht hb F (Nat.lt_of_le_of_lt hsz hn) (fun _ _ _ _ hz => hz) hkey (val := v) (yv := (.held v, [])) rfl
  rcases hK.find w hkey es.toList F.keys with ⟨q1, q2⟩ | ⟨j, e0, q1, q2, q3⟩
  · exfalso
    rw [hD] at hhas
    obtain ⟨q, hq, hsame⟩ := List.any_eq_true.1 hhas
    obtain ⟨x, hx, hx2⟩ := List.mem_map.1 (mem_sorted.1 hq)
    obtain ⟨y, hy⟩ := F.reads x hx
    rw [rg_of hy] at hx2
    have h8 := WideAt.sameKey_eq hsame
    rw [← hx2] at h8
    have h7 := rd_key hy
    rw [h8] at h7
    exact q2 x hx (hK.inj h7 hkey)
  · have hj : es[j]? = some e0 := by simpa using q2
    have hrun2 : (Instr.mapUpdate t (.map (some b)) (.string s) v).run P w = .ok () (setBlock w b (.map (es.modify j fun e' => { e' with key := .string s, val := v }) clock)) := by
      simp [Instr.mapUpdate, run_underlying ht, MapKept.run_getObj_map hb, hK.check w false hkey, q1, hj, q3, hK.stays w hkey, MapKept.run_setObj_map _ hb, Result.andThen, setBlock]
    have heq : es' = (es.modify j fun e' => { e' with key := .string s, val := v }) ∧ clock' = clock := by
      have := hrun.symm.trans hrun2
      injection this with _ this
      have h9 := heap_setBlock_same (o := .map es' clock') hb
      rw [this, heap_setBlock_same hb] at h9
      cases h9; exact ⟨rfl, rfl⟩
    obtain ⟨rfl, rfl⟩ := heq
    have hlist : (es.modify j (fun e' => { e' with key := .string s, val := v })).toList = es.toList.set j { e0 with key := .string s, val := v } := by rw [Array.toList_modify, modify_eq_set _ _ _ _ q2]
    have hjl : j < es.toList.length := (List.getElem?_eq_some_iff.1 q2).1
    have he0 : e0 ∈ es.toList := List.mem_of_getElem? q2
    have hrg0 : (rg P K rawE e0).1 = kb s.data.toList := by
      obtain ⟨y, hy⟩ := F.reads e0 he0
      have := rd_key hy
      rw [q3, hkey] at this
      rw [rg_of hy]; exact (Option.some.inj this).symm
    have hrg1 : (rg P K rawE ({ e0 with key := .string s, val := v } : MapEntry)).1 = kb s.data.toList := by rw [rg_of (rd_mk hkey (yv := (.held v, [])) rfl)]; rfl
    have who : ∀ x ∈ es.toList.set j { e0 with key := .string s, val := v }, x = { e0 with key := .string s, val := v } ∨ x ∈ es.toList := by
      intro x hx
      rcases List.mem_or_eq_of_mem_set hx with h | h
      · exact .inr h
      · exact .inl h
    refine ⟨_, hrun, ⟨D.put (kb s.data.toList) (.held v), L, ⟨_, _, since, seen, c0, heap_setBlock_same hb _, F', ?_, ?_, (heap_setBlock_other hb _ hne).trans hr, ?_, ?_, ?_, ?_, hsc, hsk⟩, fun z => ?_, h3⟩, ⟨es, _, _, _, hb, rfl⟩⟩
    · simpa using hsz
    · rw [hD, DataW.put_eq, hsort]; rfl
    · intro x hx
      rw [hlist] at hx
      rcases who x hx with rfl | hx'
      · exact hold e0 he0
      · exact hold x hx'
    · rw [leftOf_size, hlist, countP_set _ _ j e0 ({ e0 with key := .string s, val := v } : MapEntry) q2 rfl, ← leftOf_size]; exact hcnt
    · intro x hx
      rw [hlist] at hx
      rcases who x hx with rfl | hx'
      · rw [hrg1, ← hrg0]; exact hl1 e0 he0
      · exact hl1 x hx'
    · intro kl hkl
      obtain ⟨x, hx, hxk⟩ := hl2 kl hkl
      rw [hlist]
      obtain ⟨i, hi⟩ := List.getElem?_of_mem hx
      by_cases hij : i = j
      · subst hij
        rw [q2] at hi
        cases hi
        exact ⟨_, List.mem_set (by simpa using hjl) _, by rw [hrg1, ← hrg0]; exact hxk⟩
      · exact ⟨x, List.mem_of_getElem? (i := i) (by rw [List.getElem?_set_ne (Ne.symm hij)]; exact hi), hxk⟩
    · rw [hput]; unfold updF; rw [h2]
end
section
variable {P : Program} (w : World) {ops : Array Oper} {rest : List Oper} {o : Oper} {a : Act} {Q : Exit → Act → World → Prop}
end
end Go.Proofs.YtnnceaapodgfbaaGreatDoor
namespace Go.Proofs.YtnnceaapodgfbaaGreatDoor
open Go.RowKit Go.ChangeMaps Go.MapKept Go.WideMaps
open Go.WideElems (Fit rd rg pl rd_val rd_key rg_of rd_mk other_key)
open Go.Maps (Keyed)
variable {κ : Type}
section
variable {P : Program} {K : TypeId} {C : KeyCode P K κ} (w : World) {ops : Array Oper} {rest : List Oper} {o : Oper} {a : Act} {Q : Exit → Act → World → Prop}
end
def RangeK {P : Program} {K : TypeId} (C : KeyCode P K κ) (w : World) (b r n : Nat) (f : κ → Option Value) (left : κ → Bool) (cnt : Nat) : Prop :=
  ∃ (D : DataW Value) (L : Lit → Bool), w.ranges P K rawE b r n D L cnt ∧ ((∀ k, C.ok k → f k = lookK D (C.lit k)) ∧ ∀ k, (f k).isSome = true → C.ok k) ∧ (∀ k, C.ok k → left k = L (C.lit k)) ∧ ∀ k, left k = true → C.ok k
theorem lookK_has {P : Program} {K : TypeId} {w : World} {b n : Nat} {D : DataW Value} (h : w.ownsMap P K rawE b n D) (k : Lit) : (lookK D k).isSome = Maps.has D k := by
  cases hh : Maps.has D k with
  | false => unfold lookK; rw [hh]; rfl
  | true =>
    obtain ⟨ms, clock, hb, F, hs, hD2⟩ := h
    have hh2 := hh
    rw [hD2] at hh2
    obtain ⟨q, hq, hq2⟩ := atKey_mem hh2
    obtain ⟨x, hx, hx2⟩ := List.mem_map.1 (mem_sorted.1 hq)
    obtain ⟨y, hy⟩ := F.reads x hx
    obtain ⟨z, hz, hz2⟩ := rd_val hy
    rw [rg_of hy] at hx2
    unfold lookK
    rw [hD2, if_pos hh2, hq2, ← hx2, hz2]
    unfold rawE at hz
    rw [← Option.some.inj hz]; rfl
section
variable {P : Program} {K e t : TypeId} {C : KeyCode P K κ} {w w' : World} {b r n cnt : Nat} {f : κ → Option Value} {left : κ → Bool}
theorem RangeK.map (h : RangeK C w b r n f left cnt) : MapK C w b n f := let ⟨D, _, h1, h2, _⟩ := h; ⟨D, h1.owns, h2⟩
theorem RangeK.ne (h : RangeK C w b r n f left cnt) : r ≠ b := let ⟨_, _, h1, _⟩ := h; h1.ne
theorem RangeK.lt (h : RangeK C w b r n f left cnt) : r < w.heap.size := let ⟨_, _, h1, _⟩ := h; h1.lt
theorem RangeK.kept {row : Option Nat} (h : RangeK C w b r n f left cnt) (hg : w.grownBy w' row) (hb : some b ≠ row) (hr : some r ≠ row) : RangeK C w' b r n f left cnt := let ⟨D, L, h1, h2⟩ := h; ⟨D, L, h1.kept hg hb hr, h2⟩
theorem RangeK.block (h : RangeK C w b r n f left cnt) (hb : w'.heap[b]? = w.heap[b]?) (hr : w'.heap[r]? = w.heap[r]?) : RangeK C w' b r n f left cnt := by
  obtain ⟨D, L, ⟨es, clock, since, seen, c0, h1, h3, h4, h5, h6, h7⟩, h2⟩ := h
  exact ⟨D, L, ⟨es, clock, since, seen, c0, hb.trans h1, h3, h4, h5, hr.trans h6, h7⟩, h2⟩
theorem RangeK.belowW (h : RangeK C w b r n f left cnt) (hb : Below w.heap.size w w') : RangeK C w' b r n f left cnt := h.block (hb.block b h.map.lt) (hb.block r h.lt)
theorem MapK.range (h : MapK C w b n f) (ht : P.underlying t = some (.map K e)) :
    ∃ w', (Instr.range t (.map (some b))).run P w = .ok (.pointer (some ⟨w.heap.size, 0, none⟩)) w' ∧ (∃ cnt, RangeK C w' b w.heap.size n f (fun k => (f k).isSome) cnt) ∧ w.grownBy w' none ∧ w'.heap.size = w.heap.size + 1 := by
  obtain ⟨D, h1, h2⟩ := h
  obtain ⟨w', r1, r2, r3, r4⟩ := h1.range C.keyed ht
  exact ⟨w', r1, ⟨_, D, _, r2, h2, fun k hk => by show (f k).isSome = _; rw [h2.1 k hk, lookK_has h1], fun k hk => h2.2 k hk⟩, r3, r4⟩
theorem RangeK.next [DecidableEq κ] (h : RangeK C w b r n f left cnt) (ty : TypeId) :
    ((∀ k, left k = false) ∧ (Instr.next (.pointer (some ⟨r, 0, none⟩)) false ty).run P w = .ok (.tuple #[.bool false]) w) ∨
    ∃ (s : κ) (v : Value) (w' : World) (cnt' : Nat), C.ok s ∧ left s = true ∧ f s = some v ∧ (Instr.next (.pointer (some ⟨r, 0, none⟩)) false ty).run P w = .ok (.tuple #[.bool true, C.val s, v]) w' ∧
      RangeK C w' b r n f (fun k => left k && !decide (k = s)) cnt' ∧ cnt' < cnt ∧ w.grownBy w' (some r) ∧ w'.heap.size = w.heap.size ∧ (Instr.entry (.pointer (some ⟨r, 0, none⟩))).run P w' = .ok (.tuple #[C.val s, v]) w' := by
  obtain ⟨D, L, h1, h2, h3, h8⟩ := h
  rcases h1.next C.keyed ty with ⟨_, hl, hrun⟩ | ⟨key, v, kl, y, w', cnt', hkey, hlk, hv, hat, hrun, hrg, hlt, hgr, hsz, hen⟩
  · refine .inl ⟨fun k => ?_, hrun⟩
    cases hk : left k with
    | false => rfl
    | true =>
      have := h3 k (h8 k hk)
      rw [hk, hl _] at this; cases this
  · obtain ⟨s, hs, rfl, rfl⟩ := C.back hkey
    refine .inr ⟨s, v, w', cnt', hs, by rw [h3 s hs]; exact hlk, ?_, hrun, ⟨D, _, hrg, h2, fun k hk => ?_, fun k hk => h8 k (by rw [Bool.and_eq_true] at hk; exact hk.1)⟩, hlt, hgr, hsz, hen⟩
    · have hy : y.1 = .held v := by unfold rawE at hv; rw [← Option.some.inj hv]
      have hh : Maps.has D (C.lit s) = true := by
        cases hh : Maps.has D (C.lit s) with
        | true => rfl
        | false =>
          have h4 := hat .nil
          rw [Maps.atKey_of_not_has hh, hy] at h4
          cases h4
      rw [h2.1 s hs]
      unfold lookK
      rw [if_pos hh, hat, hy]; rfl
    · show (left k && _) = (L (C.lit k) && _)
      rw [h3 k hk, C.same hk hs]
theorem RangeK.store [DecidableEq κ] (h : RangeK C w b r n f left cnt) (ht : P.underlying t = some (.map K e)) (hn : n < maxLen) (s : κ) (hs : C.ok s) (hf : (f s).isSome = true) (v : Value) :
    ∃ w', (Instr.mapUpdate t (.map (some b)) (C.val s) v).run P w = .ok () w' ∧ RangeK C w' b r n (updK f s v) left cnt ∧ w.mapTurned w' b := by
  have hK := C.keyed
  have hkey := C.key s hs
  obtain ⟨D, L, h1, h2, h3⟩ := h
  have hown := h1.owns
  have hhas : Maps.has D (C.lit s) = true := by rw [← lookK_has hown, ← h2.1 s hs]; exact hf
  have hput := fun z hz => lookK_put (D := D) hown.isMap (C := C) hs v (z := z) hz
  have hne := h1.ne
  obtain ⟨es, clock, since, seen, c0, hb, F, hsz, hD, hr, hold, hcnt, hl1, hl2, hsc, hsk⟩ := h1
  obtain ⟨es', clock', hrun, F', hsort, _⟩ := Maps.fit_store (R' := rawE) hK ht hb F (Nat.lt_of_le_of_lt hsz hn) (fun _ _ _ _ hz => hz) hkey (val := v) (yv := (.held v, [])) rfl
  rcases hK.find w hkey es.toList F.keys with ⟨q1, q2⟩ | ⟨j, e0, q1, q2, q3⟩
  · exfalso
    rw [hD] at hhas
    obtain ⟨q, hq, hsame⟩ := List.any_eq_true.1 hhas
    obtain ⟨x, hx, hx2⟩ := List.mem_map.1 (mem_sorted.1 hq)
    obtain ⟨y, hy⟩ := F.reads x hx
    rw [rg_of hy] at hx2
    have h8 := WideAt.sameKey_eq hsame
    rw [← hx2] at h8
    have h7 := rd_key hy
    rw [h8] at h7
    exact q2 x hx (hK.inj h7 hkey)
  · have hj : es[j]? = some e0 := by simpa using q2
    have hrun2 : (Instr.mapUpdate t (.map (some b)) (C.val s) v).run P w = .ok () (setBlock w b (.map (es.modify j fun e' => { e' with key := C.val s, val := v }) clock)) := by
      simp [Instr.mapUpdate, run_underlying ht, MapKept.run_getObj_map hb, hK.check w false hkey, q1, hj, q3, hK.stays w hkey, MapKept.run_setObj_map _ hb, Result.andThen, setBlock]
    have heq : es' = (es.modify j fun e' => { e' with key := C.val s, val := v }) ∧ clock' = clock := by
      have := hrun.symm.trans hrun2
      injection this with _ this
      have h9 := heap_setBlock_same (o := .map es' clock') hb
      rw [this, heap_setBlock_same hb] at h9
      cases h9; exact ⟨rfl, rfl⟩
    obtain ⟨rfl, rfl⟩ := heq
    have hlist : (es.modify j (fun e' => { e' with key := C.val s, val := v })).toList = es.toList.set j { e0 with key := C.val s, val := v } := by rw [Array.toList_modify, modify_eq_set _ _ _ _ q2]
    have hjl : j < es.toList.length := (List.getElem?_eq_some_iff.1 q2).1
    have he0 : e0 ∈ es.toList := List.mem_of_getElem? q2
    have hrg0 : (rg P K rawE e0).1 = C.lit s := by
      obtain ⟨y, hy⟩ := F.reads e0 he0
      have := rd_key hy
      rw [q3, hkey] at this
      rw [rg_of hy]; exact (Option.some.inj this).symm
    have hrg1 : (rg P K rawE ({ e0 with key := C.val s, val := v } : MapEntry)).1 = C.lit s := by rw [rg_of (rd_mk hkey (yv := (.held v, [])) rfl)]
    have who : ∀ x ∈ es.toList.set j { e0 with key := C.val s, val := v }, x = { e0 with key := C.val s, val := v } ∨ x ∈ es.toList := by
      intro x hx
      rcases List.mem_or_eq_of_mem_set hx with h | h
      · exact .inr h
      · exact .inl h
    refine ⟨_, hrun, ⟨D.put (C.lit s) (.held v), L, ⟨_, _, since, seen, c0, heap_setBlock_same hb _, F', ?_, ?_, (heap_setBlock_other hb _ hne).trans hr, ?_, ?_, ?_, ?_, hsc, hsk⟩, ⟨fun z hz => ?_, fun z hz => ?_⟩, h3⟩, ⟨es, _, _, _, hb, rfl⟩⟩
    · simpa using hsz
    · rw [hD, DataW.put_eq, hsort]
    · intro x hx
      rw [hlist] at hx
      rcases who x hx with rfl | hx'
      · exact hold e0 he0
      · exact hold x hx'
    · rw [leftOf_size, hlist, countP_set _ _ j e0 ({ e0 with key := C.val s, val := v } : MapEntry) q2 rfl, ← leftOf_size]; exact hcnt
    · intro x hx
      rw [hlist] at hx
      rcases who x hx with rfl | hx'
      · rw [hrg1, ← hrg0]; exact hl1 e0 he0
      · exact hl1 x hx'
    · intro kl hkl
      obtain ⟨x, hx, hxk⟩ := hl2 kl hkl
      rw [hlist]
      obtain ⟨i, hi⟩ := List.getElem?_of_mem hx
      by_cases hij : i = j
      · subst hij
        rw [q2] at hi
        cases hi
        exact ⟨_, List.mem_set (by simpa using hjl) _, by rw [hrg1, ← hrg0]; exact hxk⟩
      · exact ⟨x, List.mem_of_getElem? (i := i) (by rw [List.getElem?_set_ne (Ne.symm hij)]; exact hi), hxk⟩
    · rw [hput z hz]; unfold updK; rw [h2.1 z hz]
    · by_cases h9 : z = s
      · rw [h9]; exact hs
      · rw [updK_other f v h9] at hz; exact h2.2 z hz
end
section
variable {P : Program} {K : TypeId} {C : KeyCode P K κ} (w : World) {ops : Array Oper} {rest : List Oper} {o : Oper} {a : Act} {Q : Exit → Act → World → Prop}
theorem wpList_range_mapK (hg : o.guard = none) (m : Operand) (t : TypeId) (hop : o.op = Op.range t m) (e : TypeId) (ht : P.underlying t = some (.map K e)) (b n : Nat) (f : κ → Option Value)
    (hm : a.eval m = .map (some b)) (h : MapK C w b n f)
    (hK : ∀ w' cnt, RangeK C w' b w.heap.size n f (fun k => (f k).isSome) cnt → w.grownBy w' none → w'.heap.size = w.heap.size + 1 → wpList P ops Q rest (a.put o.dst (.pointer (some ⟨w.heap.size, 0, none⟩))) w') :
    wpList P ops Q (o :: rest) a w := by
  refine wpList_plain hg fun K' hK' => ?_
  obtain ⟨w', hrun, ⟨cnt, r1⟩, r2, r3⟩ := h.range ht
  unfold Oper.wp
  simp [execOp, hop, hm, hrun, Result.andThen]
  exact hK' _ _ (hK w' cnt r1 r2 r3)
theorem wpList_next_rangeK [DecidableEq κ] (hg : o.guard = none) (it : Operand) (hop : o.op = Op.next it false) (b r n : Nat) (f : κ → Option Value) (left : κ → Bool) (cnt : Nat)
    (hit : a.eval it = .pointer (some ⟨r, 0, none⟩)) (h : RangeK C w b r n f left cnt)
    (hDone : (∀ k, left k = false) → wpList P ops Q rest (a.put o.dst (.tuple #[.bool false])) w)
    (hMore : ∀ (s : κ) (v : Value) (w' : World) (cnt' : Nat), C.ok s → left s = true → f s = some v → RangeK C w' b r n f (fun k => left k && !decide (k = s)) cnt' → cnt' < cnt →
      w.grownBy w' (some r) → w'.heap.size = w.heap.size → (Instr.entry (.pointer (some ⟨r, 0, none⟩))).run P w' = .ok (.tuple #[C.val s, v]) w' → wpList P ops Q rest (a.put o.dst (.tuple #[.bool true, C.val s, v])) w') :
    wpList P ops Q (o :: rest) a w := by
  refine wpList_plain hg fun K' hK' => ?_
  unfold Oper.wp
  rcases h.next o.type with ⟨hl, hrun⟩ | ⟨s, v, w', cnt', hs, hlk, hv, hrun, hrg, hlt, hgr, hsz, hen⟩
  · simp [execOp, hop, hit, hrun, Result.andThen]
    exact hK' _ _ (hDone hl)
  · simp [execOp, hop, hit, hrun, Result.andThen]
    exact hK' _ _ (hMore s v w' cnt' hs hlk hv hrg hlt hgr hsz hen)
end
end Go.Proofs.YtnnceaapodgfbaaGreatDoor
namespace Go.Proofs.YtnnceaapodgfbaaGreatDoor
namespace Sto
open Go.RowKit Go.Maps Go.WideMaps
def keyV (k : GKey) : Value := .agg #[.string k.kind, .string k.space, .string k.name]
def keyL (k : GKey) : Lit := .string (keyBytes [.string k.kind.data.toList, .string k.space.data.toList, .string k.name.data.toList])
def okKey (k : GKey) : Prop := k.kind.size ≤ maxLen ∧ k.space.size ≤ maxLen ∧ k.name.size ≤ maxLen
theorem Tryz.laidOutK : laidOutB Tryz.prog = true := by kernel_rfl
theorem keyRow : 24 < Tryz.prog.types.size := of_decide_eq_true (by kernel_rfl)
theorem keyWide : (match Tryz.prog.underlying 24 with | some (.array _ _) | some (.struct _) => true | _ => false) = true := by kernel_rfl
set_option maxRecDepth 100000 in
theorem keyLaw : KeyLaw Tryz.prog 24 := deep_law_laid Tryz.laidOutK (m := 2) (by omega) keyRow (by kernel_rfl) keyWide
theorem keyIs : Tryz.prog.keyType 24 = true := by kernel_rfl
theorem keyCells : Tryz.prog.cellsOf 24 = 3 := by kernel_rfl
theorem strCells : Tryz.prog.cellsOf 9 = 1 := by kernel_rfl
section
variable {P : Program} {t K : TypeId}
theorem lits_str (hu : P.underlying t = some .string) (d : Nat) (c : Value) : P.keyLits (d + 1) t [c] = match c with
    | .string s => if s.size ≤ maxLen then some [.string s.data.toList] else none
    | _ => none := by
  simp only [Program.keyLits, hu]
  cases c <;> rfl
theorem lits_key {fs : Array Field} {f0 f1 f2 : Field} (hu : P.underlying K = some (.struct fs)) (hf : fs = #[f0, f1, f2]) (h0 : f0.type = t ∧ f0.offset = 0 ∧ (f0.name != "_") = true) (h1 : f1.type = t ∧ f1.offset = 1 ∧ (f1.name != "_") = true) (h2 : f2.type = t ∧ f2.offset = 2 ∧ (f2.name != "_") = true)
    (hK : P.cellsOf K = 3) (ht : P.cellsOf t = 1) (d : Nat) (c0 c1 c2 : Value) :
    P.keyLits (d + 1) K [c0, c1, c2] = ((P.keyLits d t [c0]).bind fun a => (P.keyLits d t [c1]).bind fun b => (P.keyLits d t [c2]).map fun c => a ++ b ++ c) := by
  subst hf
  obtain ⟨a1, a2, a3⟩ := h0
  obtain ⟨b1, b2, b3⟩ := h1
  obtain ⟨e1, e2, e3⟩ := h2
  simp only [Program.keyLits, hu, hK]
  simp only [List.mapM_cons, List.mapM_nil, a1, a2, b1, b2, e1, e2, ht]
  have hall : (#[f0, f1, f2].all fun x => x.name != "_") = true := by simp [a3, b3, e3]
  rw [if_pos ⟨rfl, hall⟩]
  simp only [List.drop_zero, List.drop_succ_cons, List.take_succ_cons, List.take_zero]
  cases P.keyLits d t [c0] with
  | none => rfl
  | some a =>
    cases P.keyLits d t [c1] with
    | none => rfl
    | some b =>
      cases P.keyLits d t [c2] with
      | none => rfl
      | some c => simp
theorem formed_three {cs : Array Value} {fs : Array Field} (hu : P.underlying K = some (.struct fs)) (hK : P.cellsOf K = 3) : (Value.agg cs).formed P K = (cs.size == 3) := by
  unfold Value.formed
  rw [hu, hK]
theorem formed_not {v : Value} {fs : Array Field} (hu : P.underlying K = some (.struct fs)) (h : v.formed P K = true) : ∃ cs, v = .agg cs := by
  cases v with
  | agg cs => exact ⟨cs, rfl⟩
  | _ => first | (unfold Value.formed at h; rw [hu] at h; cases h) | (unfold Value.formed at h; cases h)
theorem keyOf_three {v : Value} {fs : Array Field} (hu : P.underlying K = some (.struct fs)) (hk : P.keyType K = true) : keyOf P K v = if v.formed P K = true then (P.keyLits (P.types.size + 1) K v.cells.toList).map fun ls => .string (keyBytes ls) else none := by
  unfold keyOf
  rw [hu]
  dsimp only
  rw [hk, Bool.true_and]
end
theorem keyOf_is (v : Value) : keyOf Tryz.prog 24 v = if v.formed Tryz.prog 24 = true then (Tryz.prog.keyLits (Tryz.prog.types.size + 1) 24 v.cells.toList).map fun ls => .string (keyBytes ls) else none :=
  keyOf_three Tryz.underlying24 keyIs
theorem lits_is (d : Nat) (c0 c1 c2 : Value) : Tryz.prog.keyLits (d + 1) 24 [c0, c1, c2] = ((Tryz.prog.keyLits d 9 [c0]).bind fun a => (Tryz.prog.keyLits d 9 [c1]).bind fun b => (Tryz.prog.keyLits d 9 [c2]).map fun c => a ++ b ++ c) :=
  lits_key Tryz.underlying24 rfl ⟨rfl, rfl, by decide⟩ ⟨rfl, rfl, by decide⟩ ⟨rfl, rfl, by decide⟩ keyCells strCells d c0 c1 c2
theorem str_is (d : Nat) (c : Value) : Tryz.prog.keyLits (d + 1) 9 [c] = match c with
    | .string s => if s.size ≤ maxLen then some [.string s.data.toList] else none
    | _ => none := lits_str Tryz.underlying9 d c
theorem typesMany : ∃ m, Tryz.prog.types.size = m + 1 := ⟨Tryz.prog.types.size - 1, by have := keyRow; omega⟩
theorem keyOf_key {k : GKey} (h : okKey k) : keyOf Tryz.prog 24 (keyV k) = some (keyL k) := by
  obtain ⟨m, hm⟩ := typesMany
  rw [keyOf_is, hm]
  unfold keyV
  rw [formed_three Tryz.underlying24 keyCells, if_pos (show ((#[Value.string k.kind, Value.string k.space, Value.string k.name] : Array Value).size == 3) = true from rfl)]
  show (Tryz.prog.keyLits (m + 1 + 1) _ [.string k.kind, .string k.space, .string k.name]).map _ = _
  rw [lits_is, str_is, str_is, str_is]
  simp only [if_pos h.1, if_pos h.2.1, if_pos h.2.2]
  rfl
set_option maxRecDepth 100000 in
theorem keyOf_back {v : Value} {l : Lit} (h : keyOf Tryz.prog 24 v = some l) : ∃ k, okKey k ∧ v = keyV k ∧ l = keyL k := by
  obtain ⟨m, hm⟩ := typesMany
  rw [keyOf_is, hm] at h
  split at h
  · rename_i hf
    obtain ⟨cs, rfl⟩ := formed_not Tryz.underlying24 hf
    rw [formed_three Tryz.underlying24 keyCells] at hf
    obtain ⟨l3⟩ := cs
    have hl : l3.length = 3 := by simpa using hf
    match l3, hl with
    | [c0, c1, c2], _ =>
      have h2 : (Tryz.prog.keyLits (m + 1 + 1) 24 [c0, c1, c2]).map (fun ls => Lit.string (keyBytes ls)) = some l := h
      rw [lits_is, str_is, str_is, str_is] at h2
      cases c0 with
      | string a =>
        cases c1 with
        | string b =>
          cases c2 with
          | string c =>
            by_cases ha : a.size ≤ maxLen
            · by_cases hb : b.size ≤ maxLen
              · by_cases hc : c.size ≤ maxLen
                · simp only [if_pos ha, if_pos hb, if_pos hc] at h2
                  exact ⟨⟨a, b, c⟩, ⟨ha, hb, hc⟩, rfl, (Option.some.inj h2).symm⟩
                · simp only [if_pos ha, if_pos hb, if_neg hc] at h2; cases h2
              · simp only [if_pos ha, if_neg hb] at h2; cases h2
            · simp only [if_neg ha] at h2; cases h2
          | _ => simp at h2
        | _ => simp at h2
      | _ => simp at h2
  · cases h
theorem keyV_inj {a b : GKey} (h : keyV a = keyV b) : a = b := by
  unfold keyV at h
  injection h with h
  obtain ⟨a1, a2, a3⟩ := a
  obtain ⟨b1, b2, b3⟩ := b
  simp at h
  obtain ⟨h1, h2, h3⟩ := h
  subst h1 h2 h3
  rfl
def keyC : KeyCode Tryz.prog 24 GKey := ⟨keyV, keyL, okKey, Keyed.of_law keyLaw, fun _ h => keyOf_key h, keyOf_back, keyV_inj⟩
end Sto
end Go.Proofs.YtnnceaapodgfbaaGreatDoor
namespace Go.Proofs.YtnnceaapodgfbaaGreatDoor
namespace Sto
open Go.RowKit
open JP (Bs)
theorem hits_append (l m : List GEvent) (k : GKey) : hits (l ++ m) k = hits l k ++ hits m k := List.filter_append ..
def shown (e : GEvent) : Option GObject := if e.kind = 3 then none else some e.object
theorem cur_snoc (l : List GEvent) (e : GEvent) (k : GKey) : cur (l ++ [e]) k = if e.object.okey = k then shown e else cur l k := by
  unfold cur shown
  rw [hits_append]
  by_cases h : e.object.okey = k
  · have : hits [e] k = [e] := by unfold hits; simp [h]
    rw [this, if_pos h]; simp
  · have : hits [e] k = [] := by unfold hits; simp [h]
    rw [this, if_neg h]; simp
theorem cur_nil (k : GKey) : cur [] k = none := rfl
theorem live_snoc (l : List GEvent) (e : GEvent) : live (l ++ [e]) = live l + (if e.kind = 1 then 1 else if e.kind = 3 then -1 else 0) := by
  induction l with
  | nil => rw [List.nil_append]; unfold live; simp [live]
  | cons a r ih => rw [List.cons_append]; unfold live; rw [ih]; omega
theorem take_snoc {α : Type} {l : List α} {i : Nat} {e : α} (h : l[i]? = some e) : l.take (i + 1) = l.take i ++ [e] := by rw [List.take_add_one, h]; rfl
theorem cur_key {l : List GEvent} {k : GKey} {o : GObject} (h : cur l k = some o) : o.okey = k := by
  unfold cur at h
  cases hg : (hits l k).getLast? with
  | none => rw [hg] at h; cases h
  | some e =>
    rw [hg] at h
    dsimp only at h
    split at h
    · cases h
    · cases h
      have := List.mem_of_getLast? hg
      unfold hits at this
      exact of_decide_eq_true (List.mem_filter.1 this).2
def Step (l : List GEvent) (e : GEvent) : Prop :=
  e.rev = (l.length : Int) + 1 ∧ e.object.rev = (l.length : Int) + 1 ∧
  ((e.kind = 1 ∧ cur l e.object.okey = none ∧ e.object.uid = uidOf (l.length + 1)) ∨ ((e.kind = 2 ∨ e.kind = 3) ∧ ∃ o, cur l e.object.okey = some o ∧ e.object.uid = o.uid))
structure Good (S : St) : Prop where
  step : ∀ i e, S.log[i]? = some e → Step (S.log.take i) e
  full : live S.log ≤ 60
  comp : 0 ≤ S.comp ∧ S.comp ≤ (S.rev : Int)
def St0 : St := ⟨[], 0⟩
theorem good0 : Good St0 := ⟨fun i e h => by simp [St0] at h, by decide, by decide, by decide⟩
theorem good_put {S : St} (h : Good S) {kind : Int} {o : GObject} (hk : (kind = 1 ∧ cur S.log o.okey = none ∧ live S.log ≠ 60) ∨ ((kind = 2 ∨ kind = 3) ∧ ∃ p, cur S.log o.okey = some p ∧ o.uid = p.uid)) : Good (put S kind o) := by
  obtain ⟨h1, h2, h3⟩ := h
  refine ⟨fun i e he => ?_, ?_, ?_⟩
  · unfold put at he ⊢
    dsimp only at he ⊢
    by_cases hi : i < S.log.length
    · rw [List.getElem?_append_left hi] at he
      rw [List.take_append_of_le_length (by omega)]
      exact h1 i e he
    · have hl := (List.getElem?_eq_some_iff.1 he).1
      rw [List.length_append, List.length_singleton] at hl
      have hi2 : i = S.log.length := by omega
      subst hi2
      rw [List.getElem?_append_right (Nat.le_refl _), Nat.sub_self] at he
      cases he
      rw [List.take_append_of_le_length (Nat.le_refl _), List.take_length]
      refine ⟨rfl, by unfold putO St.rev; push_cast; rfl, ?_⟩
      unfold putO
      rcases hk with ⟨rfl, g1, _⟩ | ⟨g1, p, g2, g3⟩
      · exact .inl ⟨rfl, g1, by simp; rfl⟩
      · refine .inr ⟨g1, p, g2, ?_⟩
        have hne : ¬ kind = 1 := by omega
        simp [hne, g3]
  · unfold put
    dsimp only
    rw [live_snoc]
    dsimp only
    rcases hk with ⟨rfl, _, g⟩ | ⟨g1, _⟩
    · rw [if_pos rfl]; omega
    · have hne : ¬ kind = 1 := by omega
      rw [if_neg hne]
      split <;> omega
  · refine ⟨h3.1, Int.le_trans h3.2 ?_⟩
    unfold put St.rev
    dsimp only
    rw [List.length_append]
    omega
theorem create_cases (S : St) (o : GObject) : ((create S o).1 = S ∧ (create S o).2.1 = noObj ∧ (create S o).2.2 ≠ 0) ∨ (create S o = doPut S 1 { keptO o with ending := false } ∧ objE o = 0 ∧ cur S.log o.okey = none ∧ live S.log ≠ 60) := by
  unfold create
  by_cases h1 : objE o ≠ 0
  · rw [if_pos h1]; exact .inl ⟨rfl, rfl, h1⟩
  · rw [if_neg h1]
    by_cases h2 : (cur S.log o.okey).isSome = true
    · rw [if_pos h2]; exact .inl ⟨rfl, rfl, by show (5 : Int) ≠ 0; decide⟩
    · rw [if_neg h2]
      by_cases h3 : live S.log = 60
      · rw [if_pos h3]; exact .inl ⟨rfl, rfl, by show (22 : Int) ≠ 0; decide⟩
      · rw [if_neg h3]
        exact .inr ⟨rfl, Classical.not_not.1 h1, by cases hc : cur S.log o.okey with
          | none => rfl
          | some x => rw [hc] at h2; exact absurd rfl h2, h3⟩
theorem update_cases (S : St) (o : GObject) : ((update S o).1 = S ∧ (update S o).2.1 = noObj ∧ (update S o).2.2 ≠ 0) ∨ ∃ was, update S o = doPut S 2 { keptO o with uid := was.uid } ∧ objE o = 0 ∧ cur S.log o.okey = some was ∧ o.rev = was.rev ∧ (was.ending = true → o.ending = true) := by
  unfold update
  by_cases h1 : objE o ≠ 0
  · rw [if_pos h1]; exact .inl ⟨rfl, rfl, h1⟩
  · rw [if_neg h1]
    cases hc : cur S.log o.okey with
    | none => exact .inl ⟨rfl, rfl, by show (7 : Int) ≠ 0; decide⟩
    | some was =>
      dsimp only
      by_cases h2 : o.rev ≠ was.rev
      · rw [if_pos h2]; exact .inl ⟨rfl, rfl, by show (12 : Int) ≠ 0; decide⟩
      · rw [if_neg h2]
        by_cases h3 : was.ending = true ∧ o.ending = false
        · rw [if_pos h3]; exact .inl ⟨rfl, rfl, by show (1 : Int) ≠ 0; decide⟩
        · rw [if_neg h3]
          exact .inr ⟨was, rfl, Classical.not_not.1 h1, rfl, Classical.not_not.1 h2, fun h => by
            cases he : o.ending with
            | true => rfl
            | false => exact absurd ⟨h, he⟩ h3⟩
theorem remove_cases (S : St) (k : GKey) (rev : Int) : ((remove S k rev).1 = S ∧ (remove S k rev).2.1 = noObj ∧ (remove S k rev).2.2 ≠ 0) ∨ ∃ was, remove S k rev = doPut S 3 was ∧ cur S.log k = some was := by
  unfold remove
  by_cases h1 : keyK k ≠ 0
  · rw [if_pos h1]; exact .inl ⟨rfl, rfl, h1⟩
  · rw [if_neg h1]
    cases hc : cur S.log k with
    | none => exact .inl ⟨rfl, rfl, by show (7 : Int) ≠ 0; decide⟩
    | some was =>
      dsimp only
      by_cases h2 : rev ≠ 0 ∧ rev ≠ was.rev
      · rw [if_pos h2]; exact .inl ⟨rfl, rfl, by show (12 : Int) ≠ 0; decide⟩
      · rw [if_neg h2]; exact .inr ⟨was, rfl, rfl⟩
theorem good_create {S : St} (h : Good S) (o : GObject) : Good (create S o).1 := by
  rcases create_cases S o with ⟨e, _⟩ | ⟨e, _, g1, g2⟩
  · rw [e]; exact h
  · rw [e]; exact good_put h (.inl ⟨rfl, g1, g2⟩)
theorem good_update {S : St} (h : Good S) (o : GObject) : Good (update S o).1 := by
  rcases update_cases S o with ⟨e, _⟩ | ⟨was, e, _, g1, _⟩
  · rw [e]; exact h
  · rw [e]; exact good_put h (.inr ⟨.inl rfl, was, g1, rfl⟩)
theorem good_remove {S : St} (h : Good S) (k : GKey) (rev : Int) : Good (remove S k rev).1 := by
  rcases remove_cases S k rev with ⟨e, _⟩ | ⟨was, e, g1⟩
  · rw [e]; exact h
  · rw [e]; exact good_put h (.inr ⟨.inr rfl, was, by rw [cur_key g1]; exact g1, rfl⟩)
theorem good_compact {S : St} (h : Good S) (rev : Int) : Good (compact S rev) := by
  unfold compact
  by_cases hc : compactE S rev = 0
  · rw [if_pos hc]
    unfold compactE at hc
    have : ¬ ((S.rev : Int) < rev ∨ rev < S.comp) := fun h9 => by rw [if_pos h9] at hc; cases hc
    refine ⟨h.step, h.full, ?_, ?_⟩
    · show 0 ≤ rev; have := h.comp.1; omega
    · show rev ≤ (S.rev : Int); omega
  · rw [if_neg hc]; exact h
theorem good_do {S : St} (h : Good S) (x : GStoreStep) : Good (doS S x).1 := by
  unfold doS
  split
  · exact good_create h _
  · split
    · exact good_update h _
    · split
      · exact good_remove h _ _
      · exact good_compact h _
theorem grow_create (S : St) (o : GObject) : ∃ m, (create S o).1.log = S.log ++ m := by
  rcases create_cases S o with ⟨e, _⟩ | ⟨e, _⟩
  · exact ⟨[], by rw [e, List.append_nil]⟩
  · rw [e]; exact ⟨_, rfl⟩
theorem grow_update (S : St) (o : GObject) : ∃ m, (update S o).1.log = S.log ++ m := by
  rcases update_cases S o with ⟨e, _⟩ | ⟨was, e, _⟩
  · exact ⟨[], by rw [e, List.append_nil]⟩
  · rw [e]; exact ⟨_, rfl⟩
theorem grow_remove (S : St) (k : GKey) (rev : Int) : ∃ m, (remove S k rev).1.log = S.log ++ m := by
  rcases remove_cases S k rev with ⟨e, _⟩ | ⟨was, e, _⟩
  · exact ⟨[], by rw [e, List.append_nil]⟩
  · rw [e]; exact ⟨_, rfl⟩
theorem grow_compact (S : St) (rev : Int) : (compact S rev).log = S.log := by unfold compact; split <;> rfl
theorem grow_do (S : St) (x : GStoreStep) : ∃ m, (doS S x).1.log = S.log ++ m := by
  unfold doS
  split
  · exact grow_create _ _
  · split
    · exact grow_update _ _
    · split
      · exact grow_remove _ _ _
      · exact ⟨[], by rw [List.append_nil]; exact grow_compact S _⟩
theorem grow_run (S : St) (l : List GStoreStep) : ∃ m, (run S l).log = S.log ++ m := by
  induction l generalizing S with
  | nil => exact ⟨[], by rw [List.append_nil]; rfl⟩
  | cons x r ih =>
    obtain ⟨m1, h1⟩ := grow_do S x
    obtain ⟨m2, h2⟩ := ih (doS S x).1
    exact ⟨m1 ++ m2, by show (run (doS S x).1 r).log = _; rw [h2, h1, List.append_assoc]⟩
theorem rev_do (S : St) (x : GStoreStep) : S.rev ≤ (doS S x).1.rev ∧ (doS S x).1.rev ≤ S.rev + 1 := by
  have hp : ∀ kind o, (put S kind o).rev = S.rev + 1 := fun kind o => by unfold put St.rev; dsimp only; rw [List.length_append]; rfl
  unfold doS
  split
  · rcases create_cases S x.o with ⟨e, _⟩ | ⟨e, _⟩
    · rw [e]; omega
    · rw [e]; unfold doPut; rw [hp]; omega
  · split
    · rcases update_cases S x.o with ⟨e, _⟩ | ⟨was, e, _⟩
      · rw [e]; omega
      · rw [e]; unfold doPut; rw [hp]; omega
    · split
      · rcases remove_cases S x.o.okey x.rev with ⟨e, _⟩ | ⟨was, e, _⟩
        · rw [e]; omega
        · rw [e]; unfold doPut; rw [hp]; omega
      · dsimp only
        unfold St.rev
        rw [grow_compact]; omega
theorem rev_run (S : St) (l : List GStoreStep) : (run S l).rev ≤ S.rev + l.length := by
  induction l generalizing S with
  | nil => exact Nat.le_refl _
  | cons x r ih =>
    have h1 := rev_do S x
    have h2 := ih (doS S x).1
    show (run (doS S x).1 r).rev ≤ _
    rw [List.length_cons]; omega
end Sto
end Go.Proofs.YtnnceaapodgfbaaGreatDoor
namespace Go.Proofs.YtnnceaapodgfbaaGreatDoor
open Go.RowKit
theorem flat_label : Flat LabelR := fun _ _ _ _ h => h
theorem one_label : OneR LabelR := fun _ _ _ h u hu => by rw [h] at hu; simp at hu; rcases hu with rfl | rfl <;> rfl
theorem Tryz.infoLabel : (Tryz.prog.info? 66).map (fun i => (i.zero, i.size, i.bytes)) = some (some (.agg #[.string ByteArray.empty, .string ByteArray.empty]), 2, 32) := by kernel_rfl
set_option maxRecDepth 100000 in
theorem cloneStrs_any (v : Value) (l : List ByteArray) (w : World) (h : StrAt w v l) (hl : l.length ≤ 1073741824) :
    Calls Tryz.prog 78 #[v] w fun e w' => ∃ v', e = .returned v' ∧ OwnAt RString 1 w' w.heap.size 9 v' l ∧ Below w.heap.size w w' := by
  obtain ⟨i0, hi0, hz0, hz1, hz2⟩ := info_parts Tryz.infoStr
  have hrow := h.row
  have hn := fun (w : World) (a : Option Addr) (n c : Nat) => Lib.run_eql_slice_nil (P := Tryz.prog) w 28 9 a n c 0 0 Tryz.underlying28
  rcases h with ⟨rfl, rfl⟩ | ⟨a, c, rfl, _, _, _⟩
  · go_enter Tryz.func78, Tryz.ntmps78
    go_wp2_with fail
    go_ret
    exact ⟨_, rfl, OwnAt.nil _, Below.refl _ _⟩
  · have Hrow := Lib.hid hrow
    clear hrow
    go_enter Tryz.func78, Tryz.ntmps78
    go_wp2_with (at_builtin; refine wpList_append_ownAt (R := RString) (k := 1) (e := 9) (B := w.heap.size) (l := []) (m := l) _ (by rfl) _ _ _ (by rfl) i0 _ 16 Tryz.underlying28 hi0 hz0 hz1 hz2 rfl (by omega) flat_string one_string _ (by rfl) (own_empty w 1 _ (Nat.le_refl _)) _ (by rfl) (Hrow.out.below stays_string ((Below.refl _ _).alloc (Nat.le_refl _) _)) (by unfold maxLen; simp; omega) (by simp; omega) (by simp) ?_)
    intro v' w' hv' hg hr _
    have hb : Below w.heap.size w w' := below_of_grown ((Below.refl _ _).alloc (Nat.le_refl _) _) (by simp) hg hr
    go_wp2_with fail
    go_ret
    exact ⟨_, rfl, by simpa using hv', hb⟩
set_option maxRecDepth 100000 in
theorem cloneLabels_any (v : Value) (l : List GLabel) (w : World) (h : RowAt LabelR 2 w v l) (hl : l.length ≤ 1073741824) :
    Calls Tryz.prog 93 #[v] w fun e w' => ∃ v', e = .returned v' ∧ OwnAt LabelR 2 w' w.heap.size 66 v' l ∧ Below w.heap.size w w' := by
  obtain ⟨i0, hi0, hz0, hz1, hz2⟩ := info_parts Tryz.infoLabel
  have hrow := h
  have hn := fun (w : World) (a : Option Addr) (n c : Nat) => Lib.run_eql_slice_nil (P := Tryz.prog) w 27 66 a n c 0 0 Tryz.underlying27
  rcases h with ⟨rfl, rfl⟩ | ⟨a, c, rfl, _, _, _⟩
  · go_enter Tryz.func93, Tryz.ntmps93
    go_wp2_with fail
    go_ret
    exact ⟨_, rfl, OwnAt.nil _, Below.refl _ _⟩
  · have Hrow := Lib.hid hrow
    clear hrow
    go_enter Tryz.func93, Tryz.ntmps93
    go_wp2_with (at_builtin; refine wpList_append_ownAt (R := LabelR) (k := 2) (e := 66) (B := w.heap.size) (l := []) (m := l) _ (by rfl) _ _ _ (by rfl) i0 _ 32 Tryz.underlying27 hi0 hz0 hz1 hz2 rfl (by omega) flat_label one_label _ (by rfl) (own_empty w 2 _ (Nat.le_refl _)) _ (by rfl) (Hrow.out.below stays_label ((Below.refl _ _).alloc (Nat.le_refl _) _)) (by unfold maxLen; simp; omega) (by simp; omega) (by simp) ?_)
    intro v' w' hv' hg hr _
    have hb : Below w.heap.size w w' := below_of_grown ((Below.refl _ _).alloc (Nat.le_refl _) _) (by simp) hg hr
    go_wp2_with fail
    go_ret
    exact ⟨_, rfl, by simpa using hv', hb⟩
end Go.Proofs.YtnnceaapodgfbaaGreatDoor
namespace Go.Proofs.YtnnceaapodgfbaaGreatDoor
open Go.RowKit
def objV (k : GKey) (vl vo vh : Value) (e : Bool) (u : ByteArray) (r : Int) (d : ByteArray) : Value :=
  .agg #[.string k.kind, .string k.space, .string k.name, vl, vo, vh, .bool e, .string u, .int .i64 r, .string d]
set_option maxRecDepth 100000 in
set_option maxHeartbeats 800000 in
theorem storeCopy_any (k : GKey) (vl vo vh : Value) (e : Bool) (u : ByteArray) (r : Int) (d : ByteArray) (labels : List GLabel) (owners holds : List ByteArray) (w : World)
    (hl : RowAt LabelR 2 w vl labels) (ho : StrAt w vo owners) (hh : StrAt w vh holds) (bl : labels.length ≤ 1073741824) (bo : owners.length ≤ 1073741824) (bh : holds.length ≤ 1073741824) :
    Calls Tryz.prog 65 #[objV k vl vo vh e u r d] w fun E w' => ∃ vl' vo' vh', E = .returned (objV k vl' vo' vh' e u r d) ∧
      OwnAt LabelR 2 w' w.heap.size 66 vl' labels ∧ OwnAt RString 1 w' w.heap.size 9 vo' owners ∧ OwnAt RString 1 w' w.heap.size 9 vh' holds ∧ (∀ g, vh'.ownBlock = some g → vo'.ownBlock ≠ some g) ∧ Below w.heap.size w w' := by
  unfold objV
  have Hl := Lib.hid hl
  have Ho := Lib.hid ho
  have Hh := Lib.hid hh
  clear hl ho hh
  go_enter Tryz.func65, Tryz.ntmps65
  go_wp2_with fail
  have hWb : Below w.heap.size w ((w.alloc (.cells #[.string k.kind, .string k.space, .string k.name, vl, vo, vh, .bool e, .string u, .int .i64 r, .string d] 30)).alloc (.cells #[.string { data := #[] }, .string { data := #[] }, .string { data := #[] }, .slice none 0 0, .slice none 0 0, .slice none 0 0, .bool false, .string { data := #[] }, .int .i64 0, .string { data := #[] }] 30)) :=
    ((Below.refl _ _).alloc (Nat.le_refl _) _).alloc (by simp) _
  generalize hW : World.alloc (World.alloc _ _) _ = W at hWb
  have hWs : W.heap.size = w.heap.size + 2 := by rw [← hW]; simp
  have c0 : W.heap[w.heap.size]? = some (.cells #[.string k.kind, .string k.space, .string k.name, vl, vo, vh, .bool e, .string u, .int .i64 r, .string d] 30 (0, 0)) := by rw [← hW]; exact heap_alloc_old (heap_alloc_at rfl)
  have c1 : W.heap[w.heap.size + 1]? = some (.cells #[.string { data := #[] }, .string { data := #[] }, .string { data := #[] }, .slice none 0 0, .slice none 0 0, .slice none 0 0, .bool false, .string { data := #[] }, .int .i64 0, .string { data := #[] }] 30 (0, 0)) := by rw [← hW]; exact heap_alloc_at (by simp)
  clear hW
  refine wp_region_relB 10 (fun i u w' => match i with
    | 0 => u 0 = .pointer (some ⟨w.heap.size, 3, none⟩) | 1 => u 1 = vl | 2 => OwnAt LabelR 2 w' (w.heap.size + 2) 66 (u 2) labels
    | 3 => u 3 = .pointer (some ⟨w.heap.size, 4, none⟩) | 4 => u 4 = vo | 5 => OwnAt RString 1 w' (w.heap.size + 2) 9 (u 5) owners
    | 6 => u 6 = .pointer (some ⟨w.heap.size, 5, none⟩) | 7 => u 7 = vh | 8 => OwnAt RString 1 w' (w.heap.size + 2) 9 (u 8) holds ∧ ∀ g, (u 8).ownBlock = some g → (u 5).ownBlock ≠ some g
    | 9 => u 9 = .pointer (some ⟨w.heap.size, 3, none⟩) | _ => True)
    (fun | 1 => [0] | 2 => [1] | 4 => [3] | 5 => [4] | 7 => [6] | 8 => [7, 5] | _ => []) (by kernel_rfl) (by kernel_rfl) ?_ ⟨?_, ?_, ?_, ?_, ?_, ?_, ?_, ?_, ?_, ?_, trivial⟩ ?_
  · intro j v w1 w2 hb h
    match j, h with
    | 0, h => exact h
    | 1, h => exact h
    | 2, h => exact OwnAt.below stays_label h hb
    | 3, h => exact h
    | 4, h => exact h
    | 5, h => exact OwnAt.below stays_string h hb
    | 6, h => exact h
    | 7, h => exact h
    | 8, h => exact ⟨OwnAt.below stays_string h.1 hb, h.2⟩
    | 9, h => exact h
    | _ + 10, h => trivial
  · intro x w' hb hd
    refine owes_here (.pointer (some ⟨w.heap.size, 3, none⟩)) (by rfl) ?_ rfl
    simp only [putAll, List.take_succ_cons, List.take_zero]
    go_simp
  · intro x w' hb hd
    have h0 : x 0 = .pointer (some ⟨w.heap.size, 3, none⟩) := hd 0 (by simp)
    have d0 := (hb.block w.heap.size (by show w.heap.size < W.heap.size; omega)).trans c0
    refine owes_here vl (by rfl) ?_ rfl
    simp only [putAll, List.take_succ_cons, List.take_zero]
    have e3 := cell_block d0 3
    go_simp
  · intro x w' hb hd
    have h0 : x 1 = vl := hd 1 (by simp)
    have hb2 : Below w.heap.size w w' := hWb.drew.trans (hb.mono (by show w.heap.size ≤ W.heap.size; omega))
    refine owes_call 93 #[vl] (by rfl) ?_ ((cloneLabels_any _ _ w' (Hl.out.below stays_label hb2) (by omega)).mono ?_)
    · simp only [putAll, List.take_succ_cons, List.take_zero]
      go_simp
    · rintro _ w2 ⟨v2, rfl, ho, hb3⟩
      exact ⟨v2, rfl, ho.mono (by have h9 : W.heap.size ≤ w'.heap.size := hb.size; omega), hb3⟩
  · intro x w' hb hd
    refine owes_here (.pointer (some ⟨w.heap.size, 4, none⟩)) (by rfl) ?_ rfl
    simp only [putAll, List.take_succ_cons, List.take_zero]
    go_simp
  · intro x w' hb hd
    have h0 : x 3 = .pointer (some ⟨w.heap.size, 4, none⟩) := hd 3 (by simp)
    have d0 := (hb.block w.heap.size (by show w.heap.size < W.heap.size; omega)).trans c0
    refine owes_here vo (by rfl) ?_ rfl
    simp only [putAll, List.take_succ_cons, List.take_zero]
    have e3 := cell_block d0 4
    go_simp
  · intro x w' hb hd
    have h0 : x 4 = vo := hd 4 (by simp)
    have hb2 : Below w.heap.size w w' := hWb.drew.trans (hb.mono (by show w.heap.size ≤ W.heap.size; omega))
    refine owes_call 78 #[vo] (by rfl) ?_ ((cloneStrs_any _ _ w' (Ho.out.below hb2) (by omega)).mono ?_)
    · simp only [putAll, List.take_succ_cons, List.take_zero]
      go_simp
    · rintro _ w2 ⟨v2, rfl, ho, hb3⟩
      exact ⟨v2, rfl, ho.mono (by have h9 : W.heap.size ≤ w'.heap.size := hb.size; omega), hb3⟩
  · intro x w' hb hd
    refine owes_here (.pointer (some ⟨w.heap.size, 5, none⟩)) (by rfl) ?_ rfl
    simp only [putAll, List.take_succ_cons, List.take_zero]
    go_simp
  · intro x w' hb hd
    have h0 : x 6 = .pointer (some ⟨w.heap.size, 5, none⟩) := hd 6 (by simp)
    have d0 := (hb.block w.heap.size (by show w.heap.size < W.heap.size; omega)).trans c0
    refine owes_here vh (by rfl) ?_ rfl
    simp only [putAll, List.take_succ_cons, List.take_zero]
    have e3 := cell_block d0 5
    go_simp
  · intro x w' hb hd
    have h0 : x 7 = vh := hd 7 (by simp)
    have h5 : OwnAt RString 1 w' (w.heap.size + 2) 9 (x 5) owners := hd 5 (by simp)
    have hb2 : Below w.heap.size w w' := hWb.drew.trans (hb.mono (by show w.heap.size ≤ W.heap.size; omega))
    refine owes_call 78 #[vh] (by rfl) ?_ ((cloneStrs_any _ _ w' (Hh.out.below hb2) (by omega)).mono ?_)
    · simp only [putAll, List.take_succ_cons, List.take_zero]
      go_simp
    · rintro _ w2 ⟨v2, rfl, ho, hb3⟩
      exact ⟨v2, rfl, ⟨ho.mono (by have h9 : W.heap.size ≤ w'.heap.size := hb.size; omega), fun g hg h5g => absurd (h5.at h5g).2.1 (by have := (ho.at hg).1; omega)⟩, hb3⟩
  · intro x w' hb hd
    refine owes_here (.pointer (some ⟨w.heap.size, 3, none⟩)) (by rfl) ?_ rfl
    simp only [putAll, List.take_succ_cons, List.take_zero]
    go_simp
  · intro x w' hb hR
    have h2 : OwnAt LabelR 2 w' (w.heap.size + 2) 66 (x 2) labels := hR 2 (by omega)
    have h5 : OwnAt RString 1 w' (w.heap.size + 2) 9 (x 5) owners := hR 5 (by omega)
    obtain ⟨h8, h85⟩ : OwnAt RString 1 w' (w.heap.size + 2) 9 (x 8) holds ∧ ∀ g, (x 8).ownBlock = some g → (x 5).ownBlock ≠ some g := hR 8 (by omega)
    have h9 : x 9 = .pointer (some ⟨w.heap.size, 3, none⟩) := hR 9 (by omega)
    have d0 := (hb.block w.heap.size (by show w.heap.size < W.heap.size; omega)).trans c0
    have d1 := (hb.block (w.heap.size + 1) (by show w.heap.size + 1 < W.heap.size; omega)).trans c1
    have hb2 : Below w.heap.size w w' := hWb.drew.trans (hb.mono (by show w.heap.size ≤ W.heap.size; omega))
    obtain ⟨a2, q2, e2, _, _⟩ := h2.row.len
    obtain ⟨a5, q5, e5, _, _⟩ := h5.row.len
    obtain ⟨a8, q8, e8, _, _⟩ := h8.row.len
    rw [e2] at h2
    rw [e5] at h5
    rw [e8] at h8
    rw [e8, e5] at h85
    have H85 := Lib.hid h85
    have H2 := Lib.hid h2
    have H5 := Lib.hid h5
    have H8 := Lib.hid h8
    have Hd0 := Lib.hid d0
    have Hd1 := Lib.hid d1
    clear hR h2 h5 h8 h85 hb d0 d1 c0 c1
    have f0 : w'.cell? ⟨w.heap.size, 0, none⟩ = some (.string k.kind) := cell_block Hd0.out 0
    have f1 : w'.cell? ⟨w.heap.size, 1, none⟩ = some (.string k.space) := cell_block Hd0.out 1
    have f2 : w'.cell? ⟨w.heap.size, 2, none⟩ = some (.string k.name) := cell_block Hd0.out 2
    have f3 : w'.cell? ⟨w.heap.size, 3, none⟩ = some (vl) := cell_block Hd0.out 3
    have f4 : w'.cell? ⟨w.heap.size, 4, none⟩ = some (vo) := cell_block Hd0.out 4
    have f5 : w'.cell? ⟨w.heap.size, 5, none⟩ = some (vh) := cell_block Hd0.out 5
    have f6 : w'.cell? ⟨w.heap.size, 6, none⟩ = some (.bool e) := cell_block Hd0.out 6
    have f7 : w'.cell? ⟨w.heap.size, 7, none⟩ = some (.string u) := cell_block Hd0.out 7
    have f8 : w'.cell? ⟨w.heap.size, 8, none⟩ = some (.int .i64 r) := cell_block Hd0.out 8
    have f9 : w'.cell? ⟨w.heap.size, 9, none⟩ = some (.string d) := cell_block Hd0.out 9
    have g3 : w'.frozen? ⟨w.heap.size, 3, none⟩ = false := free_block Hd0.out 3
    have g4 : w'.frozen? ⟨w.heap.size, 4, none⟩ = false := free_block Hd0.out 4
    have g5 : w'.frozen? ⟨w.heap.size, 5, none⟩ = false := free_block Hd0.out 5
    have pc0 : w'.cell? ⟨w.heap.size + 1, 0, none⟩ = some (.string { data := #[] }) := cell_block Hd1.out 0
    have pf0 : w'.frozen? ⟨w.heap.size + 1, 0, none⟩ = false := free_block Hd1.out 0
    have pc1 : w'.cell? ⟨w.heap.size + 1, 1, none⟩ = some (.string { data := #[] }) := cell_block Hd1.out 1
    have pf1 : w'.frozen? ⟨w.heap.size + 1, 1, none⟩ = false := free_block Hd1.out 1
    have pc2 : w'.cell? ⟨w.heap.size + 1, 2, none⟩ = some (.string { data := #[] }) := cell_block Hd1.out 2
    have pf2 : w'.frozen? ⟨w.heap.size + 1, 2, none⟩ = false := free_block Hd1.out 2
    have pc3 : w'.cell? ⟨w.heap.size + 1, 3, none⟩ = some (.slice none 0 0) := cell_block Hd1.out 3
    have pf3 : w'.frozen? ⟨w.heap.size + 1, 3, none⟩ = false := free_block Hd1.out 3
    have pc4 : w'.cell? ⟨w.heap.size + 1, 4, none⟩ = some (.slice none 0 0) := cell_block Hd1.out 4
    have pf4 : w'.frozen? ⟨w.heap.size + 1, 4, none⟩ = false := free_block Hd1.out 4
    have pc5 : w'.cell? ⟨w.heap.size + 1, 5, none⟩ = some (.slice none 0 0) := cell_block Hd1.out 5
    have pf5 : w'.frozen? ⟨w.heap.size + 1, 5, none⟩ = false := free_block Hd1.out 5
    have pc6 : w'.cell? ⟨w.heap.size + 1, 6, none⟩ = some (.bool false) := cell_block Hd1.out 6
    have pf6 : w'.frozen? ⟨w.heap.size + 1, 6, none⟩ = false := free_block Hd1.out 6
    have pc7 : w'.cell? ⟨w.heap.size + 1, 7, none⟩ = some (.string { data := #[] }) := cell_block Hd1.out 7
    have pf7 : w'.frozen? ⟨w.heap.size + 1, 7, none⟩ = false := free_block Hd1.out 7
    have pc8 : w'.cell? ⟨w.heap.size + 1, 8, none⟩ = some (.int .i64 0) := cell_block Hd1.out 8
    have pf8 : w'.frozen? ⟨w.heap.size + 1, 8, none⟩ = false := free_block Hd1.out 8
    have pc9 : w'.cell? ⟨w.heap.size + 1, 9, none⟩ = some (.string { data := #[] }) := cell_block Hd1.out 9
    have pf9 : w'.frozen? ⟨w.heap.size + 1, 9, none⟩ = false := free_block Hd1.out 9
    simp only [putAll, List.take_succ_cons, List.take_zero, List.drop_succ_cons, List.drop_zero]
    go_wp2_with fail
    refine bodyPost_ret (v := .agg #[.string k.kind, .string k.space, .string k.name, .slice a2 labels.length q2, .slice a5 owners.length q5, .slice a8 holds.length q8, .bool e, .string u, .int .i64 r, .string d]) ?_ rfl ⟨_, _, _, rfl, ?_, ?_, ?_, H85.out, ?_⟩
    · simp [results, Tryz.results65, go_sem, pc0, pc1, pc2, pc3, pc4, pc5, pc6, pc7, pc8, pc9]
    · have h := H2.out
      iterate 13 refine OwnAt.mono (OwnAt.setLow flat_label (B := w.heap.size + 2) ?_ (by simp) _) (by omega)
      exact h
    · have h := H5.out
      iterate 13 refine OwnAt.mono (OwnAt.setLow flat_string (B := w.heap.size + 2) ?_ (by simp) _) (by omega)
      exact h
    · have h := H8.out
      iterate 13 refine OwnAt.mono (OwnAt.setLow flat_string (B := w.heap.size + 2) ?_ (by simp) _) (by omega)
      exact h
    · iterate 13 refine Below.setCell ?_ (by simp) _
      exact hb2
end Go.Proofs.YtnnceaapodgfbaaGreatDoor
namespace Go.Proofs.YtnnceaapodgfbaaGreatDoor
open Go.RowKit
abbrev Dom := Nat → Prop
def Agree (D : Dom) (w w' : World) : Prop := ∀ b, D b → w'.heap[b]? = w.heap[b]?
theorem Agree.refl (D : Dom) (w : World) : Agree D w w := fun _ _ => rfl
theorem Agree.trans {D : Dom} {a b c : World} (h : Agree D a b) (k : Agree D b c) : Agree D a c := fun q hq => (k q hq).trans (h q hq)
theorem Agree.mono {D D' : Dom} {w w' : World} (h : Agree D w w') (hd : ∀ b, D' b → D b) : Agree D' w w' := fun b hb => h b (hd b hb)
structure Only (D : Dom) (w w' : World) : Prop where
  os : w'.os = w.os
  tape : w'.tape = w.tape
  output : w'.output = w.output
  size : w.heap.size ≤ w'.heap.size
  block : ∀ k, k < w.heap.size → ¬ D k → w'.heap[k]? = w.heap[k]?
section
variable {D D' E : Dom} {a w w' w'' : World}
theorem Only.refl (D : Dom) (w : World) : Only D w w := ⟨rfl, rfl, rfl, Nat.le_refl _, fun _ _ _ => rfl⟩
theorem Only.trans (h : Only D w w') (k : Only D' w' w'') (hd : ∀ b, D' b → b < w.heap.size → D b) : Only D w w'' :=
  ⟨k.os.trans h.os, k.tape.trans h.tape, k.output.trans h.output, Nat.le_trans h.size k.size, fun q hq hn => (k.block q (Nat.lt_of_lt_of_le hq h.size) fun h9 => hn (hd q h9 hq)).trans (h.block q hq hn)⟩
theorem Only.of (h : Below w.heap.size w w') : Only D w w' := ⟨h.os, h.tape, h.output, h.size, fun k hk _ => h.block k hk⟩
theorem Only.mono (h : Only D w w') (hd : ∀ b, D b → D' b) : Only D' w w' := ⟨h.os, h.tape, h.output, h.size, fun k hk hn => h.block k hk fun h9 => hn (hd k h9)⟩
theorem Only.then (h : Only D w w') (hb : Below w'.heap.size w' w'') : Only D w w'' :=
  ⟨hb.os.trans h.os, hb.tape.trans h.tape, hb.output.trans h.output, Nat.le_trans h.size hb.size, fun k hk hn => (hb.block k (Nat.lt_of_lt_of_le hk h.size)).trans (h.block k hk hn)⟩
theorem Only.after (hb : Below w.heap.size w w') (h : Only D w' w'') : Only D w w'' :=
  ⟨h.os.trans hb.os, h.tape.trans hb.tape, h.output.trans hb.output, Nat.le_trans hb.size h.size, fun k hk hn => (h.block k (Nat.lt_of_lt_of_le hk hb.size) hn).trans (hb.block k hk)⟩
theorem Only.touch {g : Nat} (h : Touch g w w') (hg : D g) : Only D w w' := ⟨h.os, h.tape, h.output, by rw [h.size]; exact Nat.le_refl _, fun k _ hn => h.other k fun e => hn (e ▸ hg)⟩
theorem Only.but {g : Nat} (h : But g w w') (hg : D g) : Only D w w' := ⟨h.os, h.tape, h.output, h.size, fun k hk hn => h.block k hk fun e => hn (e ▸ hg)⟩
theorem Only.grown {r : Option Nat} (h : w.grownBy w' r) (hg : ∀ g, r = some g → D g) : Only D w w' := ⟨h.os, h.tape, h.output, h.size, fun k hk hn => h.block k hk fun e => hn (hg k e.symm)⟩
theorem turned_size {b : Nat} (h : w.mapTurned w' b) : w'.heap.size = w.heap.size := by
  obtain ⟨es, clock, es', clock', hb, rfl⟩ := h
  simp [ChangeMaps.setBlock]
theorem Only.turned {b : Nat} (h : w.mapTurned w' b) (hg : D b) : Only D w w' := by
  have hs := turned_size h
  obtain ⟨es, clock, es', clock', hb, rfl⟩ := h
  exact ⟨rfl, rfl, rfl, by rw [hs]; exact Nat.le_refl _, fun k _ hn => ChangeMaps.heap_setBlock_other hb _ fun e => hn (e ▸ hg)⟩
theorem Only.agree (h : Only D w w') (hE : ∀ b, E b → b < w.heap.size ∧ ¬ D b) : Agree E w w' := fun b hb => h.block b (hE b hb).1 (hE b hb).2
theorem Only.below {B : Nat} (h : Only D w w') (hd : ∀ b, D b → B ≤ b) (hB : B ≤ w.heap.size) : Below B w w' :=
  ⟨h.os, h.tape, h.output, h.size, fun k hk => h.block k (by omega) fun h9 => by have := hd k h9; omega⟩
theorem Only.cell {p : Addr} (h : Only D w w') (hp : p.block < w.heap.size) (hn : ¬ D p.block) : w'.cell? p = w.cell? p := by unfold World.cell?; rw [h.block _ hp hn]
end
structure Fam {α : Type} (X : Dom → World → Rd α) : Prop where
  flat : ∀ D w, Flat (X D w)
  one : ∀ D w, OneR (X D w)
  agree : ∀ (D : Dom) (w w' u : World) (cs : List Value) (x : α), Agree D w w' → X D w u cs x → X D w' u cs x
  mono : ∀ (D D' : Dom) (w u : World) (cs : List Value) (x : α), (∀ b, D b → D' b) → X D w u cs x → X D' w u cs x
theorem fam_flat {α : Type} {R : Rd α} (h : Flat R) (h1 : OneR R) : Fam (fun _ _ => R) := ⟨fun _ _ => h, fun _ _ => h1, fun _ _ _ _ _ _ _ h => h, fun _ _ _ _ _ _ _ h => h⟩
def OwnX {α : Type} (X : Dom → World → Rd α) (k : Nat) (D : Dom) (w : World) (e : TypeId) (v : Value) (l : List α) : Prop :=
  OwnAt (X D w) k w 0 e v l ∧ ∀ b, v.ownBlock = some b → D b
section
variable {α β : Type} {X : Dom → World → Rd α} {k : Nat} {D D' : Dom} {w w' : World} {e : TypeId} {v : Value} {l : List α}
theorem OwnAt.imp' {R R' : Rd α} {B : Nat} (h : OwnAt R k w B e v l) (hi : ∀ cs x, x ∈ l → R w cs x → R' w cs x) : OwnAt R' k w B e v l := by
  obtain ⟨css, h1, h2, h3, h4⟩ := h
  exact ⟨css, h1, h2, h3, fun j cs x hcs hx => hi cs x (List.mem_of_getElem? hx) (h4 j cs x hcs hx)⟩
theorem OwnAt.stay {R : Rd α} {B : Nat} (hf : Flat R) (h : OwnAt R k w B e v l) (hb : ∀ b, v.ownBlock = some b → w'.heap[b]? = w.heap[b]?) : OwnAt R k w' B e v l := by
  obtain ⟨css, h1, h2, h3, h4⟩ := h
  refine ⟨css, h1, h2, ⟨h3.1, ?_⟩, fun j cs y hcs hy => hf _ _ _ _ (h4 j cs y hcs hy)⟩
  rcases h3.2 with h5 | ⟨q, cap, cur, rfl, hB, hh, hr⟩
  · exact .inl h5
  · exact .inr ⟨q, cap, cur, rfl, hB, (hb q rfl).trans hh, hr⟩
theorem OwnX.own (h : OwnX X k D w e v l) : OwnAt (X D w) k w 0 e v l := h.1
theorem OwnX.lt (h : OwnX X k D w e v l) {b : Nat} (hb : v.ownBlock = some b) : b < w.heap.size := (h.1.at hb).2.1
theorem OwnX.agree (hX : Fam X) (h : OwnX X k D w e v l) (ha : Agree D w w') : OwnX X k D w' e v l :=
  ⟨(h.1.stay (hX.flat D w) fun b hb => ha b (h.2 b hb)).imp' fun _ _ _ hx => hX.agree _ _ _ _ _ _ ha hx, h.2⟩
theorem OwnX.mono (hX : Fam X) (h : OwnX X k D w e v l) (hd : ∀ b, D b → D' b) : OwnX X k D' w e v l :=
  ⟨h.1.imp' fun _ _ _ hx => hX.mono _ _ _ _ _ _ hd hx, fun b hb => hd b (h.2 b hb)⟩
theorem OwnX.nil : OwnX X k D w e (.slice none 0 0) [] := ⟨OwnAt.nil _, fun b h => by cases h⟩
theorem OwnX.ofFlat {R : Rd α} {B : Nat} (h : OwnAt R k w B e v l) (hd : ∀ b, v.ownBlock = some b → D b) : OwnX (fun _ _ => R) k D w e v l := ⟨h.mono (Nat.zero_le _), hd⟩
end
end Go.Proofs.YtnnceaapodgfbaaGreatDoor
namespace Go.Proofs.YtnnceaapodgfbaaGreatDoor
open Go.RowKit
def okLab (x : GLabel) : Prop := x.key.size ≤ 1048576 ∧ x.val.size ≤ 1048576
theorem ret_int {a b : Int} (h : a = b) : Ending.returned (.int .i64 a) = .returned (.int .i64 b) := by rw [h]
end Go.Proofs.YtnnceaapodgfbaaGreatDoor
namespace Go.Proofs.YtnnceaapodgfbaaGreatDoor
open Go.RowKit
theorem zero_snoc {α : Type} {l : List α} {f : α → Int} {i : Nat} {x : α} (h : ∀ y ∈ l.take i, f y = 0) (hx : l[i]? = some x) (hf : f x = 0) : ∀ y ∈ l.take (i + 1), f y = 0 := fun y hy => by
  rw [List.take_add_one, hx] at hy
  rcases List.mem_append.1 hy with h1 | h1
  · exact h y h1
  · simp at h1; subst h1; exact hf
end Go.Proofs.YtnnceaapodgfbaaGreatDoor
namespace Go.Proofs.YtnnceaapodgfbaaGreatDoor
open Go.RowKit
theorem labZ_length (l : List GLabel) : (labZ l).length = l.length := by unfold labZ; simp
theorem labZ_get0 {l : List GLabel} {x : GLabel} (h : l[0]? = some x) : (labZ l)[0]? = some (none, x) := by
  unfold labZ
  rw [List.getElem?_zip_eq_some]
  exact ⟨rfl, h⟩
theorem labZ_get {l : List GLabel} {i : Nat} {x y : GLabel} (h : l[i + 1]? = some x) (hy : l[i]? = some y) : (labZ l)[i + 1]? = some (some y.key, x) := by
  unfold labZ
  rw [List.getElem?_zip_eq_some]
  exact ⟨by simp [hy], h⟩
theorem below_drew (B : Nat) (w : World) : Below B w w.drew := ⟨rfl, rfl, rfl, Nat.le_refl _, fun _ _ => rfl⟩
set_option maxRecDepth 100000 in
set_option maxHeartbeats 3200000 in
theorem labels_any (v : Value) (l : List GLabel) (m : Int) (w : World) (h : RowAt LabelR 2 w v l) (hl : l.length ≤ 1048576) (hok : ∀ r ∈ l, okLab r) (hm : MaxOK m w) :
    Calls Tryz.prog 54 #[v] w fun e w' => e = .returned (.int .i64 (labelsE l)) ∧ Below w.heap.size w w' := by
  obtain ⟨a1, c1, rfl, _, _⟩ := h.len
  obtain ⟨R, HR⟩ : ∃ R, Hid (labelsE l = R) := ⟨_, Lib.hid rfl⟩
  rw [HR.out]
  have hE : R = if 10 < l.length then 2 else errF labE (labZ l) := by rw [← HR.out]; rfl
  have HE := Lib.hid hE
  have H := Lib.hid h
  have Hm := Lib.hid hm
  have Hok := Lib.hid hok
  clear hE h hm hok
  by_cases h8 : 10 < l.length
  · have q0 : (10 : Int) < (l.length : Int) := by omega
    have HR4 : Hid (2 = R) := Lib.hid (by rw [HE.out, if_pos h8])
    clear h8
    go_enter Tryz.func54, Tryz.ntmps54
    go_wp2_with fail
    go_ret
    exact ⟨ret_int HR4.out, Below.refl _ _⟩
  · have q0 : ¬ (10 : Int) < (l.length : Int) := by omega
    have HR4 : Hid (R = errF labE (labZ l)) := Lib.hid (by rw [HE.out, if_neg h8])
    clear h8
    go_enter Tryz.func54, Tryz.ntmps54
    go_wp2_with fail
    go_loopg [12] l.length (fun k u12 wr => ∃ i : Nat, i + k = l.length ∧ u12 = .int .i64 (i : Int) ∧ Hid (∀ x ∈ (labZ l).take i, labE x = 0) ∧ Hid (Below w.heap.size w wr))
    case atStart => exact ⟨0, by omega, rfl, Lib.hid (by simp), Lib.hid (Below.refl _ _)⟩
    case round =>
      obtain ⟨i, hig, rfl, Hall, Hbel⟩ := hrel
      have hsr := Hbel.out.size
      cases gk with
      | zero =>
        obtain rfl : i = l.length := by omega
        have HR5 : Hid (0 = R) := Lib.hid (by
          rw [HR4.out, errF_none]
          intro x hx
          refine Hall.out x ?_
          rw [List.take_of_length_le (by rw [labZ_length]; exact Nat.le_refl _)]; exact hx)
        go_wp2_with fail
        go_ret
        exact ⟨ret_int HR5.out, Hbel.out⟩
      | succ k =>
        have hil : i < l.length := by omega
        obtain ⟨x, hxi⟩ : ∃ x, l[i]? = some x := ⟨l[i]'(by omega), List.getElem?_eq_getElem _⟩
        obtain ⟨b, o, c', hv, _, _, hbs, hcell⟩ := H.out.form (by omega) (by omega)
        injection hv with u1 u2 u3
        subst u1
        clear u2 u3
        obtain ⟨ds, _, hcc, hR⟩ := hcell i x hxi
        obtain rfl : ds = [.string x.key, .string x.val] := hR
        have e0 : wr.cell? ⟨b, o + i * 2, none⟩ = some (.string x.key) := (Hbel.out.cell (p := ⟨b, _, none⟩) hbs).trans (by simpa using hcc 0 _ rfl)
        have e1 : wr.cell? ⟨b, o + i * 2 + 1, none⟩ = some (.string x.val) := (Hbel.out.cell (p := ⟨b, _, none⟩) hbs).trans (hcc 1 _ rfl)
        have q1 : (0 : Int) ≤ (i : Int) := by omega
        have q2 : (i : Int) < (l.length : Int) := by omega
        have Hxi := Lib.hid hxi
        -- the label ahead of it
        have hprev : ∃ p, (labZ l)[i]? = some (p, x) ∧ ((i = 0 ∧ p = none) ∨ ∃ y : GLabel, 0 < i ∧ p = some y.key ∧ w.cell? ⟨b, o + (i - 1) * 2, none⟩ = some (.string y.key)) := by
          cases i with
          | zero => exact ⟨none, labZ_get0 hxi, .inl ⟨rfl, rfl⟩⟩
          | succ j =>
            obtain ⟨y, hy⟩ : ∃ y, l[j]? = some y := ⟨l[j]'(by omega), List.getElem?_eq_getElem _⟩
            obtain ⟨ds, _, hcc2, hR2⟩ := hcell j y hy
            obtain rfl : ds = [.string y.key, .string y.val] := hR2
            exact ⟨some y.key, labZ_get hxi hy, .inr ⟨y, by omega, rfl, by simpa using hcc2 0 _ rfl⟩⟩
        obtain ⟨p, hzi, hp⟩ := hprev
        have Hzi := Lib.hid hzi
        have Hp := Lib.hid hp
        have Hlab : Hid (labE (p, x) = if keyE x.key ≠ 0 then keyE x.key else if valE x.val ≠ 0 then valE x.val else prevE p x.key) := Lib.hid rfl
        obtain ⟨ok1, ok2⟩ := Hok.out x (List.mem_of_getElem? hxi)
        clear hcc hcell hxi hzi hp
        go_upto_region 6 with fail
        obtain ⟨W, hW⟩ : ∃ W, W = wr.alloc (.cells #[.string x.key, .string x.val] 66) := ⟨_, rfl⟩
        obtain ⟨gb, hgb⟩ : ∃ gb, gb = wr.heap.size := ⟨_, rfl⟩
        rw [← hW, ← hgb]
        have c0 : W.heap[gb]? = some (.cells #[.string x.key, .string x.val] 66 (0, 0)) := by rw [hW, hgb]; exact heap_alloc_new wr _
        have hb5 : Below wr.heap.size wr W := by rw [hW]; exact (Below.refl _ _).alloc (Nat.le_refl _) _
        have HW := Lib.hid (Hbel.out.trans (hb5.mono hsr))
        have Hc0 := Lib.hid c0
        have cc := fun i => cell_block c0 i
        clear hW hgb hb5 c0 e0 e1
        go_wp2_with fail
        refine (checkKey_any x.key m W (by omega) (Hm.out.below HW.out)).mono ?_
        rintro E w3 ⟨rfl, hb3⟩
        have Hb3 := Lib.hid (HW.out.trans (hb3.mono HW.out.size))
        have c3 := below_block hb3 Hc0.out
        have Hc3 := Lib.hid c3
        clear hb3 cc
        have cc := fun i => cell_block c3 i
        clear c3
        obtain ⟨kE, HkE⟩ : ∃ kE, Hid (NameP.checkKey x.key.data.toList = kE) := ⟨_, Lib.hid rfl⟩
        rw [HkE.out]
        have hk1 : keyE x.key = kE := HkE.out
        have Hk1 := Lib.hid hk1
        clear hk1
        by_cases hr0 : kE = 0
        · subst hr0
          go_wp2_with fail
          refine (checkVal_any x.val _ (by omega)).mono ?_
          rintro E w' ⟨rfl, rfl⟩
          obtain ⟨vE, HvE⟩ : ∃ vE, Hid (NameP.checkVal x.val.data.toList = vE) := ⟨_, Lib.hid rfl⟩
          rw [HvE.out]
          have hv1 : valE x.val = vE := HvE.out
          have Hv1 := Lib.hid hv1
          clear hv1
          by_cases hv0 : vE = 0
          · subst hv0
            have hl2 : labE (p, x) = prevE p x.key := by rw [Hlab.out, if_neg (by rw [Hk1.out]; simp), if_neg (by rw [Hv1.out]; simp)]
            have Hl2 := Lib.hid hl2
            clear hl2
            go_upto_region 12 with fail
            rcases Hp.out with ⟨hi0, rfl⟩ | ⟨y, hi0, rfl, hy⟩
            · subst hi0
              have hl3 : labE (none, x) = 0 := Hl2.out
              have Hall2 := Lib.hid (zero_snoc Hall.out Hzi.out hl3)
              clear hl3
              go_region
              go_wp2_with fail
              go_roundg k
              case measure => omega
              case rel => exact ⟨1, by omega, by go_num, Hall2, Lib.hid (Hb3.out.trans (below_drew _ _))⟩
            · have q5 : (0 : Int) ≤ (i : Int) - 1 := by omega
              have q6 : (i : Int) - 1 < (l.length : Int) := by omega
              have q7 : (0 : Int) < (i : Int) := by omega
              have f0 : w3.cell? ⟨b, o + (i - 1) * 2, none⟩ = some (.string y.key) := (Hb3.out.cell (p := ⟨b, _, none⟩) hbs).trans hy
              clear hy
              cases hless : Op.bytesLess y.key.toList x.key.toList with
              | true =>
                have hl3 : labE (some y.key, x) = 0 := by rw [Hl2.out]; show (if Op.bytesLess y.key.toList x.key.toList = true then (0 : Int) else 1) = _; rw [hless]; rfl
                have Hall2 := Lib.hid (zero_snoc Hall.out Hzi.out hl3)
                clear hl3
                go_region
                go_wp2_with fail
                go_roundg k
                case measure => omega
                case rel => exact ⟨i + 1, by omega, by go_num, Hall2, Lib.hid (Hb3.out.trans (below_drew _ _))⟩
              | false =>
                have hl3 : labE (some y.key, x) = 1 := by rw [Hl2.out]; show (if Op.bytesLess y.key.toList x.key.toList = true then (0 : Int) else 1) = _; rw [hless]; rfl
                have HR5 : Hid (1 = R) := Lib.hid (by rw [HR4.out, errF_at Hzi.out Hall.out (by rw [hl3]; decide)]; exact hl3.symm)
                clear hl3
                go_region
                go_wp2_with fail
                go_ret
                exact ⟨ret_int HR5.out, Hb3.out.trans (below_drew _ _)⟩
          · have q3 : (vE == 0) = false := by rw [beq_eq_false_iff_ne]; exact hv0
            have q4 : (vE != 0) = true := by rw [bne_iff_ne]; exact hv0
            have hlab : labE (p, x) = vE := by rw [Hlab.out, if_neg (by rw [Hk1.out]; simp), if_pos (by rw [Hv1.out]; exact hv0)]; exact Hv1.out
            have HR5 : Hid (vE = R) := Lib.hid (by rw [HR4.out, errF_at Hzi.out Hall.out (by rw [hlab]; exact hv0)]; exact hlab.symm)
            clear hv0 hlab
            go_wp2_with fail
            go_ret
            exact ⟨ret_int HR5.out, Hb3.out⟩
        · have q3 : (kE == 0) = false := by rw [beq_eq_false_iff_ne]; exact hr0
          have q4 : (kE != 0) = true := by rw [bne_iff_ne]; exact hr0
          have hlab : labE (p, x) = kE := by rw [Hlab.out, if_pos (by rw [Hk1.out]; exact hr0)]; exact Hk1.out
          have HR5 : Hid (kE = R) := Lib.hid (by rw [HR4.out, errF_at Hzi.out Hall.out (by rw [hlab]; exact hr0)]; exact hlab.symm)
          clear hr0 hlab
          go_wp2_with fail
          go_ret
          exact ⟨ret_int HR5.out, Hb3.out⟩
end Go.Proofs.YtnnceaapodgfbaaGreatDoor
namespace Go.Proofs.YtnnceaapodgfbaaGreatDoor
namespace Sto
open Go.RowKit
def objCs (x : GObject) (v1 v2 v3 : Value) : List Value := [.string x.okey.kind, .string x.okey.space, .string x.okey.name, v1, v2, v3, .bool x.ending, .string x.uid, .int .i64 x.rev, .string x.doc]
def objW (x : GObject) (v1 v2 v3 : Value) : Value := objV x.okey v1 v2 v3 x.ending x.uid x.rev x.doc
abbrev LabF : Dom → World → Rd GLabel := fun _ _ => LabelR
abbrev StrF : Dom → World → Rd ByteArray := fun _ _ => RString
theorem flat_label : Flat LabelR := fun _ _ _ _ h => h
theorem one_label : OneR LabelR := fun _ _ _ h u hu => by
  rw [h] at hu
  simp only [List.mem_cons, List.not_mem_nil, or_false] at hu
  rcases hu with rfl | rfl <;> rfl
theorem famLab : Fam LabF := fam_flat flat_label one_label
theorem famStr : Fam StrF := fam_flat flat_string one_string
structure ObjIn (D : Dom) (w : World) (v1 v2 v3 : Value) (x : GObject) : Prop where
  labels : OwnX LabF 2 D w 66 v1 x.labels
  owners : OwnX StrF 1 D w 9 v2 x.owners
  holds : OwnX StrF 1 D w 9 v3 x.holds
section
variable {D D' : Dom} {w w' : World} {v1 v2 v3 : Value} {x : GObject}
theorem ObjIn.agree (h : ObjIn D w v1 v2 v3 x) (ha : Agree D w w') : ObjIn D w' v1 v2 v3 x := ⟨h.labels.agree famLab ha, h.owners.agree famStr ha, h.holds.agree famStr ha⟩
theorem ObjIn.mono (h : ObjIn D w v1 v2 v3 x) (hd : ∀ b, D b → D' b) : ObjIn D' w v1 v2 v3 x := ⟨h.labels.mono famLab hd, h.owners.mono famStr hd, h.holds.mono famStr hd⟩
theorem ObjIn.rowL (h : ObjIn D w v1 v2 v3 x) : RowAt LabelR 2 w v1 x.labels := h.labels.own.row
theorem ObjIn.rowO (h : ObjIn D w v1 v2 v3 x) : StrAt w v2 x.owners := h.owners.own.row.strs
theorem ObjIn.rowH (h : ObjIn D w v1 v2 v3 x) : StrAt w v3 x.holds := h.holds.own.row.strs
theorem own_one {α : Type} {R : Rd α} {k B : Nat} {e : TypeId} {v : Value} {l : List α} (h : OwnAt R k w B e v l) : v.oneCell' = true := by
  rcases h.form with ⟨e, _⟩ | ⟨g, c, e, _⟩ <;> rw [e] <;> rfl
theorem ObjIn.ones (h : ObjIn D w v1 v2 v3 x) : ∀ u ∈ objCs x v1 v2 v3, u.oneCell' = true := fun u hu => by
  unfold objCs at hu
  simp only [List.mem_cons, List.not_mem_nil, or_false] at hu
  rcases hu with rfl | rfl | rfl | rfl | rfl | rfl | rfl | rfl | rfl | rfl
  · rfl
  · rfl
  · rfl
  · exact own_one h.labels.own
  · exact own_one h.owners.own
  · exact own_one h.holds.own
  · rfl
  · rfl
  · rfl
  · rfl
theorem ObjIn.other {y : GObject} (h : ObjIn D w v1 v2 v3 x) (h1 : y.labels = x.labels) (h2 : y.owners = x.owners) (h3 : y.holds = x.holds) : ObjIn D w v1 v2 v3 y := ⟨h1 ▸ h.labels, h2 ▸ h.owners, h3 ▸ h.holds⟩
end
def i64 (n : Int) : Prop := (Lit.int .i64 n).wf = true
def VerX (D : Dom) (w : World) : Rd GEvent := fun _ cs x => ∃ v1 v2 v3, cs = .int .i64 x.rev :: (objCs x.object v1 v2 v3 ++ [.bool (decide (x.kind = 3))]) ∧ ObjIn D w v1 v2 v3 x.object
def EvX (D : Dom) (w : World) : Rd GEvent := fun _ cs x => ∃ v1 v2 v3, cs = .int .i64 x.kind :: .int .i64 x.rev :: objCs x.object v1 v2 v3 ∧ ObjIn D w v1 v2 v3 x.object
def ObjX (D : Dom) (w : World) : Rd GObject := fun _ cs x => ∃ v1 v2 v3, cs = objCs x v1 v2 v3 ∧ ObjIn D w v1 v2 v3 x
theorem famVer : Fam VerX :=
  ⟨fun _ _ _ _ _ _ h => h, fun _ _ _ cs x ⟨v1, v2, v3, h1, h2⟩ u hu => by
    rw [h1] at hu
    rcases List.mem_cons.1 hu with rfl | hu
    · rfl
    · rcases List.mem_append.1 hu with hu | hu
      · exact h2.ones u hu
      · rw [List.mem_singleton] at hu; rw [hu]; rfl,
   fun _ _ _ _ _ _ ha ⟨v1, v2, v3, h1, h2⟩ => ⟨v1, v2, v3, h1, h2.agree ha⟩, fun _ _ _ _ _ _ hd ⟨v1, v2, v3, h1, h2⟩ => ⟨v1, v2, v3, h1, h2.mono hd⟩⟩
theorem famEv : Fam EvX :=
  ⟨fun _ _ _ _ _ _ h => h, fun _ _ _ cs x ⟨v1, v2, v3, h1, h2⟩ u hu => by
    rw [h1] at hu
    rcases List.mem_cons.1 hu with rfl | hu
    · rfl
    · rcases List.mem_cons.1 hu with rfl | hu
      · rfl
      · exact h2.ones u hu,
   fun _ _ _ _ _ _ ha ⟨v1, v2, v3, h1, h2⟩ => ⟨v1, v2, v3, h1, h2.agree ha⟩, fun _ _ _ _ _ _ hd ⟨v1, v2, v3, h1, h2⟩ => ⟨v1, v2, v3, h1, h2.mono hd⟩⟩
theorem famObj : Fam ObjX :=
  ⟨fun _ _ _ _ _ _ h => h, fun _ _ _ cs x ⟨v1, v2, v3, h1, h2⟩ u hu => by rw [h1] at hu; exact h2.ones u hu,
   fun _ _ _ _ _ _ ha ⟨v1, v2, v3, h1, h2⟩ => ⟨v1, v2, v3, h1, h2.agree ha⟩, fun _ _ _ _ _ _ hd ⟨v1, v2, v3, h1, h2⟩ => ⟨v1, v2, v3, h1, h2.mono hd⟩⟩
structure StoreIn (M I : Dom) (w : World) (g mb n : Nat) (f : GKey → Option Value) (vlog : Value) (S : St) : Prop where
  gM : M g
  mbM : M mb
  apart : ∀ b, M b → ¬ I b
  low : ∀ b, M b ∨ I b → b < w.heap.size
  box : w.heap[g]? = some (.cells #[.int .i64 S.rev, .int .i64 S.comp, .map (some mb), .int .i64 (live S.log), vlog] 110 (0, 0))
  map : MapK keyC w mb n f
  many : n ≤ S.rev
  chain : ∀ k v, f k = some v → OwnAt (VerX I w) 12 w 0 163 v (hits S.log k) ∧ ∀ b, v.ownBlock = some b → M b
  no : ∀ k, f k = none → hits S.log k = []
  own : ∀ k k' v v', f k = some v → f k' = some v' → k ≠ k' → ∀ b, v.ownBlock = some b → v'.ownBlock ≠ some b
  log : OwnAt (EvX I w) 12 w 0 56 vlog S.log
  logM : ∀ b, vlog.ownBlock = some b → M b
def StoreAt (D : Dom) (w : World) (g : Nat) (S : St) : Prop := ∃ M I mb n f vlog, StoreIn M I w g mb n f vlog S ∧ ∀ b, D b ↔ M b ∨ I b
section
variable {M I D D' : Dom} {w w' : World} {g mb n : Nat} {f : GKey → Option Value} {vlog : Value} {S : St}
theorem StoreIn.agree (h : StoreIn M I w g mb n f vlog S) (ha : Agree (fun b => M b ∨ I b) w w') (hs : w.heap.size ≤ w'.heap.size) : StoreIn M I w' g mb n f vlog S := by
  have hI : Agree I w w' := ha.mono fun b hb => .inr hb
  have hM : ∀ b, M b → w'.heap[b]? = w.heap[b]? := fun b hb => ha b (.inl hb)
  refine ⟨h.gM, h.mbM, h.apart, fun b hb => Nat.lt_of_lt_of_le (h.low b hb) hs, (hM g h.gM).trans h.box, h.map.block (hM mb h.mbM), h.many, fun k v hk => ?_, h.no, h.own, ?_, h.logM⟩
  · obtain ⟨h1, h2⟩ := h.chain k v hk
    exact ⟨((h1.stay (famVer.flat I w) fun b hb => hM b (h2 b hb)).imp' fun _ _ _ hx => famVer.agree _ _ _ _ _ _ hI hx), h2⟩
  · exact (h.log.stay (famEv.flat I w) fun b hb => hM b (h.logM b hb)).imp' fun _ _ _ hx => famEv.agree _ _ _ _ _ _ hI hx
theorem StoreAt.agree (h : StoreAt D w g S) (ha : Agree D w w') (hs : w.heap.size ≤ w'.heap.size) : StoreAt D w' g S :=
  let ⟨M, I, mb, n, f, vlog, h1, h2⟩ := h
  ⟨M, I, mb, n, f, vlog, h1.agree (ha.mono fun b hb => (h2 b).2 hb) hs, h2⟩
theorem StoreIn.belowW (h : StoreIn M I w g mb n f vlog S) (hb : Below w.heap.size w w') : StoreIn M I w' g mb n f vlog S := h.agree (fun b hM => hb.block b (h.low b hM)) hb.size
theorem StoreAt.belowW (h : StoreAt D w g S) (hb : Below w.heap.size w w') : StoreAt D w' g S :=
  let ⟨M, I, mb, n, f, vlog, h1, h2⟩ := h
  ⟨M, I, mb, n, f, vlog, h1.belowW hb, h2⟩
theorem StoreAt.box (h : StoreAt D w g S) : ∃ mb vlog, w.heap[g]? = some (.cells #[.int .i64 S.rev, .int .i64 S.comp, .map (some mb), .int .i64 (live S.log), vlog] 110 (0, 0)) :=
  let ⟨_, _, mb, _, _, vlog, h1, _⟩ := h
  ⟨mb, vlog, h1.box⟩
theorem StoreAt.low (h : StoreAt D w g S) {b : Nat} (hb : D b) : b < w.heap.size := let ⟨_, _, _, _, _, _, h1, h2⟩ := h; h1.low b ((h2 b).1 hb)
theorem StoreAt.lt (h : StoreAt D w g S) : g < w.heap.size := let ⟨_, _, _, _, _, _, h1, _⟩ := h; h1.low g (.inl h1.gM)
end
structure OkObj (x : GObject) : Prop where
  kind : x.okey.kind.size ≤ 1048576
  space : x.okey.space.size ≤ 1048576
  name : x.okey.name.size ≤ 1048576
  labels : x.labels.length ≤ 1048576 ∧ ∀ r ∈ x.labels, okLab r
  owners : x.owners.length ≤ 1048576 ∧ ∀ s ∈ x.owners, s.size ≤ 1048576
  holds : x.holds.length ≤ 1048576 ∧ ∀ s ∈ x.holds, s.size ≤ 1048576
  uid : x.uid.size ≤ 1048576
  rev : i64 x.rev
  doc : x.doc.size ≤ 1048576
structure OkSt (S : St) : Prop where
  obj : ∀ e ∈ S.log, OkObj e.object
  rev : S.rev ≤ 4194304
  good : Good S
end Sto
end Go.Proofs.YtnnceaapodgfbaaGreatDoor
namespace Go.Proofs.YtnnceaapodgfbaaGreatDoor
open Go.RowKit
theorem setCells_all (g : Nat) (t : TypeId) : ∀ (vs : List Value) (i : Nat) (cur : Array Value) (w : World), w.heap[g]? = some (.cells cur t (0, 0)) → i + vs.length ≤ cur.size →
    ∃ cur', (w.setCells g i vs).heap[g]? = some (.cells cur' t (0, 0)) ∧ cur'.size = cur.size ∧ (∀ j, j < i ∨ i + vs.length ≤ j → cur'[j]? = cur[j]?) ∧ (∀ j u, vs[j]? = some u → cur'[i + j]? = some u) ∧ Touch g w (w.setCells g i vs)
  | [], i, cur, w, hg, _ => ⟨cur, hg, rfl, fun _ _ => rfl, fun j u h => by simp at h, ⟨rfl, rfl, rfl, rfl, fun _ _ => rfl⟩⟩
  | v :: r, i, cur, w, hg, hl => by
    simp only [List.length_cons] at hl
    obtain ⟨h1, h2⟩ := touch_setCell (w := w) (i := i) (v := v) hg
    obtain ⟨cur', g1, g2, g3, g4, g5⟩ := setCells_all g t r (i + 1) _ _ h1 (by simp; omega)
    refine ⟨cur', g1, by simpa using g2, fun j hj => ?_, fun j u hu => ?_, ?_⟩
    · simp only [List.length_cons] at hj
      rw [g3 j (by omega), Array.getElem?_setIfInBounds, if_neg (by omega)]
    · cases j with
      | zero =>
        simp only [List.getElem?_cons_zero, Option.some.injEq] at hu
        subst hu
        rw [Nat.add_zero, g3 i (by omega), Array.getElem?_setIfInBounds, if_pos rfl, if_pos (by omega)]
      | succ j =>
        have := g4 j u (by simpa using hu)
        rwa [show i + 1 + j = i + (j + 1) by omega] at this
    · show Touch g w ((w.setCell ⟨g, i, none⟩ v).setCells g (i + 1) r)
      exact ⟨g5.os.trans h2.os, g5.tape.trans h2.tape, g5.output.trans h2.output, g5.size.trans h2.size, fun b hb => (g5.other b hb).trans (h2.other b hb)⟩
section
variable {α : Type} {R : Rd α} {k B : Nat} {e : TypeId} {w : World} {g n c : Nat} {l : List α}
theorem OwnAt.there (h : OwnAt R k w B e (.slice (some ⟨g, 0, none⟩) n c) l) {o m : Nat} (hm : o + m ≤ c * k) : w.there g o m := by
  obtain ⟨css, h1, h2, h3, h4⟩ := h
  rcases h3.2 with ⟨h5, _⟩ | ⟨g', cap, cur, hv, hB, hh, hle, hmx, hz, ht⟩
  · cases h5
  · cases hv
    intro j hj
    refine ⟨?_, free_block hh _⟩
    rw [cell_block hh, Array.getElem?_eq_getElem (by omega)]
    rfl
theorem OwnAt.storeElem (hf : Flat R) (h : OwnAt R k w B e (.slice (some ⟨g, 0, none⟩) n c) l) {i : Nat} (hi : i < l.length) {cs : List Value} (hk : cs.length = k) {x : α} (hR : R w cs x) :
    OwnAt R k (w.setCells g (i * k) cs) B e (.slice (some ⟨g, 0, none⟩) n c) (l.set i x) ∧ Touch g w (w.setCells g (i * k) cs) := by
  obtain ⟨css, h1, h2, h3, h4⟩ := h
  rcases h3.2 with ⟨h5, _⟩ | ⟨g', cap, cur, hv, hB, hh, hle, hmx, hz, ht⟩
  · cases h5
  · have hlen : css.flatten.length = l.length * k := by rw [flat_len h2, h1]
    cases hv
    have hik : i * k + k ≤ l.length * k := by rw [← Nat.succ_mul]; exact Nat.mul_le_mul_right k hi
    have hlc : l.length * k ≤ c * k := Nat.mul_le_mul_right k hle
    obtain ⟨cur', g1, g2, g3, g4, g5⟩ := setCells_all g e cs (i * k) cur w hh (by rw [hk, hz]; omega)
    have hk2 : ∀ q ∈ css.set i cs, q.length = k := fun q hq => by
      rcases List.mem_or_eq_of_mem_set hq with h6 | h6
      · exact h2 q h6
      · rw [h6]; exact hk
    have hfl : ∀ t, t < l.length * k → cur'[t]? = (css.set i cs).flatten[t]? := fun t htl => by
      have hk0 : 0 < k := by
        rcases Nat.eq_zero_or_pos k with h0 | h0
        · subst h0; simp at htl
        · exact h0
      have hdm : t = t / k * k + t % k := by rw [Nat.mul_comm]; exact (Nat.div_add_mod t k).symm
      have hmod : t % k < k := Nat.mod_lt _ hk0
      have hdiv : t / k < css.length := by rw [h1]; exact (Nat.div_lt_iff_lt_mul hk0).2 htl
      by_cases hti : t / k = i
      · have hu : cs[t % k]? = some (cs[t % k]'(by omega)) := List.getElem?_eq_getElem _
        have e1 := get_flat hk2 (j := i) (i := t % k) (cs := cs) (by rw [List.getElem?_set, if_pos rfl, if_pos (by omega)]) hu
        have e2 := g4 (t % k) _ hu
        rw [← hti, ← hdm] at e2
        rw [← hti, ← hdm] at e1
        rw [hti] at e1
        rw [e2, e1]
      · have hq : css[t / k]? = some css[t / k] := List.getElem?_eq_getElem hdiv
        have hu : (css[t / k])[t % k]? = some ((css[t / k])[t % k]'(by rw [h2 _ (List.getElem_mem _)]; exact hmod)) := List.getElem?_eq_getElem _
        have e1 := get_flat hk2 (j := t / k) (i := t % k) (by rw [List.getElem?_set, if_neg (fun h => hti h.symm)]; exact hq) hu
        have e3 := get_flat h2 (j := t / k) (i := t % k) hq hu
        rw [← hdm] at e1 e3
        have hout : t < i * k ∨ i * k + cs.length ≤ t := by
          rw [hk]
          rcases Nat.lt_or_gt_of_ne hti with h7 | h7
          · left
            have : (t / k + 1) * k ≤ i * k := Nat.mul_le_mul_right k h7
            rw [Nat.succ_mul] at this; omega
          · right
            have : (i + 1) * k ≤ t / k * k := Nat.mul_le_mul_right k h7
            rw [Nat.succ_mul] at this; omega
        rw [g3 t hout, e1, ← e3, ← ht, List.getElem?_take_of_lt htl, Array.getElem?_toList]
    refine ⟨⟨css.set i cs, by simp [h1], hk2, ?_, fun j q y hq hy => ?_⟩, g5⟩
    · rw [List.length_set]
      refine ⟨by rw [flat_len hk2, List.length_set, h1], .inr ⟨g, c, cur', rfl, hB, g1, hle, hmx, by rw [g2]; exact hz, ?_⟩⟩
      apply List.ext_getElem?
      intro t
      by_cases htl : t < l.length * k
      · rw [List.getElem?_take_of_lt htl, Array.getElem?_toList, hfl t htl]
      · rw [List.getElem?_eq_none (by rw [List.length_take]; omega), List.getElem?_eq_none (by rw [flat_len hk2, List.length_set, h1]; omega)]
    · by_cases hij : i = j
      · subst hij
        rw [List.getElem?_set, if_pos rfl, if_pos (by omega)] at hq
        rw [List.getElem?_set, if_pos rfl, if_pos hi] at hy
        cases hq; cases hy
        exact hf _ _ _ _ hR
      · rw [List.getElem?_set, if_neg hij] at hq hy
        exact hf _ _ _ _ (h4 j q y hq hy)
theorem OwnAt.behind (hf : Flat R) (h : OwnAt R k w B e (.slice (some ⟨g, 0, none⟩) n c) l) {i : Nat} (hi : i ≤ l.length) {vs : List Value} (hvs : i * k + vs.length ≤ c * k) :
    OwnAt R k (w.setCells g (i * k) vs) B e (.slice (some ⟨g, 0, none⟩) i c) (l.take i) ∧ Touch g w (w.setCells g (i * k) vs) := by
  obtain ⟨css, h1, h2, h3, h4⟩ := h
  rcases h3.2 with ⟨h5, _⟩ | ⟨g', cap, cur, hv, hB, hh, hle, hmx, hz, ht⟩
  · cases h5
  · cases hv
    obtain ⟨cur', g1, g2, g3, g4, g5⟩ := setCells_all g e vs (i * k) cur w hh (by rw [hz]; exact hvs)
    have hik : i * k ≤ l.length * k := Nat.mul_le_mul_right k hi
    have hlk : (l.take i).length = i := by rw [List.length_take]; omega
    have hk2 : ∀ q ∈ css.take i, q.length = k := fun q hq => h2 q (List.mem_of_mem_take hq)
    have hfl : (css.take i).flatten.length = i * k := by rw [flat_len hk2, List.length_take, h1]; congr 1; omega
    have hpre : (css.take i).flatten = css.flatten.take (i * k) := by
      have h7 : css.flatten = (css.take i).flatten ++ (css.drop i).flatten := by rw [← List.flatten_append, List.take_append_drop]
      rw [h7, ← hfl, List.take_left]
    refine ⟨⟨css.take i, by rw [List.length_take, List.length_take, h1], hk2, ?_, fun j q y hq hy => ?_⟩, g5⟩
    · rw [hlk]
      refine ⟨hfl, .inr ⟨g, c, cur', rfl, hB, g1, by omega, hmx, by rw [g2]; exact hz, ?_⟩⟩
      rw [hpre, ← ht]
      apply List.ext_getElem?
      intro t
      by_cases htl : t < i * k
      · rw [List.getElem?_take_of_lt htl, Array.getElem?_toList, g3 t (.inl htl), List.getElem?_take_of_lt htl, List.getElem?_take_of_lt (by omega), Array.getElem?_toList]
      · rw [List.getElem?_eq_none (by rw [List.length_take]; omega), List.getElem?_eq_none (by rw [List.length_take]; omega)]
    · have hj : j < i := by have := (List.getElem?_eq_some_iff.1 hy).1; omega
      rw [List.getElem?_take_of_lt hj] at hq hy
      exact hf _ _ _ _ (h4 j q y hq hy)
end
theorem run_clear_rows {P : Program} (w : World) (t e ty : TypeId) (z : Value) (ht : P.underlying t = some (.slice e)) (hv : ∀ w, (zeroValue e).run P w = .ok z w) (h1 : ∀ u ∈ z.cells, u.oneCell' = true) (b o n c : Nat) (hn : 0 < n)
    (hc : w.there b o (Builtin.zeroCells z.cells n).size) :
    (Builtin.clear_ #[t] ty #[.slice (some ⟨b, o, none⟩) n c]).run P w = .ok (.tuple #[]) (w.setCells b o (Builtin.zeroCells z.cells n).toList) := by
  have hone : ∀ u ∈ (Builtin.zeroCells z.cells n).toList, u.oneCell' = true := fun u hu => by
    unfold Builtin.zeroCells at hu
    rw [Array.toList_map] at hu
    obtain ⟨i, hi, rfl⟩ := List.mem_map.1 hu
    have hi2 : i < n * z.cells.size := by simpa using hi
    have h0 : 0 < z.cells.size := by
      rcases Nat.eq_zero_or_pos z.cells.size with h | h
      · rw [h] at hi2; simp at hi2
      · exact h
    have hlt : i % z.cells.size < z.cells.size := Nat.mod_lt _ h0
    rw [getElem!_pos z.cells _ hlt]
    exact h1 _ (Array.getElem_mem hlt)
  have hst := run_storeCells_cells (P := P) b o (Builtin.zeroCells z.cells n).toList 0 w (fun j hj => by simpa using (hc j (by simpa using hj)).1) (fun j hj => by simpa using (hc j (by simpa using hj)).2) hone
  simp only [Nat.add_zero] at hst
  obtain ⟨m, rfl⟩ : ∃ m, n = m + 1 := ⟨n - 1, by omega⟩
  simp [Builtin.clear_, run_underlying ht, hv, hst]
theorem wpList_clear_rows {P : Program} (w : World) {ops : Array Oper} {rest : List Oper} {o : Oper} {a : Act} {Q : Exit → Act → World → Prop} (hg : o.guard = none) (s : Operand) (t e : TypeId)
    (ho : o.op = .call { callee := .builtin .clear, args := #[s], argTypes := #[t] }) (z : Value) (ht : P.underlying t = some (.slice e)) (hv : ∀ w, (zeroValue e).run P w = .ok z w) (h1 : ∀ u ∈ z.cells, u.oneCell' = true) (b i n c : Nat) (hn : 0 < n)
    (hs : a.eval s = .slice (some ⟨b, i, none⟩) n c) (hc : w.there b i (Builtin.zeroCells z.cells n).size)
    (h : wpList P ops Q rest (a.put o.dst (.tuple #[])) (w.setCells b i (Builtin.zeroCells z.cells n).toList)) : wpList P ops Q (o :: rest) a w := by
  refine wpList_plain hg fun K hK' => ?_
  have hrun := run_clear_rows w t e o.type z ht hv h1 b i n c hn hc
  unfold Oper.wp
  simp [execOp, ho, resolve, invoke, builtin, hs, hrun, Result.andThen]
  exact hK' _ _ h
theorem zeroCells_size (z : Array Value) (n : Nat) : (Builtin.zeroCells z n).size = n * z.size := by simp [Builtin.zeroCells]
end Go.Proofs.YtnnceaapodgfbaaGreatDoor
namespace Go.Proofs.YtnnceaapodgfbaaGreatDoor
open Go.RowKit
section
variable {P : Program} {ops : Array Oper} {rest : List Oper} {o : Oper} {a : Act} {w : World} {Q : Exit → Act → World → Prop}
def partPut (old cells : Array Value) (i : Nat) : Array Value := (old.toList.take i ++ (cells.toList ++ old.toList.drop (i + cells.size))).toArray
theorem wpList_store_part (hgd : o.guard = none) (ty : TypeId) (x y : Operand) (ho : o.op = .store ty x y) (g i : Nat) (cells : Array Value) (hx : a.eval x = .pointer (some ⟨g, i, none⟩)) (hy : a.eval y = .agg cells)
    (t : TypeId) (old : Array Value) (hg : w.heap[g]? = some (.cells old t (0, 0))) (hi : (P.info? ty).map (·.size) = some cells.size) (hsz : i + cells.size ≤ old.size) (h1 : cells.all (·.oneCell') = true)
    (h : ∀ W, W.heap[g]? = some (.cells (partPut old cells i) t (0, 0)) → Touch g w W → wpList P ops Q rest (a.put o.dst undef) W) : wpList P ops Q (o :: rest) a w := by
  have ht : w.there g i cells.size := fun j hj => by
    refine ⟨?_, free_block hg _⟩
    rw [cell_block hg, Array.getElem?_eq_getElem (by omega)]
    rfl
  refine wpList_store_mid hgd ty x y ho g i cells hx hy ht hi h1 ?_
  obtain ⟨cur, g1, g2, g3, g4, g5⟩ := setCells_all g t cells.toList i old w hg (by simpa using hsz)
  refine h _ ?_ g5
  rw [g1]
  have : cur = partPut old cells i := by
    apply Array.ext_getElem?
    intro j
    have hlt : (old.toList.take i).length = i := by rw [List.length_take, Array.length_toList]; omega
    have e : (partPut old cells i)[j]? = (old.toList.take i ++ (cells.toList ++ old.toList.drop (i + cells.size)))[j]? := by unfold partPut; simp
    rw [e]
    rcases Nat.lt_or_ge j i with hj | hj
    · rw [g3 j (.inl hj), List.getElem?_append_left (by omega), List.getElem?_take_of_lt hj, Array.getElem?_toList]
    · rw [List.getElem?_append_right (by omega), hlt]
      rcases Nat.lt_or_ge j (i + cells.size) with hk | hk
      · have hk2 : j - i < cells.toList.length := by rw [Array.length_toList]; omega
        rw [List.getElem?_append_left hk2]
        have := g4 (j - i) _ (List.getElem?_eq_getElem hk2)
        rw [show i + (j - i) = j by omega] at this
        rw [this, List.getElem?_eq_getElem hk2]
      · rw [g3 j (.inr (by rw [Array.length_toList]; exact hk)), List.getElem?_append_right (by rw [Array.length_toList]; omega), List.getElem?_drop, Array.length_toList, Array.getElem?_toList]
        congr 1
        omega
  rw [this]
end
theorem row_from {α : Type} {R : Rd α} {k : Nat} {w : World} {a : Option Addr} {c n : Nat} {l : List α} (hk : 0 < k) (h : RowAt R k w (.slice a n c) l) {m : Nat} (hm : m ≤ n) : ∀ ta, (if c = m then a else a.map (·.add (m * k))) = ta → RowAt R k w (.slice ta (n - m) (c - m)) (l.drop m) := by
  rintro ta rfl
  obtain ⟨a', c', e1, h1, h2⟩ := h.len
  injection e1 with _ e1 e2
  subst e1; subst e2
  have hnil : l.length ≤ m → l.drop m = [] := fun h => List.drop_eq_nil_of_le h
  cases a with
  | none =>
    have h0 : l = [] := by
      rcases h with ⟨_, h0⟩ | ⟨_, _, h0, _⟩
      · exact h0
      · cases h0
    subst h0
    have hm0 : m = 0 := by simpa using hm
    subst hm0
    have hc0 : c = 0 := by
      rcases h with ⟨h0, _⟩ | ⟨_, _, h0, _⟩
      · injection h0
      · cases h0
    subst hc0
    exact .inl ⟨rfl, rfl⟩
  | some b =>
    by_cases hc : c = m
    · rw [if_pos hc, hnil (by omega)]
      exact .inr ⟨b, c - m, by rw [show l.length - m = 0 by omega]; rfl, Nat.zero_le _, by omega, fun j x hx => by rw [List.getElem?_nil] at hx; cases hx⟩
    · rw [if_neg hc]
      by_cases h0 : l.length = 0
      · have hm0 : m = 0 := by omega
        subst hm0
        rw [hnil (by omega)]
        exact .inr ⟨_, c - 0, by rw [show l.length - 0 = 0 by omega]; rfl, Nat.zero_le _, by omega, fun j x hx => by rw [List.getElem?_nil] at hx; cases hx⟩
      · obtain ⟨b', o, c', hv, _⟩ := h.form (by omega) hk
        injection hv with e1 e2 e3
        injection e1 with e1
        subst e1
        have h9 := h.cut rfl (i := m) (j := l.length) hm (Nat.le_refl _)
        rw [List.take_length] at h9
        have e : (Addr.add ⟨b', o, none⟩ (m * k)) = ⟨b', o + m * k, none⟩ := by simp [Addr.add]
        show RowAt R k w (.slice (some (Addr.add ⟨b', o, none⟩ (m * k))) (l.length - m) (c - m)) (l.drop m)
        rw [e]
        exact h9
end Go.Proofs.YtnnceaapodgfbaaGreatDoor
namespace Go.Proofs.YtnnceaapodgfbaaGreatDoor
open Go.RowKit
def OutD (B : Nat) (w : World) (v : Value) : Dom := fun b => B ≤ b ∧ b < w.heap.size ∧ v.ownBlock ≠ some b
def OutX {α : Type} (X : Dom → World → Rd α) (k B : Nat) (w : World) (e : TypeId) (v : Value) (l : List α) : Prop := OwnAt (X (OutD B w v) w) k w B e v l
section
variable {α : Type} {X : Dom → World → Rd α} {k B : Nat} {w w' : World} {e : TypeId} {v v' : Value} {l : List α}
theorem OutX.nil : OutX X k B w e (.slice none 0 0) [] := OwnAt.nil _
theorem OutX.belowX (hX : Fam X) (h : OutX X k B w e v l) (hb : Below w.heap.size w w') : OutX X k B w' e v l :=
  (OwnAt.stay (hX.flat _ _) h fun b hb9 => hb.block b (OwnAt.at h hb9).2.1).imp' fun _ _ _ hx => hX.mono _ _ _ _ _ _ (fun _ h9 => ⟨h9.1, Nat.lt_of_lt_of_le h9.2.1 hb.size, h9.2.2⟩) (hX.agree _ _ _ _ _ _ (fun b h9 => hb.block b h9.2.1) hx)
theorem OutX.appended (hX : Fam X) (h : OwnAt (X (OutD B w v) w) k w' B e v' l) (hg : w.grownBy w' v.ownBlock) (hv : v'.ownBlock = v.ownBlock ∨ v'.ownBlock = some w.heap.size) : OutX X k B w' e v' l :=
  OwnAt.imp' h fun _ _ _ hx => hX.mono _ _ _ _ _ _ (fun b h9 => ⟨h9.1, Nat.lt_of_lt_of_le h9.2.1 hg.size, fun e9 => by
    rcases hv with h8 | h8
    · exact h9.2.2 (h8 ▸ e9)
    · rw [h8] at e9; injection e9 with e9; have := h9.2.1; omega⟩) (hX.agree _ _ _ _ _ _ (fun b h9 => hg.block b h9.2.1 fun e9 => h9.2.2 e9.symm) hx)
theorem OutX.own (hX : Fam X) (h : OutX X k B w e v l) : OwnX X k (fun b => B ≤ b ∧ b < w.heap.size) w e v l :=
  ⟨(OwnAt.imp' h fun _ _ _ hx => hX.mono _ _ _ _ _ _ (fun _ h9 => ⟨h9.1, h9.2.1⟩) hx).mono (Nat.zero_le _), fun _ hb => ⟨(OwnAt.at h hb).1, (OwnAt.at h hb).2.1⟩⟩
theorem OutX.at (h : OutX X k B w e v l) {b : Nat} (hb : v.ownBlock = some b) : B ≤ b ∧ b < w.heap.size := ⟨(OwnAt.at h hb).1, (OwnAt.at h hb).2.1⟩
end
end Go.Proofs.YtnnceaapodgfbaaGreatDoor
namespace Go.Proofs.YtnnceaapodgfbaaGreatDoor
namespace Sto
open Go.RowKit
theorem drewB {B : Nat} {a w : World} (h : Below B a w) (n : Nat) : Below B a (w.drewN n) := ⟨h.os, h.tape, h.output, h.size, h.block⟩
theorem Tryz.sizeObj : (Tryz.prog.info? 30).map (·.size) = some 10 := by kernel_rfl
theorem Tryz.zeroVers (w : World) : (zeroValue 159).run Tryz.prog w = .ok (.slice none 0 0) w := by kernel_rfl
set_option maxRecDepth 100000 in
theorem new_any (w : World) : Calls Tryz.prog 46 #[] w fun e w' => ∃ g D, e = .returned (.pointer (some ⟨g, 0, none⟩)) ∧ StoreAt D w' g St0 ∧ (∀ b, D b → w.heap.size ≤ b) ∧ Below w.heap.size w w' := by
  have hmm := @run_makeMap Tryz.prog
  go_enter Tryz.func46, Tryz.ntmps46
  go_wp2_with fail
  go_ret
  have h1 := mapK_made keyC w
  have hb1 : Below w.heap.size w (w.alloc (.map #[] 0)) := (Below.refl _ _).alloc (Nat.le_refl _) _
  have hs1 : (w.alloc (.map #[] 0)).heap.size = w.heap.size + 1 := World.size_alloc _ _
  have h2 := heap_alloc_new (w.alloc (.map #[] 0)) (.cells #[.int .i64 0, .int .i64 0, .map (some w.heap.size), .int .i64 0, .slice none 0 0] 110)
  refine ⟨_, fun b => b = w.heap.size ∨ b = w.heap.size + 1, rfl, ⟨fun b => b = w.heap.size ∨ b = w.heap.size + 1, fun _ => False, w.heap.size, 0, fun _ => none, .slice none 0 0, ⟨.inr (by simp), .inl rfl, fun _ _ h => h, fun b hb => ?_, ?_, ?_, Nat.le_refl _, fun k v h => (by cases h), fun k _ => rfl, fun k k' v v' h => (by cases h), OwnAt.nil _, fun b h => (by cases h)⟩, fun b => ⟨.inl, fun h => h.elim id False.elim⟩⟩, fun b hb => ?_, ?_⟩
  · rw [World.size_alloc, World.size_alloc]
    rcases hb with (rfl | rfl) | h
    · omega
    · omega
    · exact h.elim
  · rw [hs1] at h2; exact h2
  · exact h1.alloc _
  · rcases hb with rfl | rfl
    · exact Nat.le_refl _
    · exact Nat.le_succ _
  · exact hb1.alloc (by rw [hs1]; omega) _
set_option maxRecDepth 100000 in
theorem rev_any {D : Dom} {g : Nat} {S : St} {w : World} (h : StoreAt D w g S) : Calls Tryz.prog 16 #[.pointer (some ⟨g, 0, none⟩)] w fun e w' => e = .returned (.int .i64 S.rev) ∧ w = w' := by
  obtain ⟨mb, vlog, hb⟩ := h.box
  have cc := fun i => cell_block hb i
  clear h hb
  go_enter Tryz.func16, Tryz.ntmps16
  go_wp2_with fail
  go_ret
  exact ⟨rfl, rfl⟩
set_option maxRecDepth 100000 in
theorem time_any {D : Dom} {g : Nat} {S : St} {w : World} (h : StoreAt D w g S) (rev : Int) : Calls Tryz.prog 48 #[.pointer (some ⟨g, 0, none⟩), .int .i64 rev] w fun e w' => e = .returned (.tuple #[.int .i64 (timeT S rev), .int .i64 (timeE S rev)]) ∧ w = w' := by
  obtain ⟨mb, vlog, hb⟩ := h.box
  have cc := fun i => cell_block hb i
  obtain ⟨T, HT⟩ : ∃ T, Hid (timeT S rev = T) := ⟨_, Lib.hid rfl⟩
  obtain ⟨E, HE⟩ : ∃ E, Hid (timeE S rev = E) := ⟨_, Lib.hid rfl⟩
  rw [HT.out, HE.out]
  obtain ⟨n, hn⟩ : ∃ n, S.rev = n := ⟨_, rfl⟩
  obtain ⟨c, hc⟩ : ∃ c, S.comp = c := ⟨_, rfl⟩
  rw [hn, hc] at cc
  have HTE : Hid (E = if rev < 0 ∨ (n : Int) < rev then 1 else if rev = 0 then 0 else if rev < c then 13 else 0) := Lib.hid (by rw [← HE.out, ← hn, ← hc]; rfl)
  have HTT : Hid (T = if E ≠ 0 then 0 else if rev = 0 then n else rev.toNat) := Lib.hid (by rw [← HT.out, ← HE.out, ← hn]; rfl)
  clear h hb HT HE hn hc
  by_cases h1 : rev < 0
  · have e1 : E = 1 := by rw [HTE.out, if_pos (.inl h1)]
    have e2 : T = 0 := by rw [HTT.out, e1]; rfl
    subst e1 e2
    clear HTE HTT
    go_enter Tryz.func48, Tryz.ntmps48
    go_wp2_with fail
    go_ret2
    exact ⟨rfl, rfl⟩
  · by_cases h2 : (n : Int) < rev
    · have e1 : E = 1 := by rw [HTE.out, if_pos (.inr h2)]
      have e2 : T = 0 := by rw [HTT.out, e1]; rfl
      subst e1 e2
      clear HTE HTT
      go_enter Tryz.func48, Tryz.ntmps48
      go_wp2_with fail
      go_ret2
      exact ⟨rfl, rfl⟩
    · have hno : ¬ (rev < 0 ∨ (n : Int) < rev) := by omega
      by_cases h3 : rev = 0
      · subst h3
        have e1 : E = 0 := by rw [HTE.out, if_neg hno, if_pos rfl]
        have e2 : T = n := by rw [HTT.out, e1]; rfl
        subst e1 e2
        clear HTE HTT hno h1
        go_enter Tryz.func48, Tryz.ntmps48
        go_wp2_with fail
        go_ret2
        exact ⟨rfl, rfl⟩
      · have q3 : (rev == 0) = false := by rw [beq_eq_false_iff_ne]; exact h3
        by_cases h4 : rev < c
        · have e1 : E = 13 := by rw [HTE.out, if_neg hno, if_neg h3, if_pos h4]
          have e2 : T = 0 := by rw [HTT.out, e1]; rfl
          subst e1 e2
          clear HTE HTT hno h3
          go_enter Tryz.func48, Tryz.ntmps48
          go_wp2_with fail
          go_ret2
          exact ⟨rfl, rfl⟩
        · have e1 : E = 0 := by rw [HTE.out, if_neg hno, if_neg h3, if_neg h4]
          have e2 : (T : Int) = rev := by rw [HTT.out, e1, if_neg (fun h => h rfl), if_neg h3]; omega
          subst e1
          rw [e2]
          clear HTE HTT hno h3 e2
          go_enter Tryz.func48, Tryz.ntmps48
          go_wp2_with fail
          go_ret2
          exact ⟨rfl, rfl⟩
theorem StoreIn.turn {M I : Dom} {w w' : World} {g mb n : Nat} {f : GKey → Option Value} {vlog : Value} {S S' : St} (h : StoreIn M I w g mb n f vlog S) (ht : Touch g w w') (hl : S'.log = S.log)
    (hb : w'.heap[g]? = some (.cells #[.int .i64 S'.rev, .int .i64 S'.comp, .map (some mb), .int .i64 (live S'.log), vlog] 110 (0, 0))) : StoreIn M I w' g mb n f vlog S' := by
  have hI : Agree I w w' := fun b hb => ht.other b fun e => h.apart g h.gM (e ▸ hb)
  refine ⟨h.gM, h.mbM, h.apart, fun b hb => by rw [ht.size]; exact h.low b hb, hb, h.map.block (ht.other mb (h.map.ne h.box)), by unfold St.rev; rw [hl]; exact h.many, fun k v hk => ?_, fun k hk => by rw [hl]; exact h.no k hk, h.own, ?_, h.logM⟩
  · obtain ⟨h1, h2⟩ := h.chain k v hk
    rw [hl]
    refine ⟨(h1.stay (famVer.flat I w) fun b hq => ht.other b fun e => ?_).imp' fun _ _ _ hx => famVer.agree _ _ _ _ _ _ hI hx, h2⟩
    obtain ⟨_, _, cur, hc⟩ := h1.at hq
    rw [e, h.box] at hc; cases hc
  · rw [hl]
    refine (h.log.stay (famEv.flat I w) fun b hq => ht.other b fun e => ?_).imp' fun _ _ _ hx => famEv.agree _ _ _ _ _ _ hI hx
    obtain ⟨_, _, cur, hc⟩ := h.log.at hq
    rw [e, h.box] at hc; cases hc
set_option maxRecDepth 100000 in
theorem compact_any {D : Dom} {g : Nat} {S : St} {w : World} (h : StoreAt D w g S) (rev : Int) : Calls Tryz.prog 61 #[.pointer (some ⟨g, 0, none⟩), .int .i64 rev] w fun e w' => e = .returned (.int .i64 (compactE S rev)) ∧ StoreAt D w' g (compact S rev) ∧ Only D w w' := by
  obtain ⟨M, I, mb, nn, f, vlog, hin, hD⟩ := h
  have cc := fun i => cell_block hin.box i
  have fz := fun i => free_block hin.box i
  obtain ⟨n, hn⟩ : ∃ n, S.rev = n := ⟨_, rfl⟩
  obtain ⟨c, hc⟩ : ∃ c, S.comp = c := ⟨_, rfl⟩
  obtain ⟨E, HE⟩ : ∃ E, Hid (compactE S rev = E) := ⟨_, Lib.hid rfl⟩
  rw [HE.out]
  have HTE : Hid (E = if (n : Int) < rev ∨ rev < c then 1 else 0) := Lib.hid (by rw [← HE.out, ← hn, ← hc]; rfl)
  have HIn := Lib.hid hin
  have HD := Lib.hid hD
  have HB := Lib.hid hin.box
  have hdd := cc
  rw [hn, hc] at cc
  clear hin hD hdd hn hc
  by_cases h1 : (n : Int) < rev
  · have e1 : E = 1 := by rw [HTE.out, if_pos (.inl h1)]
    subst e1
    have Hc : Hid (compact S rev = S) := Lib.hid (by unfold compact; rw [HE.out]; rfl)
    clear HTE HE
    go_enter Tryz.func61, Tryz.ntmps61
    go_wp2_with fail
    go_ret
    exact ⟨rfl, by rw [Hc.out]; exact ⟨M, I, mb, nn, f, vlog, HIn.out, HD.out⟩, Only.refl _ _⟩
  · by_cases h2 : rev < c
    · have e1 : E = 1 := by rw [HTE.out, if_pos (.inr h2)]
      subst e1
      have Hc : Hid (compact S rev = S) := Lib.hid (by unfold compact; rw [HE.out]; rfl)
      clear HTE HE
      go_enter Tryz.func61, Tryz.ntmps61
      go_wp2_with fail
      go_ret
      exact ⟨rfl, by rw [Hc.out]; exact ⟨M, I, mb, nn, f, vlog, HIn.out, HD.out⟩, Only.refl _ _⟩
    · have e1 : E = 0 := by rw [HTE.out, if_neg (by omega)]
      subst e1
      have Hc : Hid (compact S rev = { S with comp := rev }) := Lib.hid (by unfold compact; rw [HE.out]; rfl)
      clear HTE HE
      obtain ⟨t1, t2⟩ := touch_setCell (i := 1) (v := .int .i64 rev) HB.out
      have HT1 := Lib.hid t1
      have HT2 := Lib.hid t2
      clear t1 t2
      go_enter Tryz.func61, Tryz.ntmps61
      go_wp2_with fail
      go_ret
      refine ⟨rfl, ?_, Only.touch HT2.out ((HD.out g).2 (.inl HIn.out.gM))⟩
      rw [Hc.out]
      exact ⟨M, I, mb, nn, f, vlog, HIn.out.turn (S' := { S with comp := rev }) HT2.out rfl HT1.out, HD.out⟩
end Sto
end Go.Proofs.YtnnceaapodgfbaaGreatDoor
namespace Go.Proofs.YtnnceaapodgfbaaGreatDoor
namespace Sto
open Go.RowKit
def nilS : Value := .slice none 0 0
def noW : Value := objW noObj nilS nilS nilS
def noA : Array Value := #[.string { data := #[] }, .string { data := #[] }, .string { data := #[] }, .slice none 0 0, .slice none 0 0, .slice none 0 0, .bool false, .string { data := #[] }, .int .i64 0, .string { data := #[] }]
theorem objA_ones {D : Dom} {w : World} {v1 v2 v3 : Value} {x : GObject} (h : ObjIn D w v1 v2 v3 x) : (objCs x v1 v2 v3).toArray.all (·.oneCell') = true := by
  rw [List.all_toArray]
  exact List.all_eq_true.2 h.ones
theorem StoreIn.look {M I : Dom} {w : World} {g mb n : Nat} {f : GKey → Option Value} {vlog : Value} {S : St} (h : StoreIn M I w g mb n f vlog S) (k : GKey) (hk : okKey k) :
    ∃ va vn vc, (∀ w', Below w.heap.size w w' → (Instr.lookup 108 (.map (some mb)) (keyV k) false).run Tryz.prog w' = .ok (.slice va vn vc) w') ∧ vn = (hits S.log k).length ∧ OwnAt (VerX I w) 12 w 0 163 (.slice va vn vc) (hits S.log k) := by
  have hl := fun w' (hb : Below w.heap.size w w') => ((h.map.belowW hb).look (t := 108) (e := 159) Tryz.underlying108 (Tryz.zeroVers w') k hk).2
  cases hf : f k with
  | none =>
    rw [hf] at hl
    have h1 := h.no k hf
    exact ⟨none, 0, 0, hl, by rw [h1]; rfl, by rw [h1]; exact OwnAt.nil _⟩
  | some v =>
    rw [hf] at hl
    have h1 := (h.chain k v hf).1
    obtain ⟨va, vc, rfl, -, -⟩ := h1.row.len
    exact ⟨va, _, vc, hl, rfl, h1⟩
theorem curL_last {l : List GEvent} {k : GKey} {e : GEvent} (h : (hits l k).getLast? = some e) : cur l k = shown e := by unfold cur shown; rw [h]
set_option maxRecDepth 100000 in
set_option maxHeartbeats 1600000 in
theorem last_any {M I : Dom} {w : World} {g mb n : Nat} {f : GKey → Option Value} {vlog : Value} {S : St} (h : StoreIn M I w g mb n f vlog S) (k : GKey) (hk : okKey k) (hS : S.rev ≤ 4194304) :
    Calls Tryz.prog 50 #[.pointer (some ⟨g, 0, none⟩), .agg #[.string k.kind, .string k.space, .string k.name]] w fun e w' => Below w.heap.size w w' ∧ ((cur S.log k = none ∧ e = .returned (.tuple #[noW, .bool false])) ∨ ∃ o v1 v2 v3, cur S.log k = some o ∧ e = .returned (.tuple #[objW o v1 v2 v3, .bool true]) ∧ ObjIn I w v1 v2 v3 o) := by
  obtain ⟨va, vn, vc, hlook, hvn, hrow⟩ := h.look k hk
  have hvl : vn ≤ 4194304 := by rw [hvn]; exact Nat.le_trans (List.length_filter_le _ _) hS
  obtain ⟨w1, hw1⟩ : ∃ w1, w1 = (w.alloc (.cells #[.string k.kind, .string k.space, .string k.name] 24)).alloc (.cells noA 30) := ⟨_, rfl⟩
  obtain ⟨gk, hgk⟩ : ∃ gk, gk = w.heap.size := ⟨_, rfl⟩
  obtain ⟨go, hgo⟩ : ∃ go, go = w.heap.size + 1 := ⟨_, rfl⟩
  have bk : w1.heap[gk]? = some (.cells #[.string k.kind, .string k.space, .string k.name] 24 (0, 0)) := by rw [hw1, hgk]; exact heap_alloc_old (heap_alloc_new w _)
  have bo : w1.heap[go]? = some (.cells noA 30 (0, 0)) := by rw [hw1, hgo]; exact heap_alloc_at (World.size_alloc _ _).symm
  have hb1 : Below w.heap.size w w1 := by rw [hw1]; exact ((Below.refl _ w).alloc (Nat.le_refl _) _).alloc (by rw [World.size_alloc]; omega) _
  have bg := below_block hb1 h.box
  have cg := fun i => cell_block bg i
  have ck := fun i => cell_block bk i
  have hgw : w.heap.size ≤ go := by omega
  have Hlook := Lib.hid hlook
  have HR := Lib.hid hrow
  have Hvn := Lib.hid hvn
  have BO := Lib.hid bo
  have HB1 := Lib.hid hb1
  clear h hk hlook hrow hvn bo hb1 bk bg hS
  go_enter Tryz.func50, Tryz.ntmps50
  go_upto_region 1 with fail
  have hex : ((w.alloc (.cells #[.string k.kind, .string k.space, .string k.name] 24)).alloc (.cells #[.string { data := #[] }, .string { data := #[] }, .string { data := #[] }, .slice none 0 0, .slice none 0 0, .slice none 0 0, .bool false, .string { data := #[] }, .int .i64 0, .string { data := #[] }] 30)) = w1 := hw1.symm
  rw [hex]
  try rw [← hgo]
  rw [← hgk]
  have hlk : ∀ n, (Instr.lookup 108 (.map (some mb)) (.agg #[.string k.kind, .string k.space, .string k.name]) false).run Tryz.prog (w1.drewN n) = .ok (.slice va vn vc) (w1.drewN n) := fun n => Hlook.out (w1.drewN n) (drewB HB1.out n)
  clear hw1 hex hgk hgo Hlook
  go_quiet (fail)
  have HB2 := Lib.hid (drewB HB1.out nq)
  have BO2 : Hid ((w1.drewN nq).heap[go]? = some (.cells noA 30 (0, 0))) := BO
  obtain ⟨w2, hw2⟩ : ∃ w2, w1.drewN nq = w2 := ⟨_, rfl⟩
  rw [hw2] at HB2 BO2 ⊢
  clear hw2 hlk cg ck HB1 BO
  by_cases h0 : vn = 0
  · subst h0
    have Hc : Hid (cur S.log k = none) := Lib.hid (by unfold cur; rw [List.eq_nil_of_length_eq_zero Hvn.out.symm]; rfl)
    clear HR Hvn
    go_wp2_with (refine wpList_store_box (by rfl) _ _ _ (by rfl) go noA (by rfl) (by rfl) _ _ (by exact BO2.out) (by exact Tryz.sizeObj) (by rfl) (by simp [Value.oneCell', noA]) ?_)
    intro WF bF tF
    have HF := Lib.hid (tF.below HB2.out hgw)
    go_wp2_with fail
    refine bodyPost_ret (v := .tuple #[.agg noA, .bool false]) ?_ rfl ?_
    · exact results_two_box Tryz.results50 _ _ go _ _ _ _ (by rfl) bF Tryz.underlying30 rfl (by exact Tryz.sizeObj)
    · exact ⟨HF.out, .inl ⟨Hc.out, rfl⟩⟩
  · obtain ⟨m, rfl⟩ : ∃ m, vn = m + 1 := ⟨vn - 1, by omega⟩
    obtain ⟨e, he⟩ : ∃ e, (hits S.log k)[m]? = some e := ⟨(hits S.log k)[m]'(by rw [← Hvn.out]; omega), List.getElem?_eq_getElem _⟩
    have hlast : (hits S.log k).getLast? = some e := by rw [List.getLast?_eq_getElem?, ← Hvn.out]; exact he
    have Hcur := Lib.hid (curL_last hlast)
    obtain ⟨b, o, c', hv, _, _, hbs, hcell⟩ := HR.out.row.form (by rw [← Hvn.out]; omega) (by omega)
    injection hv with u1 u2 u3
    subst u1
    clear u2 u3
    obtain ⟨ds, _, hcc, v1, v2, v3, rfl, hobj⟩ := hcell m e he
    have e11 : w2.cell? ⟨b, o + m * 12 + 11, none⟩ = some (.bool (decide (e.kind = 3))) := (HB2.out.cell (p := ⟨b, _, none⟩) hbs).trans (hcc 11 _ rfl)
    have ec : ∀ i u, (objCs e.object v1 v2 v3)[i]? = some u → w2.cell? ⟨b, o + m * 12 + 1 + i, none⟩ = some u := fun i u hu => (HB2.out.cell (p := ⟨b, _, none⟩) hbs).trans (by
      have h9 := hcc (1 + i) u (by rw [Nat.add_comm 1 i, List.getElem?_cons_succ, List.getElem?_append_left (List.getElem?_eq_some_iff.1 hu).1]; exact hu)
      rw [← Nat.add_assoc] at h9; exact h9)
    have q1 : (0 : Int) ≤ ((m + 1 : Nat) : Int) - 1 := by omega
    have q2 : ((m + 1 : Nat) : Int) - 1 < ((m + 1 : Nat) : Int) := by omega
    have q3 : ((((m + 1 : Nat) : Int) - 1)).toNat = m := by omega
    have Hobj := Lib.hid hobj
    clear hcc hcell hobj HR hlast he Hvn
    cases hk3 : decide (e.kind = 3) with
    | true =>
      rw [hk3] at e11
      have Hc : Hid (cur S.log k = none) := Lib.hid (by rw [Hcur.out]; unfold shown; rw [if_pos (of_decide_eq_true hk3)])
      clear hk3 ec Hcur
      go_wp2_with (refine wpList_store_box (by rfl) _ _ _ (by rfl) go noA (by rfl) (by rfl) _ _ (by exact BO2.out) (by exact Tryz.sizeObj) (by rfl) (by simp [Value.oneCell', noA]) ?_)
      intro WF bF tF
      have HF := Lib.hid (tF.below HB2.out hgw)
      go_wp2_with fail
      refine bodyPost_ret (v := .tuple #[.agg noA, .bool false]) ?_ rfl ?_
      · exact results_two_box Tryz.results50 _ _ go _ _ _ _ (by rfl) bF Tryz.underlying30 rfl (by exact Tryz.sizeObj)
      · exact ⟨HF.out, .inl ⟨Hc.out, rfl⟩⟩
    | false =>
      rw [hk3] at e11
      have Hc : Hid (cur S.log k = some e.object) := Lib.hid (by rw [Hcur.out]; unfold shown; rw [if_neg (of_decide_eq_false hk3)])
      clear hk3 Hcur
      have f0 := ec 0 _ rfl
      have f1 := ec 1 _ rfl
      have f2 := ec 2 _ rfl
      have f3 := ec 3 _ rfl
      have f4 := ec 4 _ rfl
      have f5 := ec 5 _ rfl
      have f6 := ec 6 _ rfl
      have f7 := ec 7 _ rfl
      have f8 := ec 8 _ rfl
      have f9 := ec 9 _ rfl
      rw [Nat.add_zero] at f0
      clear ec
      go_wp2_with (refine wpList_store_box (by rfl) _ _ _ (by rfl) go (objCs e.object v1 v2 v3).toArray (by rfl) (by rfl) _ _ (by exact BO2.out) (by exact Tryz.sizeObj) (by rfl) (objA_ones Hobj.out) ?_)
      intro WF bF tF
      have HF := Lib.hid (tF.below HB2.out hgw)
      go_wp2_with fail
      refine bodyPost_ret (v := .tuple #[objW e.object v1 v2 v3, .bool true]) ?_ rfl ?_
      · exact results_two_box Tryz.results50 _ _ go _ _ _ _ (by rfl) bF Tryz.underlying30 rfl (by exact Tryz.sizeObj)
      · exact ⟨HF.out, .inr ⟨_, _, _, _, Hc.out, rfl, Hobj.out⟩⟩
end Sto
end Go.Proofs.YtnnceaapodgfbaaGreatDoor
namespace Go.Proofs.YtnnceaapodgfbaaGreatDoor
namespace Sto
open Go.RowKit
def cmpI (a b : Int) : Int := if a < b then -1 else if b < a then 1 else 0
theorem nan_any (x : Int) (w : World) : Calls Tryz.prog 111 #[.int .i64 x] w fun e w' => e = .returned (.bool false) ∧ w = w' := by
  go_enter Tryz.func111, Tryz.ntmps111
  go_wp2_with fail
  go_ret
  exact ⟨by simp, rfl⟩
theorem cmpI_any (a b : Int) (w : World) : Calls Tryz.prog 85 #[.int .i64 a, .int .i64 b] w fun e w' => e = .returned (.int .i64 (cmpI a b)) ∧ w = w' := by
  have H := fun x (w : World) => Lib.hid (nan_any x w)
  go_enter Tryz.func85, Tryz.ntmps85
  go_wp2_with fail
  refine (H a w).out.mono ?_
  rintro E w1 ⟨rfl, rfl⟩
  go_wp2_with fail
  refine (H b w).out.mono ?_
  rintro E w1 ⟨rfl, rfl⟩
  by_cases h1 : a < b
  · have hc : Hid (cmpI a b = -1) := Lib.hid (by unfold cmpI; rw [if_pos h1])
    go_wp2_with fail
    go_ret
    exact ⟨by rw [hc.out]; rfl, rfl⟩
  · by_cases h2 : b < a
    · have hc : Hid (cmpI a b = 1) := Lib.hid (by unfold cmpI; rw [if_neg h1, if_pos h2])
      go_wp2_with fail
      go_ret
      exact ⟨by rw [hc.out]; rfl, rfl⟩
    · have hc : Hid (cmpI a b = 0) := Lib.hid (by unfold cmpI; rw [if_neg h1, if_neg h2])
      go_wp2_with fail
      go_ret
      exact ⟨by rw [hc.out]; rfl, rfl⟩
theorem at1_any (a rev : Int) (v0 v1 v2 v3 v4 v5 v6 v7 v8 v9 v10 : Value) (w : World) : Calls Tryz.prog 84 #[.agg #[.int .i64 a, v0, v1, v2, v3, v4, v5, v6, v7, v8, v9, v10], .int .i64 rev] w fun e w' => e = .returned (.int .i64 (cmpI a rev)) ∧ Below w.heap.size w w' := by
  have H := fun (w : World) => Lib.hid (cmpI_any a rev w)
  go_enter Tryz.func84, Tryz.ntmps84
  go_wp2_with fail
  refine (H _).out.mono ?_
  rintro E w1 ⟨rfl, rfl⟩
  go_wp2_with fail
  go_ret
  refine ⟨rfl, ?_⟩
  exact (Below.refl _ w).alloc (Nat.le_refl _) _
theorem cmpI_neg {a b : Int} : cmpI a b < 0 ↔ a < b := by unfold cmpI; (repeat' split) <;> omega
theorem cmpI_nil {a b : Int} : cmpI a b = 0 ↔ a = b := by unfold cmpI; (repeat' split) <;> omega
theorem ver_cells {I : Dom} {w w' : World} {va : Option Addr} {vn vc : Nat} {T : TypeId} {vs : List GEvent} (h : OwnAt (VerX I w) 12 w 0 T (.slice va vn vc) vs) (hn : vn = vs.length) (hb : Below w.heap.size w w') {m : Nat} {e : GEvent} (he : vs[m]? = some e) :
    ∃ b o v1 v2 v3, va = some ⟨b, o, none⟩ ∧ ObjIn I w v1 v2 v3 e.object ∧ ∀ i u, (Value.int .i64 e.rev :: (objCs e.object v1 v2 v3 ++ [.bool (decide (e.kind = 3))]))[i]? = some u → w'.cell? ⟨b, o + m * 12 + i, none⟩ = some u := by
  have hm := (List.getElem?_eq_some_iff.1 he).1
  obtain ⟨b, o, c', hv, _, _, hbs, hcell⟩ := h.row.form (by omega) (by omega)
  injection hv with u1 u2 u3
  obtain ⟨ds, _, hcc, v1, v2, v3, rfl, hobj⟩ := hcell m e he
  exact ⟨b, o, v1, v2, v3, u1, hobj, fun i u hu => (hb.cell (p := ⟨b, _, none⟩) hbs).trans (hcc i u hu)⟩
set_option maxRecDepth 100000 in
set_option maxHeartbeats 1600000 in
theorem bsearch_any {I : Dom} {w : World} {va : Option Addr} {vn vc : Nat} {T : TypeId} {vs : List GEvent} (h : OwnAt (VerX I w) 12 w 0 T (.slice va vn vc) vs) (hn : vn = vs.length) (hsz : vn ≤ 4194304) (hrise : ∀ (a b : Nat) (x y : GEvent), a < b → vs[a]? = some x → vs[b]? = some y → x.rev < y.rev) (rev : Int) :
    Calls Tryz.prog 83 #[.slice va vn vc, .int .i64 rev, .func (.func 84) #[] #[]] w fun e w' => Below w.heap.size w w' ∧ ∃ i is, e = .returned (.tuple #[.int .i64 (i : Nat), .bool is]) ∧ i ≤ vn ∧ (∀ t x, t < i → vs[t]? = some x → x.rev < rev) ∧ (∀ t x, i ≤ t → vs[t]? = some x → rev ≤ x.rev) ∧ (is = true ↔ ∃ x, vs[i]? = some x ∧ x.rev = rev) := by
  have HR := Lib.hid h
  have HM := Lib.hid hrise
  have HN := Lib.hid hn
  clear h hrise
  clear hn
  go_enter Tryz.func83, Tryz.ntmps83
  go_wp2_with fail
  go_loopg [9, 10] vn (fun kx s9 s10 wr => ∃ lo hi : Nat, s9 = .int .i64 lo ∧ s10 = .int .i64 hi ∧ lo ≤ hi ∧ hi ≤ vn ∧ hi - lo ≤ kx ∧ Hid (Below w.heap.size w wr) ∧ Hid ((∀ t x, t < lo → vs[t]? = some x → x.rev < rev) ∧ (∀ t x, hi ≤ t → vs[t]? = some x → rev ≤ x.rev)))
  case atStart => exact ⟨0, vn, rfl, rfl, Nat.zero_le _, Nat.le_refl _, by omega, Lib.hid (Below.refl _ w), Lib.hid ⟨fun t x ht => absurd ht (Nat.not_lt_zero _), fun t x h1 h2 => by have := (List.getElem?_eq_some_iff.1 h2).1; have := HN.out; omega⟩⟩
  case round =>
    obtain ⟨lo, hi, rfl, rfl, hlh, hin, hg, HB, HF⟩ := hrel
    by_cases hlt : lo < hi
    · obtain ⟨md, Hmd⟩ : ∃ md : Nat, Hid (md = (lo + hi) / 2) := ⟨_, Lib.hid rfl⟩
      have m1 : lo ≤ md ∧ md < hi := by have := Hmd.out; omega
      obtain ⟨e, he⟩ : ∃ e, vs[md]? = some e := ⟨vs[md]'(by have := HN.out; omega), List.getElem?_eq_getElem _⟩
      obtain ⟨b, o, v1, v2, v3, hva, hobj, ec⟩ := ver_cells HR.out HN.out HB.out he
      have HE := Lib.hid he
      have hmd : ((lo : Int) + (hi : Int)) / 2 = (md : Int) := by rw [Hmd.out]; omega
      obtain ⟨rv, Hrv⟩ : ∃ rv, Hid (e.rev = rv) := ⟨_, Lib.hid rfl⟩
      rw [Hrv.out] at ec
      have f0 := ec 0 _ rfl
      have f1 := ec 1 _ rfl
      have f2 := ec 2 _ rfl
      have f3 := ec 3 _ rfl
      have f4 := ec 4 _ rfl
      have f5 := ec 5 _ rfl
      have f6 := ec 6 _ rfl
      have f7 := ec 7 _ rfl
      have f8 := ec 8 _ rfl
      have f9 := ec 9 _ rfl
      have f10 := ec 10 _ rfl
      have f11 := ec 11 _ rfl
      rw [Nat.add_zero] at f0
      subst hva
      clear ec hobj he
      have HA := fun wr => Lib.hid (at1_any rv rev (.string e.object.okey.kind) (.string e.object.okey.space) (.string e.object.okey.name) v1 v2 v3 (.bool e.object.ending) (.string e.object.uid) (.int .i64 e.object.rev) (.string e.object.doc) (.bool (decide (e.kind = 3))) wr)
      by_cases hc : cmpI rv rev < 0
      · have Hc := Lib.hid (cmpI_neg.1 hc)
        go_wp2_with fail
        refine (HA _).out.mono ?_
        rintro E w' ⟨rfl, hb⟩
        have HB' := Lib.hid (HB.out.trans (hb.mono HB.out.size))
        clear hb
        go_wp2_with fail
        go_roundg (hi - (md + 1))
        case measure => omega
        case rel =>
          exact ⟨md + 1, hi, by simp, rfl, by omega, hin, Nat.le_refl _, HB', Lib.hid ⟨fun t x ht hx => by
            rcases Nat.lt_or_ge t md with h1 | h1
            · have := HM.out t md x e h1 hx HE.out; have := Hrv.out; have := Hc.out; omega
            · have h2 : t = md := by omega
              rw [h2, HE.out] at hx
              cases hx
              rw [Hrv.out]
              exact Hc.out, HF.out.2⟩⟩
      · have Hc : Hid (rev ≤ rv) := Lib.hid (Int.not_lt.1 fun h => hc (cmpI_neg.2 h))
        go_wp2_with fail
        refine (HA _).out.mono ?_
        rintro E w' ⟨rfl, hb⟩
        have HB' := Lib.hid (HB.out.trans (hb.mono HB.out.size))
        clear hb
        go_wp2_with fail
        go_roundg (md - lo)
        case measure => omega
        case rel =>
          exact ⟨lo, md, rfl, rfl, by omega, by omega, Nat.le_refl _, HB', Lib.hid ⟨HF.out.1, fun t x ht hx => by
            rcases Nat.lt_or_ge md t with h1 | h1
            · have := HM.out md t e x h1 HE.out hx; have := Hrv.out; have := Hc.out; omega
            · have h2 : t = md := by omega
              rw [h2, HE.out] at hx
              cases hx
              rw [Hrv.out]
              exact Hc.out⟩⟩
    · obtain rfl : hi = lo := by omega
      by_cases hn : hi < vn
      · obtain ⟨e, he⟩ : ∃ e, vs[hi]? = some e := ⟨vs[hi]'(by have := HN.out; omega), List.getElem?_eq_getElem _⟩
        obtain ⟨b, o, v1, v2, v3, hva, hobj, ec⟩ := ver_cells HR.out HN.out HB.out he
        have HE := Lib.hid he
        obtain ⟨rv, Hrv⟩ : ∃ rv, Hid (e.rev = rv) := ⟨_, Lib.hid rfl⟩
        rw [Hrv.out] at ec
        have f0 := ec 0 _ rfl
        have f1 := ec 1 _ rfl
        have f2 := ec 2 _ rfl
        have f3 := ec 3 _ rfl
        have f4 := ec 4 _ rfl
        have f5 := ec 5 _ rfl
        have f6 := ec 6 _ rfl
        have f7 := ec 7 _ rfl
        have f8 := ec 8 _ rfl
        have f9 := ec 9 _ rfl
        have f10 := ec 10 _ rfl
        have f11 := ec 11 _ rfl
        rw [Nat.add_zero] at f0
        subst hva
        clear ec hobj he
        have HA := fun wr => Lib.hid (at1_any rv rev (.string e.object.okey.kind) (.string e.object.okey.space) (.string e.object.okey.name) v1 v2 v3 (.bool e.object.ending) (.string e.object.uid) (.int .i64 e.object.rev) (.string e.object.doc) (.bool (decide (e.kind = 3))) wr)
        go_wp2_with fail
        refine (HA _).out.mono ?_
        rintro E w' ⟨rfl, hb⟩
        have HB' := Lib.hid (HB.out.trans (hb.mono HB.out.size))
        clear hb
        go_wp2_with fail
        go_ret2
        exact ⟨HB'.out, hi, cmpI rv rev == 0, rfl, hin, HF.out.1, HF.out.2, ⟨fun h => ⟨e, HE.out, by rw [Hrv.out]; exact cmpI_nil.1 (eq_of_beq h)⟩, fun ⟨x, h1, h2⟩ => by rw [HE.out] at h1; cases h1; rw [← h2, Hrv.out]; exact beq_iff_eq.2 (cmpI_nil.2 rfl)⟩⟩
      · go_wp2_with fail
        go_ret2
        exact ⟨HB.out, hi, false, rfl, hin, HF.out.1, HF.out.2, ⟨fun h => (by cases h), fun ⟨x, h1, h2⟩ => by have := (List.getElem?_eq_some_iff.1 h1).1; have := HN.out; omega⟩⟩
end Sto
end Go.Proofs.YtnnceaapodgfbaaGreatDoor
