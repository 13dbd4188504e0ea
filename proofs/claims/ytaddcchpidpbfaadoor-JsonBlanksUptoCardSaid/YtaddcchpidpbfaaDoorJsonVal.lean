/- json: how a value lies in memory. -/
import Derived.Test.YtaddcchpidpbfaaDoorJsonPlain
import Derived.Test.YtaddcchpidpbfaaDoorRow
import Derived.Test.YtaddcchpidpbfaaDoorBut
namespace Go.Proofs.YtaddcchpidpbfaaDoor
open Go.RowKit
open JP (JV Bs)

/-- bytes as a string of the program -/
def mkB (l : Bs) : ByteArray := ⟨l.toArray⟩
theorem mkB_size (l : Bs) : (mkB l).size = l.length := by unfold mkB; show l.toArray.size = _; simp
theorem mkB_list (l : Bs) : (mkB l).data.toList = l := by unfold mkB; simp
theorem mkB_of (s : ByteArray) : mkB s.data.toList = s := by unfold mkB; cases s; simp
theorem mkB_inj {a b : Bs} : mkB a = mkB b ↔ a = b := ⟨fun h => by rw [← mkB_list a, ← mkB_list b, h], fun h => by rw [h]⟩
/-- all blocks that were there stay but those of T -/
structure KeepT (T : List Nat) (w w' : World) : Prop where
  os : w'.os = w.os
  tape : w'.tape = w.tape
  output : w'.output = w.output
  size : w.heap.size ≤ w'.heap.size
  block : ∀ b, b < w.heap.size → b ∉ T → w'.heap[b]? = w.heap[b]?
theorem KeepT.refl (T : List Nat) (w : World) : KeepT T w w := ⟨rfl, rfl, rfl, Nat.le_refl _, fun _ _ _ => rfl⟩
theorem KeepT.of {T : List Nat} {w w' : World} (h : Below w.heap.size w w') : KeepT T w w' := ⟨h.os, h.tape, h.output, h.size, fun b hb _ => h.block b hb⟩
theorem KeepT.trans {T : List Nat} {a b c : World} (h : KeepT T a b) (k : KeepT T b c) : KeepT T a c := ⟨k.os.trans h.os, k.tape.trans h.tape, k.output.trans h.output, Nat.le_trans h.size k.size, fun q hq hn => (k.block q (Nat.lt_of_lt_of_le hq h.size) hn).trans (h.block q hq hn)⟩
theorem KeepT.mono {T T' : List Nat} {w w' : World} (h : KeepT T w w') (hs : ∀ b ∈ T, b ∈ T' ∨ w.heap.size ≤ b) : KeepT T' w w' := ⟨h.os, h.tape, h.output, h.size, fun b hb hn => h.block b hb fun hm => by
  rcases hs b hm with h1 | h1
  · exact hn h1
  · omega⟩
theorem KeepT.but {T : List Nat} {g : Nat} {w w' : World} (h : But g w w') (hg : g ∈ T) : KeepT T w w' := ⟨h.os, h.tape, h.output, h.size, fun b hb hn => h.block b hb fun e => hn (e ▸ hg)⟩
theorem KeepT.below {T : List Nat} {B : Nat} {a w w' : World} (h : KeepT T w w') (hb : Below B a w) (hB : B ≤ w.heap.size) (hT : ∀ b ∈ T, B ≤ b) : Below B a w' :=
  hb.trans ⟨h.os, h.tape, h.output, h.size, fun k hk => h.block k (by omega) fun hm => by have := hT k hm; omega⟩
theorem KeepT.cell {T : List Nat} {w w' : World} {p : Addr} {v : Value} (h : KeepT T w w') (hp : w.cell? p = some v) (hn : p.block ∉ T) : w'.cell? p = some v := by
  have hb := World.block_lt_of_cell? w p hp
  unfold World.cell? at hp ⊢
  rw [h.block _ hb hn]
  exact hp

/-- the row's block is none of T, if it holds anything -/
def OffT {α : Type} (T : List Nat) (v : Value) (l : List α) : Prop := l ≠ [] → ∀ b, v.ownBlock = some b → b ∉ T
section
variable {α : Type} {R R' : Rd α} {k : Nat} {w w' : World} {v : Value} {l : List α} {T T' : List Nat}
theorem RowAt.keepT (h : RowAt R k w v l) (hk : KeepT T w w') (ho : OffT T v l) (hR : ∀ cs x, R w cs x → R' w' cs x) : RowAt R' k w' v l := by
  rcases h with h | ⟨a, c, h1, h2, h3, h4⟩
  · exact .inl h
  · refine .inr ⟨a, c, h1, h2, h3, fun j x hx => ?_⟩
    obtain ⟨cs, g1, g2, g3⟩ := h4 j x hx
    refine ⟨cs, g1, fun i u hu => hk.cell (g2 i u hu) ?_, hR _ _ g3⟩
    have := ho (fun e => by rw [e] at hx; simp at hx) a.block (by rw [h1]; rfl)
    have e : (a.add (j * k + i)).block = a.block := by unfold Addr.add; split <;> rfl
    rw [e]; exact this
theorem OffT.fresh (h : RowAt R k w v l) (hk : 0 < k) (ho : OffT T v l) (hs : ∀ b ∈ T', b ∈ T ∨ w.heap.size ≤ b) : OffT T' v l := fun hl b hb hm => by
  rcases hs b hm with h1 | h1
  · exact ho hl b hb h1
  · obtain ⟨b', o, c, rfl, _, _, hlt, _⟩ := h.form (List.length_pos_iff.2 hl) hk
    have : b' = b := by simpa [Value.ownBlock] using hb
    omega
end
/-- an object's block: the fields' names and values -/
def ObR (R : Rd JV) (T : List Nat) (w : World) (q : Nat) (l : List (Bs × JV)) : Prop :=
  q ∉ T ∧ JP.Srt l ∧ ∃ vn vv, w.cell? ⟨q, 0, none⟩ = some vn ∧ w.cell? ⟨q, 1, none⟩ = some vv ∧ RowAt RString 1 w vn (l.map fun x => mkB x.1) ∧ OffT T vn l ∧ RowAt R 1 w vv (l.map (·.2)) ∧ OffT T vv l
def JvAt : Nat → List Nat → World → Value → JV → Prop
  | 0, _, _, _, _ => False
  | _ + 1, _, _, v, .nul => v = .nilIface
  | _ + 1, _, _, v, .bool b => v = .iface 4 (.bool b)
  | _ + 1, _, _, v, .num k => v = .iface 2 (.int .i64 k) ∧ -9223372036854775808 ≤ k ∧ k ≤ 9223372036854775807
  | _ + 1, _, _, v, .str s => v = .iface 9 (.string (mkB s))
  | n + 1, T, w, v, .list l => ∃ u, v = .iface 80 u ∧ RowAt (fun w cs x => ∃ v, cs = [v] ∧ JvAt n T w v x) 1 w u l ∧ OffT T u l
  | n + 1, T, w, v, .obj l => ∃ q, v = .iface 83 (.pointer (some ⟨q, 0, none⟩)) ∧ ObR (fun w cs x => ∃ v, cs = [v] ∧ JvAt n T w v x) T w q l
/-- how a value's cell reads -/
def JvR (n : Nat) (T : List Nat) : Rd JV := fun w cs x => ∃ v, cs = [v] ∧ JvAt n T w v x

theorem ObR.keepT {R R' : Rd JV} {T : List Nat} {w w' : World} {q : Nat} {l : List (Bs × JV)} (h : ObR R T w q l) (hk : KeepT T w w') (hR : ∀ cs x, R w cs x → R' w' cs x) : ObR R' T w' q l := by
  obtain ⟨h1, h2, vn, vv, h3, h4, h5, h6, h7, h8⟩ := h
  refine ⟨h1, h2, vn, vv, hk.cell h3 h1, hk.cell h4 h1, h5.keepT hk (fun hl => h6 fun e => hl (by rw [e]; rfl)) (fun _ _ h => h), h6, h7.keepT hk (fun hl => h8 fun e => hl (by rw [e]; rfl)) hR, h8⟩
theorem JvAt.keepT {T : List Nat} {w w' : World} (hk : KeepT T w w') : ∀ {n : Nat} {v : Value} {x : JV}, JvAt n T w v x → JvAt n T w' v x
  | 0, _, _, h => by cases h
  | n + 1, v, .nul, h => h
  | n + 1, v, .bool b, h => h
  | n + 1, v, .num b, h => h
  | n + 1, v, .str b, h => h
  | n + 1, v, .list l, h => by
    obtain ⟨u, h1, h2, h3⟩ := h
    exact ⟨u, h1, h2.keepT hk h3 (fun cs x ⟨v, e, hv⟩ => ⟨v, e, hv.keepT hk⟩), h3⟩
  | n + 1, v, .obj l, h => by
    obtain ⟨q, h1, h2⟩ := h
    exact ⟨q, h1, h2.keepT hk (fun cs x ⟨v, e, hv⟩ => ⟨v, e, hv.keepT hk⟩)⟩
theorem RowAt.mapR {α : Type} {R R' : Rd α} {k : Nat} {w : World} {v : Value} {l : List α} (h : RowAt R k w v l) (hm : ∀ cs x, R w cs x → R' w cs x) : RowAt R' k w v l := by
  rcases h with h | ⟨a, c, h1, h2, h3, h4⟩
  · exact .inl h
  · exact .inr ⟨a, c, h1, h2, h3, fun j x hx => by
      obtain ⟨cs, g1, g2, g3⟩ := h4 j x hx
      exact ⟨cs, g1, g2, hm _ _ g3⟩⟩
/-- what turns may be others: some of these, and what is not there yet -/
theorem JvAt.fresh {T T' : List Nat} {w : World} (hs : ∀ b ∈ T', b ∈ T ∨ w.heap.size ≤ b) : ∀ {n : Nat} {v : Value} {x : JV}, JvAt n T w v x → JvAt n T' w v x
  | 0, _, _, h => by cases h
  | n + 1, v, .nul, h => h
  | n + 1, v, .bool b, h => h
  | n + 1, v, .num b, h => h
  | n + 1, v, .str b, h => h
  | n + 1, v, .list l, h => by
    obtain ⟨u, h1, h2, h3⟩ := h
    exact ⟨u, h1, h2.mapR (fun cs x ⟨v, e, hv⟩ => ⟨v, e, hv.fresh hs⟩), OffT.fresh h2 (by decide) h3 hs⟩
  | n + 1, v, .obj l, h => by
    obtain ⟨q, h1, h2, h3, vn, vv, h4, h5, h6, h7, h8, h9⟩ := h
    have e6 : OffT T vn (l.map fun x => mkB x.1) := fun hl => h7 fun e => hl (by rw [e]; rfl)
    have e8 : OffT T vv (l.map (·.2)) := fun hl => h9 fun e => hl (by rw [e]; rfl)
    refine ⟨q, h1, fun hm => ?_, h3, vn, vv, h4, h5, h6, fun hl => OffT.fresh h6 (by decide) e6 hs fun e => hl (List.map_eq_nil_iff.1 e), h8.mapR (fun cs x ⟨v, e, hv⟩ => ⟨v, e, hv.fresh hs⟩), fun hl => OffT.fresh h8 (by decide) e8 hs fun e => hl (List.map_eq_nil_iff.1 e)⟩
    rcases hs q hm with k | k
    · exact h2 k
    · have := World.block_lt_of_cell? w ⟨q, 0, none⟩ h4
      have : q < w.heap.size := this
      omega
theorem JvAt.up {T : List Nat} {w : World} : ∀ {n : Nat} {v : Value} {x : JV}, JvAt n T w v x → JvAt (n + 1) T w v x
  | 0, _, _, h => by cases h
  | n + 1, v, .nul, h => h
  | n + 1, v, .bool b, h => h
  | n + 1, v, .num b, h => h
  | n + 1, v, .str b, h => h
  | n + 1, v, .list l, h => by
    obtain ⟨u, h1, h2, h3⟩ := h
    exact ⟨u, h1, h2.mapR (fun cs x ⟨v, e, hv⟩ => ⟨v, e, hv.up⟩), h3⟩
  | n + 1, v, .obj l, h => by
    obtain ⟨q, h1, h2, h3, vn, vv, h4, h5, h6, h7, h8, h9⟩ := h
    exact ⟨q, h1, h2, h3, vn, vv, h4, h5, h6, h7, h8.mapR (fun cs x ⟨v, e, hv⟩ => ⟨v, e, hv.up⟩), h9⟩
theorem JvAt.ups {T : List Nat} {w : World} {n m : Nat} {v : Value} {x : JV} (h : JvAt n T w v x) (hm : n ≤ m) : JvAt m T w v x := by
  induction m with
  | zero => obtain rfl : n = 0 := by omega
            exact h
  | succ m ih =>
    rcases Nat.lt_or_ge m n with h1 | h1
    · obtain rfl : n = m + 1 := by omega
      exact h
    · exact (ih h1).up
theorem JvAt.below {T : List Nat} {w w' : World} {n : Nat} {v : Value} {x : JV} (h : JvAt n T w v x) (hb : Below w.heap.size w w') : JvAt n T w' v x := h.keepT (.of hb)
theorem keeps_jv (n : Nat) {w w' : World} (hk : Keeps w w') : ∀ {v : Value} {x : JV}, JvAt n [] w v x → JvAt n [] w' v x := by
  induction n with
  | zero => intro v x h; cases h
  | succ n ih =>
    have hR : Stays (fun w cs x => ∃ v, cs = [v] ∧ JvAt n [] w v x) ∨ True := .inr trivial
    clear hR
    have hrow : ∀ {u : Value} {l : List JV}, RowAt (fun w cs x => ∃ v, cs = [v] ∧ JvAt n [] w v x) 1 w u l → RowAt (fun w cs x => ∃ v, cs = [v] ∧ JvAt n [] w v x) 1 w' u l := fun {u l} h => by
      rcases h with h | ⟨a, c, h1, h2, h3, h4⟩
      · exact .inl h
      · exact .inr ⟨a, c, h1, h2, h3, fun j x hx => by
          obtain ⟨cs, g1, g2, v, rfl, g3⟩ := h4 j x hx
          exact ⟨_, g1, fun i u hu => hk _ _ (g2 i u hu), v, rfl, ih g3⟩⟩
    intro v x h
    cases x with
    | nul => exact h
    | bool _ => exact h
    | num _ => exact h
    | str _ => exact h
    | list l =>
      obtain ⟨u, h1, h2, h3⟩ := h
      exact ⟨u, h1, hrow h2, h3⟩
    | obj l =>
      obtain ⟨q, h1, h2, h3, vn, vv, h4, h5, h6, h7, h8, h9⟩ := h
      exact ⟨q, h1, h2, h3, vn, vv, hk _ _ h4, hk _ _ h5, h6.keep stays_string hk, h7, hrow h8, h9⟩
theorem stays_jv (n : Nat) : Stays (JvR n []) := fun _ _ _ _ hk ⟨v, e, h⟩ => ⟨v, e, keeps_jv n hk h⟩
theorem one_jv (n : Nat) (T : List Nat) : OneR (JvR n T) := fun w cs x ⟨v, e, h⟩ u hu => by
  rw [e, List.mem_singleton] at hu
  subst hu
  cases n with
  | zero => cases h
  | succ n =>
    cases x with
    | nul => rw [show u = _ from h]; rfl
    | bool _ => rw [show u = _ from h]; rfl
    | num _ => rw [h.1]; rfl
    | str _ => rw [show u = _ from h]; rfl
    | list l => obtain ⟨_, h1, _⟩ := h; rw [h1]; rfl
    | obj l => obtain ⟨_, h1, _⟩ := h; rw [h1]; rfl
end Go.Proofs.YtaddcchpidpbfaaDoor
