/- query: Parse. -/
import Derived.Test.YtkmonmdnmpbadaaDoorParserPart
import Derived.Test.YtkmonmdnmpbadaaDoorRowX
import Derived.Test.YtkmonmdnmpbadaaDoorQueryChecks
import Derived.Test.YtkmonmdnmpbadaaDoorQueryBase
namespace Go.Proofs.YtkmonmdnmpbadaaDoor
open Go.RowKit
open QP

theorem listF_ok {m : Nat} : ∀ (n : Nat) (r : List UInt8) (out : List ByteArray) (x : List ByteArray × List UInt8), listF n r out = some x → (∀ v ∈ out, v.size ≤ m) → r.length ≤ m → (∀ v ∈ x.1, v.size ≤ m) ∧ x.1.length ≤ out.length + n ∧ x.2.length ≤ r.length
  | 0, _, _, _, h, _, _ => by cases h
  | n + 1, r, out, x, h, ho, hr => by
    have hE := wordE_len r
    have ho2 : ∀ v ∈ out ++ [wordS r], v.size ≤ m := fun v hv => by
      rcases List.mem_append.1 hv with h1 | h1
      · exact ho v h1
      · rw [List.mem_singleton.1 h1]; exact Nat.le_trans (wordS_size r) hr
    unfold listF at h
    by_cases h1 : headIs 44 (wordE r) = true
    · rw [if_pos h1] at h
      have htl := tail_len h1
      obtain ⟨a, b, c⟩ := listF_ok n _ _ x h ho2 (by omega)
      rw [List.length_append, List.length_singleton] at b
      exact ⟨a, by omega, by omega⟩
    · rw [if_neg h1] at h
      by_cases h2 : headIs 41 (wordE r) = true
      · rw [if_pos h2] at h
        have htl := tail_len h2
        have hsk := skip_len (wordE r).tail
        cases h
        exact ⟨ho2, by rw [List.length_append, List.length_singleton]; omega, by show (skipB (wordE r).tail).length ≤ _; omega⟩
      · rw [if_neg h2] at h; cases h
theorem tail_le (r : List UInt8) : r.tail.length ≤ r.length := by rw [List.length_tail]; omega
theorem choiceP_ok {key : ByteArray} {r : List UInt8} {x : GReq × List UInt8} (h : choiceP key r = some x) (hk : key.size ≤ 300) (hr : r.length ≤ 300) : okReq x.1 ∧ x.2.length ≤ r.length := by
  have hE := wordE_len r
  unfold choiceP at h
  split at h
  · cases h
  · split at h
    · cases h
    · cases hL : listP (wordE r) with
      | none => rw [hL] at h; cases h
      | some y =>
        rw [hL] at h
        cases h
        unfold listP at hL
        split at hL
        · have h1 := skip_len (wordE r)
          have h2 := tail_le (skipB (wordE r))
          obtain ⟨a, b, c⟩ := listF_ok (m := 300) _ _ _ y hL (fun v hv => by cases hv) (by omega)
          rw [List.length_nil] at b
          exact ⟨⟨by show key.size ≤ _; omega, by show y.1.length ≤ _; omega, fun v hv => by have := a v hv; omega⟩, by show y.2.length ≤ _; omega⟩
        · cases hL
theorem keyP_ok {r : List UInt8} {x : GReq × List UInt8} (h : keyP r = some x) (hr : r.length ≤ 300) : okReq x.1 ∧ x.2.length ≤ r.length := by
  have hE := wordE_len r
  have hS := wordS_size r
  have one : ∀ (kd : Int) (q : List UInt8), q.length ≤ r.length → okReq ⟨wordS r, kd, [wordS q]⟩ ∧ (wordE q).length ≤ r.length := fun kd q hq => by
    have h1 := wordS_size q
    have h2 := wordE_len q
    refine ⟨⟨by show (wordS r).size ≤ _; omega, by show (1 : Nat) ≤ _; omega, fun v hv => ?_⟩, by omega⟩
    rw [List.mem_singleton.1 hv]; omega
  have t1 := tail_le (wordE r)
  have t2 := tail_le (wordE r).tail
  unfold keyP at h
  split at h
  · cases h
    exact ⟨⟨by show (wordS r).size ≤ _; omega, by show (0 : Nat) ≤ _; omega, fun v hv => by cases hv⟩, hE⟩
  · split at h
    · cases h; exact one _ _ (by omega)
    · split at h
      · cases h; exact one _ _ (by omega)
      · split at h
        · cases h; exact one _ _ (by omega)
        · split at h
          · obtain ⟨a, b⟩ := choiceP_ok h (by omega) (by omega)
            exact ⟨a, by omega⟩
          · cases h
theorem partP_ok {r : List UInt8} {x : GReq × List UInt8} (h : partP r = some x) (hr : r.length ≤ 300) : okReq x.1 ∧ x.2.length ≤ r.length := by
  have hs := skip_len r
  have ht := tail_le (skipB r)
  unfold partP at h
  split at h
  · cases h
    have h1 := wordS_size (skipB r).tail
    have h2 := wordE_len (skipB r).tail
    exact ⟨⟨by show (wordS (skipB r).tail).size ≤ _; omega, by show (0 : Nat) ≤ _; omega, fun v hv => by cases hv⟩, by show (wordE (skipB r).tail).length ≤ _; omega⟩
  · obtain ⟨a, b⟩ := keyP_ok h (by omega)
    exact ⟨a, by omega⟩

/-- a part whose values lie in memory of the call's own -/
def ReqO (B : Nat) : Rd GReq := fun w cs x => ∃ v2, cs = [.string x.key, .int .i64 x.kind, v2] ∧ (1 ≤ x.kind ∧ x.kind ≤ 4) ∧ OwnAt RString 1 w B 9 v2 x.vals
theorem reqO_but {B g : Nat} {w w' : World} {cs : List Value} {x : GReq} (h : ReqO B w cs x) (hb : But g w w') (hg : g < B) : ReqO B w' cs x := by
  obtain ⟨v2, h1, h2, h3⟩ := h
  exact ⟨v2, h1, h2, h3.butLow flat_string hb hg⟩
theorem own_but {B g : Nat} {w w' : World} {v : Value} {l : List GReq} (h : OwnAt (ReqO B) 3 w B 33 v l) (hb : But g w w') (hg : g < B) : OwnAt (ReqO B) 3 w' B 33 v l := by
  obtain ⟨css, h1, h2, h3, h4⟩ := h
  refine ⟨css, h1, h2, ⟨h3.1, ?_⟩, fun j cs y hcs hy => reqO_but (h4 j cs y hcs hy) hb hg⟩
  rcases h3.2 with h5 | ⟨q, cap, cur, rfl, hB, hh, hr⟩
  · exact .inl h5
  · exact .inr ⟨q, cap, cur, rfl, hB, hb.keep hh (by omega), hr⟩
theorem reqO_staysX (B : Nat) : StaysX 33 (ReqO B) := fun w w' cs x hs ⟨v2, h1, h2, h3⟩ => by
  refine ⟨v2, h1, h2, ?_⟩
  obtain ⟨css, k1, k2, k3, k4⟩ := h3
  refine ⟨css, k1, k2, ⟨k3.1, ?_⟩, fun j cs y hcs hy => k4 j cs y hcs hy⟩
  rcases k3.2 with h5 | ⟨q, cap, cur, hv, hB, hh, hr⟩
  · exact .inl h5
  · exact .inr ⟨q, cap, cur, hv, hB, hs _ _ _ _ hh (by decide), hr⟩
theorem reqO_one (B : Nat) : OneR (ReqO B) := fun w cs x ⟨v2, h1, _, h3⟩ u hu => by
  obtain ⟨a, c, hv, _, _⟩ := h3.row.len
  rw [h1, hv] at hu
  simp at hu
  rcases hu with rfl | rfl | rfl <;> rfl
theorem reqO_req {B : Nat} {w : World} {cs : List Value} {x : GReq} (h : ReqO B w cs x) : ReqR w cs x := by
  obtain ⟨v2, h1, h2, h3⟩ := h
  refine ⟨v2, h1, ?_, h3.row.strs⟩
  have : x.kind = 1 ∨ x.kind = 2 ∨ x.kind = 3 ∨ x.kind = 4 := by omega
  rcases this with h | h | h | h <;> (rw [h]; decide)
theorem row_map {α : Type} {R R' : Rd α} {k : Nat} {w : World} {v : Value} {l : List α} (h : RowAt R k w v l) (hm : ∀ cs x, R w cs x → R' w cs x) : RowAt R' k w v l := by
  rcases h with h | ⟨a, c, h1, h2, h3, h4⟩
  · exact .inl h
  · exact .inr ⟨a, c, h1, h2, h3, fun j x hx => by
      obtain ⟨cs, g1, g2, g3⟩ := h4 j x hx
      exact ⟨cs, g1, g2, hm _ _ g3⟩⟩
def ParseAt (s : ByteArray) (w : World) (E : Ending) (w' : World) : Prop :=
  ∃ v, E = .returned (.tuple #[v, .int .i64 (parseL s.data.toList).2]) ∧ RowAt ReqR 3 w' v (parseL s.data.toList).1 ∧ Below w.heap.size w w'
theorem parse_end {s : ByteArray} {w w' : World} {v : Value} {l : List GReq} {e : Int} (h : parseL s.data.toList = (l, e)) (hr : RowAt ReqR 3 w' v l) (hb : Below w.heap.size w w') : ParseAt s w (.returned (.tuple #[v, .int .i64 e])) w' := by
  unfold ParseAt
  rw [h]
  exact ⟨v, rfl, hr, hb⟩
end Go.Proofs.YtkmonmdnmpbadaaDoor
