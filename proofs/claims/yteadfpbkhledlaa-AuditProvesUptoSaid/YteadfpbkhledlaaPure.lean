/- A region that draws its order: operations that yield in whatever world are taken first, in the order of the text; what is left comes in one forced order. Any program. -/
import Derived.StillTailTactics
import Derived.Deep.RegionHeld3
import Derived.WalkKit
namespace Go.Proofs.Yteadfpbkhledlaa
open Go

section
variable {P : Program} {ops : Array Oper} {md : Region.Mode}

/-- each operation of the list yields a value in whatever world -/
def wpPure (P : Program) (ops : Array Oper) (Q : Act → Prop) : List Oper → Act → Prop
  | [], a => Q a
  | o :: rest, a => ∃ v, Yields P ops o v a ∧ wpPure P ops Q rest (a.put o.dst v)

theorem wpPure_nil {Q : Act → Prop} {a : Act} (h : Q a) : wpPure P ops Q [] a := h
theorem wpPure_step {Q : Act → Prop} {a : Act} {o : Oper} {rest : List Oper} {v : Value} (hg : o.guard = none)
    (h : ∀ w, (execOp a.eval o).run P w = .ok (.value v) w) (k : wpPure P ops Q rest (a.put o.dst v)) : wpPure P ops Q (o :: rest) a :=
  ⟨v, .inl ⟨by simp [Region.wanted, hg], h⟩, k⟩
theorem wpPure_wanted {Q : Act → Prop} {a : Act} {o : Oper} {rest : List Oper} {v : Value} (hw : Region.wanted o (yielded ops a.tmps) = true)
    (h : ∀ w, (execOp a.eval o).run P w = .ok (.value v) w) (k : wpPure P ops Q rest (a.put o.dst v)) : wpPure P ops Q (o :: rest) a :=
  ⟨v, .inl ⟨hw, h⟩, k⟩
theorem wpPure_skip {Q : Act → Prop} {a : Act} {o : Oper} {rest : List Oper} (hw : Region.wanted o (yielded ops a.tmps) = false)
    (k : wpPure P ops Q rest (a.put o.dst undef)) : wpPure P ops Q (o :: rest) a :=
  ⟨undef, .inr ⟨hw, rfl⟩, k⟩

def Region.pureB (md : Region.Mode) (ops : Array Oper) (n : Nat) : Bool :=
  Region.noSelect ops && decide (n ≤ ops.size) && Region.lexHead md ops (ops.size - n) n 0 (Array.replicate ops.size false)

theorem wpAny_pure {n g : Nat} {Q : Exit → Act → World → Prop} {L : Act → Prop} {w : World} (hsel : Region.noSelect ops = true)
    (hQ : ∀ (d : Option Tmp) (v : Value) c a w, Q (.panic c) (a.put d v) w → Q (.panic c) a w)
    (hL : ∀ listed a, Region.seqB md ops g n listed = true → L a → wpAny P md ops Q g listed a w) :
    ∀ (l : List Oper) (k : Nat) (listed : Array Bool) (a : Act), (∀ j, j < l.length → l[j]? = ops[k + j]?) → k + l.length = n →
    Region.lexHead md ops g l.length k listed = true → wpPure P ops L l a → wpAny P md ops Q (l.length + g) listed a w
  | [], k, listed, a, _, hk, hB, h => by
    have : k = n := by simpa using hk
    subst this
    simpa using hL listed a (by simpa [Region.lexHead] using hB) h
  | o :: l, k, listed, a, hl, hk, hB, h => by
    have h0 : ops[k]? = some o := by simpa using (hl 0 (by simp)).symm
    simp only [List.length_cons, Region.lexHead, Bool.and_eq_true] at hB
    obtain ⟨⟨hr, hf⟩, hB'⟩ := hB
    obtain ⟨v, hy, hK⟩ := h
    have := wpAny_pure hsel hQ hL l (k + 1) (listed.setIfInBounds k true) (a.put o.dst v)
      (fun j hj => by have := hl (j + 1) (by simp; omega); simpa [Nat.add_assoc, Nat.add_comm 1 j] using this) (by simp only [List.length_cons] at hk; omega) hB' hK
    rw [List.length_cons, show l.length + 1 + g = (l.length + g) + 1 by omega]
    exact wpAny_take h0 hsel hf hr (fun c a w => hQ o.dst v c a w) hy this

/-- THE LAW: take the first n (in whatever world), then the others one behind the other. -/
theorem wp_region_pure {id : Nat} {Q : Exit → Act → World → Prop} {a : Act} {w : World} {l : List Oper} (n : Nat) (hm : P.follows .mixedOrders = true)
    (hB : Region.pureB .any l.toArray n = true)
    (h : wpPure P l.toArray (fun a' => wpList P l.toArray (NoPanic Q) (l.drop n) a' { w with drawn := w.drawn + 1 }) (l.take n) a) :
    (Code.region id l.toArray true).wp P Q a w := by
  simp only [Region.pureB, Bool.and_eq_true, decide_eq_true_eq] at hB
  obtain ⟨⟨hsel, hn⟩, hlex⟩ := hB
  have hn' : n ≤ l.length := by simpa using hn
  have htl : (l.take n).length = n := by simp; omega
  have hdl : (l.drop n).length = l.toArray.size - n := by simp
  refine wp_region_noPanic (wp_region_any hm ?_)
  have H := wpAny_pure (P := P) (md := .any) (n := n) (g := l.toArray.size - n) (Q := NoPanic Q) (w := { w with drawn := w.drawn + 1 }) hsel (fun d v c a w h => (h : False).elim)
    (fun listed a' hs hw => by
      have := wpAny_of_seq (md := .any) (Q' := NoPanic Q) (l.drop n) n listed a' { w with drawn := w.drawn + 1 } (fun j => by simp [List.getElem?_drop]) (by rw [hdl]; exact hs) hw
      rwa [hdl] at this) (l.take n) 0 (Array.replicate l.toArray.size false) a (fun j hj => by
        have hj' : j < n := by rw [htl] at hj; exact hj
        simp [hj']) (by simpa using htl) (by rw [htl]; exact hlex) h
  rw [htl, show n + (l.toArray.size - n) = l.toArray.size by omega] at H
  exact H
end
end Go.Proofs.Yteadfpbkhledlaa
