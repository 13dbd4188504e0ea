/- Texts of ours joined: Hold, Rel, Box, SlStr, Bytes, GrantsPlain, Pure, ShaSmall, ShaBlock, Off, HashWalk. -/
import Derived.Laws.Tables
import Derived.Laws.Rows
import Derived.Test.YtlbolbkikkiifaaDoorShelf
import Derived.Lib.Hide
import Derived.WalkLawsBesides
import Derived.StillTailTactics
import Derived.Deep.RegionHeld3
import Derived.WalkKit
import Derived.WalkSpells
import Derived.KernelRfl
import Derived.Lib.AppendStr
import Derived.Laws.AppendOwnNone
import Derived.Laws.OwnMore
import Derived.Deep.LoopGhost
import Derived.Test.YtlbolbkikkiifaaDoorMt1
set_option linter.unusedVariables false
set_option linter.unusedSimpArgs false
/- A region that draws its order, whose operations yield the same values in whatever world of a kind, and stay within that kind: one walk in the order of the text, then a forced tail. Any program. -/
namespace Go.Proofs.YtlbolbkikkiifaaDoor
open Go

section
variable {P : Program} {ops : Array Oper} {md : Region.Mode} {I : World → Prop}

/-- what an operation comes to, where it neither panics nor defers -/
def gives (P : Program) (R : Value → World → Prop) : Result Next → Prop
  | .ok (.value v) w' => R v w'
  | .ok .skip w' => R undef w'
  | .ok (.enter f args) w' => Calls P f args w' fun e w'' => ∃ v, e = .returned v ∧ R v w''
  | _ => False

theorem gives_upon {o : Oper} {a : Act} {R : Value → World → Prop} {K : Act → World → Prop} {Q : Exit → Act → World → Prop} (h : ∀ v w, R v w → K (a.put o.dst v) w) :
    ∀ {r : Result Next}, gives P R r → o.upon P a K Q r
  | .ok (.value v) w', hr => h _ _ hr
  | .ok .skip w', hr => h _ _ hr
  | .ok (.enter f args) w', hr => Calls.mono hr fun e w'' he => by
      obtain ⟨v, rfl, hR⟩ := he
      exact h _ _ hR

/-- the operation yields v in every world of the kind, and stays within it -/
def YieldsIn (P : Program) (ops : Array Oper) (I : World → Prop) (o : Oper) (v : Value) (a : Act) : Prop :=
  (Region.wanted o (yielded ops a.tmps) = true ∧ ∀ w, I w → gives P (fun u w' => u = v ∧ I w') ((execOp a.eval o).run P w)) ∨
  (Region.wanted o (yielded ops a.tmps) = false ∧ v = undef)

theorem YieldsIn.of_same {o : Oper} {v : Value} {a a' : Act} (hy : YieldsIn P ops I o v a) (he : execOp a'.eval o = execOp a.eval o)
    (hw : Region.wanted o (yielded ops a'.tmps) = Region.wanted o (yielded ops a.tmps)) : YieldsIn P ops I o v a' := by
  unfold YieldsIn at *
  rw [he, hw]
  exact hy

theorem YieldsIn.wpOp {i : Nat} {o : Oper} {v : Value} {a : Act} {w : World} (hi : ops[i]? = some o) (hy : YieldsIn P ops I o v a) (hI : I w) {K : Act → World → Prop} {Q : Exit → Act → World → Prop}
    (h : ∀ w', I w' → K (a.put o.dst v) w') : wpOp P ops Q i K a w := by
  unfold Go.wpOp
  simp only [hi]
  rcases hy with ⟨hw, hv⟩ | ⟨hw, rfl⟩
  · simp only [hw, if_true]
    refine .inl ?_
    unfold Oper.wp
    exact gives_upon (R := fun u w' => u = v ∧ I w') (fun u w' hR => by obtain ⟨rfl, hI'⟩ := hR; exact h _ hI') (hv w hI)
  · simp only [hw, Bool.false_eq_true, if_false]
    exact h _ hI

def wpHold (P : Program) (ops : Array Oper) (I : World → Prop) (Q : Act → Prop) : List Oper → Act → Prop
  | [], a => Q a
  | o :: rest, a => ∃ v, YieldsIn P ops I o v a ∧ wpHold P ops I Q rest (a.put o.dst v)

/-- the heads in whatever order -/
def wpAnyV (P : Program) (md : Region.Mode) (ops : Array Oper) (I : World → Prop) (n : Nat) (L : Array Bool → Act → Prop) : Nat → Array Bool → Act → Prop
  | 0, listed, a => L listed a
  | f + 1, listed, a =>
    Region.ready md ops listed ≠ [] ∧ ∀ i ∈ Region.ready md ops listed, i < n ∧ ∃ o v, ops[i]? = some o ∧ YieldsIn P ops I o v a ∧ wpAnyV P md ops I n L f (listed.setIfInBounds i true) (a.put o.dst v)

theorem wpAny_of_hold {n g : Nat} {L : Array Bool → Act → Prop} {Q' : Exit → Act → World → Prop} (hL : ∀ listed a w, L listed a → I w → wpAny P md ops Q' g listed a w) :
    ∀ (f : Nat) (listed : Array Bool) (a : Act) (w : World), I w → wpAnyV P md ops I n L f listed a → wpAny P md ops Q' (f + g) listed a w
  | 0, listed, a, w, hI, h => by rw [Nat.zero_add]; exact hL _ _ _ h hI
  | f + 1, listed, a, w, hI, h => by
    rw [show f + 1 + g = (f + g) + 1 by omega]
    refine ⟨fun h0 => absurd h0 h.1, fun i hi => ?_⟩
    obtain ⟨_, o, v, ho, hy, hK⟩ := h.2 i hi
    exact hy.wpOp ho hI fun w' hI' => wpAny_of_hold hL f _ _ w' hI' hK

theorem wpAnyV_first {n i : Nat} {oi : Oper} {v : Value} {L : Array Bool → Act → Prop} (hi : ops[i]? = some oi) (hsel : ∀ (j : Nat) (o : Oper) cs b, ops[j]? = some o → o.op ≠ .select cs b)
    (htw : ∀ (listed : Array Bool) (i : Nat), HeadInv md ops n listed → i < n → listed.getD i true = false → ∀ t, n ≤ t → t ∉ Region.ready md ops listed) (hin : i < n)
    (hdone : ∀ listed a, L listed a → ∀ j ∈ Region.ready md ops listed, n ≤ j) :
    ∀ (f : Nat) (listed : Array Bool) (a : Act), HeadInv md ops n listed →
      (∀ j oj, ops[j]? = some oj → j ≠ i → listed.getD j true = false → (∀ e ∈ oj.after, Region.binds md e = true → e.on ≠ i) → oi.apart ops oj = true) →
      i ∈ Region.ready md ops listed → YieldsIn P ops I oi v a →
      wpAnyV P md ops I n L f (listed.setIfInBounds i true) (a.put oi.dst v) → wpAnyV P md ops I n L (f + 1) listed a := by
  intro f
  induction f with
  | zero =>
    intro listed a inv _ hr hy H
    have hun := (mem_ready.1 hr).1
    refine ⟨fun h => (by rw [h] at hr; cases hr), fun j hj => ?_⟩
    have hjn : j < n := by
      rcases Nat.lt_or_ge j n with h | h
      · exact h
      · exact absurd hj (htw _ i inv hin hun j h)
    refine ⟨hjn, ?_⟩
    by_cases hji : j = i
    · subst hji; exact ⟨oi, v, hi, hy, H⟩
    · have := hdone _ _ H j (ready_mono hj hji)
      omega
  | succ f ih =>
    intro listed a inv hfree hr hy H
    have hun := (mem_ready.1 hr).1
    refine ⟨fun h => (by rw [h] at hr; cases hr), fun j hj => ?_⟩
    have hjn : j < n := by
      rcases Nat.lt_or_ge j n with h | h
      · exact h
      · exact absurd hj (htw _ i inv hin hun j h)
    refine ⟨hjn, ?_⟩
    by_cases hji : j = i
    · subst hji; exact ⟨oi, v, hi, hy, H⟩
    · obtain ⟨oj, u, hoj, hyj, hK⟩ := (H.2 j (ready_mono hj hji)).2
      obtain ⟨hjun, oj', hoj', hall⟩ := mem_ready.1 hj
      have : oj' = oj := Option.some.inj (hoj'.symm.trans hoj)
      subst this
      have hnot : ∀ e ∈ oj'.after, Region.binds md e = true → e.on ≠ i := fun e he hb heq => by
        have h1 := hall e he hb
        rw [heq, getD_both hun] at h1
        cases h1
      have hap := hfree j oj' hoj hji hjun hnot
      obtain ⟨h1, h2, h3⟩ := Oper.apart_spec hap
      have hfree' : ∀ k ok, ops[k]? = some ok → k ≠ i → (listed.setIfInBounds j true).getD k true = false →
          (∀ e ∈ ok.after, Region.binds md e = true → e.on ≠ i) → oi.apart ops ok = true := fun k ok hk hki hun' hno => by
        refine hfree k ok hk hki ?_ hno
        by_cases hjk : j = k
        · subst hjk; exact hjun
        · rw [getD_set_ne true hjk] at hun'; exact hun'
      have hyj' : YieldsIn P ops I oj' u a := hyj.of_same (execOp_put oj' (fun cs b => hsel j oj' cs b hoj) a oi.dst v h1).symm (wanted_put oj' a oi.dst v h1).symm
      have hyi' : YieldsIn P ops I oi v (a.put oj'.dst u) := hy.of_same (execOp_put oi (fun cs b => hsel i oi cs b hi) a oj'.dst u h3) (wanted_put oi a oj'.dst u h3)
      refine ⟨oj', u, hoj, hyj', ih (listed.setIfInBounds j true) _ (inv.set hj hjn) hfree' (ready_mono hr (Ne.symm hji)) hyi' ?_⟩
      rw [Array.setIfInBounds_comm _ _ hji, ← Act.put_comm a v u h2]
      exact hK

theorem wpAnyV_lex {n g : Nat} {Lq : Act → Prop} (hsel : Region.noSelect ops = true)
    (htw : ∀ (listed : Array Bool) (i : Nat), HeadInv md ops n listed → i < n → listed.getD i true = false → ∀ t, n ≤ t → t ∉ Region.ready md ops listed) :
    ∀ (l : List Oper) (k : Nat) (listed : Array Bool) (a : Act), (∀ j, j < l.length → l[j]? = ops[k + j]?) → k + l.length = n → HeadInv md ops n listed →
    Region.lexHead md ops g l.length k listed = true → wpHold P ops I Lq l a →
    wpAnyV P md ops I n (fun listed' a' => Region.seqB md ops g n listed' = true ∧ Lq a') l.length listed a
  | [], k, listed, a, _, hk, _, hB, h => by
    have : k = n := by simpa using hk
    subst this
    exact ⟨by simpa [Region.lexHead] using hB, h⟩
  | o :: l, k, listed, a, hl, hk, inv, hB, h => by
    have h0 : ops[k]? = some o := by simpa using (hl 0 (by simp)).symm
    simp only [List.length_cons, Region.lexHead, Bool.and_eq_true] at hB
    obtain ⟨⟨hr, hf⟩, hB'⟩ := hB
    have hkn : k < n := by simp only [List.length_cons] at hk; omega
    have hr' : k ∈ Region.ready md ops listed := by simpa using hr
    obtain ⟨v, hy, hK⟩ := h
    exact wpAnyV_first h0 (Region.noSelect_spec hsel) htw hkn (fun listed' a' hL => seqB_ready hL.1) l.length listed a inv (Region.free_spec h0 hf) hr' hy
      (wpAnyV_lex hsel htw l (k + 1) _ _ (fun j hj => by have := hl (j + 1) (by simp; omega); simpa [Nat.add_assoc, Nat.add_comm 1 j] using this) (by simp only [List.length_cons] at hk; omega) (inv.set hr' hkn) hB' hK)

/-- THE LAW: the first n operations by values, in whatever order; the others one by one behind them all -/
theorem wp_region_hold {id : Nat} {Q : Exit → Act → World → Prop} {a : Act} {w : World} {l : List Oper} (n : Nat) (I : World → Prop) (hm : P.follows .mixedOrders = true) (hB : Region.lexTailB .any l.toArray n = true)
    (hI : I w.drew) (h : wpHold P l.toArray I (fun a' => ∀ w', I w' → wpList P l.toArray Q (l.drop n) a' w') (l.take n) a) : (Code.region id l.toArray true).wp P Q a w := by
  simp only [Region.lexTailB, Bool.and_eq_true, decide_eq_true_eq] at hB
  obtain ⟨⟨⟨⟨hsel, hn⟩, hs⟩, hc⟩, hlex⟩ := hB
  have hn' : n < l.length := by simpa using hn
  have htl : (l.take n).length = n := by simp; omega
  have hdl : (l.drop n).length = l.toArray.size - n := by simp
  have inv0 : HeadInv .any l.toArray n (Array.replicate l.toArray.size false) :=
    ⟨by simp, fun j oj _ hl => (by rw [getD_replicate_false] at hl; cases hl), fun t _ ht => getD_in (by simpa using ht) (getD_replicate_false _ _)⟩
  have H := wpAnyV_lex (md := .any) (g := l.toArray.size - n) (n := n) hsel (fun listed i inv hi hun => tail_waits hs hc hn inv _ i rfl hi hun) (l.take n) 0 _ a (fun j hj => by
    have hj' : j < n := by rw [htl] at hj; exact hj
    simp [hj']) (by simpa using htl) inv0 (by rw [htl]; exact hlex) h
  refine wp_region_any hm ?_
  have := wpAny_of_hold (Q' := Q) (g := l.toArray.size - n) (fun listed a' w' hL hI' => by
    have := wpAny_of_seq (md := .any) (Q' := Q) (l.drop n) n listed a' w' (fun j => by simp [List.getElem?_drop]) (by rw [hdl]; exact hL.1) (hL.2 w' hI')
    rwa [hdl] at this) _ _ _ w.drew hI H
  rw [htl, show n + (l.toArray.size - n) = l.toArray.size by omega] at this
  exact this

theorem below_then {a b c : World} (h : RowKit.Below a.heap.size a b) (k : RowKit.Below b.heap.size b c) : RowKit.Below a.heap.size a c := h.trans (k.mono h.size)
theorem wpHold_nil {Q : Act → Prop} {a : Act} (h : Q a) : wpHold P ops I Q [] a := h
theorem wpHold_pure {Q : Act → Prop} {a : Act} {o : Oper} {rest : List Oper} {v : Value} (hg : o.guard = none) (h : ∀ w, (execOp a.eval o).run P w = .ok (.value v) w) (k : wpHold P ops I Q rest (a.put o.dst v)) :
    wpHold P ops I Q (o :: rest) a :=
  ⟨v, .inl ⟨by simp [Region.wanted, hg], fun w hI => by rw [h w]; exact ⟨rfl, hI⟩⟩, k⟩
theorem wpHold_read {Q : Act → Prop} {a : Act} {o : Oper} {rest : List Oper} {v : Value} (hg : o.guard = none) (h : ∀ w, I w → (execOp a.eval o).run P w = .ok (.value v) w) (k : wpHold P ops I Q rest (a.put o.dst v)) :
    wpHold P ops I Q (o :: rest) a :=
  ⟨v, .inl ⟨by simp [Region.wanted, hg], fun w hI => by rw [h w hI]; exact ⟨rfl, hI⟩⟩, k⟩
theorem wpHold_call {Q : Act → Prop} {a : Act} {o : Oper} {rest : List Oper} {v : Value} {f : FuncId} {args : Array Value} (hg : o.guard = none) (h : ∀ w, (execOp a.eval o).run P w = .ok (.enter f args) w)
    (hc : ∀ w, I w → Calls P f args w fun e w' => e = .returned v ∧ I w') (k : wpHold P ops I Q rest (a.put o.dst v)) : wpHold P ops I Q (o :: rest) a :=
  ⟨v, .inl ⟨by simp [Region.wanted, hg], fun w hI => by rw [h w]; exact (hc w hI).mono fun e w' h' => ⟨v, h'.1, rfl, h'.2⟩⟩, k⟩
/-- guarded ones: let in, or passed over -/
theorem wpHold_pure' {Q : Act → Prop} {a : Act} {o : Oper} {rest : List Oper} {v : Value} (hg : Region.wanted o (yielded ops a.tmps) = true) (h : ∀ w, (execOp a.eval o).run P w = .ok (.value v) w) (k : wpHold P ops I Q rest (a.put o.dst v)) :
    wpHold P ops I Q (o :: rest) a :=
  ⟨v, .inl ⟨hg, fun w hI => by rw [h w]; exact ⟨rfl, hI⟩⟩, k⟩
theorem wpHold_read' {Q : Act → Prop} {a : Act} {o : Oper} {rest : List Oper} {v : Value} (hg : Region.wanted o (yielded ops a.tmps) = true) (h : ∀ w, I w → (execOp a.eval o).run P w = .ok (.value v) w) (k : wpHold P ops I Q rest (a.put o.dst v)) :
    wpHold P ops I Q (o :: rest) a :=
  ⟨v, .inl ⟨hg, fun w hI => by rw [h w hI]; exact ⟨rfl, hI⟩⟩, k⟩
theorem wpHold_call' {Q : Act → Prop} {a : Act} {o : Oper} {rest : List Oper} {v : Value} {f : FuncId} {args : Array Value} (hg : Region.wanted o (yielded ops a.tmps) = true) (h : ∀ w, (execOp a.eval o).run P w = .ok (.enter f args) w)
    (hc : ∀ w, I w → Calls P f args w fun e w' => e = .returned v ∧ I w') (k : wpHold P ops I Q rest (a.put o.dst v)) : wpHold P ops I Q (o :: rest) a :=
  ⟨v, .inl ⟨hg, fun w hI => by rw [h w]; exact (hc w hI).mono fun e w' h' => ⟨v, h'.1, rfl, h'.2⟩⟩, k⟩
theorem wpHold_skip {Q : Act → Prop} {a : Act} {o : Oper} {rest : List Oper} (hg : Region.wanted o (yielded ops a.tmps) = false) (k : wpHold P ops I Q rest (a.put o.dst undef)) : wpHold P ops I Q (o :: rest) a :=
  ⟨undef, .inr ⟨hg, rfl⟩, k⟩
end
end Go.Proofs.YtlbolbkikkiifaaDoor
/- A region that draws its order, whose operations yield values of a kind (their addresses may hang on the order): one obligation an operation, one invariant; then a forced tail. Any program. -/
namespace Go.Proofs.YtlbolbkikkiifaaDoor
open Go

section
variable {P : Program} {ops : Array Oper} {md : Region.Mode}

/-- the frame with these values in the heads' slots -/
def putAll : List Oper → (Nat → Value) → Nat → Act → Act
  | [], _, _, a => a
  | o :: r, u, k, a => putAll r u (k + 1) (a.put o.dst (u k))

def slotOf (a : Act) : Option Tmp → Value
  | some d => a.tmps.getD d undef
  | none => undef
theorem put_same (a : Act) (d : Option Tmp) (v w : Value) : (a.put d v).put d w = a.put d w := by
  cases d with
  | none => rfl
  | some d => simp [Act.put]
theorem put_own (a : Act) (d : Option Tmp) : a.put d (slotOf a d) = a := by
  cases d with
  | none => rfl
  | some d =>
    unfold Act.put slotOf
    simp only
    congr 1
    apply Array.ext
    · simp
    · intro i h1 h2
      rw [Array.getElem_setIfInBounds]
      split
      · rename_i h
        subst h
        simp [Array.getD, h2]
      · rfl
def apartDsts (l : List Oper) : Prop := l.Pairwise fun x y => ∀ d, x.dst = some d → y.dst ≠ some d
theorem putAll_put : ∀ (l : List Oper) (u : Nat → Value) (k : Nat) (a : Act) (d : Option Tmp) (v : Value), (∀ o ∈ l, ∀ t, d = some t → o.dst ≠ some t) → (putAll l u k a).put d v = putAll l u k (a.put d v)
  | [], _, _, _, _, _, _ => rfl
  | o :: r, u, k, a, d, v, h => by
    show (putAll r u (k + 1) (a.put o.dst (u k))).put d v = putAll r u (k + 1) ((a.put d v).put o.dst (u k))
    rw [putAll_put r u (k + 1) _ d v (fun o' ho => h o' (List.mem_cons_of_mem _ ho)), ← Act.put_comm a v (u k) (h o (List.mem_cons_self ..))]
theorem putAll_congr : ∀ (l : List Oper) (u u' : Nat → Value) (k : Nat) (a : Act), (∀ j, k ≤ j → u j = u' j) → putAll l u k a = putAll l u' k a
  | [], _, _, _, _, _ => rfl
  | o :: r, u, u', k, a, h => by
    show putAll r u (k + 1) (a.put o.dst (u k)) = putAll r u' (k + 1) (a.put o.dst (u' k))
    rw [h k (Nat.le_refl _)]
    exact putAll_congr r u u' (k + 1) _ (fun j hj => h j (by omega))
theorem putAll_set : ∀ (l : List Oper) (u : Nat → Value) (k i : Nat) (a : Act) (o : Oper) (v : Value), apartDsts l → l[i]? = some o → (putAll l u k a).put o.dst v = putAll l (fun j => if j = k + i then v else u j) k a
  | [], _, _, _, _, _, _, _, h => by simp at h
  | x :: r, u, k, 0, a, o, v, hd, h => by
    obtain rfl : x = o := by simpa using h
    show (putAll r u (k + 1) (a.put x.dst (u k))).put x.dst v = putAll r _ (k + 1) (a.put x.dst (if k = k + 0 then v else u k))
    rw [if_pos (by omega), putAll_put r u (k + 1) _ x.dst v (fun o' ho t ht => (List.pairwise_cons.1 hd).1 o' ho t ht), put_same]
    exact putAll_congr r _ _ (k + 1) _ (fun j hj => by rw [if_neg (by omega)])
  | x :: r, u, k, i + 1, a, o, v, hd, h => by
    show (putAll r u (k + 1) (a.put x.dst (u k))).put o.dst v = putAll r _ (k + 1) (a.put x.dst (if k = k + (i + 1) then v else u k))
    rw [if_neg (by omega), putAll_set r u (k + 1) i _ o v (List.pairwise_cons.1 hd).2 (by simpa using h)]
    exact putAll_congr r _ _ (k + 1) _ (fun j _ => by simp [show k + 1 + i = k + (i + 1) by omega])
theorem putAll_own : ∀ (l : List Oper) (k : Nat) (a : Act) (u : Nat → Value), (∀ j o, l[j]? = some o → u (k + j) = slotOf a o.dst) → putAll l u k a = a
  | [], _, _, _, _ => rfl
  | x :: r, k, a, u, h => by
    show putAll r u (k + 1) (a.put x.dst (u k)) = a
    rw [show u k = slotOf a x.dst from h 0 x rfl, put_own]
    exact putAll_own r (k + 1) a u (fun j o ho => by rw [show k + 1 + j = k + (j + 1) by omega]; exact h (j + 1) o (by simpa using ho))

/-- how many heads are not yet listed -/
def unl (listed : Array Bool) : Nat → Nat
  | 0 => 0
  | n + 1 => unl listed n + if listed.getD n true = true then 0 else 1
theorem unl_set {listed : Array Bool} {i : Nat} : ∀ {n : Nat}, i < n → listed.getD i true = false → i < listed.size → unl (listed.setIfInBounds i true) n + 1 = unl listed n
  | 0, h, _, _ => by omega
  | n + 1, h, hu, hs => by
    unfold unl
    by_cases hin : i = n
    · subst hin
      rw [hu, getD_set_true_own hs]
      have : unl (listed.setIfInBounds i true) i = unl listed i := unl_far (Nat.le_refl _)
      rw [this]
      simp
    · rw [getD_set_ne true hin]
      have := unl_set (n := n) (by omega) hu hs
      omega
where
  unl_far {i : Nat} : ∀ {n : Nat}, n ≤ i → unl (listed.setIfInBounds i true) n = unl listed n
    | 0, _ => rfl
    | n + 1, h => by
      unfold unl
      rw [unl_far (n := n) (by omega), getD_set_ne true (by omega)]
  getD_set_true_own {i : Nat} (hs : i < listed.size) : (listed.setIfInBounds i true).getD i true = true := by
    simp [Array.getD, hs]
theorem unl_zero {listed : Array Bool} : ∀ {n : Nat}, unl listed n = 0 → ∀ j, j < n → listed.getD j true = true
  | 0, _, j, h => by omega
  | n + 1, h0, j, h => by
    unfold unl at h0
    by_cases hj : j = n
    · subst hj
      by_cases hl : listed.getD j true = true
      · exact hl
      · rw [if_neg hl] at h0; omega
    · exact unl_zero (n := n) (by omega) j (by omega)

theorem unl_least {listed : Array Bool} {n : Nat} (hu : unl listed n ≠ 0) : ∃ i, i < n ∧ listed.getD i true = false ∧ ∀ j, j < i → listed.getD j true = true := by
  induction n with
  | zero => exact absurd rfl hu
  | succ n ih =>
    by_cases h : unl listed n = 0
    · refine ⟨n, by omega, ?_, unl_zero h⟩
      unfold unl at hu
      rw [h] at hu
      cases hl : listed.getD n true with
      | false => rfl
      | true => rw [hl] at hu; simp at hu
    · obtain ⟨i, hi, h1, h2⟩ := ih h
      exact ⟨i, by omega, h1, h2⟩
theorem getD_false {listed : Array Bool} {i : Nat} (hi : i < listed.size) (h : listed.getD i true = true) : listed.getD i false = true := by
  simp [Array.getD, hi] at h ⊢
  exact h
theorem ready_ex {n : Nat} {listed : Array Bool} (inv : HeadInv md ops n listed) (hback : ∀ i o, ops[i]? = some o → ∀ e ∈ o.after, Region.binds md e = true → e.on < i) (hn : n ≤ ops.size) (hu : unl listed n ≠ 0) :
    ∃ i, i < n ∧ listed.getD i true = false ∧ i ∈ Region.ready md ops listed := by
  obtain ⟨i, hi, h1, h2⟩ := unl_least hu
  refine ⟨i, hi, h1, mem_ready.2 ⟨h1, ops[i]'(by omega), by simp, fun e he hb => ?_⟩⟩
  have h3 := hback i _ (by simp) e he hb
  exact getD_false (by rw [inv.size]; omega) (h2 _ h3)

def canon (n m : Nat) : Array Bool := (Array.range m).map fun j => decide (j < n)
theorem eq_canon {n : Nat} {listed : Array Bool} (inv : HeadInv md ops n listed) (hu : unl listed n = 0) : listed = canon n ops.size := by
  apply Array.ext
  · simp [canon, inv.size]
  · intro i h1 h2
    have h3 : (canon n ops.size)[i] = decide (i < n) := by simp [canon]
    rw [h3]
    by_cases h : i < n
    · have := unl_zero hu i h
      simp [Array.getD, h1] at this
      simp [this, h]
    · have := inv.tail i (by omega) (by rw [← inv.size]; exact h1)
      simp [Array.getD, h1] at this
      simp [this, h]

/-- one value more -/
def upd (u : Nat → Value) (i : Nat) (v : Value) : Nat → Value := fun j => if j = i then v else u j

theorem wpAny_rel {n g : Nat} {hs : List Oper} {a0 : Act} {I : World → Prop} {R : Nat → (Nat → Value) → World → Prop} {deps : Nat → List Nat} {Q : Exit → Act → World → Prop}
    (hops : ∀ j, j < n → hs[j]? = ops[j]?) (hn : n < ops.size) (hap : apartDsts hs)
    (hs1 : Region.sinkB md ops n = true) (hc1 : Region.chainB md ops n = true)
    (hback : ∀ i o, ops[i]? = some o → ∀ e ∈ o.after, Region.binds md e = true → e.on < i)
    (hdeps : ∀ i o, hs[i]? = some o → ∀ j ∈ deps i, j < n ∧ ∃ e ∈ o.after, Region.binds md e = true ∧ e.on = j)
    (hloc : ∀ j u u' w, (∀ k, (k = j ∨ k ∈ deps j) → u k = u' k) → R j u w → R j u' w)
    (obl : ∀ i o, hs[i]? = some o → ∀ (u : Nat → Value) w, I w → (∀ j ∈ deps i, R j u w) →
      (Region.wanted o (yielded ops (putAll hs u 0 a0).tmps) = true ∧ gives P (fun v w' => R i (upd u i v) w' ∧ I w' ∧ ∀ j u, j ≠ i → R j u w → R j u w') ((execOp (putAll hs u 0 a0).eval o).run P w)) ∨
      (Region.wanted o (yielded ops (putAll hs u 0 a0).tmps) = false ∧ R i (upd u i undef) w))
    (hend : ∀ (u : Nat → Value) w, I w → (∀ j, j < n → R j u w) → wpAny P md ops Q g (canon n ops.size) (putAll hs u 0 a0) w) :
    ∀ (f : Nat) (listed : Array Bool) (u : Nat → Value) (w : World), unl listed n = f → HeadInv md ops n listed → I w → (∀ j, j < n → listed.getD j false = true → R j u w) →
      wpAny P md ops Q (f + g) listed (putAll hs u 0 a0) w := by
  intro f
  induction f with
  | zero =>
    intro listed u w hf inv hI hR
    rw [Nat.zero_add, eq_canon inv hf]
    refine hend u w hI fun j hj => hR j hj (getD_false (by rw [inv.size]; omega) (unl_zero hf j hj))
  | succ f ih =>
    intro listed u w hf inv hI hR
    obtain ⟨k, hk, hku, hkr⟩ := ready_ex inv hback (by omega) (by omega)
    rw [show f + 1 + g = (f + g) + 1 by omega]
    refine ⟨fun h => (by rw [h] at hkr; cases hkr), fun i hi => ?_⟩
    have hin : i < n := by
      rcases Nat.lt_or_ge i n with h | h
      · exact h
      · exact absurd hi (tail_waits hs1 hc1 hn inv _ k rfl hk hku i h)
    obtain ⟨hiu, o, ho, hall⟩ := mem_ready.1 hi
    have ho' : hs[i]? = some o := (hops i hin).trans ho
    have hRd : ∀ j ∈ deps i, R j u w := fun j hj => by
      obtain ⟨hjn, e, he, hb, hon⟩ := hdeps i o ho' j hj
      exact hR j hjn (by rw [← hon]; exact hall e he hb)
    have next : ∀ v w', R i (upd u i v) w' → I w' → (∀ j u, j ≠ i → R j u w → R j u w') → wpAny P md ops Q (f + g) (listed.setIfInBounds i true) ((putAll hs u 0 a0).put o.dst v) w' := fun v w' hv hI' hst => by
      rw [putAll_set hs u 0 i a0 o v hap ho']
      have hil : i < listed.size := by rw [inv.size]; omega
      refine ih _ _ w' (by have := unl_set hin hiu hil; omega) (inv.set hi hin) hI' fun j hj hl => ?_
      have hup : (fun j => if j = 0 + i then v else u j) = upd u i v := by funext j; simp [upd]
      rw [hup]
      by_cases hji : j = i
      · subst hji; exact hv
      · rw [getD_set_ne false (fun h => hji h.symm)] at hl
        refine hloc j u _ w' (fun q hq => ?_) (hst _ _ hji (hR j hj hl))
        unfold upd
        rw [if_neg ?_]
        rintro rfl
        rcases hq with rfl | hq
        · exact hji rfl
        · have hjo : ∃ oj, hs[j]? = some oj := by
            have hlen := hops j hj
            have : j < ops.size := by omega
            exact ⟨ops[j], by rw [hlen]; simp [this]⟩
          obtain ⟨oj, hoj⟩ := hjo
          obtain ⟨_, e, he, hb, hon⟩ := hdeps j oj hoj q hq
          have h1 := inv.closed j oj ((hops j hj).symm.trans hoj) hl e he hb
          rw [hon, getD_both hiu] at h1
          cases h1
    unfold wpOp
    simp only [ho]
    rcases obl i o ho' u w hI hRd with ⟨hw, hg⟩ | ⟨hw, hv⟩
    · rw [if_pos hw]
      refine .inl ?_
      unfold Oper.wp
      exact gives_upon (R := fun v w' => R i (upd u i v) w' ∧ I w' ∧ ∀ j u, j ≠ i → R j u w → R j u w') (fun v w' h => next v w' h.1 h.2.1 h.2.2) hg
    · rw [if_neg (by rw [hw]; simp)]
      exact next undef w hv hI (fun _ _ _ h => h)

/-- what the kernel reckons: edges lead back, the heads' slots are apart, the operations looked back at are edges, the tail is forced -/
def relB (md : Region.Mode) (l : List Oper) (n : Nat) (deps : Nat → List Nat) : Bool :=
  decide (n < l.length) && Region.sinkB md l.toArray n && Region.chainB md l.toArray n &&
  ((List.range l.length).all fun i => match l[i]? with | some o => o.after.all fun e => !Region.binds md e || decide (e.on < i) | none => true) &&
  ((List.range n).all fun i => (List.range i).all fun j => match l[i]?, l[j]? with | some x, some y => (match y.dst with | some d => x.dst != some d | none => true) | _, _ => true) &&
  ((List.range n).all fun i => match l[i]? with | some o => (deps i).all fun j => decide (j < n) && o.after.any fun e => Region.binds md e && e.on == j | none => true) &&
  Region.seqB md l.toArray (l.length - n) n (canon n l.length)

theorem wp_region_rel {id : Nat} {Q : Exit → Act → World → Prop} {a : Act} {w : World} {l : List Oper} (n : Nat) (I : World → Prop) (R : Nat → (Nat → Value) → World → Prop) (deps : Nat → List Nat)
    (hm : P.follows .mixedOrders = true) (hB : relB .any l n deps = true) (hloc : ∀ j u u' w, (∀ k, (k = j ∨ k ∈ deps j) → u k = u' k) → R j u w → R j u' w) (hI : I w.drew)
    (obl : ∀ i o, (l.take n)[i]? = some o → ∀ (u : Nat → Value) w, I w → (∀ j ∈ deps i, R j u w) →
      (Region.wanted o (yielded l.toArray (putAll (l.take n) u 0 a).tmps) = true ∧ gives P (fun v w' => R i (upd u i v) w' ∧ I w' ∧ ∀ j u, j ≠ i → R j u w → R j u w') ((execOp (putAll (l.take n) u 0 a).eval o).run P w)) ∨
      (Region.wanted o (yielded l.toArray (putAll (l.take n) u 0 a).tmps) = false ∧ R i (upd u i undef) w))
    (htail : ∀ (u : Nat → Value) w, I w → (∀ j, j < n → R j u w) → wpList P l.toArray Q (l.drop n) (putAll (l.take n) u 0 a) w) : (Code.region id l.toArray true).wp P Q a w := by
  simp only [relB, Bool.and_eq_true, decide_eq_true_eq, List.all_eq_true, List.mem_range] at hB
  obtain ⟨⟨⟨⟨⟨⟨hn, hs1⟩, hc1⟩, hback⟩, hap⟩, hdeps⟩, hseq⟩ := hB
  have hsz : l.toArray.size = l.length := by simp
  refine wp_region_any hm ?_
  have hown : putAll (l.take n) (fun j => slotOf a (((l.take n)[j]?).bind (·.dst))) 0 a = a := putAll_own _ 0 a _ fun j o ho => by simp only [Nat.zero_add]; rw [ho]; rfl
  have hu0 : unl (Array.replicate l.toArray.size false) n = n := by
    have key : ∀ m, m ≤ l.length → unl (Array.replicate l.toArray.size false) m = m := by
      intro m
      induction m with
      | zero => intro _; rfl
      | succ m ih =>
        intro h
        unfold unl
        rw [ih (by omega), if_neg (by simp [Array.getD, show m < l.length by omega])]
    exact key n (by omega)
  have inv0 : HeadInv .any l.toArray n (Array.replicate l.toArray.size false) :=
    ⟨by simp, fun j oj _ hl => (by rw [getD_replicate_false] at hl; cases hl), fun t _ ht => getD_in (by simpa using ht) (getD_replicate_false _ _)⟩
  have H := wpAny_rel (P := P) (ops := l.toArray) (md := .any) (n := n) (g := l.length - n) (hs := l.take n) (a0 := a) (I := I) (R := R) (deps := deps) (Q := Q)
    (fun j hj => by simp [List.getElem?_take_of_lt hj]) (by simpa using hn)
    (List.pairwise_iff_getElem.2 fun i j hi hj hij d hd => by
      have hi' : i < l.length := by simp at hi; omega
      have hj' : j < l.length := by simp at hj; omega
      have hjn : j < n := by simp at hj; omega
      have := hap j hjn i hij
      rw [List.getElem?_eq_getElem hj', List.getElem?_eq_getElem hi'] at this
      simp only [List.getElem_take] at hd ⊢
      simp only [hd] at this
      simpa using this)
    hs1 hc1
    (fun i o ho e he hb => by
      have ho' : l[i]? = some o := by simpa using ho
      have hil : i < l.length := (List.getElem?_eq_some_iff.1 ho').1
      have := hback i hil
      rw [ho'] at this
      have := Array.all_eq_true'.1 this e he
      simpa [hb] using this)
    (fun i o ho j hj => by
      have hin : i < n := by have := (List.getElem?_eq_some_iff.1 ho).1; simp at this; omega
      have ho' : l[i]? = some o := by rw [List.getElem?_take_of_lt hin] at ho; exact ho
      have := hdeps i hin
      rw [ho'] at this
      have := List.all_eq_true.1 this j hj
      simp only [Bool.and_eq_true, decide_eq_true_eq] at this
      obtain ⟨e, he, hb⟩ := Array.any_eq_true'.1 this.2
      simp only [Bool.and_eq_true, beq_iff_eq] at hb
      exact ⟨this.1, e, he, hb.1, hb.2⟩)
    hloc obl
    (fun u w' hI' hR => by
      have := wpAny_of_seq (md := .any) (Q' := Q) (l.drop n) n (canon n l.toArray.size) (putAll (l.take n) u 0 a) w' (fun j => by simp [List.getElem?_drop]) (by rw [List.length_drop, hsz]; exact hseq) (htail u w' hI' hR)
      rwa [List.length_drop] at this)
    n (Array.replicate l.toArray.size false) (fun j => slotOf a (((l.take n)[j]?).bind (·.dst))) w.drew hu0 inv0 hI (fun j _ hl => by rw [getD_replicate_false] at hl; cases hl)
  rw [hown, show n + (l.length - n) = l.length by omega] at H
  rw [hsz]
  exact H

/-- the values that a fact may speak of: an operation's own, and those it waits for -/
def mask (ds : List Nat) (j : Nat) (u : Nat → Value) : Nat → Value := fun k => if k = j ∨ k ∈ ds then u k else undef
theorem mask_congr {ds : List Nat} {j : Nat} {u u' : Nat → Value} (h : ∀ k, (k = j ∨ k ∈ ds) → u k = u' k) : mask ds j u = mask ds j u' := by
  funext k
  unfold mask
  split
  · rename_i hk; exact h k hk
  · rfl
/-- one obligation an operation, in any world above W -/
def relObl (P : Program) (ops : Array Oper) (W : World) (R : Nat → (Nat → Value) → World → Prop) (deps : Nat → List Nat) (hs : List Oper) (a0 : Act) : List Oper → Nat → Prop
  | [], _ => True
  | o :: r, i => (∀ (u : Nat → Value) w, RowKit.Below W.heap.size W w → (∀ j ∈ deps i, R j (mask (deps j) j u) w) →
      (Region.wanted o (yielded ops (putAll hs u 0 a0).tmps) = true ∧ gives P (fun v w' => R i (mask (deps i) i (upd u i v)) w' ∧ RowKit.Below w.heap.size w w') ((execOp (putAll hs u 0 a0).eval o).run P w)) ∨
      (Region.wanted o (yielded ops (putAll hs u 0 a0).tmps) = false ∧ R i (mask (deps i) i (upd u i undef)) w)) ∧ relObl P ops W R deps hs a0 r (i + 1)
theorem relObl_get {W : World} {R : Nat → (Nat → Value) → World → Prop} {deps : Nat → List Nat} {hs : List Oper} {a0 : Act} : ∀ (l : List Oper) (k : Nat), relObl P ops W R deps hs a0 l k → ∀ j o, l[j]? = some o →
    (∀ (u : Nat → Value) w, RowKit.Below W.heap.size W w → (∀ i ∈ deps (k + j), R i (mask (deps i) i u) w) →
      (Region.wanted o (yielded ops (putAll hs u 0 a0).tmps) = true ∧ gives P (fun v w' => R (k + j) (mask (deps (k + j)) (k + j) (upd u (k + j) v)) w' ∧ RowKit.Below w.heap.size w w') ((execOp (putAll hs u 0 a0).eval o).run P w)) ∨
      (Region.wanted o (yielded ops (putAll hs u 0 a0).tmps) = false ∧ R (k + j) (mask (deps (k + j)) (k + j) (upd u (k + j) undef)) w))
  | [], _, _, j, o, h => by simp at h
  | x :: r, k, h, j, o, ho => by
    cases j with
    | zero =>
      simp only [List.getElem?_cons_zero, Option.some.injEq] at ho
      subst ho
      exact h.1
    | succ j =>
      have := relObl_get r (k + 1) h.2 j o (by simpa using ho)
      rw [show k + 1 + j = k + (j + 1) by omega] at this
      exact this
theorem gives_mono {P : Program} {R R' : Value → World → Prop} (h : ∀ v w, R v w → R' v w) : ∀ {r : Result Next}, gives P R r → gives P R' r
  | .ok (.value _) _, hr => h _ _ hr
  | .ok .skip _, hr => h _ _ hr
  | .ok (.enter _ _) _, hr => Calls.mono hr fun _ _ ⟨v, h1, h2⟩ => ⟨v, h1, h _ _ h2⟩

/-- THE LAW, all worlds above the one at the region's head -/
theorem wp_region_relB {id : Nat} {Q : Exit → Act → World → Prop} {a : Act} {w : World} {l : List Oper} (n : Nat) (R : Nat → (Nat → Value) → World → Prop) (deps : Nat → List Nat)
    (hm : P.follows .mixedOrders = true) (hB : relB .any l n deps = true) (hst : ∀ j u w w', RowKit.Below w.heap.size w w' → R j u w → R j u w')
    (obl : relObl P l.toArray w.drew R deps (l.take n) a (l.take n) 0)
    (htail : ∀ (u : Nat → Value) w', RowKit.Below w.drew.heap.size w.drew w' → (∀ j, j < n → R j (mask (deps j) j u) w') → wpList P l.toArray Q (l.drop n) (putAll (l.take n) u 0 a) w') : (Code.region id l.toArray true).wp P Q a w := by
  refine wp_region_rel n (fun w' => RowKit.Below w.drew.heap.size w.drew w') (fun j u w => R j (mask (deps j) j u) w) deps hm hB (fun j u u' w h hR => by rw [← mask_congr h]; exact hR) (RowKit.Below.refl _ _) (fun i o ho u w' hI hd => ?_) htail
  have h := relObl_get (l.take n) 0 obl i o ho u w' hI (by rw [Nat.zero_add]; exact hd)
  rw [Nat.zero_add] at h
  rcases h with ⟨h1, h2⟩ | h
  · exact .inl ⟨h1, gives_mono (fun v w'' ⟨g1, g2⟩ => ⟨g1, below_then hI g2, fun j u _ hj => hst j _ _ _ g2 hj⟩) h2⟩
  · exact .inr h
/-- what an operation owes -/
def owes (P : Program) (ops : Array Oper) (Ri : Value → World → Prop) (A : Act) (o : Oper) (w : World) : Prop :=
  (Region.wanted o (yielded ops A.tmps) = true ∧ gives P (fun v w' => Ri v w' ∧ RowKit.Below w.heap.size w w') ((execOp A.eval o).run P w)) ∨ (Region.wanted o (yielded ops A.tmps) = false ∧ Ri undef w)
/-- an operation that leaves the world alone -/
theorem owes_here {Ri : Value → World → Prop} {A : Act} {o : Oper} {w : World} (v : Value) (hg : o.guard = none) (h : (execOp A.eval o).run P w = .ok (.value v) w) (hR : Ri v w) : owes P ops Ri A o w :=
  .inl ⟨by simp [Region.wanted, hg], by rw [h]; exact ⟨hR, RowKit.Below.refl _ _⟩⟩
theorem owes_call {Ri : Value → World → Prop} {A : Act} {o : Oper} {w : World} (f : FuncId) (args : Array Value) (hg : o.guard = none) (h : (execOp A.eval o).run P w = .ok (.enter f args) w)
    (hc : Calls P f args w fun e w' => ∃ v, e = .returned v ∧ Ri v w' ∧ RowKit.Below w.heap.size w w') : owes P ops Ri A o w :=
  .inl ⟨by simp [Region.wanted, hg], by rw [h]; exact hc⟩
/-- an operation that makes memory -/
theorem owes_makes {Ri : Value → World → Prop} {A : Act} {o : Oper} {w w' : World} (v : Value) (hg : o.guard = none) (h : (execOp A.eval o).run P w = .ok (.value v) w') (hR : Ri v w') (hb : RowKit.Below w.heap.size w w') : owes P ops Ri A o w :=
  .inl ⟨by simp [Region.wanted, hg], by rw [h]; exact ⟨hR, hb⟩⟩

theorem else_of {c : Prop} [Decidable c] {A B : Prop} (h : ¬ c) (q : B) : if c then A else B := by rw [if_neg h]; exact q
theorem then_of {c : Prop} [Decidable c] {A B : Prop} (h : c) (q : A) : if c then A else B := by rw [if_pos h]; exact q
/-! ### the same, what each operation does to the world said by K -/
def owesK (P : Program) (ops : Array Oper) (Ri : Value → World → Prop) (Ki : World → World → Prop) (A : Act) (o : Oper) (w : World) : Prop :=
  (Region.wanted o (yielded ops A.tmps) = true ∧ gives P (fun v w' => Ri v w' ∧ Ki w w') ((execOp A.eval o).run P w)) ∨ (Region.wanted o (yielded ops A.tmps) = false ∧ Ri undef w)
def relOblK (P : Program) (ops : Array Oper) (I : World → Prop) (K : Nat → World → World → Prop) (R : Nat → (Nat → Value) → World → Prop) (deps : Nat → List Nat) (hs : List Oper) (a0 : Act) : List Oper → Nat → Prop
  | [], _ => True
  | o :: r, i => (∀ (u : Nat → Value) w, I w → (∀ j ∈ deps i, R j (mask (deps j) j u) w) → owesK P ops (fun v w' => R i (mask (deps i) i (upd u i v)) w') (K i) (putAll hs u 0 a0) o w) ∧ relOblK P ops I K R deps hs a0 r (i + 1)
theorem relOblK_get {I : World → Prop} {K : Nat → World → World → Prop} {R : Nat → (Nat → Value) → World → Prop} {deps : Nat → List Nat} {hs : List Oper} {a0 : Act} : ∀ (l : List Oper) (k : Nat), relOblK P ops I K R deps hs a0 l k → ∀ j o, l[j]? = some o →
    (∀ (u : Nat → Value) w, I w → (∀ i ∈ deps (k + j), R i (mask (deps i) i u) w) → owesK P ops (fun v w' => R (k + j) (mask (deps (k + j)) (k + j) (upd u (k + j) v)) w') (K (k + j)) (putAll hs u 0 a0) o w)
  | [], _, _, j, o, h => by simp at h
  | x :: r, k, h, j, o, ho => by
    cases j with
    | zero =>
      simp only [List.getElem?_cons_zero, Option.some.injEq] at ho
      subst ho
      exact h.1
    | succ j =>
      have := relOblK_get r (k + 1) h.2 j o (by simpa using ho)
      rw [show k + 1 + j = k + (j + 1) by omega] at this
      exact this
theorem wp_region_relK {id : Nat} {Q : Exit → Act → World → Prop} {a : Act} {w : World} {l : List Oper} (n : Nat) (I : World → Prop) (K : Nat → World → World → Prop) (R : Nat → (Nat → Value) → World → Prop) (deps : Nat → List Nat)
    (hm : P.follows .mixedOrders = true) (hB : relB .any l n deps = true) (hI0 : I w.drew) (hI : ∀ i w w', K i w w' → I w → I w') (hst : ∀ i j u w w', j ≠ i → K i w w' → I w → R j u w → R j u w')
    (obl : relOblK P l.toArray I K R deps (l.take n) a (l.take n) 0)
    (htail : ∀ (u : Nat → Value) w', I w' → (∀ j, j < n → R j (mask (deps j) j u) w') → wpList P l.toArray Q (l.drop n) (putAll (l.take n) u 0 a) w') : (Code.region id l.toArray true).wp P Q a w := by
  refine wp_region_rel n I (fun j u w => R j (mask (deps j) j u) w) deps hm hB (fun j u u' w h hR => by rw [← mask_congr h]; exact hR) hI0 (fun i o ho u w' hI' hd => ?_) htail
  have h := relOblK_get (l.take n) 0 obl i o ho u w' hI' (by rw [Nat.zero_add]; exact hd)
  rw [Nat.zero_add] at h
  rcases h with ⟨h1, h2⟩ | h
  · exact .inl ⟨h1, gives_mono (fun v w'' ⟨g1, g2⟩ => ⟨g1, hI _ _ _ g2 hI', fun j u hji hj => hst i j _ _ _ hji g2 hI' hj⟩) h2⟩
  · exact .inr h
theorem owesK_here {Ri : Value → World → Prop} {Ki : World → World → Prop} {A : Act} {o : Oper} {w : World} (v : Value) (hg : o.guard = none) (h : (execOp A.eval o).run P w = .ok (.value v) w) (hR : Ri v w) (hk : Ki w w) : owesK P ops Ri Ki A o w :=
  .inl ⟨by simp [Region.wanted, hg], by rw [h]; exact ⟨hR, hk⟩⟩
theorem owesK_call {Ri : Value → World → Prop} {Ki : World → World → Prop} {A : Act} {o : Oper} {w : World} (f : FuncId) (args : Array Value) (hg : o.guard = none) (h : (execOp A.eval o).run P w = .ok (.enter f args) w)
    (hc : Calls P f args w fun e w' => ∃ v, e = .returned v ∧ Ri v w' ∧ Ki w w') : owesK P ops Ri Ki A o w :=
  .inl ⟨by simp [Region.wanted, hg], by rw [h]; exact hc⟩
theorem owesK_makes {Ri : Value → World → Prop} {Ki : World → World → Prop} {A : Act} {o : Oper} {w w' : World} (v : Value) (hg : o.guard = none) (h : (execOp A.eval o).run P w = .ok (.value v) w') (hR : Ri v w') (hk : Ki w w') : owesK P ops Ri Ki A o w :=
  .inl ⟨by simp [Region.wanted, hg], by rw [h]; exact ⟨hR, hk⟩⟩
theorem owesK_skip {Ri : Value → World → Prop} {Ki : World → World → Prop} {A : Act} {o : Oper} {w w' : World} (hg : o.guard = none) (h : (execOp A.eval o).run P w = .ok .skip w') (hR : Ri undef w') (hk : Ki w w') : owesK P ops Ri Ki A o w :=
  .inl ⟨by simp [Region.wanted, hg], by rw [h]; exact ⟨hR, hk⟩⟩
end
end Go.Proofs.YtlbolbkikkiifaaDoor
/- Blocks of the call's own that hold one thing each (boxes): stores and loads of the whole and of a field. Any program. -/
namespace Go.Proofs.YtlbolbkikkiifaaDoor
open Go.RowKit

/-- one block has turned, no other -/
structure Touch (g : Nat) (w W : World) : Prop where
  os : W.os = w.os
  tape : W.tape = w.tape
  output : W.output = w.output
  size : W.heap.size = w.heap.size
  other : ∀ b, b ≠ g → W.heap[b]? = w.heap[b]?

section
variable {g B : Nat} {a w W : World}
theorem Touch.below (h : Touch g w W) (hb : Below B a w) (hg : B ≤ g) : Below B a W :=
  hb.trans ⟨h.os, h.tape, h.output, by rw [h.size]; exact Nat.le_refl _, fun k hk => h.other k (by omega)⟩
theorem Touch.block (h : Touch g w W) {b : Nat} {x : Obj} (hx : w.heap[b]? = some x) (hne : b ≠ g) : W.heap[b]? = some x := (h.other b hne).trans hx
theorem below_block (h : Below w.heap.size w W) {b : Nat} {x : Obj} (hx : w.heap[b]? = some x) : W.heap[b]? = some x := by
  have hb : b < w.heap.size := by
    rcases Nat.lt_or_ge b w.heap.size with h1 | h1
    · exact h1
    · rw [Array.getElem?_eq_none h1] at hx; cases hx
  exact (h.block b hb).trans hx
theorem touch_setRow (w : World) (g : Nat) (cs : Array Value) : Touch g w (w.setRow g cs) := ⟨rfl, rfl, rfl, by simp, fun b hb => setRow_other w g b cs hb⟩
theorem OwnAt.touch {α : Type} {R : Rd α} {k : Nat} {e : TypeId} {v : Value} {l : List α} (hf : Flat R) (h : OwnAt R k w B e v l) (ht : Touch g w W) (hne : ∀ q, v.ownBlock = some q → q ≠ g) : OwnAt R k W B e v l := by
  obtain ⟨css, h1, h2, h3, h4⟩ := h
  refine ⟨css, h1, h2, ⟨h3.1, ?_⟩, fun j cs y hcs hy => hf _ _ _ _ (h4 j cs y hcs hy)⟩
  rcases h3.2 with h5 | ⟨q, cap, cur, rfl, hB, hh, hr⟩
  · exact .inl h5
  · exact .inr ⟨q, cap, cur, rfl, hB, (ht.other q (hne q rfl)).trans hh, hr⟩
theorem OwnAt.touchLow {α : Type} {R : Rd α} {k : Nat} {e : TypeId} {v : Value} {l : List α} (hf : Flat R) (h : OwnAt R k w B e v l) (ht : Touch g w W) (hg : g < B) : OwnAt R k W B e v l :=
  h.touch hf ht fun q hq => by have := (h.at hq).1; omega
end

section
variable {P : Program} {ops : Array Oper} {rest : List Oper} {o : Oper} {a : Act} {w : World} {Q : Exit → Act → World → Prop}
/-- (the walk stands at a continuation: on to the operations that are left) -/
theorem at_last {l : List Oper} {K : Act → World → Prop} (hK : ∀ a w, wpList P ops Q l a w → K a w) (h : wpList P ops Q l a w) : K a w := hK _ _ h
/-- the whole is stored -/
theorem wpList_store_box (hgd : o.guard = none) (ty : TypeId) (x y : Operand) (ho : o.op = .store ty x y) (g : Nat) (cells : Array Value) (hx : a.eval x = .pointer (some ⟨g, 0, none⟩)) (hy : a.eval y = .agg cells)
    (t : TypeId) (old : Array Value) (hg : w.heap[g]? = some (.cells old t (0, 0))) (hi : (P.info? ty).map (·.size) = some cells.size) (hold : old.size = cells.size) (h1 : cells.all (·.oneCell') = true)
    (h : ∀ W, W.heap[g]? = some (.cells cells t (0, 0)) → Touch g w W → wpList P ops Q rest (a.put o.dst undef) W) : wpList P ops Q (o :: rest) a w :=
  wpList_store_row hgd ty x y ho g cells hx hy t old hg hi hold h1 (h _ (setRow_heap w g old cells t (0, 0) hg) (touch_setRow w g cells))
/-- the whole of one box is loaded and stored into another -/
theorem wpList_copy_box {o2 : Oper} (hgd : o.guard = none) (ty : TypeId) (x : Operand) (ho : o.op = .load ty x) (hgd2 : o2.guard = none) (y z : Operand) (ho2 : o2.op = .store ty y z) (g1 g2 : Nat) (hx : a.eval x = .pointer (some ⟨g1, 0, none⟩))
    (t1 : TypeId) (cells : Array Value) (fr : Nat × Nat) (d : TypeDesc) (hg1 : w.heap[g1]? = some (.cells cells t1 fr)) (hy : (a.put o.dst (.agg cells)).eval y = .pointer (some ⟨g2, 0, none⟩)) (hz : (a.put o.dst (.agg cells)).eval z = .agg cells)
    (t : TypeId) (old : Array Value) (hg : w.heap[g2]? = some (.cells old t (0, 0))) (hu : P.underlying ty = some d) (hd : (match d with | .struct _ | .array _ _ => true | _ => false) = true)
    (hi : (P.info? ty).map (·.size) = some cells.size) (hold : old.size = cells.size) (h1 : cells.all (·.oneCell') = true)
    (h : ∀ W, W.heap[g2]? = some (.cells cells t (0, 0)) → Touch g2 w W → wpList P ops Q rest ((a.put o.dst (.agg cells)).put o2.dst undef) W) : wpList P ops Q (o :: o2 :: rest) a w :=
  wpList_load_row hgd ty x ho g1 hx t1 cells fr d hg1 hu hd hi (wpList_store_box hgd2 ty y z ho2 g2 cells hy hz t old hg hi hold h1 h)
/-- a store into one cell of a box -/
theorem touch_setCell {g i : Nat} {cs : Array Value} {t : TypeId} {v : Value} (hg : w.heap[g]? = some (.cells cs t (0, 0))) : (w.setCell ⟨g, i, none⟩ v).heap[g]? = some (.cells (cs.setIfInBounds i v) t (0, 0)) ∧ Touch g w (w.setCell ⟨g, i, none⟩ v) := by
  rw [setCell_eq_setRow w g i cs t (0, 0) v hg]
  exact ⟨setRow_heap w g _ _ t _ hg, touch_setRow w g _⟩
theorem results_two_box {fn : Func} {p q : Tmp} {ty : TypeId} (h : fn.results = #[.cell p ty, .tmp q]) (tmps : Array Value) (w : World) (g : Nat) (t : TypeId) (cs : Array Value) (fr : Nat × Nat) (d : TypeDesc)
    (hp : tmps.getD p undef = .pointer (some ⟨g, 0, none⟩)) (hg : w.heap[g]? = some (.cells cs t fr))
    (hu : P.underlying ty = some d) (hd : (match d with | .struct _ | .array _ _ => true | _ => false) = true) (hi : (P.info? ty).map (·.size) = some cs.size) :
    (results fn tmps).run P w = .ok (.tuple #[.agg cs, tmps.getD q undef]) w := by
  have hp' : tmps[p]?.getD undef = .pointer (some ⟨g, 0, none⟩) := by simpa using hp
  simp [results, h, hp', asAddr, run_loadVar_row w g t ty cs fr d hg hu hd hi]
theorem results_three_box {fn : Func} {p q r : Tmp} {ty : TypeId} (h : fn.results = #[.cell p ty, .tmp q, .tmp r]) (tmps : Array Value) (w : World) (g : Nat) (t : TypeId) (cs : Array Value) (fr : Nat × Nat) (d : TypeDesc)
    (hp : tmps.getD p undef = .pointer (some ⟨g, 0, none⟩)) (hg : w.heap[g]? = some (.cells cs t fr))
    (hu : P.underlying ty = some d) (hd : (match d with | .struct _ | .array _ _ => true | _ => false) = true) (hi : (P.info? ty).map (·.size) = some cs.size) :
    (results fn tmps).run P w = .ok (.tuple #[.agg cs, tmps.getD q undef, tmps.getD r undef]) w := by
  have hp' : tmps[p]?.getD undef = .pointer (some ⟨g, 0, none⟩) := by simpa using hp
  simp [results, h, hp', asAddr, run_loadVar_row w g t ty cs fr d hg hu hd hi]

/-- (in a region that draws) the whole of a box is stored -/
theorem owesK_store {Ri : Value → World → Prop} {Ki : World → World → Prop} (hgd : o.guard = none) (ty : TypeId) (x y : Operand) (ho : o.op = .store ty x y) (g : Nat) (cells : Array Value) (hx : a.eval x = .pointer (some ⟨g, 0, none⟩)) (hy : a.eval y = .agg cells)
    (t : TypeId) (old : Array Value) (hg : w.heap[g]? = some (.cells old t (0, 0))) (hi : (P.info? ty).map (·.size) = some cells.size) (hold : old.size = cells.size) (h1 : cells.all (·.oneCell') = true)
    (h : ∀ W, W.heap[g]? = some (.cells cells t (0, 0)) → Touch g w W → Ri undef W ∧ Ki w W) : owesK P ops Ri Ki a o w := by
  have h2 := h _ (setRow_heap w g old cells t (0, 0) hg) (touch_setRow w g cells)
  refine owesK_skip (w' := w.setRow g cells) hgd ?_ h2.1 h2.2
  unfold execOp
  simp only [ho, hx, hy, Instr.storeAt, Instr.sureAddr, Sem.run_bind, Sem.run_pure, Result.andThen_ok, run_storeVar_row w g t ty old cells hg hi hold h1]
end
theorem flat_set {β : Type} {k : Nat} : ∀ {css : List (List β)}, (∀ cs ∈ css, cs.length = k) → ∀ {j i : Nat} {cs : List β} (u : β), css[j]? = some cs → i < k → css.flatten.set (j * k + i) u = (css.set j (cs.set i u)).flatten
  | [], _, j, i, cs, u, h, _ => by simp at h
  | c :: r, hk, j, i, cs, u, h, hi => by
    have hc : c.length = k := hk c (List.mem_cons_self ..)
    cases j with
    | zero =>
      simp only [List.getElem?_cons_zero, Option.some.injEq] at h
      subst h
      rw [List.flatten_cons, List.set_cons_zero, List.flatten_cons, Nat.zero_mul, Nat.zero_add, List.set_append_left _ _ (by omega)]
    | succ j =>
      rw [List.flatten_cons, List.set_cons_succ, List.flatten_cons, List.set_append_right _ _ (by rw [Nat.add_mul]; omega), show (j + 1) * k + i - c.length = j * k + i by rw [Nat.add_mul]; omega,
        flat_set (fun cs hcs => hk cs (List.mem_cons_of_mem _ hcs)) u (by simpa using h) hi]
/-- a cell of an own row is stored -/
theorem OwnAt.store {α : Type} {R : Rd α} {k : Nat} {l : List α} {B : Nat} {e : TypeId} (hf : Flat R) {w : World} {g c n : Nat} (h : OwnAt R k w B e (.slice (some ⟨g, 0, none⟩) n c) l) {j i : Nat} {x x' : α} (hj : l[j]? = some x) (hi : i < k) (u : Value) (hR : ∀ cs, R w cs x → R w (cs.set i u) x') :
    OwnAt R k (w.setCell ⟨g, j * k + i, none⟩ u) B e (.slice (some ⟨g, 0, none⟩) n c) (l.set j x') ∧ Touch g w (w.setCell ⟨g, j * k + i, none⟩ u) := by
  obtain ⟨css, h1, h2, h3, h4⟩ := h
  have hjl := (List.getElem?_eq_some_iff.1 hj).1
  have hcs : css[j]? = some (css[j]'(by omega)) := List.getElem?_eq_getElem _
  have hck : (css[j]'(by omega)).length = k := h2 _ (List.getElem_mem _)
  rcases h3.2 with ⟨h5, _⟩ | ⟨g', cap, cur, hv, hB, hh, hle, hm, hz, ht⟩
  · cases h5
  · cases hv
    obtain ⟨t1, t2⟩ := touch_setCell (i := j * k + i) (v := u) hh
    refine ⟨⟨css.set j ((css[j]'(by omega)).set i u), by simp [h1], fun cs hcs' => ?_, ?_, fun q cs y hq hy => ?_⟩, t2⟩
    · rcases List.mem_or_eq_of_mem_set hcs' with h6 | h6
      · exact h2 cs h6
      · rw [h6, List.length_set]; exact hck
    · rw [List.length_set]
      refine ⟨?_, .inr ⟨g, c, _, rfl, hB, t1, hle, hm, by simpa using hz, ?_⟩⟩
      · rw [← flat_set h2 u hcs hi, List.length_set]; exact h3.1
      · rw [← flat_set h2 u hcs hi, ← ht, Array.toList_setIfInBounds, List.take_set]
    · by_cases hqj : j = q
      · subst hqj
        rw [List.getElem?_set, if_pos rfl, if_pos (by omega)] at hq hy
        cases hq; cases hy
        exact hf _ _ _ _ (hR _ (h4 j _ x hcs hj))
      · rw [List.getElem?_set, if_neg hqj] at hq hy
        exact hf _ _ _ _ (h4 q cs y hq hy)
end Go.Proofs.YtlbolbkikkiifaaDoor
/- The library's slices functions at texts, in our words. -/
namespace Go.Proofs.YtlbolbkikkiifaaDoor
open Go.RowKit

theorem strAt_getD {l : List ByteArray} {j : Nat} (hj : j < l.length) : l[j]? = some (l.getD j ByteArray.empty) := by simp [List.getD, hj]
set_option maxRecDepth 100000 in
theorem contains_any (v : Value) (l : List ByteArray) (x : ByteArray) (w : World) (h : StrAt w v l) (hl : l.length ≤ 1073741824) : Calls Tryd.prog 52 #[v, .string x] w fun e w' => e = .returned (.bool (Lib.containsS l x)) ∧ w = w' := by
  rcases Nat.eq_zero_or_pos l.length with h0 | h0
  · obtain rfl := nil_of_len h0
    obtain ⟨ao, c, rfl, _, _⟩ := h.len
    exact (Tryd.slices_Contains_string_empty ao c x w).mono fun e w' ⟨h1, h2⟩ => ⟨by rw [h1]; rfl, h2.symm⟩
  · obtain ⟨b, o, c, rfl, _, _, _, hc⟩ := h.form h0
    refine (Tryd.slices_Contains_string b o l.length c l x w (Nat.le_refl _) (by omega) fun j hj => hc j _ (strAt_getD hj)).mono fun e w' ⟨h1, h2⟩ => ⟨?_, h2.symm⟩
    rw [h1, List.take_of_length_le (Nat.le_refl _)]
theorem index_any (v : Value) (l : List ByteArray) (x : ByteArray) (w : World) (h : StrAt w v l) (hl : l.length ≤ 1073741824) : Calls Tryd.prog 78 #[v, .string x] w fun e w' => e = .returned (.int .i64 (Lib.idxOfS l x)) ∧ w = w' := by
  rcases Nat.eq_zero_or_pos l.length with h0 | h0
  · obtain rfl := nil_of_len h0
    obtain ⟨ao, c, rfl, _, _⟩ := h.len
    exact (Tryd.slices_Index_string_empty ao c x w).mono fun e w' ⟨h1, h2⟩ => ⟨h1, h2.symm⟩
  · obtain ⟨b, o, c, rfl, _, _, _, hc⟩ := h.form h0
    refine (Tryd.slices_Index_string b o l.length c l x w (Nat.le_refl _) (by omega) fun j hj => hc j _ (strAt_getD hj)).mono fun e w' ⟨h1, h2⟩ => ⟨?_, h2.symm⟩
    rw [h1, List.take_of_length_le (Nat.le_refl _)]
theorem idx_none {l : List ByteArray} {x : ByteArray} (h : x ∉ l) : Lib.idxOfS l x = -1 := by
  have := Lib.idxOfS_miss l l.length x fun j hj e => h (by rw [← e]; exact List.mem_of_getElem? (strAt_getD hj))
  rwa [List.take_of_length_le (Nat.le_refl _)] at this
theorem idx_at {l : List ByteArray} {x : ByteArray} {k : Nat} (hk : l[k]? = some x) (hn : l.Nodup) : Lib.idxOfS l x = (k : Int) := by
  have hkl := (List.getElem?_eq_some_iff.1 hk).1
  have hx : l.getD k ByteArray.empty = x := by simp [List.getD, hk]
  have := Lib.idxOfS_hit l l.length k x hkl (Nat.le_refl _) hx fun j hj e => by
    have h1 : l[j]? = some x := by rw [← e]; exact strAt_getD (by omega)
    have h2 := (List.getElem?_inj (by omega : j < l.length) hn).1 (h1.trans hk.symm)
    omega
  rwa [List.take_of_length_le (Nat.le_refl _)] at this

/-- stores into a row of the call's own, one behind the other -/
theorem setCells_rowS (g : Nat) (t : TypeId) : ∀ (vs : List Value) (i : Nat) (cur : Array Value) (w : World), w.heap[g]? = some (.cells cur t (0, 0)) → i + vs.length ≤ cur.size →
    ∃ cur', (w.setCells g i vs).heap[g]? = some (.cells cur' t (0, 0)) ∧ cur'.size = cur.size ∧ (∀ j, j < i → cur'[j]? = cur[j]?) ∧ (∀ j u, vs[j]? = some u → cur'[i + j]? = some u) ∧ Touch g w (w.setCells g i vs)
  | [], i, cur, w, hg, _ => ⟨cur, hg, rfl, fun _ _ => rfl, fun j u h => by simp at h, ⟨rfl, rfl, rfl, rfl, fun _ _ => rfl⟩⟩
  | v :: r, i, cur, w, hg, hl => by
    simp only [List.length_cons] at hl
    obtain ⟨h1, h2⟩ := touch_setCell (w := w) (i := i) (v := v) hg
    obtain ⟨cur', g1, g2, g3, g4, g5⟩ := setCells_rowS g t r (i + 1) _ _ h1 (by simp; omega)
    refine ⟨cur', g1, by simpa using g2, fun j hj => ?_, fun j u hu => ?_, ?_⟩
    · rw [g3 j (by omega), Array.getElem?_setIfInBounds, if_neg (by omega)]
    · cases j with
      | zero =>
        simp only [List.getElem?_cons_zero, Option.some.injEq] at hu
        subst hu
        rw [Nat.add_zero, g3 i (by omega), Array.getElem?_setIfInBounds, if_pos rfl, if_pos (by omega)]
      | succ j =>
        have := g4 j u (by simpa using hu)
        rwa [show i + 1 + j = i + (j + 1) by omega] at this
    · show Touch g w ((w.setCell ⟨g, i, none⟩ v).setCells g (i + 1) r)
      exact ⟨g5.os.trans h2.os, g5.tape.trans h2.tape, g5.output.trans h2.output, g5.size.trans h2.size, fun b hb => (g5.other b hb).trans (h2.other b hb)⟩
theorem eraseIdx_get {β : Type} (l : List β) (i j : Nat) : (l.eraseIdx i)[j]? = if j < i then l[j]? else l[j + 1]? := List.getElem?_eraseIdx ..
theorem own_strs {w : World} {B : Nat} {e : TypeId} {v : Value} {l : List ByteArray} (h : OwnAt RString 1 w B e v l) : w.ownsRow B e 1 v l.length (strs l) := by
  obtain ⟨css, h1, h2, h3, h4⟩ := h
  have : css.flatten = strs l := by
    apply List.ext_getElem?
    intro j
    by_cases hj : j < l.length
    · have hcs : css[j]? = some css[j] := List.getElem?_eq_getElem (by omega)
      have hR : css[j] = [.string l[j]] := h4 j _ _ hcs (List.getElem?_eq_getElem hj)
      have := get_flat h2 (j := j) (i := 0) hcs (u := .string l[j]) (by rw [hR]; rfl)
      rw [Nat.mul_one, Nat.add_zero] at this
      rw [this]
      simp [strs, hj]
    · rw [List.getElem?_eq_none (by rw [flat_len h2]; omega), List.getElem?_eq_none (by rw [strs_length]; omega)]
  rwa [this] at h3
theorem ownAt_strs {w : World} {B n : Nat} {e : TypeId} {v : Value} {l : List ByteArray} (h : w.ownsRow B e 1 v n (strs l)) (hn : l.length = n) : OwnAt RString 1 w B e v l := by
  subst hn
  refine ⟨l.map fun x => [.string x], by simp, fun cs hcs => ?_, ?_, fun j cs x hcs hx => ?_⟩
  · obtain ⟨x, _, rfl⟩ := List.mem_map.1 hcs; rfl
  · have key : ∀ m : List ByteArray, (m.map fun x => [Value.string x]).flatten = strs m := fun m => by
      induction m with
      | nil => rfl
      | cons y r ih => rw [List.map_cons, List.flatten_cons, ih]; rfl
    rw [key]; exact h
  · simp only [List.getElem?_map, hx, Option.map_some, Option.some.injEq] at hcs
    exact hcs.symm
end Go.Proofs.YtlbolbkikkiifaaDoor
/- The order of texts; cmp.Compare at texts. -/
namespace Go.Proofs.YtlbolbkikkiifaaDoor
open Go.RowKit

theorem bl_irrefl : ∀ x : List UInt8, Op.bytesLess x x = false
  | [] => rfl
  | a :: x => by unfold Op.bytesLess; simp [bl_irrefl x]
theorem bl_total : ∀ x y : List UInt8, Op.bytesLess x y = false → Op.bytesLess y x = false → x = y
  | [], [], _, _ => rfl
  | [], _ :: _, h, _ => by simp [Op.bytesLess] at h
  | _ :: _, [], _, h => by simp [Op.bytesLess] at h
  | a :: x, b :: y, h1, h2 => by
    unfold Op.bytesLess at h1 h2
    simp only [Bool.or_eq_false_iff, Bool.and_eq_false_iff, decide_eq_false_iff_not, UInt8.not_lt] at h1 h2
    have hab : a = b := UInt8.le_antisymm h2.1 h1.1
    subst hab
    rw [bl_total x y (by simpa using h1.2) (by simpa using h2.2)]
theorem bl_trans : ∀ x y z : List UInt8, Op.bytesLess x y = true → Op.bytesLess y z = true → Op.bytesLess x z = true
  | _, [], _, h, _ => by simp [Op.bytesLess] at h
  | _, _ :: _, [], _, h => by simp [Op.bytesLess] at h
  | [], _ :: _, _ :: _, _, _ => rfl
  | a :: x, b :: y, c :: z, h1, h2 => by
    unfold Op.bytesLess at h1 h2 ⊢
    simp only [Bool.or_eq_true, Bool.and_eq_true, decide_eq_true_eq, beq_iff_eq] at h1 h2 ⊢
    rcases h1 with h1 | ⟨rfl, h1⟩
    · rcases h2 with h2 | ⟨rfl, h2⟩
      · exact .inl (UInt8.lt_trans h1 h2)
      · exact .inl h1
    · rcases h2 with h2 | ⟨rfl, h2⟩
      · exact .inl h2
      · exact .inr ⟨rfl, bl_trans x y z h1 h2⟩
theorem bl_asymm {x y : List UInt8} (h : Op.bytesLess x y = true) : Op.bytesLess y x = false := by
  cases h2 : Op.bytesLess y x with
  | false => rfl
  | true => have := bl_trans x y x h h2; rw [bl_irrefl] at this; cases this
def lessB (a b : ByteArray) : Bool := Op.bytesLess a.toList b.toList
theorem toList_inj {a b : ByteArray} (h : a.toList = b.toList) : a = b := by
  rw [ByteArray.toList_eq, ByteArray.toList_eq] at h
  cases a; cases b
  simp only [ByteArray.mk.injEq]
  exact Array.toList_inj.1 h
theorem lessB_irrefl (a : ByteArray) : lessB a a = false := bl_irrefl _
theorem lessB_total {a b : ByteArray} (h : lessB a b = false) (k : lessB b a = false) : a = b := toList_inj (bl_total _ _ h k)
theorem lessB_trans {a b c : ByteArray} (h : lessB a b = true) (k : lessB b c = true) : lessB a c = true := bl_trans _ _ _ h k
theorem lessB_asymm {a b : ByteArray} (h : lessB a b = true) : lessB b a = false := bl_asymm h
/-- below, the same, above -/
def cmpB (a b : ByteArray) : Int := if lessB a b = true then -1 else if (a.toList == b.toList) = true then 0 else 1
end Go.Proofs.YtlbolbkikkiifaaDoor
/- grants: what is checked, what is held, what is allowed, in plain words. -/
namespace Go.Proofs.YtlbolbkikkiifaaDoor
open Go.RowKit

/-- the first thing that is wrong -/
def says (b e : Int) : Int := if b = 0 then e else b
def firstBad : List Int → Int
  | [] => 0
  | e :: r => says e (firstBad r)
theorem says_zero (b : Int) : says b 0 = b := by unfold says; split <;> simp_all
theorem zero_says (b : Int) : says 0 b = b := by unfold says; simp
theorem says_assoc (a b c : Int) : says (says a b) c = says a (says b c) := by unfold says; by_cases h : a = 0 <;> simp [h]
theorem says_eq_zero (a b : Int) : says a b = 0 ↔ a = 0 ∧ b = 0 := by unfold says; by_cases h : a = 0 <;> simp [h]
theorem firstBad_append (l m : List Int) : firstBad (l ++ m) = says (firstBad l) (firstBad m) := by
  induction l with
  | nil => simp [firstBad, zero_says]
  | cons e r ih => simp only [List.cons_append, firstBad, ih, says_assoc]
theorem firstBad_zero (l : List Int) : firstBad l = 0 ↔ ∀ e ∈ l, e = 0 := by
  induction l with
  | nil => simp [firstBad]
  | cons e r ih => simp [firstBad, says_eq_zero, ih]
theorem firstBad_take {l : List Int} {i : Nat} {e : Int} (h : l[i]? = some e) : firstBad (l.take (i + 1)) = says (firstBad (l.take i)) e := by
  rw [List.take_add_one, h, firstBad_append]
  simp [firstBad, says_zero]
def need (b : Bool) (e : Int) : Int := if b = true then 0 else e
def starB : ByteArray := "*".toUTF8
def nameC (st : Bool) (s : ByteArray) : Int := if st = true ∧ s = starB then 0 else NameP.check s.data.toList
def namesC (st : Bool) (l : List ByteArray) : Int := firstBad (l.map (nameC st))
def spaceC (s : ByteArray) : Int := if s.size = 0 then 0 else NameP.check s.data.toList
def smallR (r : GRule) : Bool := decide (r.verbs.length ≤ 6) && (decide (r.kinds.length ≤ 6) && decide (r.names.length ≤ 6))
def fullR (r : GRule) : Bool := decide (0 < r.verbs.length) && decide (0 < r.kinds.length)
def ruleC (r : GRule) : Int := says (need (smallR r) 2) (says (need (fullR r) 1) (says (namesC true r.verbs) (says (namesC true r.kinds) (namesC false r.names))))
def rulesC (l : List GRule) : Int := says (need (decide (l.length ≤ 8)) 2) (firstBad (l.map ruleC))
def eqB (a b : ByteArray) : Bool := a.toList == b.toList
theorem eqB_iff (a b : ByteArray) : eqB a b = true ↔ a = b := ⟨fun h => toList_inj (by simpa [eqB] using h), fun h => by subst h; simp [eqB]⟩
theorem str_none {s : ByteArray} (h : s.size = 0) : s.toList = [] := by rw [ByteArray.toList_eq]; exact List.eq_nil_of_length_eq_zero (by simpa using h)
theorem str_some {s : ByteArray} (h : s.size ≠ 0) : (!s.toList.isEmpty) = true := by
  rw [ByteArray.toList_eq]
  have hl : s.data.toList.length = s.size := by simp
  cases hd : s.data.toList with | nil => rw [hd] at hl; simp at hl; omega | cons x r => rfl
theorem eqB_empty (s : ByteArray) : eqB s ByteArray.empty = decide (s.size = 0) := by
  rw [Bool.eq_iff_iff, eqB_iff, decide_eq_true_iff]
  constructor
  · intro h; rw [h]; rfl
  · intro h; exact toList_inj (by rw [str_none h, str_none (s := ByteArray.empty) rfl])
def sameRole (q r : GRole) : Bool := eqB q.space r.space && eqB q.name r.name
def sameBind (q r : GBind) : Bool := eqB q.space r.space && eqB q.name r.name
def roleC (bef : List GRole) (r : GRole) : Int := says (spaceC r.space) (says (NameP.check r.name.data.toList) (says (need (!bef.any fun q => sameRole q r) 5) (rulesC r.rules)))
def bindC (bef : List GBind) (b : GBind) : Int :=
  says (spaceC b.space) (says (namesC false [b.name, b.role]) (says (need (!bef.any fun q => sameBind q b) 5) (says (need (!eqB b.space ByteArray.empty || b.whole) 1)
    (says (need (decide (b.users.length ≤ 6) && decide (b.groups.length ≤ 6)) 2) (says (namesC false b.users) (namesC false b.groups))))))
def rolesC (l : List GRole) : List Int := l.mapIdx fun i r => roleC (l.take i) r
def bindsC (l : List GBind) : List Int := l.mapIdx fun i b => bindC (l.take i) b
def grantsC (g : GGrants) : Int := says (need (decide (g.roles.length ≤ 12) && decide (g.binds.length ≤ 12)) 2) (says (firstBad (rolesC g.roles)) (firstBad (bindsC g.binds)))
def askC (a : GAsk) : Int := says (namesC false [a.verb, a.kind]) (says (spaceC a.space) (spaceC a.name))
def shortC (s : ByteArray) : Int := says (NameP.check s.data.toList) (if 20 < s.size then 2 else 0)
def userC (u : GUser) : Int :=
  says (shortC u.name) (if 6 < u.groups.length then 2 else firstBad (u.groups.mapIdx fun i g => says (shortC g) (if Lib.containsS (u.groups.take i) g = true then 5 else 0)))
def codeC (g : GGrants) (u : GUser) (space : ByteArray) : Int := says (grantsC g) (says (userC u) (spaceC space))

def hasL (l : List ByteArray) (s : ByteArray) : Bool := Lib.containsS l s || Lib.containsS l starB
def allowsR (a : GAsk) (r : GRule) : Bool := hasL r.verbs a.verb && (hasL r.kinds a.kind && (decide (r.names.length = 0) || (!eqB a.name ByteArray.empty && Lib.containsS r.names a.name)))
def allowsL (l : List GRule) (a : GAsk) : Bool := l.any (allowsR a)
def isForB (b : GBind) (u : GUser) : Bool := Lib.containsS b.users u.name || u.groups.any fun g => Lib.containsS b.groups g
/-- is a binding one of a user in a space? -/
def bindOn (u : GUser) (space : ByteArray) (b : GBind) : Bool := isForB b u && (eqB b.space ByteArray.empty || eqB b.space space)
def fromOf (b : GBind) : ByteArray := if b.whole = true then ByteArray.empty else b.space
def rulesOf (b : GBind) (r : GRole) : List GRule := if (eqB r.space (fromOf b) && eqB r.name b.role) = true then r.rules else []
def bindRules (g : GGrants) (u : GUser) (space : ByteArray) (b : GBind) : List GRule := if bindOn u space b = true then g.roles.flatMap (rulesOf b) else []
def heldL (g : GGrants) (u : GUser) (space : ByteArray) : List GRule := g.binds.flatMap (bindRules g u space)
def mayE (g : GGrants) (u : GUser) (a : GAsk) : Int := says (codeC g u ByteArray.empty) (askC a)
def mayP (g : GGrants) (u : GUser) (a : GAsk) : Bool := decide (mayE g u a = 0) && allowsL (heldL g u a.space) a
theorem take_flatMap {α β : Type} (f : α → List β) (l : List α) {i : Nat} {x : α} (h : l[i]? = some x) : (l.take (i + 1)).flatMap f = (l.take i).flatMap f ++ f x := by
  rw [List.take_add_one, h, List.flatMap_append]
  simp
end Go.Proofs.YtlbolbkikkiifaaDoor
/- A region that draws its order: operations that yield in whatever world are taken first, in the order of the text; what is left comes in one forced order. Any program. -/
namespace Go.Proofs.YtlbolbkikkiifaaDoor
open Go

section
variable {P : Program} {ops : Array Oper} {md : Region.Mode}

/-- each operation of the list yields a value in whatever world -/
def wpPure (P : Program) (ops : Array Oper) (Q : Act → Prop) : List Oper → Act → Prop
  | [], a => Q a
  | o :: rest, a => ∃ v, Yields P ops o v a ∧ wpPure P ops Q rest (a.put o.dst v)

theorem wpPure_nil {Q : Act → Prop} {a : Act} (h : Q a) : wpPure P ops Q [] a := h
theorem wpPure_step {Q : Act → Prop} {a : Act} {o : Oper} {rest : List Oper} {v : Value} (hg : o.guard = none)
    (h : ∀ w, (execOp a.eval o).run P w = .ok (.value v) w) (k : wpPure P ops Q rest (a.put o.dst v)) : wpPure P ops Q (o :: rest) a :=
  ⟨v, .inl ⟨by simp [Region.wanted, hg], h⟩, k⟩
theorem wpPure_wanted {Q : Act → Prop} {a : Act} {o : Oper} {rest : List Oper} {v : Value} (hw : Region.wanted o (yielded ops a.tmps) = true)
    (h : ∀ w, (execOp a.eval o).run P w = .ok (.value v) w) (k : wpPure P ops Q rest (a.put o.dst v)) : wpPure P ops Q (o :: rest) a :=
  ⟨v, .inl ⟨hw, h⟩, k⟩
theorem wpPure_skip {Q : Act → Prop} {a : Act} {o : Oper} {rest : List Oper} (hw : Region.wanted o (yielded ops a.tmps) = false)
    (k : wpPure P ops Q rest (a.put o.dst undef)) : wpPure P ops Q (o :: rest) a :=
  ⟨undef, .inr ⟨hw, rfl⟩, k⟩

def Region.pureB (md : Region.Mode) (ops : Array Oper) (n : Nat) : Bool :=
  Region.noSelect ops && decide (n ≤ ops.size) && Region.lexHead md ops (ops.size - n) n 0 (Array.replicate ops.size false)

theorem wpAny_pure {n g : Nat} {Q : Exit → Act → World → Prop} {L : Act → Prop} {w : World} (hsel : Region.noSelect ops = true)
    (hQ : ∀ (d : Option Tmp) (v : Value) c a w, Q (.panic c) (a.put d v) w → Q (.panic c) a w)
    (hL : ∀ listed a, Region.seqB md ops g n listed = true → L a → wpAny P md ops Q g listed a w) :
    ∀ (l : List Oper) (k : Nat) (listed : Array Bool) (a : Act), (∀ j, j < l.length → l[j]? = ops[k + j]?) → k + l.length = n →
    Region.lexHead md ops g l.length k listed = true → wpPure P ops L l a → wpAny P md ops Q (l.length + g) listed a w
  | [], k, listed, a, _, hk, hB, h => by
    have : k = n := by simpa using hk
    subst this
    simpa using hL listed a (by simpa [Region.lexHead] using hB) h
  | o :: l, k, listed, a, hl, hk, hB, h => by
    have h0 : ops[k]? = some o := by simpa using (hl 0 (by simp)).symm
    simp only [List.length_cons, Region.lexHead, Bool.and_eq_true] at hB
    obtain ⟨⟨hr, hf⟩, hB'⟩ := hB
    obtain ⟨v, hy, hK⟩ := h
    have := wpAny_pure hsel hQ hL l (k + 1) (listed.setIfInBounds k true) (a.put o.dst v)
      (fun j hj => by have := hl (j + 1) (by simp; omega); simpa [Nat.add_assoc, Nat.add_comm 1 j] using this) (by simp only [List.length_cons] at hk; omega) hB' hK
    rw [List.length_cons, show l.length + 1 + g = (l.length + g) + 1 by omega]
    exact wpAny_take h0 hsel hf hr (fun c a w => hQ o.dst v c a w) hy this

/-- THE LAW: take the first n (in whatever world), then the others one behind the other. -/
theorem wp_region_pure {id : Nat} {Q : Exit → Act → World → Prop} {a : Act} {w : World} {l : List Oper} (n : Nat) (hm : P.follows .mixedOrders = true)
    (hB : Region.pureB .any l.toArray n = true)
    (h : wpPure P l.toArray (fun a' => wpList P l.toArray (NoPanic Q) (l.drop n) a' { w with drawn := w.drawn + 1 }) (l.take n) a) :
    (Code.region id l.toArray true).wp P Q a w := by
  simp only [Region.pureB, Bool.and_eq_true, decide_eq_true_eq] at hB
  obtain ⟨⟨hsel, hn⟩, hlex⟩ := hB
  have hn' : n ≤ l.length := by simpa using hn
  have htl : (l.take n).length = n := by simp; omega
  have hdl : (l.drop n).length = l.toArray.size - n := by simp
  refine wp_region_noPanic (wp_region_any hm ?_)
  have H := wpAny_pure (P := P) (md := .any) (n := n) (g := l.toArray.size - n) (Q := NoPanic Q) (w := { w with drawn := w.drawn + 1 }) hsel (fun d v c a w h => (h : False).elim)
    (fun listed a' hs hw => by
      have := wpAny_of_seq (md := .any) (Q' := NoPanic Q) (l.drop n) n listed a' { w with drawn := w.drawn + 1 } (fun j => by simp [List.getElem?_drop]) (by rw [hdl]; exact hs) hw
      rwa [hdl] at this) (l.take n) 0 (Array.replicate l.toArray.size false) a (fun j hj => by
        have hj' : j < n := by rw [htl] at hj; exact hj
        simp [hj']) (by simpa using htl) (by rw [htl]; exact hlex) h
  rw [htl, show n + (l.toArray.size - n) = l.toArray.size by omega] at H
  exact H
end
end Go.Proofs.YtlbolbkikkiifaaDoor
/- The walks of seal.turned, seal.constants and seal.first. -/
namespace Go.Proofs.YtlbolbkikkiifaaDoor
open Go.RowKit

def kNums : List Int := [1116352408, 1899447441, 3049323471, 3921009573, 961987163, 1508970993, 2453635748, 2870763221, 3624381080, 310598401, 607225278, 1426881987, 1925078388, 2162078206, 2614888103, 3248222580, 3835390401, 4022224774, 264347078, 604807628, 770255983, 1249150122, 1555081692, 1996064986, 2554220882, 2821834349, 2952996808, 3210313671, 3336571891, 3584528711, 113926993, 338241895, 666307205, 773529912, 1294757372, 1396182291, 1695183700, 1986661051, 2177026350, 2456956037, 2730485921, 2820302411, 3259730800, 3345764771, 3516065817, 3600352804, 4094571909, 275423344, 430227734, 506948616, 659060556, 883997877, 958139571, 1322822218, 1537002063, 1747873779, 1955562222, 2024104815, 2227730452, 2361852424, 2428436474, 2756734187, 3204031479, 3329325298]
def kTab : Array Value := #[.int .u32 1116352408, .int .u32 1899447441, .int .u32 3049323471, .int .u32 3921009573, .int .u32 961987163, .int .u32 1508970993, .int .u32 2453635748, .int .u32 2870763221, .int .u32 3624381080, .int .u32 310598401, .int .u32 607225278, .int .u32 1426881987, .int .u32 1925078388, .int .u32 2162078206, .int .u32 2614888103, .int .u32 3248222580, .int .u32 3835390401, .int .u32 4022224774, .int .u32 264347078, .int .u32 604807628, .int .u32 770255983, .int .u32 1249150122, .int .u32 1555081692, .int .u32 1996064986, .int .u32 2554220882, .int .u32 2821834349, .int .u32 2952996808, .int .u32 3210313671, .int .u32 3336571891, .int .u32 3584528711, .int .u32 113926993, .int .u32 338241895, .int .u32 666307205, .int .u32 773529912, .int .u32 1294757372, .int .u32 1396182291, .int .u32 1695183700, .int .u32 1986661051, .int .u32 2177026350, .int .u32 2456956037, .int .u32 2730485921, .int .u32 2820302411, .int .u32 3259730800, .int .u32 3345764771, .int .u32 3516065817, .int .u32 3600352804, .int .u32 4094571909, .int .u32 275423344, .int .u32 430227734, .int .u32 506948616, .int .u32 659060556, .int .u32 883997877, .int .u32 958139571, .int .u32 1322822218, .int .u32 1537002063, .int .u32 1747873779, .int .u32 1955562222, .int .u32 2024104815, .int .u32 2227730452, .int .u32 2361852424, .int .u32 2428436474, .int .u32 2756734187, .int .u32 3204031479, .int .u32 3329325298]
def hTab : Array Value := #[.int .u32 1779033703, .int .u32 3144134277, .int .u32 1013904242, .int .u32 2773480762, .int .u32 1359893119, .int .u32 2600822924, .int .u32 528734635, .int .u32 1541459225]

theorem Tryd.size64 : (Tryd.prog.info? 191).map (·.size) = some 64 := by kernel_rfl
theorem Tryd.size8 : (Tryd.prog.info? 177).map (·.size) = some 8 := by kernel_rfl

/-- a 32-bit number turned right by n -/
def rot (n : Nat) (x : Int) : Int := bits .or .u32 (IntKind.u32.wrap (x * 2 ^ (32 - n))) (x / 2 ^ n)
theorem kTab_one : kTab.all (·.oneCell') = true := by kernel_rfl
theorem hTab_one : hTab.all (·.oneCell') = true := by kernel_rfl
theorem kTab_size : kTab.size = 64 := by rfl
theorem hTab_size : hTab.size = 8 := by rfl

set_option maxRecDepth 100000 in
set_option maxHeartbeats 1600000 in
theorem constants_any (w : World) : Calls Tryd.prog 139 #[] w fun e w' => e = .returned (.agg kTab) ∧ Below w.heap.size w w' := by
  go_enter Tryd.func139, Tryd.ntmps139
  go_wp2_with (first | (refine wpList_build_as rfl _ _ rfl kTab (by kernel_rfl) ?_) | (refine wpList_store_row rfl _ _ _ rfl w.heap.size kTab rfl rfl 191 _ (heap_alloc_new w _) (by rw [kTab_size]; exact Tryd.size64) (by rw [kTab_size]; rfl) kTab_one ?_))
  exact bodyPost_ret (results_cell_row rfl _ _ w.heap.size 191 kTab (0, 0) _ rfl (setRow_heap _ _ _ _ _ _ (heap_alloc_new w _)) Tryd.underlying191 rfl (by rw [kTab_size]; exact Tryd.size64)) rfl ⟨rfl, below_setRow ((Below.refl _ _).alloc (Nat.le_refl _) _) (Nat.le_refl _) _⟩

set_option maxRecDepth 100000 in
set_option maxHeartbeats 1600000 in
theorem first_any (w : World) : Calls Tryd.prog 123 #[] w fun e w' => e = .returned (.agg hTab) ∧ Below w.heap.size w w' := by
  go_enter Tryd.func123, Tryd.ntmps123
  go_wp2_with (first | (refine wpList_build_as rfl _ _ rfl hTab (by kernel_rfl) ?_) | (refine wpList_store_row rfl _ _ _ rfl w.heap.size hTab rfl rfl 177 _ (heap_alloc_new w _) (by rw [hTab_size]; exact Tryd.size8) (by rw [hTab_size]; rfl) hTab_one ?_))
  exact bodyPost_ret (results_cell_row rfl _ _ w.heap.size 177 hTab (0, 0) _ rfl (setRow_heap _ _ _ _ _ _ (heap_alloc_new w _)) Tryd.underlying177 rfl (by rw [hTab_size]; exact Tryd.size8)) rfl ⟨rfl, below_setRow ((Below.refl _ _).alloc (Nat.le_refl _) _) (Nat.le_refl _) _⟩


theorem turned_2 (x : Int) (w : World) : Calls Tryd.prog 138 #[.int .u32 x, .int .i64 2] w fun e w' => e = .returned (.int .u32 (rot 2 x)) ∧ w = w' := by
  have h1 : bits .and .u64 (IntKind.u64.wrap (-2)) 31 = 30 := by kernel_rfl
  go_enter Tryd.func138, Tryd.ntmps138
  go_wp2
  go_ret
  exact ⟨rfl, rfl⟩

theorem turned_6 (x : Int) (w : World) : Calls Tryd.prog 138 #[.int .u32 x, .int .i64 6] w fun e w' => e = .returned (.int .u32 (rot 6 x)) ∧ w = w' := by
  have h1 : bits .and .u64 (IntKind.u64.wrap (-6)) 31 = 26 := by kernel_rfl
  go_enter Tryd.func138, Tryd.ntmps138
  go_wp2
  go_ret
  exact ⟨rfl, rfl⟩

theorem turned_7 (x : Int) (w : World) : Calls Tryd.prog 138 #[.int .u32 x, .int .i64 7] w fun e w' => e = .returned (.int .u32 (rot 7 x)) ∧ w = w' := by
  have h1 : bits .and .u64 (IntKind.u64.wrap (-7)) 31 = 25 := by kernel_rfl
  go_enter Tryd.func138, Tryd.ntmps138
  go_wp2
  go_ret
  exact ⟨rfl, rfl⟩

theorem turned_11 (x : Int) (w : World) : Calls Tryd.prog 138 #[.int .u32 x, .int .i64 11] w fun e w' => e = .returned (.int .u32 (rot 11 x)) ∧ w = w' := by
  have h1 : bits .and .u64 (IntKind.u64.wrap (-11)) 31 = 21 := by kernel_rfl
  go_enter Tryd.func138, Tryd.ntmps138
  go_wp2
  go_ret
  exact ⟨rfl, rfl⟩

theorem turned_13 (x : Int) (w : World) : Calls Tryd.prog 138 #[.int .u32 x, .int .i64 13] w fun e w' => e = .returned (.int .u32 (rot 13 x)) ∧ w = w' := by
  have h1 : bits .and .u64 (IntKind.u64.wrap (-13)) 31 = 19 := by kernel_rfl
  go_enter Tryd.func138, Tryd.ntmps138
  go_wp2
  go_ret
  exact ⟨rfl, rfl⟩

theorem turned_17 (x : Int) (w : World) : Calls Tryd.prog 138 #[.int .u32 x, .int .i64 17] w fun e w' => e = .returned (.int .u32 (rot 17 x)) ∧ w = w' := by
  have h1 : bits .and .u64 (IntKind.u64.wrap (-17)) 31 = 15 := by kernel_rfl
  go_enter Tryd.func138, Tryd.ntmps138
  go_wp2
  go_ret
  exact ⟨rfl, rfl⟩

theorem turned_18 (x : Int) (w : World) : Calls Tryd.prog 138 #[.int .u32 x, .int .i64 18] w fun e w' => e = .returned (.int .u32 (rot 18 x)) ∧ w = w' := by
  have h1 : bits .and .u64 (IntKind.u64.wrap (-18)) 31 = 14 := by kernel_rfl
  go_enter Tryd.func138, Tryd.ntmps138
  go_wp2
  go_ret
  exact ⟨rfl, rfl⟩

theorem turned_19 (x : Int) (w : World) : Calls Tryd.prog 138 #[.int .u32 x, .int .i64 19] w fun e w' => e = .returned (.int .u32 (rot 19 x)) ∧ w = w' := by
  have h1 : bits .and .u64 (IntKind.u64.wrap (-19)) 31 = 13 := by kernel_rfl
  go_enter Tryd.func138, Tryd.ntmps138
  go_wp2
  go_ret
  exact ⟨rfl, rfl⟩

theorem turned_22 (x : Int) (w : World) : Calls Tryd.prog 138 #[.int .u32 x, .int .i64 22] w fun e w' => e = .returned (.int .u32 (rot 22 x)) ∧ w = w' := by
  have h1 : bits .and .u64 (IntKind.u64.wrap (-22)) 31 = 10 := by kernel_rfl
  go_enter Tryd.func138, Tryd.ntmps138
  go_wp2
  go_ret
  exact ⟨rfl, rfl⟩

theorem turned_25 (x : Int) (w : World) : Calls Tryd.prog 138 #[.int .u32 x, .int .i64 25] w fun e w' => e = .returned (.int .u32 (rot 25 x)) ∧ w = w' := by
  have h1 : bits .and .u64 (IntKind.u64.wrap (-25)) 31 = 7 := by kernel_rfl
  go_enter Tryd.func138, Tryd.ntmps138
  go_wp2
  go_ret
  exact ⟨rfl, rfl⟩
end Go.Proofs.YtlbolbkikkiifaaDoor
/- The walk of seal.state.block: 64 bytes taken in. -/
namespace Go.Proofs.YtlbolbkikkiifaaDoor
open Go.RowKit

def u32c (l : List Int) : Array Value := (l.map (Value.int .u32)).toArray
theorem u32c_size (l : List Int) : (u32c l).size = l.length := by simp [u32c]
theorem u32c_get (l : List Int) (j : Nat) (h : j < l.length) : (u32c l)[j]? = some (.int .u32 (l.getD j 0)) := by simp [u32c, h]
theorem u32c_set (l : List Int) (j : Nat) (x : Int) : (u32c l).setIfInBounds j (.int .u32 x) = u32c (l.set j x) := by simp [u32c, List.map_set]
theorem u32c_one (l : List Int) : (u32c l).all (·.oneCell') = true := by
  rw [Array.all_eq_true_iff_forall_mem]; intro x hx; simp [u32c] at hx; obtain ⟨a, _, rfl⟩ := hx; rfl

/-- block g of world w is just these 32-bit numbers -/
def Is32 (w : World) (g : Nat) (t : TypeId) (l : List Int) : Prop := w.heap[g]? = some (.cells (u32c l) t (0, 0))
theorem Is32.cell {w : World} {g : Nat} {t : TypeId} {l : List Int} (h : Is32 w g t l) {j : Nat} (hj : j < l.length) : w.cell? ⟨g, j, none⟩ = some (.int .u32 (l.getD j 0)) := by
  rw [cell_of_row w g j _ t (0, 0) h, u32c_get l j hj]
theorem Is32.frozen {w : World} {g : Nat} {t : TypeId} {l : List Int} (h : Is32 w g t l) (j : Nat) : w.frozen? ⟨g, j, none⟩ = false := frozen_of_row w g j _ t h
theorem Is32.lt {w : World} {g : Nat} {t : TypeId} {l : List Int} (h : Is32 w g t l) : g < w.heap.size := by
  rcases Nat.lt_or_ge g w.heap.size with hlt | hge
  · exact hlt
  · unfold Is32 at h; rw [Array.getElem?_eq_none hge] at h; cases h
theorem Is32.drew {w : World} {g : Nat} {t : TypeId} {l : List Int} (h : Is32 w g t l) : Is32 w.drew g t l := h
theorem Is32.alloc {w : World} {g : Nat} {t : TypeId} {l : List Int} (h : Is32 w g t l) (o : Obj) : Is32 (w.alloc o) g t l := (Below.heap_alloc w o g h.lt).trans h
theorem Is32.set {w : World} {g : Nat} {t : TypeId} {l : List Int} (h : Is32 w g t l) (j : Nat) (x : Int) : Is32 (w.setCell ⟨g, j, none⟩ (.int .u32 x)) g t (l.set j x) := by
  unfold Is32
  rw [heap_setCell_same w g j _ t _ h, u32c_set]
theorem Is32.far {w : World} {g : Nat} {t : TypeId} {l : List Int} (h : Is32 w g t l) {p : Addr} (hp : g ≠ p.block) (x : Value) : Is32 (w.setCell p x) g t l := (heap_setCell_other w p g x hp).trans h
theorem Is32.below {w w' : World} {g B : Nat} {t : TypeId} {l : List Int} (h : Is32 w g t l) (hb : Below B w w') (hg : g < B) : Is32 w' g t l := (hb.block g hg).trans h
theorem Is32.row {w : World} {g : Nat} {t : TypeId} {l l' : List Int} (h : Is32 w g t l) : Is32 (w.setRow g (u32c l')) g t l' := setRow_heap _ _ _ _ _ _ h
theorem Is32.rowFar {w : World} {g g' : Nat} {t : TypeId} {l : List Int} {cs : Array Value} (h : Is32 w g t l) (hg : g ≠ g') : Is32 (w.setRow g' cs) g t l := (setRow_other w g' g cs hg).trans h


theorem run_index_u32 {P : Program} (w : World) (t e : TypeId) (i : TypeInfo) (l : List Int) (ht : P.underlying t = some (.array l.length e)) (he : P.underlying e = some (.int .u32)) (hi : P.info? e = some i) (hs : i.size = 1) (k : Nat) (hk : k < l.length) :
    (Instr.index t (.agg (u32c l)) (.int .i64 (k : Int))).run P w = .ok (.int .u32 (l.getD k 0)) w := by
  have h1 : (0 : Int) ≤ k ∧ (k : Int) < l.length := by omega
  have hg := u32c_get l k hk
  simp [Instr.index, part, asIntOf, run_underlying ht, run_underlying he, isAgg, sizeOf, typeInfo, hi, hs, h1, hg, hk]

/-! the functions that the walk comes to -/
def beF (bs : List UInt8) (k : Nat) : Int :=
  bits .or .u32 (bits .or .u32 (bits .or .u32 (IntKind.u32.wrap (IntKind.u32.wrap (bs[4 * k]?.getD 0).toNat * 16777216)) (IntKind.u32.wrap (IntKind.u32.wrap (bs[4 * k + 1]?.getD 0).toNat * 65536)))
    (IntKind.u32.wrap (IntKind.u32.wrap (bs[4 * k + 2]?.getD 0).toNat * 256))) (IntKind.u32.wrap (bs[4 * k + 3]?.getD 0).toNat)
def w1F (bs : List UInt8) : Nat → List Int
  | 0 => List.replicate 64 0
  | k + 1 => (w1F bs k).set k (beF bs k)
def s0F (x : Int) : Int := bits .xor .u32 (bits .xor .u32 (rot 7 x) (rot 18 x)) (x / 8)
def s1F (y : Int) : Int := bits .xor .u32 (bits .xor .u32 (rot 17 y) (rot 19 y)) (y / 1024)
def mixF (W : List Int) (i : Nat) : Int :=
  (W[i - 16]?.getD 0 + s0F (W[i - 15]?.getD 0) + W[i - 7]?.getD 0 + s1F (W[i - 2]?.getD 0)) % 4294967296
def w2F (bs : List UInt8) : Nat → List Int
  | 0 => w1F bs 16
  | k + 1 => (w2F bs k).set (16 + k) (mixF (w2F bs k) (16 + k))
def t1F (v : List Int) (kk wk : Int) : Int :=
  v[7]?.getD 0 + bits .xor .u32 (bits .xor .u32 (rot 6 (v[4]?.getD 0)) (rot 11 (v[4]?.getD 0))) (rot 25 (v[4]?.getD 0)) +
    bits .xor .u32 (bits .and .u32 (v[4]?.getD 0) (v[5]?.getD 0)) (bits .and .u32 (bits .xor .u32 IntKind.u32.max (v[4]?.getD 0)) (v[6]?.getD 0)) + kk + wk
def t2F (v : List Int) : Int :=
  bits .xor .u32 (bits .xor .u32 (rot 2 (v[0]?.getD 0)) (rot 13 (v[0]?.getD 0))) (rot 22 (v[0]?.getD 0)) +
    bits .xor .u32 (bits .xor .u32 (bits .and .u32 (v[0]?.getD 0) (v[1]?.getD 0)) (bits .and .u32 (v[0]?.getD 0) (v[2]?.getD 0))) (bits .and .u32 (v[1]?.getD 0) (v[2]?.getD 0))
def roundF (v : List Int) (kk wk : Int) : List Int :=
  [(t1F v kk wk + t2F v) % 4294967296, v[0]?.getD 0, v[1]?.getD 0, v[2]?.getD 0, (v[3]?.getD 0 + t1F v kk wk) % 4294967296, v[4]?.getD 0, v[5]?.getD 0, v[6]?.getD 0]
def roundsF (h W : List Int) : Nat → List Int
  | 0 => h
  | k + 1 => roundF (roundsF h W k) (kNums[k]?.getD 0) (W[k]?.getD 0)
def sumF (h v : List Int) : Nat → List Int
  | 0 => h
  | k + 1 => (sumF h v k).set k (((sumF h v k)[k]?.getD 0 + v[k]?.getD 0) % 4294967296)
def blockF (h : List Int) (bs : List UInt8) : List Int := sumF h (roundsF h (w2F bs 48) 64) 8
theorem sumF_length (h v : List Int) (k : Nat) : (sumF h v k).length = h.length := by induction k with | zero => rfl | succ k ih => simp [sumF, ih]
theorem roundsF_length (h W : List Int) (hh : h.length = 8) (k : Nat) : (roundsF h W k).length = 8 := by cases k with | zero => exact hh | succ k => rfl
theorem blockF_length (h : List Int) (bs : List UInt8) : (blockF h bs).length = h.length := sumF_length _ _ _
theorem kTab_eq : kTab = u32c kNums := by rfl
theorem kNums_length : kNums.length = 64 := by rfl
theorem Tryd.infoU32 : (Tryd.prog.info? 175).map (fun i => (i.zero, i.size, i.bytes)) = some (some (.int .u32 0), 1, 4) := by kernel_rfl
theorem index_kTab (w : World) (k : Nat) (hk : k < 64) : (Instr.index 191 (.agg kTab) (.int .i64 (k : Int))).run Tryd.prog w = .ok (.int .u32 (kNums[k]?.getD 0)) w := by
  obtain ⟨i0, hi0, hz0, hz1, hz2⟩ := info_parts Tryd.infoU32
  rw [kTab_eq]
  exact run_index_u32 w _ 175 i0 kNums (by rw [kNums_length]; exact Tryd.underlying191) Tryd.underlying175 hi0 hz1 k (by rw [kNums_length]; exact hk)
theorem w1F_length (bs : List UInt8) (k : Nat) : (w1F bs k).length = 64 := by induction k with | zero => rfl | succ k ih => simp [w1F, ih]
theorem w2F_length (bs : List UInt8) (k : Nat) : (w2F bs k).length = 64 := by induction k with | zero => exact w1F_length bs 16 | succ k ih => simp [w2F, ih]
theorem w2F_succ (bs : List UInt8) (n : Nat) (h : 16 ≤ n) : w2F bs (n + 1 - 16) = (w2F bs (n - 16)).set n (mixF (w2F bs (n - 16)) n) := by
  obtain ⟨k, rfl⟩ : ∃ k, n = 16 + k := ⟨n - 16, by omega⟩
  rw [show 16 + k + 1 - 16 = k + 1 by omega, show 16 + k - 16 = k by omega]; rfl

set_option maxRecDepth 100000 in
set_option maxHeartbeats 6400000 in
theorem block_any (hst : List Int) (hh : hst.length = 8) (g off cap : Nat) (bs : List UInt8) (w : World) (hg : g < w.heap.size)
    (hc : ∀ j, j < 64 → w.cell? ⟨g, off + j, none⟩ = some (.int .u8 ((bs.getD j 0).toNat : Int))) :
    Calls Tryd.prog 124 #[.agg (u32c hst), .slice (some ⟨g, off, none⟩) 64 cap] w fun e w' => e = .returned (.agg (u32c (blockF hst bs))) ∧ Below w.heap.size w w' := by
  have HC := Lib.hid hc
  clear hc
  go_enter Tryd.func124, Tryd.ntmps124
  go_wp2_with fail
  go_loopw [24] (fun i wr => ∃ k : Nat, k ≤ 16 ∧ i = .int .i64 k ∧ Below w.heap.size w wr ∧ Is32 wr w.heap.size 177 hst ∧ Is32 wr (w.heap.size + 1) 177 (List.replicate 8 0) ∧ Is32 wr (w.heap.size + 1 + 1) 191 (w1F bs k)) (fun i _ => 16 - (intOf i).toNat)
  case atStart =>
    refine ⟨0, Nat.zero_le _, rfl, (((Below.refl _ _).alloc (Nat.le_refl _) _).alloc (by simp) _).alloc (by simp; omega) _, Is32.alloc (Is32.alloc (heap_alloc_new w _) _) _, Is32.alloc ?_ _, ?_⟩
    · have := heap_alloc_new (w.alloc (.cells (u32c hst) 177)) (.cells (u32c (List.replicate 8 0)) 177)
      rw [World.size_alloc] at this
      exact this
    · have := heap_alloc_new ((w.alloc (.cells (u32c hst) 177)).alloc (.cells (u32c (List.replicate 8 0)) 177)) (.cells (u32c (List.replicate 64 0)) 191)
      rw [World.size_alloc, World.size_alloc] at this
      exact this
  case round =>
    obtain ⟨k, hk, rfl, hbw, hI0, hI1, hIW⟩ := hrel
    by_cases hlt : k < 16
    · have g0 : (0 : Int) ≤ (k : Int) := by omega
      have g1 : (k : Int) < 16 := by omega
      have q0 : (0 : Int) ≤ 4 * (k : Int) := by omega
      have q1 : 4 * (k : Int) < 64 := by omega
      have q2 : (0 : Int) ≤ 4 * (k : Int) + 1 := by omega
      have q3 : 4 * (k : Int) + 1 < 64 := by omega
      have q4 : (0 : Int) ≤ 4 * (k : Int) + 2 := by omega
      have q5 : 4 * (k : Int) + 2 < 64 := by omega
      have q6 : (0 : Int) ≤ 4 * (k : Int) + 3 := by omega
      have q7 : 4 * (k : Int) + 3 < 64 := by omega
      have q8 : (k : Int) < 64 := by omega
      have r0 : IntKind.i64.wrap (4 * (k : Int)) = 4 * (k : Int) := IntWalk.i64_in _ (by omega)
      have r1 : IntKind.i64.wrap (4 * (k : Int) + 1) = 4 * (k : Int) + 1 := IntWalk.i64_in _ (by omega)
      have r2 : IntKind.i64.wrap (4 * (k : Int) + 2) = 4 * (k : Int) + 2 := IntWalk.i64_in _ (by omega)
      have r3 : IntKind.i64.wrap (4 * (k : Int) + 3) = 4 * (k : Int) + 3 := IntWalk.i64_in _ (by omega)
      have t0 : (4 * (k : Int)).toNat = 4 * k := by omega
      have t1 : (4 * (k : Int) + 1).toNat = 4 * k + 1 := by omega
      have t2 : (4 * (k : Int) + 2).toNat = 4 * k + 2 := by omega
      have t3 : (4 * (k : Int) + 3).toNat = 4 * k + 3 := by omega
      have e0 : wr.cell? ⟨g, off + 4 * k, none⟩ = some (.int .u8 ((bs.getD (4 * k) 0).toNat : Int)) := (hbw.cell (p := ⟨g, off + 4 * k, none⟩) hg).trans (HC.out (4 * k) (by omega))
      have e1 : wr.cell? ⟨g, off + (4 * k + 1), none⟩ = some (.int .u8 ((bs.getD (4 * k + 1) 0).toNat : Int)) := (hbw.cell (p := ⟨g, off + (4 * k + 1), none⟩) hg).trans (HC.out (4 * k + 1) (by omega))
      have e2 : wr.cell? ⟨g, off + (4 * k + 2), none⟩ = some (.int .u8 ((bs.getD (4 * k + 2) 0).toNat : Int)) := (hbw.cell (p := ⟨g, off + (4 * k + 2), none⟩) hg).trans (HC.out (4 * k + 2) (by omega))
      have e3 : wr.cell? ⟨g, off + (4 * k + 3), none⟩ = some (.int .u8 ((bs.getD (4 * k + 3) 0).toNat : Int)) := (hbw.cell (p := ⟨g, off + (4 * k + 3), none⟩) hg).trans (HC.out (4 * k + 3) (by omega))
      have ew : wr.cell? ⟨w.heap.size + 1 + 1, k, none⟩ = some (.int .u32 ((w1F bs k).getD k 0)) := hIW.cell (by rw [w1F_length]; omega)
      have fw : wr.frozen? ⟨w.heap.size + 1 + 1, k, none⟩ = false := hIW.frozen k
      go_wp2_with fail
      go_still_tail 35, (by kernel_rfl)
      change wpList _ _ _ _ _ wr.drew
      clear e0 e1 e2 e3 q0 q1 q2 q3 q4 q5 q6 q7 r0 r1 r2 r3 t0 t1 t2 t3
      go_wp2_with fail
      have hI0' := (hI0.far (p := ⟨w.heap.size + 1 + 1, k, none⟩) (by show _ ≠ _; simp; omega) (.int .u32 (beF bs k)))
      have hI1' := (hI1.far (p := ⟨w.heap.size + 1 + 1, k, none⟩) (by show _ ≠ _; simp) (.int .u32 (beF bs k)))
      have hIW' := hIW.set k (beF bs k)
      have hbw' := hbw.setCell (p := ⟨w.heap.size + 1 + 1, k, none⟩) (by show _ ≤ w.heap.size + 1 + 1; omega) (.int .u32 (beF bs k))
      clear hI0 hI1 hIW hbw ew fw
      go_roundw
      case rel => exact ⟨k + 1, by omega, by go_num, hbw'.drew, hI0'.drew, hI1'.drew, hIW'.drew⟩
      case measure => simp [intOf]; omega
    · have hk16 : k = 16 := by omega
      subst hk16
      clear hk hlt
      go_wp2_with fail
      obtain ⟨wo, rfl⟩ : ∃ wo : World, wo = wr := ⟨_, rfl⟩
      go_loopw [7] (fun i wr => ∃ n : Nat, 16 ≤ n ∧ n ≤ 64 ∧ i = .int .i64 n ∧ Below w.heap.size w wr ∧ Is32 wr w.heap.size 177 hst ∧ Is32 wr (w.heap.size + 1) 177 (List.replicate 8 0) ∧ Is32 wr (w.heap.size + 1 + 1) 191 (w2F bs (n - 16))) (fun i _ => 64 - (intOf i).toNat)
      case atStart => exact ⟨16, by omega, by omega, rfl, hbw, hI0, hI1, hIW⟩
      case round =>
        clear hbw hI0 hI1 hIW
        obtain ⟨n, hn, hn64, rfl, hbw, hI0, hI1, hIW⟩ := hrel
        by_cases hlt : n < 64
        · have g0 : (0 : Int) ≤ (n : Int) := by omega
          have g1 : (n : Int) < 64 := by omega
          have q0a : (15 : Int) ≤ (n : Int) := by omega
          have q0b : (0 : Int) ≤ (n : Int) - 15 := by omega
          have q0c : (n : Int) - 15 < 64 := by omega
          have r0 : IntKind.i64.wrap ((n : Int) - 15) = (n : Int) - 15 := IntWalk.i64_in _ (by omega)
          have t0 : ((n : Int) - 15).toNat = n - 15 := by omega
          have e0 : wr.cell? ⟨w.heap.size + 1 + 1, n - 15, none⟩ = some (.int .u32 ((w2F bs (n - 16))[n - 15]?.getD 0)) := hIW.cell (by rw [w2F_length]; omega)
          have q1a : (2 : Int) ≤ (n : Int) := by omega
          have q1b : (0 : Int) ≤ (n : Int) - 2 := by omega
          have q1c : (n : Int) - 2 < 64 := by omega
          have r1 : IntKind.i64.wrap ((n : Int) - 2) = (n : Int) - 2 := IntWalk.i64_in _ (by omega)
          have t1 : ((n : Int) - 2).toNat = n - 2 := by omega
          have e1 : wr.cell? ⟨w.heap.size + 1 + 1, n - 2, none⟩ = some (.int .u32 ((w2F bs (n - 16))[n - 2]?.getD 0)) := hIW.cell (by rw [w2F_length]; omega)
          have q2a : (16 : Int) ≤ (n : Int) := by omega
          have q2b : (0 : Int) ≤ (n : Int) - 16 := by omega
          have q2c : (n : Int) - 16 < 64 := by omega
          have r2 : IntKind.i64.wrap ((n : Int) - 16) = (n : Int) - 16 := IntWalk.i64_in _ (by omega)
          have t2 : ((n : Int) - 16).toNat = n - 16 := by omega
          have e2 : wr.cell? ⟨w.heap.size + 1 + 1, n - 16, none⟩ = some (.int .u32 ((w2F bs (n - 16))[n - 16]?.getD 0)) := hIW.cell (by rw [w2F_length]; omega)
          have q3a : (7 : Int) ≤ (n : Int) := by omega
          have q3b : (0 : Int) ≤ (n : Int) - 7 := by omega
          have q3c : (n : Int) - 7 < 64 := by omega
          have r3 : IntKind.i64.wrap ((n : Int) - 7) = (n : Int) - 7 := IntWalk.i64_in _ (by omega)
          have t3 : ((n : Int) - 7).toNat = n - 7 := by omega
          have e3 : wr.cell? ⟨w.heap.size + 1 + 1, n - 7, none⟩ = some (.int .u32 ((w2F bs (n - 16))[n - 7]?.getD 0)) := hIW.cell (by rw [w2F_length]; omega)
          have ew : wr.cell? ⟨w.heap.size + 1 + 1, n, none⟩ = some (.int .u32 ((w2F bs (n - 16))[n]?.getD 0)) := hIW.cell (by rw [w2F_length]; omega)
          have fw : wr.frozen? ⟨w.heap.size + 1 + 1, n, none⟩ = false := hIW.frozen _
          go_wp2_with fail
          refine still_lit_drew (by kernel_rfl) (by kernel_rfl) ?_
          repeat still_step
          refine wpStill_nil ?_
          go_wp2_with fail
          refine (turned_7 _ _).mono ?_
          rintro e w' ⟨rfl, rfl⟩
          go_wp2_with fail
          refine (turned_18 _ _).mono ?_
          rintro e w' ⟨rfl, rfl⟩
          go_wp2_with fail
          refine (turned_17 _ _).mono ?_
          rintro e w' ⟨rfl, rfl⟩
          go_wp2_with fail
          refine (turned_19 _ _).mono ?_
          rintro e w' ⟨rfl, rfl⟩
          go_wp2_with fail
          refine still_tail_drew 15 (by kernel_rfl) (by kernel_rfl) ?_
          simp only [List.take_succ_cons, List.take_zero, List.drop_succ_cons, List.drop_zero]
          repeat still_step
          refine wpStill_nil ?_
          clear e0 e1 e2 e3 q0a q0b q0c q1a q1b q1c q2a q2b q2c q3a q3b q3c r0 r1 r2 r3 t0 t1 t2 t3
          go_wp2_with fail
          have hI0' := (hI0.far (p := ⟨w.heap.size + 1 + 1, n, none⟩) (by show _ ≠ _; simp; omega) (.int .u32 (mixF (w2F bs (n - 16)) n)))
          have hI1' := (hI1.far (p := ⟨w.heap.size + 1 + 1, n, none⟩) (by show _ ≠ _; simp) (.int .u32 (mixF (w2F bs (n - 16)) n)))
          have hIW' := hIW.set n (mixF (w2F bs (n - 16)) n)
          rw [← w2F_succ bs n hn] at hIW'
          have hbw' := hbw.setCell (p := ⟨w.heap.size + 1 + 1, n, none⟩) (by show _ ≤ w.heap.size + 1 + 1; omega) (.int .u32 (mixF (w2F bs (n - 16)) n))
          clear hI0 hI1 hIW hbw ew fw
          go_roundw
          case rel => (repeat apply Exists.intro); exact ⟨⟨n + 1, by omega, by omega, by go_num, hbw'.drew.drew, hI0'.drew.drew, hI1'.drew.drew, hIW'.drew.drew⟩, rfl⟩
          case measure => simp [intOf]; omega
        · have hn64' : n = 64 := by omega
          subst hn64'
          clear hn hn64 hlt
          have hsz := hIW.lt
          go_wp2_with (first | (refine wpList_load_row rfl 177 _ rfl w.heap.size rfl 177 (u32c hst) (0, 0) _ hI0 Tryd.underlying177 rfl (by rw [u32c_size, hh]; exact Tryd.size8) ?_) | (refine wpList_store_row rfl _ _ _ rfl wr.heap.size (u32c hst) rfl rfl 177 _ (heap_alloc_new wr _) (by rw [u32c_size, hh]; exact Tryd.size8) (by rw [u32c_size, hh]; rfl) (u32c_one hst) ?_))
          have jb := below_setRow (hbw.alloc hbw.size (.cells (u32c (List.replicate 8 0)) 177)) hbw.size (u32c hst)
          have jV : Is32 ((wr.alloc (.cells (u32c (List.replicate 8 0)) 177)).setRow wr.heap.size (u32c hst)) wr.heap.size 177 hst := Is32.row (l := List.replicate 8 0) (heap_alloc_new wr _)
          have j0 := (hI0.alloc (.cells (u32c (List.replicate 8 0)) 177)).rowFar (g' := wr.heap.size) (cs := u32c hst) (by omega)
          have j1 := (hI1.alloc (.cells (u32c (List.replicate 8 0)) 177)).rowFar (g' := wr.heap.size) (cs := u32c hst) (by omega)
          have jW := (hIW.alloc (.cells (u32c (List.replicate 8 0)) 177)).rowFar (g' := wr.heap.size) (cs := u32c hst) (by omega)
          refine (constants_any _).mono ?_
          rintro e w3 ⟨rfl, hb3⟩
          have kb := jb.trans (hb3.mono jb.size)
          have kV := jV.below hb3 jV.lt
          have k0 := j0.below hb3 j0.lt
          have k1 := j1.below hb3 j1.lt
          have kW := jW.below hb3 jW.lt
          have hVs : w.heap.size + 1 + 1 < wr.heap.size := hsz
          clear jb jV j0 j1 jW hb3 hI0 hI1 hIW hbw hsz
          generalize hVe : wr.heap.size = V at *
          clear hVe
          go_wp2_with fail
          obtain ⟨wo, rfl⟩ : ∃ wo : World, wo = wr := ⟨_, rfl⟩
          go_loopw [108] (fun i wr => ∃ k : Nat, k ≤ 64 ∧ i = .int .i64 k ∧ Below w.heap.size w wr ∧ Is32 wr w.heap.size 177 hst ∧ Is32 wr (w.heap.size + 1) 177 (List.replicate 8 0) ∧ Is32 wr (w.heap.size + 1 + 1) 191 (w2F bs 48) ∧ Is32 wr V 177 (roundsF hst (w2F bs 48) k)) (fun i _ => 64 - (intOf i).toNat)
          case atStart => exact ⟨0, by omega, rfl, kb, k0, k1, kW, kV⟩
          case round =>
            clear kb kV k0 k1 kW
            obtain ⟨k, hk, rfl, hbw, hI0, hI1, hIW, hIV⟩ := hrel
            by_cases hlt : k < 64
            · have g0 : (0 : Int) ≤ (k : Int) := by omega
              have g1 : (k : Int) < 64 := by omega
              have hix : ∀ w', (Instr.index 191 (.agg kTab) (.int .i64 (k : Int))).run Tryd.prog w' = .ok (.int .u32 (kNums[k]?.getD 0)) w' := fun w' => index_kTab w' k hlt
              have ew : wr.cell? ⟨w.heap.size + 1 + 1, k, none⟩ = some (.int .u32 ((w2F bs 48)[k]?.getD 0)) := hIW.cell (by rw [w2F_length]; omega)
              have c0 : wr.cell? ⟨V, 0, none⟩ = some (.int .u32 ((roundsF hst (w2F bs 48) k)[0]?.getD 0)) := hIV.cell (j := 0) (by rw [roundsF_length _ _ hh]; omega)
              have c1 : wr.cell? ⟨V, 1, none⟩ = some (.int .u32 ((roundsF hst (w2F bs 48) k)[1]?.getD 0)) := hIV.cell (j := 1) (by rw [roundsF_length _ _ hh]; omega)
              have c2 : wr.cell? ⟨V, 2, none⟩ = some (.int .u32 ((roundsF hst (w2F bs 48) k)[2]?.getD 0)) := hIV.cell (j := 2) (by rw [roundsF_length _ _ hh]; omega)
              have c3 : wr.cell? ⟨V, 3, none⟩ = some (.int .u32 ((roundsF hst (w2F bs 48) k)[3]?.getD 0)) := hIV.cell (j := 3) (by rw [roundsF_length _ _ hh]; omega)
              have c4 : wr.cell? ⟨V, 4, none⟩ = some (.int .u32 ((roundsF hst (w2F bs 48) k)[4]?.getD 0)) := hIV.cell (j := 4) (by rw [roundsF_length _ _ hh]; omega)
              have c5 : wr.cell? ⟨V, 5, none⟩ = some (.int .u32 ((roundsF hst (w2F bs 48) k)[5]?.getD 0)) := hIV.cell (j := 5) (by rw [roundsF_length _ _ hh]; omega)
              have c6 : wr.cell? ⟨V, 6, none⟩ = some (.int .u32 ((roundsF hst (w2F bs 48) k)[6]?.getD 0)) := hIV.cell (j := 6) (by rw [roundsF_length _ _ hh]; omega)
              have c7 : wr.cell? ⟨V, 7, none⟩ = some (.int .u32 ((roundsF hst (w2F bs 48) k)[7]?.getD 0)) := hIV.cell (j := 7) (by rw [roundsF_length _ _ hh]; omega)
              go_wp2_with fail
              refine still_lit_drew (by kernel_rfl) (by kernel_rfl) ?_
              repeat still_step
              refine wpStill_nil ?_
              go_wp2_with fail
              refine still_lit_drew (by kernel_rfl) (by kernel_rfl) ?_
              still_step
              still_step
              still_step
              refine wpStill_step (fun K hK => ?_)
              go_simp
              refine ⟨_, (turned_6 _ _).mono (fun _ _ ⟨a, b⟩ => ⟨a, b.symm⟩), hK _ ?_⟩
              clear hK K
              still_step
              refine wpStill_step (fun K hK => ?_)
              go_simp
              refine ⟨_, (turned_11 _ _).mono (fun _ _ ⟨a, b⟩ => ⟨a, b.symm⟩), hK _ ?_⟩
              clear hK K
              still_step
              still_step
              refine wpStill_step (fun K hK => ?_)
              go_simp
              refine ⟨_, (turned_25 _ _).mono (fun _ _ ⟨a, b⟩ => ⟨a, b.symm⟩), hK _ ?_⟩
              clear hK K
              repeat still_step
              refine wpStill_nil ?_
              go_wp2_with fail
              refine (turned_2 _ _).mono ?_
              rintro e w' ⟨rfl, rfl⟩
              go_wp2_with fail
              refine (turned_13 _ _).mono ?_
              rintro e w' ⟨rfl, rfl⟩
              go_wp2_with fail
              refine (turned_22 _ _).mono ?_
              rintro e w' ⟨rfl, rfl⟩
              have jb := below_setRow hbw (g := V) (by omega) (u32c (roundsF hst (w2F bs 48) (k + 1)))
              have jV : Is32 (wr.setRow V (u32c (roundsF hst (w2F bs 48) (k + 1)))) V 177 (roundsF hst (w2F bs 48) (k + 1)) := Is32.row hIV
              have j0 := hI0.rowFar (g' := V) (cs := u32c (roundsF hst (w2F bs 48) (k + 1))) (by omega)
              have j1 := hI1.rowFar (g' := V) (cs := u32c (roundsF hst (w2F bs 48) (k + 1))) (by omega)
              have jW := hIW.rowFar (g' := V) (cs := u32c (roundsF hst (w2F bs 48) (k + 1))) (by omega)
              clear hI0 hI1 hIW hbw c0 c1 c2 c4 c5 c6 c7 ew hix
              go_wp2_with (refine wpList_store_row rfl _ _ _ rfl V (u32c (roundsF hst (w2F bs 48) (k + 1))) rfl rfl 177 _ hIV (by rw [u32c_size]; exact Tryd.size8) (by rw [u32c_size, u32c_size, roundsF_length _ _ hh, roundsF_length _ _ hh]) (u32c_one _) ?_)
              go_roundw
              case rel => exact ⟨k + 1, by omega, by go_num, jb.drew.drew, j0.drew.drew, j1.drew.drew, jW.drew.drew, jV.drew.drew⟩
              case measure => simp [intOf]; omega
            · have hk64 : k = 64 := by omega
              subst hk64
              clear hk hlt
              go_wp2_with fail
              obtain ⟨wo, rfl⟩ : ∃ wo : World, wo = wr := ⟨_, rfl⟩
              go_loopw [185] (fun i wr => ∃ k : Nat, k ≤ 8 ∧ i = .int .i64 k ∧ Below w.heap.size w wr ∧ Is32 wr w.heap.size 177 (sumF hst (roundsF hst (w2F bs 48) 64) k) ∧ Is32 wr (w.heap.size + 1) 177 (List.replicate 8 0) ∧ Is32 wr V 177 (roundsF hst (w2F bs 48) 64)) (fun i _ => 8 - (intOf i).toNat)
              case atStart => exact ⟨0, by omega, rfl, hbw, hI0, hI1, hIV⟩
              case round =>
                clear hbw hI0 hI1 hIV hIW
                obtain ⟨k, hk, rfl, hbw, hI0, hI1, hIV⟩ := hrel
                by_cases hlt : k < 8
                · have g0 : (0 : Int) ≤ (k : Int) := by omega
                  have g1 : (k : Int) < 8 := by omega
                  have e0 : wr.cell? ⟨w.heap.size, k, none⟩ = some (.int .u32 ((sumF hst (roundsF hst (w2F bs 48) 64) k)[k]?.getD 0)) := hI0.cell (by rw [sumF_length, hh]; omega)
                  have e1 : wr.cell? ⟨V, k, none⟩ = some (.int .u32 ((roundsF hst (w2F bs 48) 64)[k]?.getD 0)) := hIV.cell (by rw [roundsF_length _ _ hh]; omega)
                  have fw : wr.frozen? ⟨w.heap.size, k, none⟩ = false := hI0.frozen k
                  go_wp2_with fail
                  refine still_tail_drew 8 (by kernel_rfl) (by kernel_rfl) ?_
                  simp only [List.take_succ_cons, List.take_zero, List.drop_succ_cons, List.drop_zero]
                  repeat still_step
                  refine wpStill_nil ?_
                  go_wp2_with fail
                  have hI0' := hI0.set k (((sumF hst (roundsF hst (w2F bs 48) 64) k)[k]?.getD 0 + (roundsF hst (w2F bs 48) 64)[k]?.getD 0) % 4294967296)
                  have hI1' := hI1.far (p := ⟨w.heap.size, k, none⟩) (by show _ ≠ _; simp) (.int .u32 (((sumF hst (roundsF hst (w2F bs 48) 64) k)[k]?.getD 0 + (roundsF hst (w2F bs 48) 64)[k]?.getD 0) % 4294967296))
                  have hIV' := hIV.far (p := ⟨w.heap.size, k, none⟩) (by show _ ≠ _; simp; omega) (.int .u32 (((sumF hst (roundsF hst (w2F bs 48) 64) k)[k]?.getD 0 + (roundsF hst (w2F bs 48) 64)[k]?.getD 0) % 4294967296))
                  have hbw' := hbw.setCell (p := ⟨w.heap.size, k, none⟩) (Nat.le_refl _) (.int .u32 (((sumF hst (roundsF hst (w2F bs 48) 64) k)[k]?.getD 0 + (roundsF hst (w2F bs 48) 64)[k]?.getD 0) % 4294967296))
                  clear hI0 hI1 hIV hbw e0 e1 fw
                  go_roundw
                  case rel => (repeat apply Exists.intro); exact ⟨⟨k + 1, by omega, by go_num, hbw'.drew, hI0'.drew, hI1'.drew, hIV'.drew⟩, rfl⟩
                  case measure => simp [intOf]; omega
                · have hk8 : k = 8 := by omega
                  subst hk8
                  clear hk hlt
                  have h1 := hI1
                  have hl8 : (sumF hst (roundsF hst (w2F bs 48) 64) 8).length = 8 := by rw [sumF_length]; exact hh
                  go_wp2_with (first | (refine wpList_load_row rfl 177 _ rfl w.heap.size rfl 177 (u32c (sumF hst (roundsF hst (w2F bs 48) 64) 8)) (0, 0) _ hI0 Tryd.underlying177 rfl (by rw [u32c_size, hl8]; exact Tryd.size8) ?_) | (refine wpList_store_row rfl _ _ _ rfl (w.heap.size + 1) (u32c (sumF hst (roundsF hst (w2F bs 48) 64) 8)) rfl rfl 177 _ hI1 (by rw [u32c_size, hl8]; exact Tryd.size8) (by rw [u32c_size, u32c_size, hl8]; rfl) (u32c_one _) ?_))
                  exact bodyPost_ret (results_cell_row rfl _ _ (w.heap.size + 1) 177 (u32c (sumF hst (roundsF hst (w2F bs 48) 64) 8)) (0, 0) _ rfl (setRow_heap _ _ _ _ _ _ h1) Tryd.underlying177 rfl (by rw [u32c_size, hl8]; exact Tryd.size8)) rfl ⟨rfl, below_setRow hbw (by omega) _⟩
end Go.Proofs.YtlbolbkikkiifaaDoor
/- A slice of bytes that lies anywhere in a block of its own: reading, cutting, a text put behind it. Any program. -/
namespace Go.Proofs.YtlbolbkikkiifaaDoor
open Go.RowKit

/-- v holds the bytes l, in a block from B on (or is nil) -/
def OffRow (w : World) (B : Nat) (e : TypeId) (v : Value) (l : List UInt8) : Prop :=
  (v = .slice none 0 0 ∧ l = []) ∨
  ∃ b off cap cur, v = .slice (some ⟨b, off, none⟩) l.length cap ∧ B ≤ b ∧ w.heap[b]? = some (.cells cur e (0, 0)) ∧ off + cap ≤ cur.size ∧ l.length ≤ cap ∧ cap ≤ maxLen ∧
    ∀ j, j < l.length → cur[off + j]? = some (.int .u8 ((l.getD j 0).toNat : Int))

section
variable {w w' : World} {B : Nat} {e : TypeId} {v : Value} {l : List UInt8}
theorem OffRow.nil (w : World) (B : Nat) (e : TypeId) : OffRow w B e (.slice none 0 0) [] := .inl ⟨rfl, rfl⟩
theorem OffRow.keep (h : OffRow w B e v l) (hk : ∀ b, v.ownBlock = some b → w'.heap[b]? = w.heap[b]?) : OffRow w' B e v l := by
  rcases h with h | ⟨b, off, cap, cur, rfl, hB, hh, r⟩
  · exact .inl h
  · exact .inr ⟨b, off, cap, cur, rfl, hB, (hk b rfl).trans hh, r⟩
theorem OffRow.lt (h : OffRow w B e v l) : ∀ b, v.ownBlock = some b → B ≤ b ∧ b < w.heap.size := by
  rcases h with ⟨rfl, _⟩ | ⟨b, off, cap, cur, rfl, hB, hh, r⟩
  · intro b hb; simp [Value.ownBlock] at hb
  · intro b' hb
    simp [Value.ownBlock] at hb
    subst hb
    refine ⟨hB, ?_⟩
    rcases Nat.lt_or_ge b w.heap.size with h | h
    · exact h
    · rw [Array.getElem?_eq_none h] at hh; cases hh
theorem OffRow.ne_block (h : OffRow w B e v l) {g : Nat} {cs : Array Value} {t : TypeId} {fr : Nat × Nat} (hg : w.heap[g]? = some (.cells cs t fr)) (hne : e ≠ t) : v.ownBlock ≠ some g := by
  rcases h with ⟨rfl, _⟩ | ⟨b, off, cap, cur, rfl, hB, hh, r⟩
  · simp [Value.ownBlock]
  · intro hb
    simp [Value.ownBlock] at hb
    subst hb
    rw [hh] at hg
    simp only [Option.some.injEq, Obj.cells.injEq] at hg
    exact hne hg.2.1
theorem OffRow.below {B' : Nat} (h : OffRow w B e v l) (hb : Below B' w w') (hB : w.heap.size ≤ B') : OffRow w' B e v l := h.keep fun b hb' => hb.block b (Nat.lt_of_lt_of_le (h.lt b hb').2 hB)
theorem OffRow.len (h : OffRow w B e v l) : ∃ a c, v = .slice a l.length c := by
  rcases h with ⟨rfl, rfl⟩ | ⟨b, off, cap, cur, rfl, _⟩
  · exact ⟨_, _, rfl⟩
  · exact ⟨_, _, rfl⟩
theorem OffRow.of_own (h : w.ownsRow B e 1 v l.length (byteCells l)) : OffRow w B e v l := by
  rcases h.2 with ⟨rfl, h0⟩ | ⟨g, cap, cur, rfl, hB, hh, hn, hm, hs, ht⟩
  · exact .inl ⟨rfl, List.eq_nil_of_length_eq_zero h0⟩
  · refine .inr ⟨g, 0, cap, cur, rfl, hB, hh, by omega, hn, hm, fun j hj => ?_⟩
    have h1 : (cur.toList.take (l.length * 1))[j]? = (byteCells l)[j]? := by rw [ht]
    rw [List.getElem?_take_of_lt (by omega)] at h1
    simp [byteCells, hj] at h1
    simpa [hj] using h1

/-- a cut ahead: s[k:] -/
theorem OffRow.cut {b off cap : Nat} {k : Nat} (h : OffRow w B e (.slice (some ⟨b, off, none⟩) l.length cap) l) (hk : k ≤ l.length) :
    OffRow w B e (.slice (if cap = k then some ⟨b, off, none⟩ else some ⟨b, off + k, none⟩) (l.length - k) (cap - k)) (l.drop k) := by
  rcases h with ⟨h1, _⟩ | ⟨b', off', cap', cur, hv, hB, hh, hs, hl, hm, hc⟩
  · cases h1
  · simp only [Value.slice.injEq, Option.some.injEq, Addr.mk.injEq, and_true, true_and] at hv
    obtain ⟨⟨rfl, rfl⟩, rfl⟩ := hv
    by_cases hck : cap = k
    · rw [if_pos hck]
      have h0 : l.drop k = [] := List.drop_eq_nil_of_le (by omega)
      rw [h0]
      exact .inr ⟨b, off, cap - k, cur, by simp; omega, hB, hh, by omega, by simp, by omega, fun j hj => by simp at hj⟩
    · rw [if_neg hck]
      refine .inr ⟨b, off + k, cap - k, cur, by simp, hB, hh, by omega, by simp; omega, by omega, fun j hj => ?_⟩
      have hj' : j < l.length - k := by simpa using hj
      have := hc (k + j) (by omega)
      rw [show off + k + j = off + (k + j) by omega, this]
      simp [List.getD]
theorem OffRow.cells {b off cap : Nat} (h : OffRow w B e (.slice (some ⟨b, off, none⟩) l.length cap) l) (j : Nat) (hj : j < l.length) : w.cell? ⟨b, off + j, none⟩ = some (.int .u8 ((l.getD j 0).toNat : Int)) := by
  rcases h with ⟨h1, _⟩ | ⟨b', off', cap', cur, hv, hB, hh, hs, hl, hm, hc⟩
  · cases h1
  · simp only [Value.slice.injEq, Option.some.injEq, Addr.mk.injEq, and_true, true_and] at hv
    obtain ⟨⟨rfl, rfl⟩, rfl⟩ := hv
    rw [cell_of_row w b (off + j) cur e (0, 0) hh, hc j hj]
theorem OffRow.form (h : OffRow w B e v l) (hl : 0 < l.length) : ∃ b off cap, v = .slice (some ⟨b, off, none⟩) l.length cap ∧ l.length ≤ cap := by
  rcases h with ⟨_, rfl⟩ | ⟨b, off, cap, cur, rfl, _, _, _, h4, _⟩
  · simp at hl
  · exact ⟨b, off, cap, rfl, h4⟩

theorem strCells_eq (s : ByteArray) : Lib.strCells s = byteCells s.data.toList := rfl
theorem byteCells_getD {l : List UInt8} {j : Nat} (hj : j < l.length) : (byteCells l)[j]? = some (.int .u8 ((l.getD j 0).toNat : Int)) := by simp [byteCells, hj]

theorem run_append_off_string {P : Program} (w : World) (t u ty : TypeId) (i : TypeInfo) (ht : P.underlying t = some (.slice e)) (hu : P.underlying u = some .string) (hi : P.info? e = some i) (hz : i.zero = some (.int .u8 0))
    (hsize : i.size = 1) (hby : i.bytes = 1) (h : OffRow w B e v l) (s : ByteArray) (hlen : l.length + s.size ≤ 1099511627776) (hbase : B ≤ w.heap.size) :
    ∃ v' w', (Builtin.append_ #[t, u] ty #[v, .string s]).run P w = .ok v' w' ∧ OffRow w' B e v' (l ++ s.data.toList) ∧ w.grownBy w' v.ownBlock ∧ (v'.ownBlock = v.ownBlock ∨ v'.ownBlock = some w.heap.size) := by
  have hss : s.data.toList.length = s.size := by simp
  rcases h with ⟨rfl, rfl⟩ | ⟨b, off, cap, cur, rfl, hB, hh, hs, hl, hm, hc⟩
  · obtain ⟨v', w', hr, h2, h3, h4⟩ := Lib.run_append_own_string (P := P) w B t u ty e i ht hu hi hz hsize hby (.slice none 0 0) 0 [] (World.ownsRow_nil w B e 1) s (by unfold maxLen; simp at hlen; omega) (by simp at hlen; omega) hbase
    have h5 : w'.ownsRow B e 1 v' s.data.toList.length (byteCells s.data.toList) := by rw [hss]; simpa [strCells_eq] using h2
    refine ⟨v', w', hr, by simpa using OffRow.of_own h5, h3, ?_⟩
    rcases h5.2 with ⟨rfl, _⟩ | ⟨g, cap, cur, rfl, _, hh, _⟩
    · exact .inl rfl
    · right
      have hz0 : ¬ s.size = 0 ∨ s.size = 0 := by omega
      rcases hz0 with hz0 | hz0
      · have hrn := run_append_nil_string (P := P) w t u ty e i (.int .u8 0) ht hu hi hz s (by omega) (by simp at hlen; omega) (by rw [hby]; simp at hlen; omega)
        rw [hrn] at hr
        simp only [Result.ok.injEq, Value.slice.injEq, Option.some.injEq, Addr.mk.injEq] at hr
        simp [Value.ownBlock, ← hr.1.1.1]
      · have := h4.2 ⟨rfl, hz0⟩
        cases this
  · by_cases hroom : l.length + s.size ≤ cap
    · have hf := Lib.run_firstCells_string (P := P) w 1 s
      have hst := run_storeCells_at P b (off + l.length) e (Lib.strCells s) 0 cur w hh (by rw [Lib.strCells_length]; omega) (Lib.strCells_oneCell s)
      simp only [Nat.add_zero, Lib.strCells_length] at hst
      refine ⟨.slice (some ⟨b, off, none⟩) (l.length + s.size) cap, w.setRow b (cur.toList.take (off + l.length) ++ Lib.strCells s ++ cur.toList.drop (off + l.length + s.size)).toArray, ?_, .inr ⟨b, off, cap, _, by simp, hB, setRow_heap w b cur _ e _ hh, ?_, by simp; omega, hm, fun j hj => ?_⟩,
        ⟨rfl, rfl, rfl, by simp, fun k _ hk => setRow_other w b k _ (fun e => hk (by simp [Value.ownBlock, e]))⟩, .inl rfl⟩
      · have ha : (⟨b, off, none⟩ : Addr).add l.length = ⟨b, off + l.length, none⟩ := by unfold Addr.add; split <;> simp_all
        simp [Builtin.append_, run_underlying ht, run_underlying hu, sizeOf, typeInfo, hi, hsize, Builtin.lenOf, hroom, hf, ha, hst]
      · simp only [List.size_toArray, List.length_append, List.length_take, List.length_drop, Array.length_toList, Lib.strCells_length]; omega
      · simp only [List.getElem?_toArray, strCells_eq]
        by_cases hjl : j < l.length
        · rw [List.append_assoc, List.getElem?_append_left (by simp; omega), List.getElem?_take_of_lt (by omega), Array.getElem?_toList, hc j hjl]
          simp [List.getD, List.getElem?_append_left hjl]
        · have hj2 : j - l.length < s.data.toList.length := by simp at hj; omega
          rw [List.append_assoc, List.getElem?_append_right (by simp; omega), List.getElem?_append_left (by simp [byteCells]; omega)]
          have hmin : min (off + l.length) cur.size = off + l.length := by omega
          rw [show off + j - (cur.toList.take (off + l.length)).length = j - l.length by simp [hmin]; omega, byteCells_getD hj2]
          simp only [List.getD]
          rw [List.getElem?_append_right (by omega)]
    · have hr := Lib.run_append_grow_string (P := P) w t u ty e i (.int .u8 0) ht hu hi hz ⟨b, off, none⟩ l.length cap (byteCells l) (by rw [hsize]; simp [byteCells]) (fun j v hv => by
          have hjl : j < l.length := by have := (List.getElem?_eq_some_iff.1 hv).1; simpa [byteCells] using this
          have ha : (⟨b, off, none⟩ : Addr).add j = ⟨b, off + j, none⟩ := by unfold Addr.add; split <;> simp_all
          rw [ha, cell_of_row w b (off + j) cur e (0, 0) hh, hc j hjl, ← byteCells_getD hjl, hv]) s (by omega) (by omega) (by rw [hby]; exact growslice_fits (by omega) (by omega))
      have hge := grownCap_ge w (l.length + s.size) cap e
      have hcm : grownCap w (l.length + s.size) cap e ≤ maxLen := grownCap_le_maxLen w (l.length + s.size) cap e (by unfold maxLen; omega)
      refine ⟨_, _, hr, .inr ⟨w.heap.size, 0, _, _, by simp, hbase, heap_alloc_new w.drew _, ?_, by simp; omega, hcm, fun j hj => ?_⟩, ⟨rfl, rfl, rfl, by simp, fun k hk _ => Below.heap_alloc w.drew _ k hk⟩, .inr rfl⟩
      · have hz1 : (Value.int IntKind.u8 0).cells.size = 1 := rfl
        simp only [Array.size_append, List.size_toArray, size_zeroCells, hz1, Lib.strCells_length, byteCells_length]
        omega
      · have hj' : j < (byteCells l).length + (Lib.strCells s).length := by rw [byteCells_length, Lib.strCells_length]; simpa using hj
        rw [Nat.zero_add, Array.getElem?_append_left (by simpa using hj')]
        simp only [List.append_toArray, List.getElem?_toArray]
        rw [strCells_eq, ← byteCells_append]
        exact byteCells_getD hj

theorem wpList_append_off_string {P : Program} (w : World) {ops : Array Oper} {rest : List Oper} {o : Oper} {a : Act} {Q : Exit → Act → World → Prop} (hgd : o.guard = none) (sl x : Operand) (t u : TypeId)
    (ho : o.op = .call { callee := .builtin .append, args := #[sl, x], argTypes := #[t, u] })
    (i : TypeInfo) (ht : P.underlying t = some (.slice e)) (hu : P.underlying u = some .string) (hi : P.info? e = some i) (hz : i.zero = some (.int .u8 0))
    (hsize : i.size = 1) (hby : i.bytes = 1) (v : Value) (hs : a.eval sl = v) (hrow : OffRow w B e v l) (s : ByteArray) (hx : a.eval x = .string s) (hlen : l.length + s.size ≤ 1099511627776) (hbase : B ≤ w.heap.size)
    (h : ∀ v' w', OffRow w' B e v' (l ++ s.data.toList) → w.grownBy w' v.ownBlock → (v'.ownBlock = v.ownBlock ∨ v'.ownBlock = some w.heap.size) → wpList P ops Q rest (a.put o.dst v') w') : wpList P ops Q (o :: rest) a w := by
  refine wpList_plain hgd fun K hK => ?_
  obtain ⟨v', w', hr, h2, h3, h4⟩ := run_append_off_string (P := P) w t u o.type i ht hu hi hz hsize hby hrow s hlen hbase
  unfold Oper.wp execOp
  simp only [ho, resolve, invoke, builtin, Sem.run_bind, Sem.run_pure, Result.andThen_ok, List.map_toArray, List.map_cons, List.map_nil, hs, hx, hr]
  exact hK _ _ (h v' w' h2 h3 h4)

def spliced (cur : Array Value) (off : Nat) (cells : Array Value) : Array Value := (cur.toList.take off ++ cells.toList ++ cur.toList.drop (off + cells.size)).toArray
/-- an array stored into the midst of a block -/
theorem wpList_store_at {P : Program} {ops : Array Oper} {rest : List Oper} {o : Oper} {a : Act} {w : World} {Q : Exit → Act → World → Prop} (hgd : o.guard = none) (ty : TypeId) (x y : Operand) (ho : o.op = .store ty x y)
    (g off : Nat) (cells : Array Value) (hx : a.eval x = .pointer (some ⟨g, off, none⟩)) (hy : a.eval y = .agg cells)
    (t : TypeId) (cur : Array Value) (hg : w.heap[g]? = some (.cells cur t (0, 0))) (hi : (P.info? ty).map (·.size) = some cells.size)
    (hfit : off + cells.size ≤ cur.size) (h1 : cells.all (·.oneCell') = true)
    (h : wpList P ops Q rest (a.put o.dst undef) (w.setRow g (spliced cur off cells))) : wpList P ops Q (o :: rest) a w := by
  refine wpList_plain hgd fun K hK => ?_
  have hst := run_storeCells_at P g off t cells.toList 0 cur w hg (by simpa using hfit) (fun v hv => (Array.all_eq_true_iff_forall_mem.1 h1) v (by simpa using hv))
  simp only [Nat.add_zero, Array.length_toList] at hst
  cases hq : P.info? ty with
  | none => simp [hq] at hi
  | some i =>
    have hs : i.size = cells.size := by simpa [hq] using hi
    have hrun : (storeVar ty ⟨g, off, none⟩ (.agg cells)).run P w = .ok () (w.setRow g (cur.toList.take off ++ cells.toList ++ cur.toList.drop (off + cells.size)).toArray) := by
      simp [storeVar, sizeOf, typeInfo, hq, Value.cells, hs, hst]
    unfold Oper.wp execOp
    simp only [ho, hx, hy, Instr.storeAt, Instr.sureAddr, Sem.run_bind, Sem.run_pure, Result.andThen_ok, hrun]
    exact hK _ _ h

/-- a whole block loaded: the run of the operation -/
theorem exec_load_row {P : Program} {ρ : Operand → Value} {o : Oper} (w : World) (ty : TypeId) (x : Operand) (ho : o.op = .load ty x) (g : Nat) (hx : ρ x = .pointer (some ⟨g, 0, none⟩))
    (t : TypeId) (cs : Array Value) (fr : Nat × Nat) (d : TypeDesc) (hg : w.heap[g]? = some (.cells cs t fr))
    (hu : P.underlying ty = some d) (hd : (match d with | .struct _ | .array _ _ => true | _ => false) = true) (hi : (P.info? ty).map (·.size) = some cs.size) :
    (execOp ρ o).run P w = .ok (.value (.agg cs)) w := by
  unfold execOp
  simp only [ho, hx, Instr.loadAt, Instr.sureAddr, Sem.run_bind, Sem.run_pure, Result.andThen_ok, run_loadVar_row w g t ty cs fr d hg hu hd hi]

/-- a row of bytes (or nil) put behind a row of the call's own -/
theorem wpList_append_row {P : Program} {B : Nat} {e : TypeId} {l m : List UInt8} (w : World) {ops : Array Oper} {rest : List Oper} {o : Oper} {a : Act} {Q : Exit → Act → World → Prop} (hgd : o.guard = none) (s x : Operand) (t : TypeId)
    (ho : o.op = .call { callee := .builtin .append, args := #[s, x], argTypes := #[t, t] })
    (base : Nat) (i : TypeInfo) (ht : P.underlying t = some (.slice e)) (hi : P.info? e = some i) (hz : i.zero = some (.int .u8 0))
    (hsize : i.size = 1) (hby : i.bytes = 1) (v : Value) (n : Nat) (hs : a.eval s = v) (hown : w.ownsRow base e 1 v n (byteCells l)) (xv : Value) (hx : a.eval x = xv) (hrow : OffRow w B e xv m)
    (hlen : n + m.length ≤ 1099511627776) (hbase : base ≤ w.heap.size)
    (h : ∀ v' w', w'.ownsRow base e 1 v' (n + m.length) (byteCells (l ++ m)) → w.grownBy w' v.ownBlock → wpList P ops Q rest (a.put o.dst v') w') : wpList P ops Q (o :: rest) a w := by
  rcases hrow with ⟨rfl, rfl⟩ | ⟨b, off, cap, cur, rfl, hB, hh, hs', hc, hmx, hcel⟩
  · exact wpList_append_own_none hgd s x t ho base e i 1 ht hi v n _ hs hown hx (h v w (by simpa using hown) (World.grownBy.refl w _))
  · refine wpList_append_own w hgd s x t ho base e i _ 1 1 ht hi hz hsize hby rfl (by omega) v n _ hs hown ⟨b, off, none⟩ m.length cap (byteCells m) hx (by simp [byteCells]) (fun j u hu => ?_) (by simp [byteCells]; intros; subst_vars; rfl) (by unfold maxLen; omega) (by omega) hbase
      (fun v' w' h2 h3 _ => h v' w' (by rw [byteCells_append]; exact h2) h3)
    have hj : j < m.length := by have := (List.getElem?_eq_some_iff.1 hu).1; simpa [byteCells] using this
    have ha : (⟨b, off, none⟩ : Addr).add j = ⟨b, off + j, none⟩ := by unfold Addr.add; split <;> simp_all
    rw [ha, cell_of_row w b (off + j) cur _ (0, 0) hh, hcel j hj, ← hu, byteCells_getD hj]

/-- one byte more -/
theorem own_snoc {w1 : World} {B n : Nat} {e : TypeId} {v1 : Value} {b : List UInt8} {x : UInt8} {z : Int} (h : w1.ownsRow B e 1 v1 (n + 1) (byteCells b ++ [Value.int .u8 z])) (hz : z = (x.toNat : Int)) :
    w1.ownsRow B e 1 v1 (n + 1) (byteCells (b ++ [x])) := by
  subst hz
  rw [byteCells_append]
  simpa [byteCells] using h
theorem Below.trans' {B B' : Nat} {a b c : World} (h : Below B a b) (k : Below B' b c) (hB : B ≤ B') : Below B a c := h.trans (k.mono hB)
end
end Go.Proofs.YtlbolbkikkiifaaDoor
/- The walks of seal.New, (*Hash).Write, (*Hash).Sum and seal.Sum. -/
namespace Go.Proofs.YtlbolbkikkiifaaDoor
open Go.RowKit

def hNums : List Int := [1779033703, 3144134277, 1013904242, 2773480762, 1359893119, 2600822924, 528734635, 1541459225]
theorem hTab_eq : hTab = u32c hNums := by rfl

/-- block g is a hash under way: eight numbers, the rest, how many bytes -/
def hashCells (h : List Int) (rv : Value) (many : Int) : Array Value := u32c h ++ #[rv, .int .u64 many]
def HashAt (w : World) (g : Nat) (h : List Int) (rv : Value) (many : Int) : Prop :=
  h.length = 8 ∧ w.heap[g]? = some (.cells (hashCells h rv many) 180 (0, 0))

set_option maxRecDepth 100000 in
set_option maxHeartbeats 1600000 in
theorem new_any (w : World) : Calls Tryd.prog 100 #[] w fun e w' => ∃ g, e = .returned (.pointer (some ⟨g, 0, none⟩)) ∧ w.heap.size ≤ g ∧ HashAt w' g hNums (.slice none 0 0) 0 ∧ Below w.heap.size w w' := by
  go_enter Tryd.func100, Tryd.ntmps100
  go_wp2_with fail
  refine (first_any _).mono ?_
  rintro e w1 ⟨rfl, hb1⟩
  go_wp2_with (refine wpList_build_as rfl _ _ rfl (hTab ++ #[.slice none 0 0, .int .u64 0]) (by kernel_rfl) ?_)
  go_ret
  exact ⟨_, rfl, hb1.size, ⟨rfl, heap_alloc_new w1 _⟩, hb1.alloc hb1.size _⟩

theorem eight {l : List Int} (h : l.length = 8) : ∃ a0 a1 a2 a3 a4 a5 a6 a7, l = [a0, a1, a2, a3, a4, a5, a6, a7] := by
  match l, h with
  | [a0, a1, a2, a3, a4, a5, a6, a7], _ => exact ⟨_, _, _, _, _, _, _, _, rfl⟩

section
variable {w w' : World} {g : Nat} {h : List Int} {rv : Value} {m : Int}
theorem HashAt.c8 (hA : HashAt w g h rv m) : w.cell? ⟨g, 8, none⟩ = some rv := by
  obtain ⟨h8, hb⟩ := hA
  obtain ⟨a0, a1, a2, a3, a4, a5, a6, a7, rfl⟩ := eight h8
  rw [cell_of_row w g 8 _ _ _ hb]; rfl
theorem HashAt.c9 (hA : HashAt w g h rv m) : w.cell? ⟨g, 9, none⟩ = some (.int .u64 m) := by
  obtain ⟨h8, hb⟩ := hA
  obtain ⟨a0, a1, a2, a3, a4, a5, a6, a7, rfl⟩ := eight h8
  rw [cell_of_row w g 9 _ _ _ hb]; rfl
theorem HashAt.c (hA : HashAt w g h rv m) (j : Nat) (hj : j < 8) : w.cell? ⟨g, j, none⟩ = some (.int .u32 (h.getD j 0)) := by
  obtain ⟨h8, hb⟩ := hA
  rw [cell_of_row w g j _ _ _ hb, hashCells, Array.getElem?_append_left (by rw [u32c_size]; omega), u32c_get h j (by omega)]
theorem HashAt.fz (hA : HashAt w g h rv m) (j : Nat) : w.frozen? ⟨g, j, none⟩ = false := frozen_of_row w g j _ _ hA.2
theorem HashAt.lt (hA : HashAt w g h rv m) : g < w.heap.size := World.block_lt_of_cell? w _ hA.c8
theorem HashAt.set8 (hA : HashAt w g h rv m) (v : Value) : HashAt (w.setCell ⟨g, 8, none⟩ v) g h v m := by
  obtain ⟨h8, hb⟩ := hA
  refine ⟨h8, ?_⟩
  obtain ⟨a0, a1, a2, a3, a4, a5, a6, a7, rfl⟩ := eight h8
  rw [heap_setCell_same w g 8 _ _ v hb]; rfl
theorem HashAt.set9 (hA : HashAt w g h rv m) (n : Int) : HashAt (w.setCell ⟨g, 9, none⟩ (.int .u64 n)) g h rv n := by
  obtain ⟨h8, hb⟩ := hA
  refine ⟨h8, ?_⟩
  obtain ⟨a0, a1, a2, a3, a4, a5, a6, a7, rfl⟩ := eight h8
  rw [heap_setCell_same w g 9 _ _ _ hb]; rfl
theorem HashAt.keep (hA : HashAt w g h rv m) (hk : w'.heap[g]? = w.heap[g]?) : HashAt w' g h rv m := ⟨hA.1, hk.trans hA.2⟩
/-- the eight numbers stored anew -/
theorem HashAt.row (hA : HashAt w g h rv m) {b : List Int} (hb : b.length = 8) :
    HashAt (w.setRow g (spliced (hashCells h rv m) 0 (u32c b))) g b rv m := by
  obtain ⟨h8, hc⟩ := hA
  refine ⟨hb, ?_⟩
  obtain ⟨a0, a1, a2, a3, a4, a5, a6, a7, rfl⟩ := eight h8
  obtain ⟨b0, b1, b2, b3, b4, b5, b6, b7, rfl⟩ := eight hb
  exact setRow_heap _ _ _ _ _ _ hc
end

theorem take_getD (l : List UInt8) {j k : Nat} (h : j < k) : (l.take k).getD j 0 = l.getD j 0 := by simp [List.getD, List.getElem?_take_of_lt h]

/-! what Write comes to -/
def absorb : Nat → List Int → List UInt8 → List Int × List UInt8
  | 0, h, l => (h, l)
  | n + 1, h, l => if 64 ≤ l.length then absorb n (blockF h (l.take 64)) (l.drop 64) else (h, l)
theorem absorb_more : ∀ (n m : Nat) (h : List Int) (l : List UInt8), l.length < 64 * n + 64 → l.length < 64 * m + 64 → absorb n h l = absorb m h l
  | 0, 0, _, _, _, _ => rfl
  | 0, m + 1, h, l, hn, _ => by simp [absorb]; omega
  | n + 1, 0, h, l, _, hm => by simp [absorb]; omega
  | n + 1, m + 1, h, l, hn, hm => by
    unfold absorb
    split
    · exact absorb_more n m _ _ (by simp; omega) (by simp; omega)
    · rfl
def absorbAll (h : List Int) (l : List UInt8) : List Int × List UInt8 := absorb l.length h l
theorem absorbAll_step {h : List Int} {l : List UInt8} (hl : 64 ≤ l.length) : absorbAll h l = absorbAll (blockF h (l.take 64)) (l.drop 64) := by
  unfold absorbAll
  obtain ⟨n, hn⟩ : ∃ n, l.length = n + 1 := ⟨l.length - 1, by omega⟩
  rw [hn]
  show (if 64 ≤ l.length then absorb n (blockF h (l.take 64)) (l.drop 64) else (h, l)) = _
  rw [if_pos hl]
  exact absorb_more _ _ _ _ (by simp; omega) (by simp; omega)
theorem absorbAll_end {h : List Int} {l : List UInt8} (hl : l.length < 64) : absorbAll h l = (h, l) := by
  unfold absorbAll
  cases hn : l.length with
  | zero => rfl
  | succ n => unfold absorb; rw [if_neg (by omega)]

theorem write_round {w w3 : World} {B g : Nat} {h : List Int} {rv : Value} {m : Int} {ao : Option Addr} {n c : Nat} {l' : List UInt8} (hat3 : HashAt w3 g h rv m) (hc : OffRow w3 B 5 (.slice ao n c) l')
    (hbel : Below B w w3) (hgB : B ≤ g) :
    HashAt (w3.setCell ⟨g, 8, none⟩ (.slice ao n c)) g h (.slice ao n c) m ∧ OffRow (w3.setCell ⟨g, 8, none⟩ (.slice ao n c)) B 5 (.slice ao n c) l' ∧ Below B w (w3.setCell ⟨g, 8, none⟩ (.slice ao n c)) := by
  have hne := hc.ne_block hat3.2 (by decide)
  exact ⟨hat3.set8 _, hc.keep fun b' hb' => heap_setCell_other w3 _ b' _ (by rintro rfl; exact hne hb'), hbel.setCell (p := ⟨g, 8, none⟩) hgB _⟩

set_option maxRecDepth 100000 in
set_option maxHeartbeats 1600000 in
theorem write_any (g B : Nat) (hst : List Int) (rv : Value) (many : Nat) (l : List UInt8) (s : ByteArray) (w : World) (hat : HashAt w g hst rv many) (hrow : OffRow w B 5 rv l) (hgB : B ≤ g) (hB : B ≤ w.heap.size)
    (hl : l.length ≤ 1048576) (hs : s.size ≤ 1099510579200) (hm : many ≤ 1125899906842624) :
    Calls Tryd.prog 101 #[.pointer (some ⟨g, 0, none⟩), .string s] w fun e w' => ∃ rv', e = .returned (.tuple #[]) ∧ HashAt w' g (absorbAll hst (l ++ s.data.toList)).1 rv' ((many + s.size : Nat) : Int) ∧
      OffRow w' B 5 rv' (absorbAll hst (l ++ s.data.toList)).2 ∧ Below B w w' := by
  obtain ⟨i0, hi0, hz0, hz1, hz2⟩ := info_parts Tryd.infoU8
  have hng := hrow.ne_block hat.2 (by decide)
  have hgl := hat.lt
  obtain ⟨rva, rvc, rfl⟩ := hrow.len
  have c8 := hat.c8
  have c9 := hat.c9
  have fz8 := hat.fz 8
  have fz9 := hat.fz 9
  have hw1 : IntKind.u64.wrap (s.size : Int) = (s.size : Int) := by rw [IntKind.wrap_u64]; omega
  have hat1 := hat.set9 ((many : Int) + (s.size : Int))
  have hrow0 := hrow.keep (w' := w.setCell ⟨g, 9, none⟩ (.int .u64 ((many : Int) + (s.size : Int)))) (fun b hb => heap_setCell_other w _ b _ (by rintro rfl; exact hng hb))
  have hbel0 : Below B w (w.setCell ⟨g, 9, none⟩ (.int .u64 ((many : Int) + (s.size : Int)))) := (Below.refl B w).setCell (p := ⟨g, 9, none⟩) hgB _
  have hB0 : B ≤ (w.setCell ⟨g, 9, none⟩ (.int .u64 ((many : Int) + (s.size : Int)))).heap.size := by simpa [World.setCell] using hB
  go_enter Tryd.func101, Tryd.ntmps101
  go_wp2_with (at_builtin; refine wpList_append_off_string _ rfl _ _ _ _ rfl i0 Tryd.underlying117 Tryd.underlying9 hi0 hz0 hz1 hz2 _ rfl hrow0 s rfl (by omega) hB0 ?_)
  intro v1 w1 hrow1 hgrow hown1
  have hat2 := hat1.keep (w' := w1) (hgrow.block g (by simpa [World.setCell] using hgl) (fun e => hng e.symm))
  have hbel1 : Below B w w1 := hbel0.grown hgrow hB0 (fun k hk => (hrow.lt k hk).1)
  have hng1 := hrow1.ne_block hat2.2 (by decide)
  obtain ⟨v1a, v1c, rfl⟩ := hrow1.len
  have hL : (l ++ s.data.toList).length = l.length + s.size := by simp
  rw [hL] at hrow1 hng1
  rw [hL]
  have d8 := hat2.c8
  have gz8 := hat2.fz 8
  have hat3 := hat2.set8 (.slice v1a (l.length + s.size) v1c)
  have hrow2 := hrow1.keep (w' := w1.setCell ⟨g, 8, none⟩ (.slice v1a (l.length + s.size) v1c)) (fun b hb => heap_setCell_other w1 _ b _ (by rintro rfl; exact hng1 hb))
  have hbel2 := hbel1.setCell (p := ⟨g, 8, none⟩) hgB (.slice v1a (l.length + s.size) v1c)
  have hB1 : B ≤ w1.heap.size := Nat.le_trans hB hbel1.size
  clear c8 c9 fz8 fz9 hw1 hat1 hrow0 hbel0 hB0 hgrow hown1 hat2 hbel1 hng1 hrow1 hat hrow hng hL
  go_wp2_with fail
  clear d8 gz8
  go_loopg [23] (l ++ s.data.toList).length (fun n _ wr => ∃ (h1 : List Int) (rv1 : Value) (l1 : List UInt8), l1.length = n ∧ HashAt wr g h1 rv1 ((many : Int) + (s.size : Int)) ∧ OffRow wr B 5 rv1 l1 ∧ Below B w wr ∧ absorbAll h1 l1 = absorbAll hst (l ++ s.data.toList))
  case atStart => exact ⟨hst, _, l ++ s.data.toList, rfl, hat3, hrow2, hbel2, rfl⟩
  case round =>
    clear hat3 hrow2 hbel2
    obtain ⟨h1, rv1, l1, hl1, hat, hrow, hbel, habs⟩ := hrel
    have Habs := Lib.hid habs; clear habs
    have Hl1 := Lib.hid hl1; clear hl1
    have hng := hrow.ne_block hat.2 (by decide)
    have hgl := hat.lt
    obtain ⟨ra, rc, hrv⟩ := hrow.len
    have c8 := hat.c8
    by_cases hlt : 64 ≤ l1.length
    · obtain ⟨b, off, cap, hrv2, hcap⟩ := hrow.form (by omega)
      subst hrv2
      clear hrv
      obtain ⟨a0, a1, a2, a3, a4, a5, a6, a7, rfl⟩ := eight hat.1
      have c0x := hat.c 0 (by omega)
      have c1x := hat.c 1 (by omega)
      have c2x := hat.c 2 (by omega)
      have c3x := hat.c 3 (by omega)
      have c4x := hat.c 4 (by omega)
      have c5x := hat.c 5 (by omega)
      have c6x := hat.c 6 (by omega)
      have c7x := hat.c 7 (by omega)
      have u1 : (0 : Int) ≤ 64 := by omega
      have u2 : (64 : Int) ≤ (cap : Int) := by omega
      have u2' : 64 ≤ cap := by omega
      have u3 : (64 : Int) ≤ (l1.length : Int) := by omega
      have u4 : (l1.length : Int) ≤ (cap : Int) := by omega
      go_wp2_with fail
      refine wp_region_mix [(0, true), (1, true), (2, true), (3, true), (4, false), (5, true), (6, true), (7, true), (8, false), (9, true)] [10, 11, 12, 13] (by kernel_rfl) (by kernel_rfl) (by rfl) ?_
      simp only [pickH, pickT, List.filterMap_cons, List.filterMap_nil, List.getElem?_cons_zero, List.getElem?_cons_succ, Option.map_some]
      refine wpTakes_pure (v := ?_) (by rfl) (fun w => ?_) ?_
      rotate_left
      focus (first | (go_simp; done) | (go_simp; with_reducible rfl))
      try simp only [Act.put, List.setIfInBounds_toArray, List.set_cons_zero, List.set_cons_succ]
      refine wpTakes_pure (v := ?_) (by rfl) (fun w => ?_) ?_
      rotate_left
      focus (first | (go_simp; done) | (go_simp; with_reducible rfl))
      try simp only [Act.put, List.setIfInBounds_toArray, List.set_cons_zero, List.set_cons_succ]
      refine wpTakes_pure (v := ?_) (by rfl) (fun w => ?_) ?_
      rotate_left
      focus (first | (go_simp; done) | (go_simp; with_reducible rfl))
      try simp only [Act.put, List.setIfInBounds_toArray, List.set_cons_zero, List.set_cons_succ]
      refine wpTakes_pure (v := ?_) (by rfl) (fun w => ?_) ?_
      rotate_left
      focus (first | (go_simp; done) | (go_simp; with_reducible rfl))
      try simp only [Act.put, List.setIfInBounds_toArray, List.set_cons_zero, List.set_cons_succ]
      refine wpTakes_still (v := ?_) (by rfl) ?_ ?_
      rotate_left
      focus (first | (go_simp; done) | (go_simp; with_reducible rfl))
      try simp only [Act.put, List.setIfInBounds_toArray, List.set_cons_zero, List.set_cons_succ]
      refine wpTakes_pure (v := ?_) (by rfl) (fun w => ?_) ?_
      rotate_left
      focus (first | (go_simp; done) | (go_simp; with_reducible rfl))
      try simp only [Act.put, List.setIfInBounds_toArray, List.set_cons_zero, List.set_cons_succ]
      refine wpTakes_pure (v := ?_) (by rfl) (fun w => ?_) ?_
      rotate_left
      focus (first | (go_simp; done) | (go_simp; with_reducible rfl))
      try simp only [Act.put, List.setIfInBounds_toArray, List.set_cons_zero, List.set_cons_succ]
      refine wpTakes_pure (v := ?_) (by rfl) (fun w => ?_) ?_
      rotate_left
      focus (first | (go_simp; done) | (go_simp; with_reducible rfl))
      try simp only [Act.put, List.setIfInBounds_toArray, List.set_cons_zero, List.set_cons_succ]
      refine wpTakes_still (v := ?_) (by rfl) ?_ ?_
      rotate_left
      focus (first | (go_simp; done) | (go_simp; with_reducible rfl))
      try simp only [Act.put, List.setIfInBounds_toArray, List.set_cons_zero, List.set_cons_succ]
      refine wpTakes_pure (v := ?_) (by rfl) (fun w => ?_) ?_
      rotate_left
      focus (first | (go_simp; done) | (go_simp; with_reducible rfl))
      try simp only [Act.put, List.setIfInBounds_toArray, List.set_cons_zero, List.set_cons_succ]
      refine wpTakes_nil ?_
      have hbs : (l1.take 64).length = 64 := by simp; omega
      have hcel : ∀ j, j < 64 → wr.drew.cell? ⟨b, off + j, none⟩ = some (.int .u8 ((l1.getD j 0).toNat : Int)) := fun (j : Nat) (hj : j < 64) => hrow.cells j (by omega)
      have hblt : b < wr.drew.heap.size := (hrow.lt b rfl).2
      have HC := Lib.hid hcel
      clear hcel
      go_wp2_with fail
      refine (block_any [a0, a1, a2, a3, a4, a5, a6, a7] rfl b off cap (l1.take 64) wr.drew hblt (fun j hj => by rw [take_getD l1 hj]; exact HC.out j hj)).mono ?_
      rintro e w2 ⟨rfl, hb2⟩
      have hbl : (blockF [a0, a1, a2, a3, a4, a5, a6, a7] (l1.take 64)).length = 8 := blockF_length _ _
      have Hstep := Lib.hid (absorbAll_step (h := [a0, a1, a2, a3, a4, a5, a6, a7]) hlt)
      have hg2 : w2.heap[g]? = wr.heap[g]? := hb2.block g hgl
      have hat2 := hat.keep (w' := w2) hg2
      have hrow2 := OffRow.below (w' := w2) (show OffRow wr.drew B _ _ l1 from hrow) hb2 (Nat.le_refl _)
      have hbel2 : Below B w w2 := hbel.drew.trans (hb2.mono (Nat.le_trans hB hbel.size))
      have hat3 := hat2.row hbl
      have hrow3 := hrow2.keep (w' := w2.setRow g (spliced (hashCells [a0, a1, a2, a3, a4, a5, a6, a7] (Value.slice (some ⟨b, off, none⟩) l1.length cap) ((many : Int) + (s.size : Int))) 0 (u32c (blockF [a0, a1, a2, a3, a4, a5, a6, a7] (l1.take 64))))) (fun b' hb' => setRow_other _ _ _ _ (by rintro rfl; exact hng hb'))
      have hbel3 := below_setRow hbel2 hgB (spliced (hashCells [a0, a1, a2, a3, a4, a5, a6, a7] (Value.slice (some ⟨b, off, none⟩) l1.length cap) ((many : Int) + (s.size : Int))) 0 (u32c (blockF [a0, a1, a2, a3, a4, a5, a6, a7] (l1.take 64))))
      have hb8 := hat2.2
      clear hb2 hg2 hat hrow hbel hbs HC c0x c1x c2x c3x c4x c5x c6x c7x c8 hat2 hrow2 hbel2
      generalize hws : w2.setRow g _ = w3 at hat3 hrow3 hbel3
      have Hws := Lib.hid hws
      clear hws
      have e8 := hat3.c8
      have z8 := hat3.fz 8
      dsimp only
      iterate 5 go_step
      refine wpList_store_at (by rfl) _ _ _ (by rfl) g 0 (u32c (blockF [a0, a1, a2, a3, a4, a5, a6, a7] (l1.take 64))) (by rfl) (by rfl) 180 _ hb8 (by rw [u32c_size, hbl]; exact Tryd.size8) (by rw [u32c_size, hbl]; simp [u32c, hashCells]) (u32c_one _) ?_
      rw [Hws.out]
      clear hb8 Hws
      go_wp2_with fail
      refine NoPanic.normal ?_
      go_wp2_with fail
      all_goals
        have hcut := hrow3.cut (k := 64) (by omega)
        first | rw [if_pos ‹cap = 64›, show cap - 64 = 0 by omega] at hcut | rw [if_neg ‹¬ cap = 64›] at hcut
        have R := write_round hat3 hcut hbel3 hgB
        clear hat3 hrow3 hbel3 hcut e8 z8
        go_roundg (l1.length - 64)
        case measure => have := Hl1.out; omega
        case rel => exact ⟨_, _, l1.drop 64, by simp, R.1, R.2.1, R.2.2, Hstep.out.symm.trans Habs.out⟩
    · subst hrv
      go_wp2_with fail
      refine bodyPost_end (v := .tuple #[]) (by simp [results, Tryd.results101]) rfl ⟨.slice ra l1.length rc, rfl, ?_⟩
      have h3 : absorbAll hst (l ++ s.data.toList) = (h1, l1) := by rw [← Habs.out]; exact absorbAll_end (by omega)
      rw [h3]
      exact ⟨by simpa using hat, hrow, hbel⟩
end Go.Proofs.YtlbolbkikkiifaaDoor
