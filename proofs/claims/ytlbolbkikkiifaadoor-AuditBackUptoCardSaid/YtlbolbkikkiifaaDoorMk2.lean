/- Texts of ours joined: Hold, Rel, Box, SlStr, Bytes, GrantsPlain, AuditPlain, NameWalk, MadeWalk, But, StoreKey, SplitAny, Audit, Audit2, Audit3. -/
import Derived.Laws.Tables
import Derived.Laws.Rows
import Derived.Test.YtlbolbkikkiifaaDoorShelf
import Derived.Lib.Hide
import Derived.WalkLawsBesides
import Derived.Test.YtlbolbkikkiifaaDoorChecked
import Derived.WalkKit
import Derived.WalkSpells
import Derived.KernelRfl
import Derived.Deep.DeepCutAuto
import Derived.Lib.ItoaLen
import Derived.Lib.AppendIntMem
import Derived.Test.YtlbolbkikkiifaaDoorMk1
set_option linter.unusedVariables false
set_option linter.unusedSimpArgs false
/- A region that draws its order, whose operations yield the same values in whatever world of a kind, and stay within that kind: one walk in the order of the text, then a forced tail. Any program. -/
namespace Go.Proofs.YtlbolbkikkiifaaDoor
open Go

section
variable {P : Program} {ops : Array Oper} {md : Region.Mode} {I : World → Prop}

/-- what an operation comes to, where it neither panics nor defers -/
def gives (P : Program) (R : Value → World → Prop) : Result Next → Prop
  | .ok (.value v) w' => R v w'
  | .ok .skip w' => R undef w'
  | .ok (.enter f args) w' => Calls P f args w' fun e w'' => ∃ v, e = .returned v ∧ R v w''
  | _ => False

theorem gives_upon {o : Oper} {a : Act} {R : Value → World → Prop} {K : Act → World → Prop} {Q : Exit → Act → World → Prop} (h : ∀ v w, R v w → K (a.put o.dst v) w) :
    ∀ {r : Result Next}, gives P R r → o.upon P a K Q r
  | .ok (.value v) w', hr => h _ _ hr
  | .ok .skip w', hr => h _ _ hr
  | .ok (.enter f args) w', hr => Calls.mono hr fun e w'' he => by
      obtain ⟨v, rfl, hR⟩ := he
      exact h _ _ hR

/-- the operation yields v in every world of the kind, and stays within it -/
def YieldsIn (P : Program) (ops : Array Oper) (I : World → Prop) (o : Oper) (v : Value) (a : Act) : Prop :=
  (Region.wanted o (yielded ops a.tmps) = true ∧ ∀ w, I w → gives P (fun u w' => u = v ∧ I w') ((execOp a.eval o).run P w)) ∨
  (Region.wanted o (yielded ops a.tmps) = false ∧ v = undef)

theorem YieldsIn.of_same {o : Oper} {v : Value} {a a' : Act} (hy : YieldsIn P ops I o v a) (he : execOp a'.eval o = execOp a.eval o)
    (hw : Region.wanted o (yielded ops a'.tmps) = Region.wanted o (yielded ops a.tmps)) : YieldsIn P ops I o v a' := by
  unfold YieldsIn at *
  rw [he, hw]
  exact hy

theorem YieldsIn.wpOp {i : Nat} {o : Oper} {v : Value} {a : Act} {w : World} (hi : ops[i]? = some o) (hy : YieldsIn P ops I o v a) (hI : I w) {K : Act → World → Prop} {Q : Exit → Act → World → Prop}
    (h : ∀ w', I w' → K (a.put o.dst v) w') : wpOp P ops Q i K a w := by
  unfold Go.wpOp
  simp only [hi]
  rcases hy with ⟨hw, hv⟩ | ⟨hw, rfl⟩
  · simp only [hw, if_true]
    refine .inl ?_
    unfold Oper.wp
    exact gives_upon (R := fun u w' => u = v ∧ I w') (fun u w' hR => by obtain ⟨rfl, hI'⟩ := hR; exact h _ hI') (hv w hI)
  · simp only [hw, Bool.false_eq_true, if_false]
    exact h _ hI

def wpHold (P : Program) (ops : Array Oper) (I : World → Prop) (Q : Act → Prop) : List Oper → Act → Prop
  | [], a => Q a
  | o :: rest, a => ∃ v, YieldsIn P ops I o v a ∧ wpHold P ops I Q rest (a.put o.dst v)

/-- the heads in whatever order -/
def wpAnyV (P : Program) (md : Region.Mode) (ops : Array Oper) (I : World → Prop) (n : Nat) (L : Array Bool → Act → Prop) : Nat → Array Bool → Act → Prop
  | 0, listed, a => L listed a
  | f + 1, listed, a =>
    Region.ready md ops listed ≠ [] ∧ ∀ i ∈ Region.ready md ops listed, i < n ∧ ∃ o v, ops[i]? = some o ∧ YieldsIn P ops I o v a ∧ wpAnyV P md ops I n L f (listed.setIfInBounds i true) (a.put o.dst v)

theorem wpAny_of_hold {n g : Nat} {L : Array Bool → Act → Prop} {Q' : Exit → Act → World → Prop} (hL : ∀ listed a w, L listed a → I w → wpAny P md ops Q' g listed a w) :
    ∀ (f : Nat) (listed : Array Bool) (a : Act) (w : World), I w → wpAnyV P md ops I n L f listed a → wpAny P md ops Q' (f + g) listed a w
  | 0, listed, a, w, hI, h => by rw [Nat.zero_add]; exact hL _ _ _ h hI
  | f + 1, listed, a, w, hI, h => by
    rw [show f + 1 + g = (f + g) + 1 by omega]
    refine ⟨fun h0 => absurd h0 h.1, fun i hi => ?_⟩
    obtain ⟨_, o, v, ho, hy, hK⟩ := h.2 i hi
    exact hy.wpOp ho hI fun w' hI' => wpAny_of_hold hL f _ _ w' hI' hK

theorem wpAnyV_first {n i : Nat} {oi : Oper} {v : Value} {L : Array Bool → Act → Prop} (hi : ops[i]? = some oi) (hsel : ∀ (j : Nat) (o : Oper) cs b, ops[j]? = some o → o.op ≠ .select cs b)
    (htw : ∀ (listed : Array Bool) (i : Nat), HeadInv md ops n listed → i < n → listed.getD i true = false → ∀ t, n ≤ t → t ∉ Region.ready md ops listed) (hin : i < n)
    (hdone : ∀ listed a, L listed a → ∀ j ∈ Region.ready md ops listed, n ≤ j) :
    ∀ (f : Nat) (listed : Array Bool) (a : Act), HeadInv md ops n listed →
      (∀ j oj, ops[j]? = some oj → j ≠ i → listed.getD j true = false → (∀ e ∈ oj.after, Region.binds md e = true → e.on ≠ i) → oi.apart ops oj = true) →
      i ∈ Region.ready md ops listed → YieldsIn P ops I oi v a →
      wpAnyV P md ops I n L f (listed.setIfInBounds i true) (a.put oi.dst v) → wpAnyV P md ops I n L (f + 1) listed a := by
  intro f
  induction f with
  | zero =>
    intro listed a inv _ hr hy H
    have hun := (mem_ready.1 hr).1
    refine ⟨fun h => (by rw [h] at hr; cases hr), fun j hj => ?_⟩
    have hjn : j < n := by
      rcases Nat.lt_or_ge j n with h | h
      · exact h
      · exact absurd hj (htw _ i inv hin hun j h)
    refine ⟨hjn, ?_⟩
    by_cases hji : j = i
    · subst hji; exact ⟨oi, v, hi, hy, H⟩
    · have := hdone _ _ H j (ready_mono hj hji)
      omega
  | succ f ih =>
    intro listed a inv hfree hr hy H
    have hun := (mem_ready.1 hr).1
    refine ⟨fun h => (by rw [h] at hr; cases hr), fun j hj => ?_⟩
    have hjn : j < n := by
      rcases Nat.lt_or_ge j n with h | h
      · exact h
      · exact absurd hj (htw _ i inv hin hun j h)
    refine ⟨hjn, ?_⟩
    by_cases hji : j = i
    · subst hji; exact ⟨oi, v, hi, hy, H⟩
    · obtain ⟨oj, u, hoj, hyj, hK⟩ := (H.2 j (ready_mono hj hji)).2
      obtain ⟨hjun, oj', hoj', hall⟩ := mem_ready.1 hj
      have : oj' = oj := Option.some.inj (hoj'.symm.trans hoj)
      subst this
      have hnot : ∀ e ∈ oj'.after, Region.binds md e = true → e.on ≠ i := fun e he hb heq => by
        have h1 := hall e he hb
        rw [heq, getD_both hun] at h1
        cases h1
      have hap := hfree j oj' hoj hji hjun hnot
      obtain ⟨h1, h2, h3⟩ := Oper.apart_spec hap
      have hfree' : ∀ k ok, ops[k]? = some ok → k ≠ i → (listed.setIfInBounds j true).getD k true = false →
          (∀ e ∈ ok.after, Region.binds md e = true → e.on ≠ i) → oi.apart ops ok = true := fun k ok hk hki hun' hno => by
        refine hfree k ok hk hki ?_ hno
        by_cases hjk : j = k
        · subst hjk; exact hjun
        · rw [getD_set_ne true hjk] at hun'; exact hun'
      have hyj' : YieldsIn P ops I oj' u a := hyj.of_same (execOp_put oj' (fun cs b => hsel j oj' cs b hoj) a oi.dst v h1).symm (wanted_put oj' a oi.dst v h1).symm
      have hyi' : YieldsIn P ops I oi v (a.put oj'.dst u) := hy.of_same (execOp_put oi (fun cs b => hsel i oi cs b hi) a oj'.dst u h3) (wanted_put oi a oj'.dst u h3)
      refine ⟨oj', u, hoj, hyj', ih (listed.setIfInBounds j true) _ (inv.set hj hjn) hfree' (ready_mono hr (Ne.symm hji)) hyi' ?_⟩
      rw [Array.setIfInBounds_comm _ _ hji, ← Act.put_comm a v u h2]
      exact hK

theorem wpAnyV_lex {n g : Nat} {Lq : Act → Prop} (hsel : Region.noSelect ops = true)
    (htw : ∀ (listed : Array Bool) (i : Nat), HeadInv md ops n listed → i < n → listed.getD i true = false → ∀ t, n ≤ t → t ∉ Region.ready md ops listed) :
    ∀ (l : List Oper) (k : Nat) (listed : Array Bool) (a : Act), (∀ j, j < l.length → l[j]? = ops[k + j]?) → k + l.length = n → HeadInv md ops n listed →
    Region.lexHead md ops g l.length k listed = true → wpHold P ops I Lq l a →
    wpAnyV P md ops I n (fun listed' a' => Region.seqB md ops g n listed' = true ∧ Lq a') l.length listed a
  | [], k, listed, a, _, hk, _, hB, h => by
    have : k = n := by simpa using hk
    subst this
    exact ⟨by simpa [Region.lexHead] using hB, h⟩
  | o :: l, k, listed, a, hl, hk, inv, hB, h => by
    have h0 : ops[k]? = some o := by simpa using (hl 0 (by simp)).symm
    simp only [List.length_cons, Region.lexHead, Bool.and_eq_true] at hB
    obtain ⟨⟨hr, hf⟩, hB'⟩ := hB
    have hkn : k < n := by simp only [List.length_cons] at hk; omega
    have hr' : k ∈ Region.ready md ops listed := by simpa using hr
    obtain ⟨v, hy, hK⟩ := h
    exact wpAnyV_first h0 (Region.noSelect_spec hsel) htw hkn (fun listed' a' hL => seqB_ready hL.1) l.length listed a inv (Region.free_spec h0 hf) hr' hy
      (wpAnyV_lex hsel htw l (k + 1) _ _ (fun j hj => by have := hl (j + 1) (by simp; omega); simpa [Nat.add_assoc, Nat.add_comm 1 j] using this) (by simp only [List.length_cons] at hk; omega) (inv.set hr' hkn) hB' hK)

/-- THE LAW: the first n operations by values, in whatever order; the others one by one behind them all -/
theorem wp_region_hold {id : Nat} {Q : Exit → Act → World → Prop} {a : Act} {w : World} {l : List Oper} (n : Nat) (I : World → Prop) (hm : P.follows .mixedOrders = true) (hB : Region.lexTailB .any l.toArray n = true)
    (hI : I w.drew) (h : wpHold P l.toArray I (fun a' => ∀ w', I w' → wpList P l.toArray Q (l.drop n) a' w') (l.take n) a) : (Code.region id l.toArray true).wp P Q a w := by
  simp only [Region.lexTailB, Bool.and_eq_true, decide_eq_true_eq] at hB
  obtain ⟨⟨⟨⟨hsel, hn⟩, hs⟩, hc⟩, hlex⟩ := hB
  have hn' : n < l.length := by simpa using hn
  have htl : (l.take n).length = n := by simp; omega
  have hdl : (l.drop n).length = l.toArray.size - n := by simp
  have inv0 : HeadInv .any l.toArray n (Array.replicate l.toArray.size false) :=
    ⟨by simp, fun j oj _ hl => (by rw [getD_replicate_false] at hl; cases hl), fun t _ ht => getD_in (by simpa using ht) (getD_replicate_false _ _)⟩
  have H := wpAnyV_lex (md := .any) (g := l.toArray.size - n) (n := n) hsel (fun listed i inv hi hun => tail_waits hs hc hn inv _ i rfl hi hun) (l.take n) 0 _ a (fun j hj => by
    have hj' : j < n := by rw [htl] at hj; exact hj
    simp [hj']) (by simpa using htl) inv0 (by rw [htl]; exact hlex) h
  refine wp_region_any hm ?_
  have := wpAny_of_hold (Q' := Q) (g := l.toArray.size - n) (fun listed a' w' hL hI' => by
    have := wpAny_of_seq (md := .any) (Q' := Q) (l.drop n) n listed a' w' (fun j => by simp [List.getElem?_drop]) (by rw [hdl]; exact hL.1) (hL.2 w' hI')
    rwa [hdl] at this) _ _ _ w.drew hI H
  rw [htl, show n + (l.toArray.size - n) = l.toArray.size by omega] at this
  exact this

theorem below_then {a b c : World} (h : RowKit.Below a.heap.size a b) (k : RowKit.Below b.heap.size b c) : RowKit.Below a.heap.size a c := h.trans (k.mono h.size)
theorem wpHold_nil {Q : Act → Prop} {a : Act} (h : Q a) : wpHold P ops I Q [] a := h
theorem wpHold_pure {Q : Act → Prop} {a : Act} {o : Oper} {rest : List Oper} {v : Value} (hg : o.guard = none) (h : ∀ w, (execOp a.eval o).run P w = .ok (.value v) w) (k : wpHold P ops I Q rest (a.put o.dst v)) :
    wpHold P ops I Q (o :: rest) a :=
  ⟨v, .inl ⟨by simp [Region.wanted, hg], fun w hI => by rw [h w]; exact ⟨rfl, hI⟩⟩, k⟩
theorem wpHold_read {Q : Act → Prop} {a : Act} {o : Oper} {rest : List Oper} {v : Value} (hg : o.guard = none) (h : ∀ w, I w → (execOp a.eval o).run P w = .ok (.value v) w) (k : wpHold P ops I Q rest (a.put o.dst v)) :
    wpHold P ops I Q (o :: rest) a :=
  ⟨v, .inl ⟨by simp [Region.wanted, hg], fun w hI => by rw [h w hI]; exact ⟨rfl, hI⟩⟩, k⟩
theorem wpHold_call {Q : Act → Prop} {a : Act} {o : Oper} {rest : List Oper} {v : Value} {f : FuncId} {args : Array Value} (hg : o.guard = none) (h : ∀ w, (execOp a.eval o).run P w = .ok (.enter f args) w)
    (hc : ∀ w, I w → Calls P f args w fun e w' => e = .returned v ∧ I w') (k : wpHold P ops I Q rest (a.put o.dst v)) : wpHold P ops I Q (o :: rest) a :=
  ⟨v, .inl ⟨by simp [Region.wanted, hg], fun w hI => by rw [h w]; exact (hc w hI).mono fun e w' h' => ⟨v, h'.1, rfl, h'.2⟩⟩, k⟩
/-- guarded ones: let in, or passed over -/
theorem wpHold_pure' {Q : Act → Prop} {a : Act} {o : Oper} {rest : List Oper} {v : Value} (hg : Region.wanted o (yielded ops a.tmps) = true) (h : ∀ w, (execOp a.eval o).run P w = .ok (.value v) w) (k : wpHold P ops I Q rest (a.put o.dst v)) :
    wpHold P ops I Q (o :: rest) a :=
  ⟨v, .inl ⟨hg, fun w hI => by rw [h w]; exact ⟨rfl, hI⟩⟩, k⟩
theorem wpHold_read' {Q : Act → Prop} {a : Act} {o : Oper} {rest : List Oper} {v : Value} (hg : Region.wanted o (yielded ops a.tmps) = true) (h : ∀ w, I w → (execOp a.eval o).run P w = .ok (.value v) w) (k : wpHold P ops I Q rest (a.put o.dst v)) :
    wpHold P ops I Q (o :: rest) a :=
  ⟨v, .inl ⟨hg, fun w hI => by rw [h w hI]; exact ⟨rfl, hI⟩⟩, k⟩
theorem wpHold_call' {Q : Act → Prop} {a : Act} {o : Oper} {rest : List Oper} {v : Value} {f : FuncId} {args : Array Value} (hg : Region.wanted o (yielded ops a.tmps) = true) (h : ∀ w, (execOp a.eval o).run P w = .ok (.enter f args) w)
    (hc : ∀ w, I w → Calls P f args w fun e w' => e = .returned v ∧ I w') (k : wpHold P ops I Q rest (a.put o.dst v)) : wpHold P ops I Q (o :: rest) a :=
  ⟨v, .inl ⟨hg, fun w hI => by rw [h w]; exact (hc w hI).mono fun e w' h' => ⟨v, h'.1, rfl, h'.2⟩⟩, k⟩
theorem wpHold_skip {Q : Act → Prop} {a : Act} {o : Oper} {rest : List Oper} (hg : Region.wanted o (yielded ops a.tmps) = false) (k : wpHold P ops I Q rest (a.put o.dst undef)) : wpHold P ops I Q (o :: rest) a :=
  ⟨undef, .inr ⟨hg, rfl⟩, k⟩
end
end Go.Proofs.YtlbolbkikkiifaaDoor
/- A region that draws its order, whose operations yield values of a kind (their addresses may hang on the order): one obligation an operation, one invariant; then a forced tail. Any program. -/
namespace Go.Proofs.YtlbolbkikkiifaaDoor
open Go

section
variable {P : Program} {ops : Array Oper} {md : Region.Mode}

/-- the frame with these values in the heads' slots -/
def putAll : List Oper → (Nat → Value) → Nat → Act → Act
  | [], _, _, a => a
  | o :: r, u, k, a => putAll r u (k + 1) (a.put o.dst (u k))

def slotOf (a : Act) : Option Tmp → Value
  | some d => a.tmps.getD d undef
  | none => undef
theorem put_same (a : Act) (d : Option Tmp) (v w : Value) : (a.put d v).put d w = a.put d w := by
  cases d with
  | none => rfl
  | some d => simp [Act.put]
theorem put_own (a : Act) (d : Option Tmp) : a.put d (slotOf a d) = a := by
  cases d with
  | none => rfl
  | some d =>
    unfold Act.put slotOf
    simp only
    congr 1
    apply Array.ext
    · simp
    · intro i h1 h2
      rw [Array.getElem_setIfInBounds]
      split
      · rename_i h
        subst h
        simp [Array.getD, h2]
      · rfl
def apartDsts (l : List Oper) : Prop := l.Pairwise fun x y => ∀ d, x.dst = some d → y.dst ≠ some d
theorem putAll_put : ∀ (l : List Oper) (u : Nat → Value) (k : Nat) (a : Act) (d : Option Tmp) (v : Value), (∀ o ∈ l, ∀ t, d = some t → o.dst ≠ some t) → (putAll l u k a).put d v = putAll l u k (a.put d v)
  | [], _, _, _, _, _, _ => rfl
  | o :: r, u, k, a, d, v, h => by
    show (putAll r u (k + 1) (a.put o.dst (u k))).put d v = putAll r u (k + 1) ((a.put d v).put o.dst (u k))
    rw [putAll_put r u (k + 1) _ d v (fun o' ho => h o' (List.mem_cons_of_mem _ ho)), ← Act.put_comm a v (u k) (h o (List.mem_cons_self ..))]
theorem putAll_congr : ∀ (l : List Oper) (u u' : Nat → Value) (k : Nat) (a : Act), (∀ j, k ≤ j → u j = u' j) → putAll l u k a = putAll l u' k a
  | [], _, _, _, _, _ => rfl
  | o :: r, u, u', k, a, h => by
    show putAll r u (k + 1) (a.put o.dst (u k)) = putAll r u' (k + 1) (a.put o.dst (u' k))
    rw [h k (Nat.le_refl _)]
    exact putAll_congr r u u' (k + 1) _ (fun j hj => h j (by omega))
theorem putAll_set : ∀ (l : List Oper) (u : Nat → Value) (k i : Nat) (a : Act) (o : Oper) (v : Value), apartDsts l → l[i]? = some o → (putAll l u k a).put o.dst v = putAll l (fun j => if j = k + i then v else u j) k a
  | [], _, _, _, _, _, _, _, h => by simp at h
  | x :: r, u, k, 0, a, o, v, hd, h => by
    obtain rfl : x = o := by simpa using h
    show (putAll r u (k + 1) (a.put x.dst (u k))).put x.dst v = putAll r _ (k + 1) (a.put x.dst (if k = k + 0 then v else u k))
    rw [if_pos (by omega), putAll_put r u (k + 1) _ x.dst v (fun o' ho t ht => (List.pairwise_cons.1 hd).1 o' ho t ht), put_same]
    exact putAll_congr r _ _ (k + 1) _ (fun j hj => by rw [if_neg (by omega)])
  | x :: r, u, k, i + 1, a, o, v, hd, h => by
    show (putAll r u (k + 1) (a.put x.dst (u k))).put o.dst v = putAll r _ (k + 1) (a.put x.dst (if k = k + (i + 1) then v else u k))
    rw [if_neg (by omega), putAll_set r u (k + 1) i _ o v (List.pairwise_cons.1 hd).2 (by simpa using h)]
    exact putAll_congr r _ _ (k + 1) _ (fun j _ => by simp [show k + 1 + i = k + (i + 1) by omega])
theorem putAll_own : ∀ (l : List Oper) (k : Nat) (a : Act) (u : Nat → Value), (∀ j o, l[j]? = some o → u (k + j) = slotOf a o.dst) → putAll l u k a = a
  | [], _, _, _, _ => rfl
  | x :: r, k, a, u, h => by
    show putAll r u (k + 1) (a.put x.dst (u k)) = a
    rw [show u k = slotOf a x.dst from h 0 x rfl, put_own]
    exact putAll_own r (k + 1) a u (fun j o ho => by rw [show k + 1 + j = k + (j + 1) by omega]; exact h (j + 1) o (by simpa using ho))

/-- how many heads are not yet listed -/
def unl (listed : Array Bool) : Nat → Nat
  | 0 => 0
  | n + 1 => unl listed n + if listed.getD n true = true then 0 else 1
theorem unl_set {listed : Array Bool} {i : Nat} : ∀ {n : Nat}, i < n → listed.getD i true = false → i < listed.size → unl (listed.setIfInBounds i true) n + 1 = unl listed n
  | 0, h, _, _ => by omega
  | n + 1, h, hu, hs => by
    unfold unl
    by_cases hin : i = n
    · subst hin
      rw [hu, getD_set_true_own hs]
      have : unl (listed.setIfInBounds i true) i = unl listed i := unl_far (Nat.le_refl _)
      rw [this]
      simp
    · rw [getD_set_ne true hin]
      have := unl_set (n := n) (by omega) hu hs
      omega
where
  unl_far {i : Nat} : ∀ {n : Nat}, n ≤ i → unl (listed.setIfInBounds i true) n = unl listed n
    | 0, _ => rfl
    | n + 1, h => by
      unfold unl
      rw [unl_far (n := n) (by omega), getD_set_ne true (by omega)]
  getD_set_true_own {i : Nat} (hs : i < listed.size) : (listed.setIfInBounds i true).getD i true = true := by
    simp [Array.getD, hs]
theorem unl_zero {listed : Array Bool} : ∀ {n : Nat}, unl listed n = 0 → ∀ j, j < n → listed.getD j true = true
  | 0, _, j, h => by omega
  | n + 1, h0, j, h => by
    unfold unl at h0
    by_cases hj : j = n
    · subst hj
      by_cases hl : listed.getD j true = true
      · exact hl
      · rw [if_neg hl] at h0; omega
    · exact unl_zero (n := n) (by omega) j (by omega)

theorem unl_least {listed : Array Bool} {n : Nat} (hu : unl listed n ≠ 0) : ∃ i, i < n ∧ listed.getD i true = false ∧ ∀ j, j < i → listed.getD j true = true := by
  induction n with
  | zero => exact absurd rfl hu
  | succ n ih =>
    by_cases h : unl listed n = 0
    · refine ⟨n, by omega, ?_, unl_zero h⟩
      unfold unl at hu
      rw [h] at hu
      cases hl : listed.getD n true with
      | false => rfl
      | true => rw [hl] at hu; simp at hu
    · obtain ⟨i, hi, h1, h2⟩ := ih h
      exact ⟨i, by omega, h1, h2⟩
theorem getD_false {listed : Array Bool} {i : Nat} (hi : i < listed.size) (h : listed.getD i true = true) : listed.getD i false = true := by
  simp [Array.getD, hi] at h ⊢
  exact h
theorem ready_ex {n : Nat} {listed : Array Bool} (inv : HeadInv md ops n listed) (hback : ∀ i o, ops[i]? = some o → ∀ e ∈ o.after, Region.binds md e = true → e.on < i) (hn : n ≤ ops.size) (hu : unl listed n ≠ 0) :
    ∃ i, i < n ∧ listed.getD i true = false ∧ i ∈ Region.ready md ops listed := by
  obtain ⟨i, hi, h1, h2⟩ := unl_least hu
  refine ⟨i, hi, h1, mem_ready.2 ⟨h1, ops[i]'(by omega), by simp, fun e he hb => ?_⟩⟩
  have h3 := hback i _ (by simp) e he hb
  exact getD_false (by rw [inv.size]; omega) (h2 _ h3)

def canon (n m : Nat) : Array Bool := (Array.range m).map fun j => decide (j < n)
theorem eq_canon {n : Nat} {listed : Array Bool} (inv : HeadInv md ops n listed) (hu : unl listed n = 0) : listed = canon n ops.size := by
  apply Array.ext
  · simp [canon, inv.size]
  · intro i h1 h2
    have h3 : (canon n ops.size)[i] = decide (i < n) := by simp [canon]
    rw [h3]
    by_cases h : i < n
    · have := unl_zero hu i h
      simp [Array.getD, h1] at this
      simp [this, h]
    · have := inv.tail i (by omega) (by rw [← inv.size]; exact h1)
      simp [Array.getD, h1] at this
      simp [this, h]

/-- one value more -/
def upd (u : Nat → Value) (i : Nat) (v : Value) : Nat → Value := fun j => if j = i then v else u j

theorem wpAny_rel {n g : Nat} {hs : List Oper} {a0 : Act} {I : World → Prop} {R : Nat → (Nat → Value) → World → Prop} {deps : Nat → List Nat} {Q : Exit → Act → World → Prop}
    (hops : ∀ j, j < n → hs[j]? = ops[j]?) (hn : n < ops.size) (hap : apartDsts hs)
    (hs1 : Region.sinkB md ops n = true) (hc1 : Region.chainB md ops n = true)
    (hback : ∀ i o, ops[i]? = some o → ∀ e ∈ o.after, Region.binds md e = true → e.on < i)
    (hdeps : ∀ i o, hs[i]? = some o → ∀ j ∈ deps i, j < n ∧ ∃ e ∈ o.after, Region.binds md e = true ∧ e.on = j)
    (hloc : ∀ j u u' w, (∀ k, (k = j ∨ k ∈ deps j) → u k = u' k) → R j u w → R j u' w)
    (obl : ∀ i o, hs[i]? = some o → ∀ (u : Nat → Value) w, I w → (∀ j ∈ deps i, R j u w) →
      (Region.wanted o (yielded ops (putAll hs u 0 a0).tmps) = true ∧ gives P (fun v w' => R i (upd u i v) w' ∧ I w' ∧ ∀ j u, j ≠ i → R j u w → R j u w') ((execOp (putAll hs u 0 a0).eval o).run P w)) ∨
      (Region.wanted o (yielded ops (putAll hs u 0 a0).tmps) = false ∧ R i (upd u i undef) w))
    (hend : ∀ (u : Nat → Value) w, I w → (∀ j, j < n → R j u w) → wpAny P md ops Q g (canon n ops.size) (putAll hs u 0 a0) w) :
    ∀ (f : Nat) (listed : Array Bool) (u : Nat → Value) (w : World), unl listed n = f → HeadInv md ops n listed → I w → (∀ j, j < n → listed.getD j false = true → R j u w) →
      wpAny P md ops Q (f + g) listed (putAll hs u 0 a0) w := by
  intro f
  induction f with
  | zero =>
    intro listed u w hf inv hI hR
    rw [Nat.zero_add, eq_canon inv hf]
    refine hend u w hI fun j hj => hR j hj (getD_false (by rw [inv.size]; omega) (unl_zero hf j hj))
  | succ f ih =>
    intro listed u w hf inv hI hR
    obtain ⟨k, hk, hku, hkr⟩ := ready_ex inv hback (by omega) (by omega)
    rw [show f + 1 + g = (f + g) + 1 by omega]
    refine ⟨fun h => (by rw [h] at hkr; cases hkr), fun i hi => ?_⟩
    have hin : i < n := by
      rcases Nat.lt_or_ge i n with h | h
      · exact h
      · exact absurd hi (tail_waits hs1 hc1 hn inv _ k rfl hk hku i h)
    obtain ⟨hiu, o, ho, hall⟩ := mem_ready.1 hi
    have ho' : hs[i]? = some o := (hops i hin).trans ho
    have hRd : ∀ j ∈ deps i, R j u w := fun j hj => by
      obtain ⟨hjn, e, he, hb, hon⟩ := hdeps i o ho' j hj
      exact hR j hjn (by rw [← hon]; exact hall e he hb)
    have next : ∀ v w', R i (upd u i v) w' → I w' → (∀ j u, j ≠ i → R j u w → R j u w') → wpAny P md ops Q (f + g) (listed.setIfInBounds i true) ((putAll hs u 0 a0).put o.dst v) w' := fun v w' hv hI' hst => by
      rw [putAll_set hs u 0 i a0 o v hap ho']
      have hil : i < listed.size := by rw [inv.size]; omega
      refine ih _ _ w' (by have := unl_set hin hiu hil; omega) (inv.set hi hin) hI' fun j hj hl => ?_
      have hup : (fun j => if j = 0 + i then v else u j) = upd u i v := by funext j; simp [upd]
      rw [hup]
      by_cases hji : j = i
      · subst hji; exact hv
      · rw [getD_set_ne false (fun h => hji h.symm)] at hl
        refine hloc j u _ w' (fun q hq => ?_) (hst _ _ hji (hR j hj hl))
        unfold upd
        rw [if_neg ?_]
        rintro rfl
        rcases hq with rfl | hq
        · exact hji rfl
        · have hjo : ∃ oj, hs[j]? = some oj := by
            have hlen := hops j hj
            have : j < ops.size := by omega
            exact ⟨ops[j], by rw [hlen]; simp [this]⟩
          obtain ⟨oj, hoj⟩ := hjo
          obtain ⟨_, e, he, hb, hon⟩ := hdeps j oj hoj q hq
          have h1 := inv.closed j oj ((hops j hj).symm.trans hoj) hl e he hb
          rw [hon, getD_both hiu] at h1
          cases h1
    unfold wpOp
    simp only [ho]
    rcases obl i o ho' u w hI hRd with ⟨hw, hg⟩ | ⟨hw, hv⟩
    · rw [if_pos hw]
      refine .inl ?_
      unfold Oper.wp
      exact gives_upon (R := fun v w' => R i (upd u i v) w' ∧ I w' ∧ ∀ j u, j ≠ i → R j u w → R j u w') (fun v w' h => next v w' h.1 h.2.1 h.2.2) hg
    · rw [if_neg (by rw [hw]; simp)]
      exact next undef w hv hI (fun _ _ _ h => h)

/-- what the kernel reckons: edges lead back, the heads' slots are apart, the operations looked back at are edges, the tail is forced -/
def relB (md : Region.Mode) (l : List Oper) (n : Nat) (deps : Nat → List Nat) : Bool :=
  decide (n < l.length) && Region.sinkB md l.toArray n && Region.chainB md l.toArray n &&
  ((List.range l.length).all fun i => match l[i]? with | some o => o.after.all fun e => !Region.binds md e || decide (e.on < i) | none => true) &&
  ((List.range n).all fun i => (List.range i).all fun j => match l[i]?, l[j]? with | some x, some y => (match y.dst with | some d => x.dst != some d | none => true) | _, _ => true) &&
  ((List.range n).all fun i => match l[i]? with | some o => (deps i).all fun j => decide (j < n) && o.after.any fun e => Region.binds md e && e.on == j | none => true) &&
  Region.seqB md l.toArray (l.length - n) n (canon n l.length)

theorem wp_region_rel {id : Nat} {Q : Exit → Act → World → Prop} {a : Act} {w : World} {l : List Oper} (n : Nat) (I : World → Prop) (R : Nat → (Nat → Value) → World → Prop) (deps : Nat → List Nat)
    (hm : P.follows .mixedOrders = true) (hB : relB .any l n deps = true) (hloc : ∀ j u u' w, (∀ k, (k = j ∨ k ∈ deps j) → u k = u' k) → R j u w → R j u' w) (hI : I w.drew)
    (obl : ∀ i o, (l.take n)[i]? = some o → ∀ (u : Nat → Value) w, I w → (∀ j ∈ deps i, R j u w) →
      (Region.wanted o (yielded l.toArray (putAll (l.take n) u 0 a).tmps) = true ∧ gives P (fun v w' => R i (upd u i v) w' ∧ I w' ∧ ∀ j u, j ≠ i → R j u w → R j u w') ((execOp (putAll (l.take n) u 0 a).eval o).run P w)) ∨
      (Region.wanted o (yielded l.toArray (putAll (l.take n) u 0 a).tmps) = false ∧ R i (upd u i undef) w))
    (htail : ∀ (u : Nat → Value) w, I w → (∀ j, j < n → R j u w) → wpList P l.toArray Q (l.drop n) (putAll (l.take n) u 0 a) w) : (Code.region id l.toArray true).wp P Q a w := by
  simp only [relB, Bool.and_eq_true, decide_eq_true_eq, List.all_eq_true, List.mem_range] at hB
  obtain ⟨⟨⟨⟨⟨⟨hn, hs1⟩, hc1⟩, hback⟩, hap⟩, hdeps⟩, hseq⟩ := hB
  have hsz : l.toArray.size = l.length := by simp
  refine wp_region_any hm ?_
  have hown : putAll (l.take n) (fun j => slotOf a (((l.take n)[j]?).bind (·.dst))) 0 a = a := putAll_own _ 0 a _ fun j o ho => by simp only [Nat.zero_add]; rw [ho]; rfl
  have hu0 : unl (Array.replicate l.toArray.size false) n = n := by
    have key : ∀ m, m ≤ l.length → unl (Array.replicate l.toArray.size false) m = m := by
      intro m
      induction m with
      | zero => intro _; rfl
      | succ m ih =>
        intro h
        unfold unl
        rw [ih (by omega), if_neg (by simp [Array.getD, show m < l.length by omega])]
    exact key n (by omega)
  have inv0 : HeadInv .any l.toArray n (Array.replicate l.toArray.size false) :=
    ⟨by simp, fun j oj _ hl => (by rw [getD_replicate_false] at hl; cases hl), fun t _ ht => getD_in (by simpa using ht) (getD_replicate_false _ _)⟩
  have H := wpAny_rel (P := P) (ops := l.toArray) (md := .any) (n := n) (g := l.length - n) (hs := l.take n) (a0 := a) (I := I) (R := R) (deps := deps) (Q := Q)
    (fun j hj => by simp [List.getElem?_take_of_lt hj]) (by simpa using hn)
    (List.pairwise_iff_getElem.2 fun i j hi hj hij d hd => by
      have hi' : i < l.length := by simp at hi; omega
      have hj' : j < l.length := by simp at hj; omega
      have hjn : j < n := by simp at hj; omega
      have := hap j hjn i hij
      rw [List.getElem?_eq_getElem hj', List.getElem?_eq_getElem hi'] at this
      simp only [List.getElem_take] at hd ⊢
      simp only [hd] at this
      simpa using this)
    hs1 hc1
    (fun i o ho e he hb => by
      have ho' : l[i]? = some o := by simpa using ho
      have hil : i < l.length := (List.getElem?_eq_some_iff.1 ho').1
      have := hback i hil
      rw [ho'] at this
      have := Array.all_eq_true'.1 this e he
      simpa [hb] using this)
    (fun i o ho j hj => by
      have hin : i < n := by have := (List.getElem?_eq_some_iff.1 ho).1; simp at this; omega
      have ho' : l[i]? = some o := by rw [List.getElem?_take_of_lt hin] at ho; exact ho
      have := hdeps i hin
      rw [ho'] at this
      have := List.all_eq_true.1 this j hj
      simp only [Bool.and_eq_true, decide_eq_true_eq] at this
      obtain ⟨e, he, hb⟩ := Array.any_eq_true'.1 this.2
      simp only [Bool.and_eq_true, beq_iff_eq] at hb
      exact ⟨this.1, e, he, hb.1, hb.2⟩)
    hloc obl
    (fun u w' hI' hR => by
      have := wpAny_of_seq (md := .any) (Q' := Q) (l.drop n) n (canon n l.toArray.size) (putAll (l.take n) u 0 a) w' (fun j => by simp [List.getElem?_drop]) (by rw [List.length_drop, hsz]; exact hseq) (htail u w' hI' hR)
      rwa [List.length_drop] at this)
    n (Array.replicate l.toArray.size false) (fun j => slotOf a (((l.take n)[j]?).bind (·.dst))) w.drew hu0 inv0 hI (fun j _ hl => by rw [getD_replicate_false] at hl; cases hl)
  rw [hown, show n + (l.length - n) = l.length by omega] at H
  rw [hsz]
  exact H

/-- the values that a fact may speak of: an operation's own, and those it waits for -/
def mask (ds : List Nat) (j : Nat) (u : Nat → Value) : Nat → Value := fun k => if k = j ∨ k ∈ ds then u k else undef
theorem mask_congr {ds : List Nat} {j : Nat} {u u' : Nat → Value} (h : ∀ k, (k = j ∨ k ∈ ds) → u k = u' k) : mask ds j u = mask ds j u' := by
  funext k
  unfold mask
  split
  · rename_i hk; exact h k hk
  · rfl
/-- one obligation an operation, in any world above W -/
def relObl (P : Program) (ops : Array Oper) (W : World) (R : Nat → (Nat → Value) → World → Prop) (deps : Nat → List Nat) (hs : List Oper) (a0 : Act) : List Oper → Nat → Prop
  | [], _ => True
  | o :: r, i => (∀ (u : Nat → Value) w, RowKit.Below W.heap.size W w → (∀ j ∈ deps i, R j (mask (deps j) j u) w) →
      (Region.wanted o (yielded ops (putAll hs u 0 a0).tmps) = true ∧ gives P (fun v w' => R i (mask (deps i) i (upd u i v)) w' ∧ RowKit.Below w.heap.size w w') ((execOp (putAll hs u 0 a0).eval o).run P w)) ∨
      (Region.wanted o (yielded ops (putAll hs u 0 a0).tmps) = false ∧ R i (mask (deps i) i (upd u i undef)) w)) ∧ relObl P ops W R deps hs a0 r (i + 1)
theorem relObl_get {W : World} {R : Nat → (Nat → Value) → World → Prop} {deps : Nat → List Nat} {hs : List Oper} {a0 : Act} : ∀ (l : List Oper) (k : Nat), relObl P ops W R deps hs a0 l k → ∀ j o, l[j]? = some o →
    (∀ (u : Nat → Value) w, RowKit.Below W.heap.size W w → (∀ i ∈ deps (k + j), R i (mask (deps i) i u) w) →
      (Region.wanted o (yielded ops (putAll hs u 0 a0).tmps) = true ∧ gives P (fun v w' => R (k + j) (mask (deps (k + j)) (k + j) (upd u (k + j) v)) w' ∧ RowKit.Below w.heap.size w w') ((execOp (putAll hs u 0 a0).eval o).run P w)) ∨
      (Region.wanted o (yielded ops (putAll hs u 0 a0).tmps) = false ∧ R (k + j) (mask (deps (k + j)) (k + j) (upd u (k + j) undef)) w))
  | [], _, _, j, o, h => by simp at h
  | x :: r, k, h, j, o, ho => by
    cases j with
    | zero =>
      simp only [List.getElem?_cons_zero, Option.some.injEq] at ho
      subst ho
      exact h.1
    | succ j =>
      have := relObl_get r (k + 1) h.2 j o (by simpa using ho)
      rw [show k + 1 + j = k + (j + 1) by omega] at this
      exact this
theorem gives_mono {P : Program} {R R' : Value → World → Prop} (h : ∀ v w, R v w → R' v w) : ∀ {r : Result Next}, gives P R r → gives P R' r
  | .ok (.value _) _, hr => h _ _ hr
  | .ok .skip _, hr => h _ _ hr
  | .ok (.enter _ _) _, hr => Calls.mono hr fun _ _ ⟨v, h1, h2⟩ => ⟨v, h1, h _ _ h2⟩

/-- THE LAW, all worlds above the one at the region's head -/
theorem wp_region_relB {id : Nat} {Q : Exit → Act → World → Prop} {a : Act} {w : World} {l : List Oper} (n : Nat) (R : Nat → (Nat → Value) → World → Prop) (deps : Nat → List Nat)
    (hm : P.follows .mixedOrders = true) (hB : relB .any l n deps = true) (hst : ∀ j u w w', RowKit.Below w.heap.size w w' → R j u w → R j u w')
    (obl : relObl P l.toArray w.drew R deps (l.take n) a (l.take n) 0)
    (htail : ∀ (u : Nat → Value) w', RowKit.Below w.drew.heap.size w.drew w' → (∀ j, j < n → R j (mask (deps j) j u) w') → wpList P l.toArray Q (l.drop n) (putAll (l.take n) u 0 a) w') : (Code.region id l.toArray true).wp P Q a w := by
  refine wp_region_rel n (fun w' => RowKit.Below w.drew.heap.size w.drew w') (fun j u w => R j (mask (deps j) j u) w) deps hm hB (fun j u u' w h hR => by rw [← mask_congr h]; exact hR) (RowKit.Below.refl _ _) (fun i o ho u w' hI hd => ?_) htail
  have h := relObl_get (l.take n) 0 obl i o ho u w' hI (by rw [Nat.zero_add]; exact hd)
  rw [Nat.zero_add] at h
  rcases h with ⟨h1, h2⟩ | h
  · exact .inl ⟨h1, gives_mono (fun v w'' ⟨g1, g2⟩ => ⟨g1, below_then hI g2, fun j u _ hj => hst j _ _ _ g2 hj⟩) h2⟩
  · exact .inr h
/-- what an operation owes -/
def owes (P : Program) (ops : Array Oper) (Ri : Value → World → Prop) (A : Act) (o : Oper) (w : World) : Prop :=
  (Region.wanted o (yielded ops A.tmps) = true ∧ gives P (fun v w' => Ri v w' ∧ RowKit.Below w.heap.size w w') ((execOp A.eval o).run P w)) ∨ (Region.wanted o (yielded ops A.tmps) = false ∧ Ri undef w)
/-- an operation that leaves the world alone -/
theorem owes_here {Ri : Value → World → Prop} {A : Act} {o : Oper} {w : World} (v : Value) (hg : o.guard = none) (h : (execOp A.eval o).run P w = .ok (.value v) w) (hR : Ri v w) : owes P ops Ri A o w :=
  .inl ⟨by simp [Region.wanted, hg], by rw [h]; exact ⟨hR, RowKit.Below.refl _ _⟩⟩
theorem owes_call {Ri : Value → World → Prop} {A : Act} {o : Oper} {w : World} (f : FuncId) (args : Array Value) (hg : o.guard = none) (h : (execOp A.eval o).run P w = .ok (.enter f args) w)
    (hc : Calls P f args w fun e w' => ∃ v, e = .returned v ∧ Ri v w' ∧ RowKit.Below w.heap.size w w') : owes P ops Ri A o w :=
  .inl ⟨by simp [Region.wanted, hg], by rw [h]; exact hc⟩
/-- an operation that makes memory -/
theorem owes_makes {Ri : Value → World → Prop} {A : Act} {o : Oper} {w w' : World} (v : Value) (hg : o.guard = none) (h : (execOp A.eval o).run P w = .ok (.value v) w') (hR : Ri v w') (hb : RowKit.Below w.heap.size w w') : owes P ops Ri A o w :=
  .inl ⟨by simp [Region.wanted, hg], by rw [h]; exact ⟨hR, hb⟩⟩

theorem else_of {c : Prop} [Decidable c] {A B : Prop} (h : ¬ c) (q : B) : if c then A else B := by rw [if_neg h]; exact q
theorem then_of {c : Prop} [Decidable c] {A B : Prop} (h : c) (q : A) : if c then A else B := by rw [if_pos h]; exact q
/-! ### the same, what each operation does to the world said by K -/
def owesK (P : Program) (ops : Array Oper) (Ri : Value → World → Prop) (Ki : World → World → Prop) (A : Act) (o : Oper) (w : World) : Prop :=
  (Region.wanted o (yielded ops A.tmps) = true ∧ gives P (fun v w' => Ri v w' ∧ Ki w w') ((execOp A.eval o).run P w)) ∨ (Region.wanted o (yielded ops A.tmps) = false ∧ Ri undef w)
def relOblK (P : Program) (ops : Array Oper) (I : World → Prop) (K : Nat → World → World → Prop) (R : Nat → (Nat → Value) → World → Prop) (deps : Nat → List Nat) (hs : List Oper) (a0 : Act) : List Oper → Nat → Prop
  | [], _ => True
  | o :: r, i => (∀ (u : Nat → Value) w, I w → (∀ j ∈ deps i, R j (mask (deps j) j u) w) → owesK P ops (fun v w' => R i (mask (deps i) i (upd u i v)) w') (K i) (putAll hs u 0 a0) o w) ∧ relOblK P ops I K R deps hs a0 r (i + 1)
theorem relOblK_get {I : World → Prop} {K : Nat → World → World → Prop} {R : Nat → (Nat → Value) → World → Prop} {deps : Nat → List Nat} {hs : List Oper} {a0 : Act} : ∀ (l : List Oper) (k : Nat), relOblK P ops I K R deps hs a0 l k → ∀ j o, l[j]? = some o →
    (∀ (u : Nat → Value) w, I w → (∀ i ∈ deps (k + j), R i (mask (deps i) i u) w) → owesK P ops (fun v w' => R (k + j) (mask (deps (k + j)) (k + j) (upd u (k + j) v)) w') (K (k + j)) (putAll hs u 0 a0) o w)
  | [], _, _, j, o, h => by simp at h
  | x :: r, k, h, j, o, ho => by
    cases j with
    | zero =>
      simp only [List.getElem?_cons_zero, Option.some.injEq] at ho
      subst ho
      exact h.1
    | succ j =>
      have := relOblK_get r (k + 1) h.2 j o (by simpa using ho)
      rw [show k + 1 + j = k + (j + 1) by omega] at this
      exact this
theorem wp_region_relK {id : Nat} {Q : Exit → Act → World → Prop} {a : Act} {w : World} {l : List Oper} (n : Nat) (I : World → Prop) (K : Nat → World → World → Prop) (R : Nat → (Nat → Value) → World → Prop) (deps : Nat → List Nat)
    (hm : P.follows .mixedOrders = true) (hB : relB .any l n deps = true) (hI0 : I w.drew) (hI : ∀ i w w', K i w w' → I w → I w') (hst : ∀ i j u w w', j ≠ i → K i w w' → I w → R j u w → R j u w')
    (obl : relOblK P l.toArray I K R deps (l.take n) a (l.take n) 0)
    (htail : ∀ (u : Nat → Value) w', I w' → (∀ j, j < n → R j (mask (deps j) j u) w') → wpList P l.toArray Q (l.drop n) (putAll (l.take n) u 0 a) w') : (Code.region id l.toArray true).wp P Q a w := by
  refine wp_region_rel n I (fun j u w => R j (mask (deps j) j u) w) deps hm hB (fun j u u' w h hR => by rw [← mask_congr h]; exact hR) hI0 (fun i o ho u w' hI' hd => ?_) htail
  have h := relOblK_get (l.take n) 0 obl i o ho u w' hI' (by rw [Nat.zero_add]; exact hd)
  rw [Nat.zero_add] at h
  rcases h with ⟨h1, h2⟩ | h
  · exact .inl ⟨h1, gives_mono (fun v w'' ⟨g1, g2⟩ => ⟨g1, hI _ _ _ g2 hI', fun j u hji hj => hst i j _ _ _ hji g2 hI' hj⟩) h2⟩
  · exact .inr h
theorem owesK_here {Ri : Value → World → Prop} {Ki : World → World → Prop} {A : Act} {o : Oper} {w : World} (v : Value) (hg : o.guard = none) (h : (execOp A.eval o).run P w = .ok (.value v) w) (hR : Ri v w) (hk : Ki w w) : owesK P ops Ri Ki A o w :=
  .inl ⟨by simp [Region.wanted, hg], by rw [h]; exact ⟨hR, hk⟩⟩
theorem owesK_call {Ri : Value → World → Prop} {Ki : World → World → Prop} {A : Act} {o : Oper} {w : World} (f : FuncId) (args : Array Value) (hg : o.guard = none) (h : (execOp A.eval o).run P w = .ok (.enter f args) w)
    (hc : Calls P f args w fun e w' => ∃ v, e = .returned v ∧ Ri v w' ∧ Ki w w') : owesK P ops Ri Ki A o w :=
  .inl ⟨by simp [Region.wanted, hg], by rw [h]; exact hc⟩
theorem owesK_makes {Ri : Value → World → Prop} {Ki : World → World → Prop} {A : Act} {o : Oper} {w w' : World} (v : Value) (hg : o.guard = none) (h : (execOp A.eval o).run P w = .ok (.value v) w') (hR : Ri v w') (hk : Ki w w') : owesK P ops Ri Ki A o w :=
  .inl ⟨by simp [Region.wanted, hg], by rw [h]; exact ⟨hR, hk⟩⟩
theorem owesK_skip {Ri : Value → World → Prop} {Ki : World → World → Prop} {A : Act} {o : Oper} {w w' : World} (hg : o.guard = none) (h : (execOp A.eval o).run P w = .ok .skip w') (hR : Ri undef w') (hk : Ki w w') : owesK P ops Ri Ki A o w :=
  .inl ⟨by simp [Region.wanted, hg], by rw [h]; exact ⟨hR, hk⟩⟩
end
end Go.Proofs.YtlbolbkikkiifaaDoor
/- Blocks of the call's own that hold one thing each (boxes): stores and loads of the whole and of a field. Any program. -/
namespace Go.Proofs.YtlbolbkikkiifaaDoor
open Go.RowKit

/-- one block has turned, no other -/
structure Touch (g : Nat) (w W : World) : Prop where
  os : W.os = w.os
  tape : W.tape = w.tape
  output : W.output = w.output
  size : W.heap.size = w.heap.size
  other : ∀ b, b ≠ g → W.heap[b]? = w.heap[b]?

section
variable {g B : Nat} {a w W : World}
theorem Touch.below (h : Touch g w W) (hb : Below B a w) (hg : B ≤ g) : Below B a W :=
  hb.trans ⟨h.os, h.tape, h.output, by rw [h.size]; exact Nat.le_refl _, fun k hk => h.other k (by omega)⟩
theorem Touch.block (h : Touch g w W) {b : Nat} {x : Obj} (hx : w.heap[b]? = some x) (hne : b ≠ g) : W.heap[b]? = some x := (h.other b hne).trans hx
theorem below_block (h : Below w.heap.size w W) {b : Nat} {x : Obj} (hx : w.heap[b]? = some x) : W.heap[b]? = some x := by
  have hb : b < w.heap.size := by
    rcases Nat.lt_or_ge b w.heap.size with h1 | h1
    · exact h1
    · rw [Array.getElem?_eq_none h1] at hx; cases hx
  exact (h.block b hb).trans hx
theorem touch_setRow (w : World) (g : Nat) (cs : Array Value) : Touch g w (w.setRow g cs) := ⟨rfl, rfl, rfl, by simp, fun b hb => setRow_other w g b cs hb⟩
theorem OwnAt.touch {α : Type} {R : Rd α} {k : Nat} {e : TypeId} {v : Value} {l : List α} (hf : Flat R) (h : OwnAt R k w B e v l) (ht : Touch g w W) (hne : ∀ q, v.ownBlock = some q → q ≠ g) : OwnAt R k W B e v l := by
  obtain ⟨css, h1, h2, h3, h4⟩ := h
  refine ⟨css, h1, h2, ⟨h3.1, ?_⟩, fun j cs y hcs hy => hf _ _ _ _ (h4 j cs y hcs hy)⟩
  rcases h3.2 with h5 | ⟨q, cap, cur, rfl, hB, hh, hr⟩
  · exact .inl h5
  · exact .inr ⟨q, cap, cur, rfl, hB, (ht.other q (hne q rfl)).trans hh, hr⟩
theorem OwnAt.touchLow {α : Type} {R : Rd α} {k : Nat} {e : TypeId} {v : Value} {l : List α} (hf : Flat R) (h : OwnAt R k w B e v l) (ht : Touch g w W) (hg : g < B) : OwnAt R k W B e v l :=
  h.touch hf ht fun q hq => by have := (h.at hq).1; omega
end

section
variable {P : Program} {ops : Array Oper} {rest : List Oper} {o : Oper} {a : Act} {w : World} {Q : Exit → Act → World → Prop}
/-- (the walk stands at a continuation: on to the operations that are left) -/
theorem at_last {l : List Oper} {K : Act → World → Prop} (hK : ∀ a w, wpList P ops Q l a w → K a w) (h : wpList P ops Q l a w) : K a w := hK _ _ h
/-- the whole is stored -/
theorem wpList_store_box (hgd : o.guard = none) (ty : TypeId) (x y : Operand) (ho : o.op = .store ty x y) (g : Nat) (cells : Array Value) (hx : a.eval x = .pointer (some ⟨g, 0, none⟩)) (hy : a.eval y = .agg cells)
    (t : TypeId) (old : Array Value) (hg : w.heap[g]? = some (.cells old t (0, 0))) (hi : (P.info? ty).map (·.size) = some cells.size) (hold : old.size = cells.size) (h1 : cells.all (·.oneCell') = true)
    (h : ∀ W, W.heap[g]? = some (.cells cells t (0, 0)) → Touch g w W → wpList P ops Q rest (a.put o.dst undef) W) : wpList P ops Q (o :: rest) a w :=
  wpList_store_row hgd ty x y ho g cells hx hy t old hg hi hold h1 (h _ (setRow_heap w g old cells t (0, 0) hg) (touch_setRow w g cells))
/-- the whole of one box is loaded and stored into another -/
theorem wpList_copy_box {o2 : Oper} (hgd : o.guard = none) (ty : TypeId) (x : Operand) (ho : o.op = .load ty x) (hgd2 : o2.guard = none) (y z : Operand) (ho2 : o2.op = .store ty y z) (g1 g2 : Nat) (hx : a.eval x = .pointer (some ⟨g1, 0, none⟩))
    (t1 : TypeId) (cells : Array Value) (fr : Nat × Nat) (d : TypeDesc) (hg1 : w.heap[g1]? = some (.cells cells t1 fr)) (hy : (a.put o.dst (.agg cells)).eval y = .pointer (some ⟨g2, 0, none⟩)) (hz : (a.put o.dst (.agg cells)).eval z = .agg cells)
    (t : TypeId) (old : Array Value) (hg : w.heap[g2]? = some (.cells old t (0, 0))) (hu : P.underlying ty = some d) (hd : (match d with | .struct _ | .array _ _ => true | _ => false) = true)
    (hi : (P.info? ty).map (·.size) = some cells.size) (hold : old.size = cells.size) (h1 : cells.all (·.oneCell') = true)
    (h : ∀ W, W.heap[g2]? = some (.cells cells t (0, 0)) → Touch g2 w W → wpList P ops Q rest ((a.put o.dst (.agg cells)).put o2.dst undef) W) : wpList P ops Q (o :: o2 :: rest) a w :=
  wpList_load_row hgd ty x ho g1 hx t1 cells fr d hg1 hu hd hi (wpList_store_box hgd2 ty y z ho2 g2 cells hy hz t old hg hi hold h1 h)
/-- a store into one cell of a box -/
theorem touch_setCell {g i : Nat} {cs : Array Value} {t : TypeId} {v : Value} (hg : w.heap[g]? = some (.cells cs t (0, 0))) : (w.setCell ⟨g, i, none⟩ v).heap[g]? = some (.cells (cs.setIfInBounds i v) t (0, 0)) ∧ Touch g w (w.setCell ⟨g, i, none⟩ v) := by
  rw [setCell_eq_setRow w g i cs t (0, 0) v hg]
  exact ⟨setRow_heap w g _ _ t _ hg, touch_setRow w g _⟩
theorem results_two_box {fn : Func} {p q : Tmp} {ty : TypeId} (h : fn.results = #[.cell p ty, .tmp q]) (tmps : Array Value) (w : World) (g : Nat) (t : TypeId) (cs : Array Value) (fr : Nat × Nat) (d : TypeDesc)
    (hp : tmps.getD p undef = .pointer (some ⟨g, 0, none⟩)) (hg : w.heap[g]? = some (.cells cs t fr))
    (hu : P.underlying ty = some d) (hd : (match d with | .struct _ | .array _ _ => true | _ => false) = true) (hi : (P.info? ty).map (·.size) = some cs.size) :
    (results fn tmps).run P w = .ok (.tuple #[.agg cs, tmps.getD q undef]) w := by
  have hp' : tmps[p]?.getD undef = .pointer (some ⟨g, 0, none⟩) := by simpa using hp
  simp [results, h, hp', asAddr, run_loadVar_row w g t ty cs fr d hg hu hd hi]
theorem results_three_box {fn : Func} {p q r : Tmp} {ty : TypeId} (h : fn.results = #[.cell p ty, .tmp q, .tmp r]) (tmps : Array Value) (w : World) (g : Nat) (t : TypeId) (cs : Array Value) (fr : Nat × Nat) (d : TypeDesc)
    (hp : tmps.getD p undef = .pointer (some ⟨g, 0, none⟩)) (hg : w.heap[g]? = some (.cells cs t fr))
    (hu : P.underlying ty = some d) (hd : (match d with | .struct _ | .array _ _ => true | _ => false) = true) (hi : (P.info? ty).map (·.size) = some cs.size) :
    (results fn tmps).run P w = .ok (.tuple #[.agg cs, tmps.getD q undef, tmps.getD r undef]) w := by
  have hp' : tmps[p]?.getD undef = .pointer (some ⟨g, 0, none⟩) := by simpa using hp
  simp [results, h, hp', asAddr, run_loadVar_row w g t ty cs fr d hg hu hd hi]

/-- (in a region that draws) the whole of a box is stored -/
theorem owesK_store {Ri : Value → World → Prop} {Ki : World → World → Prop} (hgd : o.guard = none) (ty : TypeId) (x y : Operand) (ho : o.op = .store ty x y) (g : Nat) (cells : Array Value) (hx : a.eval x = .pointer (some ⟨g, 0, none⟩)) (hy : a.eval y = .agg cells)
    (t : TypeId) (old : Array Value) (hg : w.heap[g]? = some (.cells old t (0, 0))) (hi : (P.info? ty).map (·.size) = some cells.size) (hold : old.size = cells.size) (h1 : cells.all (·.oneCell') = true)
    (h : ∀ W, W.heap[g]? = some (.cells cells t (0, 0)) → Touch g w W → Ri undef W ∧ Ki w W) : owesK P ops Ri Ki a o w := by
  have h2 := h _ (setRow_heap w g old cells t (0, 0) hg) (touch_setRow w g cells)
  refine owesK_skip (w' := w.setRow g cells) hgd ?_ h2.1 h2.2
  unfold execOp
  simp only [ho, hx, hy, Instr.storeAt, Instr.sureAddr, Sem.run_bind, Sem.run_pure, Result.andThen_ok, run_storeVar_row w g t ty old cells hg hi hold h1]
end
theorem flat_set {β : Type} {k : Nat} : ∀ {css : List (List β)}, (∀ cs ∈ css, cs.length = k) → ∀ {j i : Nat} {cs : List β} (u : β), css[j]? = some cs → i < k → css.flatten.set (j * k + i) u = (css.set j (cs.set i u)).flatten
  | [], _, j, i, cs, u, h, _ => by simp at h
  | c :: r, hk, j, i, cs, u, h, hi => by
    have hc : c.length = k := hk c (List.mem_cons_self ..)
    cases j with
    | zero =>
      simp only [List.getElem?_cons_zero, Option.some.injEq] at h
      subst h
      rw [List.flatten_cons, List.set_cons_zero, List.flatten_cons, Nat.zero_mul, Nat.zero_add, List.set_append_left _ _ (by omega)]
    | succ j =>
      rw [List.flatten_cons, List.set_cons_succ, List.flatten_cons, List.set_append_right _ _ (by rw [Nat.add_mul]; omega), show (j + 1) * k + i - c.length = j * k + i by rw [Nat.add_mul]; omega,
        flat_set (fun cs hcs => hk cs (List.mem_cons_of_mem _ hcs)) u (by simpa using h) hi]
/-- a cell of an own row is stored -/
theorem OwnAt.store {α : Type} {R : Rd α} {k : Nat} {l : List α} {B : Nat} {e : TypeId} (hf : Flat R) {w : World} {g c n : Nat} (h : OwnAt R k w B e (.slice (some ⟨g, 0, none⟩) n c) l) {j i : Nat} {x x' : α} (hj : l[j]? = some x) (hi : i < k) (u : Value) (hR : ∀ cs, R w cs x → R w (cs.set i u) x') :
    OwnAt R k (w.setCell ⟨g, j * k + i, none⟩ u) B e (.slice (some ⟨g, 0, none⟩) n c) (l.set j x') ∧ Touch g w (w.setCell ⟨g, j * k + i, none⟩ u) := by
  obtain ⟨css, h1, h2, h3, h4⟩ := h
  have hjl := (List.getElem?_eq_some_iff.1 hj).1
  have hcs : css[j]? = some (css[j]'(by omega)) := List.getElem?_eq_getElem _
  have hck : (css[j]'(by omega)).length = k := h2 _ (List.getElem_mem _)
  rcases h3.2 with ⟨h5, _⟩ | ⟨g', cap, cur, hv, hB, hh, hle, hm, hz, ht⟩
  · cases h5
  · cases hv
    obtain ⟨t1, t2⟩ := touch_setCell (i := j * k + i) (v := u) hh
    refine ⟨⟨css.set j ((css[j]'(by omega)).set i u), by simp [h1], fun cs hcs' => ?_, ?_, fun q cs y hq hy => ?_⟩, t2⟩
    · rcases List.mem_or_eq_of_mem_set hcs' with h6 | h6
      · exact h2 cs h6
      · rw [h6, List.length_set]; exact hck
    · rw [List.length_set]
      refine ⟨?_, .inr ⟨g, c, _, rfl, hB, t1, hle, hm, by simpa using hz, ?_⟩⟩
      · rw [← flat_set h2 u hcs hi, List.length_set]; exact h3.1
      · rw [← flat_set h2 u hcs hi, ← ht, Array.toList_setIfInBounds, List.take_set]
    · by_cases hqj : j = q
      · subst hqj
        rw [List.getElem?_set, if_pos rfl, if_pos (by omega)] at hq hy
        cases hq; cases hy
        exact hf _ _ _ _ (hR _ (h4 j _ x hcs hj))
      · rw [List.getElem?_set, if_neg hqj] at hq hy
        exact hf _ _ _ _ (h4 q cs y hq hy)
end Go.Proofs.YtlbolbkikkiifaaDoor
/- The library's slices functions at texts, in our words. -/
namespace Go.Proofs.YtlbolbkikkiifaaDoor
open Go.RowKit

theorem strAt_getD {l : List ByteArray} {j : Nat} (hj : j < l.length) : l[j]? = some (l.getD j ByteArray.empty) := by simp [List.getD, hj]
set_option maxRecDepth 100000 in
theorem contains_any (v : Value) (l : List ByteArray) (x : ByteArray) (w : World) (h : StrAt w v l) (hl : l.length ≤ 1073741824) : Calls Tryd.prog 52 #[v, .string x] w fun e w' => e = .returned (.bool (Lib.containsS l x)) ∧ w = w' := by
  rcases Nat.eq_zero_or_pos l.length with h0 | h0
  · obtain rfl := nil_of_len h0
    obtain ⟨ao, c, rfl, _, _⟩ := h.len
    exact (Tryd.slices_Contains_string_empty ao c x w).mono fun e w' ⟨h1, h2⟩ => ⟨by rw [h1]; rfl, h2.symm⟩
  · obtain ⟨b, o, c, rfl, _, _, _, hc⟩ := h.form h0
    refine (Tryd.slices_Contains_string b o l.length c l x w (Nat.le_refl _) (by omega) fun j hj => hc j _ (strAt_getD hj)).mono fun e w' ⟨h1, h2⟩ => ⟨?_, h2.symm⟩
    rw [h1, List.take_of_length_le (Nat.le_refl _)]
theorem index_any (v : Value) (l : List ByteArray) (x : ByteArray) (w : World) (h : StrAt w v l) (hl : l.length ≤ 1073741824) : Calls Tryd.prog 78 #[v, .string x] w fun e w' => e = .returned (.int .i64 (Lib.idxOfS l x)) ∧ w = w' := by
  rcases Nat.eq_zero_or_pos l.length with h0 | h0
  · obtain rfl := nil_of_len h0
    obtain ⟨ao, c, rfl, _, _⟩ := h.len
    exact (Tryd.slices_Index_string_empty ao c x w).mono fun e w' ⟨h1, h2⟩ => ⟨h1, h2.symm⟩
  · obtain ⟨b, o, c, rfl, _, _, _, hc⟩ := h.form h0
    refine (Tryd.slices_Index_string b o l.length c l x w (Nat.le_refl _) (by omega) fun j hj => hc j _ (strAt_getD hj)).mono fun e w' ⟨h1, h2⟩ => ⟨?_, h2.symm⟩
    rw [h1, List.take_of_length_le (Nat.le_refl _)]
theorem idx_none {l : List ByteArray} {x : ByteArray} (h : x ∉ l) : Lib.idxOfS l x = -1 := by
  have := Lib.idxOfS_miss l l.length x fun j hj e => h (by rw [← e]; exact List.mem_of_getElem? (strAt_getD hj))
  rwa [List.take_of_length_le (Nat.le_refl _)] at this
theorem idx_at {l : List ByteArray} {x : ByteArray} {k : Nat} (hk : l[k]? = some x) (hn : l.Nodup) : Lib.idxOfS l x = (k : Int) := by
  have hkl := (List.getElem?_eq_some_iff.1 hk).1
  have hx : l.getD k ByteArray.empty = x := by simp [List.getD, hk]
  have := Lib.idxOfS_hit l l.length k x hkl (Nat.le_refl _) hx fun j hj e => by
    have h1 : l[j]? = some x := by rw [← e]; exact strAt_getD (by omega)
    have h2 := (List.getElem?_inj (by omega : j < l.length) hn).1 (h1.trans hk.symm)
    omega
  rwa [List.take_of_length_le (Nat.le_refl _)] at this

/-- stores into a row of the call's own, one behind the other -/
theorem setCells_rowS (g : Nat) (t : TypeId) : ∀ (vs : List Value) (i : Nat) (cur : Array Value) (w : World), w.heap[g]? = some (.cells cur t (0, 0)) → i + vs.length ≤ cur.size →
    ∃ cur', (w.setCells g i vs).heap[g]? = some (.cells cur' t (0, 0)) ∧ cur'.size = cur.size ∧ (∀ j, j < i → cur'[j]? = cur[j]?) ∧ (∀ j u, vs[j]? = some u → cur'[i + j]? = some u) ∧ Touch g w (w.setCells g i vs)
  | [], i, cur, w, hg, _ => ⟨cur, hg, rfl, fun _ _ => rfl, fun j u h => by simp at h, ⟨rfl, rfl, rfl, rfl, fun _ _ => rfl⟩⟩
  | v :: r, i, cur, w, hg, hl => by
    simp only [List.length_cons] at hl
    obtain ⟨h1, h2⟩ := touch_setCell (w := w) (i := i) (v := v) hg
    obtain ⟨cur', g1, g2, g3, g4, g5⟩ := setCells_rowS g t r (i + 1) _ _ h1 (by simp; omega)
    refine ⟨cur', g1, by simpa using g2, fun j hj => ?_, fun j u hu => ?_, ?_⟩
    · rw [g3 j (by omega), Array.getElem?_setIfInBounds, if_neg (by omega)]
    · cases j with
      | zero =>
        simp only [List.getElem?_cons_zero, Option.some.injEq] at hu
        subst hu
        rw [Nat.add_zero, g3 i (by omega), Array.getElem?_setIfInBounds, if_pos rfl, if_pos (by omega)]
      | succ j =>
        have := g4 j u (by simpa using hu)
        rwa [show i + 1 + j = i + (j + 1) by omega] at this
    · show Touch g w ((w.setCell ⟨g, i, none⟩ v).setCells g (i + 1) r)
      exact ⟨g5.os.trans h2.os, g5.tape.trans h2.tape, g5.output.trans h2.output, g5.size.trans h2.size, fun b hb => (g5.other b hb).trans (h2.other b hb)⟩
theorem eraseIdx_get {β : Type} (l : List β) (i j : Nat) : (l.eraseIdx i)[j]? = if j < i then l[j]? else l[j + 1]? := List.getElem?_eraseIdx ..
theorem own_strs {w : World} {B : Nat} {e : TypeId} {v : Value} {l : List ByteArray} (h : OwnAt RString 1 w B e v l) : w.ownsRow B e 1 v l.length (strs l) := by
  obtain ⟨css, h1, h2, h3, h4⟩ := h
  have : css.flatten = strs l := by
    apply List.ext_getElem?
    intro j
    by_cases hj : j < l.length
    · have hcs : css[j]? = some css[j] := List.getElem?_eq_getElem (by omega)
      have hR : css[j] = [.string l[j]] := h4 j _ _ hcs (List.getElem?_eq_getElem hj)
      have := get_flat h2 (j := j) (i := 0) hcs (u := .string l[j]) (by rw [hR]; rfl)
      rw [Nat.mul_one, Nat.add_zero] at this
      rw [this]
      simp [strs, hj]
    · rw [List.getElem?_eq_none (by rw [flat_len h2]; omega), List.getElem?_eq_none (by rw [strs_length]; omega)]
  rwa [this] at h3
theorem ownAt_strs {w : World} {B n : Nat} {e : TypeId} {v : Value} {l : List ByteArray} (h : w.ownsRow B e 1 v n (strs l)) (hn : l.length = n) : OwnAt RString 1 w B e v l := by
  subst hn
  refine ⟨l.map fun x => [.string x], by simp, fun cs hcs => ?_, ?_, fun j cs x hcs hx => ?_⟩
  · obtain ⟨x, _, rfl⟩ := List.mem_map.1 hcs; rfl
  · have key : ∀ m : List ByteArray, (m.map fun x => [Value.string x]).flatten = strs m := fun m => by
      induction m with
      | nil => rfl
      | cons y r ih => rw [List.map_cons, List.flatten_cons, ih]; rfl
    rw [key]; exact h
  · simp only [List.getElem?_map, hx, Option.map_some, Option.some.injEq] at hcs
    exact hcs.symm
end Go.Proofs.YtlbolbkikkiifaaDoor
/- The order of texts; cmp.Compare at texts. -/
namespace Go.Proofs.YtlbolbkikkiifaaDoor
open Go.RowKit

theorem bl_irrefl : ∀ x : List UInt8, Op.bytesLess x x = false
  | [] => rfl
  | a :: x => by unfold Op.bytesLess; simp [bl_irrefl x]
theorem bl_total : ∀ x y : List UInt8, Op.bytesLess x y = false → Op.bytesLess y x = false → x = y
  | [], [], _, _ => rfl
  | [], _ :: _, h, _ => by simp [Op.bytesLess] at h
  | _ :: _, [], _, h => by simp [Op.bytesLess] at h
  | a :: x, b :: y, h1, h2 => by
    unfold Op.bytesLess at h1 h2
    simp only [Bool.or_eq_false_iff, Bool.and_eq_false_iff, decide_eq_false_iff_not, UInt8.not_lt] at h1 h2
    have hab : a = b := UInt8.le_antisymm h2.1 h1.1
    subst hab
    rw [bl_total x y (by simpa using h1.2) (by simpa using h2.2)]
theorem bl_trans : ∀ x y z : List UInt8, Op.bytesLess x y = true → Op.bytesLess y z = true → Op.bytesLess x z = true
  | _, [], _, h, _ => by simp [Op.bytesLess] at h
  | _, _ :: _, [], _, h => by simp [Op.bytesLess] at h
  | [], _ :: _, _ :: _, _, _ => rfl
  | a :: x, b :: y, c :: z, h1, h2 => by
    unfold Op.bytesLess at h1 h2 ⊢
    simp only [Bool.or_eq_true, Bool.and_eq_true, decide_eq_true_eq, beq_iff_eq] at h1 h2 ⊢
    rcases h1 with h1 | ⟨rfl, h1⟩
    · rcases h2 with h2 | ⟨rfl, h2⟩
      · exact .inl (UInt8.lt_trans h1 h2)
      · exact .inl h1
    · rcases h2 with h2 | ⟨rfl, h2⟩
      · exact .inl h2
      · exact .inr ⟨rfl, bl_trans x y z h1 h2⟩
theorem bl_asymm {x y : List UInt8} (h : Op.bytesLess x y = true) : Op.bytesLess y x = false := by
  cases h2 : Op.bytesLess y x with
  | false => rfl
  | true => have := bl_trans x y x h h2; rw [bl_irrefl] at this; cases this
def lessB (a b : ByteArray) : Bool := Op.bytesLess a.toList b.toList
theorem toList_inj {a b : ByteArray} (h : a.toList = b.toList) : a = b := by
  rw [ByteArray.toList_eq, ByteArray.toList_eq] at h
  cases a; cases b
  simp only [ByteArray.mk.injEq]
  exact Array.toList_inj.1 h
theorem lessB_irrefl (a : ByteArray) : lessB a a = false := bl_irrefl _
theorem lessB_total {a b : ByteArray} (h : lessB a b = false) (k : lessB b a = false) : a = b := toList_inj (bl_total _ _ h k)
theorem lessB_trans {a b c : ByteArray} (h : lessB a b = true) (k : lessB b c = true) : lessB a c = true := bl_trans _ _ _ h k
theorem lessB_asymm {a b : ByteArray} (h : lessB a b = true) : lessB b a = false := bl_asymm h
/-- below, the same, above -/
def cmpB (a b : ByteArray) : Int := if lessB a b = true then -1 else if (a.toList == b.toList) = true then 0 else 1
end Go.Proofs.YtlbolbkikkiifaaDoor
/- grants: what is checked, what is held, what is allowed, in plain words. -/
namespace Go.Proofs.YtlbolbkikkiifaaDoor
open Go.RowKit

/-- the first thing that is wrong -/
def says (b e : Int) : Int := if b = 0 then e else b
def firstBad : List Int → Int
  | [] => 0
  | e :: r => says e (firstBad r)
theorem says_zero (b : Int) : says b 0 = b := by unfold says; split <;> simp_all
theorem zero_says (b : Int) : says 0 b = b := by unfold says; simp
theorem says_assoc (a b c : Int) : says (says a b) c = says a (says b c) := by unfold says; by_cases h : a = 0 <;> simp [h]
theorem says_eq_zero (a b : Int) : says a b = 0 ↔ a = 0 ∧ b = 0 := by unfold says; by_cases h : a = 0 <;> simp [h]
theorem firstBad_append (l m : List Int) : firstBad (l ++ m) = says (firstBad l) (firstBad m) := by
  induction l with
  | nil => simp [firstBad, zero_says]
  | cons e r ih => simp only [List.cons_append, firstBad, ih, says_assoc]
theorem firstBad_zero (l : List Int) : firstBad l = 0 ↔ ∀ e ∈ l, e = 0 := by
  induction l with
  | nil => simp [firstBad]
  | cons e r ih => simp [firstBad, says_eq_zero, ih]
theorem firstBad_take {l : List Int} {i : Nat} {e : Int} (h : l[i]? = some e) : firstBad (l.take (i + 1)) = says (firstBad (l.take i)) e := by
  rw [List.take_add_one, h, firstBad_append]
  simp [firstBad, says_zero]
def need (b : Bool) (e : Int) : Int := if b = true then 0 else e
def starB : ByteArray := "*".toUTF8
def nameC (st : Bool) (s : ByteArray) : Int := if st = true ∧ s = starB then 0 else NameP.check s.data.toList
def namesC (st : Bool) (l : List ByteArray) : Int := firstBad (l.map (nameC st))
def spaceC (s : ByteArray) : Int := if s.size = 0 then 0 else NameP.check s.data.toList
def smallR (r : GRule) : Bool := decide (r.verbs.length ≤ 6) && (decide (r.kinds.length ≤ 6) && decide (r.names.length ≤ 6))
def fullR (r : GRule) : Bool := decide (0 < r.verbs.length) && decide (0 < r.kinds.length)
def ruleC (r : GRule) : Int := says (need (smallR r) 2) (says (need (fullR r) 1) (says (namesC true r.verbs) (says (namesC true r.kinds) (namesC false r.names))))
def rulesC (l : List GRule) : Int := says (need (decide (l.length ≤ 8)) 2) (firstBad (l.map ruleC))
def eqB (a b : ByteArray) : Bool := a.toList == b.toList
theorem eqB_iff (a b : ByteArray) : eqB a b = true ↔ a = b := ⟨fun h => toList_inj (by simpa [eqB] using h), fun h => by subst h; simp [eqB]⟩
theorem str_none {s : ByteArray} (h : s.size = 0) : s.toList = [] := by rw [ByteArray.toList_eq]; exact List.eq_nil_of_length_eq_zero (by simpa using h)
theorem str_some {s : ByteArray} (h : s.size ≠ 0) : (!s.toList.isEmpty) = true := by
  rw [ByteArray.toList_eq]
  have hl : s.data.toList.length = s.size := by simp
  cases hd : s.data.toList with | nil => rw [hd] at hl; simp at hl; omega | cons x r => rfl
theorem eqB_empty (s : ByteArray) : eqB s ByteArray.empty = decide (s.size = 0) := by
  rw [Bool.eq_iff_iff, eqB_iff, decide_eq_true_iff]
  constructor
  · intro h; rw [h]; rfl
  · intro h; exact toList_inj (by rw [str_none h, str_none (s := ByteArray.empty) rfl])
def sameRole (q r : GRole) : Bool := eqB q.space r.space && eqB q.name r.name
def sameBind (q r : GBind) : Bool := eqB q.space r.space && eqB q.name r.name
def roleC (bef : List GRole) (r : GRole) : Int := says (spaceC r.space) (says (NameP.check r.name.data.toList) (says (need (!bef.any fun q => sameRole q r) 5) (rulesC r.rules)))
def bindC (bef : List GBind) (b : GBind) : Int :=
  says (spaceC b.space) (says (namesC false [b.name, b.role]) (says (need (!bef.any fun q => sameBind q b) 5) (says (need (!eqB b.space ByteArray.empty || b.whole) 1)
    (says (need (decide (b.users.length ≤ 6) && decide (b.groups.length ≤ 6)) 2) (says (namesC false b.users) (namesC false b.groups))))))
def rolesC (l : List GRole) : List Int := l.mapIdx fun i r => roleC (l.take i) r
def bindsC (l : List GBind) : List Int := l.mapIdx fun i b => bindC (l.take i) b
def grantsC (g : GGrants) : Int := says (need (decide (g.roles.length ≤ 12) && decide (g.binds.length ≤ 12)) 2) (says (firstBad (rolesC g.roles)) (firstBad (bindsC g.binds)))
def askC (a : GAsk) : Int := says (namesC false [a.verb, a.kind]) (says (spaceC a.space) (spaceC a.name))
def shortC (s : ByteArray) : Int := says (NameP.check s.data.toList) (if 20 < s.size then 2 else 0)
def userC (u : GUser) : Int :=
  says (shortC u.name) (if 6 < u.groups.length then 2 else firstBad (u.groups.mapIdx fun i g => says (shortC g) (if Lib.containsS (u.groups.take i) g = true then 5 else 0)))
def codeC (g : GGrants) (u : GUser) (space : ByteArray) : Int := says (grantsC g) (says (userC u) (spaceC space))

def hasL (l : List ByteArray) (s : ByteArray) : Bool := Lib.containsS l s || Lib.containsS l starB
def allowsR (a : GAsk) (r : GRule) : Bool := hasL r.verbs a.verb && (hasL r.kinds a.kind && (decide (r.names.length = 0) || (!eqB a.name ByteArray.empty && Lib.containsS r.names a.name)))
def allowsL (l : List GRule) (a : GAsk) : Bool := l.any (allowsR a)
def isForB (b : GBind) (u : GUser) : Bool := Lib.containsS b.users u.name || u.groups.any fun g => Lib.containsS b.groups g
/-- is a binding one of a user in a space? -/
def bindOn (u : GUser) (space : ByteArray) (b : GBind) : Bool := isForB b u && (eqB b.space ByteArray.empty || eqB b.space space)
def fromOf (b : GBind) : ByteArray := if b.whole = true then ByteArray.empty else b.space
def rulesOf (b : GBind) (r : GRole) : List GRule := if (eqB r.space (fromOf b) && eqB r.name b.role) = true then r.rules else []
def bindRules (g : GGrants) (u : GUser) (space : ByteArray) (b : GBind) : List GRule := if bindOn u space b = true then g.roles.flatMap (rulesOf b) else []
def heldL (g : GGrants) (u : GUser) (space : ByteArray) : List GRule := g.binds.flatMap (bindRules g u space)
def mayE (g : GGrants) (u : GUser) (a : GAsk) : Int := says (codeC g u ByteArray.empty) (askC a)
def mayP (g : GGrants) (u : GUser) (a : GAsk) : Bool := decide (mayE g u a = 0) && allowsL (heldL g u a.space) a
theorem take_flatMap {α β : Type} (f : α → List β) (l : List α) {i : Nat} {x : α} (h : l[i]? = some x) : (l.take (i + 1)).flatMap f = (l.take i).flatMap f ++ f x := by
  rw [List.take_add_one, h, List.flatMap_append]
  simp
end Go.Proofs.YtlbolbkikkiifaaDoor
/- Audit: an entry and its line; the plain laws. -/
namespace Go.Proofs.YtlbolbkikkiifaaDoor
open Go.RowKit
open JP (Bs)

namespace AuP
def emptyOr (s : Bs) : Int := if s = [] then 0 else NameP.check s
def keyE (k s n : Bs) : Int := says (NameP.check k) (says (emptyOr s) (NameP.check n))
def orX (s : Bs) : Bs := if s = [] then [120] else s
def numE (a b : Int) : Int := if 0 ≤ a ∧ a ≤ 99 ∧ 0 ≤ b ∧ b ≤ 1099511627776 then 0 else 1
def entryE (x : GEntry) : Int := says (emptyOr x.who.data.toList) (says (NameP.check x.verb.data.toList) (says (keyE x.ekey.kind.data.toList x.ekey.space.data.toList (orX x.ekey.name.data.toList)) (numE x.what x.rev)))
def parts (x : GEntry) : List Bs := [x.who.data.toList, x.verb.data.toList, x.ekey.kind.data.toList, x.ekey.space.data.toList, x.ekey.name.data.toList, Lib.itoa x.what, Lib.itoa x.rev]
def lineT (x : GEntry) : Bs := if entryE x = 0 then Lib.join (parts x) [47] else []
def mkE (a b c d e : Bs) (n m : Int) : GEntry := ⟨mkB a, mkB b, ⟨mkB c, mkB d, mkB e⟩, n, m⟩
def numsE (s : Bs) (a b c d e : Bs) : Option Int → Option Int → Option GEntry
  | some n, some m => if entryE (mkE a b c d e n m) = 0 ∧ lineT (mkE a b c d e n m) = s then some (mkE a b c d e n m) else none
  | _, _ => none
def partsE (s : Bs) : List Bs → Option GEntry
  | [a, b, c, d, e, f, g] => numsE s a b c d e (timeOf f) (timeOf g)
  | _ => none
def parseP (s : Bs) : Option GEntry := partsE s (splitL 47 s)

theorem emptyOr_zero {s : Bs} (h : emptyOr s = 0) : (47 : UInt8) ∉ s := by
  unfold emptyOr at h
  split at h
  · subst s; simp
  · exact (isName_free (NameP.check_ok.1 h).2).2.2.1
theorem entry_parts {x : GEntry} (h : entryE x = 0) : (∀ q ∈ parts x, (47 : UInt8) ∉ q) ∧ 0 ≤ x.what ∧ x.what ≤ 99 ∧ 0 ≤ x.rev ∧ x.rev ≤ 1099511627776 := by
  unfold entryE keyE at h
  rw [says_eq_zero, says_eq_zero, says_eq_zero, says_eq_zero, says_eq_zero] at h
  obtain ⟨h1, h2, ⟨h3, h4, h5⟩, h6⟩ := h
  have h6' : 0 ≤ x.what ∧ x.what ≤ 99 ∧ 0 ≤ x.rev ∧ x.rev ≤ 1099511627776 := by
    unfold numE at h6
    split at h6
    · assumption
    · cases h6
  refine ⟨?_, h6'⟩
  have h7 : (47 : UInt8) ∉ x.ekey.name.data.toList := by
    unfold orX at h5
    split at h5
    · rename_i he; rw [he]; simp
    · exact (isName_free (NameP.check_ok.1 h5).2).2.2.1
  intro q hq
  unfold parts at hq
  simp only [List.mem_cons, List.not_mem_nil, or_false] at hq
  rcases hq with rfl | rfl | rfl | rfl | rfl | rfl | rfl
  · exact emptyOr_zero h1
  · exact (isName_free (NameP.check_ok.1 h2).2).2.2.1
  · exact (isName_free (NameP.check_ok.1 h3).2).2.2.1
  · exact emptyOr_zero h4
  · exact h7
  · exact (itoa_free h6'.1).2.2
  · exact (itoa_free h6'.2.2.1).2.2
theorem mkE_back (x : GEntry) : mkE x.who.data.toList x.verb.data.toList x.ekey.kind.data.toList x.ekey.space.data.toList x.ekey.name.data.toList x.what x.rev = x := by
  unfold mkE
  simp only [mkB_of]
theorem back {x : GEntry} (h : entryE x = 0) : parseP (lineT x) = some x := by
  obtain ⟨h1, h2, h3, h4, h5⟩ := entry_parts h
  have hl : lineT x = Lib.join (parts x) [47] := by unfold lineT; rw [if_pos h]
  unfold parseP
  rw [hl, split_join 47 (by unfold parts; simp) h1]
  show numsE _ _ _ _ _ _ (timeOf (Lib.itoa x.what)) (timeOf (Lib.itoa x.rev)) = _
  rw [timeOf_itoa h2 (by omega), timeOf_itoa h4 (by omega)]
  unfold numsE
  simp only [mkE_back]
  rw [if_pos ⟨h, hl⟩]
theorem one {s : Bs} {y : GEntry} (h : parseP s = some y) : entryE y = 0 ∧ lineT y = s := by
  unfold parseP partsE at h
  split at h
  · unfold numsE at h
    split at h
    · split at h
      · rename_i hc
        injection h with h
        rw [← h]; exact hc
      · cases h
    · cases h
  · cases h
theorem slash : parseP [47] = none := by rfl
end AuP
end Go.Proofs.YtlbolbkikkiifaaDoor
/- The walks of package name: isEdge, isLow, made, isName, isWord, judge, Check, CheckVal: what they give. -/
namespace Go.Proofs.YtlbolbkikkiifaaDoor
open Go.RowKit

theorem byteRanges (c : Nat) : c < 48 ∨ (48 ≤ c ∧ c ≤ 57) ∨ (57 < c ∧ c < 65) ∨ (65 ≤ c ∧ c ≤ 90) ∨ (90 < c ∧ c < 97) ∨ (97 ≤ c ∧ c ≤ 122) ∨ 122 < c := by omega

set_option maxHeartbeats 800000 in
theorem isEdge_any (c : Nat) (w : World) (_h8 : c < 256) :
    Calls Tryd.prog 130 #[.int .u8 (c : Int)] w fun e w' => e = .returned (.bool (NameP.edge c)) ∧ w = w' := by
  rcases byteRanges c with h | ⟨h, h'⟩ | ⟨h, h'⟩ | ⟨h, h'⟩ | ⟨h, h'⟩ | ⟨h, h'⟩ | h
  all_goals
    go_enter Tryd.func130, Tryd.ntmps130
    go_wp2
    go_ret
    exact ⟨congrArg (fun b => Ending.returned (.bool b)) (by unfold NameP.edge; rw [Bool.eq_iff_iff]; simp; omega), rfl⟩

set_option maxHeartbeats 800000 in
theorem isLow_any (c : Nat) (w : World) (h8 : c < 256) :
    Calls Tryd.prog 111 #[.int .u8 (c : Int)] w fun e w' => e = .returned (.bool (NameP.low c)) ∧ w = w' := by
  cases he : NameP.edge c with
  | false =>
    have He := Lib.hid he; clear he
    go_enter Tryd.func111, Tryd.ntmps111
    go_wp2_with fail
    refine (isEdge_any c _ h8).mono ?_
    rintro e w' ⟨rfl, rfl⟩
    rw [He.out]
    go_wp2
    go_ret
    exact ⟨congrArg (fun b => Ending.returned (.bool b)) (by simp [NameP.low, He.out]), rfl⟩
  | true =>
    have He := Lib.hid he; clear he
    by_cases h1 : c < 65
    · go_enter Tryd.func111, Tryd.ntmps111
      go_wp2_with fail
      refine (isEdge_any c _ h8).mono ?_
      rintro e w' ⟨rfl, rfl⟩
      rw [He.out]
      go_wp2
      go_ret
      exact ⟨congrArg (fun b => Ending.returned (.bool b)) (by unfold NameP.low; rw [He.out, Bool.eq_iff_iff]; simp; omega), rfl⟩
    · by_cases h2 : 90 < c
      · go_enter Tryd.func111, Tryd.ntmps111
        go_wp2_with fail
        refine (isEdge_any c _ h8).mono ?_
        rintro e w' ⟨rfl, rfl⟩
        rw [He.out]
        go_wp2
        go_ret
        exact ⟨congrArg (fun b => Ending.returned (.bool b)) (by unfold NameP.low; rw [He.out, Bool.eq_iff_iff]; simp; omega), rfl⟩
      · go_enter Tryd.func111, Tryd.ntmps111
        go_wp2_with fail
        refine (isEdge_any c _ h8).mono ?_
        rintro e w' ⟨rfl, rfl⟩
        rw [He.out]
        go_wp2
        go_ret
        exact ⟨congrArg (fun b => Ending.returned (.bool b)) (by unfold NameP.low; rw [He.out, Bool.eq_iff_iff]; simp; omega), rfl⟩
theorem dash_any (c : Nat) (w : World) (_h8 : c < 256) :
    Calls Tryd.prog 112 #[.int .u8 (c : Int)] w fun e w' => e = .returned (.bool (NameP.dash c)) ∧ w = w' := by
  by_cases h : c = 45
  · subst h
    go_enter Tryd.func112, Tryd.ntmps112
    go_wp2
    go_ret
    exact ⟨rfl, rfl⟩
  · have hc : ((c : Int) == 45) = false := by rw [beq_eq_false_iff_ne]; omega
    have Hc := Lib.hid h; clear h
    go_enter Tryd.func112, Tryd.ntmps112
    go_wp2
    go_ret
    exact ⟨congrArg (fun b => Ending.returned (.bool b)) (by simp [NameP.dash]; exact Hc.out), rfl⟩
end Go.Proofs.YtlbolbkikkiifaaDoor
/- The walks of name.made, isName, isWord, judge, Check, CheckVal. -/
namespace Go.Proofs.YtlbolbkikkiifaaDoor
open Go.RowKit

/-- a function on bytes that answers p and leaves the world alone -/
structure Tells (f : FuncId) (p : Nat → Bool) : Prop where
  enter : ∀ (a : Array Value) (w : World), (callFunc f a).run Tryd.prog w = .ok (.enter f a) w
  calls : ∀ (c : Nat) (w : World), c < 256 → Calls Tryd.prog f #[.int .u8 (c : Int)] w fun e w' => e = .returned (.bool (p c)) ∧ w = w'
theorem low_tells : Tells 111 NameP.low := ⟨run_callFunc_body Tryd.func111 (by kernel_rfl) (by kernel_rfl), fun c w h => isLow_any c w h⟩
theorem edge_tells : Tells 130 NameP.edge := ⟨run_callFunc_body Tryd.func130 (by kernel_rfl) (by kernel_rfl), fun c w h => isEdge_any c w h⟩
theorem dash_tells : Tells 112 NameP.dash := ⟨run_callFunc_body Tryd.func112 (by kernel_rfl) (by kernel_rfl), fun c w h => dash_any c w h⟩

theorem made_nil {e v : Nat → Bool} {s : ByteArray} (h : s.toList = []) : NameP.made e v s.data.toList = false := by
  rw [ByteArray.toList_eq] at h; rw [h]; rfl

theorem made_cons {p q : Nat → Bool} (s : ByteArray) (h : 1 ≤ s.size) :
    NameP.made p q s.data.toList = (p s[0].toNat && p s[s.size - 1].toNat && s.data.toList.all fun c => p c.toNat || q c.toNat) := by
  have hl : s.data.toList.length = s.size := by simp
  have h0 : s.data.toList[0]? = some s[0] := by rw [List.getElem?_eq_getElem (by omega)]; rfl
  have h1 : s.data.toList.getLast? = some s[s.size - 1] := by
    rw [List.getLast?_eq_getElem?, hl, List.getElem?_eq_getElem (by omega)]; rfl
  cases hd : s.data.toList with
  | nil => rw [hd] at hl; simp at hl; omega
  | cons x r =>
    rw [hd] at h0 h1
    simp only [List.getElem?_cons_zero, Option.some.injEq] at h0
    rw [List.getLast?_eq_some_getLast (by simp)] at h1
    simp only [Option.some.injEq] at h1
    unfold NameP.made
    rw [← h0, ← h1]

theorem all_snoc {s : ByteArray} {k : Nat} {f : UInt8 → Bool} (h : k < s.size) (ha : Hid ((s.data.toList.take k).all f = true)) (hk : f s[k] = true) : Hid ((s.data.toList.take (k + 1)).all f = true) := by
  show _ = _
  rw [take_snoc s k h, List.all_append, ha.out]
  simp [hk]
theorem all_not {s : ByteArray} {k : Nat} {f : UInt8 → Bool} (h : k < s.size) (hk : f s[k] = false) : s.data.toList.all f = false := by
  rw [List.all_eq_false]
  refine ⟨s[k], ?_, by rw [hk]; simp⟩
  have : s[k] = s.data.toList[k]'(by simpa using h) := rfl
  rw [this]
  exact List.getElem_mem _

set_option maxRecDepth 100000 in
set_option maxHeartbeats 1600000 in
theorem made_any {ef vf : FuncId} {p q : Nat → Bool} (hp : Tells ef p) (hq : Tells vf q) (s : ByteArray) (w : World) (hs : s.size ≤ 1099511627776) :
    Calls Tryd.prog 110 #[.string s, .func (.func ef) #[] #[], .func (.func vf) #[] #[]] w fun e w' => e = .returned (.bool (NameP.made p q s.data.toList)) ∧ w = w' := by
  by_cases h0 : s.size = 0
  · have hl : s.toList = [] := by rw [ByteArray.toList_eq]; exact List.eq_nil_of_length_eq_zero (by simpa using h0)
    have Hm := Lib.hid (made_nil (e := p) (v := q) hl)
    have hle : s.toList.isEmpty = true := by rw [hl]; rfl
    clear h0
    go_enter Tryd.func110, Tryd.ntmps110
    go_wp2
    go_ret
    exact ⟨by rw [Hm.out]; rfl, rfl⟩
  · have h1 : 1 ≤ s.size := by omega
    have hne : (!s.toList.isEmpty) = true := by
      rw [ByteArray.toList_eq]
      have hl : s.data.toList.length = s.size := by simp
      cases hd : s.data.toList with | nil => rw [hd] at hl; simp at hl; omega | cons x r => rfl
    have hne2 : s.toList.isEmpty = false := by simpa using hne
    have HM := Lib.hid (made_cons (p := p) (q := q) s h1)
    clear h0
    have c0 : s[0].toNat < 256 := s[0].toNat_lt
    have cl : s[s.size - 1].toNat < 256 := s[s.size - 1].toNat_lt
    have i0 : (0 : Int) < (s.size : Int) := by omega
    have i1 : (0 : Int) ≤ (s.size : Int) - 1 := by omega
    have i2 : (s.size : Int) - 1 < (s.size : Int) := by omega
    have i3 : ((s.size : Int) - 1).toNat = s.size - 1 := by omega
    have ep := hp.enter
    have eq := hq.enter
    cases h2 : p s[0].toNat with
    | false =>
      have H2 := Lib.hid h2; clear h2
      go_enter Tryd.func110, Tryd.ntmps110
      go_wp2_with fail
      refine (hp.calls _ _ c0).mono ?_
      rintro e w' ⟨rfl, rfl⟩
      rw [H2.out]
      go_wp2_with fail
      go_ret
      exact ⟨congrArg (fun b => Ending.returned (.bool b)) (by rw [HM.out, H2.out]; rfl), rfl⟩
    | true =>
      have H2 := Lib.hid h2; clear h2
      cases h3 : p s[s.size - 1].toNat with
      | false =>
        have H3 := Lib.hid h3; clear h3
        go_enter Tryd.func110, Tryd.ntmps110
        go_wp2_with fail
        refine (hp.calls _ _ c0).mono ?_
        rintro e w' ⟨rfl, rfl⟩
        rw [H2.out]
        go_wp2_with fail
        refine (hp.calls _ _ cl).mono ?_
        rintro e w' ⟨rfl, rfl⟩
        rw [H3.out]
        go_wp2_with fail
        go_ret
        exact ⟨congrArg (fun b => Ending.returned (.bool b)) (by rw [HM.out, H2.out, H3.out]; rfl), rfl⟩
      | true =>
        have H3 := Lib.hid h3; clear h3
        go_enter Tryd.func110, Tryd.ntmps110
        go_wp2_with fail
        refine (hp.calls _ _ c0).mono ?_
        rintro e w' ⟨rfl, rfl⟩
        rw [H2.out]
        go_wp2_with fail
        refine (hp.calls _ _ cl).mono ?_
        rintro e w' ⟨rfl, rfl⟩
        rw [H3.out]
        go_wp2_with fail
        go_loop [29] (fun i => ∃ k : Nat, k ≤ s.size ∧ i = .int .i64 k ∧ Hid (((s.data.toList.take k).all fun c => p c.toNat || q c.toNat) = true)) (fun i => s.size - (intOf i).toNat)
        case atStart => exact ⟨0, Nat.zero_le _, rfl, by show _ = _; simp⟩
        case round =>
          obtain ⟨k, hk, rfl, HA⟩ := hrel
          by_cases hlt : k < s.size
          · have ck : s[k].toNat < 256 := s[k].toNat_lt
            have j0 : (0 : Int) ≤ (k : Int) := by omega
            have j1 : (k : Int) < (s.size : Int) := by omega
            cases h4 : p s[k].toNat with
            | true =>
              have H4 := Lib.hid h4; clear h4
              go_wp2_with fail
              refine (hp.calls _ _ ck).mono ?_
              rintro e w' ⟨rfl, rfl⟩
              rw [H4.out]
              go_wp2_with fail
              go_round
              case rel => exact ⟨k + 1, by omega, by go_num, all_snoc hlt HA (by rw [H4.out]; rfl)⟩
              case measure => simp [intOf]; omega
            | false =>
              have H4 := Lib.hid h4; clear h4
              cases h5 : q s[k].toNat with
              | true =>
                have H5 := Lib.hid h5; clear h5
                go_wp2_with fail
                refine (hp.calls _ _ ck).mono ?_
                rintro e w' ⟨rfl, rfl⟩
                rw [H4.out]
                go_wp2_with fail
                refine (hq.calls _ _ ck).mono ?_
                rintro e w' ⟨rfl, rfl⟩
                rw [H5.out]
                go_wp2_with fail
                go_round
                case rel => exact ⟨k + 1, by omega, by go_num, all_snoc hlt HA (by rw [H4.out, H5.out]; rfl)⟩
                case measure => simp [intOf]; omega
              | false =>
                have H5 := Lib.hid h5; clear h5
                go_wp2_with fail
                refine (hp.calls _ _ ck).mono ?_
                rintro e w' ⟨rfl, rfl⟩
                rw [H4.out]
                go_wp2_with fail
                refine (hq.calls _ _ ck).mono ?_
                rintro e w' ⟨rfl, rfl⟩
                rw [H5.out]
                go_wp2_with fail
                go_ret
                exact ⟨congrArg (fun b => Ending.returned (.bool b)) (by rw [HM.out, all_not hlt (by rw [H4.out, H5.out]; rfl)]; simp), rfl⟩
          · go_wp2_with fail
            go_ret
            refine ⟨congrArg (fun b => Ending.returned (.bool b)) ?_, rfl⟩
            have := HA.out
            rw [List.take_of_length_le (by simp; omega)] at this
            rw [HM.out, H2.out, H3.out, this]; rfl

set_option maxHeartbeats 800000 in
theorem judge_any (s : ByteArray) (most : Nat) (b : Bool) (w : World) (_hs : s.size ≤ 1099511627776) (_hm : most ≤ 1000) :
    Calls Tryd.prog 88 #[.string s, .int .i64 (most : Int), .bool b] w fun e w' => e = .returned (.int .i64 (NameP.judge s.size most b)) ∧ w = w' := by
  by_cases h : most < s.size
  · go_enter Tryd.func88, Tryd.ntmps88
    go_wp2
    go_ret
    exact ⟨congrArg (fun b => Ending.returned (.int .i64 b)) (by unfold NameP.judge; rw [if_pos h]), rfl⟩
  · cases b
    all_goals
      go_enter Tryd.func88, Tryd.ntmps88
      go_wp2
      go_ret
      exact ⟨congrArg (fun b => Ending.returned (.int .i64 b)) (by unfold NameP.judge; rw [if_neg h]; rfl), rfl⟩

theorem isName_any (s : ByteArray) (w : World) (hs : s.size ≤ 1099511627776) :
    Calls Tryd.prog 89 #[.string s] w fun e w' => e = .returned (.bool (NameP.isName s.data.toList)) ∧ w = w' := by
  go_enter Tryd.func89, Tryd.ntmps89
  go_wp2_with fail
  refine (made_any low_tells dash_tells s _ hs).mono ?_
  rintro e w' ⟨rfl, rfl⟩
  go_wp2_with fail
  go_ret
  exact ⟨rfl, rfl⟩

theorem check_any (s : ByteArray) (w : World) (hs : s.size ≤ 1099511627776) :
    Calls Tryd.prog 65 #[.string s] w fun e w' => e = .returned (.int .i64 (NameP.check s.data.toList)) ∧ w = w' := by
  go_enter Tryd.func65, Tryd.ntmps65
  go_wp2_with fail
  refine (isName_any s _ hs).mono ?_
  rintro e w' ⟨rfl, rfl⟩
  go_wp2_with fail
  refine (judge_any s 63 _ _ hs (by omega)).mono ?_
  rintro e w' ⟨rfl, rfl⟩
  go_wp2_with fail
  go_ret
  exact ⟨by simp [NameP.check], rfl⟩
end Go.Proofs.YtlbolbkikkiifaaDoor
/- One block may have turned, no other that was there. Any program. -/
namespace Go.Proofs.YtlbolbkikkiifaaDoor
open Go.RowKit

/-- one block may have turned, no other that was there -/
structure But (g : Nat) (w w' : World) : Prop where
  os : w'.os = w.os
  tape : w'.tape = w.tape
  output : w'.output = w.output
  size : w.heap.size ≤ w'.heap.size
  block : ∀ k, k < w.heap.size → k ≠ g → w'.heap[k]? = w.heap[k]?
theorem But.refl (g : Nat) (w : World) : But g w w := ⟨rfl, rfl, rfl, Nat.le_refl _, fun _ _ _ => rfl⟩
theorem But.trans {g : Nat} {a b c : World} (h : But g a b) (k : But g b c) : But g a c :=
  ⟨k.os.trans h.os, k.tape.trans h.tape, k.output.trans h.output, Nat.le_trans h.size k.size, fun q hq hn => (k.block q (Nat.lt_of_lt_of_le hq h.size) hn).trans (h.block q hq hn)⟩
theorem But.of {g : Nat} {w w' : World} (h : Below w.heap.size w w') : But g w w' := ⟨h.os, h.tape, h.output, h.size, fun k hk _ => h.block k hk⟩
theorem But.touch {g : Nat} {w w' : World} (h : Touch g w w') : But g w w' := ⟨h.os, h.tape, h.output, by rw [h.size]; exact Nat.le_refl _, fun k _ hn => h.other k hn⟩
theorem But.below {g B : Nat} {a w w' : World} (h : But g w w') (hb : Below B a w) (hB : B ≤ w.heap.size) (hg : B ≤ g) : Below B a w' :=
  hb.trans ⟨h.os, h.tape, h.output, h.size, fun k hk => h.block k (by omega) (by omega)⟩
theorem But.keep {g k : Nat} {w w' : World} {x : Obj} (h : But g w w') (hx : w.heap[k]? = some x) (hn : k ≠ g) : w'.heap[k]? = some x := by
  have hb : k < w.heap.size := by
    rcases Nat.lt_or_ge k w.heap.size with h1 | h1
    · exact h1
    · rw [Array.getElem?_eq_none h1] at hx; cases hx
  exact (h.block k hb hn).trans hx
theorem But.cell {g : Nat} {w w' : World} {p : Addr} (h : But g w w') (hp : p.block < w.heap.size) (hn : p.block ≠ g) : w'.cell? p = w.cell? p := by
  unfold World.cell?
  rw [h.block _ hp hn]
section
variable {α : Type} {R : Rd α} {k : Nat} {e : TypeId} {v : Value} {l : List α} {B g : Nat} {w w' : World}
theorem OwnAt.but (hf : Flat R) (h : OwnAt R k w B e v l) (hb : But g w w') (hne : ∀ q, v.ownBlock = some q → q ≠ g) : OwnAt R k w' B e v l := by
  obtain ⟨css, h1, h2, h3, h4⟩ := h
  refine ⟨css, h1, h2, ⟨h3.1, ?_⟩, fun j cs y hcs hy => hf _ _ _ _ (h4 j cs y hcs hy)⟩
  rcases h3.2 with h5 | ⟨q, cap, cur, rfl, hB, hh, hr⟩
  · exact .inl h5
  · exact .inr ⟨q, cap, cur, rfl, hB, hb.keep hh (hne q rfl), hr⟩
theorem OwnAt.butLow (hf : Flat R) (h : OwnAt R k w B e v l) (hb : But g w w') (hg : g < B) : OwnAt R k w' B e v l :=
  h.but hf hb fun q hq => by have := (h.at hq).1; omega
end
end Go.Proofs.YtlbolbkikkiifaaDoor
/- store: the checker's methods and CheckKey: their contracts. -/
namespace Go.Proofs.YtlbolbkikkiifaaDoor
namespace Sto
open Go.RowKit

/-- the first thing that was wrong lies there -/
def IsBad (g : Nat) (w : World) (b : Int) : Prop := w.heap[g]? = some (.cells #[.int .i64 b] 140 (0, 0))
theorem IsBad.below {g : Nat} {w w' : World} {b : Int} (h : IsBad g w b) (hb : Below w.heap.size w w') : IsBad g w' b := below_block hb h
theorem IsBad.lt {g : Nat} {w : World} {b : Int} (h : IsBad g w b) : g < w.heap.size := by
  rcases Nat.lt_or_ge g w.heap.size with h1 | h1
  · exact h1
  · unfold IsBad at h; rw [Array.getElem?_eq_none h1] at h; cases h
/-- what a checker's method does -/
def Said (g : Nat) (b : Int) (w : World) (E : Ending) (w' : World) : Prop := E = .returned (.tuple #[]) ∧ IsBad g w' b ∧ But g w w'
set_option maxRecDepth 100000 in
theorem says_any (g : Nat) (b e : Int) (w : World) (h : IsBad g w b) : Calls Tryd.prog 113 #[.pointer (some ⟨g, 0, none⟩), .int .i64 e] w (Said g (says b e) w) := by
  have h' : w.heap[g]? = some (.cells #[.int .i64 b] 140 (0, 0)) := h
  have c0 : w.cell? ⟨g, 0, none⟩ = some (.int .i64 b) := cell_block h' 0
  have z0 : w.frozen? ⟨g, 0, none⟩ = false := free_block h' 0
  have Hh := Lib.hid h'
  clear h h'
  by_cases hb : b = 0
  · subst hb
    go_enter Tryd.func113, Tryd.ntmps113
    go_wp2_with fail
    obtain ⟨t1, t2⟩ := touch_setCell (i := 0) (v := .int .i64 e) Hh.out
    go_end0
    exact ⟨rfl, by rw [zero_says]; exact t1, But.touch t2⟩
  · have q : (b == 0) = false := by rw [beq_eq_false_iff_ne]; exact hb
    have Hs : Hid (says b e = b) := by show _ = _; unfold says; rw [if_neg hb]
    clear hb
    go_enter Tryd.func113, Tryd.ntmps113
    go_wp2_with fail
    go_end0
    exact ⟨rfl, by rw [Hs.out]; exact Hh.out, But.refl _ _⟩
def chk (s : ByteArray) : Int := NameP.check s.data.toList
set_option maxRecDepth 100000 in
set_option maxHeartbeats 800000 in
theorem names_any (g : Nat) (b : Int) (v : Value) (l : List ByteArray) (w : World) (h : IsBad g w b) (hv : StrAt w v l) (hne : 0 < l.length → ∀ a n c, v = .slice (some a) n c → a.block ≠ g) (hx : ∀ x ∈ l, x.size ≤ 1099511627776) (hl : l.length ≤ 1073741824) :
    Calls Tryd.prog 90 #[.pointer (some ⟨g, 0, none⟩), v] w (Said g (says b (firstBad (l.map chk))) w) := by
  have hrow := hv.row
  obtain ⟨a1, c1, rfl, _, _⟩ := hrow.len
  have H := Lib.hid h
  have HV := Lib.hid hrow
  have Hne := Lib.hid hne
  have Hx := Lib.hid hx
  clear h hv hne hx hrow
  go_enter Tryd.func90, Tryd.ntmps90
  go_wp2_with fail
  go_loopg [8] l.length (fun k u8 wr => ∃ i : Nat, i + k = l.length ∧ u8 = .int .i64 (i : Int) ∧ Hid (IsBad g wr (says b (firstBad ((l.map chk).take i)))) ∧ Hid (But g w wr))
  case atStart => exact ⟨0, by omega, rfl, Lib.hid (by rw [List.take_zero]; exact (says_zero b).symm ▸ H.out), Lib.hid (But.refl _ _)⟩
  case round =>
    obtain ⟨i, hig, rfl, Hbad, Hbut⟩ := hrel
    cases gk with
    | zero =>
      obtain rfl : i = l.length := by omega
      have Hend : Hid (IsBad g wr (says b (firstBad (l.map chk)))) := by
        have h9 := Hbad.out
        rw [List.take_of_length_le (by simp)] at h9
        exact Lib.hid h9
      go_wp2_with fail
      go_end0
      exact ⟨rfl, Hend.out, Hbut.out⟩
    | succ k =>
      have hil : i < l.length := by omega
      obtain ⟨s, hsi⟩ : ∃ s, l[i]? = some s := ⟨l[i]'(by omega), List.getElem?_eq_getElem _⟩
      obtain ⟨bk, o, c', hv, _, _, hbs, hcell⟩ := HV.out.form (by omega) (by omega)
      have hbg := Hne.out (by omega) _ _ _ hv
      cases hv
      obtain ⟨ds, _, hcc, hR⟩ := hcell i s hsi
      obtain rfl : ds = [.string s] := hR
      have e0 : wr.cell? ⟨bk, o + i, none⟩ = some (.string s) := (Hbut.out.cell (p := ⟨bk, o + i, none⟩) hbs hbg).trans (by simpa using hcc 0 _ rfl)
      have q1 : (0 : Int) ≤ (i : Int) := by omega
      have q2 : (i : Int) < (l.length : Int) := by omega
      have hss := Hx.out s (List.mem_of_getElem? hsi)
      have Hnext : Hid (says b (firstBad ((l.map chk).take (i + 1))) = says (says b (firstBad ((l.map chk).take i))) (chk s)) := by
        show _ = _
        rw [firstBad_take (e := chk s) (by rw [List.getElem?_map, hsi]; rfl), says_assoc]
      clear hcc hcell hsi hbg
      obtain ⟨cd, Hcd⟩ : ∃ cd, Hid (NameP.check s.data.toList = cd) := ⟨_, Lib.hid rfl⟩
      rw [show chk s = cd from Hcd.out] at Hnext
      go_wp2_with fail
      refine (check_any s wr hss).mono ?_
      rintro E w1 ⟨rfl, rfl⟩
      rw [Hcd.out]
      go_wp2_with fail
      refine (says_any g _ cd wr Hbad.out).mono ?_
      rintro E w1 ⟨rfl, h1, h2⟩
      have H1 := Lib.hid h1
      have H2 := Lib.hid (Hbut.out.trans h2)
      clear h1 h2 e0
      go_wp2_with fail
      go_roundg k
      case measure => omega
      case rel => exact ⟨i + 1, by omega, by go_num, Lib.hid (by rw [Hnext.out]; exact H1.out), H2⟩
theorem one_str {w : World} {g : Nat} {t : TypeId} {a : ByteArray} (h : w.heap[g]? = some (.cells #[.string a] t (0, 0))) : StrAt w (.slice (some ⟨g, 0, none⟩) 1 1) [a] := by
  refine .inr ⟨_, 1, rfl, Nat.le_refl _, by unfold maxLen; decide, fun j x hx => ?_⟩
  have hj : j < 1 := (List.getElem?_eq_some_iff.1 hx).1
  obtain rfl : j = 0 := by omega
  rw [add_plain', Nat.zero_add]
  have : w.cell? ⟨g, 0, none⟩ = #[Value.string a][0]? := cell_block h 0
  rw [this]
  simp at hx; subst hx; rfl
/-- names of one text, laid there just now -/
theorem name_one (g : Nat) (b : Int) (s : ByteArray) (w : World) (h : IsBad g w b) (hs : s.size ≤ 1099511627776) :
    Calls Tryd.prog 90 #[.pointer (some ⟨g, 0, none⟩), .slice (some ⟨w.heap.size, 0, none⟩) 1 1] (w.alloc (.cells #[.string s] 9)) (Said g (says b (NameP.check s.data.toList)) w) := by
  have hlt := h.lt
  have hb := (Below.refl w.heap.size w).alloc (Nat.le_refl _) (.cells #[.string s] 9)
  refine (names_any g b _ [s] _ (h.below hb) (one_str (heap_alloc_new w _)) (fun _ a n c e => by cases e; show w.heap.size ≠ g; omega) (fun x hx => by rw [List.mem_singleton.1 hx]; exact hs) (by show 1 ≤ 1073741824; omega)).mono ?_
  rintro E w' ⟨h1, h2, h3⟩
  refine ⟨h1, ?_, (But.of hb).trans h3⟩
  have : firstBad ([s].map chk) = NameP.check s.data.toList := by show says (chk s) 0 = _; rw [says_zero]; rfl
  rw [← this]; exact h2
set_option maxRecDepth 100000 in
theorem space_any (g : Nat) (b : Int) (s : ByteArray) (w : World) (h : IsBad g w b) (hs : s.size ≤ 1099511627776) : Calls Tryd.prog 91 #[.pointer (some ⟨g, 0, none⟩), .string s] w (Said g (says b (AuP.emptyOr s.data.toList)) w) := by
  have H := Lib.hid h
  clear h
  by_cases h0 : s.size = 0
  · have q : s.data.toList = [] := List.eq_nil_of_length_eq_zero (by simpa using h0)
    have q2 : s.toList.isEmpty = true := by rw [ByteArray.toList_eq, q]; rfl
    have Hs : Hid (says b (AuP.emptyOr s.data.toList) = b) := by show _ = _; unfold AuP.emptyOr; rw [if_pos q]; exact says_zero b
    rw [Hs.out]
    clear h0 q
    go_enter Tryd.func91, Tryd.ntmps91
    go_wp2_with fail
    go_end0
    exact ⟨rfl, H.out, But.refl _ _⟩
  · have q : s.data.toList ≠ [] := fun h => by
      have hl : s.data.toList.length = s.size := by simp
      rw [h] at hl
      exact h0 hl.symm
    have q2 : s.toList.isEmpty = false := by rw [ByteArray.toList_eq]; cases hd : s.data.toList with | nil => exact absurd hd q | cons x r => rfl
    have Hs : Hid (says b (AuP.emptyOr s.data.toList) = says b (NameP.check s.data.toList)) := by show _ = _; unfold AuP.emptyOr; rw [if_neg q]
    rw [Hs.out]
    clear h0 q
    go_enter Tryd.func91, Tryd.ntmps91
    go_wp2_with fail
    refine (name_one g b s w H.out hs).mono ?_
    rintro E w1 ⟨rfl, h1, h2⟩
    have H1 := Lib.hid h1
    have H2 := Lib.hid h2
    clear h1 h2 Hs
    go_wp2_with fail
    go_end0
    exact ⟨rfl, H1.out, H2.out⟩
set_option maxRecDepth 100000 in
set_option maxHeartbeats 800000 in
theorem key_any (a b c : ByteArray) (w : World) (ha : a.size ≤ 8388608) (hb : b.size ≤ 8388608) (hc : c.size ≤ 8388608) :
    Calls Tryd.prog 66 #[.agg #[.string a, .string b, .string c]] w fun e w' => e = .returned (.int .i64 (AuP.keyE a.data.toList b.data.toList c.data.toList)) ∧ Below w.heap.size w w' := by
  obtain ⟨R, HR⟩ : ∃ R, Hid (AuP.keyE a.data.toList b.data.toList c.data.toList = R) := ⟨_, Lib.hid rfl⟩
  rw [HR.out]
  go_enter Tryd.func66, Tryd.ntmps66
  go_upto_region 2 with fail
  obtain ⟨w1, hw1⟩ : ∃ w1, w1 = (w.alloc (.cells #[.string a, .string b, .string c] 49)).alloc (.cells #[.int .i64 0] 140) := ⟨_, rfl⟩
  obtain ⟨gc, hgc⟩ : ∃ gc, gc = w.heap.size + 1 := ⟨_, rfl⟩
  obtain ⟨gb, hgb⟩ : ∃ gb, gb = w.heap.size := ⟨_, rfl⟩
  rw [← hw1]
  try rw [← hgc]
  rw [← hgb]
  have b1 : w1.heap[gb]? = some (.cells #[.string a, .string b, .string c] 49 (0, 0)) := by
    rw [hw1, hgb]
    exact below_block ((Below.refl _ _).alloc (Nat.le_refl _) _) (heap_alloc_new w _)
  have h1 : IsBad gc w1 0 := by
    have h9 := heap_alloc_new (w.alloc (.cells #[.string a, .string b, .string c] 49)) (.cells #[.int .i64 0] 140)
    rw [hw1, hgc]
    simpa [IsBad] using h9
  have hb1 : Below w.heap.size w w1 := by rw [hw1]; exact ((Below.refl _ _).alloc (Nat.le_refl _) _).alloc (by simp) _
  have hlt1 := h1.lt
  have hne : gb ≠ gc := by omega
  have hgw : w.heap.size ≤ gb := by omega
  have hgw2 : w.heap.size ≤ gc := by omega
  have hs1 := hb1.size
  have Hb1 := Lib.hid hb1
  have H1 := Lib.hid h1
  have B1 := Lib.hid b1
  have cc := fun i => cell_block b1 i
  clear hw1 hgc hgb b1 h1 hb1
  go_wp2_with fail
  refine (name_one gc 0 a w1 H1.out (by omega)).mono ?_
  rintro E w2 ⟨rfl, h1, h2⟩
  have H2 := Lib.hid h1
  have K2 := Lib.hid h2
  clear cc h1 h2
  have cc := fun i => cell_block (K2.out.keep B1.out hne) i
  go_wp2_with fail
  refine (space_any gc _ b w2 H2.out (by omega)).mono ?_
  rintro E w3 ⟨rfl, h1, h2⟩
  have H3 := Lib.hid h1
  have K3 := Lib.hid (K2.out.trans h2)
  clear cc h1 h2
  have cc := fun i => cell_block (K3.out.keep B1.out hne) i
  go_wp2_with fail
  refine (name_one gc _ c w3 H3.out (by omega)).mono ?_
  rintro E w4 ⟨rfl, h1, h2⟩
  have hR2 : says (says (says 0 (NameP.check a.data.toList)) (AuP.emptyOr b.data.toList)) (NameP.check c.data.toList) = R := by rw [← HR.out, zero_says, says_assoc]; rfl
  rw [hR2] at h1
  have K4 := Lib.hid ((But.of Hb1.out).trans (K3.out.trans h2))
  have c4 : w4.cell? ⟨gc, 0, none⟩ = some (.int .i64 R) := cell_block h1 0
  clear cc h1 h2 hR2 H2 H3
  go_wp2_with fail
  go_ret
  exact ⟨rfl, K4.out.below (Below.refl _ _) (Nat.le_refl _) (by omega)⟩
end Sto
end Go.Proofs.YtlbolbkikkiifaaDoor
/- strings.Split at one byte, strings.Join with one byte between: their contracts. -/
namespace Go.Proofs.YtlbolbkikkiifaaDoor
open Go.RowKit
open JP (Bs)

theorem split_any (s : ByteArray) (c : UInt8) (m : Int) (w : World) (hs : s.size ≤ 16777216) (hm : MaxOK m w) :
    Calls Tryd.prog 22 #[.string s, .string ⟨#[c]⟩] w fun e w' => ∃ L : List ByteArray, L.map (·.data.toList) = splitL c s.data.toList ∧ e = .returned (.slice (some ⟨w.heap.size, 0, none⟩) L.length L.length) ∧
      w'.heap[w.heap.size]? = some (.cells (strs L).toArray 9 (0, 0)) ∧ w'.heap.size = w.heap.size + 1 ∧ Below w.heap.size w w' := by
  refine (Tryd.strings_Split s ⟨#[c]⟩ m w (by omega) hm (Nat.le_refl 1)).mono ?_
  rintro E w' ⟨rfl, rfl⟩
  have h1 : (Lib.splitB ⟨#[c]⟩ 0 (Lib.countB s ⟨#[c]⟩) s).length = Lib.countB s ⟨#[c]⟩ + 1 := Lib.splitB_all ⟨#[c]⟩ (Nat.le_refl 1) 0 _ s rfl
  refine ⟨Lib.splitB ⟨#[c]⟩ 0 (Lib.countB s ⟨#[c]⟩) s, ?_, by rw [h1], heap_alloc_at rfl, World.size_alloc _ _, (Below.refl _ w).alloc (Nat.le_refl _) _⟩
  rw [Lib.splitB_data]
  exact splitK_scan c s.data.toList
theorem splitL_len (c : UInt8) (s : List UInt8) : (splitL c s).length ≤ s.length + 1 := by
  induction s with
  | nil => simp [splitL]
  | cons x r ih =>
    rw [splitL]
    split
    · simp; omega
    · split
      · rename_i h1 h2
        rw [h2] at ih; simp at ih ⊢; omega
      · simp
theorem splitL_mem_len (c : UInt8) (s q : List UInt8) (h : q ∈ splitL c s) : q.length ≤ s.length := by
  have h1 : ((splitL c s).flatMap fun p => c :: p).length = s.length + 1 := by rw [splitL_join]; rfl
  have h2 : ∀ m : List (List UInt8), q ∈ m → q.length + 1 ≤ (m.flatMap fun p => c :: p).length := fun m => by
    induction m with
    | nil => intro h; cases h
    | cons a r ih =>
      intro h
      rw [List.flatMap_cons, List.length_append, List.length_cons]
      rcases List.mem_cons.1 h with rfl | h
      · omega
      · have := ih h; omega
  have := h2 _ h
  omega
theorem joinC_any {w : World} {v : Value} {l : List ByteArray} (c : UInt8) (h : RowAt RString 1 w v l) (hl : l.length ≤ 1073741824) (h1 : (Lib.join (l.map (·.data.toList)) [c]).length ≤ 1073741824) :
    Calls Tryd.prog 43 #[v, .string ⟨#[c]⟩] w fun e w' => e = .returned (.string (mkB (Lib.join (l.map (·.data.toList)) [c]))) ∧ Below w.heap.size w w' := by
  by_cases h0 : 0 < l.length
  · obtain ⟨b, o, cp, rfl, hc, _, hbs, hcell⟩ := h.form h0 (by omega)
    refine Tryd.strings_Join b o cp l ⟨#[c]⟩ w (fun j x hx => ?_) hbs (by omega) hc ?_
    · obtain ⟨cs, _, h2, h3⟩ := hcell j x hx
      rw [h3] at h2
      have := h2 0 _ rfl
      simpa using this
    · show (Lib.join _ [c]).length ≤ _; omega
  · have hn : l = [] := List.eq_nil_of_length_eq_zero (by omega)
    subst hn
    obtain ⟨a, cp, rfl, _, _⟩ := h.len
    refine (Tryd.strings_Join_none a cp ⟨#[c]⟩ w).mono ?_
    rintro e w' ⟨rfl, rfl⟩
    exact ⟨rfl, Below.refl _ _⟩

end Go.Proofs.YtlbolbkikkiifaaDoor
/- audit: check, Line, Parse: their contracts. -/
namespace Go.Proofs.YtlbolbkikkiifaaDoor
open Go.RowKit
open JP (Bs)

theorem isEmpty_iff (s : ByteArray) : s.toList.isEmpty = decide (s.data.toList = []) := by
  rw [ByteArray.toList_eq]
  cases s.data.toList <;> simp
def okEntry (x : GEntry) : Prop := x.who.size ≤ 8388608 ∧ x.verb.size ≤ 8388608 ∧ x.ekey.kind.size ≤ 8388608 ∧ x.ekey.space.size ≤ 8388608 ∧ x.ekey.name.size ≤ 8388608
def entryV (x : GEntry) : Array Value := #[.string x.who, .string x.verb, .string x.ekey.kind, .string x.ekey.space, .string x.ekey.name, .int .i64 x.what, .int .i64 x.rev]
theorem num_ways (a b : Int) : (a < 0 ∧ AuP.numE a b = 1) ∨ (¬ a < 0 ∧ 99 < a ∧ AuP.numE a b = 1) ∨ (¬ a < 0 ∧ ¬ 99 < a ∧ b < 0 ∧ AuP.numE a b = 1) ∨ (¬ a < 0 ∧ ¬ 99 < a ∧ ¬ b < 0 ∧ 1099511627776 < b ∧ AuP.numE a b = 1) ∨ (¬ a < 0 ∧ ¬ 99 < a ∧ ¬ b < 0 ∧ ¬ 1099511627776 < b ∧ AuP.numE a b = 0) := by
  unfold AuP.numE
  by_cases h1 : a < 0
  · exact .inl ⟨h1, by rw [if_neg (by omega)]⟩
  · by_cases h2 : 99 < a
    · exact .inr (.inl ⟨h1, h2, by rw [if_neg (by omega)]⟩)
    · by_cases h3 : b < 0
      · exact .inr (.inr (.inl ⟨h1, h2, h3, by rw [if_neg (by omega)]⟩))
      · by_cases h4 : 1099511627776 < b
        · exact .inr (.inr (.inr (.inl ⟨h1, h2, h3, h4, by rw [if_neg (by omega)]⟩)))
        · exact .inr (.inr (.inr (.inr ⟨h1, h2, h3, h4, by rw [if_pos (by omega)]⟩)))
theorem block_lt {w : World} {g : Nat} {o : Obj} (h : w.heap[g]? = some o) : g < w.heap.size := by
  rcases Nat.lt_or_ge g w.heap.size with h1 | h1
  · exact h1
  · rw [Array.getElem?_eq_none h1] at h; cases h
theorem orX_mk (s : ByteArray) (h : s.data.toList ≠ []) : AuP.orX s.data.toList = s.data.toList := by unfold AuP.orX; rw [if_neg h]
set_option maxRecDepth 100000 in
set_option maxHeartbeats 6400000 in
theorem auditCheck_any (a b c d nm : ByteArray) (n m : Int) (w : World) (sa : a.size ≤ 8388608) (sb : b.size ≤ 8388608) (sc : c.size ≤ 8388608) (sd : d.size ≤ 8388608) (sn : nm.size ≤ 8388608) :
    Calls Tryd.prog 41 #[.agg #[.string a, .string b, .string c, .string d, .string nm, .int .i64 n, .int .i64 m]] w fun e w' => e = .returned (.int .i64 (AuP.entryE ⟨a, b, ⟨c, d, nm⟩, n, m⟩)) ∧ Below w.heap.size w w' := by
  obtain ⟨W1, hW1⟩ : ∃ n, AuP.emptyOr a.data.toList = n := ⟨_, rfl⟩
  obtain ⟨V1, hV1⟩ : ∃ n, NameP.check b.data.toList = n := ⟨_, rfl⟩
  obtain ⟨K1, hK1⟩ : ∃ n, AuP.keyE c.data.toList d.data.toList (AuP.orX nm.data.toList) = n := ⟨_, rfl⟩
  obtain ⟨N1, hN1⟩ : ∃ n', AuP.numE n m = n' := ⟨_, rfl⟩
  have hE : AuP.entryE ⟨a, b, ⟨c, d, nm⟩, n, m⟩ = says W1 (says V1 (says K1 N1)) := by rw [← hW1, ← hV1, ← hK1, ← hN1]; rfl
  rw [hE]
  have Hbad : ∀ e : Int, e ≠ 0 → ∀ r : Int, says e r = e := fun e h r => by unfold says; rw [if_neg h]
  have HB := Lib.hid Hbad
  have ha := isEmpty_iff a
  have hn := isEmpty_iff nm
  obtain ⟨wb, hwb⟩ : ∃ wb, wb = w.alloc (.cells #[.string a, .string b, .string c, .string d, .string nm, .int .i64 n, .int .i64 m] 51) := ⟨_, rfl⟩
  have b1 : wb.heap[w.heap.size]? = some (.cells #[.string a, .string b, .string c, .string d, .string nm, .int .i64 n, .int .i64 m] 51 (0, 0)) := by rw [hwb]; exact heap_alloc_new w _
  have hb1 : Below w.heap.size w wb := by rw [hwb]; exact (Below.refl _ w).alloc (Nat.le_refl _) _
  obtain ⟨g, hg⟩ : ∃ g, g = w.heap.size := ⟨_, rfl⟩
  rw [← hg] at b1
  have hlt : g < wb.heap.size := block_lt b1
  have hgs : w.heap.size ≤ wb.heap.size := hb1.size
  have cc := fun i => cell_block b1 i
  have HB1 := Lib.hid hb1
  have B1 := Lib.hid b1
  have CA := Lib.hid (check_any a wb (by omega))
  have CB := Lib.hid (check_any b wb (by omega))
  rw [hV1] at CB
  have K0 : ∀ (w2 : World) (k : ByteArray), Below wb.heap.size wb w2 → k.data.toList = AuP.orX nm.data.toList → k.size ≤ 8388608 → Calls Tryd.prog 66 #[.agg #[.string c, .string d, .string k]] w2 fun e w' => e = .returned (.int .i64 K1) ∧ Below wb.heap.size wb w' := fun w2 k h2 hk hs => (Sto.key_any c d k w2 sc sd hs).mono fun e w' ⟨h3, h4⟩ => ⟨by rw [h3, hk, hK1], h2.trans (h4.mono h2.size)⟩
  have KC := Lib.hid K0
  have KN : nm.data.toList ≠ [] → nm.data.toList = AuP.orX nm.data.toList := fun h => (orX_mk nm h).symm
  have KX : nm.data.toList = [] → (⟨#[120]⟩ : ByteArray).data.toList = AuP.orX nm.data.toList := fun h => by unfold AuP.orX; rw [if_pos h]
  have HKN := Lib.hid KN
  have HKX := Lib.hid KX
  have hnum := num_ways n m
  rw [hN1] at hnum
  have hW0 : a.data.toList = [] → W1 = 0 := fun h => by rw [← hW1]; unfold AuP.emptyOr; rw [if_pos h]
  have hWn : a.data.toList ≠ [] → NameP.check a.data.toList = W1 := fun h => by rw [← hW1]; unfold AuP.emptyOr; rw [if_neg h]
  clear hE Hbad b1 hb1 hW1 hV1 hK1 hN1 K0 KN KX

  by_cases he : a.data.toList = []
  · obtain rfl := hW0 he
    rw [decide_eq_true he] at ha
    clear hW0 hWn CA he
    go_enter Tryd.func41, Tryd.ntmps41
    go_upto_region 1 with fail
    rw [← hwb, ← hg]
    clear hwb hg
    go_wp2_with fail
    refine CB.out.mono ?_
    rintro E w1 ⟨rfl, rfl⟩
    clear CB
    by_cases hV : V1 = 0
    · subst hV
      simp only [zero_says]
      obtain ⟨w2, hw2⟩ : ∃ w2, w2 = wb.alloc (.cells #[.string c, .string d, .string nm] 49) := ⟨_, rfl⟩
      have b2 : w2.heap[wb.heap.size]? = some (.cells #[.string c, .string d, .string nm] 49 (0, 0)) := by rw [hw2]; exact heap_alloc_new wb _
      have hb2 : Below wb.heap.size wb w2 := by rw [hw2]; exact (Below.refl _ wb).alloc (Nat.le_refl _) _
      obtain ⟨g2, hg2⟩ : ∃ g2, g2 = wb.heap.size := ⟨_, rfl⟩
      rw [← hg2] at b2
      have hg2w : wb.heap.size ≤ g2 := by omega
      go_upto_region 9 with fail
      rw [← hw2, ← hg2]
      clear hw2 hg2
      by_cases hn0 : nm.data.toList = []
      · rw [decide_eq_true hn0] at hn
        have HX := Lib.hid (HKX.out hn0)
        have cc2 := fun i => cell_block b2 i
        have f2 := fun i => free_block b2 i
        obtain ⟨t1, t2⟩ := touch_setCell (i := 2) (v := .string ⟨#[120]⟩) b2
        have hb3 := t2.below hb2 hg2w
        clear hn0
        have T1 := Lib.hid t1
        have T3 := Lib.hid hb3
        clear t1 t2 hb3 b2 hb2
        go_upto_region 11 with fail
        generalize hw3 : World.setCell w2 ⟨g2, 2, none⟩ (Value.string ⟨#[120]⟩) = w3
        rw [hw3] at T1 T3
        clear hw3 cc2 f2
        have cc3 := fun i => cell_block T1.out i
        go_wp2_with fail
        refine (KC.out w3 _ T3.out HX.out (by decide)).mono ?_
        rintro E w4 ⟨rfl, hb4⟩
        clear cc3
        have HB4 := Lib.hid (HB1.out.trans (hb4.mono hgs))
        have cc4 := fun i => (hb4.cell (p := ⟨g, i, none⟩) hlt).trans (cc i)
        clear hb4 cc
        by_cases hK : K1 = 0
        · subst hK
          rcases hnum with ⟨n1, rfl⟩ | ⟨n1, n2, rfl⟩ | ⟨n1, n2, n3, rfl⟩ | ⟨n1, n2, n3, n4, rfl⟩ | ⟨n1, n2, n3, n4, rfl⟩
          all_goals
            go_wp2_with fail
            go_ret
            exact ⟨rfl, HB4.out⟩
        · have q9 : (K1 != 0) = true := by rw [bne_iff_ne]; exact hK
          have HR := Lib.hid (HB.out K1 hK N1)
          clear hK hnum
          go_wp2_with fail
          go_ret
          exact ⟨by rw [HR.out] <;> (try simp only [zero_says]) <;> rfl, HB4.out⟩
      · rw [decide_eq_false hn0] at hn
        have HX := Lib.hid (HKN.out hn0)
        have cc2 := fun i => cell_block b2 i
        have HB2 := Lib.hid hb2
        clear hn0 b2 hb2
        go_wp2_with fail
        refine (KC.out w2 _ HB2.out HX.out sn).mono ?_
        rintro E w4 ⟨rfl, hb4⟩
        clear cc2
        have HB4 := Lib.hid (HB1.out.trans (hb4.mono hgs))
        have cc4 := fun i => (hb4.cell (p := ⟨g, i, none⟩) hlt).trans (cc i)
        clear hb4 cc
        by_cases hK : K1 = 0
        · subst hK
          rcases hnum with ⟨n1, rfl⟩ | ⟨n1, n2, rfl⟩ | ⟨n1, n2, n3, rfl⟩ | ⟨n1, n2, n3, n4, rfl⟩ | ⟨n1, n2, n3, n4, rfl⟩
          all_goals
            go_wp2_with fail
            go_ret
            exact ⟨rfl, HB4.out⟩
        · have q9 : (K1 != 0) = true := by rw [bne_iff_ne]; exact hK
          have HR := Lib.hid (HB.out K1 hK N1)
          clear hK hnum
          go_wp2_with fail
          go_ret
          exact ⟨by rw [HR.out] <;> (try simp only [zero_says]) <;> rfl, HB4.out⟩
    · have q9 : (V1 != 0) = true := by rw [bne_iff_ne]; exact hV
      have HR := Lib.hid (HB.out V1 hV (says K1 N1))
      clear hV hnum
      go_wp2_with fail
      go_ret
      exact ⟨by rw [HR.out] <;> (try simp only [zero_says]) <;> rfl, HB1.out⟩
  · have hW := hWn he
    rw [hW] at CA
    rw [decide_eq_false he] at ha
    clear hW hWn hW0 he
    go_enter Tryd.func41, Tryd.ntmps41
    go_upto_region 1 with fail
    rw [← hwb, ← hg]
    clear hwb hg
    go_wp2_with fail
    refine CA.out.mono ?_
    rintro E w1 ⟨rfl, rfl⟩
    clear CA
    by_cases hW : W1 = 0
    · subst hW

      go_wp2_with fail
      refine CB.out.mono ?_
      rintro E w1 ⟨rfl, rfl⟩
      clear CB
      by_cases hV : V1 = 0
      · subst hV
        simp only [zero_says]
        obtain ⟨w2, hw2⟩ : ∃ w2, w2 = wb.alloc (.cells #[.string c, .string d, .string nm] 49) := ⟨_, rfl⟩
        have b2 : w2.heap[wb.heap.size]? = some (.cells #[.string c, .string d, .string nm] 49 (0, 0)) := by rw [hw2]; exact heap_alloc_new wb _
        have hb2 : Below wb.heap.size wb w2 := by rw [hw2]; exact (Below.refl _ wb).alloc (Nat.le_refl _) _
        obtain ⟨g2, hg2⟩ : ∃ g2, g2 = wb.heap.size := ⟨_, rfl⟩
        rw [← hg2] at b2
        have hg2w : wb.heap.size ≤ g2 := by omega
        go_upto_region 9 with fail
        rw [← hw2, ← hg2]
        clear hw2 hg2
        by_cases hn0 : nm.data.toList = []
        · rw [decide_eq_true hn0] at hn
          have HX := Lib.hid (HKX.out hn0)
          have cc2 := fun i => cell_block b2 i
          have f2 := fun i => free_block b2 i
          obtain ⟨t1, t2⟩ := touch_setCell (i := 2) (v := .string ⟨#[120]⟩) b2
          have hb3 := t2.below hb2 hg2w
          clear hn0
          have T1 := Lib.hid t1
          have T3 := Lib.hid hb3
          clear t1 t2 hb3 b2 hb2
          go_upto_region 11 with fail
          generalize hw3 : World.setCell w2 ⟨g2, 2, none⟩ (Value.string ⟨#[120]⟩) = w3
          rw [hw3] at T1 T3
          clear hw3 cc2 f2
          have cc3 := fun i => cell_block T1.out i
          go_wp2_with fail
          refine (KC.out w3 _ T3.out HX.out (by decide)).mono ?_
          rintro E w4 ⟨rfl, hb4⟩
          clear cc3
          have HB4 := Lib.hid (HB1.out.trans (hb4.mono hgs))
          have cc4 := fun i => (hb4.cell (p := ⟨g, i, none⟩) hlt).trans (cc i)
          clear hb4 cc
          by_cases hK : K1 = 0
          · subst hK
            rcases hnum with ⟨n1, rfl⟩ | ⟨n1, n2, rfl⟩ | ⟨n1, n2, n3, rfl⟩ | ⟨n1, n2, n3, n4, rfl⟩ | ⟨n1, n2, n3, n4, rfl⟩
            all_goals
              go_wp2_with fail
              go_ret
              exact ⟨rfl, HB4.out⟩
          · have q9 : (K1 != 0) = true := by rw [bne_iff_ne]; exact hK
            have HR := Lib.hid (HB.out K1 hK N1)
            clear hK hnum
            go_wp2_with fail
            go_ret
            exact ⟨by rw [HR.out] <;> (try simp only [zero_says]) <;> rfl, HB4.out⟩
        · rw [decide_eq_false hn0] at hn
          have HX := Lib.hid (HKN.out hn0)
          have cc2 := fun i => cell_block b2 i
          have HB2 := Lib.hid hb2
          clear hn0 b2 hb2
          go_wp2_with fail
          refine (KC.out w2 _ HB2.out HX.out sn).mono ?_
          rintro E w4 ⟨rfl, hb4⟩
          clear cc2
          have HB4 := Lib.hid (HB1.out.trans (hb4.mono hgs))
          have cc4 := fun i => (hb4.cell (p := ⟨g, i, none⟩) hlt).trans (cc i)
          clear hb4 cc
          by_cases hK : K1 = 0
          · subst hK
            rcases hnum with ⟨n1, rfl⟩ | ⟨n1, n2, rfl⟩ | ⟨n1, n2, n3, rfl⟩ | ⟨n1, n2, n3, n4, rfl⟩ | ⟨n1, n2, n3, n4, rfl⟩
            all_goals
              go_wp2_with fail
              go_ret
              exact ⟨rfl, HB4.out⟩
          · have q9 : (K1 != 0) = true := by rw [bne_iff_ne]; exact hK
            have HR := Lib.hid (HB.out K1 hK N1)
            clear hK hnum
            go_wp2_with fail
            go_ret
            exact ⟨by rw [HR.out] <;> (try simp only [zero_says]) <;> rfl, HB4.out⟩
      · have q9 : (V1 != 0) = true := by rw [bne_iff_ne]; exact hV
        have HR := Lib.hid (HB.out V1 hV (says K1 N1))
        clear hV hnum
        go_wp2_with fail
        go_ret
        exact ⟨by rw [HR.out] <;> (try simp only [zero_says]) <;> rfl, HB1.out⟩
    · have q9 : (W1 != 0) = true := by rw [bne_iff_ne]; exact hW
      have HR := Lib.hid (HB.out W1 hW (says V1 (says K1 N1)))
      clear hW hnum
      go_wp2_with fail
      go_ret
      exact ⟨by rw [HR.out] <;> (try simp only [zero_says]) <;> rfl, HB1.out⟩
end Go.Proofs.YtlbolbkikkiifaaDoor
/- audit: Line and Parse: their contracts. -/
namespace Go.Proofs.YtlbolbkikkiifaaDoor
open Go.RowKit
open JP (Bs)

theorem join_len (c : UInt8) : ∀ l : List Bs, (Lib.join l [c]).length ≤ (l.map fun q => q.length + 1).sum
  | [] => by simp [Lib.join, List.intercalate]
  | [p] => by rw [join_one]; simp
  | p :: q :: r => by
    have ih := join_len c (q :: r)
    rw [join_more]
    simp only [List.map_cons, List.sum_cons, List.length_append, List.length_cons, List.length_nil] at ih ⊢
    omega
theorem line_len (x : GEntry) (h : okEntry x) (n1 : -9223372036854775808 ≤ x.what) (n2 : x.what ≤ 9223372036854775807) (m1 : -9223372036854775808 ≤ x.rev) (m2 : x.rev ≤ 9223372036854775807) : (Lib.join (AuP.parts x) [47]).length ≤ x.who.size + x.verb.size + x.ekey.kind.size + x.ekey.space.size + x.ekey.name.size + 49 := by
  have h1 := join_len 47 (AuP.parts x)
  have i1 := Lib.itoa_length_le x.what n1 n2
  have i2 := Lib.itoa_length_le x.rev m1 m2
  unfold AuP.parts at h1 ⊢
  simp only [List.map_cons, List.map_nil, List.sum_cons, List.sum_nil, list_size] at h1
  omega
theorem strAt_block {w : World} {g : Nat} {t : TypeId} {L : List ByteArray} (h : w.heap[g]? = some (.cells (strs L).toArray t (0, 0))) (hl : L.length ≤ maxLen) : StrAt w (.slice (some ⟨g, 0, none⟩) L.length L.length) L := by
  refine .inr ⟨_, _, rfl, Nat.le_refl _, hl, fun j x hx => ?_⟩
  rw [add_plain', Nat.zero_add]
  have : w.cell? ⟨g, j, none⟩ = (strs L).toArray[j]? := cell_block h j
  rw [this, List.getElem?_toArray]
  exact strs_get hx
theorem itoa_any (n : Int) (w : World) (b1 : -9223372036854775808 ≤ n) (b2 : n ≤ 9223372036854775807) (ht : TabOK w) : Calls Tryd.prog 42 #[.int .i64 n] w fun e w' => e = .returned (.string (mkB (Lib.itoa n))) ∧ Below w.heap.size w w' := by
  refine (Tryd.strconv_Itoa n b1 b2 w ht).mono ?_
  rintro e w' ⟨rfl, k, os, rfl⟩
  exact ⟨rfl, Lib.below_grow _ _ (Nat.le_refl _) _ _⟩
theorem mkB_parts (a b c d nm : ByteArray) (n m : Int) : ([a, b, c, d, nm, mkB (Lib.itoa n), mkB (Lib.itoa m)] : List ByteArray).map (·.data.toList) = AuP.parts ⟨a, b, ⟨c, d, nm⟩, n, m⟩ := by
  simp [AuP.parts, mkB_list]
set_option maxRecDepth 100000 in
set_option maxHeartbeats 6400000 in
theorem line_any (a b c d nm : ByteArray) (n m : Int) (w : World) (sa : a.size ≤ 8388608) (sb : b.size ≤ 8388608) (sc : c.size ≤ 8388608) (sd : d.size ≤ 8388608) (sn : nm.size ≤ 8388608) (n1 : -9223372036854775808 ≤ n) (n2 : n ≤ 9223372036854775807) (m1 : -9223372036854775808 ≤ m) (m2 : m ≤ 9223372036854775807) (ht : TabOK w) :
    Calls Tryd.prog 17 #[.agg #[.string a, .string b, .string c, .string d, .string nm, .int .i64 n, .int .i64 m]] w fun e w' => e = .returned (.tuple #[.string (mkB (AuP.lineT ⟨a, b, ⟨c, d, nm⟩, n, m⟩)), .int .i64 (AuP.entryE ⟨a, b, ⟨c, d, nm⟩, n, m⟩)]) ∧ Below w.heap.size w w' := by
  have hlen := line_len ⟨a, b, ⟨c, d, nm⟩, n, m⟩ ⟨sa, sb, sc, sd, sn⟩ n1 n2 m1 m2
  dsimp only at hlen
  have hparts := mkB_parts a b c d nm n m
  obtain ⟨I1, hI1⟩ : ∃ I, mkB (Lib.itoa n) = I := ⟨_, rfl⟩
  obtain ⟨I2, hI2⟩ : ∃ I, mkB (Lib.itoa m) = I := ⟨_, rfl⟩
  rw [hI1, hI2] at hparts
  obtain ⟨W, hW⟩ : ∃ W, W = w.alloc (.cells #[.string a, .string b, .string c, .string d, .string nm, .int .i64 n, .int .i64 m] 51) := ⟨_, rfl⟩
  have b1 : W.heap[w.heap.size]? = some (.cells #[.string a, .string b, .string c, .string d, .string nm, .int .i64 n, .int .i64 m] 51 (0, 0)) := by rw [hW]; exact heap_alloc_new w _
  have hb1 : Below w.heap.size w W := by rw [hW]; exact (Below.refl _ w).alloc (Nat.le_refl _) _
  obtain ⟨g, hg⟩ : ∃ g, g = w.heap.size := ⟨_, rfl⟩
  rw [← hg] at b1
  have hlt : g < W.heap.size := block_lt b1
  have hgs : w.heap.size ≤ W.heap.size := hb1.size
  have cc := fun i => cell_block b1 i
  have HB1 := Lib.hid hb1
  have HC := Lib.hid (auditCheck_any a b c d nm n m W sa sb sc sd sn)
  have HT1 : Hid (∀ w', Below W.heap.size W w' → Calls Tryd.prog 42 #[.int .i64 n] w' fun e w'' => e = .returned (.string I1) ∧ Below w'.heap.size w' w'') := Lib.hid fun w' hb => by have := itoa_any n w' n1 n2 (ht.below (hb1.trans (hb.mono hgs))); rw [hI1] at this; exact this
  have HT2 : Hid (∀ w', Below W.heap.size W w' → Calls Tryd.prog 42 #[.int .i64 m] w' fun e w'' => e = .returned (.string I2) ∧ Below w'.heap.size w' w'') := Lib.hid fun w' hb => by have := itoa_any m w' m1 m2 (ht.below (hb1.trans (hb.mono hgs))); rw [hI2] at this; exact this
  have HJ : Hid (∀ (w' : World) (g' : Nat), w'.heap[g']? = some (.cells #[.string a, .string b, .string c, .string d, .string nm, .string I1, .string I2] 9 (0, 0)) → Calls Tryd.prog 43 #[.slice (some ⟨g', 0, none⟩) 7 7, .string ⟨#[47]⟩] w' fun e w'' => e = .returned (.string (mkB (Lib.join (AuP.parts ⟨a, b, ⟨c, d, nm⟩, n, m⟩) [47]))) ∧ Below w'.heap.size w' w'') := Lib.hid fun w' g' hb => by
    have h9 : StrAt w' (.slice (some ⟨g', 0, none⟩) 7 7) [a, b, c, d, nm, I1, I2] := strAt_block (L := [a, b, c, d, nm, I1, I2]) hb (by show 7 ≤ maxLen; unfold maxLen; omega)
    have := joinC_any 47 h9.row (by show 7 ≤ 1073741824; omega) (by rw [hparts]; omega)
    rw [hparts] at this
    exact this
  have hT : AuP.lineT ⟨a, b, ⟨c, d, nm⟩, n, m⟩ = if AuP.entryE ⟨a, b, ⟨c, d, nm⟩, n, m⟩ = 0 then Lib.join (AuP.parts ⟨a, b, ⟨c, d, nm⟩, n, m⟩) [47] else [] := rfl
  obtain ⟨J, hJ⟩ : ∃ J, Lib.join (AuP.parts ⟨a, b, ⟨c, d, nm⟩, n, m⟩) [47] = J := ⟨_, rfl⟩
  obtain ⟨E0, hE0⟩ : ∃ E, AuP.entryE ⟨a, b, ⟨c, d, nm⟩, n, m⟩ = E := ⟨_, rfl⟩
  rw [hE0, hJ] at hT
  rw [hE0] at HC
  rw [hJ] at HJ
  rw [hE0]
  obtain ⟨T0, hT0⟩ : ∃ T, AuP.lineT ⟨a, b, ⟨c, d, nm⟩, n, m⟩ = T := ⟨_, rfl⟩
  rw [hT0] at hT ⊢
  have HT := Lib.hid hT
  clear hT hT0 hJ hE0 hlen hparts hI1 hI2 ht sa sb sc sd sn n1 n2 m1 m2 hb1 b1
  go_enter Tryd.func17, Tryd.ntmps17
  go_upto_region 1 with fail
  rw [← hW, ← hg]
  clear hW hg
  go_wp2_with fail
  refine HC.out.mono ?_
  rintro E w1 ⟨rfl, hb⟩
  have hs1 := hb.size
  have HB2 := Lib.hid hb
  clear hb HC
  by_cases he : E0 = 0
  · subst he
    have HT0 : Hid (T0 = J) := Lib.hid (by rw [HT.out, if_pos rfl])
    clear HT
    go_upto_region 4 with fail
    refine wp_region_hold 19 (fun w' => Below W.heap.size W w') (by kernel_rfl) (by kernel_rfl) ?_ ?_
    · exact HB2.out.drew
    simp only [List.take_succ_cons, List.take_zero, List.drop_succ_cons, List.drop_zero]

    (first | (refine wpHold_pure (v := ?_) (by rfl) (fun w => ?_) ?_; rotate_left; focus (first | (go_simp; done) | (go_simp; with_reducible rfl))) | (refine wpHold_skip ?_ ?_; focus (go_simp; done)) | (refine wpHold_pure' (v := ?_) ?_ (fun w => ?_) ?_; rotate_left; focus (go_simp; done); focus (first | (go_simp; done) | (go_simp; with_reducible rfl)))); try simp only [Act.put, List.setIfInBounds_toArray, List.set_cons_zero, List.set_cons_succ]
    refine wpHold_read (v := .string a) (by rfl) (fun w' hI => ?_) ?_
    · have dd := fun i => (hI.cell (p := ⟨g, i, none⟩) hlt).trans (cc i)
      go_simp
      done
    try simp only [Act.put, List.setIfInBounds_toArray, List.set_cons_zero, List.set_cons_succ]
    (first | (refine wpHold_pure (v := ?_) (by rfl) (fun w => ?_) ?_; rotate_left; focus (first | (go_simp; done) | (go_simp; with_reducible rfl))) | (refine wpHold_skip ?_ ?_; focus (go_simp; done)) | (refine wpHold_pure' (v := ?_) ?_ (fun w => ?_) ?_; rotate_left; focus (go_simp; done); focus (first | (go_simp; done) | (go_simp; with_reducible rfl)))); try simp only [Act.put, List.setIfInBounds_toArray, List.set_cons_zero, List.set_cons_succ]
    refine wpHold_read (v := .string b) (by rfl) (fun w' hI => ?_) ?_
    · have dd := fun i => (hI.cell (p := ⟨g, i, none⟩) hlt).trans (cc i)
      go_simp
      done
    try simp only [Act.put, List.setIfInBounds_toArray, List.set_cons_zero, List.set_cons_succ]
    (first | (refine wpHold_pure (v := ?_) (by rfl) (fun w => ?_) ?_; rotate_left; focus (first | (go_simp; done) | (go_simp; with_reducible rfl))) | (refine wpHold_skip ?_ ?_; focus (go_simp; done)) | (refine wpHold_pure' (v := ?_) ?_ (fun w => ?_) ?_; rotate_left; focus (go_simp; done); focus (first | (go_simp; done) | (go_simp; with_reducible rfl)))); try simp only [Act.put, List.setIfInBounds_toArray, List.set_cons_zero, List.set_cons_succ]
    (first | (refine wpHold_pure (v := ?_) (by rfl) (fun w => ?_) ?_; rotate_left; focus (first | (go_simp; done) | (go_simp; with_reducible rfl))) | (refine wpHold_skip ?_ ?_; focus (go_simp; done)) | (refine wpHold_pure' (v := ?_) ?_ (fun w => ?_) ?_; rotate_left; focus (go_simp; done); focus (first | (go_simp; done) | (go_simp; with_reducible rfl)))); try simp only [Act.put, List.setIfInBounds_toArray, List.set_cons_zero, List.set_cons_succ]
    refine wpHold_read (v := .string c) (by rfl) (fun w' hI => ?_) ?_
    · have dd := fun i => (hI.cell (p := ⟨g, i, none⟩) hlt).trans (cc i)
      go_simp
      done
    try simp only [Act.put, List.setIfInBounds_toArray, List.set_cons_zero, List.set_cons_succ]
    (first | (refine wpHold_pure (v := ?_) (by rfl) (fun w => ?_) ?_; rotate_left; focus (first | (go_simp; done) | (go_simp; with_reducible rfl))) | (refine wpHold_skip ?_ ?_; focus (go_simp; done)) | (refine wpHold_pure' (v := ?_) ?_ (fun w => ?_) ?_; rotate_left; focus (go_simp; done); focus (first | (go_simp; done) | (go_simp; with_reducible rfl)))); try simp only [Act.put, List.setIfInBounds_toArray, List.set_cons_zero, List.set_cons_succ]
    (first | (refine wpHold_pure (v := ?_) (by rfl) (fun w => ?_) ?_; rotate_left; focus (first | (go_simp; done) | (go_simp; with_reducible rfl))) | (refine wpHold_skip ?_ ?_; focus (go_simp; done)) | (refine wpHold_pure' (v := ?_) ?_ (fun w => ?_) ?_; rotate_left; focus (go_simp; done); focus (first | (go_simp; done) | (go_simp; with_reducible rfl)))); try simp only [Act.put, List.setIfInBounds_toArray, List.set_cons_zero, List.set_cons_succ]
    refine wpHold_read (v := .string d) (by rfl) (fun w' hI => ?_) ?_
    · have dd := fun i => (hI.cell (p := ⟨g, i, none⟩) hlt).trans (cc i)
      go_simp
      done
    try simp only [Act.put, List.setIfInBounds_toArray, List.set_cons_zero, List.set_cons_succ]
    (first | (refine wpHold_pure (v := ?_) (by rfl) (fun w => ?_) ?_; rotate_left; focus (first | (go_simp; done) | (go_simp; with_reducible rfl))) | (refine wpHold_skip ?_ ?_; focus (go_simp; done)) | (refine wpHold_pure' (v := ?_) ?_ (fun w => ?_) ?_; rotate_left; focus (go_simp; done); focus (first | (go_simp; done) | (go_simp; with_reducible rfl)))); try simp only [Act.put, List.setIfInBounds_toArray, List.set_cons_zero, List.set_cons_succ]
    (first | (refine wpHold_pure (v := ?_) (by rfl) (fun w => ?_) ?_; rotate_left; focus (first | (go_simp; done) | (go_simp; with_reducible rfl))) | (refine wpHold_skip ?_ ?_; focus (go_simp; done)) | (refine wpHold_pure' (v := ?_) ?_ (fun w => ?_) ?_; rotate_left; focus (go_simp; done); focus (first | (go_simp; done) | (go_simp; with_reducible rfl)))); try simp only [Act.put, List.setIfInBounds_toArray, List.set_cons_zero, List.set_cons_succ]
    refine wpHold_read (v := .string nm) (by rfl) (fun w' hI => ?_) ?_
    · have dd := fun i => (hI.cell (p := ⟨g, i, none⟩) hlt).trans (cc i)
      go_simp
      done
    try simp only [Act.put, List.setIfInBounds_toArray, List.set_cons_zero, List.set_cons_succ]
    (first | (refine wpHold_pure (v := ?_) (by rfl) (fun w => ?_) ?_; rotate_left; focus (first | (go_simp; done) | (go_simp; with_reducible rfl))) | (refine wpHold_skip ?_ ?_; focus (go_simp; done)) | (refine wpHold_pure' (v := ?_) ?_ (fun w => ?_) ?_; rotate_left; focus (go_simp; done); focus (first | (go_simp; done) | (go_simp; with_reducible rfl)))); try simp only [Act.put, List.setIfInBounds_toArray, List.set_cons_zero, List.set_cons_succ]
    refine wpHold_read (v := .int .i64 n) (by rfl) (fun w' hI => ?_) ?_
    · have dd := fun i => (hI.cell (p := ⟨g, i, none⟩) hlt).trans (cc i)
      go_simp
      done
    try simp only [Act.put, List.setIfInBounds_toArray, List.set_cons_zero, List.set_cons_succ]
    refine wpHold_call (v := .string I1) (f := 42) (args := #[.int .i64 n]) (by rfl) (fun w' => ?_) (fun w' hI => ?_) ?_
    · go_simp
      done
    · exact (HT1.out w' hI).mono fun e w'' ⟨h1, h2⟩ => ⟨h1, hI.trans (h2.mono hI.size)⟩
    try simp only [Act.put, List.setIfInBounds_toArray, List.set_cons_zero, List.set_cons_succ]
    (first | (refine wpHold_pure (v := ?_) (by rfl) (fun w => ?_) ?_; rotate_left; focus (first | (go_simp; done) | (go_simp; with_reducible rfl))) | (refine wpHold_skip ?_ ?_; focus (go_simp; done)) | (refine wpHold_pure' (v := ?_) ?_ (fun w => ?_) ?_; rotate_left; focus (go_simp; done); focus (first | (go_simp; done) | (go_simp; with_reducible rfl)))); try simp only [Act.put, List.setIfInBounds_toArray, List.set_cons_zero, List.set_cons_succ]
    refine wpHold_read (v := .int .i64 m) (by rfl) (fun w' hI => ?_) ?_
    · have dd := fun i => (hI.cell (p := ⟨g, i, none⟩) hlt).trans (cc i)
      go_simp
      done
    try simp only [Act.put, List.setIfInBounds_toArray, List.set_cons_zero, List.set_cons_succ]
    refine wpHold_call (v := .string I2) (f := 42) (args := #[.int .i64 m]) (by rfl) (fun w' => ?_) (fun w' hI => ?_) ?_
    · go_simp
      done
    · exact (HT2.out w' hI).mono fun e w'' ⟨h1, h2⟩ => ⟨h1, hI.trans (h2.mono hI.size)⟩
    try simp only [Act.put, List.setIfInBounds_toArray, List.set_cons_zero, List.set_cons_succ]
    refine wpHold_nil ?_
    intro w' hI
    have hs2 := hI.size
    have HB3 := Lib.hid (HB1.out.trans (hI.mono hgs))
    clear hI HT1 HT2 cc
    have hb4 := (Below.refl w'.heap.size w').alloc (Nat.le_refl _) (.cells #[.string a, .string b, .string c, .string d, .string nm, .string I1, .string I2] 9)
    have HJ2 := Lib.hid (HJ.out _ w'.heap.size (heap_alloc_new w' (.cells #[.string a, .string b, .string c, .string d, .string nm, .string I1, .string I2] 9)))
    have HB4 := Lib.hid hb4
    clear hb4 HJ
    go_wp2_with fail
    refine HJ2.out.mono ?_
    rintro E w5 ⟨rfl, hb⟩
    have HB5 := Lib.hid ((HB3.out.trans (HB4.out.mono HB3.out.size)).trans (hb.mono (Nat.le_trans HB3.out.size HB4.out.size)))
    clear hb HJ2
    go_wp2_with fail
    go_ret2
    exact ⟨by rw [HT0.out] <;> rfl, HB5.out⟩
  · have q9 : (E0 != 0) = true := by rw [bne_iff_ne]; exact he
    have HT0 : Hid (T0 = []) := Lib.hid (by rw [HT.out, if_neg he])
    clear HT
    have HB3 := Lib.hid (HB1.out.trans (HB2.out.mono hgs))
    clear he HT1 HT2 HJ
    go_wp2_with fail
    go_ret2
    exact ⟨by rw [HT0.out] <;> rfl, HB3.out⟩
end Go.Proofs.YtlbolbkikkiifaaDoor
/- audit: Parse: its contract. -/
namespace Go.Proofs.YtlbolbkikkiifaaDoor
open Go.RowKit
open JP (Bs)

theorem Tryd.sizeEntry : (Tryd.prog.info? 51).map (·.size) = some 7 := by kernel_rfl
def AtoiAt (s : Bs) (w : World) (e : Ending) (w' : World) : Prop := ∃ (z : Int) (ev : Value), e = .returned (.tuple #[.int .i64 z, ev]) ∧ (-9223372036854775808 ≤ z ∧ z ≤ 9223372036854775807) ∧ ((timeOf s = some z ∧ ev = .nilIface) ∨ (timeOf s = none ∧ ∃ t p, ev = .iface t p)) ∧ Below w.heap.size w w'
theorem atoi_any (s : ByteArray) (w : World) (hs : s.size ≤ 16777216) (he : ErrOK w) : Calls Tryd.prog 44 #[.string s] w (AtoiAt s.data.toList w) := by
  obtain ⟨tp, p, tp', p', h1, h2⟩ := he
  cases hA : Lib.atoiAll s.data.toList
  case range =>
    refine (Tryd.strconv_Atoi_range_var s (by omega) hA tp' p' w h2).mono ?_
    rintro e w' ⟨N, rfl, _, _, hb⟩
    exact ⟨_, _, rfl, by unfold Lib.atoiSat; (repeat' split) <;> omega, .inr ⟨by unfold timeOf; rw [hA], _, _, rfl⟩, hb⟩
  case ok v =>
    have hb := Lib.atoiAll_bounds hA
    refine (Tryd.strconv_Atoi_ok s (by omega) v hA w).mono ?_
    rintro e w' ⟨rfl, hw⟩
    refine ⟨_, _, rfl, hb, .inl ⟨by unfold timeOf; rw [hA], rfl⟩, ?_⟩
    rcases hw with rfl | ⟨t, rfl⟩
    · exact Below.refl _ _
    · exact Lib.bytesWorld_below _ _ _
  · refine (Tryd.strconv_Atoi_syntax_var s (by omega) hA tp p w h1).mono ?_
    rintro e w' ⟨N, rfl, _, _, hb⟩
    exact ⟨_, _, rfl, by omega, .inr ⟨by unfold timeOf; rw [hA], _, _, rfl⟩, hb⟩
def parseV : Option GEntry → Value
  | some x => .tuple #[.agg (entryV x), .int .i64 0]
  | none => .tuple #[.agg #[.string ⟨#[]⟩, .string ⟨#[]⟩, .string ⟨#[]⟩, .string ⟨#[]⟩, .string ⟨#[]⟩, .int .i64 0, .int .i64 0], .int .i64 16]
theorem seven {L : List ByteArray} (h : L.length = 7) : ∃ a b c d e f g, L = [a, b, c, d, e, f, g] := by
  match L, h with
  | [a, b, c, d, e, f, g], _ => exact ⟨a, b, c, d, e, f, g, rfl⟩
theorem parts_no (s : Bs) {l : List Bs} (h : l.length ≠ 7) : AuP.partsE s l = none := by
  unfold AuP.partsE
  split
  · exact absurd rfl h
  · rfl
set_option maxRecDepth 100000 in
set_option maxHeartbeats 6400000 in
theorem parse_any (s : ByteArray) (w : World) (hs : s.size ≤ 8388608) (hE : Env w) :
    Calls Tryd.prog 18 #[.string s] w fun e w' => e = .returned (parseV (AuP.parseP s.data.toList)) ∧ Below w.heap.size w w' := by
  obtain ⟨R, hR⟩ : ∃ R, AuP.parseP s.data.toList = R := ⟨_, rfl⟩
  rw [hR]
  unfold AuP.parseP at hR
  obtain ⟨mx, hmx⟩ := hE.2.2
  obtain ⟨W, hW⟩ : ∃ W, W = w.alloc (.cells #[.string ⟨#[]⟩, .string ⟨#[]⟩, .string ⟨#[]⟩, .string ⟨#[]⟩, .string ⟨#[]⟩, .int .i64 0, .int .i64 0] 51) := ⟨_, rfl⟩
  have bZ : W.heap[w.heap.size]? = some (.cells #[.string ⟨#[]⟩, .string ⟨#[]⟩, .string ⟨#[]⟩, .string ⟨#[]⟩, .string ⟨#[]⟩, .int .i64 0, .int .i64 0] 51 (0, 0)) := by rw [hW]; exact heap_alloc_new w _
  have hb1 : Below w.heap.size w W := by rw [hW]; exact (Below.refl _ w).alloc (Nat.le_refl _) _
  obtain ⟨g, hg⟩ : ∃ g, g = w.heap.size := ⟨_, rfl⟩
  have hgw : w.heap.size ≤ g := by omega
  rw [← hg] at bZ
  have hlt : g < W.heap.size := block_lt bZ
  have hgs : w.heap.size ≤ W.heap.size := hb1.size
  have HS := Lib.hid (split_any s 47 mx W (by omega) (hmx.below hb1))
  have HB1 := Lib.hid hb1
  have HR := Lib.hid hR
  have HEn := Lib.hid hE
  clear hR hE hmx hb1
  go_enter Tryd.func18, Tryd.ntmps18
  go_upto_region 1 with fail
  rw [← hW, ← hg]
  clear hW hg
  go_wp2_with fail
  refine HS.out.mono ?_
  rintro E w2 ⟨L, hL, rfl, bL, _, hb2⟩
  clear HS
  obtain ⟨gL, hgL⟩ : ∃ gL, gL = W.heap.size := ⟨_, rfl⟩
  rw [← hgL] at bL ⊢
  have hLt : gL < w2.heap.size := block_lt bL
  have hs2 := hb2.size
  have BZ : Hid (w2.heap[g]? = some (.cells #[.string ⟨#[]⟩, .string ⟨#[]⟩, .string ⟨#[]⟩, .string ⟨#[]⟩, .string ⟨#[]⟩, .int .i64 0, .int .i64 0] 51 (0, 0))) := Lib.hid ((hb2.block g hlt).trans bZ)
  have HB2 := Lib.hid (HB1.out.trans (hb2.mono hgs))
  clear bZ hb2 hgL HB1
  rw [← hL] at HR
  obtain ⟨n, hn⟩ : ∃ n, L.length = n := ⟨_, rfl⟩
  rw [hn]
  by_cases h7 : n = 7
  · subst h7
    obtain ⟨a, b, c, d, nm, f, h, rfl⟩ := seven hn
    have hm := fun (x : ByteArray) (hx : x ∈ [a, b, c, d, nm, f, h]) => (by
      have h9 := splitL_mem_len 47 s.data.toList x.data.toList (by rw [← hL]; exact List.mem_map.2 ⟨x, hx, rfl⟩)
      rw [list_size, list_size] at h9
      omega : x.size ≤ 8388608)
    have sa := hm a (by simp)
    have sb := hm b (by simp)
    have sc := hm c (by simp)
    have sd := hm d (by simp)
    have sn := hm nm (by simp)
    have sf := hm f (by simp)
    have sh := hm h (by simp)
    have bL' : w2.heap[gL]? = some (.cells #[.string a, .string b, .string c, .string d, .string nm, .string f, .string h] 9 (0, 0)) := bL
    have cL := fun i => cell_block bL' i
    have HR2 : Hid (AuP.numsE s.data.toList a.data.toList b.data.toList c.data.toList d.data.toList nm.data.toList (timeOf f.data.toList) (timeOf h.data.toList) = R) := Lib.hid HR.out
    have HA1 := Lib.hid (atoi_any f w2 (by omega) (HEn.out.below HB2.out).2.1)
    clear hm bL HR hn hL
    go_wp2_with fail
    refine HA1.out.mono ?_
    rintro E w3 ⟨z1, e1, rfl, ⟨z1a, z1b⟩, hc1, hb3⟩
    have hs3 := hb3.size
    have BZ3 : Hid (w3.heap[g]? = some (.cells #[.string ⟨#[]⟩, .string ⟨#[]⟩, .string ⟨#[]⟩, .string ⟨#[]⟩, .string ⟨#[]⟩, .int .i64 0, .int .i64 0] 51 (0, 0))) := Lib.hid ((hb3.block g (by omega)).trans BZ.out)
    have HB3 := Lib.hid (HB2.out.trans (hb3.mono HB2.out.size))
    have HA2 := Lib.hid (atoi_any h w3 (by omega) (HEn.out.below HB3.out).2.1)
    have cL3 := fun i => (hb3.cell (p := ⟨gL, i, none⟩) hLt).trans (cL i)
    have bL3 := (hb3.block gL hLt).trans bL'
    clear cL bL' hb3 BZ HB2 HA1
    go_wp2_with fail
    refine HA2.out.mono ?_
    rintro E w4 ⟨z2, e2, rfl, ⟨z2a, z2b⟩, hc2, hb4⟩
    have hs4 := hb4.size
    have BZ4 : Hid (w4.heap[g]? = some (.cells #[.string ⟨#[]⟩, .string ⟨#[]⟩, .string ⟨#[]⟩, .string ⟨#[]⟩, .string ⟨#[]⟩, .int .i64 0, .int .i64 0] 51 (0, 0))) := Lib.hid ((hb4.block g (by omega)).trans BZ3.out)
    have HB4 := Lib.hid (HB3.out.trans (hb4.mono HB3.out.size))
    have cL4 := fun i => (hb4.cell (p := ⟨gL, i, none⟩) (by show gL < _; omega)).trans (cL3 i)
    clear cL3 bL3 hb4 BZ3 HB3 HA2
    have hL4 : gL < w4.heap.size := by omega
    have hg4 : g < w4.heap.size := by omega
    have HLn : Hid (∀ w', Below w.heap.size w w' → Calls Tryd.prog 17 #[.agg #[.string a, .string b, .string c, .string d, .string nm, .int .i64 z1, .int .i64 z2]] w' fun e w'' => e = .returned (.tuple #[.string (mkB (AuP.lineT ⟨a, b, ⟨c, d, nm⟩, z1, z2⟩)), .int .i64 (AuP.entryE ⟨a, b, ⟨c, d, nm⟩, z1, z2⟩)]) ∧ Below w'.heap.size w' w'') := Lib.hid fun w' hb => line_any a b c d nm z1 z2 w' sa sb sc sd sn z1a z1b z2a z2b (HEn.out.below hb).1
    have hmk : AuP.mkE a.data.toList b.data.toList c.data.toList d.data.toList nm.data.toList z1 z2 = ⟨a, b, ⟨c, d, nm⟩, z1, z2⟩ := by unfold AuP.mkE; simp only [mkB_of]
    obtain ⟨E0, hE0⟩ : ∃ E, AuP.entryE ⟨a, b, ⟨c, d, nm⟩, z1, z2⟩ = E := ⟨_, rfl⟩
    obtain ⟨T0, hT0⟩ : ∃ E, AuP.lineT ⟨a, b, ⟨c, d, nm⟩, z1, z2⟩ = E := ⟨_, rfl⟩
    rw [hE0, hT0] at HLn
    have HN : Hid (∀ (x y : Option Int), timeOf f.data.toList = x → timeOf h.data.toList = y → AuP.numsE s.data.toList a.data.toList b.data.toList c.data.toList d.data.toList nm.data.toList x y = R) := Lib.hid fun x y h1 h2 => by rw [← h1, ← h2]; exact HR2.out
    have HY : Hid (AuP.numsE s.data.toList a.data.toList b.data.toList c.data.toList d.data.toList nm.data.toList (some z1) (some z2) = if E0 = 0 ∧ T0 = s.data.toList then some ⟨a, b, ⟨c, d, nm⟩, z1, z2⟩ else none) := Lib.hid (by
      unfold AuP.numsE
      simp only [hmk, hE0, hT0])
    clear hmk hE0 hT0 HR2 sa sb sc sd sn sf sh z1a z1b z2a z2b
    go_upto_region 6 with fail
    go_region
    obtain ⟨w6, hw6⟩ : ∃ w6, w6 = (w4.alloc (.cells #[.string a, .string b, .string c, .string d, .string nm, .int .i64 z1, .int .i64 z2] 51)).drew := ⟨_, rfl⟩
    have b9 : w6.heap[w4.heap.size]? = some (.cells #[.string a, .string b, .string c, .string d, .string nm, .int .i64 z1, .int .i64 z2] 51 (0, 0)) := by rw [hw6]; exact heap_alloc_new w4 _
    have hb6 : Below w4.heap.size w4 w6 := by rw [hw6]; exact ((Below.refl _ w4).alloc (Nat.le_refl _) _).drew
    obtain ⟨g9, hg9⟩ : ∃ g9, g9 = w4.heap.size := ⟨_, rfl⟩
    rw [← hg9] at b9
    have hs6 := hb6.size
    have hg6 : g < w6.heap.size := by omega
    have h96 : g9 < w6.heap.size := block_lt b9
    have BZ6 : Hid (w6.heap[g]? = some (.cells #[.string ⟨#[]⟩, .string ⟨#[]⟩, .string ⟨#[]⟩, .string ⟨#[]⟩, .string ⟨#[]⟩, .int .i64 0, .int .i64 0] 51 (0, 0))) := Lib.hid ((hb6.block g (by omega)).trans BZ4.out)
    have HB6 := Lib.hid (HB4.out.trans (hb6.mono HB4.out.size))
    have B9' := Lib.hid b9
    have c9 := fun i => cell_block b9 i
    clear hb6 BZ4 b9
    rw [← hw6, ← hg9]
    clear hw6 hg9
    go_wp2_with fail
    refine (HLn.out w6 HB6.out).mono ?_
    rintro E w7 ⟨rfl, hb7⟩
    have BZ : Hid (w7.heap[g]? = some (.cells #[.string ⟨#[]⟩, .string ⟨#[]⟩, .string ⟨#[]⟩, .string ⟨#[]⟩, .string ⟨#[]⟩, .int .i64 0, .int .i64 0] 51 (0, 0))) := Lib.hid ((hb7.block g hg6).trans BZ6.out)
    have B9 := Lib.hid ((hb7.block g9 h96).trans B9'.out)
    have HB7 := Lib.hid (HB6.out.trans (hb7.mono HB6.out.size))
    clear hb7 BZ6 B9' HB6 HLn c9
    rcases hc1 with ⟨t1, rfl⟩ | ⟨t1, tt1, pp1, rfl⟩
    · rcases hc2 with ⟨t2, rfl⟩ | ⟨t2, tt2, pp2, rfl⟩
      · have HRR := Lib.hid ((HN.out _ _ t1 t2).symm.trans HY.out)
        clear t1 t2 HN HY
        by_cases h0 : E0 = 0
        · subst h0
          have ht : ((mkB T0).toList == s.toList) = decide (T0 = s.data.toList) := by rw [← mkB_eq, mkB_of]
          by_cases hT : T0 = s.data.toList
          · rw [decide_eq_true hT] at ht
            have HRs : Hid (R = some ⟨a, b, ⟨c, d, nm⟩, z1, z2⟩) := Lib.hid (by rw [HRR.out, if_pos ⟨rfl, hT⟩])
            clear hT HRR
            go_wp2_with (first | (refine wpList_load_row (by rfl) _ _ (by rfl) g9 (by rfl) _ _ _ _ (by exact B9.out) Tryd.underlying51 rfl (by exact Tryd.sizeEntry) ?_) | (refine wpList_store_box (by rfl) _ _ _ (by rfl) g #[.string a, .string b, .string c, .string d, .string nm, .int .i64 z1, .int .i64 z2] (by rfl) (by rfl) _ _ (by exact BZ.out) (by exact Tryd.sizeEntry) (by rfl) (by simp [Value.oneCell']) ?_))
            intro WF bF tF
            have HF := Lib.hid (tF.below HB7.out hgw)
            go_wp2_with fail
            refine bodyPost_ret (v := .tuple #[.agg #[.string a, .string b, .string c, .string d, .string nm, .int .i64 z1, .int .i64 z2], .int .i64 0]) ?_ rfl ?_
            · exact results_two_box Tryd.results18 _ _ g _ _ _ _ (by rfl) bF Tryd.underlying51 rfl (by exact Tryd.sizeEntry)
            · exact ⟨by rw [HRs.out] <;> rfl, HF.out⟩
          · rw [decide_eq_false hT] at ht
            have HRs : Hid (R = none) := Lib.hid (by rw [HRR.out, if_neg (fun h => hT h.2)])
            clear hT HRR
            go_wp2_with (first | (refine wpList_load_row (by rfl) _ _ (by rfl) g9 (by rfl) _ _ _ _ (by exact B9.out) Tryd.underlying51 rfl (by exact Tryd.sizeEntry) ?_) | (refine wpList_store_box (by rfl) _ _ _ (by rfl) g #[.string ⟨#[]⟩, .string ⟨#[]⟩, .string ⟨#[]⟩, .string ⟨#[]⟩, .string ⟨#[]⟩, .int .i64 0, .int .i64 0] (by rfl) (by rfl) _ _ (by exact BZ.out) (by exact Tryd.sizeEntry) (by rfl) (by simp [Value.oneCell']) ?_))
            intro WF bF tF
            have HF := Lib.hid (tF.below HB7.out hgw)
            go_wp2_with fail
            refine bodyPost_ret (v := .tuple #[.agg #[.string ⟨#[]⟩, .string ⟨#[]⟩, .string ⟨#[]⟩, .string ⟨#[]⟩, .string ⟨#[]⟩, .int .i64 0, .int .i64 0], .int .i64 16]) ?_ rfl ?_
            · exact results_two_box Tryd.results18 _ _ g _ _ _ _ (by rfl) bF Tryd.underlying51 rfl (by exact Tryd.sizeEntry)
            · exact ⟨by rw [HRs.out] <;> rfl, HF.out⟩
        · have q9 : (E0 != 0) = true := by rw [bne_iff_ne]; exact h0
          have HRs : Hid (R = none) := Lib.hid (by rw [HRR.out, if_neg (fun h => h0 h.1)])
          clear h0 HRR
          go_wp2_with (first | (refine wpList_load_row (by rfl) _ _ (by rfl) g9 (by rfl) _ _ _ _ (by exact B9.out) Tryd.underlying51 rfl (by exact Tryd.sizeEntry) ?_) | (refine wpList_store_box (by rfl) _ _ _ (by rfl) g #[.string ⟨#[]⟩, .string ⟨#[]⟩, .string ⟨#[]⟩, .string ⟨#[]⟩, .string ⟨#[]⟩, .int .i64 0, .int .i64 0] (by rfl) (by rfl) _ _ (by exact BZ.out) (by exact Tryd.sizeEntry) (by rfl) (by simp [Value.oneCell']) ?_))
          intro WF bF tF
          have HF := Lib.hid (tF.below HB7.out hgw)
          go_wp2_with fail
          refine bodyPost_ret (v := .tuple #[.agg #[.string ⟨#[]⟩, .string ⟨#[]⟩, .string ⟨#[]⟩, .string ⟨#[]⟩, .string ⟨#[]⟩, .int .i64 0, .int .i64 0], .int .i64 16]) ?_ rfl ?_
          · exact results_two_box Tryd.results18 _ _ g _ _ _ _ (by rfl) bF Tryd.underlying51 rfl (by exact Tryd.sizeEntry)
          · exact ⟨by rw [HRs.out] <;> rfl, HF.out⟩
      · have HRs : Hid (R = none) := Lib.hid (by rw [← HN.out _ _ t1 t2]; rfl)
        clear t1 t2 HN HY
        go_wp2_with (first | (refine wpList_load_row (by rfl) _ _ (by rfl) g9 (by rfl) _ _ _ _ (by exact B9.out) Tryd.underlying51 rfl (by exact Tryd.sizeEntry) ?_) | (refine wpList_store_box (by rfl) _ _ _ (by rfl) g #[.string ⟨#[]⟩, .string ⟨#[]⟩, .string ⟨#[]⟩, .string ⟨#[]⟩, .string ⟨#[]⟩, .int .i64 0, .int .i64 0] (by rfl) (by rfl) _ _ (by exact BZ.out) (by exact Tryd.sizeEntry) (by rfl) (by simp [Value.oneCell']) ?_))
        intro WF bF tF
        have HF := Lib.hid (tF.below HB7.out hgw)
        go_wp2_with fail
        refine bodyPost_ret (v := .tuple #[.agg #[.string ⟨#[]⟩, .string ⟨#[]⟩, .string ⟨#[]⟩, .string ⟨#[]⟩, .string ⟨#[]⟩, .int .i64 0, .int .i64 0], .int .i64 16]) ?_ rfl ?_
        · exact results_two_box Tryd.results18 _ _ g _ _ _ _ (by rfl) bF Tryd.underlying51 rfl (by exact Tryd.sizeEntry)
        · exact ⟨by rw [HRs.out] <;> rfl, HF.out⟩
    · have HRs : Hid (R = none) := Lib.hid (by rw [← HN.out _ _ t1 rfl]; rfl)
      clear t1 hc2 HN HY
      go_wp2_with (first | (refine wpList_load_row (by rfl) _ _ (by rfl) g9 (by rfl) _ _ _ _ (by exact B9.out) Tryd.underlying51 rfl (by exact Tryd.sizeEntry) ?_) | (refine wpList_store_box (by rfl) _ _ _ (by rfl) g #[.string ⟨#[]⟩, .string ⟨#[]⟩, .string ⟨#[]⟩, .string ⟨#[]⟩, .string ⟨#[]⟩, .int .i64 0, .int .i64 0] (by rfl) (by rfl) _ _ (by exact BZ.out) (by exact Tryd.sizeEntry) (by rfl) (by simp [Value.oneCell']) ?_))
      intro WF bF tF
      have HF := Lib.hid (tF.below HB7.out hgw)
      go_wp2_with fail
      refine bodyPost_ret (v := .tuple #[.agg #[.string ⟨#[]⟩, .string ⟨#[]⟩, .string ⟨#[]⟩, .string ⟨#[]⟩, .string ⟨#[]⟩, .int .i64 0, .int .i64 0], .int .i64 16]) ?_ rfl ?_
      · exact results_two_box Tryd.results18 _ _ g _ _ _ _ (by rfl) bF Tryd.underlying51 rfl (by exact Tryd.sizeEntry)
      · exact ⟨by rw [HRs.out] <;> rfl, HF.out⟩
  · have q9 : ((n : Int) != 7) = true := by rw [bne_iff_ne]; omega
    have HRs : Hid (R = none) := Lib.hid (by rw [← HR.out]; exact parts_no _ (by rw [List.length_map, hn]; exact h7))
    have HB7 := HB2
    clear HR hn hL h7 bL
    go_wp2_with (first | (refine wpList_store_box (by rfl) _ _ _ (by rfl) g #[.string ⟨#[]⟩, .string ⟨#[]⟩, .string ⟨#[]⟩, .string ⟨#[]⟩, .string ⟨#[]⟩, .int .i64 0, .int .i64 0] (by rfl) (by rfl) _ _ (by exact BZ.out) (by exact Tryd.sizeEntry) (by rfl) (by simp [Value.oneCell']) ?_))
    intro WF bF tF
    have HF := Lib.hid (tF.below HB7.out hgw)
    go_wp2_with fail
    refine bodyPost_ret (v := .tuple #[.agg #[.string ⟨#[]⟩, .string ⟨#[]⟩, .string ⟨#[]⟩, .string ⟨#[]⟩, .string ⟨#[]⟩, .int .i64 0, .int .i64 0], .int .i64 16]) ?_ rfl ?_
    · exact results_two_box Tryd.results18 _ _ g _ _ _ _ (by rfl) bF Tryd.underlying51 rfl (by exact Tryd.sizeEntry)
    · exact ⟨by rw [HRs.out] <;> rfl, HF.out⟩
end Go.Proofs.YtlbolbkikkiifaaDoor
