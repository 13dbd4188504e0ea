/- Texts of ours joined. -/
import Derived.RangeFuncRecord
import Derived.RangeFuncSeq
import Derived.RangeFuncCalls
import Derived.RangeFuncOwn
import Derived.Lib.Hide
import Derived.WalkLawsBesides
import Derived.Lib.SlicesCompact
import Derived.Sort.Walk0
import Derived.Lib.AppendIntMem
import Derived.RangeFuncLeaves
import Derived.Shelf.Abstract
import Derived.Shelf.RegionOpen
import Derived.WalkKit
import Derived.OwnWalkIn
import Derived.TacticsInMore
import Derived.LoopNIn
import Derived.LoopIn
import Derived.IntWalk
import Derived.Maps.OwnIn
import Derived.Shelf.SlIter.Nil
import Derived.Deep.QuietTactic
import Derived.BigQuiet
import Derived.Maps.OwnSet
import Derived.Maps.RangeWalk
import Derived.Below
import Derived.Deep.DeepCutAuto
import Derived.OwnWalk
import Derived.RegionTactic
import Derived.ChangeAlike
import Derived.Lib.MinMax
import Derived.WalkSpells
import Derived.Deep.LoopGhost
import Derived.Test.YtgoapmjcfdbjpaaMo1
set_option linter.unusedVariables false
set_option linter.unusedSimpArgs false
namespace Go.Proofs.Ytgoapmjcfdbjpaa
open Go
section
variable {P : Program} {ops : Array Oper} {md : Region.Mode}
theorem wpAny_relZ {n g : Nat} {hs : List Oper} {a0 : Act} {I : World → Prop} {S : Nat → World → Prop} {R : Nat → (Nat → Value) → World → Prop} {deps kills : Nat → List Nat} {Q : Exit → Act → World → Prop}
    (hops : ∀ j, j < n → hs[j]? = ops[j]?) (hn : n < ops.size) (hap : apartDsts hs)
    (hs1 : Region.sinkB md ops n = true) (hc1 : Region.chainB md ops n = true)
    (hback : ∀ i o, ops[i]? = some o → ∀ e ∈ o.after, Region.binds md e = true → e.on < i)
    (hdeps : ∀ i o, hs[i]? = some o → ∀ j ∈ deps i, j < n ∧ ∃ e ∈ o.after, Region.binds md e = true ∧ (e.on = j ∨ (e.on < i ∧ j ∈ deps e.on)))
    (hkill : ∀ i o, hs[i]? = some o → ∀ d ∈ deps i, ∀ i' ∈ kills d, i' = i ∨ ∃ o', ops[i']? = some o' ∧ ∃ e ∈ o'.after, Region.binds md e = true ∧ e.on = i)
    (hloc : ∀ j u u' w, (∀ k, (k = j ∨ k ∈ deps j) → u k = u' k) → R j u w → R j u' w)
    (obl : ∀ i o, hs[i]? = some o → ∀ (u : Nat → Value) w, I w → S i w → (∀ j ∈ deps i, R j u w) →
      (Region.wanted o (yielded ops (putAll hs u 0 a0).tmps) = true ∧ gives P (fun v w' => R i (upd u i v) w' ∧ I w' ∧ (∀ j u, j ≠ i → i ∉ kills j → R j u w → R j u w') ∧ (∀ j, j ≠ i → S j w → S j w')) ((execOp (putAll hs u 0 a0).eval o).run P w)) ∨
      (Region.wanted o (yielded ops (putAll hs u 0 a0).tmps) = false ∧ R i (upd u i undef) w))
    (hend : ∀ (u : Nat → Value) w, I w → (∀ j, j < n → kills j = [] → R j u w) → wpAny P md ops Q g (canon n ops.size) (putAll hs u 0 a0) w) :
    ∀ (f : Nat) (listed : Array Bool) (u : Nat → Value) (w : World), unl listed n = f → HeadInv md ops n listed → I w → (∀ j, j < n → listed.getD j false = true → (∀ i ∈ kills j, listed.getD i false = false) → R j u w) → (∀ j, j < n → listed.getD j false = false → S j w) →
      wpAny P md ops Q (f + g) listed (putAll hs u 0 a0) w := by
  have clos : ∀ (listed : Array Bool), HeadInv md ops n listed → ∀ (m j : Nat), j < n → j ≤ m → listed.getD j false = true → ∀ d ∈ deps j, listed.getD d false = true := by
    intro listed inv m
    induction m with
    | zero =>
      intro j hjn hjm hl d hd
      have hj0 : j = 0 := by omega
      subst hj0
      have hoj : ops[0]? = some (ops[0]'(by omega)) := by simp [show 0 < ops.size by omega]
      obtain ⟨_, e, he, hb, hon⟩ := hdeps 0 _ ((hops 0 hjn).trans hoj) d hd
      have h1 := inv.closed 0 _ hoj hl e he hb
      rcases hon with h2 | ⟨h2, _⟩
      · rw [← h2]; exact h1
      · omega
    | succ m ihm =>
      intro j hjn hjm hl d hd
      have hoj : ops[j]? = some (ops[j]'(by omega)) := by simp [show j < ops.size by omega]
      obtain ⟨_, e, he, hb, hon⟩ := hdeps j _ ((hops j hjn).trans hoj) d hd
      have h1 := inv.closed j _ hoj hl e he hb
      rcases hon with h2 | ⟨h2, h3⟩
      · rw [← h2]; exact h1
      · exact ihm e.on (by omega) (by omega) h1 d h3
  intro f
  induction f with
  | zero =>
    intro listed u w hf inv hI hR hS
    rw [Nat.zero_add, eq_canon inv hf]
    refine hend u w hI fun j hj hk0 => hR j hj (getD_false (by rw [inv.size]; omega) (unl_zero hf j hj)) (fun i hi => by rw [hk0] at hi; cases hi)
  | succ f ih =>
    intro listed u w hf inv hI hR hS
    obtain ⟨k, hk, hku, hkr⟩ := ready_ex inv hback (by omega) (by omega)
    rw [show f + 1 + g = (f + g) + 1 by omega]
    refine ⟨fun h => (by rw [h] at hkr; cases hkr), fun i hi => ?_⟩
    have hin : i < n := by
      rcases Nat.lt_or_ge i n with h | h
      · exact h
      · exact absurd hi (tail_waits hs1 hc1 hn inv _ k rfl hk hku i h)
    obtain ⟨hiu, o, ho, hall⟩ := mem_ready.1 hi
    have ho' : hs[i]? = some o := (hops i hin).trans ho
    have hRd : ∀ j ∈ deps i, R j u w := fun j hj => by
      obtain ⟨hjn, e, he, hb, hon⟩ := hdeps i o ho' j hj
      refine hR j hjn (by rcases hon with h2 | ⟨h2, h3⟩; · rw [← h2]; exact hall e he hb
                          · exact clos listed inv e.on e.on (by omega) (Nat.le_refl _) (hall e he hb) j h3) fun i' hi' => ?_
      rcases hkill i o ho' j hj i' hi' with rfl | ⟨o', ho2, e', he', hb', hon'⟩
      · exact getD_both hiu
      · cases hl : listed.getD i' false with
        | false => rfl
        | true =>
          have h1 := inv.closed i' o' ho2 hl e' he' hb'
          rw [hon', getD_both hiu] at h1
          cases h1
    have next : ∀ v w', R i (upd u i v) w' → I w' → (∀ j u, j ≠ i → i ∉ kills j → R j u w → R j u w') → (∀ j, j ≠ i → S j w → S j w') → wpAny P md ops Q (f + g) (listed.setIfInBounds i true) ((putAll hs u 0 a0).put o.dst v) w' := fun v w' hv hI' hst hsS => by
      rw [putAll_set hs u 0 i a0 o v hap ho']
      have hil : i < listed.size := by rw [inv.size]; omega
      refine ih _ _ w' (by have := unl_set hin hiu hil; omega) (inv.set hi hin) hI' (fun j hj hl hal => ?_) fun j hj hl => by
        by_cases hji : j = i
        · subst hji
          have : (listed.setIfInBounds j true).getD j false = true := by simp [Array.getD, hil]
          rw [this] at hl; cases hl
        · exact hsS j hji (hS j hj (by rwa [getD_set_ne false (fun h => hji h.symm)] at hl))
      have hup : (fun j => if j = 0 + i then v else u j) = upd u i v := by funext j; simp [upd]
      rw [hup]
      by_cases hji : j = i
      · subst hji; exact hv
      · rw [getD_set_ne false (fun h => hji h.symm)] at hl
        have hik : i ∉ kills j := fun hik => by
          have h1 := hal i hik
          have hil2 : i < listed.size := hil
          have : (listed.setIfInBounds i true).getD i false = true := by simp [Array.getD, hil2]
          rw [this] at h1
          cases h1
        refine hloc j u _ w' (fun q hq => ?_) (hst _ _ hji hik (hR j hj hl (fun i' hi' => by
          have h1 := hal i' hi'
          by_cases hii : i' = i
          · subst hii; exact absurd hi' hik
          · rwa [getD_set_ne false (fun h => hii h.symm)] at h1)))
        unfold upd
        rw [if_neg ?_]
        rintro rfl
        rcases hq with rfl | hq
        · exact hji rfl
        · have h1 := clos listed inv j j hj (Nat.le_refl _) hl q hq
          rw [getD_both hiu] at h1
          cases h1
    unfold wpOp
    simp only [ho]
    rcases obl i o ho' u w hI (hS i hin (getD_both hiu)) hRd with ⟨hw, hg⟩ | ⟨hw, hv⟩
    · rw [if_pos hw]
      refine .inl ?_
      unfold Oper.wp
      exact gives_upon (R := fun v w' => R i (upd u i v) w' ∧ I w' ∧ (∀ j u, j ≠ i → i ∉ kills j → R j u w → R j u w') ∧ ∀ j, j ≠ i → S j w → S j w') (fun v w' h => next v w' h.1 h.2.1 h.2.2.1 h.2.2.2) hg
    · rw [if_neg (by rw [hw]; simp)]
      exact next undef w hv hI (fun _ _ _ _ h => h) (fun _ _ h => h)
theorem wp_region_relZr {id : Nat} {Q : Exit → Act → World → Prop} {a : Act} {w : World} {l : List Oper} (n : Nat) (I : World → Prop) (S : Nat → World → Prop) (R : Nat → (Nat → Value) → World → Prop) (deps kills : Nat → List Nat)
    (hm : P.follows .mixedOrders = true) (hB : relYB .any l n deps kills = true) (hloc : ∀ j u u' w, (∀ k, (k = j ∨ k ∈ deps j) → u k = u' k) → R j u w → R j u' w) (hI : I w.drew) (hS0 : ∀ j, S j w.drew)
    (obl : ∀ i o, (l.take n)[i]? = some o → ∀ (u : Nat → Value) w, I w → S i w → (∀ j ∈ deps i, R j u w) →
      (Region.wanted o (yielded l.toArray (putAll (l.take n) u 0 a).tmps) = true ∧ gives P (fun v w' => R i (upd u i v) w' ∧ I w' ∧ (∀ j u, j ≠ i → i ∉ kills j → R j u w → R j u w') ∧ (∀ j, j ≠ i → S j w → S j w')) ((execOp (putAll (l.take n) u 0 a).eval o).run P w)) ∨
      (Region.wanted o (yielded l.toArray (putAll (l.take n) u 0 a).tmps) = false ∧ R i (upd u i undef) w))
    (htail : ∀ (u : Nat → Value) w, I w → (∀ j, j < n → kills j = [] → R j u w) → wpList P l.toArray Q (l.drop n) (putAll (l.take n) u 0 a) w) : (Code.region id l.toArray true).wp P Q a w := by
  simp only [relYB, Bool.and_eq_true, decide_eq_true_eq, List.all_eq_true, List.mem_range] at hB
  obtain ⟨⟨⟨⟨⟨⟨⟨hn, hs1⟩, hc1⟩, hback⟩, hap⟩, hdeps⟩, hseq⟩, hkl⟩ := hB
  have hsz : l.toArray.size = l.length := by simp
  refine wp_region_any hm ?_
  have hown : putAll (l.take n) (fun j => slotOf a (((l.take n)[j]?).bind (·.dst))) 0 a = a := putAll_own _ 0 a _ fun j o ho => by simp only [Nat.zero_add]; rw [ho]; rfl
  have hu0 : unl (Array.replicate l.toArray.size false) n = n := by
    have key : ∀ m, m ≤ l.length → unl (Array.replicate l.toArray.size false) m = m := by
      intro m
      induction m with
      | zero => intro _; rfl
      | succ m ih =>
        intro h
        unfold unl
        rw [ih (by omega), if_neg (by simp [Array.getD, show m < l.length by omega])]
    exact key n (by omega)
  have inv0 : HeadInv .any l.toArray n (Array.replicate l.toArray.size false) :=
    ⟨by simp, fun j oj _ hl => (by rw [getD_replicate_false] at hl; cases hl), fun t _ ht => getD_in (by simpa using ht) (getD_replicate_false _ _)⟩
  have H := wpAny_relZ (P := P) (ops := l.toArray) (md := .any) (n := n) (g := l.length - n) (hs := l.take n) (a0 := a) (I := I) (S := S) (R := R) (deps := deps) (kills := kills) (Q := Q)
    (fun j hj => by simp [List.getElem?_take_of_lt hj]) (by simpa using hn)
    (List.pairwise_iff_getElem.2 fun i j hi hj hij d hd => by
      have hi' : i < l.length := by simp at hi; omega
      have hj' : j < l.length := by simp at hj; omega
      have hjn : j < n := by simp at hj; omega
      have := hap j hjn i hij
      rw [List.getElem?_eq_getElem hj', List.getElem?_eq_getElem hi'] at this
      simp only [List.getElem_take] at hd ⊢
      simp only [hd] at this
      simpa using this)
    hs1 hc1
    (fun i o ho e he hb => by
      have ho' : l[i]? = some o := by simpa using ho
      have hil : i < l.length := (List.getElem?_eq_some_iff.1 ho').1
      have := hback i hil
      rw [ho'] at this
      have := Array.all_eq_true'.1 this e he
      simpa [hb] using this)
    (fun i o ho j hj => by
      have hin : i < n := by have := (List.getElem?_eq_some_iff.1 ho).1; simp at this; omega
      have ho' : l[i]? = some o := by rw [List.getElem?_take_of_lt hin] at ho; exact ho
      have := hdeps i hin
      rw [ho'] at this
      have := List.all_eq_true.1 this j hj
      simp only [Bool.and_eq_true, decide_eq_true_eq] at this
      obtain ⟨e, he, hb⟩ := Array.any_eq_true'.1 this.2
      simp only [Bool.and_eq_true, Bool.or_eq_true, beq_iff_eq, decide_eq_true_eq, List.contains_iff_mem] at hb
      exact ⟨this.1, e, he, hb.1, hb.2⟩)
    (fun i o ho d hd i' hi' => by
      have hin : i < n := by have := (List.getElem?_eq_some_iff.1 ho).1; simp at this; omega
      have ho' : l[i]? = some o := by rw [List.getElem?_take_of_lt hin] at ho; exact ho
      have h1 := hkl i hin d hd i' hi'
      rw [Bool.or_eq_true] at h1
      rcases h1 with h1 | h1
      · left; simpa using h1
      · right
        cases ho2 : l[i']? with
        | none => rw [ho2] at h1; cases h1
        | some o' =>
          rw [ho2] at h1
          obtain ⟨e, he, hb⟩ := Array.any_eq_true'.1 h1
          simp only [Bool.and_eq_true, beq_iff_eq] at hb
          exact ⟨o', by simpa using ho2, e, he, hb.1, hb.2⟩)
    hloc obl
    (fun u w' hI' hR => by
      have := wpAny_of_seq (md := .any) (Q' := Q) (l.drop n) n (canon n l.toArray.size) (putAll (l.take n) u 0 a) w' (fun j => by simp [List.getElem?_drop]) (by rw [List.length_drop, hsz]; exact hseq) (htail u w' hI' hR)
      rwa [List.length_drop] at this)
    n (Array.replicate l.toArray.size false) (fun j => slotOf a (((l.take n)[j]?).bind (·.dst))) w.drew hu0 inv0 hI (fun j _ hl _ => by rw [getD_replicate_false] at hl; cases hl) (fun j _ _ => hS0 j)
  rw [hown, show n + (l.length - n) = l.length by omega] at H
  rw [hsz]
  exact H
def relOblZ (P : Program) (ops : Array Oper) (I : World → Prop) (S : Nat → World → Prop) (K : Nat → World → World → Prop) (R : Nat → (Nat → Value) → World → Prop) (deps : Nat → List Nat) (hs : List Oper) (a0 : Act) : List Oper → Nat → Prop
  | [], _ => True
  | o :: r, i => (∀ (u : Nat → Value) w, I w → S i w → (∀ j ∈ deps i, R j (mask (deps j) j u) w) → owesK P ops (fun v w' => R i (mask (deps i) i (upd u i v)) w') (K i) (putAll hs u 0 a0) o w) ∧ relOblZ P ops I S K R deps hs a0 r (i + 1)
theorem relOblZ_get {I : World → Prop} {S : Nat → World → Prop} {K : Nat → World → World → Prop} {R : Nat → (Nat → Value) → World → Prop} {deps : Nat → List Nat} {hs : List Oper} {a0 : Act} : ∀ (l : List Oper) (k : Nat), relOblZ P ops I S K R deps hs a0 l k → ∀ j o, l[j]? = some o →
    (∀ (u : Nat → Value) w, I w → S (k + j) w → (∀ i ∈ deps (k + j), R i (mask (deps i) i u) w) → owesK P ops (fun v w' => R (k + j) (mask (deps (k + j)) (k + j) (upd u (k + j) v)) w') (K (k + j)) (putAll hs u 0 a0) o w)
  | [], _, _, j, o, h => by simp at h
  | x :: r, k, h, j, o, ho => by
    cases j with
    | zero =>
      simp only [List.getElem?_cons_zero, Option.some.injEq] at ho
      subst ho
      exact h.1
    | succ j =>
      have := relOblZ_get r (k + 1) h.2 j o (by simpa using ho)
      rw [show k + 1 + j = k + (j + 1) by omega] at this
      exact this
theorem wp_region_relZ {id : Nat} {Q : Exit → Act → World → Prop} {a : Act} {w : World} {l : List Oper} (n : Nat) (I : World → Prop) (S : Nat → World → Prop) (K : Nat → World → World → Prop) (R : Nat → (Nat → Value) → World → Prop) (deps : Nat → List Nat)
    (hm : P.follows .mixedOrders = true) (hB : relYB .any l n deps (fun _ => []) = true) (hI0 : I w.drew) (hS0 : ∀ j, S j w.drew) (hI : ∀ i w w', K i w w' → I w → I w') (hS : ∀ i j w w', j ≠ i → K i w w' → I w → S j w → S j w') (hst : ∀ i j u w w', j ≠ i → K i w w' → I w → R j u w → R j u w')
    (obl : relOblZ P l.toArray I S K R deps (l.take n) a (l.take n) 0)
    (htail : ∀ (u : Nat → Value) w', I w' → (∀ j, j < n → R j (mask (deps j) j u) w') → wpList P l.toArray Q (l.drop n) (putAll (l.take n) u 0 a) w') : (Code.region id l.toArray true).wp P Q a w := by
  refine wp_region_relZr n I S (fun j u w => R j (mask (deps j) j u) w) deps (fun _ => []) hm hB (fun j u u' w h hR => by rw [← mask_congr h]; exact hR) hI0 hS0 (fun i o ho u w' hI' hS' hd => ?_) (fun u w' hI' hR => htail u w' hI' fun j hj => hR j hj rfl)
  have h := relOblZ_get (l.take n) 0 obl i o ho u w' hI' (by rw [Nat.zero_add]; exact hS') (by rw [Nat.zero_add]; exact hd)
  rw [Nat.zero_add] at h
  rcases h with ⟨h1, h2⟩ | h
  · exact .inl ⟨h1, gives_mono (fun v w'' ⟨g1, g2⟩ => ⟨g1, hI _ _ _ g2 hI', (fun j u hji _ hj => hst i j _ _ _ hji g2 hI' hj), fun j hji hj => hS i j _ _ hji g2 hI' hj⟩) h2⟩
  · exact .inr h
end
end Go.Proofs.Ytgoapmjcfdbjpaa
namespace Go.Proofs.Ytgoapmjcfdbjpaa
open Go.RowKit
def SameBut (e : TypeId) (w w' : World) : Prop := ∀ (b : Nat) (cs : Array Value) (t : TypeId) (fr : Nat × Nat), w.heap[b]? = some (.cells cs t fr) → t ≠ e → w'.heap[b]? = some (.cells cs t fr)
theorem SameBut.trans {e : TypeId} {a b c : World} (h : SameBut e a b) (k : SameBut e b c) : SameBut e a c := fun q cs t fr hq ht => k q cs t fr (h q cs t fr hq ht) ht
section
variable {α : Type} {R : Rd α} {k : Nat} {w w' : World} {v : Value} {l m : List α} {B : Nat} {e : TypeId}
end
section
variable {P : Program} {α : Type} {R : Rd α} {k : Nat} {l m : List α} {B : Nat} {e : TypeId}
end
def StrX (e : TypeId) (w : World) (v : Value) (l : List ByteArray) : Prop := StrAt w v l ∧ (0 < l.length → ∃ (b o n c : Nat) (cs : Array Value) (t : TypeId) (fr : Nat × Nat), v = .slice (some ⟨b, o, none⟩) n c ∧ w.heap[b]? = some (.cells cs t fr) ∧ t ≠ e)
theorem StrX.stays {e : TypeId} {w w' : World} {v : Value} {l : List ByteArray} (h : StrX e w v l) (hs : SameBut e w w') : StrX e w' v l := by
  obtain ⟨h1, h2⟩ := h
  refine ⟨?_, fun hl => ?_⟩
  · rcases h1 with h3 | ⟨a, c, rfl, h3, h4, h5⟩
    · exact .inl h3
    · refine .inr ⟨a, c, rfl, h3, h4, fun j x hx => ?_⟩
      have hl : 0 < l.length := by have := (List.getElem?_eq_some_iff.1 hx).1; omega
      obtain ⟨b, o, n, c', cs, t, fr, hv, hb, ht⟩ := h2 hl
      cases hv
      have h6 := h5 j x hx
      have hb' := hs b cs t fr hb ht
      rw [add_plain'] at h6 ⊢
      rw [World.cell?_of_block (a := ⟨b, o + j, none⟩) (w := w) (w' := w') (by show w'.heap[b]? = w.heap[b]?; rw [hb, hb'])]
      exact h6
  · obtain ⟨b, o, n, c', cs, t, fr, hv, hb, ht⟩ := h2 hl
    exact ⟨b, o, n, c', cs, t, fr, hv, hs b cs t fr hb ht, ht⟩
end Go.Proofs.Ytgoapmjcfdbjpaa
namespace Go.Proofs.Ytgoapmjcfdbjpaa
open Go.RowKit Go.MapKept Go.ChangeMaps
theorem own_keepB {w w' : World} {B : Nat} {v : Value} {l : List ByteArray} (h : OwnAt RString 1 w B 9 v l) (hb : ∀ q, v.ownBlock = some q → w'.heap[q]? = w.heap[q]?) : OwnAt RString 1 w' B 9 v l := by
  obtain ⟨css, h1, h2, h3, h4⟩ := h
  refine ⟨css, h1, h2, ⟨h3.1, ?_⟩, h4⟩
  rcases h3.2 with h5 | ⟨q, cap, cur, rfl, hB, hh, hr⟩
  · exact .inl h5
  · exact .inr ⟨q, cap, cur, rfl, hB, (hb q rfl).trans hh, hr⟩
theorem own_turned {w w' : World} {B b : Nat} {v : Value} {l : List ByteArray} (h : OwnAt RString 1 w B 9 v l) (ht : w.mapTurned w' b) : OwnAt RString 1 w' B 9 v l :=
  own_keepB h fun q hq => turned_block ht fun e => by
    obtain ⟨_, _, cur, h1⟩ := h.at hq
    obtain ⟨es, clock, _, _, hb, _⟩ := ht
    rw [e, hb] at h1; cases h1
theorem below_grown {w w' : World} (h : Below w.heap.size w w') (row : Option Nat) : w.grownBy w' row := ⟨h.os, h.tape, h.output, h.size, fun k hk _ => h.block k hk⟩
theorem grown_trans {a b c : World} {row : Option Nat} (h : a.grownBy b row) (k : b.grownBy c row) : a.grownBy c row := ⟨k.os.trans h.os, k.tape.trans h.tape, k.output.trans h.output, Nat.le_trans h.size k.size, fun i hi hne => (k.block i (Nat.lt_of_lt_of_le hi h.size) hne).trans (h.block i hi hne)⟩
theorem below_drewF (w : World) : Below w.heap.size w w.drew := (Below.refl _ w).drew
structure OwnsF (w : World) (lo b n : Nat) (f : KB → Option Value) (g : ByteArray → List ByteArray) : Prop where
  map : MapS Try.prog 9 w b n f
  row : ∀ (s : ByteArray) v, f s.data.toList = some v → OwnAt RString 1 w lo 9 v (g s)
  no : ∀ s : ByteArray, f s.data.toList = none → g s = []
  apart : ∀ k k' v v' q, k ≠ k' → f k = some v → f k' = some v' → v.ownBlock = some q → v'.ownBlock ≠ some q
  lo : lo ≤ b
def OwnsAt (w : World) (lo b n : Nat) (g : ByteArray → List ByteArray) : Prop := ∃ f, OwnsF w lo b n f g
def valO (f : KB → Option Value) (s : ByteArray) : Value := (f s.data.toList).getD (.slice none 0 0)
section
variable {w w' : World} {lo b n : Nat} {f : KB → Option Value} {g : ByteArray → List ByteArray}
theorem kb_form (k : KB) : ∃ s : ByteArray, s.data.toList = k := ⟨⟨k.toArray⟩, by simp⟩
theorem OwnsF.at (h : OwnsF w lo b n f g) (s : ByteArray) : OwnAt RString 1 w lo 9 (valO f s) (g s) := by
  unfold valO
  cases hk : f s.data.toList with
  | none => rw [h.no s hk]; exact OwnAt.nil w
  | some v => exact h.row s v hk
theorem OwnsF.kept (h : OwnsF w lo b n f g) (hb : w'.heap[b]? = w.heap[b]?) (hr : ∀ k v q, f k = some v → v.ownBlock = some q → w'.heap[q]? = w.heap[q]?) : OwnsF w' lo b n f g :=
  ⟨h.map.block hb, fun s v hk => own_keepB (h.row s v hk) fun q hq => hr _ v q hk hq, h.no, h.apart, h.lo⟩
theorem OwnsF.lt (h : OwnsF w lo b n f g) {k : KB} {v : Value} {q : Nat} (hk : f k = some v) (hq : v.ownBlock = some q) : lo ≤ q ∧ q < w.heap.size ∧ q ≠ b := by
  obtain ⟨s, rfl⟩ := kb_form k
  obtain ⟨h1, h2, cur, h3⟩ := (h.row s v hk).at hq
  exact ⟨h1, h2, fun e => h.map.ne h3 e.symm⟩
theorem OwnsF.below (h : OwnsF w lo b n f g) (hb : Below w.heap.size w w') : OwnsF w' lo b n f g := h.kept (hb.block b h.map.lt) fun _ _ q hk hq => hb.block q (h.lt hk hq).2.1
theorem OwnsAt.below (h : OwnsAt w lo b n g) (hb : Below w.heap.size w w') : OwnsAt w' lo b n g := let ⟨f, h⟩ := h; ⟨f, h.below hb⟩
theorem OwnsF.turned {m : Nat} (h : OwnsF w lo b n f g) (ht : w.mapTurned w' m) (hne : b ≠ m) : OwnsF w' lo b n f g :=
  h.kept (turned_block ht hne) fun k v q hk hq => turned_block ht fun e => by
    obtain ⟨s, rfl⟩ := kb_form k
    obtain ⟨_, _, cur, h1⟩ := (h.row s v hk).at hq
    obtain ⟨es, clock, _, _, hb, _⟩ := ht
    rw [e, hb] at h1; cases h1
theorem OwnsF.congr {g' : ByteArray → List ByteArray} (h : OwnsF w lo b n f g) (hg : ∀ s, g s = g' s) : OwnsF w lo b n f g' := by
  have : g = g' := funext hg
  subst this
  exact h
theorem OwnsF.put {w1 : World} {s u : ByteArray} {v' : Value} (h : OwnsF w lo b n f g) (hg : w.grownBy w1 (valO f s).ownBlock) (hv : OwnAt RString 1 w1 lo 9 v' (g s ++ [u])) (hn : v'.ownBlock = (valO f s).ownBlock ∨ ∃ q, v'.ownBlock = some q ∧ w.heap.size ≤ q)
    (hm : MapS Try.prog 9 w' b (n + 1) (updF f s.data.toList v')) (ht : w1.mapTurned w' b) : OwnsF w' lo b (n + 1) (updF f s.data.toList v') fun z => if z = s then g s ++ [u] else g z := by
  have hval : ∀ q, (valO f s).ownBlock = some q → ∃ v, f s.data.toList = some v ∧ v.ownBlock = some q := fun q hq => by
    unfold valO at hq
    cases hk : f s.data.toList with
    | none => rw [hk] at hq; cases hq
    | some v => rw [hk] at hq; exact ⟨v, rfl, hq⟩
  have hold : ∀ k v q, k ≠ s.data.toList → f k = some v → v.ownBlock = some q → v'.ownBlock ≠ some q := fun k v q hne hk hq hq' => by
    rcases hn with e | ⟨q', e, hle⟩
    · rw [e] at hq'
      obtain ⟨v2, hk2, hq2⟩ := hval q hq'
      exact h.apart k _ v v2 q hne hk hk2 hq hq2
    · rw [e] at hq'
      cases hq'
      have := (h.lt hk hq).2.1
      omega
  refine ⟨hm, fun z v hz => ?_, fun z hz => ?_, fun k k' v v2 q hne hk hk' hq => ?_, h.lo⟩
  · unfold updF at hz
    by_cases e : z = s
    · subst e
      rw [if_pos rfl] at hz ⊢
      cases hz
      exact own_turned hv ht
    · rw [if_neg (fun e' => e (kb_eq e'))] at hz
      rw [if_neg e]
      refine own_turned (own_keepB (h.row z v hz) fun q hq => hg.block q (h.lt hz hq).2.1 fun e2 => ?_) ht
      obtain ⟨v2, hk2, hq2⟩ := hval q e2.symm
      exact h.apart _ _ v v2 q (fun e' => e (kb_eq e')) hz hk2 hq hq2
  · unfold updF at hz
    by_cases e : z = s
    · subst e; rw [if_pos rfl] at hz; cases hz
    · rw [if_neg (fun e' => e (kb_eq e'))] at hz
      rw [if_neg e]
      exact h.no z hz
  · unfold updF at hk hk'
    by_cases e : k = s.data.toList
    · rw [if_pos e] at hk
      cases hk
      rw [if_neg (fun e2 => hne (e.trans e2.symm))] at hk'
      exact fun hq' => hold k' v2 q (fun e2 => hne (e.trans e2.symm)) hk' hq' hq
    · rw [if_neg e] at hk
      by_cases e' : k' = s.data.toList
      · rw [if_pos e'] at hk'
        cases hk'
        exact hold k v q e hk hq
      · rw [if_neg e'] at hk'
        exact h.apart k k' v v2 q hne hk hk' hq
end
def ownsB (l : List GCard) (o : ByteArray) : List ByteArray := Rf.ownsL (cds l) o
end Go.Proofs.Ytgoapmjcfdbjpaa
namespace Go.Proofs.Ytgoapmjcfdbjpaa
open Go.RowKit Go.MapKept Go.ChangeMaps
structure GraphAt (w : World) (lo tb ob n : Nat) (T : KB → Option Value) (f : KB → Option Value) (l : List GCard) : Prop where
  there : MapS Try.prog 9 w tb l.length T
  seen : SeenM T (l.map (·.uid))
  owns : OwnsF w lo ob n f (ownsB l)
  ne : tb ≠ ob
  tlo : lo ≤ tb
theorem GraphAt.below {w w' : World} {lo tb ob n : Nat} {T f : KB → Option Value} {l : List GCard} (h : GraphAt w lo tb ob n T f l) (hb : Below w.heap.size w w') : GraphAt w' lo tb ob n T f l :=
  ⟨h.there.belowW hb, h.seen, h.owns.below hb, h.ne, h.tlo⟩
end Go.Proofs.Ytgoapmjcfdbjpaa
namespace Go.Proofs.Ytgoapmjcfdbjpaa
open Go.RowKit
theorem below_putObj {B : Nat} (W : World) (l : Nat) (o : Obj) (h : B ≤ l) : Below B W (W.putObj l o) :=
  ⟨rfl, rfl, rfl, by simp, fun k hk => World.putObj_heap_other (by omega)⟩
end Go.Proofs.Ytgoapmjcfdbjpaa
namespace Go.Proofs.Ytgoapmjcfdbjpaa
open Go.RowKit
end Go.Proofs.Ytgoapmjcfdbjpaa
namespace Go.Proofs.Ytgoapmjcfdbjpaa
open Go.RowKit
theorem bl_irrefl : ∀ x : List UInt8, Op.bytesLess x x = false
  | [] => rfl
  | a :: x => by unfold Op.bytesLess; simp [bl_irrefl x]
theorem bl_total : ∀ x y : List UInt8, Op.bytesLess x y = false → Op.bytesLess y x = false → x = y
  | [], [], _, _ => rfl
  | [], _ :: _, h, _ => by simp [Op.bytesLess] at h
  | _ :: _, [], _, h => by simp [Op.bytesLess] at h
  | a :: x, b :: y, h1, h2 => by
    unfold Op.bytesLess at h1 h2
    simp only [Bool.or_eq_false_iff, Bool.and_eq_false_iff, decide_eq_false_iff_not, UInt8.not_lt] at h1 h2
    have hab : a = b := UInt8.le_antisymm h2.1 h1.1
    subst hab
    rw [bl_total x y (by simpa using h1.2) (by simpa using h2.2)]
theorem bl_trans : ∀ x y z : List UInt8, Op.bytesLess x y = true → Op.bytesLess y z = true → Op.bytesLess x z = true
  | _, [], _, h, _ => by simp [Op.bytesLess] at h
  | _, _ :: _, [], _, h => by simp [Op.bytesLess] at h
  | [], _ :: _, _ :: _, _, _ => rfl
  | a :: x, b :: y, c :: z, h1, h2 => by
    unfold Op.bytesLess at h1 h2 ⊢
    simp only [Bool.or_eq_true, Bool.and_eq_true, decide_eq_true_eq, beq_iff_eq] at h1 h2 ⊢
    rcases h1 with h1 | ⟨rfl, h1⟩
    · rcases h2 with h2 | ⟨rfl, h2⟩
      · exact .inl (UInt8.lt_trans h1 h2)
      · exact .inl h1
    · rcases h2 with h2 | ⟨rfl, h2⟩
      · exact .inl h2
      · exact .inr ⟨rfl, bl_trans x y z h1 h2⟩
theorem bl_asymm {x y : List UInt8} (h : Op.bytesLess x y = true) : Op.bytesLess y x = false := by
  cases h2 : Op.bytesLess y x with
  | false => rfl
  | true => have := bl_trans x y x h h2; rw [bl_irrefl] at this; cases this
theorem toList_inj {a b : ByteArray} (h : a.toList = b.toList) : a = b := by
  rw [ByteArray.toList_eq, ByteArray.toList_eq] at h
  cases a; cases b
  simp only [ByteArray.mk.injEq]
  exact Array.toList_inj.1 h
end Go.Proofs.Ytgoapmjcfdbjpaa
namespace Go.Proofs.Ytgoapmjcfdbjpaa
open Go.RowKit Go.Sort Go.Proofs
def leL (x y : List UInt8) : Bool := decide (x ≤ y)
theorem leL_eq (x y : List UInt8) : leL x y = !Op.bytesLess y x := by
  unfold leL
  rw [bytesLess_eq]
  by_cases h : y < x
  · rw [decide_eq_true h, decide_eq_false (fun hle : x ≤ y => hle h)]; rfl
  · rw [decide_eq_false h, decide_eq_true (show x ≤ y from h)]; rfl
theorem leL_trans (x y z : List UInt8) (h : leL x y = true) (k : leL y z = true) : leL x z = true := by
  rw [leL_eq, Bool.not_eq_true'] at *
  cases hz : Op.bytesLess z x with
  | false => rfl
  | true =>
    cases hy : Op.bytesLess y z with
    | true => rw [bl_trans y z x hy hz] at h; cases h
    | false =>
      have := bl_total y z hy k
      subst this
      rw [hz] at h; cases h
theorem leL_total (x y : List UInt8) : (leL x y || leL y x) = true := by
  rw [leL_eq, leL_eq]
  cases h : Op.bytesLess y x with
  | false => rfl
  | true => rw [bl_asymm h]; rfl
def sortedL (l : List (List UInt8)) : List (List UInt8) := l.mergeSort fun x y => decide (x ≤ y)
theorem sorted_pair (l : List (List UInt8)) : (sortedL l).Pairwise fun x y => leL x y = true := List.pairwise_mergeSort (le := leL) leL_trans leL_total l
theorem sorted_mem (l : List (List UInt8)) (x : List UInt8) : x ∈ sortedL l ↔ x ∈ l := List.mem_mergeSort
theorem compact_rising (zs : List (List UInt8)) (hs : zs.Pairwise fun x y => leL x y = true) :
    (Lib.compact zs).Pairwise (fun x y => Op.bytesLess x y = true) ∧ ∀ x, x ∈ Lib.compact zs ↔ x ∈ zs := by
  have hget : ∀ i j, i < j → j < zs.length → leL (zs.toArray[i]!) (zs.toArray[j]!) = true := fun i j hij hj => by
    have := List.pairwise_iff_getElem.1 hs i j (by omega) hj hij
    rwa [getElem!_pos zs.toArray i (by simpa using (by omega : i < zs.length)), getElem!_pos zs.toArray j (by simpa using hj)]
  have key : ∀ m, m ≤ zs.length → (Lib.compactUpTo zs.toArray m).Pairwise (fun x y => Op.bytesLess x y = true) ∧ (∀ x ∈ Lib.compactUpTo zs.toArray m, ∃ j, j < m ∧ x = zs.toArray[j]!) ∧ (∀ j, j < m → zs.toArray[j]! ∈ Lib.compactUpTo zs.toArray m) := fun m => by
    induction m with
    | zero => intro _; exact ⟨by simp [Lib.compactUpTo], by simp [Lib.compactUpTo], fun j hj => by omega⟩
    | succ m ih =>
      intro hm
      obtain ⟨h1, h2, h3⟩ := ih (by omega)
      rw [Lib.compactUpTo_succ]
      by_cases h0 : m = 0
      · subst h0
        rw [if_pos (Lib.keeps_lt_one _ 0 (by omega))]
        have : Lib.compactUpTo zs.toArray 0 = [] := by simp [Lib.compactUpTo]
        rw [this, List.nil_append]
        refine ⟨by simp, fun x hx => ⟨0, by omega, by simpa using hx⟩, fun j hj => ?_⟩
        obtain rfl : j = 0 := by omega
        simp
      · by_cases he : zs.toArray[m]! = zs.toArray[m - 1]!
        · rw [Lib.keeps_neg (by omega) he]
          simp only [Bool.false_eq_true, if_false, List.append_nil]
          refine ⟨h1, fun x hx => ?_, fun j hj => ?_⟩
          · obtain ⟨j, hj, e⟩ := h2 x hx
            exact ⟨j, by omega, e⟩
          · by_cases hjm : j = m
            · subst hjm
              rw [he]
              exact h3 _ (by omega)
            · exact h3 j (by omega)
        · rw [Lib.keeps_pos he, if_pos rfl]
          refine ⟨?_, fun x hx => ?_, fun j hj => ?_⟩
          · rw [List.pairwise_append]
            refine ⟨h1, by simp, fun a ha b hb => ?_⟩
            obtain rfl : b = zs.toArray[m]! := by simpa using hb
            obtain ⟨j, hj, rfl⟩ := h2 a ha
            have h4 : Op.bytesLess (zs.toArray[m - 1]!) (zs.toArray[m]!) = true := by
              have h5 := hget (m - 1) m (by omega) (by omega)
              rw [leL_eq, Bool.not_eq_true'] at h5
              cases h6 : Op.bytesLess (zs.toArray[m - 1]!) (zs.toArray[m]!) with
              | true => rfl
              | false => exact absurd (bl_total _ _ h6 h5).symm he
            by_cases hjm : j = m - 1
            · rw [hjm]; exact h4
            · have h5 := hget j (m - 1) (by omega) (by omega)
              rw [leL_eq, Bool.not_eq_true'] at h5
              cases h6 : Op.bytesLess (zs.toArray[j]!) (zs.toArray[m - 1]!) with
              | true => exact bl_trans _ _ _ h6 h4
              | false => rw [bl_total _ _ h6 h5]; exact h4
          · rcases List.mem_append.1 hx with hx | hx
            · obtain ⟨j, hj, e⟩ := h2 x hx
              exact ⟨j, by omega, e⟩
            · exact ⟨m, by omega, by simpa using hx⟩
          · by_cases hjm : j = m
            · subst hjm; simp
            · exact List.mem_append_left _ (h3 j (by omega))
  obtain ⟨h1, h2, h3⟩ := key zs.length (Nat.le_refl _)
  refine ⟨h1, fun x => ⟨fun hx => ?_, fun hx => ?_⟩⟩
  · obtain ⟨j, hj, rfl⟩ := h2 x hx
    rw [getElem!_pos zs.toArray j (by simpa using hj)]
    simp
  · obtain ⟨j, hj, rfl⟩ := List.getElem_of_mem hx
    have := h3 j hj
    rw [getElem!_pos zs.toArray j (by simpa using hj)] at this
    exact this
end Go.Proofs.Ytgoapmjcfdbjpaa
namespace Go.Proofs.Ytgoapmjcfdbjpaa
open Go.RowKit
def mkB (l : List UInt8) : ByteArray := ⟨l.toArray⟩
theorem setCells_nil (w : World) (g i : Nat) : w.setCells g i [] = w := rfl
end Go.Proofs.Ytgoapmjcfdbjpaa
namespace Go.Proofs.Ytgoapmjcfdbjpaa
open Go.RowKit Go.MapKept Go.ChangeMaps Go.Shelf Go.Maps Go.Sort
attribute [local go_sem] Oper.semAt_some
theorem own_keepRow {w w' : World} {B n : Nat} {e : TypeId} {v : Value} {xs : List Value} (h : w.ownsRow B e 1 v n xs) (hb : ∀ q, v.ownBlock = some q → w'.heap[q]? = w.heap[q]?) : w'.ownsRow B e 1 v n xs := by
  refine ⟨h.1, ?_⟩
  rcases h.2 with h5 | ⟨q, cap, cur, rfl, hB, hh, hr⟩
  · exact .inl h5
  · exact .inr ⟨q, cap, cur, rfl, hB, (hb q rfl).trans hh, hr⟩
theorem own_blockR {w : World} {B n : Nat} {e : TypeId} {v : Value} {xs : List Value} (h : w.ownsRow B e 1 v n xs) {q : Nat} (hq : v.ownBlock = some q) : B ≤ q ∧ q < w.heap.size ∧ ∃ cur, w.heap[q]? = some (.cells cur e (0, 0)) := by
  rcases h.2 with ⟨rfl, _⟩ | ⟨g, cap, cur, rfl, hB, hh, hr⟩
  · cases hq
  · simp [Value.ownBlock] at hq
    subst hq
    exact ⟨hB, (Array.getElem?_eq_some_iff.1 hh).1, cur, hh⟩
def AppI (w : World) (pre : List ByteArray) (W : World) : Prop := ∃ v, W.heap[w.heap.size]? = some (.cells #[v] 23 (0, 0)) ∧ W.ownsRow w.heap.size 9 1 v pre.length (strs pre) ∧ Below w.heap.size w W
theorem AppI.alloc {w A : World} {pre : List ByteArray} (h : AppI w pre A) (o : Obj) : AppI w pre (A.alloc o) := by
  obtain ⟨v, h1, h2, h3⟩ := h
  exact ⟨v, heap_alloc_old h1, h2.alloc o, h3.alloc h3.size o⟩
theorem AppI.put {w A : World} {pre : List ByteArray} {l : Nat} {lo : Loop} (h : AppI w pre A) (hl : w.heap.size ≤ l) (ha : A.heap[l]? = some (.loop lo)) (lo' : Loop) : AppI w pre (A.putObj l (.loop lo')) := by
  obtain ⟨v, h1, h2, h3⟩ := h
  refine ⟨v, (World.putObj_heap_other fun e => ?_).trans h1, own_keepRow h2 fun q hq => World.putObj_heap_other fun e => ?_, h3.trans (below_putObj A _ _ hl)⟩
  · rw [e, ha] at h1; cases h1
  · obtain ⟨_, _, cur, h9⟩ := own_blockR h2 hq
    rw [e, ha] at h9; cases h9
end Go.Proofs.Ytgoapmjcfdbjpaa
namespace Go.Proofs
open Go.Shelf
end Go.Proofs
namespace Go.Proofs.Ytgoapmjcfdbjpaa
open Go.RowKit Go.MapKept Go.ChangeMaps Go.Shelf Go.Maps Go.Sort
end Go.Proofs.Ytgoapmjcfdbjpaa
namespace Go.Proofs.Ytgoapmjcfdbjpaa
open Go.RowKit Go.MapKept Go.ChangeMaps
end Go.Proofs.Ytgoapmjcfdbjpaa
namespace Go.Proofs.Ytgoapmjcfdbjpaa
open Go.RowKit Go.MapKept Go.ChangeMaps
def sortS (l : List ByteArray) : List ByteArray := (sortedL (l.map (·.data.toList))).map mkB
def csOf (l : List ByteArray) : List ByteArray := (Lib.compact ((sortS l).map (·.data.toList))).map mkB
theorem mkB_self (s : ByteArray) : mkB s.data.toList = s := by unfold mkB; simp
theorem sortS_data (l : List ByteArray) : (sortS l).map (·.data.toList) = sortedL (l.map (·.data.toList)) := by
  unfold sortS
  rw [List.map_map]
  have : ((fun x : ByteArray => x.data.toList) ∘ mkB) = id := funext fun x => by simp [mkB]
  rw [this, List.map_id]
theorem csOf_mem (l : List ByteArray) (s : ByteArray) : s ∈ csOf l ↔ s ∈ l := by
  unfold csOf
  rw [List.mem_map]
  have hc := (compact_rising _ (by rw [sortS_data]; exact sorted_pair _ : ((sortS l).map (·.data.toList)).Pairwise fun x y => leL x y = true)).2
  constructor
  · rintro ⟨x, hx, rfl⟩
    rw [hc, sortS_data, sorted_mem] at hx
    obtain ⟨y, hy, rfl⟩ := List.mem_map.1 hx
    rw [mkB_self]; exact hy
  · intro h
    exact ⟨s.data.toList, (hc _).2 (by rw [sortS_data, sorted_mem]; exact List.mem_map_of_mem h), mkB_self s⟩
def WaitF (F : KB → Option Value) (W : ByteArray → Nat) : Prop := ∀ s : ByteArray, (F s.data.toList).getD (.int .i64 0) = .int .i64 (W s : Int)
theorem WaitF.put {F : KB → Option Value} {W : ByteArray → Nat} (h : WaitF F W) (s : ByteArray) (n : Nat) : WaitF (updF F s.data.toList (.int .i64 (n : Int))) (Rf.upd W s n) := fun z => by
  unfold updF
  by_cases e : z = s
  · subst e; rw [if_pos rfl, Rf.upd_same]; rfl
  · rw [if_neg (fun e' => e (kb_eq e')), Rf.upd_other _ _ e]; exact h z
def Owing (l : List GCard) (cs : List ByteArray) (j c : Nat) : Prop := Rf.Cnt (fun o => o ∈ cs.take j ∧ o ∈ Rf.uids (cds l)) c
theorem Owing.no {l : List GCard} {cs : List ByteArray} {j c : Nat} (h : Owing l cs j c) {o : ByteArray} (ho : cs[j]? = some o) (hin : o ∉ Rf.uids (cds l)) : Owing l cs (j + 1) c := by
  refine Rf.Cnt.congr h fun z => ?_
  rw [Rf.take_succ ho]
  constructor
  · rintro ⟨a, b⟩; exact ⟨List.mem_append_left _ a, b⟩
  · rintro ⟨a, b⟩
    rcases List.mem_append.1 a with a | a
    · exact ⟨a, b⟩
    · simp only [List.mem_singleton] at a; subst a; exact (hin b).elim
theorem Owing.le {l : List GCard} {cs : List ByteArray} {j c : Nat} (h : Owing l cs j c) : c ≤ cs.length := Rf.Cnt.le h fun _ ho => List.mem_of_mem_take ho.1
theorem Owing.all {l : List GCard} {x : GCard} {j c : Nat} (h : Owing l (csOf x.owners) j c) (hj : (csOf x.owners).length ≤ j) : Rf.Cnt (fun o => o ∈ (cdOf x).own ∧ o ∈ Rf.uids (cds l)) c := by
  refine Rf.Cnt.congr h fun z => ?_
  rw [List.take_of_length_le hj, csOf_mem]
  exact Iff.rfl
theorem grown_self (w : World) (row : Option Nat) : w.grownBy w row := ⟨rfl, rfl, rfl, Nat.le_refl _, fun _ _ _ => rfl⟩
end Go.Proofs.Ytgoapmjcfdbjpaa
namespace Go.Proofs.Ytgoapmjcfdbjpaa
open Go.RowKit
structure LineW (w : World) (B gf : Nat) (c0 c1 c2 v : Value) (l : List Th) : Prop where
  box : w.heap[gf]? = some (.cells #[c0, c1, c2, v] 73 (0, 0))
  row : OwnAt ThR 3 w B 75 v l
theorem LineW.below {w w' : World} {B gf : Nat} {c0 c1 c2 v : Value} {l : List Th} (h : LineW w B gf c0 c1 c2 v l) (hb : Below w.heap.size w w') : LineW w' B gf c0 c1 c2 v l := ⟨below_block hb h.box, h.row.below flat_th.stays hb⟩
theorem LineW.ne {w : World} {B gf : Nat} {c0 c1 c2 v : Value} {l : List Th} (h : LineW w B gf c0 c1 c2 v l) : v.ownBlock ≠ some gf := fun e => by
  obtain ⟨_, _, cur, h9⟩ := h.row.at e
  rw [h.box] at h9; cases h9
theorem LineW.swapped {w w' : World} {B gf : Nat} {c0 c1 c2 v : Value} {l l' : List Th} (h : LineW w B gf c0 c1 c2 v l) (ho : OwnAt ThR 3 w' B 75 v l') (hg : w.grownBy w' v.ownBlock) : LineW w' B gf c0 c1 c2 v l' :=
  ⟨(hg.block gf (Array.getElem?_eq_some_iff.1 h.box).1 fun e => h.ne e.symm).trans h.box, ho⟩
set_option maxRecDepth 100000 in
set_option maxHeartbeats 3200000 in
theorem up_any {B gf : Nat} {c0 c1 c2 v : Value} (l : List Th) (j : Nat) (w : World) (h : LineW w B gf c0 c1 c2 v l) (hj : j < l.length) (hl : l.length ≤ 1048576) (hu : UpInv l j) :
    Calls Try.prog 45 #[.iface 77 (.pointer (some ⟨gf, 3, none⟩)), .int .i64 (j : Int)] w fun e w' => e = .returned (.tuple #[]) ∧ ∃ l', LineW w' B gf c0 c1 c2 v l' ∧ l'.Perm l ∧ HeapL l' l'.length ∧ w.grownBy w' v.ownBlock := by
  have H0 := Lib.hid h
  have HU0 := Lib.hid hu
  have HP0 : Hid (l.Perm l) := Lib.hid (List.Perm.refl l)
  have HG0 : Hid (w.grownBy w v.ownBlock) := Lib.hid (grown_self w _)
  have HLn0 : Hid (l.length = l.length) := Lib.hid rfl
  obtain ⟨nl, Hnl⟩ : ∃ n, Hid (l.length = n) := ⟨_, Lib.hid rfl⟩
  have hjn : j < nl := by rw [← Hnl.out]; exact hj
  have hln : nl ≤ 1048576 := by rw [← Hnl.out]; exact hl
  clear h hu hj hl HLn0
  go_enter Try.func45, Try.ntmps45
  go_wp2_with fail
  go_loopg [1] j (fun k u1 wr => ∃ l2 : List Th, u1 = .int .i64 (k : Int) ∧ k < nl ∧ Hid (LineW wr B gf c0 c1 c2 v l2) ∧ Hid (l2.Perm l) ∧ Hid (UpInv l2 k) ∧ Hid (w.grownBy wr v.ownBlock))
  case atStart => exact ⟨l, rfl, hjn, H0, HP0, HU0, HG0⟩
  case round =>
    clear H0 HP0 HU0 HG0
    obtain ⟨l2, rfl, hkn, HL, HP, HU, HG⟩ := hrel
    have hl2 : l2.length = nl := by rw [HP.out.length_eq, Hnl.out]
    obtain ⟨y, hy⟩ : ∃ y, l2[gk]? = some y := ⟨l2[gk]'(by omega), List.getElem?_eq_getElem _⟩
    obtain ⟨i, hi⟩ : ∃ i, (gk - 1) / 2 = i := ⟨_, rfl⟩
    obtain ⟨x, hx⟩ : ∃ x, l2[i]? = some x := ⟨l2[i]'(by omega), List.getElem?_eq_getElem _⟩
    have hq : ((gk : Int) - 1).tdiv 2 = (i : Int) := by
      rcases Nat.eq_zero_or_pos gk with h0 | h0
      · subst h0
        have : i = 0 := by omega
        subst this
        decide
      · rw [Int.tdiv_eq_ediv_of_nonneg (by omega)]
        omega
    by_cases h0 : gk = 0
    · subst h0
      have hi0 : i = 0 := by omega
      subst hi0
      have HF : Hid (HeapL l2 l2.length) := Lib.hid (HU.out.stop (.inl rfl))
      clear hq hy hx hi
      go_wp2_with fail
      go_end0
      exact ⟨rfl, l2, HL.out, HP.out, HF.out, HG.out⟩
    · have hne : ¬ ((i : Int) = (gk : Int)) := by omega
      have hne2 : ((i : Int) == (gk : Int)) = false := by simpa using hne
      have mL := m_less gf v wr (cell_block HL.out.box 3)
      have eL := enter_less
      have HLe := Lib.hid (less_any v l2 gk i y x wr HL.out.row.row hy hx (by omega))
      obtain ⟨b, Hb⟩ : ∃ b, Hid (y.less x = b) := ⟨_, Lib.hid rfl⟩
      rw [Hb.out] at HLe
      have Hi := Lib.hid hi
      have Hx := Lib.hid hx
      have Hy := Lib.hid hy
      have w1 : IntKind.i64.wrap ((gk : Int) - 1) = (gk : Int) - 1 := IntWalk.i64_in _ (by omega)
      have w2 : IntKind.i64.wrap (i : Int) = (i : Int) := IntWalk.i64_in _ (by omega)
      clear hi hx hy
      go_wp2_with fail
      refine HLe.out.mono ?_
      rintro e w2' ⟨rfl, hb2⟩
      have HL2 := Lib.hid (HL.out.below hb2)
      have HG2 : Hid (w.grownBy w2' v.ownBlock) := Lib.hid (grown_trans HG.out (below_grown hb2 _))
      clear HLe mL hb2 HL HG
      cases b with
      | false =>
        have HF : Hid (HeapL l2 l2.length) := Lib.hid (HU.out.stop (.inr (by rw [Hi.out, Hx.out, Hy.out]; exact LeO.of Hb.out)))
        clear HU
        go_wp2_with fail
        go_end0
        exact ⟨rfl, l2, HL2.out, HP.out, HF.out, HG2.out⟩
      | true =>
        have hi9 := Hi.out
        have mS := m_swap gf v w2' (cell_block HL2.out.box 3)
        have eS := enter_swap
        have HSw := Lib.hid (swap_any v l2 i gk B x y w2' HL2.out.row Hx.out Hy.out)
        have HU' : Hid (UpInv (swapL l2 i gk x y) i) := Lib.hid (by
          have h9 := HU.out.swap (by omega) (by rw [hi9]; exact Hx.out) Hy.out Hb.out
          rwa [hi9] at h9)
        have HP' : Hid ((swapL l2 i gk x y).Perm l) := Lib.hid ((swap_perm Hx.out Hy.out).trans HP.out)
        clear HU HP
        go_wp2_with fail
        refine HSw.out.mono ?_
        rintro e w3 ⟨rfl, ho3, hg3⟩
        have HL3 := Lib.hid (HL2.out.swapped ho3 hg3)
        have HG3 := Lib.hid (grown_trans HG2.out hg3)
        clear HSw mS ho3 hg3 HL2 HG2
        go_wp2_with fail
        go_roundg i
        case measure => omega
        case rel => exact ⟨_, by go_num, by omega, HL3, HP', HU', HG3⟩
end Go.Proofs.Ytgoapmjcfdbjpaa
namespace Go.Proofs.Ytgoapmjcfdbjpaa
open Go.RowKit
def SameFrom (n : Nat) (l2 l : List Th) : Prop := ∀ k, n ≤ k → l2[k]? = l[k]?
set_option maxRecDepth 100000 in
set_option maxHeartbeats 6400000 in
theorem down_any {B gf : Nat} {c0 c1 c2 v : Value} (l : List Th) (i0 n : Nat) (w : World) (h : LineW w B gf c0 c1 c2 v l) (hn : n ≤ l.length) (hi0 : i0 < l.length) (hl : l.length ≤ 1048576) (hu : DownInv l i0 n) :
    Calls Try.prog 44 #[.iface 77 (.pointer (some ⟨gf, 3, none⟩)), .int .i64 (i0 : Int), .int .i64 (n : Int)] w fun e w' => (∃ b, e = .returned (.bool b)) ∧ ∃ l', LineW w' B gf c0 c1 c2 v l' ∧ l'.Perm l ∧ HeapL l' n ∧ SameFrom n l' l ∧ w.grownBy w' v.ownBlock := by
  have H0 := Lib.hid h
  have HU0 := Lib.hid hu
  have HP0 : Hid (l.Perm l) := Lib.hid (List.Perm.refl l)
  have HG0 : Hid (w.grownBy w v.ownBlock) := Lib.hid (grown_self w _)
  have Hk0 : Hid (SameFrom n l l) := Lib.hid fun _ _ => rfl
  obtain ⟨nl, Hnl⟩ : ∃ n, Hid (l.length = n) := ⟨_, Lib.hid rfl⟩
  have hnn : n ≤ nl := by rw [← Hnl.out]; exact hn
  have hin : i0 < nl := by rw [← Hnl.out]; exact hi0
  have hln : nl ≤ 1048576 := by rw [← Hnl.out]; exact hl
  clear h hu hn hl hi0
  go_enter Try.func44, Try.ntmps44
  go_wp2_with fail
  go_loopg [7] (n - i0) (fun k u7 wr => ∃ (i : Nat) (l2 : List Th), u7 = .int .i64 (i : Int) ∧ k = n - i ∧ i < nl ∧ Hid (LineW wr B gf c0 c1 c2 v l2) ∧ Hid (l2.Perm l) ∧ Hid (DownInv l2 i n) ∧ Hid (SameFrom n l2 l) ∧ Hid (w.grownBy wr v.ownBlock))
  case atStart => exact ⟨i0, l, rfl, rfl, hin, H0, HP0, HU0, Hk0, HG0⟩
  case round =>
    clear H0 HP0 HU0 HG0 Hk0 hin
    obtain ⟨i, l2, rfl, hgk, hil, HL, HP, HU, Hk, HG⟩ := hrel
    have hl2 : l2.length = nl := by rw [HP.out.length_eq, Hnl.out]
    have w1 : IntKind.i64.wrap (2 * (i : Int)) = 2 * (i : Int) := IntWalk.i64_in _ (by omega)
    have w2 : IntKind.i64.wrap (2 * (i : Int) + 1) = 2 * (i : Int) + 1 := IntWalk.i64_in _ (by omega)
    have w3 : IntKind.i64.wrap (2 * (i : Int) + 1 + 1) = 2 * (i : Int) + 1 + 1 := IntWalk.i64_in _ (by omega)
    obtain ⟨x, hx⟩ : ∃ x, l2[i]? = some x := ⟨l2[i]'(by omega), List.getElem?_eq_getElem _⟩
    have Hx := Lib.hid hx
    clear hx
    by_cases h1 : 2 * i + 1 < n
    · obtain ⟨y, hy⟩ : ∃ y, l2[2 * i + 1]? = some y := ⟨l2[2 * i + 1]'(by omega), List.getElem?_eq_getElem _⟩
      have Hy := Lib.hid hy
      clear hy
      obtain ⟨j1, hj1⟩ : ∃ j, 2 * i + 1 = j := ⟨_, rfl⟩
      have e1 : 2 * (i : Int) + 1 = (j1 : Int) := by omega
      rw [hj1] at Hy h1
      have q1 : ¬ ((n : Int) ≤ (j1 : Int)) := by omega
      have q2 : ¬ ((j1 : Int) < 0) := by omega
      rw [e1] at w2 w3
      by_cases h2 : j1 + 1 < n
      · obtain ⟨z, hz⟩ : ∃ z, l2[j1 + 1]? = some z := ⟨l2[j1 + 1]'(by omega), List.getElem?_eq_getElem _⟩
        have Hz := Lib.hid hz
        clear hz
        obtain ⟨j2, hj2⟩ : ∃ j, j1 + 1 = j := ⟨_, rfl⟩
        have e2 : (j1 : Int) + 1 = (j2 : Int) := by omega
        rw [hj2] at Hz h2
        have q3 : (j2 : Int) < (n : Int) := by omega
        rw [e2] at w3
        have mL := m_less gf v wr (cell_block HL.out.box 3)
        have eL := enter_less
        have HLe := Lib.hid (less_any v l2 j2 j1 z y wr HL.out.row.row Hz.out Hy.out (by omega))
        obtain ⟨b, Hb⟩ : ∃ b, Hid (z.less y = b) := ⟨_, Lib.hid rfl⟩
        rw [Hb.out] at HLe
        go_wp2_with fail
        refine HLe.out.mono ?_
        rintro e w4 ⟨rfl, hb4⟩
        have HL4 := Lib.hid (HL.out.below hb4)
        have HG4 : Hid (w.grownBy w4 v.ownBlock) := Lib.hid (grown_trans HG.out (below_grown hb4 _))
        clear HLe mL hb4 HL HG
        cases b with
        | false =>
          have HMn : Hid (∀ c, 0 < c → c < n → (c - 1) / 2 = i → LeO (some y) l2[c]?) := Lib.hid fun c h0 hc hp => by
            rcases (by omega : c = j1 ∨ c = j2) with h9 | h9
            · rw [h9, Hy.out]; exact LeO.refl _
            · rw [h9, Hz.out]; exact LeO.of Hb.out
          have mL2 := m_less gf v w4 (cell_block HL4.out.box 3)
          have eL2 := enter_less
          have HLe2 := Lib.hid (less_any v l2 j1 i y x w4 HL4.out.row.row Hy.out Hx.out (by omega))
          obtain ⟨b2, Hb2⟩ : ∃ b, Hid (y.less x = b) := ⟨_, Lib.hid rfl⟩
          rw [Hb2.out] at HLe2
          go_wp2_with fail
          refine HLe2.out.mono ?_
          rintro e w5 ⟨rfl, hb5⟩
          have HL5 := Lib.hid (HL4.out.below hb5)
          have HG5 : Hid (w.grownBy w5 v.ownBlock) := Lib.hid (grown_trans HG4.out (below_grown hb5 _))
          clear HLe2 mL2 hb5 HL4 HG4
          cases b2 with
          | false =>
            have HF : Hid (HeapL l2 n) := Lib.hid (HU.out.stop fun c h0 hc hp => by
              rw [Hx.out]
              exact (LeO.of Hb2.out).trans (HMn.out c h0 hc hp))
            clear HU
            go_wp2_with fail
            go_ret
            exact ⟨⟨_, rfl⟩, l2, HL5.out, HP.out, HF.out, Hk.out, HG5.out⟩
          | true =>
            have mS := m_swap gf v w5 (cell_block HL5.out.box 3)
            have eS := enter_swap
            have HSw := Lib.hid (swap_any v l2 i j1 B x y w5 HL5.out.row Hx.out Hy.out)
            have HU' := Lib.hid (HU.out.swap (by omega) (by omega) (by omega) (by omega) Hx.out Hy.out Hb2.out HMn.out)
            have HP' : Hid ((swapL l2 i j1 x y).Perm l) := Lib.hid ((swap_perm Hx.out Hy.out).trans HP.out)
            have Hk' : Hid (SameFrom n (swapL l2 i j1 x y) l) := Lib.hid fun k hk => by
              rw [swap_get Hx.out Hy.out, if_neg (by omega), if_neg (by omega)]
              exact Hk.out k hk
            clear HU HP Hk
            go_wp2_with fail
            refine HSw.out.mono ?_
            rintro e w6 ⟨rfl, ho6, hg6⟩
            have HL6 := Lib.hid (HL5.out.swapped ho6 hg6)
            have HG6 := Lib.hid (grown_trans HG5.out hg6)
            clear HSw mS ho6 hg6 HL5 HG5
            go_wp2_with fail
            go_roundg (n - (j1))
            case measure => omega
            case rel => exact ⟨j1, _, by go_num, rfl, by omega, HL6, HP', HU', Hk', HG6⟩
        | true =>
          have HMn : Hid (∀ c, 0 < c → c < n → (c - 1) / 2 = i → LeO (some z) l2[c]?) := Lib.hid fun c h0 hc hp => by
            rcases (by omega : c = j1 ∨ c = j2) with h9 | h9
            · rw [h9, Hy.out]; exact LeO.lt Hb.out
            · rw [h9, Hz.out]; exact LeO.refl _
          have mL2 := m_less gf v w4 (cell_block HL4.out.box 3)
          have eL2 := enter_less
          have HLe2 := Lib.hid (less_any v l2 j2 i z x w4 HL4.out.row.row Hz.out Hx.out (by omega))
          obtain ⟨b2, Hb2⟩ : ∃ b, Hid (z.less x = b) := ⟨_, Lib.hid rfl⟩
          rw [Hb2.out] at HLe2
          go_wp2_with fail
          refine HLe2.out.mono ?_
          rintro e w5 ⟨rfl, hb5⟩
          have HL5 := Lib.hid (HL4.out.below hb5)
          have HG5 : Hid (w.grownBy w5 v.ownBlock) := Lib.hid (grown_trans HG4.out (below_grown hb5 _))
          clear HLe2 mL2 hb5 HL4 HG4
          cases b2 with
          | false =>
            have HF : Hid (HeapL l2 n) := Lib.hid (HU.out.stop fun c h0 hc hp => by
              rw [Hx.out]
              exact (LeO.of Hb2.out).trans (HMn.out c h0 hc hp))
            clear HU
            go_wp2_with fail
            go_ret
            exact ⟨⟨_, rfl⟩, l2, HL5.out, HP.out, HF.out, Hk.out, HG5.out⟩
          | true =>
            have mS := m_swap gf v w5 (cell_block HL5.out.box 3)
            have eS := enter_swap
            have HSw := Lib.hid (swap_any v l2 i j2 B x z w5 HL5.out.row Hx.out Hz.out)
            have HU' := Lib.hid (HU.out.swap (by omega) (by omega) (by omega) (by omega) Hx.out Hz.out Hb2.out HMn.out)
            have HP' : Hid ((swapL l2 i j2 x z).Perm l) := Lib.hid ((swap_perm Hx.out Hz.out).trans HP.out)
            have Hk' : Hid (SameFrom n (swapL l2 i j2 x z) l) := Lib.hid fun k hk => by
              rw [swap_get Hx.out Hz.out, if_neg (by omega), if_neg (by omega)]
              exact Hk.out k hk
            clear HU HP Hk
            go_wp2_with fail
            refine HSw.out.mono ?_
            rintro e w6 ⟨rfl, ho6, hg6⟩
            have HL6 := Lib.hid (HL5.out.swapped ho6 hg6)
            have HG6 := Lib.hid (grown_trans HG5.out hg6)
            clear HSw mS ho6 hg6 HL5 HG5
            go_wp2_with fail
            go_roundg (n - (j2))
            case measure => omega
            case rel => exact ⟨j2, _, by go_num, rfl, by omega, HL6, HP', HU', Hk', HG6⟩
      · have HMn : Hid (∀ c, 0 < c → c < n → (c - 1) / 2 = i → LeO (some y) l2[c]?) := Lib.hid fun c h0 hc hp => by
          obtain rfl : c = j1 := by omega
          rw [Hy.out]; exact LeO.refl _
        have q3 : ¬ ((j1 : Int) + 1 < (n : Int)) := by omega
        have HL4 := HL
        have HG4 := HG
        clear HL HG
        have mL2 := m_less gf v wr (cell_block HL4.out.box 3)
        have eL2 := enter_less
        have HLe2 := Lib.hid (less_any v l2 j1 i y x wr HL4.out.row.row Hy.out Hx.out (by omega))
        obtain ⟨b2, Hb2⟩ : ∃ b, Hid (y.less x = b) := ⟨_, Lib.hid rfl⟩
        rw [Hb2.out] at HLe2
        go_wp2_with fail
        refine HLe2.out.mono ?_
        rintro e w5 ⟨rfl, hb5⟩
        have HL5 := Lib.hid (HL4.out.below hb5)
        have HG5 : Hid (w.grownBy w5 v.ownBlock) := Lib.hid (grown_trans HG4.out (below_grown hb5 _))
        clear HLe2 mL2 hb5 HL4 HG4
        cases b2 with
        | false =>
          have HF : Hid (HeapL l2 n) := Lib.hid (HU.out.stop fun c h0 hc hp => by
            rw [Hx.out]
            exact (LeO.of Hb2.out).trans (HMn.out c h0 hc hp))
          clear HU
          go_wp2_with fail
          go_ret
          exact ⟨⟨_, rfl⟩, l2, HL5.out, HP.out, HF.out, Hk.out, HG5.out⟩
        | true =>
          have mS := m_swap gf v w5 (cell_block HL5.out.box 3)
          have eS := enter_swap
          have HSw := Lib.hid (swap_any v l2 i j1 B x y w5 HL5.out.row Hx.out Hy.out)
          have HU' := Lib.hid (HU.out.swap (by omega) (by omega) (by omega) (by omega) Hx.out Hy.out Hb2.out HMn.out)
          have HP' : Hid ((swapL l2 i j1 x y).Perm l) := Lib.hid ((swap_perm Hx.out Hy.out).trans HP.out)
          have Hk' : Hid (SameFrom n (swapL l2 i j1 x y) l) := Lib.hid fun k hk => by
            rw [swap_get Hx.out Hy.out, if_neg (by omega), if_neg (by omega)]
            exact Hk.out k hk
          clear HU HP Hk
          go_wp2_with fail
          refine HSw.out.mono ?_
          rintro e w6 ⟨rfl, ho6, hg6⟩
          have HL6 := Lib.hid (HL5.out.swapped ho6 hg6)
          have HG6 := Lib.hid (grown_trans HG5.out hg6)
          clear HSw mS ho6 hg6 HL5 HG5
          go_wp2_with fail
          go_roundg (n - (j1))
          case measure => omega
          case rel => exact ⟨j1, _, by go_num, rfl, by omega, HL6, HP', HU', Hk', HG6⟩
    · have HF : Hid (HeapL l2 n) := Lib.hid (HU.out.stop fun c h0 hc hp => by omega)
      have q1 : (n : Int) ≤ 2 * (i : Int) + 1 := by omega
      clear HU
      go_wp2_with fail
      go_ret
      exact ⟨⟨_, rfl⟩, l2, HL.out, HP.out, HF.out, Hk.out, HG.out⟩
end Go.Proofs.Ytgoapmjcfdbjpaa
namespace Go.Proofs.Ytgoapmjcfdbjpaa
open Go.RowKit
structure HKept (w w' : World) (gf : Nat) (v : Value) : Prop where
  os : w'.os = w.os
  tape : w'.tape = w.tape
  output : w'.output = w.output
  size : w.heap.size ≤ w'.heap.size
  block : ∀ k, k < w.heap.size → k ≠ gf → v.ownBlock ≠ some k → w'.heap[k]? = w.heap[k]?
theorem HKept.of_grown {w w' : World} {gf : Nat} {v : Value} (h : w.grownBy w' v.ownBlock) : HKept w w' gf v := ⟨h.os, h.tape, h.output, h.size, fun k hk _ hv => h.block k hk fun e => hv e.symm⟩
theorem HKept.of_below {w w' : World} {gf : Nat} {v : Value} (h : Below w.heap.size w w') : HKept w w' gf v := ⟨h.os, h.tape, h.output, h.size, fun k hk _ _ => h.block k hk⟩
theorem HKept.of_touch {w w' : World} {gf : Nat} {v : Value} (h : Touch gf w w') : HKept w w' gf v := ⟨h.os, h.tape, h.output, by rw [h.size]; exact Nat.le_refl _, fun k _ hk _ => h.other k hk⟩
theorem HKept.trans {a b c : World} {gf : Nat} {v v' : Value} (h : HKept a b gf v) (k : HKept b c gf v') (hv : ∀ q, v'.ownBlock = some q → v.ownBlock = some q ∨ a.heap.size ≤ q) : HKept a c gf v :=
  ⟨k.os.trans h.os, k.tape.trans h.tape, k.output.trans h.output, Nat.le_trans h.size k.size, fun q hq hg hn => (k.block q (Nat.lt_of_lt_of_le hq h.size) hg fun e => by
    rcases hv q e with h9 | h9
    · exact hn h9
    · omega).trans (h.block q hq hg hn)⟩
theorem Try.infoThing : (Try.prog.info? 75).map (fun i => (i.zero, i.size, i.bytes)) = some (some (.agg #[.int .i64 0, .int .i64 0, .int .i64 0]), 3, 24) := by kernel_rfl
theorem app_thing {w : World} {B : Nat} {V X : Value} {L : List Th} {z : Th} {q : Nat} (h : OwnAt ThR 3 w B 75 V L) (hL : L.length ≤ 1048576)
    (hX : X = .slice (some ⟨q, 0, none⟩) 1 1) (hg : w.heap[q]? = some (.cells #[.int .i64 z.id, .int .i64 z.flow, .int .i64 z.start] 75 (0, 0))) (hB : B ≤ w.heap.size) :
    ∃ v' w', (Builtin.append_ #[71, 71] 71 #[V, X]).run Try.prog w = .ok v' w' ∧ OwnAt ThR 3 w' B 75 v' (L ++ [z]) ∧ w.grownBy w' V.ownBlock ∧ (v'.ownBlock = V.ownBlock ∨ v'.ownBlock = some w.heap.size) := by
  obtain ⟨i0, hi0, hz0, hz1, hz2⟩ := info_parts Try.infoThing
  obtain ⟨v', w', hrun, r1, r2, _, r4⟩ := run_append_ownAt (P := Try.prog) w 71 71 i0 _ 24 Try.underlying71 hi0 hz0 hz1 hz2 rfl (by omega) flat_th one_th V h X (m := [z]) (by rw [hX]; exact RowAt.one hg rfl rfl) (by unfold maxLen; simp; omega) (by simp; omega) hB
  exact ⟨v', w', hrun, r1, r2, r4⟩
theorem assert_thing (x : Value) (w : World) : (Instr.typeAssert (.iface 75 x) 20 75 true).run Try.prog w = .ok (.tuple #[x, .bool true]) w := by
  simp [Instr.typeAssert, run_underlying Try.underlying75]
theorem exec_appendT {P : Program} {a : Act} {o : Oper} {w w3 : World} {s x : Operand} {t : TypeId} {v xv v' : Value} (ho : o.op = .call { callee := .builtin .append, args := #[s, x], argTypes := #[t, t] }) (hs : a.eval s = v) (hx : a.eval x = xv)
    (hrun : (Builtin.append_ #[t, t] o.type #[v, xv]).run P w = .ok v' w3) : (execOp a.eval o).run P w = .ok (.value v') w3 := by
  simp [execOp, ho, resolve, invoke, builtin, hs, hx, hrun, Result.andThen]
theorem own_keepT {w w' : World} {B : Nat} {v : Value} {l : List Th} (h : OwnAt ThR 3 w B 75 v l) (hb : ∀ q, v.ownBlock = some q → w'.heap[q]? = w.heap[q]?) : OwnAt ThR 3 w' B 75 v l := by
  obtain ⟨css, h1, h2, h3, h4⟩ := h
  refine ⟨css, h1, h2, ⟨h3.1, ?_⟩, h4⟩
  rcases h3.2 with h5 | ⟨q, cap, cur, rfl, hB, hh, hr⟩
  · exact .inl h5
  · exact .inr ⟨q, cap, cur, rfl, hB, (hb q rfl).trans hh, hr⟩
set_option maxRecDepth 100000 in
set_option maxHeartbeats 6400000 in
theorem linePush_any {B gf : Nat} {c0 c1 c2 v : Value} (l : List Th) (t : Th) (w : World) (h : LineW w B gf c0 c1 c2 v l) (hl : l.length ≤ 1048575) (hB : B ≤ w.heap.size) :
    Calls Try.prog 90 #[.pointer (some ⟨gf, 3, none⟩), .iface 75 (thV t)] w fun e w' => e = .returned (.tuple #[]) ∧ ∃ v', LineW w' B gf c0 c1 c2 v' (l ++ [t]) ∧ HKept w w' gf v ∧ (v'.ownBlock = v.ownBlock ∨ ∃ q, v'.ownBlock = some q ∧ w.heap.size ≤ q) := by
  obtain ⟨va, vc, hva, -, -⟩ := h.row.row.len
  obtain ⟨vn, hvn⟩ : ∃ n, l.length = n := ⟨_, rfl⟩
  rw [hvn] at hva hl
  subst hva
  have Hvn := Lib.hid hvn
  obtain ⟨w1, hw1⟩ : ∃ z, z = w.alloc (.cells #[.int .i64 t.id, .int .i64 t.flow, .int .i64 t.start] 75) := ⟨_, rfl⟩
  obtain ⟨gt, hgt⟩ : ∃ z, z = w.heap.size := ⟨_, rfl⟩
  have ht1 : w1.heap[gt]? = some (.cells #[.int .i64 t.id, .int .i64 t.flow, .int .i64 t.start] 75 (0, 0)) := by rw [hw1, hgt]; exact heap_alloc_new w _
  have hb1 : Below w.heap.size w w1 := by rw [hw1]; exact (Below.refl _ w).alloc (Nat.le_refl _) _
  have h1 := h.below hb1
  have H1 := Lib.hid h1
  have B1 := Lib.hid h1.box
  have T1 := Lib.hid ht1
  have Hb1 := Lib.hid hb1
  have hne := h1.ne
  have hgl : gf < w1.heap.size := (Array.getElem?_eq_some_iff.1 h1.box).1
  have hgtl : gt < w1.heap.size := (Array.getElem?_eq_some_iff.1 ht1).1
  have hnt : (Value.slice va vn vc).ownBlock ≠ some gt := fun e => by
    have := (h.row.at e).2.1
    omega
  have hB1 : B ≤ w1.heap.size := Nat.le_trans hB hb1.size
  have hgw : gt = w.heap.size := hgt
  have Hgw := Lib.hid hgw
  have Hlt : Hid (∀ q, (Value.slice va vn vc).ownBlock = some q → q < w.heap.size) := Lib.hid fun q hq => (h.row.at hq).2.1
  clear h h1 hvn ht1 hb1 hgw
  unfold thV
  have hta := assert_thing (.agg #[.int .i64 t.id, .int .i64 t.flow, .int .i64 t.start])
  go_enter Try.func90, Try.ntmps90
  go_upto_region 1 with fail
  rw [← hw1]
  try rw [← hgt]
  clear hw1 hgt hta
  go_upto_region 2 with fail
  refine wp_region_relZ 8 (fun w' => w1.grownBy w' (Value.slice va vn vc).ownBlock) (fun jj w' => jj = 6 → OwnAt ThR 3 w' B 75 (.slice va vn vc) l) (fun ii wa wb => wa.grownBy wb (if ii = 6 then (Value.slice va vn vc).ownBlock else none)) (fun jj U w' => match jj with
    | 0 => U 0 = .pointer (some ⟨gf, 3, none⟩)
    | 1 => U 1 = .pointer (some ⟨gf, 3, none⟩)
    | 2 => U 2 = .pointer (some ⟨gf, 3, none⟩)
    | 3 => U 3 = .slice va vn vc
    | 4 => U 4 = .agg #[.int .i64 t.id, .int .i64 t.flow, .int .i64 t.start]
    | 5 => ∃ q, U 5 = .slice (some ⟨q, 0, none⟩) 1 1 ∧ w1.heap.size ≤ q ∧ w'.heap[q]? = some (.cells #[.int .i64 t.id, .int .i64 t.flow, .int .i64 t.start] 75 (0, 0))
    | 6 => OwnAt ThR 3 w' B 75 (U 6) (l ++ [t]) ∧ ((U 6).ownBlock = (Value.slice va vn vc).ownBlock ∨ ∃ q, (U 6).ownBlock = some q ∧ w1.heap.size ≤ q)
    | 7 => U 7 = .pointer (some ⟨gf, 3, none⟩)
    | _ => True)
    (fun | 2 => [1] | 3 => [2] | 5 => [4] | 6 => [3, 5] | 7 => [0] | _ => []) (by kernel_rfl) (by kernel_rfl) (below_grown (below_drewF w1) _) (fun _ _ => H1.out.row.below flat_th.stays (below_drewF w1)) (fun ii wa wb hk hi => ?_) (fun ii jj wa wb hji hk hi h h7 => ?_) (fun ii jj U wa wb hji hk hi h => ?_) ⟨?_, ?_, ?_, ?_, ?_, ?_, ?_, ?_, trivial⟩ ?_
  · by_cases e : ii = 6
    · rw [if_pos e] at hk; exact grown_trans hi hk
    · rw [if_neg e] at hk
      exact grown_trans hi ⟨hk.os, hk.tape, hk.output, hk.size, fun q hq _ => hk.block q hq (by simp)⟩
  · have e : ii ≠ 6 := fun e => hji (h7.trans e.symm)
    rw [if_neg e] at hk
    exact (h h7).below flat_th.stays ⟨hk.os, hk.tape, hk.output, hk.size, fun q hq => hk.block q hq (by simp)⟩
  · by_cases e : ii = 6
    · subst e
      rw [if_pos rfl] at hk
      match jj, hji, h with
      | 0, _, h => exact h
      | 1, _, h => exact h
      | 2, _, h => exact h
      | 3, _, h => exact h
      | 4, _, h => exact h
      | 5, _, h =>
        obtain ⟨q, h1, h2, h3⟩ := h
        exact ⟨q, h1, h2, (hk.block q (Array.getElem?_eq_some_iff.1 h3).1 fun e => by have := Hlt.out q e.symm; have := Hb1.out.size; omega).trans h3⟩
      | 6, hji, _ => exact absurd rfl hji
      | 7, _, h => exact h
      | _ + 8, _, _ => trivial
    · rw [if_neg e] at hk
      have hkb : Below wa.heap.size wa wb := ⟨hk.os, hk.tape, hk.output, hk.size, fun q hq => hk.block q hq (by simp)⟩
      match jj, hji, h with
      | 0, _, h => exact h
      | 1, _, h => exact h
      | 2, _, h => exact h
      | 3, _, h => exact h
      | 4, _, h => exact h
      | 5, _, h =>
        obtain ⟨q, h1, h2, h3⟩ := h
        exact ⟨q, h1, h2, below_block hkb h3⟩
      | 6, _, h => exact ⟨h.1.below flat_th.stays hkb, h.2⟩
      | 7, _, h => exact h
      | _ + 8, _, _ => trivial
  · intro x' w' hb hS hd
    refine owesK_here (.pointer (some ⟨gf, 3, none⟩)) (by rfl) ?_ rfl (World.grownBy.refl _ _)
    clear hS hd
    simp only [putAll, List.take_succ_cons, List.take_zero]
    go_simp
  · intro x' w' hb hS hd
    refine owesK_here (.pointer (some ⟨gf, 3, none⟩)) (by rfl) ?_ rfl (World.grownBy.refl _ _)
    clear hS hd
    simp only [putAll, List.take_succ_cons, List.take_zero]
    go_simp
  · intro x' w' hb hS hd
    have k1 : x' 1 = .pointer (some ⟨gf, 3, none⟩) := hd 1 (by simp)
    refine owesK_here (.pointer (some ⟨gf, 3, none⟩)) (by rfl) ?_ rfl (World.grownBy.refl _ _)
    clear hS hd
    simp only [putAll, List.take_succ_cons, List.take_zero]
    go_simp
  · intro x' w' hb hS hd
    have k2 : x' 2 = .pointer (some ⟨gf, 3, none⟩) := hd 2 (by simp)
    have h9 : w'.heap[gf]? = some (.cells #[c0, c1, c2, .slice va vn vc] 73 (0, 0)) := (hb.block gf hgl fun e => hne e.symm).trans B1.out
    have c9 : w'.cell? ⟨gf, 3, none⟩ = some (.slice va vn vc) := cell_block h9 3
    refine owesK_here (.slice va vn vc) (by rfl) ?_ rfl (World.grownBy.refl _ _)
    clear hS hd
    simp only [putAll, List.take_succ_cons, List.take_zero]
    go_simp
  · intro x' w' hb hS hd
    have h9 : w'.heap[gt]? = some (.cells #[.int .i64 t.id, .int .i64 t.flow, .int .i64 t.start] 75 (0, 0)) := (hb.block gt hgtl fun e => hnt e.symm).trans T1.out
    have c9 := fun z => cell_block h9 z
    refine owesK_here (.agg #[.int .i64 t.id, .int .i64 t.flow, .int .i64 t.start]) (by rfl) ?_ rfl (World.grownBy.refl _ _)
    clear hS hd
    simp only [putAll, List.take_succ_cons, List.take_zero]
    go_simp
  · intro x' w' hb hS hd
    have k4 : x' 4 = .agg #[.int .i64 t.id, .int .i64 t.flow, .int .i64 t.start] := hd 4 (by simp)
    have hsz := hb.size
    refine owesK_makes (w' := w'.alloc (.cells #[.int .i64 t.id, .int .i64 t.flow, .int .i64 t.start] 75)) (.slice (some ⟨w'.heap.size, 0, none⟩) 1 1) (by rfl) ?_ ⟨_, rfl, by omega, heap_alloc_new w' _⟩ (World.grownBy_alloc w' _ _)
    clear hS hd
    simp only [putAll, List.take_succ_cons, List.take_zero]
    rw [k4]
    go_simp
  · intro x' w' hb hS hd
    have k3 : x' 3 = .slice va vn vc := hd 3 (by simp)
    obtain ⟨q, k5, _, hq5⟩ : ∃ q, x' 5 = .slice (some ⟨q, 0, none⟩) 1 1 ∧ w1.heap.size ≤ q ∧ w'.heap[q]? = some (.cells #[.int .i64 t.id, .int .i64 t.flow, .int .i64 t.start] 75 (0, 0)) := hd 5 (by simp)
    have hsz := hb.size
    obtain ⟨v', w3, hrun, q1, q2, q3⟩ := app_thing (X := x' 5) (hS rfl) (by rw [Hvn.out]; omega) k5 hq5 (by omega)
    refine owesK_makes (w' := w3) v' (by rfl) ?_ ⟨q1, q3.imp id fun e => ⟨_, e, hsz⟩⟩ q2
    rw [← k3] at hrun
    clear hb hS hd
    simp only [putAll, List.take_succ_cons, List.take_zero]
    try simp only [Act.put, List.setIfInBounds_toArray, List.set_cons_zero, List.set_cons_succ]
    exact exec_appendT (by rfl) (by rfl) (by rfl) hrun
  · intro x' w' hb hS hd
    have k0 : x' 0 = .pointer (some ⟨gf, 3, none⟩) := hd 0 (by simp)
    refine owesK_here (.pointer (some ⟨gf, 3, none⟩)) (by rfl) ?_ rfl (World.grownBy.refl _ _)
    clear hS hd
    simp only [putAll, List.take_succ_cons, List.take_zero]
    go_simp
  · intro x' w' hb hR
    have k7 : x' 7 = .pointer (some ⟨gf, 3, none⟩) := hR 7 (by omega)
    obtain ⟨k6, kn⟩ : OwnAt ThR 3 w' B 75 (x' 6) (l ++ [t]) ∧ ((x' 6).ownBlock = (Value.slice va vn vc).ownBlock ∨ ∃ q, (x' 6).ownBlock = some q ∧ w1.heap.size ≤ q) := hR 6 (by omega)
    obtain ⟨v9, hv9⟩ : ∃ v9, x' 6 = v9 := ⟨_, rfl⟩
    rw [hv9] at k6 kn
    obtain ⟨ya, yc, hy9, -, -⟩ := k6.row.len
    obtain ⟨yn, hyn⟩ : ∃ z, (l ++ [t]).length = z := ⟨_, rfl⟩
    rw [hyn] at hy9
    subst hy9
    clear hyn
    have hbox : w'.heap[gf]? = some (.cells #[c0, c1, c2, .slice va vn vc] 73 (0, 0)) := (hb.block gf hgl fun e => hne e.symm).trans B1.out
    have Hk : Hid (HKept w w' gf (.slice va vn vc)) := Lib.hid ((HKept.of_below Hb1.out).trans (HKept.of_grown hb) fun q hq => .inl hq)
    have hs1 := Hb1.out.size
    have hs2 := hb.size
    have c9 := fun z => cell_block hbox z
    have f9 := fun z => free_block hbox z
    have tt := touch_setCell (i := 3) (v := .slice ya yn yc) hbox
    have HT := Lib.hid tt
    have K6 := Lib.hid k6
    have Kn := Lib.hid kn
    have hk9 : (Value.slice ya yn yc).ownBlock ≠ some gf := fun e => by
      obtain ⟨_, _, cur, h8⟩ := k6.at e
      rw [hbox] at h8; cases h8
    clear hR hb k6 kn hbox tt
    simp only [putAll, List.take_succ_cons, List.take_zero, List.drop_succ_cons, List.drop_zero]
    rw [k7, hv9]
    clear k7 hv9
    try simp only [Act.put, List.setIfInBounds_toArray, List.set_cons_zero, List.set_cons_succ]
    go_wp2_with fail
    go_end0
    refine ⟨rfl, _, ⟨HT.out.1, own_keepT K6.out fun q hq => HT.out.2.other q fun e => hk9 (by rw [← e]; exact hq)⟩, Hk.out.trans (HKept.of_touch HT.out.2) fun q hq => .inl hq, Kn.out.imp id fun ⟨q, h1, h2⟩ => ⟨q, h1, by omega⟩⟩
end Go.Proofs.Ytgoapmjcfdbjpaa
namespace Go.Proofs.Ytgoapmjcfdbjpaa
open Go.RowKit
theorem own_prefix {w : World} {B g n c : Nat} {l : List Th} (h : OwnAt ThR 3 w B 75 (.slice (some ⟨g, 0, none⟩) n c) l) {k : Nat} (hk : k ≤ l.length) : OwnAt ThR 3 w B 75 (.slice (some ⟨g, 0, none⟩) k c) (l.take k) := by
  have hc : n = l.length ∧ l.length ≤ c := by
    rcases h.form with ⟨h1, _⟩ | ⟨g', c', h1, _, _, h2, _⟩
    · cases h1
    · injection h1 with h3 h4 h5; exact ⟨h4, by omega⟩
  obtain ⟨o4, _⟩ := h.behind flat_th (i := k) (vs := []) hk (by simp; exact Nat.mul_le_mul_right 3 (by omega))
  rw [setCells_nil] at o4
  exact o4
set_option maxRecDepth 100000 in
set_option maxHeartbeats 3200000 in
theorem linePop_any {B gf : Nat} {c0 c1 c2 v : Value} (l : List Th) (x : Th) (w : World) (h : LineW w B gf c0 c1 c2 v (l ++ [x])) (hl : l.length ≤ 1048575) :
    Calls Try.prog 89 #[.pointer (some ⟨gf, 3, none⟩)] w fun e w' => e = .returned (.iface 75 (thV x)) ∧ ∃ v', LineW w' B gf c0 c1 c2 v' l ∧ HKept w w' gf v ∧ v'.ownBlock = v.ownBlock := by
  rcases h.row.form with ⟨_, h0⟩ | ⟨g, c, hv, hB, hg, hc, hm⟩
  · simp at h0
  · obtain ⟨k, hk⟩ : ∃ k, l.length = k := ⟨_, rfl⟩
    rw [List.length_append, hk] at hv hc
    simp only [List.length_cons, List.length_nil] at hv hc
    subst hv
    have hx : (l ++ [x])[k]? = some x := by rw [← hk]; simp
    obtain ⟨b, o, hab, x0, x1, x2⟩ := th_cells h.row.row (by rw [List.length_append, hk]; rfl) hx
    injection hab with hab
    injection hab with k1 k2 k3
    subst k1
    subst k2
    rw [Nat.zero_add] at x0 x1 x2
    have hp := own_prefix h.row (k := k) (by rw [List.length_append]; omega)
    rw [List.take_left' hk] at hp
    obtain ⟨w1, hw1⟩ : ∃ z, z = w.alloc (.cells #[.int .i64 x.id, .int .i64 x.flow, .int .i64 x.start] 75) := ⟨_, rfl⟩
    obtain ⟨gt, hgt⟩ : ∃ z, z = w.heap.size := ⟨_, rfl⟩
    have ht1 : w1.heap[gt]? = some (.cells #[.int .i64 x.id, .int .i64 x.flow, .int .i64 x.start] 75 (0, 0)) := by rw [hw1, hgt]; exact heap_alloc_new w _
    have hb1 : Below w.heap.size w w1 := by rw [hw1]; exact (Below.refl _ w).alloc (Nat.le_refl _) _
    have hbox1 := below_block hb1 h.box
    have tt := touch_setCell (i := 3) (v := .slice (some ⟨g, 0, none⟩) k c) hbox1
    have HT := Lib.hid tt
    have HP : Hid (OwnAt ThR 3 w1 B 75 (.slice (some ⟨g, 0, none⟩) k c) l) := Lib.hid (hp.below flat_th.stays hb1)
    have Hb1 := Lib.hid hb1
    have hne : (Value.slice (some ⟨g, 0, none⟩) k c).ownBlock ≠ some gf := h.ne
    have hgtf : gf ≠ gt := by have := (Array.getElem?_eq_some_iff.1 h.box).1; omega
    have B0 := Lib.hid h.box
    have B1 := Lib.hid hbox1
    have q1 : (0 : Int) ≤ (k : Int) := by omega
    have q2 : (k : Int) < ((k + 1 : Nat) : Int) := by omega
    have q3 : (k : Int) < (k : Int) + 1 := by omega
    have q4 : (k : Int) ≤ (c : Int) := by omega
    have q5 : k ≤ c := by omega
    have w9 : IntKind.i64.wrap ((k : Int) + 1 - 1) = (k : Int) := by rw [show (k : Int) + 1 - 1 = (k : Int) by omega]; exact IntWalk.i64_in _ (by omega)
    have HT1 := Lib.hid ht1
    have cb := fun z => cell_block h.box z
    have cb1 := fun z => cell_block hbox1 z
    have fb1 := fun z => free_block hbox1 z
    clear h hx hp ht1 hb1 tt hbox1
    unfold thV
    go_enter Try.func89, Try.ntmps89
    go_upto_region 3 with fail
    rw [← hw1]
    try rw [← hgt]
    clear hw1 hgt
    go_upto_region 4 with fail
    obtain ⟨w2, hw2⟩ : ∃ z, z = w1.setCell ⟨gf, 3, none⟩ (.slice (some ⟨g, 0, none⟩) k c) := ⟨_, rfl⟩
    rw [← hw2] at HT ⊢
    have ht2 : w2.heap[gt]? = some (.cells #[.int .i64 x.id, .int .i64 x.flow, .int .i64 x.start] 75 (0, 0)) := (HT.out.2.other gt fun e => hgtf e.symm).trans HT1.out
    have cb2 := fun z => cell_block ht2 z
    clear hw2 ht2
    go_wp2_with fail
    go_ret
    refine ⟨rfl, .slice (some ⟨g, 0, none⟩) k c, ⟨HT.out.1, own_keepT HP.out fun q hq => HT.out.2.other q fun e => ?_⟩, (HKept.of_below Hb1.out).trans (HKept.of_touch HT.out.2) fun q hq => .inl hq, rfl⟩
    exact hne (by rw [← e]; exact hq)
end Go.Proofs.Ytgoapmjcfdbjpaa
namespace Go.Proofs.Ytgoapmjcfdbjpaa
open Go.RowKit
theorem HeapL.snoc {l : List Th} (t : Th) (h : HeapL l l.length) : UpInv (l ++ [t]) l.length := by
  refine ⟨fun c h0 hc hne => ?_, fun c h0 hc hp _ => ?_⟩
  · rw [List.length_append] at hc
    simp only [List.length_cons, List.length_nil] at hc
    rw [List.getElem?_append_left (by omega), List.getElem?_append_left (by omega)]
    exact h c h0 (by omega)
  · rw [List.length_append] at hc
    simp only [List.length_cons, List.length_nil] at hc
    omega
theorem HeapL.turned {l : List Th} {n : Nat} {x y : Th} (h : HeapL l (n + 1)) (hx : l[0]? = some x) (hy : l[n]? = some y) : DownInv (swapL l 0 n x y) 0 n := by
  refine ⟨fun c h0 hc hne => ?_, fun h0 => absurd h0 (by omega)⟩
  rw [swap_get hx hy, swap_get hx hy, if_neg (by omega), if_neg (by omega), if_neg (by omega), if_neg (by omega)]
  exact h c h0 (by omega)
theorem HeapL.cut {l : List Th} {x : Th} (h : HeapL (l ++ [x]) l.length) : HeapL l l.length := fun c h0 hc => by
  have h1 := h c h0 hc
  rwa [List.getElem?_append_left (by omega), List.getElem?_append_left (by omega)] at h1
theorem last_split {l : List Th} {n : Nat} {x : Th} (hl : l.length = n + 1) (hx : l[n]? = some x) : ∃ l', l = l' ++ [x] ∧ l'.length = n := by
  refine ⟨l.take n, ?_, by rw [List.length_take]; omega⟩
  apply List.ext_getElem?
  intro i
  by_cases h : i < n
  · rw [List.getElem?_append_left (by rw [List.length_take]; omega), List.getElem?_take_of_lt h]
  · rw [List.getElem?_append_right (by rw [List.length_take]; omega), List.length_take]
    by_cases e : i = n
    · subst e
      rw [hx, show i - min i l.length = 0 by omega]; rfl
    · rw [List.getElem?_eq_none (by omega), List.getElem?_eq_none (by simp; omega)]
set_option maxRecDepth 100000 in
set_option maxHeartbeats 6400000 in
theorem heapPush_any {B gf : Nat} {c0 c1 c2 v : Value} (l : List Th) (t : Th) (w : World) (h : LineW w B gf c0 c1 c2 v l) (hl : l.length ≤ 1048575) (hB : B ≤ w.heap.size) (hh : HeapL l l.length) :
    Calls Try.prog 34 #[.iface 77 (.pointer (some ⟨gf, 3, none⟩)), .iface 75 (thV t)] w fun e w' => e = .returned (.tuple #[]) ∧ ∃ v' l', LineW w' B gf c0 c1 c2 v' l' ∧ l'.Perm (l ++ [t]) ∧ HeapL l' l'.length ∧ HKept w w' gf v ∧ (v'.ownBlock = v.ownBlock ∨ ∃ q, v'.ownBlock = some q ∧ w.heap.size ≤ q) := by
  have mP := m_push gf w
  have eP := enter_push
  have HPu := Lib.hid (linePush_any l t w h hl hB)
  obtain ⟨nl, hnl⟩ : ∃ n, l.length = n := ⟨_, rfl⟩
  have HU := Lib.hid (hh.snoc t)
  have Hnl := Lib.hid hnl
  have hl9 : nl ≤ 1048575 := by omega
  obtain ⟨tv, htv⟩ : ∃ tv, thV t = tv := ⟨_, rfl⟩
  rw [htv] at HPu ⊢
  clear h hh hnl hl htv
  go_enter Try.func34, Try.ntmps34
  go_wp2_with fail
  refine HPu.out.mono ?_
  rintro e w1 ⟨rfl, v1, hL1, hK1, hv1⟩
  have HL1 := Lib.hid hL1
  have HK1 := Lib.hid hK1
  have Hv1 := Lib.hid hv1
  have mL := m_len gf v1 w1 (cell_block hL1.box 3)
  have eL := enter_len
  have HLe := Lib.hid (len_any v1 (l ++ [t]) w1 hL1.row.row)
  have hn9 : (l ++ [t]).length = nl + 1 := by rw [List.length_append, Hnl.out]; rfl
  rw [hn9] at HLe
  have HUp := Lib.hid (up_any (l ++ [t]) l.length w1 hL1 (by rw [hn9, Hnl.out]; omega) (by rw [hn9]; omega) HU.out)
  have w9 : IntKind.i64.wrap (((nl + 1 : Nat) : Int) - 1) = (nl : Int) := by rw [show ((nl + 1 : Nat) : Int) - 1 = (nl : Int) by omega]; exact IntWalk.i64_in _ (by omega)
  have w8 : IntKind.i64.wrap ((nl : Int) + 1 - 1) = (nl : Int) := by rw [show (nl : Int) + 1 - 1 = (nl : Int) by omega]; exact IntWalk.i64_in _ (by omega)
  rw [Hnl.out] at HUp
  clear HPu mP eP hL1 hK1 hv1 hn9
  go_wp2_with fail
  refine HLe.out.mono ?_
  rintro e w2 ⟨rfl, h9⟩
  subst h9
  go_wp2_with fail
  refine HUp.out.mono ?_
  rintro e w3 ⟨rfl, l', hL3, hp3, hh3, hg3⟩
  have HL3 := Lib.hid hL3
  have HF : Hid (l'.Perm (l ++ [t]) ∧ HeapL l' l'.length ∧ HKept w w3 gf v) := Lib.hid ⟨hp3, hh3, HK1.out.trans (HKept.of_grown hg3) fun q hq => by
    rcases Hv1.out with h1 | ⟨q', h1, h2⟩
    · exact .inl (by rw [← h1]; exact hq)
    · rw [h1] at hq; cases hq; exact .inr h2⟩
  clear hL3 hp3 hh3 hg3 HUp HLe mL
  go_wp2_with fail
  go_end0
  exact ⟨rfl, v1, l', HL3.out, HF.out.1, HF.out.2.1, HF.out.2.2, Hv1.out⟩
set_option maxRecDepth 100000 in
set_option maxHeartbeats 6400000 in
theorem heapPop_any {B gf : Nat} {c0 c1 c2 v : Value} (l : List Th) (x : Th) (w : World) (h : LineW w B gf c0 c1 c2 v l) (hl : l.length ≤ 1048576) (hx : l[0]? = some x) (hh : HeapL l l.length) :
    Calls Try.prog 33 #[.iface 77 (.pointer (some ⟨gf, 3, none⟩))] w fun e w' => e = .returned (.iface 75 (thV x)) ∧ ∃ v' l', LineW w' B gf c0 c1 c2 v' l' ∧ (l' ++ [x]).Perm l ∧ HeapL l' l'.length ∧ HKept w w' gf v ∧ v'.ownBlock = v.ownBlock := by
  obtain ⟨n, hn⟩ : ∃ n, l.length = n + 1 := ⟨l.length - 1, by have := (List.getElem?_eq_some_iff.1 hx).1; omega⟩
  obtain ⟨y, hy⟩ : ∃ y, l[n]? = some y := ⟨l[n]'(by omega), List.getElem?_eq_getElem _⟩
  have mL := m_len gf v w (cell_block h.box 3)
  have eL := enter_len
  have HLe := Lib.hid (len_any v l w h.row.row)
  rw [hn] at HLe
  have HSw := Lib.hid (swap_any v l 0 n B x y w h.row hx hy)
  have mS := m_swap gf v w (cell_block h.box 3)
  have eS := enter_swap
  have H := Lib.hid h
  have HD := Lib.hid (HeapL.turned (hn ▸ hh) hx hy)
  have Hx := Lib.hid hx
  have Hy := Lib.hid hy
  have Hn := Lib.hid hn
  have hl9 : n ≤ 1048575 := by omega
  have w9 : IntKind.i64.wrap (((n + 1 : Nat) : Int) - 1) = (n : Int) := by rw [show ((n + 1 : Nat) : Int) - 1 = (n : Int) by omega]; exact IntWalk.i64_in _ (by omega)
  have w8 : IntKind.i64.wrap ((n : Int) + 1 - 1) = (n : Int) := by rw [show (n : Int) + 1 - 1 = (n : Int) by omega]; exact IntWalk.i64_in _ (by omega)
  clear h hh hx hy hn hl
  go_enter Try.func33, Try.ntmps33
  go_wp2_with fail
  refine HLe.out.mono ?_
  rintro e w1 ⟨rfl, h9⟩
  subst h9
  go_wp2_with fail
  refine HSw.out.mono ?_
  rintro e w2 ⟨rfl, ho2, hg2⟩
  have HL2 := Lib.hid (H.out.swapped ho2 hg2)
  have HG2 := Lib.hid hg2
  have hls : (swapL l 0 n x y).length = n + 1 := by rw [swap_len, Hn.out]
  have HDn := Lib.hid (down_any (swapL l 0 n x y) 0 n w2 HL2.out (by omega) (by omega) (by omega) HD.out)
  have Hls := Lib.hid hls
  clear HSw mS ho2 hg2 HLe mL eL eS hls
  go_wp2_with fail
  refine HDn.out.mono ?_
  rintro e w3 ⟨⟨b, rfl⟩, l3, hL3, hp3, hh3, hs3, hg3⟩
  obtain ⟨l', hl', hll⟩ := last_split (l := l3) (n := n) (x := x) (by rw [hp3.length_eq, Hls.out]) (by rw [hs3 n (Nat.le_refl _), swap_get Hx.out Hy.out, if_pos rfl])
  subst hl'
  have mP := m_pop gf w3
  have eP := enter_pop
  have HPo := Lib.hid (linePop_any l' x w3 hL3 (by omega))
  have HF : Hid ((l' ++ [x]).Perm l ∧ HeapL l' l'.length) := Lib.hid ⟨hp3.trans (swap_perm Hx.out Hy.out), (show HeapL (l' ++ [x]) l'.length from hll ▸ hh3).cut⟩
  have HG3 := Lib.hid (grown_trans HG2.out hg3)
  clear HDn hL3 hp3 hh3 hs3 hg3 hll HD HL2 HG2
  go_wp2_with fail
  refine HPo.out.mono ?_
  rintro e w4 ⟨rfl, v', hL4, hK4, hv4⟩
  have H4 : Hid (LineW w4 B gf c0 c1 c2 v' l' ∧ HKept w w4 gf v ∧ v'.ownBlock = v.ownBlock) := Lib.hid ⟨hL4, (HKept.of_grown HG3.out).trans hK4 fun q hq => .inl hq, hv4⟩
  clear HPo hL4 hK4 hv4 mP eP HG3
  go_wp2_with fail
  go_ret
  exact ⟨rfl, v', l', H4.out.1, HF.out.1, HF.out.2, H4.out.2.1, H4.out.2.2⟩
end Go.Proofs.Ytgoapmjcfdbjpaa
namespace Go.Proofs.Ytgoapmjcfdbjpaa
open Go.RowKit
abbrev RI : Rd Int := RInt .i64
theorem flat_int : Flat RI := fun _ _ _ _ h => h
theorem stays_int' : Stays RI := stays_int .i64
def ints (l : List Int) : List Value := l.map fun n => .int .i64 n
def wfI (l : List Int) : Prop := ∀ x ∈ l, (Lit.int .i64 x).wf = true
theorem OwnAt.wfI {w : World} {B : Nat} {e : TypeId} {v : Value} {l : List Int} (h : OwnAt RI 1 w B e v l) : wfI l := fun x hx => by
  obtain ⟨css, h1, h2, h3, h4⟩ := h
  obtain ⟨j, hj⟩ := List.getElem?_of_mem hx
  have hjl := (List.getElem?_eq_some_iff.1 hj).1
  exact (h4 j (css[j]'(by omega)) x (List.getElem?_eq_getElem _) hj).2
theorem ownAt_ints {w : World} {B n : Nat} {e : TypeId} {v : Value} {l : List Int} (h : w.ownsRow B e 1 v n (ints l)) (hn : l.length = n) (hw : wfI l) : OwnAt RI 1 w B e v l := by
  subst hn
  refine ⟨l.map fun x => [.int .i64 x], by simp, fun cs hcs => ?_, ?_, fun j cs x hcs hx => ?_⟩
  · obtain ⟨x, _, rfl⟩ := List.mem_map.1 hcs; rfl
  · have key : ∀ m : List Int, (m.map fun x => [Value.int .i64 x]).flatten = ints m := fun m => by
      induction m with
      | nil => rfl
      | cons y r ih => rw [List.map_cons, List.flatten_cons, ih]; rfl
    rw [key]; exact h
  · simp only [List.getElem?_map, hx, Option.map_some, Option.some.injEq] at hcs
    exact ⟨hcs.symm, hw x (List.mem_of_getElem? hx)⟩
theorem i64_wf {n : Int} (h1 : -9223372036854775808 ≤ n) (h2 : n ≤ 9223372036854775807) : (Lit.int .i64 n).wf = true := by show (decide _ && decide _) = true; rw [Bool.and_eq_true]; exact ⟨decide_eq_true h1, decide_eq_true h2⟩
end Go.Proofs.Ytgoapmjcfdbjpaa
namespace Go.Proofs.Ytgoapmjcfdbjpaa
open Go.RowKit
structure But (g : Nat) (w w' : World) : Prop where
  os : w'.os = w.os
  tape : w'.tape = w.tape
  output : w'.output = w.output
  size : w.heap.size ≤ w'.heap.size
  block : ∀ k, k < w.heap.size → k ≠ g → w'.heap[k]? = w.heap[k]?
theorem But.refl (g : Nat) (w : World) : But g w w := ⟨rfl, rfl, rfl, Nat.le_refl _, fun _ _ _ => rfl⟩
theorem But.trans {g : Nat} {a b c : World} (h : But g a b) (k : But g b c) : But g a c :=
  ⟨k.os.trans h.os, k.tape.trans h.tape, k.output.trans h.output, Nat.le_trans h.size k.size, fun q hq hn => (k.block q (Nat.lt_of_lt_of_le hq h.size) hn).trans (h.block q hq hn)⟩
theorem But.of {g : Nat} {w w' : World} (h : Below w.heap.size w w') : But g w w' := ⟨h.os, h.tape, h.output, h.size, fun k hk _ => h.block k hk⟩
theorem But.touch {g : Nat} {w w' : World} (h : Touch g w w') : But g w w' := ⟨h.os, h.tape, h.output, by rw [h.size]; exact Nat.le_refl _, fun k _ hn => h.other k hn⟩
theorem But.below {g B : Nat} {a w w' : World} (h : But g w w') (hb : Below B a w) (hB : B ≤ w.heap.size) (hg : B ≤ g) : Below B a w' :=
  hb.trans ⟨h.os, h.tape, h.output, h.size, fun k hk => h.block k (by omega) (by omega)⟩
theorem But.keep {g k : Nat} {w w' : World} {x : Obj} (h : But g w w') (hx : w.heap[k]? = some x) (hn : k ≠ g) : w'.heap[k]? = some x := by
  have hb : k < w.heap.size := by
    rcases Nat.lt_or_ge k w.heap.size with h1 | h1
    · exact h1
    · rw [Array.getElem?_eq_none h1] at hx; cases hx
  exact (h.block k hb hn).trans hx
theorem But.cell {g : Nat} {w w' : World} {p : Addr} (h : But g w w') (hp : p.block < w.heap.size) (hn : p.block ≠ g) : w'.cell? p = w.cell? p := by
  unfold World.cell?
  rw [h.block _ hp hn]
section
variable {α : Type} {R : Rd α} {k : Nat} {e : TypeId} {v : Value} {l : List α} {B g : Nat} {w w' : World}
end
end Go.Proofs.Ytgoapmjcfdbjpaa
namespace Go.Proofs.Ytgoapmjcfdbjpaa
open Go.RowKit Go.ChangeMaps Go.MapKept
open Go.WideMaps
open Go.WideElems (Fit rd rg pl rd_val rd_key rg_of rd_mk other_key)
open Go.Maps (Keyed)
structure KeyCode (P : Program) (K : TypeId) (κ : Type) where
  val : κ → Value
  lit : κ → Lit
  ok : κ → Prop
  keyed : Keyed P K
  key : ∀ k, ok k → keyOf P K (val k) = some (lit k)
  back : ∀ {v l}, keyOf P K v = some l → ∃ k, ok k ∧ v = val k ∧ l = lit k
  vinj : ∀ {a b}, val a = val b → a = b
variable {κ : Type}
section
variable {P : Program} {K : TypeId} (C : KeyCode P K κ)
theorem KeyCode.inj {a b : κ} (ha : C.ok a) (hb : C.ok b) (h : C.lit a = C.lit b) : a = b :=
  C.vinj (C.keyed.inj (C.key a ha) (by rw [h]; exact C.key b hb))
theorem KeyCode.isKey {a : κ} (ha : C.ok a) : WideAt.IsKeyLit (C.lit a) := C.keyed.key (C.key a ha)
end
def lookK (D : DataW Value) (k : Lit) : Option Value := if Maps.has D k = true then rawOf (D.atKey k .nil) else none
def MapK {P : Program} {K : TypeId} (C : KeyCode P K κ) (w : World) (b n : Nat) (f : κ → Option Value) : Prop :=
  ∃ D : DataW Value, w.ownsMap P K rawE b n D ∧ (∀ k, C.ok k → f k = lookK D (C.lit k)) ∧ ∀ k, (f k).isSome = true → C.ok k
def delK [DecidableEq κ] (f : κ → Option Value) (k : κ) : κ → Option Value := fun z => if z = k then none else f z
theorem delK_other [DecidableEq κ] (f : κ → Option Value) {k z : κ} (h : z ≠ k) : delK f k z = f z := if_neg h
section
variable {P : Program} {K e t : TypeId} {C : KeyCode P K κ} {w w' : World} {b n : Nat} {f : κ → Option Value}
theorem MapK.mono {n' : Nat} (h : MapK C w b n f) (hn : n ≤ n') : MapK C w b n' f := let ⟨D, h1, h2⟩ := h; ⟨D, h1.mono hn, h2⟩
theorem MapK.lt (h : MapK C w b n f) : b < w.heap.size := let ⟨_, h1, _⟩ := h; h1.lt
theorem MapK.kept {row : Option Nat} (h : MapK C w b n f) (hg : w.grownBy w' row) (hne : some b ≠ row) : MapK C w' b n f := let ⟨D, h1, h2⟩ := h; ⟨D, h1.kept hg hne, h2⟩
theorem MapK.block (h : MapK C w b n f) (hb : w'.heap[b]? = w.heap[b]?) : MapK C w' b n f := by
  obtain ⟨D, ⟨es, clock, h1, h2⟩, h3⟩ := h
  exact ⟨D, ⟨es, clock, hb.trans h1, h2⟩, h3⟩
theorem MapK.below {B : Nat} (h : MapK C w b n f) (hb : Below B w w') (hB : b < B) : MapK C w' b n f := h.block (hb.block b hB)
theorem MapK.belowW (h : MapK C w b n f) (hb : Below w.heap.size w w') : MapK C w' b n f := h.block (hb.block b h.lt)
theorem MapK.alloc (h : MapK C w b n f) (o : Obj) : MapK C (w.alloc o) b n f := let ⟨D, h1, h2⟩ := h; ⟨D, h1.alloc o, h2⟩
theorem MapK.setCell (h : MapK C w b n f) {a : Addr} (ha : b ≠ a.block) (u : Value) : MapK C (w.setCell a u) b n f := let ⟨D, h1, h2⟩ := h; ⟨D, h1.setCell ha u, h2⟩
theorem MapK.isMap (h : MapK C w b n f) : ∃ es clock, w.heap[b]? = some (.map es clock) := let ⟨_, ⟨es, clock, h1, _⟩, _⟩ := h; ⟨es, clock, h1⟩
theorem MapK.ne (h : MapK C w b n f) {g : Nat} {cs : Array Value} {T : TypeId} {fr : Nat × Nat} (hg : w.heap[g]? = some (.cells cs T fr)) : b ≠ g := by
  rintro rfl
  obtain ⟨es, clock, h1⟩ := h.isMap
  rw [h1] at hg; cases hg
theorem MapK.congr {f' : κ → Option Value} (h : MapK C w b n f) (e : ∀ k, f' k = f k) : MapK C w b n f' := by
  rw [show f' = f from funext e]; exact h
theorem lookK_del [DecidableEq κ] (D : DataW Value) {k : κ} (hk : C.ok k) {z : κ} (hz : C.ok z) : lookK (D.del (C.lit k)) (C.lit z) = delK (fun z => lookK D (C.lit z)) k z := by
  unfold delK
  by_cases h9 : z = k
  · subst h9
    rw [if_pos rfl]
    unfold lookK
    rw [Maps.has_del_same]; rfl
  · rw [if_neg h9]
    unfold lookK
    have hne : C.lit z ≠ C.lit k := fun e => h9 (C.inj hz hk e)
    rw [Maps.has_del_other hne, Maps.atKey_del_other hne]
theorem MapK.drop [DecidableEq κ] (h : MapK C w b n f) (ht : P.underlying t = some (.map K e)) (k : κ) (hs : C.ok k) (ty : TypeId) :
    ∃ w', (Builtin.delete_ #[t, K] ty #[.map (some b), C.val k]).run P w = .ok (.tuple #[]) w' ∧ MapK C w' b n (delK f k) ∧ w.mapTurned w' b := by
  obtain ⟨D, h1, h2, h4⟩ := h
  obtain ⟨w', r1, r2, r3⟩ := h1.drop C.keyed ht (C.key k hs) ty
  refine ⟨w', r1, ⟨_, r2, fun z hz => ?_, fun z hz => ?_⟩, r3⟩
  · rw [lookK_del D hs hz]
    unfold delK
    rw [h2 z hz]
  · by_cases h9 : z = k
    · rw [h9]; exact hs
    · rw [delK_other f h9] at hz; exact h4 z hz
theorem MapK.keys (h : MapK C w b n f) : ∃ ks : List κ, ks.Nodup ∧ (∀ k, k ∈ ks ↔ (f k).isSome = true) ∧ ks.length ≤ n ∧ ∀ (t e ty : TypeId), P.underlying t = some (.map K e) → (Builtin.len_ #[t] ty #[.map (some b)]).run P w = .ok (.int .i64 ks.length) w := by
  obtain ⟨D, h1, h2, h4⟩ := h
  obtain ⟨es, hD, hap, hkk⟩ := h1.entries C.keyed
  obtain ⟨ms, clock, hb, F, hs, hD2⟩ := id h1
  have hform : ∀ p ∈ es, ∃ k v, C.ok k ∧ p = (C.lit k, .held v) := fun p hp => by
    have hp2 : p ∈ (ms.toList.map (rg P K rawE)).foldr DataW.insert [] := by
      have := hD.symm.trans hD2
      injection this with this
      rw [← this]; exact hp
    obtain ⟨x, hx, hx2⟩ := List.mem_map.1 (mem_sorted.1 hp2)
    obtain ⟨y, hy⟩ := F.reads x hx
    obtain ⟨k, hk1, hk2, hk3⟩ := C.back (rd_key hy)
    obtain ⟨z, hz, hz2⟩ := rd_val hy
    rw [rg_of hy] at hx2
    refine ⟨k, x.val, hk1, ?_⟩
    rw [← hx2]
    refine Prod.ext hk3 ?_
    rw [hz2]
    unfold rawE at hz
    rw [← Option.some.inj hz]
  have hall : ∃ ks : List κ, (∀ k ∈ ks, C.ok k) ∧ es.map Prod.fst = ks.map C.lit := by
    clear hD hap hkk hD2
    induction es with
    | nil => exact ⟨[], fun _ h => (by cases h), rfl⟩
    | cons p r ih =>
      obtain ⟨k, v, hk, rfl⟩ := hform p (List.mem_cons_self ..)
      obtain ⟨ks, g1, g2⟩ := ih fun p hp => hform p (List.mem_cons_of_mem _ hp)
      refine ⟨k :: ks, fun z hz => ?_, by rw [List.map_cons, List.map_cons, g2]⟩
      rcases List.mem_cons.1 hz with rfl | hz
      · exact hk
      · exact g1 z hz
  obtain ⟨ks, hks, hmap⟩ := hall
  have hlen : ks.length = es.length := by have := congrArg List.length hmap; simpa using this.symm
  refine ⟨ks, ?_, fun k => ?_, ?_, fun t e ty ht => ?_⟩
  · have h9 : (es.map Prod.fst).Pairwise (· ≠ ·) := by rw [List.pairwise_map]; exact hap.imp fun h => h
    rw [hmap, List.pairwise_map] at h9
    rw [List.nodup_iff_pairwise_ne]
    exact h9.imp fun h e => h (by rw [e])
  · have hhas : C.ok k → (Maps.has D (C.lit k) = true ↔ k ∈ ks) := fun hok => by
      rw [hD, Maps.has_eq, List.any_eq_true]
      constructor
      · rintro ⟨p, h1, h2⟩
        have h3 : p.1 = C.lit k := WideAt.sameKey_eq h2
        have h5 : C.lit k ∈ ks.map C.lit := by rw [← hmap, ← h3]; exact List.mem_map.2 ⟨p, h1, rfl⟩
        obtain ⟨z, hz, he⟩ := List.mem_map.1 h5
        rw [← C.inj (hks z hz) hok he]; exact hz
      · intro hm
        have h5 : C.lit k ∈ es.map Prod.fst := by rw [hmap]; exact List.mem_map.2 ⟨k, hm, rfl⟩
        obtain ⟨p, hp, he⟩ := List.mem_map.1 h5
        exact ⟨p, hp, by rw [he]; exact WideAt.sameKey_self (C.isKey hok)⟩
    constructor
    · intro hm
      have hok := hks k hm
      rw [h2 k hok]
      have hh := (hhas hok).2 hm
      have hh2 := hh
      rw [hD] at hh2
      obtain ⟨q, hq, hq2⟩ := atKey_mem hh2
      obtain ⟨k2, v2, _, rfl⟩ := hform q hq
      unfold lookK
      rw [hD, if_pos hh2, hq2]; rfl
    · intro hm
      have hok := h4 k hm
      rw [h2 k hok] at hm
      unfold lookK at hm
      by_cases hh : Maps.has D (C.lit k) = true
      · exact (hhas hok).1 hh
      · rw [if_neg hh] at hm; cases hm
  · rw [hlen]
    have := h1.size_le
    rw [hD, Maps.size_eq] at this
    exact this
  · rw [h1.len ht ty, hD, Maps.size_eq, hlen]
end
end Go.Proofs.Ytgoapmjcfdbjpaa
namespace Go.Proofs.Ytgoapmjcfdbjpaa
open Go.RowKit
abbrev Dom := Nat → Prop
def Agree (D : Dom) (w w' : World) : Prop := ∀ b, D b → w'.heap[b]? = w.heap[b]?
theorem Agree.refl (D : Dom) (w : World) : Agree D w w := fun _ _ => rfl
theorem Agree.trans {D : Dom} {a b c : World} (h : Agree D a b) (k : Agree D b c) : Agree D a c := fun q hq => (k q hq).trans (h q hq)
theorem Agree.mono {D D' : Dom} {w w' : World} (h : Agree D w w') (hd : ∀ b, D' b → D b) : Agree D' w w' := fun b hb => h b (hd b hb)
structure Only (D : Dom) (w w' : World) : Prop where
  os : w'.os = w.os
  tape : w'.tape = w.tape
  output : w'.output = w.output
  size : w.heap.size ≤ w'.heap.size
  block : ∀ k, k < w.heap.size → ¬ D k → w'.heap[k]? = w.heap[k]?
section
variable {D D' E : Dom} {a w w' w'' : World}
theorem Only.refl (D : Dom) (w : World) : Only D w w := ⟨rfl, rfl, rfl, Nat.le_refl _, fun _ _ _ => rfl⟩
theorem Only.trans (h : Only D w w') (k : Only D' w' w'') (hd : ∀ b, D' b → b < w.heap.size → D b) : Only D w w'' :=
  ⟨k.os.trans h.os, k.tape.trans h.tape, k.output.trans h.output, Nat.le_trans h.size k.size, fun q hq hn => (k.block q (Nat.lt_of_lt_of_le hq h.size) fun h9 => hn (hd q h9 hq)).trans (h.block q hq hn)⟩
theorem Only.of (h : Below w.heap.size w w') : Only D w w' := ⟨h.os, h.tape, h.output, h.size, fun k hk _ => h.block k hk⟩
theorem Only.mono (h : Only D w w') (hd : ∀ b, D b → D' b) : Only D' w w' := ⟨h.os, h.tape, h.output, h.size, fun k hk hn => h.block k hk fun h9 => hn (hd k h9)⟩
theorem Only.then (h : Only D w w') (hb : Below w'.heap.size w' w'') : Only D w w'' :=
  ⟨hb.os.trans h.os, hb.tape.trans h.tape, hb.output.trans h.output, Nat.le_trans h.size hb.size, fun k hk hn => (hb.block k (Nat.lt_of_lt_of_le hk h.size)).trans (h.block k hk hn)⟩
theorem Only.after (hb : Below w.heap.size w w') (h : Only D w' w'') : Only D w w'' :=
  ⟨h.os.trans hb.os, h.tape.trans hb.tape, h.output.trans hb.output, Nat.le_trans hb.size h.size, fun k hk hn => (h.block k (Nat.lt_of_lt_of_le hk hb.size) hn).trans (hb.block k hk)⟩
theorem Only.touch {g : Nat} (h : Touch g w w') (hg : D g) : Only D w w' := ⟨h.os, h.tape, h.output, by rw [h.size]; exact Nat.le_refl _, fun k _ hn => h.other k fun e => hn (e ▸ hg)⟩
theorem turned_size {b : Nat} (h : w.mapTurned w' b) : w'.heap.size = w.heap.size := by
  obtain ⟨es, clock, es', clock', hb, rfl⟩ := h
  simp [ChangeMaps.setBlock]
theorem Only.turned {b : Nat} (h : w.mapTurned w' b) (hg : D b) : Only D w w' := by
  have hs := turned_size h
  obtain ⟨es, clock, es', clock', hb, rfl⟩ := h
  exact ⟨rfl, rfl, rfl, by rw [hs]; exact Nat.le_refl _, fun k _ hn => ChangeMaps.heap_setBlock_other hb _ fun e => hn (e ▸ hg)⟩
theorem Only.agree (h : Only D w w') (hE : ∀ b, E b → b < w.heap.size ∧ ¬ D b) : Agree E w w' := fun b hb => h.block b (hE b hb).1 (hE b hb).2
theorem Only.below {B : Nat} (h : Only D w w') (hd : ∀ b, D b → B ≤ b) (hB : B ≤ w.heap.size) : Below B w w' :=
  ⟨h.os, h.tape, h.output, h.size, fun k hk => h.block k (by omega) fun h9 => by have := hd k h9; omega⟩
theorem Only.cell {p : Addr} (h : Only D w w') (hp : p.block < w.heap.size) (hn : ¬ D p.block) : w'.cell? p = w.cell? p := by unfold World.cell?; rw [h.block _ hp hn]
end
structure Fam {α : Type} (X : Dom → World → Rd α) : Prop where
  flat : ∀ D w, Flat (X D w)
  one : ∀ D w, OneR (X D w)
  agree : ∀ (D : Dom) (w w' u : World) (cs : List Value) (x : α), Agree D w w' → X D w u cs x → X D w' u cs x
  mono : ∀ (D D' : Dom) (w u : World) (cs : List Value) (x : α), (∀ b, D b → D' b) → X D w u cs x → X D' w u cs x
def OwnX {α : Type} (X : Dom → World → Rd α) (k : Nat) (D : Dom) (w : World) (e : TypeId) (v : Value) (l : List α) : Prop :=
  OwnAt (X D w) k w 0 e v l ∧ ∀ b, v.ownBlock = some b → D b
section
variable {α β : Type} {X : Dom → World → Rd α} {k : Nat} {D D' : Dom} {w w' : World} {e : TypeId} {v : Value} {l : List α}
theorem OwnAt.imp' {R R' : Rd α} {B : Nat} (h : OwnAt R k w B e v l) (hi : ∀ cs x, x ∈ l → R w cs x → R' w cs x) : OwnAt R' k w B e v l := by
  obtain ⟨css, h1, h2, h3, h4⟩ := h
  exact ⟨css, h1, h2, h3, fun j cs x hcs hx => hi cs x (List.mem_of_getElem? hx) (h4 j cs x hcs hx)⟩
theorem OwnAt.stay {R : Rd α} {B : Nat} (hf : Flat R) (h : OwnAt R k w B e v l) (hb : ∀ b, v.ownBlock = some b → w'.heap[b]? = w.heap[b]?) : OwnAt R k w' B e v l := by
  obtain ⟨css, h1, h2, h3, h4⟩ := h
  refine ⟨css, h1, h2, ⟨h3.1, ?_⟩, fun j cs y hcs hy => hf _ _ _ _ (h4 j cs y hcs hy)⟩
  rcases h3.2 with h5 | ⟨q, cap, cur, rfl, hB, hh, hr⟩
  · exact .inl h5
  · exact .inr ⟨q, cap, cur, rfl, hB, (hb q rfl).trans hh, hr⟩
theorem OwnX.own (h : OwnX X k D w e v l) : OwnAt (X D w) k w 0 e v l := h.1
theorem OwnX.lt (h : OwnX X k D w e v l) {b : Nat} (hb : v.ownBlock = some b) : b < w.heap.size := (h.1.at hb).2.1
theorem OwnX.agree (hX : Fam X) (h : OwnX X k D w e v l) (ha : Agree D w w') : OwnX X k D w' e v l :=
  ⟨(h.1.stay (hX.flat D w) fun b hb => ha b (h.2 b hb)).imp' fun _ _ _ hx => hX.agree _ _ _ _ _ _ ha hx, h.2⟩
theorem OwnX.mono (hX : Fam X) (h : OwnX X k D w e v l) (hd : ∀ b, D b → D' b) : OwnX X k D' w e v l :=
  ⟨h.1.imp' fun _ _ _ hx => hX.mono _ _ _ _ _ _ hd hx, fun b hb => hd b (h.2 b hb)⟩
theorem OwnX.nil : OwnX X k D w e (.slice none 0 0) [] := ⟨OwnAt.nil _, fun b h => by cases h⟩
end
end Go.Proofs.Ytgoapmjcfdbjpaa
namespace Go.Proofs.Ytgoapmjcfdbjpaa
open Go.RowKit
structure FairS where
  ws : List Int
  es : List Int
  now : Int
  l : List Th
structure FairW (w : World) (gf : Nat) (wv ev v : Value) (s : FairS) : Prop where
  line : LineW w 0 gf wv ev (.int .i64 s.now) v s.l
  heap : HeapL s.l s.l.length
  ws : OwnAt RI 1 w 0 3 wv s.ws
  es : OwnAt RI 1 w 0 3 ev s.es
  ne : ∀ q, wv.ownBlock = some q → ev.ownBlock ≠ some q
  len : s.es.length = s.ws.length
def FairB (gf : Nat) (wv ev v : Value) : Dom := fun q => q = gf ∨ wv.ownBlock = some q ∨ ev.ownBlock = some q ∨ v.ownBlock = some q
def FairD (w : World) (gf : Nat) (D : Dom) (s : FairS) : Prop := ∃ wv ev v, FairW w gf wv ev v s ∧ ∀ q, FairB gf wv ev v q → D q
theorem FairW.agree {w w' : World} {gf : Nat} {wv ev v : Value} {s : FairS} (h : FairW w gf wv ev v s) (ha : Agree (FairB gf wv ev v) w w') : FairW w' gf wv ev v s :=
  ⟨⟨(ha gf (.inl rfl)).trans h.line.box, own_keepT h.line.row fun q hq => ha q (.inr (.inr (.inr hq)))⟩, h.heap, h.ws.stay flat_int fun q hq => ha q (.inr (.inl hq)), h.es.stay flat_int fun q hq => ha q (.inr (.inr (.inl hq))), h.ne, h.len⟩
theorem FairD.agree {w w' : World} {gf : Nat} {D : Dom} {s : FairS} (h : FairD w gf D s) (ha : Agree D w w') : FairD w' gf D s := by
  obtain ⟨wv, ev, v, h1, h2⟩ := h
  exact ⟨wv, ev, v, h1.agree (ha.mono h2), h2⟩
theorem FairW.lt {w : World} {gf : Nat} {wv ev v : Value} {s : FairS} (h : FairW w gf wv ev v s) {q : Nat} (hq : FairB gf wv ev v q) : q < w.heap.size := by
  rcases hq with rfl | h1 | h1 | h1
  · exact (Array.getElem?_eq_some_iff.1 h.line.box).1
  · exact (h.ws.at h1).2.1
  · exact (h.es.at h1).2.1
  · exact (h.line.row.at h1).2.1
theorem FairD.mono {w : World} {gf : Nat} {D D' : Dom} {s : FairS} (h : FairD w gf D s) (hd : ∀ b, D b → D' b) : FairD w gf D' s := by
  obtain ⟨wv, ev, v, h1, h2⟩ := h
  exact ⟨wv, ev, v, h1, fun q hq => hd q (h2 q hq)⟩
theorem HKept.only {w w' : World} {gf : Nat} {v : Value} (h : HKept w w' gf v) : Only (fun q => q = gf ∨ v.ownBlock = some q) w w' := ⟨h.os, h.tape, h.output, h.size, fun k hk hn => h.block k hk (fun e => hn (.inl e)) fun e => hn (.inr e)⟩
theorem FairW.neW {w : World} {gf : Nat} {wv ev v : Value} {s : FairS} (h : FairW w gf wv ev v s) {q : Nat} (hq : wv.ownBlock = some q) : q ≠ gf ∧ v.ownBlock ≠ some q := by
  obtain ⟨_, _, cur, h1⟩ := h.ws.at hq
  refine ⟨fun e => ?_, fun e => ?_⟩
  · subst e; rw [h.line.box] at h1; cases h1
  · exact h.ws.other h.line.row (by decide) hq e
theorem FairW.neE {w : World} {gf : Nat} {wv ev v : Value} {s : FairS} (h : FairW w gf wv ev v s) {q : Nat} (hq : ev.ownBlock = some q) : q ≠ gf ∧ v.ownBlock ≠ some q := by
  obtain ⟨_, _, cur, h1⟩ := h.es.at hq
  refine ⟨fun e => ?_, fun e => ?_⟩
  · subst e; rw [h.line.box] at h1; cases h1
  · exact h.es.other h.line.row (by decide) hq e
theorem FairW.lined {w w' : World} {gf : Nat} {wv ev v v' : Value} {s : FairS} {l' : List Th} (h : FairW w gf wv ev v s) (hL : LineW w' 0 gf wv ev (.int .i64 s.now) v' l') (hh : HeapL l' l'.length) (hk : HKept w w' gf v) : FairW w' gf wv ev v' { s with l := l' } :=
  ⟨hL, hh, h.ws.stay flat_int fun q hq => hk.block q (h.ws.at hq).2.1 (h.neW hq).1 (h.neW hq).2, h.es.stay flat_int fun q hq => hk.block q (h.es.at hq).2.1 (h.neE hq).1 (h.neE hq).2, h.ne, h.len⟩
end Go.Proofs.Ytgoapmjcfdbjpaa
namespace Go.Proofs.Ytgoapmjcfdbjpaa
open Go.RowKit
def GS (c : List Int) (i : Nat) : Int := (c.take i).sum
theorem GS_zero (c : List Int) : GS c 0 = 0 := rfl
theorem sum_snoc (l : List Int) (x : Int) : (l ++ [x]).sum = l.sum + x := by
  induction l with
  | nil => simp
  | cons a r ih => rw [List.cons_append, List.sum_cons, ih, List.sum_cons]; omega
theorem GS_succ {c : List Int} {i : Nat} {x : Int} (h : c[i]? = some x) : GS c (i + 1) = GS c i + x := by
  unfold GS
  rw [List.take_add_one, h]
  exact sum_snoc _ _
theorem GS_mono {c : List Int} (hc : ∀ x ∈ c, 1 ≤ x) {i : Nat} : ∀ (k : Nat), i < k → k ≤ c.length → GS c i < GS c k
  | 0, h, _ => by omega
  | k + 1, h, hk => by
    have hx : c[k]? = some (c[k]'(by omega)) := List.getElem?_eq_getElem _
    have h1 := hc _ (List.mem_of_getElem? hx)
    rw [GS_succ hx]
    by_cases e : i = k
    · subst e; omega
    · have := GS_mono hc (i := i) k (by omega) (by omega); omega
theorem GS_nonneg {c : List Int} (hc : ∀ x ∈ c, 1 ≤ x) (i : Nat) (hi : i ≤ c.length) : 0 ≤ GS c i := by
  by_cases e : i = 0
  · subst e; exact Int.le_refl _
  · have := GS_mono hc (i := 0) i (by omega) hi
    rw [GS_zero] at this; omega
theorem GS_le {c : List Int} (hc : ∀ x ∈ c, x ≤ 1000) : ∀ (i : Nat), i ≤ c.length → GS c i ≤ 1000 * i
  | 0, _ => by rw [GS_zero]; omega
  | i + 1, hi => by
    have hx : c[i]? = some (c[i]'(by omega)) := List.getElem?_eq_getElem _
    have h1 := hc _ (List.mem_of_getElem? hx)
    have := GS_le hc i (by omega)
    rw [GS_succ hx]; omega
def thF (f q : Int) (c : List Int) (k : Nat) : Th := ⟨k, f, q * GS c k⟩
def thL (f q : Int) (c : List Int) (i n : Nat) : List Th := (List.range' i (n - i)).map (thF f q c)
theorem thL_cons {f q : Int} {c : List Int} {i n : Nat} (h : i < n) : thL f q c i n = thF f q c i :: thL f q c (i + 1) n := by
  unfold thL
  rw [show n - i = (n - (i + 1)) + 1 by omega, List.range'_succ, List.map_cons]
theorem thL_snoc {f q : Int} {c : List Int} {n : Nat} : thL f q c 0 (n + 1) = thL f q c 0 n ++ [thF f q c n] := by
  unfold thL
  rw [show n + 1 - 0 = n + 1 by omega, List.range'_1_concat, List.map_append, Nat.sub_zero, Nat.zero_add]
  rfl
theorem mem_thL {f q : Int} {c : List Int} {i n : Nat} {x : Th} : x ∈ thL f q c i n ↔ ∃ k, i ≤ k ∧ k < n ∧ x = thF f q c k := by
  unfold thL
  rw [List.mem_map]
  constructor
  · rintro ⟨k, hk, rfl⟩
    have := List.mem_range'_1.1 hk
    exact ⟨k, by omega, by omega, rfl⟩
  · rintro ⟨k, h1, h2, rfl⟩
    exact ⟨k, List.mem_range'_1.2 ⟨h1, by omega⟩, rfl⟩
structure FairK (v w cv cw : Int) (ca cb : List Int) : Prop where
  kv : 1 ≤ v ∧ v ≤ 10
  kw : 1 ≤ w ∧ w ≤ 10
  kcv : v * cv = 2520
  kcw : w * cw = 2520
  kca : ∀ x ∈ ca, 1 ≤ x ∧ x ≤ 1000
  kcb : ∀ x ∈ cb, 1 ≤ x ∧ x ≤ 1000
theorem pos_of {v cv : Int} (hv : 1 ≤ v ∧ v ≤ 10) (h : v * cv = 2520) : 1 ≤ cv ∧ cv ≤ 2520 := by
  obtain ⟨h1, h2⟩ := hv
  have : 0 < cv := by
    rcases Int.lt_or_le 0 cv with h3 | h3
    · exact h3
    · have := Int.mul_nonpos_of_nonneg_of_nonpos (show (0 : Int) ≤ v by omega) h3
      omega
  refine ⟨by omega, ?_⟩
  have := Int.mul_le_mul_of_nonneg_right (show (1 : Int) ≤ v by omega) (show 0 ≤ cv by omega)
  omega
section
variable {v w cv cw : Int} {ca cb : List Int}
theorem FairK.startA (h : FairK v w cv cw ca cb) {i k : Nat} (hik : i < k) (hk : k ≤ ca.length) : cv * GS ca i < cv * GS ca k :=
  Int.mul_lt_mul_of_pos_left (GS_mono (fun x hx => (h.kca x hx).1) k hik hk) (by have := pos_of h.kv h.kcv; omega)
theorem FairK.startB (h : FairK v w cv cw ca cb) {i k : Nat} (hik : i < k) (hk : k ≤ cb.length) : cw * GS cb i < cw * GS cb k :=
  Int.mul_lt_mul_of_pos_left (GS_mono (fun x hx => (h.kcb x hx).1) k hik hk) (by have := pos_of h.kw h.kcw; omega)
theorem FairK.take (h : FairK v w cv cw ca cb) {l l' : List Th} {i j : Nat} {x : Th} (hp : l.Perm (thL 0 cv ca i ca.length ++ thL 1 cw cb j cb.length)) (hx : l[0]? = some x) (hh : HeapL l l.length) (hl : (l' ++ [x]).Perm l) :
    (i < ca.length ∧ x = thF 0 cv ca i ∧ (j < cb.length → cv * GS ca i ≤ cw * GS cb j) ∧ l'.Perm (thL 0 cv ca (i + 1) ca.length ++ thL 1 cw cb j cb.length)) ∨
    (j < cb.length ∧ x = thF 1 cw cb j ∧ (i < ca.length → cw * GS cb j < cv * GS ca i) ∧ l'.Perm (thL 0 cv ca i ca.length ++ thL 1 cw cb (j + 1) cb.length)) := by
  have hmin : ∀ y ∈ thL 0 cv ca i ca.length ++ thL 1 cw cb j cb.length, y.less x = false := fun y hy => by
    obtain ⟨c, hc⟩ := List.getElem?_of_mem ((hp.mem_iff).2 hy)
    exact hh.first (Nat.le_refl _) c (List.getElem?_eq_some_iff.1 hc).1 x y hx hc
  have hxm : x ∈ thL 0 cv ca i ca.length ++ thL 1 cw cb j cb.length := (hp.mem_iff).1 (List.mem_of_getElem? hx)
  have hpp := ((List.perm_append_singleton x l').symm.trans hl).trans hp
  rcases List.mem_append.1 hxm with h1 | h1
  · obtain ⟨k, hk1, hk2, rfl⟩ := mem_thL.1 h1
    have hki : k = i := by
      rcases Nat.lt_or_ge i k with h2 | h2
      · have h3 := hmin (thF 0 cv ca i) (List.mem_append_left _ (mem_thL.2 ⟨i, Nat.le_refl _, by omega, rfl⟩))
        have h4 := h.startA h2 (by omega)
        unfold Th.less thF at h3
        dsimp only at h3
        rw [if_neg (by omega)] at h3
        simp at h3
        omega
      · omega
    subst hki
    refine .inl ⟨hk2, rfl, fun hj => ?_, ?_⟩
    · have h3 := hmin (thF 1 cw cb j) (List.mem_append_right _ (mem_thL.2 ⟨j, Nat.le_refl _, hj, rfl⟩))
      unfold Th.less thF at h3
      dsimp only at h3
      by_cases e : cw * GS cb j = cv * GS ca k
      · omega
      · rw [if_neg e] at h3
        simp at h3
        omega
    · rw [thL_cons hk2, List.cons_append] at hpp
      exact (List.perm_cons _).1 hpp
  · obtain ⟨k, hk1, hk2, rfl⟩ := mem_thL.1 h1
    have hkj : k = j := by
      rcases Nat.lt_or_ge j k with h2 | h2
      · have h3 := hmin (thF 1 cw cb j) (List.mem_append_right _ (mem_thL.2 ⟨j, Nat.le_refl _, by omega, rfl⟩))
        have h4 := h.startB h2 (by omega)
        unfold Th.less thF at h3
        dsimp only at h3
        rw [if_neg (by omega)] at h3
        simp at h3
        omega
      · omega
    subst hkj
    refine .inr ⟨hk2, rfl, fun hi => ?_, ?_⟩
    · have h3 := hmin (thF 0 cv ca i) (List.mem_append_left _ (mem_thL.2 ⟨i, Nat.le_refl _, hi, rfl⟩))
      unfold Th.less thF at h3
      dsimp only at h3
      by_cases e : cv * GS ca i = cw * GS cb k
      · rw [if_pos e] at h3; simp at h3
      · rw [if_neg e] at h3
        simp at h3
        omega
    · rw [thL_cons hk2] at hpp
      exact (List.perm_cons _).1 (hpp.trans List.perm_middle)
theorem cross {v w cv cw ga gb : Int} (hv : 1 ≤ v) (hw : 1 ≤ w) (h1 : v * cv = 2520) (h2 : w * cw = 2520) (h : cv * ga ≤ cw * gb) : ga * w ≤ gb * v := by
  have h3 := Int.mul_le_mul_of_nonneg_left h (show 0 ≤ v * w from Int.mul_nonneg (by omega) (by omega))
  have e1 : v * w * (cv * ga) = v * cv * (ga * w) := by ac_rfl
  have e2 : v * w * (cw * gb) = w * cw * (gb * v) := by ac_rfl
  rw [e1, e2, h1, h2] at h3
  omega
def GapOk (v w ga gb ma mb : Int) : Prop := ga * w - gb * v ≤ ma * w ∧ gb * v - ga * w ≤ mb * v
theorem GapOk.zero {v w ma mb : Int} (hv : 1 ≤ v) (hw : 1 ≤ w) (ha : 0 ≤ ma) (hb : 0 ≤ mb) : GapOk v w 0 0 ma mb := by
  have h1 := Int.mul_nonneg ha (show 0 ≤ w by omega)
  have h2 := Int.mul_nonneg hb (show 0 ≤ v by omega)
  unfold GapOk
  rw [Int.zero_mul, Int.zero_mul]; omega
theorem GapOk.tookA {ga gb ma mb x : Int} (h : FairK v w cv cw ca cb) (hg : GapOk v w ga gb ma mb) (hc : cv * ga ≤ cw * gb) (hx : 1 ≤ x ∧ x ≤ ma) : GapOk v w (ga + x) gb ma mb := by
  have h1 := cross h.kv.1 h.kw.1 h.kcv h.kcw hc
  have h2 := Int.mul_le_mul_of_nonneg_right hx.2 (show 0 ≤ w by have := h.kw; omega)
  have h3 := Int.mul_nonneg (show 0 ≤ x by omega) (show 0 ≤ w by have := h.kw; omega)
  unfold GapOk at hg ⊢
  rw [Int.add_mul]; omega
theorem GapOk.tookB {ga gb ma mb x : Int} (h : FairK v w cv cw ca cb) (hg : GapOk v w ga gb ma mb) (hc : cw * gb ≤ cv * ga) (hx : 1 ≤ x ∧ x ≤ mb) : GapOk v w ga (gb + x) ma mb := by
  have h1 := cross h.kw.1 h.kv.1 h.kcw h.kcv hc
  have h2 := Int.mul_le_mul_of_nonneg_right hx.2 (show 0 ≤ v by have := h.kv; omega)
  have h3 := Int.mul_nonneg (show 0 ≤ x by omega) (show 0 ≤ v by have := h.kv; omega)
  unfold GapOk at hg ⊢
  rw [Int.add_mul]; omega
theorem GapOk.sound {ga gb ma mb : Int} (h : FairK v w cv cw ca cb) (hg : GapOk v w ga gb ma mb) (ha : 0 ≤ ma) (hb : 0 ≤ mb) : ¬ (ma * w + mb * v < ga * w - gb * v) ∧ ¬ (ma * w + mb * v < -(ga * w - gb * v)) := by
  have h1 := Int.mul_nonneg ha (show 0 ≤ w by have := h.kw; omega)
  have h2 := Int.mul_nonneg hb (show 0 ≤ v by have := h.kv; omega)
  unfold GapOk at hg
  omega
end
theorem share {v : Int} (hv : 1 ≤ v ∧ v ≤ 10) : ∃ cv, v * cv = 2520 := by
  have : v = 1 ∨ v = 2 ∨ v = 3 ∨ v = 4 ∨ v = 5 ∨ v = 6 ∨ v = 7 ∨ v = 8 ∨ v = 9 ∨ v = 10 := by omega
  rcases this with rfl | rfl | rfl | rfl | rfl | rfl | rfl | rfl | rfl | rfl
  · exact ⟨2520, rfl⟩
  · exact ⟨1260, rfl⟩
  · exact ⟨840, rfl⟩
  · exact ⟨630, rfl⟩
  · exact ⟨504, rfl⟩
  · exact ⟨420, rfl⟩
  · exact ⟨360, rfl⟩
  · exact ⟨315, rfl⟩
  · exact ⟨280, rfl⟩
  · exact ⟨252, rfl⟩
theorem share_div {v cv c : Int} (hv : 1 ≤ v) (h : v * cv = 2520) : (2520 * c).tdiv v = cv * c := by
  rw [← h, Int.mul_assoc, Int.mul_tdiv_cancel_left _ (by omega)]
end Go.Proofs.Ytgoapmjcfdbjpaa
namespace Go.Proofs.Ytgoapmjcfdbjpaa
open Go.RowKit
set_option maxRecDepth 100000 in
set_option maxHeartbeats 3200000 in
theorem next_none (gf : Nat) (D : Dom) (s : FairS) (w : World) (h : FairD w gf D s) (hl : s.l = []) : Calls Try.prog 18 #[.pointer (some ⟨gf, 0, none⟩)] w fun e w' => e = .returned (.tuple #[.int .i64 0, .int .i64 0, .bool false]) ∧ w = w' := by
  obtain ⟨wv, ev, v, h1, -⟩ := h
  obtain ⟨a, c, hv, -, -⟩ := h1.line.row.row.len
  rw [hl] at hv
  subst hv
  have cb := fun z => cell_block h1.line.box z
  clear h1 hl
  go_enter Try.func18, Try.ntmps18
  go_wp2_with fail
  go_ret3
  exact ⟨rfl, rfl⟩
set_option maxRecDepth 100000 in
set_option maxHeartbeats 6400000 in
theorem next_some (gf : Nat) (D : Dom) (s : FairS) (x : Th) (w : World) (h : FairD w gf D s) (hx : s.l[0]? = some x) (hl : s.l.length ≤ 1048576) : Calls Try.prog 18 #[.pointer (some ⟨gf, 0, none⟩)] w fun e w' =>
    e = .returned (.tuple #[.int .i64 x.id, .int .i64 x.flow, .bool true]) ∧ ∃ l', FairD w' gf D { s with now := x.start, l := l' } ∧ (l' ++ [x]).Perm s.l ∧ Only D w w' := by
  obtain ⟨wv, ev, v, h1, hD⟩ := h
  obtain ⟨a, c, hv, -, -⟩ := h1.line.row.row.len
  obtain ⟨n, hn⟩ : ∃ n, s.l.length = n := ⟨_, rfl⟩
  have hn0 : 0 < n := by rw [← hn]; exact (List.getElem?_eq_some_iff.1 hx).1
  rw [hn] at hv hl
  subst hv
  obtain ⟨b, o, hab, x0, x1, x2⟩ := th_cells h1.line.row.row hn hx
  subst hab
  simp only [Nat.zero_mul, Nat.add_zero] at x0 x1 x2
  have cb := fun z => cell_block h1.line.box z
  have q1 : ((n : Int) == 0) = false := by rw [beq_eq_false_iff_ne]; omega
  have q2 : (0 : Int) < (n : Int) := by omega
  obtain ⟨w1, hw1⟩ : ∃ z, z = w.alloc (.cells #[.int .i64 x.id, .int .i64 x.flow, .int .i64 x.start] 75) := ⟨_, rfl⟩
  obtain ⟨gt, hgt⟩ : ∃ z, z = w.heap.size := ⟨_, rfl⟩
  have ht1 : w1.heap[gt]? = some (.cells #[.int .i64 x.id, .int .i64 x.flow, .int .i64 x.start] 75 (0, 0)) := by rw [hw1, hgt]; exact heap_alloc_new w _
  have hb1 : Below w.heap.size w w1 := by rw [hw1]; exact (Below.refl _ w).alloc (Nat.le_refl _) _
  have hgl : gt < w1.heap.size := (Array.getElem?_eq_some_iff.1 ht1).1
  have hW1 : FairW w1 gf wv ev _ s := h1.agree fun q hq => hb1.block q (h1.lt hq)
  have hlow : ∀ q, FairB gf wv ev (.slice (some ⟨b, o, none⟩) n c) q → q ≠ gt := fun q hq e => by have := h1.lt hq; omega
  have HPo := Lib.hid (heapPop_any s.l x w1 hW1.line (by omega) hx hW1.heap)
  have T1 := Lib.hid ht1
  have HB1 := Lib.hid hb1
  have HW1 := Lib.hid hW1
  have Hlow := Lib.hid hlow
  have HD := Lib.hid hD
  have hgf : gf ≠ gt := hlow gf (.inl rfl)
  clear h1 hD hn hx ht1 hb1 hW1 hlow
  unfold thV at HPo
  go_enter Try.func18, Try.ntmps18
  go_upto_region 4 with fail
  rw [← hw1]
  try rw [← hgt]
  clear hw1 hgt
  go_wp2_with fail
  refine HPo.out.mono ?_
  rintro e w2 ⟨rfl, v', l', hL2, hp2, hh2, hk2, hv2⟩
  have hW2 := HW1.out.lined hL2 hh2 hk2
  have ht2 : w2.heap[gt]? = some (.cells #[.int .i64 x.id, .int .i64 x.flow, .int .i64 x.start] 75 (0, 0)) := (hk2.block gt hgl (fun e => hgf e.symm) fun e => Hlow.out gt (.inr (.inr (.inr e))) rfl).trans T1.out
  have cb2 := fun z => cell_block ht2 z
  have fb2 := fun z => free_block hL2.box z
  have cg2 := fun z => cell_block hL2.box z
  obtain ⟨w3, hw3⟩ : ∃ z, z = w2.setCell ⟨gf, 2, none⟩ (.int .i64 x.start) := ⟨_, rfl⟩
  have tt := touch_setCell (i := 2) (v := .int .i64 x.start) hL2.box
  rw [← hw3] at tt
  have ht3 : w3.heap[gt]? = some (.cells #[.int .i64 x.id, .int .i64 x.flow, .int .i64 x.start] 75 (0, 0)) := (tt.2.other gt fun e => hgf e.symm).trans ht2
  have hW3 : FairW w3 gf wv ev v' { s with now := x.start, l := l' } :=
    ⟨⟨tt.1, own_keepT hW2.line.row fun q hq => tt.2.other q fun e => hW2.line.ne (by rw [← e]; exact hq)⟩, hh2, hW2.ws.stay flat_int fun q hq => tt.2.other q (hW2.neW hq).1, hW2.es.stay flat_int fun q hq => tt.2.other q (hW2.neE hq).1, hW2.ne, hW2.len⟩
  have HF : Hid ((∃ l', FairD w3 gf D { s with now := x.start, l := l' } ∧ (l' ++ [x]).Perm s.l ∧ Only D w w3)) := Lib.hid ⟨l', ⟨wv, ev, v', hW3, fun q hq => HD.out q (by
      rcases hq with h9 | h9 | h9 | h9
      · exact .inl h9
      · exact .inr (.inl h9)
      · exact .inr (.inr (.inl h9))
      · exact .inr (.inr (.inr (by rw [← hv2]; exact h9))))⟩, hp2, (Only.after HB1.out (hk2.only.mono (D' := D) fun q hq => HD.out q (by
      rcases hq with h9 | h9
      · exact .inl h9
      · exact .inr (.inr (.inr h9))))).trans (Only.touch tt.2 (HD.out gf (.inl rfl))) fun q hq _ => hq⟩
  have HT3 := Lib.hid ht3
  clear HPo hL2 hp2 hh2 hk2 hv2 hW2 hW3 ht3 ht2 tt
  go_upto_region 6 with fail
  rw [← hw3]
  have cb3 := fun z => cell_block HT3.out z
  clear hw3 cb2 fb2 cg2
  go_quiet (fail)
  have hbq : Below w3.heap.size w3 (w3.drewN nq) := below_drewT w3 nq
  obtain ⟨w4, hw4⟩ : ∃ z, w3.drewN nq = z := ⟨_, rfl⟩
  rw [hw4] at hbq ⊢
  have HF4 : Hid (∃ l', FairD w4 gf D { s with now := x.start, l := l' } ∧ (l' ++ [x]).Perm s.l ∧ Only D w w4) := Lib.hid (by
    obtain ⟨l', ⟨wv', ev', v', h1, h2⟩, h3, h4⟩ := HF.out
    exact ⟨l', ⟨wv', ev', v', h1.agree fun q hq => hbq.block q (h1.lt hq), h2⟩, h3, h4.then hbq⟩)
  clear hw4 hbq cb3 HF
  go_wp2_with fail
  go_ret3
  exact ⟨rfl, HF4.out⟩
end Go.Proofs.Ytgoapmjcfdbjpaa
namespace Go.Proofs.Ytgoapmjcfdbjpaa
open Go.RowKit
set_option maxRecDepth 100000 in
set_option maxHeartbeats 1600000 in
theorem offer_none (gf : Nat) (D : Dom) (s : FairS) (flow id cost : Int) (w : World) (h : FairD w gf D s) (hf : flow < 0 ∨ (s.ws.length : Int) ≤ flow) : Calls Try.prog 19 #[.pointer (some ⟨gf, 0, none⟩), .int .i64 flow, .int .i64 id, .int .i64 cost] w fun e w' => e = .returned (.int .i64 7) ∧ w = w' := by
  obtain ⟨wv, ev, v, h1, -⟩ := h
  obtain ⟨a, c, hv, -, -⟩ := h1.ws.row.len
  obtain ⟨n, hn⟩ : ∃ n, s.ws.length = n := ⟨_, rfl⟩
  rw [hn] at hv hf
  subst hv
  have cb := fun z => cell_block h1.line.box z
  clear h1 hn
  by_cases h0 : flow < 0
  · clear hf
    go_enter Try.func19, Try.ntmps19
    go_wp2_with fail
    go_ret
    exact ⟨rfl, rfl⟩
  · have h2 : (n : Int) ≤ flow := by omega
    clear hf
    go_enter Try.func19, Try.ntmps19
    go_wp2_with fail
    go_ret
    exact ⟨rfl, rfl⟩
theorem int_cell {w : World} {a : Option Addr} {n c : Nat} {l : List Int} (h : RowAt RI 1 w (.slice a n c) l) (hn : l.length = n) {i : Nat} {x : Int} (hx : l[i]? = some x) : ∃ b o, a = some ⟨b, o, none⟩ ∧ w.cell? ⟨b, o + i, none⟩ = some (.int .i64 x) := by
  have hi : i < l.length := (List.getElem?_eq_some_iff.1 hx).1
  obtain ⟨bb, o, c', hv, _, _, hbs, hcell⟩ := h.form (by omega) (by omega)
  injection hv with u1 u2 u3
  obtain ⟨ds, _, hcc, hds⟩ := hcell i x hx
  have hds' : ds = [.int .i64 x] := hds.1
  subst hds'
  exact ⟨bb, o, u1, by simpa using hcc 0 _ rfl⟩
set_option maxRecDepth 100000 in
set_option maxHeartbeats 6400000 in
theorem offer_ok (gf : Nat) (D : Dom) (s : FairS) (i : Nat) (wt e0 id cost : Int) (w : World) (h : FairD w gf D s) (hw : s.ws[i]? = some wt) (he : s.es[i]? = some e0) (hc0 : ¬ cost < 1) (hc1 : ¬ 1000 < cost) (hl : s.l.length < 64)
    (hwt : 1 ≤ wt ∧ wt ≤ 10) (he0 : 0 ≤ e0 ∧ e0 ≤ 1152921504606846976) (hnow : 0 ≤ s.now ∧ s.now ≤ 1152921504606846976) : Calls Try.prog 19 #[.pointer (some ⟨gf, 0, none⟩), .int .i64 (i : Int), .int .i64 id, .int .i64 cost] w fun e w' => e = .returned (.int .i64 0) ∧
      ∃ l' D', FairD w' gf D' { s with es := s.es.set i (max e0 s.now + (2520 * cost).tdiv wt), l := l' } ∧ l'.Perm (s.l ++ [⟨id, i, max e0 s.now⟩]) ∧ Only D w w' ∧ ∀ q, D' q → D q ∨ w.heap.size ≤ q := by
  obtain ⟨wv, ev, v, h1, hD⟩ := h
  have hiw : i < s.ws.length := (List.getElem?_eq_some_iff.1 hw).1
  rcases h1.ws.form with ⟨_, h0⟩ | ⟨gw, cw, rfl, -, -, -, -⟩
  · rw [h0] at hiw; simp at hiw
  rcases h1.es.form with ⟨_, h0⟩ | ⟨ge, ce, rfl, -, -, -, -⟩
  · rw [← h1.len, h0] at hiw; simp at hiw
  obtain ⟨b, o, hab, x0⟩ := int_cell h1.ws.row rfl hw
  injection hab with hab
  injection hab with k1 k2 k3
  subst k1
  subst k2
  obtain ⟨b, o, hab, y0⟩ := int_cell h1.es.row rfl he
  injection hab with hab
  injection hab with k1 k2 k3
  subst k1
  subst k2
  rw [Nat.zero_add] at x0 y0
  have hlen := h1.len
  obtain ⟨a, c, hv, -, -⟩ := h1.line.row.row.len
  obtain ⟨n, hn⟩ : ∃ n, s.l.length = n := ⟨_, rfl⟩
  rw [hn] at hv hl
  subst hv
  obtain ⟨m, hm⟩ : ∃ m, s.ws.length = m := ⟨_, rfl⟩
  have hce : s.es.length ≤ ce := by
    rcases h1.es.form with ⟨h8, _⟩ | ⟨_, _, h8, _, _, h9, _⟩
    · cases h8
    · injection h8 with _ _ h8; rw [h8]; exact h9
  have tf := (h1.es.there (o := i) (m := 1) (by omega) 0 (by omega)).2
  rw [Nat.add_zero] at tf
  obtain ⟨st, hst⟩ : ∃ z, max e0 s.now = z := ⟨_, rfl⟩
  have hst0 : 0 ≤ st ∧ st ≤ 1152921504606846976 := by omega
  obtain ⟨qt, hqt⟩ : ∃ z, (2520 * cost).tdiv wt = z := ⟨_, rfl⟩
  have hqt0 : 0 ≤ qt ∧ qt ≤ 2520000 := by
    rw [← hqt, Int.tdiv_eq_ediv_of_nonneg (by omega)]
    refine ⟨Int.ediv_nonneg (by omega) (by omega), ?_⟩
    have := Int.ediv_le_self (a := 2520 * cost) wt (by omega)
    omega
  obtain ⟨en, hen⟩ : ∃ z, st + qt = z := ⟨_, rfl⟩
  have hwf : (Lit.int .i64 en).wf = true := by
    have : 0 ≤ en ∧ en ≤ 1152921504609366976 := by omega
    exact i64_wf (by omega) (by omega)
  have u1 : IntKind.i64.wrap (2520 * cost) = 2520 * cost := IntWalk.i64_in _ (by omega)
  have u2 : IntKind.i64.wrap qt = qt := IntWalk.i64_in _ (by omega)
  have u3 : IntKind.i64.wrap en = en := IntWalk.i64_in _ (by omega)
  have u4 : (wt == 0) = false := by rw [beq_eq_false_iff_ne]; omega
  have u5 : ¬ (wt = 0) := by omega
  have u6 : ¬ ((i : Int) < 0) := by omega
  have u7 : ¬ ((m : Int) ≤ (i : Int)) := by omega
  have u8 : (0 : Int) ≤ (i : Int) := by omega
  have u9 : (i : Int) < (m : Int) := by omega
  have u10 : ((n : Int) == 64) = false := by rw [beq_eq_false_iff_ne]; omega
  rw [hlen, hm] at h1
  have cb := fun z => cell_block h1.line.box z
  have HH := Lib.hid h1
  have HD := Lib.hid hD
  have Hst := Lib.hid hst
  have Hqt := Lib.hid hqt
  have Hen := Lib.hid hen
  have Hm := Lib.hid hm
  have Hn := Lib.hid hn
  have Hlen := Lib.hid hlen
  rw [hm] at hiw
  clear h1 hD hw he hce hn hm hlen
  go_enter Try.func19, Try.ntmps19
  go_upto_region 7 with fail
  go_region
  go_upto_region 8 with fail
  go_region
  obtain ⟨s1, s2⟩ := HH.out.es.storeElem flat_int (i := i) (by rw [Hlen.out, Hm.out]; exact hiw) (cs := [.int .i64 en]) rfl (x := en) ⟨rfl, hwf⟩
  rw [Nat.mul_one, show w.setCells ge i [.int .i64 en] = w.setCell ⟨ge, i, none⟩ (.int .i64 en) from rfl] at s1 s2
  obtain ⟨w1, hw1⟩ : ∃ z, w.setCell ⟨ge, i, none⟩ (.int .i64 en) = z := ⟨_, rfl⟩
  rw [hw1] at s1 s2 ⊢
  obtain ⟨w2, hw2⟩ : ∃ z, w1.drew.drew = z := ⟨_, rfl⟩
  have hb2 : Below w1.heap.size w1 w2 := by rw [← hw2]; exact (Below.refl _ _).drew.drew
  rw [hw2]
  have hnE : ∀ {q : Nat}, (Value.slice (some ⟨ge, 0, none⟩) m ce).ownBlock = some q → q = ge := fun hq => by cases hq; rfl
  have hW1 : FairW w1 gf (.slice (some ⟨gw, 0, none⟩) m cw) (.slice (some ⟨ge, 0, none⟩) m ce) (.slice a n c) { s with es := s.es.set i en } :=
    ⟨⟨(s2.other gf (HH.out.neE rfl).1.symm).trans HH.out.line.box, own_keepT HH.out.line.row fun q hq => s2.other q fun e => (HH.out.neE rfl).2 (by rw [← e]; exact hq)⟩, HH.out.heap, HH.out.ws.stay flat_int fun q hq => s2.other q fun e => HH.out.ne q hq (by rw [e]; rfl), s1, HH.out.ne, by rw [List.length_set]; exact HH.out.len⟩
  have hW2 := hW1.agree fun q hq => hb2.block q (hW1.lt hq)
  have hO2 : Only D w w2 := (Only.touch s2 (HD.out ge (.inr (.inr (.inl rfl))))).then hb2
  have HPu := Lib.hid (heapPush_any s.l ⟨id, i, st⟩ w2 hW2.line (by rw [Hn.out]; omega) (Nat.zero_le _) hW2.heap)
  unfold thV at HPu
  have HW2 := Lib.hid hW2
  have HO2 := Lib.hid hO2
  have Hsz : Hid (w.heap.size ≤ w2.heap.size) := Lib.hid (by have := hb2.size; rw [s2.size] at this; exact this)
  have cb2 := fun z => cell_block hW2.line.box z
  clear s1 s2 hw1 hw2 hb2 hW1 hW2 hO2 hnE cb x0 y0 tf
  go_wp2_with fail
  refine HPu.out.mono ?_
  rintro e w3 ⟨rfl, v3, l3, hL3, hp3, hh3, hk3, hv3⟩
  have hW3 := HW2.out.lined hL3 hh3 hk3
  have HF : Hid (∃ l' D', FairD w3 gf D' { s with es := s.es.set i en, l := l' } ∧ l'.Perm (s.l ++ [⟨id, i, st⟩]) ∧ Only D w w3 ∧ ∀ q, D' q → D q ∨ w.heap.size ≤ q) :=
    Lib.hid ⟨l3, _, ⟨_, _, v3, hW3, fun q hq => hq⟩, hp3, HO2.out.trans (hk3.only) fun q hq hlt => by
      rcases hq with h9 | h9
      · exact HD.out q (.inl h9)
      · exact HD.out q (.inr (.inr (.inr h9))), fun q hq => by
      rcases hq with h9 | h9 | h9 | h9
      · exact .inl (HD.out q (.inl h9))
      · exact .inl (HD.out q (.inr (.inl h9)))
      · exact .inl (HD.out q (.inr (.inr (.inl h9))))
      · rcases hv3 with h8 | ⟨q', h8, h7⟩
        · exact .inl (HD.out q (.inr (.inr (.inr (by rw [← h8]; exact h9)))))
        · rw [h8] at h9; cases h9; exact .inr (Nat.le_trans Hsz.out h7)⟩
  clear HPu hL3 hp3 hh3 hk3 hv3 hW3
  go_wp2_with fail
  go_ret
  exact ⟨rfl, by rw [Hst.out, Hqt.out, Hen.out]; exact HF.out⟩
end Go.Proofs.Ytgoapmjcfdbjpaa
namespace Go.Proofs.Ytgoapmjcfdbjpaa
open Go.RowKit
def badW (x : Int) : Bool := decide (x < 1) || decide (10 < x)
theorem enter_bad : ∀ (a : Array Value) (w : World), (callFunc 31 a).run Try.prog w = .ok (.enter 31 a) w := run_callFunc_body Try.func31 (by kernel_rfl) (by kernel_rfl)
set_option maxRecDepth 100000 in
set_option maxHeartbeats 1600000 in
theorem bad_any (x : Int) (w : World) : Calls Try.prog 31 #[.int .i64 x] w fun e w' => e = .returned (.bool (badW x)) ∧ w = w' := by
  by_cases h1 : x < 1
  · have Hb : Hid (badW x = true) := Lib.hid (by unfold badW; simp [h1])
    go_enter Try.func31, Try.ntmps31
    go_wp2_with fail
    go_ret
    exact ⟨by rw [Hb.out]; rfl, rfl⟩
  · by_cases h2 : 10 < x
    · have Hb : Hid (badW x = true) := Lib.hid (by unfold badW; simp [h2])
      go_enter Try.func31, Try.ntmps31
      go_wp2_with fail
      go_ret
      exact ⟨by rw [Hb.out]; rfl, rfl⟩
    · have Hb : Hid (badW x = false) := Lib.hid (by unfold badW; simp [h1, h2])
      go_enter Try.func31, Try.ntmps31
      go_wp2_with fail
      go_ret
      exact ⟨by rw [Hb.out]; rfl, rfl⟩
set_option maxRecDepth 100000 in
set_option maxHeartbeats 1600000 in
theorem badIdx_any (v : Value) (l : List Int) (w : World) (h : RowAt RI 1 w v l) (hl : l.length ≤ 1048576) : Calls Try.prog 43 #[v, .func (.func 31) #[] #[]] w fun e w' => (∃ n : Int, e = .returned (.int .i64 n) ∧ decide (0 ≤ n) = l.any badW) ∧ w = w' := by
  obtain ⟨a1, c1, rfl, _, _⟩ := h.len
  have H := Lib.hid h
  obtain ⟨n, hn⟩ : ∃ n, l.length = n := ⟨_, rfl⟩
  rw [hn] at H hl ⊢
  have Hn := Lib.hid hn
  clear h hn
  have ep := enter_bad
  go_enter Try.func43, Try.ntmps43
  go_wp2_with fail
  go_loopg [8] n (fun g u8 wr => ∃ i : Nat, i + g = n ∧ u8 = .int .i64 (i : Int) ∧ Hid ((l.take i).any badW = false) ∧ w = wr)
  case atStart => exact ⟨0, by omega, rfl, Lib.hid rfl, rfl⟩
  case round =>
    obtain ⟨i, hig, rfl, Hall, rfl⟩ := hrel
    cases gk with
    | zero =>
      obtain rfl : n = i := by omega
      have Hany : Hid (l.any badW = false) := Lib.hid (by have := Hall.out; rwa [List.take_of_length_le (by rw [Hn.out]; exact Nat.le_refl _)] at this)
      go_wp2_with fail
      go_ret
      exact ⟨⟨-1, rfl, by rw [Hany.out]; rfl⟩, rfl⟩
    | succ g =>
      have hil : i < n := by omega
      obtain ⟨x, hxi⟩ : ∃ x, l[i]? = some x := ⟨l[i]'(by rw [Hn.out]; exact hil), List.getElem?_eq_getElem _⟩
      obtain ⟨b, o, hab, x0⟩ := int_cell H.out Hn.out hxi
      subst hab
      have q1 : (0 : Int) ≤ (i : Int) := by omega
      have q2 : (i : Int) < (n : Int) := by omega
      have HC := Lib.hid (bad_any x w)
      have Hxi := Lib.hid hxi
      clear hxi
      obtain ⟨bb, Hbb⟩ : ∃ bb, Hid (badW x = bb) := ⟨_, Lib.hid rfl⟩
      rw [Hbb.out] at HC
      go_wp2_with fail
      refine HC.out.mono ?_
      rintro e w' ⟨rfl, h9⟩
      subst h9
      cases bb with
      | true =>
        have Hany : Hid (l.any badW = true) := Lib.hid (List.any_eq_true.2 ⟨x, List.mem_of_getElem? Hxi.out, Hbb.out⟩)
        clear HC
        go_wp2_with fail
        go_ret
        exact ⟨⟨i, rfl, by rw [Hany.out]; simp⟩, rfl⟩
      | false =>
        have Hall2 : Hid ((l.take (i + 1)).any badW = false) := Lib.hid (by
          rw [List.take_add_one, List.any_append, Hall.out, Hxi.out]
          simp [Hbb.out])
        clear HC
        go_wp2_with fail
        go_roundg g
        case measure => omega
        case rel => exact ⟨i + 1, by omega, by go_num, Hall2, rfl⟩
set_option maxRecDepth 100000 in
set_option maxHeartbeats 1600000 in
theorem badAny_any (v : Value) (l : List Int) (w : World) (h : RowAt RI 1 w v l) (hl : l.length ≤ 1048576) : Calls Try.prog 30 #[v, .func (.func 31) #[] #[]] w fun e w' => e = .returned (.bool (l.any badW)) ∧ w = w' := by
  have H := Lib.hid (badIdx_any v l w h hl)
  clear h
  go_enter Try.func30, Try.ntmps30
  go_wp2_with fail
  refine H.out.mono ?_
  rintro e w' ⟨⟨n, rfl, h1⟩, h9⟩
  subst h9
  have H1 := Lib.hid h1
  clear H h1
  by_cases h2 : 0 ≤ n
  · have h3 : Hid (l.any badW = true) := Lib.hid (by rw [← H1.out]; simp [h2])
    go_wp2_with fail
    go_ret
    exact ⟨by rw [h3.out]; rfl, rfl⟩
  · have h3 : Hid (l.any badW = false) := Lib.hid (by rw [← H1.out]; simp [h2])
    go_wp2_with fail
    go_ret
    exact ⟨by rw [h3.out]; show Ending.returned (.bool (decide (0 ≤ n))) = _; simp [h2], rfl⟩
theorem cloneInt_any (v : Value) (l : List Int) (w : World) (h : RowAt RI 1 w v l) (hw : wfI l) (h0 : l ≠ []) (hl : l.length ≤ 1048576) : Calls Try.prog 32 #[v] w fun e w' => ∃ v', e = .returned v' ∧ OwnAt RI 1 w' w.heap.size 3 v' l ∧ Below w.heap.size w w' := by
  obtain ⟨a, c, rfl, _, _⟩ := h.len
  obtain ⟨x, r, rfl⟩ := List.exists_cons_of_ne_nil h0
  obtain ⟨b, o, rfl, x0⟩ := int_cell (i := 0) h rfl rfl
  refine (Try.slices_Clone_int b o (x :: r).length c (x :: r) w (Nat.le_refl _) (by omega) fun j hj => ?_).mono fun e w' ⟨v', e1, e2, _, e3⟩ => ⟨v', e1, ownAt_ints (n := (x :: r).length) (by rwa [List.take_length] at e2) rfl hw, e3⟩
  have hx : (x :: r)[j]? = some ((x :: r)[j]) := List.getElem?_eq_getElem hj
  obtain ⟨b', o', hab, y0⟩ := int_cell h rfl hx
  injection hab with hab
  injection hab with k1 k2 k3
  subst k1 k2
  rw [y0, List.getD_eq_getElem?_getD, hx]; rfl
theorem made_ints (n : Nat) : (madeCells (Value.int .i64 0).cells (n * 1)).toList = ints (List.replicate n 0) := by
  rw [Nat.mul_one]
  unfold ints madeCells
  rw [List.map_replicate, Array.toList_map]
  apply List.ext_getElem?
  intro i
  rw [List.getElem?_map, List.getElem?_replicate]
  by_cases h : i < n
  · rw [if_pos h, Array.getElem?_toList, Array.getElem?_range, if_pos h]
    show some ((#[Value.int .i64 0] : Array Value)[i % 1]!) = _
    rw [Nat.mod_one]
    rfl
  · rw [if_neg h, Array.getElem?_toList, Array.getElem?_range, if_neg h]; rfl
theorem zero_wf (n : Nat) : wfI (List.replicate n 0) := fun x hx => by rw [(List.mem_replicate.1 hx).2]; rfl
theorem heads_apart {w : World} {B : Nat} {e : TypeId} {v v' : Value} {x y : Int} {l m : List Int} (h : OwnAt RI 1 w B e v (x :: l)) (h' : OwnAt RI 1 w B e v' (y :: m)) (hxy : x ≠ y) : ∀ q, v.ownBlock = some q → v'.ownBlock ≠ some q := fun q hq hq' => by
  rcases h.form with ⟨_, h0⟩ | ⟨g, c, rfl, _⟩
  · cases h0
  rcases h'.form with ⟨_, h0⟩ | ⟨g', c', rfl, _⟩
  · cases h0
  cases hq
  cases hq'
  obtain ⟨b, o, hab, x0⟩ := int_cell (i := 0) h.row rfl rfl
  obtain ⟨b', o', hab', y0⟩ := int_cell (i := 0) h'.row rfl rfl
  injection hab with hab
  injection hab with k1 k2 k3
  subst k1 k2
  injection hab' with hab'
  injection hab' with k1 k2 k3
  subst k1 k2
  rw [x0] at y0
  cases y0
  exact hxy rfl
theorem exec_makeT {P : Program} {a : Act} {o : Oper} {w w3 : World} {x y : Operand} {t : TypeId} {xv yv v : Value} (ho : o.op = .makeSlice t x y) (hx : a.eval x = xv) (hy : a.eval y = yv) (hrun : (Instr.makeSlice t xv yv).run P w = .ok v w3) : (execOp a.eval o).run P w = .ok (.value v) w3 := by
  simp [execOp, ho, hx, hy, hrun, Result.andThen]
set_option maxRecDepth 100000 in
set_option maxHeartbeats 6400000 in
theorem new_ok (v : Value) (l : List Int) (w : World) (h : RowAt RI 1 w v l) (hw : wfI l) (hl : ¬ 8 < l.length) (h0 : l ≠ []) (hb : l.any badW = false) : Calls Try.prog 16 #[v] w fun e w' => ∃ gf, e = .returned (.tuple #[.pointer (some ⟨gf, 0, none⟩), .int .i64 0]) ∧
      FairD w' gf (fun q => w.heap.size ≤ q) ⟨l, List.replicate l.length 0, 0, []⟩ ∧ Below w.heap.size w w' := by
  have HB := Lib.hid (badAny_any v l w h (by omega))
  rw [hb] at HB
  have Hbad := Lib.hid hb
  have H := Lib.hid h
  obtain ⟨a1, c1, rfl, _, _⟩ := h.len
  have hn0 : l.length ≠ 0 := fun e => h0 (List.eq_nil_of_length_eq_zero e)
  obtain ⟨n, hn⟩ : ∃ n, l.length = n := ⟨_, rfl⟩
  rw [hn] at hl HB H hn0 ⊢
  have Hn := Lib.hid hn
  clear h hn hb h0
  have q1 : ¬ (8 : Int) < (n : Int) := by omega
  have q2 : ((n : Int) == 0) = false := by rw [beq_eq_false_iff_ne]; omega
  go_enter Try.func16, Try.ntmps16
  go_wp2_with fail
  refine HB.out.mono ?_
  rintro e w' ⟨rfl, h9⟩
  subst h9
  clear HB
  have hlne : l ≠ [] := fun e => hn0 (by rw [← Hn.out, e]; rfl)
  have Hlne := Lib.hid hlne
  have Hw := Lib.hid hw
  obtain ⟨i0, hi0, hz0, hz1, hz2⟩ := info_parts Try.infoInt
  have HM := Lib.hid (fun (w' : World) => run_makeSlice_full (P := Try.prog) (w := w') w'.heap.size 39 3 i0 _ 1 Try.underlying39 hi0 hz0 hz1 .i64 .i64 n (by omega) (by rw [hz2]; omega) (by unfold maxLen; omega) (Nat.le_refl _))
  clear hi0 hz0 hz1 hz2 hlne hw
  go_upto_region 5 with fail
  refine wp_region_relB 7 (fun jj U w' => match jj with
    | 0 => U 0 = .slice a1 n c1
    | 1 => OwnAt RI 1 w' w.heap.size 3 (U 1) l
    | 2 => U 2 = .slice a1 n c1
    | 3 => U 3 = .int .i64 (n : Int)
    | 4 => OwnAt RI 1 w' w.heap.size 3 (U 4) (List.replicate n 0)
    | 5 => ∃ wv ev, U 5 = .agg #[wv, ev, .int .i64 0, .slice none 0 0] ∧ OwnAt RI 1 w' w.heap.size 3 wv l ∧ OwnAt RI 1 w' w.heap.size 3 ev (List.replicate n 0)
    | 6 => ∃ gf, U 6 = .pointer (some ⟨gf, 0, none⟩) ∧ FairD w' gf (fun q => w.heap.size ≤ q) ⟨l, List.replicate n 0, 0, []⟩
    | _ => True)
    (fun | 1 => [0] | 3 => [2] | 4 => [3] | 5 => [1, 4] | 6 => [5] | _ => []) (by kernel_rfl) (by kernel_rfl) (fun jj U wa wb hb h => ?_) ⟨?_, ?_, ?_, ?_, ?_, ?_, ?_, trivial⟩ ?_
  · match jj, h with
    | 0, h => exact h
    | 1, h => exact h.below stays_int' hb
    | 2, h => exact h
    | 3, h => exact h
    | 4, h => exact h.below stays_int' hb
    | 5, ⟨wv, ev, h1, h2, h3⟩ => exact ⟨wv, ev, h1, h2.below stays_int' hb, h3.below stays_int' hb⟩
    | 6, ⟨gf, h1, wv, ev, v', h2, h3⟩ => exact ⟨gf, h1, wv, ev, v', h2.agree fun q hq => hb.block q (h2.lt hq), h3⟩
    | _ + 7, _ => trivial
  · intro x' w' hb hd
    refine owes_here (.slice a1 n c1) (by rfl) ?_ rfl
    clear hd
    simp only [putAll, List.take_succ_cons, List.take_zero]
    go_simp
  · intro x' w' hb hd
    have h0 : x' 0 = .slice a1 n c1 := hd 0 (by simp)
    have hb2 : Below w.heap.size w w' := ((Below.refl w.heap.size w).drew).trans hb
    refine owes_call 32 #[.slice a1 n c1] (by rfl) ?_ ((cloneInt_any _ l w' (H.out.below stays_int' hb2) Hw.out Hlne.out (by rw [Hn.out]; omega)).mono ?_)
    · clear hd
      simp only [putAll, List.take_succ_cons, List.take_zero]
      go_simp
    · rintro _ w2 ⟨v2, rfl, ho, hb3⟩
      exact ⟨v2, rfl, ho.mono hb.size, hb3⟩
  · intro x' w' hb hd
    refine owes_here (.slice a1 n c1) (by rfl) ?_ rfl
    clear hd
    simp only [putAll, List.take_succ_cons, List.take_zero]
    go_simp
  · intro x' w' hb hd
    have h2 : x' 2 = .slice a1 n c1 := hd 2 (by simp)
    refine owes_here (.int .i64 (n : Int)) (by rfl) ?_ rfl
    clear hd
    simp only [putAll, List.take_succ_cons, List.take_zero]
    go_simp
  · intro x' w' hb hd
    have h3 : x' 3 = .int .i64 (n : Int) := hd 3 (by simp)
    obtain ⟨w3, hrun, hown, hgr⟩ := HM.out w'
    refine owes_makes (w' := w3) (.slice (some ⟨w'.heap.size, 0, none⟩) n n) (by rfl) ?_ (ownAt_ints (n := n) (by rw [made_ints] at hown; exact hown.mono hb.size) (List.length_replicate ..) (zero_wf n)) ⟨hgr.os, hgr.tape, hgr.output, hgr.size, fun k hk => hgr.block k hk (by simp)⟩
    clear hd
    simp only [putAll, List.take_succ_cons, List.take_zero]
    try simp only [Act.put, List.setIfInBounds_toArray, List.set_cons_zero, List.set_cons_succ]
    exact exec_makeT (by rfl) (by show x' 3 = _; exact h3) (by show x' 3 = _; exact h3) hrun
  · intro x' w' hb hd
    have h1 : OwnAt RI 1 w' w.heap.size 3 (x' 1) l := hd 1 (by simp)
    have h4 : OwnAt RI 1 w' w.heap.size 3 (x' 4) (List.replicate n 0) := hd 4 (by simp)
    refine owes_here (.agg #[x' 1, x' 4, .int .i64 0, .slice none 0 0]) (by rfl) ?_ ⟨_, _, rfl, h1, h4⟩
    obtain ⟨z1, z2, z3, -, -⟩ := h1.row.len
    obtain ⟨y1, y2, y3, -, -⟩ := h4.row.len
    clear hd h1 h4
    simp only [putAll, List.take_succ_cons, List.take_zero]
    rw [show x' (0 + 1) = _ from z3, show x' (0 + 1 + 1 + 1 + 1) = _ from y3]
    go_simp
  · intro x' w' hb hd
    obtain ⟨wv, ev, h5, h1, h4⟩ : ∃ wv ev, x' 5 = .agg #[wv, ev, .int .i64 0, .slice none 0 0] ∧ OwnAt RI 1 w' w.heap.size 3 wv l ∧ OwnAt RI 1 w' w.heap.size 3 ev (List.replicate n 0) := hd 5 (by simp)
    have hnb := hb.size
    have hB6 : Below w'.heap.size w' (w'.alloc (.cells #[wv, ev, .int .i64 0, .slice none 0 0] 73)) := (Below.refl _ w').alloc (Nat.le_refl _) _
    have hap : ∀ q, wv.ownBlock = some q → ev.ownBlock ≠ some q := by
      obtain ⟨x, r, hr⟩ := List.exists_cons_of_ne_nil Hlne.out
      obtain ⟨n', hn'⟩ : ∃ n', n = n' + 1 := ⟨n - 1, by omega⟩
      rw [hn', List.replicate_succ] at h4
      rw [hr] at h1
      refine heads_apart h1 h4 fun e => ?_
      have := List.any_eq_false.1 Hbad.out x (by rw [hr]; exact List.mem_cons_self ..)
      rw [e] at this
      exact this rfl
    refine owes_makes (w' := w'.alloc (.cells #[wv, ev, .int .i64 0, .slice none 0 0] 73)) (.pointer (some ⟨w'.heap.size, 0, none⟩)) (by rfl) ?_ ⟨_, rfl, wv, ev, .slice none 0 0, ⟨⟨heap_alloc_new w' _, OwnAt.nil _⟩, fun c h0 hc => absurd hc (Nat.not_lt_zero c), (h1.mono (Nat.zero_le _)).below stays_int' hB6, (h4.mono (Nat.zero_le _)).below stays_int' hB6, hap, by show (List.replicate n (0 : Int)).length = l.length; rw [List.length_replicate, Hn.out]⟩, fun q hq => ?_⟩ hB6
    · clear hd
      simp only [putAll, List.take_succ_cons, List.take_zero]
      rw [show x' (0 + 1 + 1 + 1 + 1 + 1) = _ from h5]
      go_simp
    · rcases hq with rfl | h9 | h9 | h9
      · exact hb.size
      · exact (h1.at h9).1
      · exact (h4.at h9).1
      · cases h9
  · intro x' w' hb hR
    obtain ⟨gf, h6, hF⟩ : ∃ gf, x' 6 = .pointer (some ⟨gf, 0, none⟩) ∧ FairD w' gf (fun q => w.heap.size ≤ q) ⟨l, List.replicate n 0, 0, []⟩ := hR 6 (by omega)
    have HF := Lib.hid hF
    have HB2 : Hid (Below w.heap.size w w') := Lib.hid (((Below.refl w.heap.size w).drew).trans hb)
    clear hR hb hF
    simp only [putAll, List.take_succ_cons, List.take_zero, List.drop_succ_cons, List.drop_zero]
    rw [show x' (0 + 1 + 1 + 1 + 1 + 1 + 1) = _ from h6]
    clear h6
    try simp only [Act.put, List.setIfInBounds_toArray, List.set_cons_zero, List.set_cons_succ]
    go_wp2_with fail
    go_ret2
    exact ⟨gf, rfl, HF.out, HB2.out⟩
end Go.Proofs.Ytgoapmjcfdbjpaa
namespace Go.Proofs.Ytgoapmjcfdbjpaa
open Go.RowKit
def restOf (a b : Int) : Int := if a.tmod b < 0 then a.tmod b + b else a.tmod b
theorem restOf_in {a b : Int} (hb : 0 < b) : 0 ≤ restOf a b ∧ restOf a b < b := by
  have h1 := Int.tmod_lt_of_pos a hb
  have h2 : -b < a.tmod b := by
    have := Int.lt_tmod_of_pos a hb
    omega
  unfold restOf
  split <;> omega
theorem rest_any (a b : Int) (w : World) (hb : 0 < b) (hb2 : b ≤ 1073741824) : Calls Try.prog 13 #[.int .i64 a, .int .i64 b] w fun e w' => e = .returned (.int .i64 (restOf a b)) ∧ w = w' := by
  have h1 := Int.tmod_lt_of_pos a hb
  have h2 : -b < a.tmod b := by
    have := Int.lt_tmod_of_pos a hb
    omega
  have hb0 : (b == 0) = false := by rw [beq_eq_false_iff_ne]; omega
  by_cases h : a.tmod b < 0
  · have hr : restOf a b = a.tmod b + b := by unfold restOf; rw [if_pos h]
    have Hr := Lib.hid hr
    have q1 : IntKind.i64.wrap (a.tmod b) = a.tmod b := IntWalk.i64_in _ (by omega)
    have q2 : IntKind.i64.wrap (a.tmod b + b) = a.tmod b + b := IntWalk.i64_in _ (by omega)
    clear hr
    go_enter Try.func13, Try.ntmps13
    go_wp2_with fail
    go_ret
    exact ⟨congrArg (fun x => Ending.returned (Value.int .i64 x)) Hr.out.symm, rfl⟩
  · have hr : restOf a b = a.tmod b := by unfold restOf; rw [if_neg h]
    have Hr := Lib.hid hr
    have q1 : IntKind.i64.wrap (a.tmod b) = a.tmod b := IntWalk.i64_in _ (by omega)
    clear hr
    go_enter Try.func13, Try.ntmps13
    go_wp2_with fail
    go_ret
    exact ⟨congrArg (fun x => Ending.returned (Value.int .i64 x)) Hr.out.symm, rfl⟩
end Go.Proofs.Ytgoapmjcfdbjpaa
