/- Texts of ours joined. -/
import Derived.Test.YtdcmnpeabjallaaGreatDoorMz7
set_option linter.unusedVariables false
set_option linter.unusedSimpArgs false
namespace Go.Proofs.YtdcmnpeabjallaaGreatDoor
open Go
section
variable {P : Program} {ops : Array Oper} {md : Region.Mode}
theorem wpAny_relZ {n g : Nat} {hs : List Oper} {a0 : Act} {I : World → Prop} {S : Nat → World → Prop} {R : Nat → (Nat → Value) → World → Prop} {deps kills : Nat → List Nat} {Q : Exit → Act → World → Prop}
    (hops : ∀ j, j < n → hs[j]? = ops[j]?) (hn : n < ops.size) (hap : apartDsts hs)
    (hs1 : Region.sinkB md ops n = true) (hc1 : Region.chainB md ops n = true)
    (hback : ∀ i o, ops[i]? = some o → ∀ e ∈ o.after, Region.binds md e = true → e.on < i)
    (hdeps : ∀ i o, hs[i]? = some o → ∀ j ∈ deps i, j < n ∧ ∃ e ∈ o.after, Region.binds md e = true ∧ (e.on = j ∨ (e.on < i ∧ j ∈ deps e.on)))
    (hkill : ∀ i o, hs[i]? = some o → ∀ d ∈ deps i, ∀ i' ∈ kills d, i' = i ∨ ∃ o', ops[i']? = some o' ∧ ∃ e ∈ o'.after, Region.binds md e = true ∧ e.on = i)
    (hloc : ∀ j u u' w, (∀ k, (k = j ∨ k ∈ deps j) → u k = u' k) → R j u w → R j u' w)
    (obl : ∀ i o, hs[i]? = some o → ∀ (u : Nat → Value) w, I w → S i w → (∀ j ∈ deps i, R j u w) →
      (Region.wanted o (yielded ops (putAll hs u 0 a0).tmps) = true ∧ gives P (fun v w' => R i (upd u i v) w' ∧ I w' ∧ (∀ j u, j ≠ i → i ∉ kills j → R j u w → R j u w') ∧ (∀ j, j ≠ i → S j w → S j w')) ((execOp (putAll hs u 0 a0).eval o).run P w)) ∨
      (Region.wanted o (yielded ops (putAll hs u 0 a0).tmps) = false ∧ R i (upd u i undef) w))
    (hend : ∀ (u : Nat → Value) w, I w → (∀ j, j < n → kills j = [] → R j u w) → wpAny P md ops Q g (canon n ops.size) (putAll hs u 0 a0) w) :
    ∀ (f : Nat) (listed : Array Bool) (u : Nat → Value) (w : World), unl listed n = f → HeadInv md ops n listed → I w → (∀ j, j < n → listed.getD j false = true → (∀ i ∈ kills j, listed.getD i false = false) → R j u w) → (∀ j, j < n → listed.getD j false = false → S j w) →
      wpAny P md ops Q (f + g) listed (putAll hs u 0 a0) w := by
  have clos : ∀ (listed : Array Bool), HeadInv md ops n listed → ∀ (m j : Nat), j < n → j ≤ m → listed.getD j false = true → ∀ d ∈ deps j, listed.getD d false = true := by
    intro listed inv m
    induction m with
    | zero =>
      intro j hjn hjm hl d hd
      have hj0 : j = 0 := by omega
      subst hj0
      have hoj : ops[0]? = some (ops[0]'(by omega)) := by simp [show 0 < ops.size by omega]
      obtain ⟨_, e, he, hb, hon⟩ := hdeps 0 _ ((hops 0 hjn).trans hoj) d hd
      have h1 := inv.closed 0 _ hoj hl e he hb
      rcases hon with h2 | ⟨h2, _⟩
      · rw [← h2]; exact h1
      · omega
    | succ m ihm =>
      intro j hjn hjm hl d hd
      have hoj : ops[j]? = some (ops[j]'(by omega)) := by simp [show j < ops.size by omega]
      obtain ⟨_, e, he, hb, hon⟩ := hdeps j _ ((hops j hjn).trans hoj) d hd
      have h1 := inv.closed j _ hoj hl e he hb
      rcases hon with h2 | ⟨h2, h3⟩
      · rw [← h2]; exact h1
      · exact ihm e.on (by omega) (by omega) h1 d h3
  intro f
  induction f with
  | zero =>
    intro listed u w hf inv hI hR hS
    rw [Nat.zero_add, eq_canon inv hf]
    refine hend u w hI fun j hj hk0 => hR j hj (getD_false (by rw [inv.size]; omega) (unl_zero hf j hj)) (fun i hi => by rw [hk0] at hi; cases hi)
  | succ f ih =>
    intro listed u w hf inv hI hR hS
    obtain ⟨k, hk, hku, hkr⟩ := ready_ex inv hback (by omega) (by omega)
    rw [show f + 1 + g = (f + g) + 1 by omega]
    refine ⟨fun h => (by rw [h] at hkr; cases hkr), fun i hi => ?_⟩
    have hin : i < n := by
      rcases Nat.lt_or_ge i n with h | h
      · exact h
      · exact absurd hi (tail_waits hs1 hc1 hn inv _ k rfl hk hku i h)
    obtain ⟨hiu, o, ho, hall⟩ := mem_ready.1 hi
    have ho' : hs[i]? = some o := (hops i hin).trans ho
    have hRd : ∀ j ∈ deps i, R j u w := fun j hj => by
      obtain ⟨hjn, e, he, hb, hon⟩ := hdeps i o ho' j hj
      refine hR j hjn (by rcases hon with h2 | ⟨h2, h3⟩; · rw [← h2]; exact hall e he hb
                          · exact clos listed inv e.on e.on (by omega) (Nat.le_refl _) (hall e he hb) j h3) fun i' hi' => ?_
      rcases hkill i o ho' j hj i' hi' with rfl | ⟨o', ho2, e', he', hb', hon'⟩
      · exact getD_both hiu
      · cases hl : listed.getD i' false with
        | false => rfl
        | true =>
          have h1 := inv.closed i' o' ho2 hl e' he' hb'
          rw [hon', getD_both hiu] at h1
          cases h1
    have next : ∀ v w', R i (upd u i v) w' → I w' → (∀ j u, j ≠ i → i ∉ kills j → R j u w → R j u w') → (∀ j, j ≠ i → S j w → S j w') → wpAny P md ops Q (f + g) (listed.setIfInBounds i true) ((putAll hs u 0 a0).put o.dst v) w' := fun v w' hv hI' hst hsS => by
      rw [putAll_set hs u 0 i a0 o v hap ho']
      have hil : i < listed.size := by rw [inv.size]; omega
      refine ih _ _ w' (by have := unl_set hin hiu hil; omega) (inv.set hi hin) hI' (fun j hj hl hal => ?_) fun j hj hl => by
        by_cases hji : j = i
        · subst hji
          have : (listed.setIfInBounds j true).getD j false = true := by simp [Array.getD, hil]
          rw [this] at hl; cases hl
        · exact hsS j hji (hS j hj (by rwa [getD_set_ne false (fun h => hji h.symm)] at hl))
      have hup : (fun j => if j = 0 + i then v else u j) = upd u i v := by funext j; simp [upd]
      rw [hup]
      by_cases hji : j = i
      · subst hji; exact hv
      · rw [getD_set_ne false (fun h => hji h.symm)] at hl
        have hik : i ∉ kills j := fun hik => by
          have h1 := hal i hik
          have hil2 : i < listed.size := hil
          have : (listed.setIfInBounds i true).getD i false = true := by simp [Array.getD, hil2]
          rw [this] at h1
          cases h1
        refine hloc j u _ w' (fun q hq => ?_) (hst _ _ hji hik (hR j hj hl (fun i' hi' => by
          have h1 := hal i' hi'
          by_cases hii : i' = i
          · subst hii; exact absurd hi' hik
          · rwa [getD_set_ne false (fun h => hii h.symm)] at h1)))
        unfold upd
        rw [if_neg ?_]
        rintro rfl
        rcases hq with rfl | hq
        · exact hji rfl
        · have h1 := clos listed inv j j hj (Nat.le_refl _) hl q hq
          rw [getD_both hiu] at h1
          cases h1
    unfold wpOp
    simp only [ho]
    rcases obl i o ho' u w hI (hS i hin (getD_both hiu)) hRd with ⟨hw, hg⟩ | ⟨hw, hv⟩
    · rw [if_pos hw]
      refine .inl ?_
      unfold Oper.wp
      exact gives_upon (R := fun v w' => R i (upd u i v) w' ∧ I w' ∧ (∀ j u, j ≠ i → i ∉ kills j → R j u w → R j u w') ∧ ∀ j, j ≠ i → S j w → S j w') (fun v w' h => next v w' h.1 h.2.1 h.2.2.1 h.2.2.2) hg
    · rw [if_neg (by rw [hw]; simp)]
      exact next undef w hv hI (fun _ _ _ _ h => h) (fun _ _ h => h)
theorem wp_region_relZr {id : Nat} {Q : Exit → Act → World → Prop} {a : Act} {w : World} {l : List Oper} (n : Nat) (I : World → Prop) (S : Nat → World → Prop) (R : Nat → (Nat → Value) → World → Prop) (deps kills : Nat → List Nat)
    (hm : P.follows .mixedOrders = true) (hB : relYB .any l n deps kills = true) (hloc : ∀ j u u' w, (∀ k, (k = j ∨ k ∈ deps j) → u k = u' k) → R j u w → R j u' w) (hI : I w.drew) (hS0 : ∀ j, S j w.drew)
    (obl : ∀ i o, (l.take n)[i]? = some o → ∀ (u : Nat → Value) w, I w → S i w → (∀ j ∈ deps i, R j u w) →
      (Region.wanted o (yielded l.toArray (putAll (l.take n) u 0 a).tmps) = true ∧ gives P (fun v w' => R i (upd u i v) w' ∧ I w' ∧ (∀ j u, j ≠ i → i ∉ kills j → R j u w → R j u w') ∧ (∀ j, j ≠ i → S j w → S j w')) ((execOp (putAll (l.take n) u 0 a).eval o).run P w)) ∨
      (Region.wanted o (yielded l.toArray (putAll (l.take n) u 0 a).tmps) = false ∧ R i (upd u i undef) w))
    (htail : ∀ (u : Nat → Value) w, I w → (∀ j, j < n → kills j = [] → R j u w) → wpList P l.toArray Q (l.drop n) (putAll (l.take n) u 0 a) w) : (Code.region id l.toArray true).wp P Q a w := by
  simp only [relYB, Bool.and_eq_true, decide_eq_true_eq, List.all_eq_true, List.mem_range] at hB
  obtain ⟨⟨⟨⟨⟨⟨⟨hn, hs1⟩, hc1⟩, hback⟩, hap⟩, hdeps⟩, hseq⟩, hkl⟩ := hB
  have hsz : l.toArray.size = l.length := by simp
  refine wp_region_any hm ?_
  have hown : putAll (l.take n) (fun j => slotOf a (((l.take n)[j]?).bind (·.dst))) 0 a = a := putAll_own _ 0 a _ fun j o ho => by simp only [Nat.zero_add]; rw [ho]; rfl
  have hu0 : unl (Array.replicate l.toArray.size false) n = n := by
    have key : ∀ m, m ≤ l.length → unl (Array.replicate l.toArray.size false) m = m := by
      intro m
      induction m with
      | zero => intro _; rfl
      | succ m ih =>
        intro h
        unfold unl
        rw [ih (by omega), if_neg (by simp [Array.getD, show m < l.length by omega])]
    exact key n (by omega)
  have inv0 : HeadInv .any l.toArray n (Array.replicate l.toArray.size false) :=
    ⟨by simp, fun j oj _ hl => (by rw [getD_replicate_false] at hl; cases hl), fun t _ ht => getD_in (by simpa using ht) (getD_replicate_false _ _)⟩
  have H := wpAny_relZ (P := P) (ops := l.toArray) (md := .any) (n := n) (g := l.length - n) (hs := l.take n) (a0 := a) (I := I) (S := S) (R := R) (deps := deps) (kills := kills) (Q := Q)
    (fun j hj => by simp [List.getElem?_take_of_lt hj]) (by simpa using hn)
    (List.pairwise_iff_getElem.2 fun i j hi hj hij d hd => by
      have hi' : i < l.length := by simp at hi; omega
      have hj' : j < l.length := by simp at hj; omega
      have hjn : j < n := by simp at hj; omega
      have := hap j hjn i hij
      rw [List.getElem?_eq_getElem hj', List.getElem?_eq_getElem hi'] at this
      simp only [List.getElem_take] at hd ⊢
      simp only [hd] at this
      simpa using this)
    hs1 hc1
    (fun i o ho e he hb => by
      have ho' : l[i]? = some o := by simpa using ho
      have hil : i < l.length := (List.getElem?_eq_some_iff.1 ho').1
      have := hback i hil
      rw [ho'] at this
      have := Array.all_eq_true'.1 this e he
      simpa [hb] using this)
    (fun i o ho j hj => by
      have hin : i < n := by have := (List.getElem?_eq_some_iff.1 ho).1; simp at this; omega
      have ho' : l[i]? = some o := by rw [List.getElem?_take_of_lt hin] at ho; exact ho
      have := hdeps i hin
      rw [ho'] at this
      have := List.all_eq_true.1 this j hj
      simp only [Bool.and_eq_true, decide_eq_true_eq] at this
      obtain ⟨e, he, hb⟩ := Array.any_eq_true'.1 this.2
      simp only [Bool.and_eq_true, Bool.or_eq_true, beq_iff_eq, decide_eq_true_eq, List.contains_iff_mem] at hb
      exact ⟨this.1, e, he, hb.1, hb.2⟩)
    (fun i o ho d hd i' hi' => by
      have hin : i < n := by have := (List.getElem?_eq_some_iff.1 ho).1; simp at this; omega
      have ho' : l[i]? = some o := by rw [List.getElem?_take_of_lt hin] at ho; exact ho
      have h1 := hkl i hin d hd i' hi'
      rw [Bool.or_eq_true] at h1
      rcases h1 with h1 | h1
      · left; simpa using h1
      · right
        cases ho2 : l[i']? with
        | none => rw [ho2] at h1; cases h1
        | some o' =>
          rw [ho2] at h1
          obtain ⟨e, he, hb⟩ := Array.any_eq_true'.1 h1
          simp only [Bool.and_eq_true, beq_iff_eq] at hb
          exact ⟨o', by simpa using ho2, e, he, hb.1, hb.2⟩)
    hloc obl
    (fun u w' hI' hR => by
      have := wpAny_of_seq (md := .any) (Q' := Q) (l.drop n) n (canon n l.toArray.size) (putAll (l.take n) u 0 a) w' (fun j => by simp [List.getElem?_drop]) (by rw [List.length_drop, hsz]; exact hseq) (htail u w' hI' hR)
      rwa [List.length_drop] at this)
    n (Array.replicate l.toArray.size false) (fun j => slotOf a (((l.take n)[j]?).bind (·.dst))) w.drew hu0 inv0 hI (fun j _ hl _ => by rw [getD_replicate_false] at hl; cases hl) (fun j _ _ => hS0 j)
  rw [hown, show n + (l.length - n) = l.length by omega] at H
  rw [hsz]
  exact H
def relOblZ (P : Program) (ops : Array Oper) (I : World → Prop) (S : Nat → World → Prop) (K : Nat → World → World → Prop) (R : Nat → (Nat → Value) → World → Prop) (deps : Nat → List Nat) (hs : List Oper) (a0 : Act) : List Oper → Nat → Prop
  | [], _ => True
  | o :: r, i => (∀ (u : Nat → Value) w, I w → S i w → (∀ j ∈ deps i, R j (mask (deps j) j u) w) → owesK P ops (fun v w' => R i (mask (deps i) i (upd u i v)) w') (K i) (putAll hs u 0 a0) o w) ∧ relOblZ P ops I S K R deps hs a0 r (i + 1)
theorem relOblZ_get {I : World → Prop} {S : Nat → World → Prop} {K : Nat → World → World → Prop} {R : Nat → (Nat → Value) → World → Prop} {deps : Nat → List Nat} {hs : List Oper} {a0 : Act} : ∀ (l : List Oper) (k : Nat), relOblZ P ops I S K R deps hs a0 l k → ∀ j o, l[j]? = some o →
    (∀ (u : Nat → Value) w, I w → S (k + j) w → (∀ i ∈ deps (k + j), R i (mask (deps i) i u) w) → owesK P ops (fun v w' => R (k + j) (mask (deps (k + j)) (k + j) (upd u (k + j) v)) w') (K (k + j)) (putAll hs u 0 a0) o w)
  | [], _, _, j, o, h => by simp at h
  | x :: r, k, h, j, o, ho => by
    cases j with
    | zero =>
      simp only [List.getElem?_cons_zero, Option.some.injEq] at ho
      subst ho
      exact h.1
    | succ j =>
      have := relOblZ_get r (k + 1) h.2 j o (by simpa using ho)
      rw [show k + 1 + j = k + (j + 1) by omega] at this
      exact this
theorem wp_region_relZ {id : Nat} {Q : Exit → Act → World → Prop} {a : Act} {w : World} {l : List Oper} (n : Nat) (I : World → Prop) (S : Nat → World → Prop) (K : Nat → World → World → Prop) (R : Nat → (Nat → Value) → World → Prop) (deps : Nat → List Nat)
    (hm : P.follows .mixedOrders = true) (hB : relYB .any l n deps (fun _ => []) = true) (hI0 : I w.drew) (hS0 : ∀ j, S j w.drew) (hI : ∀ i w w', K i w w' → I w → I w') (hS : ∀ i j w w', j ≠ i → K i w w' → I w → S j w → S j w') (hst : ∀ i j u w w', j ≠ i → K i w w' → I w → R j u w → R j u w')
    (obl : relOblZ P l.toArray I S K R deps (l.take n) a (l.take n) 0)
    (htail : ∀ (u : Nat → Value) w', I w' → (∀ j, j < n → R j (mask (deps j) j u) w') → wpList P l.toArray Q (l.drop n) (putAll (l.take n) u 0 a) w') : (Code.region id l.toArray true).wp P Q a w := by
  refine wp_region_relZr n I S (fun j u w => R j (mask (deps j) j u) w) deps (fun _ => []) hm hB (fun j u u' w h hR => by rw [← mask_congr h]; exact hR) hI0 hS0 (fun i o ho u w' hI' hS' hd => ?_) (fun u w' hI' hR => htail u w' hI' fun j hj => hR j hj rfl)
  have h := relOblZ_get (l.take n) 0 obl i o ho u w' hI' (by rw [Nat.zero_add]; exact hS') (by rw [Nat.zero_add]; exact hd)
  rw [Nat.zero_add] at h
  rcases h with ⟨h1, h2⟩ | h
  · exact .inl ⟨h1, gives_mono (fun v w'' ⟨g1, g2⟩ => ⟨g1, hI _ _ _ g2 hI', (fun j u hji _ hj => hst i j _ _ _ hji g2 hI' hj), fun j hji hj => hS i j _ _ hji g2 hI' hj⟩) h2⟩
  · exact .inr h
end
end Go.Proofs.YtdcmnpeabjallaaGreatDoor
namespace Go.Proofs.YtdcmnpeabjallaaGreatDoor
open Go
section
variable {P : Program} {ops : Array Oper} {md : Region.Mode}
end
end Go.Proofs.YtdcmnpeabjallaaGreatDoor
namespace Go.Proofs.YtdcmnpeabjallaaGreatDoor
open Go.RowKit
open JP (JV Bs Lf)
structure Only (lo hi : Nat) (w w' : World) : Prop where
  os : w'.os = w.os
  tape : w'.tape = w.tape
  output : w'.output = w.output
  size : w.heap.size ≤ w'.heap.size
  block : ∀ k, k < w.heap.size → (k < lo ∨ hi ≤ k) → w'.heap[k]? = w.heap[k]?
theorem Only.refl (lo hi : Nat) (w : World) : Only lo hi w w := ⟨rfl, rfl, rfl, Nat.le_refl _, fun _ _ _ => rfl⟩
theorem Only.trans {lo hi : Nat} {a b c : World} (h : Only lo hi a b) (k : Only lo hi b c) : Only lo hi a c := ⟨k.os.trans h.os, k.tape.trans h.tape, k.output.trans h.output, Nat.le_trans h.size k.size, fun i hi' ho => (k.block i (Nat.lt_of_lt_of_le hi' h.size) ho).trans (h.block i hi' ho)⟩
theorem Only.of {lo hi : Nat} {w w' : World} (h : Below w.heap.size w w') : Only lo hi w w' := ⟨h.os, h.tape, h.output, h.size, fun k hk _ => h.block k hk⟩
theorem Only.grown {lo hi : Nat} {w w' : World} {row : Option Nat} (h : w.grownBy w' row) (hr : ∀ q, row = some q → lo ≤ q ∧ q < hi) : Only lo hi w w' := ⟨h.os, h.tape, h.output, h.size, fun k hk ho => h.block k hk fun e => by have := hr k e.symm; omega⟩
theorem Only.below {lo hi B : Nat} {a w w' : World} (h : Only lo hi w w') (hb : Below B a w) (hB : B ≤ lo) (hs : B ≤ w.heap.size) : Below B a w' := hb.trans ⟨h.os, h.tape, h.output, h.size, fun k hk => h.block k (by omega) (.inl (by omega))⟩
def LeavesFix (lo hi : Nat) (wF : World) (lf : Value) (W : List Leaf) : Prop := ∃ (T : List Nat) (wL wE : World), OwnAt (LeafX T wL) 3 wE wL.heap.size 65 lf W ∧ Below wL.heap.size wL wE ∧ Below wE.heap.size wE wF ∧
  (∀ b, lo ≤ b → b < hi → b ∈ T ∨ wL.heap.size ≤ b) ∧ (wE.heap.size ≤ lo ∨ hi ≤ wL.heap.size)
theorem LeavesFix.below {lo hi : Nat} {wF w : World} {lf : Value} {W : List Leaf} (h : LeavesFix lo hi wF lf W) (hb : Below wF.heap.size wF w) : LeavesFix lo hi w lf W := by
  obtain ⟨T, wL, wE, h1, h2, h3, h4⟩ := h
  exact ⟨T, wL, wE, h1, h2, h3.trans (hb.mono h3.size), h4⟩
theorem LeavesFix.row {lo hi : Nat} {wF w : World} {lf : Value} {W : List Leaf} (h : LeavesFix lo hi wF lf W) (ho : Only lo hi wF w) : RowAt LeafR 3 w lf W := by
  obtain ⟨T, wL, wE, h1, h2, h3, h4, h5⟩ := h
  have off : ∀ q, wL.heap.size ≤ q → q < wE.heap.size → w.heap[q]? = wE.heap[q]? := fun q q1 q2 => by
    rw [ho.block q (Nat.lt_of_lt_of_le q2 h3.size) (by omega), h3.block q q2]
  have hkeep : KeepT (List.range' lo (hi - lo)) wL w := by
    refine ⟨ho.os.trans (h3.os.trans h2.os), ho.tape.trans (h3.tape.trans h2.tape), ho.output.trans (h3.output.trans h2.output), Nat.le_trans h2.size (Nat.le_trans h3.size ho.size), fun b hb hn => ?_⟩
    have hbE := Nat.lt_of_lt_of_le hb h2.size
    have hn2 : b < lo ∨ hi ≤ b := by
      rw [List.mem_range'_1] at hn
      omega
    rw [ho.block b (Nat.lt_of_lt_of_le hbE h3.size) hn2, h3.block b hbE, h2.block b hb]
  rcases h1.row with h6 | ⟨a, c, e1, e2, e3, e4⟩
  · exact .inl h6
  · have hat := fun (hpos : 0 < W.length) => h1.form
    refine .inr ⟨a, c, e1, e2, e3, fun j x hx => ?_⟩
    obtain ⟨cs, g1, g2, sv, vv, k, hcs, hsv, hjv⟩ := e4 j x hx
    have hblk : wL.heap.size ≤ a.block ∧ a.block < wE.heap.size := by
      rcases h1.form with ⟨h7, _⟩ | ⟨q, c', h7, h8, h9, _⟩
      · rw [e1] at h7; cases h7
      · rw [e1] at h7
        injection h7 with h7
        injection h7 with h7
        rw [h7]; exact ⟨h8, h9⟩
    refine ⟨cs, g1, fun i u hu => ?_, sv, vv, hcs, (own_keepB (w' := w) hsv fun q hq => ?_).row.strs, k, ?_⟩
    · have h7 := g2 i u hu
      have hb : (a.add (j * 3 + i)).block = a.block := by unfold Addr.add; split <;> rfl
      rw [World.cell?_of_block (w := wE) (w' := w) (by rw [hb]; exact off _ hblk.1 hblk.2)]
      exact h7
    · have h7 := OwnAt.at hsv hq
      exact off q h7.1 h7.2.1
    · have h8 := (hjv.fresh (T' := List.range' lo (hi - lo)) fun b hb => by
        rw [List.mem_range'_1] at hb
        exact h4 b hb.1 (by omega)).keepT hkeep
      exact h8.fresh (T' := []) fun b hb => by cases hb
structure FixAt (lo hi g : Nat) (w0 wF : World) (lv mv lf : Value) (m : Bs) (live : JV) (W : List Leaf) : Prop where
  base : Below w0.heap.size w0 wF
  low : w0.heap.size ≤ lo
  deal : DealAt wF g lv mv m lf
  goff : g < lo ∨ hi ≤ g
  live : ∃ n, JvAt n [] w0 lv live
  rows : LeavesFix lo hi wF lf W
  env : Env w0
section
variable {lo hi g : Nat} {w0 wF w : World} {lv mv lf : Value} {m : Bs} {live : JV} {W : List Leaf}
theorem FixAt.below (h : FixAt lo hi g w0 wF lv mv lf m live W) (hb : Below wF.heap.size wF w) : FixAt lo hi g w0 w lv mv lf m live W :=
  ⟨h.base.trans (hb.mono h.base.size), h.low, h.deal.below hb, h.goff, h.live, h.rows.below hb, h.env⟩
theorem deal_lt (h : DealAt w g lv mv m lf) : g < w.heap.size := by
  unfold DealAt at h
  rcases Nat.lt_or_ge g w.heap.size with h1 | h1
  · exact h1
  · rw [Array.getElem?_eq_none h1] at h; cases h
theorem FixAt.dealO (h : FixAt lo hi g w0 wF lv mv lf m live W) (ho : Only lo hi wF w) : DealAt w g lv mv m lf := by
  have h1 := h.deal
  unfold DealAt at h1 ⊢
  rw [ho.block g (deal_lt h.deal) h.goff]; exact h1
theorem FixAt.baseO (h : FixAt lo hi g w0 wF lv mv lf m live W) (ho : Only lo hi wF w) : Below w0.heap.size w0 w := ho.below h.base h.low h.base.size
theorem FixAt.liveO (h : FixAt lo hi g w0 wF lv mv lf m live W) (ho : Only lo hi wF w) : ∃ n, JvAt n [] w lv live := let ⟨n, hn⟩ := h.live; ⟨n, hn.below (h.baseO ho)⟩
theorem FixAt.envO (h : FixAt lo hi g w0 wF lv mv lf m live W) (ho : Only lo hi wF w) : Env w := h.env.below (h.baseO ho)
end
structure SzCap (lo hi gd g : Nat) (wF w : World) : Prop where
  bd : w.heap[gd]? = some (.cells #[.pointer (some ⟨g, 0, none⟩)] 54 (0, 0))
  off : gd < lo ∨ hi ≤ gd
  only : Only lo hi wF w
theorem SzCap.below {lo hi gd g : Nat} {wF w w' : World} (h : SzCap lo hi gd g wF w) (hb : Below w.heap.size w w') : SzCap lo hi gd g wF w' := ⟨below_block hb h.bd, h.off, h.only.trans (.of hb)⟩
theorem SzCap.grown {lo hi gd g : Nat} {wF w w' : World} {row : Option Nat} (h : SzCap lo hi gd g wF w) (hb : w.grownBy w' row) (hr : ∀ q, row = some q → lo ≤ q ∧ q < hi) : SzCap lo hi gd g wF w' := by
  have hlt : gd < w.heap.size := by
    rcases Nat.lt_or_ge gd w.heap.size with h1 | h1
    · exact h1
    · have h9 := h.bd; rw [Array.getElem?_eq_none h1] at h9; cases h9
  exact ⟨(hb.block gd hlt fun e => by have := hr gd e.symm; have := h.off; omega).trans h.bd, h.off, h.only.trans (.grown hb hr)⟩
set_option maxRecDepth 100000 in
set_option maxHeartbeats 1600000 in
theorem seize11_any {lo hi gd gp g : Nat} {w0 wF w : World} {lv mv lf sv vv : Value} {m : Bs} {live : JV} {W : List Leaf} (hF : FixAt lo hi g w0 wF lv mv lf m live W) (hf : JP.Fit live) (x : Leaf) (hx : LeafFit x) (hr : LeafR w [.string (mkB (pathP x.1)), sv, vv] x) (p : ByteArray) (hp : p.size ≤ 1048576) (hc : SzCap lo hi gd g wF w) (hg : w.heap[gp]? = some (.cells #[.string p] 9 (0, 0))) :
    Calls Tryz.prog 63 #[.agg #[.string (mkB (pathP x.1)), sv, vv], .pointer (some ⟨gd, 0, none⟩), .pointer (some ⟨gp, 0, none⟩)] w fun e w' => e = .returned (.bool (JP.barsB live x p.data.toList)) ∧ Below w.heap.size w w' := by
  obtain ⟨_, _, hcs, hs, hv⟩ := hr
  simp only [List.cons.injEq, and_true, true_and] at hcs
  obtain ⟨rfl, rfl⟩ := hcs
  obtain ⟨sa, sc, rfl, -, -⟩ := hs.row.len
  have hvf : vv = .nilIface ∨ ∃ t u, vv = .iface t u := by obtain ⟨k, hk⟩ := hv; exact jv_form hk
  obtain ⟨sn, hsn⟩ : ∃ sn, (x.1.map mkB).length = sn := ⟨_, rfl⟩
  rw [hsn] at hs ⊢
  obtain ⟨w1, hw1⟩ : ∃ w1, w1 = w.alloc (.cells #[.string (mkB (pathP x.1)), .slice sa sn sc, vv] 65) := ⟨_, rfl⟩
  obtain ⟨gb, hgb⟩ : ∃ gb, gb = w.heap.size := ⟨_, rfl⟩
  have b1 : w1.heap[gb]? = some (.cells #[.string (mkB (pathP x.1)), .slice sa sn sc, vv] 65 (0, 0)) := by rw [hw1, hgb]; exact heap_alloc_new w _
  have hb1 : Below w.heap.size w w1 := by rw [hw1]; exact (Below.refl _ w).alloc (Nat.le_refl _) _
  have hc1 := hc.below hb1
  have HB := Lib.hid (bars_any (p := p.data.toList) (hF.dealO hc1.only) (hF.liveO hc1.only) hf (hs.below hb1) (let ⟨k, hk⟩ := hv; ⟨k, hk.below hb1⟩) hx (by rw [Array.length_toList]; exact hp) (hF.envO hc1.only))
  rw [mkB_of] at HB
  have HB1 := Lib.hid hb1
  have c1 := fun i => cell_block hc1.bd i
  have c2 := fun i => cell_block b1 i
  have c3 := fun i => cell_block (below_block hb1 hg) i
  obtain ⟨ans, Hans⟩ : ∃ ans, Hid (JP.barsB live x p.data.toList = ans) := ⟨_, Lib.hid rfl⟩
  rw [Hans.out] at HB ⊢
  clear hF hf hx hsn hs hv hc hg hb1 b1 hc1
  rcases hvf with rfl | ⟨vt, vu, rfl⟩
  all_goals
    go_enter Tryz.func63, Tryz.ntmps63
    go_upto_region 1 with fail
    rw [← hw1]
    try rw [← hgb]
    clear hw1 hgb
    go_wp2_with fail
    refine HB.out.mono ?_
    rintro E w2 ⟨rfl, hb2⟩
    have Hb2 := Lib.hid (HB1.out.trans (hb2.mono HB1.out.size))
    clear hb2
    go_wp2_with fail
    go_ret
    exact ⟨rfl, Hb2.out⟩
theorem run_seize11 : ∀ (a : Array Value) (w : World), (callFunc 63 a).run Tryz.prog w = .ok (.enter 63 a) w := run_callFunc_body Tryz.func63 (by kernel_rfl) (by kernel_rfl)
theorem run_seize1 : ∀ (a : Array Value) (w : World), (callFunc 61 a).run Tryz.prog w = .ok (.enter 61 a) w := run_callFunc_body Tryz.func61 (by kernel_rfl) (by kernel_rfl)
set_option maxRecDepth 100000 in
set_option maxHeartbeats 1600000 in
theorem seize1_any {lo hi gd g : Nat} {w0 wF w : World} {lv mv lf : Value} {m : Bs} {live : JV} {W : List Leaf} (hF : FixAt lo hi g w0 wF lv mv lf m live W) (hf : JP.Fit live) (hx : ∀ x ∈ W, LeafFit x) (hWl : W.length ≤ 1048576) (p : ByteArray) (hp : p.size ≤ 1048576) (hc : SzCap lo hi gd g wF w) :
    Calls Tryz.prog 61 #[.string p, .pointer (some ⟨gd, 0, none⟩)] w fun e w' => e = .returned (.bool (W.any fun x => JP.barsB live x p.data.toList)) ∧ Below w.heap.size w w' := by
  obtain ⟨w1, hw1⟩ : ∃ w1, w1 = w.alloc (.cells #[.string p] 9) := ⟨_, rfl⟩
  obtain ⟨gp, hgp⟩ : ∃ gp, gp = w.heap.size := ⟨_, rfl⟩
  have b1 : w1.heap[gp]? = some (.cells #[.string p] 9 (0, 0)) := by rw [hw1, hgp]; exact heap_alloc_new w _
  have hb1 : Below w.heap.size w w1 := by rw [hw1]; exact (Below.refl _ w).alloc (Nat.le_refl _) _
  have hc1 := hc.below hb1
  have HA := Lib.hid (anyLeaf2_any (cap1 := .pointer (some ⟨gd, 0, none⟩)) (cap2 := .pointer (some ⟨gp, 0, none⟩)) (Cap := fun w' => SzCap lo hi gd g wF w' ∧ w'.heap[gp]? = some (.cells #[.string p] 9 (0, 0))) (p := fun x => JP.barsB live x p.data.toList) (OK := LeafFit) run_seize11 (fun a b h hb => ⟨h.1.below hb, below_block hb h.2⟩)
    (fun x sv vv w' hr hx hc => seize11_any hF hf x hx hr p hp hc.1 hc.2) lf W w1 (hF.rows.row hc1.only) (by omega) hx ⟨hc1, b1⟩)
  have HB1 := Lib.hid hb1
  have c1 := fun i => cell_block hc1.bd i
  have hd := hF.dealO hc1.only
  have c2 : ∀ i, w1.cell? ⟨g, i, none⟩ = #[lv, mv, .string (mkB m), lf][i]? := fun i => cell_block hd i
  obtain ⟨la, lc, hlf, -, -⟩ := (hF.rows.row hc1.only).len
  obtain ⟨ans, Hans⟩ : ∃ ans, Hid ((W.any fun x => JP.barsB live x p.data.toList) = ans) := ⟨_, Lib.hid rfl⟩
  rw [Hans.out] at HA ⊢
  obtain ⟨ln, hln⟩ : ∃ ln, W.length = ln := ⟨_, rfl⟩
  rw [hln] at hlf
  subst hlf
  clear hF hf hx hc hb1 b1 hc1 hd hln
  go_enter Tryz.func61, Tryz.ntmps61
  go_upto_region 1 with fail
  rw [← hw1]
  try rw [← hgp]
  clear hw1 hgp
  go_wp2_with fail
  refine HA.out.mono ?_
  rintro E w2 ⟨rfl, hb2⟩
  have Hb2 := Lib.hid (HB1.out.trans (hb2.mono HB1.out.size))
  clear hb2
  go_wp2_with fail
  go_ret
  exact ⟨rfl, Hb2.out⟩
end Go.Proofs.YtdcmnpeabjallaaGreatDoor
namespace Go.Proofs.YtdcmnpeabjallaaGreatDoor
open Go.RowKit Go.MapKept Go.ChangeMaps
open JP (JV Bs Lf)
def BookF' (w : World) (lo hi b : Nat) (f : KB → Option Value) (g : BookF) : Prop := (∀ k, (f k).isSome = (g k).isSome) ∧ (∀ k v l, f k = some v → g k = some l → OwnAt RString 1 w lo 9 v (l.map mkB)) ∧
  (∀ k k' v v' q, k ≠ k' → f k = some v → f k' = some v' → v.ownBlock = some q → v'.ownBlock ≠ some q) ∧ (∀ k v q, f k = some v → v.ownBlock = some q → q < hi) ∧ lo ≤ b ∧ b < hi
def BookIn (lo hi : Nat) (w : World) (b n : Nat) (g : BookF) : Prop := ∃ f : KB → Option Value, MapS Tryz.prog 9 w b n f ∧ BookF' w lo hi b f g
theorem BookIn.at {lo hi b n : Nat} {w : World} {g : BookF} (h : BookIn lo hi w b n g) : BookAt w lo b n g := by
  obtain ⟨f, h1, h2, h3, h4, h5, h6, h7⟩ := h
  exact ⟨f, h1, h2, h3, h4, h6⟩
theorem BookIn.below {lo hi b n : Nat} {w w' : World} {g : BookF} (h : BookIn lo hi w b n g) (hb : Below w.heap.size w w') : BookIn lo hi w' b n g := by
  obtain ⟨f, h1, h2, h3, h4, h5, h6, h7⟩ := h
  exact ⟨f, h1.belowW hb, h2, fun k v l hk hg => own_keepB (h3 k v l hk hg) fun q hq => hb.block q ((h3 k v l hk hg).at hq).2.1, h4, h5, h6, h7⟩
theorem BookF'.below {lo hi b : Nat} {w w' : World} {f : KB → Option Value} {g : BookF} (h : BookF' w lo hi b f g) (hb : Below w.heap.size w w') : BookF' w' lo hi b f g := by
  obtain ⟨h2, h3, h4, h5, h6, h7⟩ := h
  exact ⟨h2, fun k v l hk hg => own_keepB (h3 k v l hk hg) fun q hq => hb.block q ((h3 k v l hk hg).at hq).2.1, h4, h5, h6, h7⟩
theorem SzCap.iter {lo hi gd g r : Nat} {wF w w' : World} (h : SzCap lo hi gd g wF w) (hg : w.grownBy w' (some r)) (hr : wF.heap.size ≤ r) (hgd : gd < wF.heap.size) : SzCap lo hi gd g wF w' := by
  refine ⟨(hg.block gd (Nat.lt_of_lt_of_le hgd h.only.size) (fun e => by cases e; omega)).trans h.bd, h.off, ⟨hg.os.trans h.only.os, hg.tape.trans h.only.tape, hg.output.trans h.only.output, Nat.le_trans h.only.size hg.size, fun k hk ho => ?_⟩⟩
  rw [hg.block k (Nat.lt_of_lt_of_le hk h.only.size) (fun e => by cases e; omega)]
  exact h.only.block k hk ho
open Classical in
noncomputable def seizeG (live : JV) (m : Bs) (W : List Leaf) (g : BookF) : BookF := fun k => if k = m then g k else (g k).map fun l => l.filter fun p => !(W.any fun x => JP.barsB live x p)
set_option maxRecDepth 100000 in
set_option maxHeartbeats 6400000 in
theorem seize_any {lo hi g b n : Nat} {w0 w : World} {lv lf : Value} {m : Bs} {live : JV} {W : List Leaf} {bk : BookF} (hF : FixAt lo hi g w0 w lv (.map (some b)) lf m live W) (hf : JP.Fit live) (hx : ∀ x ∈ W, LeafFit x) (hWl : W.length ≤ 1048576)
    (hb : BookIn lo hi w b n bk) (hg : ∀ k l, bk k = some l → l.length ≤ 1048576 ∧ ∀ s ∈ l, s.length ≤ 1048576) (hn : n ≤ 1048576) (hhi : hi ≤ w.heap.size) :
    Calls Tryz.prog 35 #[.pointer (some ⟨g, 0, none⟩)] w fun e w' => e = .returned (.tuple #[]) ∧ BookIn lo hi w' b n (seizeG live m W bk) ∧ Only lo hi w w' := by
  obtain ⟨w1, hw1⟩ : ∃ w1, w1 = w.alloc (.cells #[.pointer (some ⟨g, 0, none⟩)] 54) := ⟨_, rfl⟩
  obtain ⟨gd, hgd⟩ : ∃ gd, gd = w.heap.size := ⟨_, rfl⟩
  have b1 : w1.heap[gd]? = some (.cells #[.pointer (some ⟨g, 0, none⟩)] 54 (0, 0)) := by rw [hw1, hgd]; exact heap_alloc_new w _
  have hb1 : Below w.heap.size w w1 := by rw [hw1]; exact (Below.refl _ w).alloc (Nat.le_refl _) _
  have hF1 := hF.below hb1
  have hgd1 : gd < w1.heap.size := by rw [hw1, hgd, World.size_alloc]; omega
  have hs1 := hb1.size
  have HF := Lib.hid hF1
  have Hcap : Hid (SzCap lo hi gd g w1 w1) := Lib.hid ⟨b1, .inr (by omega), Only.refl _ _ _⟩
  have HO1 : Hid (Only lo hi w w1) := Lib.hid (Only.of hb1)
  obtain ⟨F0, hM, hBF⟩ := hb.below hb1
  have HM := Lib.hid hM
  have HBF := Lib.hid hBF
  have Hg := Lib.hid hg
  have hcl := fun (p : ByteArray) (w' : World) (hp : p.size ≤ 1048576) (hc : SzCap lo hi gd g w1 w') => seize1_any hF1 hf hx hWl p hp hc
  have HCl := Lib.hid hcl
  have cc := fun i => cell_block b1 i
  have dd : ∀ i, w1.cell? ⟨g, i, none⟩ = #[lv, .map (some b), .string (mkB m), lf][i]? := fun i => cell_block hF1.deal i
  clear hF hf hx hWl hb hg hM hBF hcl b1 hb1 hF1
  go_enter Tryz.func35, Tryz.ntmps35
  go_upto_region 1 with fail
  rw [← hw1]
  try rw [← hgd]
  clear hw1 hgd
  go_wp2_with (at_range; refine wpList_range_mapS _ (by rfl) _ 56 (by rfl) 9 28 Tryz.underlying9 Tryz.underlying56 b n F0 (by rfl) HM.out ?_; intro w2 cnt hrg hgr hsz)
  try go_frame
  have hb2 : Below w1.heap.size w1 w2 := ⟨hgr.os, hgr.tape, hgr.output, hgr.size, fun k hk => hgr.block k hk (by simp)⟩
  have HC2 := Lib.hid (Hcap.out.below hb2)
  have HBF2 := Lib.hid (HBF.out.below hb2)
  have HR1 := Lib.hid hrg
  obtain ⟨r, hr⟩ : ∃ r, w1.heap.size = r := ⟨_, rfl⟩
  rw [hr] at HR1 hgd1 hs1 ⊢
  have Hr := Lib.hid hr
  clear hrg hgr hsz hb2 hr cc dd
  go_loopg [2, 3] cnt (fun k u2 u3 wr => ∃ (left : KB → Bool) (f : KB → Option Value), Hid (RangeS Tryz.prog 9 wr b r n f left k) ∧ Hid (BookF' wr lo hi b f fun z => if left z = true then bk z else seizeG live m W bk z) ∧ Hid (SzCap lo hi gd g w1 wr))
  case atStart =>
    refine ⟨_, _, HR1, Lib.hid ?_, HC2⟩
    have h9 : (fun z => if (F0 z).isSome = true then bk z else seizeG live m W bk z) = bk := by
      funext z
      have h8 := HBF.out.1 z
      split
      · rfl
      · rename_i h7
        have h6 : bk z = none := by
          cases hz : bk z with
          | none => rfl
          | some l => rw [hz] at h8; exact absurd h8 h7
        unfold seizeG
        split
        · rfl
        · rw [h6]; rfl
    rw [h9]; exact HBF2.out
  case round =>
    obtain ⟨left, f, HR, HB, HC⟩ := hrel
    have dF := HF.out.dealO HC.out.only
    have cc := fun i => cell_block HC.out.bd i
    have dd : ∀ i, wr.cell? ⟨g, i, none⟩ = #[lv, .map (some b), .string (mkB m), lf][i]? := fun i => cell_block dF i
    clear cc dd dF
    go_wp2_with (at_next; refine wpList_next_rangeS _ (by rfl) _ (by rfl) 9 Tryz.underlying9 b r n f left gk (by rfl) HR.out ?_ ?_)
    · intro hl0
      have HBe : Hid (BookIn lo hi wr b n (seizeG live m W bk)) := Lib.hid (by
        have h9 : (fun z => if left z = true then bk z else seizeG live m W bk z) = seizeG live m W bk := by funext z; rw [hl0 z]; rfl
        rw [← h9]; exact ⟨f, HR.out.map, HB.out⟩)
      have HOe := Lib.hid (HO1.out.trans HC.out.only)
      clear hl0 HB HR HC
      go_wp2_with fail
      go_end0
      exact ⟨rfl, HBe.out, HOe.out⟩
    · intro s v w3 cnt3 hs hlk hv hrg3 hlt hgr3 hsz3 hen
      obtain ⟨l, hgl⟩ : ∃ l, bk s.data.toList = some l := by
        have h9 := HB.out.1 s.data.toList
        rw [hv] at h9
        simp only [hlk, if_true] at h9
        exact Option.isSome_iff_exists.1 h9.symm
      have hown := HB.out.2.1 _ v l hv (by simp only [hlk, if_true]; exact hgl)
      have hvb : ∀ q, v.ownBlock = some q → lo ≤ q ∧ q < hi := fun q hq => ⟨(hown.at hq).1, HB.out.2.2.2.1 _ _ _ hv hq⟩
      have hri : hi ≤ r := by omega
      have hC3 := HC.out.iter hgr3 (by rw [Hr.out]; exact Nat.le_refl _) (by rw [Hr.out]; exact hgd1)
      have hB3 : BookF' w3 lo hi b f fun z => if left z = true then bk z else seizeG live m W bk z := by
        obtain ⟨p2, p3, p4, p5, p6, p7⟩ := HB.out
        exact ⟨p2, fun k v l hk hg => own_keepB (p3 k v l hk hg) fun q hq => hgr3.block q ((p3 k v l hk hg).at hq).2.1 (fun e => by cases e; have := p5 k v _ hk hq; omega), p4, p5, p6, p7⟩
      have hown3 := own_keepB hown (w' := w3) fun q hq => hgr3.block q (hown.at hq).2.1 (fun e => by cases e; have := (hvb _ hq).2; omega)
      have hgl2 := Hg.out _ _ hgl
      obtain ⟨va, vc, rfl, -, -⟩ := hown.row.len
      obtain ⟨vn, hvn⟩ : ∃ vn, (l.map mkB).length = vn := ⟨_, rfl⟩
      rw [hvn] at hen hown3 hvb hv ⊢
      have e1 : ((s).toList == (mkB m).toList) = decide (s.data.toList = m) := by
        rw [ByteArray.toList_eq, ByteArray.toList_eq, mkB_list, Bool.eq_iff_iff, beq_iff_eq, decide_eq_true_iff]
      obtain ⟨km, Hkm⟩ : ∃ km, Hid (decide (s.data.toList = m) = km) := ⟨_, Lib.hid rfl⟩
      rw [Hkm.out] at e1
      have HR3 := Lib.hid hrg3
      have HB3 := Lib.hid hB3
      have HC3 := Lib.hid hC3
      have Hgl := Lib.hid hgl
      have Hgl2 := Lib.hid hgl2
      have Hown3 := Lib.hid hown3
      have Hvb := Lib.hid hvb
      have Hv := Lib.hid hv
      have hss : s.size ≤ 9223372036854775807 := by unfold maxLen at hs; omega
      have dF := HF.out.dealO hC3.only
      have cc := fun i => cell_block hC3.bd i
      have dd : ∀ i, w3.cell? ⟨g, i, none⟩ = #[lv, .map (some b), .string (mkB m), lf][i]? := fun i => cell_block dF i
      have hgl3 : g < w3.heap.size := deal_lt dF
      have hgdl3 : gd < w3.heap.size := by have := hC3.only.size; have := Hr.out; omega
      clear hrg3 hgr3 hsz3 hB3 hC3 hgl hgl2 hown hown3 hvb hv hlk dF HB HR HC hvn
      cases km with
      | true =>
        have hsm : s.data.toList = m := of_decide_eq_true Hkm.out
        have HB4 : Hid (BookF' w3 lo hi b f fun z => if (left z && !decide (z = s.data.toList)) = true then bk z else seizeG live m W bk z) := Lib.hid (by
          have h9 : (fun z => if (left z && !decide (z = s.data.toList)) = true then bk z else seizeG live m W bk z) = fun z => if left z = true then bk z else seizeG live m W bk z := by
            funext z
            by_cases e : z = s.data.toList
            · rw [decide_eq_true e]
              unfold seizeG
              rw [if_pos (e.trans hsm)]
              simp
            · rw [decide_eq_false e]; simp
          rw [h9]; exact HB3.out)
        clear hsm HB3
        go_wp2_with fail
        clear cc dd
        go_roundg cnt3
        case measure => exact hlt
        case rel => exact ⟨_, _, HR3, HB4, HC3⟩
      | false =>
        have hsm : s.data.toList ≠ m := of_decide_eq_false Hkm.out
        have hdel := fun (w' : World) (hcap : SzCap lo hi gd g w1 w') (hw' : OwnAt RString 1 w' lo 9 (.slice va vn vc) (l.map mkB)) => deleteStr_any (cap := .pointer (some ⟨gd, 0, none⟩)) (Cap := SzCap lo hi gd g w1) (p := fun x => W.any fun y => JP.barsB live y x.data.toList) (OK := fun x => x.size ≤ 1048576) lo (.slice va vn vc) run_seize1
          (fun a c h hb => h.grown hb Hvb.out) (fun x w' hx hc => HCl.out x w' hx hc) (l.map mkB) w' hw' (by rw [List.length_map]; exact Hgl2.out.1) (fun x hx => by
            obtain ⟨t, ht, rfl⟩ := List.mem_map.1 hx
            rw [mkB_size]; exact Hgl2.out.2 t ht) hcap
        have HDel := Lib.hid hdel
        clear hdel
        go_upto_region 5 with fail
        clear cc dd
        refine wp_region_relZ 8 (fun w' => w3.grownBy w' (Value.slice va vn vc).ownBlock ∧ SzCap lo hi gd g w1 w') (fun j w' => j = 7 → OwnAt RString 1 w' lo 9 (.slice va vn vc) (l.map mkB)) (fun i wa wb => if i = 7 then wa.grownBy wb (Value.slice va vn vc).ownBlock else wb = wa) (fun j U w' => match j with
          | 0 => U 0 = .pointer (some ⟨g, 0, none⟩)
          | 1 => U 1 = .pointer (some ⟨g, 0, none⟩)
          | 2 => U 2 = .pointer (some ⟨g, 1, none⟩)
          | 3 => U 3 = .map (some b)
          | 4 => U 4 = .string s
          | 5 => U 5 = .slice va vn vc
          | 6 => U 6 = .func (.func 61) #[] #[.pointer (some ⟨gd, 0, none⟩)]
          | 7 => OwnAt RString 1 w' lo 9 (U 7) ((l.map mkB).filter fun r => !(W.any fun y => JP.barsB live y r.data.toList)) ∧ (∀ q, (U 7).ownBlock = some q → (Value.slice va vn vc).ownBlock = some q)
          | _ => True)
          (fun | 1 => [0] | 2 => [1] | 3 => [2] | 7 => [5, 6] | _ => []) (by kernel_rfl) (by kernel_rfl) ⟨below_grown (below_drewF w3) _, HC3.out.below (below_drewF w3)⟩ (fun _ _ => Hown3.out.below stays_string (below_drewF w3)) (fun i wa wb hk hi => ?_) (fun i j wa wb hji hk hi h h7 => by
            have e : i ≠ 7 := fun e => hji (h7.trans e.symm)
            rw [if_neg e] at hk; subst hk; exact h h7) (fun i j U wa wb hji hk hi h => ?_) ⟨?_, ?_, ?_, ?_, ?_, ?_, ?_, ?_, trivial⟩ ?_
        · by_cases e : i = 7
          · rw [if_pos e] at hk; exact ⟨grown_trans hi.1 hk, hi.2.grown hk Hvb.out⟩
          · rw [if_neg e] at hk; subst hk; exact hi
        · by_cases e : i = 7
          · subst e
            match j, hji, h with
            | 0, _, h => exact h
            | 1, _, h => exact h
            | 2, _, h => exact h
            | 3, _, h => exact h
            | 4, _, h => exact h
            | 5, _, h => exact h
            | 6, _, h => exact h
            | 7, hji, _ => exact absurd rfl hji
            | _ + 8, _, _ => trivial
          · rw [if_neg e] at hk; subst hk; exact h
        · intro x' w' hb hS hd
          refine owesK_here (.pointer (some ⟨g, 0, none⟩)) (by rfl) ?_ rfl (else_of (by decide) rfl)
          simp only [putAll, List.take_succ_cons, List.take_zero]
          have c9 := fun i => cell_block hb.2.bd i
          go_simp
        · intro x' w' hb hS hd
          have k0 : x' 0 = .pointer (some ⟨g, 0, none⟩) := hd 0 (by simp)
          refine owesK_here (.pointer (some ⟨g, 0, none⟩)) (by rfl) ?_ rfl (else_of (by decide) rfl)
          simp only [putAll, List.take_succ_cons, List.take_zero]
          go_simp
        · intro x' w' hb hS hd
          have k0 : x' 1 = .pointer (some ⟨g, 0, none⟩) := hd 1 (by simp)
          refine owesK_here (.pointer (some ⟨g, 1, none⟩)) (by rfl) ?_ rfl (else_of (by decide) rfl)
          simp only [putAll, List.take_succ_cons, List.take_zero]
          go_simp
        · intro x' w' hb hS hd
          have k0 : x' 2 = .pointer (some ⟨g, 1, none⟩) := hd 2 (by simp)
          refine owesK_here (.map (some b)) (by rfl) ?_ rfl (else_of (by decide) rfl)
          simp only [putAll, List.take_succ_cons, List.take_zero]
          have d9 := HF.out.dealO hb.2.only
          have c9 : w'.cell? ⟨g, 1, none⟩ = some (.map (some b)) := cell_block d9 1
          go_simp
        · intro x' w' hb hS hd
          refine owesK_here (.string s) (by rfl) ?_ rfl (else_of (by decide) rfl)
          simp only [putAll, List.take_succ_cons, List.take_zero]
          go_simp
        · intro x' w' hb hS hd
          refine owesK_here (.slice va vn vc) (by rfl) ?_ rfl (else_of (by decide) rfl)
          simp only [putAll, List.take_succ_cons, List.take_zero]
          go_simp
        · intro x' w' hb hS hd
          refine owesK_here (.func (.func 61) #[] #[.pointer (some ⟨gd, 0, none⟩)]) (by rfl) ?_ rfl (else_of (by decide) rfl)
          simp only [putAll, List.take_succ_cons, List.take_zero]
          go_simp
        · intro x' w' hb hS hd
          have k5 : x' 5 = .slice va vn vc := hd 5 (by simp)
          have k6 : x' 6 = .func (.func 61) #[] #[.pointer (some ⟨gd, 0, none⟩)] := hd 6 (by simp)
          refine owesK_call 60 #[.slice va vn vc, .func (.func 61) #[] #[.pointer (some ⟨gd, 0, none⟩)]] (by rfl) ?_ ((HDel.out w' hb.2 (hS rfl)).mono ?_)
          · simp only [putAll, List.take_succ_cons, List.take_zero]
            go_simp
          · rintro _ w9 ⟨v9, rfl, h1, h2, h3⟩
            exact ⟨v9, rfl, ⟨h1, h2⟩, then_of (by decide) h3⟩
        · intro x' w' hb hR
          have k3 : x' 3 = .map (some b) := hR 3 (by omega)
          have k4 : x' 4 = .string s := hR 4 (by omega)
          obtain ⟨k7, k8⟩ : OwnAt RString 1 w' lo 9 (x' 7) ((l.map mkB).filter fun r => !(W.any fun y => JP.barsB live y r.data.toList)) ∧ (∀ q, (x' 7).ownBlock = some q → (Value.slice va vn vc).ownBlock = some q) := hR 7 (by omega)
          obtain ⟨v9, hv9⟩ : ∃ v9, x' 7 = v9 := ⟨_, rfl⟩
          rw [hv9] at k7 k8
          have hfil : ((l.map mkB).filter fun r => !(W.any fun y => JP.barsB live y r.data.toList)) = (l.filter fun p => !(W.any fun x => JP.barsB live x p)).map mkB := by
            rw [List.filter_map]
            refine congrArg (List.map mkB) (List.filter_congr fun t _ => ?_)
            show (!(W.any fun y => JP.barsB live y (mkB t).data.toList)) = _
            rw [mkB_list]
          rw [hfil] at k7
          have hRg := HR3.out.kept hb.1 (by
            intro e
            obtain ⟨q1, q2⟩ := Hvb.out b e.symm
            have hm := HR3.out.map
            obtain ⟨_, _, cur, h1⟩ := Hown3.out.at e.symm
            exact hm.ne h1 rfl) (by
            intro e
            have := (Hvb.out r e.symm).2
            omega)
          have HRg := Lib.hid hRg
          have Hb := Lib.hid hb.1
          have HCb := Lib.hid hb.2
          have K7 := Lib.hid k7
          have K8 := Lib.hid k8
          have hns : n < maxLen := by unfold maxLen; omega
          clear hR hb hRg k7 k8 HDel
          simp only [putAll, List.take_succ_cons, List.take_zero, List.drop_succ_cons, List.drop_zero]
          rw [k3, k4, hv9]
          clear k3 k4 hv9 hfil
          try simp only [Act.put, List.setIfInBounds_toArray, List.set_cons_zero, List.set_cons_succ]
          go_wp2_with (at_mapUpdate; refine wpList_store_rangeS _ (by rfl) _ _ _ 56 (by rfl) 9 28 Tryz.underlying9 Tryz.underlying56 b r n f _ cnt3 (by rfl) HRg.out hns s hs (by rfl) (by rw [Hv.out]; rfl) v9 (by rfl) ?_; intro w4 hrg4 ht4)
          try go_frame
          have HR4 := Lib.hid hrg4
          have HC4 : Hid (SzCap lo hi gd g w1 w4) := Lib.hid (HCb.out.grown ht4.grown (fun q hq => by cases hq; exact ⟨HB3.out.2.2.2.2.1, HB3.out.2.2.2.2.2⟩))
          have HB4 : Hid (BookF' w4 lo hi b (updF f s.data.toList v9) fun z => if (left z && !decide (z = s.data.toList)) = true then bk z else seizeG live m W bk z) := Lib.hid (by
            obtain ⟨p2, p3, p4, p5, p6, p7⟩ := HB3.out
            have hgs : (fun z => if (left z && !decide (z = s.data.toList)) = true then bk z else seizeG live m W bk z) s.data.toList = some (l.filter fun p => !(W.any fun x => JP.barsB live x p)) := by
              show (if (left s.data.toList && !decide (s.data.toList = s.data.toList)) = true then _ else _) = _
              rw [decide_eq_true rfl]
              simp only [Bool.not_true, Bool.and_false, Bool.false_eq_true, if_false]
              unfold seizeG
              rw [if_neg hsm, Hgl.out]; rfl
            have hgo : ∀ z, z ≠ s.data.toList → (fun z => if (left z && !decide (z = s.data.toList)) = true then bk z else seizeG live m W bk z) z = (if left z = true then bk z else seizeG live m W bk z) := fun z hz => by
              show (if (left z && !decide (z = s.data.toList)) = true then _ else _) = _
              rw [decide_eq_false hz]; simp
            refine ⟨fun k => ?_, fun k u l' hk hg => ?_, fun k k' u u' q hne hk hk' hq => ?_, fun k u q hk hq => ?_, p6, p7⟩
            · by_cases e : k = s.data.toList
              · subst e; rw [hgs]; unfold updF; rw [if_pos rfl]; rfl
              · rw [hgo k e]; unfold updF; rw [if_neg e]; exact p2 k
            · by_cases e : k = s.data.toList
              · subst e
                rw [hgs] at hg
                cases hg
                unfold updF at hk
                rw [if_pos rfl] at hk
                cases hk
                exact own_turned K7.out ht4
              · rw [hgo k e] at hg
                unfold updF at hk
                rw [if_neg e] at hk
                have h1 := p3 k u l' hk hg
                refine own_turned (own_keepB (w' := w') h1 fun q hq => Hb.out.block q (h1.at hq).2.1 fun e9 => ?_) ht4
                exact p4 k s.data.toList u _ q e hk Hv.out hq e9.symm
            · unfold updF at hk hk'
              by_cases e : k = s.data.toList
              · rw [if_pos e] at hk; cases hk
                rw [if_neg (fun e2 => hne (e.trans e2.symm))] at hk'
                exact p4 s.data.toList k' _ u' q (fun e2 => hne (e.trans e2)) Hv.out hk' (K8.out q hq)
              · rw [if_neg e] at hk
                by_cases e' : k' = s.data.toList
                · rw [if_pos e'] at hk'; cases hk'
                  exact fun hq' => p4 k s.data.toList u _ q e hk Hv.out hq (K8.out q hq')
                · rw [if_neg e'] at hk'
                  exact p4 k k' u u' q hne hk hk' hq
            · unfold updF at hk
              by_cases e : k = s.data.toList
              · rw [if_pos e] at hk; cases hk
                exact (Hvb.out q (K8.out q hq)).2
              · rw [if_neg e] at hk; exact p5 k u q hk hq)
          clear hrg4 ht4 HRg Hb HCb K7 K8 HB3 HC3 HR3
          go_roundg cnt3
          case measure => exact hlt
          case rel => exact ⟨_, _, HR4, HB4, HC4⟩
end Go.Proofs.YtdcmnpeabjallaaGreatDoor
namespace Go.Proofs.YtdcmnpeabjallaaGreatDoor
open Go.RowKit
open JP (JV Bs)
namespace JP
def Less (p q : JV) : Prop := Fit q ∧ (text q).length ≤ (text p).length ∧ size q ≤ size p ∧ deep q ≤ deep p
theorem deepF_cut (n : Bs) : ∀ d : Fs, deepF (cut n d) ≤ deepF d
  | [] => Nat.le_refl _
  | (m, x) :: r => by
    have ih := deepF_cut n r
    unfold cut at ih ⊢
    by_cases hm : m = n
    · rw [List.filter_cons_of_neg (by simpa using hm), deepF]; omega
    · rw [List.filter_cons_of_pos (by simpa using hm), deepF, deepF]; omega
theorem deepL_erase : ∀ (l : List JV) (n : Nat), deepL (l.eraseIdx n) ≤ deepL l
  | [], _ => Nat.le_refl _
  | v :: r, 0 => by rw [List.eraseIdx_cons_zero, deepL]; omega
  | v :: r, n + 1 => by have := deepL_erase r n; rw [List.eraseIdx_cons_succ, deepL, deepL]; omega
theorem deepL_set : ∀ (l : List JV) (n : Nat) (x : JV), deepL (l.set n x) ≤ max (deepL l) (deep x)
  | [], _, _ => by rw [List.set_nil]; omega
  | v :: r, 0, x => by rw [List.set_cons_zero, deepL, deepL]; omega
  | v :: r, n + 1, x => by have := deepL_set r n x; rw [List.set_cons_succ, deepL, deepL]; omega
theorem wfL_erase : ∀ {l : List JV} {n : Nat}, wfL l → wfL (l.eraseIdx n)
  | [], _, h => h
  | v :: r, 0, h => by rw [wfL] at h; rw [List.eraseIdx_cons_zero]; exact h.2
  | v :: r, n + 1, h => by rw [wfL] at h; rw [List.eraseIdx_cons_succ, wfL]; exact ⟨h.1, wfL_erase h.2⟩
theorem wfL_set : ∀ {l : List JV} {n : Nat} {w : JV}, wfL l → wf w → wfL (l.set n w)
  | [], _, _, h, _ => h
  | v :: r, 0, w, h, hw => by rw [wfL] at h; rw [List.set_cons_zero, wfL]; exact ⟨hw, h.2⟩
  | v :: r, n + 1, w, h, hw => by rw [wfL] at h; rw [List.set_cons_succ, wfL]; exact ⟨h.1, wfL_set h.2 hw⟩
theorem name_stands {n : Bs} {x : JV} : ∀ {l : Fs}, wfF l → get n l = some x → n.all stand = true
  | [], _, h => by rw [get] at h; cases h
  | (m, v) :: r, hw, h => by
    rw [wfF] at hw
    rw [get] at h
    by_cases e : m = n
    · rw [← e]; exact hw.1
    · rw [if_neg e] at h; exact name_stands hw.2.2 h
theorem wf_S' {v : JV} (h : wf v) : wfS v := wf_S.1 v h
theorem repl_less {v c x : JV} {s : Bs} (hv : Fit v) (hc : child v s = some c) (hx : Less c x) : Less v (repl v s x) := by
  obtain ⟨h1, h2, h3, h4⟩ := hx
  have a := repl_len (w := x) (wf_S' hv.1) hc
  have b := repl_size (x := x) (wf_S' hv.1) hc
  have d : deep (repl v s x) ≤ deep v ∧ wf (repl v s x) := by
    obtain ⟨_, _, hcd⟩ := child_len hc
    cases v with
    | obj l =>
      have := put_deep s x l
      rw [repl, deep, deep]
      rw [deep] at hcd
      refine ⟨by omega, ?_⟩
      have hw := wf_obj hv.1
      rw [wf]; exact ⟨put_srt hw.1, put_wf (name_stands hw.2 hc) h1.1 hw.2⟩
    | list l =>
      obtain ⟨n, k1, k2⟩ := Option.bind_eq_some_iff.1 hc
      rw [repl, k1]
      dsimp only
      have := deepL_set l n x
      rw [deep, deep]
      rw [deep] at hcd
      refine ⟨by omega, ?_⟩
      rw [wf]; exact wfL_set (wf_list hv.1) h1.1
    | _ => cases hc
  have f2 := hv.2.1
  have f3 := hv.2.2.1
  have f4 := hv.2.2.2
  exact ⟨⟨d.2, by omega, by omega, by omega⟩, by omega, by omega, d.1⟩
theorem cutL_less {v u : JV} {s : Bs} (hv : Fit v) (h : cutL v s = some u) : Less v u := by
  have f2 := hv.2.1
  have f3 := hv.2.2.1
  have f4 := hv.2.2.2
  cases v with
  | obj l =>
    have hw := wf_obj hv.1
    rw [cutL] at h
    cases hg : get s l with
    | none => rw [hg] at h; cases h
    | some was =>
      rw [hg] at h
      cases h
      have a := lenF_cut_get (n := s) hw.1
      rw [hg] at a
      simp only [wO] at a
      have := obj_len_le (cut s l)
      have := obj_len_ge l
      have := sizeF_cut s l
      have := deepF_cut s l
      have hq : 2 ≤ (quote s).length := by rw [quote_len]; omega
      have g1 : size (.obj (cut s l)) ≤ size (.obj l) := by rw [size, size]; omega
      have g2 : deep (.obj (cut s l)) ≤ deep (.obj l) := by rw [deep, deep]; omega
      have g3 : (text (.obj (cut s l))).length ≤ (text (.obj l)).length := by omega
      exact ⟨⟨by rw [wf]; exact ⟨srt_cut s hw.1, wfF_cut s hw.2⟩, by omega, by omega, by omega⟩, g3, g1, g2⟩
  | list l =>
    rw [cutL] at h
    cases hp : idx s l.length with
    | none => rw [hp] at h; cases h
    | some n =>
      rw [hp] at h
      cases h
      obtain ⟨h1, _⟩ := idx_some hp
      have := lenL_erase (List.getElem?_eq_getElem h1)
      have := sizeL_erase (List.getElem?_eq_getElem h1)
      have := list_len_ge l
      have := list_len_le (l.eraseIdx n)
      have := deepL_erase l n
      have g1 : size (.list (l.eraseIdx n)) ≤ size (.list l) := by rw [size, size]; omega
      have g2 : deep (.list (l.eraseIdx n)) ≤ deep (.list l) := by rw [deep, deep]; omega
      have g3 : (text (.list (l.eraseIdx n))).length ≤ (text (.list l)).length := by omega
      exact ⟨⟨by rw [wf]; exact wfL_erase (wf_list hv.1), by omega, by omega, by omega⟩, g3, g1, g2⟩
  | _ => cases h
theorem cutW_less : ∀ {l : List Bs} {v u : JV}, Fit v → cutW v l = some u → Less v u
  | [], v, u, _, h => by unfold cutW at h; rw [under] at h; cases h
  | [s], v, u, hv, h => by unfold cutW at h; rw [under_one] at h; exact cutL_less hv h
  | s :: t :: r, v, u, hv, h => by
    unfold cutW at h
    rw [under_more] at h
    obtain ⟨c, hc, h⟩ := Option.bind_eq_some_iff.1 h
    obtain ⟨x, hx, rfl⟩ := Option.map_eq_some_iff.1 h
    exact repl_less hv hc (cutW_less (l := t :: r) (child_fit hv hc) hx)
end JP
end Go.Proofs.YtdcmnpeabjallaaGreatDoor
namespace Go.Proofs.YtdcmnpeabjallaaGreatDoor
open Go.RowKit
open JP (JV Bs)
theorem store_val {w : World} {B g n c i : Nat} {e : TypeId} {xs : List Value} {v : Value} (h : OwnAt RVal 1 w B e (.slice (some ⟨g, 0, none⟩) n c) xs) (hi : i < xs.length) (hv : v.oneCell' = true) :
    ∃ w3, (storeCells ⟨g, i, none⟩ [v]).run Tryz.prog w = .ok () w3 ∧ OwnAt RVal 1 w3 B e (.slice (some ⟨g, 0, none⟩) n c) (xs.set i v) ∧ Touch g w w3 := by
  obtain ⟨css, hc1, hc2, hc3, hc4⟩ := h
  have h : OwnAt RVal 1 w B e (.slice (some ⟨g, 0, none⟩) n c) xs := ⟨css, hc1, hc2, hc3, hc4⟩
  obtain ⟨o1, o2⟩ := h.storeElem flat_val hi (cs := [v]) rfl (x := v) ⟨rfl, hv⟩
  have hle : xs.length ≤ c := by
    rcases h.form with ⟨h5, _⟩ | ⟨g', c', h5, _, _, h6, _⟩
    · cases h5
    · cases h5; exact h6
  have ht := h.there (o := i) (m := 1) (by omega)
  have e1 : w.setCells g (i * 1) [v] = w.setCell ⟨g, i, none⟩ v := by rw [Nat.mul_one]; rfl
  rw [e1] at o1 o2
  refine ⟨_, ?_, o1, o2⟩
  have h9 := run_storeCells_cells (P := Tryz.prog) g i [v] 0 w (fun j hj => by
    obtain rfl : j = 0 := by simpa using hj
    exact (ht 0 (by omega)).1) (fun j hj => by
    obtain rfl : j = 0 := by simpa using hj
    exact (ht 0 (by omega)).2) (fun u hu => by rw [List.mem_singleton.1 hu]; exact hv)
  rw [h9]; rfl
theorem jv_list {n : Nat} {w : World} {v : Value} {xs : List Value} {l : List JV} (h : RowAt RVal 1 w v xs) (hl : xs.length = l.length) (hx : ∀ (j : Nat) (u : Value) (y : JV), xs[j]? = some u → l[j]? = some y → JvAt n [] w u y) : JvAt (n + 1) [] w (.iface 87 v) (.list l) :=
  ⟨v, rfl, h.ofRaw hl fun j u y hu hy => ⟨u, rfl, hx j u y hu hy⟩, fun _ b _ hm => by cases hm⟩
theorem list_raw {n : Nat} {w : World} {u : Value} {l : List JV} (h : RowAt (JvR n []) 1 w u l) : ∃ xs, xs.length = l.length ∧ RowAt RVal 1 w u xs ∧ ∀ (j : Nat) (v : Value) (x : JV), xs[j]? = some v → l[j]? = some x → JvAt n [] w v x := by
  obtain ⟨xs, h1, h2, h3⟩ := h.raw (one_jv n [])
  exact ⟨xs, h1, h2, fun j v x hv hx => by obtain ⟨v', e, h⟩ := h3 j v x hv hx; cases e; exact h⟩
theorem jv_cell {n : Nat} {w : World} {v : Value} {x : JV} (h : JvAt n [] w v x) : v.oneCell' = true := one_jv n [] w [v] x ⟨v, rfl, h⟩ v (List.mem_singleton.2 rfl)
def MadeAt (x : JV) (w : World) (e : Ending) (w' : World) : Prop := ∃ u, e = .returned u ∧ (∃ k, JvAt k [] w' u x) ∧ Below w.heap.size w w'
set_option maxRecDepth 100000 in
set_option maxHeartbeats 3200000 in
theorem replaced_any {n m : Nat} {v wv : Value} {x y c : JV} {s : Bs} {w : World} (h : JvAt n [] w v x) (hy : JvAt m [] w wv y) (hc : JP.child x s = some c) (hz : (JP.text x).length ≤ 1000000) (hs : s.length ≤ 1048576) (ht : TabOK w) (he : ErrOK w) :
    Calls Tryz.prog 132 #[v, .string (mkB s), wv] w (MadeAt (JP.repl x s y) w) := by
  obtain ⟨R0, hR⟩ : ∃ R, JP.repl x s y = R := ⟨_, rfl⟩
  rw [hR]
  have HR := Lib.hid hR
  clear hR
  cases n with
  | zero => cases h
  | succ n =>
    have way : (∃ l, x = .obj l) ∨ (∃ l, x = .list l) := by
      cases x with
      | obj l => exact .inl ⟨l, rfl⟩
      | list l => exact .inr ⟨l, rfl⟩
      | _ => cases hc
    rcases way with ⟨l, rfl⟩ | ⟨l, rfl⟩
    · obtain ⟨q, rfl, ho⟩ := h
      have G1 := (as_obj (.pointer (some ⟨q, 0, none⟩))).2.2.2.2
      have hl : l.length ≤ 1000000 := by have := lenF_len l; have := JP.obj_len_ge l; omega
      have HWi := Lib.hid (with_any (x := s) (ho.upsJ (Nat.le_max_left n m)) (hy.ups (Nat.le_max_right n m)) (fun b hb => by cases hb) (by omega))
      clear ho hy ht he hz hs hl hc
      go_enter Tryz.func132, Tryz.ntmps132
      go_wp2_with fail
      refine HWi.out.mono ?_
      rintro E w1 ⟨q', rfl, ho, hb⟩
      have HB := Lib.hid hb
      have HO := Lib.hid ho
      clear hb ho
      go_wp2_with fail
      go_ret
      exact ⟨_, rfl, ⟨max n m + 1, by rw [← HR.out]; exact ⟨q', rfl, HO.out⟩⟩, HB.out⟩
    · obtain ⟨u, rfl, hr, _⟩ := h
      obtain ⟨a1, c1, rfl, _, _⟩ := hr.len
      obtain ⟨G1, G2⟩ := (as_list (.slice a1 l.length c1)).2.2.2
      have hl : l.length ≤ 1000000 := by have := lenL_len l; have := JP.list_len_ge l; omega
      obtain ⟨k, hix, _⟩ := Option.bind_eq_some_iff.1 (show (JP.idx s l.length).bind (fun n => l[n]?) = some c from hc)
      have HI := Lib.hid (index_yes hix hs (by omega) ht he)
      obtain ⟨k1, _⟩ := JP.idx_some hix
      have HR2 : Hid (R0 = .list (l.set k y)) := Lib.hid (by rw [← HR.out, JP.repl, hix])
      obtain ⟨xs, x1, x2, x3⟩ := list_raw hr
      have HC := Lib.hid (fun w' (hb : Below w.heap.size w w') => cloneVal_any (.slice a1 l.length c1) xs w' (x2.below stays_val hb) (by omega))
      have HX3 := Lib.hid x3
      have HX1 := Lib.hid x1
      have HY := Lib.hid hy
      have hv1 := jv_cell hy
      have q1 : (0 : Int) ≤ (k : Int) := by omega
      clear ht he hs hr x2 x3 hc hz HR hix x1 hy
      go_enter Tryz.func132, Tryz.ntmps132
      go_wp2_with fail
      refine HI.out.mono ?_
      rintro E w1 ⟨rfl, hb⟩
      have HB1 := Lib.hid hb
      clear hb
      go_wp2_with fail
      refine (HC.out w1 HB1.out).mono ?_
      rintro E w2 ⟨v9, rfl, hown, hb⟩
      have HB2 := Lib.hid (HB1.out.trans (hb.mono HB1.out.size))
      rcases hown.form with ⟨_, h0⟩ | ⟨g, c9, rfl, hB, hg, _, _⟩
      · have := HX1.out; rw [h0] at this; simp only [List.length_nil] at this; omega
      · obtain ⟨w3, hst, hown3, t3⟩ := store_val hown (i := k) (by rw [HX1.out]; exact k1) hv1
        have hb3 : Below w.heap.size w w3 := t3.below HB2.out (by have := HB1.out.size; omega)
        have HB3 := Lib.hid hb3
        have HO3 := Lib.hid hown3
        rw [HX1.out]
        have q2 : (k : Int) < (l.length : Int) := by omega
        have Hst := Lib.hid hst
        clear hst hown hb hown3 t3 hb3
        go_wp2_with fail
        rw [Hst.out]
        go_wp2_with fail
        go_ret
        refine ⟨_, rfl, ⟨max n m + 1, ?_⟩, HB3.out⟩
        rw [HR2.out]
        have hrow := HO3.out.row
        rw [HX1.out] at hrow
        refine jv_list hrow (by rw [List.length_set, List.length_set, HX1.out]) fun j u z hu hz => ?_
        by_cases hjk : j = k
        · subst hjk
          rw [List.getElem?_set_self (by rw [HX1.out]; omega)] at hu
          rw [List.getElem?_set_self k1] at hz
          cases hu
          cases hz
          exact (HY.out.below HB3.out).ups (Nat.le_max_right n m)
        · rw [List.getElem?_set_ne (fun e => hjk e.symm)] at hu hz
          exact ((HX3.out j u z hu hz).below HB3.out).ups (Nat.le_max_left n m)
end Go.Proofs.YtdcmnpeabjallaaGreatDoor
namespace Go.Proofs.YtdcmnpeabjallaaGreatDoor
open Go.RowKit
open JP (JV Bs)
namespace JP
def codE (c : Int) : Option JV → Int
  | some _ => 0
  | none => c
end JP
def MadeE (o : Option JV) (w : World) (e : Ending) (w' : World) : Prop := ∃ u, e = .returned (.tuple #[u, .int .i64 (JP.codE 7 o)]) ∧ (∀ z, o = some z → ∃ k, JvAt k [] w' u z) ∧ Below w.heap.size w w'
theorem MadeE.no {w w' : World} {o : Option JV} {u : Value} (ho : o = none) (hb : Below w.heap.size w w') : MadeE o w (.returned (.tuple #[u, .int .i64 7])) w' := by
  subst ho
  exact ⟨_, rfl, fun c h => (by cases h), hb⟩
theorem MadeE.yes {w w' : World} {o : Option JV} {k : Nat} {c : JV} {u : Value} (ho : o = some c) (h : JvAt k [] w' u c) (hb : Below w.heap.size w w') : MadeE o w (.returned (.tuple #[u, .int .i64 0])) w' := by
  subst ho
  exact ⟨_, rfl, fun d e => (by cases e; exact ⟨k, h⟩), hb⟩
theorem str_cell {w wr : World} {l : List Bs} {i c : Nat} {a : Option Addr} {y : Bs} {n : Nat} (h : StrAt w (.slice a n c) (l.map mkB)) (hb : Below w.heap.size w wr) (hy : l[i]? = some y) : ∃ b o, a = some ⟨b, o, none⟩ ∧ wr.cell? ⟨b, o + i, none⟩ = some (.string (mkB y)) := by
  have hil := (List.getElem?_eq_some_iff.1 hy).1
  obtain ⟨b1, o1, c', hv1, _, _, hbs1, hcell1⟩ := h.row.form (by rw [List.length_map]; omega) (by omega)
  injection hv1 with u1 u2 u3
  obtain ⟨ds1, _, hcc1, hR1⟩ := hcell1 i (mkB y) (by rw [List.getElem?_map, hy]; rfl)
  obtain rfl : ds1 = [.string (mkB y)] := hR1
  exact ⟨b1, o1, u1, (hb.cell (p := ⟨b1, _, none⟩) hbs1).trans (by simpa using hcc1 0 _ rfl)⟩
set_option maxRecDepth 100000 in
set_option maxHeartbeats 6400000 in
theorem under0_any {f : FuncId} {Cap : World → Prop} {F : JV → Bs → Option JV} (enter : ∀ (a : Array Value) (w : World), (callFunc f a).run Tryz.prog w = .ok (.enter f a) w)
    (keepC : ∀ w w' : World, Cap w → Below w.heap.size w w' → Cap w')
    (clo : ∀ (n : Nat) (v : Value) (x : JV) (s : Bs) (w : World), JvAt n [] w v x → (JP.text x).length ≤ 1000000 → s.length ≤ 1048576 → TabOK w → ErrOK w → Cap w → Calls Tryz.prog f #[v, .string (mkB s)] w (MadeE (F x s) w)) :
    ∀ (l : List Bs) (n : Nat) (v sv : Value) (x : JV) (w : World), l ≠ [] → JvAt n [] w v x → (JP.text x).length ≤ 1000000 → StrAt w sv (l.map mkB) → (∀ s ∈ l, s.length ≤ 1048576) → l.length ≤ 1048576 → TabOK w → ErrOK w → Cap w →
      Calls Tryz.prog 97 #[v, sv, .func (.func f) #[] #[]] w (MadeE (JP.under F x l) w) := by
  have HClo := Lib.hid clo
  have HK := Lib.hid keepC
  have ep := enter
  clear clo keepC enter
  intro l
  induction l with
  | nil => intro n v sv x w h; exact absurd rfl h
  | cons s r ih =>
    intro n v sv x w _ h hz hs hl hll ht he hc
    obtain ⟨a1, c1, hu, hlc, _⟩ := hs.len
    rw [List.length_map] at hu hlc
    subst hu
    obtain ⟨b, o, ea, e0⟩ := str_cell (wr := w) hs (Below.refl _ _) (i := 0) (y := s) rfl
    subst ea
    have e0 : w.cell? ⟨b, o, none⟩ = some (.string (mkB s)) := e0
    have hsl := hl s (List.mem_cons_self ..)
    cases r with
    | nil =>
      have HC := Lib.hid (HClo.out n v x s w h hz hsl ht he hc)
      rw [JP.under_one]
      clear ih h hz hs hl hll ht he hc hsl hlc
      go_enter Tryz.func97, Tryz.ntmps97
      go_wp2_with fail
      refine HC.out.mono ?_
      rintro E w1 ⟨u, rfl, hu, hb⟩
      have HU := Lib.hid hu
      have HB := Lib.hid hb
      clear hb hu
      go_wp2_with fail
      go_ret2
      exact ⟨u, rfl, HU.out, HB.out⟩
    | cons t r =>
      obtain ⟨R0, hR⟩ : ∃ R, JP.under F x (s :: t :: r) = R := ⟨_, rfl⟩
      rw [hR]
      have HR : Hid (R0 = (JP.child x s).bind fun c => (JP.under F c (t :: r)).map (JP.repl x s)) := Lib.hid (by rw [← hR, JP.under_more])
      clear hR
      have hlen : (s :: t :: r).length = (t :: r).length + 1 := rfl
      obtain ⟨m, hm⟩ : ∃ m, (t :: r).length = m := ⟨_, rfl⟩
      have hm1 : 1 ≤ m := by rw [← hm, List.length_cons]; omega
      rw [hm] at hlen
      rw [hlen] at hs hll hlc ⊢
      have hcut := hs.cut (i := 1) (j := m + 1) (b := b) (o := o) (c := c1) (by rw [List.length_map, hlen]) (by omega) (by rw [List.length_map, hlen]; omega)
      rw [List.take_of_length_le (by rw [List.length_map, hlen]; omega), List.map_cons, List.drop_one, List.tail_cons] at hcut
      have HCut := Lib.hid hcut
      have HCh := Lib.hid (child_any (s := s) h hz hsl ht he)
      have H := Lib.hid h
      have Hz := Lib.hid hz
      have Hl := Lib.hid hl
      have HT := Lib.hid ht
      have HE := Lib.hid he
      have HCp := Lib.hid hc
      have IH := Lib.hid ih
      have Hm := Lib.hid hm
      have q1 : ((m : Int) + 1 == 1) = false := by rw [beq_eq_false_iff_ne]; omega
      have q2 : (0 : Int) < (m : Int) + 1 := by omega
      have q3 : (1 : Int) ≤ (m : Int) + 1 := by omega
      have q4 : (m : Int) + 1 ≤ (c1 : Int) := by omega
      have q5 : ((m : Int) + 1).toNat = m + 1 := by omega
      clear ih h hz hs hl ht he hc hcut hm hlen
      cases hcd : JP.child x s with
      | none =>
        rw [hcd] at HCh
        have HN : Hid (R0 = none) := Lib.hid (by rw [HR.out, hcd]; rfl)
        clear hcd
        go_enter Tryz.func97, Tryz.ntmps97
        go_wp2_with fail
        refine HCh.out.mono ?_
        rintro E w1 ⟨u, rfl, _, hb⟩
        have HB := Lib.hid hb
        clear hb
        go_wp2_with fail
        go_ret2
        exact MadeE.no HN.out HB.out
      | some c =>
        rw [hcd] at HCh
        have HRc : Hid (R0 = (JP.under F c (t :: r)).map (JP.repl x s)) := Lib.hid (by rw [HR.out, hcd]; rfl)
        have Hcd := Lib.hid hcd
        have hcl := (JP.child_len hcd).1
        have Hcl : Hid ((JP.text c).length ≤ 1000000) := Lib.hid (by have := Hz.out; omega)
        clear hcd hcl
        go_enter Tryz.func97, Tryz.ntmps97
        go_wp2_with fail
        refine HCh.out.mono ?_
        rintro E w1 ⟨u, rfl, hu, hb⟩
        obtain ⟨k1, hk1⟩ := hu c rfl
        have HB := Lib.hid hb
        have hcall := IH.out k1 u (.slice (some ⟨b, o + 1, none⟩) (m + 1 - 1) (c1 - 1)) c w1 (by intro e; cases e) hk1 Hcl.out (HCut.out.below hb) (fun s' hs' => Hl.out s' (List.mem_cons_of_mem _ hs')) (by rw [Hm.out]; omega) (HT.out.below hb) (HE.out.below hb) (HK.out _ _ HCp.out hb)
        obtain ⟨R1, hR1⟩ : ∃ R, JP.under F c (t :: r) = R := ⟨_, rfl⟩
        rw [hR1] at hcall
        have HRR : Hid (R0 = R1.map (JP.repl x s)) := Lib.hid (by rw [HRc.out, hR1])
        have HCa := Lib.hid hcall
        clear hcall hR1 hk1 hu hb
        go_wp2_with fail
        refine HCa.out.mono ?_
        rintro E w2 ⟨u2, rfl, hu2, hb2⟩
        have HB2 := Lib.hid (HB.out.trans (hb2.mono HB.out.size))
        cases R1 with
        | none =>
          have HN : Hid (R0 = none) := Lib.hid HRR.out
          have hq : JP.codE 7 none = 7 := rfl
          rw [hq]
          clear hb2 hu2 hq
          go_wp2_with fail
          go_ret2
          exact MadeE.no HN.out HB2.out
        | some z =>
          have HN : Hid (R0 = some (JP.repl x s z)) := Lib.hid HRR.out
          obtain ⟨k2, hk2⟩ := hu2 z rfl
          have hrep := replaced_any (s := s) (H.out.below HB2.out) hk2 Hcd.out Hz.out hsl (HT.out.below HB2.out) (HE.out.below HB2.out)
          have HRp := Lib.hid hrep
          have hq : JP.codE 7 (some z) = 0 := rfl
          have e2 : w2.cell? ⟨b, o, none⟩ = some (.string (mkB s)) := (HB2.out.cell (p := ⟨b, o, none⟩) (World.block_lt_of_cell? w ⟨b, o, none⟩ e0)).trans e0
          rw [hq]
          clear hb2 hu2 hq hk2 hrep
          go_wp2_with fail
          refine HRp.out.mono ?_
          rintro E w3 ⟨u3, rfl, ⟨k3, hk3⟩, hb3⟩
          have HB3 := Lib.hid (HB2.out.trans (hb3.mono HB2.out.size))
          have HJ := Lib.hid hk3
          clear hb3 hk3
          go_wp2_with fail
          go_ret2
          exact MadeE.yes HN.out HJ.out HB3.out
end Go.Proofs.YtdcmnpeabjallaaGreatDoor
namespace Go.Proofs.YtdcmnpeabjallaaGreatDoor
open Go.RowKit
open JP (JV Bs)
def BoxOf (cb : Nat) (y : JV) (w : World) : Prop := ∃ wv m, w.cell? ⟨cb, 0, none⟩ = some wv ∧ JvAt m [] w wv y
theorem BoxOf.below {cb : Nat} {y : JV} {w w' : World} (h : BoxOf cb y w) (hb : Below w.heap.size w w') : BoxOf cb y w' := by
  obtain ⟨wv, m, h1, h2⟩ := h
  exact ⟨wv, m, (hb.cell (p := ⟨cb, 0, none⟩) (World.block_lt_of_cell? w ⟨cb, 0, none⟩ h1)).trans h1, h2.below hb⟩
theorem three_ways (x : JV) : (∃ l, x = .obj l) ∨ (∃ l, x = .list l) ∨ ((∀ l, x ≠ .obj l) ∧ (∀ l, x ≠ .list l)) := by
  cases x with
  | obj l => exact .inl ⟨l, rfl⟩
  | list l => exact .inr (.inl ⟨l, rfl⟩)
  | _ => exact .inr (.inr ⟨fun l e => (by cases e), fun l e => (by cases e)⟩)
set_option maxRecDepth 100000 in
set_option maxHeartbeats 6400000 in
theorem tcutL_any (n : Nat) (v : Value) (x : JV) (s : Bs) (w : World) (h : JvAt n [] w v x) (hz : (JP.text x).length ≤ 1000000) (hs : s.length ≤ 1048576) (ht : TabOK w) (he : ErrOK w) :
    Calls Tryz.prog 98 #[v, .string (mkB s)] w (MadeE (JP.cutL x s) w) := by
  obtain ⟨R0, hR⟩ : ∃ R, JP.cutL x s = R := ⟨_, rfl⟩
  rw [hR]
  have HR := Lib.hid hR
  clear hR
  have HCh := Lib.hid (child_any (s := s) h hz hs ht he)
  cases n with
  | zero => cases h
  | succ n =>
    have G1o : ∀ hh : (∀ l, x ≠ .obj l), _ := fun hh => as_other h hh
    cases hcd : JP.child x s with
    | none =>
      rw [hcd] at HCh
      have HN : Hid (R0 = none) := Lib.hid (by
        rw [← HR.out]
        cases x with
        | obj l => rw [JP.cutL, if_neg (by rw [show JP.get s l = none from hcd]; decide)]
        | list l =>
          rw [JP.cutL]
          cases hi : JP.idx s l.length with
          | none => rfl
          | some k =>
            have h9 : (JP.idx s l.length).bind (fun n => l[n]?) = none := hcd
            rw [hi] at h9
            have := (JP.idx_some hi).1
            have h8 : l[k]? = none := h9
            rw [List.getElem?_eq_getElem this] at h8
            cases h8
        | _ => rfl)
      clear hcd G1o h hz hs ht he HR
      go_enter Tryz.func98, Tryz.ntmps98
      go_wp2_with fail
      refine HCh.out.mono ?_
      rintro E w1 ⟨u, rfl, _, hb⟩
      have HB := Lib.hid hb
      clear hb
      go_wp2_with fail
      go_ret2
      exact MadeE.no HN.out HB.out
    | some c =>
      rw [hcd] at HCh
      clear G1o
      rcases three_ways x with ⟨l, rfl⟩ | ⟨l, rfl⟩ | ⟨h1, h2⟩
      · obtain ⟨q, rfl, ho⟩ := h
        have G1 := (as_obj (.pointer (some ⟨q, 0, none⟩))).2.2.2.2
        have hl : l.length ≤ 1000000 := by have := lenF_len l; have := JP.obj_len_ge l; omega
        have HWi := Lib.hid (fun (w' : World) (hb : Below w.heap.size w w') => without_any (x := s) (ho.keepJ (KeepT.of hb)) (fun b hb => by cases hb) (by omega))
        have HN : Hid (R0 = some (.obj (JP.cut s l))) := Lib.hid (by rw [← HR.out, JP.cutL, if_pos (by rw [show JP.get s l = some c from hcd]; rfl)])
        clear ho ht he hz hs hl hcd HR
        go_enter Tryz.func98, Tryz.ntmps98
        go_wp2_with fail
        refine HCh.out.mono ?_
        rintro E w1 ⟨u, rfl, _, hb⟩
        have HB1 := Lib.hid hb
        clear hb
        go_wp2_with fail
        refine (HWi.out w1 HB1.out).mono ?_
        rintro E w2 ⟨q', rfl, ho, hb⟩
        have HB := Lib.hid (HB1.out.trans (hb.mono HB1.out.size))
        have HO := Lib.hid ho
        clear hb ho
        go_wp2_with fail
        go_ret2
        exact MadeE.yes (k := n + 1) HN.out ⟨q', rfl, HO.out⟩ HB.out
      · obtain ⟨u, rfl, hr, _⟩ := h
        obtain ⟨a1, c1, rfl, _, _⟩ := hr.len
        obtain ⟨G1, G2⟩ := (as_list (.slice a1 l.length c1)).2.2.2
        have hl : l.length ≤ 1000000 := by have := lenL_len l; have := JP.list_len_ge l; omega
        obtain ⟨k, hix, _⟩ := Option.bind_eq_some_iff.1 (show (JP.idx s l.length).bind (fun n => l[n]?) = some c from hcd)
        have k1 := (JP.idx_some hix).1
        have HI := Lib.hid (fun (w' : World) (hb : Below w.heap.size w w') => index_yes hix hs (by omega) (ht.below hb) (he.below hb))
        have HN : Hid (R0 = some (.list (l.eraseIdx k))) := Lib.hid (by rw [← HR.out, JP.cutL, hix])
        obtain ⟨xs, x1, x2, x3⟩ := list_raw hr
        have HC1 := Lib.hid (fun w' (hb : Below w.heap.size w w') => cloneVal_any (.slice a1 l.length c1) xs w' (x2.below stays_val hb) (by omega))
        have HX3 := Lib.hid x3
        have HX1 := Lib.hid x1
        clear ht he hs hr x2 x3 hz HR hix x1 hcd
        go_enter Tryz.func98, Tryz.ntmps98
        go_wp2_with fail
        refine HCh.out.mono ?_
        rintro E w1 ⟨u, rfl, _, hb⟩
        have HB1 := Lib.hid hb
        clear hb
        go_wp2_with fail
        refine (HI.out w1 HB1.out).mono ?_
        rintro E w2 ⟨rfl, hb⟩
        have HB2 := Lib.hid (HB1.out.trans (hb.mono HB1.out.size))
        clear hb
        go_wp2_with fail
        refine (HC1.out w2 HB2.out).mono ?_
        rintro E w3 ⟨v9, rfl, hown, hb⟩
        have HB3 := Lib.hid (HB2.out.trans (hb.mono HB2.out.size))
        have HD := Lib.hid (delVal_any v9 xs w2.heap.size k w3 hown (by rw [HX1.out]; exact k1) (by rw [HX1.out]; omega))
        have hs2 := HB2.out.size
        clear hown hb
        go_wp2_with fail
        refine HD.out.mono ?_
        rintro E w4 ⟨g, c9, _, hB, rfl, hown, t4⟩
        have HB4 : Hid (Below w.heap.size w w4) := Lib.hid (t4.below HB3.out (by omega))
        have HO := Lib.hid hown
        clear hown t4
        go_wp2_with fail
        go_ret2
        refine MadeE.yes (k := n + 1) HN.out ?_ HB4.out
        refine jv_list HO.out.row (by rw [List.length_eraseIdx_of_lt (by rw [HX1.out]; exact k1), List.length_eraseIdx_of_lt k1, HX1.out]) fun j u z hu hz => ?_
        exact pairs_erase (P := fun u z => JvAt n [] w4 u z) (fun j u z hu hz => (HX3.out j u z hu hz).below HB4.out) k j u z hu hz
      · exfalso
        cases x with
        | obj l => exact absurd rfl (h1 l)
        | list l => exact absurd rfl (h2 l)
        | _ => cases hcd
theorem enter_tcut (a : Array Value) (w : World) : (callFunc 98 a).run Tryz.prog w = .ok (.enter 98 a) w := by kernel_rfl
set_option maxRecDepth 100000 in
set_option maxHeartbeats 3200000 in
theorem tcut_any {n : Nat} {v sv : Value} {x : JV} {l : List Bs} {w : World} (h : JvAt n [] w v x) (hz : (JP.text x).length ≤ 1000000) (hs : StrAt w sv (l.map mkB)) (hl : ∀ s ∈ l, s.length ≤ 1048576) (hll : l.length ≤ 1048576) (h0 : l ≠ []) (ht : TabOK w) (he : ErrOK w) :
    Calls Tryz.prog 68 #[v, sv] w (MadeE (JP.cutW x l) w) := by
  have HU := Lib.hid (under0_any (F := JP.cutL) enter_tcut (Cap := fun _ => True) (fun _ _ _ _ => trivial) (fun n v x s w' h1 h2 h3 h4 h5 _ => tcutL_any n v x s w' h1 h2 h3 h4 h5) l n v sv x w h0 h hz hs hl hll ht he trivial)
  unfold JP.cutW
  clear h hz hs hl hll ht he h0
  go_enter Tryz.func68, Tryz.ntmps68
  go_wp2_with fail
  refine HU.out.mono ?_
  rintro E w1 ⟨u, rfl, hu, hb1⟩
  have HB1 := Lib.hid hb1
  have Hu := Lib.hid hu
  clear hb1 hu
  go_wp2_with fail
  go_ret2
  exact ⟨u, rfl, Hu.out, HB1.out⟩
end Go.Proofs.YtdcmnpeabjallaaGreatDoor
namespace Go.Proofs.YtdcmnpeabjallaaGreatDoor
open Go.RowKit Go.MapKept Go.ChangeMaps
open JP (JV Bs Lf)
noncomputable def dropG (live : JV) (bk : BookF) (m : Bs) (W : List Leaf) (ps : List Bs) : JV := ps.foldl (fun v p => if (W.any (fun x => JP.pathL x == p) || othersG bk m (JP.touchB p)) = true then v else JP.cutP v p) live
theorem dropG_more (live : JV) (bk : BookF) (m : Bs) (W : List Leaf) (ps : List Bs) (p : Bs) : dropG live bk m W (ps ++ [p]) = if (W.any (fun x => JP.pathL x == p) || othersG bk m (JP.touchB p)) = true then dropG live bk m W ps else JP.cutP (dropG live bk m W ps) p := by
  unfold dropG
  rw [List.foldl_append]; rfl
theorem cutP_fit {v : JV} (p : Bs) (h : JP.Fit v) : JP.Fit (JP.cutP v p) := by
  unfold JP.cutP
  cases hc : JP.cutW v (stepsP p).2 with
  | none => exact h
  | some u => exact (JP.cutW_less h hc).1
theorem dropG_fit (bk : BookF) (m : Bs) (W : List Leaf) : ∀ (ps : List Bs) (v : JV), JP.Fit v → JP.Fit (dropG v bk m W ps)
  | [], _, h => h
  | p :: ps, v, h => by
    unfold dropG
    rw [List.foldl_cons]
    refine dropG_fit bk m W ps _ ?_
    split
    · exact h
    · exact cutP_fit p h
set_option maxRecDepth 100000 in
set_option maxHeartbeats 1600000 in
theorem drop1_any {gp : Nat} {sv vv : Value} {w : World} (x : Leaf) (hx : LeafFit x) (hr : LeafR w [.string (mkB (pathP x.1)), sv, vv] x) (p : ByteArray) (hg : w.heap[gp]? = some (.cells #[.string p] 9 (0, 0))) :
    Calls Tryz.prog 64 #[.agg #[.string (mkB (pathP x.1)), sv, vv], .pointer (some ⟨gp, 0, none⟩)] w fun e w' => e = .returned (.bool (JP.pathL x == p.data.toList)) ∧ Below w.heap.size w w' := by
  obtain ⟨_, _, hcs, hs, hv⟩ := hr
  simp only [List.cons.injEq, and_true, true_and] at hcs
  obtain ⟨rfl, rfl⟩ := hcs
  obtain ⟨sa, sc, rfl, -, -⟩ := hs.row.len
  have hvf : vv = .nilIface ∨ ∃ t u, vv = .iface t u := by obtain ⟨k, hk⟩ := hv; exact jv_form hk
  obtain ⟨sn, hsn⟩ : ∃ sn, (x.1.map mkB).length = sn := ⟨_, rfl⟩
  rw [hsn] at hs ⊢
  have hpath := hx.path
  rw [hpath]
  obtain ⟨X, hX⟩ : ∃ X, JP.pathL x = X := ⟨_, rfl⟩
  rw [hX]
  have e1 : ((mkB X).toList == p.toList) = (X == p.data.toList) := by rw [ByteArray.toList_eq, ByteArray.toList_eq, mkB_list]
  obtain ⟨ans, Hans⟩ : ∃ ans, Hid ((X == p.data.toList) = ans) := ⟨_, Lib.hid rfl⟩
  rw [Hans.out] at e1 ⊢
  obtain ⟨w1, hw1⟩ : ∃ w1, w1 = w.alloc (.cells #[.string (mkB X), .slice sa sn sc, vv] 65) := ⟨_, rfl⟩
  obtain ⟨gb, hgb⟩ : ∃ gb, gb = w.heap.size := ⟨_, rfl⟩
  have b1 : w1.heap[gb]? = some (.cells #[.string (mkB X), .slice sa sn sc, vv] 65 (0, 0)) := by rw [hw1, hgb]; exact heap_alloc_new w _
  have hb1 : Below w.heap.size w w1 := by rw [hw1]; exact (Below.refl _ w).alloc (Nat.le_refl _) _
  have c2 := fun i => cell_block b1 i
  have c3 := fun i => cell_block (below_block hb1 hg) i
  have HB1 := Lib.hid hb1
  clear hx hsn hs hv hg hb1 b1 hpath hX
  rcases hvf with rfl | ⟨vt, vu, rfl⟩
  all_goals
    go_enter Tryz.func64, Tryz.ntmps64
    go_upto_region 1 with fail
    rw [← hw1]
    try rw [← hgb]
    clear hw1 hgb
    go_wp2_with fail
    go_ret
    exact ⟨rfl, HB1.out⟩
set_option maxRecDepth 100000 in
set_option maxHeartbeats 1600000 in
theorem drop2_any {gp : Nat} {w : World} (q : ByteArray) (hq : q.size ≤ 1048576) (p : ByteArray) (hp : p.size ≤ 1048576) (hg : w.heap[gp]? = some (.cells #[.string p] 9 (0, 0))) :
    Calls Tryz.prog 65 #[.string q, .pointer (some ⟨gp, 0, none⟩)] w fun e w' => e = .returned (.bool (JP.touchB p.data.toList q.data.toList)) ∧ Below w.heap.size w w' := by
  have HT := Lib.hid (touch_any p.data.toList q.data.toList w (by rw [Array.length_toList]; exact hp) (by rw [Array.length_toList]; exact hq))
  rw [mkB_of, mkB_of] at HT
  have c3 := fun i => cell_block hg i
  obtain ⟨ans, Hans⟩ : ∃ ans, Hid (JP.touchB p.data.toList q.data.toList = ans) := ⟨_, Lib.hid rfl⟩
  rw [Hans.out] at HT ⊢
  clear hg hp hq
  go_enter Tryz.func65, Tryz.ntmps65
  go_wp2_with fail
  refine HT.out.mono ?_
  rintro E w1 ⟨rfl, rfl⟩
  go_wp2_with fail
  go_ret
  exact ⟨rfl, Below.refl _ _⟩
theorem run_drop1 : ∀ (a : Array Value) (w : World), (callFunc 64 a).run Tryz.prog w = .ok (.enter 64 a) w := run_callFunc_body Tryz.func64 (by kernel_rfl) (by kernel_rfl)
theorem run_drop2 : ∀ (a : Array Value) (w : World), (callFunc 65 a).run Tryz.prog w = .ok (.enter 65 a) w := run_callFunc_body Tryz.func65 (by kernel_rfl) (by kernel_rfl)
theorem book_at {w : World} {lo b n : Nat} {g : BookF} (h : BookAt w lo b n g) (m : Bs) (hm : m.length ≤ 1048576) : ∃ va vn vc, (∀ w', Below w.heap.size w w' → (Instr.lookup 56 (.map (some b)) (.string (mkB m)) false).run Tryz.prog w' = .ok (.slice va vn vc) w') ∧ vn = ((g m).getD []).length ∧ StrAt w (.slice va vn vc) (((g m).getD []).map mkB) := by
  obtain ⟨f, h1, h2, h3, h4, h5⟩ := h
  have hl := fun w' (hb : Below w.heap.size w w') => ((h1.belowW hb).look (t := 56) (e := 28) Tryz.underlying9 Tryz.underlying56 (Tryz.zeroStrs w') (mkB m) (by rw [mkB_size]; unfold maxLen; omega)).2
  rw [mkB_list] at hl
  have h6 := h2 m
  cases hf : f m with
  | none =>
    rw [hf] at h6
    have hg : g m = none := by cases h7 : g m with
      | none => rfl
      | some l => rw [h7] at h6; cases h6
    rw [hf] at hl
    exact ⟨none, 0, 0, hl, by rw [hg]; rfl, by rw [hg]; exact .inl ⟨rfl, rfl⟩⟩
  | some v =>
    rw [hf] at h6 hl
    obtain ⟨l, hg⟩ : ∃ l, g m = some l := Option.isSome_iff_exists.1 h6.symm
    have h8 := (h3 m v l hf hg).row
    obtain ⟨va, vc, rfl, -, -⟩ := h8.len
    rw [List.length_map] at hl h8
    exact ⟨va, l.length, vc, hl, by rw [hg]; rfl, by rw [hg]; exact h8.strs⟩
theorem len_sum : ∀ l : List Bs, l.length ≤ (l.map fun s => s.length + 1).sum
  | [] => Nat.le_refl _
  | a :: r => by have := len_sum r; rw [List.map_cons, List.sum_cons, List.length_cons]; omega
set_option maxRecDepth 100000 in
set_option maxHeartbeats 6400000 in
theorem drop_any {g lo b n : Nat} {lv lf : Value} {m : Bs} {live : JV} {W : List Leaf} {bk : BookF} {w : World} (hd : DealAt w g lv (.map (some b)) m lf) (hl : ∃ n, JvAt n [] w lv live) (hf : JP.Fit live) (hW : RowAt LeafR 3 w lf W) (hWl : W.length ≤ 1048576) (hx : ∀ x ∈ W, LeafFit x)
    (hb : BookAt w lo b n bk) (hg : ∀ k l, bk k = some l → l.length ≤ 1048576 ∧ ∀ s ∈ l, s.length ≤ 1048576) (hm : m.length ≤ 1048576) (hps : ∀ p ∈ (bk m).getD [], ∃ k, stepsP p = (0, k) ∧ k ≠ []) (hE : Env w) :
    Calls Tryz.prog 36 #[.pointer (some ⟨g, 0, none⟩)] w fun e w' => ∃ v k, e = .returned v ∧ JvAt k [] w' v (dropG live bk m W ((bk m).getD [])) ∧ Below w.heap.size w w' := by
  obtain ⟨va, vn, vc, hlook, hvn, hSt⟩ := book_at hb m hm
  have hpl : ((bk m).getD []).length ≤ 1048576 ∧ ∀ s ∈ (bk m).getD [], s.length ≤ 1048576 := by
    cases hbm : bk m with
    | none => exact ⟨Nat.zero_le _, fun s h => by cases h⟩
    | some l => exact hg m l hbm
  obtain ⟨ps, hpsd⟩ : ∃ ps, (bk m).getD [] = ps := ⟨_, rfl⟩
  rw [hpsd] at hvn hSt hpl hps ⊢
  obtain ⟨lfa, lfc, rfl, -, -⟩ := hW.len
  obtain ⟨nW, hnW⟩ : ∃ n, W.length = n := ⟨_, rfl⟩
  rw [hnW] at hd hW hWl
  have hlf : lv = .nilIface ∨ ∃ t u, lv = .iface t u := by obtain ⟨k, hk⟩ := hl; exact jv_form hk
  have hgl : g < w.heap.size := deal_lt hd
  have HL := Lib.hid hl
  have Hf := Lib.hid hf
  have HW := Lib.hid hW
  have Hx := Lib.hid hx
  have HBk := Lib.hid hb
  have Hg := Lib.hid hg
  have HE := Lib.hid hE
  have HD := Lib.hid hd
  have HSt := Lib.hid hSt
  have Hps := Lib.hid hps
  have Hpl := Lib.hid hpl
  have Hlook := Lib.hid hlook
  have HnW := Lib.hid hnW
  have Hvn := Lib.hid hvn
  have hvl : vn ≤ 1048576 := by rw [hvn]; exact hpl.1
  have dd : ∀ i, w.cell? ⟨g, i, none⟩ = #[lv, .map (some b), .string (mkB m), .slice lfa nW lfc][i]? := fun i => cell_block hd i
  clear hd hl hf hW hx hb hg hE hlook hSt hps hpl hpsd hnW hvn
  rcases hlf with rfl | ⟨lt, lu, rfl⟩
  all_goals
    go_enter Tryz.func36, Tryz.ntmps36
    go_upto_region 2 with fail
    have hlk : ∀ n, (Instr.lookup 56 (.map (some b)) (.string (mkB m)) false).run Tryz.prog (w.drewN n) = .ok (.slice va vn vc) (w.drewN n) := fun n => Hlook.out (w.drewN n) (below_drewN (Below.refl w.heap.size w) n)
    go_quiet (fail)
    have HB1 := Lib.hid (below_drewN (Below.refl w.heap.size w) nq)
    obtain ⟨w1, hw1⟩ : ∃ w1, w.drewN nq = w1 := ⟨_, rfl⟩
    rw [hw1] at HB1 ⊢
    clear hw1 hlk dd Hlook
    go_wp2_with fail
    go_loopg [3, 25] vn (fun k u3 u25 wr => ∃ i : Nat, i + k = vn ∧ u25 = .int .i64 (i : Int) ∧ Hid (∃ k, JvAt k [] wr u3 (dropG live bk m W (ps.take i))) ∧ Hid (Below w.heap.size w wr))
    case atStart =>
      exact ⟨0, by omega, rfl, Lib.hid (let ⟨k, hk⟩ := HL.out; ⟨k, hk.below HB1.out⟩), HB1⟩
    case round =>
      obtain ⟨i, hik, rfl, HJ, Hbel⟩ := hrel
      cases gk with
      | zero =>
        obtain rfl : vn = i := by omega
        have htk : ps.take vn = ps := List.take_of_length_le (by rw [Hvn.out]; exact Nat.le_refl _)
        rw [htk] at HJ
        clear htk
        go_wp2_with fail
        go_ret
        obtain ⟨k, hk⟩ := HJ.out
        exact ⟨_, k, rfl, hk, Hbel.out⟩
      | succ k =>
        have hil : i < vn := by omega
        obtain ⟨p, hpi⟩ : ∃ p, ps[i]? = some p := ⟨ps[i]'(by rw [← Hvn.out]; exact hil), List.getElem?_eq_getElem _⟩
        have hpm := List.mem_of_getElem? hpi
        have hplen : p.length ≤ 1048576 := Hpl.out.2 p hpm
        obtain ⟨kk, hst, hk0⟩ := Hps.out p hpm
        obtain ⟨bb, o, hva, e0⟩ : ∃ bb o, va = some ⟨bb, o, none⟩ ∧ wr.cell? ⟨bb, o + i, none⟩ = some (.string (mkB p)) := str_cell HSt.out Hbel.out hpi
        subst hva
        have q1 : (0 : Int) ≤ (i : Int) := by omega
        have q2 : (i : Int) < (vn : Int) := by omega
        obtain ⟨w2, hw2⟩ : ∃ w2, w2 = wr.alloc (.cells #[.string (mkB p)] 9) := ⟨_, rfl⟩
        obtain ⟨gp, hgp⟩ : ∃ gp, gp = wr.heap.size := ⟨_, rfl⟩
        have b2 : w2.heap[gp]? = some (.cells #[.string (mkB p)] 9 (0, 0)) := by rw [hw2, hgp]; exact heap_alloc_new wr _
        have hb2 : Below wr.heap.size wr w2 := by rw [hw2]; exact (Below.refl _ wr).alloc (Nat.le_refl _) _
        have hb12 := Hbel.out.trans (hb2.mono Hbel.out.size)
        have hgpl : gp < w2.heap.size := by rw [hw2, hgp, World.size_alloc]; omega
        have hmp : (mkB p).size ≤ 1048576 := by rw [mkB_size]; exact hplen
        have HA := Lib.hid (anyLeaf1_any (cap1 := .pointer (some ⟨gp, 0, none⟩)) (Cap := fun w' => w'.heap[gp]? = some (.cells #[.string (mkB p)] 9 (0, 0))) (p := fun x => JP.pathL x == (mkB p).data.toList) (OK := LeafFit) run_drop1 (fun a b h hb => below_block hb h)
          (fun x sv vv w' hr hx hc => drop1_any x hx hr (mkB p) hc) (.slice lfa nW lfc) W w2 (leaves_below HW.out hb12) (by rw [HnW.out]; omega) Hx.out b2)
        have HOth : Hid (∀ w', Below w2.heap.size w2 w' → Calls Tryz.prog 57 #[.map (some b), .string (mkB m), .func (.func 65) #[] #[.pointer (some ⟨gp, 0, none⟩)]] w' fun e w'' => e = .returned (.bool (othersG bk m (JP.touchB p))) ∧ Below w'.heap.size w' w'') := Lib.hid fun w' hb' => by
          refine (others1_any (cap1 := .pointer (some ⟨gp, 0, none⟩)) (Cap := fun w' => w'.heap[gp]? = some (.cells #[.string (mkB p)] 9 (0, 0))) (p := JP.touchB p) run_drop2 (fun _ _ h hb => below_block hb h) (fun q w' hq hc => (by
            have h9 := drop2_any q hq (mkB p) hmp hc
            rw [mkB_list] at h9
            exact h9)) w' lo b n bk m ((HBk.out.below hb12).below hb') Hg.out (below_block hb' b2)).mono ?_
          rintro E w'' ⟨B, rfl, hB, hb''⟩
          exact ⟨by rw [hB.eq], hb''⟩
        rw [mkB_list] at HA
        obtain ⟨wd, Hwd⟩ : ∃ wd, Hid ((W.any fun x => JP.pathL x == p) = wd) := ⟨_, Lib.hid rfl⟩
        rw [Hwd.out] at HA
        obtain ⟨ob, Hob⟩ : ∃ ob, Hid (othersG bk m (JP.touchB p) = ob) := ⟨_, Lib.hid rfl⟩
        rw [Hob.out] at HOth
        have HB2 := Lib.hid hb12
        have HJ2 : Hid (∃ k, JvAt k [] w2 u3 (dropG live bk m W (ps.take i))) := Lib.hid (let ⟨k, hk⟩ := HJ.out; ⟨k, hk.below hb2⟩)
        have Hmore : Hid (dropG live bk m W (ps.take (i + 1)) = if (wd || ob) = true then dropG live bk m W (ps.take i) else JP.cutP (dropG live bk m W (ps.take i)) p) := Lib.hid (by
          rw [List.take_add_one, hpi]
          show dropG live bk m W (_ ++ [p]) = _
          rw [dropG_more, Hwd.out, Hob.out])
        have HVf := Lib.hid (dropG_fit bk m W (ps.take i) live Hf.out)
        obtain ⟨V, hV⟩ : ∃ V, dropG live bk m W (ps.take i) = V := ⟨_, rfl⟩
        rw [hV] at HJ2 Hmore HVf
        have hV0 := Lib.hid hV
        have hgl2 : g < w2.heap.size := Nat.lt_of_lt_of_le hgl hb12.size
        have D2 := Lib.hid (HD.out.below hb12)
        have dd : ∀ i, w2.cell? ⟨g, i, none⟩ = _ := fun i => cell_block D2.out i
        have B2 := Lib.hid b2
        have Hst := Lib.hid hst
        have Hk0 := Lib.hid hk0
        have Hpi := Lib.hid hpi
        clear hb2 hb12 b2 hV HJ hpm hst hk0 hpi
        go_upto_region 5 with fail
        rw [← hw2]
        try rw [← hgp]
        clear hw2 hgp e0
        go_wp2_with fail
        refine HA.out.mono ?_
        rintro E w3 ⟨rfl, hb3⟩
        have hgl3 : g < w3.heap.size := Nat.lt_of_lt_of_le hgl2 hb3.size
        have HB3 := Lib.hid hb3
        have hs3 := hb3.size
        clear hb3 dd HA
        have HD3 := Lib.hid (D2.out.below HB3.out)
        have b3 := below_block HB3.out B2.out
        cases wd with
        | true =>
          have hm1 : dropG live bk m W (ps.take (i + 1)) = dropG live bk m W (ps.take i) := by rw [Hmore.out, hV0.out]; rfl
          go_upto_region 6 with fail
          refine wp_region_hold 12 (fun w' => Below w3.heap.size w3 w') (by kernel_rfl) (by kernel_rfl) ?_ ?_
          · exact below_drewF w3
          simp only [List.take_succ_cons, List.take_zero, List.drop_succ_cons, List.drop_zero]
          (first | (refine wpHold_pure (v := ?_) (by rfl) (fun w => ?_) ?_; rotate_left; focus (first | (go_simp; done) | (go_simp; with_reducible rfl))) | (refine wpHold_skip ?_ ?_; focus (go_simp; done)) | (refine wpHold_pure' (v := ?_) ?_ (fun w => ?_) ?_; rotate_left; focus (go_simp; done); focus (first | (go_simp; done) | (go_simp; with_reducible rfl)))); try simp only [Act.put, List.setIfInBounds_toArray, List.set_cons_zero, List.set_cons_succ]
          (first | (refine wpHold_pure (v := ?_) (by rfl) (fun w => ?_) ?_; rotate_left; focus (first | (go_simp; done) | (go_simp; with_reducible rfl))) | (refine wpHold_skip ?_ ?_; focus (go_simp; done)) | (refine wpHold_pure' (v := ?_) ?_ (fun w => ?_) ?_; rotate_left; focus (go_simp; done); focus (first | (go_simp; done) | (go_simp; with_reducible rfl)))); try simp only [Act.put, List.setIfInBounds_toArray, List.set_cons_zero, List.set_cons_succ]
          refine wpHold_skip ?_ ?_
          focus (go_simp; done)
          try simp only [Act.put, List.setIfInBounds_toArray, List.set_cons_zero, List.set_cons_succ]
          refine wpHold_skip ?_ ?_
          focus (go_simp; done)
          try simp only [Act.put, List.setIfInBounds_toArray, List.set_cons_zero, List.set_cons_succ]
          refine wpHold_skip ?_ ?_
          focus (go_simp; done)
          try simp only [Act.put, List.setIfInBounds_toArray, List.set_cons_zero, List.set_cons_succ]
          refine wpHold_skip ?_ ?_
          focus (go_simp; done)
          try simp only [Act.put, List.setIfInBounds_toArray, List.set_cons_zero, List.set_cons_succ]
          refine wpHold_skip ?_ ?_
          focus (go_simp; done)
          try simp only [Act.put, List.setIfInBounds_toArray, List.set_cons_zero, List.set_cons_succ]
          refine wpHold_skip ?_ ?_
          focus (go_simp; done)
          try simp only [Act.put, List.setIfInBounds_toArray, List.set_cons_zero, List.set_cons_succ]
          refine wpHold_skip ?_ ?_
          focus (go_simp; done)
          try simp only [Act.put, List.setIfInBounds_toArray, List.set_cons_zero, List.set_cons_succ]
          refine wpHold_skip ?_ ?_
          focus (go_simp; done)
          try simp only [Act.put, List.setIfInBounds_toArray, List.set_cons_zero, List.set_cons_succ]
          refine wpHold_skip ?_ ?_
          focus (go_simp; done)
          try simp only [Act.put, List.setIfInBounds_toArray, List.set_cons_zero, List.set_cons_succ]
          refine wpHold_skip ?_ ?_
          focus (go_simp; done)
          try simp only [Act.put, List.setIfInBounds_toArray, List.set_cons_zero, List.set_cons_succ]
          refine wpHold_nil ?_
          intro w4 hI4
          have HJ4 : Hid (∃ k, JvAt k [] w4 u3 (dropG live bk m W (ps.take (i + 1)))) := Lib.hid (by
            rw [hm1, hV0.out]
            obtain ⟨k, hk⟩ := HJ2.out
            exact ⟨k, (hk.below HB3.out).below hI4⟩)
          have HB4 := Lib.hid (HB2.out.trans ((HB3.out.trans (hI4.mono HB3.out.size)).mono HB2.out.size))
          clear hI4 b3 hm1
          go_wp2_with fail
          go_roundg k
          case measure => omega
          case rel => exact ⟨i + 1, by omega, by go_num, HJ4, HB4⟩
        | false =>
          go_upto_region 6 with fail
          refine wp_region_hold 12 (fun w' => Below w3.heap.size w3 w') (by kernel_rfl) (by kernel_rfl) ?_ ?_
          · exact below_drewF w3
          simp only [List.take_succ_cons, List.take_zero, List.drop_succ_cons, List.drop_zero]
          (first | (refine wpHold_pure (v := ?_) (by rfl) (fun w => ?_) ?_; rotate_left; focus (first | (go_simp; done) | (go_simp; with_reducible rfl))) | (refine wpHold_skip ?_ ?_; focus (go_simp; done)) | (refine wpHold_pure' (v := ?_) ?_ (fun w => ?_) ?_; rotate_left; focus (go_simp; done); focus (first | (go_simp; done) | (go_simp; with_reducible rfl)))); try simp only [Act.put, List.setIfInBounds_toArray, List.set_cons_zero, List.set_cons_succ]
          (first | (refine wpHold_pure (v := ?_) (by rfl) (fun w => ?_) ?_; rotate_left; focus (first | (go_simp; done) | (go_simp; with_reducible rfl))) | (refine wpHold_skip ?_ ?_; focus (go_simp; done)) | (refine wpHold_pure' (v := ?_) ?_ (fun w => ?_) ?_; rotate_left; focus (go_simp; done); focus (first | (go_simp; done) | (go_simp; with_reducible rfl)))); try simp only [Act.put, List.setIfInBounds_toArray, List.set_cons_zero, List.set_cons_succ]
          refine wpHold_pure' (v := ?_) ?_ (fun w => ?_) ?_
          rotate_left
          focus (go_simp; done)
          focus (first | (go_simp; done) | (go_simp; with_reducible rfl))
          try simp only [Act.put, List.setIfInBounds_toArray, List.set_cons_zero, List.set_cons_succ]
          refine wpHold_pure' (v := ?_) ?_ (fun w => ?_) ?_
          rotate_left
          focus (go_simp; done)
          focus (first | (go_simp; done) | (go_simp; with_reducible rfl))
          try simp only [Act.put, List.setIfInBounds_toArray, List.set_cons_zero, List.set_cons_succ]
          refine wpHold_pure' (v := ?_) ?_ (fun w => ?_) ?_
          rotate_left
          focus (go_simp; done)
          focus (first | (go_simp; done) | (go_simp; with_reducible rfl))
          try simp only [Act.put, List.setIfInBounds_toArray, List.set_cons_zero, List.set_cons_succ]
          refine wpHold_read' (v := .map (some b)) (by first | rfl | (go_simp; done)) (fun w' hI => ?_) ?_
          · have d0 := (hI.cell (p := ⟨g, 1, none⟩) hgl3).trans (cell_block HD3.out 1)
            go_simp
            done
          try simp only [Act.put, List.setIfInBounds_toArray, List.set_cons_zero, List.set_cons_succ]
          refine wpHold_pure' (v := ?_) ?_ (fun w => ?_) ?_
          rotate_left
          focus (go_simp; done)
          focus (first | (go_simp; done) | (go_simp; with_reducible rfl))
          try simp only [Act.put, List.setIfInBounds_toArray, List.set_cons_zero, List.set_cons_succ]
          refine wpHold_pure' (v := ?_) ?_ (fun w => ?_) ?_
          rotate_left
          focus (go_simp; done)
          focus (first | (go_simp; done) | (go_simp; with_reducible rfl))
          try simp only [Act.put, List.setIfInBounds_toArray, List.set_cons_zero, List.set_cons_succ]
          refine wpHold_pure' (v := ?_) ?_ (fun w => ?_) ?_
          rotate_left
          focus (go_simp; done)
          focus (first | (go_simp; done) | (go_simp; with_reducible rfl))
          try simp only [Act.put, List.setIfInBounds_toArray, List.set_cons_zero, List.set_cons_succ]
          refine wpHold_read' (v := .string (mkB m)) (by first | rfl | (go_simp; done)) (fun w' hI => ?_) ?_
          · have d0 := (hI.cell (p := ⟨g, 2, none⟩) hgl3).trans (cell_block HD3.out 2)
            go_simp
            done
          try simp only [Act.put, List.setIfInBounds_toArray, List.set_cons_zero, List.set_cons_succ]
          refine wpHold_pure' (v := ?_) ?_ (fun w => ?_) ?_
          rotate_left
          focus (go_simp; done)
          focus (first | (go_simp; done) | (go_simp; with_reducible rfl))
          try simp only [Act.put, List.setIfInBounds_toArray, List.set_cons_zero, List.set_cons_succ]
          refine wpHold_call' (v := .bool ob) (f := 57) (args := #[.map (some b), .string (mkB m), .func (.func 65) #[] #[.pointer (some ⟨gp, 0, none⟩)]]) (by first | rfl | (go_simp; done)) (fun w' => by go_simp) (fun w' hI => (HOth.out w' (HB3.out.trans (hI.mono HB3.out.size))).mono fun e w'' h => ?_) ?_
          · exact ⟨h.1, hI.trans (h.2.mono hI.size)⟩
          try simp only [Act.put, List.setIfInBounds_toArray, List.set_cons_zero, List.set_cons_succ]
          refine wpHold_nil ?_
          intro w4 hI4
          have HJ4 : Hid (∃ k, JvAt k [] w4 u3 V) := Lib.hid (by
            obtain ⟨k, hk⟩ := HJ2.out
            exact ⟨k, (hk.below HB3.out).below hI4⟩)
          have HB24 := Lib.hid (HB3.out.trans (hI4.mono HB3.out.size))
          have HB4 := Lib.hid (HB2.out.trans (HB24.out.mono HB2.out.size))
          have hs4 := HB4.out.size
          clear hI4 b3 HOth HJ2 HD3
          cases ob with
          | true =>
            have HJ5 : Hid (∃ k, JvAt k [] w4 u3 (dropG live bk m W (ps.take (i + 1)))) := Lib.hid (by rw [Hmore.out]; exact HJ4.out)
            go_wp2_with fail
            go_roundg k
            case measure => omega
            case rel => exact ⟨i + 1, by omega, by go_num, HJ5, HB4⟩
          | false =>
            have hE4 := HE.out.below HB4.out
            obtain ⟨mm, hmm⟩ := hE4.2.2
            have hS := ptrSteps_any (mkB p) mm w4 (by omega) hmm
            rw [mkB_list, Hst.out] at hS
            have HS := Lib.hid hS
            have c4 := fun i => cell_block (below_block HB24.out B2.out) i
            have HE4 := Lib.hid hE4
            clear hS hmm hE4
            go_wp2_with fail
            refine HS.out.mono ?_
            rintro E w5 ⟨v5, rfl, ⟨l5, hv5, hl5⟩, hb5⟩
            have hl5' : l5 = kk.map mkB := by
              have h9 : l5 = (l5.map (·.data.toList)).map mkB := by
                rw [List.map_map]
                have h8 : (mkB ∘ fun x : ByteArray => x.data.toList) = id := funext fun x => mkB_of x
                rw [h8, List.map_id]
              rw [h9, hl5]
            rw [hl5'] at hv5
            obtain ⟨sa, sc, rfl, -, -⟩ := hv5.row.len
            obtain ⟨sn, hsn⟩ : ∃ sn, (kk.map mkB).length = sn := ⟨_, rfl⟩
            rw [hsn] at hv5 ⊢
            obtain ⟨k5, hJ5⟩ := HJ4.out
            have hkl := steps_mem Hst.out
            have hcut := tcut_any (hJ5.below hb5) (by have := HVf.out.2.2.2; omega) hv5 (fun s hs => by have := hkl s hs; omega) (Nat.le_trans (len_sum kk) (Nat.le_trans (steps_total Hst.out) hplen)) Hk0.out ((HE4.out.below hb5).1) ((HE4.out.below hb5).2.1)
            obtain ⟨oc, hoc⟩ : ∃ oc, JP.cutW V kk = oc := ⟨_, rfl⟩
            rw [hoc] at hcut
            have Hoc := Lib.hid hoc
            have HCut := Lib.hid hcut
            have HB5 := Lib.hid (HB4.out.trans (hb5.mono HB4.out.size))
            have HJ5' := Lib.hid (hJ5.below hb5)
            have hs5 := HB5.out.size
            have Hmm : Hid (dropG live bk m W (ps.take (i + 1)) = (oc).getD V) := Lib.hid (by
              rw [Hmore.out]
              show JP.cutP V p = _
              unfold JP.cutP
              rw [Hst.out, Hoc.out])
            clear hv5 hl5 hl5' hb5 hJ5 hkl hcut hoc hsn c4 HS HJ4 Hmore HE4
            go_wp2_with fail
            refine HCut.out.mono ?_
            rintro E w6 ⟨u6, rfl, hu6, hb6⟩
            have HB6 := Lib.hid (HB5.out.trans (hb6.mono HB5.out.size))
            cases oc with
            | none =>
              have HJ6 : Hid (∃ k, JvAt k [] w6 u3 (dropG live bk m W (ps.take (i + 1)))) := Lib.hid (by rw [Hmm.out]; exact ⟨_, HJ5'.out.below hb6⟩)
              rw [show JP.codE 7 (none : Option JV) = 7 from rfl]
              clear hu6 hb6 HCut HJ5'
              go_wp2_with fail
              go_roundg k
              case measure => omega
              case rel => exact ⟨i + 1, by omega, by go_num, HJ6, HB6⟩
            | some z =>
              have HJ6 : Hid (∃ k, JvAt k [] w6 u6 (dropG live bk m W (ps.take (i + 1)))) := Lib.hid (by rw [Hmm.out]; exact hu6 z rfl)
              rw [show JP.codE 7 (some z : Option JV) = 0 from rfl]
              clear hu6 hb6 HCut HJ5'
              go_wp2_with fail
              go_roundg k
              case measure => omega
              case rel => exact ⟨i + 1, by omega, by go_num, HJ6, HB6⟩
end Go.Proofs.YtdcmnpeabjallaaGreatDoor
namespace Go.Proofs.YtdcmnpeabjallaaGreatDoor
open Go.RowKit
open JP (JV Bs Lf)
theorem fields_other {d : JV} (h : ∀ l, d ≠ .obj l) : JP.fieldsOf d = [] := by
  cases d with
  | obj l => exact absurd rfl (h l)
  | _ => rfl
theorem sizeF_len' (l : List (Bs × JV)) : l.length ≤ JP.sizeF l := by
  induction l with
  | nil => exact Nat.le_refl _
  | cons x r ih => obtain ⟨n, v⟩ := x; have := JP.size_pos v; rw [JP.sizeF, List.length_cons]; omega
theorem sizeF_gto (s : Bs) : ∀ d : List (Bs × JV), JP.sizeF (JP.fieldsOf (JP.gto s d)) ≤ JP.sizeF d
  | [] => Nat.le_refl _
  | (m, x) :: r => by
    have ih := sizeF_gto s r
    unfold JP.gto at ih ⊢
    rw [JP.get, JP.sizeF]
    by_cases h : m = s
    · rw [if_pos h]
      have := JP.sizeF_fields x
      simp only [Option.getD]; omega
    · rw [if_neg h]; omega
theorem below_drewNs {B : Nat} {a w : World} (h : Below B a w) (n : Nat) : Below B a (w.drewN n) := ⟨h.os, h.tape, h.output, h.size, h.block⟩
set_option maxRecDepth 100000 in
set_option maxHeartbeats 6400000 in
theorem set_any (T : List Nat) : ∀ (l : List Bs) (n k : Nat) (v sv wv : Value) (x y : JV) (w : World), JvAt n T w v x → JvAt k T w wv y → StrAt w sv (l.map mkB) → l.length ≤ 1048576 → JP.sizeF (JP.fieldsOf x) ≤ 1000000 → (∀ b ∈ T, b < w.heap.size) →
    Calls Tryz.prog 37 #[v, sv, wv] w fun e w' => ∃ u, e = .returned u ∧ (∃ j, JvAt j T w' u (JP.setV x l y)) ∧ Below w.heap.size w w' := by
  intro l
  induction l with
  | nil =>
    intro n k v sv wv x y w hv hw hs _ _ _
    rw [JP.setV_nil]
    obtain ⟨a1, c1, rfl, -, -⟩ := hs.len
    have HW := Lib.hid hw
    clear hv hw hs
    go_enter Tryz.func37, Tryz.ntmps37
    go_wp2_with fail
    go_ret
    exact ⟨_, rfl, ⟨k, HW.out⟩, Below.refl _ _⟩
  | cons s r ih =>
    intro n k v sv wv x y w hv hw hs hll hsz hT
    obtain ⟨a1, c1, hu, hlc, -⟩ := hs.len
    rw [List.length_map] at hu hlc
    subst hu
    obtain ⟨b, o, ea, e0⟩ := str_cell (wr := w) hs (Below.refl _ _) (i := 0) (y := s) rfl
    subst ea
    have e0 : w.cell? ⟨b, o, none⟩ = some (.string (mkB s)) := e0
    have hbw := World.block_lt_of_cell? w ⟨b, o, none⟩ e0
    have hlen : (s :: r).length = r.length + 1 := rfl
    obtain ⟨m, hm⟩ : ∃ m, r.length = m := ⟨_, rfl⟩
    rw [hm] at hlen
    rw [hlen] at hs hll hlc ⊢
    have hcut := hs.cut (i := 1) (j := m + 1) (b := b) (o := o) (c := c1) (by rw [List.length_map, hlen]) (by omega) (by rw [List.length_map, hlen]; omega)
    rw [List.take_of_length_le (by rw [List.length_map, hlen]; omega), List.map_cons, List.drop_one, List.tail_cons] at hcut
    obtain ⟨tv, htv, hts⟩ : ∃ tv, ((c1 = 1 ∧ tv = .slice (some ⟨b, o, none⟩) 0 0) ∨ (c1 ≠ 1 ∧ tv = .slice (some ⟨b, o + 1, none⟩) (m + 1 - 1) (c1 - 1))) ∧ StrAt w tv (r.map mkB) := by
      by_cases hc : c1 = 1
      · have hm0 : m = 0 := by omega
        have hr0 : r = [] := List.eq_nil_of_length_eq_zero (hm.trans hm0)
        exact ⟨_, .inl ⟨hc, rfl⟩, by rw [hr0]; exact .inr ⟨_, 0, rfl, Nat.le_refl _, Nat.zero_le _, fun j x h => by simp at h⟩⟩
      · exact ⟨_, .inr ⟨hc, rfl⟩, hcut⟩
    have HTv := Lib.hid htv
    have HCut := Lib.hid hts
    have HW := Lib.hid hw
    have HVr := Lib.hid hv
    have HT := Lib.hid hT
    have IH := Lib.hid ih
    have Hm := Lib.hid hm
    have hdl := sizeF_len' (JP.fieldsOf x)
    have hgz := sizeF_gto s (JP.fieldsOf x)
    have q1 : ((m : Int) + 1 == 0) = false := by rw [beq_eq_false_iff_ne]; omega
    have q2 : (0 : Int) < (m : Int) + 1 := by omega
    have q3 : (1 : Int) ≤ (m : Int) + 1 := by omega
    have q4 : (m : Int) + 1 ≤ (c1 : Int) := by omega
    have q5 : ((m : Int) + 1).toNat = m + 1 := by omega
    have hset := JP.setV_cons x s r y
    obtain ⟨D, hD⟩ : ∃ D, JP.fieldsOf x = D := ⟨_, rfl⟩
    rw [hD] at hset hdl hgz hsz
    rw [hset]
    clear hset
    have way : (∃ q M, x = .obj D ∧ v = .iface 88 (.pointer (some ⟨q, 0, none⟩)) ∧ ObR (JvR M T) T w q D) ∨ (D = [] ∧ (∀ w' : World, (Instr.typeAssert v 47 88 true).run Tryz.prog w' = .ok (.tuple #[.pointer none, .bool false]) w')) := by
      by_cases hdo : ∃ d, x = .obj d
      · obtain ⟨d, rfl⟩ := hdo
        have : d = D := hD
        subst this
        cases n with
        | zero => cases hv
        | succ n =>
          obtain ⟨qd, rfl, hdr⟩ := hv
          exact .inl ⟨qd, n, rfl, rfl, hdr⟩
      · have hdn : ∀ d, x ≠ .obj d := fun d e => hdo ⟨d, e⟩
        exact .inr ⟨by rw [← hD, fields_other hdn], as_other hv hdn⟩
    clear hv hw hs ih hcut hm hD htv hts hT
    rcases way with ⟨q, M, rfl, rfl, hdr⟩ | ⟨rfl, G2⟩
    · have G2 := (as_obj (.pointer (some ⟨q, 0, none⟩))).2.2.2.2
      have HO := Lib.hid hdr
      have HB := Lib.hid (Below.refl w.heap.size w)
      clear hdr HVr
      go_enter Tryz.func37, Tryz.ntmps37
      have HG := Lib.hid (get_any (x := s) (w := w) HO.out (by omega))
      have e1 : (w).cell? ⟨b, o, none⟩ = some (.string (mkB s)) := (HB.out.cell (p := ⟨b, o, none⟩) hbw).trans e0
      go_wp2_with fail
      refine HG.out.mono ?_
      rintro E w2 ⟨vg, rfl, hs2, hn2, k2, hw2⟩
      obtain ⟨m2, hm2⟩ : ∃ m2, JvAt m2 T w2 vg (JP.gto s D) := by
        unfold JP.gto
        rw [hw2]
        cases hgo : JP.get s D with
        | none => exact ⟨1, hn2 hgo⟩
        | some u => exact ⟨_, (hs2 u hgo).keepT (KeepT.drewN _ k2)⟩
      have hO2 : ObR (JvR M T) T w2 q D := by rw [hw2]; exact HO.out.keepJ (KeepT.drewN _ k2)
      have hB2 : Below w.heap.size w w2 := by rw [hw2]; exact below_drewNs HB.out k2
      have HM2 := Lib.hid hm2
      have HO2 := Lib.hid hO2
      have HB2 := Lib.hid hB2
      have e2 : w2.cell? ⟨b, o, none⟩ = some (.string (mkB s)) := (hB2.cell (p := ⟨b, o, none⟩) hbw).trans e0
      clear hm2 hO2 hB2 hs2 hn2 hw2 HG e1
      go_upto_region 7 with fail
      refine wp_region_relB 11 (fun ii U w' => match ii with
        | 0 => U 0 = .pointer (some ⟨q, 0, none⟩)
        | 1 => U 1 = .slice (some ⟨b, o, none⟩) (m + 1) c1
        | 2 => U 2 = .pointer (some ⟨b, o, none⟩)
        | 3 => U 3 = .string (mkB s)
        | 4 => U 4 = vg
        | 5 => U 5 = .slice (some ⟨b, o, none⟩) (m + 1) c1
        | 6 => U 6 = tv
        | 7 => U 7 = wv
        | 8 => ∃ j, JvAt j T w' (U 8) (JP.setV (JP.gto s D) r y)
        | 9 => ∃ q' j, U 9 = .pointer (some ⟨q', 0, none⟩) ∧ ObR (JvR j T) T w' q' (JP.put s (JP.setV (JP.gto s D) r y) D)
        | 10 => ∃ q' j, U 10 = .iface 88 (.pointer (some ⟨q', 0, none⟩)) ∧ ObR (JvR j T) T w' q' (JP.put s (JP.setV (JP.gto s D) r y) D)
        | _ => True)
        (fun | 2 => [1] | 3 => [2] | 6 => [5] | 8 => [4, 6, 7] | 9 => [0, 3, 8] | 10 => [9] | _ => []) (by kernel_rfl) (by kernel_rfl) ?_ ⟨?_, ?_, ?_, ?_, ?_, ?_, ?_, ?_, ?_, ?_, ?_, trivial⟩ ?_
      · intro j u w1 w2 hb h
        match j, h with
        | 0, h => exact h
        | 1, h => exact h
        | 2, h => exact h
        | 3, h => exact h
        | 4, h => exact h
        | 5, h => exact h
        | 6, h => exact h
        | 7, h => exact h
        | 8, h => exact (let ⟨j, hj⟩ := h; ⟨j, hj.below hb⟩)
        | 9, h => exact (let ⟨q', j, h1, h2⟩ := h; ⟨q', j, h1, h2.keepJ (KeepT.of hb)⟩)
        | 10, h => exact (let ⟨q', j, h1, h2⟩ := h; ⟨q', j, h1, h2.keepJ (KeepT.of hb)⟩)
        | _ + 11, h => trivial
      · intro x' w' hb hd
        have hb2r : Below w2.heap.size w2 w' := (below_drewF w2).trans hb
        have hbr : Below w.heap.size w w' := HB2.out.trans (hb2r.mono HB2.out.size)
        refine owes_here (.pointer (some ⟨q, 0, none⟩)) (by rfl) ?_ rfl
        simp only [putAll, List.take_succ_cons, List.take_zero]
        go_simp
      · intro x' w' hb hd
        have hb2r : Below w2.heap.size w2 w' := (below_drewF w2).trans hb
        have hbr : Below w.heap.size w w' := HB2.out.trans (hb2r.mono HB2.out.size)
        refine owes_here (.slice (some ⟨b, o, none⟩) (m + 1) c1) (by rfl) ?_ rfl
        simp only [putAll, List.take_succ_cons, List.take_zero]
        go_simp
      · intro x' w' hb hd
        have hb2r : Below w2.heap.size w2 w' := (below_drewF w2).trans hb
        have hbr : Below w.heap.size w w' := HB2.out.trans (hb2r.mono HB2.out.size)
        have k1 : x' 1 = .slice (some ⟨b, o, none⟩) (m + 1) c1 := hd 1 (by simp)
        refine owes_here (.pointer (some ⟨b, o, none⟩)) (by rfl) ?_ rfl
        simp only [putAll, List.take_succ_cons, List.take_zero]
        go_simp
      · intro x' w' hb hd
        have hb2r : Below w2.heap.size w2 w' := (below_drewF w2).trans hb
        have hbr : Below w.heap.size w w' := HB2.out.trans (hb2r.mono HB2.out.size)
        have k2 : x' 2 = .pointer (some ⟨b, o, none⟩) := hd 2 (by simp)
        have e9 := (hb2r.cell (p := ⟨b, o, none⟩) (World.block_lt_of_cell? w2 ⟨b, o, none⟩ e2)).trans e2
        refine owes_here (.string (mkB s)) (by rfl) ?_ rfl
        simp only [putAll, List.take_succ_cons, List.take_zero]
        go_simp
      · intro x' w' hb hd
        have hb2r : Below w2.heap.size w2 w' := (below_drewF w2).trans hb
        have hbr : Below w.heap.size w w' := HB2.out.trans (hb2r.mono HB2.out.size)
        refine owes_here vg (by rfl) ?_ rfl
        simp only [putAll, List.take_succ_cons, List.take_zero]
        go_simp
      · intro x' w' hb hd
        have hb2r : Below w2.heap.size w2 w' := (below_drewF w2).trans hb
        have hbr : Below w.heap.size w w' := HB2.out.trans (hb2r.mono HB2.out.size)
        refine owes_here (.slice (some ⟨b, o, none⟩) (m + 1) c1) (by rfl) ?_ rfl
        simp only [putAll, List.take_succ_cons, List.take_zero]
        go_simp
      · intro x' w' hb hd
        have hb2r : Below w2.heap.size w2 w' := (below_drewF w2).trans hb
        have hbr : Below w.heap.size w w' := HB2.out.trans (hb2r.mono HB2.out.size)
        have k5 : x' 5 = .slice (some ⟨b, o, none⟩) (m + 1) c1 := hd 5 (by simp)
        refine owes_here tv (by rfl) ?_ rfl
        simp only [putAll, List.take_succ_cons, List.take_zero]
        rcases HTv.out with ⟨hc, e⟩ | ⟨hc, e⟩
        · have hm0 : m = 0 := by omega
          rw [e]
          go_simp
          try exact hm0
        · rw [e]
          go_simp
      · intro x' w' hb hd
        have hb2r : Below w2.heap.size w2 w' := (below_drewF w2).trans hb
        have hbr : Below w.heap.size w w' := HB2.out.trans (hb2r.mono HB2.out.size)
        refine owes_here wv (by rfl) ?_ rfl
        simp only [putAll, List.take_succ_cons, List.take_zero]
        go_simp
      · intro x' w' hb hd
        have hb2r : Below w2.heap.size w2 w' := (below_drewF w2).trans hb
        have hbr : Below w.heap.size w w' := HB2.out.trans (hb2r.mono HB2.out.size)
        have k4 : x' 4 = vg := hd 4 (by simp)
        have k6 : x' 6 = tv := hd 6 (by simp)
        have k7 : x' 7 = wv := hd 7 (by simp)
        refine owes_call 37 #[vg, tv, wv] (by rfl) ?_ ((IH.out m2 k vg _ wv (JP.gto s D) y w' (HM2.out.below hb2r) (HW.out.below hbr) (HCut.out.below hbr) (by rw [Hm.out]; omega) (by omega) (fun b hb => Nat.lt_of_lt_of_le (HT.out b hb) hbr.size)).mono fun e w3 ⟨uu, h1, h2, h3⟩ => ⟨_, h1, h2, h3⟩)
        simp only [putAll, List.take_succ_cons, List.take_zero]
        go_simp
      · intro x' w' hb hd
        have hb2r : Below w2.heap.size w2 w' := (below_drewF w2).trans hb
        have hbr : Below w.heap.size w w' := HB2.out.trans (hb2r.mono HB2.out.size)
        have k0 : x' 0 = .pointer (some ⟨q, 0, none⟩) := hd 0 (by simp)
        have k3 : x' 3 = .string (mkB s) := hd 3 (by simp)
        obtain ⟨j8, k8⟩ : ∃ j, JvAt j T w' (x' 8) (JP.setV (JP.gto s D) r y) := hd 8 (by simp)
        refine owes_call 70 #[.pointer (some ⟨q, 0, none⟩), .string (mkB s), x' 8] (by rfl) ?_ ((with_any (x := s) ((HO2.out.keepJ (KeepT.of hb2r)).upsJ (Nat.le_max_left M j8)) (k8.ups (Nat.le_max_right M j8)) (fun b hb => Nat.lt_of_lt_of_le (HT.out b hb) hbr.size) (by omega)).mono fun e w3 ⟨q', h1, h2, h3⟩ => ⟨_, h1, ⟨q', _, rfl, h2⟩, h3⟩)
        simp only [putAll, List.take_succ_cons, List.take_zero]
        go_simp
      · intro x' w' hb hd
        have hb2r : Below w2.heap.size w2 w' := (below_drewF w2).trans hb
        have hbr : Below w.heap.size w w' := HB2.out.trans (hb2r.mono HB2.out.size)
        obtain ⟨q', j, k9, k10⟩ : ∃ q' j, x' 9 = .pointer (some ⟨q', 0, none⟩) ∧ ObR (JvR j T) T w' q' (JP.put s (JP.setV (JP.gto s D) r y) D) := hd 9 (by simp)
        refine owes_here (.iface 88 (.pointer (some ⟨q', 0, none⟩))) (by rfl) ?_ ⟨q', j, rfl, k10⟩
        clear k10 hd
        simp only [putAll, List.take_succ_cons, List.take_zero]
        go_simp
      · intro x' w' hb hR
        have hb2r : Below w2.heap.size w2 w' := (below_drewF w2).trans hb
        have hbr : Below w.heap.size w w' := HB2.out.trans (hb2r.mono HB2.out.size)
        obtain ⟨q', j, k10, k11⟩ : ∃ q' j, x' 10 = .iface 88 (.pointer (some ⟨q', 0, none⟩)) ∧ ObR (JvR j T) T w' q' (JP.put s (JP.setV (JP.gto s D) r y) D) := hR 10 (by omega)
        have HF := Lib.hid k11
        have HBF := Lib.hid hbr
        clear hR hb hb2r hbr k11
        simp only [putAll, List.take_succ_cons, List.take_zero, List.drop_succ_cons, List.drop_zero]
        rw [k10]
        clear k10
        try simp only [Act.put, List.setIfInBounds_toArray, List.set_cons_zero, List.set_cons_succ]
        go_wp2_with fail
        go_ret
        exact ⟨_, rfl, ⟨j + 1, q', rfl, HF.out⟩, HBF.out⟩
    · obtain ⟨w1, hw1⟩ : ∃ w1, w1 = w.alloc (.cells #[.slice none 0 0, .slice none 0 0] 101) := ⟨_, rfl⟩
      obtain ⟨q, hq⟩ : ∃ q, q = w.heap.size := ⟨_, rfl⟩
      have HB : Hid (Below w.heap.size w w1) := Lib.hid (by rw [hw1]; exact (Below.refl _ _).alloc (Nat.le_refl _) _)
      have HO : Hid (ObR (JvR 0 T) T w1 q []) := Lib.hid (by rw [hw1, hq]; exact empty_ob (heap_alloc_new w _) (fun hb => Nat.lt_irrefl _ (HT.out _ hb)))
      clear HVr
      go_enter Tryz.func37, Tryz.ntmps37
      go_upto_region 6 with fail
      rw [← hw1]
      try rw [← hq]
      clear hw1 hq G2
      have HG := Lib.hid (get_any (x := s) (w := w1) HO.out (by omega))
      have e1 : (w1).cell? ⟨b, o, none⟩ = some (.string (mkB s)) := (HB.out.cell (p := ⟨b, o, none⟩) hbw).trans e0
      go_wp2_with fail
      refine HG.out.mono ?_
      rintro E w2 ⟨vg, rfl, hs2, hn2, k2, hw2⟩
      obtain ⟨m2, hm2⟩ : ∃ m2, JvAt m2 T w2 vg (JP.gto s []) := by
        unfold JP.gto
        rw [hw2]
        cases hgo : JP.get s [] with
        | none => exact ⟨1, hn2 hgo⟩
        | some u => exact ⟨_, (hs2 u hgo).keepT (KeepT.drewN _ k2)⟩
      have hO2 : ObR (JvR 0 T) T w2 q [] := by rw [hw2]; exact HO.out.keepJ (KeepT.drewN _ k2)
      have hB2 : Below w.heap.size w w2 := by rw [hw2]; exact below_drewNs HB.out k2
      have HM2 := Lib.hid hm2
      have HO2 := Lib.hid hO2
      have HB2 := Lib.hid hB2
      have e2 : w2.cell? ⟨b, o, none⟩ = some (.string (mkB s)) := (hB2.cell (p := ⟨b, o, none⟩) hbw).trans e0
      clear hm2 hO2 hB2 hs2 hn2 hw2 HG e1
      go_upto_region 7 with fail
      refine wp_region_relB 11 (fun ii U w' => match ii with
        | 0 => U 0 = .pointer (some ⟨q, 0, none⟩)
        | 1 => U 1 = .slice (some ⟨b, o, none⟩) (m + 1) c1
        | 2 => U 2 = .pointer (some ⟨b, o, none⟩)
        | 3 => U 3 = .string (mkB s)
        | 4 => U 4 = vg
        | 5 => U 5 = .slice (some ⟨b, o, none⟩) (m + 1) c1
        | 6 => U 6 = tv
        | 7 => U 7 = wv
        | 8 => ∃ j, JvAt j T w' (U 8) (JP.setV (JP.gto s []) r y)
        | 9 => ∃ q' j, U 9 = .pointer (some ⟨q', 0, none⟩) ∧ ObR (JvR j T) T w' q' (JP.put s (JP.setV (JP.gto s []) r y) [])
        | 10 => ∃ q' j, U 10 = .iface 88 (.pointer (some ⟨q', 0, none⟩)) ∧ ObR (JvR j T) T w' q' (JP.put s (JP.setV (JP.gto s []) r y) [])
        | _ => True)
        (fun | 2 => [1] | 3 => [2] | 6 => [5] | 8 => [4, 6, 7] | 9 => [0, 3, 8] | 10 => [9] | _ => []) (by kernel_rfl) (by kernel_rfl) ?_ ⟨?_, ?_, ?_, ?_, ?_, ?_, ?_, ?_, ?_, ?_, ?_, trivial⟩ ?_
      · intro j u w1 w2 hb h
        match j, h with
        | 0, h => exact h
        | 1, h => exact h
        | 2, h => exact h
        | 3, h => exact h
        | 4, h => exact h
        | 5, h => exact h
        | 6, h => exact h
        | 7, h => exact h
        | 8, h => exact (let ⟨j, hj⟩ := h; ⟨j, hj.below hb⟩)
        | 9, h => exact (let ⟨q', j, h1, h2⟩ := h; ⟨q', j, h1, h2.keepJ (KeepT.of hb)⟩)
        | 10, h => exact (let ⟨q', j, h1, h2⟩ := h; ⟨q', j, h1, h2.keepJ (KeepT.of hb)⟩)
        | _ + 11, h => trivial
      · intro x' w' hb hd
        have hb2r : Below w2.heap.size w2 w' := (below_drewF w2).trans hb
        have hbr : Below w.heap.size w w' := HB2.out.trans (hb2r.mono HB2.out.size)
        refine owes_here (.pointer (some ⟨q, 0, none⟩)) (by rfl) ?_ rfl
        simp only [putAll, List.take_succ_cons, List.take_zero]
        go_simp
      · intro x' w' hb hd
        have hb2r : Below w2.heap.size w2 w' := (below_drewF w2).trans hb
        have hbr : Below w.heap.size w w' := HB2.out.trans (hb2r.mono HB2.out.size)
        refine owes_here (.slice (some ⟨b, o, none⟩) (m + 1) c1) (by rfl) ?_ rfl
        simp only [putAll, List.take_succ_cons, List.take_zero]
        go_simp
      · intro x' w' hb hd
        have hb2r : Below w2.heap.size w2 w' := (below_drewF w2).trans hb
        have hbr : Below w.heap.size w w' := HB2.out.trans (hb2r.mono HB2.out.size)
        have k1 : x' 1 = .slice (some ⟨b, o, none⟩) (m + 1) c1 := hd 1 (by simp)
        refine owes_here (.pointer (some ⟨b, o, none⟩)) (by rfl) ?_ rfl
        simp only [putAll, List.take_succ_cons, List.take_zero]
        go_simp
      · intro x' w' hb hd
        have hb2r : Below w2.heap.size w2 w' := (below_drewF w2).trans hb
        have hbr : Below w.heap.size w w' := HB2.out.trans (hb2r.mono HB2.out.size)
        have k2 : x' 2 = .pointer (some ⟨b, o, none⟩) := hd 2 (by simp)
        have e9 := (hb2r.cell (p := ⟨b, o, none⟩) (World.block_lt_of_cell? w2 ⟨b, o, none⟩ e2)).trans e2
        refine owes_here (.string (mkB s)) (by rfl) ?_ rfl
        simp only [putAll, List.take_succ_cons, List.take_zero]
        go_simp
      · intro x' w' hb hd
        have hb2r : Below w2.heap.size w2 w' := (below_drewF w2).trans hb
        have hbr : Below w.heap.size w w' := HB2.out.trans (hb2r.mono HB2.out.size)
        refine owes_here vg (by rfl) ?_ rfl
        simp only [putAll, List.take_succ_cons, List.take_zero]
        go_simp
      · intro x' w' hb hd
        have hb2r : Below w2.heap.size w2 w' := (below_drewF w2).trans hb
        have hbr : Below w.heap.size w w' := HB2.out.trans (hb2r.mono HB2.out.size)
        refine owes_here (.slice (some ⟨b, o, none⟩) (m + 1) c1) (by rfl) ?_ rfl
        simp only [putAll, List.take_succ_cons, List.take_zero]
        go_simp
      · intro x' w' hb hd
        have hb2r : Below w2.heap.size w2 w' := (below_drewF w2).trans hb
        have hbr : Below w.heap.size w w' := HB2.out.trans (hb2r.mono HB2.out.size)
        have k5 : x' 5 = .slice (some ⟨b, o, none⟩) (m + 1) c1 := hd 5 (by simp)
        refine owes_here tv (by rfl) ?_ rfl
        simp only [putAll, List.take_succ_cons, List.take_zero]
        rcases HTv.out with ⟨hc, e⟩ | ⟨hc, e⟩
        · have hm0 : m = 0 := by omega
          rw [e]
          go_simp
          try exact hm0
        · rw [e]
          go_simp
      · intro x' w' hb hd
        have hb2r : Below w2.heap.size w2 w' := (below_drewF w2).trans hb
        have hbr : Below w.heap.size w w' := HB2.out.trans (hb2r.mono HB2.out.size)
        refine owes_here wv (by rfl) ?_ rfl
        simp only [putAll, List.take_succ_cons, List.take_zero]
        go_simp
      · intro x' w' hb hd
        have hb2r : Below w2.heap.size w2 w' := (below_drewF w2).trans hb
        have hbr : Below w.heap.size w w' := HB2.out.trans (hb2r.mono HB2.out.size)
        have k4 : x' 4 = vg := hd 4 (by simp)
        have k6 : x' 6 = tv := hd 6 (by simp)
        have k7 : x' 7 = wv := hd 7 (by simp)
        refine owes_call 37 #[vg, tv, wv] (by rfl) ?_ ((IH.out m2 k vg _ wv (JP.gto s []) y w' (HM2.out.below hb2r) (HW.out.below hbr) (HCut.out.below hbr) (by rw [Hm.out]; omega) (by omega) (fun b hb => Nat.lt_of_lt_of_le (HT.out b hb) hbr.size)).mono fun e w3 ⟨uu, h1, h2, h3⟩ => ⟨_, h1, h2, h3⟩)
        simp only [putAll, List.take_succ_cons, List.take_zero]
        go_simp
      · intro x' w' hb hd
        have hb2r : Below w2.heap.size w2 w' := (below_drewF w2).trans hb
        have hbr : Below w.heap.size w w' := HB2.out.trans (hb2r.mono HB2.out.size)
        have k0 : x' 0 = .pointer (some ⟨q, 0, none⟩) := hd 0 (by simp)
        have k3 : x' 3 = .string (mkB s) := hd 3 (by simp)
        obtain ⟨j8, k8⟩ : ∃ j, JvAt j T w' (x' 8) (JP.setV (JP.gto s []) r y) := hd 8 (by simp)
        refine owes_call 70 #[.pointer (some ⟨q, 0, none⟩), .string (mkB s), x' 8] (by rfl) ?_ ((with_any (x := s) ((HO2.out.keepJ (KeepT.of hb2r)).upsJ (Nat.le_max_left 0 j8)) (k8.ups (Nat.le_max_right 0 j8)) (fun b hb => Nat.lt_of_lt_of_le (HT.out b hb) hbr.size) (by simp only [List.length_nil]; omega)).mono fun e w3 ⟨q', h1, h2, h3⟩ => ⟨_, h1, ⟨q', _, rfl, h2⟩, h3⟩)
        simp only [putAll, List.take_succ_cons, List.take_zero]
        go_simp
      · intro x' w' hb hd
        have hb2r : Below w2.heap.size w2 w' := (below_drewF w2).trans hb
        have hbr : Below w.heap.size w w' := HB2.out.trans (hb2r.mono HB2.out.size)
        obtain ⟨q', j, k9, k10⟩ : ∃ q' j, x' 9 = .pointer (some ⟨q', 0, none⟩) ∧ ObR (JvR j T) T w' q' (JP.put s (JP.setV (JP.gto s []) r y) []) := hd 9 (by simp)
        refine owes_here (.iface 88 (.pointer (some ⟨q', 0, none⟩))) (by rfl) ?_ ⟨q', j, rfl, k10⟩
        clear k10 hd
        simp only [putAll, List.take_succ_cons, List.take_zero]
        go_simp
      · intro x' w' hb hR
        have hb2r : Below w2.heap.size w2 w' := (below_drewF w2).trans hb
        have hbr : Below w.heap.size w w' := HB2.out.trans (hb2r.mono HB2.out.size)
        obtain ⟨q', j, k10, k11⟩ : ∃ q' j, x' 10 = .iface 88 (.pointer (some ⟨q', 0, none⟩)) ∧ ObR (JvR j T) T w' q' (JP.put s (JP.setV (JP.gto s []) r y) []) := hR 10 (by omega)
        have HF := Lib.hid k11
        have HBF := Lib.hid hbr
        clear hR hb hb2r hbr k11
        simp only [putAll, List.take_succ_cons, List.take_zero, List.drop_succ_cons, List.drop_zero]
        rw [k10]
        clear k10
        try simp only [Act.put, List.setIfInBounds_toArray, List.set_cons_zero, List.set_cons_succ]
        go_wp2_with fail
        go_ret
        exact ⟨_, rfl, ⟨j + 1, q', rfl, HF.out⟩, HBF.out⟩
end Go.Proofs.YtdcmnpeabjallaaGreatDoor
namespace Go.Proofs.YtdcmnpeabjallaaGreatDoor
open Go.RowKit Go.Shelf Go.Sort
open JP (JV Bs)
def OwnedX (lo : Nat) (w0 : World) : Rd JP.OwnP := fun _ cs x => ∃ v1, cs = [.string (mkB x.1), v1] ∧ OwnAt RString 1 w0 lo 9 v1 (x.2.map mkB)
theorem ownedX_staysX (lo : Nat) (w0 : World) : StaysX 30 (OwnedX lo w0) := fun _ _ _ _ _ h => h
theorem ownedX_flat (lo : Nat) (w0 : World) : Flat (OwnedX lo w0) := fun _ _ _ _ h => h
theorem ownedX_one (lo : Nat) (w0 : World) : OneR (OwnedX lo w0) := fun w cs x ⟨v1, h1, h2⟩ u hu => by
  rw [h1] at hu
  simp only [List.mem_cons, List.not_mem_nil, or_false] at hu
  rcases hu with rfl | rfl
  · rfl
  · exact strX_cell h2
instance inhOP : Inhabited JP.OwnP := ⟨([], [])⟩
abbrev OC := Value × JP.OwnP
def encOw (p : OC) : List Value := [.string (mkB p.2.1), oneV p.1]
def cfOw (p q : OC) : Int := Lib.compareBytes p.2.1 q.2.1
theorem ltOw (p q : OC) : ltOf cfOw p q = decide (Lib.compareBytes p.2.1 q.2.1 < 0) := rfl
theorem swoOw : SWO (ltOf cfOw) where
  irrefl x := by rw [ltOw, cmpB_self]; rfl
  trans x y z h1 h2 := by
    rw [ltOw, decide_eq_true_iff] at *
    exact cmpB_trans _ _ _ h1 h2
  ntrans x y z h1 h2 := by
    rw [ltOw, decide_eq_false_iff_not] at *
    exact cmpB_ntrans _ _ _ h1 h2
set_option maxHeartbeats 1000000 in
theorem ownedCmp (x y : OC) (W : World) : Calls Tryz.prog 72 #[.agg (encOw x).toArray, .agg (encOw y).toArray] W fun e w' => e = .returned (.int .i64 (cfOw x y)) ∧ ∃ q os', w' = Go.Sort.grow (W.drewN q) os' := by
  obtain ⟨a1, lx⟩ := x
  obtain ⟨b1, ly⟩ := y
  have hcon := fun W' => Tryz.strings_Compare (mkB lx.1) (mkB ly.1) W'
  rw [show cfOw (a1, lx) (b1, ly) = Lib.compareBytes (mkB lx.1).data.toList (mkB ly.1).data.toList by rw [mkB_list, mkB_list]; rfl]
  generalize Lib.compareBytes (mkB lx.1).data.toList (mkB ly.1).data.toList = r at hcon ⊢
  unfold encOw
  generalize mkB lx.1 = s1 at hcon ⊢
  generalize mkB ly.1 = s2 at hcon ⊢
  have p1 := oneV_one a1
  have p2 := oneV_one b1
  generalize oneV (a1, lx).1 = c1
  generalize oneV (b1, ly).1 = d1
  show Calls Tryz.prog 72 #[.agg #[.string s1, c1], .agg #[.string s2, d1]] W _
  go_enter Tryz.func72, Tryz.ntmps72
  go_wp2_with (go_at_call 56; refine (hcon _).mono ?_; rintro e w' ⟨rfl, rfl⟩)
  go_ret
  exact ⟨rfl, 0, _, by rw [alloc_eq_grow, alloc_eq_grow, grow_grow]; rfl⟩
theorem ownedLays (blk off size : Nat) (w : World) : CmpLays Tryz.prog 72 #[] encOw 2 cfOw blk off size w := fun _ _ _ _ x y => ownedCmp x y _
theorem encOw_len (x : OC) : (encOw x).length = 2 := rfl
theorem encOw_one (x : OC) : ∀ v ∈ encOw x, v.oneCell' = true := fun v hv => by
  unfold encOw at hv
  simp only [List.mem_cons, List.not_mem_nil, or_false] at hv
  rcases hv with rfl | rfl
  · rfl
  · exact oneV_one _
theorem flatK_getOw (d : List OC) : (flatK encOw 2 d.toArray).toList = (d.map encOw).flatten := by
  have hk : ∀ cs ∈ d.map encOw, cs.length = 2 := fun cs h => by
    obtain ⟨x, _, rfl⟩ := List.mem_map.1 h
    rfl
  have hl : (d.map encOw).flatten.length = d.length * 2 := by rw [flat_len hk, List.length_map]
  refine List.ext_getElem? fun t => ?_
  by_cases ht : t < d.length * 2
  · have e1 : t = t / 2 * 2 + t % 2 := by omega
    have hj : t / 2 < d.length := by omega
    have hi : t % 2 < 2 := by omega
    have e2 : (d.map encOw).flatten[t]? = some (encOw d[t / 2])[t % 2] := by
      conv => lhs; rw [e1]
      exact get_flat hk (by rw [List.getElem?_map, List.getElem?_eq_getElem hj]; rfl) (List.getElem?_eq_getElem (by rw [encOw_len]; exact hi))
    rw [e2]
    have e3 := get_flatK encOw 2 d.toArray t (by simpa using ht)
    have e4 : t < (flatK encOw 2 d.toArray).size := by rw [size_flatK]; simpa using ht
    rw [getElem!_pos _ t e4] at e3
    rw [Array.getElem?_toList, Array.getElem?_eq_getElem e4, e3, getElem!_pos d.toArray (t / 2) (by simpa using hj), getElem!_pos _ (t % 2) (by rw [encOw_len]; exact hi)]
    rfl
  · rw [List.getElem?_eq_none (by rw [Array.length_toList, size_flatK]; simp; omega), List.getElem?_eq_none (by rw [hl]; omega)]
theorem ow_sorted {lo : Nat} {w0 w : World} {B g n c : Nat} {l : List JP.OwnP} (h : OwnAt (OwnedX lo w0) 2 w B 30 (.slice (some ⟨g, 0, none⟩) n c) l) :
    n = l.length ∧ g < w.heap.size ∧ ∃ d : List OC, d.length = l.length ∧ HoldsK encOw 2 w g 0 d.toArray ∧ ∀ (q : Nat) (d' : List OC), d'.Perm d → (d'.map (·.2)).Perm l ∧
      OwnAt (OwnedX lo w0) 2 (putRowK encOw 2 (Go.Sort.ahead w q) g 0 d'.toArray) B 30 (.slice (some ⟨g, 0, none⟩) n c) (d'.map (·.2)) ∧ RowKit.Below B w (putRowK encOw 2 (Go.Sort.ahead w q) g 0 d'.toArray) ∧ SameBut 30 w (putRowK encOw 2 (Go.Sort.ahead w q) g 0 d'.toArray) ∧ (putRowK encOw 2 (Go.Sort.ahead w q) g 0 d'.toArray).heap.size = w.heap.size := by
  obtain ⟨css, c1, c2, ⟨c3, c4⟩, c5⟩ := h
  rcases c4 with ⟨h0, _⟩ | ⟨g', cap, cur, hv, hB, hh, hle, hm, hzc, ht⟩
  · cases h0
  · injection hv with u1 u2 u3
    injection u1 with u1
    injection u1 with u1
    subst u1; subst u2; subst u3
    have hgl : g < w.heap.size := by
      rcases Nat.lt_or_ge g w.heap.size with h1 | h1
      · exact h1
      · rw [Array.getElem?_eq_none h1] at hh; cases hh
    obtain ⟨d, hd1, hd2⟩ := pick_each (fun j (p : OC) => ∃ cs x, css[j]? = some cs ∧ l[j]? = some x ∧ p.2 = x ∧ encOw p = cs) l.length (fun j hj => by
      have hj1 : css[j]? = some (css[j]'(by omega)) := List.getElem?_eq_getElem _
      have hj2 : l[j]? = some l[j] := List.getElem?_eq_getElem _
      obtain ⟨sv, e1, e2⟩ := c5 j _ _ hj1 hj2
      refine ⟨(sv, l[j]), _, _, hj1, hj2, rfl, ?_⟩
      rw [e1]
      unfold encOw
      rw [oneV_of (strX_cell e2)])
    have hdl : d.map (·.2) = l := by
      refine List.ext_getElem? fun j => ?_
      rw [List.getElem?_map]
      by_cases hj : j < l.length
      · have hp : d[j]? = some (d[j]'(by omega)) := List.getElem?_eq_getElem _
        obtain ⟨cs, x, _, e2, e3, _⟩ := hd2 j _ hp
        rw [hp, e2, ← e3]
        rfl
      · rw [List.getElem?_eq_none (by omega), List.getElem?_eq_none (by omega)]; rfl
    have hdc : d.map encOw = css := by
      refine List.ext_getElem? fun j => ?_
      rw [List.getElem?_map]
      by_cases hj : j < l.length
      · have hp : d[j]? = some (d[j]'(by omega)) := List.getElem?_eq_getElem _
        obtain ⟨cs, x, e1, _, _, e4⟩ := hd2 j _ hp
        rw [hp, e1, ← e4]
        rfl
      · rw [List.getElem?_eq_none (by omega), List.getElem?_eq_none (by omega)]; rfl
    have hR : ∀ p ∈ d, OwnedX lo w0 w (encOw p) p.2 := fun p hp => by
      obtain ⟨j, hj, rfl⟩ := List.getElem_of_mem hp
      obtain ⟨cs, x, e1, e2, e3, e4⟩ := hd2 j _ (List.getElem?_eq_getElem hj)
      rw [e3, e4]
      exact c5 j cs x e1 e2
    refine ⟨rfl, hgl, d, hd1, ?_, ?_⟩
    · intro j hj
      rw [size_flatK] at hj
      have hj3 : j < l.length * 2 := by simpa [hd1] using hj
      refine ⟨?_, free_block hh _⟩
      have e4 : j < (flatK encOw 2 d.toArray).size := by rw [size_flatK]; exact hj
      rw [getElem!_pos _ j e4, Nat.zero_add, cell_block hh]
      have e5 : (flatK encOw 2 d.toArray).toList[j]? = cur.toList[j]? := by
        rw [flatK_getOw, hdc, ← ht, List.getElem?_take_of_lt hj3]
      rw [Array.getElem?_toList, Array.getElem?_toList, Array.getElem?_eq_getElem e4] at e5
      exact e5.symm
    · intro q d' hp
      have hl' : d'.length = l.length := by rw [hp.length_eq, hd1]
      obtain ⟨W, hW⟩ : ∃ W, putRowK encOw 2 (Go.Sort.ahead w q) g 0 d'.toArray = W := ⟨_, rfl⟩
      rw [hW]
      have hw : W.heap[g]? = some (.cells (putCells id 0 (flatK encOw 2 d'.toArray) cur) 30 (0, 0)) := by
        rw [← hW]
        unfold putRowK putRow mapBlock
        show (Array.modify w.heap g _)[g]? = _
        rw [Array.getElem?_modify, if_pos rfl, hh]
        rfl
      have ho : ∀ k, k ≠ g → W.heap[k]? = w.heap[k]? := fun k hk => by
        rw [← hW]
        unfold putRowK putRow mapBlock
        show (Array.modify w.heap g _)[k]? = _
        rw [Array.getElem?_modify, if_neg (Ne.symm hk)]
      have hs : W.heap.size = w.heap.size := by
        rw [← hW]
        unfold putRowK putRow mapBlock
        show (Array.modify w.heap g _).size = _
        rw [Array.size_modify]
      have hsb : SameBut 30 w W := fun b cs t fr hb htn => by
        rw [ho b (fun e => by rw [e, hh] at hb; injection hb with hb; injection hb with _ hb _; exact htn hb.symm)]
        exact hb
      have hk' : ∀ cs ∈ d'.map encOw, cs.length = 2 := fun cs h => by
        obtain ⟨x, _, rfl⟩ := List.mem_map.1 h
        rfl
      refine ⟨by rw [← hdl]; exact hp.map _, ⟨d'.map encOw, by rw [List.length_map, List.length_map], hk', ⟨by rw [flat_len hk', List.length_map, List.length_map], .inr ⟨g, c, _, by rw [List.length_map, hl'], hB, hw, by rw [List.length_map, hl']; exact hle, hm, by unfold putCells; rw [Array.size_mapIdx]; exact hzc, ?_⟩⟩, ?_⟩, ⟨by rw [← hW]; rfl, by rw [← hW]; rfl, by rw [← hW]; rfl, by rw [hs]; exact Nat.le_refl _, fun k hk => ho k (by omega)⟩, hsb, hs⟩
      · rw [← flatK_getOw, List.length_map, hl']
        apply List.ext_getElem?
        intro t
        by_cases htl : t < l.length * 2
        · have htc : t < cur.size := by rw [hzc]; omega
          have e4 : t < (flatK encOw 2 d'.toArray).size := by rw [size_flatK]; simp [hl']; omega
          rw [List.getElem?_take_of_lt htl, Array.getElem?_toList, Array.getElem?_toList]
          unfold putCells
          rw [Array.getElem?_mapIdx, Array.getElem?_eq_getElem htc, Option.map_some, if_pos ⟨by omega, by omega⟩, Nat.sub_zero, getElem!_pos _ t e4, Array.getElem?_eq_getElem e4]
          rfl
        · rw [List.getElem?_eq_none (by rw [List.length_take]; omega), List.getElem?_eq_none (by rw [Array.length_toList, size_flatK]; simp [hl']; omega)]
      · intro j cs x hcs hx
        rw [List.getElem?_map] at hcs hx
        obtain ⟨p, hp1, rfl⟩ := Option.map_eq_some_iff.1 hcs
        rw [hp1] at hx
        obtain rfl : p.2 = x := by simpa using hx
        exact ownedX_staysX lo w0 _ _ _ _ hsb (hR p (hp.mem_iff.1 (List.mem_of_getElem? hp1)))
def RiseO (l : List JP.OwnP) : Prop := l.Pairwise fun x y => ¬ Lib.compareBytes y.1 x.1 < 0
theorem ownedSort_any (v : Value) (l : List JP.OwnP) (B : Nat) (lo : Nat) (w0 w : World) (h : OwnAt (OwnedX lo w0) 2 w B 30 v l) (hB : B ≤ w.heap.size) (hl : l.length ≤ 1073741824) :
    Calls Tryz.prog 71 #[v, .func (.func 72) #[] #[]] w fun e w' => e = .returned (.tuple #[]) ∧ ∃ l', l'.Perm l ∧ RiseO l' ∧ OwnAt (OwnedX lo w0) 2 w' B 30 v l' ∧ RowKit.Below B w w' ∧ SameBut 30 w w' := by
  rcases h.form with ⟨rfl, rfl⟩ | ⟨g, c, rfl, _, hg, _, _⟩
  · refine (AnyF.slices_SortFunc_none Tryz.ownedSort none 0 _ w).mono fun e w' ⟨h1, h2⟩ => ?_
    subst h2
    exact ⟨h1, [], List.Perm.refl _, List.Pairwise.nil, OwnAt.nil _, Below.refl _ _, fun _ _ _ _ h _ => h⟩
  · obtain ⟨_, _, d, hd1, hH, ho⟩ := ow_sorted h
    have eg : ∀ args w, (callFunc 72 args).run Tryz.prog w = .ok (.enter 72 args) w := enters_of Tryz.func72 (by kernel_rfl) rfl
    have hs := AnyQ.slices_SortFunc Tryz.ownedSort 2 Tryz.isAgg30 Tryz.sizeOf30 encOw encOw_len encOw_one cfOw swoOw 72 #[] g 0 c d.toArray w eg (ownedLays g 0 _ w) hH hg (by simp [hd1]; omega)
    have hsz : d.toArray.size = l.length := by simp [hd1]
    rw [hsz] at hs
    refine hs.mono fun e w' ⟨h1, d', n, os, hp, hso, h2⟩ => ?_
    have hpp : d'.toList.Perm d := by
      obtain ⟨p1, _, p3⟩ := hp
      have e1 : d'.size = l.length := by rw [p1, hsz]
      have e2 : d'.extract 0 l.length = d' := by rw [← e1]; exact Array.extract_size
      have e3 : d.toArray.extract 0 l.length = d.toArray := by rw [← hsz]; exact Array.extract_size
      rw [e2, e3] at p3
      exact p3
    obtain ⟨o0, o1, o2, o3, o4⟩ := ho n d'.toList hpp
    rw [Array.toArray_toList] at o1 o2 o3 o4
    have hgr : RowKit.Below (putRowK encOw 2 (Go.Sort.ahead w n) g 0 d').heap.size (putRowK encOw 2 (Go.Sort.ahead w n) g 0 d') w' := by
      rw [h2]
      exact Lib.below_grow _ _ (Nat.le_refl _) 0 os
    have hrise : RiseO (d'.toList.map (·.2)) := by
      unfold RiseO
      rw [List.pairwise_map]
      exact sorted_pairs (fun p q : OC => Lib.compareBytes p.2.1 q.2.1) (fun p q => ltOw p q) (by rw [hp.1, hsz]) hso
    exact ⟨h1, _, o0, hrise, o1.belowX (ownedX_staysX _ _) hgr, o2.trans (hgr.mono (by rw [o4]; exact hB)), o3.trans (sameBut_below hgr)⟩
end Go.Proofs.YtdcmnpeabjallaaGreatDoor
