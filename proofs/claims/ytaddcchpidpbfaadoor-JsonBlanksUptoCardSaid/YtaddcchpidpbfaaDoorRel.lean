/- A region that draws its order, whose operations yield values of a kind (their addresses may hang on the order): one obligation an operation, one invariant; then a forced tail. Any program. -/
import Derived.Test.YtaddcchpidpbfaaDoorHold
namespace Go.Proofs.YtaddcchpidpbfaaDoor
open Go

section
variable {P : Program} {ops : Array Oper} {md : Region.Mode}

/-- the frame with these values in the heads' slots -/
def putAll : List Oper → (Nat → Value) → Nat → Act → Act
  | [], _, _, a => a
  | o :: r, u, k, a => putAll r u (k + 1) (a.put o.dst (u k))

def slotOf (a : Act) : Option Tmp → Value
  | some d => a.tmps.getD d undef
  | none => undef
theorem put_same (a : Act) (d : Option Tmp) (v w : Value) : (a.put d v).put d w = a.put d w := by
  cases d with
  | none => rfl
  | some d => simp [Act.put]
theorem put_own (a : Act) (d : Option Tmp) : a.put d (slotOf a d) = a := by
  cases d with
  | none => rfl
  | some d =>
    unfold Act.put slotOf
    simp only
    congr 1
    apply Array.ext
    · simp
    · intro i h1 h2
      rw [Array.getElem_setIfInBounds]
      split
      · rename_i h
        subst h
        simp [Array.getD, h2]
      · rfl
def apartDsts (l : List Oper) : Prop := l.Pairwise fun x y => ∀ d, x.dst = some d → y.dst ≠ some d
theorem putAll_put : ∀ (l : List Oper) (u : Nat → Value) (k : Nat) (a : Act) (d : Option Tmp) (v : Value), (∀ o ∈ l, ∀ t, d = some t → o.dst ≠ some t) → (putAll l u k a).put d v = putAll l u k (a.put d v)
  | [], _, _, _, _, _, _ => rfl
  | o :: r, u, k, a, d, v, h => by
    show (putAll r u (k + 1) (a.put o.dst (u k))).put d v = putAll r u (k + 1) ((a.put d v).put o.dst (u k))
    rw [putAll_put r u (k + 1) _ d v (fun o' ho => h o' (List.mem_cons_of_mem _ ho)), ← Act.put_comm a v (u k) (h o (List.mem_cons_self ..))]
theorem putAll_congr : ∀ (l : List Oper) (u u' : Nat → Value) (k : Nat) (a : Act), (∀ j, k ≤ j → u j = u' j) → putAll l u k a = putAll l u' k a
  | [], _, _, _, _, _ => rfl
  | o :: r, u, u', k, a, h => by
    show putAll r u (k + 1) (a.put o.dst (u k)) = putAll r u' (k + 1) (a.put o.dst (u' k))
    rw [h k (Nat.le_refl _)]
    exact putAll_congr r u u' (k + 1) _ (fun j hj => h j (by omega))
theorem putAll_set : ∀ (l : List Oper) (u : Nat → Value) (k i : Nat) (a : Act) (o : Oper) (v : Value), apartDsts l → l[i]? = some o → (putAll l u k a).put o.dst v = putAll l (fun j => if j = k + i then v else u j) k a
  | [], _, _, _, _, _, _, _, h => by simp at h
  | x :: r, u, k, 0, a, o, v, hd, h => by
    obtain rfl : x = o := by simpa using h
    show (putAll r u (k + 1) (a.put x.dst (u k))).put x.dst v = putAll r _ (k + 1) (a.put x.dst (if k = k + 0 then v else u k))
    rw [if_pos (by omega), putAll_put r u (k + 1) _ x.dst v (fun o' ho t ht => (List.pairwise_cons.1 hd).1 o' ho t ht), put_same]
    exact putAll_congr r _ _ (k + 1) _ (fun j hj => by rw [if_neg (by omega)])
  | x :: r, u, k, i + 1, a, o, v, hd, h => by
    show (putAll r u (k + 1) (a.put x.dst (u k))).put o.dst v = putAll r _ (k + 1) (a.put x.dst (if k = k + (i + 1) then v else u k))
    rw [if_neg (by omega), putAll_set r u (k + 1) i _ o v (List.pairwise_cons.1 hd).2 (by simpa using h)]
    exact putAll_congr r _ _ (k + 1) _ (fun j _ => by simp [show k + 1 + i = k + (i + 1) by omega])
theorem putAll_own : ∀ (l : List Oper) (k : Nat) (a : Act) (u : Nat → Value), (∀ j o, l[j]? = some o → u (k + j) = slotOf a o.dst) → putAll l u k a = a
  | [], _, _, _, _ => rfl
  | x :: r, k, a, u, h => by
    show putAll r u (k + 1) (a.put x.dst (u k)) = a
    rw [show u k = slotOf a x.dst from h 0 x rfl, put_own]
    exact putAll_own r (k + 1) a u (fun j o ho => by rw [show k + 1 + j = k + (j + 1) by omega]; exact h (j + 1) o (by simpa using ho))

/-- how many heads are not yet listed -/
def unl (listed : Array Bool) : Nat → Nat
  | 0 => 0
  | n + 1 => unl listed n + if listed.getD n true = true then 0 else 1
theorem unl_set {listed : Array Bool} {i : Nat} : ∀ {n : Nat}, i < n → listed.getD i true = false → i < listed.size → unl (listed.setIfInBounds i true) n + 1 = unl listed n
  | 0, h, _, _ => by omega
  | n + 1, h, hu, hs => by
    unfold unl
    by_cases hin : i = n
    · subst hin
      rw [hu, getD_set_true_own hs]
      have : unl (listed.setIfInBounds i true) i = unl listed i := unl_far (Nat.le_refl _)
      rw [this]
      simp
    · rw [getD_set_ne true hin]
      have := unl_set (n := n) (by omega) hu hs
      omega
where
  unl_far {i : Nat} : ∀ {n : Nat}, n ≤ i → unl (listed.setIfInBounds i true) n = unl listed n
    | 0, _ => rfl
    | n + 1, h => by
      unfold unl
      rw [unl_far (n := n) (by omega), getD_set_ne true (by omega)]
  getD_set_true_own {i : Nat} (hs : i < listed.size) : (listed.setIfInBounds i true).getD i true = true := by
    simp [Array.getD, hs]
theorem unl_zero {listed : Array Bool} : ∀ {n : Nat}, unl listed n = 0 → ∀ j, j < n → listed.getD j true = true
  | 0, _, j, h => by omega
  | n + 1, h0, j, h => by
    unfold unl at h0
    by_cases hj : j = n
    · subst hj
      by_cases hl : listed.getD j true = true
      · exact hl
      · rw [if_neg hl] at h0; omega
    · exact unl_zero (n := n) (by omega) j (by omega)

theorem unl_least {listed : Array Bool} {n : Nat} (hu : unl listed n ≠ 0) : ∃ i, i < n ∧ listed.getD i true = false ∧ ∀ j, j < i → listed.getD j true = true := by
  induction n with
  | zero => exact absurd rfl hu
  | succ n ih =>
    by_cases h : unl listed n = 0
    · refine ⟨n, by omega, ?_, unl_zero h⟩
      unfold unl at hu
      rw [h] at hu
      cases hl : listed.getD n true with
      | false => rfl
      | true => rw [hl] at hu; simp at hu
    · obtain ⟨i, hi, h1, h2⟩ := ih h
      exact ⟨i, by omega, h1, h2⟩
theorem getD_false {listed : Array Bool} {i : Nat} (hi : i < listed.size) (h : listed.getD i true = true) : listed.getD i false = true := by
  simp [Array.getD, hi] at h ⊢
  exact h
theorem ready_ex {n : Nat} {listed : Array Bool} (inv : HeadInv md ops n listed) (hback : ∀ i o, ops[i]? = some o → ∀ e ∈ o.after, Region.binds md e = true → e.on < i) (hn : n ≤ ops.size) (hu : unl listed n ≠ 0) :
    ∃ i, i < n ∧ listed.getD i true = false ∧ i ∈ Region.ready md ops listed := by
  obtain ⟨i, hi, h1, h2⟩ := unl_least hu
  refine ⟨i, hi, h1, mem_ready.2 ⟨h1, ops[i]'(by omega), by simp, fun e he hb => ?_⟩⟩
  have h3 := hback i _ (by simp) e he hb
  exact getD_false (by rw [inv.size]; omega) (h2 _ h3)

def canon (n m : Nat) : Array Bool := (Array.range m).map fun j => decide (j < n)
theorem eq_canon {n : Nat} {listed : Array Bool} (inv : HeadInv md ops n listed) (hu : unl listed n = 0) : listed = canon n ops.size := by
  apply Array.ext
  · simp [canon, inv.size]
  · intro i h1 h2
    have h3 : (canon n ops.size)[i] = decide (i < n) := by simp [canon]
    rw [h3]
    by_cases h : i < n
    · have := unl_zero hu i h
      simp [Array.getD, h1] at this
      simp [this, h]
    · have := inv.tail i (by omega) (by rw [← inv.size]; exact h1)
      simp [Array.getD, h1] at this
      simp [this, h]

/-- one value more -/
def upd (u : Nat → Value) (i : Nat) (v : Value) : Nat → Value := fun j => if j = i then v else u j

theorem wpAny_rel {n g : Nat} {hs : List Oper} {a0 : Act} {I : World → Prop} {R : Nat → (Nat → Value) → World → Prop} {deps : Nat → List Nat} {Q : Exit → Act → World → Prop}
    (hops : ∀ j, j < n → hs[j]? = ops[j]?) (hn : n < ops.size) (hap : apartDsts hs)
    (hs1 : Region.sinkB md ops n = true) (hc1 : Region.chainB md ops n = true)
    (hback : ∀ i o, ops[i]? = some o → ∀ e ∈ o.after, Region.binds md e = true → e.on < i)
    (hdeps : ∀ i o, hs[i]? = some o → ∀ j ∈ deps i, j < n ∧ ∃ e ∈ o.after, Region.binds md e = true ∧ e.on = j)
    (hloc : ∀ j u u' w, (∀ k, (k = j ∨ k ∈ deps j) → u k = u' k) → R j u w → R j u' w)
    (obl : ∀ i o, hs[i]? = some o → ∀ (u : Nat → Value) w, I w → (∀ j ∈ deps i, R j u w) →
      (Region.wanted o (yielded ops (putAll hs u 0 a0).tmps) = true ∧ gives P (fun v w' => R i (upd u i v) w' ∧ I w' ∧ ∀ j u, j ≠ i → R j u w → R j u w') ((execOp (putAll hs u 0 a0).eval o).run P w)) ∨
      (Region.wanted o (yielded ops (putAll hs u 0 a0).tmps) = false ∧ R i (upd u i undef) w))
    (hend : ∀ (u : Nat → Value) w, I w → (∀ j, j < n → R j u w) → wpAny P md ops Q g (canon n ops.size) (putAll hs u 0 a0) w) :
    ∀ (f : Nat) (listed : Array Bool) (u : Nat → Value) (w : World), unl listed n = f → HeadInv md ops n listed → I w → (∀ j, j < n → listed.getD j false = true → R j u w) →
      wpAny P md ops Q (f + g) listed (putAll hs u 0 a0) w := by
  intro f
  induction f with
  | zero =>
    intro listed u w hf inv hI hR
    rw [Nat.zero_add, eq_canon inv hf]
    refine hend u w hI fun j hj => hR j hj (getD_false (by rw [inv.size]; omega) (unl_zero hf j hj))
  | succ f ih =>
    intro listed u w hf inv hI hR
    obtain ⟨k, hk, hku, hkr⟩ := ready_ex inv hback (by omega) (by omega)
    rw [show f + 1 + g = (f + g) + 1 by omega]
    refine ⟨fun h => (by rw [h] at hkr; cases hkr), fun i hi => ?_⟩
    have hin : i < n := by
      rcases Nat.lt_or_ge i n with h | h
      · exact h
      · exact absurd hi (tail_waits hs1 hc1 hn inv _ k rfl hk hku i h)
    obtain ⟨hiu, o, ho, hall⟩ := mem_ready.1 hi
    have ho' : hs[i]? = some o := (hops i hin).trans ho
    have hRd : ∀ j ∈ deps i, R j u w := fun j hj => by
      obtain ⟨hjn, e, he, hb, hon⟩ := hdeps i o ho' j hj
      exact hR j hjn (by rw [← hon]; exact hall e he hb)
    have next : ∀ v w', R i (upd u i v) w' → I w' → (∀ j u, j ≠ i → R j u w → R j u w') → wpAny P md ops Q (f + g) (listed.setIfInBounds i true) ((putAll hs u 0 a0).put o.dst v) w' := fun v w' hv hI' hst => by
      rw [putAll_set hs u 0 i a0 o v hap ho']
      have hil : i < listed.size := by rw [inv.size]; omega
      refine ih _ _ w' (by have := unl_set hin hiu hil; omega) (inv.set hi hin) hI' fun j hj hl => ?_
      have hup : (fun j => if j = 0 + i then v else u j) = upd u i v := by funext j; simp [upd]
      rw [hup]
      by_cases hji : j = i
      · subst hji; exact hv
      · rw [getD_set_ne false (fun h => hji h.symm)] at hl
        refine hloc j u _ w' (fun q hq => ?_) (hst _ _ hji (hR j hj hl))
        unfold upd
        rw [if_neg ?_]
        rintro rfl
        rcases hq with rfl | hq
        · exact hji rfl
        · have hjo : ∃ oj, hs[j]? = some oj := by
            have hlen := hops j hj
            have : j < ops.size := by omega
            exact ⟨ops[j], by rw [hlen]; simp [this]⟩
          obtain ⟨oj, hoj⟩ := hjo
          obtain ⟨_, e, he, hb, hon⟩ := hdeps j oj hoj q hq
          have h1 := inv.closed j oj ((hops j hj).symm.trans hoj) hl e he hb
          rw [hon, getD_both hiu] at h1
          cases h1
    unfold wpOp
    simp only [ho]
    rcases obl i o ho' u w hI hRd with ⟨hw, hg⟩ | ⟨hw, hv⟩
    · rw [if_pos hw]
      refine .inl ?_
      unfold Oper.wp
      exact gives_upon (R := fun v w' => R i (upd u i v) w' ∧ I w' ∧ ∀ j u, j ≠ i → R j u w → R j u w') (fun v w' h => next v w' h.1 h.2.1 h.2.2) hg
    · rw [if_neg (by rw [hw]; simp)]
      exact next undef w hv hI (fun _ _ _ h => h)

/-- what the kernel reckons: edges lead back, the heads' slots are apart, the operations looked back at are edges, the tail is forced -/
def relB (md : Region.Mode) (l : List Oper) (n : Nat) (deps : Nat → List Nat) : Bool :=
  decide (n < l.length) && Region.sinkB md l.toArray n && Region.chainB md l.toArray n &&
  ((List.range l.length).all fun i => match l[i]? with | some o => o.after.all fun e => !Region.binds md e || decide (e.on < i) | none => true) &&
  ((List.range n).all fun i => (List.range i).all fun j => match l[i]?, l[j]? with | some x, some y => (match y.dst with | some d => x.dst != some d | none => true) | _, _ => true) &&
  ((List.range n).all fun i => match l[i]? with | some o => (deps i).all fun j => decide (j < n) && o.after.any fun e => Region.binds md e && e.on == j | none => true) &&
  Region.seqB md l.toArray (l.length - n) n (canon n l.length)

theorem wp_region_rel {id : Nat} {Q : Exit → Act → World → Prop} {a : Act} {w : World} {l : List Oper} (n : Nat) (I : World → Prop) (R : Nat → (Nat → Value) → World → Prop) (deps : Nat → List Nat)
    (hm : P.follows .mixedOrders = true) (hB : relB .any l n deps = true) (hloc : ∀ j u u' w, (∀ k, (k = j ∨ k ∈ deps j) → u k = u' k) → R j u w → R j u' w) (hI : I w.drew)
    (obl : ∀ i o, (l.take n)[i]? = some o → ∀ (u : Nat → Value) w, I w → (∀ j ∈ deps i, R j u w) →
      (Region.wanted o (yielded l.toArray (putAll (l.take n) u 0 a).tmps) = true ∧ gives P (fun v w' => R i (upd u i v) w' ∧ I w' ∧ ∀ j u, j ≠ i → R j u w → R j u w') ((execOp (putAll (l.take n) u 0 a).eval o).run P w)) ∨
      (Region.wanted o (yielded l.toArray (putAll (l.take n) u 0 a).tmps) = false ∧ R i (upd u i undef) w))
    (htail : ∀ (u : Nat → Value) w, I w → (∀ j, j < n → R j u w) → wpList P l.toArray Q (l.drop n) (putAll (l.take n) u 0 a) w) : (Code.region id l.toArray true).wp P Q a w := by
  simp only [relB, Bool.and_eq_true, decide_eq_true_eq, List.all_eq_true, List.mem_range] at hB
  obtain ⟨⟨⟨⟨⟨⟨hn, hs1⟩, hc1⟩, hback⟩, hap⟩, hdeps⟩, hseq⟩ := hB
  have hsz : l.toArray.size = l.length := by simp
  refine wp_region_any hm ?_
  have hown : putAll (l.take n) (fun j => slotOf a (((l.take n)[j]?).bind (·.dst))) 0 a = a := putAll_own _ 0 a _ fun j o ho => by simp only [Nat.zero_add]; rw [ho]; rfl
  have hu0 : unl (Array.replicate l.toArray.size false) n = n := by
    have key : ∀ m, m ≤ l.length → unl (Array.replicate l.toArray.size false) m = m := by
      intro m
      induction m with
      | zero => intro _; rfl
      | succ m ih =>
        intro h
        unfold unl
        rw [ih (by omega), if_neg (by simp [Array.getD, show m < l.length by omega])]
    exact key n (by omega)
  have inv0 : HeadInv .any l.toArray n (Array.replicate l.toArray.size false) :=
    ⟨by simp, fun j oj _ hl => (by rw [getD_replicate_false] at hl; cases hl), fun t _ ht => getD_in (by simpa using ht) (getD_replicate_false _ _)⟩
  have H := wpAny_rel (P := P) (ops := l.toArray) (md := .any) (n := n) (g := l.length - n) (hs := l.take n) (a0 := a) (I := I) (R := R) (deps := deps) (Q := Q)
    (fun j hj => by simp [List.getElem?_take_of_lt hj]) (by simpa using hn)
    (List.pairwise_iff_getElem.2 fun i j hi hj hij d hd => by
      have hi' : i < l.length := by simp at hi; omega
      have hj' : j < l.length := by simp at hj; omega
      have hjn : j < n := by simp at hj; omega
      have := hap j hjn i hij
      rw [List.getElem?_eq_getElem hj', List.getElem?_eq_getElem hi'] at this
      simp only [List.getElem_take] at hd ⊢
      simp only [hd] at this
      simpa using this)
    hs1 hc1
    (fun i o ho e he hb => by
      have ho' : l[i]? = some o := by simpa using ho
      have hil : i < l.length := (List.getElem?_eq_some_iff.1 ho').1
      have := hback i hil
      rw [ho'] at this
      have := Array.all_eq_true'.1 this e he
      simpa [hb] using this)
    (fun i o ho j hj => by
      have hin : i < n := by have := (List.getElem?_eq_some_iff.1 ho).1; simp at this; omega
      have ho' : l[i]? = some o := by rw [List.getElem?_take_of_lt hin] at ho; exact ho
      have := hdeps i hin
      rw [ho'] at this
      have := List.all_eq_true.1 this j hj
      simp only [Bool.and_eq_true, decide_eq_true_eq] at this
      obtain ⟨e, he, hb⟩ := Array.any_eq_true'.1 this.2
      simp only [Bool.and_eq_true, beq_iff_eq] at hb
      exact ⟨this.1, e, he, hb.1, hb.2⟩)
    hloc obl
    (fun u w' hI' hR => by
      have := wpAny_of_seq (md := .any) (Q' := Q) (l.drop n) n (canon n l.toArray.size) (putAll (l.take n) u 0 a) w' (fun j => by simp [List.getElem?_drop]) (by rw [List.length_drop, hsz]; exact hseq) (htail u w' hI' hR)
      rwa [List.length_drop] at this)
    n (Array.replicate l.toArray.size false) (fun j => slotOf a (((l.take n)[j]?).bind (·.dst))) w.drew hu0 inv0 hI (fun j _ hl => by rw [getD_replicate_false] at hl; cases hl)
  rw [hown, show n + (l.length - n) = l.length by omega] at H
  rw [hsz]
  exact H

/-- the values that a fact may speak of: an operation's own, and those it waits for -/
def mask (ds : List Nat) (j : Nat) (u : Nat → Value) : Nat → Value := fun k => if k = j ∨ k ∈ ds then u k else undef
theorem mask_congr {ds : List Nat} {j : Nat} {u u' : Nat → Value} (h : ∀ k, (k = j ∨ k ∈ ds) → u k = u' k) : mask ds j u = mask ds j u' := by
  funext k
  unfold mask
  split
  · rename_i hk; exact h k hk
  · rfl
/-- one obligation an operation, in any world above W -/
def relObl (P : Program) (ops : Array Oper) (W : World) (R : Nat → (Nat → Value) → World → Prop) (deps : Nat → List Nat) (hs : List Oper) (a0 : Act) : List Oper → Nat → Prop
  | [], _ => True
  | o :: r, i => (∀ (u : Nat → Value) w, RowKit.Below W.heap.size W w → (∀ j ∈ deps i, R j (mask (deps j) j u) w) →
      (Region.wanted o (yielded ops (putAll hs u 0 a0).tmps) = true ∧ gives P (fun v w' => R i (mask (deps i) i (upd u i v)) w' ∧ RowKit.Below w.heap.size w w') ((execOp (putAll hs u 0 a0).eval o).run P w)) ∨
      (Region.wanted o (yielded ops (putAll hs u 0 a0).tmps) = false ∧ R i (mask (deps i) i (upd u i undef)) w)) ∧ relObl P ops W R deps hs a0 r (i + 1)
theorem relObl_get {W : World} {R : Nat → (Nat → Value) → World → Prop} {deps : Nat → List Nat} {hs : List Oper} {a0 : Act} : ∀ (l : List Oper) (k : Nat), relObl P ops W R deps hs a0 l k → ∀ j o, l[j]? = some o →
    (∀ (u : Nat → Value) w, RowKit.Below W.heap.size W w → (∀ i ∈ deps (k + j), R i (mask (deps i) i u) w) →
      (Region.wanted o (yielded ops (putAll hs u 0 a0).tmps) = true ∧ gives P (fun v w' => R (k + j) (mask (deps (k + j)) (k + j) (upd u (k + j) v)) w' ∧ RowKit.Below w.heap.size w w') ((execOp (putAll hs u 0 a0).eval o).run P w)) ∨
      (Region.wanted o (yielded ops (putAll hs u 0 a0).tmps) = false ∧ R (k + j) (mask (deps (k + j)) (k + j) (upd u (k + j) undef)) w))
  | [], _, _, j, o, h => by simp at h
  | x :: r, k, h, j, o, ho => by
    cases j with
    | zero =>
      simp only [List.getElem?_cons_zero, Option.some.injEq] at ho
      subst ho
      exact h.1
    | succ j =>
      have := relObl_get r (k + 1) h.2 j o (by simpa using ho)
      rw [show k + 1 + j = k + (j + 1) by omega] at this
      exact this
theorem gives_mono {P : Program} {R R' : Value → World → Prop} (h : ∀ v w, R v w → R' v w) : ∀ {r : Result Next}, gives P R r → gives P R' r
  | .ok (.value _) _, hr => h _ _ hr
  | .ok .skip _, hr => h _ _ hr
  | .ok (.enter _ _) _, hr => Calls.mono hr fun _ _ ⟨v, h1, h2⟩ => ⟨v, h1, h _ _ h2⟩

/-- THE LAW, all worlds above the one at the region's head -/
theorem wp_region_relB {id : Nat} {Q : Exit → Act → World → Prop} {a : Act} {w : World} {l : List Oper} (n : Nat) (R : Nat → (Nat → Value) → World → Prop) (deps : Nat → List Nat)
    (hm : P.follows .mixedOrders = true) (hB : relB .any l n deps = true) (hst : ∀ j u w w', RowKit.Below w.heap.size w w' → R j u w → R j u w')
    (obl : relObl P l.toArray w.drew R deps (l.take n) a (l.take n) 0)
    (htail : ∀ (u : Nat → Value) w', RowKit.Below w.drew.heap.size w.drew w' → (∀ j, j < n → R j (mask (deps j) j u) w') → wpList P l.toArray Q (l.drop n) (putAll (l.take n) u 0 a) w') : (Code.region id l.toArray true).wp P Q a w := by
  refine wp_region_rel n (fun w' => RowKit.Below w.drew.heap.size w.drew w') (fun j u w => R j (mask (deps j) j u) w) deps hm hB (fun j u u' w h hR => by rw [← mask_congr h]; exact hR) (RowKit.Below.refl _ _) (fun i o ho u w' hI hd => ?_) htail
  have h := relObl_get (l.take n) 0 obl i o ho u w' hI (by rw [Nat.zero_add]; exact hd)
  rw [Nat.zero_add] at h
  rcases h with ⟨h1, h2⟩ | h
  · exact .inl ⟨h1, gives_mono (fun v w'' ⟨g1, g2⟩ => ⟨g1, below_then hI g2, fun j u _ hj => hst j _ _ _ g2 hj⟩) h2⟩
  · exact .inr h
/-- what an operation owes -/
def owes (P : Program) (ops : Array Oper) (Ri : Value → World → Prop) (A : Act) (o : Oper) (w : World) : Prop :=
  (Region.wanted o (yielded ops A.tmps) = true ∧ gives P (fun v w' => Ri v w' ∧ RowKit.Below w.heap.size w w') ((execOp A.eval o).run P w)) ∨ (Region.wanted o (yielded ops A.tmps) = false ∧ Ri undef w)
/-- an operation that leaves the world alone -/
theorem owes_here {Ri : Value → World → Prop} {A : Act} {o : Oper} {w : World} (v : Value) (hg : o.guard = none) (h : (execOp A.eval o).run P w = .ok (.value v) w) (hR : Ri v w) : owes P ops Ri A o w :=
  .inl ⟨by simp [Region.wanted, hg], by rw [h]; exact ⟨hR, RowKit.Below.refl _ _⟩⟩
theorem owes_call {Ri : Value → World → Prop} {A : Act} {o : Oper} {w : World} (f : FuncId) (args : Array Value) (hg : o.guard = none) (h : (execOp A.eval o).run P w = .ok (.enter f args) w)
    (hc : Calls P f args w fun e w' => ∃ v, e = .returned v ∧ Ri v w' ∧ RowKit.Below w.heap.size w w') : owes P ops Ri A o w :=
  .inl ⟨by simp [Region.wanted, hg], by rw [h]; exact hc⟩
/-- an operation that makes memory -/
theorem owes_makes {Ri : Value → World → Prop} {A : Act} {o : Oper} {w w' : World} (v : Value) (hg : o.guard = none) (h : (execOp A.eval o).run P w = .ok (.value v) w') (hR : Ri v w') (hb : RowKit.Below w.heap.size w w') : owes P ops Ri A o w :=
  .inl ⟨by simp [Region.wanted, hg], by rw [h]; exact ⟨hR, hb⟩⟩

theorem else_of {c : Prop} [Decidable c] {A B : Prop} (h : ¬ c) (q : B) : if c then A else B := by rw [if_neg h]; exact q
theorem then_of {c : Prop} [Decidable c] {A B : Prop} (h : c) (q : A) : if c then A else B := by rw [if_pos h]; exact q
/-! ### the same, what each operation does to the world said by K -/
def owesK (P : Program) (ops : Array Oper) (Ri : Value → World → Prop) (Ki : World → World → Prop) (A : Act) (o : Oper) (w : World) : Prop :=
  (Region.wanted o (yielded ops A.tmps) = true ∧ gives P (fun v w' => Ri v w' ∧ Ki w w') ((execOp A.eval o).run P w)) ∨ (Region.wanted o (yielded ops A.tmps) = false ∧ Ri undef w)
def relOblK (P : Program) (ops : Array Oper) (I : World → Prop) (K : Nat → World → World → Prop) (R : Nat → (Nat → Value) → World → Prop) (deps : Nat → List Nat) (hs : List Oper) (a0 : Act) : List Oper → Nat → Prop
  | [], _ => True
  | o :: r, i => (∀ (u : Nat → Value) w, I w → (∀ j ∈ deps i, R j (mask (deps j) j u) w) → owesK P ops (fun v w' => R i (mask (deps i) i (upd u i v)) w') (K i) (putAll hs u 0 a0) o w) ∧ relOblK P ops I K R deps hs a0 r (i + 1)
theorem relOblK_get {I : World → Prop} {K : Nat → World → World → Prop} {R : Nat → (Nat → Value) → World → Prop} {deps : Nat → List Nat} {hs : List Oper} {a0 : Act} : ∀ (l : List Oper) (k : Nat), relOblK P ops I K R deps hs a0 l k → ∀ j o, l[j]? = some o →
    (∀ (u : Nat → Value) w, I w → (∀ i ∈ deps (k + j), R i (mask (deps i) i u) w) → owesK P ops (fun v w' => R (k + j) (mask (deps (k + j)) (k + j) (upd u (k + j) v)) w') (K (k + j)) (putAll hs u 0 a0) o w)
  | [], _, _, j, o, h => by simp at h
  | x :: r, k, h, j, o, ho => by
    cases j with
    | zero =>
      simp only [List.getElem?_cons_zero, Option.some.injEq] at ho
      subst ho
      exact h.1
    | succ j =>
      have := relOblK_get r (k + 1) h.2 j o (by simpa using ho)
      rw [show k + 1 + j = k + (j + 1) by omega] at this
      exact this
theorem wp_region_relK {id : Nat} {Q : Exit → Act → World → Prop} {a : Act} {w : World} {l : List Oper} (n : Nat) (I : World → Prop) (K : Nat → World → World → Prop) (R : Nat → (Nat → Value) → World → Prop) (deps : Nat → List Nat)
    (hm : P.follows .mixedOrders = true) (hB : relB .any l n deps = true) (hI0 : I w.drew) (hI : ∀ i w w', K i w w' → I w → I w') (hst : ∀ i j u w w', j ≠ i → K i w w' → I w → R j u w → R j u w')
    (obl : relOblK P l.toArray I K R deps (l.take n) a (l.take n) 0)
    (htail : ∀ (u : Nat → Value) w', I w' → (∀ j, j < n → R j (mask (deps j) j u) w') → wpList P l.toArray Q (l.drop n) (putAll (l.take n) u 0 a) w') : (Code.region id l.toArray true).wp P Q a w := by
  refine wp_region_rel n I (fun j u w => R j (mask (deps j) j u) w) deps hm hB (fun j u u' w h hR => by rw [← mask_congr h]; exact hR) hI0 (fun i o ho u w' hI' hd => ?_) htail
  have h := relOblK_get (l.take n) 0 obl i o ho u w' hI' (by rw [Nat.zero_add]; exact hd)
  rw [Nat.zero_add] at h
  rcases h with ⟨h1, h2⟩ | h
  · exact .inl ⟨h1, gives_mono (fun v w'' ⟨g1, g2⟩ => ⟨g1, hI _ _ _ g2 hI', fun j u hji hj => hst i j _ _ _ hji g2 hI' hj⟩) h2⟩
  · exact .inr h
theorem owesK_here {Ri : Value → World → Prop} {Ki : World → World → Prop} {A : Act} {o : Oper} {w : World} (v : Value) (hg : o.guard = none) (h : (execOp A.eval o).run P w = .ok (.value v) w) (hR : Ri v w) (hk : Ki w w) : owesK P ops Ri Ki A o w :=
  .inl ⟨by simp [Region.wanted, hg], by rw [h]; exact ⟨hR, hk⟩⟩
theorem owesK_call {Ri : Value → World → Prop} {Ki : World → World → Prop} {A : Act} {o : Oper} {w : World} (f : FuncId) (args : Array Value) (hg : o.guard = none) (h : (execOp A.eval o).run P w = .ok (.enter f args) w)
    (hc : Calls P f args w fun e w' => ∃ v, e = .returned v ∧ Ri v w' ∧ Ki w w') : owesK P ops Ri Ki A o w :=
  .inl ⟨by simp [Region.wanted, hg], by rw [h]; exact hc⟩
theorem owesK_makes {Ri : Value → World → Prop} {Ki : World → World → Prop} {A : Act} {o : Oper} {w w' : World} (v : Value) (hg : o.guard = none) (h : (execOp A.eval o).run P w = .ok (.value v) w') (hR : Ri v w') (hk : Ki w w') : owesK P ops Ri Ki A o w :=
  .inl ⟨by simp [Region.wanted, hg], by rw [h]; exact ⟨hR, hk⟩⟩
theorem owesK_skip {Ri : Value → World → Prop} {Ki : World → World → Prop} {A : Act} {o : Oper} {w w' : World} (hg : o.guard = none) (h : (execOp A.eval o).run P w = .ok .skip w') (hR : Ri undef w') (hk : Ki w w') : owesK P ops Ri Ki A o w :=
  .inl ⟨by simp [Region.wanted, hg], by rw [h]; exact ⟨hR, hk⟩⟩
end
end Go.Proofs.YtaddcchpidpbfaaDoor
