/- A region that draws its order: a chosen row of operations that leave the world alone is taken first, the others come behind it one by one. Any program. -/
import Derived.StillTail
import Derived.StillTactics
import Derived.Deep.RegionHeld3
import Derived.WalkKit
namespace Go.Proofs.YtaddcchpidpbfaaDoor
open Go

section
variable {P : Program} {ops : Array Oper} {md : Region.Mode}

/-- whatever comes up; those that st names leave the world alone -/
def wpMix (P : Program) (md : Region.Mode) (ops : Array Oper) (Q : Exit → Act → World → Prop) (st : Nat → Bool) : Nat → Array Bool → Act → World → Prop
  | 0, listed, a, w => Region.ready md ops listed = [] ∧ Q .normal a w
  | f + 1, listed, a, w =>
    (Region.ready md ops listed = [] → Q .normal a w) ∧
    ∀ i ∈ Region.ready md ops listed, if st i = true then stOp P ops w i (fun a' => wpMix P md ops Q st f (listed.setIfInBounds i true) a' w) a
      else wpOp P ops Q i (wpMix P md ops Q st f (listed.setIfInBounds i true)) a w

theorem wpAny_of_mix {Q : Exit → Act → World → Prop} {st : Nat → Bool} : ∀ (f : Nat) (listed : Array Bool) (a : Act) (w : World), wpMix P md ops Q st f listed a w → wpAny P md ops Q f listed a w
  | 0, _, _, _, h => h
  | f + 1, listed, a, w, h => by
    refine ⟨h.1, fun i hi => ?_⟩
    have h2 := h.2 i hi
    by_cases hs : st i = true
    · rw [if_pos hs] at h2
      exact wpOp_of_stOp (fun a' h' => wpAny_of_mix f _ a' w h') h2
    · rw [if_neg hs] at h2
      exact wpOp_mono (fun a' w' h' => wpAny_of_mix f _ a' w' h') h2

/-- a still operation apart from another one: what is kept by its write stays -/
theorem stOp_keep {w : World} {j : Nat} {oi oj : Oper} {v : Value} (hj : ops[j]? = some oj) (hap : oi.apart ops oj = true) (hsj : ∀ cs b, oj.op ≠ .select cs b)
    {F : Act → Prop} (hF : ∀ a u, F a → F (a.put oj.dst u)) {K : Act → Prop} {a : Act} (hy : F a) (h : stOp P ops w j K (a.put oi.dst v)) :
    stOp P ops w j (fun a' => F a' ∧ K (a'.put oi.dst v)) a := by
  obtain ⟨h1, h2, _⟩ := Oper.apart_spec hap
  unfold stOp at *
  simp only [hj] at *
  rw [wanted_put oj a oi.dst v h1] at h
  by_cases hw : Region.wanted oj (yielded ops a.tmps) = true
  · simp only [hw, if_true] at h ⊢
    unfold Oper.still at *
    rw [execOp_put oj hsj a oi.dst v h1] at h
    generalize (execOp a.eval oj).run P w = r at *
    cases r with
    | halt x w' => exact h
    | ok n w' =>
      cases n <;> simp only [Oper.stillUpon] at h ⊢
      case value u => exact ⟨h.1, hF _ u hy, by rw [← Act.put_comm a v u h2]; exact h.2⟩
      case skip => exact ⟨h.1, hF _ _ hy, by rw [← Act.put_comm a v undef h2]; exact h.2⟩
      case enter f args => obtain ⟨e1, u, hc, hn⟩ := h; exact ⟨e1, u, hc, hF _ u hy, by rw [← Act.put_comm a v u h2]; exact hn⟩
  · simp only [hw] at h ⊢
    exact ⟨hF _ _ hy, by rw [← Act.put_comm a v undef h2]; exact h⟩

/-- t waits for i, by one edge or by many -/
inductive Behind (md : Region.Mode) (ops : Array Oper) (i : Nat) : Nat → Prop
  | edge {t : Nat} {o : Oper} {e : Edge} (ho : ops[t]? = some o) (he : e ∈ o.after) (hb : Region.binds md e = true) (hi : e.on = i) : Behind md ops i t
  | step {t : Nat} {o : Oper} {e : Edge} (ho : ops[t]? = some o) (he : e ∈ o.after) (hb : Region.binds md e = true) (h : Behind md ops i e.on) : Behind md ops i t

def Shut (md : Region.Mode) (ops : Array Oper) (listed : Array Bool) : Prop :=
  ∀ j oj, ops[j]? = some oj → listed.getD j false = true → ∀ e ∈ oj.after, Region.binds md e = true → listed.getD e.on false = true

theorem Behind.listed {i t : Nat} {listed : Array Bool} (h : Behind md ops i t) (hc : Shut md ops listed) :
    (∀ o, ops[t]? = some o → ∀ e ∈ o.after, Region.binds md e = true → listed.getD e.on false = true) → listed.getD i false = true := by
  induction h with
  | edge ho he hb hi => intro hall; rw [← hi]; exact hall _ ho _ he hb
  | step ho he hb _ ih =>
    intro hall
    have h1 := hall _ ho _ he hb
    exact ih (fun o2 ho2 e2 he2 hb2 => hc _ o2 ho2 h1 e2 he2 hb2)

theorem Shut.set {i : Nat} {listed : Array Bool} (hc : Shut md ops listed) (hi : i ∈ Region.ready md ops listed) : Shut md ops (listed.setIfInBounds i true) := by
  obtain ⟨_, oi, hoi, hall⟩ := mem_ready.1 hi
  intro j oj hj hl e he hb
  by_cases hij : i = j
  · subst hij
    have : oj = oi := Option.some.inj (hj.symm.trans hoi)
    subst this
    exact getD_set_true (hall e he hb)
  · rw [getD_set_ne false hij] at hl
    exact getD_set_true (hc j oj hj hl e he hb)

/-- an operation may be taken first: it yields in whatever world (pure), or in this one while all that may change the world waits for it -/
theorem wpMix_first {Q : Exit → Act → World → Prop} {st : Nat → Bool} {i : Nat} {oi : Oper} {v : Value} (hi : ops[i]? = some oi) (hst : st i = true)
    (hsel : ∀ (j : Nat) (o : Oper) cs b, ops[j]? = some o → o.op ≠ .select cs b)
    (w : World) (hbe : ∀ t, t < ops.size → st t = false → Behind md ops i t) :
    ∀ (f : Nat) (listed : Array Bool) (a : Act), Shut md ops listed →
      (∀ j oj, ops[j]? = some oj → j ≠ i → listed.getD j true = false → (∀ e ∈ oj.after, Region.binds md e = true → e.on ≠ i) → oi.apart ops oj = true) →
      i ∈ Region.ready md ops listed → YieldsAt P ops w oi v a →
      wpMix P md ops Q st f (listed.setIfInBounds i true) (a.put oi.dst v) w → wpMix P md ops Q st (f + 1) listed a w := by
  intro f
  induction f with
  | zero =>
    intro listed a hc _ hr hy H
    refine ⟨fun h => (by rw [h] at hr; cases hr), fun j hj => ?_⟩
    by_cases hji : j = i
    · subst hji
      rw [if_pos hst]
      exact hy.stOp hi H
    · have h1 := ready_mono hj hji
      rw [H.1] at h1
      cases h1
  | succ f ih =>
    intro listed a hc hfree hr hy H
    refine ⟨fun h => (by rw [h] at hr; cases hr), fun j hj => ?_⟩
    by_cases hji : j = i
    · subst hji
      rw [if_pos hst]
      exact hy.stOp hi H
    · have h1 := H.2 j (ready_mono hj hji)
      obtain ⟨hjun, oj, hoj, hall⟩ := mem_ready.1 hj
      have hiun := (mem_ready.1 hr).1
      have hnot : ∀ e ∈ oj.after, Region.binds md e = true → e.on ≠ i := fun e he hb heq => by
        have h2 := hall e he hb
        rw [heq, getD_both hiun] at h2
        cases h2
      have hsj : st j = true := by
        cases hs : st j with
        | true => rfl
        | false =>
          have hlt : j < ops.size := (Array.getElem?_eq_some_iff.1 hoj).1
          have := (hbe j hlt hs).listed hc (fun o ho e he hb => by
            have : o = oj := Option.some.inj (ho.symm.trans hoj)
            subst this
            exact hall e he hb)
          rw [getD_both hiun] at this
          cases this
      rw [if_pos hsj] at h1
      rw [if_pos hsj]
      have hap := hfree j oj hoj hji hjun hnot
      obtain ⟨_, _, h3⟩ := Oper.apart_spec hap
      have hfree' : ∀ k ok, ops[k]? = some ok → k ≠ i → (listed.setIfInBounds j true).getD k true = false →
          (∀ e ∈ ok.after, Region.binds md e = true → e.on ≠ i) → oi.apart ops ok = true := fun k ok hk hki hun hno => by
        refine hfree k ok hk hki ?_ hno
        by_cases hjk : j = k
        · subst hjk; exact hjun
        · rw [getD_set_ne true hjk] at hun; exact hun
      refine stOp_mono (fun a' h4 => ih (listed.setIfInBounds j true) a' (hc.set hj) hfree' (ready_mono hr (Ne.symm hji)) h4.1 ?_)
        (stOp_keep (F := YieldsAt P ops w oi v) hoj hap (fun cs b => hsel j oj cs b hoj) (fun a u hy => hy.of_same (execOp_put oi (fun cs b => hsel i oi cs b hi) a oj.dst u h3) (wanted_put oi a oj.dst u h3)) hy h1)
      rw [Array.setIfInBounds_comm _ _ hji]
      exact h4.2

theorem wpOp_keep {Q : Exit → Act → World → Prop} {j : Nat} {oi oj : Oper} {v : Value} (hj : ops[j]? = some oj) (hap : oi.apart ops oj = true)
    (hsi : ∀ cs b, oi.op ≠ .select cs b) (hsj : ∀ cs b, oj.op ≠ .select cs b)
    (hQ : ∀ c a w, Q (.panic c) (a.put oi.dst v) w → Q (.panic c) a w) {K : Act → World → Prop} {a : Act} {w : World}
    (hy : Yields P ops oi v a) (h : wpOp P ops Q j K (a.put oi.dst v) w) :
    wpOp P ops Q j (fun a' w' => Yields P ops oi v a' ∧ K (a'.put oi.dst v) w') a w := wpOp_put hj hap hsi hsj hQ hy h

theorem yields_at {w : World} {o : Oper} {v : Value} {a : Act} (h : Yields P ops o v a) : YieldsAt P ops w o v a := by
  rcases h with ⟨hw, h⟩ | ⟨hw, h⟩
  · exact .inl ⟨hw, .inl (h w)⟩
  · exact .inr ⟨hw, h⟩

theorem wpMix_pure {Q : Exit → Act → World → Prop} {st : Nat → Bool} {i : Nat} {oi : Oper} {v : Value} (hi : ops[i]? = some oi) (hst : st i = true)
    (hsel : ∀ (j : Nat) (o : Oper) cs b, ops[j]? = some o → o.op ≠ .select cs b)
    (hQ : ∀ c a w, Q (.panic c) (a.put oi.dst v) w → Q (.panic c) a w) :
    ∀ (f : Nat) (listed : Array Bool) (a : Act) (w : World),
      (∀ j oj, ops[j]? = some oj → j ≠ i → listed.getD j true = false → (∀ e ∈ oj.after, Region.binds md e = true → e.on ≠ i) → oi.apart ops oj = true) →
      i ∈ Region.ready md ops listed → Yields P ops oi v a →
      wpMix P md ops Q st f (listed.setIfInBounds i true) (a.put oi.dst v) w → wpMix P md ops Q st (f + 1) listed a w := by
  intro f
  induction f with
  | zero =>
    intro listed a w _ hr hy H
    refine ⟨fun h => (by rw [h] at hr; cases hr), fun j hj => ?_⟩
    by_cases hji : j = i
    · subst hji
      rw [if_pos hst]
      exact (yields_at hy).stOp hi H
    · have h1 := ready_mono hj hji
      rw [H.1] at h1
      cases h1
  | succ f ih =>
    intro listed a w hfree hr hy H
    refine ⟨fun h => (by rw [h] at hr; cases hr), fun j hj => ?_⟩
    by_cases hji : j = i
    · subst hji
      rw [if_pos hst]
      exact (yields_at hy).stOp hi H
    · have h1 := H.2 j (ready_mono hj hji)
      obtain ⟨hjun, oj, hoj, hall⟩ := mem_ready.1 hj
      have hiun := (mem_ready.1 hr).1
      have hnot : ∀ e ∈ oj.after, Region.binds md e = true → e.on ≠ i := fun e he hb heq => by
        have h2 := hall e he hb
        rw [heq, getD_both hiun] at h2
        cases h2
      have hap := hfree j oj hoj hji hjun hnot
      obtain ⟨_, _, h3⟩ := Oper.apart_spec hap
      have hfree' : ∀ k ok, ops[k]? = some ok → k ≠ i → (listed.setIfInBounds j true).getD k true = false →
          (∀ e ∈ ok.after, Region.binds md e = true → e.on ≠ i) → oi.apart ops ok = true := fun k ok hk hki hun hno => by
        refine hfree k ok hk hki ?_ hno
        by_cases hjk : j = k
        · subst hjk; exact hjun
        · rw [getD_set_ne true hjk] at hun; exact hun
      by_cases hsj : st j = true
      · rw [if_pos hsj] at h1
        rw [if_pos hsj]
        refine stOp_mono (fun a' h4 => ih (listed.setIfInBounds j true) a' w hfree' (ready_mono hr (Ne.symm hji)) h4.1 ?_)
          (stOp_keep (F := Yields P ops oi v) hoj hap (fun cs b => hsel j oj cs b hoj) (fun a u hy => hy.of_same (execOp_put oi (fun cs b => hsel i oi cs b hi) a oj.dst u h3) (wanted_put oi a oj.dst u h3)) hy h1)
        rw [Array.setIfInBounds_comm _ _ hji]
        exact h4.2
      · rw [if_neg hsj] at h1
        rw [if_neg hsj]
        refine wpOp_mono (fun a' w' h4 => ih (listed.setIfInBounds j true) a' w' hfree' (ready_mono hr (Ne.symm hji)) h4.1 ?_)
          (wpOp_keep hoj hap (fun cs b => hsel i oi cs b hi) (fun cs b => hsel j oj cs b hoj) hQ hy h1)
        rw [Array.setIfInBounds_comm _ _ hji]
        exact h4.2

/-! what the kernel reckons -/
def behindL (md : Region.Mode) (ops : Array Oper) (i : Nat) : List Nat :=
  (List.range ops.size).foldl (fun m t => match ops[t]? with
    | some o => if (o.after.any fun e => Region.binds md e && (e.on == i || m.contains e.on)) = true then t :: m else m
    | none => m) []

theorem behindL_spec {i t : Nat} (h : t ∈ behindL md ops i) : Behind md ops i t := by
  unfold behindL at h
  have key : ∀ (l : List Nat) (m : List Nat), (∀ x ∈ m, Behind md ops i x) → ∀ x ∈ l.foldl (fun m t => match ops[t]? with
      | some o => if (o.after.any fun e => Region.binds md e && (e.on == i || m.contains e.on)) = true then t :: m else m
      | none => m) m, Behind md ops i x := by
    intro l
    induction l with
    | nil => intro m hm x hx; exact hm x hx
    | cons y l ih =>
      intro m hm x hx
      simp only [List.foldl_cons] at hx
      refine ih _ ?_ x hx
      intro z hz
      cases ho : ops[y]? with
      | none => simp only [ho] at hz; exact hm z hz
      | some o =>
        simp only [ho] at hz
        split at hz
        · rename_i hany
          rcases List.mem_cons.1 hz with rfl | hz
          · obtain ⟨e, he, hb⟩ := Array.any_eq_true'.1 hany
            simp only [Bool.and_eq_true, Bool.or_eq_true, beq_iff_eq, List.contains_iff_mem] at hb
            rcases hb.2 with h1 | h1
            · exact .edge ho he hb.1 h1
            · exact .step ho he hb.1 (hm _ h1)
          · exact hm z hz
        · exact hm z hz
  exact key _ _ (fun x hx => by cases hx) t h

def seqOf (md : Region.Mode) (ops : Array Oper) : List Nat → Array Bool → Bool
  | [], listed => (Region.ready md ops listed).isEmpty
  | t :: ts, listed => decide (Region.ready md ops listed = [t]) && seqOf md ops ts (listed.setIfInBounds t true)

def headOf (md : Region.Mode) (ops : Array Oper) (ts : List Nat) : List (Nat × Bool) → Array Bool → Bool
  | [], listed => seqOf md ops ts listed
  | (i, pure) :: hs, listed => (Region.ready md ops listed).contains i && Region.free md ops listed i && (pure || (let m := behindL md ops i; ts.all fun t => m.contains t)) &&
      headOf md ops ts hs (listed.setIfInBounds i true)

def mixB (md : Region.Mode) (ops : Array Oper) (hs : List (Nat × Bool)) (ts : List Nat) : Bool :=
  Region.noSelect ops && decide (hs.length + ts.length = ops.size) && (List.range ops.size).all (fun i => ts.contains i || (hs.map (·.1)).contains i) && (hs.map (·.1)).all (fun i => !ts.contains i) &&
    headOf md ops ts hs (Array.replicate ops.size false)

theorem wpMix_seq {Q : Exit → Act → World → Prop} {st : Nat → Bool} : ∀ (ts : List Nat) (listed : Array Bool) (a : Act) (w : World), (∀ t ∈ ts, st t = false) → seqOf md ops ts listed = true →
    wpOps P ops Q ts a w → wpMix P md ops Q st ts.length listed a w
  | [], listed, a, w, _, hB, h => ⟨by simpa [seqOf] using hB, h⟩
  | t :: ts, listed, a, w, hst, hB, h => by
    simp only [seqOf, Bool.and_eq_true, decide_eq_true_eq] at hB
    refine ⟨fun h0 => (by rw [hB.1] at h0; cases h0), fun i hi => ?_⟩
    rw [hB.1] at hi
    have hik : i = t := by simpa using hi
    subst hik
    rw [if_neg (by rw [hst i (by simp)]; simp)]
    rw [wpOps_cons] at h
    exact wpOp_mono (fun a' w' h' => wpMix_seq ts _ a' w' (fun x hx => hst x (by simp [hx])) hB.2 h') h

/-- the chosen row, one by one: pure ones in whatever world, the others in this one -/
def wpTakes (P : Program) (ops : Array Oper) (w : World) (L : Act → Prop) : List (Oper × Bool) → Act → Prop
  | [], a => L a
  | (o, true) :: r, a => ∃ v, Yields P ops o v a ∧ wpTakes P ops w L r (a.put o.dst v)
  | (o, false) :: r, a => ∃ v, YieldsAt P ops w o v a ∧ wpTakes P ops w L r (a.put o.dst v)

theorem wpMix_takes {Q : Exit → Act → World → Prop} {st : Nat → Bool} {ts : List Nat} {w : World} {L : Act → Prop} (hsel : Region.noSelect ops = true)
    (hQ : ∀ (d : Option Tmp) (v : Value) c a w, Q (.panic c) (a.put d v) w → Q (.panic c) a w)
    (hts : ∀ t, t < ops.size → st t = false → t ∈ ts)
    (hL : ∀ listed a, seqOf md ops ts listed = true → L a → wpMix P md ops Q st ts.length listed a w) :
    ∀ (hs : List (Nat × Bool)) (hs' : List (Oper × Bool)) (listed : Array Bool) (a : Act), hs.map (fun p => (ops[p.1]?, p.2)) = hs'.map (fun p => (some p.1, p.2)) → (∀ p ∈ hs, st p.1 = true) → Shut md ops listed →
      headOf md ops ts hs listed = true → wpTakes P ops w L hs' a → wpMix P md ops Q st (hs.length + ts.length) listed a w
  | [], [], listed, a, _, _, _, hB, h => by simpa using hL listed a (by simpa [headOf] using hB) h
  | [], _ :: _, _, _, he, _, _, _, _ => by simp at he
  | _ :: _, [], _, _, he, _, _, _, _ => by simp at he
  | (i, b) :: hs, (o, b') :: hs', listed, a, he, hst, hc, hB, h => by
    simp only [List.map_cons, List.cons.injEq, Prod.mk.injEq] at he
    obtain ⟨⟨ho, hbb⟩, he'⟩ := he
    subst hbb
    simp only [headOf, Bool.and_eq_true] at hB
    obtain ⟨⟨⟨hr, hf⟩, hbe⟩, hB'⟩ := hB
    have hr' : i ∈ Region.ready md ops listed := by simpa using hr
    rw [List.length_cons, show hs.length + 1 + ts.length = (hs.length + ts.length) + 1 by omega]
    cases b with
    | true =>
      obtain ⟨v, hy, hK⟩ := h
      exact wpMix_pure ho (hst (i, true) (by simp)) (Region.noSelect_spec hsel) (fun c a w => hQ o.dst v c a w) _ listed a w (Region.free_spec ho hf) hr' hy
        (wpMix_takes hsel hQ hts hL hs hs' _ _ he' (fun p hp => hst p (by simp [hp])) (hc.set hr') hB' hK)
    | false =>
      obtain ⟨v, hy, hK⟩ := h
      refine wpMix_first ho (hst (i, false) (by simp)) (Region.noSelect_spec hsel) w (fun t htl ht => ?_) _ listed a hc (Region.free_spec ho hf) hr' hy
        (wpMix_takes hsel hQ hts hL hs hs' _ _ he' (fun p hp => hst p (by simp [hp])) (hc.set hr') hB' hK)
      simp only [Bool.false_or, List.all_eq_true, List.contains_iff_mem] at hbe
      exact behindL_spec (hbe t (hts t htl ht))

theorem wpOps_of_list {Q : Exit → Act → World → Prop} : ∀ (ts : List Nat) (T : List Oper), ts.map (fun t => ops[t]?) = T.map some → ∀ (a : Act) (w : World), wpList P ops Q T a w → wpOps P ops Q ts a w
  | [], [], _, a, w, h => h
  | [], _ :: _, he, _, _, _ => by simp at he
  | _ :: _, [], he, _, _, _ => by simp at he
  | t :: ts, o :: T, he, a, w, h => by
    simp only [List.map_cons, List.cons.injEq] at he
    rw [wpOps_cons]
    unfold wpOp
    simp only [he.1]
    unfold wpList at h
    split
    · rename_i hw
      rw [if_pos hw] at h
      exact h.imp (Oper.wp_mono fun a' w' h' => wpOps_of_list ts T he.2 a' w' h') id
    · rename_i hw
      rw [if_neg hw] at h
      exact wpOps_of_list ts T he.2 _ _ h

def pickH (l : List Oper) (hs : List (Nat × Bool)) : List (Oper × Bool) := hs.filterMap fun p => (l[p.1]?).map fun o => (o, p.2)
def pickT (l : List Oper) (ts : List Nat) : List Oper := ts.filterMap fun t => l[t]?

theorem pickH_spec (l : List Oper) : ∀ (hs : List (Nat × Bool)), (∀ p ∈ hs, p.1 < l.length) → hs.map (fun p => (l.toArray[p.1]?, p.2)) = (pickH l hs).map (fun p => (some p.1, p.2))
  | [], _ => rfl
  | (i, b) :: hs, h => by
    have hi : i < l.length := h (i, b) (by simp)
    have := pickH_spec l hs (fun p hp => h p (by simp [hp]))
    simp only [pickH] at *
    simp [hi]
    simpa using this
theorem pickT_spec (l : List Oper) : ∀ (ts : List Nat), (∀ t ∈ ts, t < l.length) → ts.map (fun t => l.toArray[t]?) = (pickT l ts).map some
  | [], _ => rfl
  | i :: ts, h => by
    have hi : i < l.length := h i (by simp)
    have := pickT_spec l ts (fun p hp => h p (by simp [hp]))
    simp only [pickT] at *
    simp [hi]
    simpa using this

/-- THE LAW -/
theorem wp_region_mix {id : Nat} {Q : Exit → Act → World → Prop} {a : Act} {w : World} {l : List Oper} (hs : List (Nat × Bool)) (ts : List Nat) (hm : P.follows .mixedOrders = true)
    (hB : mixB .any l.toArray hs ts = true) (hbd : ((hs.map (·.1)) ++ ts).all (fun i => decide (i < l.length)) = true)
    (h : wpTakes P l.toArray w.drew (fun a' => wpList P l.toArray (NoPanic Q) (pickT l ts) a' w.drew) (pickH l hs) a) :
    (Code.region id l.toArray true).wp P Q a w := by
  simp only [mixB, Bool.and_eq_true, decide_eq_true_eq] at hB
  obtain ⟨⟨⟨⟨hsel, hsz⟩, hall⟩, hno⟩, hh⟩ := hB
  rw [List.all_eq_true] at hbd
  have hb1 : ∀ p ∈ hs, p.1 < l.length := fun p hp => by simpa using hbd p.1 (by simp only [List.mem_append, List.mem_map]; exact .inl ⟨p, hp, rfl⟩)
  have hb2 : ∀ t ∈ ts, t < l.length := fun t ht => by simpa using hbd t (by simp [ht])
  refine wp_region_noPanic (wp_region_any hm (wpAny_of_mix (st := fun i => !ts.contains i) _ _ _ _ ?_))
  rw [← hsz]
  refine wpMix_takes (md := .any) (Q := NoPanic Q) (w := w.drew) hsel (fun d v c a w h => (h : False).elim) (fun t htl ht => by simpa using ht)
    (fun listed a' hs' hL => wpMix_seq ts listed a' w.drew (fun t ht => by simpa using ht) hs' (wpOps_of_list ts _ (pickT_spec l ts hb2) a' w.drew hL)) hs (pickH l hs) _ a (pickH_spec l hs hb1)
    (fun p hp => by rw [List.all_eq_true] at hno; exact hno p.1 (List.mem_map.2 ⟨p, hp, rfl⟩)) (fun j oj _ hl => by rw [getD_replicate_false] at hl; cases hl) (by rw [hsz]; exact hh) h

theorem still_tail_drew {id : Nat} {Q : Exit → Act → World → Prop} {a : Act} {w : World} {l : List Oper} (n : Nat) (hm : P.follows .mixedOrders = true) (hB : Region.lexTailB .any l.toArray n = true)
    (h : wpStill P l.toArray w.drew (fun a' => wpList P l.toArray Q (l.drop n) a' w.drew) (l.take n) a) : (Code.region id l.toArray true).wp P Q a w := wp_region_still_tail n hm hB h
theorem still_lit_drew {id : Nat} {Q : Exit → Act → World → Prop} {a : Act} {w : World} {l : List Oper} (hm : P.follows .mixedOrders = true) (hB : Region.lexB .any l.toArray = true)
    (h : wpStill P l.toArray w.drew (fun a' => Q .normal a' w.drew) l a) : (Code.region id l.toArray true).wp P Q a w := wp_region_still_lit hm hB h
theorem wpTakes_nil {w : World} {L : Act → Prop} {a : Act} (h : L a) : wpTakes P ops w L [] a := h
theorem wpTakes_pure {w : World} {L : Act → Prop} {a : Act} {o : Oper} {r : List (Oper × Bool)} {v : Value} (hg : o.guard = none)
    (h : ∀ w, (execOp a.eval o).run P w = .ok (.value v) w) (k : wpTakes P ops w L r (a.put o.dst v)) : wpTakes P ops w L ((o, true) :: r) a :=
  ⟨v, .inl ⟨by simp [Region.wanted, hg], h⟩, k⟩
theorem wpTakes_still {w : World} {L : Act → Prop} {a : Act} {o : Oper} {r : List (Oper × Bool)} {v : Value} (hg : o.guard = none)
    (h : (execOp a.eval o).run P w = .ok (.value v) w) (k : wpTakes P ops w L r (a.put o.dst v)) : wpTakes P ops w L ((o, false) :: r) a :=
  ⟨v, .inl ⟨by simp [Region.wanted, hg], .inl h⟩, k⟩
theorem wpTakes_call {w : World} {L : Act → Prop} {a : Act} {o : Oper} {r : List (Oper × Bool)} {v : Value} {f : FuncId} {args : Array Value} (hg : o.guard = none)
    (h : (execOp a.eval o).run P w = .ok (.enter f args) w) (hc : Calls P f args w fun e w'' => e = .returned v ∧ w'' = w) (k : wpTakes P ops w L r (a.put o.dst v)) : wpTakes P ops w L ((o, false) :: r) a :=
  ⟨v, .inl ⟨by simp [Region.wanted, hg], .inr (.inr ⟨f, args, h, hc⟩)⟩, k⟩
theorem wpTakes_skip {w : World} {L : Act → Prop} {a : Act} {o : Oper} {r : List (Oper × Bool)} (hw : Region.wanted o (yielded ops a.tmps) = false)
    (k : wpTakes P ops w L r (a.put o.dst undef)) : wpTakes P ops w L ((o, false) :: r) a :=
  ⟨undef, .inr ⟨hw, rfl⟩, k⟩
theorem wpTakes_wanted {w : World} {L : Act → Prop} {a : Act} {o : Oper} {r : List (Oper × Bool)} {v : Value} (hw : Region.wanted o (yielded ops a.tmps) = true)
    (h : (execOp a.eval o).run P w = .ok (.value v) w) (k : wpTakes P ops w L r (a.put o.dst v)) : wpTakes P ops w L ((o, false) :: r) a :=
  ⟨v, .inl ⟨hw, .inl h⟩, k⟩
end
end Go.Proofs.YtaddcchpidpbfaaDoor
