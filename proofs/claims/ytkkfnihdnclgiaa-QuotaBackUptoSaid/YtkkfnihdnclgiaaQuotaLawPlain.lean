/- quota: what taking and giving costs makes of limits, by sums: order and pieces are of no matter. -/
import Derived.Test.YtkkfnihdnclgiaaQuotaChangePlain
namespace Go.Proofs.Ytkkfnihdnclgiaa
open Go.RowKit

def costSum : List GCost → ByteArray → Int
  | [], _ => 0
  | c :: r, s => (if sameB c.what s = true then c.many else 0) + costSum r s
theorem costSum_append (p q : List GCost) (s : ByteArray) : costSum (p ++ q) s = costSum p s + costSum q s := by
  induction p with
  | nil => simp [costSum]
  | cons c r ih => simp only [List.cons_append, costSum, ih]; omega
theorem costSum_nonneg {cs : List GCost} (h : ∀ c ∈ cs, 0 ≤ c.many) (s : ByteArray) : 0 ≤ costSum cs s := by
  induction cs with
  | nil => simp [costSum]
  | cons c r ih =>
    have h1 := h c (List.mem_cons_self ..)
    have h2 := ih fun x hx => h x (List.mem_cons_of_mem _ hx)
    simp only [costSum]
    split <;> omega
theorem costSum_none {cs : List GCost} {s : ByteArray} (h : ∀ c ∈ cs, sameB c.what s = false) : costSum cs s = 0 := by
  induction cs with
  | nil => rfl
  | cons c r ih =>
    simp only [costSum, h c (List.mem_cons_self ..), ih fun x hx => h x (List.mem_cons_of_mem _ hx)]
    rfl
/-- the limit x bears the costs -/
def bears (cs : List GCost) (x : GLimit) : Prop := (∀ c ∈ cs, sameB c.what x.what = false) ∨ x.used + costSum cs x.what ≤ x.hard
def payAll (sign : Int) (cs : List GCost) (x : GLimit) : GLimit := putUsed (sign * costSum cs x.what) x
theorem sameB_comm (a b : ByteArray) : sameB a b = sameB b a := by unfold sameB; rw [Bool.eq_iff_iff, beq_iff_eq, beq_iff_eq]; exact eq_comm
theorem same_of_rising {l : List GLimit} (hr : risingL l) {x y : GLimit} (hx : x ∈ l) (hy : y ∈ l) (h : x.what = y.what) : x = y := by
  obtain ⟨i, hi⟩ := List.getElem?_of_mem hx
  obtain ⟨j, hj⟩ := List.getElem?_of_mem hy
  rcases Nat.lt_trichotomy i j with h1 | h1 | h1
  · have := hr i j x y h1 hi hj; rw [h, lessB_irrefl] at this; cases this
  · subst h1; rw [hi] at hj; cases hj; rfl
  · have := hr j i y x h1 hj hi; rw [h, lessB_irrefl] at this; cases this
theorem putUsed_zero (x : GLimit) : putUsed 0 x = x := by unfold putUsed; simp
def stepOf (sign : Int) (c : GCost) (y : GLimit) : GLimit := if sameB y.what c.what = true then putUsed (sign * c.many) y else y
theorem stepOf_what (sign : Int) (c : GCost) (y : GLimit) : (stepOf sign c y).what = y.what := by unfold stepOf; split <;> rfl
theorem stepOf_hard (sign : Int) (c : GCost) (y : GLimit) : (stepOf sign c y).hard = y.hard := by unfold stepOf; split <;> rfl
theorem stepOf_used (sign : Int) (c : GCost) (y : GLimit) : (stepOf sign c y).used = y.used + sign * (if sameB c.what y.what = true then c.many else 0) := by
  unfold stepOf; rw [sameB_comm c.what]; split <;> simp [putUsed]
theorem glimit_ext {x y : GLimit} (h1 : x.what = y.what) (h2 : x.hard = y.hard) (h3 : x.used = y.used) : x = y := by cases x; cases y; simp_all
theorem payAll_step (sign : Int) (c : GCost) (r : List GCost) (y : GLimit) : payAll sign r (stepOf sign c y) = payAll sign (c :: r) y := by
  refine glimit_ext (stepOf_what _ _ _) (stepOf_hard _ _ _) ?_
  show (stepOf sign c y).used + sign * costSum r (stepOf sign c y).what = y.used + sign * costSum (c :: r) y.what
  rw [stepOf_used, stepOf_what]
  simp only [costSum]
  rw [Int.mul_add]
  omega
theorem changeOne_none {sign : Int} {bad : GLimit → Int} {l : List GLimit} {c : GCost} (h : ∀ x ∈ l, sameB x.what c.what = false) : changeOne sign bad l c = (0, l.map (stepOf sign c)) := by
  have h1 : (l.find? fun x => sameB x.what c.what) = none := by rw [List.find?_eq_none]; intro x hx; simp [h x hx]
  have h2 : l.map (stepOf sign c) = l := by
    rw [List.map_congr_left (g := id), List.map_id]
    intro x hx
    unfold stepOf
    rw [if_neg (by simp [h x hx])]
    rfl
  unfold changeOne
  rw [h1, h2]
theorem changeOne_some {sign : Int} {bad : GLimit → Int} {l : List GLimit} {c : GCost} (hr : risingL l) {x : GLimit} (hx : x ∈ l) (h : x.what = c.what) :
    changeOne sign bad l c = if bad (stepOf sign c x) ≠ 0 then (bad (stepOf sign c x), []) else (0, l.map (stepOf sign c)) := by
  obtain ⟨k, hk⟩ := List.getElem?_of_mem hx
  have h1 := find_rising hr hk h
  unfold changeOne
  rw [h1]
  have h2 : stepOf sign c x = putUsed (sign * c.many) x := by unfold stepOf; rw [if_pos ((sameB_iff _ _).2 h)]
  rw [h2]
  rfl
theorem takeBad_zero (x : GLimit) : takeBad x = 0 ↔ x.used ≤ x.hard := by
  unfold takeBad
  split
  · simp; omega
  · simp; omega
theorem giveBad_zero (x : GLimit) : giveBad x = 0 ↔ 0 ≤ x.used := by
  unfold giveBad
  split
  · simp; omega
  · simp; omega
theorem changeAll_cons (sign : Int) (bad : GLimit → Int) (l : List GLimit) (c : GCost) (r : List GCost) : changeAll sign bad l (c :: r) = if (changeOne sign bad l c).1 ≠ 0 then ((changeOne sign bad l c).1, []) else changeAll sign bad (changeOne sign bad l c).2 r := rfl
theorem mem_or_none (l : List GLimit) (s : ByteArray) : (∃ x ∈ l, x.what = s) ∨ ∀ x ∈ l, sameB x.what s = false := by
  by_cases h : ∃ x ∈ l, x.what = s
  · exact .inl h
  · refine .inr fun x hx => ?_
    cases h1 : sameB x.what s with
    | false => rfl
    | true => exact absurd ⟨x, hx, (sameB_iff _ _).1 h1⟩ h
theorem bears_step {c : GCost} {r : List GCost} {y : GLimit} (h : sameB c.what y.what = true → (stepOf 1 c y).used ≤ y.hard) : bears r (stepOf 1 c y) ↔ bears (c :: r) y := by
  unfold bears
  rw [stepOf_what, stepOf_hard]
  have h2 := stepOf_used 1 c y
  simp only [List.mem_cons, costSum]
  cases hs : sameB c.what y.what with
  | true =>
    have h3 := h hs
    rw [hs] at h2
    simp only [if_pos] at h2 ⊢
    constructor
    · rintro (h4 | h4)
      · right; have := costSum_none h4; omega
      · right; omega
    · rintro (h4 | h4)
      · have := h4 c (.inl rfl); rw [hs] at this; cases this
      · right; omega
  | false =>
    rw [hs] at h2
    simp only [Bool.false_eq_true, if_false, Int.mul_zero, Int.add_zero, Int.zero_add] at h2 ⊢
    rw [h2]
    constructor
    · rintro (h4 | h4)
      · left
        rintro c' (rfl | h5)
        · exact hs
        · exact h4 c' h5
      · exact .inr h4
    · rintro (h4 | h4)
      · exact .inl fun c' h5 => h4 c' (.inr h5)
      · exact .inr h4
theorem changeAll_take : ∀ (cs : List GCost) (l : List GLimit), (∀ c ∈ cs, 0 ≤ c.many) → risingL l →
    ((∀ x ∈ l, bears cs x) → changeAll 1 takeBad l cs = (0, l.map (payAll 1 cs))) ∧ ((¬ ∀ x ∈ l, bears cs x) → (changeAll 1 takeBad l cs).1 ≠ 0 ∧ (changeAll 1 takeBad l cs).2 = [])
  | [], l, _, _ => by
    refine ⟨fun _ => ?_, fun h => absurd (fun x _ => .inl (fun c hc => by cases hc)) h⟩
    show (0, l) = _
    rw [List.map_congr_left (g := id), List.map_id]
    intro x _
    unfold payAll costSum
    exact putUsed_zero x
  | c :: r, l, hc, hr => by
    have ih := changeAll_take r (l.map (stepOf 1 c)) (fun x hx => hc x (List.mem_cons_of_mem _ hx)) (rising_map _ (stepOf_what 1 c) hr)
    have hpos := hc c (List.mem_cons_self ..)
    have hrn := fun s => costSum_nonneg (fun x hx => hc x (List.mem_cons_of_mem _ hx)) (cs := r) s
    have hput : (l.map (stepOf 1 c)).map (payAll 1 r) = l.map (payAll 1 (c :: r)) := by
      rw [List.map_map]
      exact List.map_congr_left fun x _ => payAll_step 1 c r x
    rw [changeAll_cons]
    by_cases hb : ∃ x ∈ l, x.what = c.what ∧ x.hard < (stepOf 1 c x).used
    · obtain ⟨x, hx, hw, hlt⟩ := hb
      have h1 : takeBad (stepOf 1 c x) ≠ 0 := fun h => by
        have := (takeBad_zero _).1 h
        rw [stepOf_hard] at this
        omega
      rw [changeOne_some hr hx hw, if_pos h1]
      refine ⟨fun h => absurd (h x hx) ?_, fun _ => ?_⟩
      · unfold bears
        rintro (h2 | h2)
        · have := h2 c (List.mem_cons_self ..)
          rw [(sameB_iff _ _).2 hw.symm] at this
          cases this
        · rw [stepOf_used, (sameB_iff _ _).2 hw.symm] at hlt
          simp only [costSum, (sameB_iff _ _).2 hw.symm] at h2
          have := hrn x.what
          simp only [if_pos] at h2 hlt
          omega
      · exact ⟨by rw [if_pos h1]; exact h1, by rw [if_pos h1]⟩
    · have hok : changeOne 1 takeBad l c = (0, l.map (stepOf 1 c)) := by
        rcases mem_or_none l c.what with ⟨x, hx, hw⟩ | h
        · rw [changeOne_some hr hx hw, if_neg]
          intro h
          apply h
          rw [takeBad_zero, stepOf_hard]
          rcases Int.lt_or_le x.hard (stepOf 1 c x).used with h2 | h2
          · exact absurd ⟨x, hx, hw, h2⟩ hb
          · exact h2
        · exact changeOne_none h
      have hiff : (∀ x ∈ l.map (stepOf 1 c), bears r x) ↔ ∀ x ∈ l, bears (c :: r) x := by
        rw [List.forall_mem_map]
        refine forall_congr' fun x => forall_congr' fun hx => bears_step fun hs => ?_
        rcases Int.lt_or_le x.hard (stepOf 1 c x).used with h2 | h2
        · exact absurd ⟨x, hx, ((sameB_iff _ _).1 hs).symm, h2⟩ hb
        · exact h2
      rw [hok]
      simp only [ne_eq, not_true, if_false]
      refine ⟨fun h => ?_, fun h => ih.2 fun h2 => h (hiff.1 h2)⟩
      rw [ih.1 (hiff.2 h), hput]
theorem changeAll_give : ∀ (cs : List GCost) (l : List GLimit), (∀ c ∈ cs, 0 ≤ c.many) → risingL l → (∀ x ∈ l, costSum cs x.what ≤ x.used) → changeAll (-1) giveBad l cs = (0, l.map (payAll (-1) cs))
  | [], l, _, _, _ => by
    show (0, l) = _
    rw [List.map_congr_left (g := id), List.map_id]
    intro x _
    unfold payAll costSum
    exact putUsed_zero x
  | c :: r, l, hc, hr, hs => by
    have hrn := fun s => costSum_nonneg (fun x hx => hc x (List.mem_cons_of_mem _ hx)) (cs := r) s
    have ih := changeAll_give r (l.map (stepOf (-1) c)) (fun x hx => hc x (List.mem_cons_of_mem _ hx)) (rising_map _ (stepOf_what (-1) c) hr) (by
      rw [List.forall_mem_map]
      intro x hx
      have h1 := hs x hx
      rw [stepOf_what, stepOf_used]
      simp only [costSum] at h1
      omega)
    have hput : (l.map (stepOf (-1) c)).map (payAll (-1) r) = l.map (payAll (-1) (c :: r)) := by
      rw [List.map_map]
      exact List.map_congr_left fun x _ => payAll_step (-1) c r x
    have hok : changeOne (-1) giveBad l c = (0, l.map (stepOf (-1) c)) := by
      rcases mem_or_none l c.what with ⟨x, hx, hw⟩ | h
      · rw [changeOne_some hr hx hw, if_neg]
        intro h
        apply h
        rw [giveBad_zero, stepOf_used]
        have h1 := hs x hx
        have h2 := hrn x.what
        simp only [costSum] at h1
        omega
      · exact changeOne_none h
    rw [changeAll_cons, hok]
    simp only [ne_eq, not_true, if_false]
    rw [ih, hput]
theorem costsOK_iff (cs : List GCost) : costsOK cs = true ↔ ∀ c ∈ cs, 0 ≤ c.many ∧ c.many ≤ 2199023255552 := by
  unfold costsOK
  rw [List.all_eq_true]
  simp
theorem costsOK_append (p q : List GCost) : costsOK (p ++ q) = (costsOK p && costsOK q) := by unfold costsOK; rw [List.all_append]
theorem limCode_like {p q : Option GLimit} {x y : GLimit} (hp : p.map (·.what) = q.map (·.what)) (h1 : x.what = y.what) (h2 : x.hard = y.hard) (h3 : unitsB y.used = true) (h : limCode p x = 0) : limCode q y = 0 := by
  obtain ⟨a1, a2, a3⟩ := limCode_zero h
  unfold limCode at h ⊢
  rw [← h1]
  by_cases h4 : NameP.check x.what.data.toList ≠ 0
  · rw [if_pos h4] at h; exact absurd h h4
  rw [if_neg h4]
  rw [← h2, a2, h3]
  cases q with
  | none => simp
  | some q' =>
    cases p with
    | none => simp at hp
    | some p' =>
      have h5 : p'.what = q'.what := by simpa using hp
      have h6 := a1 p' rfl
      rw [h5] at h6
      simp [h6]
theorem limsCode_like (f : GLimit → GLimit) (hw : ∀ x, (f x).what = x.what) (hh : ∀ x, (f x).hard = x.hard) : ∀ (l : List GLimit) (p q : Option GLimit), p.map (·.what) = q.map (·.what) → (∀ x ∈ l, unitsB (f x).used = true) → limsCode p l = 0 → limsCode q (l.map f) = 0
  | [], _, _, _, _, _ => rfl
  | x :: r, p, q, hp, hu, h => by
    unfold limsCode at h
    by_cases hc : limCode p x ≠ 0
    · rw [if_pos hc] at h; exact absurd h hc
    rw [if_neg hc] at h
    have h1 := limCode_like (y := f x) hp (hw x).symm (hh x).symm (hu x (List.mem_cons_self ..)) (by omega)
    rw [List.map_cons]
    unfold limsCode
    rw [if_neg (by omega)]
    exact limsCode_like f hw hh r (some x) (some (f x)) (by simp [hw]) (fun y hy => hu y (List.mem_cons_of_mem _ hy)) h
theorem checkL_like {l : List GLimit} (f : GLimit → GLimit) (hw : ∀ x, (f x).what = x.what) (hh : ∀ x, (f x).hard = x.hard) (hu : ∀ x ∈ l, unitsB (f x).used = true) (h : checkL l = 0) : checkL (l.map f) = 0 := by
  unfold checkL at h ⊢
  rw [List.length_map]
  by_cases h6 : 6 < l.length
  · rw [if_pos h6] at h; cases h
  rw [if_neg h6] at h ⊢
  exact limsCode_like f hw hh l none none rfl hu h

/-- taking, in plain words -/
theorem take_yes {l : List GLimit} {cs : List GCost} (h1 : checkL l = 0) (h2 : costsOK cs = true) (h3 : ∀ x ∈ l, bears cs x) : changeP 1 takeBad l cs = (0, l.map (payAll 1 cs)) := by
  unfold changeP
  rw [if_neg (by rw [h1]; simp), if_neg (by rw [h2]; simp)]
  exact (changeAll_take cs l (fun c hc => ((costsOK_iff cs).1 h2 c hc).1) (checkL_zero h1).1).1 h3
theorem take_no {l : List GLimit} {cs : List GCost} (h : ¬ (checkL l = 0 ∧ costsOK cs = true ∧ ∀ x ∈ l, bears cs x)) : (changeP 1 takeBad l cs).1 ≠ 0 ∧ (changeP 1 takeBad l cs).2 = [] := by
  unfold changeP
  by_cases h1 : checkL l ≠ 0
  · rw [if_pos h1]; exact ⟨h1, rfl⟩
  rw [if_neg h1]
  by_cases h2 : costsOK cs = false
  · rw [if_pos h2]; exact ⟨(by simp), rfl⟩
  rw [if_neg h2]
  exact (changeAll_take cs l (fun c hc => ((costsOK_iff cs).1 (by simpa using h2) c hc).1) (checkL_zero (by omega)).1).2 fun h3 => h ⟨by omega, by simpa using h2, h3⟩
theorem payAll_used (cs : List GCost) (x : GLimit) : (payAll 1 cs x).used = x.used + costSum cs x.what := by unfold payAll putUsed; simp
theorem taken_units {l : List GLimit} {cs : List GCost} (h1 : checkL l = 0) (h2 : costsOK cs = true) (h3 : ∀ x ∈ l, bears cs x) : ∀ x ∈ l, unitsB (payAll 1 cs x).used = true := fun x hx => by
  have h4 := (checkL_zero h1).2.1 x hx
  have h5 := (unitsB_iff _).1 h4.1
  have h6 := (unitsB_iff _).1 h4.2
  have h7 := costSum_nonneg (fun c hc => ((costsOK_iff cs).1 h2 c hc).1) x.what
  rw [unitsB_iff, payAll_used]
  rcases h3 x hx with h8 | h8
  · have := costSum_none h8; omega
  · omega
theorem taken_check {l : List GLimit} {cs : List GCost} (h1 : checkL l = 0) (h2 : costsOK cs = true) (h3 : ∀ x ∈ l, bears cs x) : checkL (l.map (payAll 1 cs)) = 0 :=
  checkL_like _ (fun _ => rfl) (fun _ => rfl) (taken_units h1 h2 h3) h1
/-- giving back what was taken -/
theorem give_back {l : List GLimit} {cs : List GCost} (h1 : checkL l = 0) (h2 : costsOK cs = true) (h3 : ∀ x ∈ l, bears cs x) : changeP (-1) giveBad (l.map (payAll 1 cs)) cs = (0, l) := by
  have h4 := taken_check h1 h2 h3
  unfold changeP
  rw [if_neg (by rw [h4]; simp), if_neg (by rw [h2]; simp)]
  rw [changeAll_give cs _ (fun c hc => ((costsOK_iff cs).1 h2 c hc).1) (checkL_zero h4).1 (by
    rw [List.forall_mem_map]
    intro x hx
    have h5 := (unitsB_iff _).1 ((checkL_zero h1).2.1 x hx).2
    rw [payAll_used]
    show costSum cs x.what ≤ _
    omega)]
  rw [List.map_map, List.map_congr_left (g := id), List.map_id]
  intro x _
  refine glimit_ext rfl rfl ?_
  show (x.used + 1 * costSum cs x.what) + -1 * costSum cs x.what = x.used
  omega
theorem bears_append {p q : List GCost} {x : GLimit} (hp : ∀ c ∈ p, 0 ≤ c.many) (hq : ∀ c ∈ q, 0 ≤ c.many) : bears (p ++ q) x ↔ bears p x ∧ bears q (payAll 1 p x) := by
  have h1 := costSum_nonneg hp x.what
  have h2 := costSum_nonneg hq x.what
  unfold bears
  rw [payAll_used]
  show _ ↔ _ ∧ ((∀ c ∈ q, sameB c.what x.what = false) ∨ x.used + costSum p x.what + costSum q x.what ≤ x.hard)
  rw [costSum_append]
  constructor
  · rintro (h | h)
    · exact ⟨.inl fun c hc => h c (List.mem_append_left _ hc), .inl fun c hc => h c (List.mem_append_right _ hc)⟩
    · exact ⟨.inr (by omega), .inr (by omega)⟩
  · rintro ⟨h3, h4⟩
    rcases h4 with h4 | h4
    · rcases h3 with h3 | h3
      · exact .inl fun c hc => (List.mem_append.1 hc).elim (h3 c) (h4 c)
      · have := costSum_none h4; exact .inr (by omega)
    · exact .inr (by omega)
theorem bears_comm {p q : List GCost} {x : GLimit} : bears (p ++ q) x ↔ bears (q ++ p) x := by
  unfold bears
  rw [costSum_append, costSum_append]
  have : (∀ c ∈ p ++ q, sameB c.what x.what = false) ↔ ∀ c ∈ q ++ p, sameB c.what x.what = false := by
    simp only [List.mem_append]
    exact ⟨fun h c hc => h c hc.symm, fun h c hc => h c hc.symm⟩
  rw [this, Int.add_comm (costSum p x.what)]
theorem payAll_append (p q : List GCost) (x : GLimit) : payAll 1 q (payAll 1 p x) = payAll 1 (p ++ q) x := by
  refine glimit_ext rfl rfl ?_
  show (x.used + 1 * costSum p x.what) + 1 * costSum q x.what = x.used + 1 * costSum (p ++ q) x.what
  rw [costSum_append]; omega
theorem payAll_comm (p q : List GCost) (x : GLimit) : payAll 1 (p ++ q) x = payAll 1 (q ++ p) x := by
  refine glimit_ext rfl rfl ?_
  show x.used + 1 * costSum (p ++ q) x.what = x.used + 1 * costSum (q ++ p) x.what
  rw [costSum_append, costSum_append]; omega
/-- all three ways make the same, or none goes -/
theorem splits (l : List GLimit) (p q : List GCost) :
    (∃ m, changeP 1 takeBad l (p ++ q) = (0, m) ∧ changeP 1 takeBad l (q ++ p) = (0, m) ∧ ∃ c, changeP 1 takeBad l p = (0, c) ∧ changeP 1 takeBad c q = (0, m)) ∨
    ((changeP 1 takeBad l (p ++ q)).1 ≠ 0 ∧ (changeP 1 takeBad l (p ++ q)).2 = [] ∧ (changeP 1 takeBad l (q ++ p)).1 ≠ 0 ∧ (changeP 1 takeBad l (q ++ p)).2 = [] ∧
      (((changeP 1 takeBad l p).1 ≠ 0 ∧ (changeP 1 takeBad l p).2 = []) ∨ ((changeP 1 takeBad l p).1 = 0 ∧ (changeP 1 takeBad (changeP 1 takeBad l p).2 q).1 ≠ 0 ∧ (changeP 1 takeBad (changeP 1 takeBad l p).2 q).2 = []))) := by
  by_cases h : checkL l = 0 ∧ costsOK (p ++ q) = true ∧ ∀ x ∈ l, bears (p ++ q) x
  · obtain ⟨h1, h2, h3⟩ := h
    have h4 := h2
    rw [costsOK_append, Bool.and_eq_true] at h4
    obtain ⟨hp, hq⟩ := h4
    have h5 := fun x hx => (bears_append (fun c hc => ((costsOK_iff p).1 hp c hc).1) (fun c hc => ((costsOK_iff q).1 hq c hc).1)).1 (h3 x hx)
    refine .inl ⟨_, take_yes h1 h2 h3, ?_, _, take_yes h1 hp (fun x hx => (h5 x hx).1), ?_⟩
    · rw [take_yes h1 (by rw [costsOK_append, hp, hq]; rfl) (fun x hx => bears_comm.1 (h3 x hx))]
      rw [List.map_congr_left fun x _ => payAll_comm q p x]
    · rw [take_yes (taken_check h1 hp fun x hx => (h5 x hx).1) hq (by rw [List.forall_mem_map]; exact fun x hx => (h5 x hx).2), List.map_map]
      congr 1
      exact List.map_congr_left fun x _ => payAll_append p q x
  · right
    obtain ⟨a1, a2⟩ := take_no h
    have h' : ¬ (checkL l = 0 ∧ costsOK (q ++ p) = true ∧ ∀ x ∈ l, bears (q ++ p) x) := fun ⟨g1, g2, g3⟩ => h ⟨g1, by rw [costsOK_append, Bool.and_comm, ← costsOK_append]; exact g2, fun x hx => bears_comm.1 (g3 x hx)⟩
    obtain ⟨b1, b2⟩ := take_no h'
    refine ⟨a1, a2, b1, b2, ?_⟩
    by_cases hp : checkL l = 0 ∧ costsOK p = true ∧ ∀ x ∈ l, bears p x
    · obtain ⟨p1, p2, p3⟩ := hp
      have hy := take_yes p1 p2 p3
      right
      rw [hy]
      refine ⟨rfl, take_no fun ⟨g1, g2, g3⟩ => h ⟨p1, by rw [costsOK_append, p2, g2]; rfl, fun x hx => ?_⟩⟩
      rw [List.forall_mem_map] at g3
      exact (bears_append (fun c hc => ((costsOK_iff p).1 p2 c hc).1) (fun c hc => ((costsOK_iff q).1 g2 c hc).1)).2 ⟨p3 x hx, g3 x hx⟩
    · exact .inl (take_no hp)
theorem takeCode_zero {l : List GLimit} {cs : List GCost} (h : (changeP 1 takeBad l cs).1 = 0) : checkL l = 0 ∧ costsOK cs = true ∧ (∀ x ∈ l, bears cs x) ∧ changeP 1 takeBad l cs = (0, l.map (payAll 1 cs)) := by
  by_cases h1 : checkL l = 0 ∧ costsOK cs = true ∧ ∀ x ∈ l, bears cs x
  · exact ⟨h1.1, h1.2.1, h1.2.2, take_yes h1.1 h1.2.1 h1.2.2⟩
  · exact absurd h (take_no h1).1
end Go.Proofs.Ytkkfnihdnclgiaa
