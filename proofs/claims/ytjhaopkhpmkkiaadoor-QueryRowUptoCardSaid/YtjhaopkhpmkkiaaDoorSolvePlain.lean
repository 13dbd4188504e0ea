/- query: Solve, Implies: what they tell is sound and whole: the plain laws. -/
import Derived.Test.YtjhaopkhpmkkiaaDoorQueryPlain
import Derived.Lib.ItoaNum
namespace Go.Proofs.YtjhaopkhpmkkiaaDoor
open Go.RowKit

/-- the value of a key -/
def getL (labels : List GLabel) (k : ByteArray) : Option ByteArray := (labels.find? fun x => decide (x.key = k)).map (·.val)
def holdsV (o : Option ByteArray) (r : GReq) : Bool := match o with
  | some v => if r.kind = 1 then Lib.containsS r.vals v else if r.kind = 2 then !Lib.containsS r.vals v else decide (r.kind = 3)
  | none => if r.kind = 1 then false else if r.kind = 2 then true else decide (r.kind ≠ 3)
theorem holdsB_eq (labels : List GLabel) (r : GReq) : holdsB labels r = holdsV (getL labels r.key) r := by
  unfold holdsB holdsV getL
  cases labels.find? fun x => decide (x.key = r.key) <;> rfl
theorem getL_one (k v : ByteArray) : getL [⟨k, v⟩] k = some v := by
  unfold getL
  rw [List.find?_cons_of_pos (by simp)]
  rfl
/-- all parts about a key let this value be -/
def fitsV (l : List GReq) (k v : ByteArray) : Bool := (l.filter fun r => decide (r.key = k)).all (holdsV (some v))
theorem fits_all (l : List GReq) (k v : ByteArray) : (l.filter fun r => decide (r.key = k)).all (holdsB [⟨k, v⟩]) = fitsV l k v := by
  unfold fitsV
  rw [Bool.eq_iff_iff, List.all_eq_true, List.all_eq_true]
  constructor
  · intro h r hr
    have := h r hr
    rw [holdsB_eq] at this
    have hk : r.key = k := by simpa using (List.mem_filter.1 hr).2
    rwa [hk, getL_one] at this
  · intro h r hr
    have := h r hr
    rw [holdsB_eq]
    have hk : r.key = k := by simpa using (List.mem_filter.1 hr).2
    rwa [hk, getL_one]
theorem fits_iff {l : List GReq} {k v : ByteArray} : fitsV l k v = true ↔ ∀ r ∈ l, r.key = k → holdsV (some v) r = true := by
  unfold fitsV
  rw [List.all_eq_true]
  constructor
  · intro h r hr hk
    exact h r (List.mem_filter.2 ⟨hr, by simpa using hk⟩)
  · intro h r hr
    have := List.mem_filter.1 hr
    exact h r this.1 (by simpa using this.2)
/-- a part that was checked -/
structure GoodR (r : GReq) : Prop where
  key : keyE r.key = 0
  kind : 1 ≤ r.kind ∧ r.kind ≤ 4
  many : r.vals.length ≤ 8
  vals : ∀ v ∈ r.vals, valE v = 0
theorem good_of {r : GReq} (h : reqE r = 0) : GoodR r := by
  have hk := argR_kind h
  unfold reqE at h
  by_cases h1 : keyE r.key ≠ 0
  · rw [if_pos h1] at h; exact absurd h h1
  · rw [if_neg h1] at h
    by_cases h2 : argR r = true
    · rw [if_pos h2] at h; cases h
    · rw [if_neg h2] at h
      by_cases h3 : 8 < r.vals.length
      · rw [if_pos h3] at h; cases h
      · rw [if_neg h3] at h
        exact ⟨by simpa using h1, hk, by omega, errF_zero.1 h⟩
theorem good_opp {r : GReq} (h : GoodR r) : GoodR (oppR r) := by
  obtain ⟨h1, h2, h3, h4⟩ := h
  refine ⟨h1, ?_, h3, h4⟩
  have hk : r.kind = 1 ∨ r.kind = 2 ∨ r.kind = 3 ∨ r.kind = 4 := by omega
  unfold oppR oppK
  dsimp only
  rcases hk with h | h | h | h <;> rw [h] <;> decide
/-- the value told for a key -/
def ValueOK (l : List GReq) (k v : ByteArray) (is : Bool) : Prop := (is = true → fitsV l k v = true ∧ valE v = 0) ∧ (is = false → ∀ u, fitsV l k u = false)
/-- among the values of a part that asks for one of them -/
theorem value_in {l : List GReq} {r : GReq} (hg : ∀ r ∈ l, GoodR r) (hr : r ∈ l) (hk : r.kind = 1) {vs : List ByteArray} (hvs : ∀ v, v ∈ vs ↔ v ∈ r.vals) :
    (∀ v ∈ vs, fitsV l r.key v = true → ValueOK l r.key v true) ∧ ((∀ v ∈ vs, fitsV l r.key v = false) → ∀ v, ValueOK l r.key v false) := by
  constructor
  · intro v hv hf
    exact ⟨fun _ => ⟨hf, (hg r hr).vals v ((hvs v).1 hv)⟩, fun h => by cases h⟩
  · intro h v
    refine ⟨fun h => (by cases h), fun _ u => ?_⟩
    cases hf : fitsV l r.key u with
    | false => rfl
    | true =>
      have h1 := fits_iff.1 hf r hr rfl
      unfold holdsV at h1
      simp only [hk, if_true] at h1
      have h2 := (hvs u).2 ((Lib.containsS_iff r.vals u).1 h1)
      rw [h u h2] at hf
      cases hf
def numB (n : Nat) : ByteArray := ⟨(Lib.decDigits n).toArray⟩
/-- what is tried where nothing is asked for -/
def candB : List ByteArray := ByteArray.empty :: (List.range 73).map numB
theorem cand_nodup : candB.Nodup := by decide +kernel
theorem cand_good : ∀ v ∈ candB, valE v = 0 := by decide +kernel
theorem nodup_len {α : Type} [DecidableEq α] : ∀ (c v : List α), c.Nodup → (∀ x ∈ c, x ∈ v) → c.length ≤ v.length
  | [], _, _, _ => by simp
  | a :: c, v, hn, h => by
    have h1 := h a (List.mem_cons_self ..)
    have h2 := nodup_len c (v.erase a) (List.nodup_cons.1 hn).2 fun x hx => by
      have hne : x ≠ a := fun e => (List.nodup_cons.1 hn).1 (e ▸ hx)
      exact (List.mem_erase_of_ne hne).2 (h x (List.mem_cons_of_mem _ hx))
    rw [List.length_erase_of_mem h1] at h2
    have h3 : 0 < v.length := List.length_pos_of_mem h1
    rw [List.length_cons]
    omega
theorem flat_le (l : List GReq) (hg : ∀ r ∈ l, GoodR r) : (l.flatMap (·.vals)).length ≤ l.length * 8 := by
  induction l with
  | nil => simp
  | cons a r ih =>
    have h1 := ih fun x hx => hg x (List.mem_cons_of_mem _ hx)
    have h2 := (hg a (List.mem_cons_self ..)).many
    rw [List.flatMap_cons, List.length_append, List.length_cons]
    omega
theorem value_free {l : List GReq} {k : ByteArray} (hg : ∀ r ∈ l, GoodR r) (hl : l.length ≤ 9) (hno : ∀ r ∈ l, r.key = k → r.kind ≠ 1) :
    (∀ v ∈ candB, fitsV l k v = true → ValueOK l k v true) ∧ ((∀ v ∈ candB, fitsV l k v = false) → ∀ v, ValueOK l k v false) := by
  constructor
  · intro v hv hf
    exact ⟨fun _ => ⟨hf, cand_good v hv⟩, fun h => by cases h⟩
  · intro h v
    refine ⟨fun h => (by cases h), fun _ u => ?_⟩
    cases hf : fitsV l k u with
    | false => rfl
    | true =>
      exfalso
      have h1 : ∀ x ∈ candB, x ∈ l.flatMap (·.vals) := fun x hx => by
        have h2 := h x hx
        refine Classical.byContradiction fun hnot => ?_
        · skip
          have h3 : fitsV l k x = true := fits_iff.2 fun r hr hk => by
            have h4 := fits_iff.1 hf r hr hk
            have h5 := hno r hr hk
            have hx' : x ∉ r.vals := fun hm => hnot (List.mem_flatMap.2 ⟨r, hr, hm⟩)
            have hc : Lib.containsS r.vals x = false := by
              cases hc : Lib.containsS r.vals x with
              | false => rfl
              | true => exact absurd ((Lib.containsS_iff r.vals x).1 hc) hx'
            unfold holdsV at h4 ⊢
            simp only [h5, if_false] at h4 ⊢
            by_cases h6 : r.kind = 2
            · rw [if_pos h6, hc]; rfl
            · rw [if_neg h6] at h4 ⊢; exact h4
          rw [h2] at h3
          cases h3
      have h7 := nodup_len candB _ cand_nodup h1
      have h8 := flat_le l hg
      have h9 : candB.length = 74 := by rfl
      omega
/-- the keys that must have a value -/
def wantK (l : List GReq) : List ByteArray := (l.filter fun r => decide (r.kind = 1) || decide (r.kind = 3)).map (·.key)
theorem mem_wantK {l : List GReq} {k : ByteArray} : k ∈ wantK l ↔ ∃ r ∈ l, (r.kind = 1 ∨ r.kind = 3) ∧ r.key = k := by
  unfold wantK
  rw [List.mem_map]
  constructor
  · rintro ⟨r, hr, rfl⟩
    have := List.mem_filter.1 hr
    exact ⟨r, this.1, by simpa using this.2, rfl⟩
  · rintro ⟨r, hr, hk, rfl⟩
    exact ⟨r, List.mem_filter.2 ⟨hr, by simpa using hk⟩, rfl⟩
/-- rising -/
def Rising : List ByteArray → Prop
  | [] => True
  | [_] => True
  | a :: b :: r => lessB a b = true ∧ Rising (b :: r)
theorem rising_tail {a : ByteArray} {r : List ByteArray} (h : Rising (a :: r)) : Rising r := by
  cases r with
  | nil => trivial
  | cons b r => exact h.2
theorem rising_less {a : ByteArray} : ∀ {r : List ByteArray}, Rising (a :: r) → ∀ x ∈ r, lessB a x = true
  | [], _, x, hx => by cases hx
  | b :: r, h, x, hx => by
    rcases List.mem_cons.1 hx with rfl | hx
    · exact h.1
    · exact lessB_trans h.1 (rising_less h.2 x hx)
theorem rising_get {out : List GLabel} (h : Rising (out.map (·.key))) {x : GLabel} (hx : x ∈ out) : getL out x.key = some x.val := by
  induction out with
  | nil => cases hx
  | cons a r ih =>
    unfold getL
    rcases List.mem_cons.1 hx with rfl | hx'
    · rw [List.find?_cons_of_pos (by simp)]; rfl
    · have hne : a.key ≠ x.key := fun e => by
        have := rising_less (by simpa using h) x.key (List.mem_map_of_mem hx')
        rw [e, lessB_irrefl] at this
        cases this
      rw [List.find?_cons_of_neg (by simpa using hne)]
      exact ih (rising_tail (by simpa using h)) hx'
theorem getL_none {out : List GLabel} {k : ByteArray} (h : k ∉ out.map (·.key)) : getL out k = none := by
  unfold getL
  rw [List.find?_eq_none.2]
  · rfl
  · intro x hx e
    exact h (by simp at e; rw [← e]; exact List.mem_map_of_mem hx)
/-- what is told as labels that match -/
def SolveOK (l : List GReq) (out : List GLabel) (is : Bool) : Prop := (is = true → l.all (holdsB out) = true ∧ labelsE out = 0) ∧ (is = false → ∀ labels, l.all (holdsB labels) = false)
theorem labZ_zero {out : List GLabel} (hr : Rising (out.map (·.key))) (hk : ∀ x ∈ out, keyE x.key = 0 ∧ valE x.val = 0) : ∀ y ∈ labZ out, labE y = 0 := by
  have key : ∀ (p : Option ByteArray) (m : List GLabel), (∀ x ∈ m, keyE x.key = 0 ∧ valE x.val = 0) → Rising (m.map (·.key)) → (∀ q, p = some q → ∀ x, m.head? = some x → lessB q x.key = true) →
      ∀ y ∈ (p :: m.map (some ·.key)).zip m, labE y = 0 := fun p m => by
    induction m generalizing p with
    | nil => intro _ _ _ y hy; simp at hy
    | cons a r ih =>
      intro hk hr hp y hy
      rw [List.map_cons, List.zip_cons_cons] at hy
      rcases List.mem_cons.1 hy with rfl | hy
      · obtain ⟨h1, h2⟩ := hk a (List.mem_cons_self ..)
        unfold labE
        dsimp only
        rw [if_neg (by simpa using h1), if_neg (by simpa using h2)]
        cases p with
        | none => rfl
        | some q =>
          have h3 := hp q rfl a rfl
          show (if lessB q a.key = true then (0 : Int) else 1) = 0
          rw [if_pos h3]
      · refine ih (some a.key) (fun x hx => hk x (List.mem_cons_of_mem _ hx)) (rising_tail (by simpa using hr)) (fun q hq x hx => ?_) y hy
        cases hq
        have hx' : x ∈ r := List.mem_of_mem_head? hx
        exact rising_less (by simpa using hr) x.key (List.mem_map_of_mem hx')
  exact key none out hk hr fun q hq => by cases hq
/-- all keys have a value that fits -/
theorem solve_found {l : List GReq} (hg : ∀ r ∈ l, GoodR r) (hl : l.length ≤ 9) {out : List GLabel} (hr : Rising (out.map (·.key))) (hm : ∀ k, k ∈ out.map (·.key) ↔ k ∈ wantK l) (hlen : out.length ≤ l.length)
    (hv : ∀ x ∈ out, ValueOK l x.key x.val true) : l.all (holdsB out) = true ∧ labelsE out = 0 := by
  constructor
  · rw [List.all_eq_true]
    intro r hrl
    rw [holdsB_eq]
    by_cases h : r.key ∈ out.map (·.key)
    · obtain ⟨x, hx, hk⟩ := List.mem_map.1 h
      rw [← hk, rising_get hr hx]
      exact fits_iff.1 ((hv x hx).1 rfl).1 r hrl hk.symm
    · rw [getL_none h]
      have h2 : ¬ (r.kind = 1 ∨ r.kind = 3) := fun h3 => h ((hm r.key).2 (mem_wantK.2 ⟨r, hrl, h3, rfl⟩))
      unfold holdsV
      dsimp only
      rw [if_neg (by omega)]
      by_cases h4 : r.kind = 2
      · rw [if_pos h4]
      · rw [if_neg h4, decide_eq_true (by omega)]
  · unfold labelsE
    rw [if_neg (by omega)]
    refine errF_none (labZ_zero hr fun x hx => ?_)
    obtain ⟨r, hrl, _, hk⟩ := mem_wantK.1 ((hm x.key).1 (List.mem_map_of_mem hx))
    exact ⟨by rw [← hk]; exact (hg r hrl).key, ((hv x hx).1 rfl).2⟩
theorem solve_yes {l : List GReq} (hg : ∀ r ∈ l, GoodR r) (hl : l.length ≤ 9) {out : List GLabel} (hr : Rising (out.map (·.key))) (hm : ∀ k, k ∈ out.map (·.key) ↔ k ∈ wantK l) (hlen : out.length ≤ l.length)
    (hv : ∀ x ∈ out, ValueOK l x.key x.val true) : SolveOK l out true := ⟨fun _ => solve_found hg hl hr hm hlen hv, fun h => by cases h⟩
/-- a key has none -/
theorem solve_no {l : List GReq} {k v : ByteArray} (hk : k ∈ wantK l) (hv : ValueOK l k v false) (out : List GLabel) : SolveOK l out false := by
  refine ⟨fun h => (by cases h), fun _ labels => ?_⟩
  cases h : l.all (holdsB labels) with
  | false => rfl
  | true =>
    exfalso
    rw [List.all_eq_true] at h
    obtain ⟨r, hr, hkind, rfl⟩ := mem_wantK.1 hk
    have h1 := h r hr
    rw [holdsB_eq] at h1
    cases hget : getL labels r.key with
    | none =>
      rw [hget] at h1
      unfold holdsV at h1
      dsimp only at h1
      rcases hkind with h2 | h2
      · rw [if_pos h2] at h1; cases h1
      · rw [if_neg (by omega), if_neg (by omega), decide_eq_false (by omega)] at h1; cases h1
    | some u =>
      have h3 : fitsV l r.key u = true := fits_iff.2 fun q hq hqk => by
        have h4 := h q hq
        rwa [holdsB_eq, hqk, hget] at h4
      rw [hv.2 rfl u] at h3
      cases h3
end Go.Proofs.YtjhaopkhpmkkiaaDoor
