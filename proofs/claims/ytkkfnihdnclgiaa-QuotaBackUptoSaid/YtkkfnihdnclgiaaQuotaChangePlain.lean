/- quota: costs put to limits, one behind the other, in plain words. -/
import Derived.Test.YtkkfnihdnclgiaaQuotaBad
namespace Go.Proofs.Ytkkfnihdnclgiaa
open Go.RowKit

def sameB (a b : ByteArray) : Bool := a.toList == b.toList
theorem sameB_iff (a b : ByteArray) : sameB a b = true ↔ a = b := ⟨fun h => toList_inj (by simpa [sameB] using h), fun h => by subst h; simp [sameB]⟩
def putUsed (d : Int) (x : GLimit) : GLimit := { x with used := x.used + d }
/-- one cost: the list behind it, or what is bad -/
def changeOne (sign : Int) (bad : GLimit → Int) (l : List GLimit) (c : GCost) : Int × List GLimit :=
  match l.find? fun x => sameB x.what c.what with
  | none => (0, l)
  | some x => if bad (putUsed (sign * c.many) x) ≠ 0 then (bad (putUsed (sign * c.many) x), []) else (0, l.map fun y => if sameB y.what c.what = true then putUsed (sign * c.many) y else y)
def changeAll (sign : Int) (bad : GLimit → Int) : List GLimit → List GCost → Int × List GLimit
  | l, [] => (0, l)
  | l, c :: r => if (changeOne sign bad l c).1 ≠ 0 then ((changeOne sign bad l c).1, []) else changeAll sign bad (changeOne sign bad l c).2 r
def costsOK (cs : List GCost) : Bool := cs.all fun c => decide (0 ≤ c.many) && decide (c.many ≤ 2199023255552)
def changeP (sign : Int) (bad : GLimit → Int) (l : List GLimit) (cs : List GCost) : Int × List GLimit :=
  if checkL l ≠ 0 then (checkL l, []) else if costsOK cs = false then (1, []) else changeAll sign bad l cs
theorem find_rising {l : List GLimit} {s : ByteArray} {k : Nat} {x : GLimit} (hr : risingL l) (hx : l[k]? = some x) (hs : x.what = s) : (l.find? fun y => sameB y.what s) = some x := by
  have hk := (List.getElem?_eq_some_iff.1 hx).1
  rw [List.find?_eq_some_iff_getElem]
  refine ⟨(sameB_iff _ _).2 hs, k, hk, (List.getElem?_eq_some_iff.1 hx).2, fun j hj => ?_⟩
  have := hr j k l[j] x hj (List.getElem?_eq_getElem _) hx
  have hne : l[j].what ≠ s := fun e => by rw [e, hs, lessB_irrefl] at this; cases this
  simp only [Bool.not_eq_true']
  cases h : sameB l[j].what s with
  | false => rfl
  | true => exact absurd ((sameB_iff _ _).1 h) hne
theorem find_none {l : List GLimit} {s : ByteArray} (h : ∀ x ∈ l, x.what ≠ s) : (l.find? fun y => sameB y.what s) = none := by
  rw [List.find?_eq_none]
  intro x hx hs
  exact h x hx ((sameB_iff _ _).1 hs)
/-- putting to what is found, in a rising list, is putting at its place -/
theorem map_rising {l : List GLimit} {s : ByteArray} {k : Nat} {x : GLimit} (hr : risingL l) (hx : l[k]? = some x) (hs : x.what = s) (d : Int) :
    (l.map fun y => if sameB y.what s = true then putUsed d y else y) = l.set k (putUsed d x) := by
  apply List.ext_getElem?
  intro j
  rw [List.getElem?_map, List.getElem?_set]
  by_cases hkj : k = j
  · subst hkj
    rw [hx, if_pos rfl, if_pos (List.getElem?_eq_some_iff.1 hx).1]
    simp [(sameB_iff x.what s).2 hs]
  · rw [if_neg hkj]
    cases hy : l[j]? with
    | none => rfl
    | some y =>
      have hne : ¬ sameB y.what s = true := fun h => by
        have he := (sameB_iff _ _).1 h
        rcases Nat.lt_or_ge k j with h1 | h1
        · have := hr k j x y h1 hx hy
          rw [hs, he, lessB_irrefl] at this
          cases this
        · have := hr j k y x (by omega) hy hx
          rw [hs, he, lessB_irrefl] at this
          cases this
      simp [hne]
theorem rising_map {l : List GLimit} (f : GLimit → GLimit) (hf : ∀ x, (f x).what = x.what) (hr : risingL l) : risingL (l.map f) := fun i j x y hij hx hy => by
  rw [List.getElem?_map] at hx hy
  cases h1 : l[i]? with
  | none => rw [h1] at hx; cases hx
  | some a =>
    cases h2 : l[j]? with
    | none => rw [h2] at hy; cases hy
    | some b =>
      rw [h1] at hx; rw [h2] at hy
      simp only [Option.map_some, Option.some.injEq] at hx hy
      subst hx hy
      rw [hf, hf]
      exact hr i j a b hij h1 h2
theorem limCode_zero {p : Option GLimit} {x : GLimit} (h : limCode p x = 0) : (∀ q, p = some q → lessB q.what x.what = true) ∧ unitsB x.hard = true ∧ unitsB x.used = true := by
  unfold limCode at h
  by_cases h1 : NameP.check x.what.data.toList ≠ 0
  · rw [if_pos h1] at h; exact absurd h h1
  rw [if_neg h1] at h
  have units : (if unitsB x.hard = false then (1 : Int) else if unitsB x.used = false then 1 else 0) = 0 → unitsB x.hard = true ∧ unitsB x.used = true := fun h => by
    by_cases h3 : unitsB x.hard = false
    · rw [if_pos h3] at h; cases h
    rw [if_neg h3] at h
    by_cases h4 : unitsB x.used = false
    · rw [if_pos h4] at h; cases h
    exact ⟨by simpa using h3, by simpa using h4⟩
  cases p with
  | none => exact ⟨(fun q hq => (by cases hq)), units (by simpa using h)⟩
  | some q =>
    have h2 : (if (!lessB q.what x.what) = true then (1 : Int) else if unitsB x.hard = false then 1 else if unitsB x.used = false then 1 else 0) = 0 := h
    by_cases h5 : (!lessB q.what x.what) = true
    · rw [if_pos h5] at h2; cases h2
    rw [if_neg h5] at h2
    exact ⟨(fun q' hq => (by cases hq; simpa using h5)), units h2⟩
theorem limsCode_zero : ∀ (l : List GLimit) (p : Option GLimit), limsCode p l = 0 → (∀ q, p = some q → ∀ x ∈ l, lessB q.what x.what = true) ∧ l.Pairwise (fun a b => lessB a.what b.what = true) ∧ ∀ x ∈ l, unitsB x.hard = true ∧ unitsB x.used = true
  | [], _, _ => ⟨(fun _ _ x hx => (by cases hx)), List.Pairwise.nil, (fun x hx => (by cases hx))⟩
  | x :: r, p, h => by
    unfold limsCode at h
    by_cases hc : limCode p x ≠ 0
    · rw [if_pos hc] at h; exact absurd h hc
    rw [if_neg hc] at h
    obtain ⟨a1, a2, a3⟩ := limCode_zero (by omega : limCode p x = 0)
    obtain ⟨b1, b2, b3⟩ := limsCode_zero r (some x) h
    refine ⟨fun q hq y hy => ?_, List.Pairwise.cons (fun y hy => b1 x rfl y hy) b2, fun y hy => ?_⟩
    · rcases List.mem_cons.1 hy with rfl | hy
      · exact a1 q hq
      · exact lessB_trans (a1 q hq) (b1 x rfl y hy)
    · rcases List.mem_cons.1 hy with rfl | hy
      · exact ⟨a2, a3⟩
      · exact b3 y hy
theorem checkL_zero {l : List GLimit} (h : checkL l = 0) : risingL l ∧ (∀ x ∈ l, unitsB x.hard = true ∧ unitsB x.used = true) ∧ l.length ≤ 6 := by
  unfold checkL at h
  by_cases h6 : 6 < l.length
  · rw [if_pos h6] at h; cases h
  rw [if_neg h6] at h
  obtain ⟨_, b2, b3⟩ := limsCode_zero l none h
  refine ⟨fun i j x y hij hx hy => ?_, b3, by omega⟩
  obtain ⟨hi, rfl⟩ := List.getElem?_eq_some_iff.1 hx
  obtain ⟨hj, rfl⟩ := List.getElem?_eq_some_iff.1 hy
  exact List.pairwise_iff_getElem.1 b2 i j hi hj hij
theorem unitsB_iff (n : Int) : unitsB n = true ↔ 0 ≤ n ∧ n ≤ 1099511627776 := by unfold unitsB; simp
end Go.Proofs.Ytkkfnihdnclgiaa
