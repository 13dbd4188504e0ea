/- query: what Check, CheckLabels, Match compute; the plain laws. -/
import Derived.Test.YtkmonmdnmpbadaaDoorCheckKey
import Derived.Test.YtkmonmdnmpbadaaDoorCheckVal
import Derived.Test.YtkmonmdnmpbadaaDoorDataQuery
import Derived.Test.YtkmonmdnmpbadaaDoorBytes
namespace Go.Proofs.YtkmonmdnmpbadaaDoor
open Go.RowKit

/-- the first error -/
def errF {α : Type} (f : α → Int) (l : List α) : Int := match l.find? (fun x => f x != 0) with
  | none => 0
  | some x => f x
theorem errF_none {α : Type} {f : α → Int} {l : List α} (h : ∀ x ∈ l, f x = 0) : errF f l = 0 := by
  unfold errF
  rw [List.find?_eq_none.2 fun x hx => by rw [h x hx]; simp]
theorem errF_at {α : Type} {f : α → Int} {l : List α} {i : Nat} {x : α} (hx : l[i]? = some x) (h : ∀ y ∈ l.take i, f y = 0) (hf : f x ≠ 0) : errF f l = f x := by
  have hi := (List.getElem?_eq_some_iff.1 hx).1
  have he := (List.getElem?_eq_some_iff.1 hx).2
  have h1 : l = l.take i ++ x :: l.drop (i + 1) := by rw [← he, ← List.drop_eq_getElem_cons hi, List.take_append_drop]
  have h2 : l.find? (fun x => f x != 0) = some x := by
    rw [h1, List.find?_append, List.find?_eq_none.2 (fun y hy => by rw [h y hy]; simp)]
    simp [hf]
  unfold errF
  rw [h2]
theorem errF_zero {α : Type} {f : α → Int} {l : List α} : errF f l = 0 ↔ ∀ x ∈ l, f x = 0 := by
  constructor
  · intro h x hx
    unfold errF at h
    cases hf : l.find? (fun x => f x != 0) with
    | none => have := List.find?_eq_none.1 hf x hx; simpa using this
    | some y =>
      rw [hf] at h
      have := List.find?_some hf
      simp at this
      exact absurd h this
  · exact errF_none
def keyE (s : ByteArray) : Int := NameP.checkKey s.data.toList
def valE (s : ByteArray) : Int := NameP.checkVal s.data.toList
def listsK (k : Int) : Bool := k == 1 || k == 2
def argR (r : GReq) : Bool := decide (r.kind < 1) || (decide (4 < r.kind) || (listsK r.kind != decide (0 < r.vals.length)))
def reqE (r : GReq) : Int :=
  if keyE r.key ≠ 0 then keyE r.key else if argR r = true then 1 else if 8 < r.vals.length then 2 else errF valE r.vals
def reqsE (l : List GReq) : Int := if 8 < l.length then 2 else errF reqE l
/-- each label, with the key ahead of it -/
def labZ (l : List GLabel) : List (Option ByteArray × GLabel) := (none :: l.map (some ·.key)).zip l
def prevE (p : Option ByteArray) (key : ByteArray) : Int := match p with
  | none => 0
  | some k => if lessB k key = true then 0 else 1
def labE (x : Option ByteArray × GLabel) : Int :=
  if keyE x.2.key ≠ 0 then keyE x.2.key else if valE x.2.val ≠ 0 then valE x.2.val else prevE x.1 x.2.key
def labelsE (l : List GLabel) : Int := if 10 < l.length then 2 else errF labE (labZ l)
def holdsB (labels : List GLabel) (r : GReq) : Bool := match labels.find? fun x => decide (x.key = r.key) with
  | some x => if r.kind = 1 then Lib.containsS r.vals x.val else if r.kind = 2 then !Lib.containsS r.vals x.val else decide (r.kind = 3)
  | none => if r.kind = 1 then false else if r.kind = 2 then true else decide (r.kind ≠ 3)
def matchE (l : List GReq) (labels : List GLabel) : Int := if reqsE l = 0 then labelsE labels else reqsE l
def matchB (l : List GReq) (labels : List GLabel) : Bool := decide (matchE l labels = 0) && l.all (holdsB labels)
theorem reqE_empty : reqE ⟨ByteArray.empty, 0, []⟩ = 6 := by decide
/-- the opposite of a part -/
def oppK (k : Int) : Int := if k = 1 ∨ k = 3 then k + 1 else if k = 2 ∨ k = 4 then k - 1 else k
def oppR (r : GReq) : GReq := { r with kind := oppK r.kind }
theorem argR_opp (r : GReq) : argR (oppR r) = argR r := by
  unfold argR oppR oppK listsK
  dsimp only
  by_cases h1 : r.kind = 1
  · rw [h1]; rfl
  · by_cases h2 : r.kind = 2
    · rw [h2]; rfl
    · by_cases h3 : r.kind = 3
      · rw [h3]; rfl
      · by_cases h4 : r.kind = 4
        · rw [h4]; rfl
        · rw [if_neg (by omega), if_neg (by omega)]
theorem reqE_opp (r : GReq) : reqE (oppR r) = reqE r := by
  unfold reqE
  rw [argR_opp]
  rfl
theorem reqsE_one (r : GReq) : reqsE [r] = reqE r := by
  unfold reqsE
  rw [if_neg (by simp)]
  by_cases h : reqE r = 0
  · rw [h]; exact errF_none fun x hx => by rw [List.mem_singleton.1 hx]; exact h
  · exact errF_at (i := 0) rfl (by simp) h
theorem argR_kind {r : GReq} (h : reqE r = 0) : 1 ≤ r.kind ∧ r.kind ≤ 4 := by
  unfold reqE at h
  by_cases h1 : keyE r.key ≠ 0
  · rw [if_pos h1] at h; exact absurd h h1
  · rw [if_neg h1] at h
    by_cases h2 : argR r = true
    · rw [if_pos h2] at h; cases h
    · unfold argR at h2
      simp at h2
      omega
theorem holds_opp {r : GReq} (labels : List GLabel) (h : 1 ≤ r.kind ∧ r.kind ≤ 4) : holdsB labels (oppR r) = !holdsB labels r := by
  have hk : r.kind = 1 ∨ r.kind = 2 ∨ r.kind = 3 ∨ r.kind = 4 := by omega
  unfold holdsB oppR
  dsimp only
  cases labels.find? fun x => decide (x.key = r.key) with
  | none => rcases hk with h | h | h | h <;> rw [h] <;> rfl
  | some x => rcases hk with h | h | h | h <;> rw [h] <;> simp [oppK]
/-- QueryNot -/
theorem queryNot_plain (r : GReq) (labels : List GLabel) :
    (if matchE [r] labels ≠ 0 ∨ matchE [oppR r] labels ≠ 0 then (matchE [r] labels == matchE [oppR r] labels) && (!matchB [r] labels && !matchB [oppR r] labels) else matchB [r] labels != matchB [oppR r] labels) = true := by
  have h1 : matchE [oppR r] labels = matchE [r] labels := by unfold matchE; rw [reqsE_one, reqsE_one, reqE_opp]
  rw [h1]
  by_cases h : matchE [r] labels = 0
  · rw [if_neg (by simp [h])]
    have h2 : reqE r = 0 := by
      unfold matchE at h
      rw [reqsE_one] at h
      by_cases h3 : reqE r = 0
      · exact h3
      · rw [if_neg h3] at h; exact h
    have h4 := holds_opp labels (argR_kind h2)
    unfold matchB
    rw [h1, h]
    simp only [decide_true, Bool.true_and, List.all_cons, List.all_nil, Bool.and_true]
    rw [h4]
    cases holdsB labels r <;> rfl
  · rw [if_pos (.inl h)]
    unfold matchB
    rw [h1, decide_eq_false h]
    simp
theorem reqsE_append {l m : List GReq} : reqsE (l ++ m) = 0 ↔ l.length + m.length ≤ 8 ∧ reqsE l = 0 ∧ reqsE m = 0 := by
  unfold reqsE
  rw [List.length_append]
  by_cases h : 8 < l.length + m.length
  · rw [if_pos h]
    exact ⟨fun h1 => absurd h1 (by decide), fun h1 => absurd h1.1 (by omega)⟩
  · rw [if_neg h, if_neg (by omega), if_neg (by omega), errF_zero, errF_zero, errF_zero]
    constructor
    · intro h1
      exact ⟨by omega, fun x hx => h1 x (List.mem_append_left _ hx), fun x hx => h1 x (List.mem_append_right _ hx)⟩
    · intro ⟨_, h1, h2⟩ x hx
      rcases List.mem_append.1 hx with hx | hx
      · exact h1 x hx
      · exact h2 x hx
theorem matchE_zero {l : List GReq} {labels : List GLabel} : matchE l labels = 0 ↔ reqsE l = 0 ∧ labelsE labels = 0 := by
  unfold matchE
  split
  · rename_i h; simp [h]
  · rename_i h; simp [h]
theorem reqsE_reverse {l : List GReq} : reqsE l.reverse = 0 ↔ reqsE l = 0 := by
  unfold reqsE
  rw [List.length_reverse]
  split
  · rfl
  · rw [errF_zero, errF_zero]
    simp
theorem matchB_none {l : List GReq} {labels : List GLabel} (h : matchE l labels ≠ 0) : matchB l labels = false := by
  unfold matchB
  rw [decide_eq_false h]; rfl
/-- QueryAnd: where something is refused -/
theorem queryAnd_bad {l m : List GReq} {labels : List GLabel} (h : matchE l labels ≠ 0 ∨ matchE m labels ≠ 0 ∨ 8 < (l ++ m).length) : matchE (l ++ m) labels ≠ 0 ∧ matchB (l ++ m) labels = false := by
  have h1 : matchE (l ++ m) labels ≠ 0 := fun h0 => by
    rw [matchE_zero, reqsE_append] at h0
    rcases h with h | h | h
    · exact h (matchE_zero.2 ⟨h0.1.2.1, h0.2⟩)
    · exact h (matchE_zero.2 ⟨h0.1.2.2, h0.2⟩)
    · rw [List.length_append] at h; omega
  exact ⟨h1, matchB_none h1⟩
theorem queryAnd_good {l m : List GReq} {labels : List GLabel} (hl : matchE l labels = 0) (hm : matchE m labels = 0) (h8 : ¬ 8 < (l ++ m).length) :
    matchE (l ++ m) labels = 0 ∧ matchE (l ++ m).reverse labels = 0 ∧ matchB (l ++ m) labels = (matchB l labels && matchB m labels) ∧ matchB (l ++ m).reverse labels = matchB (l ++ m) labels := by
  rw [List.length_append] at h8
  have h1 := matchE_zero.1 hl
  have h2 := matchE_zero.1 hm
  have h3 : matchE (l ++ m) labels = 0 := matchE_zero.2 ⟨reqsE_append.2 ⟨by omega, h1.1, h2.1⟩, h1.2⟩
  have h4 : matchE (l ++ m).reverse labels = 0 := matchE_zero.2 ⟨reqsE_reverse.2 (matchE_zero.1 h3).1, h1.2⟩
  refine ⟨h3, h4, ?_, ?_⟩
  · unfold matchB
    rw [hl, hm, h3]
    simp
  · unfold matchB
    rw [h3, h4, List.all_reverse]
end Go.Proofs.YtkmonmdnmpbadaaDoor
