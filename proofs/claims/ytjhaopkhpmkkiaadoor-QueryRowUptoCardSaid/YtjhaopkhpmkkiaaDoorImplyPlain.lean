/- query.Implies: what it tells: the plain laws. -/
import Derived.Test.YtjhaopkhpmkkiaaDoorSolvePlain
namespace Go.Proofs.YtjhaopkhpmkkiaaDoor
open Go.RowKit

/-- does the one imply the other? -/
def ImplyOK (a b : List GReq) (out : List GLabel) (is : Bool) : Prop :=
  (is = true → ∀ r ∈ b, ∀ labels, (a ++ [oppR r]).all (holdsB labels) = false) ∧ (is = false → ∃ r ∈ b, (a ++ [oppR r]).all (holdsB out) = true ∧ labelsE out = 0)
def implyE (a b : List GReq) : Int := if reqsE a = 0 then reqsE b else reqsE a
theorem implyE_zero {a b : List GReq} : implyE a b = 0 ↔ reqsE a = 0 ∧ reqsE b = 0 := by
  unfold implyE
  split
  · rename_i h; simp [h]
  · rename_i h; simp [h]
theorem goods_of {l : List GReq} (h : reqsE l = 0) : (∀ r ∈ l, GoodR r) ∧ l.length ≤ 8 := by
  unfold reqsE at h
  by_cases h8 : 8 < l.length
  · rw [if_pos h8] at h; cases h
  · rw [if_neg h8, errF_zero] at h
    exact ⟨fun r hr => good_of (h r hr), by omega⟩
theorem imply_yes {a b : List GReq} {out labels : List GLabel} (hb : ∀ r ∈ b, GoodR r) (h : ImplyOK a b out true) (ha : a.all (holdsB labels) = true) : b.all (holdsB labels) = true := by
  rw [List.all_eq_true]
  intro r hr
  have h1 := h.1 rfl r hr labels
  rw [List.all_append, ha, Bool.true_and, List.all_cons, List.all_nil, Bool.and_true, holds_opp labels (hb r hr).kind] at h1
  simpa using h1
theorem imply_no {a b : List GReq} {out : List GLabel} (hb : ∀ r ∈ b, GoodR r) (h : ImplyOK a b out false) : a.all (holdsB out) = true ∧ b.all (holdsB out) = false ∧ labelsE out = 0 := by
  obtain ⟨r, hr, h1, h2⟩ := h.2 rfl
  rw [List.all_append, Bool.and_eq_true, List.all_cons, List.all_nil, Bool.and_true, holds_opp out (hb r hr).kind] at h1
  refine ⟨h1.1, ?_, h2⟩
  rw [List.all_eq_false]
  exact ⟨r, hr, by simpa using h1.2⟩
theorem imply_self {a : List GReq} {out : List GLabel} {is : Bool} (ha : ∀ r ∈ a, GoodR r) (h : ImplyOK a a out is) : is = true := by
  cases is with
  | true => rfl
  | false =>
    obtain ⟨h1, h2, _⟩ := imply_no ha h
    rw [h1] at h2
    cases h2
theorem imply_more {a b : List GReq} {out : List GLabel} {is : Bool} (ha : ∀ r ∈ a, GoodR r) (h : ImplyOK (a ++ b) a out is) : is = true := by
  cases is with
  | true => rfl
  | false =>
    obtain ⟨h1, h2, _⟩ := imply_no ha h
    rw [List.all_append, Bool.and_eq_true] at h1
    rw [h1.1] at h2
    cases h2
theorem imply_on {a b c : List GReq} {o1 o2 o3 : List GLabel} {is : Bool} (hb : ∀ r ∈ b, GoodR r) (hc : ∀ r ∈ c, GoodR r) (h1 : ImplyOK a b o1 true) (h2 : ImplyOK b c o2 true) (h3 : ImplyOK a c o3 is) : is = true := by
  cases is with
  | true => rfl
  | false =>
    obtain ⟨h4, h5, _⟩ := imply_no hc h3
    rw [imply_yes hc h2 (imply_yes hb h1 h4)] at h5
    cases h5
end Go.Proofs.YtjhaopkhpmkkiaaDoor
