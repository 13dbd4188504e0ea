/- grants: what the bulk of the parameters bounds. -/
import Derived.Test.YtkkfnihdnclgiaaDoorGrantsCheck
import Derived.Test.YtkkfnihdnclgiaaDoorGrantsHeld
import Derived.Test.YtkkfnihdnclgiaaDoorOpen
namespace Go.Proofs.YtkkfnihdnclgiaaDoor
open Go.RowKit

theorem mem_sum {α : Type} (μ : α → Nat) {l : List α} {x : α} (h : x ∈ l) : μ x ≤ (l.map μ).sum := by
  induction l with
  | nil => cases h
  | cons y r ih =>
    simp only [List.map_cons, List.sum_cons]
    rcases List.mem_cons.1 h with rfl | h
    · omega
    · have := ih h; omega
theorem okS_of {l : List ByteArray} (h : total l ≤ 1048576) : okS l := ⟨by have := total_length l; omega, fun x hx => by have := total_mem hx; omega⟩
theorem okRule_of {r : GRule} (h : ruleB r ≤ 1048576) : okRule r := by
  unfold ruleB at h
  exact ⟨okS_of (by omega), okS_of (by omega), okS_of (by omega)⟩
theorem okRole_of {r : GRole} (h : roleB r ≤ 1048576) : okRole r := by
  have h1 := sum_ge_length ruleB (fun x => by unfold ruleB; omega) r.rules
  have h2 : ∀ q ∈ r.rules, ruleB q ≤ (r.rules.map ruleB).sum := fun q hq => mem_sum ruleB hq
  unfold roleB at h
  exact ⟨by omega, by omega, by omega, fun q hq => okRule_of (by have := h2 q hq; omega)⟩
theorem okBind_of {b : GBind} (h : bindB b ≤ 1048576) : okBind b := by
  unfold bindB at h
  exact ⟨by omega, by omega, by omega, okS_of (by omega), okS_of (by omega)⟩
theorem okGrants_of {x : GGrants} (h : grantsB x ≤ 1048576) : okGrants x := by
  have h1 := sum_ge_length roleB (fun x => by unfold roleB; omega) x.roles
  have h2 : ∀ q ∈ x.roles, roleB q ≤ (x.roles.map roleB).sum := fun q hq => mem_sum roleB hq
  have h3 := sum_ge_length bindB (fun x => by unfold bindB; omega) x.binds
  have h4 : ∀ q ∈ x.binds, bindB q ≤ (x.binds.map bindB).sum := fun q hq => mem_sum bindB hq
  unfold grantsB at h
  exact ⟨by omega, fun q hq => okRole_of (by have := h2 q hq; omega), by omega, fun q hq => okBind_of (by have := h4 q hq; omega)⟩
theorem okUser_of {u : GUser} (h : userB u ≤ 1048576) : okUser u := by
  unfold userB at h
  exact ⟨by omega, okS_of (by omega)⟩
theorem okAsk_of {a : GAsk} (h : askB a ≤ 1048576) : okAsk a := by
  unfold askB at h
  exact ⟨by omega, by omega, by omega, by omega⟩
theorem flat_bulk (f : GRule → List ByteArray) (hf : ∀ r, (f r).length + 1 ≤ ruleB r) (l : List GRule) : (l.map f).flatten.length ≤ (l.map ruleB).sum := by
  induction l with
  | nil => simp
  | cons r l ih =>
    have := hf r
    simp only [List.map_cons, List.flatten_cons, List.length_append, List.sum_cons]
    omega
theorem ruleB_verbs (r : GRule) : r.verbs.length + 1 ≤ ruleB r := by unfold ruleB; have := total_length r.verbs; omega
theorem ruleB_kinds (r : GRule) : r.kinds.length + 1 ≤ ruleB r := by unfold ruleB; have := total_length r.kinds; omega
theorem ruleB_names (r : GRule) : r.names.length + 1 ≤ ruleB r := by unfold ruleB; have := total_length r.names; omega
end Go.Proofs.YtkkfnihdnclgiaaDoor
