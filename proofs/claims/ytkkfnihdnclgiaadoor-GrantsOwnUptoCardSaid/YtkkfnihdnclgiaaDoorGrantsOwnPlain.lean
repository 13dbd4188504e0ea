/- grants: one may grant what one holds: the plain law. -/
import Derived.Test.YtkkfnihdnclgiaaDoorGrantsGrant
namespace Go.Proofs.YtkkfnihdnclgiaaDoor
open Go.RowKit

theorem cover_self {l : List GRule} {r : GRule} (h : r ∈ l) : coverP l r := fun v hv k hk n hn hz => by
  unfold cellP
  rw [List.any_eq_true]
  refine ⟨r, h, ?_⟩
  have h1 : hasL r.verbs v = true := by unfold hasL; rw [(Lib.containsS_iff _ _).2 hv]; rfl
  have h2 : hasL r.kinds k = true := by unfold hasL; rw [(Lib.containsS_iff _ _).2 hk]; rfl
  rw [h1, h2, Bool.true_and, Bool.true_and]
  unfold allN at hn
  by_cases h0 : r.names.length = 0
  · rw [decide_eq_true h0, Bool.true_or]
  · rw [if_neg h0] at hn
    rw [(Lib.containsS_iff _ _).2 hn, decide_eq_true h0, decide_eq_false h0]
    rfl
theorem own_rules {x : GGrants} {u : GUser} {s : ByteArray} (hc : codeC x u s = 0) {l : List GRule} (hl : l.length ≤ 8) (hs : ∀ r ∈ l, r ∈ heldL x u s) : rulesC l = 0 := by
  unfold rulesC
  rw [says_eq_zero, firstBad_zero]
  refine ⟨by unfold need; rw [if_pos (decide_eq_true hl)], fun e he => ?_⟩
  obtain ⟨r, hr, rfl⟩ := List.mem_map.1 he
  exact held_rule hc (hs r hr)
theorem own_grant {x : GGrants} {u : GUser} {s : ByteArray} (hc : codeC x u s = 0) {l : List GRule} (hl : l.length ≤ 8) (hs : ∀ r ∈ l, r ∈ heldL x u s) {e : Int} (h : GrantIs x u s l e) : e = 0 := by
  have hb : grantBad x u s l = 0 := by unfold grantBad; rw [hc, own_rules hc hl hs]; rfl
  rcases h with ⟨h, _⟩ | ⟨_, ⟨h, _⟩ | ⟨_, _, r, hr, hn⟩⟩
  · exact absurd hb h
  · exact h
  · exact absurd (cover_self (hs r hr)) hn
theorem bad_grant {x : GGrants} {u : GUser} {s : ByteArray} (hc : codeC x u s ≠ 0) {l : List GRule} {e : Int} (h : GrantIs x u s l e) : e = codeC x u s := by
  have hb : grantBad x u s l = codeC x u s := by unfold grantBad says; rw [if_neg hc]
  rcases h with ⟨_, h⟩ | ⟨h, _⟩
  · rw [h, hb]
  · rw [hb] at h; exact absurd h hc
def Mild (e : Int) : Prop := e = 0 ∨ e = 2 ∨ e = 1 ∨ e = 6
theorem mild_says {a b : Int} (ha : Mild a) (hb : Mild b) : Mild (says a b) := by
  unfold says
  split
  · exact hb
  · exact ha
theorem mild_need {b : Bool} {e : Int} (he : Mild e) : Mild (need b e) := by
  unfold need
  split
  · exact .inl rfl
  · exact he
theorem mild_first : ∀ {l : List Int}, (∀ e ∈ l, Mild e) → Mild (firstBad l)
  | [], _ => .inl rfl
  | e :: r, h => mild_says (h e (List.mem_cons_self ..)) (mild_first fun x hx => h x (List.mem_cons_of_mem _ hx))
theorem mild_check (l : List UInt8) : Mild (NameP.check l) := by
  unfold NameP.check NameP.judge Mild
  split
  · simp
  · split <;> simp
theorem mild_names (st : Bool) (l : List ByteArray) : Mild (namesC st l) := mild_first fun e he => by
  obtain ⟨s, _, rfl⟩ := List.mem_map.1 he
  unfold nameC
  split
  · exact .inl rfl
  · exact mild_check _
theorem mild_rules (l : List GRule) : Mild (rulesC l) := mild_says (mild_need (.inr (.inl rfl))) (mild_first fun e he => by
  obtain ⟨r, _, rfl⟩ := List.mem_map.1 he
  exact mild_says (mild_need (.inr (.inl rfl))) (mild_says (mild_need (.inr (.inr (.inl rfl)))) (mild_says (mild_names _ _) (mild_says (mild_names _ _) (mild_names _ _)))))
theorem mild_grant {x : GGrants} {u : GUser} {s : ByteArray} (hc : codeC x u s = 0) {l : List GRule} {e : Int} (h : GrantIs x u s l e) : e = 0 ∨ e = 14 ∨ e = 2 ∨ e = 1 ∨ e = 6 := by
  have hb : grantBad x u s l = rulesC l := by unfold grantBad; rw [hc, zero_says]
  rcases h with ⟨_, h⟩ | ⟨_, ⟨h, _⟩ | ⟨h, _⟩⟩
  · rw [h, hb]
    rcases mild_rules l with h | h | h | h
    · exact .inl h
    · exact .inr (.inr (.inl h))
    · exact .inr (.inr (.inr (.inl h)))
    · exact .inr (.inr (.inr (.inr h)))
  · exact .inl h
  · exact .inr (.inl h)
/-- who may grant it without leave to escalate holds it -/
theorem grant_all {x : GGrants} {u : GUser} {s : ByteArray} {l : List GRule} (h : GrantIs x u s l 0) (he : allowsL (heldL x u s) escA = false) {a : GAsk} (ha : allowsL l a = true) : allowsL (heldL x u s) a = true := by
  unfold allowsL at ha
  rw [List.any_eq_true] at ha
  obtain ⟨r, hr, ha⟩ := ha
  rcases h with ⟨h, h0⟩ | ⟨_, ⟨_, h | h⟩ | ⟨h, _⟩⟩
  · exact absurd h0.symm h
  · rw [he] at h; cases h
  · exact cover_all (h r hr) ha
  · cases h
end Go.Proofs.YtkkfnihdnclgiaaDoor
