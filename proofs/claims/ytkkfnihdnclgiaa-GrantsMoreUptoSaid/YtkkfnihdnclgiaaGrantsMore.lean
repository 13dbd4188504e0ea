/- grants: who is granted more: copies with one more, and the plain law. -/
import Derived.Test.YtkkfnihdnclgiaaGrantsWideWalk
import Derived.Test.YtkkfnihdnclgiaaRelX
namespace Go.Proofs.Ytkkfnihdnclgiaa
open Go.RowKit

theorem one_role : OneR RoleR := fun _ _ _ h u hu => by
  obtain ⟨v, hcs, hr⟩ := h
  subst hcs
  simp at hu
  rcases hu with rfl | rfl | rfl
  · rfl
  · rfl
  · rcases hr with ⟨rfl, _⟩ | ⟨_, _, rfl, _⟩ <;> rfl
theorem Try.infoRole : (Try.prog.info? 43).map (fun i => (i.zero, i.size, i.bytes)) = some (some (.agg #[.string ByteArray.empty, .string ByteArray.empty, .slice none 0 0]), 3, 56) := by kernel_rfl
set_option maxRecDepth 100000 in
theorem copyRole_any (v : Value) (l : List GRole) (w0 w : World) (h : RowAt (AtW w0 RoleR) 3 w v l) (hl : l.length ≤ 1073741824) :
    Calls Try.prog 18 #[v] w fun e w' => ∃ v', e = .returned v' ∧ OwnAt (AtW w0 RoleR) 3 w' w.heap.size 43 v' l ∧ Below w.heap.size w w' := by
  obtain ⟨i0, hi0, hz0, hz1, hz2⟩ := info_parts Try.infoRole
  go_enter Try.func18, Try.ntmps18
  go_wp2_with (at_builtin; refine wpList_append_ownAt (R := AtW w0 RoleR) (k := 3) (e := 43) (B := w.heap.size) (l := []) (m := l) _ (by rfl) _ _ _ (by rfl) i0 _ 56 Try.underlying37 hi0 hz0 hz1 hz2 rfl (by omega) (flat_atW w0 _) (one_atW w0 one_role) _ (by rfl) (OwnAt.nil w) _ (by rfl) h (by unfold maxLen; simp; omega) (by simp; omega) (Nat.le_refl _) ?_)
  intro v' w' hv' hg hr _
  have hb : Below w.heap.size w w' := below_of_grown (Below.refl _ _) (Nat.le_refl _) hg hr
  go_wp2_with fail
  go_ret
  exact ⟨_, rfl, by simpa using hv', hb⟩
theorem one_bind : OneR BindR := fun _ _ _ h u hu => by
  obtain ⟨v, v', hcs, hr, hr'⟩ := h
  subst hcs
  simp at hu
  rcases hu with rfl | rfl | rfl | rfl | rfl | rfl
  · rfl
  · rfl
  · rfl
  · rfl
  · exact strAt_one hr
  · exact strAt_one hr'
theorem Try.infoBind : (Try.prog.info? 46).map (fun i => (i.zero, i.size, i.bytes)) = some (some (.agg #[.string ByteArray.empty, .string ByteArray.empty, .string ByteArray.empty, .bool false, .slice none 0 0, .slice none 0 0]), 6, 104) := by kernel_rfl
set_option maxRecDepth 100000 in
theorem copyBind_any (v : Value) (l : List GBind) (w0 w : World) (h : RowAt (AtW w0 BindR) 6 w v l) (hl : l.length ≤ 1073741824) :
    Calls Try.prog 19 #[v] w fun e w' => ∃ v', e = .returned v' ∧ OwnAt (AtW w0 BindR) 6 w' w.heap.size 46 v' l ∧ Below w.heap.size w w' := by
  obtain ⟨i0, hi0, hz0, hz1, hz2⟩ := info_parts Try.infoBind
  go_enter Try.func19, Try.ntmps19
  go_wp2_with (at_builtin; refine wpList_append_ownAt (R := AtW w0 BindR) (k := 6) (e := 46) (B := w.heap.size) (l := []) (m := l) _ (by rfl) _ _ _ (by rfl) i0 _ 104 Try.underlying38 hi0 hz0 hz1 hz2 rfl (by omega) (flat_atW w0 _) (one_atW w0 one_bind) _ (by rfl) (OwnAt.nil w) _ (by rfl) h (by unfold maxLen; simp; omega) (by simp; omega) (Nat.le_refl _) ?_)
  intro v' w' hv' hg hr _
  have hb : Below w.heap.size w w' := below_of_grown (Below.refl _ _) (Nat.le_refl _) hg hr
  go_wp2_with fail
  go_ret
  exact ⟨_, rfl, by simpa using hv', hb⟩

/-- a row of the call's own has grown, of element type T -/
def Grow (B : Nat) (T : TypeId) (w w' : World) : Prop := ∃ r : Option Nat, w.grownBy w' r ∧ ∀ g, r = some g → B ≤ g ∧ ∃ cur, w.heap[g]? = some (.cells cur T (0, 0))
theorem Grow.same {B : Nat} {T : TypeId} {w w' : World} (h : Grow B T w w') : SameBut T w w' := fun b cs t fr hb ht => by
  obtain ⟨r, hg, hr⟩ := h
  have hlt : b < w.heap.size := by
    rcases Nat.lt_or_ge b w.heap.size with h1 | h1
    · exact h1
    · rw [Array.getElem?_eq_none h1] at hb; cases hb
  refine (hg.block b hlt fun hv => ?_).trans hb
  obtain ⟨_, cur, hc⟩ := hr b hv.symm
  rw [hb] at hc
  cases hc
  exact ht rfl
theorem Grow.below {B : Nat} {T : TypeId} {W w w' : World} (h : Grow B T w w') (hb : Below B W w) (hB : B ≤ w.heap.size) : Below B W w' := by
  obtain ⟨r, hg, hr⟩ := h
  exact below_of_grown hb hB hg fun g h1 => (hr g h1).1
theorem grow_of {α : Type} {R : Rd α} {k B : Nat} {T : TypeId} {v : Value} {l : List α} {w w' : World} (h : OwnAt R k w B T v l) (hg : w.grownBy w' v.ownBlock) : Grow B T w w' :=
  ⟨_, hg, fun g h1 => ⟨(h.at h1).1, (h.at h1).2.2⟩⟩
theorem OwnAt.same {α : Type} {R : Rd α} {k B : Nat} {e T : TypeId} {v : Value} {l : List α} {w w' : World} (hf : Flat R) (h : OwnAt R k w B e v l) (hs : SameBut T w w') (hne : e ≠ T) : OwnAt R k w' B e v l := by
  obtain ⟨css, h1, h2, h3, h4⟩ := h
  refine ⟨css, h1, h2, ⟨h3.1, ?_⟩, fun j cs y hcs hy => hf _ _ _ _ (h4 j cs y hcs hy)⟩
  rcases h3.2 with h5 | ⟨q, cap, cur, rfl, hB, hh, hr⟩
  · exact .inl h5
  · exact .inr ⟨q, cap, cur, rfl, hB, hs q cur e _ hh hne, hr⟩
/-- granted more -/
def moreG (x : GGrants) (r : GRole) (b : GBind) : GGrants := ⟨x.roles ++ [r], x.binds ++ [b]⟩
theorem held_more (x : GGrants) (r : GRole) (b : GBind) (u : GUser) (s : ByteArray) : ∀ q ∈ heldL x u s, q ∈ heldL (moreG x r b) u s := fun q hq => by
  unfold heldL at hq ⊢
  obtain ⟨c, hc, hq⟩ := List.mem_flatMap.1 hq
  refine List.mem_flatMap.2 ⟨c, List.mem_append_left _ hc, ?_⟩
  unfold bindRules at hq ⊢
  split at hq
  · rename_i h1
    rw [if_pos h1]
    obtain ⟨p, hp, hq⟩ := List.mem_flatMap.1 hq
    exact List.mem_flatMap.2 ⟨p, List.mem_append_left _ hp, hq⟩
  · cases hq
theorem may_more {x : GGrants} {r : GRole} {b : GBind} {u : GUser} {a : GAsk} (hf : mayE (moreG x r b) u a = 0) (h : mayP x u a = true) : mayP (moreG x r b) u a = true := by
  unfold mayP at h ⊢
  rw [Bool.and_eq_true] at h
  rw [decide_eq_true hf, Bool.true_and]
  have h2 := h.2
  unfold allowsL at h2 ⊢
  rw [List.any_eq_true] at h2 ⊢
  obtain ⟨q, hq, ha⟩ := h2
  exact ⟨q, held_more x r b u a.space q hq, ha⟩
theorem moreG_B (x : GGrants) (r : GRole) (b : GBind) : grantsB (moreG x r b) = grantsB x + roleB r + bindB b := by
  unfold grantsB moreG
  simp only [List.map_append, List.map_cons, List.map_nil, List.sum_append, List.sum_cons, List.sum_nil]
  omega
end Go.Proofs.Ytkkfnihdnclgiaa
