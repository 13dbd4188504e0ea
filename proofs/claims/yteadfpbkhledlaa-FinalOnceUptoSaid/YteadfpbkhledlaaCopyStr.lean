/- The reference's Copy of texts. -/
import Derived.Test.YteadfpbkhledlaaOpen
import Derived.Test.YteadfpbkhledlaaTabs
namespace Go.Proofs.Yteadfpbkhledlaa
open Go.RowKit

set_option maxRecDepth 100000 in
theorem copy_any (v : Value) (l : List ByteArray) (w : World) (hrow : StrAt w v l) (hn : l.length ≤ 1073741824) :
    Calls Try.prog 24 #[v] w fun e w' => ∃ v', e = .returned v' ∧ w'.ownsRow w.heap.size 9 1 v' l.length (strs l) ∧ Below w.heap.size w w' := by
  obtain ⟨i0, hi0, hz0, hz1, hz2⟩ := info_parts Try.infoStr
  go_enter Try.func24, Try.ntmps24
  go_wp2_with (at_builtin; refine wpList_append_strs _ (by rfl) _ _ _ (by rfl) w.heap.size _ i0 Try.underlying29 hi0 hz0 hz1 hz2 (.slice none 0 0) 0 (by rfl) (l := []) (World.ownsRow_nil w _ _ 1) _ (by rfl) hrow (by omega) (Nat.le_refl _) ?_)
  intro v1 w1 hown hgrow
  have hb1 : Below w.heap.size w w1 := (Below.refl _ _).grown hgrow (Nat.le_refl _) (fun k hk => by simp [Value.ownBlock] at hk)
  clear hgrow
  go_wp2_with fail
  go_ret
  exact ⟨_, rfl, by simpa using hown, hb1⟩
end Go.Proofs.Yteadfpbkhledlaa
