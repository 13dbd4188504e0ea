/- The walk of the law AuditJoins. -/
import Derived.Test.YteadfpbkhledlaaChainWalk
import Derived.Test.YteadfpbkhledlaaOpen
namespace Go.Proofs.Yteadfpbkhledlaa
open Go.RowKit

theorem chainOf_append (r : List UInt8) (l m : List (List UInt8)) : chainOf r (l ++ m) = chainOf (chainOf r l) m := by simp [chainOf]
theorem bytesOf_append (l m : List ByteArray) : bytesOf (l ++ m) = bytesOf l ++ bytesOf m := by simp [bytesOf]
theorem chainOf_length (r : List UInt8) (l : List (List UInt8)) : (chainOf r l).length ≤ max r.length 64 := by
  induction l generalizing r with
  | nil => simp [chainOf]; omega
  | cons x t ih =>
    have h1 : chainOf r (x :: t) = chainOf (HexP.hexl (sumOf (r ++ 10 :: x))) t := rfl
    have h2 := ih (HexP.hexl (sumOf (r ++ 10 :: x)))
    rw [HexP.hexl_length, sumOf_length] at h2
    rw [h1]
    omega

set_option maxRecDepth 100000 in
theorem copy_any (v : Value) (l : List ByteArray) (w : World) (hrow : StrAt w v l) (hn : l.length ≤ 1073741824) :
    Calls Try.prog 24 #[v] w fun e w' => ∃ v', e = .returned v' ∧ w'.ownsRow w.heap.size 9 1 v' l.length (strs l) ∧ Below w.heap.size w w' := by
  obtain ⟨i0, hi0, hz0, hz1, hz2⟩ := info_parts Try.infoStr
  go_enter Try.func24, Try.ntmps24
  go_wp2_with (at_builtin; refine wpList_append_strs _ (by rfl) _ _ _ (by rfl) w.heap.size _ i0 Try.underlying29 hi0 hz0 hz1 hz2 (.slice none 0 0) 0 (by rfl) (l := []) (World.ownsRow_nil w _ _ 1) _ (by rfl) hrow (by omega) (Nat.le_refl _) ?_)
  intro v1 w1 hown hgrow
  have hb1 : Below w.heap.size w w1 := (Below.refl _ _).grown hgrow (Nat.le_refl _) (fun k hk => by simp [Value.ownBlock] at hk)
  clear hgrow
  go_wp2_with fail
  go_ret
  exact ⟨_, rfl, by simpa using hown, hb1⟩

set_option maxRecDepth 100000 in
theorem auditJoins_walk (r : ByteArray) (vl : Value) (l : List ByteArray) (vm : Value) (m : List ByteArray) (w : World) (hl : StrAt w vl l) (hm : StrAt w vm m)
    (hbulk : r.data.toList.length + 1 + (total l + 1 + (total m + 1 + 0)) ≤ 1048576) :
    Calls Try.prog 7 #[.string r, vl, vm] w fun e w' => e = .returned (.bool true) ∧ Below w.heap.size w w' := by
  obtain ⟨i0, hi0, hz0, hz1, hz2⟩ := info_parts Try.infoStr
  have hr : r.size ≤ 1048576 := by simp at hbulk; omega
  have hll : l.length ≤ 1048576 := by have := total_length l; omega
  have hml : m.length ≤ 1048576 := by have := total_length m; omega
  have hlx : ∀ x ∈ l, x.size ≤ 1048576 := fun x hx => by have := total_mem hx; omega
  have hmx : ∀ x ∈ m, x.size ≤ 1048576 := fun x hx => by have := total_mem hx; omega
  clear hbulk
  have Hlx := Lib.hid hlx
  have Hmx := Lib.hid hmx
  have Hl := Lib.hid hl
  have Hm := Lib.hid hm
  clear hlx hmx hl hm
  go_enter Try.func7, Try.ntmps7
  go_wp2_with fail
  refine (copy_any vl l _ Hl.out (by omega)).mono ?_
  rintro e w1 ⟨v1, rfl, hown1, hb1⟩
  go_wp2_with (at_builtin; refine wpList_append_strs _ (by rfl) _ _ _ (by rfl) w.heap.size _ i0 Try.underlying29 hi0 hz0 hz1 hz2 v1 l.length (by rfl) hown1 _ (by rfl) (Hm.out.below hb1) (by omega) hb1.size ?_)
  intro v2 w2 hown2 hgrow
  have hb2 : Below w.heap.size w w2 := hb1.grown hgrow hb1.size (fun k hk => (hown1.lt k hk).1)
  have H2 := Lib.hid (StrAt.of_own hown2 (by simp))
  clear hgrow hown1 hb1 hown2
  go_wp2_with fail
  refine (chain_any r v2 (l ++ m) w2 H2.out hr (fun x hx => by rcases List.mem_append.1 hx with h | h; exact Hlx.out x h; exact Hmx.out x h) (by simp; omega)).mono ?_
  rintro e w3 ⟨rfl, hb3⟩
  have hb13 := hb2.trans (hb3.mono hb2.size)
  clear hb2 hb3 H2
  go_wp2_with fail
  refine (chain_any r vl l w3 (Hl.out.below hb13) hr Hlx.out (by omega)).mono ?_
  rintro e w4 ⟨rfl, hb4⟩
  have hb14 := hb13.trans (hb4.mono hb13.size)
  clear hb13 hb4
  have hcl := chainOf_length r.data.toList (bytesOf l)
  have hcl2 : (chainOf r.data.toList (bytesOf l)).length ≤ 1048576 := by simp at hcl; omega
  clear hcl
  go_wp2_with fail
  refine (chain_any ⟨(chainOf r.data.toList (bytesOf l)).toArray⟩ vm m w4 (Hm.out.below hb14) (by rw [size_mk]; exact hcl2) Hmx.out (by omega)).mono ?_
  rintro e w5 ⟨rfl, hb5⟩
  have hb15 := hb14.trans (hb5.mono hb14.size)
  clear hb14 hb5
  rw [show chainOf (ByteArray.mk (chainOf r.data.toList (bytesOf l)).toArray).data.toList (bytesOf m) = chainOf r.data.toList (bytesOf (l ++ m)) from by rw [bytesOf_append, chainOf_append]]
  go_wp2_with fail
  refine (chain_any ⟨#[120]⟩ (.slice none 0 0) [] w5 (StrAt.nil _) (by simp [ByteArray.size]) (by simp) (by simp)).mono ?_
  rintro e w6 ⟨rfl, hb6⟩
  have hb16 := hb15.trans (hb6.mono hb15.size)
  clear hb15 hb6
  rw [show chainOf (ByteArray.mk #[120]).data.toList (bytesOf []) = [120] from rfl]
  go_wp2_with fail
  go_ret
  exact ⟨rfl, hb16⟩
end Go.Proofs.Yteadfpbkhledlaa
