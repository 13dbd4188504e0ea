/- The walk of the law AuditProves. -/
import Derived.Test.YteadfpbkhledlaaVerifyWalk
import Derived.Test.YteadfpbkhledlaaOpen
import Derived.Deep.RegionHeld3
import Derived.Deep.AppendLies
namespace Go.Proofs.Yteadfpbkhledlaa
open Go.RowKit

theorem proof_none (w : World) : Calls Try.prog 26 #[.slice none 0 0, .int .i64 0] w fun e w' => e = .returned (.tuple #[.slice none 0 0, .int .i64 7]) ∧ w = w' := by
  go_enter Try.func26, Try.ntmps26
  go_wp2_with fail
  go_ret2
  exact ⟨rfl, rfl⟩
theorem verify_out (root line : ByteArray) (n : Nat) (v : Value) (w : World) (hn : n ≤ 200) : Calls Try.prog 28 #[.string root, .string line, .int .i64 (n : Int), .int .i64 (n : Int), v] w fun e w' => e = .returned (.bool false) ∧ w = w' := by
  by_cases h : 1 ≤ n
  · have q1 : ¬ (n : Int) < 1 := by omega
    have q2 : ¬ (200 : Int) < (n : Int) := by omega
    have q3 : ¬ (n : Int) < 0 := by omega
    go_enter Try.func28, Try.ntmps28
    go_wp2_with fail
    go_ret
    exact ⟨rfl, rfl⟩
  · have q1 : (n : Int) < 1 := by omega
    go_enter Try.func28, Try.ntmps28
    go_wp2_with fail
    go_ret
    exact ⟨rfl, rfl⟩
def restOf (a b : Int) : Int := if a.tmod b < 0 then a.tmod b + b else a.tmod b
theorem restOf_in {a b : Int} (hb : 0 < b) : 0 ≤ restOf a b ∧ restOf a b < b := by
  have h1 := Int.tmod_lt_of_pos a hb
  have h2 : -b < a.tmod b := by
    have := Int.lt_tmod_of_pos a hb
    omega
  unfold restOf
  split <;> omega
theorem rest_any (a b : Int) (w : World) (hb : 0 < b) (hb2 : b ≤ 1073741824) : Calls Try.prog 27 #[.int .i64 a, .int .i64 b] w fun e w' => e = .returned (.int .i64 (restOf a b)) ∧ w = w' := by
  have h1 := Int.tmod_lt_of_pos a hb
  have h2 : -b < a.tmod b := by
    have := Int.lt_tmod_of_pos a hb
    omega
  have hb0 : (b == 0) = false := by rw [beq_eq_false_iff_ne]; omega
  by_cases h : a.tmod b < 0
  · have hr : restOf a b = a.tmod b + b := by unfold restOf; rw [if_pos h]
    have Hr := Lib.hid hr
    have q1 : IntKind.i64.wrap (a.tmod b) = a.tmod b := IntWalk.i64_in _ (by omega)
    have q2 : IntKind.i64.wrap (a.tmod b + b) = a.tmod b + b := IntWalk.i64_in _ (by omega)
    clear hr
    go_enter Try.func27, Try.ntmps27
    go_wp2_with fail
    go_ret
    exact ⟨congrArg (fun x => Ending.returned (Value.int .i64 x)) Hr.out.symm, rfl⟩
  · have hr : restOf a b = a.tmod b := by unfold restOf; rw [if_neg h]
    have Hr := Lib.hid hr
    have q1 : IntKind.i64.wrap (a.tmod b) = a.tmod b := IntWalk.i64_in _ (by omega)
    clear hr
    go_enter Try.func27, Try.ntmps27
    go_wp2_with fail
    go_ret
    exact ⟨congrArg (fun x => Ending.returned (Value.int .i64 x)) Hr.out.symm, rfl⟩

theorem keep_call {W a c : World} {p : Addr} {x : Value} (k : Below a.heap.size a c) (h : Below W.heap.size W a ∧ a.cell? p = some x) : Below W.heap.size W c ∧ c.cell? p = some x :=
  ⟨h.1.trans (k.mono h.1.size), (k.cell (World.block_lt_of_cell? a _ h.2)).trans h.2⟩
theorem keep_alloc {W a : World} {o : Obj} {p : Addr} {x : Value} (h : Below W.heap.size W a ∧ a.cell? p = some x) : Below W.heap.size W (a.alloc o) ∧ (a.alloc o).cell? p = some x :=
  have hb := (Below.refl a.heap.size a).alloc (Nat.le_refl _) o
  ⟨h.1.alloc h.1.size o, (hb.cell (World.block_lt_of_cell? a _ h.2)).trans h.2⟩
theorem keep_grown {W a c : World} {p : Addr} {x : Value} {r : Option Nat} (h : Below W.heap.size W a ∧ a.cell? p = some x) (hW : W.cell? p = some x) (hg : a.grownBy c r) (hr : ∀ k, r = some k → W.heap.size ≤ k) : Below W.heap.size W c ∧ c.cell? p = some x :=
  have hb := h.1.grown hg h.1.size hr
  ⟨hb, (hb.cell (World.block_lt_of_cell? W _ hW)).trans hW⟩
theorem final_below {w W c : World} {p : Addr} {x : Value} (h : Below w.heap.size w W) (k : Below W.heap.size W c ∧ c.cell? p = some x) : Below w.heap.size w c := h.trans (k.1.mono h.size)
theorem proofB_hex (l : List ByteArray) (a : Nat) : proofB l a = hexB (proofQF (bytesOf l).length (bytesOf l) a) := by
  unfold proofB proofP hexB
  rw [proofF_map, List.map_map]
  rfl

set_option maxRecDepth 100000 in
set_option maxHeartbeats 1600000 in
theorem auditProves_walk (v : Value) (l : List ByteArray) (a : Int) (w : World) (hl : StrAt w v l) (_ha : (Lit.int .i64 a).wf = true) (hbulk : total l + 1 + (1 + 0) ≤ 1048576) :
    Calls Try.prog 8 #[v, .int .i64 a] w fun e w' => e = .returned (.bool true) ∧ Below w.heap.size w w' := by
  obtain ⟨i0, hi0, hz0, hz1, hz2⟩ := info_parts Try.infoStr
  have hll : l.length ≤ 1048576 := by have := total_length l; omega
  have hlx : ∀ x ∈ l, x.size ≤ 1048576 := fun x hx => by have := total_mem hx; omega
  clear hbulk
  have Hlx := Lib.hid hlx
  have Hl := Lib.hid hl
  obtain ⟨ao, c, rfl, _, _⟩ := hl.len
  clear hlx hl
  by_cases hbig : 200 < l.length
  · have q1 : (200 : Int) < (l.length : Int) := by omega
    go_enter Try.func8, Try.ntmps8
    go_wp2_with fail
    refine (root_big _ l _ Hl.out hbig).mono ?_
    rintro e w1 ⟨rfl, rfl⟩
    go_wp2_with fail
    refine (proof_none _).mono ?_
    rintro e w1 ⟨rfl, rfl⟩
    go_wp2_with fail
    go_ret
    exact ⟨rfl, Below.refl _ _⟩
  rcases Nat.eq_zero_or_pos l.length with h0 | h0
  · have : l = [] := List.eq_nil_of_length_eq_zero h0
    subst this
    go_enter Try.func8, Try.ntmps8
    go_wp2_with fail
    refine (root_any _ [] _ Hl.out Hlx.out (by simp)).mono ?_
    rintro e w1 ⟨rfl, hb1⟩
    go_wp2_with fail
    refine (proof_none _).mono ?_
    rintro e w2 ⟨rfl, rfl⟩
    go_wp2_with fail
    go_ret
    exact ⟨rfl, hb1⟩
  obtain ⟨b, o, c', hv, _, _, h3, hc⟩ := Hl.out.form h0
  cases hv
  have hk := restOf_in (a := a) (b := (l.length : Int)) (by omega)
  obtain ⟨k, Hk⟩ : ∃ k : Nat, Hid (restOf a (l.length : Int) = (k : Int)) := ⟨(restOf a (l.length : Int)).toNat, by show _ = _; omega⟩
  rw [Hk.out] at hk
  have hkl : k < l.length := by omega
  obtain ⟨x, hx⟩ : ∃ x, l[k]? = some x := ⟨l[k], by simp [hkl]⟩
  have hxs : x.size ≤ 1048576 := Hlx.out x (List.mem_of_getElem? hx)
  have hbx : (bytesOf l)[k]? = some x.data.toList := by simp [bytesOf, hx]
  have e0 : w.cell? ⟨b, o + k, none⟩ = some (.string x) := hc k x hx
  have E0 := Lib.hid e0
  have q0 : ((l.length : Int) == 0) = false := by rw [beq_eq_false_iff_ne]; omega
  have q1 : (0 : Int) ≤ (k : Int) := by omega
  have q2 : (k : Int) < (l.length : Int) := by omega
  -- the proof
  obtain ⟨qs, HQ⟩ : ∃ qs, Hid (proofQF (bytesOf l).length (bytesOf l) k = qs) := ⟨_, Lib.hid rfl⟩
  have hpb : proofB l k = hexB qs := by rw [proofB_hex, HQ.out]
  have hqs8 : qs.length ≤ 8 := by
    have h5 := proofP_length 8 (bytesOf l) k (by rw [bytesOf_length]; omega)
    rw [← proofB_length, hpb, hexB_length] at h5
    exact h5
  have hq32 : ∀ q ∈ qs, q.length = 32 := by rw [← HQ.out]; exact proofQF_sums _ _ _
  have hlen : (leftL l.length k).length = qs.length := by
    have h5 := proofQF_length (bytesOf l).length (bytesOf l) k
    rw [HQ.out, bytesOf_length] at h5
    exact h5.symm
  have hver : verSum (leftL l.length k).reverse qs (sumOf (0 :: x.data.toList)) = rootP (bytesOf l) := by
    have h5 := ver_root (bytesOf l).length (bytesOf l) k x.data.toList (Nat.le_refl _) hbx
    rw [HQ.out, bytesOf_length] at h5
    exact h5
  have Hpb := Lib.hid hpb
  have Hq32 := Lib.hid hq32
  have Hlen := Lib.hid hlen
  have Hver := Lib.hid hver
  clear hpb hq32 hlen hver hc hx hbx e0
  go_enter Try.func8, Try.ntmps8
  go_wp2_with fail
  refine (root_any _ l _ Hl.out Hlx.out (by omega)).mono ?_
  rintro e w1 ⟨rfl, hb1⟩
  obtain ⟨R, HR⟩ : ∃ R : ByteArray, Hid ((⟨(HexP.hexl (rootP (bytesOf l))).toArray⟩ : ByteArray) = R) := ⟨_, Lib.hid rfl⟩
  rw [HR.out]
  go_wp2_with fail
  refine (proof_none _).mono ?_
  rintro e w2 ⟨rfl, rfl⟩
  go_wp2_with fail
  refine (rest_any a l.length w1 (by omega) (by omega)).mono ?_
  rintro e w2 ⟨rfl, rfl⟩
  rw [Hk.out]
  go_wp2_with fail
  refine (proof_any _ l k w1 (Hl.out.below hb1) Hlx.out (by omega) hkl).mono ?_
  rintro e w2 ⟨vp, rfl, hownp, hb2⟩
  rw [Hpb.out, hexB_length] at hownp
  have hSp := StrAt.of_own hownp (hexB_length qs)
  obtain ⟨pa, pc, hvp, _, _⟩ := hSp.len
  subst hvp
  have hb12 := below_then hb1 hb2
  have e1 : w2.cell? ⟨b, o + k, none⟩ = some (.string x) := (hb12.cell (p := ⟨b, o + k, none⟩) h3).trans E0.out
  have hlq := hexB_length qs
  rw [hlq]
  have q3 : ¬ (8 : Int) < (qs.length : Int) := by omega
  have HSp := Lib.hid hSp
  clear hSp hb1 hb2 hownp hlq
  go_wp2_with fail
  refine (verify_any R x k l.length _ qs w2 (by rw [← hexB_length qs]; exact HSp.out) Hq32.out hkl (by omega) hxs (by omega)).mono ?_
  rintro e w3 ⟨rfl, hb3⟩
  rw [show (decide ((leftL l.length k).length = qs.length) && decide ((⟨(HexP.hexl (verSum (leftL l.length k).reverse qs (sumOf (0 :: x.data.toList)))).toArray⟩ : ByteArray) = R)) = true from by
    rw [Hlen.out, Hver.out, HR.out]; simp]
  have HS3 := Lib.hid (HSp.out.below hb3)
  have e2 : w3.cell? ⟨b, o + k, none⟩ = some (.string x) := (hb3.cell (p := ⟨b, o + k, none⟩) (World.block_lt_of_cell? w2 _ e1)).trans e1
  have hb13 := below_then hb12 hb3
  clear HSp hb3 hb12 e1
  go_wp2_with fail
  have e3 : w3.drew.cell? ⟨b, o + k, none⟩ = some (.string x) := e2
  have hS3 : StrAt w3.drew (.slice pa qs.length pc) (hexB qs) := by rw [← hexB_length qs]; exact HS3.out.drew
  have hb3 : Below w.heap.size w w3.drew := hb13.drew
  obtain ⟨W, HW⟩ : ∃ W : World, W = w3.drew := ⟨_, rfl⟩
  rw [← HW] at e3 hS3 hb3
  have HqR : Hid (hexB (qs ++ [rootP (bytesOf l)]) = hexB qs ++ [R]) := by show _ = _; rw [← HR.out]; simp [hexB, mkB]
  have Hno : Hid ((decide ((leftL l.length k).length = (qs ++ [rootP (bytesOf l)]).length)) = false) := by show _ = _; rw [Hlen.out]; simp
  have Hq33 : Hid (∀ q ∈ qs ++ [rootP (bytesOf l)], q.length = 32) := Lib.hid (fun q hq => by
    rcases List.mem_append.1 hq with h | h
    · exact Hq32.out q h
    · rw [List.mem_singleton.1 h, rootP_length])
  have hBW : Below W.heap.size W w3.drew := by rw [HW]; exact Below.refl _ _
  have HS4 := Lib.hid hS3
  have hWk : World.cell? W ⟨b, o + k, none⟩ = some (.string x) := e3
  have HWk := Lib.hid hWk
  clear hS3 e2 hWk HS3 hb13
  go_region_held3 (fun w' => Below W.heap.size W w' ∧ w'.cell? ⟨b, o + k, none⟩ = some (.string x))
    (first
      | assumption
      | exact ⟨hBW, by rw [← HW]; exact e3⟩
      | exact keep_call (by assumption) (by assumption)
      | exact keep_alloc (by assumption)
      | exact keep_grown (by assumption) HWk.out (by assumption) (by assumption))
    (first
      | (go_at_call 24; refine (copy_any _ (hexB qs) _ (HS4.out.below (by first | exact hBW | exact (‹_ ∧ _›).1)) (by rw [hexB_length]; omega)).mono ?_; rintro e wq ⟨v', rfl, hownq, hbq⟩)
      | (go_at_call 28; with_reducible refine (verify_out R x l.length _ _ (by omega)).mono ?_; rintro e wv ⟨rfl, rfl⟩)
      | (go_at_call 28; refine (verify_any R x k l.length _ (qs ++ [rootP (bytesOf l)]) _ (by rw [HqR.out]; exact StrAt.of_own (l := hexB qs ++ [R]) (by rw [strs_append]; exact hownN) (by simp)) Hq33.out hkl (by omega) hxs (by simp; omega)).mono ?_; rintro e wv ⟨rfl, hbv⟩; rw [Hno.out, Bool.false_and])
      | (refine step_append_lies _ (by rfl) _ _ _ (by rfl) _ 9 i0 _ 1 16 Try.underlying29 hi0 hz0 hz1 hz2 rfl (by omega) _ _ _ (by rfl) (hownq.alloc _) ⟨wq.heap.size, 0, none⟩ 1 1 _ (by rfl) (by rfl) (World.news_of_block (cs := #[_]) (t := 9) (fr := (0, 0)) (heap_alloc_new wq _)) (by simp [Value.oneCell']) (by omega) (by unfold maxLen; rw [hexB_length]; omega) (by rw [hexB_length]; omega) (by rw [World.size_alloc]; exact Nat.le_succ_of_le hbq.size) (wq.heap.size + 1) (by rw [World.size_alloc]) ?_; intro g3 cap3 wN hownN hgrowN _ _; have hrowN : ∀ j, v'.ownBlock = some j → W.heap.size ≤ j := fun j hj => (by have h := (hownq.lt j hj).1; rw [HW]; first | exact h | (show w3.heap.size ≤ j; have h2 : (w3.alloc (.cells #[.string R] 9)).heap.size ≤ j := h; rw [World.size_alloc] at h2; exact Nat.le_of_succ_le h2)))
      | (refine step_append_lies _ (by rfl) _ _ _ (by rfl) _ 9 i0 _ 1 16 Try.underlying29 hi0 hz0 hz1 hz2 rfl (by omega) _ _ _ (by rfl) hownq ⟨w3.heap.size, 0, none⟩ 1 1 _ (by rfl) (by rfl) (World.news_of_block (cs := #[_]) (t := 9) (fr := (0, 0)) ((hbq.block w3.heap.size (by show w3.heap.size < (w3.alloc (.cells #[.string R] 9)).heap.size; rw [World.size_alloc]; exact Nat.lt_succ_self _)).trans (heap_alloc_new w3 _))) (by simp [Value.oneCell']) (by omega) (by unfold maxLen; rw [hexB_length]; omega) (by rw [hexB_length]; omega) hbq.size wq.heap.size rfl ?_; intro g3 cap3 wN hownN hgrowN _ _; have hrowN : ∀ j, v'.ownBlock = some j → W.heap.size ≤ j := fun j hj => (by have h := (hownq.lt j hj).1; rw [HW]; first | exact h | (show w3.heap.size ≤ j; have h2 : (w3.alloc (.cells #[.string R] 9)).heap.size ≤ j := h; rw [World.size_alloc] at h2; exact Nat.le_of_succ_le h2)))
      | fail)
  all_goals go_wp2_with fail
  all_goals go_ret
  all_goals exact ⟨rfl, final_below (p := ⟨b, o + k, none⟩) (x := .string x) hb3 (by assumption)⟩
end Go.Proofs.Yteadfpbkhledlaa
