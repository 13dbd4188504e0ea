/- The walks of audit.half, audit.rootOf and audit.Root. -/
import Derived.Test.YteadfpbkhledlaaChainWalk
namespace Go.Proofs.Yteadfpbkhledlaa
open Go.RowKit

def halfOf (n : Nat) : Nat := 2 ^ Nat.log2 (n - 1)
theorem halfOf_pos (n : Nat) : 1 ≤ halfOf n := Nat.one_le_two_pow
theorem halfOf_lt {n : Nat} (h : 2 ≤ n) : halfOf n < n := by
  have : 2 ^ Nat.log2 (n - 1) ≤ n - 1 := (Nat.le_log2 (by omega)).1 (Nat.le_refl _)
  unfold halfOf
  omega
theorem halfOf_two {n : Nat} (h : 2 ≤ n) : n ≤ 2 * halfOf n := by
  have : ¬ 2 ^ (Nat.log2 (n - 1) + 1) ≤ n - 1 := fun h1 => by
    have := (Nat.le_log2 (by omega)).2 h1
    omega
  unfold halfOf
  rw [Nat.pow_succ] at this
  omega
theorem half_test (n j : Nat) : 2 * 2 ^ j < n ↔ j + 1 ≤ Nat.log2 (n - 1) ∧ n - 1 ≠ 0 := by
  have hp : 1 ≤ 2 ^ j := Nat.one_le_two_pow
  have h2 : 2 ^ (j + 1) = 2 * 2 ^ j := by rw [Nat.pow_succ]; omega
  constructor
  · intro h
    exact ⟨(Nat.le_log2 (by omega)).2 (by omega), by omega⟩
  · intro ⟨h, h0⟩
    have := (Nat.le_log2 h0).1 h
    omega

theorem half_any (n : Nat) (w : World) (hn : n ≤ 1073741824) : Calls Try.prog 55 #[.int .i64 (n : Int)] w fun e w' => e = .returned (.int .i64 (halfOf n : Nat)) ∧ w = w' := by
  go_enter Try.func55, Try.ntmps55
  go_wp2_with fail
  go_loopg [3] (Nat.log2 (n - 1)) (fun m v wr => ∃ j : Nat, j + m = Nat.log2 (n - 1) ∧ v = .int .i64 ((2 ^ j : Nat) : Int) ∧ wr = w)
  case atStart => exact ⟨0, by omega, rfl, rfl⟩
  case round =>
    obtain ⟨j, hj, rfl, rfl⟩ := hrel
    obtain ⟨K, HK⟩ : ∃ K : Nat, Hid (2 ^ j = K) := ⟨_, Lib.hid rfl⟩
    rw [HK.out]
    have ht := half_test n j
    rw [HK.out] at ht
    by_cases h : 2 * K < n
    · have hj2 := ht.1 h
      have q : 2 * (K : Int) < (n : Int) := by omega
      have q2 : IntKind.i64.wrap (2 * (K : Int)) = 2 * (K : Int) := IntWalk.i64_in _ (by omega)
      have q3 : IntKind.i64.wrap ((K : Int) * 2) = (K : Int) * 2 := IntWalk.i64_in _ (by omega)
      clear ht
      go_wp2_with fail
      go_roundg (gk - 1)
      case measure => omega
      case rel => exact ⟨j + 1, by omega, by rw [Nat.pow_succ, HK.out]; simp, rfl⟩
    · have hfin : halfOf n = K := by
        unfold halfOf
        rw [← HK.out]
        congr 1
        by_cases h0 : n - 1 = 0
        · rw [h0] at hj ⊢
          have : Nat.log2 0 = 0 := by decide
          omega
        · have : ¬ (j + 1 ≤ Nat.log2 (n - 1) ∧ n - 1 ≠ 0) := fun h1 => h (ht.2 h1)
          omega
      have Hfin := Lib.hid hfin
      have hKb : K ≤ 1073741824 := by
        by_cases h2 : 2 ≤ n
        · have := halfOf_lt h2; omega
        · have h3 : Nat.log2 (n - 1) = 0 := by rw [show n - 1 = 0 by omega]; decide
          have : halfOf n = 1 := by unfold halfOf; rw [h3]
          omega
      have q : ¬ 2 * (K : Int) < (n : Int) := by omega
      have q2 : IntKind.i64.wrap (2 * (K : Int)) = 2 * (K : Int) := IntWalk.i64_in _ (by omega)
      clear ht hfin
      go_wp2_with fail
      go_ret
      exact ⟨congrArg (fun x : Nat => Ending.returned (Value.int .i64 (x : Int))) Hfin.out.symm, rfl⟩

/-- the root of texts -/
def rootF : Nat → List (List UInt8) → List UInt8
  | 0, _ => []
  | f + 1, l => match l with
    | [] => sumOf []
    | [x] => sumOf (0 :: x)
    | l => sumOf (1 :: (rootF f (l.take (halfOf l.length)) ++ rootF f (l.drop (halfOf l.length))))
theorem rootF_more : ∀ (f g : Nat) (l : List (List UInt8)), l.length < f → l.length < g → rootF f l = rootF g l
  | 0, _, _, h, _ => by omega
  | _, 0, _, _, h => by omega
  | f + 1, g + 1, [], _, _ => rfl
  | f + 1, g + 1, [x], _, _ => rfl
  | f + 1, g + 1, x :: y :: r, h1, h2 => by
    have h3 := halfOf_lt (n := (x :: y :: r).length) (by simp)
    have h4 := halfOf_pos (x :: y :: r).length
    show sumOf (1 :: (rootF f ((x :: y :: r).take _) ++ rootF f ((x :: y :: r).drop _))) = sumOf (1 :: (rootF g ((x :: y :: r).take _) ++ rootF g ((x :: y :: r).drop _)))
    rw [rootF_more f g ((x :: y :: r).take _) (by rw [List.length_take]; omega) (by rw [List.length_take]; omega), rootF_more f g ((x :: y :: r).drop _) (by rw [List.length_drop]; omega) (by rw [List.length_drop]; omega)]
def rootP (l : List (List UInt8)) : List UInt8 := rootF (l.length + 1) l
theorem rootP_nil : rootP [] = sumOf [] := rfl
theorem rootP_one (x : List UInt8) : rootP [x] = sumOf (0 :: x) := rfl
theorem rootP_more {l : List (List UInt8)} (h : 2 ≤ l.length) : rootP l = sumOf (1 :: (rootP (l.take (halfOf l.length)) ++ rootP (l.drop (halfOf l.length)))) := by
  match l, h with
  | x :: y :: r, _ =>
    have h3 := halfOf_lt (n := (x :: y :: r).length) (by simp)
    have h4 := halfOf_pos (x :: y :: r).length
    show sumOf (1 :: (rootF (x :: y :: r).length ((x :: y :: r).take _) ++ rootF (x :: y :: r).length ((x :: y :: r).drop _))) = _
    unfold rootP
    rw [rootF_more (x :: y :: r).length _ ((x :: y :: r).take _) (by rw [List.length_take]; omega) (Nat.lt_succ_self _), rootF_more (x :: y :: r).length _ ((x :: y :: r).drop _) (by rw [List.length_drop]; omega) (Nat.lt_succ_self _)]
theorem rootP_length : ∀ (l : List (List UInt8)), (rootP l).length = 32
  | [] => sumOf_length _
  | [_] => sumOf_length _
  | x :: y :: r => by rw [rootP_more (by simp)]; exact sumOf_length _
theorem bytesOf_length (l : List ByteArray) : (bytesOf l).length = l.length := by simp [bytesOf]
theorem bytesOf_take (l : List ByteArray) (k : Nat) : bytesOf (l.take k) = (bytesOf l).take k := by simp [bytesOf, List.map_take]
theorem bytesOf_drop (l : List ByteArray) (k : Nat) : bytesOf (l.drop k) = (bytesOf l).drop k := by simp [bytesOf, List.map_drop]

set_option maxRecDepth 100000 in
set_option maxHeartbeats 800000 in
theorem rootOf_any : ∀ (n : Nat) (v : Value) (l : List ByteArray) (w : World), l.length ≤ n → StrAt w v l → (∀ x ∈ l, x.size ≤ 1048576) → l.length ≤ 1048576 →
    Calls Try.prog 54 #[v] w fun e w' => e = .returned (.string ⟨(rootP (bytesOf l)).toArray⟩) ∧ Below w.heap.size w w' := by
  intro n
  induction n with
  | zero =>
    intro v l w hn hl _ _
    have : l = [] := List.eq_nil_of_length_eq_zero (by omega)
    subst this
    obtain ⟨ao, c, rfl, _, _⟩ := hl.len
    clear hl
    go_enter Try.func54, Try.ntmps54
    go_wp2_with fail
    refine (sum_any _ _ (by simp [ByteArray.size])).mono ?_
    rintro e w1 ⟨rfl, hb1⟩
    rw [show sumOf (ByteArray.mk #[]).data.toList = rootP (bytesOf []) from rfl]
    go_wp2_with fail
    go_ret
    exact ⟨rfl, hb1⟩
  | succ n ih =>
    intro v l w hn hl hx hll
    match l, hn, hl, hx, hll with
    | [], _, hl, _, _ =>
      obtain ⟨ao, c, rfl, _, _⟩ := hl.len
      clear hl ih
      go_enter Try.func54, Try.ntmps54
      go_wp2_with fail
      refine (sum_any _ _ (by simp [ByteArray.size])).mono ?_
      rintro e w1 ⟨rfl, hb1⟩
      rw [show sumOf (ByteArray.mk #[]).data.toList = rootP (bytesOf []) from rfl]
      go_wp2_with fail
      go_ret
      exact ⟨rfl, hb1⟩
    | [x], _, hl, hx, _ =>
      obtain ⟨b, o, c, rfl, hc1, _, _, hc⟩ := hl.form (by simp)
      have e0 : w.cell? ⟨b, o, none⟩ = some (.string x) := hc 0 x rfl
      have hxs : x.size ≤ 1048576 := hx x (by simp)
      have z1 : ¬ 9223372036854775807 < 1 + x.size := by omega
      clear hl ih hc hx
      go_enter Try.func54, Try.ntmps54
      go_wp2_with fail
      refine (sum_any _ _ (by rw [ByteArray.size_append]; show 1 + x.size ≤ _; omega)).mono ?_
      rintro e w1 ⟨rfl, hb1⟩
      go_wp2_with fail
      go_ret
      exact ⟨congrArg (fun r : List UInt8 => Ending.returned (Value.string ⟨r.toArray⟩)) (by simp [bytesOf, rootP_one]), hb1⟩
    | y :: z :: r, hn, hl, hx, hll =>
      obtain ⟨l, Hle⟩ : ∃ l, Hid (y :: z :: r = l) := ⟨_, Lib.hid rfl⟩
      rw [Hle.out] at hn hl hx hll ⊢
      have h2 : 2 ≤ l.length := by rw [← Hle.out]; simp
      clear Hle
      have k1 := halfOf_pos l.length
      have k2 := halfOf_lt h2
      have hroot := rootP_more (l := bytesOf l) (by rw [bytesOf_length]; exact h2)
      rw [bytesOf_length, ← bytesOf_take, ← bytesOf_drop] at hroot
      have Hroot := Lib.hid hroot
      clear hroot
      obtain ⟨k, Hk⟩ : ∃ k, Hid (halfOf l.length = k) := ⟨_, Lib.hid rfl⟩
      rw [Hk.out] at k1 k2 Hroot
      obtain ⟨b, o, c, rfl, hc1, hc2, _, _⟩ := hl.form (by omega)
      have hcutA : StrAt w (.slice (some ⟨b, o, none⟩) k c) (l.take k) := by simpa using hl.cut rfl (i := 0) (j := k) (by omega) (by omega)
      have hcutB : StrAt w (.slice (some ⟨b, o + k, none⟩) (l.length - k) (c - k)) (l.drop k) := by simpa using hl.cut rfl (i := k) (j := l.length) (by omega) (by omega)
      have HcA := Lib.hid hcutA
      have HcB := Lib.hid hcutB
      have Hx := Lib.hid hx
      have Hih := Lib.hid ih
      clear hcutA hcutB hx ih hl
      have q1 : ((l.length : Int) == 0) = false := by rw [beq_eq_false_iff_ne]; omega
      have q2 : ((l.length : Int) == 1) = false := by rw [beq_eq_false_iff_ne]; omega
      go_enter Try.func54, Try.ntmps54
      go_wp2_with fail
      refine (half_any l.length w (by omega)).mono ?_
      rintro e w1 ⟨rfl, rfl⟩
      rw [Hk.out]
      go_wp2_with fail
      have q3 : (0 : Int) ≤ (k : Int) := by omega
      have q4 : (k : Int) ≤ (l.length : Int) := by omega
      have q5 : (k : Int) ≤ (c : Int) := by omega
      have q6 : (l.length : Int) ≤ (c : Int) := by omega
      have q7 : ¬ c = k := by omega
      have q8 : ¬ c - k = 0 := by omega
      refine wp_region_hold 11 (fun w' => Below w.heap.size w w') (by kernel_rfl) (by kernel_rfl) ?_ ?_
      · exact (Below.refl _ _).drew
      simp only [List.take_succ_cons, List.take_zero, List.drop_succ_cons, List.drop_zero]
      (first | (refine wpHold_pure (v := ?_) (by rfl) (fun w => ?_) ?_; rotate_left; focus (first | (go_simp; done) | (go_simp; with_reducible rfl))) | (refine wpHold_skip ?_ ?_; focus (go_simp; done)) | (refine wpHold_pure' (v := ?_) ?_ (fun w => ?_) ?_; rotate_left; focus (go_simp; done); focus (first | (go_simp; done) | (go_simp; with_reducible rfl)))); try simp only [Act.put, List.setIfInBounds_toArray, List.set_cons_zero, List.set_cons_succ]
      (first | (refine wpHold_pure (v := ?_) (by rfl) (fun w => ?_) ?_; rotate_left; focus (first | (go_simp; done) | (go_simp; with_reducible rfl))) | (refine wpHold_skip ?_ ?_; focus (go_simp; done)) | (refine wpHold_pure' (v := ?_) ?_ (fun w => ?_) ?_; rotate_left; focus (go_simp; done); focus (first | (go_simp; done) | (go_simp; with_reducible rfl)))); try simp only [Act.put, List.setIfInBounds_toArray, List.set_cons_zero, List.set_cons_succ]
      (first | (refine wpHold_pure (v := ?_) (by rfl) (fun w => ?_) ?_; rotate_left; focus (first | (go_simp; done) | (go_simp; with_reducible rfl))) | (refine wpHold_skip ?_ ?_; focus (go_simp; done)) | (refine wpHold_pure' (v := ?_) ?_ (fun w => ?_) ?_; rotate_left; focus (go_simp; done); focus (first | (go_simp; done) | (go_simp; with_reducible rfl)))); try simp only [Act.put, List.setIfInBounds_toArray, List.set_cons_zero, List.set_cons_succ]
      refine wpHold_call (v := .string ⟨(rootP (bytesOf (l.take k))).toArray⟩) (f := 54) (args := #[.slice (some ⟨b, o, none⟩) k c]) (by rfl) (fun w => ?_) (fun w' hI => ?_) ?_
      · go_simp
        done
      · refine (Hih.out _ _ w' (by rw [List.length_take]; omega) (HcA.out.below hI) (fun x hx => Hx.out x (List.mem_of_mem_take hx)) (by rw [List.length_take]; omega)).mono ?_
        rintro e w2 ⟨rfl, hb2⟩
        exact ⟨rfl, hI.trans (hb2.mono hI.size)⟩
      try simp only [Act.put, List.setIfInBounds_toArray, List.set_cons_zero, List.set_cons_succ]
      obtain ⟨RA, HRA⟩ : ∃ r : List UInt8, Hid (rootP (bytesOf (l.take k)) = r) := ⟨_, Lib.hid rfl⟩
      obtain ⟨RB, HRB⟩ : ∃ r : List UInt8, Hid (rootP (bytesOf (l.drop k)) = r) := ⟨_, Lib.hid rfl⟩
      have hRA : RA.length = 32 := by rw [← HRA.out, rootP_length]
      have hRB : RB.length = 32 := by rw [← HRB.out, rootP_length]
      rw [HRA.out]
      (first | (refine wpHold_pure (v := ?_) (by rfl) (fun w => ?_) ?_; rotate_left; focus (first | (go_simp; done) | (go_simp; with_reducible rfl))) | (refine wpHold_skip ?_ ?_; focus (go_simp; done)) | (refine wpHold_pure' (v := ?_) ?_ (fun w => ?_) ?_; rotate_left; focus (go_simp; done); focus (first | (go_simp; done) | (go_simp; with_reducible rfl)))); try simp only [Act.put, List.setIfInBounds_toArray, List.set_cons_zero, List.set_cons_succ]
      (first | (refine wpHold_pure (v := ?_) (by rfl) (fun w => ?_) ?_; rotate_left; focus (first | (go_simp; done) | (go_simp; with_reducible rfl))) | (refine wpHold_skip ?_ ?_; focus (go_simp; done)) | (refine wpHold_pure' (v := ?_) ?_ (fun w => ?_) ?_; rotate_left; focus (go_simp; done); focus (first | (go_simp; done) | (go_simp; with_reducible rfl)))); try simp only [Act.put, List.setIfInBounds_toArray, List.set_cons_zero, List.set_cons_succ]
      (first | (refine wpHold_pure (v := ?_) (by rfl) (fun w => ?_) ?_; rotate_left; focus (first | (go_simp; done) | (go_simp; with_reducible rfl))) | (refine wpHold_skip ?_ ?_; focus (go_simp; done)) | (refine wpHold_pure' (v := ?_) ?_ (fun w => ?_) ?_; rotate_left; focus (go_simp; done); focus (first | (go_simp; done) | (go_simp; with_reducible rfl)))); try simp only [Act.put, List.setIfInBounds_toArray, List.set_cons_zero, List.set_cons_succ]
      (first | (refine wpHold_pure (v := ?_) (by rfl) (fun w => ?_) ?_; rotate_left; focus (first | (go_simp; done) | (go_simp; with_reducible rfl))) | (refine wpHold_skip ?_ ?_; focus (go_simp; done)) | (refine wpHold_pure' (v := ?_) ?_ (fun w => ?_) ?_; rotate_left; focus (go_simp; done); focus (first | (go_simp; done) | (go_simp; with_reducible rfl)))); try simp only [Act.put, List.setIfInBounds_toArray, List.set_cons_zero, List.set_cons_succ]
      refine wpHold_call (v := .string ⟨RB.toArray⟩) (f := 54) (args := #[.slice (some ⟨b, o + k, none⟩) (l.length - k) (c - k)]) (by rfl) (fun w => ?_) (fun w' hI => ?_) ?_
      · go_simp
        done
      · have hlen : (l.drop k).length = l.length - k := List.length_drop
        refine (Hih.out _ _ w' (by rw [hlen]; omega) (HcB.out.below hI) (fun x hx => Hx.out x (List.mem_of_mem_drop hx)) (by rw [hlen]; omega)).mono ?_
        rintro e w2 ⟨rfl, hb2⟩
        rw [HRB.out]
        exact ⟨rfl, hI.trans (hb2.mono hI.size)⟩
      try simp only [Act.put, List.setIfInBounds_toArray, List.set_cons_zero, List.set_cons_succ]
      (first | (refine wpHold_pure (v := ?_) (by rfl) (fun w => ?_) ?_; rotate_left; focus (first | (go_simp; done) | (go_simp; with_reducible rfl))) | (refine wpHold_skip ?_ ?_; focus (go_simp; done)) | (refine wpHold_pure' (v := ?_) ?_ (fun w => ?_) ?_; rotate_left; focus (go_simp; done); focus (first | (go_simp; done) | (go_simp; with_reducible rfl)))); try simp only [Act.put, List.setIfInBounds_toArray, List.set_cons_zero, List.set_cons_succ]
      have dS : (({ data := #[1] } : ByteArray) ++ { data := RA.toArray } ++ { data := RB.toArray }).data.toList = 1 :: (RA ++ RB) := by simp
      have sS : (({ data := #[1] } : ByteArray) ++ { data := RA.toArray } ++ { data := RB.toArray }).size ≤ 1099510579200 := by
        rw [ByteArray.size_append, ByteArray.size_append, size_mk RA, size_mk RB, hRA, hRB]; show 1 + 32 + 32 ≤ _; omega
      refine wpHold_call (v := .string ⟨(rootP (bytesOf l)).toArray⟩) (f := 16) (args := #[.string (({ data := #[1] } : ByteArray) ++ { data := RA.toArray } ++ { data := RB.toArray })]) (by rfl) (fun w => ?_) (fun w' hI => ?_) ?_
      · go_simp
        done
      · refine (sum_any _ w' sS).mono ?_
        rintro e w2 ⟨rfl, hb2⟩
        rw [dS]
        exact ⟨congrArg (fun r : List UInt8 => Ending.returned (Value.string ⟨r.toArray⟩)) (by rw [Hroot.out, HRA.out, HRB.out]), hI.trans (hb2.mono hI.size)⟩
      try simp only [Act.put, List.setIfInBounds_toArray, List.set_cons_zero, List.set_cons_succ]
      clear dS sS
      refine wpHold_nil ?_
      intro w' hb
      go_wp2_with fail
      go_ret
      exact ⟨rfl, hb⟩

set_option maxRecDepth 100000 in
theorem root_any (v : Value) (l : List ByteArray) (w : World) (hl : StrAt w v l) (hx : ∀ x ∈ l, x.size ≤ 1048576) (hll : l.length ≤ 200) :
    Calls Try.prog 25 #[v] w fun e w' => e = .returned (.tuple #[.string ⟨(HexP.hexl (rootP (bytesOf l))).toArray⟩, .int .i64 0]) ∧ Below w.heap.size w w' := by
  obtain ⟨ao, c, rfl, _, _⟩ := hl.len
  have Hl := Lib.hid hl
  have Hx := Lib.hid hx
  clear hl hx
  have q1 : ¬ (200 : Int) < (l.length : Int) := by omega
  go_enter Try.func25, Try.ntmps25
  go_wp2_with fail
  refine (rootOf_any l.length _ l w (Nat.le_refl _) Hl.out Hx.out (by omega)).mono ?_
  rintro e w1 ⟨rfl, hb1⟩
  go_wp2_with fail
  refine (hex_any _ _ (by rw [size_mk, rootP_length]; omega)).mono ?_
  rintro e w2 ⟨rfl, hb2⟩
  go_wp2_with fail
  go_ret2
  exact ⟨rfl, below_then hb1 hb2⟩
theorem root_big (v : Value) (l : List ByteArray) (w : World) (hl : StrAt w v l) (hll : 200 < l.length) :
    Calls Try.prog 25 #[v] w fun e w' => e = .returned (.tuple #[.string ⟨#[]⟩, .int .i64 2]) ∧ w = w' := by
  obtain ⟨ao, c, rfl, _, _⟩ := hl.len
  have Hl := Lib.hid hl
  clear hl
  have q1 : (200 : Int) < (l.length : Int) := by omega
  go_enter Try.func25, Try.ntmps25
  go_wp2_with fail
  go_ret2
  exact ⟨rfl, rfl⟩
end Go.Proofs.Yteadfpbkhledlaa
