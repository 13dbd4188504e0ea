/- The walk of audit.Verify, and why a proof proves. -/
import Derived.Test.YteadfpbkhledlaaProofWalk
namespace Go.Proofs.Yteadfpbkhledlaa
open Go.RowKit

def leftF : Nat → Nat → Nat → List Bool
  | 0, _, _ => []
  | f + 1, n, a => if 1 < n then decide (a < halfOf n) :: (if a < halfOf n then leftF f (halfOf n) a else leftF f (n - halfOf n) (a - halfOf n)) else []
theorem leftF_more : ∀ (f g n a : Nat), n ≤ f → n ≤ g → leftF f n a = leftF g n a
  | 0, 0, _, _, _, _ => rfl
  | 0, g + 1, n, a, h, _ => by simp [leftF]; omega
  | f + 1, 0, n, a, _, h => by simp [leftF]; omega
  | f + 1, g + 1, n, a, h1, h2 => by
    unfold leftF
    by_cases h : 1 < n
    · have h3 := halfOf_lt (n := n) (by omega)
      have h4 := halfOf_pos n
      rw [if_pos h, if_pos h, leftF_more f g (halfOf n) a (by omega) (by omega), leftF_more f g (n - halfOf n) _ (by omega) (by omega)]
    · rw [if_neg h, if_neg h]
/-- which half a line stands in, the outermost first -/
def leftL (n a : Nat) : List Bool := leftF n n a
theorem leftL_end {n : Nat} (h : ¬ 1 < n) (a : Nat) : leftL n a = [] := by
  unfold leftL
  cases n with
  | zero => rfl
  | succ m => unfold leftF; rw [if_neg h]
theorem leftL_left {n a : Nat} (h : 1 < n) (ha : a < halfOf n) : leftL n a = true :: leftL (halfOf n) a := by
  have h3 := halfOf_lt (n := n) (by omega)
  have h4 := halfOf_pos n
  obtain ⟨m, rfl⟩ : ∃ m, n = m + 1 := ⟨n - 1, by omega⟩
  unfold leftL
  rw [show leftF (m + 1) (m + 1) a = decide (a < halfOf (m + 1)) :: (if a < halfOf (m + 1) then leftF m (halfOf (m + 1)) a else leftF m (m + 1 - halfOf (m + 1)) (a - halfOf (m + 1))) by
    conv => lhs; unfold leftF
    rw [if_pos h]]
  rw [if_pos ha, leftF_more m (halfOf (m + 1)) _ a (by omega) (Nat.le_refl _)]
  simp [ha]
theorem leftL_right {n a : Nat} (h : 1 < n) (ha : ¬ a < halfOf n) : leftL n a = false :: leftL (n - halfOf n) (a - halfOf n) := by
  have h3 := halfOf_lt (n := n) (by omega)
  have h4 := halfOf_pos n
  obtain ⟨m, rfl⟩ : ∃ m, n = m + 1 := ⟨n - 1, by omega⟩
  unfold leftL
  rw [show leftF (m + 1) (m + 1) a = decide (a < halfOf (m + 1)) :: (if a < halfOf (m + 1) then leftF m (halfOf (m + 1)) a else leftF m (m + 1 - halfOf (m + 1)) (a - halfOf (m + 1))) by
    conv => lhs; unfold leftF
    rw [if_pos h]]
  rw [if_neg ha, leftF_more m (m + 1 - halfOf (m + 1)) _ _ (by omega) (Nat.le_refl _)]
  simp [ha]

/-- a proof's sums, not yet in two signs a byte -/
def proofQF : Nat → List (List UInt8) → Nat → List (List UInt8)
  | 0, _, _ => []
  | f + 1, l, a =>
    if 1 < l.length then
      if a < halfOf l.length then proofQF f (l.take (halfOf l.length)) a ++ [rootP (l.drop (halfOf l.length))]
      else proofQF f (l.drop (halfOf l.length)) (a - halfOf l.length) ++ [rootP (l.take (halfOf l.length))]
    else []
theorem proofF_map : ∀ (f : Nat) (l : List (List UInt8)) (a : Nat), proofF f l a = (proofQF f l a).map HexP.hexl
  | 0, _, _ => rfl
  | f + 1, l, a => by
    unfold proofF proofQF
    split
    · split
      · rw [proofF_map f]; simp
      · rw [proofF_map f]; simp
    · rfl
def verStep (s : List UInt8) (x : Bool × List UInt8) : List UInt8 := if x.1 then sumOf (1 :: (s ++ x.2)) else sumOf (1 :: (x.2 ++ s))
def verSum (bs : List Bool) (qs : List (List UInt8)) (s : List UInt8) : List UInt8 := (bs.zip qs).foldl verStep s
theorem proofQF_length : ∀ (f : Nat) (l : List (List UInt8)) (a : Nat), (proofQF f l a).length = (leftF f l.length a).length
  | 0, _, _ => rfl
  | f + 1, l, a => by
    unfold proofQF leftF
    by_cases h : 1 < l.length
    · have h3 := halfOf_lt (n := l.length) (by omega)
      rw [if_pos h, if_pos h]
      by_cases ha : a < halfOf l.length
      · rw [if_pos ha, if_pos ha, List.length_append, proofQF_length f, List.length_take, Nat.min_eq_left (by omega)]
        simp
      · rw [if_neg ha, if_neg ha, List.length_append, proofQF_length f, List.length_drop]
        simp
    · rw [if_neg h, if_neg h]; rfl
theorem proofQF_sums : ∀ (f : Nat) (l : List (List UInt8)) (a : Nat), ∀ q ∈ proofQF f l a, q.length = 32
  | 0, _, _, q, h => by cases h
  | f + 1, l, a, q, h => by
    unfold proofQF at h
    split at h
    · split at h
      · rcases List.mem_append.1 h with h | h
        · exact proofQF_sums f _ _ q h
        · rw [List.mem_singleton.1 h, rootP_length]
      · rcases List.mem_append.1 h with h | h
        · exact proofQF_sums f _ _ q h
        · rw [List.mem_singleton.1 h, rootP_length]
    · cases h
theorem verSum_last {bs : List Bool} {qs : List (List UInt8)} (h : bs.length = qs.length) (b : Bool) (q s : List UInt8) : verSum (bs ++ [b]) (qs ++ [q]) s = verStep (verSum bs qs s) (b, q) := by
  unfold verSum
  rw [List.zip_append h, List.foldl_append]
  rfl
/-- a proof proves -/
theorem ver_root : ∀ (f : Nat) (l : List (List UInt8)) (a : Nat) (x : List UInt8), l.length ≤ f → l[a]? = some x → verSum (leftF f l.length a).reverse (proofQF f l a) (sumOf (0 :: x)) = rootP l
  | 0, l, a, x, h, hx => by
    have : l = [] := List.eq_nil_of_length_eq_zero (by omega)
    subst this
    simp at hx
  | f + 1, l, a, x, h, hx => by
    by_cases h1 : 1 < l.length
    · have h3 := halfOf_lt (n := l.length) (by omega)
      have h4 := halfOf_pos l.length
      have hal : a < l.length := (List.getElem?_eq_some_iff.1 hx).1
      unfold leftF proofQF
      rw [if_pos h1, if_pos h1]
      have hr := rootP_more (l := l) (by omega)
      by_cases ha : a < halfOf l.length
      · have hz : (l.take (halfOf l.length)).length = halfOf l.length := by rw [List.length_take, Nat.min_eq_left (by omega)]
        have ih := ver_root f (l.take (halfOf l.length)) a x (by rw [hz]; omega) (by rw [List.getElem?_take_of_lt ha]; exact hx)
        have hlen := proofQF_length f (l.take (halfOf l.length)) a
        rw [hz] at ih hlen
        rw [if_pos ha, if_pos ha, List.reverse_cons, verSum_last (by rw [List.length_reverse, hlen]), ih, hr]
        simp [verStep, ha]
      · have hz : (l.drop (halfOf l.length)).length = l.length - halfOf l.length := List.length_drop
        have ih := ver_root f (l.drop (halfOf l.length)) (a - halfOf l.length) x (by rw [hz]; omega) (by rw [List.getElem?_drop, show halfOf l.length + (a - halfOf l.length) = a by omega]; exact hx)
        have hlen := proofQF_length f (l.drop (halfOf l.length)) (a - halfOf l.length)
        rw [hz] at ih hlen
        rw [if_neg ha, if_neg ha, List.reverse_cons, verSum_last (by rw [List.length_reverse, hlen]), ih, hr]
        simp [verStep, ha]
    · have hal : a < l.length := (List.getElem?_eq_some_iff.1 hx).1
      unfold leftF proofQF
      rw [if_neg h1, if_neg h1]
      match l, h1, hal, hx with
      | [y], _, hal, hx =>
        have : a = 0 := by simp at hal; omega
        subst this
        simp at hx
        subst hx
        rfl
      | [], _, hal, _ => simp at hal
      | y :: z :: r, h1, _, _ => simp at h1
end Go.Proofs.Yteadfpbkhledlaa
