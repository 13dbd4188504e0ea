/- PtrBack: the plain law. -/
import Derived.Test.YtmfcddbeglfdcaaDoorPtrSplit
namespace Go.Proofs.YtmfcddbeglfdcaaDoor
open Go Go.Lib

/-- the steps of a pointer (behind its first byte) -/
def stepsL (q : List UInt8) : List (List UInt8) := (splitL 47 q).map unescS
def stepsP (p : List UInt8) : Int × List (List UInt8) := match p with
  | [] => (0, [])
  | c :: q => if c ≠ 47 then (16, []) else if (splitL 47 q).all okEsc = true then (if 10 < (splitL 47 q).length then (2, []) else (0, stepsL q)) else (16, [])
def joinK (k : List (List UInt8)) : List UInt8 := k.flatMap fun s => 47 :: escS s
theorem joinK_esc (k : List (List UInt8)) : joinK k = (k.map escS).flatMap fun s => 47 :: s := by
  unfold joinK
  rw [List.flatMap_map]
/-- what was joined is told as steps -/
theorem steps_join (k : List (List UInt8)) (h : k.length ≤ 10) : stepsP (joinK k) = (0, k) := by
  cases k with
  | nil => rfl
  | cons x r =>
    rw [joinK_esc, List.map_cons, List.flatMap_cons, List.cons_append]
    have h1 : splitL 47 (escS x ++ (r.map escS).flatMap fun s => 47 :: s) = escS x :: r.map escS := splitL_back 47 _ _ fun q hq => by
      rw [← List.map_cons] at hq
      obtain ⟨y, _, rfl⟩ := List.mem_map.1 hq
      exact escS_no y
    have h2 : (escS x :: r.map escS).all okEsc = true := by
      rw [← List.map_cons, List.all_eq_true]
      intro q hq
      obtain ⟨y, _, rfl⟩ := List.mem_map.1 hq
      exact escS_ok y
    have h3 : ∀ m : List (List UInt8), (m.map escS).map unescS = m := fun m => by
      rw [List.map_map]
      conv => rhs; rw [← List.map_id m]
      congr 1
      funext y
      exact unesc_esc y
    unfold stepsP
    simp only
    rw [if_neg (by simp), h1, if_pos h2, if_neg (by simp at h ⊢; omega)]
    unfold stepsL
    rw [h1, ← List.map_cons, h3]
/-- what was told as steps is joined again -/
theorem join_steps {p : List UInt8} {k : List (List UInt8)} (h : stepsP p = (0, k)) : joinK k = p ∧ k.length ≤ 10 := by
  unfold stepsP at h
  cases p with
  | nil => cases h; exact ⟨rfl, by simp⟩
  | cons c q =>
    simp only at h
    by_cases h1 : c = 47
    · rw [if_neg (by simpa using h1)] at h
      by_cases h2 : (splitL 47 q).all okEsc = true
      · rw [if_pos h2] at h
        by_cases h3 : 10 < (splitL 47 q).length
        · rw [if_pos h3] at h; cases h
        · rw [if_neg h3] at h
          cases h
          refine ⟨?_, by unfold stepsL; simp; omega⟩
          unfold joinK stepsL
          rw [List.flatMap_map, h1, ← splitL_join 47 q]
          rw [List.all_eq_true] at h2
          have : ∀ m : List (List UInt8), (∀ s ∈ m, s ∈ splitL 47 q) → m.flatMap (fun s => 47 :: escS (unescS s)) = m.flatMap fun s => 47 :: s := fun m => by
            induction m with
            | nil => intro _; rfl
            | cons x r ih =>
              intro hm
              have hx := hm x (List.mem_cons_self ..)
              rw [List.flatMap_cons, List.flatMap_cons, ih fun s hs => hm s (List.mem_cons_of_mem _ hs), esc_unesc (h2 x hx) (splitL_no 47 q x hx)]
          exact this _ fun _ hs => hs
      · rw [if_neg h2] at h; cases h
    · rw [if_pos h1] at h; cases h
theorem stepsP_code (p : List UInt8) : (stepsP p).1 = 0 ∨ (stepsP p).1 ≠ 0 ∧ ((stepsP p).1 = 2 ∨ (stepsP p).1 = 16) := by
  unfold stepsP
  cases p with
  | nil => exact .inl rfl
  | cons c q =>
    simp only
    split
    · exact .inr ⟨by decide, .inr rfl⟩
    · split
      · split
        · exact .inr ⟨by decide, .inl rfl⟩
        · exact .inl rfl
      · exact .inr ⟨by decide, .inr rfl⟩
theorem rep2_len {a b : UInt8} {new : List UInt8} (h : new.length ≤ 2) : ∀ (n : Nat) (l : List UInt8), l.length ≤ n → (rep2 a b new l).length ≤ l.length
  | 0, l, hl => by
    obtain rfl : l = [] := List.eq_nil_of_length_eq_zero (by omega)
    simp [rep2]
  | n + 1, l, hl => by
    match l, hl with
    | [], _ => simp [rep2]
    | [x], _ => simp [rep2]
    | x :: y :: r, hl =>
      rw [rep2]
      split
      · have := rep2_len (a := a) (b := b) h n r (by simp at hl; omega)
        rw [List.length_append]; simp only [List.length_cons]; omega
      · have := rep2_len (a := a) (b := b) h n (y :: r) (by simp at hl ⊢; omega)
        simp only [List.length_cons] at this ⊢; omega
theorem unesc_len (l : List UInt8) : (unescS l).length ≤ l.length := by
  rw [unescS_eq]
  exact Nat.le_trans (rep2_len (by decide) _ _ (Nat.le_refl _)) (rep2_len (by decide) _ _ (Nat.le_refl _))
/-- what is told as steps is no longer than the pointer -/
theorem steps_total {p : List UInt8} {k : List (List UInt8)} (h : stepsP p = (0, k)) : (k.map fun s => s.length + 1).sum ≤ p.length := by
  have h1 := (join_steps h).1
  have h2 : ∀ m : List (List UInt8), (m.map fun s => (unescS (escS s)).length + 1).sum ≤ (joinK m).length := fun m => by
    induction m with
    | nil => simp
    | cons x r ih =>
      have := unesc_len (escS x)
      unfold joinK at ih ⊢
      rw [List.map_cons, List.sum_cons, List.flatMap_cons, List.length_append, List.length_cons]
      omega
  have h3 := h2 k
  simp only [unesc_esc] at h3
  rwa [h1] at h3
end Go.Proofs.YtmfcddbeglfdcaaDoor
