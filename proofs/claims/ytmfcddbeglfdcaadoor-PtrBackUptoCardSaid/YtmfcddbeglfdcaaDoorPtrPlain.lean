/- ptr: steps are escaped and read back: the plain law. -/
import Derived.Test.YtmfcddbeglfdcaaDoorReplPlain
namespace Go.Proofs.YtmfcddbeglfdcaaDoor
open Go Go.Lib

def escS (l : List UInt8) : List UInt8 := replaceAll (replaceAll l [126] [126, 48]) [47] [126, 49]
def unescS (l : List UInt8) : List UInt8 := replaceAll (replaceAll l [126, 49] [47]) [126, 48] [126]
theorem rep2_ne {a b x : UInt8} {new : List UInt8} (h : x ≠ a) (r : List UInt8) : rep2 a b new (x :: r) = x :: rep2 a b new r := by
  cases r with
  | nil => rfl
  | cons y r => rw [rep2, if_neg (fun e => h e.1)]
def escB (b : UInt8) : List UInt8 := if b = 126 then [126, 48] else if b = 47 then [126, 49] else [b]
theorem escS_eq (l : List UInt8) : escS l = l.flatMap escB := by
  unfold escS
  rw [replaceAll_one (by decide), replaceAll_one (by decide), List.flatMap_assoc]
  congr 1
  funext b
  unfold escB
  by_cases h : b = 126
  · simp [h]
  · by_cases h2 : b = 47 <;> simp [h, h2]
theorem unescS_eq (l : List UInt8) : unescS l = rep2 126 48 [126] (rep2 126 49 [47] l) := by
  unfold unescS
  rw [replaceAll_two (by decide), replaceAll_two (by decide)]
theorem first_pass (l : List UInt8) : rep2 126 49 [47] (l.flatMap escB) = l.flatMap fun b => if b = 126 then [126, 48] else [b] := by
  induction l with
  | nil => rfl
  | cons b l ih =>
    rw [List.flatMap_cons, List.flatMap_cons, ← ih]
    unfold escB
    by_cases h : b = 126
    · subst h
      rw [if_pos rfl, if_pos rfl]
      show rep2 126 49 [47] (126 :: 48 :: _) = _
      rw [rep2, if_neg (by decide), rep2_ne (by decide)]
      rfl
    · rw [if_neg h, if_neg h]
      by_cases h2 : b = 47
      · subst h2
        rw [if_pos rfl]
        simp only [List.cons_append, List.nil_append]
        rw [rep2, if_pos ⟨rfl, rfl⟩]
        rfl
      · rw [if_neg h2]
        exact rep2_ne h _
theorem second_pass (l : List UInt8) : rep2 126 48 [126] (l.flatMap fun b => if b = 126 then [126, 48] else [b]) = l := by
  induction l with
  | nil => rfl
  | cons b l ih =>
    rw [List.flatMap_cons]
    by_cases h : b = 126
    · subst h
      rw [if_pos rfl]
      simp only [List.cons_append, List.nil_append]
      rw [rep2, if_pos ⟨rfl, rfl⟩, ih]
      rfl
    · rw [if_neg h]
      simp only [List.cons_append, List.nil_append]
      rw [rep2_ne h, ih]
/-- what was escaped is read back -/
theorem unesc_esc (l : List UInt8) : unescS (escS l) = l := by rw [unescS_eq, escS_eq, first_pass, second_pass]
/-- behind each tilde stands a 0 or a 1 -/
def okEsc : List UInt8 → Bool
  | [] => true
  | [x] => x != 126
  | x :: y :: r => if x = 126 then (y == 48 || y == 49) && okEsc r else okEsc (y :: r)
def decS : List UInt8 → List UInt8
  | [] => []
  | [x] => [x]
  | x :: y :: r => if x = 126 then (if y = 48 then 126 else 47) :: decS r else x :: decS (y :: r)
theorem okEsc_ne {x : UInt8} (h : x ≠ 126) (r : List UInt8) : okEsc (x :: r) = okEsc r := by
  cases r with
  | nil => simp [okEsc, h]
  | cons y r => rw [okEsc, if_neg h]
theorem decS_ne {x : UInt8} (h : x ≠ 126) (r : List UInt8) : decS (x :: r) = x :: decS r := by
  cases r with
  | nil => rfl
  | cons y r => rw [decS, if_neg h]
theorem okEsc_cases {l : List UInt8} (h : okEsc l = true) : l = [] ∨ (∃ x r, x ≠ 126 ∧ l = x :: r ∧ okEsc r = true) ∨ (∃ y r, (y = 48 ∨ y = 49) ∧ l = 126 :: y :: r ∧ okEsc r = true) := by
  match l, h with
  | [], _ => exact .inl rfl
  | [x], h => exact .inr (.inl ⟨x, [], by simpa [okEsc] using h, rfl, rfl⟩)
  | x :: y :: r, h =>
    rw [okEsc] at h
    by_cases h1 : x = 126
    · rw [if_pos h1, Bool.and_eq_true, Bool.or_eq_true, beq_iff_eq, beq_iff_eq] at h
      exact .inr (.inr ⟨y, r, h.1, by rw [h1], h.2⟩)
    · rw [if_neg h1] at h
      exact .inr (.inl ⟨x, y :: r, h1, rfl, h⟩)
theorem dec_unesc (n : Nat) : ∀ l : List UInt8, l.length ≤ n → okEsc l = true → unescS l = decS l := by
  induction n with
  | zero =>
    intro l hl _
    obtain rfl : l = [] := List.eq_nil_of_length_eq_zero (by omega)
    rw [unescS_eq]; rfl
  | succ n ih =>
    intro l hl h
    rw [unescS_eq]
    rcases okEsc_cases h with rfl | ⟨x, r, hx, rfl, hr⟩ | ⟨y, r, hy, rfl, hr⟩
    · rfl
    · rw [rep2_ne hx, rep2_ne hx, decS_ne hx, ← unescS_eq, ih r (by simp at hl; omega) hr]
    · have h2 := ih r (by simp at hl; omega) hr
      rw [unescS_eq] at h2
      rw [decS, if_pos rfl, ← h2]
      rcases hy with rfl | rfl
      · rw [rep2, if_neg (by decide), rep2_ne (x := 48) (a := 126) (by decide), rep2, if_pos ⟨rfl, rfl⟩]
        rfl
      · rw [rep2, if_pos ⟨rfl, rfl⟩]
        simp only [List.cons_append, List.nil_append]
        rw [rep2_ne (x := 47) (a := 126) (by decide)]
        rfl
theorem esc_dec (n : Nat) : ∀ l : List UInt8, l.length ≤ n → okEsc l = true → (47 : UInt8) ∉ l → escS (decS l) = l := by
  induction n with
  | zero =>
    intro l hl _ _
    obtain rfl : l = [] := List.eq_nil_of_length_eq_zero (by omega)
    rw [escS_eq]; rfl
  | succ n ih =>
    intro l hl h h47
    rw [escS_eq]
    rcases okEsc_cases h with rfl | ⟨x, r, hx, rfl, hr⟩ | ⟨y, r, hy, rfl, hr⟩
    · rfl
    · have h2 := ih r (by simp at hl; omega) hr (fun h => h47 (List.mem_cons_of_mem _ h))
      rw [escS_eq] at h2
      have h3 : x ≠ 47 := fun e => h47 (by rw [e]; exact List.mem_cons_self ..)
      rw [decS_ne hx, List.flatMap_cons, h2]
      unfold escB
      rw [if_neg hx, if_neg h3]
      rfl
    · have h2 := ih r (by simp at hl; omega) hr (fun h => h47 (List.mem_cons_of_mem _ (List.mem_cons_of_mem _ h)))
      rw [escS_eq] at h2
      rw [decS, if_pos rfl, List.flatMap_cons, h2]
      rcases hy with rfl | rfl <;> rfl
/-- what was read is escaped again as it was -/
theorem esc_unesc {l : List UInt8} (h : okEsc l = true) (h47 : (47 : UInt8) ∉ l) : escS (unescS l) = l := by
  rw [dec_unesc _ l (Nat.le_refl _) h, esc_dec _ l (Nat.le_refl _) h h47]
theorem escS_no (l : List UInt8) : (47 : UInt8) ∉ escS l := by
  rw [escS_eq]
  intro h
  obtain ⟨b, _, hb⟩ := List.mem_flatMap.1 h
  unfold escB at hb
  split at hb
  · revert hb; decide
  · split at hb
    · revert hb; decide
    · rename_i h2
      exact h2 (List.mem_singleton.1 hb).symm
theorem escS_ok (l : List UInt8) : okEsc (escS l) = true := by
  rw [escS_eq]
  induction l with
  | nil => rfl
  | cons b l ih =>
    rw [List.flatMap_cons]
    unfold escB
    by_cases h : b = 126
    · rw [if_pos h]
      simp only [List.cons_append, List.nil_append]
      rw [okEsc, if_pos rfl]
      exact ih
    · rw [if_neg h]
      by_cases h2 : b = 47
      · rw [if_pos h2]
        simp only [List.cons_append, List.nil_append]
        rw [okEsc, if_pos rfl]
        exact ih
      · rw [if_neg h2]
        simp only [List.cons_append, List.nil_append]
        rw [okEsc_ne h]
        exact ih
end Go.Proofs.YtmfcddbeglfdcaaDoor
