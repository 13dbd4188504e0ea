/- Names as lists of bytes: plain definitions and laws, no program in sight. -/
namespace Go.Proofs.YtkmonmdnmpbadaaDoor.NameP
def edge (c : Nat) : Bool := decide (97 ≤ c ∧ c ≤ 122) || decide (65 ≤ c ∧ c ≤ 90) || decide (48 ≤ c ∧ c ≤ 57)
def low (c : Nat) : Bool := edge c && (decide (c < 65) || decide (90 < c))
def dash (c : Nat) : Bool := c == 45
def wordIn (c : Nat) : Bool := c == 45 || c == 95 || c == 46
def made (e v : Nat → Bool) (l : List UInt8) : Bool :=
  match l with
  | [] => false
  | x :: r => e x.toNat && e ((x :: r).getLast (by simp)).toNat && (x :: r).all fun c => e c.toNat || v c.toNat
def isName (l : List UInt8) : Bool := made low dash l
def isWord (l : List UInt8) : Bool := made edge wordIn l
def judge (n most : Nat) (is : Bool) : Int := if most < n then 2 else if is then 0 else 6
def check (l : List UInt8) : Int := judge l.length 63 (isName l)
def checkVal (l : List UInt8) : Int := judge l.length 63 (l.isEmpty || isWord l)

theorem low_edge {c : Nat} (h : low c = true) : edge c = true := by
  unfold low at h; simp at h; exact h.1
theorem made_iff {e v : Nat → Bool} {l : List UInt8} : made e v l = true ↔ ∃ (h : l ≠ []), e (l.head h).toNat = true ∧ e (l.getLast h).toNat = true ∧ ∀ c ∈ l, e c.toNat = true ∨ v c.toNat = true := by
  cases l with
  | nil => simp [made]
  | cons x r => simp [made, and_assoc]
theorem isName_word {l : List UInt8} (h : isName l = true) : isWord l = true := by
  unfold isName at h; unfold isWord
  rw [made_iff] at h ⊢
  obtain ⟨hn, h1, h2, h3⟩ := h
  refine ⟨hn, low_edge h1, low_edge h2, fun c hc => ?_⟩
  rcases h3 c hc with h | h
  · exact .inl (low_edge h)
  · right; unfold dash at h; unfold wordIn; simp at h; simp [h]
theorem check_ok {l : List UInt8} : check l = 0 ↔ l.length ≤ 63 ∧ isName l = true := by
  unfold check judge
  split
  · constructor
    · intro h; simp at h
    · intro h; omega
  · split
    · simp [*]; omega
    · simp [*]
theorem checkVal_ok {l : List UInt8} (h : check l = 0) : checkVal l = 0 := by
  rw [check_ok] at h
  unfold checkVal judge
  rw [if_neg (by omega), if_pos (by simp [isName_word h.2])]
/-- two names and a dash between them -/
theorem join_name {a b : List UInt8} (ha : isName a = true) (hb : isName b = true) : isName (a ++ 45 :: b) = true := by
  unfold isName at *
  rw [made_iff] at *
  obtain ⟨na, a1, a2, a3⟩ := ha
  obtain ⟨nb, b1, b2, b3⟩ := hb
  refine ⟨by simp, ?_, ?_, fun c hc => ?_⟩
  · rw [List.head_append_of_ne_nil na]; exact a1
  · have : (a ++ 45 :: b).getLast (by simp) = b.getLast nb := by
      rw [List.getLast_append_of_ne_nil (by simp) (by simp), List.getLast_cons nb]
    rw [this]; exact b2
  · simp only [List.mem_append, List.mem_cons] at hc
    rcases hc with h | rfl | h
    · exact a3 c h
    · right; rfl
    · exact b3 c h
theorem join_check {a b : List UInt8} (ha : check a = 0) (hb : check b = 0) (h : a.length + b.length < 63) : check (a ++ 45 :: b) = 0 := by
  rw [check_ok] at *
  exact ⟨by simp; omega, join_name ha.2 hb.2⟩
theorem join_long {a b : List UInt8} (h : ¬ a.length + b.length < 63) : check (a ++ 45 :: b) = 2 := by
  unfold check judge
  rw [if_pos (by simp; omega)]
end Go.Proofs.YtkmonmdnmpbadaaDoor.NameP
