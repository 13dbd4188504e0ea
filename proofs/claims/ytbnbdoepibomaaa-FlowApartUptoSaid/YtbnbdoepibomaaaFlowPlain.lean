/- flow.Hand in plain words: cards that differ, and two seeds below the number of all hands give two hands. -/
namespace Go.Proofs.Ytbnbdoepibomaaa.FlowP
/-- the card that a number names, beside those that are dealt (rising) -/
def bump : List Nat → Nat → Nat
  | [], c => c
  | d :: r, c => if d ≤ c then bump r (c + 1) else bump r c
def rank (l : List Nat) (c : Nat) : Nat := (l.filter fun d => decide (d < c)).length
theorem bump_high {l : List Nat} {c : Nat} (h : ∀ d ∈ l, c < d) : bump l c = c := by
  induction l with
  | nil => rfl
  | cons d r ih =>
    unfold bump
    rw [if_neg (by have := h d (List.mem_cons_self ..); omega)]
    exact ih fun x hx => h x (List.mem_cons_of_mem _ hx)
theorem bump_is {l : List Nat} (hs : l.Pairwise (· < ·)) : ∀ c, c ≤ bump l c ∧ bump l c ∉ l ∧ bump l c = c + rank l (bump l c) := by
  induction l with
  | nil => intro c; simp [bump, rank]
  | cons d r ih =>
    intro c
    rw [List.pairwise_cons] at hs
    have ih := ih hs.2
    unfold bump
    by_cases hd : d ≤ c
    · rw [if_pos hd]
      obtain ⟨h1, h2, h3⟩ := ih (c + 1)
      refine ⟨by omega, ?_, ?_⟩
      · rw [List.mem_cons]
        rintro (h | h)
        · omega
        · exact h2 h
      · unfold rank at h3 ⊢
        rw [List.filter_cons, if_pos (by simp; omega), List.length_cons]
        omega
    · rw [if_neg hd, bump_high fun x hx => by have := hs.1 x hx; omega]
      refine ⟨Nat.le_refl _, ?_, ?_⟩
      · rw [List.mem_cons]
        rintro (h | h)
        · omega
        · have := hs.1 c h; omega
      · unfold rank
        have : (d :: r).filter (fun x => decide (x < c)) = [] := by
          rw [List.filter_eq_nil_iff]
          intro x hx
          rcases List.mem_cons.1 hx with rfl | hx
          · simp; omega
          · have := hs.1 x hx; simp; omega
        rw [this]; simp
theorem bump_inj {l : List Nat} (hs : l.Pairwise (· < ·)) {a b : Nat} (h : bump l a = bump l b) : a = b := by
  have h1 := (bump_is hs a).2.2
  have h2 := (bump_is hs b).2.2
  rw [h] at h1
  omega
theorem bump_lt {l : List Nat} (hs : l.Pairwise (· < ·)) {c n : Nat} (hc : c + l.length < n) : bump l c < n := by
  have h1 := (bump_is hs c).2.2
  have h2 : rank l (bump l c) ≤ l.length := List.length_filter_le _ _
  omega
/-- set in at its place -/
def insC : List Nat → Nat → List Nat
  | [], c => [c]
  | d :: r, c => if d < c then d :: insC r c else c :: d :: r
theorem mem_insC {l : List Nat} {c x : Nat} : x ∈ insC l c ↔ x = c ∨ x ∈ l := by
  induction l with
  | nil => simp [insC]
  | cons d r ih =>
    unfold insC
    split
    · rw [List.mem_cons, ih, List.mem_cons]; exact ⟨fun h => by rcases h with h | h | h <;> simp [h], fun h => by rcases h with h | h | h <;> simp [h]⟩
    · simp
theorem insC_sorted {l : List Nat} {c : Nat} (hs : l.Pairwise (· < ·)) (hc : c ∉ l) : (insC l c).Pairwise (· < ·) := by
  induction l with
  | nil => simp [insC]
  | cons d r ih =>
    rw [List.pairwise_cons] at hs
    have hcd : c ≠ d := fun h => hc (by simp [h])
    have hcr : c ∉ r := fun h => hc (by simp [h])
    unfold insC
    split
    · rw [List.pairwise_cons]
      refine ⟨fun x hx => ?_, ih hs.2 hcr⟩
      rcases mem_insC.1 hx with rfl | hx
      · assumption
      · exact hs.1 x hx
    · rw [List.pairwise_cons, List.pairwise_cons]
      refine ⟨fun x hx => ?_, hs.1, hs.2⟩
      rcases List.mem_cons.1 hx with rfl | hx
      · omega
      · have := hs.1 x hx; omega
theorem insC_length (l : List Nat) (c : Nat) : (insC l c).length = l.length + 1 := by
  induction l with
  | nil => rfl
  | cons d r ih => unfold insC; split <;> simp [ih]
/-- how many stand ahead -/
def placeC (l : List Nat) (c : Nat) : Nat := (l.takeWhile fun d => decide (d < c)).length
theorem insC_at (l : List Nat) (c : Nat) : insC l c = l.take (placeC l c) ++ c :: l.drop (placeC l c) := by
  induction l with
  | nil => rfl
  | cons d r ih =>
    unfold insC placeC
    rw [List.takeWhile_cons]
    by_cases h : d < c
    · rw [if_pos h, if_pos (by simpa using h), ih]; rfl
    · rw [if_neg h, if_neg (by simpa using h)]; rfl
/-- the cards, one behind the other -/
def hand (decks : Nat) : Nat → Nat → List Nat → List Nat
  | 0, _, _ => []
  | n + 1, s, dealt => bump dealt (s % (decks - dealt.length)) :: hand decks n (s / (decks - dealt.length)) (insC dealt (bump dealt (s % (decks - dealt.length))))
/-- how many hands there are -/
def hands (left : Nat) : Nat → Nat
  | 0 => 1
  | n + 1 => left * hands (left - 1) n
theorem hand_length (decks n s : Nat) (dealt : List Nat) : (hand decks n s dealt).length = n := by
  induction n generalizing s dealt with
  | zero => rfl
  | succ n ih => simp [hand, ih]
theorem hand_cards {decks : Nat} : ∀ (n s : Nat) (dealt : List Nat), dealt.Pairwise (· < ·) → dealt.length + n ≤ decks → (∀ c ∈ hand decks n s dealt, c < decks ∧ c ∉ dealt) ∧ (hand decks n s dealt).Nodup
  | 0, _, _, _, _ => by simp [hand]
  | n + 1, s, dealt, hs, hn => by
    have hleft : 0 < decks - dealt.length := by omega
    have hr := Nat.mod_lt s hleft
    have hc := bump_is hs (s % (decks - dealt.length))
    have hlt : bump dealt (s % (decks - dealt.length)) < decks := bump_lt (n := decks) (c := s % (decks - dealt.length)) hs (by omega)
    obtain ⟨h1, h2⟩ := hand_cards (decks := decks) n (s / (decks - dealt.length)) _ (insC_sorted hs hc.2.1) (by rw [insC_length]; omega)
    unfold hand
    refine ⟨fun c hm => ?_, ?_⟩
    · rcases List.mem_cons.1 hm with rfl | hm
      · exact ⟨hlt, hc.2.1⟩
      · exact ⟨(h1 c hm).1, fun h => (h1 c hm).2 (mem_insC.2 (.inr h))⟩
    · rw [List.nodup_cons]
      exact ⟨fun h => (h1 _ h).2 (mem_insC.2 (.inl rfl)), h2⟩
theorem hands_pos : ∀ (n left : Nat), n ≤ left → 0 < hands left n
  | 0, _, _ => by simp [hands]
  | n + 1, left, h => by unfold hands; exact Nat.mul_pos (by omega) (hands_pos n (left - 1) (by omega))
/-- the hand tells the seed, up to the number of all hands -/
theorem hand_inj {decks : Nat} : ∀ (n s t : Nat) (dealt : List Nat), dealt.Pairwise (· < ·) → dealt.length + n ≤ decks → (hand decks n s dealt = hand decks n t dealt ↔ s % hands (decks - dealt.length) n = t % hands (decks - dealt.length) n)
  | 0, s, t, _, _, _ => by simp [hand, hands, Nat.mod_one]
  | n + 1, s, t, dealt, hs, hn => by
    have hleft : 0 < decks - dealt.length := by omega
    have hcs := bump_is hs (s % (decks - dealt.length))
    unfold hand hands
    rw [List.cons.injEq, Nat.mod_mul, Nat.mod_mul]
    have key : ∀ a b x y m : Nat, a < m → b < m → (a + m * x = b + m * y ↔ a = b ∧ x = y) := fun a b x y m ha hb => by
      constructor
      · intro h
        have h1 : a = b := by
          have h2 : (a + m * x) % m = (b + m * y) % m := by rw [h]
          rwa [Nat.add_mul_mod_self_left, Nat.add_mul_mod_self_left, Nat.mod_eq_of_lt ha, Nat.mod_eq_of_lt hb] at h2
        subst h1
        exact ⟨rfl, Nat.eq_of_mul_eq_mul_left (by omega) (Nat.add_left_cancel h)⟩
      · rintro ⟨rfl, rfl⟩; rfl
    rw [key _ _ _ _ _ (Nat.mod_lt s hleft) (Nat.mod_lt t hleft)]
    constructor
    · rintro ⟨h1, h2⟩
      have h3 := bump_inj hs h1
      refine ⟨h3, ?_⟩
      rw [h3] at h2 hcs
      have ih := hand_inj (decks := decks) n (s / (decks - dealt.length)) (t / (decks - dealt.length)) _ (insC_sorted hs hcs.2.1) (by rw [insC_length]; omega)
      rw [insC_length] at ih
      have h4 := ih.1 h2
      rw [show decks - (dealt.length + 1) = decks - dealt.length - 1 by omega] at h4
      exact h4
    · rintro ⟨h1, h2⟩
      rw [h1] at hcs
      have ih := hand_inj (decks := decks) n (s / (decks - dealt.length)) (t / (decks - dealt.length)) _ (insC_sorted hs hcs.2.1) (by rw [insC_length]; omega)
      rw [insC_length, show decks - (dealt.length + 1) = decks - dealt.length - 1 by omega] at ih
      rw [h1]
      exact ⟨rfl, ih.2 h2⟩
theorem hand_mod {decks : Nat} (n s : Nat) (hn : n ≤ decks) : hand decks n (s % hands decks n) [] = hand decks n s [] := by
  have h := hand_inj n (s % hands decks n) s [] List.Pairwise.nil (by simpa using hn)
  exact h.2 (by simp)
end Go.Proofs.Ytbnbdoepibomaaa.FlowP
