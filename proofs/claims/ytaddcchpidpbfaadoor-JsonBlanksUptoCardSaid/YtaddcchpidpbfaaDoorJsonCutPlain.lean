/- json: what begins a canonical document, and is not all of it. -/
import Derived.Test.YtaddcchpidpbfaaDoorJsonFails
namespace Go.Proofs.YtaddcchpidpbfaaDoor
open Go
namespace JP
theorem more_nil (m : Nat) (st : List Fr) : fin (.more [] m st) = (.nul, 3) := by rw [fin_more]; exact fin_bad 3
theorem whole_nil (v : JV) (m : Nat) (f : Fr) (st : List Fr) : fin (.whole v [] m (f :: st)) = (.nul, 3) := by
  rw [fin_whole]
  cases f with
  | lst d => exact fin_bad 3
  | ob d n => exact fin_bad 3
theorem field_nil (m : Nat) (d : List (Bs × JV)) (st : List Fr) : fin (fieldP [] m d st) = (.nul, 3) := fin_bad 3
theorem noDigit_nil : NoDigit [] := fun c t h => by cases h
theorem end_nil (v : JV) : EndOK v [] := by
  unfold EndOK
  split
  · exact noDigit_nil
  · trivial
theorem word_cut {v : JV} {w p q : Bs} {m : Nat} {st : List Fr} (h : p ++ q = w) (hq : q ≠ []) : fin (wordP v w p m st) = (.nul, 3) := by
  unfold wordP
  rw [if_neg, fin_bad]
  intro h1
  have h2 := (List.isPrefixOf_iff_prefix.1 h1).length_le
  have h3 := congrArg List.length h
  rw [List.length_append] at h3
  have := List.length_pos_iff.2 hq
  omega
theorem no_cut {x c : UInt8} {p q : Bs} (h : x :: p ++ q = [c]) (hq : q ≠ []) : False := hq (List.append_eq_nil_iff.1 (List.cons.inj h).2).2
theorem quote_cut : ∀ (s p q : Bs), s.all stand = true → p ++ q = s.flatMap escB ++ [34] → q ≠ [] → textP p = none
  | [], p, q, _, h, hq => by
    cases p with
    | nil => rfl
    | cons x p' =>
      exact (no_cut h hq).elim
  | c :: s, p, q, hs, h, hq => by
    rw [List.all_cons, Bool.and_eq_true] at hs
    rw [List.flatMap_cons, List.append_assoc] at h
    cases p with
    | nil => rfl
    | cons x p' =>
      have two : ∀ d, escB c = [92, d] → textP (x :: p') = none := fun d hd => by
        rw [hd] at h
        have h' : x :: (p' ++ q) = 92 :: (d :: (s.flatMap escB ++ [34])) := h
        injection h' with h1 h2
        subst h1
        cases p' with
        | nil => rw [textP]
        | cons y p'' =>
          have h3 : y :: (p'' ++ q) = d :: (s.flatMap escB ++ [34]) := h2
          injection h3 with h4 h5
          have ih := quote_cut s p'' q hs.2 h5 hq
          rw [textP]
          split
          · rfl
          · rw [ih]; rfl
      by_cases h1 : c = 34 ∨ c = 92
      · exact two c (by unfold escB; rw [if_pos h1])
      · by_cases h2 : c = 10
        · exact two 110 (by unfold escB; rw [if_neg h1, if_pos h2])
        · by_cases h3 : c = 9
          · exact two 116 (by unfold escB; rw [if_neg h1, if_neg h2, if_pos h3])
          · have he : escB c = [c] := by unfold escB; rw [if_neg h1, if_neg h2, if_neg h3]
            rw [he] at h
            have h' : x :: (p' ++ q) = c :: (s.flatMap escB ++ [34]) := h
            injection h' with h4 h5
            subst h4
            have ih := quote_cut s p' q hs.2 h5 hq
            rw [textP_other _ (fun e => h1 (.inl e)) (fun e => h1 (.inr e)), ih]
            split <;> rfl
theorem numE_of {c : UInt8} {t : Bs} (hd : ∀ x ∈ c :: t, digit x = true) : (c :: t).takeWhile digit = c :: t ∧ (c :: t).dropWhile digit = [] := by
  have := span_digits hd noDigit_nil
  rw [List.append_nil] at this
  exact this
theorem num_cut {n : Int} {p q : Bs} (hn : numOK n) (h : p ++ q = Lib.itoa n) (hq : q ≠ []) (hp : p ≠ []) : numE p = 3 ∨ (numE p = 0 ∧ numR p = []) := by
  obtain ⟨h1, h2⟩ := hn
  by_cases hneg : n < 0
  · obtain ⟨c, t, hd, hc⟩ := dec_head n.natAbs
    have hl := dec_length (u := n.natAbs) (by omega)
    have hdd := dec_digits n.natAbs
    have e0 : Lib.itoa n = 45 :: Lib.decDigits n.natAbs := by unfold Lib.itoa; rw [if_pos hneg]
    rw [e0] at h
    cases p with
    | nil => exact absurd rfl hp
    | cons x p' =>
      have h' : x :: (p' ++ q) = 45 :: Lib.decDigits n.natAbs := h
      injection h' with h3 h4
      subst h3
      cases p' with
      | nil => exact .inl rfl
      | cons y p'' =>
        right
        rw [hd] at h4 hl hdd
        have h5 : y :: (p'' ++ q) = c :: t := h4
        have hall : ∀ z ∈ y :: p'', digit z = true := fun z hz => hdd z (by rw [← h5]; rcases List.mem_cons.1 hz with rfl | hz; exact List.mem_cons_self ..; exact List.mem_cons_of_mem _ (List.mem_append_left _ hz))
        injection h5 with h6 h7
        subst h6
        have hy : y ≠ 48 := fun e => by have := (hc e).1; omega
        have hlen : (y :: p'').length ≤ 18 := by
          have := congrArg List.length h7
          rw [List.length_append] at this
          rw [List.length_cons] at hl ⊢
          omega
        obtain ⟨s1, s2⟩ := numE_of hall
        refine ⟨?_, s2⟩
        unfold numE
        rw [show digs (45 :: y :: p'') = y :: p'' from s1]
        dsimp only
        rw [if_neg (fun e => hy e.1), if_neg (by omega)]
  · obtain ⟨c, t, hd, hc⟩ := dec_head n.toNat
    have hl := dec_length (u := n.toNat) (by omega)
    have hdd := dec_digits n.toNat
    have e0 : Lib.itoa n = Lib.decDigits n.toNat := by unfold Lib.itoa; rw [if_neg hneg]
    rw [e0, hd] at h
    rw [hd] at hl hdd
    cases p with
    | nil => exact absurd rfl hp
    | cons y p'' =>
      right
      have h5 : y :: (p'' ++ q) = c :: t := h
      have hall : ∀ z ∈ y :: p'', digit z = true := fun z hz => hdd z (by rw [← h5]; rcases List.mem_cons.1 hz with rfl | hz; exact List.mem_cons_self ..; exact List.mem_cons_of_mem _ (List.mem_append_left _ hz))
      injection h5 with h6 h7
      subst h6
      have hy : y ≠ 48 := fun e => by
        have := (hc e).2
        rw [this] at h7
        exact hq (List.append_eq_nil_iff.1 h7).2
      have hlen : (y :: p'').length ≤ 18 := by
        have := congrArg List.length h7
        rw [List.length_append] at this
        rw [List.length_cons] at hl ⊢
        omega
      obtain ⟨s1, s2⟩ := numE_of hall
      have hs : sgn (y :: p'') = y :: p'' := (sgn_of _ (digit_ne45 (hall y (List.mem_cons_self ..)))).1
      refine ⟨?_, by unfold numR; rw [hs]; exact s2⟩
      unfold numE
      rw [show digs (y :: p'') = y :: p'' from by unfold digs; rw [hs]; exact s1]
      dsimp only
      rw [if_neg (fun e => hy e.1), if_neg (by omega)]
/-- a cut lies within the first part, or behind it -/
theorem cut_way {p q a b : Bs} (h : p ++ q = a ++ b) : (∃ a', p ++ a' = a ∧ a' ≠ []) ∨ ∃ c, p = a ++ c ∧ c ++ q = b := by
  rcases List.append_eq_append_iff.1 h with ⟨a', h1, h2⟩ | ⟨c', h1, h2⟩
  · by_cases ha : a' = []
    · subst ha
      exact .inr ⟨[], by rw [List.append_nil] at h1 ⊢; exact h1.symm, h2⟩
    · exact .inl ⟨a', h1.symm, ha⟩
  · exact .inr ⟨c', h1, h2.symm⟩
theorem cuts : (∀ v, wf v → ∀ (p q : Bs) (m : Nat) (st : List Fr), p ++ q = text v → q ≠ [] → m + size v ≤ 200 → deep v + st.length ≤ 10 → (st ≠ [] ∨ kind v ≠ 3) → fin (.more p m st) = (.nul, 3)) ∧
    (∀ l, wfL l → l ≠ [] → ∀ (d : List JV) (p q : Bs) (m : Nat) (st : List Fr), p ++ q = Lib.join (textL l) [44] ++ [93] → q ≠ [] → m + sizeL l ≤ 200 → deepL l + st.length + 1 ≤ 10 → fin (.more p m (.lst d :: st)) = (.nul, 3)) ∧
    (∀ l, wfF l → l ≠ [] → ∀ (d : List (Bs × JV)) (p q : Bs) (m : Nat) (st : List Fr), p ++ q = Lib.join (textF l) [44] ++ [125] → q ≠ [] → Srt (d ++ l) → m + sizeF l ≤ 200 → deepF l + st.length + 1 ≤ 10 → fin (fieldP p m d st) = (.nul, 3)) := by
  refine JV.both ?_ ?_ ?_ ?_ ?_ ?_ ?_ ?_ ?_ ?_
  · intro _ p q m st h hq hm _ _
    cases p with
    | nil => exact more_nil m st
    | cons x p' =>
      simp only [size] at hm
      have h' : x :: (p' ++ q) = 110 :: [117, 108, 108] := h
      obtain rfl : x = 110 := (List.cons.inj h').1
      rw [fin_more, begin_at _ _ _ (by decide), begin_plain (by decide) hm (by decide) (by decide)]
      exact word_cut (w := [110, 117, 108, 108]) h hq
  · intro b _ p q m st h hq hm _ _
    cases p with
    | nil => exact more_nil m st
    | cons x p' =>
      simp only [size] at hm
      cases b with
      | true =>
        have h' : x :: (p' ++ q) = 116 :: [114, 117, 101] := h
        obtain rfl : x = 116 := (List.cons.inj h').1
        rw [fin_more, begin_at _ _ _ (by decide), begin_plain (by decide) hm (by decide) (by decide)]
        exact word_cut (w := [116, 114, 117, 101]) h hq
      | false =>
        have h' : x :: (p' ++ q) = 102 :: [97, 108, 115, 101] := h
        obtain rfl : x = 102 := (List.cons.inj h').1
        rw [fin_more, begin_at _ _ _ (by decide), begin_plain (by decide) hm (by decide) (by decide)]
        exact word_cut (w := [102, 97, 108, 115, 101]) h hq
  · intro n hn p q m st h hq hm _ hk
    have hst : st ≠ [] := hk.resolve_right (fun e => e rfl)
    cases p with
    | nil => exact more_nil m st
    | cons x p' =>
      simp only [size] at hm
      have hcut := num_cut (by simpa only [wf] using hn) h hq (by simp)
      obtain ⟨c, t, hc, hd⟩ := num_head n
      have hxc : x = c := by
        have h9 : x :: (p' ++ q) = c :: t := by rw [← hc]; exact h
        exact (List.cons.inj h9).1
      have hb : starts c = true ∧ blank c = false ∧ c ≠ 91 ∧ c ≠ 123 ∧ c ≠ 34 ∧ c ≠ 116 ∧ c ≠ 102 ∧ c ≠ 110 := by
        rcases hd with rfl | hd
        · decide
        · have := digit_starts hd
          exact ⟨this.1, this.2.1, this.2.2.2.1, this.2.2.2.2.1, this.2.2.2.2.2.1, this.2.2.2.2.2.2.1, this.2.2.2.2.2.2.2.1, this.2.2.2.2.2.2.2.2⟩
      rw [← hxc] at hb
      obtain ⟨b1, b2, b3, b4, b5, b6, b7, b8⟩ := hb
      rw [fin_more, begin_at _ _ _ b2, begin_plain b1 hm b3 b4]
      unfold plainP
      rw [if_neg b5, if_neg b6, if_neg b7, if_neg b8]
      rcases hcut with he | ⟨he, hr⟩
      · rw [if_neg (by rw [he]; decide), he, fin_bad]
      · rw [if_pos he, hr]
        cases st with
        | nil => exact absurd rfl hst
        | cons f st => exact whole_nil _ _ _ _
  · intro s hs p q m st h hq hm _ _
    cases p with
    | nil => exact more_nil m st
    | cons x p' =>
      simp only [size] at hm
      have e : text (.str s) = 34 :: (s.flatMap escB ++ [34]) := by rw [text]; rfl
      rw [e] at h
      have h' : x :: (p' ++ q) = 34 :: (s.flatMap escB ++ [34]) := h
      injection h' with h1 h2
      subst h1
      rw [fin_more, begin_at _ _ _ (by decide), begin_plain (by decide) hm (by decide) (by decide)]
      unfold plainP
      rw [if_pos rfl, List.tail_cons, quote_cut s p' q (by simpa only [wf] using hs) h2 hq]
      exact fin_bad 3
  · intro l ih hw p q m st h hq hm hd _
    simp only [wf] at hw
    simp only [size] at hm
    simp only [deep] at hd
    cases p with
    | nil => exact more_nil m st
    | cons x p' =>
      have e : text (.list l) = 91 :: (Lib.join (textL l) [44] ++ [93]) := by rw [text]
      rw [e] at h
      have h' : x :: (p' ++ q) = 91 :: (Lib.join (textL l) [44] ++ [93]) := h
      injection h' with h1 h2
      subst h1
      rw [fin_more, begin_at _ _ _ (by decide)]
      unfold beginC
      rw [if_neg (by decide), if_neg (by omega), if_neg (by rintro ⟨_, h⟩; omega), if_pos rfl]
      cases p' with
      | nil => exact more_nil _ _
      | cons y p'' =>
        cases l with
        | nil =>
          exact (no_cut h2 hq).elim
        | cons v r =>
          have hh : ∃ c t, Lib.join (textL (v :: r)) [44] ++ [93] = c :: t ∧ blank c = false ∧ c ≠ 93 := by
            obtain ⟨c, t, h1, _, h2, h3⟩ := text_head v
            rw [textL]
            cases hr : textL r with
            | nil => rw [joinB_one, h1]; exact ⟨c, _, rfl, h2, h3⟩
            | cons y q => rw [joinB_more, h1]; exact ⟨c, _, rfl, h2, h3⟩
          obtain ⟨c, t, g1, g2, g3⟩ := hh
          have hyc : y = c := by
            have h9 : y :: (p'' ++ q) = c :: t := by rw [← g1]; exact h2
            exact (List.cons.inj h9).1
          subst hyc
          rw [skip_of _ g2, if_neg (by simpa using g3)]
          exact ih hw (by simp) [] (y :: p'') q (m + 1) st h2 hq (by omega) (by omega)
  · intro l ih hw p q m st h hq hm hd _
    simp only [wf] at hw
    simp only [size] at hm
    simp only [deep] at hd
    cases p with
    | nil => exact more_nil m st
    | cons x p' =>
      have e : text (.obj l) = 123 :: (Lib.join (textF l) [44] ++ [125]) := by rw [text]
      rw [e] at h
      have h' : x :: (p' ++ q) = 123 :: (Lib.join (textF l) [44] ++ [125]) := h
      injection h' with h1 h2
      subst h1
      rw [fin_more, begin_at _ _ _ (by decide)]
      unfold beginC
      rw [if_neg (by decide), if_neg (by omega), if_neg (by rintro ⟨_, h⟩; omega), if_neg (by decide), if_pos rfl]
      cases p' with
      | nil => exact field_nil (m + 1) [] st
      | cons y p'' =>
        cases l with
        | nil =>
          exact (no_cut h2 hq).elim
        | cons x r =>
          obtain ⟨n, v⟩ := x
          have hh : ∃ t, Lib.join (textF ((n, v) :: r)) [44] ++ [125] = 34 :: t := by
            rw [textF]
            cases hr : textF r with
            | nil => rw [joinB_one]; exact ⟨_, rfl⟩
            | cons y q => rw [joinB_more]; exact ⟨_, rfl⟩
          obtain ⟨t, g1⟩ := hh
          have hyc : y = 34 := by
            have h9 : y :: (p'' ++ q) = 34 :: t := by rw [← g1]; exact h2
            exact (List.cons.inj h9).1
          subst hyc
          rw [skip_of _ (by decide), if_neg (by simp)]
          exact ih hw.2 (by simp) [] (34 :: p'') q (m + 1) st h2 hq (by simpa using hw.1) (by omega) (by omega)
  · intro _ h; exact absurd rfl h
  · intro v r ihv ihr hw _ d p q m st h hq hm hd
    rw [wfL] at hw
    rw [sizeL] at hm
    rw [deepL] at hd
    have fitv : deep v + (Fr.lst d :: st).length ≤ 10 := by simp only [List.length_cons]; omega
    have e0 : ∃ tail, Lib.join (textL (v :: r)) [44] ++ [93] = text v ++ tail ∧ (tail = [93] ∨ r ≠ [] ∧ tail = 44 :: (Lib.join (textL r) [44] ++ [93])) := by
      cases r with
      | nil => exact ⟨[93], by rw [textL, textL, joinB_one], .inl rfl⟩
      | cons x q' => exact ⟨44 :: (Lib.join (textL (x :: q')) [44] ++ [93]), by rw [textL, textL, joinB_more]; simp, .inr ⟨by simp, rfl⟩⟩
    obtain ⟨tail, e0, ht⟩ := e0
    rw [e0] at h
    rcases cut_way h with ⟨a', h1, h2⟩ | ⟨c, rfl, h2⟩
    · exact ihv hw.1 p a' m (.lst d :: st) h1 h2 (by omega) fitv (.inl (by simp))
    · have hend : EndOK v c := by
        cases c with
        | nil => exact end_nil v
        | cons z c' =>
          rcases ht with rfl | ⟨_, rfl⟩
          · exact (no_cut h2 hq).elim
          · obtain rfl : z = 44 := by
              have h9 : z :: (c' ++ q) = 44 :: (Lib.join (textL r) [44] ++ [93]) := h2
              exact (List.cons.inj h9).1
            exact endOK_of _ _ (by decide)
      rw [reads.1 v hw.1 c m (.lst d :: st) (by omega) fitv hend]
      cases c with
      | nil => exact whole_nil _ _ _ _
      | cons z c' =>
        rcases ht with rfl | ⟨hr, rfl⟩
        · exact (no_cut h2 hq).elim
        · have h9 : z :: (c' ++ q) = 44 :: (Lib.join (textL r) [44] ++ [93]) := h2
          injection h9 with h10 h11
          subst h10
          rw [fin_whole]
          unfold goesP
          dsimp only
          rw [skip_of _ (by decide)]
          dsimp only
          rw [if_neg (by decide), if_pos rfl]
          exact ihr hw.2 hr (d ++ [v]) c' q (m + size v) st h11 hq (by omega) (by omega)
  · intro _ h; exact absurd rfl h
  · intro n v r ihv ihr hw _ d p q m st h hq hs hm hd
    rw [wfF] at hw
    rw [sizeF] at hm
    rw [deepF] at hd
    have hlt : ∀ x ∈ d, x.1 < n := fun x hx => (List.pairwise_append.1 hs).2.2 x hx (n, v) (List.mem_cons_self ..)
    have hg : get n d = none := get_none fun x hx e => bs_irrefl n (by have := hlt x hx; rwa [e] at this)
    have fitv : deep v + (Fr.ob d n :: st).length ≤ 10 := by simp only [List.length_cons]; omega
    have e0 : ∃ tail, Lib.join (textF ((n, v) :: r)) [44] ++ [125] = 34 :: ((n.flatMap escB ++ [34]) ++ 58 :: (text v ++ tail)) ∧ (tail = [125] ∨ r ≠ [] ∧ tail = 44 :: (Lib.join (textF r) [44] ++ [125])) := by
      cases r with
      | nil => exact ⟨[125], by rw [textF, textF, joinB_one]; unfold quote; simp, .inl rfl⟩
      | cons x q' => exact ⟨44 :: (Lib.join (textF (x :: q')) [44] ++ [125]), by
          obtain ⟨k, u⟩ := x
          rw [textF, textF, joinB_more]; unfold quote; simp, .inr ⟨by simp, rfl⟩⟩
    obtain ⟨tail, e0, ht⟩ := e0
    rw [e0] at h
    cases p with
    | nil => exact field_nil _ _ _
    | cons x p' =>
      have h' : x :: (p' ++ q) = 34 :: ((n.flatMap escB ++ [34]) ++ 58 :: (text v ++ tail)) := h
      injection h' with h1 h2
      subst h1
      unfold fieldP
      rw [skip_of _ (by decide)]
      dsimp only
      rw [if_pos rfl]
      rcases cut_way h2 with ⟨a', h3, h4⟩ | ⟨c, rfl, h3⟩
      · rw [quote_cut n p' a' hw.1 h3 h4]
        exact fin_bad 3
      · rw [List.append_assoc, List.singleton_append, quote_reads n c hw.1]
        dsimp only
        unfold fieldN
        rw [hg, if_neg (by simp)]
        cases c with
        | nil => exact fin_bad 3
        | cons z c2 =>
          have h9 : z :: (c2 ++ q) = 58 :: (text v ++ tail) := h3
          injection h9 with h10 h11
          subst h10
          rw [skip_of _ (by decide)]
          dsimp only
          rw [if_pos rfl]
          rcases cut_way h11 with ⟨a', h3, h4⟩ | ⟨c, rfl, h22⟩
          · exact ihv hw.2.1 c2 a' m (.ob d n :: st) h3 h4 (by omega) fitv (.inl (by simp))
          · have hend : EndOK v c := by
              cases c with
              | nil => exact end_nil v
              | cons z c' =>
                rcases ht with rfl | ⟨_, rfl⟩
                · exact (no_cut h22 hq).elim
                · obtain rfl : z = 44 := by
                    have h9 : z :: (c' ++ q) = 44 :: (Lib.join (textF r) [44] ++ [125]) := h22
                    exact (List.cons.inj h9).1
                  exact endOK_of _ _ (by decide)
            rw [reads.1 v hw.2.1 c m (.ob d n :: st) (by omega) fitv hend]
            cases c with
            | nil => exact whole_nil _ _ _ _
            | cons z c' =>
              rcases ht with rfl | ⟨hr, rfl⟩
              · exact (no_cut h22 hq).elim
              · have h9 : z :: (c' ++ q) = 44 :: (Lib.join (textF r) [44] ++ [125]) := h22
                injection h9 with h30 h31
                subst h30
                rw [fin_whole]
                unfold goesP
                dsimp only
                rw [skip_of _ (by decide)]
                dsimp only
                rw [if_neg (by decide), if_pos rfl, put_end hlt]
                exact ihr hw.2.2 hr (d ++ [(n, v)]) c' q (m + size v) st h31 hq (by simpa using hs) (by omega) (by omega)
/-- what begins a canonical document that is no number -/
theorem read_cut {v : JV} (h : wf v) (hs : size v ≤ 200) (hd : deep v ≤ 10) (hl : (text v).length ≤ 2000) (hk : kind v ≠ 3) {i : Nat} (hi : i < (text v).length) : readL ((text v).take i) = (.nul, 3) := by
  have hlt : ((text v).take i).length = i := by rw [List.length_take]; omega
  unfold readL
  rw [if_neg (by omega)]
  exact cuts.1 v h _ ((text v).drop i) 0 [] (List.take_append_drop ..) (fun e => by have := congrArg List.length e; rw [List.length_drop, List.length_nil] at this; omega) (by omega) (by simpa using hd) (.inr hk)
end JP
end Go.Proofs.YtaddcchpidpbfaaDoor
