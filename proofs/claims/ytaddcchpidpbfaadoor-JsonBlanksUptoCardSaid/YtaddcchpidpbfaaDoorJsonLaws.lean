/- json: what is told of a value is read as that value. -/
import Derived.Test.YtaddcchpidpbfaaDoorJsonPlain
namespace Go.Proofs.YtaddcchpidpbfaaDoor
open Go
namespace JP
theorem joinB_nil (sep : Bs) : Lib.join [] sep = [] := rfl
theorem joinB_one (x sep : Bs) : Lib.join [x] sep = x := by simp [Lib.join, List.intercalate]
theorem joinB_more (x y : Bs) (r : List Bs) (sep : Bs) : Lib.join (x :: y :: r) sep = x ++ (sep ++ Lib.join (y :: r) sep) := by simp [Lib.join, List.intercalate]
theorem skip_of {c : UInt8} (t : Bs) (h : blank c = false) : skip (c :: t) = c :: t := by
  unfold skip
  rw [List.dropWhile_cons_of_neg (by simp [h])]
theorem skip_nil : skip [] = [] := rfl
theorem skip_blank {c : UInt8} (t : Bs) (h : blank c = true) : skip (c :: t) = skip t := by
  unfold skip
  rw [List.dropWhile_cons_of_pos h]

/-! numbers -/
theorem digit_of {k : Nat} (h : k < 10) : digit (UInt8.ofNat (48 + k)) = true := by
  have : ∀ i : Fin 10, digit (UInt8.ofNat (48 + i.val)) = true := by decide
  exact this ⟨k, h⟩
theorem digit_val {k : Nat} (h : k < 10) : Lib.digitVal (UInt8.ofNat (48 + k)) = some k := by
  have : ∀ i : Fin 10, Lib.digitVal (UInt8.ofNat (48 + i.val)) = some i.val := by decide
  exact this ⟨k, h⟩
theorem digit_nought {k : Nat} (h : k < 10) (h0 : k ≠ 0) : UInt8.ofNat (48 + k) ≠ 48 := by
  have : ∀ i : Fin 10, i.val ≠ 0 → UInt8.ofNat (48 + i.val) ≠ 48 := by decide
  exact this ⟨k, h⟩ h0
theorem dec_digits (u : Nat) : ∀ c ∈ Lib.decDigits u, digit c = true := by
  induction u using Nat.strongRecOn with
  | _ u ih =>
    intro c hc
    by_cases h : u < 10
    · rw [Lib.decDigits, dif_pos h, List.mem_singleton] at hc
      rw [hc]; exact digit_of h
    · rw [Lib.decDigits, dif_neg h, List.mem_append, List.mem_singleton] at hc
      rcases hc with hc | rfl
      · exact ih _ (by omega) c hc
      · exact digit_of (by omega)
theorem dec_head (u : Nat) : ∃ c t, Lib.decDigits u = c :: t ∧ (c = 48 → u = 0 ∧ t = []) := by
  induction u using Nat.strongRecOn with
  | _ u ih =>
    by_cases h : u < 10
    · refine ⟨_, [], by rw [Lib.decDigits, dif_pos h], fun h0 => ⟨?_, rfl⟩⟩
      by_cases hu : u = 0
      · exact hu
      · exact absurd h0 (digit_nought h hu)
    · obtain ⟨c, t, hd, hc⟩ := ih (u / 10) (by omega)
      exact ⟨c, t ++ [UInt8.ofNat (48 + u % 10)], by rw [Lib.decDigits, dif_neg h, hd]; rfl, fun h0 => by have := (hc h0).1; omega⟩
theorem decFrom_append (acc : Nat) (l : Bs) (b : UInt8) : Lib.decFrom acc (l ++ [b]) = (Lib.decFrom acc l).bind fun m => (Lib.digitVal b).map fun d => m * 10 + d := by
  induction l generalizing acc with
  | nil =>
    simp only [List.nil_append, Lib.decFrom, Option.bind_some]
    cases Lib.digitVal b <;> rfl
  | cons c r ih =>
    simp only [List.cons_append, Lib.decFrom]
    cases Lib.digitVal c with
    | none => rfl
    | some d => exact ih _
theorem dec_value (u : Nat) : Lib.decFrom 0 (Lib.decDigits u) = some u := by
  induction u using Nat.strongRecOn with
  | _ u ih =>
    by_cases h : u < 10
    · rw [Lib.decDigits, dif_pos h]
      unfold Lib.decFrom
      rw [digit_val h]
      show Lib.decFrom (0 * 10 + u) [] = some u
      rw [Nat.zero_mul, Nat.zero_add]
      rfl
    · rw [Lib.decDigits, dif_neg h, decFrom_append, ih _ (by omega), digit_val (by omega)]
      simp
      omega
theorem nDigits_le : ∀ (k u : Nat), 0 < k → u < 10 ^ k → Lib.nDigits u ≤ k
  | 0, _, h, _ => by omega
  | k + 1, u, _, h => by
    by_cases hu : u < 10
    · rw [Lib.nDigits_small hu]; omega
    · rw [Lib.nDigits_big hu]
      have hk : 0 < k := by
        rcases Nat.eq_zero_or_pos k with rfl | hk
        · simp at h; omega
        · exact hk
      have := nDigits_le k (u / 10) hk (by rw [Nat.pow_succ] at h; omega)
      omega
theorem dec_length {u : Nat} (h : u < 1000000000000000000) : (Lib.decDigits u).length ≤ 18 := by
  rw [Lib.decDigits_length]
  exact nDigits_le 18 u (by decide) (by simpa using h)
/-- no digit ahead -/
def NoDigit (r : Bs) : Prop := ∀ c t, r = c :: t → digit c = false
theorem span_digits {ds rest : Bs} (h : ∀ c ∈ ds, digit c = true) (hr : NoDigit rest) : (ds ++ rest).takeWhile digit = ds ∧ (ds ++ rest).dropWhile digit = rest := by
  rw [List.takeWhile_append_of_pos h, List.dropWhile_append_of_pos h]
  cases rest with
  | nil => simp
  | cons c t =>
    have := hr c t rfl
    rw [List.takeWhile_cons_of_neg (by simp [this]), List.dropWhile_cons_of_neg (by simp [this])]
    simp
theorem digit_ne45 {c : UInt8} (h : digit c = true) : c ≠ 45 := fun e => by rw [e] at h; revert h; decide
theorem sgn_of {c : UInt8} (t : Bs) (h : c ≠ 45) : sgn (c :: t) = c :: t ∧ negB (c :: t) = false := by
  constructor
  · unfold sgn; split
    · rename_i he; cases he; exact absurd rfl h
    · rfl
  · unfold negB; split
    · rename_i he; cases he; exact absurd rfl h
    · rfl
theorem num_reads {n : Int} {rest : Bs} (h : numOK n) (hr : NoDigit rest) : numE (Lib.itoa n ++ rest) = 0 ∧ numV (Lib.itoa n ++ rest) = n ∧ numR (Lib.itoa n ++ rest) = rest := by
  obtain ⟨h1, h2⟩ := h
  by_cases hn : n < 0
  · obtain ⟨c, t, hd, hc⟩ := dec_head n.natAbs
    have hl := dec_length (u := n.natAbs) (by omega)
    have hs := span_digits (dec_digits n.natAbs) hr
    have e0 : Lib.itoa n ++ rest = 45 :: (Lib.decDigits n.natAbs ++ rest) := by unfold Lib.itoa; rw [if_pos hn]; rfl
    have e1 : sgn (Lib.itoa n ++ rest) = Lib.decDigits n.natAbs ++ rest := by rw [e0]; rfl
    have e2 : negB (Lib.itoa n ++ rest) = true := by rw [e0]; rfl
    have e3 : digs (Lib.itoa n ++ rest) = Lib.decDigits n.natAbs := by unfold digs; rw [e1, hs.1]
    refine ⟨?_, ?_, ?_⟩
    · unfold numE
      rw [e3, hd]
      rw [hd] at hl
      have : c ≠ 48 := fun h0 => by have := (hc h0).1; omega
      simp only [this, false_and, if_false]
      rw [if_neg (by omega)]
    · unfold numV decV
      rw [e2, e3, dec_value]
      simp
      omega
    · unfold numR; rw [e1, hs.2]
  · obtain ⟨c, t, hd, hc⟩ := dec_head n.toNat
    have hl := dec_length (u := n.toNat) (by omega)
    have hs := span_digits (dec_digits n.toNat) hr
    have hdc := dec_digits n.toNat c (by rw [hd]; exact List.mem_cons_self ..)
    have e0 : Lib.itoa n ++ rest = c :: (t ++ rest) := by unfold Lib.itoa; rw [if_neg hn, hd]; rfl
    have e1 : sgn (Lib.itoa n ++ rest) = Lib.decDigits n.toNat ++ rest := by rw [e0, (sgn_of _ (digit_ne45 hdc)).1, hd]; rfl
    have e2 : negB (Lib.itoa n ++ rest) = false := by rw [e0, (sgn_of _ (digit_ne45 hdc)).2]
    have e3 : digs (Lib.itoa n ++ rest) = Lib.decDigits n.toNat := by unfold digs; rw [e1, hs.1]
    refine ⟨?_, ?_, ?_⟩
    · unfold numE
      rw [e3, hd]
      rw [hd] at hl
      dsimp only
      rw [if_neg, if_neg (by omega)]
      rintro ⟨h0, h9⟩
      rw [e2] at h9
      rcases h9 with h9 | h9
      · exact h9 (hc h0).2
      · cases h9
    · unfold numV decV
      rw [e2, e3, dec_value]
      simp
      omega
    · unfold numR; rw [e1, hs.2]

/-! texts -/
theorem textP_other {c : UInt8} (r : Bs) (h1 : c ≠ 34) (h2 : c ≠ 92) : textP (c :: r) = if c < 32 ∨ 126 < c then none else (textP r).map fun x => (c :: x.1, x.2) := by
  rw [textP]
  · intro h; exact h1 h
  · intro h; exact absurd h h2
  · intro d r' h; exact absurd h h2
theorem stand_cases {c : UInt8} (h : stand c = true) : c = 10 ∨ c = 9 ∨ (¬ (c < 32 ∨ 126 < c)) := by
  unfold stand at h
  simp only [Bool.or_eq_true, Bool.and_eq_true, decide_eq_true_eq, beq_iff_eq] at h
  rcases h with (h | h) | h
  · refine .inr (.inr fun h9 => ?_)
    rcases h9 with h9 | h9
    · exact absurd h9 (UInt8.not_lt.2 h.1)
    · exact absurd h9 (UInt8.not_lt.2 h.2)
  · exact .inl h
  · exact .inr (.inl h)
theorem quote_reads : ∀ (s rest : Bs), s.all stand = true → textP (s.flatMap escB ++ 34 :: rest) = some (s, rest)
  | [], rest, _ => rfl
  | c :: s, rest, h => by
    rw [List.all_cons, Bool.and_eq_true] at h
    have ih := quote_reads s rest h.2
    rw [List.flatMap_cons, List.append_assoc]
    by_cases h1 : c = 34 ∨ c = 92
    · have : escB c = [92, c] := by unfold escB; rw [if_pos h1]
      rw [this]
      show textP (92 :: c :: (s.flatMap escB ++ 34 :: rest)) = _
      rw [textP]
      have : escV c = some c := by unfold escV; rw [if_pos h1]
      rw [this]
      simp only [ih, Option.map_some]
    · by_cases h2 : c = 10
      · subst h2
        show textP (92 :: 110 :: (s.flatMap escB ++ 34 :: rest)) = _
        rw [textP]
        show (textP _).map _ = _
        rw [ih]; rfl
      · by_cases h3 : c = 9
        · subst h3
          show textP (92 :: 116 :: (s.flatMap escB ++ 34 :: rest)) = _
          rw [textP]
          show (textP _).map _ = _
          rw [ih]; rfl
        · have : escB c = [c] := by unfold escB; rw [if_neg h1, if_neg h2, if_neg h3]
          rw [this]
          show textP (c :: (s.flatMap escB ++ 34 :: rest)) = _
          have h4 : ¬ (c < 32 ∨ 126 < c) := by
            rcases stand_cases h.1 with h5 | h5 | h5
            · exact absurd h5 h2
            · exact absurd h5 h3
            · exact h5
          rw [textP_other _ (fun h => h1 (.inl h)) (fun h => h1 (.inr h)), if_neg h4, ih]
          rfl

/-! values -/
def EndOK (v : JV) (rest : Bs) : Prop := match v with
  | .num _ => NoDigit rest
  | _ => True
theorem endOK_of {c : UInt8} (v : JV) (t : Bs) (h : digit c = false) : EndOK v (c :: t) := by
  unfold EndOK
  split
  · intro c' t' h'; cases h'; exact h
  · trivial
theorem digit_starts {c : UInt8} (h : digit c = true) : starts c = true ∧ blank c = false ∧ c ≠ 93 ∧ c ≠ 91 ∧ c ≠ 123 ∧ c ≠ 34 ∧ c ≠ 116 ∧ c ≠ 102 ∧ c ≠ 110 := by
  have : ∀ c : UInt8, digit c = true → starts c = true ∧ blank c = false ∧ c ≠ 93 ∧ c ≠ 91 ∧ c ≠ 123 ∧ c ≠ 34 ∧ c ≠ 116 ∧ c ≠ 102 ∧ c ≠ 110 := by
    intro c h
    refine ⟨by simp [starts, h], ?_, ?_, ?_, ?_, ?_, ?_, ?_, ?_⟩
    · unfold digit at h
      simp only [Bool.and_eq_true, decide_eq_true_eq] at h
      unfold blank
      simp only [Bool.or_eq_false_iff, beq_eq_false_iff_ne]
      refine ⟨⟨?_, ?_⟩, ?_⟩ <;> (intro e; subst e; revert h; decide)
    all_goals (intro e; subst e; revert h; decide)
  exact this c h
theorem num_head (n : Int) : ∃ c t, Lib.itoa n = c :: t ∧ (c = 45 ∨ digit c = true) := by
  unfold Lib.itoa
  split
  · exact ⟨45, _, rfl, .inl rfl⟩
  · obtain ⟨c, t, hd, _⟩ := dec_head n.toNat
    exact ⟨c, t, hd, .inr (dec_digits n.toNat c (by rw [hd]; exact List.mem_cons_self ..))⟩
theorem text_head (v : JV) : ∃ c t, text v = c :: t ∧ starts c = true ∧ blank c = false ∧ c ≠ 93 := by
  cases v with
  | nul => exact ⟨110, _, rfl, by decide, by decide, by decide⟩
  | bool b => cases b with
    | true => exact ⟨116, _, rfl, by decide, by decide, by decide⟩
    | false => exact ⟨102, _, rfl, by decide, by decide, by decide⟩
  | num n =>
    obtain ⟨c, t, h, hc⟩ := num_head n
    refine ⟨c, t, h, ?_⟩
    rcases hc with rfl | hc
    · exact ⟨by decide, by decide, by decide⟩
    · have := digit_starts hc; exact ⟨this.1, this.2.1, this.2.2.1⟩
  | str s => exact ⟨34, _, rfl, by decide, by decide, by decide⟩
  | list l => exact ⟨91, _, by rw [text], by decide, by decide, by decide⟩
  | obj l => exact ⟨123, _, by rw [text], by decide, by decide, by decide⟩
theorem size_pos (v : JV) : 1 ≤ size v := by cases v <;> simp [size]
theorem begin_at {c : UInt8} (t : Bs) (m : Nat) (st : List Fr) (h : blank c = false) : beginP (c :: t) m st = beginC c t m st := by
  unfold beginP
  rw [skip_of t h]
theorem begin_plain {c : UInt8} {t : Bs} {m : Nat} {st : List Fr} (h : starts c = true) (hm : m + 1 ≤ 200) (h1 : c ≠ 91) (h2 : c ≠ 123) : beginC c t m st = plainP c (c :: t) (m + 1) st := by
  unfold beginC
  rw [if_neg (by simp [h]), if_neg (by omega), if_neg (by simp [h1, h2]), if_neg h1, if_neg h2]
theorem word_reads (v : JV) (p rest : Bs) (m : Nat) (st : List Fr) : wordP v p (p ++ rest) m st = .whole v rest m st := by
  unfold wordP
  rw [if_pos (List.isPrefixOf_iff_prefix.2 (List.prefix_append _ _)), List.drop_left]
theorem put_end {n : Bs} {v : JV} : ∀ {d : List (Bs × JV)}, (∀ x ∈ d, x.1 < n) → put n v d = d ++ [(n, v)]
  | [], _ => rfl
  | (m, x) :: r, h => by
    have := h (m, x) (List.mem_cons_self ..)
    unfold put
    rw [if_pos this, put_end fun y hy => h y (List.mem_cons_of_mem _ hy)]
    rfl
theorem bs_irrefl (n : Bs) : ¬ n < n := List.lt_irrefl n
theorem get_none {n : Bs} : ∀ {d : List (Bs × JV)}, (∀ x ∈ d, x.1 ≠ n) → get n d = none
  | [], _ => rfl
  | (m, x) :: r, h => by
    unfold get
    rw [if_neg (h (m, x) (List.mem_cons_self ..)), get_none fun y hy => h y (List.mem_cons_of_mem _ hy)]
theorem reads : (∀ v, wf v → ∀ (rest : Bs) (m : Nat) (st : List Fr), m + size v ≤ 200 → deep v + st.length ≤ 10 → EndOK v rest → fin (.more (text v ++ rest) m st) = fin (.whole v rest (m + size v) st)) ∧
    (∀ l, wfL l → l ≠ [] → ∀ (d : List JV) (rest : Bs) (m : Nat) (st : List Fr), m + sizeL l ≤ 200 → deepL l + st.length + 1 ≤ 10 → fin (.more (Lib.join (textL l) [44] ++ 93 :: rest) m (.lst d :: st)) = fin (.whole (.list (d ++ l)) rest (m + sizeL l) st)) ∧
    (∀ l, wfF l → l ≠ [] → ∀ (d : List (Bs × JV)) (rest : Bs) (m : Nat) (st : List Fr), Srt (d ++ l) → m + sizeF l ≤ 200 → deepF l + st.length + 1 ≤ 10 → fin (fieldP (Lib.join (textF l) [44] ++ 125 :: rest) m d st) = fin (.whole (.obj (d ++ l)) rest (m + sizeF l) st)) := by
  refine JV.both ?_ ?_ ?_ ?_ ?_ ?_ ?_ ?_ ?_ ?_
  · intro _ rest m st hm _ _
    rw [fin_more]
    show fin (beginP (110 :: ([117, 108, 108] ++ rest)) m st) = _
    simp only [size] at hm ⊢
    rw [begin_at _ _ _ (by decide), begin_plain (by decide) hm (by decide) (by decide)]
    show fin (wordP .nul [110, 117, 108, 108] ([110, 117, 108, 108] ++ rest) (m + 1) st) = _
    rw [word_reads]
  · intro b _ rest m st hm _ _
    rw [fin_more]
    simp only [size] at hm ⊢
    cases b with
    | true =>
      show fin (beginP (116 :: ([114, 117, 101] ++ rest)) m st) = _
      rw [begin_at _ _ _ (by decide), begin_plain (by decide) hm (by decide) (by decide)]
      show fin (wordP (.bool true) [116, 114, 117, 101] ([116, 114, 117, 101] ++ rest) (m + 1) st) = _
      rw [word_reads]
    | false =>
      show fin (beginP (102 :: ([97, 108, 115, 101] ++ rest)) m st) = _
      rw [begin_at _ _ _ (by decide), begin_plain (by decide) hm (by decide) (by decide)]
      show fin (wordP (.bool false) [102, 97, 108, 115, 101] ([102, 97, 108, 115, 101] ++ rest) (m + 1) st) = _
      rw [word_reads]
  · intro n hn rest m st hm _ he
    simp only [size] at hm ⊢
    rw [fin_more]
    show fin (beginP (Lib.itoa n ++ rest) m st) = _
    obtain ⟨e1, e2, e3⟩ := num_reads (by simpa only [wf] using hn) he
    obtain ⟨c, t, hc, hd⟩ := num_head n
    have hb : starts c = true ∧ blank c = false ∧ c ≠ 91 ∧ c ≠ 123 ∧ c ≠ 34 ∧ c ≠ 116 ∧ c ≠ 102 ∧ c ≠ 110 := by
      rcases hd with rfl | hd
      · decide
      · have := digit_starts hd
        exact ⟨this.1, this.2.1, this.2.2.2.1, this.2.2.2.2.1, this.2.2.2.2.2.1, this.2.2.2.2.2.2.1, this.2.2.2.2.2.2.2.1, this.2.2.2.2.2.2.2.2⟩
    obtain ⟨b1, b2, b3, b4, b5, b6, b7, b8⟩ := hb
    rw [hc] at e1 e2 e3 ⊢
    rw [show c :: t ++ rest = c :: (t ++ rest) from rfl] at e1 e2 e3 ⊢
    rw [begin_at _ _ _ b2, begin_plain b1 hm b3 b4]
    unfold plainP
    rw [if_neg b5, if_neg b6, if_neg b7, if_neg b8, if_pos e1, e2, e3]
  · intro s hs rest m st hm _ _
    simp only [size] at hm ⊢
    rw [fin_more]
    have : text (.str s) ++ rest = 34 :: (s.flatMap escB ++ 34 :: rest) := by rw [text]; unfold quote; simp
    rw [this, begin_at _ _ _ (by decide), begin_plain (by decide) hm (by decide) (by decide)]
    unfold plainP
    rw [if_pos rfl, List.tail_cons, quote_reads s rest (by simpa only [wf] using hs)]
  · intro l ih hw rest m st hm hd _
    simp only [wf] at hw
    simp only [size] at hm ⊢
    simp only [deep] at hd
    rw [fin_more]
    have e0 : text (.list l) ++ rest = 91 :: (Lib.join (textL l) [44] ++ 93 :: rest) := by rw [text]; simp
    rw [e0, begin_at _ _ _ (by decide)]
    unfold beginC
    rw [if_neg (by decide), if_neg (by omega), if_neg (by rintro ⟨_, h⟩; omega), if_pos rfl]
    cases l with
    | nil =>
      have e1 : skip (Lib.join (textL []) [44] ++ 93 :: rest) = 93 :: rest := skip_of _ (by decide)
      rw [e1, List.head?_cons, if_pos rfl]
      rfl
    | cons v r =>
      have hh : ∃ c t, Lib.join (textL (v :: r)) [44] ++ 93 :: rest = c :: t ∧ blank c = false ∧ c ≠ 93 := by
        obtain ⟨c, t, h1, _, h2, h3⟩ := text_head v
        rw [textL]
        cases hr : textL r with
        | nil => rw [joinB_one, h1]; exact ⟨c, _, rfl, h2, h3⟩
        | cons y q => rw [joinB_more, h1]; exact ⟨c, _, rfl, h2, h3⟩
      obtain ⟨c, t, h1, h2, h3⟩ := hh
      have := ih hw (by simp) [] rest (m + 1) st (by omega) (by omega)
      rw [h1] at this ⊢
      rw [skip_of _ h2, if_neg (by simpa using h3), this, Nat.add_assoc]
      rfl
  · intro l ih hw rest m st hm hd _
    simp only [wf] at hw
    simp only [size] at hm ⊢
    simp only [deep] at hd
    rw [fin_more]
    have e0 : text (.obj l) ++ rest = 123 :: (Lib.join (textF l) [44] ++ 125 :: rest) := by rw [text]; simp
    rw [e0, begin_at _ _ _ (by decide)]
    unfold beginC
    rw [if_neg (by decide), if_neg (by omega), if_neg (by rintro ⟨_, h⟩; omega), if_neg (by decide), if_pos rfl]
    cases l with
    | nil =>
      have e1 : skip (Lib.join (textF []) [44] ++ 125 :: rest) = 125 :: rest := skip_of _ (by decide)
      rw [e1, List.head?_cons, if_pos rfl]
      rfl
    | cons x r =>
      obtain ⟨n, v⟩ := x
      have hh : ∃ t, Lib.join (textF ((n, v) :: r)) [44] ++ 125 :: rest = 34 :: t := by
        rw [textF]
        cases hr : textF r with
        | nil => rw [joinB_one]; exact ⟨_, rfl⟩
        | cons y q => rw [joinB_more]; exact ⟨_, rfl⟩
      obtain ⟨t, h1⟩ := hh
      have := ih hw.2 (by simp) [] rest (m + 1) st (by simpa using hw.1) (by omega) (by omega)
      rw [h1] at this ⊢
      rw [skip_of _ (by decide), if_neg (by simp), this, Nat.add_assoc]
      rfl
  · intro _ h; exact absurd rfl h
  · intro v r ihv ihr hw _ d rest m st hm hd
    rw [wfL] at hw
    rw [sizeL] at hm ⊢
    rw [deepL] at hd
    cases r with
    | nil =>
      rw [textL, textL, joinB_one]
      rw [ihv hw.1 (93 :: rest) m (.lst d :: st) (by omega) (by simp only [List.length_cons]; omega) (endOK_of _ _ (by decide)), fin_whole]
      unfold goesP
      dsimp only
      rw [skip_of _ (by decide)]
      dsimp only
      rw [if_pos rfl, sizeL]
      rfl
    | cons x q =>
      have e0 : Lib.join (textL (v :: x :: q)) [44] ++ 93 :: rest = text v ++ (44 :: (Lib.join (textL (x :: q)) [44] ++ 93 :: rest)) := by
        rw [textL, textL, joinB_more]; simp
      rw [e0, ihv hw.1 _ m (.lst d :: st) (by omega) (by simp only [List.length_cons]; omega) (endOK_of _ _ (by decide)), fin_whole]
      unfold goesP
      dsimp only
      rw [skip_of _ (by decide)]
      dsimp only
      rw [if_neg (by decide), if_pos rfl]
      rw [ihr hw.2 (by simp) (d ++ [v]) rest (m + size v) st (by omega) (by omega), Nat.add_assoc]
      simp
  · intro _ h; exact absurd rfl h
  · intro n v r ihv ihr hw _ d rest m st hs hm hd
    rw [wfF] at hw
    rw [sizeF] at hm ⊢
    rw [deepF] at hd
    have hlt : ∀ x ∈ d, x.1 < n := fun x hx => (List.pairwise_append.1 hs).2.2 x hx (n, v) (List.mem_cons_self ..)
    have hg : get n d = none := get_none fun x hx e => bs_irrefl n (by have := hlt x hx; rwa [e] at this)
    have step : ∀ tail : Bs, (∃ c t, tail = c :: t ∧ digit c = false) → fin (fieldP (quote n ++ 58 :: (text v ++ tail)) m d st) = fin (.whole v tail (m + size v) (.ob d n :: st)) := by
      rintro tail ⟨c, t, rfl, hc⟩
      have e1 : quote n ++ 58 :: (text v ++ c :: t) = 34 :: (n.flatMap escB ++ 34 :: 58 :: (text v ++ c :: t)) := by unfold quote; simp
      rw [e1]
      unfold fieldP
      rw [skip_of _ (by decide)]
      dsimp only
      rw [if_pos rfl, quote_reads n _ hw.1]
      dsimp only
      unfold fieldN
      rw [hg, if_neg (by simp), skip_of _ (by decide)]
      dsimp only
      rw [if_pos rfl]
      exact ihv hw.2.1 _ m _ (by omega) (by simp only [List.length_cons]; omega) (endOK_of _ _ hc)
    cases r with
    | nil =>
      have e0 : Lib.join (textF [(n, v)]) [44] ++ 125 :: rest = quote n ++ 58 :: (text v ++ 125 :: rest) := by
        rw [textF, textF, joinB_one]; simp
      rw [e0, step _ ⟨125, rest, rfl, by decide⟩, fin_whole]
      unfold goesP
      dsimp only
      rw [skip_of _ (by decide)]
      dsimp only
      rw [if_pos rfl, put_end hlt, sizeF]
      rfl
    | cons x q =>
      obtain ⟨k, u⟩ := x
      have e0 : Lib.join (textF ((n, v) :: (k, u) :: q)) [44] ++ 125 :: rest = quote n ++ 58 :: (text v ++ (44 :: (Lib.join (textF ((k, u) :: q)) [44] ++ 125 :: rest))) := by
        rw [textF, textF, joinB_more]; simp
      rw [e0, step _ ⟨44, _, rfl, by decide⟩, fin_whole]
      unfold goesP
      dsimp only
      rw [skip_of _ (by decide)]
      dsimp only
      rw [if_neg (by decide), if_pos rfl, put_end hlt]
      rw [ihr hw.2.2 (by simp) (d ++ [(n, v)]) rest (m + size v) st (by simpa using hs) (by omega) (by omega), Nat.add_assoc]
      simp
/-- what is told is read -/
theorem read_text {v : JV} (h : wf v) (hs : size v ≤ 200) (hd : deep v ≤ 10) (hl : (text v).length ≤ 2000) : readL (text v) = (v, 0) := by
  unfold readL
  rw [if_neg (by omega)]
  have := reads.1 v h [] 0 [] (by omega) (by simpa using hd) (by
    unfold EndOK
    split
    · intro c t he; cases he
    · trivial)
  rw [List.append_nil] at this
  rw [this, fin_end, skip_nil, if_pos rfl]
end JP
end Go.Proofs.YtaddcchpidpbfaaDoor
