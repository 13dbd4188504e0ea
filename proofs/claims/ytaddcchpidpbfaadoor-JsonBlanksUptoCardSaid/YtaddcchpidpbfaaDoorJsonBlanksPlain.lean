/- json: blanks ahead and behind. -/
import Derived.Test.YtaddcchpidpbfaaDoorJsonCutPlain
import Derived.Test.YtaddcchpidpbfaaDoorJsonCanon
namespace Go.Proofs.YtaddcchpidpbfaaDoor
open Go
namespace JP
def tailE : Bs := [9, 32, 10]
def ext : R → R
  | .bad e => .bad e
  | .more r m st => .more (r ++ tailE) m st
  | .whole v r m st => .whole v (r ++ tailE) m st
theorem skip_ext_nil : ∀ {r : Bs}, skip r = [] → skip (r ++ tailE) = []
  | [], _ => rfl
  | c :: t, h => by
    cases hb : blank c with
    | false => rw [skip_of t hb] at h; cases h
    | true =>
      rw [skip_blank t hb] at h
      rw [List.cons_append, skip_blank _ hb]
      exact skip_ext_nil h
theorem skip_ext_cons : ∀ {r : Bs} {c : UInt8} {t : Bs}, skip r = c :: t → skip (r ++ tailE) = c :: (t ++ tailE)
  | [], _, _, h => by cases h
  | x :: r, c, t, h => by
    cases hb : blank x with
    | false =>
      rw [skip_of r hb] at h
      cases h
      rw [List.cons_append, skip_of _ hb]
    | true =>
      rw [skip_blank r hb] at h
      rw [List.cons_append, skip_blank _ hb]
      exact skip_ext_cons h
theorem skip_front : ∀ {b : Bs} (r : Bs), b.all blank = true → skip (b ++ r) = skip r
  | [], _, _ => rfl
  | c :: b, r, h => by
    rw [List.all_cons, Bool.and_eq_true] at h
    rw [List.cons_append, skip_blank _ h.1]
    exact skip_front r h.2
theorem textP_ext (r : Bs) : textP (r ++ tailE) = (textP r).map fun x => (x.1, x.2 ++ tailE) := by
  induction r using textP.induct with
  | case1 => rfl
  | case2 r => rw [List.cons_append, textP, textP]; rfl
  | case3 => rfl
  | case4 d r hd => rw [List.cons_append, List.cons_append, textP, hd, textP, hd]; rfl
  | case5 d r c hd ih =>
    rw [List.cons_append, List.cons_append, textP, hd, textP, hd]
    dsimp only
    rw [ih]
    cases textP r <;> rfl
  | case6 c r h1 h2 h3 h4 =>
    have e1 : c ≠ 34 := fun e => h1 e
    by_cases e2 : c = 92
    · subst e2
      cases r with
      | nil => exact absurd rfl (h2 rfl)
      | cons d r' => exact absurd rfl (h3 d r' rfl)
    · rw [List.cons_append, textP_other _ e1 e2, textP_other _ e1 e2, if_pos h4, if_pos h4]; rfl
  | case7 c r h1 h2 h3 h4 ih =>
    have e1 : c ≠ 34 := fun e => h1 e
    by_cases e2 : c = 92
    · subst e2
      cases r with
      | nil => exact absurd rfl (h2 rfl)
      | cons d r' => exact absurd rfl (h3 d r' rfl)
    · rw [List.cons_append, textP_other _ e1 e2, textP_other _ e1 e2, if_neg h4, if_neg h4, ih]
      cases textP r <;> rfl
theorem word_ext {v : JV} {p r : Bs} {m : Nat} {st : List Fr} (hp : (9 : UInt8) ∉ p) : wordP v p (r ++ tailE) m st = ext (wordP v p r m st) := by
  unfold wordP
  by_cases h : p.isPrefixOf r = true
  · have h1 := List.isPrefixOf_iff_prefix.1 h
    rw [if_pos h, if_pos (List.isPrefixOf_iff_prefix.2 (h1.trans (List.prefix_append _ _)))]
    show R.whole v ((r ++ tailE).drop p.length) m st = .whole v (r.drop p.length ++ tailE) m st
    rw [List.drop_append_of_le_length h1.length_le]
  · rw [if_neg h, if_neg]
    · rfl
    · intro h2
      obtain ⟨q, hq⟩ := List.isPrefixOf_iff_prefix.1 h2
      rcases cut_way hq with ⟨a', h3, _⟩ | ⟨c, h3, h4⟩
      · exact h (List.isPrefixOf_iff_prefix.2 ⟨a', h3⟩)
      · cases c with
        | nil => exact h (List.isPrefixOf_iff_prefix.2 ⟨[], by rw [h3]; simp⟩)
        | cons x c' =>
          have h5 : x :: (c' ++ q) = 9 :: [32, 10] := h4
          obtain rfl : x = 9 := (List.cons.inj h5).1
          exact hp (by rw [h3]; simp)
theorem span_ext : ∀ (r : Bs), (r ++ tailE).takeWhile digit = r.takeWhile digit ∧ (r ++ tailE).dropWhile digit = r.dropWhile digit ++ tailE
  | [] => ⟨rfl, rfl⟩
  | c :: t => by
    obtain ⟨h1, h2⟩ := span_ext t
    cases hc : digit c with
    | true =>
      rw [List.cons_append, List.takeWhile_cons_of_pos hc, List.takeWhile_cons_of_pos hc, List.dropWhile_cons_of_pos hc, List.dropWhile_cons_of_pos hc, h1]
      exact ⟨rfl, h2⟩
    | false =>
      have hc' : ¬ digit c = true := by rw [hc]; decide
      rw [List.cons_append, List.takeWhile_cons_of_neg hc', List.takeWhile_cons_of_neg hc', List.dropWhile_cons_of_neg hc', List.dropWhile_cons_of_neg hc']
      exact ⟨rfl, rfl⟩
theorem sgn_ext (c : UInt8) (t : Bs) : sgn (c :: t ++ tailE) = sgn (c :: t) ++ tailE ∧ negB (c :: t ++ tailE) = negB (c :: t) := by
  by_cases h : c = 45
  · subst h; exact ⟨rfl, rfl⟩
  · rw [List.cons_append, (sgn_of _ h).1, (sgn_of _ h).2, (sgn_of _ h).1, (sgn_of _ h).2]
    exact ⟨rfl, rfl⟩
theorem plain_ext (c : UInt8) (t : Bs) (m : Nat) (st : List Fr) : plainP c (c :: t ++ tailE) m st = ext (plainP c (c :: t) m st) := by
  obtain ⟨s1, s2⟩ := sgn_ext c t
  have d1 : digs (c :: t ++ tailE) = digs (c :: t) := by unfold digs; rw [s1, (span_ext _).1]
  have d2 : numR (c :: t ++ tailE) = numR (c :: t) ++ tailE := by unfold numR; rw [s1, (span_ext _).2]
  have d3 : numV (c :: t ++ tailE) = numV (c :: t) := by unfold numV; rw [s2, d1]
  have d4 : numE (c :: t ++ tailE) = numE (c :: t) := by unfold numE; rw [s2, d1]
  unfold plainP
  by_cases h1 : c = 34
  · rw [if_pos h1, if_pos h1]
    rw [List.cons_append, List.tail_cons, List.tail_cons, textP_ext]
    cases textP t <;> rfl
  rw [if_neg h1, if_neg h1]
  by_cases h2 : c = 116
  · rw [if_pos h2, if_pos h2]; exact word_ext (by decide)
  rw [if_neg h2, if_neg h2]
  by_cases h3 : c = 102
  · rw [if_pos h3, if_pos h3]; exact word_ext (by decide)
  rw [if_neg h3, if_neg h3]
  by_cases h4 : c = 110
  · rw [if_pos h4, if_pos h4]; exact word_ext (by decide)
  rw [if_neg h4, if_neg h4, d2, d3, d4]
  by_cases h5 : numE (c :: t) = 0
  · rw [if_pos h5, if_pos h5]; rfl
  · rw [if_neg h5, if_neg h5]; rfl
theorem field_ext (r : Bs) (m : Nat) (d : List (Bs × JV)) (st : List Fr) : fieldP (r ++ tailE) m d st = ext (fieldP r m d st) := by
  unfold fieldP
  cases hs : skip r with
  | nil => rw [skip_ext_nil hs]; rfl
  | cons c t =>
    rw [skip_ext_cons hs]
    dsimp only
    by_cases h : c = 34
    · rw [if_pos h, if_pos h, textP_ext]
      cases textP t with
      | none => rfl
      | some x =>
        show fieldN (r ++ tailE) m d st x.1 (x.2 ++ tailE) = ext (fieldN r m d st x.1 x.2)
        unfold fieldN
        by_cases hg : (get x.1 d).isSome = true
        · rw [if_pos hg, if_pos hg]; rfl
        · rw [if_neg hg, if_neg hg]
          cases hs2 : skip x.2 with
          | nil => rw [skip_ext_nil hs2]; rfl
          | cons c' t' =>
            rw [skip_ext_cons hs2]
            dsimp only
            by_cases h58 : c' = 58
            · rw [if_pos h58, if_pos h58]; rfl
            · rw [if_neg h58, if_neg h58]; rfl
    · rw [if_neg h, if_neg h]; rfl
theorem goes_ext (v : JV) (r : Bs) (m : Nat) (f : Fr) (st : List Fr) : goesP v (r ++ tailE) m f st = ext (goesP v r m f st) := by
  unfold goesP
  cases f with
  | lst d =>
    dsimp only
    cases hs : skip r with
    | nil => rw [skip_ext_nil hs]; rfl
    | cons c t =>
      rw [skip_ext_cons hs]
      dsimp only
      by_cases h : c = 93
      · rw [if_pos h, if_pos h]; rfl
      · rw [if_neg h, if_neg h]
        by_cases h2 : c = 44
        · rw [if_pos h2, if_pos h2]; rfl
        · rw [if_neg h2, if_neg h2]; rfl
  | ob d n =>
    dsimp only
    cases hs : skip r with
    | nil => rw [skip_ext_nil hs]; rfl
    | cons c t =>
      rw [skip_ext_cons hs]
      dsimp only
      by_cases h : c = 125
      · rw [if_pos h, if_pos h]; rfl
      · rw [if_neg h, if_neg h]
        by_cases h2 : c = 44
        · rw [if_pos h2, if_pos h2]; exact field_ext _ _ _ _
        · rw [if_neg h2, if_neg h2]; rfl
theorem more_tail (m : Nat) (st : List Fr) : fin (.more tailE m st) = (.nul, 3) := by rw [fin_more]; exact fin_bad 3
theorem begin_ext (r : Bs) (m : Nat) (st : List Fr) : fin (beginP (r ++ tailE) m st) = fin (ext (beginP r m st)) := by
  unfold beginP
  cases hs : skip r with
  | nil => rw [skip_ext_nil hs]; rfl
  | cons c t =>
    rw [skip_ext_cons hs]
    dsimp only
    unfold beginC
    by_cases h1 : starts c = false
    · rw [if_pos h1, if_pos h1]; rfl
    rw [if_neg h1, if_neg h1]
    by_cases h2 : 200 < m + 1
    · rw [if_pos h2, if_pos h2]; rfl
    rw [if_neg h2, if_neg h2]
    by_cases h3 : (c = 91 ∨ c = 123) ∧ st.length = 10
    · rw [if_pos h3, if_pos h3]; rfl
    rw [if_neg h3, if_neg h3]
    by_cases h4 : c = 91
    · rw [if_pos h4, if_pos h4]
      cases ht : skip t with
      | nil =>
        rw [skip_ext_nil ht]
        show fin (.more [] (m + 1) (.lst [] :: st)) = fin (.more tailE (m + 1) (.lst [] :: st))
        rw [more_nil, more_tail]
      | cons x t' =>
        rw [skip_ext_cons ht, List.head?_cons, List.head?_cons]
        by_cases h5 : some x = some (93 : UInt8)
        · rw [if_pos h5, if_pos h5]; rfl
        · rw [if_neg h5, if_neg h5]; rfl
    rw [if_neg h4, if_neg h4]
    by_cases h6 : c = 123
    · rw [if_pos h6, if_pos h6]
      cases ht : skip t with
      | nil => rw [skip_ext_nil ht]; rfl
      | cons x t' =>
        rw [skip_ext_cons ht, List.head?_cons, List.head?_cons]
        by_cases h5 : some x = some (125 : UInt8)
        · rw [if_pos h5, if_pos h5]; rfl
        · rw [if_neg h5, if_neg h5]
          exact congrArg fin (field_ext (x :: t') (m + 1) [] st)
    rw [if_neg h6, if_neg h6]
    exact congrArg fin (plain_ext c t (m + 1) st)
theorem fin_ext (x : R) : fin (ext x) = fin x := by
  induction x using fin.induct with
  | case1 e => rfl
  | case2 r m st ih =>
    show fin (.more (r ++ tailE) m st) = _
    rw [fin_more, begin_ext, ih, fin_more]
  | case3 v r m hr =>
    show fin (.whole v (r ++ tailE) m []) = _
    rw [fin_end, fin_end, if_pos (skip_ext_nil hr), if_pos hr]
  | case4 v r m hr =>
    show fin (.whole v (r ++ tailE) m []) = _
    cases hs : skip r with
    | nil => exact absurd hs hr
    | cons c t => rw [fin_end, fin_end, skip_ext_cons hs, if_neg (by simp), if_neg hr]
  | case5 v r m f st ih =>
    show fin (.whole v (r ++ tailE) m (f :: st)) = _
    rw [fin_whole, goes_ext, ih, fin_whole]
theorem read_blanks {b s : Bs} (hb : b.all blank = true) (hl : (b ++ s ++ tailE).length ≤ 2000) (hl2 : s.length ≤ 2000) : readL (b ++ s ++ tailE) = readL s := by
  unfold readL
  rw [if_neg (by omega), if_neg (by omega)]
  have h1 : fin (.more (b ++ s ++ tailE) 0 []) = fin (.more (b ++ s) 0 []) := fin_ext (.more (b ++ s) 0 [])
  rw [h1, fin_more, fin_more]
  unfold beginP
  rw [skip_front s hb]
theorem read_box : readL [91, 32, 93] = (.list [], 0) := by
  unfold readL
  rw [if_neg (by decide), fin_more, show beginP [91, 32, 93] 0 [] = .whole (.list []) [] 1 [] from rfl, fin_end, skip_nil, if_pos rfl]
end JP
end Go.Proofs.YtaddcchpidpbfaaDoor
