/- json: what does not fit is too large or too deep. -/
import Derived.Test.YtaddcchpidpbfaaDoorJsonLaws
namespace Go.Proofs.YtaddcchpidpbfaaDoor
open Go
namespace JP
def Fails (x : JV × Int) (a b : Prop) : Prop := (x = (.nul, 2) ∧ a) ∨ (x = (.nul, 4) ∧ b)
theorem Fails.mono {x : JV × Int} {a b a' b' : Prop} (h : Fails x a b) (ha : a → a') (hb : b → b') : Fails x a' b' := by
  rcases h with ⟨h1, h2⟩ | ⟨h1, h2⟩
  · exact .inl ⟨h1, ha h2⟩
  · exact .inr ⟨h1, hb h2⟩
theorem fails_many {v : JV} {rest : Bs} {m : Nat} {st : List Fr} (h : 200 < m + 1) : fin (.more (text v ++ rest) m st) = (.nul, 2) := by
  obtain ⟨c, t, h1, h2, h3, _⟩ := text_head v
  rw [fin_more, h1, List.cons_append, begin_at _ _ _ h3]
  unfold beginC
  rw [if_neg (by simp [h2]), if_pos h, fin_bad]
theorem fails_leaf {v : JV} {rest : Bs} {m : Nat} {st : List Fr} (hs : size v = 1) (hd : deep v = 0) (hst : st.length ≤ 10) (h : ¬ (m + size v ≤ 200 ∧ deep v + st.length ≤ 10)) : Fails (fin (.more (text v ++ rest) m st)) (200 < m + size v) (10 < deep v + st.length) := by
  have : 200 < m + 1 := by
    rcases Nat.lt_or_ge 200 (m + 1) with h1 | h1
    · exact h1
    · exact absurd ⟨by omega, by omega⟩ h
  exact .inl ⟨fails_many this, by omega⟩
theorem fails : (∀ v, wf v → ∀ (rest : Bs) (m : Nat) (st : List Fr), st.length ≤ 10 → EndOK v rest → ¬ (m + size v ≤ 200 ∧ deep v + st.length ≤ 10) → Fails (fin (.more (text v ++ rest) m st)) (200 < m + size v) (10 < deep v + st.length)) ∧
    (∀ l, wfL l → l ≠ [] → ∀ (d : List JV) (rest : Bs) (m : Nat) (st : List Fr), st.length + 1 ≤ 10 → ¬ (m + sizeL l ≤ 200 ∧ deepL l + st.length + 1 ≤ 10) → Fails (fin (.more (Lib.join (textL l) [44] ++ 93 :: rest) m (.lst d :: st))) (200 < m + sizeL l) (10 < deepL l + st.length + 1)) ∧
    (∀ l, wfF l → l ≠ [] → ∀ (d : List (Bs × JV)) (rest : Bs) (m : Nat) (st : List Fr), Srt (d ++ l) → st.length + 1 ≤ 10 → ¬ (m + sizeF l ≤ 200 ∧ deepF l + st.length + 1 ≤ 10) → Fails (fin (fieldP (Lib.join (textF l) [44] ++ 125 :: rest) m d st)) (200 < m + sizeF l) (10 < deepF l + st.length + 1)) := by
  refine JV.both ?_ ?_ ?_ ?_ ?_ ?_ ?_ ?_ ?_ ?_
  · intro _ rest m st hst _ h; exact fails_leaf (by simp only [size]) (by simp only [deep]) hst h
  · intro b _ rest m st hst _ h; exact fails_leaf (by simp only [size]) (by simp only [deep]) hst h
  · intro b _ rest m st hst _ h; exact fails_leaf (by simp only [size]) (by simp only [deep]) hst h
  · intro b _ rest m st hst _ h; exact fails_leaf (by simp only [size]) (by simp only [deep]) hst h
  · intro l ih hw rest m st hst _ h
    simp only [wf] at hw
    have e0 : text (.list l) ++ rest = 91 :: (Lib.join (textL l) [44] ++ 93 :: rest) := by rw [text]; simp
    simp only [size, deep] at h ⊢
    by_cases h1 : 200 < m + 1
    · exact .inl ⟨fails_many h1, by omega⟩
    by_cases h2 : st.length = 10
    · refine .inr ⟨?_, by omega⟩
      rw [fin_more, e0, begin_at _ _ _ (by decide)]
      unfold beginC
      rw [if_neg (by decide), if_neg h1, if_pos ⟨by decide, h2⟩, fin_bad]
    cases l with
    | nil => exact absurd ⟨by simp only [sizeL]; omega, by simp only [deepL]; omega⟩ h
    | cons v r =>
      have hh : ∃ c t, Lib.join (textL (v :: r)) [44] ++ 93 :: rest = c :: t ∧ blank c = false ∧ c ≠ 93 := by
        obtain ⟨c, t, h1, _, h2, h3⟩ := text_head v
        rw [textL]
        cases hr : textL r with
        | nil => rw [joinB_one, h1]; exact ⟨c, _, rfl, h2, h3⟩
        | cons y q => rw [joinB_more, h1]; exact ⟨c, _, rfl, h2, h3⟩
      obtain ⟨c, t, g1, g2, g3⟩ := hh
      have := ih hw (by simp) [] rest (m + 1) st (by omega) (by omega)
      rw [fin_more, e0, begin_at _ _ _ (by decide)]
      unfold beginC
      rw [if_neg (by decide), if_neg h1, if_neg (fun e => h2 e.2), if_pos rfl]
      rw [g1] at this ⊢
      rw [skip_of _ g2, if_neg (by simpa using g3)]
      exact this.mono (by omega) (by omega)
  · intro l ih hw rest m st hst _ h
    simp only [wf] at hw
    have e0 : text (.obj l) ++ rest = 123 :: (Lib.join (textF l) [44] ++ 125 :: rest) := by rw [text]; simp
    simp only [size, deep] at h ⊢
    by_cases h1 : 200 < m + 1
    · exact .inl ⟨fails_many h1, by omega⟩
    by_cases h2 : st.length = 10
    · refine .inr ⟨?_, by omega⟩
      rw [fin_more, e0, begin_at _ _ _ (by decide)]
      unfold beginC
      rw [if_neg (by decide), if_neg h1, if_pos ⟨by decide, h2⟩, fin_bad]
    cases l with
    | nil => exact absurd ⟨by simp only [sizeF]; omega, by simp only [deepF]; omega⟩ h
    | cons x r =>
      obtain ⟨n, v⟩ := x
      have hh : ∃ t, Lib.join (textF ((n, v) :: r)) [44] ++ 125 :: rest = 34 :: t := by
        rw [textF]
        cases hr : textF r with
        | nil => rw [joinB_one]; exact ⟨_, rfl⟩
        | cons y q => rw [joinB_more]; exact ⟨_, rfl⟩
      obtain ⟨t, g1⟩ := hh
      have := ih hw.2 (by simp) [] rest (m + 1) st (by simpa using hw.1) (by omega) (by omega)
      rw [fin_more, e0, begin_at _ _ _ (by decide)]
      unfold beginC
      rw [if_neg (by decide), if_neg h1, if_neg (fun e => h2 e.2), if_neg (by decide), if_pos rfl]
      rw [g1] at this ⊢
      rw [skip_of _ (by decide), if_neg (by simp)]
      exact this.mono (by omega) (by omega)
  · intro _ h; exact absurd rfl h
  · intro v r ihv ihr hw _ d rest m st hst h
    rw [wfL] at hw
    rw [sizeL, deepL] at h ⊢
    by_cases hf : m + size v ≤ 200 ∧ deep v + (st.length + 1) ≤ 10
    · cases r with
      | nil => exact absurd ⟨by simp only [sizeL]; omega, by simp only [deepL]; omega⟩ h
      | cons x q =>
        have e0 : Lib.join (textL (v :: x :: q)) [44] ++ 93 :: rest = text v ++ (44 :: (Lib.join (textL (x :: q)) [44] ++ 93 :: rest)) := by
          rw [textL, textL, joinB_more]; simp
        rw [e0, reads.1 v hw.1 _ m (.lst d :: st) (by omega) (by simp only [List.length_cons]; omega) (endOK_of _ _ (by decide)), fin_whole]
        unfold goesP
        dsimp only
        rw [skip_of _ (by decide)]
        dsimp only
        rw [if_neg (by decide), if_pos rfl]
        exact (ihr hw.2 (by simp) (d ++ [v]) rest (m + size v) st hst (by omega)).mono (by omega) (by omega)
    · have e0 : ∃ c t, Lib.join (textL (v :: r)) [44] ++ 93 :: rest = text v ++ c :: t ∧ digit c = false := by
        rw [textL]
        cases hr : textL r with
        | nil => rw [joinB_one]; exact ⟨93, rest, rfl, by decide⟩
        | cons y q => rw [joinB_more]; exact ⟨44, Lib.join (y :: q) [44] ++ 93 :: rest, by simp, by decide⟩
      obtain ⟨c, t, e0, hc⟩ := e0
      rw [e0]
      exact (ihv hw.1 (c :: t) m (.lst d :: st) (by simp only [List.length_cons]; omega) (endOK_of _ _ hc) (by simp only [List.length_cons]; omega)).mono (by omega) (by simp only [List.length_cons]; omega)
  · intro _ h; exact absurd rfl h
  · intro n v r ihv ihr hw _ d rest m st hs hst h
    rw [wfF] at hw
    rw [sizeF, deepF] at h ⊢
    have hlt : ∀ x ∈ d, x.1 < n := fun x hx => (List.pairwise_append.1 hs).2.2 x hx (n, v) (List.mem_cons_self ..)
    have hg : get n d = none := get_none fun x hx e => bs_irrefl n (by have := hlt x hx; rwa [e] at this)
    have step : ∀ tail : Bs, fieldP (quote n ++ 58 :: (text v ++ tail)) m d st = .more (text v ++ tail) m (.ob d n :: st) := by
      intro tail
      have e1 : quote n ++ 58 :: (text v ++ tail) = 34 :: (n.flatMap escB ++ 34 :: 58 :: (text v ++ tail)) := by unfold quote; simp
      rw [e1]
      unfold fieldP
      rw [skip_of _ (by decide)]
      dsimp only
      rw [if_pos rfl, quote_reads n _ hw.1]
      dsimp only
      unfold fieldN
      rw [hg, if_neg (by simp), skip_of _ (by decide)]
      dsimp only
      rw [if_pos rfl]
    by_cases hf : m + size v ≤ 200 ∧ deep v + (st.length + 1) ≤ 10
    · cases r with
      | nil => exact absurd ⟨by simp only [sizeF]; omega, by simp only [deepF]; omega⟩ h
      | cons x q =>
        obtain ⟨k, u⟩ := x
        have e0 : Lib.join (textF ((n, v) :: (k, u) :: q)) [44] ++ 125 :: rest = quote n ++ 58 :: (text v ++ (44 :: (Lib.join (textF ((k, u) :: q)) [44] ++ 125 :: rest))) := by
          rw [textF, textF, joinB_more]; simp
        rw [e0, step, reads.1 v hw.2.1 _ m (.ob d n :: st) (by omega) (by simp only [List.length_cons]; omega) (endOK_of _ _ (by decide)), fin_whole]
        unfold goesP
        dsimp only
        rw [skip_of _ (by decide)]
        dsimp only
        rw [if_neg (by decide), if_pos rfl, put_end hlt]
        exact (ihr hw.2.2 (by simp) (d ++ [(n, v)]) rest (m + size v) st (by simpa using hs) hst (by omega)).mono (by omega) (by omega)
    · have e0 : ∃ c t, Lib.join (textF ((n, v) :: r)) [44] ++ 125 :: rest = quote n ++ 58 :: (text v ++ c :: t) ∧ digit c = false := by
        rw [textF]
        cases hr : textF r with
        | nil => rw [joinB_one]; exact ⟨125, rest, by simp, by decide⟩
        | cons y q => rw [joinB_more]; exact ⟨44, Lib.join (y :: q) [44] ++ 125 :: rest, by simp, by decide⟩
      obtain ⟨c, t, e0, hc⟩ := e0
      rw [e0, step]
      exact (ihv hw.2.1 (c :: t) m (.ob d n :: st) (by simp only [List.length_cons]; omega) (endOK_of _ _ hc) (by simp only [List.length_cons]; omega)).mono (by omega) (by simp only [List.length_cons]; omega)
/-- a whole document that does not fit -/
theorem read_fails {v : JV} (h : wf v) (hl : (text v).length ≤ 2000) (hf : ¬ (size v ≤ 200 ∧ deep v ≤ 10)) : Fails (readL (text v)) (200 < size v) (10 < deep v) := by
  unfold readL
  rw [if_neg (by omega)]
  have := fails.1 v h [] 0 [] (by simp) (by
    unfold EndOK
    split
    · intro c t he; cases he
    · trivial) (by simpa using hf)
  rw [List.append_nil] at this
  exact this.mono (by omega) (by simp)
end JP
end Go.Proofs.YtaddcchpidpbfaaDoor
