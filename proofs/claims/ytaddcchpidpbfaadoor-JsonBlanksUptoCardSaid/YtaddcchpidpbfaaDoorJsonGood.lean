/- json: what is read is a value that stands, within the bounds, and is told by no more bytes. -/
import Derived.Test.YtaddcchpidpbfaaDoorJsonLaws
namespace Go.Proofs.YtaddcchpidpbfaaDoor
open Go
namespace JP
def lenL : List JV → Nat
  | [] => 0
  | v :: r => (text v).length + 1 + lenL r
def lenF : List (Bs × JV) → Nat
  | [] => 0
  | (n, v) :: r => (quote n).length + 1 + (text v).length + 1 + lenF r
theorem lenL_append (a b : List JV) : lenL (a ++ b) = lenL a + lenL b := by
  induction a with
  | nil => simp [lenL]
  | cons v r ih => simp only [List.cons_append, lenL, ih]; omega
theorem sizeL_append (a b : List JV) : sizeL (a ++ b) = sizeL a + sizeL b := by
  induction a with
  | nil => simp [sizeL]
  | cons v r ih => simp only [List.cons_append, sizeL, ih]; omega
theorem deepL_append (a b : List JV) : deepL (a ++ b) = max (deepL a) (deepL b) := by
  induction a with
  | nil => simp [deepL]
  | cons v r ih => simp only [List.cons_append, deepL, ih]; omega
theorem wfL_append {a b : List JV} : wfL (a ++ b) ↔ wfL a ∧ wfL b := by
  induction a with
  | nil => simp [wfL]
  | cons v r ih => simp only [List.cons_append, wfL, ih, and_assoc]
theorem join_len (l : List JV) : (Lib.join (textL l) [44]).length + 1 = lenL l ∨ l = [] := by
  induction l with
  | nil => exact .inr rfl
  | cons v r ih =>
    refine .inl ?_
    cases r with
    | nil => simp [textL, joinB_one, lenL]
    | cons x q =>
      have h := ih.resolve_right (by simp)
      rw [textL] at h
      rw [textL, textL, joinB_more, lenL]
      simp only [List.length_append, List.length_cons, List.length_nil] at h ⊢
      omega
theorem join_lenF (l : List (Bs × JV)) : (Lib.join (textF l) [44]).length + 1 = lenF l ∨ l = [] := by
  induction l with
  | nil => exact .inr rfl
  | cons x r ih =>
    obtain ⟨n, v⟩ := x
    refine .inl ?_
    cases r with
    | nil => simp [textF, joinB_one, lenF]; omega
    | cons x q =>
      obtain ⟨k, u⟩ := x
      have h := ih.resolve_right (by simp)
      rw [textF] at h
      rw [textF, textF, joinB_more, lenF]
      simp only [List.length_append, List.length_cons, List.length_nil] at h ⊢
      omega
theorem text_list_len (l : List JV) : (text (.list l)).length ≤ 1 + lenL l ∨ (l = [] ∧ (text (.list l)).length = 2) := by
  rcases join_len l with h | rfl
  · refine .inl ?_
    rw [text]; simp only [List.length_cons, List.length_append, List.length_nil]; omega
  · exact .inr ⟨rfl, by rw [text]; rfl⟩
theorem text_obj_len (l : List (Bs × JV)) : (text (.obj l)).length ≤ 1 + lenF l ∨ (l = [] ∧ (text (.obj l)).length = 2) := by
  rcases join_lenF l with h | rfl
  · refine .inl ?_
    rw [text]; simp only [List.length_cons, List.length_append, List.length_nil]; omega
  · exact .inr ⟨rfl, by rw [text]; rfl⟩
/-! put -/
theorem put_len (n : Bs) (v : JV) : ∀ d, get n d = none → lenF (put n v d) = lenF d + ((quote n).length + 1 + (text v).length + 1)
  | [], _ => by simp [put, lenF]
  | (m, x) :: r, h => by
    unfold get at h
    by_cases e : m = n
    · rw [if_pos e] at h; cases h
    · rw [if_neg e] at h
      unfold put
      split
      · simp only [lenF, put_len n v r h]; omega
      · simp only [lenF]; omega
theorem put_size (n : Bs) (v : JV) : ∀ d, get n d = none → sizeF (put n v d) = sizeF d + size v
  | [], _ => by simp [put, sizeF]
  | (m, x) :: r, h => by
    unfold get at h
    by_cases e : m = n
    · rw [if_pos e] at h; cases h
    · rw [if_neg e] at h
      unfold put
      split
      · simp only [sizeF, put_size n v r h]; omega
      · simp only [sizeF]; omega
theorem put_deep (n : Bs) (v : JV) : ∀ d, deepF (put n v d) ≤ max (deepF d) (deep v)
  | [] => by simp [put, deepF]
  | (m, x) :: r => by
    unfold put
    split
    · simp only [deepF]; have := put_deep n v r; omega
    · split
      · simp only [deepF]; omega
      · simp only [deepF]; omega
theorem put_wf {n : Bs} {v : JV} (hn : n.all stand = true) (hv : wf v) : ∀ {d}, wfF d → wfF (put n v d)
  | [], _ => by simp only [put, wfF]; exact ⟨hn, hv, trivial⟩
  | (m, x) :: r, h => by
    rw [wfF] at h
    unfold put
    split
    · rw [wfF]; exact ⟨h.1, h.2.1, put_wf hn hv h.2.2⟩
    · split
      · rw [wfF]; exact ⟨hn, hv, h.2.2⟩
      · rw [wfF, wfF]; exact ⟨hn, hv, h⟩
theorem put_mem {n : Bs} {v : JV} : ∀ {d} {y : Bs × JV}, y ∈ put n v d → y = (n, v) ∨ y ∈ d
  | [], y, h => by simp [put] at h; exact .inl h
  | (m, x) :: r, y, h => by
    unfold put at h
    split at h
    · rcases List.mem_cons.1 h with h | h
      · exact .inr (List.mem_cons.2 (.inl h))
      · rcases put_mem h with h | h
        · exact .inl h
        · exact .inr (List.mem_cons_of_mem _ h)
    · split at h
      · rcases List.mem_cons.1 h with h | h
        · exact .inl h
        · exact .inr (List.mem_cons_of_mem _ h)
      · rcases List.mem_cons.1 h with h | h
        · exact .inl h
        · exact .inr h
theorem bs_trich (a b : Bs) (h1 : ¬ a < b) (h2 : a ≠ b) : b < a := by
  by_cases h : b < a
  · exact h
  · exact absurd (List.le_antisymm (List.not_lt.1 h) (List.not_lt.1 h1)) h2
theorem bs_trans {a b c : Bs} (h : a < b) (k : b < c) : a < c := List.lt_trans h k
theorem put_srt {n : Bs} {v : JV} : ∀ {d}, Srt d → Srt (put n v d)
  | [], _ => by simp [put, Srt]
  | (m, x) :: r, h => by
    obtain ⟨h1, h2⟩ := List.pairwise_cons.1 h
    unfold put
    by_cases c1 : m < n
    · rw [if_pos c1]
      refine List.pairwise_cons.2 ⟨fun y hy => ?_, put_srt h2⟩
      rcases put_mem hy with rfl | hy
      · exact c1
      · exact h1 y hy
    · rw [if_neg c1]
      by_cases c2 : m = n
      · rw [if_pos c2]
        subst c2
        exact List.pairwise_cons.2 ⟨fun y hy => h1 y hy, h2⟩
      · rw [if_neg c2]
        have c3 := bs_trich _ _ c1 c2
        refine List.pairwise_cons.2 ⟨fun y hy => ?_, h⟩
        rcases List.mem_cons.1 hy with rfl | hy
        · exact c3
        · exact bs_trans c3 (h1 y hy)
/-! numbers, texts -/
theorem dec_lt : ∀ (ds : Bs) (acc n : Nat), Lib.decFrom acc ds = some n → n < (acc + 1) * 10 ^ ds.length
  | [], acc, n, h => by simp only [Lib.decFrom, Option.some.injEq] at h; subst h; simp
  | c :: r, acc, n, h => by
    unfold Lib.decFrom at h
    cases hd : Lib.digitVal c with
    | none => rw [hd] at h; cases h
    | some d =>
      rw [hd] at h
      have h1 := dec_lt r _ n h
      have h2 : d < 10 := by
        unfold Lib.digitVal at hd
        split at hd
        · simp only [Option.some.injEq] at hd; omega
        · cases hd
      rw [List.length_cons, Nat.pow_succ, Nat.mul_comm (10 ^ r.length) 10, ← Nat.mul_assoc]
      refine Nat.lt_of_lt_of_le h1 (Nat.mul_le_mul_right _ ?_)
      omega
theorem decV_lt (ds : Bs) : decV ds < 10 ^ ds.length := by
  unfold decV
  cases h : Lib.decFrom 0 ds with
  | none => simp; exact Nat.pos_of_ne_zero (by simp)
  | some n => have := dec_lt ds 0 n h; simpa using this
theorem num_good {r : Bs} (h : numE r = 0) : numOK (numV r) ∧ (Lib.itoa (numV r)).length + (numR r).length ≤ r.length := by
  have h2 : (digs r).length + (numR r).length = (sgn r).length := by
    unfold digs numR
    rw [← List.length_append, List.takeWhile_append_dropWhile]
  have hv := decV_lt (digs r)
  have h0 : 0 < (digs r).length ∧ (digs r).length ≤ 18 := by
    unfold numE at h
    split at h
    · cases h
    · rename_i c t hd
      rw [hd]
      split at h
      · cases h
      · split at h
        · cases h
        · simp at *; omega
  have h18 : (10 : Nat) ^ (digs r).length ≤ 10 ^ 18 := Nat.pow_le_pow_right (by decide) h0.2
  have hn := nDigits_le _ _ h0.1 hv
  have hsg : (sgn r).length + (if negB r = true then 1 else 0) ≤ r.length := by
    unfold sgn negB
    split
    · simp
    · simp
  have hlt : decV (digs r) < 1000000000000000000 := Nat.lt_of_lt_of_le hv (by simpa using h18)
  unfold numV
  by_cases hb : negB r = true
  · rw [if_pos hb] at hsg
    rw [if_pos hb]
    refine ⟨by unfold numOK; omega, ?_⟩
    unfold Lib.itoa
    split
    · rw [List.length_cons, Lib.decDigits_length, show (-(decV (digs r) : Int)).natAbs = decV (digs r) by omega]
      omega
    · rw [Lib.decDigits_length, show (-(decV (digs r) : Int)).toNat = 0 by omega, Lib.nDigits_small (by decide)]
      omega
  · rw [if_neg hb] at hsg
    rw [if_neg hb]
    refine ⟨by unfold numOK; omega, ?_⟩
    unfold Lib.itoa
    rw [if_neg (by omega), Lib.decDigits_length, show ((decV (digs r) : Int)).toNat = decV (digs r) by omega]
    omega
theorem escV_stand {d c : UInt8} (h : escV d = some c) : stand c = true ∧ (escB c).length ≤ 2 := by
  unfold escV at h
  split at h
  · rename_i hd
    cases h
    rcases hd with rfl | rfl <;> decide
  · split at h
    · cases h; decide
    · split at h
      · cases h; decide
      · cases h
theorem textP_good : ∀ (r : Bs) (x : Bs × Bs), textP r = some x → x.1.all stand = true ∧ (x.1.flatMap escB).length + 1 + x.2.length ≤ r.length := by
  intro r
  induction r using textP.induct with
  | case1 => intro x h; simp [textP] at h
  | case2 r => intro x h; simp only [textP, Option.some.injEq] at h; subst h; simp; omega
  | case3 => intro x h; simp [textP] at h
  | case4 d r hd => intro x h; simp [textP, hd] at h
  | case5 d r c hd ih =>
    intro x h
    simp only [textP, hd] at h
    obtain ⟨y, hy, rfl⟩ := Option.map_eq_some_iff.1 h
    obtain ⟨h1, h2⟩ := ih y hy
    obtain ⟨h3, h4⟩ := escV_stand hd
    refine ⟨by simp only [List.all_cons, h3, h1, Bool.and_self], ?_⟩
    simp only [List.flatMap_cons, List.length_append, List.length_cons]
    omega
  | case6 c r h1 h2 h3 h4 => intro x h; rw [textP] at h <;> simp_all
  | case7 c r h1 h2 h3 h4 ih =>
    intro x h
    have c34 : c ≠ 34 := fun e => h1 e
    have c92 : c ≠ 92 := fun e => by
      cases r with
      | nil => exact h2 e rfl
      | cons d t => exact h3 d t e rfl
    rw [textP_other _ c34 c92, if_neg h4] at h
    obtain ⟨y, hy, rfl⟩ := Option.map_eq_some_iff.1 h
    obtain ⟨k1, k2⟩ := ih y hy
    have hc : stand c = true := by
      unfold stand
      have a : 32 ≤ c := UInt8.not_lt.1 fun h => h4 (.inl h)
      have b : c ≤ 126 := UInt8.not_lt.1 fun h => h4 (.inr h)
      simp [a, b]
    have he : (escB c).length = 1 := by
      unfold escB
      have c10 : c ≠ 10 := fun e => by subst e; exact h4 (.inl (by decide))
      have c9 : c ≠ 9 := fun e => by subst e; exact h4 (.inl (by decide))
      rw [if_neg (by simp [c34, c92]), if_neg c10, if_neg c9]; rfl
    refine ⟨by simp only [List.all_cons, hc, k1, Bool.and_self], ?_⟩
    simp only [List.flatMap_cons, List.length_append, List.length_cons]
    omega
theorem quote_len (s : Bs) : (quote s).length = (s.flatMap escB).length + 2 := by unfold quote; simp
/-! the reader's state -/
def frOK : Fr → Prop
  | .lst d => wfL d
  | .ob d n => Srt d ∧ wfF d ∧ n.all stand = true ∧ get n d = none
def wlen : Fr → Nat
  | .lst d => 1 + lenL d
  | .ob d n => 1 + lenF d + (quote n).length + 1
def sizeFr : Fr → Nat
  | .lst d => 1 + sizeL d
  | .ob d _ => 1 + sizeF d
def deepFr : Fr → Nat
  | .lst d => deepL d
  | .ob d _ => deepF d
def StOK : List Fr → Prop
  | [] => True
  | f :: st => frOK f ∧ deepFr f + st.length + 1 ≤ 10 ∧ StOK st
def wlenS (st : List Fr) : Nat := (st.map wlen).sum
def sizeS (st : List Fr) : Nat := (st.map sizeFr).sum
def Inv (N : Nat) : R → Prop
  | .bad e => e ≠ 0
  | .whole v r m st => r.length + (text v).length + wlenS st ≤ N ∧ m = size v + sizeS st ∧ m ≤ 200 ∧ wf v ∧ deep v + st.length ≤ 10 ∧ StOK st
  | .more r m st => r.length + wlenS st ≤ N ∧ m = sizeS st ∧ m ≤ 200 ∧ StOK st
theorem stOK_len {st : List Fr} (h : StOK st) : st.length ≤ 10 := by
  cases st with
  | nil => simp
  | cons f st => have := h.2.1; simp only [List.length_cons]; omega
theorem field_inv {N : Nat} {r : Bs} {m : Nat} {d : List (Bs × JV)} {st : List Fr} (h1 : r.length + (1 + lenF d) + wlenS st ≤ N) (h2 : m = 1 + sizeF d + sizeS st) (h3 : m ≤ 200) (h4 : Srt d) (h5 : wfF d) (h6 : deepF d + st.length + 1 ≤ 10) (h7 : StOK st) : Inv N (fieldP r m d st) := by
  unfold fieldP
  split
  · show (_ : Int) ≠ 0; first | decide | assumption
  · rename_i c t hc
    have hl := skip_cons hc
    split
    · split
      · show (_ : Int) ≠ 0; first | decide | assumption
      · rename_i x hx
        obtain ⟨k1, k2⟩ := textP_good _ _ hx
        unfold fieldN
        split
        · show (_ : Int) ≠ 0; first | decide | assumption
        · rename_i hg
          split
          · show (_ : Int) ≠ 0; first | decide | assumption
          · rename_i c' t' hc'
            have hl' := skip_cons hc'
            split
            · have hq := quote_len x.1
              refine ⟨?_, ?_, h3, ⟨h4, h5, k1, by simpa using hg⟩, h6, h7⟩
              · simp only [wlenS, List.map_cons, List.sum_cons, wlen] at h1 ⊢; omega
              · simp only [sizeS, List.map_cons, List.sum_cons, sizeFr] at h2 ⊢; omega
            · show (_ : Int) ≠ 0; first | decide | assumption
    · show (_ : Int) ≠ 0; first | decide | assumption
theorem word_inv {N : Nat} {v : JV} {p r : Bs} {m : Nat} {st : List Fr} (hp : (text v).length = p.length) (hv : wf v) (hd : deep v = 0) (hs : size v = 1) (h1 : r.length + wlenS st ≤ N) (h2 : m = 1 + sizeS st) (h3 : m ≤ 200) (h7 : StOK st) : Inv N (wordP v p r m st) := by
  unfold wordP
  split
  · rename_i h
    have := (List.isPrefixOf_iff_prefix.1 h).length_le
    refine ⟨by rw [List.length_drop]; omega, by omega, h3, hv, ?_, h7⟩
    have := stOK_len h7
    omega
  · show (_ : Int) ≠ 0; first | decide | assumption
theorem begin_inv {N : Nat} {r : Bs} {m : Nat} {st : List Fr} (h : Inv N (.more r m st)) : Inv N (beginP r m st) := by
  obtain ⟨h1, h2, h3, h7⟩ := h
  have h10 := stOK_len h7
  unfold beginP
  split
  · show (_ : Int) ≠ 0; first | decide | assumption
  · rename_i c t hc
    have hl := skip_cons hc
    have hs := skip_le t
    unfold beginC
    split
    · show (_ : Int) ≠ 0; first | decide | assumption
    · split
      · show (_ : Int) ≠ 0; first | decide | assumption
      · rename_i hm
        split
        · show (_ : Int) ≠ 0; first | decide | assumption
        · rename_i hdp
          split
          · rename_i hc1
            have h9 : st.length ≤ 9 := by
              rcases Nat.lt_or_ge st.length 10 with h | h
              · omega
              · exact absurd ⟨.inl hc1, by omega⟩ hdp
            split
            · rename_i hh
              have : 0 < (skip t).length := by
                cases hk : skip t with
                | nil => rw [hk] at hh; cases hh
                | cons _ _ => simp
              refine ⟨?_, by simp only [size, sizeL]; omega, by omega, by rw [wf]; trivial, by simp only [deep, deepL]; omega, h7⟩
              rw [List.length_tail, text]
              show _ + ([91, 93] : Bs).length + _ ≤ N
              simp only [List.length_cons, List.length_nil]
              omega
            · refine ⟨?_, ?_, by omega, ⟨by show wfL []; rw [wfL]; trivial, by show deepL [] + _ + 1 ≤ 10; rw [deepL]; omega, h7⟩⟩
              · simp only [wlenS, List.map_cons, List.sum_cons, wlen, lenL] at h1 ⊢; omega
              · simp only [sizeS, List.map_cons, List.sum_cons, sizeFr, sizeL] at h2 ⊢; omega
          · split
            · rename_i hc1
              have h9 : st.length ≤ 9 := by
                rcases Nat.lt_or_ge st.length 10 with h | h
                · omega
                · exact absurd ⟨.inr hc1, by omega⟩ hdp
              split
              · rename_i hh
                have : 0 < (skip t).length := by
                  cases hk : skip t with
                  | nil => rw [hk] at hh; cases hh
                  | cons _ _ => simp
                refine ⟨?_, by simp only [size, sizeF]; omega, by omega, by rw [wf, wfF]; exact ⟨List.Pairwise.nil, trivial⟩, by simp only [deep, deepF]; omega, h7⟩
                rw [List.length_tail, text]
                show _ + ([123, 125] : Bs).length + _ ≤ N
                simp only [List.length_cons, List.length_nil]
                omega
              · refine field_inv ?_ ?_ (by omega) List.Pairwise.nil (by rw [wfF]; trivial) (by rw [deepF]; omega) h7
                · rw [lenF]; omega
                · rw [sizeF]; omega
            · unfold plainP
              split
              · split
                · show (_ : Int) ≠ 0; first | decide | assumption
                · rename_i x hx
                  obtain ⟨k1, k2⟩ := textP_good _ _ hx
                  have hq := quote_len x.1
                  rw [List.tail_cons] at k2
                  refine ⟨?_, by simp only [size]; omega, by omega, by rw [wf]; exact k1, by simp only [deep]; omega, h7⟩
                  rw [text]; omega
              · split
                · exact word_inv (by first | (rw [text]; done) | (rw [text]; rfl)) (by rw [wf]; trivial) rfl rfl (by rw [List.length_cons]; omega) (by omega) (by omega) h7
                · split
                  · exact word_inv (by first | (rw [text]; done) | (rw [text]; rfl)) (by rw [wf]; trivial) rfl rfl (by rw [List.length_cons]; omega) (by omega) (by omega) h7
                  · split
                    · exact word_inv (by first | (rw [text]; done) | (rw [text]; rfl)) (by rw [wf]; trivial) rfl rfl (by rw [List.length_cons]; omega) (by omega) (by omega) h7
                    · split
                      · rename_i hn
                        obtain ⟨k1, k2⟩ := num_good hn
                        rw [List.length_cons] at k2
                        refine ⟨?_, by simp only [size]; omega, by omega, by rw [wf]; exact k1, by simp only [deep]; omega, h7⟩
                        rw [text]; omega
                      · show (_ : Int) ≠ 0; first | decide | assumption
theorem goes_inv {N : Nat} {v : JV} {r : Bs} {m : Nat} {f : Fr} {st : List Fr} (h : Inv N (.whole v r m (f :: st))) : Inv N (goesP v r m f st) := by
  obtain ⟨h1, h2, h3, h4, h5, h6, h7, h8⟩ := h
  rw [List.length_cons] at h5
  unfold goesP
  cases f with
  | lst d =>
    simp only [wlenS, sizeS, List.map_cons, List.sum_cons, wlen, sizeFr, deepFr] at h1 h2 h7
    have h6' : wfL d := h6
    have w1 : wfL (d ++ [v]) := wfL_append.2 ⟨h6', by rw [wfL, wfL]; exact ⟨h4, trivial⟩⟩
    have e1 : lenL (d ++ [v]) = lenL d + ((text v).length + 1) := by rw [lenL_append]; simp [lenL]
    have e2 : sizeL (d ++ [v]) = sizeL d + size v := by rw [sizeL_append]; simp [sizeL]
    have e3 : deepL (d ++ [v]) = max (deepL d) (deep v) := by rw [deepL_append]; simp [deepL]
    dsimp only
    split
    · show (_ : Int) ≠ 0; first | decide | assumption
    · rename_i c t hc
      have hl := skip_cons hc
      split
      · refine ⟨?_, ?_, h3, by rw [wf]; exact w1, by rw [deep, e3]; omega, h8⟩
        · rcases text_list_len (d ++ [v]) with h | ⟨h, _⟩
          · unfold wlenS; omega
          · simp at h
        · rw [size, e2]; unfold sizeS; omega
      · split
        · refine ⟨?_, ?_, h3, ⟨w1, by show deepL _ + _ + 1 ≤ 10; rw [e3]; omega, h8⟩⟩
          · simp only [wlenS, List.map_cons, List.sum_cons, wlen]; omega
          · simp only [sizeS, List.map_cons, List.sum_cons, sizeFr]; omega
        · show (_ : Int) ≠ 0; first | decide | assumption
  | ob d n =>
    simp only [wlenS, sizeS, List.map_cons, List.sum_cons, wlen, sizeFr, deepFr] at h1 h2 h7
    obtain ⟨k1, k2, k3, k4⟩ : Srt d ∧ wfF d ∧ n.all stand = true ∧ get n d = none := h6
    have w1 := put_wf k3 h4 k2
    have w2 : Srt (put n v d) := put_srt k1
    have e1 := put_len n v d k4
    have e2 := put_size n v d k4
    have e3 := put_deep n v d
    dsimp only
    split
    · show (_ : Int) ≠ 0; first | decide | assumption
    · rename_i c t hc
      have hl := skip_cons hc
      split
      · refine ⟨?_, ?_, h3, by rw [wf]; exact ⟨w2, w1⟩, by rw [deep]; omega, h8⟩
        · rcases text_obj_len (put n v d) with h | ⟨h, _⟩
          · unfold wlenS; omega
          · rw [h] at e1; simp only [lenF] at e1; omega
        · rw [size, e2]; unfold sizeS; omega
      · split
        · refine field_inv ?_ ?_ h3 w2 w1 (by omega) h8
          · unfold wlenS; omega
          · unfold sizeS; omega
        · show (_ : Int) ≠ 0; first | decide | assumption
theorem fin_inv {N : Nat} (x : R) : Inv N x → ∀ v, fin x = (v, 0) → wf v ∧ size v ≤ 200 ∧ deep v ≤ 10 ∧ (text v).length ≤ N := by
  induction x using fin.induct with
  | case1 e => intro hi v h; rw [fin_bad] at h; exact absurd (Prod.mk.inj h).2 hi
  | case2 r m st ih => intro hi v h; rw [fin_more] at h; exact ih (begin_inv hi) v h
  | case3 v r m hr =>
    intro hi u h
    rw [fin_end, if_pos hr] at h
    cases h
    obtain ⟨h1, h2, h3, h4, h5, _⟩ := hi
    exact ⟨h4, by omega, by omega, by omega⟩
  | case4 v r m hr => intro hi u h; rw [fin_end, if_neg hr] at h; cases h
  | case5 v r m f st ih => intro hi u h; rw [fin_whole] at h; exact ih (goes_inv hi) u h
end JP
end Go.Proofs.YtaddcchpidpbfaaDoor
