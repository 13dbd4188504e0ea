/- json: two fields, in either order, and one of them twice. -/
import Derived.Test.YtaddcchpidpbfaaDoorJsonFails
import Derived.Test.YtaddcchpidpbfaaDoorJsonCanon
namespace Go.Proofs.YtaddcchpidpbfaaDoor
open Go
namespace JP
theorem field_step {n r : Bs} {m : Nat} {d : List (Bs × JV)} {st : List Fr} (hn : n.all stand = true) (hg : get n d = none) : fieldP (quote n ++ 58 :: r) m d st = .more r m (.ob d n :: st) := by
  have e1 : quote n ++ 58 :: r = 34 :: (n.flatMap escB ++ 34 :: 58 :: r) := by unfold quote; simp
  rw [e1]
  unfold fieldP
  rw [skip_of _ (by decide)]
  dsimp only
  rw [if_pos rfl, quote_reads n _ hn]
  dsimp only
  unfold fieldN
  rw [hg, if_neg (by simp), skip_of _ (by decide)]
  dsimp only
  rw [if_pos rfl]
theorem field_twice {n r : Bs} {m : Nat} {d : List (Bs × JV)} {st : List Fr} (hn : n.all stand = true) (hg : (get n d).isSome = true) : fieldP (quote n ++ 58 :: r) m d st = .bad 5 := by
  have e1 : quote n ++ 58 :: r = 34 :: (n.flatMap escB ++ 34 :: 58 :: r) := by unfold quote; simp
  rw [e1]
  unfold fieldP
  rw [skip_of _ (by decide)]
  dsimp only
  rw [if_pos rfl, quote_reads n _ hn]
  dsimp only
  unfold fieldN
  rw [if_pos hg]
theorem field_blank {r : Bs} {m : Nat} {d : List (Bs × JV)} {st : List Fr} : fieldP (32 :: r) m d st = fieldP r m d st := rfl
theorem obj_begin {n r : Bs} {m : Nat} {st : List Fr} (hm : m + 1 ≤ 200) (hst : st.length ≠ 10) (hn : n.all stand = true) : fin (.more (123 :: (quote n ++ 58 :: r)) m st) = fin (.more r (m + 1) (.ob [] n :: st)) := by
  rw [fin_more, begin_at _ _ _ (by decide)]
  unfold beginC
  have e1 : quote n ++ 58 :: r = 34 :: (n.flatMap escB ++ 34 :: 58 :: r) := by unfold quote; simp
  rw [if_neg (by decide), if_neg (by omega), if_neg (fun e => hst e.2), if_neg (by decide), if_pos rfl]
  have e2 : skip (quote n ++ 58 :: r) = quote n ++ 58 :: r := by rw [e1, skip_of _ (by decide)]
  rw [e2, if_neg (by rw [e1]; simp), field_step hn rfl]
theorem goes_comma {v : JV} {r : Bs} {m : Nat} {d : List (Bs × JV)} {n : Bs} {st : List Fr} : fin (.whole v (44 :: r) m (.ob d n :: st)) = fin (fieldP r m (put n v d) st) := by
  rw [fin_whole]
  unfold goesP
  dsimp only
  rw [skip_of _ (by decide)]
  dsimp only
  rw [if_neg (by decide), if_pos rfl]
theorem goes_end {v : JV} {r : Bs} {m : Nat} {d : List (Bs × JV)} {n : Bs} {st : List Fr} : fin (.whole v (125 :: r) m (.ob d n :: st)) = fin (.whole (.obj (put n v d)) r m st) := by
  rw [fin_whole]
  unfold goesP
  dsimp only
  rw [skip_of _ (by decide)]
  dsimp only
  rw [if_pos rfl]
def oN : Bs := [111]
def pN : Bs := [112]
def docPO (a b : Bs) : Bs := 123 :: (quote pN ++ 58 :: (a ++ 44 :: 32 :: (quote oN ++ 58 :: (b ++ [125]))))
def docPP (a b : Bs) : Bs := 123 :: (quote pN ++ 58 :: (a ++ 44 :: (quote pN ++ 58 :: (b ++ [125]))))
def docOP (a b : Bs) : Bs := 123 :: (quote oN ++ 58 :: (b ++ 44 :: (quote pN ++ 58 :: (a ++ [125]))))
theorem put_op (v u : JV) : put oN u (put pN v []) = [(oN, u), (pN, v)] := by
  show put oN u [(pN, v)] = _
  unfold put
  rw [if_neg (by decide), if_neg (by decide)]
theorem text_op (v u : JV) : text (.obj [(oN, u), (pN, v)]) = docOP (text v) (text u) := by
  rw [text, textF, textF, textF, joinB_more, joinB_one]
  unfold docOP
  simp
theorem get_op (v : JV) : get oN [(pN, v)] = none := by
  unfold get
  rw [if_neg (by decide)]
  rfl
def Fits (v u : JV) : Prop := 1 + size v + size u ≤ 200 ∧ deep v + 1 ≤ 10 ∧ deep u + 1 ≤ 10
theorem len_po (a b : Bs) : (docPO a b).length = a.length + b.length + 12 ∧ (docPP a b).length = a.length + b.length + 11 ∧ (docOP a b).length = a.length + b.length + 11 := by
  refine ⟨?_, ?_, ?_⟩ <;> (first | unfold docPO | unfold docPP | unfold docOP) <;> (simp [quote, oN, pN, escB]; omega)
theorem op_reads {v u : JV} (hv : wf v) (hu : wf u) (hl : (text v).length + (text u).length ≤ 1900) (hf : Fits v u) : readL (docOP (text v) (text u)) = (.obj [(oN, u), (pN, v)], 0) := by
  obtain ⟨h1, h2, h3⟩ := hf
  rw [← text_op]
  refine read_text ?_ ?_ ?_ ?_
  · rw [wf, wfF, wfF, wfF]
    refine ⟨?_, by decide, hu, by decide, hv, trivial⟩
    unfold Srt
    rw [List.pairwise_cons]
    exact ⟨fun x hx => by rw [List.mem_singleton.1 hx]; show oN < pN; decide, List.pairwise_singleton ..⟩
  · simp only [size, sizeF]; omega
  · simp only [deep, deepF]; omega
  · rw [text_op, (len_po _ _).2.2]; omega
theorem op_fails {v u : JV} (hv : wf v) (hu : wf u) (hl : (text v).length + (text u).length ≤ 1900) (hf : ¬ Fits v u) : (readL (docOP (text v) (text u))).2 = 2 ∨ (readL (docOP (text v) (text u))).2 = 4 := by
  have hw : wf (.obj [(oN, u), (pN, v)]) := by
    rw [wf, wfF, wfF, wfF]
    refine ⟨?_, by decide, hu, by decide, hv, trivial⟩
    unfold Srt
    rw [List.pairwise_cons]
    exact ⟨fun x hx => by rw [List.mem_singleton.1 hx]; show oN < pN; decide, List.pairwise_singleton ..⟩
  rcases read_fails hw (by rw [text_op, (len_po _ _).2.2]; omega) (fun h => hf (by
    simp only [size, sizeF, deep, deepF] at h
    exact ⟨by omega, by omega, by omega⟩)) with ⟨e, _⟩ | ⟨e, _⟩
  · rw [text_op] at e; exact .inl (by rw [e])
  · rw [text_op] at e; exact .inr (by rw [e])
theorem po_first {v : JV} (hv : wf v) (h1 : 1 + size v ≤ 200) (h2 : deep v + 1 ≤ 10) (r : Bs) : fin (.more (123 :: (quote pN ++ 58 :: (text v ++ 44 :: r))) 0 []) = fin (fieldP r (1 + size v) [(pN, v)] []) := by
  rw [obj_begin (by omega) (by simp) (by decide), reads.1 v hv _ _ _ (by omega) (by simp only [List.length_cons, List.length_nil]; omega) (endOK_of _ _ (by decide)), goes_comma]
  rfl
theorem po_reads {v u : JV} (hv : wf v) (hu : wf u) (hl : (text v).length + (text u).length ≤ 1900) (hf : Fits v u) : readL (docPO (text v) (text u)) = (.obj [(oN, u), (pN, v)], 0) := by
  obtain ⟨h1, h2, h3⟩ := hf
  unfold readL
  rw [if_neg (by rw [(len_po _ _).1]; omega)]
  unfold docPO
  rw [po_first hv (by omega) h2, field_blank, field_step (by decide) (get_op v), reads.1 u hu _ _ _ (by omega) (by simp only [List.length_cons, List.length_nil]; omega) (endOK_of _ _ (by decide)), goes_end, fin_end, skip_nil, if_pos rfl]
  exact Prod.ext (congrArg JV.obj (put_op v u)) rfl
theorem pp_reads {v u : JV} (hv : wf v) (hl : (text v).length + (text u).length ≤ 1900) (hf : Fits v u) : (readL (docPP (text v) (text u))).2 = 5 := by
  obtain ⟨h1, h2, h3⟩ := hf
  unfold readL
  rw [if_neg (by rw [(len_po _ _).2.1]; omega)]
  unfold docPP
  rw [po_first hv (by omega) h2, field_twice (by decide) (by unfold get; rw [if_pos rfl]; rfl), fin_bad]
theorem po_fails {v u : JV} (hv : wf v) (hu : wf u) (hl : (text v).length + (text u).length ≤ 1900) (hf : ¬ Fits v u) : (readL (docPO (text v) (text u))).2 = 2 ∨ (readL (docPO (text v) (text u))).2 = 4 := by
  have two : ∀ {x : JV × Int} {a b : Prop}, Fails x a b → x.2 = 2 ∨ x.2 = 4 := by
    intro x a b h
    rcases h with ⟨h, _⟩ | ⟨h, _⟩
    · exact .inl (by rw [h])
    · exact .inr (by rw [h])
  unfold readL
  rw [if_neg (by rw [(len_po _ _).1]; omega)]
  unfold docPO
  by_cases h1 : 1 + size v ≤ 200 ∧ deep v + 1 ≤ 10
  · rw [po_first hv h1.1 h1.2, field_blank, field_step (by decide) (get_op v)]
    exact two (fails.1 u hu _ _ _ (by simp) (endOK_of _ _ (by decide)) (fun h => hf (by
      simp only [List.length_cons, List.length_nil] at h
      exact ⟨by omega, h1.2, by omega⟩)))
  · rw [obj_begin (by omega) (by simp) (by decide)]
    exact two (fails.1 v hv _ _ _ (by simp) (endOK_of _ _ (by decide)) (fun h => h1 (by
      simp only [List.length_cons, List.length_nil] at h
      exact ⟨by omega, by omega⟩)))
end JP
end Go.Proofs.YtaddcchpidpbfaaDoor
