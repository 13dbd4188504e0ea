/- json: the reader's top frame. -/
import Derived.Test.YtaddcchpidpbfaaDoorJsonPl
namespace Go.Proofs.YtaddcchpidpbfaaDoor
open Go.RowKit
open JP (JV Bs Fr)

theorem fr_block {w : World} {B sb n c : Nat} {e : TypeId} {L : List GF} (h : OwnAt RFr 3 w B e (.slice (some ⟨sb, 0, none⟩) n c) L) : B ≤ sb ∧ n = L.length ∧ L.length ≤ c ∧ c ≤ maxLen ∧ ∃ cur : Array Value, w.heap[sb]? = some (.cells cur e (0, 0)) ∧ cur.size = c * 3 ∧
    (∀ (j : Nat) (x : GF), L[j]? = some x → cur[j * 3]? = some x.lv ∧ cur[j * 3 + 1]? = some x.pv ∧ cur[j * 3 + 2]? = some (.string x.nm)) ∧ ∀ x ∈ L, x.lv.oneCell' = true ∧ x.pv.oneCell' = true := by
  obtain ⟨css, h1, h2, h3, h4⟩ := h
  obtain ⟨g1, g2⟩ := h3
  rcases g2 with ⟨h5, _⟩ | ⟨q, cap, cur, hv, hB, hh, hlc, hc, hcs, htk⟩
  · cases h5
  · injection hv with e1 e2 e3
    injection e1 with e1
    injection e1 with e1
    subst e1
    subst e3
    refine ⟨hB, e2, hlc, hc, cur, hh, hcs, fun j x hx => ?_, fun x hx => ?_⟩
    · have hj : j < L.length := (List.getElem?_eq_some_iff.1 hx).1
      have hcj : css[j]? = some css[j] := List.getElem?_eq_getElem (by omega)
      obtain ⟨k1, _, _⟩ := h4 j css[j] x hcj hx
      have get : ∀ (i : Nat) (u : Value), css[j][i]? = some u → cur[j * 3 + i]? = some u := fun i u hu => by
        have hi : i < 3 := by have := (List.getElem?_eq_some_iff.1 hu).1; rw [k1] at this; simpa using this
        have h9 := get_flat h2 hcj hu
        rw [← htk, List.getElem?_take_of_lt (by omega), Array.getElem?_toList] at h9
        exact h9
      exact ⟨get 0 _ (by rw [k1]; rfl), get 1 _ (by rw [k1]; rfl), get 2 _ (by rw [k1]; rfl)⟩
    · obtain ⟨j, hj⟩ := List.getElem?_of_mem hx
      have hjl : j < L.length := (List.getElem?_eq_some_iff.1 hj).1
      have hcj : css[j]? = some css[j] := List.getElem?_eq_getElem (by omega)
      exact (h4 j css[j] x hcj hj).2
def frCells (L : List GF) : List (List Value) := L.map fun x => [x.lv, x.pv, .string x.nm]
theorem fr_of_block {w : World} {B sb c : Nat} {e : TypeId} {L : List GF} {cur : Array Value} (hh : w.heap[sb]? = some (.cells cur e (0, 0))) (hB : B ≤ sb) (hlc : L.length ≤ c) (hc : c ≤ maxLen) (hcs : cur.size = c * 3)
    (hcell : ∀ (j : Nat) (x : GF), L[j]? = some x → cur[j * 3]? = some x.lv ∧ cur[j * 3 + 1]? = some x.pv ∧ cur[j * 3 + 2]? = some (.string x.nm)) (ho : ∀ x ∈ L, x.lv.oneCell' = true ∧ x.pv.oneCell' = true) :
    OwnAt RFr 3 w B e (.slice (some ⟨sb, 0, none⟩) L.length c) L := by
  have h3 : ∀ cs ∈ frCells L, cs.length = 3 := fun cs hm => by
    obtain ⟨x, _, rfl⟩ := List.mem_map.1 hm; rfl
  have hfl : (frCells L).flatten.length = L.length * 3 := by rw [flat_len h3]; unfold frCells; rw [List.length_map]
  refine ⟨frCells L, by unfold frCells; rw [List.length_map], h3, ⟨hfl, .inr ⟨sb, c, cur, rfl, hB, hh, hlc, hc, hcs, ?_⟩⟩, fun j cs x hcs' hx => ?_⟩
  · apply List.ext_getElem?
    intro m
    by_cases hm : m < L.length * 3
    · rw [List.getElem?_take_of_lt hm, Array.getElem?_toList]
      have hj : m / 3 < L.length := by omega
      have hx : L[m / 3]? = some L[m / 3] := List.getElem?_eq_getElem hj
      obtain ⟨k0, k1, k2⟩ := hcell (m / 3) _ hx
      have hcj : (frCells L)[m / 3]? = some [L[m / 3].lv, L[m / 3].pv, .string L[m / 3].nm] := by unfold frCells; rw [List.getElem?_map, hx]; rfl
      have way : m % 3 = 0 ∨ m % 3 = 1 ∨ m % 3 = 2 := by omega
      have hmm : m = m / 3 * 3 + m % 3 := by omega
      rcases way with h | h | h
      · have := get_flat h3 hcj (i := 0) (u := L[m / 3].lv) rfl
        rw [h] at hmm
        rw [hmm, show (m / 3 * 3 + 0) / 3 = m / 3 by omega] at *
        rw [this]; exact k0
      · have := get_flat h3 hcj (i := 1) (u := L[m / 3].pv) rfl
        rw [h] at hmm
        rw [hmm, show (m / 3 * 3 + 1) / 3 = m / 3 by omega] at *
        rw [this]; exact k1
      · have := get_flat h3 hcj (i := 2) (u := .string L[m / 3].nm) rfl
        rw [h] at hmm
        rw [hmm, show (m / 3 * 3 + 2) / 3 = m / 3 by omega] at *
        rw [this]; exact k2
    · rw [List.getElem?_eq_none (by rw [List.length_take]; omega), List.getElem?_eq_none (by omega)]
  · unfold frCells at hcs'
    rw [List.getElem?_map, hx] at hcs'
    cases hcs'
    exact ⟨rfl, ho x (List.mem_of_getElem? hx)⟩
/-- where the top frame lies -/
structure Top (g : Nat) (w : World) (vst : Value) (f : GF) (n sb c : Nat) (cur : Array Value) : Prop where
  v : vst = .slice (some ⟨sb, 0, none⟩) (n + 1) c
  low : g + 1 ≤ sb
  room : n + 1 ≤ c
  most : c ≤ maxLen
  at_ : w.heap[sb]? = some (.cells cur 100 (0, 0))
  size : cur.size = c * 3
  lv : cur[n * 3]? = some f.lv
  pv : cur[n * 3 + 1]? = some f.pv
  nm : cur[n * 3 + 2]? = some (.string f.nm)
theorem Core.top {g : Nat} {T : List Nat} {w : World} {vst : Value} {f : GF} {fs : List GF} {st : List Fr} (h : Core g T w vst (f :: fs) st) : ∃ sb c cur, Top g w vst f fs.length sb c cur := by
  have hr := h.row
  rw [List.reverse_cons] at hr
  rcases hr.form with ⟨_, h0⟩ | ⟨sb, c, hv, _⟩
  · simp at h0
  · rw [hv] at hr
    rw [List.length_append, List.length_singleton, List.length_reverse] at hv hr
    obtain ⟨k1, _, k3, k4, cur, k5, k6, k7, _⟩ := fr_block hr
    rw [List.length_append, List.length_singleton, List.length_reverse] at k3
    obtain ⟨m0, m1, m2⟩ := k7 fs.length f (by rw [List.getElem?_append_right (by rw [List.length_reverse]; exact Nat.le_refl _), List.length_reverse, Nat.sub_self]; rfl)
    exact ⟨sb, c, cur, hv, k1, k3, k4, k5, k6, m0, m1, m2⟩
theorem Core.ones {g : Nat} {T : List Nat} {w : World} {vst : Value} {f : GF} {fs : List GF} {st : List Fr} (h : Core g T w vst (f :: fs) st) : f.lv.oneCell' = true ∧ f.pv.oneCell' = true := by
  have hr := h.row
  rw [List.reverse_cons] at hr
  rcases hr.form with ⟨_, h0⟩ | ⟨sb, c, hv, _⟩
  · simp at h0
  · rw [hv] at hr
    obtain ⟨_, _, _, _, cur, _, _, _, k⟩ := fr_block hr
    exact k f (by simp)
/-- one cell of the top frame has turned -/
theorem row_top {g : Nat} {T : List Nat} {w w' : World} {vst : Value} {f f' : GF} {fs : List GF} {st : List Fr} {sb c : Nat} {cur : Array Value} (h : Core g T w vst (f :: fs) st) (t : Top g w vst f fs.length sb c cur) {k : Nat} {u : Value} (hk : k < 3)
    (hh : w'.heap[sb]? = some (.cells (cur.setIfInBounds (fs.length * 3 + k) u) 100 (0, 0)))
    (h0 : (if k = 0 then u else f.lv) = f'.lv) (h1 : (if k = 1 then u else f.pv) = f'.pv) (h2 : (if k = 2 then u else .string f.nm) = .string f'.nm) (ho : f'.lv.oneCell' = true ∧ f'.pv.oneCell' = true) :
    OwnAt RFr 3 w' (g + 1) 100 vst (f' :: fs).reverse := by
  have hr := h.row
  rw [List.reverse_cons] at hr ⊢
  obtain ⟨hv, tl, tr, tm, ta, ts, t0, t1, t2⟩ := t
  rw [hv] at hr ⊢
  obtain ⟨k1, _, k3, k4, cur2, k5, k6, k7, k8⟩ := fr_block hr
  rw [ta] at k5
  cases k5
  have hl : (fs.reverse ++ [f']).length = fs.length + 1 := by simp
  rw [← hl]
  refine fr_of_block hh tl (by rw [hl]; exact tr) tm (by rw [Array.size_setIfInBounds, ts]) (fun j x hx => ?_) (fun x hx => ?_)
  · have hjl := (List.getElem?_eq_some_iff.1 hx).1
    rw [hl] at hjl
    by_cases hj : j < fs.length
    · rw [List.getElem?_append_left (by rw [List.length_reverse]; exact hj)] at hx
      obtain ⟨m0, m1, m2⟩ := k7 j x (by rw [List.getElem?_append_left (by rw [List.length_reverse]; exact hj)]; exact hx)
      rw [Array.getElem?_setIfInBounds_ne (by omega), Array.getElem?_setIfInBounds_ne (by omega), Array.getElem?_setIfInBounds_ne (by omega)]
      exact ⟨m0, m1, m2⟩
    · obtain rfl : j = fs.length := by omega
      rw [List.getElem?_append_right (by rw [List.length_reverse]; exact Nat.le_refl _), List.length_reverse, Nat.sub_self] at hx
      simp only [List.getElem?_cons_zero, Option.some.injEq] at hx
      subst hx
      have hin : fs.length * 3 + k < cur.size := by rw [ts]; omega
      refine ⟨?_, ?_, ?_⟩
      · rw [← h0]
        by_cases hk0 : k = 0
        · subst hk0; rw [if_pos rfl, Nat.add_zero, Array.getElem?_setIfInBounds_self_of_lt (by omega)]
        · rw [if_neg hk0, Array.getElem?_setIfInBounds_ne (by omega)]; exact t0
      · rw [← h1]
        by_cases hk0 : k = 1
        · subst hk0; rw [if_pos rfl, Array.getElem?_setIfInBounds_self_of_lt hin]
        · rw [if_neg hk0, Array.getElem?_setIfInBounds_ne (by omega)]; exact t1
      · rw [← h2]
        by_cases hk0 : k = 2
        · subst hk0; rw [if_pos rfl, Array.getElem?_setIfInBounds_self_of_lt hin]
        · rw [if_neg hk0, Array.getElem?_setIfInBounds_ne (by omega)]; exact t2
  · rcases List.mem_append.1 hx with hx | hx
    · exact k8 x (List.mem_append_left _ hx)
    · rw [List.mem_singleton.1 hx]; exact ho
end Go.Proofs.YtaddcchpidpbfaaDoor
