/- slices.Sort, Compact, Clone at texts, in our words. -/
import Derived.Test.YtjhaopkhpmkkiaaDoorSortPlain
import Derived.Test.YtjhaopkhpmkkiaaDoorRowStore
import Derived.Test.YtjhaopkhpmkkiaaDoorSlStr
import Derived.Lib.AppendIntMem
namespace Go.Proofs.YtjhaopkhpmkkiaaDoor
open Go.RowKit

def mkB (l : List UInt8) : ByteArray := ⟨l.toArray⟩
theorem mkB_data (l : List ByteArray) : (l.map (·.data.toList)).map mkB = l := by
  rw [List.map_map]
  conv => rhs; rw [← List.map_id l]
  congr 1
theorem own_texts {w : World} {B : Nat} {e : TypeId} {g n c : Nat} {l : List ByteArray} (h : OwnAt RString 1 w B e (.slice (some ⟨g, 0, none⟩) n c) l) : n = l.length ∧ B ≤ g ∧ g < w.heap.size ∧ l.length ≤ c ∧ c ≤ maxLen ∧ Go.Sort.Holds encStr w g 0 (l.map (·.data.toList)).toArray := by
  have ho := own_strs h
  rcases h.form with ⟨h1, _⟩ | ⟨g', c', h1, h2, h3, h4, h5⟩
  · cases h1
  · injection h1 with u1 u2 u3
    injection u1 with u1
    injection u1 with u1
    subst u1; subst u2; subst u3
    refine ⟨rfl, h2, h3, h4, h5, fun j hj => ?_⟩
    have hjl : j < l.length := by simpa using hj
    rcases ho.2 with ⟨e1, _⟩ | ⟨g2, cap, cur, e1, _, hh, _, _, _, _⟩
    · cases e1
    · have hc := ho.cells (g := g) rfl j _ (strs_get (List.getElem?_eq_getElem hjl))
      rw [add_plain'] at hc
      injection e1 with u1 _ _
      injection u1 with u1
      injection u1 with u1
      subst u1
      refine ⟨?_, free_block hh _⟩
      rw [hc, getElem!_pos _ j (by simpa using hjl)]
      simp [encStr]
/-- other texts in the same row -/
theorem own_putRow {w : World} {B : Nat} {e : TypeId} {g n c q : Nat} {l : List ByteArray} (h : OwnAt RString 1 w B e (.slice (some ⟨g, 0, none⟩) n c) l) (zs : List (List UInt8)) (hz : zs.length = l.length) :
    OwnAt RString 1 (Go.Sort.putRow encStr (Go.Sort.ahead w q) g 0 zs.toArray) B e (.slice (some ⟨g, 0, none⟩) n c) (zs.map mkB) ∧ RowKit.Below B w (Go.Sort.putRow encStr (Go.Sort.ahead w q) g 0 zs.toArray) ∧ (Go.Sort.putRow encStr (Go.Sort.ahead w q) g 0 zs.toArray).heap.size = w.heap.size := by
  obtain ⟨css, c1, c2, ⟨c3, c4⟩, c5⟩ := h
  rcases c4 with ⟨h0, _⟩ | ⟨g', cap, cur, hv, hB, hh, hle, hm, hzc, ht⟩
  · cases h0
  · injection hv with u1 u2 u3
    injection u1 with u1
    injection u1 with u1
    subst u1; subst u2; subst u3
    obtain ⟨W, hW⟩ : ∃ W, Go.Sort.putRow encStr (Go.Sort.ahead w q) g 0 zs.toArray = W := ⟨_, rfl⟩
    rw [hW]
    have hw : W.heap[g]? = some (.cells (Go.Sort.putCells encStr 0 zs.toArray cur) e (0, 0)) := by
      rw [← hW]
      unfold Go.Sort.putRow Go.Sort.mapBlock
      show (Array.modify w.heap g _)[g]? = _
      rw [Array.getElem?_modify, if_pos rfl, hh]
      rfl
    have ho : ∀ k, k ≠ g → W.heap[k]? = w.heap[k]? := fun k hk => by
      rw [← hW]
      unfold Go.Sort.putRow Go.Sort.mapBlock
      show (Array.modify w.heap g _)[k]? = _
      rw [Array.getElem?_modify, if_neg (Ne.symm hk)]
    have hs : W.heap.size = w.heap.size := by
      rw [← hW]
      unfold Go.Sort.putRow Go.Sort.mapBlock
      show (Array.modify w.heap g _).size = _
      rw [Array.size_modify]
    refine ⟨ownAt_strs (n := l.length) ⟨by rw [strs_length, List.length_map, hz, Nat.mul_one], .inr ⟨g, c, _, rfl, hB, hw, hle, hm, by unfold Go.Sort.putCells; rw [Array.size_mapIdx]; exact hzc, ?_⟩⟩ (by rw [List.length_map, hz]), ⟨by rw [← hW]; rfl, by rw [← hW]; rfl, by rw [← hW]; rfl, by rw [hs]; exact Nat.le_refl _, fun k hk => ho k (by omega)⟩, hs⟩
    apply List.ext_getElem?
    intro t
    rw [Nat.mul_one]
    by_cases htl : t < l.length
    · have htc : t < cur.size := by rw [hzc]; omega
      rw [List.getElem?_take_of_lt htl, Array.getElem?_toList]
      unfold Go.Sort.putCells
      rw [Array.getElem?_mapIdx, Array.getElem?_eq_getElem htc, Option.map_some, if_pos ⟨by omega, by simp [hz]; omega⟩, Nat.sub_zero, getElem!_pos zs.toArray t (by simpa [hz] using htl)]
      unfold strs
      rw [List.map_map, List.getElem?_map, List.getElem?_eq_getElem (by omega)]
      rfl
    · rw [List.getElem?_eq_none (by rw [List.length_take]; omega), List.getElem?_eq_none (by rw [strs_length, List.length_map, hz]; omega)]
theorem sortStr_any (v : Value) (l : List ByteArray) (B : Nat) (w : World) (h : OwnAt RString 1 w B 9 v l) (hB : B ≤ w.heap.size) (hl : l.length ≤ 1073741824) :
    Calls Tryd.prog 39 #[v] w fun e w' => e = .returned (.tuple #[]) ∧ OwnAt RString 1 w' B 9 v ((sortedL (l.map (·.data.toList))).map mkB) ∧ RowKit.Below B w w' := by
  rcases h.form with ⟨rfl, rfl⟩ | ⟨g, c, rfl, _, hg, _, _⟩
  · refine (Tryd.slices_Sort_string_none none 0 w).mono fun e w' ⟨h1, h2⟩ => ?_
    subst h2
    refine ⟨h1, ?_, Below.refl _ _⟩
    have : sortedL (([] : List ByteArray).map (·.data.toList)) = [] := by simp [sortedL]
    rw [this]
    exact OwnAt.nil _
  · obtain ⟨_, _, _, _, _, hH⟩ := own_texts h
    have hs := Tryd.slices_Sort_string g 0 c (l.map (·.data.toList)) w hH hg (by rw [List.length_map]; omega)
    rw [List.length_map] at hs
    refine hs.mono fun e w' ⟨h1, n, os, h2⟩ => ?_
    obtain ⟨o1, o2, o3⟩ := own_putRow (q := n) h (sortedL (l.map (·.data.toList))) (by rw [sorted_len, List.length_map])
    have hgr : RowKit.Below (Go.Sort.putRow encStr (Go.Sort.ahead w n) g 0 (sortedL (l.map (·.data.toList))).toArray).heap.size (Go.Sort.putRow encStr (Go.Sort.ahead w n) g 0 (sortedL (l.map (·.data.toList))).toArray) w' := by
      rw [h2]
      exact Lib.below_grow _ _ (Nat.le_refl _) 0 os
    refine ⟨h1, o1.below stays_string hgr, o2.trans (hgr.mono (by rw [o3]; exact hB))⟩
theorem setCells_nil (w : World) (g i : Nat) : w.setCells g i [] = w := rfl
theorem compactStr_any (v : Value) (l : List ByteArray) (B : Nat) (w : World) (h : OwnAt RString 1 w B 9 v l) (hl : l.length ≤ 1073741824) :
    Calls Tryd.prog 40 #[v] w fun e w' => ∃ v', e = .returned v' ∧ OwnAt RString 1 w' B 9 v' ((Lib.compact (l.map (·.data.toList))).map mkB) ∧ RowKit.Below B w w' := by
  rcases h.form with ⟨rfl, rfl⟩ | ⟨g, c, rfl, _, hg, _, _⟩
  · refine (Tryd.slices_Compact_string_empty none 0 w).mono fun e w' ⟨h1, h2⟩ => ?_
    subst h2
    refine ⟨_, h1, ?_, Below.refl _ _⟩
    have : Lib.compact (([] : List ByteArray).map (·.data.toList)) = [] := by simp [Lib.compact, Lib.compactUpTo]
    rw [this]
    exact OwnAt.nil _
  · obtain ⟨_, _, _, hlc, _, hH⟩ := own_texts h
    have hs := Tryd.slices_Compact_string g 0 c (l.map (·.data.toList)) w hH (by rw [List.length_map]; omega) (by rw [List.length_map]; exact hlc)
    rw [List.length_map] at hs
    refine hs.mono fun e w' ⟨h1, q, h2⟩ => ?_
    have hle : (Lib.compact (l.map (·.data.toList))).length ≤ l.length := by
      have := Lib.compact_length_le (l.map (·.data.toList))
      rwa [List.length_map] at this
    obtain ⟨o1, o2, o3⟩ := own_putRow (q := q) h (Lib.compact (l.map (·.data.toList)) ++ List.replicate (l.length - (Lib.compact (l.map (·.data.toList))).length) []) (by rw [List.length_append, List.length_replicate]; omega)
    rw [← h2] at o1 o2 o3
    obtain ⟨o4, _⟩ := o1.behind flat_string (i := (Lib.compact (l.map (·.data.toList))).length) (vs := []) (by rw [List.length_map, List.length_append]; omega) (by simp; omega)
    rw [setCells_nil, List.map_append, List.take_left' (by rw [List.length_map])] at o4
    exact ⟨_, h1, o4, o2⟩
theorem cloneStr_any (v : Value) (l : List ByteArray) (w : World) (h : StrAt w v l) (hl : l.length ≤ 1048576) :
    Calls Tryd.prog 60 #[v] w fun e w' => ∃ v', e = .returned v' ∧ OwnAt RString 1 w' w.heap.size 9 v' l ∧ RowKit.Below w.heap.size w w' := by
  rcases h with ⟨rfl, rfl⟩ | ⟨a, c, rfl, h1, h2, h3⟩
  · refine (Tryd.slices_Clone_string_nil 0 0 w).mono fun e w' ⟨e1, e2⟩ => ?_
    subst e2
    exact ⟨_, e1, OwnAt.nil _, Below.refl _ _⟩
  · rcases Nat.eq_zero_or_pos l.length with h0 | h0
    · obtain rfl := nil_of_len h0
      refine (Tryd.slices_Clone_string_zero a c w).mono fun e w' ⟨v', e1, e2, _, e3⟩ => ⟨v', e1, ownAt_strs (n := 0) e2 rfl, e3⟩
    · obtain ⟨b, o, c', hv, _, _, _, hc⟩ := StrAt.form (.inr ⟨a, c, rfl, h1, h2, h3⟩) h0
      injection hv with u1 u2 u3
      injection u1 with u1
      subst u1
      refine (Tryd.slices_Clone_string b o l.length c l w (Nat.le_refl _) (by omega) fun j hj => hc j _ (strAt_getD hj)).mono fun e w' ⟨v', e1, e2, _, e3⟩ => ⟨v', e1, ?_, e3⟩
      rw [List.take_of_length_le (Nat.le_refl _)] at e2
      exact ownAt_strs (n := l.length) e2 rfl
end Go.Proofs.YtjhaopkhpmkkiaaDoor
