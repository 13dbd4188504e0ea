/- slices.Reverse at parts of a selector: the library's contract, laid. -/
import Derived.Test.YtmfcddbeglfdcaaDoorBox
import Derived.Test.YtmfcddbeglfdcaaDoorDataQuery
import Derived.Test.YtmfcddbeglfdcaaDoorProg
import Derived.Shelf.SlicesQ.Reverse
namespace Go.Proofs.YtmfcddbeglfdcaaDoor
open Go.RowKit Go.Shelf Go.Sort

def renRev : Ren := ⟨fun | 35 => 19 | n => n, fun | 22 => 38 | 23 => 33 | 3 => 3 | 4 => 4 | n => n, fun n => n⟩
theorem laysRev : SlLaysE0.n35 Tryd.prog renRev := {
  mixed := by kernel_rfl
  f35 := ⟨Tryd.f19.name, by kernel_rfl, Tryd.func19.trans (congrArg some (by kernel_rfl))⟩
  t0 := by kernel_rfl
  a0 := Tryd.isAgg0
  z0 := Tryd.sizeOf0
  v0 := Tryd.zeroValue0
  t3 := by kernel_rfl
  a3 := Tryd.isAgg3
  z3 := Tryd.sizeOf3
  v3 := Tryd.zeroValue3
  t4 := by kernel_rfl
  a4 := Tryd.isAgg4
  z4 := Tryd.sizeOf4
  v4 := Tryd.zeroValue4
  t22 := by kernel_rfl
  a22 := Tryd.isAgg38
  z22 := Tryd.sizeOf38
  v22 := Tryd.zeroValue38 }
/-- one element's cells -/
structure Cells3 where
  cs : List Value
  len : cs.length = 3
  one : ∀ v ∈ cs, v.oneCell' = true
def cells3Def : Cells3 := ⟨[.int .i64 0, .int .i64 0, .int .i64 0], rfl, fun v hv => by
  simp only [List.mem_cons, List.not_mem_nil, or_false] at hv
  rcases hv with rfl | rfl | rfl <;> rfl⟩
instance : Inhabited Cells3 := ⟨cells3Def⟩
theorem flat_len3 : ∀ d : List Cells3, (d.map (·.cs)).flatten.length = d.length * 3 := fun d => by
  rw [flat_len (k := 3) (fun cs h => by obtain ⟨x, _, rfl⟩ := List.mem_map.1 h; exact x.len), List.length_map]
theorem flat3_get (d : Array Cells3) (t : Nat) (h : t < d.size * 3) : (d.toList.map (·.cs)).flatten[t]? = some ((d[t / 3]!).cs)[t % 3]! := by
  have h1 : t / 3 < d.size := by omega
  have h2 : (d.toList.map (·.cs))[t / 3]? = some (d[t / 3]!).cs := by
    rw [List.getElem?_map, Array.getElem?_toList, Array.getElem?_eq_getElem h1, Option.map_some, getElem!_pos d _ h1]
  have h3 : t % 3 < (d[t / 3]!).cs.length := by rw [(d[t / 3]!).len]; omega
  have := get_flat (k := 3) (css := d.toList.map (·.cs)) (fun cs h => by obtain ⟨x, _, rfl⟩ := List.mem_map.1 h; exact x.len) h2 (u := ((d[t / 3]!).cs)[t % 3]!) (by rw [List.getElem?_eq_getElem h3, getElem!_pos (d[t / 3]!).cs _ h3])
  rwa [show t / 3 * 3 + t % 3 = t by omega] at this
set_option maxRecDepth 100000 in
theorem reverse_own {R : Rd GReq} (hf : Flat R) (h1 : OneR R) (v : Value) (l : List GReq) (B : Nat) (w : World) (h : OwnAt R 3 w B 33 v l) (hl : l.length ≤ 1048576) :
    Calls Tryd.prog 19 #[v] w fun e w' => e = .returned (.tuple #[]) ∧ OwnAt R 3 w' B 33 v l.reverse ∧ Below B w w' := by
  obtain ⟨css, c1, c2, ⟨c3, c4⟩, c5⟩ := h
  rcases c4 with ⟨rfl, h0⟩ | ⟨g, cap, cur, rfl, hB, hh, hle, hm, hz, ht⟩
  · obtain rfl := nil_of_len h0
    refine (AnyQ.slices_Reverse_empty laysRev none 0 w).mono fun e w' ⟨e1, e2⟩ => ?_
    subst e2
    exact ⟨e1, OwnAt.nil _, Below.refl _ _⟩
  · have hone : ∀ cs ∈ css, ∀ u ∈ cs, u.oneCell' = true := fun cs hcs u hu => by
      obtain ⟨j, hj, rfl⟩ := List.getElem_of_mem hcs
      exact h1 w _ l[j] (c5 j _ _ (List.getElem?_eq_getElem hj) (List.getElem?_eq_getElem (by omega))) u hu
    obtain ⟨d, hd⟩ : ∃ d : Array Cells3, d.toList.map (·.cs) = css := by
      refine ⟨(css.attach.map fun cs => (⟨cs.1, c2 cs.1 cs.2, hone cs.1 cs.2⟩ : Cells3)).toArray, ?_⟩
      show List.map (fun x : Cells3 => x.cs) (List.map _ css.attach) = css
      rw [List.map_map]
      exact List.attach_map_subtype_val css
    have hds : d.size = l.length := by rw [← c1, ← hd]; simp
    have hcur : ∀ t, t < l.length * 3 → cur[t]? = css.flatten[t]? := fun t htl => by rw [← ht, List.getElem?_take_of_lt htl, Array.getElem?_toList]
    have hH : HoldsK (fun x : Cells3 => x.cs) 3 w g 0 d := fun t htl => by
      rw [size_flatK, hds] at htl
      rw [get_flatK _ _ _ _ (by rw [hds]; exact htl), Nat.zero_add, cell_block hh t, hcur t htl, ← hd, flat3_get d t (by rw [hds]; exact htl)]
      exact ⟨rfl, free_block hh t⟩
    rw [← hds]
    refine (AnyQ.slices_Reverse laysRev 3 Tryd.isAgg33 Tryd.sizeOf33 (fun x : Cells3 => x.cs) (fun x => x.len) (fun x => x.one) g 0 cap d w hH (by omega)).mono fun e w' ⟨e1, n, e2⟩ => ?_
    have hw : w'.heap[g]? = some (.cells (Go.Sort.putCells id 0 (flatK (fun x : Cells3 => x.cs) 3 d.reverse) cur) 33 (0, 0)) := by
      rw [e2]
      unfold putRowK Go.Sort.putRow Go.Sort.mapBlock
      show (Array.modify w.heap g _)[g]? = _
      rw [Array.getElem?_modify, if_pos rfl, hh]
      rfl
    have ho : ∀ k, k ≠ g → w'.heap[k]? = w.heap[k]? := fun k hk => by
      rw [e2]
      unfold putRowK Go.Sort.putRow Go.Sort.mapBlock
      show (Array.modify w.heap g _)[k]? = _
      rw [Array.getElem?_modify, if_neg (Ne.symm hk)]
    have hs : w'.heap.size = w.heap.size := by
      rw [e2]
      unfold putRowK Go.Sort.putRow Go.Sort.mapBlock
      show (Array.modify w.heap g _).size = _
      rw [Array.size_modify]
    have hrev : d.reverse.toList.map (·.cs) = css.reverse := by rw [Array.toList_reverse, List.map_reverse, hd]
    have hlen3 : css.reverse.flatten.length = l.length * 3 := by rw [flat_len (k := 3) (fun cs h => c2 cs (List.mem_reverse.1 h)), List.length_reverse, c1]
    refine ⟨e1, ⟨css.reverse, by simp [c1], fun cs hcs => c2 cs (List.mem_reverse.1 hcs), ⟨by rw [hlen3, List.length_reverse], .inr ⟨g, cap, _, by rw [List.length_reverse, hds], hB, hw, by rw [List.length_reverse]; exact hle, hm, by unfold Go.Sort.putCells; rw [Array.size_mapIdx]; exact hz, ?_⟩⟩, fun j cs y hcs hy => ?_⟩, ?_⟩
    · apply List.ext_getElem?
      intro t
      rw [List.length_reverse]
      by_cases htl : t < l.length * 3
      · rw [List.getElem?_take_of_lt htl, Array.getElem?_toList]
        unfold Go.Sort.putCells
        have htc : t < cur.size := by rw [hz]; omega
        rw [Array.getElem?_mapIdx, Array.getElem?_eq_getElem htc, Option.map_some, if_pos ⟨by omega, by rw [size_flatK, Array.size_reverse, hds]; omega⟩, Nat.sub_zero, get_flatK _ _ _ _ (by rw [Array.size_reverse, hds]; exact htl), ← hrev, flat3_get d.reverse t (by rw [Array.size_reverse, hds]; exact htl)]
        rfl
      · rw [List.getElem?_eq_none (by rw [List.length_take]; omega), List.getElem?_eq_none (by omega)]
    · have hj : j < css.length := by have := (List.getElem?_eq_some_iff.1 hcs).1; simpa using this
      rw [List.getElem?_reverse hj] at hcs
      rw [List.getElem?_reverse (by omega)] at hy
      rw [c1] at hcs
      exact hf _ _ _ _ (c5 _ cs y hcs hy)
    · exact ⟨by rw [e2]; rfl, by rw [e2]; rfl, by rw [e2]; rfl, by rw [hs]; exact Nat.le_refl _, fun k hk => ho k (by omega)⟩
end Go.Proofs.YtmfcddbeglfdcaaDoor
