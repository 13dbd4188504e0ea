/- json: an object's fields, looked up: slices.BinarySearch at names, Get. -/
import Derived.Test.YtaddcchpidpbfaaDoorJsonVal
import Derived.Test.YtaddcchpidpbfaaDoorJsonGood
import Derived.Test.YtaddcchpidpbfaaDoorBytes
import Derived.Test.YtaddcchpidpbfaaDoorShelf
import Derived.Shelf.Spec.SearchS
namespace Go.Proofs.YtaddcchpidpbfaaDoor
open Go.RowKit
open JP (JV Bs)

/-! where a name stands -/
namespace JP
def pos (n : Bs) (d : List (Bs × JV)) : Nat := (d.takeWhile fun x => decide (x.1 < n)).length
theorem pos_le (n : Bs) (d : List (Bs × JV)) : pos n d ≤ d.length := (List.takeWhile_sublist _).length_le
theorem pos_lt {n : Bs} : ∀ {d : List (Bs × JV)} {t : Nat} {x : Bs × JV}, t < pos n d → d[t]? = some x → x.1 < n
  | [], t, x, h, _ => by simp [pos] at h
  | y :: r, t, x, h, hx => by
    unfold pos at h
    by_cases hy : y.1 < n
    · rw [List.takeWhile_cons_of_pos (by simpa using hy), List.length_cons] at h
      cases t with
      | zero => simp at hx; subst hx; exact hy
      | succ t => exact pos_lt (d := r) (t := t) (by unfold pos; omega) (by simpa using hx)
    · rw [List.takeWhile_cons_of_neg (by simpa using hy)] at h
      simp at h
theorem pos_ge {n : Bs} : ∀ {d : List (Bs × JV)} {t : Nat} {x : Bs × JV}, Srt d → pos n d ≤ t → d[t]? = some x → ¬ x.1 < n
  | [], t, x, _, _, h => by simp at h
  | y :: r, t, x, hs, h, hx => by
    obtain ⟨h1, h2⟩ := List.pairwise_cons.1 hs
    unfold pos at h
    by_cases hy : y.1 < n
    · rw [List.takeWhile_cons_of_pos (by simpa using hy), List.length_cons] at h
      cases t with
      | zero => omega
      | succ t => exact pos_ge (d := r) (t := t) h2 (by unfold pos; omega) (by simpa using hx)
    · cases t with
      | zero => simp at hx; subst hx; exact hy
      | succ t =>
        have hm := List.mem_of_getElem? (show r[t]? = some x by simpa using hx)
        intro hlt
        exact hy (bs_trans (h1 x hm) hlt)
theorem pos_cons_lt {n : Bs} {y : Bs × JV} {r : List (Bs × JV)} (h : y.1 < n) : pos n (y :: r) = pos n r + 1 := by
  unfold pos
  rw [List.takeWhile_cons_of_pos (by simpa using h), List.length_cons]
theorem pos_cons_ge {n : Bs} {y : Bs × JV} {r : List (Bs × JV)} (h : ¬ y.1 < n) : pos n (y :: r) = 0 := by
  unfold pos
  rw [List.takeWhile_cons_of_neg (by simpa using h)]; rfl
/-- a name that is there stands at its place; put sets its value, or puts the field in there -/
theorem find_spec {n : Bs} : ∀ {d : List (Bs × JV)}, Srt d → (∃ v, d[pos n d]? = some (n, v) ∧ get n d = some v ∧ ∀ u, put n u d = d.take (pos n d) ++ (n, u) :: d.drop (pos n d + 1)) ∨
    ((∀ x, d[pos n d]? = some x → x.1 ≠ n) ∧ get n d = none ∧ ∀ u, put n u d = d.take (pos n d) ++ (n, u) :: d.drop (pos n d))
  | [], _ => .inr ⟨fun x h => by simp at h, rfl, fun u => rfl⟩
  | (m, y) :: r, hs => by
    obtain ⟨h1, h2⟩ := List.pairwise_cons.1 hs
    by_cases hlt : m < n
    · have hne : m ≠ n := fun e => by subst e; exact bs_irrefl _ hlt
      have hp : pos n ((m, y) :: r) = pos n r + 1 := pos_cons_lt hlt
      rw [hp]
      rcases find_spec (n := n) h2 with ⟨v, a, b, c⟩ | ⟨a, b, c⟩
      · refine .inl ⟨v, by simpa using a, by unfold get; rw [if_neg hne]; exact b, fun u => ?_⟩
        unfold put
        rw [if_pos hlt, c u]; rfl
      · refine .inr ⟨fun x hx => a x (by simpa using hx), by unfold get; rw [if_neg hne]; exact b, fun u => ?_⟩
        unfold put
        rw [if_pos hlt, c u]; rfl
    · have hp : pos n ((m, y) :: r) = 0 := pos_cons_ge hlt
      rw [hp]
      by_cases he : m = n
      · subst he
        refine .inl ⟨y, rfl, by unfold get; rw [if_pos rfl], fun u => ?_⟩
        unfold put
        rw [if_neg hlt, if_pos rfl]; rfl
      · have hgt := bs_trich m n hlt he
        refine .inr ⟨fun x hx => by simp at hx; subst hx; exact he, ?_, fun u => ?_⟩
        · unfold get
          rw [if_neg he]
          exact get_none fun x hx e => by
            have := h1 x hx
            rw [e] at this
            exact bs_irrefl _ (bs_trans hgt this)
        · unfold put
          rw [if_neg hlt, if_neg he]; rfl
end JP
theorem bl_lt : ∀ x y : Bs, Op.bytesLess x y = decide (x < y)
  | [], [] => rfl
  | [], _ :: _ => by unfold Op.bytesLess; simp
  | _ :: _, [] => by unfold Op.bytesLess; simp
  | a :: x, b :: y => by
    unfold Op.bytesLess
    rw [bl_lt x y, Bool.eq_iff_iff]
    simp [List.cons_lt_cons_iff]

def srRen : Go.Shelf.Ren := ⟨fun | 26 => 69 | 33 => 86 | 34 => 87 | 38 => 100 | n => n, fun | 0 => 0 | 3 => 3 | 4 => 4 | 9 => 9 | 24 => 81 | 40 => 49 | n => n, fun | n => n⟩
theorem srLays : Go.Proofs.Lays2.n26 Tryd.prog srRen := {
  mixed := by kernel_rfl
  f26 := Tryd.func69.trans (congrArg some (by kernel_rfl))
  f33 := Tryd.func86.trans (congrArg some (by kernel_rfl))
  f34 := Tryd.func87.trans (congrArg some (by kernel_rfl))
  f38 := Tryd.func100.trans (congrArg some (by kernel_rfl))
  t0 := Tryd.underlying0
  a0 := Tryd.isAgg0
  z0 := Tryd.sizeOf0
  v0 := Tryd.zeroValue0
  t3 := Tryd.underlying3
  a3 := Tryd.isAgg3
  z3 := Tryd.sizeOf3
  v3 := Tryd.zeroValue3
  t4 := Tryd.underlying4
  a4 := Tryd.isAgg4
  z4 := Tryd.sizeOf4
  v4 := Tryd.zeroValue4
  t9 := Tryd.underlying9
  a9 := Tryd.isAgg9
  z9 := Tryd.sizeOf9
  v9 := Tryd.zeroValue9
  t24 := Tryd.underlying81
  a24 := Tryd.isAgg81
  z24 := Tryd.sizeOf81
  v24 := Tryd.zeroValue81
  t40 := Tryd.underlying49
  a40 := Tryd.isAgg49
  z40 := Tryd.sizeOf49
  v40 := Tryd.zeroValue49 }
theorem mkB_toList (l : Bs) : (mkB l).toList = l := by rw [ByteArray.toList_eq, mkB_list]
theorem search_any {vn : Value} {d : List (Bs × JV)} {x : Bs} {w : World} (hs : JP.Srt d) (h : RowAt RString 1 w vn (d.map fun y => mkB y.1)) (hl : d.length ≤ 1048576) :
    Calls Tryd.prog 69 #[vn, .string (mkB x)] w fun e w' => e = .returned (.tuple #[.int .i64 (JP.pos x d : Int), .bool (JP.get x d).isSome]) ∧ ∃ q, w' = w.drewN q := by
  by_cases h0 : d = []
  · subst h0
    obtain ⟨a, c, hu, _, _⟩ := h.len
    rw [hu]
    refine (Any2.slices_BinarySearch_string_empty srLays a c (mkB x) w).mono ?_
    rintro e w' ⟨rfl, rfl⟩
    exact ⟨rfl, 0, rfl⟩
  · have hpos : 0 < d.length := List.length_pos_iff.2 h0
    obtain ⟨b, o, c, rfl, _, _, hbs, hcell⟩ := h.form (by rw [List.length_map]; exact hpos) (by omega)
    rw [List.length_map]
    refine (Any2.slices_BinarySearch_string srLays b o d.length c (fun t => mkB ((d.map (·.1)).getD t x)) (mkB x) w (by omega) (fun j hj => ?_)).mono ?_
    · obtain ⟨cs, _, g2, g3⟩ := hcell j (mkB d[j].1) (by simp [hj])
      have := g2 0 (.string (mkB d[j].1)) (by rw [g3]; rfl)
      rw [show (d.map (·.1)).getD j x = d[j].1 from by simp [List.getD, hj]]
      simpa using this
    · have hk : Lib.bsGo (fun t => Op.bytesLess (mkB ((d.map (·.1)).getD t x)).toList (mkB x).toList) d.length 0 d.length = JP.pos x d := by
        refine Lib.bsGo_spec _ (JP.pos x d) (fun t ht => ?_) (fun t ht => ?_) d.length 0 d.length (by omega) (by omega) (JP.pos_le x d)
        · have htl : t < d.length := Nat.lt_of_lt_of_le ht (JP.pos_le x d)
          rw [mkB_toList, mkB_toList, bl_lt, show (d.map (·.1)).getD t x = d[t].1 from by simp [List.getD, htl], decide_eq_true_iff]
          exact JP.pos_lt ht (List.getElem?_eq_getElem htl)
        · rw [mkB_toList, mkB_toList, bl_lt, decide_eq_false_iff_not]
          by_cases htl : t < d.length
          · rw [show (d.map (·.1)).getD t x = d[t].1 from by simp [List.getD, htl]]
            exact JP.pos_ge hs ht (List.getElem?_eq_getElem htl)
          · rw [show (d.map (·.1)).getD t x = x from by simp [List.getD, htl]]
            exact JP.bs_irrefl x
      rintro e w' ⟨he, hw⟩
      refine ⟨?_, hw⟩
      rw [he, hk]
      congr 4
      rcases JP.find_spec (n := x) hs with ⟨v, a, b, _⟩ | ⟨a, b, _⟩
      · have hlt := (List.getElem?_eq_some_iff.1 a).1
        rw [b]
        rw [decide_eq_true_iff.2]
        · rfl
        · refine ⟨hlt, ?_⟩
          rw [mkB_inj]
          simp [List.getD, a]
      · rw [b, decide_eq_false_iff_not.2]
        · rfl
        · rintro ⟨hlt, he⟩
          rw [mkB_inj] at he
          refine a d[JP.pos x d] (List.getElem?_eq_getElem hlt) ?_
          refine Eq.trans ?_ he
          simp [List.getD, hlt]
end Go.Proofs.YtaddcchpidpbfaaDoor
