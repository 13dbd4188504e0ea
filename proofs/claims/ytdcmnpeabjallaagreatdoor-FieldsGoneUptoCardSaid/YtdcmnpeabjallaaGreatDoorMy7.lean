/- Texts of ours joined. -/
import Derived.Shelf.SlSortCmp.NoneTotal
import Derived.Test.YtdcmnpeabjallaaGreatDoorShelf
import Derived.Shelf.SlLaysF0
import Derived.Test.YtdcmnpeabjallaaGreatDoorProg
import Derived.Lib.LastIndexByte
import Derived.Lib.Strings
import Derived.WalkSpells
import Derived.Deep.LoopGhost
import Derived.Maps.OwnSet
import Derived.Maps.RangeWalk
import Derived.Below
import Derived.Test.YtdcmnpeabjallaaGreatDoorMy6
set_option linter.unusedVariables false
set_option linter.unusedSimpArgs false
namespace Go.Proofs.YtdcmnpeabjallaaGreatDoor
open Go.RowKit Go.Shelf Go.Sort
open JP (JV Bs)
theorem cmpB_self : ∀ a : List UInt8, Lib.compareBytes a a = 0
  | [] => rfl
  | x :: r => by unfold Lib.compareBytes; simp [cmpB_self r, UInt8.lt_irrefl]
theorem cmpB_trans : ∀ a b c : List UInt8, Lib.compareBytes a b < 0 → Lib.compareBytes b c < 0 → Lib.compareBytes a c < 0
  | _, [], [], _, h2 => by simp [Lib.compareBytes] at h2
  | [], [], _ :: _, _, _ => by simp [Lib.compareBytes]
  | _ :: _, [], _ :: _, h1, _ => by simp [Lib.compareBytes] at h1
  | _, _ :: _, [], _, h2 => by simp [Lib.compareBytes] at h2
  | [], _ :: _, _ :: _, _, _ => by simp [Lib.compareBytes]
  | x :: xs, y :: ys, z :: zs, h1, h2 => by
    have ih := cmpB_trans xs ys zs
    simp only [Lib.compareBytes, UInt8.lt_iff_toNat_lt] at h1 h2 ⊢
    by_cases p1 : x.toNat < y.toNat <;> by_cases p2 : y.toNat < x.toNat <;> by_cases p3 : y.toNat < z.toNat <;> by_cases p4 : z.toNat < y.toNat <;> by_cases p5 : x.toNat < z.toNat <;> by_cases p6 : z.toNat < x.toNat <;> first
      | (exfalso; omega)
      | (simp only [p1, p2, p3, p4, p5, p6, if_true, if_false] at h1 h2 ⊢; first | exact ih h1 h2 | omega)
theorem cmpB_ntrans : ∀ a b c : List UInt8, ¬ Lib.compareBytes a b < 0 → ¬ Lib.compareBytes b c < 0 → ¬ Lib.compareBytes a c < 0
  | [], [], [], _, _ => by simp [Lib.compareBytes]
  | _ :: _, [], [], _, _ => by simp [Lib.compareBytes]
  | _, [], _ :: _, _, h2 => by simp [Lib.compareBytes] at h2
  | [], _ :: _, _, h1, _ => by simp [Lib.compareBytes] at h1
  | _ :: _, _ :: _, [], _, _ => by simp [Lib.compareBytes]
  | x :: xs, y :: ys, z :: zs, h1, h2 => by
    have ih := cmpB_ntrans xs ys zs
    simp only [Lib.compareBytes, UInt8.lt_iff_toNat_lt] at h1 h2 ⊢
    by_cases p1 : x.toNat < y.toNat <;> by_cases p2 : y.toNat < x.toNat <;> by_cases p3 : y.toNat < z.toNat <;> by_cases p4 : z.toNat < y.toNat <;> by_cases p5 : x.toNat < z.toNat <;> by_cases p6 : z.toNat < x.toNat <;> first
      | (exfalso; omega)
      | (simp only [p1, p2, p3, p4, p5, p6, if_true, if_false] at h1 h2 ⊢; first | exact ih h1 h2 | omega)
instance inhJV : Inhabited JV := ⟨.nul⟩
abbrev LC := Value × Value × Leaf
def oneV (v : Value) : Value := if v.oneCell' = true then v else .nilIface
theorem oneV_one (v : Value) : (oneV v).oneCell' = true := by
  unfold oneV
  split
  · assumption
  · rfl
theorem oneV_of {v : Value} (h : v.oneCell' = true) : oneV v = v := if_pos h
def encLf (p : LC) : List Value := [.string (mkB (pathP p.2.2.1)), oneV p.1, oneV p.2.1]
def cfLf (p q : LC) : Int := Lib.compareBytes (pathP p.2.2.1) (pathP q.2.2.1)
theorem ltLf (p q : LC) : ltOf cfLf p q = decide (Lib.compareBytes (pathP p.2.2.1) (pathP q.2.2.1) < 0) := rfl
theorem swoLf : SWO (ltOf cfLf) where
  irrefl x := by rw [ltLf, cmpB_self]; rfl
  trans x y z h1 h2 := by
    rw [ltLf, decide_eq_true_iff] at *
    exact cmpB_trans _ _ _ h1 h2
  ntrans x y z h1 h2 := by
    rw [ltLf, decide_eq_false_iff_not] at *
    exact cmpB_ntrans _ _ _ h1 h2
set_option maxHeartbeats 1000000 in
theorem leafCmp (x y : LC) (W : World) : Calls Tryz.prog 55 #[.agg (encLf x).toArray, .agg (encLf y).toArray] W fun e w' => e = .returned (.int .i64 (cfLf x y)) ∧ ∃ q os', w' = Go.Sort.grow (W.drewN q) os' := by
  obtain ⟨a1, a2, lx⟩ := x
  obtain ⟨b1, b2, ly⟩ := y
  have hcon := fun W' => Tryz.strings_Compare (mkB (pathP lx.1)) (mkB (pathP ly.1)) W'
  rw [show cfLf (a1, a2, lx) (b1, b2, ly) = Lib.compareBytes (mkB (pathP lx.1)).data.toList (mkB (pathP ly.1)).data.toList by rw [mkB_list, mkB_list]; rfl]
  generalize Lib.compareBytes (mkB (pathP lx.1)).data.toList (mkB (pathP ly.1)).data.toList = r at hcon ⊢
  unfold encLf
  generalize mkB (pathP lx.1) = s1 at hcon ⊢
  generalize mkB (pathP ly.1) = s2 at hcon ⊢
  generalize oneV (a1, a2, lx).1 = c1
  generalize oneV (a1, a2, lx).2.1 = c2
  generalize oneV (b1, b2, ly).1 = d1
  generalize oneV (b1, b2, ly).2.1 = d2
  show Calls Tryz.prog 55 #[.agg #[.string s1, c1, c2], .agg #[.string s2, d1, d2]] W _
  go_enter Tryz.func55, Tryz.ntmps55
  go_wp2_with (go_at_call 56; refine (hcon _).mono ?_; rintro e w' ⟨rfl, rfl⟩)
  go_ret
  exact ⟨rfl, 0, _, by rw [alloc_eq_grow, alloc_eq_grow, grow_grow]; rfl⟩
theorem leafLays (blk off size : Nat) (w : World) : CmpLays Tryz.prog 55 #[] encLf 3 cfLf blk off size w := fun _ _ _ _ x y => leafCmp x y _
theorem encLf_len (x : LC) : (encLf x).length = 3 := rfl
theorem encLf_one (x : LC) : ∀ v ∈ encLf x, v.oneCell' = true := fun v hv => by
  unfold encLf at hv
  simp only [List.mem_cons, List.not_mem_nil, or_false] at hv
  rcases hv with rfl | rfl | rfl
  · rfl
  · exact oneV_one _
  · exact oneV_one _
theorem flatK_get (d : List LC) : (flatK encLf 3 d.toArray).toList = (d.map encLf).flatten := by
  have hk : ∀ cs ∈ d.map encLf, cs.length = 3 := fun cs h => by
    obtain ⟨x, _, rfl⟩ := List.mem_map.1 h
    rfl
  have hl : (d.map encLf).flatten.length = d.length * 3 := by rw [flat_len hk, List.length_map]
  refine List.ext_getElem? fun t => ?_
  by_cases ht : t < d.length * 3
  · have e1 : t = t / 3 * 3 + t % 3 := by omega
    have hj : t / 3 < d.length := by omega
    have hi : t % 3 < 3 := by omega
    have e2 : (d.map encLf).flatten[t]? = some (encLf d[t / 3])[t % 3] := by
      conv => lhs; rw [e1]
      exact get_flat hk (by rw [List.getElem?_map, List.getElem?_eq_getElem hj]; rfl) (List.getElem?_eq_getElem (by rw [encLf_len]; exact hi))
    rw [e2]
    have e3 := get_flatK encLf 3 d.toArray t (by simpa using ht)
    have e4 : t < (flatK encLf 3 d.toArray).size := by rw [size_flatK]; simpa using ht
    rw [getElem!_pos _ t e4] at e3
    rw [Array.getElem?_toList, Array.getElem?_eq_getElem e4, e3, getElem!_pos d.toArray (t / 3) (by simpa using hj), getElem!_pos _ (t % 3) (by rw [encLf_len]; exact hi)]
    rfl
  · rw [List.getElem?_eq_none (by rw [Array.length_toList, size_flatK]; simp; omega), List.getElem?_eq_none (by rw [hl]; omega)]
theorem own_sorted {T : List Nat} {w0 w : World} {B g n c : Nat} {l : List Leaf} (h : OwnAt (LeafX T w0) 3 w B 65 (.slice (some ⟨g, 0, none⟩) n c) l) :
    n = l.length ∧ g < w.heap.size ∧ ∃ d : List LC, d.length = l.length ∧ HoldsK encLf 3 w g 0 d.toArray ∧ ∀ (q : Nat) (d' : List LC), d'.Perm d → (d'.map (·.2.2)).Perm l ∧
      OwnAt (LeafX T w0) 3 (putRowK encLf 3 (Go.Sort.ahead w q) g 0 d'.toArray) B 65 (.slice (some ⟨g, 0, none⟩) n c) (d'.map (·.2.2)) ∧ RowKit.Below B w (putRowK encLf 3 (Go.Sort.ahead w q) g 0 d'.toArray) ∧ SameBut 65 w (putRowK encLf 3 (Go.Sort.ahead w q) g 0 d'.toArray) ∧ (putRowK encLf 3 (Go.Sort.ahead w q) g 0 d'.toArray).heap.size = w.heap.size := by
  obtain ⟨css, c1, c2, ⟨c3, c4⟩, c5⟩ := h
  rcases c4 with ⟨h0, _⟩ | ⟨g', cap, cur, hv, hB, hh, hle, hm, hzc, ht⟩
  · cases h0
  · injection hv with u1 u2 u3
    injection u1 with u1
    injection u1 with u1
    subst u1; subst u2; subst u3
    have hgl : g < w.heap.size := by
      rcases Nat.lt_or_ge g w.heap.size with h1 | h1
      · exact h1
      · rw [Array.getElem?_eq_none h1] at hh; cases hh
    obtain ⟨d, hd1, hd2⟩ := pick_each (fun j (p : LC) => ∃ cs x, css[j]? = some cs ∧ l[j]? = some x ∧ p.2.2 = x ∧ encLf p = cs) l.length (fun j hj => by
      have hj1 : css[j]? = some (css[j]'(by omega)) := List.getElem?_eq_getElem _
      have hj2 : l[j]? = some l[j] := List.getElem?_eq_getElem _
      obtain ⟨sv, vv, k, e1, e2, e3⟩ := c5 j _ _ hj1 hj2
      refine ⟨(sv, vv, l[j]), _, _, hj1, hj2, rfl, ?_⟩
      rw [e1]
      unfold encLf
      rw [oneV_of (strX_cell e2), oneV_of (one_jv k T w0 [vv] _ ⟨vv, rfl, e3⟩ vv (List.mem_singleton.2 rfl))])
    have hdl : d.map (·.2.2) = l := by
      refine List.ext_getElem? fun j => ?_
      rw [List.getElem?_map]
      by_cases hj : j < l.length
      · have hp : d[j]? = some (d[j]'(by omega)) := List.getElem?_eq_getElem _
        obtain ⟨cs, x, _, e2, e3, _⟩ := hd2 j _ hp
        rw [hp, e2, ← e3]
        rfl
      · rw [List.getElem?_eq_none (by omega), List.getElem?_eq_none (by omega)]; rfl
    have hdc : d.map encLf = css := by
      refine List.ext_getElem? fun j => ?_
      rw [List.getElem?_map]
      by_cases hj : j < l.length
      · have hp : d[j]? = some (d[j]'(by omega)) := List.getElem?_eq_getElem _
        obtain ⟨cs, x, e1, _, _, e4⟩ := hd2 j _ hp
        rw [hp, e1, ← e4]
        rfl
      · rw [List.getElem?_eq_none (by omega), List.getElem?_eq_none (by omega)]; rfl
    have hR : ∀ p ∈ d, LeafX T w0 w (encLf p) p.2.2 := fun p hp => by
      obtain ⟨j, hj, rfl⟩ := List.getElem_of_mem hp
      obtain ⟨cs, x, e1, e2, e3, e4⟩ := hd2 j _ (List.getElem?_eq_getElem hj)
      rw [e3, e4]
      exact c5 j cs x e1 e2
    refine ⟨rfl, hgl, d, hd1, ?_, ?_⟩
    · intro j hj
      rw [size_flatK] at hj
      have hj3 : j < l.length * 3 := by simpa [hd1] using hj
      refine ⟨?_, free_block hh _⟩
      have e4 : j < (flatK encLf 3 d.toArray).size := by rw [size_flatK]; exact hj
      rw [getElem!_pos _ j e4, Nat.zero_add, cell_block hh]
      have e5 : (flatK encLf 3 d.toArray).toList[j]? = cur.toList[j]? := by
        rw [flatK_get, hdc, ← ht, List.getElem?_take_of_lt hj3]
      rw [Array.getElem?_toList, Array.getElem?_toList, Array.getElem?_eq_getElem e4] at e5
      exact e5.symm
    · intro q d' hp
      have hl' : d'.length = l.length := by rw [hp.length_eq, hd1]
      obtain ⟨W, hW⟩ : ∃ W, putRowK encLf 3 (Go.Sort.ahead w q) g 0 d'.toArray = W := ⟨_, rfl⟩
      rw [hW]
      have hw : W.heap[g]? = some (.cells (putCells id 0 (flatK encLf 3 d'.toArray) cur) 65 (0, 0)) := by
        rw [← hW]
        unfold putRowK putRow mapBlock
        show (Array.modify w.heap g _)[g]? = _
        rw [Array.getElem?_modify, if_pos rfl, hh]
        rfl
      have ho : ∀ k, k ≠ g → W.heap[k]? = w.heap[k]? := fun k hk => by
        rw [← hW]
        unfold putRowK putRow mapBlock
        show (Array.modify w.heap g _)[k]? = _
        rw [Array.getElem?_modify, if_neg (Ne.symm hk)]
      have hs : W.heap.size = w.heap.size := by
        rw [← hW]
        unfold putRowK putRow mapBlock
        show (Array.modify w.heap g _).size = _
        rw [Array.size_modify]
      have hsb : SameBut 65 w W := fun b cs t fr hb htn => by
        rw [ho b (fun e => by rw [e, hh] at hb; injection hb with hb; injection hb with _ hb _; exact htn hb.symm)]
        exact hb
      have hk' : ∀ cs ∈ d'.map encLf, cs.length = 3 := fun cs h => by
        obtain ⟨x, _, rfl⟩ := List.mem_map.1 h
        rfl
      refine ⟨by rw [← hdl]; exact hp.map _, ⟨d'.map encLf, by rw [List.length_map, List.length_map], hk', ⟨by rw [flat_len hk', List.length_map, List.length_map], .inr ⟨g, c, _, by rw [List.length_map, hl'], hB, hw, by rw [List.length_map, hl']; exact hle, hm, by unfold putCells; rw [Array.size_mapIdx]; exact hzc, ?_⟩⟩, ?_⟩, ⟨by rw [← hW]; rfl, by rw [← hW]; rfl, by rw [← hW]; rfl, by rw [hs]; exact Nat.le_refl _, fun k hk => ho k (by omega)⟩, hsb, hs⟩
      · rw [← flatK_get, List.length_map, hl']
        apply List.ext_getElem?
        intro t
        by_cases htl : t < l.length * 3
        · have htc : t < cur.size := by rw [hzc]; omega
          have e4 : t < (flatK encLf 3 d'.toArray).size := by rw [size_flatK]; simp [hl']; omega
          rw [List.getElem?_take_of_lt htl, Array.getElem?_toList, Array.getElem?_toList]
          unfold putCells
          rw [Array.getElem?_mapIdx, Array.getElem?_eq_getElem htc, Option.map_some, if_pos ⟨by omega, by omega⟩, Nat.sub_zero, getElem!_pos _ t e4, Array.getElem?_eq_getElem e4]
          rfl
        · rw [List.getElem?_eq_none (by rw [List.length_take]; omega), List.getElem?_eq_none (by rw [Array.length_toList, size_flatK]; simp [hl']; omega)]
      · intro j cs x hcs hx
        rw [List.getElem?_map] at hcs hx
        obtain ⟨p, hp1, rfl⟩ := Option.map_eq_some_iff.1 hcs
        rw [hp1] at hx
        obtain rfl : p.2.2 = x := by simpa using hx
        exact leafX_staysX T w0 _ _ _ _ hsb (hR p (hp.mem_iff.1 (List.mem_of_getElem? hp1)))
def Rise (l : List Leaf) : Prop := l.Pairwise fun x y => ¬ Lib.compareBytes (pathP y.1) (pathP x.1) < 0
theorem sorted_pairs {α : Type} [Inhabited α] {cf : α → α → Int} (c : α → α → Int) (hc : ∀ p q, ltOf cf p q = decide (c p q < 0)) {d : Array α} {n : Nat} (hn : d.size = n) (h : SortedIn (ltOf cf) 0 n d) : d.toList.Pairwise fun p q => ¬ c q p < 0 := by
  rw [List.pairwise_iff_getElem]
  intro i j hi hj hij
  have h1 := h i j (Nat.zero_le _) hij (by rw [← hn]; simpa using hj)
  rw [hc, decide_eq_false_iff_not] at h1
  rw [getElem!_pos d j (by simpa using hj), getElem!_pos d i (by simpa using hi)] at h1
  simpa using h1
theorem leafSort_any (v : Value) (l : List Leaf) (B : Nat) (T : List Nat) (w0 w : World) (h : OwnAt (LeafX T w0) 3 w B 65 v l) (hB : B ≤ w.heap.size) (hl : l.length ≤ 1073741824) :
    Calls Tryz.prog 54 #[v, .func (.func 55) #[] #[]] w fun e w' => e = .returned (.tuple #[]) ∧ ∃ l', l'.Perm l ∧ Rise l' ∧ OwnAt (LeafX T w0) 3 w' B 65 v l' ∧ RowKit.Below B w w' ∧ SameBut 65 w w' := by
  rcases h.form with ⟨rfl, rfl⟩ | ⟨g, c, rfl, _, hg, _, _⟩
  · refine (AnyF.slices_SortFunc_none Tryz.leafSort none 0 _ w).mono fun e w' ⟨h1, h2⟩ => ?_
    subst h2
    exact ⟨h1, [], List.Perm.refl _, List.Pairwise.nil, OwnAt.nil _, Below.refl _ _, fun _ _ _ _ h _ => h⟩
  · obtain ⟨_, _, d, hd1, hH, ho⟩ := own_sorted h
    have eg : ∀ args w, (callFunc 55 args).run Tryz.prog w = .ok (.enter 55 args) w := enters_of Tryz.func55 (by kernel_rfl) rfl
    have hs := AnyQ.slices_SortFunc Tryz.leafSort 3 Tryz.isAgg65 Tryz.sizeOf65 encLf encLf_len encLf_one cfLf swoLf 55 #[] g 0 c d.toArray w eg (leafLays g 0 _ w) hH hg (by simp [hd1]; omega)
    have hsz : d.toArray.size = l.length := by simp [hd1]
    rw [hsz] at hs
    refine hs.mono fun e w' ⟨h1, d', n, os, hp, hso, h2⟩ => ?_
    have hpp : d'.toList.Perm d := by
      obtain ⟨p1, _, p3⟩ := hp
      have e1 : d'.size = l.length := by rw [p1, hsz]
      have e2 : d'.extract 0 l.length = d' := by rw [← e1]; exact Array.extract_size
      have e3 : d.toArray.extract 0 l.length = d.toArray := by rw [← hsz]; exact Array.extract_size
      rw [e2, e3] at p3
      exact p3
    obtain ⟨o0, o1, o2, o3, o4⟩ := ho n d'.toList hpp
    rw [Array.toArray_toList] at o1 o2 o3 o4
    have hgr : RowKit.Below (putRowK encLf 3 (Go.Sort.ahead w n) g 0 d').heap.size (putRowK encLf 3 (Go.Sort.ahead w n) g 0 d') w' := by
      rw [h2]
      exact Lib.below_grow _ _ (Nat.le_refl _) 0 os
    have hrise : Rise (d'.toList.map (·.2.2)) := by
      unfold Rise
      rw [List.pairwise_map]
      exact sorted_pairs (fun p q : LC => Lib.compareBytes (pathP p.2.2.1) (pathP q.2.2.1)) (fun p q => ltLf p q) (by rw [hp.1, hsz]) hso
    exact ⟨h1, _, o0, hrise, o1.belowX (leafX_staysX _ _) hgr, o2.trans (hgr.mono (by rw [o4]; exact hB)), o3.trans (sameBut_below hgr)⟩
end Go.Proofs.YtdcmnpeabjallaaGreatDoor
namespace Go.Proofs.YtdcmnpeabjallaaGreatDoor
open Go.Shelf
def Tryz.ownedSort_ren : Go.Shelf.Ren := ⟨fun | 6 => 71 | 15 => 89 | 14 => 106 | 28 => 127 | 29 => 128 | 20 => 142 | 21 => 143 | 22 => 144 | 23 => 145 | 24 => 146 | 25 => 147 | 26 => 148 | 27 => 149 | 46 => 174 | 47 => 160 | 48 => 161 | 49 => 175 | 50 => 176 | 57 => 195 | n => n, fun | 22 => 22 | 24 => 30 | 25 => 105 | 3 => 3 | 39 => 124 | 0 => 0 | 53 => 162 | 55 => 164 | 4 => 4 | 46 => 156 | 45 => 155 | 50 => 133 | 5 => 5 | 9 => 9 | 66 => 186 | 70 => 190 | 76 => 206 | 77 => 106 | n => n, fun | n => n⟩
theorem Tryz.ownedSort : Go.Proofs.SlLaysF0.n6 Tryz.prog Tryz.ownedSort_ren := {
  mixed := by kernel_rfl
  f6 := ⟨Tryz.f71.name, by decide, Tryz.func71.trans (congrArg some (by kernel_rfl))⟩
  f14 := ⟨Tryz.f106.name, by decide, Tryz.func106.trans (congrArg some (by kernel_rfl))⟩
  f15 := Tryz.func89.trans (congrArg some (by kernel_rfl))
  f20 := ⟨Tryz.f142.name, by decide, Tryz.func142.trans (congrArg some (by kernel_rfl))⟩
  f21 := ⟨Tryz.f143.name, by decide, Tryz.func143.trans (congrArg some (by kernel_rfl))⟩
  f22 := ⟨Tryz.f144.name, by decide, Tryz.func144.trans (congrArg some (by kernel_rfl))⟩
  f23 := ⟨Tryz.f145.name, by decide, Tryz.func145.trans (congrArg some (by kernel_rfl))⟩
  f24 := ⟨Tryz.f146.name, by decide, Tryz.func146.trans (congrArg some (by kernel_rfl))⟩
  f25 := ⟨Tryz.f147.name, by decide, Tryz.func147.trans (congrArg some (by kernel_rfl))⟩
  f26 := ⟨Tryz.f148.name, by decide, Tryz.func148.trans (congrArg some (by kernel_rfl))⟩
  f27 := ⟨Tryz.f149.name, by decide, Tryz.func149.trans (congrArg some (by kernel_rfl))⟩
  f28 := Tryz.func127.trans (congrArg some (by kernel_rfl))
  f29 := Tryz.func128.trans (congrArg some (by kernel_rfl))
  f46 := ⟨Tryz.f174.name, by decide, Tryz.func174.trans (congrArg some (by kernel_rfl))⟩
  f47 := Tryz.func160.trans (congrArg some (by kernel_rfl))
  f48 := Tryz.func161.trans (congrArg some (by kernel_rfl))
  f49 := ⟨Tryz.f175.name, by decide, Tryz.func175.trans (congrArg some (by kernel_rfl))⟩
  f50 := ⟨Tryz.f176.name, by decide, Tryz.func176.trans (congrArg some (by kernel_rfl))⟩
  f57 := ⟨Tryz.f195.name, by decide, Tryz.func195.trans (congrArg some (by kernel_rfl))⟩
  t0 := Tryz.underlying0
  a0 := Tryz.isAgg0
  z0 := Tryz.sizeOf0
  v0 := Tryz.zeroValue0
  t3 := Tryz.underlying3
  a3 := Tryz.isAgg3
  z3 := Tryz.sizeOf3
  v3 := Tryz.zeroValue3
  t4 := Tryz.underlying4
  a4 := Tryz.isAgg4
  z4 := Tryz.sizeOf4
  v4 := Tryz.zeroValue4
  t5 := Tryz.underlying5
  a5 := Tryz.isAgg5
  z5 := Tryz.sizeOf5
  v5 := Tryz.zeroValue5
  t9 := Tryz.underlying9
  a9 := Tryz.isAgg9
  z9 := Tryz.sizeOf9
  v9 := Tryz.zeroValue9
  t22 := Tryz.underlying22
  a22 := Tryz.isAgg22
  z22 := Tryz.sizeOf22
  v22 := Tryz.zeroValue22
  t25 := Tryz.underlying105
  a25 := Tryz.isAgg105
  z25 := Tryz.sizeOf105
  v25 := Tryz.zeroValue105
  t39 := Tryz.underlying124
  a39 := Tryz.isAgg124
  z39 := Tryz.sizeOf124
  v39 := Tryz.zeroValue124
  t45 := Tryz.underlying155
  a45 := Tryz.isAgg155
  z45 := Tryz.sizeOf155
  v45 := Tryz.zeroValue155
  t46 := Tryz.underlying156
  a46 := Tryz.isAgg156
  z46 := Tryz.sizeOf156
  v46 := Tryz.zeroValue156
  t50 := Tryz.underlying133
  a50 := Tryz.isAgg133
  z50 := Tryz.sizeOf133
  v50 := Tryz.zeroValue133
  t53 := Tryz.underlying162
  a53 := Tryz.isAgg162
  z53 := Tryz.sizeOf162
  v53 := Tryz.zeroValue162
  t55 := Tryz.underlying164
  a55 := Tryz.isAgg164
  z55 := Tryz.sizeOf164
  v55 := Tryz.zeroValue164
  t66 := Tryz.underlying186
  a66 := Tryz.isAgg186
  z66 := Tryz.sizeOf186
  v66 := Tryz.zeroValue186
  t70 := Tryz.underlying190
  a70 := Tryz.isAgg190
  z70 := Tryz.sizeOf190
  v70 := Tryz.zeroValue190
  t76 := Tryz.underlying206
  a76 := Tryz.isAgg206
  z76 := Tryz.sizeOf206
  v76 := Tryz.zeroValue206
  t77 := Tryz.underlying106
  a77 := Tryz.isAgg106
  z77 := Tryz.sizeOf106
  v77 := Tryz.zeroValue106 }
end Go.Proofs.YtdcmnpeabjallaaGreatDoor
namespace Go.Proofs.YtdcmnpeabjallaaGreatDoor
open Go.RowKit
open JP (JV Bs)
namespace JP
variable {d p q v w : Bs}
theorem joinK_append (a b : List Bs) : joinK (a ++ b) = joinK a ++ joinK b := by unfold joinK; rw [List.flatMap_append]
theorem joinK_prefix {a b : List Bs} (h : a <+: b) : joinK a = joinK b ∨ Lib.hasPrefix (joinK b) (joinK a ++ [47]) = true := by
  obtain ⟨k, rfl⟩ := h
  cases k with
  | nil => exact .inl (by rw [List.append_nil])
  | cons s r =>
    refine .inr ?_
    unfold Lib.hasPrefix
    rw [List.isPrefixOf_iff_prefix, joinK_append]
    refine ⟨escS s ++ joinK r, ?_⟩
    unfold joinK
    rw [List.flatMap_cons]
    simp
end JP
namespace JP
theorem fit_one : Fit (.num 1) := ⟨by rw [wf]; exact ⟨by decide, by decide⟩, by decide, by decide, by decide +kernel⟩
theorem read_one : readL [49] = (.num 1, 0) := by have := fit_read fit_one; rw [show text (.num 1) = [49] from by decide +kernel] at this; exact this
end JP
end Go.Proofs.YtdcmnpeabjallaaGreatDoor
namespace Go.Proofs.YtdcmnpeabjallaaGreatDoor
open Go.RowKit
open JP (JV Bs)
namespace JP
def atO (v : JV) : List Bs → Option JV
  | [] => some v
  | s :: r => (get s (fieldsOf v)).bind fun c => atO c r
def setV (v : JV) : List Bs → JV → JV
  | [], w => w
  | s :: r, w => .obj (put s (setV (gto s (fieldsOf v)) r w) (fieldsOf v))
def Div (a b : List Bs) : Prop := ¬ a <+: b ∧ ¬ b <+: a
theorem atO_nil (v : JV) : atO v [] = some v := by rw [atO]
theorem atO_cons (v : JV) (s : Bs) (r : List Bs) : atO v (s :: r) = (get s (fieldsOf v)).bind fun c => atO c r := by rw [atO]
theorem setV_nil (v w : JV) : setV v [] w = w := by rw [setV]
theorem setV_cons (v : JV) (s : Bs) (r : List Bs) (w : JV) : setV v (s :: r) w = .obj (put s (setV (gto s (fieldsOf v)) r w) (fieldsOf v)) := by rw [setV]
theorem atW_cons' (v : JV) (s : Bs) (r : List Bs) : atW v (s :: r) = (child v s).bind fun c => atW c r := by rw [atW]
theorem get_obj {v c : JV} {s : Bs} (h : get s (fieldsOf v) = some c) : ∃ l, v = .obj l ∧ get s l = some c := by
  cases v with
  | obj l => exact ⟨l, rfl, h⟩
  | _ => unfold fieldsOf at h; rw [get] at h; cases h
theorem child_of {v c : JV} {s : Bs} (h : get s (fieldsOf v) = some c) : child v s = some c := by
  obtain ⟨l, rfl, h1⟩ := get_obj h
  exact h1
theorem atO_atW : ∀ {r : List Bs} {v x : JV}, atO v r = some x → atW v r = some x
  | [], v, x, h => by rw [atO] at h; rw [atW]; exact h
  | s :: r, v, x, h => by
    rw [atO_cons] at h
    cases hg : get s (fieldsOf v) with
    | none => rw [hg] at h; cases h
    | some c =>
      rw [hg] at h
      rw [atW_cons', child_of hg]
      exact atO_atW h
theorem div_cons {s : Bs} {a b : List Bs} (h : Div (s :: a) (s :: b)) : Div a b := ⟨fun h1 => h.1 (List.cons_prefix_cons.2 ⟨rfl, h1⟩), fun h1 => h.2 (List.cons_prefix_cons.2 ⟨rfl, h1⟩)⟩
theorem div_ne {a b : List Bs} (h : Div a b) : a ≠ [] ∧ b ≠ [] := ⟨fun e => h.1 (e ▸ List.nil_prefix), fun e => h.2 (e ▸ List.nil_prefix)⟩
theorem Div.symm {a b : List Bs} (h : Div a b) : Div b a := ⟨h.2, h.1⟩
theorem set_apart : ∀ (a b : List Bs) (v w : JV), Div a b → atO (setV v a w) b = atO v b
  | [], b, v, w, h => absurd rfl (div_ne h).1
  | s :: r, [], v, w, h => absurd rfl (div_ne h).2
  | s :: r, t :: q, v, w, h => by
    rw [setV_cons, atO_cons, atO_cons]
    show (get t (put s _ (fieldsOf v))).bind _ = _
    rw [get_put]
    by_cases e : t = s
    · subst e
      have hd := div_cons h
      rw [if_pos rfl]
      show atO (setV (gto t (fieldsOf v)) r w) q = _
      rw [set_apart r q _ w hd]
      cases hg : get t (fieldsOf v) with
      | some c => rw [gto_some hg]; rfl
      | none =>
        unfold gto
        rw [hg]
        obtain ⟨u, q', rfl⟩ : ∃ u q', q = u :: q' := by
          cases q with
          | nil => exact absurd rfl (div_ne hd).2
          | cons u q' => exact ⟨u, q', rfl⟩
        show atO JV.nul (u :: q') = none
        rw [atO_cons]; rfl
    · rw [if_neg e]
theorem fields_wfS {v : JV} (h : wfS v) : Srt (fieldsOf v) ∧ wfSF (fieldsOf v) := by
  cases v with
  | obj l => exact wfS_obj h
  | _ => exact ⟨List.Pairwise.nil, by unfold fieldsOf; rw [wfSF]; trivial⟩
theorem gto_wfS {v : JV} (h : wfS v) (s : Bs) : wfS (gto s (fieldsOf v)) := by
  unfold gto
  cases hg : get s (fieldsOf v) with
  | none => show wfS .nul; rw [wfS]; trivial
  | some c => exact wfS_at (fields_wfS h).2 hg
theorem set_wfS : ∀ (r : List Bs) (v w : JV), wfS v → wfS w → wfS (setV v r w)
  | [], v, w, _, hw => by rw [setV]; exact hw
  | s :: r, v, w, hv, hw => by
    rw [setV_cons, wfS]
    exact ⟨put_srt (fields_wfS hv).1, putS_wf (set_wfS r _ w (gto_wfS hv s) hw) (fields_wfS hv).2⟩
theorem set_same : ∀ (r : List Bs) (v w : JV), wfS v → atO v r = some w → setV v r w = v
  | [], v, w, _, h => by rw [atO] at h; rw [setV]; exact (Option.some.inj h).symm
  | s :: r, v, w, hv, h => by
    rw [atO_cons] at h
    cases hg : get s (fieldsOf v) with
    | none => rw [hg] at h; cases h
    | some c =>
      rw [hg] at h
      obtain ⟨l, rfl, h1⟩ := get_obj hg
      rw [setV_cons, gto_some hg, set_same r c w (wfS_at (wfS_obj hv).2 h1) h]
      show JV.obj (put s c l) = _
      rw [put_get (wfS_obj hv).1 h1]
def Thr (v : JV) (k : List Bs) : Prop := ∀ j, j < k.length → ∃ o, atO v (k.take j) = some (.obj o)
theorem thr_cons {v : JV} {s : Bs} {q : List Bs} (h : Thr v (s :: q)) : (∃ l, v = .obj l) ∧ (q ≠ [] → ∃ c, get s (fieldsOf v) = some c ∧ Thr c q) := by
  refine ⟨?_, fun hq => ?_⟩
  · obtain ⟨o, ho⟩ := h 0 (by simp)
    rw [List.take_zero, atO_nil] at ho
    exact ⟨o, Option.some.inj ho⟩
  · have h1 := h 1 (by cases q with | nil => exact absurd rfl hq | cons _ _ => simp)
    obtain ⟨o, ho⟩ := h1
    rw [List.take_succ_cons, List.take_zero, atO_cons] at ho
    cases hg : get s (fieldsOf v) with
    | none => rw [hg] at ho; cases ho
    | some c =>
      refine ⟨c, rfl, fun j hj => ?_⟩
      obtain ⟨o2, ho2⟩ := h (j + 1) (by simp; omega)
      rw [List.take_succ_cons, atO_cons, hg] at ho2
      exact ⟨o2, ho2⟩
theorem thr_of {v c : JV} {s : Bs} {q : List Bs} (hv : ∃ l, v = .obj l) (hg : get s (fieldsOf v) = some c) (h : Thr c q) : Thr v (s :: q) := by
  intro j hj
  cases j with
  | zero => obtain ⟨l, rfl⟩ := hv; exact ⟨l, by rw [List.take_zero, atO_nil]⟩
  | succ j =>
    obtain ⟨o, ho⟩ := h j (by simpa using hj)
    exact ⟨o, by rw [List.take_succ_cons, atO_cons, hg]; exact ho⟩
theorem thr_one {v : JV} {s : Bs} (hv : ∃ l, v = .obj l) : Thr v [s] := by
  intro j hj
  obtain ⟨l, rfl⟩ := hv
  have : j = 0 := by simpa using hj
  subst this
  exact ⟨l, by rw [List.take_zero, atO_nil]⟩
theorem thr_at : ∀ {k : List Bs} {v : JV}, Thr v k → atW v k = atO v k
  | [], v, _ => by rw [atW, atO]
  | s :: q, v, h => by
    obtain ⟨⟨l, rfl⟩, h2⟩ := thr_cons h
    rw [atW_cons', atO_cons]
    show (get s l).bind _ = (get s l).bind _
    cases hg : get s l with
    | none => rfl
    | some c =>
      show atW c q = atO c q
      cases q with
      | nil => rw [atW, atO]
      | cons t q' =>
        obtain ⟨c', hc', ht⟩ := h2 (by simp)
        have : c = c' := Option.some.inj (hg.symm.trans hc')
        subst this
        exact thr_at ht
theorem under_obj {f : JV → Bs → Option JV} {v v' : JV} {s : Bs} {r : List Bs} (h : under f v (s :: r) = some v') (hr : r ≠ []) : ∃ c c', child v s = some c ∧ under f c r = some c' ∧ v' = repl v s c' := by
  obtain ⟨t, r', rfl⟩ : ∃ t r', r = t :: r' := by
    cases r with
    | nil => exact absurd rfl hr
    | cons t r' => exact ⟨t, r', rfl⟩
  rw [under_more] at h
  cases hc : child v s with
  | none => rw [hc] at h; cases h
  | some c =>
    rw [hc] at h
    cases hu : under f c (t :: r') with
    | none => simp only [Option.bind_some, hu, Option.map_none] at h; cases h
    | some c' =>
      simp only [Option.bind_some, hu, Option.map_some, Option.some.injEq] at h
      exact ⟨c, c', rfl, hu, h.symm⟩
theorem cut_one {l : Fs} {s : Bs} {v' : JV} (h : cutW (.obj l) [s] = some v') : (get s l).isSome = true ∧ v' = .obj (cut s l) := by
  unfold cutW at h
  rw [under_one] at h
  unfold cutL at h
  simp only at h
  split at h
  · rename_i h1; exact ⟨h1, (Option.some.inj h).symm⟩
  · cases h
theorem cut_thr : ∀ (b k : List Bs) (v v' : JV), Div b k → Thr v k → cutW v b = some v' → Thr v' k ∧ atO v' k = atO v k
  | [], k, v, v', h, _, _ => absurd rfl (div_ne h).1
  | s :: r, [], v, v', h, _, _ => absurd rfl (div_ne h).2
  | s :: r, t :: q, v, v', h, ht, hc => by
    obtain ⟨⟨l, rfl⟩, h2⟩ := thr_cons ht
    by_cases e : t = s
    · subst e
      have hd := div_cons h
      obtain ⟨c, c', k1, k2, rfl⟩ := under_obj hc (div_ne hd).1
      obtain ⟨c2, hc2, ht2⟩ := h2 (div_ne hd).2
      have k1' : get t l = some c := k1
      have : c = c2 := Option.some.inj (k1'.symm.trans hc2)
      subst this
      obtain ⟨i1, i2⟩ := cut_thr r q c c' hd ht2 k2
      have hg : get t (fieldsOf (repl (.obj l) t c')) = some c' := by
        show get t (put t c' l) = _
        rw [get_put, if_pos rfl]
      refine ⟨thr_of ⟨_, rfl⟩ hg i1, ?_⟩
      rw [atO_cons, atO_cons, hg, hc2]
      exact i2
    · have hsame : (∃ l', v' = .obj l') ∧ get t (fieldsOf v') = get t l := by
        cases r with
        | nil =>
          obtain ⟨_, rfl⟩ := cut_one hc
          exact ⟨⟨_, rfl⟩, by show get t (cut s l) = _; rw [get_cut, if_neg e]⟩
        | cons u r' =>
          obtain ⟨c, c', k1, k2, rfl⟩ := under_obj hc (by simp)
          exact ⟨⟨_, rfl⟩, by show get t (put s c' l) = _; rw [get_put, if_neg e]⟩
      refine ⟨?_, ?_⟩
      · cases q with
        | nil => exact thr_one hsame.1
        | cons u q' =>
          obtain ⟨c2, hc2, ht2⟩ := h2 (by simp)
          exact thr_of hsame.1 (hsame.2.trans hc2) ht2
      · rw [atO_cons, atO_cons, hsame.2]; rfl
theorem set_thr : ∀ (a k : List Bs) (v w : JV), Div a k → Thr v k → Thr (setV v a w) k
  | [], k, v, w, h, _ => absurd rfl (div_ne h).1
  | s :: r, [], v, w, h, _ => absurd rfl (div_ne h).2
  | s :: r, t :: q, v, w, h, ht => by
    obtain ⟨⟨l, rfl⟩, h2⟩ := thr_cons ht
    rw [setV_cons]
    by_cases e : t = s
    · subst e
      have hd := div_cons h
      obtain ⟨c2, hc2, ht2⟩ := h2 (div_ne hd).2
      have hg : get t (fieldsOf (JV.obj (put t (setV (gto t l) r w) l))) = some (setV c2 r w) := by
        show get t (put t _ l) = _
        rw [get_put, if_pos rfl, gto_some (show get t l = some c2 from hc2)]
      exact thr_of ⟨_, rfl⟩ hg (set_thr r q c2 w hd ht2)
    · cases q with
      | nil => exact thr_one ⟨_, rfl⟩
      | cons u q' =>
        obtain ⟨c2, hc2, ht2⟩ := h2 (by simp)
        refine thr_of ⟨_, rfl⟩ ?_ ht2
        show get t (put s _ l) = _
        rw [get_put, if_neg e]; exact hc2
def Weak (v : JV) (k : List Bs) : Prop := ∀ j c, j < k.length → atO v (k.take j) = some c → ∃ o, c = .obj o
theorem weak_thr {v : JV} {k : List Bs} (h : Thr v k) : Weak v k := fun j c hj hc => by
  obtain ⟨o, ho⟩ := h j hj
  exact ⟨o, Option.some.inj (hc.symm.trans ho)⟩
theorem weak_cons {v : JV} {s : Bs} {q : List Bs} (h : Weak v (s :: q)) : (∃ l, v = .obj l) ∧ ∀ c, get s (fieldsOf v) = some c → Weak c q := by
  refine ⟨h 0 v (by simp) (by rw [List.take_zero, atO_nil]), fun c hc j x hj hx => ?_⟩
  exact h (j + 1) x (by simp; omega) (by rw [List.take_succ_cons, atO_cons, hc]; exact hx)
theorem weak_of {v : JV} {s : Bs} {q : List Bs} (hv : ∃ l, v = .obj l) (h : ∀ c, get s (fieldsOf v) = some c → Weak c q) : Weak v (s :: q) := by
  intro j c hj hc
  cases j with
  | zero =>
    rw [List.take_zero, atO_nil] at hc
    obtain ⟨l, rfl⟩ := hv
    exact ⟨l, (Option.some.inj hc).symm⟩
  | succ j =>
    rw [List.take_succ_cons, atO_cons] at hc
    cases hg : get s (fieldsOf v) with
    | none => rw [hg] at hc; cases hc
    | some d =>
      rw [hg] at hc
      exact h d hg j c (by simpa using hj) hc
theorem weak_nil (v : JV) : Weak v [] := fun j _ hj => by simp at hj
theorem weak_none : ∀ {k : List Bs} {v : JV}, Weak v k → atO v k = none → atW v k = none
  | [], v, _, h => by rw [atO] at h; cases h
  | s :: q, v, h, hn => by
    obtain ⟨⟨l, rfl⟩, h2⟩ := weak_cons h
    rw [atW_cons']
    rw [atO_cons] at hn
    show (get s l).bind _ = none
    have hn' : (get s l).bind (fun c => atO c q) = none := hn
    cases hg : get s l with
    | none => rfl
    | some c =>
      rw [hg] at hn'
      exact weak_none (h2 c hg) hn'
theorem cut_weak : ∀ (b k : List Bs) (v v' : JV), Weak v k → cutW v b = some v' → Weak v' k ∧ (atO v k = none → atO v' k = none)
  | [], k, v, v', _, h => by unfold cutW at h; rw [under] at h; cases h
  | s :: r, [], v, v', _, _ => ⟨weak_nil _, fun h => by rw [atO] at h; cases h⟩
  | s :: r, t :: q, v, v', hw, hc => by
    obtain ⟨⟨l, rfl⟩, h2⟩ := weak_cons hw
    by_cases e : t = s
    · subst e
      cases r with
      | nil =>
        obtain ⟨_, rfl⟩ := cut_one hc
        have hg : get t (fieldsOf (JV.obj (cut t l))) = none := by show get t (cut t l) = _; rw [get_cut, if_pos rfl]
        refine ⟨weak_of ⟨_, rfl⟩ (fun c h => by rw [hg] at h; cases h), fun _ => ?_⟩
        rw [atO_cons, hg]; rfl
      | cons u r' =>
        obtain ⟨c, c', k1, k2, rfl⟩ := under_obj hc (by simp)
        have hc0 : get t l = some c := k1
        have hg : get t (fieldsOf (repl (.obj l) t c')) = some c' := by
          show get t (put t c' l) = _
          rw [get_put, if_pos rfl]
        obtain ⟨i1, i2⟩ := cut_weak (u :: r') q c c' (h2 c hc0) k2
        refine ⟨weak_of ⟨_, rfl⟩ (fun x hx => by rw [hg] at hx; cases hx; exact i1), fun hn => ?_⟩
        rw [atO_cons, hg]
        rw [atO_cons, show get t (fieldsOf (JV.obj l)) = some c from hc0] at hn
        exact i2 hn
    · have hsame : (∃ l', v' = .obj l') ∧ get t (fieldsOf v') = get t l := by
        cases r with
        | nil =>
          obtain ⟨_, rfl⟩ := cut_one hc
          exact ⟨⟨_, rfl⟩, by show get t (cut s l) = _; rw [get_cut, if_neg e]⟩
        | cons u r' =>
          obtain ⟨c, c', k1, k2, rfl⟩ := under_obj hc (by simp)
          exact ⟨⟨_, rfl⟩, by show get t (put s c' l) = _; rw [get_put, if_neg e]⟩
      refine ⟨weak_of hsame.1 (fun c h => h2 c (hsame.2 ▸ h)), fun hn => ?_⟩
      rw [atO_cons, hsame.2]; exact hn
theorem cut_gone : ∀ (k : List Bs) (v : JV), k ≠ [] → Weak v k → (∀ v', cutW v k = some v' → atO v' k = none) ∧ (cutW v k = none → atO v k = none)
  | [], v, h, _ => absurd rfl h
  | [s], v, _, hw => by
    obtain ⟨⟨l, rfl⟩, _⟩ := weak_cons hw
    refine ⟨fun v' h => ?_, fun h => ?_⟩
    · obtain ⟨_, rfl⟩ := cut_one h
      rw [atO_cons]
      show (get s (cut s l)).bind _ = none
      rw [get_cut, if_pos rfl]; rfl
    · unfold cutW at h
      rw [under_one] at h
      unfold cutL at h
      simp only at h
      split at h
      · cases h
      · rename_i h1
        rw [atO_cons]
        show (get s l).bind _ = none
        cases hg : get s l with
        | none => rfl
        | some c => rw [hg] at h1; exact absurd rfl h1
  | s :: t :: q, v, _, hw => by
    obtain ⟨⟨l, rfl⟩, h2⟩ := weak_cons hw
    refine ⟨fun v' h => ?_, fun h => ?_⟩
    · obtain ⟨c, c', k1, k2, rfl⟩ := under_obj h (by simp)
      rw [atO_cons]
      show (get s (put s c' l)).bind _ = none
      rw [get_put, if_pos rfl]
      exact (cut_gone (t :: q) c (by simp) (h2 c k1)).1 c' k2
    · rw [atO_cons]
      show (get s l).bind _ = none
      cases hg : get s l with
      | none => rfl
      | some c =>
        show atO c (t :: q) = none
        refine (cut_gone (t :: q) c (by simp) (h2 c hg)).2 ?_
        unfold cutW at h ⊢
        rw [under_more, show child (.obj l) s = some c from hg] at h
        simpa using h
theorem set_weak : ∀ (a k : List Bs) (v w : JV), Div a k → (∀ l, v = .obj l → Weak v k) → Weak (setV v a w) k
  | [], k, v, w, h, _ => absurd rfl (div_ne h).1
  | s :: r, [], v, w, h, _ => absurd rfl (div_ne h).2
  | s :: r, t :: q, v, w, h, hw => by
    rw [setV_cons]
    refine weak_of ⟨_, rfl⟩ (fun c hc => ?_)
    have hc' : get t (put s (setV (gto s (fieldsOf v)) r w) (fieldsOf v)) = some c := hc
    rw [get_put] at hc'
    by_cases e : t = s
    · subst e
      rw [if_pos rfl] at hc'
      cases hc'
      refine set_weak r q _ w (div_cons h) (fun l hl => ?_)
      cases hg : get t (fieldsOf v) with
      | none => unfold gto at hl; rw [hg] at hl; cases hl
      | some d =>
        obtain ⟨o, rfl, _⟩ := get_obj hg
        rw [gto_some hg]
        exact (weak_cons (hw o rfl)).2 d hg
    · rw [if_neg e] at hc'
      obtain ⟨o, rfl, _⟩ := get_obj hc'
      exact (weak_cons (hw o rfl)).2 c hc'
end JP
end Go.Proofs.YtdcmnpeabjallaaGreatDoor
namespace Go.Proofs.YtdcmnpeabjallaaGreatDoor
open Go.RowKit
open JP (JV Bs)
namespace JP
end JP
end Go.Proofs.YtdcmnpeabjallaaGreatDoor
namespace Go.Proofs.YtdcmnpeabjallaaGreatDoor
open Go.RowKit
open JP (JV Bs)
namespace JP
theorem at_deep : ∀ {l : List Bs} {v c : JV}, atW v l = some c → l.length + deep c ≤ deep v
  | [], v, c, h => by rw [atW] at h; cases h; simp
  | s :: r, v, c, h => by
    rw [atW_cons] at h
    obtain ⟨x, h1, h2⟩ := Option.bind_eq_some_iff.1 h
    have := at_deep h2
    have := (child_len h1).2.2
    rw [List.length_cons]; omega
end JP
end Go.Proofs.YtdcmnpeabjallaaGreatDoor
namespace Go.Proofs.YtdcmnpeabjallaaGreatDoor.NameP
def edge (c : Nat) : Bool := decide (97 ≤ c ∧ c ≤ 122) || decide (65 ≤ c ∧ c ≤ 90) || decide (48 ≤ c ∧ c ≤ 57)
def low (c : Nat) : Bool := edge c && (decide (c < 65) || decide (90 < c))
def dash (c : Nat) : Bool := c == 45
def made (e v : Nat → Bool) (l : List UInt8) : Bool :=
  match l with
  | [] => false
  | x :: r => e x.toNat && e ((x :: r).getLast (by simp)).toNat && (x :: r).all fun c => e c.toNat || v c.toNat
def isName (l : List UInt8) : Bool := made low dash l
def judge (n most : Nat) (is : Bool) : Int := if most < n then 2 else if is then 0 else 6
def check (l : List UInt8) : Int := judge l.length 63 (isName l)
end Go.Proofs.YtdcmnpeabjallaaGreatDoor.NameP
namespace Go.Proofs.YtdcmnpeabjallaaGreatDoor
open Go.RowKit
open JP (JV Bs)
theorem bs_total {a b : Bs} (h1 : ¬ a < b) (h2 : ¬ b < a) : a = b := List.le_antisymm (List.not_lt.1 h2) (List.not_lt.1 h1)
theorem rise_eq {α : Type} {R : α → α → Prop} (hi : ∀ a, ¬ R a a) (ht : ∀ a b c, R a b → R b c → R a c) : ∀ {l m : List α}, l.Pairwise R → m.Pairwise R → (∀ x, x ∈ l ↔ x ∈ m) → l = m
  | [], [], _, _, _ => rfl
  | [], b :: m, _, _, h => by have := (h b).2 (List.mem_cons_self ..); cases this
  | a :: l, [], _, _, h => by have := (h a).1 (List.mem_cons_self ..); cases this
  | a :: l, b :: m, h1, h2, h => by
    obtain ⟨p1, p2⟩ := List.pairwise_cons.1 h1
    obtain ⟨q1, q2⟩ := List.pairwise_cons.1 h2
    have e : a = b := by
      rcases List.mem_cons.1 ((h a).1 (List.mem_cons_self ..)) with e | ha
      · exact e
      · rcases List.mem_cons.1 ((h b).2 (List.mem_cons_self ..)) with e | hb
        · exact e.symm
        · exact absurd (ht _ _ _ (p1 b hb) (q1 a ha)) (hi _)
    subst e
    congr 1
    refine rise_eq hi ht p2 q2 fun x => ⟨fun hx => ?_, fun hx => ?_⟩
    · rcases List.mem_cons.1 ((h x).1 (List.mem_cons_of_mem _ hx)) with e | h9
      · exact absurd (e ▸ p1 x hx) (hi _)
      · exact h9
    · rcases List.mem_cons.1 ((h x).2 (List.mem_cons_of_mem _ hx)) with e | h9
      · exact absurd (e ▸ q1 x hx) (hi _)
      · exact h9
namespace JP
abbrev Lf := List Bs × JV
abbrev OwnP := Bs × List Bs
theorem mem_gatF' : ∀ {l : Fs} {way : List Bs} {p : Lf}, p ∈ gatF way l → ∃ n w, (n, w) ∈ l ∧ p ∈ gat (way ++ [n]) w
  | [], _, _, h => by rw [gatF] at h; cases h
  | (n, w) :: r, way, p, h => by
    rw [gatF] at h
    rcases List.mem_append.1 h with h | h
    · exact ⟨n, w, List.mem_cons_self .., h⟩
    · obtain ⟨m, v, h1, h2⟩ := mem_gatF' h
      exact ⟨m, v, List.mem_cons_of_mem _ h1, h2⟩
theorem leaf_there : ∀ want : JV, ∀ base : List Bs, Fit want → ∀ p ∈ gat base want, ∃ r, p.1 = base ++ r ∧ atO want r = some p.2 ∧ Fit p.2 ∧ (r = [] → base ≠ [] ∨ ∀ l, want ≠ .obj l) := by
  refine JV.byGet (P := fun want => ∀ base : List Bs, Fit want → ∀ p ∈ gat base want, ∃ r, p.1 = base ++ r ∧ atO want r = some p.2 ∧ Fit p.2 ∧ (r = [] → base ≠ [] ∨ ∀ l, want ≠ .obj l)) (fun want ih => ?_)
  · intro base hf p hp
    rcases obj_or want with ⟨o, rfl⟩ | hn
    · obtain ⟨so, fo⟩ := wf_obj hf.1
      rw [gat] at hp
      by_cases ho : o.isEmpty = true
      · rw [if_pos ho] at hp
        have : o = [] := by simpa using ho
        subst this
        by_cases hb : base.isEmpty = true
        · rw [if_pos hb] at hp; cases hp
        · rw [if_neg hb] at hp
          obtain rfl := List.mem_singleton.1 hp
          exact ⟨[], by simp, atO_nil _, hf, fun _ => .inl (by intro e; rw [e] at hb; exact hb rfl)⟩
      · rw [if_neg ho] at hp
        obtain ⟨n, w, k1, k2⟩ := mem_gatF' hp
        have hg := get_memS so k1
        obtain ⟨r, e1, e2, e3, _⟩ := ih o n w rfl hg (base ++ [n]) (fit_at hf hg) p k2
        refine ⟨n :: r, by rw [e1, List.append_assoc]; rfl, ?_, e3, fun h => by cases h⟩
        rw [atO_cons]
        show (get n o).bind _ = _
        rw [hg]; exact e2
    · rw [gat_other hn] at hp
      obtain rfl := List.mem_singleton.1 hp
      exact ⟨[], by simp, atO_nil _, hf, fun _ => .inr hn⟩
theorem pre_div {base : List Bs} {n m : Bs} {a b : List Bs} (h : n ≠ m) : Div (base ++ n :: a) (base ++ m :: b) :=
  ⟨fun h1 => h (List.cons_prefix_cons.1 ((List.prefix_append_right_inj base).1 h1)).1, fun h1 => h (List.cons_prefix_cons.1 ((List.prefix_append_right_inj base).1 h1)).1.symm⟩
theorem gatF_div (base : List Bs) : ∀ {l : Fs}, Srt l → (∀ n w, (n, w) ∈ l → Fit w ∧ (gat (base ++ [n]) w).Pairwise fun x y : Lf => Div x.1 y.1) → (gatF base l).Pairwise fun x y : Lf => Div x.1 y.1
  | [], _, _ => by rw [gatF]; exact List.Pairwise.nil
  | (n, w) :: r, hs, h => by
    obtain ⟨s1, s2⟩ := List.pairwise_cons.1 hs
    rw [gatF, List.pairwise_append]
    refine ⟨(h n w (List.mem_cons_self ..)).2, gatF_div base s2 fun m v hm => h m v (List.mem_cons_of_mem _ hm), fun x hx y hy => ?_⟩
    obtain ⟨m, v, k1, k2⟩ := mem_gatF' hy
    obtain ⟨a, e1, _⟩ := leaf_there w (base ++ [n]) (h n w (List.mem_cons_self ..)).1 x hx
    obtain ⟨b, e2, _⟩ := leaf_there v (base ++ [m]) (h m v (List.mem_cons_of_mem _ k1)).1 y k2
    rw [e1, e2, List.append_assoc, List.append_assoc]
    exact pre_div (fun e => by have := s1 _ k1; rw [e] at this; exact bs_irrefl _ this)
theorem gat_div : ∀ want : JV, ∀ base : List Bs, Fit want → (gat base want).Pairwise fun x y : Lf => Div x.1 y.1 := by
  refine JV.byGet (P := fun want => ∀ base : List Bs, Fit want → (gat base want).Pairwise fun x y : Lf => Div x.1 y.1) (fun want ih => ?_)
  intro base hf
  rcases obj_or want with ⟨o, rfl⟩ | hn
  · obtain ⟨so, fo⟩ := wf_obj hf.1
    rw [gat]
    split
    · split
      · exact List.Pairwise.nil
      · exact List.pairwise_singleton _ _
    · refine gatF_div base so fun n w h => ?_
      have hg := get_memS so h
      exact ⟨fit_at hf hg, ih o n w rfl hg (base ++ [n]) (fit_at hf hg)⟩
  · rw [gat_other hn]; exact List.pairwise_singleton _ _
def pathL (x : Lf) : Bs := joinK x.1
def IsLeaves (W : List Lf) (want : JV) : Prop := W.Perm (gat [] want) ∧ W.Pairwise fun x y => pathL x < pathL y
theorem path_irrefl (a : Lf) : ¬ pathL a < pathL a := bs_irrefl _
theorem leaves_one {W V : List Lf} {want : JV} (h : IsLeaves W want) (k : IsLeaves V want) : W = V :=
  rise_eq (R := fun x y : Lf => pathL x < pathL y) path_irrefl (fun _ _ _ => bs_trans) h.2 k.2 fun _ => (h.1.mem_iff).trans (k.1.mem_iff).symm
structure LeafOK (want : JV) (x : Lf) : Prop where
  at' : atO want x.1 = some x.2
  fit : Fit x.2
  ne : x.1 ≠ []
  len : x.1.length ≤ 10
theorem leaf_ok {W : List Lf} {want : JV} (h : IsLeaves W want) (hf : Fit want) (hk : kind want = 6) : ∀ x ∈ W, LeafOK want x := fun x hx => by
  obtain ⟨r, e1, e2, e3, e4⟩ := leaf_there want [] hf x (h.1.mem_iff.1 hx)
  rw [List.nil_append] at e1
  subst e1
  refine ⟨e2, e3, fun e => ?_, ?_⟩
  · rcases e4 e with h9 | h9
    · exact h9 rfl
    · rcases obj_or want with ⟨o, rfl⟩ | hn
      · exact h9 o rfl
      · cases want with
        | obj l => exact hn l rfl
        | _ => cases hk
  · have := at_deep (atO_atW e2); have := hf.2.2.1; omega
def touchB (p q : Bs) : Bool := p == q || Lib.hasPrefix p (q ++ [47]) || Lib.hasPrefix q (p ++ [47])
theorem touch_self (p : Bs) : touchB p p = true := by unfold touchB; simp
theorem touch_comm (p q : Bs) : touchB p q = touchB q p := by
  unfold touchB
  have : (p == q) = (q == p) := by rw [Bool.eq_iff_iff, beq_iff_eq, beq_iff_eq]; exact eq_comm
  rw [this, Bool.or_assoc, Bool.or_assoc, Bool.or_comm (Lib.hasPrefix p _)]
theorem touch_div {a b : List Bs} (h : touchB (joinK a) (joinK b) = false) : Div a b := by
  unfold touchB at h
  simp only [Bool.or_eq_false_iff] at h
  obtain ⟨⟨h1, h2⟩, h3⟩ := h
  refine ⟨fun hp => ?_, fun hp => ?_⟩
  · rcases joinK_prefix hp with e | e
    · rw [e] at h1; simp at h1
    · rw [e] at h3; cases h3
  · rcases joinK_prefix hp with e | e
    · rw [e] at h1; simp at h1
    · rw [e] at h2; cases h2
open Classical in
noncomputable def barsB (live : JV) (x : Lf) (p : Bs) : Bool := touchB p (pathL x) && !(p == pathL x && decide (atW live x.1 = some x.2))
open Classical in
theorem bars_no {live : JV} {x : Lf} {p : Bs} (h : barsB live x p = false) : touchB p (pathL x) = false ∨ (p = pathL x ∧ atW live x.1 = some x.2) := by
  unfold barsB at h
  rw [Bool.and_eq_false_iff] at h
  rcases h with h | h
  · exact .inl h
  · rw [Bool.not_eq_false', Bool.and_eq_true, beq_iff_eq, decide_eq_true_iff] at h
    exact .inr h
def GoodPaths (l : List Bs) : Prop := l ≠ [] ∧ l.Pairwise (· < ·) ∧ ∀ p ∈ l, ∃ k, stepsP p = (0, k) ∧ k ≠ []
def GoodO (l : List OwnP) : Prop := l.length ≤ 6 ∧ l.Pairwise (fun a b => a.1 < b.1) ∧ ∀ x ∈ l, NameP.check x.1 = 0 ∧ GoodPaths x.2
def had (l : List OwnP) (m : Bs) : List Bs := ((l.find? fun y => y.1 == m).map (·.2)).getD []
def othersB (l : List OwnP) (m : Bs) (like : Bs → Bool) : Bool := l.any fun y => y.1 != m && y.2.any like
noncomputable def confL (live : JV) (l : List OwnP) (m : Bs) (W : List Lf) : List Lf := W.filter fun x => othersB l m (barsB live x)
noncomputable def seizeL (live : JV) (m : Bs) (W : List Lf) (l : List OwnP) : List OwnP := l.map fun y => if y.1 = m then y else (y.1, y.2.filter fun p => !(W.any fun x => barsB live x p))
def cutP (v : JV) (p : Bs) : JV := (cutW v (stepsP p).2).getD v
def dropV (live : JV) (l : List OwnP) (m : Bs) (W : List Lf) (ps : List Bs) : JV := ps.foldl (fun v p => if W.any (fun x => pathL x == p) || othersB l m (touchB p) then v else cutP v p) live
def setsV (v : JV) (W : List Lf) : JV := W.foldl (fun v x => setV v x.1 x.2) v
noncomputable def outV (live : JV) (l : List OwnP) (m : Bs) (W : List Lf) : JV := setsV (dropV live (seizeL live m W l) m W (had l m)) W
def putM (m : Bs) (ps : List Bs) (l : List OwnP) : List OwnP := (l.filter fun y => decide (y.1 < m)) ++ (m, ps) :: l.filter fun y => decide (m < y.1)
noncomputable def finL (live : JV) (l : List OwnP) (m : Bs) (W : List Lf) : List OwnP := (putM m (W.map pathL) (seizeL live m W l)).filter fun y => !y.2.isEmpty
def AppOK (live want : Bs) (l : List OwnP) (m : Bs) : Prop := (readL live).2 = 0 ∧ GoodO l ∧ NameP.check m = 0 ∧ (readL want).2 = 0 ∧ kind (readL live).1 = 6 ∧ kind (readL want).1 = 6
structure ApplyIs (live : Bs) (l : List OwnP) (m want : Bs) (force : Bool) (s : Bs) (L : List OwnP) (bad : List Bs) (e : Int) : Prop where
  no : e ≠ 0 → s = [] ∧ L = []
  clash : bad ≠ [] ∨ e = 11 → e = 11 ∧ force = false ∧ AppOK live want l m ∧ ∃ W, IsLeaves W (readL want).1 ∧ bad = (confL (readL live).1 l m W).map pathL ∧ bad ≠ []
  yes : e = 0 → AppOK live want l m ∧ ∃ W, IsLeaves W (readL want).1 ∧ (confL (readL live).1 l m W = [] ∨ force = true) ∧ (finL (readL live).1 l m W).length ≤ 6 ∧ tellE (outV (readL live).1 l m W) = 0 ∧ s = tellT (outV (readL live).1 l m W) ∧ L = finL (readL live).1 l m W
  must : ∀ W, AppOK live want l m → IsLeaves W (readL want).1 → (confL (readL live).1 l m W = [] ∨ force = true) → (finL (readL live).1 l m W).length ≤ 6 → tellE (outV (readL live).1 l m W) = 0 → e = 0
end JP
end Go.Proofs.YtdcmnpeabjallaaGreatDoor
namespace Go.Proofs.YtdcmnpeabjallaaGreatDoor
open Go.RowKit
open JP (JV Bs)
namespace JP
theorem sets_apart {b : List Bs} : ∀ (W : List Lf) (v : JV), (∀ x ∈ W, Div x.1 b) → atO (setsV v W) b = atO v b
  | [], _, _ => rfl
  | x :: W, v, h => by
    show atO (setsV (setV v x.1 x.2) W) b = _
    rw [sets_apart W _ (fun y hy => h y (List.mem_cons_of_mem _ hy)), set_apart _ _ _ _ (h x (List.mem_cons_self ..))]
theorem sets_weak {b : List Bs} : ∀ (W : List Lf) (v : JV), (∀ x ∈ W, Div x.1 b) → Weak v b → Weak (setsV v W) b
  | [], _, _, h => h
  | x :: W, v, h, ht => sets_weak W _ (fun y hy => h y (List.mem_cons_of_mem _ hy)) (set_weak _ _ _ _ (h x (List.mem_cons_self ..)) fun _ _ => ht)
theorem sets_wfS : ∀ (W : List Lf) (v : JV), wfS v → (∀ x ∈ W, wfS x.2) → wfS (setsV v W)
  | [], _, h, _ => h
  | x :: W, v, h, hw => sets_wfS W _ (set_wfS _ _ _ h (hw x (List.mem_cons_self ..))) fun y hy => hw y (List.mem_cons_of_mem _ hy)
theorem cut_wfS {v v' : JV} {b : List Bs} (h : wfS v) (hc : cutW v b = some v') : wfS v' :=
  (under_does cut_does (B := (b.map fun s => (quote s).length).sum) h (fun s hs => by
    have : ∀ l : List Bs, s ∈ l → (quote s).length ≤ (l.map fun s => (quote s).length).sum := by
      intro l
      induction l with
      | nil => intro h; cases h
      | cons a r ih =>
        intro hm
        rw [List.map_cons, List.sum_cons]
        rcases List.mem_cons.1 hm with rfl | hm
        · omega
        · have := ih hm; omega
    exact this b hs) hc).1
theorem cutP_wfS {v : JV} (p : Bs) (h : wfS v) : wfS (cutP v p) := by
  unfold cutP
  cases hc : cutW v (stepsP p).2 with
  | none => exact h
  | some v' => exact cut_wfS h hc
theorem drop_ind {P : JV → Prop} {l : List OwnP} {m : Bs} {W : List Lf} : ∀ (ps : List Bs) (v : JV), P v → (∀ p ∈ ps, ∀ u, (W.any (fun x => pathL x == p) || othersB l m (touchB p)) = false → P u → P (cutP u p)) → P (dropV v l m W ps)
  | [], _, h, _ => h
  | p :: ps, v, h, hp => by
    unfold dropV
    rw [List.foldl_cons]
    refine drop_ind ps _ ?_ fun q hq => hp q (List.mem_cons_of_mem _ hq)
    split
    · exact h
    · rename_i h1
      exact hp p (List.mem_cons_self ..) v (by simpa using h1) h
theorem had_mem {l : List OwnP} (hs : l.Pairwise fun a b => a.1 < b.1) {y : OwnP} (hy : y ∈ l) : had l y.1 = y.2 := by
  unfold had
  cases hf : l.find? (fun z => z.1 == y.1) with
  | none => exact absurd (beq_self_eq_true y.1) (by simpa using List.find?_eq_none.1 hf y hy)
  | some z =>
    have h1 := List.mem_of_find?_eq_some hf
    have h2 : z.1 = y.1 := eq_of_beq (List.find?_some (p := fun z : OwnP => z.1 == y.1) hf)
    have : z = y := by
      obtain ⟨i, hi, rfl⟩ := List.getElem_of_mem h1
      obtain ⟨j, hj, rfl⟩ := List.getElem_of_mem hy
      rcases Nat.lt_trichotomy i j with h | h | h
      · have := List.pairwise_iff_getElem.1 hs i j hi hj h
        rw [h2] at this; exact absurd this (bs_irrefl _)
      · subst h; rfl
      · have := List.pairwise_iff_getElem.1 hs j i hj hi h
        rw [h2] at this; exact absurd this (bs_irrefl _)
    rw [this]; rfl
theorem had_cases (l : List OwnP) (m : Bs) : (∃ y ∈ l, y.1 = m ∧ had l m = y.2) ∨ had l m = [] := by
  unfold had
  cases hf : l.find? (fun z => z.1 == m) with
  | none => exact .inr rfl
  | some z => exact .inl ⟨z, List.mem_of_find?_eq_some hf, eq_of_beq (List.find?_some (p := fun z : OwnP => z.1 == m) hf), rfl⟩
theorem seize_mem {live : JV} {m : Bs} {W : List Lf} {l : List OwnP} {y : OwnP} (h : y ∈ seizeL live m W l) : ∃ z ∈ l, z.1 = y.1 ∧ ((y.1 = m ∧ y.2 = z.2) ∨ (y.1 ≠ m ∧ y.2 = z.2.filter fun p => !(W.any fun x => barsB live x p))) := by
  unfold seizeL at h
  obtain ⟨z, hz, rfl⟩ := List.mem_map.1 h
  refine ⟨z, hz, ?_⟩
  split
  · rename_i e; exact ⟨rfl, .inl ⟨e, rfl⟩⟩
  · rename_i e; exact ⟨rfl, .inr ⟨e, rfl⟩⟩
theorem seize_rise {live : JV} {m : Bs} {W : List Lf} {l : List OwnP} (hs : l.Pairwise fun a b => a.1 < b.1) : (seizeL live m W l).Pairwise fun a b => a.1 < b.1 := by
  unfold seizeL
  rw [List.pairwise_map]
  refine hs.imp fun {a b} h => ?_
  split <;> split <;> exact h
theorem putM_mem {m : Bs} {ps : List Bs} {l : List OwnP} {y : OwnP} : y ∈ putM m ps l ↔ y = (m, ps) ∨ (y ∈ l ∧ y.1 ≠ m) := by
  unfold putM
  simp only [List.mem_append, List.mem_filter, List.mem_cons, decide_eq_true_iff]
  constructor
  · rintro (⟨h1, h2⟩ | h | ⟨h1, h2⟩)
    · exact .inr ⟨h1, fun e => bs_irrefl m (e ▸ h2)⟩
    · exact .inl h
    · exact .inr ⟨h1, fun e => bs_irrefl m (e ▸ h2)⟩
  · rintro (h | ⟨h1, h2⟩)
    · exact .inr (.inl h)
    · by_cases h3 : y.1 < m
      · exact .inl ⟨h1, h3⟩
      · refine .inr (.inr ⟨h1, ?_⟩)
        exact Classical.byContradiction fun h4 => h2 (bs_total h3 h4)
theorem putM_rise {m : Bs} {ps : List Bs} {l : List OwnP} (hs : l.Pairwise fun a b => a.1 < b.1) : (putM m ps l).Pairwise fun a b => a.1 < b.1 := by
  unfold putM
  rw [List.pairwise_append, List.pairwise_cons]
  refine ⟨hs.filter _, ⟨fun b hb => ?_, hs.filter _⟩, fun a ha b hb => ?_⟩
  · simpa using (List.mem_filter.1 hb).2
  · have h1 : a.1 < m := by simpa using (List.mem_filter.1 ha).2
    rcases List.mem_cons.1 hb with rfl | hb
    · exact h1
    · exact bs_trans h1 (by simpa using (List.mem_filter.1 hb).2)
theorem fin_mem {live : JV} {l : List OwnP} {m : Bs} {W : List Lf} {y : OwnP} : y ∈ finL live l m W ↔ y.2 ≠ [] ∧ (y = (m, W.map pathL) ∨ (y ∈ seizeL live m W l ∧ y.1 ≠ m)) := by
  unfold finL
  rw [List.mem_filter, putM_mem]
  constructor
  · rintro ⟨h1, h2⟩; exact ⟨by intro e; rw [e] at h2; simp at h2, h1⟩
  · rintro ⟨h1, h2⟩; exact ⟨h2, by cases hy : y.2 with | nil => exact absurd hy h1 | cons _ _ => rfl⟩
theorem fin_rise {live : JV} {l : List OwnP} {m : Bs} {W : List Lf} (hs : l.Pairwise fun a b => a.1 < b.1) : (finL live l m W).Pairwise fun a b => a.1 < b.1 := (putM_rise (seize_rise hs)).filter _
theorem own_irrefl (a : OwnP) : ¬ a.1 < a.1 := bs_irrefl _
theorem others_no {l : List OwnP} {m : Bs} {like : Bs → Bool} (h : othersB l m like = false) : ∀ y ∈ l, y.1 ≠ m → ∀ p ∈ y.2, like p = false := fun y hy hm p hp => by
  unfold othersB at h
  rw [List.any_eq_false] at h
  have := h y hy
  simp only [Bool.and_eq_true, bne_iff_ne, ne_eq, not_and, Bool.not_eq_true, List.any_eq_false] at this
  simpa using this hm p hp
theorem others_yes {l : List OwnP} {m : Bs} {like : Bs → Bool} (h : othersB l m like = true) : ∃ y ∈ l, y.1 ≠ m ∧ ∃ p ∈ y.2, like p = true := by
  unfold othersB at h
  obtain ⟨y, hy, h1⟩ := List.any_eq_true.1 h
  rw [Bool.and_eq_true, bne_iff_ne] at h1
  obtain ⟨p, hp, h2⟩ := List.any_eq_true.1 h1.2
  exact ⟨y, hy, h1.1, p, hp, h2⟩
theorem fin_free {live : JV} {l : List OwnP} {m : Bs} {W : List Lf} {y : OwnP} (hy : y ∈ seizeL live m W l) (hm : y.1 ≠ m) : ∀ p ∈ y.2, ∀ x ∈ W, touchB p (pathL x) = false ∨ (p = pathL x ∧ atW live x.1 = some x.2) := by
  intro p hp x hx
  obtain ⟨z, hz, e1, e2⟩ := seize_mem hy
  rcases e2 with ⟨e3, _⟩ | ⟨_, e3⟩
  · exact absurd e3 hm
  · rw [e3] at hp
    have := (List.mem_filter.1 hp).2
    rw [Bool.not_eq_true', List.any_eq_false] at this
    exact bars_no (by simpa using this x hx)
theorem path_steps {x : Lf} {want : JV} (h : LeafOK want x) : stepsP (pathL x) = (0, x.1) := steps_join x.1 h.len
theorem out_wfS {live want : Bs} {l : List OwnP} {m : Bs} {W : List Lf} (h : AppOK live want l m) (hW : IsLeaves W (readL want).1) : wfS (outV (readL live).1 l m W) := by
  obtain ⟨h1, h2, h3, h4, h5, h6⟩ := h
  refine sets_wfS _ _ ?_ fun x hx => wf_S.1 _ (leaf_ok hW (read_fit' h4) h6 x hx).fit.1
  exact drop_ind (P := wfS) _ _ (fit_S (read_fit' h1)) fun p _ u _ hu => cutP_wfS p hu
theorem fields_bars {live want s t : Bs} {l L M : List OwnP} {m : Bs} {bad bad' : List Bs} {e f : Int} (h : ApplyIs live l m want false s L bad e) (k : ApplyIs live l m want true t M bad' f) :
    f ≠ 11 ∧ bad' = [] ∧ (e ≠ 11 → bad = []) ∧ (e = 11 → s = [] ∧ L = [] ∧ bad ≠ [] ∧ ∃ W, IsLeaves W (readL want).1 ∧ ∀ p ∈ bad, p ∈ W.map pathL ∧ ∃ y ∈ l, y.1 ≠ m ∧ ∃ q ∈ y.2, touchB p q = true) := by
  refine ⟨fun e => ?_, ?_, fun he => ?_, fun he => ?_⟩
  · have := (k.clash (.inr e)).2.1; cases this
  · exact Classical.byContradiction fun e => by have := (k.clash (.inl e)).2.1; cases this
  · exact Classical.byContradiction fun h9 => he (h.clash (.inl h9)).1
  · obtain ⟨_, _, _, W, hW, hb, hne⟩ := h.clash (.inr he)
    obtain ⟨n1, n2⟩ := h.no (by rw [he]; decide)
    refine ⟨n1, n2, hne, W, hW, fun p hp => ?_⟩
    rw [hb] at hp
    obtain ⟨x, hx, rfl⟩ := List.mem_map.1 hp
    obtain ⟨hx1, hx2⟩ := List.mem_filter.1 hx
    obtain ⟨y, hy, hm, q, hq, h9⟩ := others_yes hx2
    refine ⟨List.mem_map.2 ⟨x, hx1, rfl⟩, y, hy, hm, q, hq, ?_⟩
    unfold barsB at h9
    rw [Bool.and_eq_true] at h9
    rw [touch_comm]; exact h9.1
theorem fields_others {live want s : Bs} {l L : List OwnP} {m : Bs} {force : Bool} {bad : List Bs} (h : ApplyIs live l m want force s L bad 0) {y : OwnP} (hy : y ∈ L) (hm : y.1 ≠ m) {p : Bs} (hp : p ∈ y.2) :
    p ∈ had l y.1 ∧ ∃ k, stepsP p = (0, k) ∧ (Thr (readL live).1 k → getE live p = getE s p ∧ getT live p = getT s p) := by
  obtain ⟨ok, W, hW, _, hl, ht, rfl, rfl⟩ := h.yes rfl
  have hok := ok
  obtain ⟨h1, h2, h3, h4, h5, h6⟩ := ok
  have hwf := out_wfS hok hW
  obtain ⟨ff, e1⟩ := tell_ok hwf ht
  have hr : readL (tellT (outV (readL live).1 l m W)) = (outV (readL live).1 l m W, 0) := by rw [e1]; exact fit_read ff
  obtain ⟨_, hy2⟩ := fin_mem.1 hy
  rcases hy2 with rfl | ⟨hy2, _⟩
  · exact absurd rfl hm
  obtain ⟨z, hz, g1, g2⟩ := seize_mem hy2
  rcases g2 with ⟨g3, _⟩ | ⟨_, g3⟩
  · exact absurd g3 hm
  have hpz : p ∈ z.2 := (List.mem_filter.1 (g3 ▸ hp)).1
  obtain ⟨k, hk, hkne⟩ := (h2.2.2 z hz).2.2.2 p hpz
  have hjk : joinK k = p := (join_steps hk).1
  refine ⟨by rw [← g1, had_mem h2.2.1 hz]; exact hpz, k, hk, fun hthr => ?_⟩
  have hlive : readL live = ((readL live).1, 0) := Prod.ext rfl h1
  -- behind what is dropped
  have hdrop : Thr (dropV (readL live).1 (seizeL (readL live).1 m W l) m W (had l m)) k ∧ atO (dropV (readL live).1 (seizeL (readL live).1 m W l) m W (had l m)) k = atO (readL live).1 k := by
    refine drop_ind (P := fun v => Thr v k ∧ atO v k = atO (readL live).1 k) _ _ ⟨hthr, rfl⟩ fun q hq u hno hu => ?_
    rw [Bool.or_eq_false_iff] at hno
    have htq := others_no hno.2 y hy2 hm p hp
    rcases had_cases l m with ⟨a, ha, e, e2⟩ | h9
    · rw [e2] at hq
      obtain ⟨b, hb, hbne⟩ := (h2.2.2 a ha).2.2.2 q hq
      have hjb : joinK b = q := (join_steps hb).1
      have hd : Div b k := touch_div (by rw [hjb, hjk]; exact htq)
      unfold cutP
      rw [hb]
      cases hc : cutW u b with
      | none => exact hu
      | some u' =>
        obtain ⟨i1, i2⟩ := cut_thr b k u u' hd hu.1 hc
        exact ⟨i1, i2.trans hu.2⟩
    · rw [h9] at hq; cases hq
  -- behind what is set
  have hset : ∀ (V : List Lf) (v : JV), (∀ x ∈ V, x ∈ W) → wfS v → Thr v k → atO v k = atO (readL live).1 k → Thr (setsV v V) k ∧ atO (setsV v V) k = atO (readL live).1 k := by
    intro V
    induction V with
    | nil => intro v _ _ i1 i2; exact ⟨i1, i2⟩
    | cons x V ih =>
      intro v hV hv i1 i2
      have hxW := hV x (List.mem_cons_self ..)
      have lo := leaf_ok hW (read_fit' h4) h6 x hxW
      show Thr (setsV (setV v x.1 x.2) V) k ∧ atO (setsV (setV v x.1 x.2) V) k = _
      rcases fin_free hy2 hm p hp x hxW with h9 | ⟨h9, h10⟩
      · have hd : Div x.1 k := (touch_div (a := k) (b := x.1) (by rw [hjk]; exact h9)).symm
        exact ih _ (fun z hz => hV z (List.mem_cons_of_mem _ hz)) (set_wfS _ _ _ hv (wf_S.1 _ lo.fit.1)) (set_thr _ _ _ _ hd i1) ((set_apart _ _ _ _ hd).trans i2)
      · have hkx : k = x.1 := by
          have e := hk
          rw [h9, path_steps lo] at e
          exact (Prod.mk.inj e).2.symm
        have e2 : atO v x.1 = some x.2 := by rw [← hkx, i2, ← thr_at hthr, hkx]; exact h10
        rw [set_same _ _ _ hv e2]
        exact ih _ (fun z hz => hV z (List.mem_cons_of_mem _ hz)) hv i1 i2
  have hdw : wfS (dropV (readL live).1 (seizeL (readL live).1 m W l) m W (had l m)) := drop_ind (P := wfS) _ _ (fit_S (read_fit' h1)) fun p _ u _ hu => cutP_wfS p hu
  obtain ⟨f1, f2⟩ := hset W _ (fun _ h => h) hdw hdrop.1 hdrop.2
  have hat : atW (outV (readL live).1 l m W) k = atW (readL live).1 k := by
    rw [thr_at hthr, ← f2, ← thr_at f1]; rfl
  cases hc : atW (readL live).1 k with
  | some c =>
    obtain ⟨a1, a2⟩ := (get_of hlive hk).1 c hc
    obtain ⟨b1, b2⟩ := (get_of hr hk).1 c (hat.trans hc)
    exact ⟨a1.trans b1.symm, a2.trans b2.symm⟩
  | none =>
    obtain ⟨a1, a2⟩ := (get_of hlive hk).2 hc
    obtain ⟨b1, b2⟩ := (get_of hr hk).2 (hat.trans hc)
    exact ⟨a1.trans b1.symm, a2.trans b2.symm⟩
theorem fields_gone {live want s : Bs} {l L : List OwnP} {m : Bs} {bad : List Bs} (h : ApplyIs live l m want false s L bad 0) {p : Bs} (hp : p ∈ had l m) :
    ∃ k, stepsP p = (0, k) ∧ ∃ W, IsLeaves W (readL want).1 ∧ ((∀ x ∈ W, touchB p (pathL x) = false) → (∀ y ∈ l, y.1 ≠ m → ∀ q ∈ y.2, touchB p q = false) → Thr (readL live).1 k → getE s p ≠ 0) := by
  obtain ⟨ok, W, hW, _, hl, ht, rfl, rfl⟩ := h.yes rfl
  have hok := ok
  obtain ⟨h1, h2, h3, h4, h5, h6⟩ := ok
  have hwf := out_wfS hok hW
  obtain ⟨ff, e1⟩ := tell_ok hwf ht
  have hr : readL (tellT (outV (readL live).1 l m W)) = (outV (readL live).1 l m W, 0) := by rw [e1]; exact fit_read ff
  rcases had_cases l m with ⟨a, ha, e, e2⟩ | h9
  · have hg := (h2.2.2 a ha).2
    have hp2 : p ∈ a.2 := e2 ▸ hp
    obtain ⟨k, hk, hkne⟩ := hg.2.2 p hp2
    have hjk : joinK k = p := (join_steps hk).1
    refine ⟨k, hk, W, hW, fun hno1 hno2 hthr => ?_⟩
    have hnot : (W.any (fun x => pathL x == p) || othersB (seizeL (readL live).1 m W l) m (touchB p)) = false := by
      rw [Bool.or_eq_false_iff]
      constructor
      · rw [List.any_eq_false]
        intro x hx hh
        have := hno1 x hx
        rw [eq_of_beq hh, touch_self] at this; cases this
      · rw [Bool.eq_false_iff]
        intro hh
        obtain ⟨y, hy, hm, q, hq, h9⟩ := others_yes hh
        obtain ⟨z, hz, g1, g2⟩ := seize_mem hy
        rcases g2 with ⟨g3, _⟩ | ⟨_, g3⟩
        · exact hm g3
        · have := hno2 z hz (g1 ▸ hm) q (List.mem_filter.1 (g3 ▸ hq)).1
          rw [this] at h9; cases h9
    have key : ∀ (ps : List Bs) (v : JV), p ∈ ps → Weak v k → Weak (dropV v (seizeL (readL live).1 m W l) m W ps) k ∧ atO (dropV v (seizeL (readL live).1 m W l) m W ps) k = none := by
      have keep : ∀ (ps : List Bs) (v : JV), Weak v k → atO v k = none → Weak (dropV v (seizeL (readL live).1 m W l) m W ps) k ∧ atO (dropV v (seizeL (readL live).1 m W l) m W ps) k = none := by
        intro ps v i1 i2
        refine drop_ind (P := fun v => Weak v k ∧ atO v k = none) _ _ ⟨i1, i2⟩ fun q _ u _ hu => ?_
        unfold cutP
        cases hc : cutW u (stepsP q).2 with
        | none => exact hu
        | some u' =>
          obtain ⟨j1, j2⟩ := cut_weak _ k u u' hu.1 hc
          exact ⟨j1, j2 hu.2⟩
      intro ps
      induction ps with
      | nil => intro v h; cases h
      | cons q ps ih =>
        intro v hq i1
        unfold dropV
        rw [List.foldl_cons]
        by_cases hqp : q = p
        · subst hqp
          rw [hnot, if_neg (by simp)]
          refine keep ps _ ?_ ?_
          · unfold cutP
            cases hc : cutW v (stepsP q).2 with
            | none => exact i1
            | some u' => exact (cut_weak _ k v u' i1 hc).1
          · unfold cutP
            rw [hk]
            obtain ⟨g1, g2⟩ := cut_gone k v hkne i1
            cases hc : cutW v k with
            | none => exact g2 hc
            | some u' => exact g1 u' hc
        · have hq' : p ∈ ps := by
            rcases List.mem_cons.1 hq with h | h
            · exact absurd h.symm hqp
            · exact h
          refine ih _ hq' ?_
          split
          · exact i1
          · unfold cutP
            cases hc : cutW v (stepsP q).2 with
            | none => exact i1
            | some u' => exact (cut_weak _ k v u' i1 hc).1
    obtain ⟨d1, d2⟩ := key (had l m) (readL live).1 hp (weak_thr hthr)
    have hdv : ∀ x ∈ W, Div x.1 k := fun x hx => (touch_div (a := k) (b := x.1) (by rw [hjk]; exact hno1 x hx)).symm
    have o1 := sets_weak W _ hdv d1
    have o2 := (sets_apart W _ hdv).trans d2
    have := ((get_of hr hk).2 (weak_none o1 o2)).1
    rw [this]; decide
  · rw [h9] at hp; cases hp
end JP
end Go.Proofs.YtdcmnpeabjallaaGreatDoor
namespace Go.Proofs.YtdcmnpeabjallaaGreatDoor
open Go.RowKit
open JP (JV Bs)
theorem alloc_ge (w : World) (o : Obj) : w.heap.size ≤ (w.alloc o).heap.size := ((Below.refl 0 w).alloc (Nat.zero_le _) o).size
theorem alloc_sz (w : World) (o : Obj) : (w.alloc o).heap.size = w.heap.size + 1 := by unfold World.alloc; simp
theorem gather_all : ∀ n, GatIn n
  | 0 => fun _ _ _ _ _ _ _ _ _ h => by cases h
  | n + 1 => gather_step n (gather_all n)
theorem strX_nil (B : Nat) (w : World) : StrB B w (.slice none 0 0) [] := OwnAt.nil _
def LeavesTo (T : List Nat) (x : JV) (w : World) (e : Ending) (w' : World) : Prop := ∃ v' l', e = .returned v' ∧ l'.Perm (JP.gat [] x) ∧ Rise l' ∧ OwnAt (LeafX T w) 3 w' w.heap.size 65 v' l' ∧ Below w.heap.size w w'
set_option maxRecDepth 100000 in
set_option maxHeartbeats 3200000 in
theorem leaves_any (T : List Nat) (n : Nat) (v : Value) (x : JV) (w : World) (hv : JvAt n T w v x) (hl : JP.size x ≤ 1048576) (ht : (JP.text x).length ≤ 20000) (hm : ∃ m, MaxOK m w) :
    Calls Tryz.prog 33 #[v] w (LeavesTo T x w) := by
  have HG := Lib.hid (gather_all n T v (.slice none 0 0) (.slice none 0 0) x [] [] w w hv (strX_nil _ _) (OwnAt.nil _) (Below.refl _ _) (by simpa using hl) (by simpa using ht) hm)
  have hgl := JP.gat_len [] x
  clear hv hm ht
  go_enter Tryz.func33, Tryz.ntmps33
  go_wp2_with fail
  refine HG.out.mono ?_
  rintro E w1 ⟨v1, rfl, ho, hb, _, hz⟩
  rw [List.nil_append] at ho
  have HS := Lib.hid (leafSort_any v1 _ _ T w w1 ho hz (by omega))
  have HB := Lib.hid hb
  clear ho hb HG
  go_wp2_with fail
  refine HS.out.mono ?_
  rintro E w2 ⟨rfl, l', hp, hso, ho, hb, _⟩
  have HO := Lib.hid ho
  have HP := Lib.hid hp
  have HSo := Lib.hid hso
  have HB2 := Lib.hid (HB.out.trans hb)
  clear ho hp hso hb HS HB hz
  go_wp2_with fail
  go_ret
  exact ⟨_, l', rfl, HP.out, HSo.out, HO.out, HB2.out⟩
def LeavesAt (L : List (List Bs × JV)) (er : Int) (w : World) (e : Ending) (w' : World) : Prop :=
  ∃ (v : Value) (l' : List Leaf), e = .returned (.tuple #[v, .int .i64 er]) ∧ l'.Perm L ∧ Rise l' ∧ OwnAt RString 1 w' w.heap.size 9 v (l'.map fun p => mkB (pathP p.1)) ∧ Below w.heap.size w w'
def leavesL (s : Bs) : List (List Bs × JV) := if (JP.readL s).2 = 0 then JP.gat [] (JP.readL s).1 else []
set_option maxRecDepth 100000 in
set_option maxHeartbeats 6400000 in
theorem leavesDoc_any (s : ByteArray) (w : World) (hs : s.size ≤ 1048576) (hm : ∃ m, MaxOK m w) :
    Calls Tryz.prog 14 #[.string s] w (LeavesAt (leavesL s.data.toList) (JP.readL s.data.toList).2 w) := by
  obtain ⟨mx, hm⟩ := hm
  obtain ⟨j0, hj0, hy0, hy1, hy2⟩ := info_parts Tryz.infoStr
  have HR := Lib.hid (read_any s w hs)
  obtain ⟨x, hx⟩ : ∃ x, (JP.readL s.data.toList).1 = x := ⟨_, rfl⟩
  obtain ⟨er, her⟩ : ∃ er, (JP.readL s.data.toList).2 = er := ⟨_, rfl⟩
  have hre : JP.readL s.data.toList = (x, er) := Prod.ext hx her
  have hL : leavesL s.data.toList = if er = 0 then JP.gat [] x else [] := by unfold leavesL; rw [hx, her]
  rw [hx, her] at HR
  rw [her, hL]
  have Hm := Lib.hid hm
  have Hre := Lib.hid hre
  clear hx her hre hL hm
  by_cases h0 : er = 0
  · subst h0
    rw [if_pos rfl]
    obtain ⟨g1, g2, g3, g4, g5⟩ := JP.readL_good Hre.out
    have hgl := JP.gat_len [] x
    have Hg : Hid (JP.size x ≤ 1048576 ∧ (JP.text x).length ≤ 20000 ∧ (JP.gat [] x).length ≤ 200) := Lib.hid ⟨by omega, by omega, by omega⟩
    clear g1 g2 g3 g4 g5 hgl
    go_enter Tryz.func14, Tryz.ntmps14
    go_wp2_with fail
    refine HR.out.mono ?_
    rintro E w1 ⟨v1, rfl, ⟨n, hj⟩, hb⟩
    have HB1 := Lib.hid hb
    have HL := Lib.hid (leaves_any [] n v1 x w1 hj Hg.out.1 Hg.out.2.1 ⟨mx, Hm.out.below hb⟩)
    clear hj hb HR
    go_wp2_with fail
    refine HL.out.mono ?_
    rintro E w2 ⟨v2, l', rfl, hp, hso, ho, hb⟩
    obtain ⟨a2, c2, e2, _⟩ := ho.row.len
    obtain ⟨ln, hln⟩ : ∃ m, l'.length = m := ⟨_, rfl⟩
    rw [hln] at e2
    subst e2
    have HP := Lib.hid hp
    have HSo := Lib.hid hso
    have Hln := Lib.hid hln
    have hln9 : ln ≤ 200 := by rw [← hln, hp.length_eq]; exact Hg.out.2.2
    have HRow := Lib.hid ho.row
    have HB2 := Lib.hid (HB1.out.trans (hb.mono HB1.out.size))
    clear hp hso ho hb hln HL HB1
    go_wp2_with fail
    go_loopg [6, 20] ln (fun k u6 u20 wr => ∃ i : Nat, i + k = ln ∧ u20 = .int .i64 (i : Int) ∧ Hid (OwnAt RString 1 wr w2.heap.size 9 u6 ((l'.take i).map fun p => mkB (pathP p.1))) ∧ Hid (Below w2.heap.size w2 wr))
    case atStart => exact ⟨0, by omega, rfl, Lib.hid (OwnAt.nil _), Lib.hid (Below.refl _ _)⟩
    case round =>
      obtain ⟨i, hik, rfl, HO, HR⟩ := hrel
      cases gk with
      | zero =>
        have hil : i = ln := by omega
        subst hil
        have q9 : ¬ (i : Int) < (i : Int) := by omega
        have htk : l'.take i = l' := List.take_of_length_le (by rw [Hln.out]; exact Nat.le_refl _)
        rw [htk] at HO
        have HO' := Lib.hid (HO.out.mono (B' := w.heap.size) HB2.out.size)
        have HBn := Lib.hid (HB2.out.trans (HR.out.mono HB2.out.size))
        clear htk HO HR
        go_wp2_with fail
        go_ret2
        exact ⟨_, l', rfl, HP.out, HSo.out, HO'.out, HBn.out⟩
      | succ k =>
        have hil : i < ln := by omega
        obtain ⟨y, hy⟩ : ∃ y, l'[i]? = some y := ⟨l'[i]'(by rw [Hln.out]; exact hil), List.getElem?_eq_getElem _⟩
        obtain ⟨b1, o1, c', hv1, _, _, hbs1, hcell1⟩ := HRow.out.form (by rw [Hln.out]; omega) (by omega)
        injection hv1 with u1 u2 u3
        subst u1
        clear u2 u3
        obtain ⟨ds1, _, hcc1, sv, vv, kk, hds, hsx, hjv⟩ := hcell1 i y hy
        subst hds
        obtain ⟨d1, f1, hsv, _, _⟩ := hsx.str.row.len
        rw [hsv] at hcc1
        have e0 : wr.cell? ⟨b1, o1 + i * 3, none⟩ = some (.string (mkB (pathP y.1))) := (HR.out.cell (p := ⟨b1, _, none⟩) hbs1).trans (by simpa using hcc1 0 _ rfl)
        have e1 : wr.cell? ⟨b1, o1 + i * 3 + 1, none⟩ = some (.slice d1 (y.1.map mkB).length f1) := (HR.out.cell (p := ⟨b1, _, none⟩) hbs1).trans (hcc1 1 _ rfl)
        have e2 : wr.cell? ⟨b1, o1 + i * 3 + 2, none⟩ = some vv := (HR.out.cell (p := ⟨b1, _, none⟩) hbs1).trans (hcc1 2 _ rfl)
        have hvf := jv_shape hjv
        obtain ⟨sl, hsl⟩ : ∃ m, (y.1.map mkB).length = m := ⟨_, rfl⟩
        rw [hsl] at e1
        obtain ⟨P, hP⟩ : ∃ P, mkB (pathP y.1) = P := ⟨_, rfl⟩
        rw [hP] at e0
        have Hst : Hid ((l'.take (i + 1)).map (fun p => mkB (pathP p.1)) = (l'.take i).map (fun p => mkB (pathP p.1)) ++ [P]) := Lib.hid (by rw [List.take_add_one, hy, List.map_append, ← hP]; rfl)
        have hll : ((l'.take i).map fun p => mkB (pathP p.1)).length = i := by rw [List.length_map, List.length_take, Hln.out]; omega
        have Hll := Lib.hid hll
        have q1 : (0 : Int) ≤ (i : Int) := by omega
        have q2 : (i : Int) < (ln : Int) := by omega
        clear hcell1 hcc1 hy hsx hjv hsv hbs1 hsl hP hll
        rcases hvf with rfl | ⟨t9, u9, rfl⟩
        · skip
          obtain ⟨W1, hW1⟩ : ∃ W, W = (wr.alloc (.cells #[.string P, .slice d1 sl f1, .nilIface] 65)).alloc (.cells #[.string P] 9) := ⟨_, rfl⟩
          have hbl : Below w2.heap.size w2 W1 := by rw [hW1]; exact ((HR.out).alloc HR.out.size _).alloc (Nat.le_trans HR.out.size (alloc_ge wr _)) _
          have hg1 : Below wr.heap.size wr W1 := by rw [hW1]; exact ((Below.refl _ wr).alloc (Nat.le_refl _) _).alloc (alloc_ge wr _) _
          have HO1 := Lib.hid (HO.out.below stays_string hg1)
          have hr1 : RowAt RString 1 W1 (.slice (some ⟨wr.heap.size + 1, 0, none⟩) 1 1) [P] := by rw [hW1, ← alloc_sz wr (.cells #[.string P, .slice d1 sl f1, .nilIface] 65)]; exact RowAt.one (R := RString) (k := 1) (cs := #[.string P]) (heap_alloc_new _ _) rfl rfl
          have HR1 := Lib.hid hr1
          have HBl := Lib.hid hbl
          clear hg1 hr1 hbl
          have Hs2 : Hid (w2.heap.size ≤ W1.heap.size) := Lib.hid HBl.out.size
          go_wp2_with (at_builtin; rw [← hW1]; refine wpList_append_ownAt (R := RString) (k := 1) (e := 9) (B := w2.heap.size) (l := (l'.take i).map fun p => mkB (pathP p.1)) (m := [P]) _ (by rfl) _ _ _ (by rfl) j0 _ 16 Tryz.underlying28 hj0 hy0 hy1 hy2 rfl (by omega) flat_string one_string _ (by rfl) HO1.out _ (by rfl) HR1.out (by rw [Hll.out]; simp only [List.length_cons, List.length_nil]; exact Nat.le_trans (m := 300) (by omega) (by decide)) (by rw [Hll.out]; simp only [List.length_cons, List.length_nil]; omega) Hs2.out ?_)
          intro v8 w8 hv8 hg8 hr8 _
          rw [← hW1] at hg8
          have HBn : Hid (Below w2.heap.size w2 w8) := Lib.hid (below_of_grown HBl.out Hs2.out hg8 hr8)
          have HOn : Hid (OwnAt RString 1 w8 w2.heap.size 9 v8 ((l'.take (i + 1)).map fun p => mkB (pathP p.1))) := Lib.hid (by rw [Hst.out, List.map_take]; exact hv8)
          clear hv8 hg8 hr8 Hs2 HO1 HR1 HBl hW1
          go_wp2_with fail
          go_roundg k
          case measure => omega
          case rel => exact ⟨i + 1, by omega, by go_num, HOn, HBn⟩
        · skip
          obtain ⟨W1, hW1⟩ : ∃ W, W = (wr.alloc (.cells #[.string P, .slice d1 sl f1, .iface t9 u9] 65)).alloc (.cells #[.string P] 9) := ⟨_, rfl⟩
          have hbl : Below w2.heap.size w2 W1 := by rw [hW1]; exact ((HR.out).alloc HR.out.size _).alloc (Nat.le_trans HR.out.size (alloc_ge wr _)) _
          have hg1 : Below wr.heap.size wr W1 := by rw [hW1]; exact ((Below.refl _ wr).alloc (Nat.le_refl _) _).alloc (alloc_ge wr _) _
          have HO1 := Lib.hid (HO.out.below stays_string hg1)
          have hr1 : RowAt RString 1 W1 (.slice (some ⟨wr.heap.size + 1, 0, none⟩) 1 1) [P] := by rw [hW1, ← alloc_sz wr (.cells #[.string P, .slice d1 sl f1, .iface t9 u9] 65)]; exact RowAt.one (R := RString) (k := 1) (cs := #[.string P]) (heap_alloc_new _ _) rfl rfl
          have HR1 := Lib.hid hr1
          have HBl := Lib.hid hbl
          clear hg1 hr1 hbl
          have Hs2 : Hid (w2.heap.size ≤ W1.heap.size) := Lib.hid HBl.out.size
          go_wp2_with (at_builtin; rw [← hW1]; refine wpList_append_ownAt (R := RString) (k := 1) (e := 9) (B := w2.heap.size) (l := (l'.take i).map fun p => mkB (pathP p.1)) (m := [P]) _ (by rfl) _ _ _ (by rfl) j0 _ 16 Tryz.underlying28 hj0 hy0 hy1 hy2 rfl (by omega) flat_string one_string _ (by rfl) HO1.out _ (by rfl) HR1.out (by rw [Hll.out]; simp only [List.length_cons, List.length_nil]; exact Nat.le_trans (m := 300) (by omega) (by decide)) (by rw [Hll.out]; simp only [List.length_cons, List.length_nil]; omega) Hs2.out ?_)
          intro v8 w8 hv8 hg8 hr8 _
          rw [← hW1] at hg8
          have HBn : Hid (Below w2.heap.size w2 w8) := Lib.hid (below_of_grown HBl.out Hs2.out hg8 hr8)
          have HOn : Hid (OwnAt RString 1 w8 w2.heap.size 9 v8 ((l'.take (i + 1)).map fun p => mkB (pathP p.1))) := Lib.hid (by rw [Hst.out, List.map_take]; exact hv8)
          clear hv8 hg8 hr8 Hs2 HO1 HR1 HBl hW1
          go_wp2_with fail
          go_roundg k
          case measure => omega
          case rel => exact ⟨i + 1, by omega, by go_num, HOn, HBn⟩
  · have n0 : (er != 0) = true := by rw [bne_iff_ne]; exact h0
    rw [if_neg h0]
    clear h0
    go_enter Tryz.func14, Tryz.ntmps14
    go_wp2_with fail
    refine HR.out.mono ?_
    rintro E w1 ⟨v1, rfl, _, hb⟩
    have HB1 := Lib.hid hb
    clear hb HR
    go_wp2_with fail
    go_ret2
    exact ⟨_, [], rfl, List.Perm.refl _, List.Pairwise.nil, OwnAt.nil _, HB1.out⟩
end Go.Proofs.YtdcmnpeabjallaaGreatDoor
namespace Go.Proofs.YtdcmnpeabjallaaGreatDoor
open Go.RowKit
open JP (JV Bs Lf)
def LeafR : Rd Leaf := fun w cs p => ∃ sv vv, cs = [.string (mkB (pathP p.1)), sv, vv] ∧ StrAt w sv (p.1.map mkB) ∧ ∃ k, JvAt k [] w vv p.2
theorem leafR_below {w w' : World} {cs : List Value} {p : Leaf} (h : LeafR w cs p) (hb : Below w.heap.size w w') : LeafR w' cs p := by
  obtain ⟨sv, vv, h1, h2, k, h3⟩ := h
  exact ⟨sv, vv, h1, h2.below hb, k, h3.below hb⟩
theorem RowAt.belowR {α : Type} {R : Rd α} {k : Nat} {w w' : World} {v : Value} {l : List α} (hR : ∀ cs x, R w cs x → R w' cs x) (h : RowAt R k w v l) (hb : Below w.heap.size w w') : RowAt R k w' v l := by
  rcases h with h | ⟨a, c, h1, h2, h3, h4⟩
  · exact .inl h
  · refine .inr ⟨a, c, h1, h2, h3, fun j x hx => ?_⟩
    obtain ⟨cs, g1, g2, g3⟩ := h4 j x hx
    exact ⟨cs, g1, fun i u hu => keeps_below hb _ _ (g2 i u hu), hR _ _ g3⟩
theorem leaves_below {w w' : World} {v : Value} {l : List Leaf} (h : RowAt LeafR 3 w v l) (hb : Below w.heap.size w w') : RowAt LeafR 3 w' v l := h.belowR (fun _ _ hx => leafR_below hx hb) hb
structure LeafFit (x : Leaf) : Prop where
  fit : JP.Fit x.2
  len : x.1.length ≤ 10
  steps : ∀ s ∈ x.1, s.length ≤ 2000
theorem LeafFit.path {x : Leaf} (h : LeafFit x) : pathP x.1 = JP.pathL x := by
  unfold pathP JP.pathL
  rw [if_neg (by have := h.len; omega)]
set_option maxRecDepth 100000 in
theorem touch_any (p q : Bs) (w : World) (hp : p.length ≤ 1048576) (hq : q.length ≤ 1048576) :
    Calls Tryz.prog 66 #[.string (mkB p), .string (mkB q)] w fun e w' => e = .returned (.bool (JP.touchB p q)) ∧ w = w' := by
  have H := Tryz.strings_HasPrefix
  have hz1 : (mkB p).size = p.length := mkB_size p
  have hz2 : (mkB q).size = q.length := mkB_size q
  have l1 : ¬ 9223372036854775807 < (mkB p).size + 1 := by omega
  have l2 : ¬ 9223372036854775807 < (mkB q).size + 1 := by omega
  have e1 : ((mkB p).toList == (mkB q).toList) = (p == q) := by rw [ByteArray.toList_eq, ByteArray.toList_eq, mkB_list, mkB_list]
  have f1 := H (mkB p) (mkB q ++ ⟨#[47]⟩)
  have f2 := H (mkB q) (mkB p ++ ⟨#[47]⟩)
  rw [show (mkB q ++ ⟨#[47]⟩ : ByteArray).data.toList = q ++ [47] by simp [mkB]] at f1
  rw [show (mkB p ++ ⟨#[47]⟩ : ByteArray).data.toList = p ++ [47] by simp [mkB]] at f2
  rw [mkB_list] at f1 f2
  unfold JP.touchB
  obtain ⟨b1, Hb1⟩ : ∃ b, Hid ((p == q) = b) := ⟨_, Lib.hid rfl⟩
  obtain ⟨b2, Hb2⟩ : ∃ b, Hid (Lib.hasPrefix p (q ++ [47]) = b) := ⟨_, Lib.hid rfl⟩
  obtain ⟨b3, Hb3⟩ : ∃ b, Hid (Lib.hasPrefix q (p ++ [47]) = b) := ⟨_, Lib.hid rfl⟩
  rw [Hb1.out] at e1 ⊢
  rw [Hb2.out] at f1 ⊢
  rw [Hb3.out] at f2 ⊢
  have F1 := Lib.hid f1
  have F2 := Lib.hid f2
  clear f1 f2 H hz1 hz2
  cases b1 with
  | true =>
    go_enter Tryz.func66, Tryz.ntmps66
    go_wp2_with fail
    go_ret
    exact ⟨rfl, rfl⟩
  | false =>
    cases b2 with
    | true =>
      go_enter Tryz.func66, Tryz.ntmps66
      go_wp2_with fail
      refine (F1.out _).mono ?_
      rintro E w1 ⟨rfl, rfl⟩
      go_wp2_with fail
      go_ret
      exact ⟨rfl, rfl⟩
    | false =>
      go_enter Tryz.func66, Tryz.ntmps66
      go_wp2_with fail
      refine (F1.out _).mono ?_
      rintro E w1 ⟨rfl, rfl⟩
      go_wp2_with fail
      refine (F2.out _).mono ?_
      rintro E w1 ⟨rfl, rfl⟩
      go_wp2_with fail
      go_ret
      exact ⟨rfl, rfl⟩
end Go.Proofs.YtdcmnpeabjallaaGreatDoor
namespace Go.Proofs.YtdcmnpeabjallaaGreatDoor
open Go.RowKit
open JP (JV Bs Lf)
def DealAt (w : World) (g : Nat) (lv mv : Value) (m : Bs) (lf : Value) : Prop := w.heap[g]? = some (.cells #[lv, mv, .string (mkB m), lf] 61 (0, 0))
theorem same_text {x y : JV} (hx : JP.Fit x) (hy : JP.Fit y) : (JP.text x = JP.text y) ↔ x = y := by
  refine ⟨fun h => ?_, fun h => by rw [h]⟩
  have h1 := JP.fit_read hx
  rw [h, JP.fit_read hy] at h1
  exact (Prod.mk.inj h1).1.symm
set_option maxRecDepth 100000 in
set_option maxHeartbeats 6400000 in
theorem bars_any {g : Nat} {lv mv lf sv vv : Value} {m : Bs} {live : JV} {x : Leaf} {p : Bs} {w : World} (hd : DealAt w g lv mv m lf) (hl : ∃ n, JvAt n [] w lv live) (hf : JP.Fit live) (hs : StrAt w sv (x.1.map mkB)) (hv : ∃ n, JvAt n [] w vv x.2) (hx : LeafFit x) (hp : p.length ≤ 1048576) (hE : Env w) :
    Calls Tryz.prog 59 #[.pointer (some ⟨g, 0, none⟩), .agg #[.string (mkB (pathP x.1)), sv, vv], .string (mkB p)] w fun e w' => e = .returned (.bool (JP.barsB live x p)) ∧ Below w.heap.size w w' := by
  obtain ⟨n, hl⟩ := hl
  obtain ⟨k, hv⟩ := hv
  obtain ⟨sa, sc, rfl, -, -⟩ := hs.row.len
  obtain ⟨sn, hsn⟩ : ∃ sn, (x.1.map mkB).length = sn := ⟨_, rfl⟩
  rw [hsn] at hs ⊢
  have hpath := hx.path
  rw [hpath]
  obtain ⟨X, hX⟩ : ∃ X, JP.pathL x = X := ⟨_, rfl⟩
  rw [hX]
  have hXl : X.length ≤ 1048576 := by
    rw [← hX]
    have h1 : joinL (x.1.map mkB) = JP.pathL x := joinL_mk x.1
    have h2 := joinL_len (x.1.map mkB)
    rw [h1, total_mk] at h2
    have h3 : ∀ l : List Bs, (∀ s ∈ l, s.length ≤ 2000) → (l.map fun s => s.length + 1).sum ≤ l.length * 2001 := by
      intro l
      induction l with
      | nil => intro _; simp
      | cons a r ih =>
        intro h
        rw [List.map_cons, List.sum_cons, List.length_cons]
        have := h a (List.mem_cons_self ..)
        have := ih fun s hs => h s (List.mem_cons_of_mem _ hs)
        omega
    have h4 := h3 x.1 hx.steps
    have h5 := hx.len
    omega
  have hlz : (JP.text live).length ≤ 1000000 := by have := hf.2.2.2; omega
  have hsl : ∀ s ∈ x.1, s.length ≤ 1048576 := fun s h => by have := hx.steps s h; omega
  have hll : x.1.length ≤ 1048576 := by have := hx.len; omega
  obtain ⟨R0, hR0⟩ : ∃ R, JP.atW live x.1 = R := ⟨_, rfl⟩
  have ha : ∀ w', Below w.heap.size w w' → Calls Tryz.prog 42 #[lv, .slice sa sn sc] w' (ChildAt R0 w') := fun w' hb => by
    rw [← hR0]
    exact at_any (hl.below hb) hlz (hs.below hb) hsl hll ((hE.below hb).1) ((hE.below hb).2.1)
  have hT := touch_any p X
  obtain ⟨tb, htb⟩ : ∃ b, JP.touchB p X = b := ⟨_, rfl⟩
  rw [htb] at hT
  have hR : JP.barsB live x p = (tb && (!(p == X) || !R0.isSome || !@decide (R0 = some x.2) (Classical.propDecidable _))) := by
    unfold JP.barsB
    rw [hX, htb, hR0]
    cases tb with
    | false => rfl
    | true =>
      cases hpx : (p == X) with
      | false => rfl
      | true =>
        cases R0 with
        | none => simp
        | some c => simp
  rw [hR]
  clear hR
  have hfc : ∀ c, R0 = some c → JP.Fit c := fun c hc => JP.at_fit hf (hR0.trans hc)
  have hgw : g < w.heap.size := by
    rcases Nat.lt_or_ge g w.heap.size with h1 | h1
    · exact h1
    · have h9 : w.heap[g]? = some _ := hd
      rw [Array.getElem?_eq_none h1] at h9; cases h9
  have eg : w.cell? ⟨g, 0, none⟩ = some lv := cell_block hd 0
  have hvone : vv = .nilIface ∨ ∃ t u, vv = .iface t u := jv_form hv
  have hlone : lv = .nilIface ∨ ∃ t u, lv = .iface t u := jv_form hl
  obtain ⟨w1, hw1⟩ : ∃ w1, w1 = w.alloc (.cells #[.string (mkB X), .slice sa sn sc, vv] 65) := ⟨_, rfl⟩
  obtain ⟨gb, hgb⟩ : ∃ gb, gb = w.heap.size := ⟨_, rfl⟩
  have b1 : w1.heap[gb]? = some (.cells #[.string (mkB X), .slice sa sn sc, vv] 65 (0, 0)) := by rw [hw1, hgb]; exact heap_alloc_new w _
  have hb1 : Below w.heap.size w w1 := by rw [hw1]; exact (Below.refl _ w).alloc (Nat.le_refl _) _
  have HB1 := Lib.hid hb1
  have B1 := Lib.hid b1
  have HT := Lib.hid hT
  have HA := Lib.hid ha
  have HV := Lib.hid hv
  have HF := Lib.hid hfc
  have HE := Lib.hid hE
  have HX := Lib.hid hx.fit
  have HD := Lib.hid hd
  have e1 : ((mkB p).toList == (mkB X).toList) = (p == X) := by
    rw [ByteArray.toList_eq, ByteArray.toList_eq, mkB_list, mkB_list]
  obtain ⟨pb, hpb⟩ : ∃ b, (p == X) = b := ⟨_, rfl⟩
  rw [hpb] at e1 ⊢
  obtain ⟨ans, Hans⟩ : ∃ ans, Hid ((tb && (!pb || !R0.isSome || !@decide (R0 = some x.2) (Classical.propDecidable _))) = ans) := ⟨_, Lib.hid rfl⟩
  rw [Hans.out]
  have cc := fun i => cell_block b1 i
  clear hT ha hl hlz hsl hll hfc hR0 hd hx hs hf hE hb1 b1 hpath hX htb hsn hpb
  go_enter Tryz.func59, Tryz.ntmps59
  go_upto_region 1 with fail
  try rw [← hw1]
  try rw [← hgb]
  clear hw1 hgb
  rcases hvone with rfl | ⟨vt, vu, rfl⟩
  all_goals
    go_wp2_with fail
    refine (HT.out w1 hp hXl).mono ?_
    rintro E w2 ⟨rfl, rfl⟩
    cases tb with
    | false =>
      go_wp2_with fail
      go_ret
      exact ⟨by rw [← Hans.out]; rfl, HB1.out⟩
    | true =>
      clear cc
      go_upto_region 3 with fail
      refine wp_region_relB 11 (fun ii U w' => match ii with
        | 0 => U 0 = .pointer (some ⟨g, 0, none⟩)
        | 1 => U 1 = .pointer (some ⟨g, 0, none⟩)
        | 2 => U 2 = .pointer (some ⟨g, 0, none⟩)
        | 3 => U 3 = lv
        | 4 => U 4 = .pointer (some ⟨gb, 1, none⟩)
        | 5 => U 5 = .slice sa sn sc
        | 6 => ∃ u, U 6 = .tuple #[u, .bool R0.isSome] ∧ (∀ c, R0 = some c → ∃ k, JvAt k [] w' u c)
        | 7 => ∃ u, U 7 = .tuple #[u, .bool R0.isSome] ∧ (∀ c, R0 = some c → ∃ k, JvAt k [] w' u c)
        | 8 => (∀ c, R0 = some c → ∃ k, JvAt k [] w' (U 8) c)
        | 9 => U 9 = .bool R0.isSome
        | 10 => (∀ c, R0 = some c → ∃ k, JvAt k [] w' (U 10) c)
        | _ => True)
        (fun | 1 => [0] | 2 => [1] | 3 => [2] | 5 => [4] | 6 => [3, 5] | 7 => [6] | 8 => [7] | 9 => [7] | 10 => [8] | _ => []) (by kernel_rfl) (by kernel_rfl) ?_ ⟨?_, ?_, ?_, ?_, ?_, ?_, ?_, ?_, ?_, ?_, ?_, trivial⟩ ?_
      · intro j u w1 w2 hb h
        match j, h with
        | 0, h => exact h
        | 1, h => exact h
        | 2, h => exact h
        | 3, h => exact h
        | 4, h => exact h
        | 5, h => exact h
        | 6, h => exact (let ⟨uu, h1, h2⟩ := h; ⟨uu, h1, fun c hc => let ⟨k, hk⟩ := h2 c hc; ⟨k, hk.below hb⟩⟩)
        | 7, h => exact (let ⟨uu, h1, h2⟩ := h; ⟨uu, h1, fun c hc => let ⟨k, hk⟩ := h2 c hc; ⟨k, hk.below hb⟩⟩)
        | 8, h => exact (fun c hc => let ⟨k, hk⟩ := h c hc; ⟨k, hk.below hb⟩)
        | 9, h => exact h
        | 10, h => exact (fun c hc => let ⟨k, hk⟩ := h c hc; ⟨k, hk.below hb⟩)
        | _ + 11, h => trivial
      · intro x' w' hb hd
        have hb1r : Below w1.heap.size w1 w' := (below_drew1j w1).trans hb
        have hbr : Below w.heap.size w w' := HB1.out.trans (hb1r.mono HB1.out.size)
        refine owes_here (.pointer (some ⟨g, 0, none⟩)) (by rfl) ?_ rfl
        simp only [putAll, List.take_succ_cons, List.take_zero]
        go_simp
      · intro x' w' hb hd
        have hb1r : Below w1.heap.size w1 w' := (below_drew1j w1).trans hb
        have hbr : Below w.heap.size w w' := HB1.out.trans (hb1r.mono HB1.out.size)
        have k0 : x' 0 = .pointer (some ⟨g, 0, none⟩) := hd 0 (by simp)
        refine owes_here (.pointer (some ⟨g, 0, none⟩)) (by rfl) ?_ rfl
        simp only [putAll, List.take_succ_cons, List.take_zero]
        go_simp
      · intro x' w' hb hd
        have hb1r : Below w1.heap.size w1 w' := (below_drew1j w1).trans hb
        have hbr : Below w.heap.size w w' := HB1.out.trans (hb1r.mono HB1.out.size)
        have k0 : x' 1 = .pointer (some ⟨g, 0, none⟩) := hd 1 (by simp)
        refine owes_here (.pointer (some ⟨g, 0, none⟩)) (by rfl) ?_ rfl
        simp only [putAll, List.take_succ_cons, List.take_zero]
        go_simp
      · intro x' w' hb hd
        have hb1r : Below w1.heap.size w1 w' := (below_drew1j w1).trans hb
        have hbr : Below w.heap.size w w' := HB1.out.trans (hb1r.mono HB1.out.size)
        have k0 : x' 2 = .pointer (some ⟨g, 0, none⟩) := hd 2 (by simp)
        have e0 := (hbr.cell (p := ⟨g, 0, none⟩) hgw).trans eg
        refine owes_here lv (by rfl) ?_ rfl
        simp only [putAll, List.take_succ_cons, List.take_zero]
        go_simp
      · intro x' w' hb hd
        have hb1r : Below w1.heap.size w1 w' := (below_drew1j w1).trans hb
        have hbr : Below w.heap.size w w' := HB1.out.trans (hb1r.mono HB1.out.size)
        refine owes_here (.pointer (some ⟨gb, 1, none⟩)) (by rfl) ?_ rfl
        simp only [putAll, List.take_succ_cons, List.take_zero]
        go_simp
      · intro x' w' hb hd
        have hb1r : Below w1.heap.size w1 w' := (below_drew1j w1).trans hb
        have hbr : Below w.heap.size w w' := HB1.out.trans (hb1r.mono HB1.out.size)
        have k0 : x' 4 = .pointer (some ⟨gb, 1, none⟩) := hd 4 (by simp)
        have d0 := below_block hb1r B1.out
        have cc := fun i => cell_block d0 i
        clear d0
        refine owes_here (.slice sa sn sc) (by rfl) ?_ rfl
        simp only [putAll, List.take_succ_cons, List.take_zero]
        go_simp
      · intro x' w' hb hd
        have hb1r : Below w1.heap.size w1 w' := (below_drew1j w1).trans hb
        have hbr : Below w.heap.size w w' := HB1.out.trans (hb1r.mono HB1.out.size)
        have k0 : x' 3 = lv := hd 3 (by simp)
        have k1 : x' 5 = .slice sa sn sc := hd 5 (by simp)
        refine owes_call 42 #[lv, .slice sa sn sc] (by rfl) ?_ ((HA.out w' hbr).mono fun e w2 ⟨uu, h1, h2, h3⟩ => ⟨_, h1, ⟨uu, rfl, h2⟩, h3⟩)
        simp only [putAll, List.take_succ_cons, List.take_zero]
        go_simp
      · intro x' w' hb hd
        have hb1r : Below w1.heap.size w1 w' := (below_drew1j w1).trans hb
        have hbr : Below w.heap.size w w' := HB1.out.trans (hb1r.mono HB1.out.size)
        obtain ⟨uu, k0, k1⟩ : ∃ u, x' 6 = .tuple #[u, .bool R0.isSome] ∧ (∀ c, R0 = some c → ∃ k, JvAt k [] w' u c) := hd 6 (by simp)
        refine owes_here (.tuple #[uu, .bool R0.isSome]) (by rfl) ?_ ⟨uu, rfl, k1⟩
        clear k1 hd
        simp only [putAll, List.take_succ_cons, List.take_zero]
        go_simp
      · intro x' w' hb hd
        have hb1r : Below w1.heap.size w1 w' := (below_drew1j w1).trans hb
        have hbr : Below w.heap.size w w' := HB1.out.trans (hb1r.mono HB1.out.size)
        obtain ⟨uu, k0, k1⟩ : ∃ u, x' 7 = .tuple #[u, .bool R0.isSome] ∧ (∀ c, R0 = some c → ∃ k, JvAt k [] w' u c) := hd 7 (by simp)
        refine owes_here uu (by rfl) ?_ k1
        clear k1 hd
        simp only [putAll, List.take_succ_cons, List.take_zero]
        go_simp
      · intro x' w' hb hd
        have hb1r : Below w1.heap.size w1 w' := (below_drew1j w1).trans hb
        have hbr : Below w.heap.size w w' := HB1.out.trans (hb1r.mono HB1.out.size)
        obtain ⟨uu, k0, k1⟩ : ∃ u, x' 7 = .tuple #[u, .bool R0.isSome] ∧ (∀ c, R0 = some c → ∃ k, JvAt k [] w' u c) := hd 7 (by simp)
        refine owes_here (.bool R0.isSome) (by rfl) ?_ rfl
        clear k1 hd
        simp only [putAll, List.take_succ_cons, List.take_zero]
        go_simp
      · intro x' w' hb hd
        have hb1r : Below w1.heap.size w1 w' := (below_drew1j w1).trans hb
        have hbr : Below w.heap.size w w' := HB1.out.trans (hb1r.mono HB1.out.size)
        have k1 : (∀ c, R0 = some c → ∃ k, JvAt k [] w' (x' 8) c) := hd 8 (by simp)
        refine owes_here (x' 8) (by rfl) ?_ k1
        clear k1 hd
        simp only [putAll, List.take_succ_cons, List.take_zero]
        go_simp
      · intro x' w' hb hR
        have hb1r : Below w1.heap.size w1 w' := (below_drew1j w1).trans hb
        have hbr : Below w.heap.size w w' := HB1.out.trans (hb1r.mono HB1.out.size)
        have k10 : (∀ c, R0 = some c → ∃ k, JvAt k [] w' (x' 10) c) := hR 10 (by omega)
        have k9 : x' 9 = .bool R0.isSome := hR 9 (by omega)
        have d0 := below_block hb1r B1.out
        have cc := fun i => cell_block d0 i
        have HS := Lib.hid k10
        have Hbr := Lib.hid hbr
        clear hb hbr hb1r d0 k10 hR
        simp only [putAll, List.take_succ_cons, List.take_zero, List.drop_succ_cons, List.drop_zero]
        rw [k9]
        obtain ⟨y, Hy⟩ : ∃ y, Hid (x' 10 = y) := ⟨_, Lib.hid rfl⟩
        have HS2 : Hid (∀ c, R0 = some c → ∃ k, JvAt k [] w' y c) := Lib.hid (by rw [← Hy.out]; exact HS.out)
        rw [Hy.out]
        clear HS k9 Hy
        try simp only [Act.put, List.setIfInBounds_toArray, List.set_cons_zero, List.set_cons_succ]
        cases pb with
        | false =>
          go_wp2_with fail
          go_ret
          exact ⟨by rw [← Hans.out]; rfl, Hbr.out⟩
        | true =>
          cases R0 with
          | none =>
            go_wp2_with fail
            go_ret
            exact ⟨by rw [← Hans.out]; rfl, Hbr.out⟩
          | some c =>
            obtain ⟨k2, hk2⟩ := HS2.out c rfl
            have hsame := same_any hk2 (HV.out.below Hbr.out) (by have := (HF.out c rfl).2.2.2; omega) (by have := HX.out.2.2.2; omega) ((HE.out.below Hbr.out).1)
            have HSm := Lib.hid hsame
            have Hdec : Hid ((true && (!true || !(some c).isSome || !@decide (some c = some x.2) (Classical.propDecidable _))) = !decide (JP.text c = JP.text x.2)) := Lib.hid (by
              by_cases h : c = x.2
              · subst h; simp
              · have h2 : ¬ JP.text c = JP.text x.2 := fun e => h ((same_text (HF.out c rfl) HX.out).1 e)
                have h3 : ¬ some c = some x.2 := fun e => h (Option.some.inj e)
                rw [decide_eq_false h2]
                simp [h])
            obtain ⟨sb, Hsb⟩ : ∃ sb, Hid (decide (JP.text c = JP.text x.2) = sb) := ⟨_, Lib.hid rfl⟩
            rw [Hsb.out] at HSm
            clear hk2 hsame HS2
            go_wp2_with fail
            refine HSm.out.mono ?_
            rintro E w3 ⟨rfl, hb3⟩
            have Hb3 := Lib.hid (Hbr.out.trans (hb3.mono Hbr.out.size))
            clear hb3
            go_wp2_with fail
            go_ret
            exact ⟨by rw [← Hans.out, Hdec.out, Hsb.out]; rfl, Hb3.out⟩
end Go.Proofs.YtdcmnpeabjallaaGreatDoor
namespace Go.Proofs.YtdcmnpeabjallaaGreatDoor
open Go.RowKit
open JP (JV Bs Lf)
def FirstAt {α : Type} (l : List α) (p : α → Bool) (w : World) (e : Ending) (w' : World) : Prop :=
  ∃ n : Int, e = .returned (.int .i64 n) ∧ ((n = -1 ∧ l.find? p = none) ∨ ∃ (i : Nat) (x : α), n = (i : Int) ∧ l[i]? = some x ∧ l.find? p = some x ∧ ∀ y ∈ l.take i, p y = false) ∧ Below w.heap.size w w'
theorem find_at {α : Type} {l : List α} {p : α → Bool} {i : Nat} {x : α} (h : l[i]? = some x) (hp : p x = true) (hn : ∀ y ∈ l.take i, p y = false) : l.find? p = some x := by
  have hi := (List.getElem?_eq_some_iff.1 h).1
  have he := (List.getElem?_eq_some_iff.1 h).2
  have h1 : l = l.take i ++ x :: l.drop (i + 1) := by rw [← he, ← List.drop_eq_getElem_cons hi, List.take_append_drop]
  rw [h1, List.find?_append, List.find?_eq_none.2 (fun y hy => by rw [hn y hy]; simp)]
  simp [hp]
set_option maxRecDepth 100000 in
set_option maxHeartbeats 1600000 in
theorem idxStr1_any {f : FuncId} {cap1 : Value} {Cap : World → Prop} {p : ByteArray → Bool} {OK : ByteArray → Prop} (enter : ∀ (a : Array Value) (w : World), (callFunc f a).run Tryz.prog w = .ok (.enter f a) w)
    (keepC : ∀ w w' : World, Cap w → Below w.heap.size w w' → Cap w')
    (clo : ∀ (x : ByteArray) (w : World), OK x → Cap w → Calls Tryz.prog f #[.string x, cap1] w fun e w' => e = .returned (.bool (p x)) ∧ Below w.heap.size w w')
    (v : Value) (l : List ByteArray) (w : World) (h : RowAt RString 1 w v l) (hl : l.length ≤ 1073741824) (hok : ∀ x ∈ l, OK x) (hc : Cap w) : Calls Tryz.prog 93 #[v, .func (.func f) #[] #[cap1]] w (FirstAt l p w) := by
  obtain ⟨a1, c1, rfl, _, _⟩ := h.len
  have H := Lib.hid h
  have Hc := Lib.hid hc
  have HC := Lib.hid clo
  have HK := Lib.hid keepC
  have Hok := Lib.hid hok
  have ep := enter
  clear h hc clo keepC enter hok
  go_enter Tryz.func93, Tryz.ntmps93
  go_wp2_with fail
  go_loopg [8] l.length (fun g u8 wr => ∃ i : Nat, i + g = l.length ∧ u8 = .int .i64 (i : Int) ∧ Hid (∀ x ∈ l.take i, p x = false) ∧ Hid (Cap wr) ∧ Below w.heap.size w wr)
  case atStart => exact ⟨0, by omega, rfl, Lib.hid (fun x hx => by simp at hx), Hc, Below.refl _ _⟩
  case round =>
    obtain ⟨i, hig, rfl, Hall, Hcr, hbel⟩ := hrel
    cases gk with
    | zero =>
      obtain rfl : i = l.length := by omega
      have Hany : Hid (l.find? p = none) := Lib.hid (List.find?_eq_none.2 fun x hx => by rw [Hall.out x (by rw [List.take_length]; exact hx)]; simp)
      have Hbel := Lib.hid hbel
      clear hbel
      go_wp2_with fail
      go_ret
      exact ⟨-1, rfl, .inl ⟨rfl, Hany.out⟩, Hbel.out⟩
    | succ g =>
      have hil : i < l.length := by omega
      obtain ⟨x, hxi⟩ : ∃ x, l[i]? = some x := ⟨l[i]'(by omega), List.getElem?_eq_getElem _⟩
      obtain ⟨b, o, c', hv, _, _, hbs, hcell⟩ := H.out.form (by omega) (by omega)
      cases hv
      obtain ⟨ds, _, hcc, hR⟩ := hcell i x hxi
      obtain rfl : ds = [.string x] := hR
      have HR := Lib.hid (show RString wr [.string x] x from rfl)
      have e0 : wr.cell? ⟨b, o + i, none⟩ = some (.string x) := (hbel.cell (p := ⟨b, _, none⟩) hbs).trans (by simpa using hcc 0 _ rfl)
      have q1 : (0 : Int) ≤ (i : Int) := by omega
      have q2 : (i : Int) < (l.length : Int) := by omega
      have Hbel := Lib.hid hbel
      have hs0 := hbel.size
      have Hxi := Lib.hid hxi
      clear hcc hcell hbel hxi
      obtain ⟨pb, Hpb⟩ : ∃ pb, Hid (p x = pb) := ⟨_, Lib.hid rfl⟩
      go_wp2_with fail
      refine (HC.out x wr (Hok.out x (List.mem_of_getElem? Hxi.out)) Hcr.out).mono ?_
      rintro E w1 ⟨rfl, hb1⟩
      rw [Hpb.out]
      have Hb1 := Lib.hid (Hbel.out.trans (hb1.mono hs0))
      have Hc1 := Lib.hid (HK.out _ _ Hcr.out hb1)
      clear hb1 e0
      cases pb with
      | true =>
        have Hany : Hid (l.find? p = some x) := Lib.hid (find_at Hxi.out Hpb.out Hall.out)
        go_wp2_with fail
        go_ret
        exact ⟨_, rfl, .inr ⟨i, x, rfl, Hxi.out, Hany.out, Hall.out⟩, Hb1.out⟩
      | false =>
        have Hall2 : Hid (∀ x ∈ l.take (i + 1), p x = false) := Lib.hid fun y hy => by
          rw [List.take_add_one, Hxi.out] at hy
          rcases List.mem_append.1 hy with h | h
          · exact Hall.out y h
          · have h9 : y = x := by simpa using h
            rw [h9]; exact Hpb.out
        go_wp2_with fail
        go_roundg g
        case measure => omega
        case rel => exact ⟨i + 1, by omega, by go_num, Hall2, Hc1, Hb1.out⟩
set_option maxRecDepth 100000 in
theorem anyStr1_any {f : FuncId} {cap1 : Value} {Cap : World → Prop} {p : ByteArray → Bool} {OK : ByteArray → Prop} (enter : ∀ (a : Array Value) (w : World), (callFunc f a).run Tryz.prog w = .ok (.enter f a) w)
    (keepC : ∀ w w' : World, Cap w → Below w.heap.size w w' → Cap w')
    (clo : ∀ (x : ByteArray) (w : World), OK x → Cap w → Calls Tryz.prog f #[.string x, cap1] w fun e w' => e = .returned (.bool (p x)) ∧ Below w.heap.size w w')
    (v : Value) (l : List ByteArray) (w : World) (h : RowAt RString 1 w v l) (hl : l.length ≤ 1073741824) (hok : ∀ x ∈ l, OK x) (hc : Cap w) : Calls Tryz.prog 91 #[v, .func (.func f) #[] #[cap1]] w fun e w' => e = .returned (.bool (l.any p)) ∧ Below w.heap.size w w' := by
  have H := Lib.hid (idxStr1_any enter keepC clo v l w h hl hok hc)
  obtain ⟨B, HB⟩ : ∃ B, Hid (l.any p = B) := ⟨_, Lib.hid rfl⟩
  rw [HB.out]
  clear h hc clo keepC enter
  go_enter Tryz.func91, Tryz.ntmps91
  go_wp2_with fail
  refine H.out.mono ?_
  rintro E w1 ⟨n, rfl, hn, hb⟩
  have hn2 : (decide ((0 : Int) ≤ n)) = B := by
    rw [← HB.out]
    rcases hn with ⟨rfl, h1⟩ | ⟨i, x, rfl, h1, h2, _⟩
    · rw [decide_eq_false (by omega), eq_comm, List.any_eq_false]
      intro x hx
      simpa using List.find?_eq_none.1 h1 x hx
    · rw [decide_eq_true (by omega), eq_comm, List.any_eq_true]
      exact ⟨x, List.mem_of_getElem? h1, List.find?_some h2⟩
  have Hb := Lib.hid hb
  have Hn := Lib.hid hn2
  clear hb hn hn2 H
  go_wp2_with fail
  go_ret
  exact ⟨congrArg (fun b => Ending.returned (Value.bool b)) Hn.out, Hb.out⟩
set_option maxRecDepth 100000 in
set_option maxHeartbeats 1600000 in
theorem idxStr2_any {f : FuncId} {cap1 cap2 : Value} {Cap : World → Prop} {p : ByteArray → Bool} {OK : ByteArray → Prop} (enter : ∀ (a : Array Value) (w : World), (callFunc f a).run Tryz.prog w = .ok (.enter f a) w)
    (keepC : ∀ w w' : World, Cap w → Below w.heap.size w w' → Cap w')
    (clo : ∀ (x : ByteArray) (w : World), OK x → Cap w → Calls Tryz.prog f #[.string x, cap1, cap2] w fun e w' => e = .returned (.bool (p x)) ∧ Below w.heap.size w w')
    (v : Value) (l : List ByteArray) (w : World) (h : RowAt RString 1 w v l) (hl : l.length ≤ 1073741824) (hok : ∀ x ∈ l, OK x) (hc : Cap w) : Calls Tryz.prog 93 #[v, .func (.func f) #[] #[cap1, cap2]] w (FirstAt l p w) := by
  obtain ⟨a1, c1, rfl, _, _⟩ := h.len
  have H := Lib.hid h
  have Hc := Lib.hid hc
  have HC := Lib.hid clo
  have HK := Lib.hid keepC
  have Hok := Lib.hid hok
  have ep := enter
  clear h hc clo keepC enter hok
  go_enter Tryz.func93, Tryz.ntmps93
  go_wp2_with fail
  go_loopg [8] l.length (fun g u8 wr => ∃ i : Nat, i + g = l.length ∧ u8 = .int .i64 (i : Int) ∧ Hid (∀ x ∈ l.take i, p x = false) ∧ Hid (Cap wr) ∧ Below w.heap.size w wr)
  case atStart => exact ⟨0, by omega, rfl, Lib.hid (fun x hx => by simp at hx), Hc, Below.refl _ _⟩
  case round =>
    obtain ⟨i, hig, rfl, Hall, Hcr, hbel⟩ := hrel
    cases gk with
    | zero =>
      obtain rfl : i = l.length := by omega
      have Hany : Hid (l.find? p = none) := Lib.hid (List.find?_eq_none.2 fun x hx => by rw [Hall.out x (by rw [List.take_length]; exact hx)]; simp)
      have Hbel := Lib.hid hbel
      clear hbel
      go_wp2_with fail
      go_ret
      exact ⟨-1, rfl, .inl ⟨rfl, Hany.out⟩, Hbel.out⟩
    | succ g =>
      have hil : i < l.length := by omega
      obtain ⟨x, hxi⟩ : ∃ x, l[i]? = some x := ⟨l[i]'(by omega), List.getElem?_eq_getElem _⟩
      obtain ⟨b, o, c', hv, _, _, hbs, hcell⟩ := H.out.form (by omega) (by omega)
      cases hv
      obtain ⟨ds, _, hcc, hR⟩ := hcell i x hxi
      obtain rfl : ds = [.string x] := hR
      have HR := Lib.hid (show RString wr [.string x] x from rfl)
      have e0 : wr.cell? ⟨b, o + i, none⟩ = some (.string x) := (hbel.cell (p := ⟨b, _, none⟩) hbs).trans (by simpa using hcc 0 _ rfl)
      have q1 : (0 : Int) ≤ (i : Int) := by omega
      have q2 : (i : Int) < (l.length : Int) := by omega
      have Hbel := Lib.hid hbel
      have hs0 := hbel.size
      have Hxi := Lib.hid hxi
      clear hcc hcell hbel hxi
      obtain ⟨pb, Hpb⟩ : ∃ pb, Hid (p x = pb) := ⟨_, Lib.hid rfl⟩
      go_wp2_with fail
      refine (HC.out x wr (Hok.out x (List.mem_of_getElem? Hxi.out)) Hcr.out).mono ?_
      rintro E w1 ⟨rfl, hb1⟩
      rw [Hpb.out]
      have Hb1 := Lib.hid (Hbel.out.trans (hb1.mono hs0))
      have Hc1 := Lib.hid (HK.out _ _ Hcr.out hb1)
      clear hb1 e0
      cases pb with
      | true =>
        have Hany : Hid (l.find? p = some x) := Lib.hid (find_at Hxi.out Hpb.out Hall.out)
        go_wp2_with fail
        go_ret
        exact ⟨_, rfl, .inr ⟨i, x, rfl, Hxi.out, Hany.out, Hall.out⟩, Hb1.out⟩
      | false =>
        have Hall2 : Hid (∀ x ∈ l.take (i + 1), p x = false) := Lib.hid fun y hy => by
          rw [List.take_add_one, Hxi.out] at hy
          rcases List.mem_append.1 hy with h | h
          · exact Hall.out y h
          · have h9 : y = x := by simpa using h
            rw [h9]; exact Hpb.out
        go_wp2_with fail
        go_roundg g
        case measure => omega
        case rel => exact ⟨i + 1, by omega, by go_num, Hall2, Hc1, Hb1.out⟩
set_option maxRecDepth 100000 in
theorem anyStr2_any {f : FuncId} {cap1 cap2 : Value} {Cap : World → Prop} {p : ByteArray → Bool} {OK : ByteArray → Prop} (enter : ∀ (a : Array Value) (w : World), (callFunc f a).run Tryz.prog w = .ok (.enter f a) w)
    (keepC : ∀ w w' : World, Cap w → Below w.heap.size w w' → Cap w')
    (clo : ∀ (x : ByteArray) (w : World), OK x → Cap w → Calls Tryz.prog f #[.string x, cap1, cap2] w fun e w' => e = .returned (.bool (p x)) ∧ Below w.heap.size w w')
    (v : Value) (l : List ByteArray) (w : World) (h : RowAt RString 1 w v l) (hl : l.length ≤ 1073741824) (hok : ∀ x ∈ l, OK x) (hc : Cap w) : Calls Tryz.prog 91 #[v, .func (.func f) #[] #[cap1, cap2]] w fun e w' => e = .returned (.bool (l.any p)) ∧ Below w.heap.size w w' := by
  have H := Lib.hid (idxStr2_any enter keepC clo v l w h hl hok hc)
  obtain ⟨B, HB⟩ : ∃ B, Hid (l.any p = B) := ⟨_, Lib.hid rfl⟩
  rw [HB.out]
  clear h hc clo keepC enter
  go_enter Tryz.func91, Tryz.ntmps91
  go_wp2_with fail
  refine H.out.mono ?_
  rintro E w1 ⟨n, rfl, hn, hb⟩
  have hn2 : (decide ((0 : Int) ≤ n)) = B := by
    rw [← HB.out]
    rcases hn with ⟨rfl, h1⟩ | ⟨i, x, rfl, h1, h2, _⟩
    · rw [decide_eq_false (by omega), eq_comm, List.any_eq_false]
      intro x hx
      simpa using List.find?_eq_none.1 h1 x hx
    · rw [decide_eq_true (by omega), eq_comm, List.any_eq_true]
      exact ⟨x, List.mem_of_getElem? h1, List.find?_some h2⟩
  have Hb := Lib.hid hb
  have Hn := Lib.hid hn2
  clear hb hn hn2 H
  go_wp2_with fail
  go_ret
  exact ⟨congrArg (fun b => Ending.returned (Value.bool b)) Hn.out, Hb.out⟩
set_option maxRecDepth 100000 in
set_option maxHeartbeats 1600000 in
theorem idxLeaf1_any {f : FuncId} {cap1 : Value} {Cap : World → Prop} {p : Leaf → Bool} {OK : Leaf → Prop} (enter : ∀ (a : Array Value) (w : World), (callFunc f a).run Tryz.prog w = .ok (.enter f a) w)
    (keepC : ∀ w w' : World, Cap w → Below w.heap.size w w' → Cap w')
    (clo : ∀ (x : Leaf) (sv vv : Value) (w : World), LeafR w [.string (mkB (pathP x.1)), sv, vv] x → OK x → Cap w → Calls Tryz.prog f #[.agg #[.string (mkB (pathP x.1)), sv, vv], cap1] w fun e w' => e = .returned (.bool (p x)) ∧ Below w.heap.size w w')
    (v : Value) (l : List Leaf) (w : World) (h : RowAt LeafR 3 w v l) (hl : l.length ≤ 1073741824) (hok : ∀ x ∈ l, OK x) (hc : Cap w) : Calls Tryz.prog 94 #[v, .func (.func f) #[] #[cap1]] w (FirstAt l p w) := by
  obtain ⟨a1, c1, rfl, _, _⟩ := h.len
  have H := Lib.hid h
  have Hc := Lib.hid hc
  have HC := Lib.hid clo
  have HK := Lib.hid keepC
  have Hok := Lib.hid hok
  have ep := enter
  clear h hc clo keepC enter hok
  go_enter Tryz.func94, Tryz.ntmps94
  go_wp2_with fail
  go_loopg [8] l.length (fun g u8 wr => ∃ i : Nat, i + g = l.length ∧ u8 = .int .i64 (i : Int) ∧ Hid (∀ x ∈ l.take i, p x = false) ∧ Hid (Cap wr) ∧ Below w.heap.size w wr)
  case atStart => exact ⟨0, by omega, rfl, Lib.hid (fun x hx => by simp at hx), Hc, Below.refl _ _⟩
  case round =>
    obtain ⟨i, hig, rfl, Hall, Hcr, hbel⟩ := hrel
    cases gk with
    | zero =>
      obtain rfl : i = l.length := by omega
      have Hany : Hid (l.find? p = none) := Lib.hid (List.find?_eq_none.2 fun x hx => by rw [Hall.out x (by rw [List.take_length]; exact hx)]; simp)
      have Hbel := Lib.hid hbel
      clear hbel
      go_wp2_with fail
      go_ret
      exact ⟨-1, rfl, .inl ⟨rfl, Hany.out⟩, Hbel.out⟩
    | succ g =>
      have hil : i < l.length := by omega
      obtain ⟨x, hxi⟩ : ∃ x, l[i]? = some x := ⟨l[i]'(by omega), List.getElem?_eq_getElem _⟩
      obtain ⟨b, o, c', hv, _, _, hbs, hcell⟩ := H.out.form (by omega) (by omega)
      cases hv
      obtain ⟨ds, _, hcc, hR⟩ := hcell i x hxi
      have hRb := leafR_below hR hbel
      obtain ⟨sv, vv, rfl, hsv, hjv⟩ := hR
      obtain ⟨sa, sc, rfl, -, -⟩ := hsv.row.len
      obtain ⟨sn, hsn⟩ : ∃ sn, (x.1.map mkB).length = sn := ⟨_, rfl⟩
      rw [hsn] at hcc hRb
      have hvform : vv = .nilIface ∨ ∃ t u, vv = .iface t u := by obtain ⟨k, hk⟩ := hjv; exact jv_form hk
      have HR := Lib.hid hRb
      have e0 : wr.cell? ⟨b, o + i * 3, none⟩ = some (.string (mkB (pathP x.1))) := (hbel.cell (p := ⟨b, _, none⟩) hbs).trans (by simpa using hcc 0 _ rfl)
      have e1 : wr.cell? ⟨b, o + i * 3 + 1, none⟩ = some (.slice sa sn sc) := (hbel.cell (p := ⟨b, _, none⟩) hbs).trans (hcc 1 _ rfl)
      have e2 : wr.cell? ⟨b, o + i * 3 + 2, none⟩ = some (vv) := (hbel.cell (p := ⟨b, _, none⟩) hbs).trans (hcc 2 _ rfl)
      have q1 : (0 : Int) ≤ (i : Int) := by omega
      have q2 : (i : Int) < (l.length : Int) := by omega
      have Hbel := Lib.hid hbel
      have hs0 := hbel.size
      have Hxi := Lib.hid hxi
      clear hcc hcell hbel hxi hRb hsv hjv hsn
      obtain ⟨pb, Hpb⟩ : ∃ pb, Hid (p x = pb) := ⟨_, Lib.hid rfl⟩
      rcases hvform with rfl | ⟨vt, vu, rfl⟩
      all_goals
        go_wp2_with fail
        refine (HC.out x _ _ wr HR.out (Hok.out x (List.mem_of_getElem? Hxi.out)) Hcr.out).mono ?_
        rintro E w1 ⟨rfl, hb1⟩
        rw [Hpb.out]
        have Hb1 := Lib.hid (Hbel.out.trans (hb1.mono hs0))
        have Hc1 := Lib.hid (HK.out _ _ Hcr.out hb1)
        clear hb1 e0 e1 e2
        cases pb with
        | true =>
          have Hany : Hid (l.find? p = some x) := Lib.hid (find_at Hxi.out Hpb.out Hall.out)
          go_wp2_with fail
          go_ret
          exact ⟨_, rfl, .inr ⟨i, x, rfl, Hxi.out, Hany.out, Hall.out⟩, Hb1.out⟩
        | false =>
          have Hall2 : Hid (∀ x ∈ l.take (i + 1), p x = false) := Lib.hid fun y hy => by
            rw [List.take_add_one, Hxi.out] at hy
            rcases List.mem_append.1 hy with h | h
            · exact Hall.out y h
            · have h9 : y = x := by simpa using h
              rw [h9]; exact Hpb.out
          go_wp2_with fail
          go_roundg g
          case measure => omega
          case rel => exact ⟨i + 1, by omega, by go_num, Hall2, Hc1, Hb1.out⟩
set_option maxRecDepth 100000 in
theorem anyLeaf1_any {f : FuncId} {cap1 : Value} {Cap : World → Prop} {p : Leaf → Bool} {OK : Leaf → Prop} (enter : ∀ (a : Array Value) (w : World), (callFunc f a).run Tryz.prog w = .ok (.enter f a) w)
    (keepC : ∀ w w' : World, Cap w → Below w.heap.size w w' → Cap w')
    (clo : ∀ (x : Leaf) (sv vv : Value) (w : World), LeafR w [.string (mkB (pathP x.1)), sv, vv] x → OK x → Cap w → Calls Tryz.prog f #[.agg #[.string (mkB (pathP x.1)), sv, vv], cap1] w fun e w' => e = .returned (.bool (p x)) ∧ Below w.heap.size w w')
    (v : Value) (l : List Leaf) (w : World) (h : RowAt LeafR 3 w v l) (hl : l.length ≤ 1073741824) (hok : ∀ x ∈ l, OK x) (hc : Cap w) : Calls Tryz.prog 62 #[v, .func (.func f) #[] #[cap1]] w fun e w' => e = .returned (.bool (l.any p)) ∧ Below w.heap.size w w' := by
  have H := Lib.hid (idxLeaf1_any enter keepC clo v l w h hl hok hc)
  obtain ⟨B, HB⟩ : ∃ B, Hid (l.any p = B) := ⟨_, Lib.hid rfl⟩
  rw [HB.out]
  clear h hc clo keepC enter
  go_enter Tryz.func62, Tryz.ntmps62
  go_wp2_with fail
  refine H.out.mono ?_
  rintro E w1 ⟨n, rfl, hn, hb⟩
  have hn2 : (decide ((0 : Int) ≤ n)) = B := by
    rw [← HB.out]
    rcases hn with ⟨rfl, h1⟩ | ⟨i, x, rfl, h1, h2, _⟩
    · rw [decide_eq_false (by omega), eq_comm, List.any_eq_false]
      intro x hx
      simpa using List.find?_eq_none.1 h1 x hx
    · rw [decide_eq_true (by omega), eq_comm, List.any_eq_true]
      exact ⟨x, List.mem_of_getElem? h1, List.find?_some h2⟩
  have Hb := Lib.hid hb
  have Hn := Lib.hid hn2
  clear hb hn hn2 H
  go_wp2_with fail
  go_ret
  exact ⟨congrArg (fun b => Ending.returned (Value.bool b)) Hn.out, Hb.out⟩
set_option maxRecDepth 100000 in
set_option maxHeartbeats 1600000 in
theorem idxLeaf2_any {f : FuncId} {cap1 cap2 : Value} {Cap : World → Prop} {p : Leaf → Bool} {OK : Leaf → Prop} (enter : ∀ (a : Array Value) (w : World), (callFunc f a).run Tryz.prog w = .ok (.enter f a) w)
    (keepC : ∀ w w' : World, Cap w → Below w.heap.size w w' → Cap w')
    (clo : ∀ (x : Leaf) (sv vv : Value) (w : World), LeafR w [.string (mkB (pathP x.1)), sv, vv] x → OK x → Cap w → Calls Tryz.prog f #[.agg #[.string (mkB (pathP x.1)), sv, vv], cap1, cap2] w fun e w' => e = .returned (.bool (p x)) ∧ Below w.heap.size w w')
    (v : Value) (l : List Leaf) (w : World) (h : RowAt LeafR 3 w v l) (hl : l.length ≤ 1073741824) (hok : ∀ x ∈ l, OK x) (hc : Cap w) : Calls Tryz.prog 94 #[v, .func (.func f) #[] #[cap1, cap2]] w (FirstAt l p w) := by
  obtain ⟨a1, c1, rfl, _, _⟩ := h.len
  have H := Lib.hid h
  have Hc := Lib.hid hc
  have HC := Lib.hid clo
  have HK := Lib.hid keepC
  have Hok := Lib.hid hok
  have ep := enter
  clear h hc clo keepC enter hok
  go_enter Tryz.func94, Tryz.ntmps94
  go_wp2_with fail
  go_loopg [8] l.length (fun g u8 wr => ∃ i : Nat, i + g = l.length ∧ u8 = .int .i64 (i : Int) ∧ Hid (∀ x ∈ l.take i, p x = false) ∧ Hid (Cap wr) ∧ Below w.heap.size w wr)
  case atStart => exact ⟨0, by omega, rfl, Lib.hid (fun x hx => by simp at hx), Hc, Below.refl _ _⟩
  case round =>
    obtain ⟨i, hig, rfl, Hall, Hcr, hbel⟩ := hrel
    cases gk with
    | zero =>
      obtain rfl : i = l.length := by omega
      have Hany : Hid (l.find? p = none) := Lib.hid (List.find?_eq_none.2 fun x hx => by rw [Hall.out x (by rw [List.take_length]; exact hx)]; simp)
      have Hbel := Lib.hid hbel
      clear hbel
      go_wp2_with fail
      go_ret
      exact ⟨-1, rfl, .inl ⟨rfl, Hany.out⟩, Hbel.out⟩
    | succ g =>
      have hil : i < l.length := by omega
      obtain ⟨x, hxi⟩ : ∃ x, l[i]? = some x := ⟨l[i]'(by omega), List.getElem?_eq_getElem _⟩
      obtain ⟨b, o, c', hv, _, _, hbs, hcell⟩ := H.out.form (by omega) (by omega)
      cases hv
      obtain ⟨ds, _, hcc, hR⟩ := hcell i x hxi
      have hRb := leafR_below hR hbel
      obtain ⟨sv, vv, rfl, hsv, hjv⟩ := hR
      obtain ⟨sa, sc, rfl, -, -⟩ := hsv.row.len
      obtain ⟨sn, hsn⟩ : ∃ sn, (x.1.map mkB).length = sn := ⟨_, rfl⟩
      rw [hsn] at hcc hRb
      have hvform : vv = .nilIface ∨ ∃ t u, vv = .iface t u := by obtain ⟨k, hk⟩ := hjv; exact jv_form hk
      have HR := Lib.hid hRb
      have e0 : wr.cell? ⟨b, o + i * 3, none⟩ = some (.string (mkB (pathP x.1))) := (hbel.cell (p := ⟨b, _, none⟩) hbs).trans (by simpa using hcc 0 _ rfl)
      have e1 : wr.cell? ⟨b, o + i * 3 + 1, none⟩ = some (.slice sa sn sc) := (hbel.cell (p := ⟨b, _, none⟩) hbs).trans (hcc 1 _ rfl)
      have e2 : wr.cell? ⟨b, o + i * 3 + 2, none⟩ = some (vv) := (hbel.cell (p := ⟨b, _, none⟩) hbs).trans (hcc 2 _ rfl)
      have q1 : (0 : Int) ≤ (i : Int) := by omega
      have q2 : (i : Int) < (l.length : Int) := by omega
      have Hbel := Lib.hid hbel
      have hs0 := hbel.size
      have Hxi := Lib.hid hxi
      clear hcc hcell hbel hxi hRb hsv hjv hsn
      obtain ⟨pb, Hpb⟩ : ∃ pb, Hid (p x = pb) := ⟨_, Lib.hid rfl⟩
      rcases hvform with rfl | ⟨vt, vu, rfl⟩
      all_goals
        go_wp2_with fail
        refine (HC.out x _ _ wr HR.out (Hok.out x (List.mem_of_getElem? Hxi.out)) Hcr.out).mono ?_
        rintro E w1 ⟨rfl, hb1⟩
        rw [Hpb.out]
        have Hb1 := Lib.hid (Hbel.out.trans (hb1.mono hs0))
        have Hc1 := Lib.hid (HK.out _ _ Hcr.out hb1)
        clear hb1 e0 e1 e2
        cases pb with
        | true =>
          have Hany : Hid (l.find? p = some x) := Lib.hid (find_at Hxi.out Hpb.out Hall.out)
          go_wp2_with fail
          go_ret
          exact ⟨_, rfl, .inr ⟨i, x, rfl, Hxi.out, Hany.out, Hall.out⟩, Hb1.out⟩
        | false =>
          have Hall2 : Hid (∀ x ∈ l.take (i + 1), p x = false) := Lib.hid fun y hy => by
            rw [List.take_add_one, Hxi.out] at hy
            rcases List.mem_append.1 hy with h | h
            · exact Hall.out y h
            · have h9 : y = x := by simpa using h
              rw [h9]; exact Hpb.out
          go_wp2_with fail
          go_roundg g
          case measure => omega
          case rel => exact ⟨i + 1, by omega, by go_num, Hall2, Hc1, Hb1.out⟩
set_option maxRecDepth 100000 in
theorem anyLeaf2_any {f : FuncId} {cap1 cap2 : Value} {Cap : World → Prop} {p : Leaf → Bool} {OK : Leaf → Prop} (enter : ∀ (a : Array Value) (w : World), (callFunc f a).run Tryz.prog w = .ok (.enter f a) w)
    (keepC : ∀ w w' : World, Cap w → Below w.heap.size w w' → Cap w')
    (clo : ∀ (x : Leaf) (sv vv : Value) (w : World), LeafR w [.string (mkB (pathP x.1)), sv, vv] x → OK x → Cap w → Calls Tryz.prog f #[.agg #[.string (mkB (pathP x.1)), sv, vv], cap1, cap2] w fun e w' => e = .returned (.bool (p x)) ∧ Below w.heap.size w w')
    (v : Value) (l : List Leaf) (w : World) (h : RowAt LeafR 3 w v l) (hl : l.length ≤ 1073741824) (hok : ∀ x ∈ l, OK x) (hc : Cap w) : Calls Tryz.prog 62 #[v, .func (.func f) #[] #[cap1, cap2]] w fun e w' => e = .returned (.bool (l.any p)) ∧ Below w.heap.size w w' := by
  have H := Lib.hid (idxLeaf2_any enter keepC clo v l w h hl hok hc)
  obtain ⟨B, HB⟩ : ∃ B, Hid (l.any p = B) := ⟨_, Lib.hid rfl⟩
  rw [HB.out]
  clear h hc clo keepC enter
  go_enter Tryz.func62, Tryz.ntmps62
  go_wp2_with fail
  refine H.out.mono ?_
  rintro E w1 ⟨n, rfl, hn, hb⟩
  have hn2 : (decide ((0 : Int) ≤ n)) = B := by
    rw [← HB.out]
    rcases hn with ⟨rfl, h1⟩ | ⟨i, x, rfl, h1, h2, _⟩
    · rw [decide_eq_false (by omega), eq_comm, List.any_eq_false]
      intro x hx
      simpa using List.find?_eq_none.1 h1 x hx
    · rw [decide_eq_true (by omega), eq_comm, List.any_eq_true]
      exact ⟨x, List.mem_of_getElem? h1, List.find?_some h2⟩
  have Hb := Lib.hid hb
  have Hn := Lib.hid hn2
  clear hb hn hn2 H
  go_wp2_with fail
  go_ret
  exact ⟨congrArg (fun b => Ending.returned (Value.bool b)) Hn.out, Hb.out⟩
end Go.Proofs.YtdcmnpeabjallaaGreatDoor
namespace Go.Proofs.YtdcmnpeabjallaaGreatDoor
open Go.RowKit Go.ChangeMaps Go.MapKept
open Go.WideMaps
open Go.WideElems (Fit rd rg pl rd_val rd_key rg_of)
open Go.Maps (Keyed)
abbrev KB := List UInt8
def kb (k : KB) : Lit := .string k
def rawE (v : Value) : Option (DataW Value × List MemPlace) := some (.held v, [])
def rawOf : DataW Value → Option Value
  | .held v => some v
  | _ => none
def lookD (D : DataW Value) (k : KB) : Option Value := if Maps.has D (kb k) = true then rawOf (D.atKey (kb k) .nil) else none
def MapS (P : Program) (K : TypeId) (w : World) (b n : Nat) (f : KB → Option Value) : Prop := ∃ D : DataW Value, w.ownsMap P K rawE b n D ∧ ∀ k, f k = lookD D k
def updF (f : KB → Option Value) (k : KB) (v : Value) : KB → Option Value := fun z => if z = k then some v else f z
def delF (f : KB → Option Value) (k : KB) : KB → Option Value := fun z => if z = k then none else f z
theorem kb_key (k : KB) : WideAt.IsKeyLit (kb k) := trivial
theorem kb_inj {a b : KB} (h : kb a = kb b) : a = b := by unfold kb at h; injection h
theorem kb_same (a b : KB) : (kb a).sameKey (kb b) = decide (a = b) := by
  by_cases h : a = b
  · subst h; rw [WideAt.sameKey_self (kb_key _)]; simp
  · rw [Maps.sameKey_ne (fun e => h (kb_inj e))]; simp [h]
theorem atKey_mem {es : List (Lit × DataW Value)} {k : Lit} (h : Maps.has (DataW.map es) k = true) : ∃ q ∈ es, ∀ z, (DataW.map es).atKey k z = q.2 := by
  rw [Maps.has_eq] at h
  obtain ⟨p, h1, h2⟩ := List.any_eq_true.1 h
  cases hf : es.find? (fun p => p.1.sameKey k) with
  | none => exact absurd h2 (by simpa using List.find?_eq_none.1 hf p h1)
  | some q => exact ⟨q, List.mem_of_find?_eq_some hf, fun z => by unfold DataW.atKey; simp only [hf]⟩
theorem atKey_find {D : DataW Value} {k : Lit} (h : Maps.has D k = true) : ∃ y, ∀ z, D.atKey k z = y := by
  cases D with
  | map es => obtain ⟨q, _, hq⟩ := atKey_mem h; exact ⟨_, hq⟩
  | _ => cases h
section
variable {P : Program} {K e t : TypeId} {w w' : World} {b n : Nat} {f : KB → Option Value}
theorem mapS_made (P : Program) (K : TypeId) (w : World) : MapS P K (w.alloc (.map #[] 0)) w.heap.size 0 fun _ => none :=
  ⟨.map [], World.ownsMap_made w P K rawE, fun _ => rfl⟩
theorem MapS.mono {n' : Nat} (h : MapS P K w b n f) (hn : n ≤ n') : MapS P K w b n' f := let ⟨D, h1, h2⟩ := h; ⟨D, h1.mono hn, h2⟩
theorem MapS.lt (h : MapS P K w b n f) : b < w.heap.size := let ⟨_, h1, _⟩ := h; h1.lt
theorem MapS.kept {row : Option Nat} (h : MapS P K w b n f) (hg : w.grownBy w' row) (hne : some b ≠ row) : MapS P K w' b n f := let ⟨D, h1, h2⟩ := h; ⟨D, h1.kept hg hne, h2⟩
theorem MapS.block (h : MapS P K w b n f) (hb : w'.heap[b]? = w.heap[b]?) : MapS P K w' b n f := by
  obtain ⟨D, ⟨es, clock, h1, h2⟩, h3⟩ := h
  exact ⟨D, ⟨es, clock, hb.trans h1, h2⟩, h3⟩
theorem MapS.below {B : Nat} (h : MapS P K w b n f) (hb : Below B w w') (hB : b < B) : MapS P K w' b n f := h.block (hb.block b hB)
theorem MapS.belowW (h : MapS P K w b n f) (hb : Below w.heap.size w w') : MapS P K w' b n f := h.block (hb.block b h.lt)
theorem MapS.alloc (h : MapS P K w b n f) (o : Obj) : MapS P K (w.alloc o) b n f := let ⟨D, h1, h2⟩ := h; ⟨D, h1.alloc o, h2⟩
theorem MapS.setCell (h : MapS P K w b n f) {a : Addr} (ha : b ≠ a.block) (u : Value) : MapS P K (w.setCell a u) b n f := let ⟨D, h1, h2⟩ := h; ⟨D, h1.setCell ha u, h2⟩
theorem MapS.isMap (h : MapS P K w b n f) : ∃ es clock, w.heap[b]? = some (.map es clock) := let ⟨_, ⟨es, clock, h1, _⟩, _⟩ := h; ⟨es, clock, h1⟩
theorem MapS.ne (h : MapS P K w b n f) {g : Nat} {cs : Array Value} {T : TypeId} {fr : Nat × Nat} (hg : w.heap[g]? = some (.cells cs T fr)) : b ≠ g := by
  rintro rfl
  obtain ⟨es, clock, h1⟩ := h.isMap
  rw [h1] at hg; cases hg
theorem lookD_at {D : DataW Value} (hown : w.ownsMap P K rawE b n D) (hk : P.underlying K = some .string) (ht : P.underlying t = some (.map K e)) {z : Value} (hz : (zeroValue e).run P w = .ok z w) (s : ByteArray) (hs : s.size ≤ maxLen) :
    (Instr.lookup t (.map (some b)) (.string s) true).run P w = .ok (.tuple #[(lookD D s.data.toList).getD z, .bool (lookD D s.data.toList).isSome]) w ∧ (Instr.lookup t (.map (some b)) (.string s) false).run P w = .ok ((lookD D s.data.toList).getD z) w := by
  have key := keyOf_string_mk (P := P) hk hs
  obtain ⟨v, ps, hrun, hv⟩ := hown.look_ok (Maps.string_keyed hk) ht hz (zd := .held z) (zp := []) rfl key
  obtain ⟨v', ps', hrun', hv'⟩ := hown.lookup (Maps.string_keyed hk) ht hz (zd := .held z) (zp := []) rfl key
  have e1 : DataW.held v = D.atKey (kb s.data.toList) (.held z) := by unfold rawE at hv; exact (Prod.mk.inj (Option.some.inj hv)).1
  have e2 : DataW.held v' = D.atKey (kb s.data.toList) (.held z) := by unfold rawE at hv'; exact (Prod.mk.inj (Option.some.inj hv')).1
  have ev : v = v' := by have := e1.trans e2.symm; injection this
  rw [hrun, hrun', ← ev]
  cases hh : Maps.has D (kb s.data.toList) with
  | false =>
    have h0 : lookD D s.data.toList = none := by unfold lookD; rw [hh]; simp
    rw [Maps.atKey_of_not_has hh] at e1
    injection e1 with e1
    rw [h0, e1]
    exact ⟨by rw [show (Maps.has D (.string s.data.toList)) = false from hh]; rfl, rfl⟩
  | true =>
    obtain ⟨y, hy⟩ := atKey_find hh
    have h0 : lookD D s.data.toList = some v := by
      unfold lookD
      rw [if_pos hh, hy, ← hy (.held z), ← e1]; rfl
    rw [h0]
    exact ⟨by rw [show (Maps.has D (.string s.data.toList)) = true from hh]; rfl, rfl⟩
theorem MapS.look (h : MapS P K w b n f) (hk : P.underlying K = some .string) (ht : P.underlying t = some (.map K e)) {z : Value} (hz : (zeroValue e).run P w = .ok z w) (s : ByteArray) (hs : s.size ≤ maxLen) :
    (Instr.lookup t (.map (some b)) (.string s) true).run P w = .ok (.tuple #[(f s.data.toList).getD z, .bool (f s.data.toList).isSome]) w ∧ (Instr.lookup t (.map (some b)) (.string s) false).run P w = .ok ((f s.data.toList).getD z) w := by
  obtain ⟨D, h1, h2⟩ := h
  rw [h2]
  exact lookD_at h1 hk ht hz s hs
theorem lookD_put {D : DataW Value} (hD : Maps.IsMap D) (k z : KB) (v : Value) : lookD (D.put (kb k) (.held v)) z = updF (lookD D) k v z := by
  unfold updF
  by_cases hz : z = k
  · subst hz
    rw [if_pos rfl]
    unfold lookD
    rw [Maps.has_put_same hD (kb_key _), if_pos rfl, Maps.atKey_put_same hD (kb_key _)]; rfl
  · rw [if_neg hz]
    unfold lookD
    have hne : kb z ≠ kb k := fun e => hz (kb_inj e)
    rw [Maps.has_put_other hne, Maps.atKey_put_other hne]
theorem lookD_del (D : DataW Value) (k z : KB) : lookD (D.del (kb k)) z = delF (lookD D) k z := by
  unfold delF
  by_cases hz : z = k
  · subst hz
    rw [if_pos rfl]
    unfold lookD
    rw [Maps.has_del_same]; rfl
  · rw [if_neg hz]
    unfold lookD
    have hne : kb z ≠ kb k := fun e => hz (kb_inj e)
    rw [Maps.has_del_other hne, Maps.atKey_del_other hne]
theorem MapS.store (h : MapS P K w b n f) (hk : P.underlying K = some .string) (ht : P.underlying t = some (.map K e)) (hn : n < maxLen) (s : ByteArray) (hs : s.size ≤ maxLen) (v : Value) :
    ∃ w', (Instr.mapUpdate t (.map (some b)) (.string s) v).run P w = .ok () w' ∧ MapS P K w' b (n + 1) (updF f s.data.toList v) ∧ w.mapTurned w' b := by
  obtain ⟨D, h1, h2⟩ := h
  obtain ⟨w', r1, r2, r3⟩ := h1.store (Maps.string_keyed hk) ht hn (keyOf_string_mk hk hs) (val := v) (d := .held v) (ps := []) rfl
  refine ⟨w', r1, ⟨_, r2, fun z => ?_⟩, r3⟩
  rw [show (Lit.string s.data.toList) = kb s.data.toList from rfl, lookD_put h1.isMap]
  unfold updF
  rw [h2]
theorem MapS.drop (h : MapS P K w b n f) (hk : P.underlying K = some .string) (ht : P.underlying t = some (.map K e)) (s : ByteArray) (hs : s.size ≤ maxLen) (ty : TypeId) :
    ∃ w', (Builtin.delete_ #[t, K] ty #[.map (some b), .string s]).run P w = .ok (.tuple #[]) w' ∧ MapS P K w' b n (delF f s.data.toList) ∧ w.mapTurned w' b := by
  obtain ⟨D, h1, h2⟩ := h
  obtain ⟨w', r1, r2, r3⟩ := h1.drop (Maps.string_keyed hk) ht (keyOf_string_mk hk hs) ty
  refine ⟨w', r1, ⟨_, r2, fun z => ?_⟩, r3⟩
  rw [show (Lit.string s.data.toList) = kb s.data.toList from rfl, lookD_del]
  unfold delF
  rw [h2]
theorem keyed_is (hk : P.underlying K = some .string) {v : Value} {l : Lit} (h : keyOf P K v = some l) : ∃ s : ByteArray, v = .string s ∧ l = kb s.data.toList ∧ s.size ≤ maxLen := by
  rw [keyOf_string hk] at h
  unfold mapKey at h
  rw [hk] at h
  cases v <;> simp at h
  obtain ⟨h1, rfl⟩ := h
  exact ⟨_, rfl, rfl, h1⟩
theorem MapS.keys (h : MapS P K w b n f) (hk : P.underlying K = some .string) : ∃ ks : List KB, ks.Nodup ∧ (∀ k, k ∈ ks ↔ (f k).isSome = true) ∧ ks.length ≤ n ∧ ∀ (t e ty : TypeId), P.underlying t = some (.map K e) → (Builtin.len_ #[t] ty #[.map (some b)]).run P w = .ok (.int .i64 ks.length) w := by
  obtain ⟨D, h1, h2⟩ := h
  obtain ⟨es, hD, hap, hkk⟩ := h1.entries (Maps.string_keyed hk)
  obtain ⟨ms, clock, hb, F, hs, hD2⟩ := id h1
  have hform : ∀ p ∈ es, ∃ k v, p = (kb k, .held v) := fun p hp => by
    have hp2 : p ∈ (ms.toList.map (rg P K rawE)).foldr DataW.insert [] := by
      have := hD.symm.trans hD2
      injection this with this
      rw [← this]; exact hp
    obtain ⟨x, hx, hx2⟩ := List.mem_map.1 (mem_sorted.1 hp2)
    obtain ⟨y, hy⟩ := F.reads x hx
    obtain ⟨s, hs1, hs2, _⟩ := keyed_is hk (rd_key hy)
    obtain ⟨z, hz, hz2⟩ := rd_val hy
    rw [rg_of hy] at hx2
    refine ⟨s.data.toList, x.val, ?_⟩
    rw [← hx2]
    refine Prod.ext hs2 ?_
    rw [hz2]
    unfold rawE at hz
    rw [← Option.some.inj hz]
  refine ⟨es.map fun p => match p.1 with | .string s => s | _ => [], ?_, fun k => ?_, ?_, fun t e ty ht => ?_⟩
  · rw [List.nodup_iff_pairwise_ne, List.pairwise_map]
    refine hap.imp_of_mem fun {a c} ha hc hne he => hne ?_
    obtain ⟨k1, v1, rfl⟩ := hform a ha
    obtain ⟨k2, v2, rfl⟩ := hform c hc
    exact congrArg kb he
  · rw [h2]
    have hhas : Maps.has D (kb k) = true ↔ ∃ p ∈ es, p.1 = kb k := by
      rw [hD, Maps.has_eq, List.any_eq_true]
      constructor
      · rintro ⟨p, h1, h2⟩; exact ⟨p, h1, WideAt.sameKey_eq h2⟩
      · rintro ⟨p, h1, h2⟩; exact ⟨p, h1, by rw [h2]; exact WideAt.sameKey_self (kb_key _)⟩
    constructor
    · intro hm
      obtain ⟨p, hp, hpk⟩ := List.mem_map.1 hm
      obtain ⟨k1, v1, rfl⟩ := hform p hp
      have h9 : k1 = k := hpk
      subst h9
      have hh := hhas.2 ⟨_, hp, rfl⟩
      rw [hD] at hh
      obtain ⟨q, hq, hq2⟩ := atKey_mem hh
      obtain ⟨k2, v2, rfl⟩ := hform q hq
      unfold lookD
      rw [hD, if_pos hh, hq2]; rfl
    · intro hm
      unfold lookD at hm
      by_cases hh : Maps.has D (kb k) = true
      · obtain ⟨p, hp, hpk⟩ := hhas.1 hh
        obtain ⟨k1, v1, rfl⟩ := hform p hp
        exact List.mem_map.2 ⟨_, hp, kb_inj hpk⟩
      · rw [if_neg hh] at hm; cases hm
  · rw [List.length_map]
    have := h1.size_le
    rw [hD, Maps.size_eq] at this
    exact this
  · rw [h1.len ht ty, hD, Maps.size_eq, List.length_map]
end
end Go.Proofs.YtdcmnpeabjallaaGreatDoor
