/- tree.Quote: its contract. -/
import Derived.Test.YtaddcchpidpbfaaDoorJsonVal
import Derived.Test.YtaddcchpidpbfaaDoorScan
import Derived.WalkSpells
import Derived.Deep.LoopGhost
import Derived.Deep.DeepCutAuto
import Derived.IntWalk
namespace Go.Proofs.YtaddcchpidpbfaaDoor
open Go.RowKit
open JP (Bs)

def RU8 : Rd UInt8 := fun _ cs b => cs = [.int .u8 (b.toNat : Int)]
theorem flat_u8 : Flat RU8 := fun _ _ _ _ h => h
theorem one_u8 : OneR RU8 := fun _ _ _ h u hu => by rw [h] at hu; simp at hu; subst hu; rfl
theorem stays_u8 : Stays RU8 := fun _ _ _ _ _ h => h
theorem own_u8 {w : World} {B : Nat} {e : TypeId} {v : Value} {l : Bs} (h : OwnAt RU8 1 w B e v l) : w.ownsRow B e 1 v l.length (byteCells l) := by
  obtain ⟨css, h1, h2, h3, h4⟩ := h
  have : css.flatten = byteCells l := by
    apply List.ext_getElem?
    intro j
    by_cases hj : j < l.length
    · have hcs : css[j]? = some css[j] := List.getElem?_eq_getElem (by omega)
      have hR : css[j] = [.int .u8 (l[j].toNat : Int)] := h4 j _ _ hcs (List.getElem?_eq_getElem hj)
      have := get_flat h2 (j := j) (i := 0) hcs (u := .int .u8 (l[j].toNat : Int)) (by rw [hR]; rfl)
      rw [Nat.mul_one, Nat.add_zero] at this
      rw [this]
      simp [byteCells, hj]
    · rw [List.getElem?_eq_none (by rw [flat_len h2]; omega), List.getElem?_eq_none (by rw [byteCells_length]; omega)]
  rwa [this] at h3
/-- bytes in a block of their own -/
theorem row_u8 {w : World} {b : Nat} {e : TypeId} {l : Bs} {fr : Nat × Nat} (hb : w.heap[b]? = some (.cells (byteCells l).toArray e fr)) (hl : l.length ≤ maxLen) : RowAt RU8 1 w (.slice (some ⟨b, 0, none⟩) l.length l.length) l := by
  refine .inr ⟨_, l.length, rfl, Nat.le_refl _, hl, fun j x hx => ⟨[.int .u8 (x.toNat : Int)], rfl, fun i u hu => ?_, rfl⟩⟩
  match i, hu with
  | 0, hu =>
    simp only [List.getElem?_cons_zero, Option.some.injEq] at hu
    subst hu
    rw [add_plain', cell_block hb]
    simp [byteCells, hx]
theorem esc_snoc {s : ByteArray} {i : Nat} (h : i < s.size) : 34 :: (s.data.toList.take (i + 1)).flatMap JP.escB = (34 :: (s.data.toList.take i).flatMap JP.escB) ++ JP.escB s[i] := by
  rw [take_snoc s i h, List.flatMap_append]
  simp
theorem u8_eq {a b : UInt8} (h : a.toNat = b.toNat) : a = b := UInt8.toNat_inj.1 h
set_option maxRecDepth 100000 in
set_option maxHeartbeats 3200000 in
theorem quote_any (s : ByteArray) (w : World) (hs : s.size ≤ 1048576) :
    Calls Tryd.prog 31 #[.string s] w fun e w' => e = .returned (.string (mkB (JP.quote s.data.toList))) ∧ Below w.heap.size w w' := by
  obtain ⟨i0, hi0, hz0, hz1, hz2⟩ := info_parts Tryd.infoU8
  have hel : ∀ i, i ≤ s.size → (34 :: (s.data.toList.take i).flatMap JP.escB).length ≤ 2 * i + 1 := fun i hi => by
    have hone : ∀ c, (JP.escB c).length ≤ 2 := fun c => by unfold JP.escB; split; · simp
                                                           · split; · simp
                                                             · split <;> simp
    have hgen : ∀ l : Bs, (l.flatMap JP.escB).length ≤ 2 * l.length := fun l => by
      induction l with
      | nil => simp
      | cons c r ih => rw [List.flatMap_cons, List.length_append, List.length_cons]; have := hone c; omega
    have := hgen (s.data.toList.take i)
    rw [List.length_take] at this
    rw [List.length_cons]
    omega
  have Hel := Lib.hid hel
  clear hel
  go_enter Tryd.func31, Tryd.ntmps31
  obtain ⟨w0, hw0⟩ : ∃ w0, w0 = w.alloc (.cells #[.int .u8 34] 5) := ⟨_, rfl⟩
  have h0 : OwnAt RU8 1 w0 w.heap.size 5 (.slice (some ⟨w.heap.size, 0, none⟩) 1 1) [34] := by
    refine ⟨[[.int .u8 34]], rfl, fun cs hcs => by rw [List.mem_singleton.1 hcs]; rfl, ⟨rfl, .inr ⟨w.heap.size, 1, #[.int .u8 34], rfl, Nat.le_refl _, by rw [hw0]; exact heap_alloc_new w _, Nat.le_refl _, by unfold maxLen; decide, rfl, rfl⟩⟩, fun j cs x hcs hx => ?_⟩
    match j, hcs, hx with
    | 0, hcs, hx =>
      simp at hcs hx
      subst hcs
      subst hx
      rfl
  have hb0 : Below w.heap.size w w0 := by rw [hw0]; exact (Below.refl _ _).alloc (Nat.le_refl _) _
  have H0 := Lib.hid h0
  have Hb0 := Lib.hid hb0
  clear h0 hb0
  go_upto_region 2 with fail
  rw [← hw0]
  clear hw0
  go_wp2_with fail
  go_loopg [3, 9] s.size (fun k u3 u9 wr => ∃ i : Nat, i + k = s.size ∧ u9 = .int .i64 (i : Int) ∧ Hid (OwnAt RU8 1 wr w.heap.size 5 u3 (34 :: (s.data.toList.take i).flatMap JP.escB)) ∧ Hid (Below w.heap.size w wr))
  case atStart => exact ⟨0, by omega, rfl, H0, Hb0⟩
  case round =>
    obtain ⟨i, hik, rfl, Hown, Hbel⟩ := hrel
    have hl1 := Hel.out i (by omega)
    have hbs := Hbel.out.size
    obtain ⟨L, HL⟩ : ∃ L, Hid (34 :: (s.data.toList.take i).flatMap JP.escB = L) := ⟨_, Lib.hid rfl⟩
    rw [HL.out] at Hown hl1
    cases gk with
    | zero =>
      obtain rfl : i = s.size := by omega
      have HLq : Hid (L ++ [34] = JP.quote s.data.toList) := Lib.hid (by
        rw [← HL.out, List.take_of_length_le (by simp)]
        rfl)
      obtain ⟨w1, hw1⟩ : ∃ w1, w1 = wr.alloc (.cells #[.int .u8 34] 5) := ⟨_, rfl⟩
      have hb1 : Below wr.heap.size wr w1 := by rw [hw1]; exact (Below.refl _ _).alloc (Nat.le_refl _) _
      have h1 : RowAt RU8 1 w1 (.slice (some ⟨wr.heap.size, 0, none⟩) 1 1) [34] := row_u8 (l := [34]) (by rw [hw1]; exact heap_alloc_new wr _) (by unfold maxLen; simp)
      have Ho1 := Lib.hid (Hown.out.below stays_u8 hb1)
      have H1 := Lib.hid h1
      have Hb1 := Lib.hid (Hbel.out.trans (hb1.mono hbs))
      clear h1 hb1
      go_upto_region 16 with fail
      go_wp2_with (at_builtin; rw [← hw1]; refine wpList_append_ownAt (R := RU8) (k := 1) (e := 5) (B := w.heap.size) (l := L) (m := [34]) _ (by rfl) _ _ _ (by rfl) i0 _ 1 Tryd.underlying53 hi0 hz0 hz1 hz2 rfl (by omega) flat_u8 one_u8 _ (by rfl) Ho1.out _ (by rfl) H1.out (by unfold maxLen; simp; omega) (by simp; omega) (by have := Hb1.out.size; omega) ?_)
      intro v' w2 hv' hg hr _
      rw [← hw1] at hg
      have hb2 : Below w.heap.size w w2 := below_of_grown Hb1.out (by have := Hb1.out.size; omega) hg hr
      have Hb2 := Lib.hid hb2
      have hcv := run_convert_own w2 53 9 5 Tryd.underlying53 Tryd.underlying5 Tryd.underlying9 (own_u8 hv')
      clear hv' hg hr hb2 hw1
      go_wp2_with fail
      go_ret
      exact ⟨by rw [HLq.out]; rfl, Hb2.out⟩
    | succ k =>
      have hil : i < s.size := by omega
      have q1 : (0 : Int) ≤ (i : Int) := by omega
      have q2 : (i : Int) < (s.size : Int) := by omega
      have HS := Lib.hid (esc_snoc hil)
      rw [HL.out] at HS
      by_cases h34 : s[i].toNat = 34
      · have he : s[i] = 34 := u8_eq h34
        have hesc : JP.escB s[i] = [92, 34] := by rw [he]; rfl
        have HE := Lib.hid hesc
        clear he hesc
        have HS2 : Hid (34 :: (s.data.toList.take (i + 1)).flatMap JP.escB = L ++ [92, 34]) := Lib.hid (by rw [HS.out, HE.out])
        clear HS
        go_wp2_with (at_builtin; refine wpList_append_ownAt (R := RU8) (k := 1) (e := 5) (B := w.heap.size) (l := L) (m := [92, 34]) _ (by rfl) _ _ _ (by rfl) i0 _ 1 Tryd.underlying53 hi0 hz0 hz1 hz2 rfl (by omega) flat_u8 one_u8 _ (by rfl) (Hown.out.alloc stays_u8 _) (.slice (some ⟨wr.heap.size, 0, none⟩) 2 2) (by rfl) (row_u8 (l := [92, 34]) (heap_alloc_new wr _) (by unfold maxLen; simp)) (by unfold maxLen; simp; omega) (by simp; omega) (by simp; omega) ?_)
        intro v' w2 hv' hg hr _
        have hb2 : Below w.heap.size w w2 := below_of_grown (Hbel.out.alloc hbs _) (by simp; omega) hg hr
        have Hb2 := Lib.hid hb2
        have Hv : Hid (OwnAt RU8 1 w2 w.heap.size 5 v' (34 :: (s.data.toList.take (i + 1)).flatMap JP.escB)) := Lib.hid (by rw [HS2.out]; exact hv')
        clear hv' hg hr hb2 HS2
        go_wp2_with fail
        go_roundg k
        case measure => omega
        case rel => exact ⟨i + 1, by omega, by go_num, Hv, Hb2⟩
      · have n34 : ((s[i].toNat : Int) == 34) = false := by rw [beq_eq_false_iff_ne]; omega
        by_cases h92 : s[i].toNat = 92
        · have he : s[i] = 92 := u8_eq h92
          have hesc : JP.escB s[i] = [92, 92] := by rw [he]; rfl
          have HE := Lib.hid hesc
          clear he hesc n34 h34
          have HS2 : Hid (34 :: (s.data.toList.take (i + 1)).flatMap JP.escB = L ++ [92, 92]) := Lib.hid (by rw [HS.out, HE.out])
          clear HS
          go_wp2_with (at_builtin; refine wpList_append_ownAt (R := RU8) (k := 1) (e := 5) (B := w.heap.size) (l := L) (m := [92, 92]) _ (by rfl) _ _ _ (by rfl) i0 _ 1 Tryd.underlying53 hi0 hz0 hz1 hz2 rfl (by omega) flat_u8 one_u8 _ (by rfl) (Hown.out.alloc stays_u8 _) (.slice (some ⟨wr.heap.size, 0, none⟩) 2 2) (by rfl) (row_u8 (l := [92, 92]) (heap_alloc_new wr _) (by unfold maxLen; simp)) (by unfold maxLen; simp; omega) (by simp; omega) (by simp; omega) ?_)
          intro v' w2 hv' hg hr _
          have hb2 : Below w.heap.size w w2 := below_of_grown (Hbel.out.alloc hbs _) (by simp; omega) hg hr
          have Hb2 := Lib.hid hb2
          have Hv : Hid (OwnAt RU8 1 w2 w.heap.size 5 v' (34 :: (s.data.toList.take (i + 1)).flatMap JP.escB)) := Lib.hid (by rw [HS2.out]; exact hv')
          clear hv' hg hr hb2 HS2
          go_wp2_with fail
          go_roundg k
          case measure => omega
          case rel => exact ⟨i + 1, by omega, by go_num, Hv, Hb2⟩
        · have n92 : ((s[i].toNat : Int) == 92) = false := by rw [beq_eq_false_iff_ne]; omega
          by_cases h10 : s[i].toNat = 10
          · have he : s[i] = 10 := u8_eq h10
            have hesc : JP.escB s[i] = [92, 110] := by rw [he]; rfl
            have HE := Lib.hid hesc
            clear he hesc n34 h34 n92 h92
            have HS2 : Hid (34 :: (s.data.toList.take (i + 1)).flatMap JP.escB = L ++ [92, 110]) := Lib.hid (by rw [HS.out, HE.out])
            clear HS
            go_wp2_with (at_builtin; refine wpList_append_ownAt (R := RU8) (k := 1) (e := 5) (B := w.heap.size) (l := L) (m := [92, 110]) _ (by rfl) _ _ _ (by rfl) i0 _ 1 Tryd.underlying53 hi0 hz0 hz1 hz2 rfl (by omega) flat_u8 one_u8 _ (by rfl) (Hown.out.alloc stays_u8 _) (.slice (some ⟨wr.heap.size, 0, none⟩) 2 2) (by rfl) (row_u8 (l := [92, 110]) (heap_alloc_new wr _) (by unfold maxLen; simp)) (by unfold maxLen; simp; omega) (by simp; omega) (by simp; omega) ?_)
            intro v' w2 hv' hg hr _
            have hb2 : Below w.heap.size w w2 := below_of_grown (Hbel.out.alloc hbs _) (by simp; omega) hg hr
            have Hb2 := Lib.hid hb2
            have Hv : Hid (OwnAt RU8 1 w2 w.heap.size 5 v' (34 :: (s.data.toList.take (i + 1)).flatMap JP.escB)) := Lib.hid (by rw [HS2.out]; exact hv')
            clear hv' hg hr hb2 HS2
            go_wp2_with fail
            go_roundg k
            case measure => omega
            case rel => exact ⟨i + 1, by omega, by go_num, Hv, Hb2⟩
          · have n10 : ((s[i].toNat : Int) == 10) = false := by rw [beq_eq_false_iff_ne]; omega
            by_cases h9 : s[i].toNat = 9
            · have he : s[i] = 9 := u8_eq h9
              have hesc : JP.escB s[i] = [92, 116] := by rw [he]; rfl
              have HE := Lib.hid hesc
              clear he hesc n34 h34 n92 h92 n10 h10
              have HS2 : Hid (34 :: (s.data.toList.take (i + 1)).flatMap JP.escB = L ++ [92, 116]) := Lib.hid (by rw [HS.out, HE.out])
              clear HS
              go_wp2_with (at_builtin; refine wpList_append_ownAt (R := RU8) (k := 1) (e := 5) (B := w.heap.size) (l := L) (m := [92, 116]) _ (by rfl) _ _ _ (by rfl) i0 _ 1 Tryd.underlying53 hi0 hz0 hz1 hz2 rfl (by omega) flat_u8 one_u8 _ (by rfl) (Hown.out.alloc stays_u8 _) (.slice (some ⟨wr.heap.size, 0, none⟩) 2 2) (by rfl) (row_u8 (l := [92, 116]) (heap_alloc_new wr _) (by unfold maxLen; simp)) (by unfold maxLen; simp; omega) (by simp; omega) (by simp; omega) ?_)
              intro v' w2 hv' hg hr _
              have hb2 : Below w.heap.size w w2 := below_of_grown (Hbel.out.alloc hbs _) (by simp; omega) hg hr
              have Hb2 := Lib.hid hb2
              have Hv : Hid (OwnAt RU8 1 w2 w.heap.size 5 v' (34 :: (s.data.toList.take (i + 1)).flatMap JP.escB)) := Lib.hid (by rw [HS2.out]; exact hv')
              clear hv' hg hr hb2 HS2
              go_wp2_with fail
              go_roundg k
              case measure => omega
              case rel => exact ⟨i + 1, by omega, by go_num, Hv, Hb2⟩
            · have n9 : ((s[i].toNat : Int) == 9) = false := by rw [beq_eq_false_iff_ne]; omega
              have hesc : JP.escB s[i] = [s[i]] := by
                have ne : ∀ (c : UInt8), s[i].toNat ≠ c.toNat → s[i] ≠ c := fun c h e => h (by rw [e])
                unfold JP.escB
                rw [if_neg (fun h => h.elim (ne 34 h34) (ne 92 h92)), if_neg (ne 10 h10), if_neg (ne 9 h9)]
              have HE := Lib.hid hesc
              clear hesc h34 h92 h10 h9
              have HS2 : Hid (34 :: (s.data.toList.take (i + 1)).flatMap JP.escB = L ++ [s[i]]) := Lib.hid (by rw [HS.out, HE.out])
              clear HS
              go_wp2_with (at_builtin; refine wpList_append_ownAt (R := RU8) (k := 1) (e := 5) (B := w.heap.size) (l := L) (m := [s[i]]) _ (by rfl) _ _ _ (by rfl) i0 _ 1 Tryd.underlying53 hi0 hz0 hz1 hz2 rfl (by omega) flat_u8 one_u8 _ (by rfl) (Hown.out.alloc stays_u8 _) (.slice (some ⟨wr.heap.size, 0, none⟩) 1 1) (by rfl) (row_u8 (l := [s[i]]) (heap_alloc_new wr _) (by unfold maxLen; simp)) (by unfold maxLen; simp; omega) (by simp; omega) (by simp; omega) ?_)
              intro v' w2 hv' hg hr _
              have hb2 : Below w.heap.size w w2 := below_of_grown (Hbel.out.alloc hbs _) (by simp; omega) hg hr
              have Hb2 := Lib.hid hb2
              have Hv : Hid (OwnAt RU8 1 w2 w.heap.size 5 v' (34 :: (s.data.toList.take (i + 1)).flatMap JP.escB)) := Lib.hid (by rw [HS2.out]; exact hv')
              clear hv' hg hr hb2 HS2
              go_wp2_with fail
              go_roundg k
              case measure => omega
              case rel => exact ⟨i + 1, by omega, by go_num, Hv, Hb2⟩
end Go.Proofs.YtaddcchpidpbfaaDoor
