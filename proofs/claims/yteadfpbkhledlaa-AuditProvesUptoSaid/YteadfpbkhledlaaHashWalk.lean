/- The walks of seal.New, (*Hash).Write, (*Hash).Sum and seal.Sum. -/
import Derived.Test.YteadfpbkhledlaaShaBlock
import Derived.Test.YteadfpbkhledlaaOff
import Derived.Deep.LoopGhost
namespace Go.Proofs.Yteadfpbkhledlaa
open Go.RowKit

def hNums : List Int := [1779033703, 3144134277, 1013904242, 2773480762, 1359893119, 2600822924, 528734635, 1541459225]
theorem hTab_eq : hTab = u32c hNums := by rfl

/-- block g is a hash under way: eight numbers, the rest, how many bytes -/
def hashCells (h : List Int) (rv : Value) (many : Int) : Array Value := u32c h ++ #[rv, .int .u64 many]
def HashAt (w : World) (g : Nat) (h : List Int) (rv : Value) (many : Int) : Prop :=
  h.length = 8 ∧ w.heap[g]? = some (.cells (hashCells h rv many) 93 (0, 0))

set_option maxRecDepth 100000 in
set_option maxHeartbeats 1600000 in
theorem new_any (w : World) : Calls Try.prog 18 #[] w fun e w' => ∃ g, e = .returned (.pointer (some ⟨g, 0, none⟩)) ∧ w.heap.size ≤ g ∧ HashAt w' g hNums (.slice none 0 0) 0 ∧ Below w.heap.size w w' := by
  go_enter Try.func18, Try.ntmps18
  go_wp2_with fail
  refine (first_any _).mono ?_
  rintro e w1 ⟨rfl, hb1⟩
  go_wp2_with (refine wpList_build_as rfl _ _ rfl (hTab ++ #[.slice none 0 0, .int .u64 0]) (by kernel_rfl) ?_)
  go_ret
  exact ⟨_, rfl, hb1.size, ⟨rfl, heap_alloc_new w1 _⟩, hb1.alloc hb1.size _⟩

theorem eight {l : List Int} (h : l.length = 8) : ∃ a0 a1 a2 a3 a4 a5 a6 a7, l = [a0, a1, a2, a3, a4, a5, a6, a7] := by
  match l, h with
  | [a0, a1, a2, a3, a4, a5, a6, a7], _ => exact ⟨_, _, _, _, _, _, _, _, rfl⟩

section
variable {w w' : World} {g : Nat} {h : List Int} {rv : Value} {m : Int}
theorem HashAt.c8 (hA : HashAt w g h rv m) : w.cell? ⟨g, 8, none⟩ = some rv := by
  obtain ⟨h8, hb⟩ := hA
  obtain ⟨a0, a1, a2, a3, a4, a5, a6, a7, rfl⟩ := eight h8
  rw [cell_of_row w g 8 _ _ _ hb]; rfl
theorem HashAt.c9 (hA : HashAt w g h rv m) : w.cell? ⟨g, 9, none⟩ = some (.int .u64 m) := by
  obtain ⟨h8, hb⟩ := hA
  obtain ⟨a0, a1, a2, a3, a4, a5, a6, a7, rfl⟩ := eight h8
  rw [cell_of_row w g 9 _ _ _ hb]; rfl
theorem HashAt.c (hA : HashAt w g h rv m) (j : Nat) (hj : j < 8) : w.cell? ⟨g, j, none⟩ = some (.int .u32 (h.getD j 0)) := by
  obtain ⟨h8, hb⟩ := hA
  rw [cell_of_row w g j _ _ _ hb, hashCells, Array.getElem?_append_left (by rw [u32c_size]; omega), u32c_get h j (by omega)]
theorem HashAt.fz (hA : HashAt w g h rv m) (j : Nat) : w.frozen? ⟨g, j, none⟩ = false := frozen_of_row w g j _ _ hA.2
theorem HashAt.lt (hA : HashAt w g h rv m) : g < w.heap.size := World.block_lt_of_cell? w _ hA.c8
theorem HashAt.set8 (hA : HashAt w g h rv m) (v : Value) : HashAt (w.setCell ⟨g, 8, none⟩ v) g h v m := by
  obtain ⟨h8, hb⟩ := hA
  refine ⟨h8, ?_⟩
  obtain ⟨a0, a1, a2, a3, a4, a5, a6, a7, rfl⟩ := eight h8
  rw [heap_setCell_same w g 8 _ _ v hb]; rfl
theorem HashAt.set9 (hA : HashAt w g h rv m) (n : Int) : HashAt (w.setCell ⟨g, 9, none⟩ (.int .u64 n)) g h rv n := by
  obtain ⟨h8, hb⟩ := hA
  refine ⟨h8, ?_⟩
  obtain ⟨a0, a1, a2, a3, a4, a5, a6, a7, rfl⟩ := eight h8
  rw [heap_setCell_same w g 9 _ _ _ hb]; rfl
theorem HashAt.keep (hA : HashAt w g h rv m) (hk : w'.heap[g]? = w.heap[g]?) : HashAt w' g h rv m := ⟨hA.1, hk.trans hA.2⟩
/-- the eight numbers stored anew -/
theorem HashAt.row (hA : HashAt w g h rv m) {b : List Int} (hb : b.length = 8) :
    HashAt (w.setRow g (spliced (hashCells h rv m) 0 (u32c b))) g b rv m := by
  obtain ⟨h8, hc⟩ := hA
  refine ⟨hb, ?_⟩
  obtain ⟨a0, a1, a2, a3, a4, a5, a6, a7, rfl⟩ := eight h8
  obtain ⟨b0, b1, b2, b3, b4, b5, b6, b7, rfl⟩ := eight hb
  exact setRow_heap _ _ _ _ _ _ hc
end

theorem take_getD (l : List UInt8) {j k : Nat} (h : j < k) : (l.take k).getD j 0 = l.getD j 0 := by simp [List.getD, List.getElem?_take_of_lt h]

/-! what Write comes to -/
def absorb : Nat → List Int → List UInt8 → List Int × List UInt8
  | 0, h, l => (h, l)
  | n + 1, h, l => if 64 ≤ l.length then absorb n (blockF h (l.take 64)) (l.drop 64) else (h, l)
theorem absorb_more : ∀ (n m : Nat) (h : List Int) (l : List UInt8), l.length < 64 * n + 64 → l.length < 64 * m + 64 → absorb n h l = absorb m h l
  | 0, 0, _, _, _, _ => rfl
  | 0, m + 1, h, l, hn, _ => by simp [absorb]; omega
  | n + 1, 0, h, l, _, hm => by simp [absorb]; omega
  | n + 1, m + 1, h, l, hn, hm => by
    unfold absorb
    split
    · exact absorb_more n m _ _ (by simp; omega) (by simp; omega)
    · rfl
def absorbAll (h : List Int) (l : List UInt8) : List Int × List UInt8 := absorb l.length h l
theorem absorbAll_step {h : List Int} {l : List UInt8} (hl : 64 ≤ l.length) : absorbAll h l = absorbAll (blockF h (l.take 64)) (l.drop 64) := by
  unfold absorbAll
  obtain ⟨n, hn⟩ : ∃ n, l.length = n + 1 := ⟨l.length - 1, by omega⟩
  rw [hn]
  show (if 64 ≤ l.length then absorb n (blockF h (l.take 64)) (l.drop 64) else (h, l)) = _
  rw [if_pos hl]
  exact absorb_more _ _ _ _ (by simp; omega) (by simp; omega)
theorem absorbAll_end {h : List Int} {l : List UInt8} (hl : l.length < 64) : absorbAll h l = (h, l) := by
  unfold absorbAll
  cases hn : l.length with
  | zero => rfl
  | succ n => unfold absorb; rw [if_neg (by omega)]

theorem write_round {w w3 : World} {B g : Nat} {h : List Int} {rv : Value} {m : Int} {ao : Option Addr} {n c : Nat} {l' : List UInt8} (hat3 : HashAt w3 g h rv m) (hc : OffRow w3 B 5 (.slice ao n c) l')
    (hbel : Below B w w3) (hgB : B ≤ g) :
    HashAt (w3.setCell ⟨g, 8, none⟩ (.slice ao n c)) g h (.slice ao n c) m ∧ OffRow (w3.setCell ⟨g, 8, none⟩ (.slice ao n c)) B 5 (.slice ao n c) l' ∧ Below B w (w3.setCell ⟨g, 8, none⟩ (.slice ao n c)) := by
  have hne := hc.ne_block hat3.2 (by decide)
  exact ⟨hat3.set8 _, hc.keep fun b' hb' => heap_setCell_other w3 _ b' _ (by rintro rfl; exact hne hb'), hbel.setCell (p := ⟨g, 8, none⟩) hgB _⟩

set_option maxRecDepth 100000 in
set_option maxHeartbeats 1600000 in
theorem write_any (g B : Nat) (hst : List Int) (rv : Value) (many : Nat) (l : List UInt8) (s : ByteArray) (w : World) (hat : HashAt w g hst rv many) (hrow : OffRow w B 5 rv l) (hgB : B ≤ g) (hB : B ≤ w.heap.size)
    (hl : l.length ≤ 1048576) (hs : s.size ≤ 1099510579200) (hm : many ≤ 1125899906842624) :
    Calls Try.prog 19 #[.pointer (some ⟨g, 0, none⟩), .string s] w fun e w' => ∃ rv', e = .returned (.tuple #[]) ∧ HashAt w' g (absorbAll hst (l ++ s.data.toList)).1 rv' ((many + s.size : Nat) : Int) ∧
      OffRow w' B 5 rv' (absorbAll hst (l ++ s.data.toList)).2 ∧ Below B w w' := by
  obtain ⟨i0, hi0, hz0, hz1, hz2⟩ := info_parts Try.infoU8
  have hng := hrow.ne_block hat.2 (by decide)
  have hgl := hat.lt
  obtain ⟨rva, rvc, rfl⟩ := hrow.len
  have c8 := hat.c8
  have c9 := hat.c9
  have fz8 := hat.fz 8
  have fz9 := hat.fz 9
  have hw1 : IntKind.u64.wrap (s.size : Int) = (s.size : Int) := by rw [IntKind.wrap_u64]; omega
  have hat1 := hat.set9 ((many : Int) + (s.size : Int))
  have hrow0 := hrow.keep (w' := w.setCell ⟨g, 9, none⟩ (.int .u64 ((many : Int) + (s.size : Int)))) (fun b hb => heap_setCell_other w _ b _ (by rintro rfl; exact hng hb))
  have hbel0 : Below B w (w.setCell ⟨g, 9, none⟩ (.int .u64 ((many : Int) + (s.size : Int)))) := (Below.refl B w).setCell (p := ⟨g, 9, none⟩) hgB _
  have hB0 : B ≤ (w.setCell ⟨g, 9, none⟩ (.int .u64 ((many : Int) + (s.size : Int)))).heap.size := by simpa [World.setCell] using hB
  go_enter Try.func19, Try.ntmps19
  go_wp2_with (at_builtin; refine wpList_append_off_string _ rfl _ _ _ _ rfl i0 Try.underlying83 Try.underlying9 hi0 hz0 hz1 hz2 _ rfl hrow0 s rfl (by omega) hB0 ?_)
  intro v1 w1 hrow1 hgrow hown1
  have hat2 := hat1.keep (w' := w1) (hgrow.block g (by simpa [World.setCell] using hgl) (fun e => hng e.symm))
  have hbel1 : Below B w w1 := hbel0.grown hgrow hB0 (fun k hk => (hrow.lt k hk).1)
  have hng1 := hrow1.ne_block hat2.2 (by decide)
  obtain ⟨v1a, v1c, rfl⟩ := hrow1.len
  have hL : (l ++ s.data.toList).length = l.length + s.size := by simp
  rw [hL] at hrow1 hng1
  rw [hL]
  have d8 := hat2.c8
  have gz8 := hat2.fz 8
  have hat3 := hat2.set8 (.slice v1a (l.length + s.size) v1c)
  have hrow2 := hrow1.keep (w' := w1.setCell ⟨g, 8, none⟩ (.slice v1a (l.length + s.size) v1c)) (fun b hb => heap_setCell_other w1 _ b _ (by rintro rfl; exact hng1 hb))
  have hbel2 := hbel1.setCell (p := ⟨g, 8, none⟩) hgB (.slice v1a (l.length + s.size) v1c)
  have hB1 : B ≤ w1.heap.size := Nat.le_trans hB hbel1.size
  clear c8 c9 fz8 fz9 hw1 hat1 hrow0 hbel0 hB0 hgrow hown1 hat2 hbel1 hng1 hrow1 hat hrow hng hL
  go_wp2_with fail
  clear d8 gz8
  go_loopg [23] (l ++ s.data.toList).length (fun n _ wr => ∃ (h1 : List Int) (rv1 : Value) (l1 : List UInt8), l1.length = n ∧ HashAt wr g h1 rv1 ((many : Int) + (s.size : Int)) ∧ OffRow wr B 5 rv1 l1 ∧ Below B w wr ∧ absorbAll h1 l1 = absorbAll hst (l ++ s.data.toList))
  case atStart => exact ⟨hst, _, l ++ s.data.toList, rfl, hat3, hrow2, hbel2, rfl⟩
  case round =>
    clear hat3 hrow2 hbel2
    obtain ⟨h1, rv1, l1, hl1, hat, hrow, hbel, habs⟩ := hrel
    have Habs := Lib.hid habs; clear habs
    have Hl1 := Lib.hid hl1; clear hl1
    have hng := hrow.ne_block hat.2 (by decide)
    have hgl := hat.lt
    obtain ⟨ra, rc, hrv⟩ := hrow.len
    have c8 := hat.c8
    by_cases hlt : 64 ≤ l1.length
    · obtain ⟨b, off, cap, hrv2, hcap⟩ := hrow.form (by omega)
      subst hrv2
      clear hrv
      obtain ⟨a0, a1, a2, a3, a4, a5, a6, a7, rfl⟩ := eight hat.1
      have c0x := hat.c 0 (by omega)
      have c1x := hat.c 1 (by omega)
      have c2x := hat.c 2 (by omega)
      have c3x := hat.c 3 (by omega)
      have c4x := hat.c 4 (by omega)
      have c5x := hat.c 5 (by omega)
      have c6x := hat.c 6 (by omega)
      have c7x := hat.c 7 (by omega)
      have u1 : (0 : Int) ≤ 64 := by omega
      have u2 : (64 : Int) ≤ (cap : Int) := by omega
      have u2' : 64 ≤ cap := by omega
      have u3 : (64 : Int) ≤ (l1.length : Int) := by omega
      have u4 : (l1.length : Int) ≤ (cap : Int) := by omega
      go_wp2_with fail
      refine wp_region_mix [(0, true), (1, true), (2, true), (3, true), (4, false), (5, true), (6, true), (7, true), (8, false), (9, true)] [10, 11, 12, 13] (by kernel_rfl) (by kernel_rfl) (by rfl) ?_
      simp only [pickH, pickT, List.filterMap_cons, List.filterMap_nil, List.getElem?_cons_zero, List.getElem?_cons_succ, Option.map_some]
      refine wpTakes_pure (v := ?_) (by rfl) (fun w => ?_) ?_
      rotate_left
      focus (first | (go_simp; done) | (go_simp; with_reducible rfl))
      try simp only [Act.put, List.setIfInBounds_toArray, List.set_cons_zero, List.set_cons_succ]
      refine wpTakes_pure (v := ?_) (by rfl) (fun w => ?_) ?_
      rotate_left
      focus (first | (go_simp; done) | (go_simp; with_reducible rfl))
      try simp only [Act.put, List.setIfInBounds_toArray, List.set_cons_zero, List.set_cons_succ]
      refine wpTakes_pure (v := ?_) (by rfl) (fun w => ?_) ?_
      rotate_left
      focus (first | (go_simp; done) | (go_simp; with_reducible rfl))
      try simp only [Act.put, List.setIfInBounds_toArray, List.set_cons_zero, List.set_cons_succ]
      refine wpTakes_pure (v := ?_) (by rfl) (fun w => ?_) ?_
      rotate_left
      focus (first | (go_simp; done) | (go_simp; with_reducible rfl))
      try simp only [Act.put, List.setIfInBounds_toArray, List.set_cons_zero, List.set_cons_succ]
      refine wpTakes_still (v := ?_) (by rfl) ?_ ?_
      rotate_left
      focus (first | (go_simp; done) | (go_simp; with_reducible rfl))
      try simp only [Act.put, List.setIfInBounds_toArray, List.set_cons_zero, List.set_cons_succ]
      refine wpTakes_pure (v := ?_) (by rfl) (fun w => ?_) ?_
      rotate_left
      focus (first | (go_simp; done) | (go_simp; with_reducible rfl))
      try simp only [Act.put, List.setIfInBounds_toArray, List.set_cons_zero, List.set_cons_succ]
      refine wpTakes_pure (v := ?_) (by rfl) (fun w => ?_) ?_
      rotate_left
      focus (first | (go_simp; done) | (go_simp; with_reducible rfl))
      try simp only [Act.put, List.setIfInBounds_toArray, List.set_cons_zero, List.set_cons_succ]
      refine wpTakes_pure (v := ?_) (by rfl) (fun w => ?_) ?_
      rotate_left
      focus (first | (go_simp; done) | (go_simp; with_reducible rfl))
      try simp only [Act.put, List.setIfInBounds_toArray, List.set_cons_zero, List.set_cons_succ]
      refine wpTakes_still (v := ?_) (by rfl) ?_ ?_
      rotate_left
      focus (first | (go_simp; done) | (go_simp; with_reducible rfl))
      try simp only [Act.put, List.setIfInBounds_toArray, List.set_cons_zero, List.set_cons_succ]
      refine wpTakes_pure (v := ?_) (by rfl) (fun w => ?_) ?_
      rotate_left
      focus (first | (go_simp; done) | (go_simp; with_reducible rfl))
      try simp only [Act.put, List.setIfInBounds_toArray, List.set_cons_zero, List.set_cons_succ]
      refine wpTakes_nil ?_
      have hbs : (l1.take 64).length = 64 := by simp; omega
      have hcel : ∀ j, j < 64 → wr.drew.cell? ⟨b, off + j, none⟩ = some (.int .u8 ((l1.getD j 0).toNat : Int)) := fun (j : Nat) (hj : j < 64) => hrow.cells j (by omega)
      have hblt : b < wr.drew.heap.size := (hrow.lt b rfl).2
      have HC := Lib.hid hcel
      clear hcel
      go_wp2_with fail
      refine (block_any [a0, a1, a2, a3, a4, a5, a6, a7] rfl b off cap (l1.take 64) wr.drew hblt (fun j hj => by rw [take_getD l1 hj]; exact HC.out j hj)).mono ?_
      rintro e w2 ⟨rfl, hb2⟩
      have hbl : (blockF [a0, a1, a2, a3, a4, a5, a6, a7] (l1.take 64)).length = 8 := blockF_length _ _
      have Hstep := Lib.hid (absorbAll_step (h := [a0, a1, a2, a3, a4, a5, a6, a7]) hlt)
      have hg2 : w2.heap[g]? = wr.heap[g]? := hb2.block g hgl
      have hat2 := hat.keep (w' := w2) hg2
      have hrow2 := OffRow.below (w' := w2) (show OffRow wr.drew B _ _ l1 from hrow) hb2 (Nat.le_refl _)
      have hbel2 : Below B w w2 := hbel.drew.trans (hb2.mono (Nat.le_trans hB hbel.size))
      have hat3 := hat2.row hbl
      have hrow3 := hrow2.keep (w' := w2.setRow g (spliced (hashCells [a0, a1, a2, a3, a4, a5, a6, a7] (Value.slice (some ⟨b, off, none⟩) l1.length cap) ((many : Int) + (s.size : Int))) 0 (u32c (blockF [a0, a1, a2, a3, a4, a5, a6, a7] (l1.take 64))))) (fun b' hb' => setRow_other _ _ _ _ (by rintro rfl; exact hng hb'))
      have hbel3 := below_setRow hbel2 hgB (spliced (hashCells [a0, a1, a2, a3, a4, a5, a6, a7] (Value.slice (some ⟨b, off, none⟩) l1.length cap) ((many : Int) + (s.size : Int))) 0 (u32c (blockF [a0, a1, a2, a3, a4, a5, a6, a7] (l1.take 64))))
      have hb8 := hat2.2
      clear hb2 hg2 hat hrow hbel hbs HC c0x c1x c2x c3x c4x c5x c6x c7x c8 hat2 hrow2 hbel2
      generalize hws : w2.setRow g _ = w3 at hat3 hrow3 hbel3
      have Hws := Lib.hid hws
      clear hws
      have e8 := hat3.c8
      have z8 := hat3.fz 8
      dsimp only
      iterate 5 go_step
      refine wpList_store_at (by rfl) _ _ _ (by rfl) g 0 (u32c (blockF [a0, a1, a2, a3, a4, a5, a6, a7] (l1.take 64))) (by rfl) (by rfl) 93 _ hb8 (by rw [u32c_size, hbl]; exact Try.size8) (by rw [u32c_size, hbl]; simp [u32c, hashCells]) (u32c_one _) ?_
      rw [Hws.out]
      clear hb8 Hws
      go_wp2_with fail
      refine NoPanic.normal ?_
      go_wp2_with fail
      all_goals
        have hcut := hrow3.cut (k := 64) (by omega)
        first | rw [if_pos ‹cap = 64›, show cap - 64 = 0 by omega] at hcut | rw [if_neg ‹¬ cap = 64›] at hcut
        have R := write_round hat3 hcut hbel3 hgB
        clear hat3 hrow3 hbel3 hcut e8 z8
        go_roundg (l1.length - 64)
        case measure => have := Hl1.out; omega
        case rel => exact ⟨_, _, l1.drop 64, by simp, R.1, R.2.1, R.2.2, Hstep.out.symm.trans Habs.out⟩
    · subst hrv
      go_wp2_with fail
      refine bodyPost_end (v := .tuple #[]) (by simp [results, Try.results19]) rfl ⟨.slice ra l1.length rc, rfl, ?_⟩
      have h3 : absorbAll hst (l ++ s.data.toList) = (h1, l1) := by rw [← Habs.out]; exact absorbAll_end (by omega)
      rw [h3]
      exact ⟨by simpa using hat, hrow, hbel⟩
end Go.Proofs.Yteadfpbkhledlaa
