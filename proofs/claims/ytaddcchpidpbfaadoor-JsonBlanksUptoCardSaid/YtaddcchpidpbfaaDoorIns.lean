/- slices.Insert of one thing, slices.Clone: their contracts over the cells as they are. -/
import Derived.Test.YtaddcchpidpbfaaDoorRaw
import Derived.Test.YtaddcchpidpbfaaDoorTabs
import Derived.Test.YtaddcchpidpbfaaDoorShelf
import Derived.WalkSpells
namespace Go.Proofs.YtaddcchpidpbfaaDoor
open Go.RowKit


set_option maxRecDepth 100000 in
theorem cloneStr_any (v : Value) (xs : List Value) (w : World) (h : RowAt RVal 1 w v xs) (hl : xs.length ≤ 1073741824) :
    Calls Tryd.prog 72 #[v] w fun e w' => ∃ v', e = .returned v' ∧ OwnAt RVal 1 w' w.heap.size 9 v' xs ∧ Below w.heap.size w w' := by
  obtain ⟨i0, hi0, hz0, hz1, hz2⟩ := info_parts Tryd.infoStr
  have hrow := h
  have hn := fun (w : World) (a : Option Addr) (n c : Nat) => Lib.run_eql_slice_nil (P := Tryd.prog) w 81 9 a n c 0 0 Tryd.underlying81
  rcases h with ⟨rfl, rfl⟩ | ⟨a, c, rfl, _, _, _⟩
  · go_enter Tryd.func72, Tryd.ntmps72
    go_wp2_with fail
    go_ret
    exact ⟨_, rfl, OwnAt.nil _, Below.refl _ _⟩
  · have Hrow := Lib.hid hrow
    clear hrow
    go_enter Tryd.func72, Tryd.ntmps72
    go_wp2_with (at_builtin; refine wpList_append_ownAt (R := RVal) (k := 1) (e := 9) (B := w.heap.size) (l := []) (m := xs) _ (by rfl) _ _ _ (by rfl) i0 _ 16 Tryd.underlying81 hi0 hz0 hz1 hz2 rfl (by omega) flat_val one_val _ (by rfl) (own_empty w 1 _ (Nat.le_refl _)) _ (by rfl) (Hrow.out.below stays_val ((Below.refl _ _).alloc (Nat.le_refl _) _)) (by unfold maxLen; simp; omega) (by simp; omega) (by simp) ?_)
    intro v' w' hv' hg hr _
    have hb : Below w.heap.size w w' := below_of_grown ((Below.refl _ _).alloc (Nat.le_refl _) _) (by simp) hg hr
    go_wp2_with fail
    go_ret
    exact ⟨_, rfl, by simpa using hv', hb⟩
set_option maxRecDepth 100000 in
set_option maxHeartbeats 3200000 in
theorem insStr_any (v : Value) (xs : List Value) (B k : Nat) (x : Value) (g2 : Nat) (w : World) (h : OwnAt RVal 1 w B 9 v xs) (hk : k ≤ xs.length) (hx : x.oneCell' = true) (h2 : w.heap[g2]? = some (.cells #[x] 9 (0, 0))) (hBw : B ≤ w.heap.size) (hl : xs.length ≤ 1048576) :
    Calls Tryd.prog 71 #[v, .int .i64 (k : Int), .slice (some ⟨g2, 0, none⟩) 1 1] w fun e w' => ∃ v', e = .returned v' ∧ OwnAt RVal 1 w' B 9 v' (xs.take k ++ x :: xs.drop k) ∧ Below B w w' ∧ SameBut 9 w w' := by
  obtain ⟨i0, hi0, hz0, hz1, hz2⟩ := info_parts Tryd.infoStr
  have mixed : Tryd.prog.follows .mixedOrders = true := by kernel_rfl
  have hsz : (Tryd.prog.info? 9).map (·.size) = some 1 := by rw [hi0]; simp [hz1]
  have hon := putin_ones (k := k) h.ones hx
  have ho := own_raw h
  have h1c := h.ones
  have hvs : ∀ (j : Nat) (u : Value), [x][j]? = some u → w.cell? ⟨g2, 0 + j, none⟩ = some u := fun j u hu => by
    rw [Nat.zero_add, cell_block h2]
    simpa using hu
  have h1v : ∀ u ∈ [x], u.oneCell' = true := fun u hu => by rw [List.mem_singleton.1 hu]; exact hx
  have hg2w : g2 < w.heap.size := by
    rcases Nat.lt_or_ge g2 w.heap.size with h9 | h9
    · exact h9
    · rw [Array.getElem?_eq_none h9] at h2; cases h2
  rcases Nat.lt_or_ge k xs.length with hkl | hkl
  · rcases ho.2 with ⟨_, h0⟩ | ⟨g, c, cur, rfl, hB, hh, hlc, hc, hcs, htk⟩
    · omega
    · have hcur : ∀ (j : Nat) (y : Value), xs[j]? = some y → cur[j]? = some y := fun j y hy => by
        have := ho.cells (g := g) rfl j y hy
        rw [add_plain', Nat.zero_add, cell_block hh] at this
        exact this
      have hcell : ∀ (j : Nat) (u : Value), xs[j]? = some u → w.cell? ⟨g, j, none⟩ = some u := fun j u hu => by rw [cell_block hh]; exact hcur j u hu
      have hgw : g < w.heap.size := by
        rcases Nat.lt_or_ge g w.heap.size with h9 | h9
        · exact h9
        · rw [Array.getElem?_eq_none h9] at hh; cases hh
      have hdl : (xs.drop k).length = xs.length - k := by rw [List.length_drop]
      obtain ⟨n, hn⟩ : ∃ n, xs.length = n := ⟨_, rfl⟩
      have q1 : ¬ ((k : Int) = (n : Int)) := by omega
      have q1b : ((k : Int) == (n : Int)) = false := by rw [beq_eq_false_iff_ne]; omega
      have w1 : IntKind.i64.wrap ((k : Int) + 1) = (k : Int) + 1 := by rw [IntKind.wrap_i64]; omega
      have w2 : IntKind.i64.wrap ((n : Int) + 1) = (n : Int) + 1 := by rw [IntKind.wrap_i64]; omega
      have w3 : IntKind.i64.wrap ((n : Int) + 1 - (k : Int)) = (n : Int) + 1 - (k : Int) := by rw [IntKind.wrap_i64]; omega
      have p1 : (0 : Int) ≤ (k : Int) + 1 := by omega
      have p2 : k ≤ n := by omega
      have p3 : ((k : Int) + 1).toNat = k + 1 := by omega
      have p4 : (k : Int) ≤ (n : Int) := by omega
      have p5 : ¬ (c = k) := by omega
      have p7 : (k : Int) ≤ (n : Int) + 1 := by omega
      have p8 : k + 1 ≤ n + 1 := by omega
      have p9 : ((n : Int) + 1).toNat = n + 1 := by omega
      rw [hn] at hlc hdl hkl hk hl
      rcases Nat.lt_or_ge n c with hroom | hroom
      · -- there is room: the cells behind move up
        have hng : g ≠ g2 := fun e => by
          rw [e, h2] at hh
          cases hh
          have h9 : (1 : Nat) = c * 1 := hcs
          omega
        have p6 : ¬ (c = k + 1) := by omega
        have q2 : ¬ ((c : Int) < (n : Int) + 1) := by omega
        have hsome : ∀ j, j < c → (w.cell? ⟨g, j, none⟩).isSome = true := fun j hj => by rw [cell_block hh]; simp; omega
        have hfz : ∀ j, w.frozen? ⟨g, j, none⟩ = false := fun j => free_block hh j
        have hov : ∀ lb cb, (callFunc 88 #[.slice (some ⟨g2, 0, none⟩) 1 1, .slice (some ⟨g, k + 1, none⟩) lb cb]).run Tryd.prog w = .ok (.value (.bool false)) w := fun lb cb => by
          rw [run_callFunc_extern Tryd.func88 (by kernel_rfl) (by kernel_rfl) (by kernel_rfl) (e := Extern.SlicesOverlaps.overlaps #[81, 81] #[4]) (by kernel_rfl),
            Lib.run_overlaps_apart w 81 4 9 Tryd.underlying81 1 Tryd.sizeOf9 ⟨g2, 0, none⟩ ⟨g, k + 1, none⟩ 1 1 lb cb (fun e => hng e.symm) 9 9 1 c (by unfold World.shape?; rw [h2]; rfl) (by unfold World.shape?; rw [hh]; simp; omega) (by omega) (free_block h2 _) (free_block h2 _)]
          rfl
        have hcp1 : ∀ ty dc sc, (Builtin.copy_ #[81, 81] ty #[.slice (some ⟨g, k + 1, none⟩) (n - k) dc, .slice (some ⟨g, k, none⟩) (n + 1 - k) sc]).run Tryd.prog w.drew = .ok (goInt (xs.drop k).length) (w.drew.setCells g (k + 1) (xs.drop k)) := fun ty dc sc =>
          run_copy_cells w.drew _ _ ty 9 g (k + 1) (n - k) dc ⟨g, k, none⟩ (n + 1 - k) sc (xs.drop k) Tryd.underlying81 hsz (by rw [hdl]; simp only [Nat.min_def]; split <;> omega)
            (fun j u hj => by rw [Addr.add_lit]; exact hcell (k + j) u (by rwa [List.getElem?_drop] at hj))
            (fun j hj => hsome _ (by omega)) (fun j _ => hfz _) (fun u hu => h1c u (List.mem_of_mem_drop hu))
        obtain ⟨cur1, r1, r2, r3, r4, r6, r5⟩ := setCells_row g 9 (xs.drop k) (k + 1) cur w.drew hh (by rw [hdl]; omega)
        obtain ⟨W1, hW1⟩ : ∃ W1, W1 = w.drew.setCells g (k + 1) (xs.drop k) := ⟨_, rfl⟩
        rw [← hW1] at hcp1 r1 r5
        have hcp2 : ∀ (W : World), (∀ p, W.cell? p = W1.cell? p) → (∀ p, W.frozen? p = W1.frozen? p) → ∀ ty dc, (Builtin.copy_ #[81, 81] ty #[.slice (some ⟨g, k, none⟩) (n + 1 - k) dc, .slice (some ⟨g2, 0, none⟩) 1 1]).run Tryd.prog W = .ok (goInt [x].length) (W.setCells g k [x]) := fun W hWc hWf ty dc =>
          run_copy_cells W _ _ ty 9 g k (n + 1 - k) dc ⟨g2, 0, none⟩ 1 1 [x] Tryd.underlying81 hsz (by simp only [List.length_cons, List.length_nil, Nat.min_def]; split <;> omega)
            (fun j u hj => by
              rw [Addr.add_lit, hWc, hW1, setCells_cell g _ _ _ _ (fun e => hng e.symm)]
              exact hvs j u hj)
            (fun j hj => by rw [hWc, cell_block r1]; simp at hj ⊢; omega) (fun j _ => by rw [hWf]; exact free_block r1 _) h1v
        obtain ⟨cur2, s1, s2, s3, s4, s6, s5⟩ := setCells_row g 9 [x] k cur1 W1 r1 (by simp; omega)
        have hown : OwnAt RVal 1 (W1.setCells g k [x]) B 9 (.slice (some ⟨g, 0, none⟩) (n + 1) c) (xs.take k ++ x :: xs.drop k) := by
          have hI := own_of_cells (xs := xs.take k ++ x :: xs.drop k) (c := c) (B := B) s1 hB (by rw [putin_len (by omega)]; omega) hc (by rw [s2, r2, hcs, Nat.mul_one]) (fun j y hj => by
            rw [putin_get (by omega)] at hj
            by_cases h5 : j < k
            · rw [if_pos h5] at hj
              rw [s3 j h5, r3 j (by omega)]
              exact hcur j y hj
            · rw [if_neg h5] at hj
              by_cases h6 : j = k
              · rw [if_pos h6] at hj
                cases hj
                subst h6
                have := s4 0 _ rfl
                rwa [Nat.add_zero] at this
              · rw [if_neg h6] at hj
                rw [s6 j (by simp; omega)]
                have := r4 (j - (k + 1)) y (by rw [List.getElem?_drop, show k + (j - (k + 1)) = j - 1 by omega]; exact hj)
                rwa [show k + 1 + (j - (k + 1)) = j by omega] at this) hon
          rw [putin_len (by omega), hn] at hI
          exact hI
        have hbel : Below B w (W1.setCells g k [x]) := Touch.below s5 (Touch.below r5 (Below.refl _ w).drew hB) hB
        have hsame : SameBut 9 w (W1.setCells g k [x]) := fun b cs t fr hb ht => by
          have hbg : b ≠ g := fun e => by rw [e, hh] at hb; cases hb; exact ht rfl
          exact (s5.other b hbg).trans ((r5.other b hbg).trans hb)
        have Hsame := Lib.hid hsame
        have Hown := Lib.hid hown
        have Hbel := Lib.hid hbel
        clear hW1 hsame
        clear hown hbel hcell hcur hsome hfz r1 r2 r3 r4 r5 r6 s1 s2 s3 s4 s5 s6 hon ho h1c hvs h1v hdl htk hcs
        rw [hn]
        go_enter Tryd.func71, Tryd.ntmps71
        go_wp2_with (simp only [hov])
        go_region_law_o (refine step_copy_runI rfl _ _ 81 81 rfl _ _ (by simp [Act.eval, Act.put]) (by simp [Act.eval, Act.put]) (hcp1 _ _ _) ?_)
        go_wp2_with (at_builtin; refine wpList_copy_runI _ rfl _ _ 81 81 rfl _ _ rfl rfl (hcp2 _ (fun _ => rfl) (fun _ => rfl) _ _) ?_)
        go_ret
        exact ⟨_, rfl, Hown.out, Hbel.out, Hsame.out⟩
      · -- no room: a new row
        obtain rfl : c = n := by omega
        have p6 : (c : Int) < (c : Int) + 1 := by omega
        have hkk : (c : Int) + 1 - (k : Int) = ((c + 1 - k : Nat) : Int) := by omega
        have hik : k + (c + 1 - k) = c + 1 := by omega
        obtain ⟨G, hG⟩ : ∃ G, G = grownCap w (c + 1) c 9 := ⟨_, rfl⟩
        have hold : (Builtin.firstCells i0.size k (.slice (some ⟨g, 0, none⟩) k c)).run Tryd.prog w.drew = .ok (xs.take k).toArray w.drew := by
          rw [hz1]
          exact run_firstCells_some w.drew 1 k ⟨g, 0, none⟩ k c (xs.take k) (by rw [List.length_take]; omega) (fun j u hj => by
            rw [Addr.add_lit, Nat.zero_add]
            rw [List.getElem?_take] at hj
            split at hj
            · exact hcell j u hj
            · cases hj)
        obtain ⟨ROW, hROW⟩ : ∃ ROW : Array Value, ROW = (xs.take k).toArray ++ Builtin.zeroCells (.string ⟨#[]⟩ : Value).cells (c + 1 - k) ++ Builtin.zeroCells (.string ⟨#[]⟩ : Value).cells (G - (c + 1)) := ⟨_, rfl⟩
        have hrz : ∀ ty, (Builtin.append_ #[81, 3] ty #[.slice (some ⟨g, 0, none⟩) k c, .int .i64 ((c : Int) + 1 - (k : Int))]).run Tryd.prog w = .ok (.slice (some ⟨w.heap.size, 0, none⟩) (c + 1) G) (w.drew.alloc (.cells ROW 9)) := fun ty => by
          have h9 := Lib.run_append_grow_zeros w 81 3 ty 9 i0 _ .i64 .i64 Tryd.underlying81 Tryd.underlying3 hi0 hz0 (some ⟨g, 0, none⟩) k c (xs.take k) hold (c + 1 - k) (by omega) (by omega) (by omega) (by omega) (by rw [hz2]; omega) (by rw [hz2, hik]; exact growslice_fits (by omega) (by omega))
          rw [hik] at h9
          rw [hkk, hROW, hG]
          exact h9
        have hGn : c + 1 ≤ G := by rw [hG]; exact grownCap_ge w _ _ _
        have hGm : G ≤ maxLen := by rw [hG]; exact grownCap_le_maxLen w (c + 1) c 9 (by unfold maxLen; omega)
        have hG63 : G ≤ 9223372036854775807 := by unfold maxLen at hGm; omega
        have hRs : ROW.size = G := by rw [hROW, Array.size_append, Array.size_append, size_zeroCells, size_zeroCells]; simp [Value.cells]; omega
        have hlow : ∀ (j : Nat) (y : Value), j < k → xs[j]? = some y → ROW[j]? = some y := fun j y hj hy => by
          rw [hROW, Array.append_assoc, Array.getElem?_append_left (by simp; omega)]
          simp only [List.getElem?_toArray]
          rw [List.getElem?_take_of_lt hj]
          exact hy
        obtain ⟨W1, hW1⟩ : ∃ W1, W1 = w.drew.alloc (.cells ROW 9) := ⟨_, rfl⟩
        rw [← hW1] at hrz
        have b1 : W1.heap[w.heap.size]? = some (.cells ROW 9 (0, 0)) := by rw [hW1]; exact heap_alloc_new w.drew _
        have hb1 : Below w.heap.size w W1 := by rw [hW1]; exact (Below.refl _ w).drew.alloc (Nat.le_refl _) _
        have hcpA : ∀ (W : World), (∀ p, W.cell? p = W1.cell? p) → (∀ p, W.frozen? p = W1.frozen? p) → ∀ ty dc, (Builtin.copy_ #[81, 81] ty #[.slice (some ⟨w.heap.size, k, none⟩) (c + 1 - k) dc, .slice (some ⟨g2, 0, none⟩) 1 1]).run Tryd.prog W = .ok (goInt [x].length) (W.setCells w.heap.size k [x]) := fun W hWc hWf ty dc =>
          run_copy_cells W _ _ ty 9 w.heap.size k (c + 1 - k) dc ⟨g2, 0, none⟩ 1 1 [x] Tryd.underlying81 hsz (by simp only [List.length_cons, List.length_nil, Nat.min_def]; split <;> omega)
            (fun j u hj => by rw [Addr.add_lit, hWc]; exact (hb1.cell (p := ⟨g2, 0 + j, none⟩) hg2w).trans (hvs j u hj))
            (fun j hj => by rw [hWc, cell_block b1]; simp at hj ⊢; omega) (fun j _ => by rw [hWf]; exact free_block b1 _) h1v
        obtain ⟨cur1, r1, r2, r3, r4, r6, r5⟩ := setCells_row w.heap.size 9 [x] k ROW W1 b1 (by simp; omega)
        obtain ⟨W2, hW2⟩ : ∃ W2, W2 = W1.setCells w.heap.size k [x] := ⟨_, rfl⟩
        rw [← hW2] at r1 r5
        have hcpB : ∀ (W : World), (∀ p, W.cell? p = W2.cell? p) → (∀ p, W.frozen? p = W2.frozen? p) → ∀ ty dc sc, (Builtin.copy_ #[81, 81] ty #[.slice (some ⟨w.heap.size, k + 1, none⟩) (c - k) dc, .slice (some ⟨g, k, none⟩) (c - k) sc]).run Tryd.prog W = .ok (goInt (xs.drop k).length) (W.setCells w.heap.size (k + 1) (xs.drop k)) := fun W hWc hWf ty dc sc =>
          run_copy_cells W _ _ ty 9 w.heap.size (k + 1) (c - k) dc ⟨g, k, none⟩ (c - k) sc (xs.drop k) Tryd.underlying81 hsz (by rw [hdl]; simp only [Nat.min_def]; split <;> omega)
            (fun j u hj => by
              rw [Addr.add_lit, hWc, hW2, setCells_cell _ _ _ _ _ (by show g ≠ w.heap.size; omega)]
              exact (hb1.cell (p := ⟨g, k + j, none⟩) hgw).trans (hcell (k + j) u (by rwa [List.getElem?_drop] at hj)))
            (fun j hj => by rw [hWc, cell_block r1]; simp at hj ⊢; omega) (fun j _ => by rw [hWf]; exact free_block r1 _) (fun u hu => h1c u (List.mem_of_mem_drop hu))
        obtain ⟨W3, hW3⟩ : ∃ W3, W3 = W2.drew := ⟨_, rfl⟩
        have r1' : W3.heap[w.heap.size]? = some (.cells cur1 9 (0, 0)) := by rw [hW3]; exact r1
        obtain ⟨cur2, s1, s2, s3, s4, s6, s5⟩ := setCells_row w.heap.size 9 (xs.drop k) (k + 1) cur1 W3 r1' (by rw [hdl]; omega)
        have hown : OwnAt RVal 1 (W3.setCells w.heap.size (k + 1) (xs.drop k)) B 9 (.slice (some ⟨w.heap.size, 0, none⟩) (c + 1) G) (xs.take k ++ x :: xs.drop k) := by
          have hI := own_of_cells (xs := xs.take k ++ x :: xs.drop k) (c := G) (B := B) s1 hBw (by rw [putin_len (by omega)]; omega) hGm (by rw [s2, r2, hRs]) (fun j y hj => by
            rw [putin_get (by omega)] at hj
            by_cases h5 : j < k
            · rw [if_pos h5] at hj
              rw [s3 j (by omega), r3 j h5]
              exact hlow j y h5 hj
            · rw [if_neg h5] at hj
              by_cases h6 : j = k
              · rw [if_pos h6] at hj
                cases hj
                subst h6
                rw [s3 j (by omega)]
                have := r4 0 _ rfl
                rwa [Nat.add_zero] at this
              · rw [if_neg h6] at hj
                have := s4 (j - (k + 1)) y (by rw [List.getElem?_drop, show k + (j - (k + 1)) = j - 1 by omega]; exact hj)
                rwa [show k + 1 + (j - (k + 1)) = j by omega] at this) hon
          rw [putin_len (by omega), hn] at hI
          exact hI
        have hbel : Below B w (W3.setCells w.heap.size (k + 1) (xs.drop k)) := Touch.below s5 (by rw [hW3]; exact (Touch.below r5 (hb1.mono hBw) hBw).drew) hBw
        have hsame : SameBut 9 w (W3.setCells w.heap.size (k + 1) (xs.drop k)) := sameBut_below (Touch.below s5 (by rw [hW3]; exact (Touch.below r5 hb1 (Nat.le_refl _)).drew) (Nat.le_refl _))
        have Hsame := Lib.hid hsame
        have Hown := Lib.hid hown
        have Hbel := Lib.hid hbel
        clear hsame
        have HW2 := Lib.hid hW2
        subst hW3
        clear hW1 hW2
        have m1 : ¬ (G = k) := by omega
        have m2 : ¬ (G = k + 1) := by omega
        clear hown hbel hcell hcur r1 r2 r3 r4 r5 r6 r1' s1 s2 s3 s4 s5 s6 hon ho h1c hvs h1v hdl htk hcs hold hlow hRs hkk hik hb1 b1 hG hROW
        rw [hn]
        go_enter Tryd.func71, Tryd.ntmps71
        go_wp2_with (first
          | (at_builtin; refine Lib.wpList_append_run _ rfl _ _ _ _ rfl _ _ rfl rfl _ _ (hrz _) ?_)
          | (at_builtin; refine wpList_copy_runI _ rfl _ _ 81 81 rfl _ _ rfl rfl (hcpA _ (fun _ => rfl) (fun _ => rfl) _ _) ?_))
        rw [← HW2.out]
        go_region_law_o (refine step_copy_runI rfl _ _ 81 81 rfl (.slice (some ⟨w.heap.size, k + 1, none⟩) (c - k) (G - (k + 1))) (.slice (some ⟨g, k, none⟩) (c - k) (c - k)) (by simp [Act.eval, Act.put]) (by simp [Act.eval, Act.put]) (hcpB W2.drew (fun _ => rfl) (fun _ => rfl) 3 (G - (k + 1)) (c - k)) ?_)
        go_wp2_with fail
        go_ret
        exact ⟨_, rfl, Hown.out, Hbel.out, Hsame.out⟩
  · obtain rfl : k = xs.length := by omega
    have hend : xs.take xs.length ++ x :: xs.drop xs.length = xs ++ [x] := by rw [List.take_length, List.drop_length]
    rw [hend]
    obtain ⟨a, c, rfl, hcl, hcm⟩ := h.row.len
    have H := Lib.hid h
    have Hrow : Hid (RowAt RVal 1 w (.slice (some ⟨g2, 0, none⟩) 1 1) [x]) := Lib.hid (RowAt.one h2 rfl ⟨rfl, hx⟩)
    have hb : Below B w w := Below.refl _ _
    unfold maxLen at hcm
    obtain ⟨n, Hn⟩ : ∃ n, Hid (xs.length = n) := ⟨_, Lib.hid rfl⟩
    rw [Hn.out] at hcl ⊢
    have Hs : Hid (OwnAt RVal 1 w B 9 (.slice a n c) xs) := by rw [← Hn.out]; exact H
    have hl2 : n ≤ 1048576 := by rw [← Hn.out]; exact hl
    have hxl : xs.length ≤ 1048576 := hl
    clear h ho h1c hvs h1v hon hend h2 hkl hk H hl
    have hform : a = none ∨ ∃ g, a = some ⟨g, 0, none⟩ := by
      rcases Hs.out.form with ⟨h9, _⟩ | ⟨g, c', h9, _⟩
      · cases h9; exact .inl rfl
      · injection h9 with h9; exact .inr ⟨g, h9⟩
    rcases hform with rfl | ⟨g, rfl⟩
    · obtain ⟨rfl, rfl⟩ : n = 0 ∧ c = 0 := by
        rcases Hs.out.form with ⟨h9, _⟩ | ⟨g, c', h9, _⟩
        · cases h9; exact ⟨rfl, rfl⟩
        · cases h9
      go_enter Tryd.func71, Tryd.ntmps71
      go_wp2_with (at_builtin; refine wpList_append_ownAt (R := RVal) (k := 1) (e := 9) (B := B) (l := xs) (m := [x]) _ (by rfl) _ _ _ (by rfl) i0 _ 16 Tryd.underlying81 hi0 hz0 hz1 hz2 rfl (by omega) flat_val one_val _ (by rfl) Hs.out _ (by rfl) Hrow.out (by unfold maxLen; simp; omega) (by simp; omega) hBw ?_)
      intro v' w' hv' hg hr _
      have hb2 : Below B w w' := below_of_grown hb hBw hg hr
      have hb3 : SameBut 9 w w' := Hs.out.sameBut hg
      go_wp2_with fail
      go_ret
      exact ⟨_, rfl, hv', hb2, hb3⟩
    · by_cases hcn : c = n
      · subst hcn
        have p1 : (0 : Int) ≤ (c : Int) := by omega
        go_enter Tryd.func71, Tryd.ntmps71
        go_wp2_with (at_builtin; refine wpList_append_ownAt (R := RVal) (k := 1) (e := 9) (B := B) (l := xs) (m := [x]) _ (by rfl) _ _ _ (by rfl) i0 _ 16 Tryd.underlying81 hi0 hz0 hz1 hz2 rfl (by omega) flat_val one_val _ (by rfl) Hs.out _ (by rfl) Hrow.out (by unfold maxLen; simp; omega) (by simp; omega) hBw ?_)
        intro v' w' hv' hg hr _
        have hb2 : Below B w w' := below_of_grown hb hBw hg hr
        have hb3 : SameBut 9 w w' := Hs.out.sameBut hg
        go_wp2_with fail
        go_ret
        exact ⟨_, rfl, hv', hb2, hb3⟩
      · have p1 : (0 : Int) ≤ (n : Int) := by omega
        go_enter Tryd.func71, Tryd.ntmps71
        go_wp2_with (at_builtin; refine wpList_append_ownAt (R := RVal) (k := 1) (e := 9) (B := B) (l := xs) (m := [x]) _ (by rfl) _ _ _ (by rfl) i0 _ 16 Tryd.underlying81 hi0 hz0 hz1 hz2 rfl (by omega) flat_val one_val _ (by rfl) Hs.out _ (by rfl) Hrow.out (by unfold maxLen; simp; omega) (by simp; omega) hBw ?_)
        intro v' w' hv' hg hr _
        have hb2 : Below B w w' := below_of_grown hb hBw hg hr
        have hb3 : SameBut 9 w w' := Hs.out.sameBut hg
        go_wp2_with fail
        go_ret
        exact ⟨_, rfl, hv', hb2, hb3⟩
theorem Tryd.infoVal : (Tryd.prog.info? 40).map (fun i => (i.zero, i.size, i.bytes)) = some (some (.nilIface), 1, 16) := by kernel_rfl

set_option maxRecDepth 100000 in
theorem cloneVal_any (v : Value) (xs : List Value) (w : World) (h : RowAt RVal 1 w v xs) (hl : xs.length ≤ 1073741824) :
    Calls Tryd.prog 70 #[v] w fun e w' => ∃ v', e = .returned v' ∧ OwnAt RVal 1 w' w.heap.size 40 v' xs ∧ Below w.heap.size w w' := by
  obtain ⟨i0, hi0, hz0, hz1, hz2⟩ := info_parts Tryd.infoVal
  have hrow := h
  have hn := fun (w : World) (a : Option Addr) (n c : Nat) => Lib.run_eql_slice_nil (P := Tryd.prog) w 80 40 a n c 0 0 Tryd.underlying80
  rcases h with ⟨rfl, rfl⟩ | ⟨a, c, rfl, _, _, _⟩
  · go_enter Tryd.func70, Tryd.ntmps70
    go_wp2_with fail
    go_ret
    exact ⟨_, rfl, OwnAt.nil _, Below.refl _ _⟩
  · have Hrow := Lib.hid hrow
    clear hrow
    go_enter Tryd.func70, Tryd.ntmps70
    go_wp2_with (at_builtin; refine wpList_append_ownAt (R := RVal) (k := 1) (e := 40) (B := w.heap.size) (l := []) (m := xs) _ (by rfl) _ _ _ (by rfl) i0 _ 16 Tryd.underlying80 hi0 hz0 hz1 hz2 rfl (by omega) flat_val one_val _ (by rfl) (own_empty w 1 _ (Nat.le_refl _)) _ (by rfl) (Hrow.out.below stays_val ((Below.refl _ _).alloc (Nat.le_refl _) _)) (by unfold maxLen; simp; omega) (by simp; omega) (by simp) ?_)
    intro v' w' hv' hg hr _
    have hb : Below w.heap.size w w' := below_of_grown ((Below.refl _ _).alloc (Nat.le_refl _) _) (by simp) hg hr
    go_wp2_with fail
    go_ret
    exact ⟨_, rfl, by simpa using hv', hb⟩
set_option maxRecDepth 100000 in
set_option maxHeartbeats 3200000 in
theorem insVal_any (v : Value) (xs : List Value) (B k : Nat) (x : Value) (g2 : Nat) (w : World) (h : OwnAt RVal 1 w B 40 v xs) (hk : k ≤ xs.length) (hx : x.oneCell' = true) (h2 : w.heap[g2]? = some (.cells #[x] 40 (0, 0))) (hBw : B ≤ w.heap.size) (hl : xs.length ≤ 1048576) :
    Calls Tryd.prog 73 #[v, .int .i64 (k : Int), .slice (some ⟨g2, 0, none⟩) 1 1] w fun e w' => ∃ v', e = .returned v' ∧ OwnAt RVal 1 w' B 40 v' (xs.take k ++ x :: xs.drop k) ∧ Below B w w' ∧ SameBut 40 w w' := by
  obtain ⟨i0, hi0, hz0, hz1, hz2⟩ := info_parts Tryd.infoVal
  have mixed : Tryd.prog.follows .mixedOrders = true := by kernel_rfl
  have hsz : (Tryd.prog.info? 40).map (·.size) = some 1 := by rw [hi0]; simp [hz1]
  have hon := putin_ones (k := k) h.ones hx
  have ho := own_raw h
  have h1c := h.ones
  have hvs : ∀ (j : Nat) (u : Value), [x][j]? = some u → w.cell? ⟨g2, 0 + j, none⟩ = some u := fun j u hu => by
    rw [Nat.zero_add, cell_block h2]
    simpa using hu
  have h1v : ∀ u ∈ [x], u.oneCell' = true := fun u hu => by rw [List.mem_singleton.1 hu]; exact hx
  have hg2w : g2 < w.heap.size := by
    rcases Nat.lt_or_ge g2 w.heap.size with h9 | h9
    · exact h9
    · rw [Array.getElem?_eq_none h9] at h2; cases h2
  rcases Nat.lt_or_ge k xs.length with hkl | hkl
  · rcases ho.2 with ⟨_, h0⟩ | ⟨g, c, cur, rfl, hB, hh, hlc, hc, hcs, htk⟩
    · omega
    · have hcur : ∀ (j : Nat) (y : Value), xs[j]? = some y → cur[j]? = some y := fun j y hy => by
        have := ho.cells (g := g) rfl j y hy
        rw [add_plain', Nat.zero_add, cell_block hh] at this
        exact this
      have hcell : ∀ (j : Nat) (u : Value), xs[j]? = some u → w.cell? ⟨g, j, none⟩ = some u := fun j u hu => by rw [cell_block hh]; exact hcur j u hu
      have hgw : g < w.heap.size := by
        rcases Nat.lt_or_ge g w.heap.size with h9 | h9
        · exact h9
        · rw [Array.getElem?_eq_none h9] at hh; cases hh
      have hdl : (xs.drop k).length = xs.length - k := by rw [List.length_drop]
      obtain ⟨n, hn⟩ : ∃ n, xs.length = n := ⟨_, rfl⟩
      have q1 : ¬ ((k : Int) = (n : Int)) := by omega
      have q1b : ((k : Int) == (n : Int)) = false := by rw [beq_eq_false_iff_ne]; omega
      have w1 : IntKind.i64.wrap ((k : Int) + 1) = (k : Int) + 1 := by rw [IntKind.wrap_i64]; omega
      have w2 : IntKind.i64.wrap ((n : Int) + 1) = (n : Int) + 1 := by rw [IntKind.wrap_i64]; omega
      have w3 : IntKind.i64.wrap ((n : Int) + 1 - (k : Int)) = (n : Int) + 1 - (k : Int) := by rw [IntKind.wrap_i64]; omega
      have p1 : (0 : Int) ≤ (k : Int) + 1 := by omega
      have p2 : k ≤ n := by omega
      have p3 : ((k : Int) + 1).toNat = k + 1 := by omega
      have p4 : (k : Int) ≤ (n : Int) := by omega
      have p5 : ¬ (c = k) := by omega
      have p7 : (k : Int) ≤ (n : Int) + 1 := by omega
      have p8 : k + 1 ≤ n + 1 := by omega
      have p9 : ((n : Int) + 1).toNat = n + 1 := by omega
      rw [hn] at hlc hdl hkl hk hl
      rcases Nat.lt_or_ge n c with hroom | hroom
      · -- there is room: the cells behind move up
        have hng : g ≠ g2 := fun e => by
          rw [e, h2] at hh
          cases hh
          have h9 : (1 : Nat) = c * 1 := hcs
          omega
        have p6 : ¬ (c = k + 1) := by omega
        have q2 : ¬ ((c : Int) < (n : Int) + 1) := by omega
        have hsome : ∀ j, j < c → (w.cell? ⟨g, j, none⟩).isSome = true := fun j hj => by rw [cell_block hh]; simp; omega
        have hfz : ∀ j, w.frozen? ⟨g, j, none⟩ = false := fun j => free_block hh j
        have hov : ∀ lb cb, (callFunc 90 #[.slice (some ⟨g2, 0, none⟩) 1 1, .slice (some ⟨g, k + 1, none⟩) lb cb]).run Tryd.prog w = .ok (.value (.bool false)) w := fun lb cb => by
          rw [run_callFunc_extern Tryd.func90 (by kernel_rfl) (by kernel_rfl) (by kernel_rfl) (e := Extern.SlicesOverlaps.overlaps #[80, 80] #[4]) (by kernel_rfl),
            Lib.run_overlaps_apart w 80 4 40 Tryd.underlying80 1 Tryd.sizeOf40 ⟨g2, 0, none⟩ ⟨g, k + 1, none⟩ 1 1 lb cb (fun e => hng e.symm) 40 40 1 c (by unfold World.shape?; rw [h2]; rfl) (by unfold World.shape?; rw [hh]; simp; omega) (by omega) (free_block h2 _) (free_block h2 _)]
          rfl
        have hcp1 : ∀ ty dc sc, (Builtin.copy_ #[80, 80] ty #[.slice (some ⟨g, k + 1, none⟩) (n - k) dc, .slice (some ⟨g, k, none⟩) (n + 1 - k) sc]).run Tryd.prog w.drew = .ok (goInt (xs.drop k).length) (w.drew.setCells g (k + 1) (xs.drop k)) := fun ty dc sc =>
          run_copy_cells w.drew _ _ ty 40 g (k + 1) (n - k) dc ⟨g, k, none⟩ (n + 1 - k) sc (xs.drop k) Tryd.underlying80 hsz (by rw [hdl]; simp only [Nat.min_def]; split <;> omega)
            (fun j u hj => by rw [Addr.add_lit]; exact hcell (k + j) u (by rwa [List.getElem?_drop] at hj))
            (fun j hj => hsome _ (by omega)) (fun j _ => hfz _) (fun u hu => h1c u (List.mem_of_mem_drop hu))
        obtain ⟨cur1, r1, r2, r3, r4, r6, r5⟩ := setCells_row g 40 (xs.drop k) (k + 1) cur w.drew hh (by rw [hdl]; omega)
        obtain ⟨W1, hW1⟩ : ∃ W1, W1 = w.drew.setCells g (k + 1) (xs.drop k) := ⟨_, rfl⟩
        rw [← hW1] at hcp1 r1 r5
        have hcp2 : ∀ (W : World), (∀ p, W.cell? p = W1.cell? p) → (∀ p, W.frozen? p = W1.frozen? p) → ∀ ty dc, (Builtin.copy_ #[80, 80] ty #[.slice (some ⟨g, k, none⟩) (n + 1 - k) dc, .slice (some ⟨g2, 0, none⟩) 1 1]).run Tryd.prog W = .ok (goInt [x].length) (W.setCells g k [x]) := fun W hWc hWf ty dc =>
          run_copy_cells W _ _ ty 40 g k (n + 1 - k) dc ⟨g2, 0, none⟩ 1 1 [x] Tryd.underlying80 hsz (by simp only [List.length_cons, List.length_nil, Nat.min_def]; split <;> omega)
            (fun j u hj => by
              rw [Addr.add_lit, hWc, hW1, setCells_cell g _ _ _ _ (fun e => hng e.symm)]
              exact hvs j u hj)
            (fun j hj => by rw [hWc, cell_block r1]; simp at hj ⊢; omega) (fun j _ => by rw [hWf]; exact free_block r1 _) h1v
        obtain ⟨cur2, s1, s2, s3, s4, s6, s5⟩ := setCells_row g 40 [x] k cur1 W1 r1 (by simp; omega)
        have hown : OwnAt RVal 1 (W1.setCells g k [x]) B 40 (.slice (some ⟨g, 0, none⟩) (n + 1) c) (xs.take k ++ x :: xs.drop k) := by
          have hI := own_of_cells (xs := xs.take k ++ x :: xs.drop k) (c := c) (B := B) s1 hB (by rw [putin_len (by omega)]; omega) hc (by rw [s2, r2, hcs, Nat.mul_one]) (fun j y hj => by
            rw [putin_get (by omega)] at hj
            by_cases h5 : j < k
            · rw [if_pos h5] at hj
              rw [s3 j h5, r3 j (by omega)]
              exact hcur j y hj
            · rw [if_neg h5] at hj
              by_cases h6 : j = k
              · rw [if_pos h6] at hj
                cases hj
                subst h6
                have := s4 0 _ rfl
                rwa [Nat.add_zero] at this
              · rw [if_neg h6] at hj
                rw [s6 j (by simp; omega)]
                have := r4 (j - (k + 1)) y (by rw [List.getElem?_drop, show k + (j - (k + 1)) = j - 1 by omega]; exact hj)
                rwa [show k + 1 + (j - (k + 1)) = j by omega] at this) hon
          rw [putin_len (by omega), hn] at hI
          exact hI
        have hbel : Below B w (W1.setCells g k [x]) := Touch.below s5 (Touch.below r5 (Below.refl _ w).drew hB) hB
        have hsame : SameBut 40 w (W1.setCells g k [x]) := fun b cs t fr hb ht => by
          have hbg : b ≠ g := fun e => by rw [e, hh] at hb; cases hb; exact ht rfl
          exact (s5.other b hbg).trans ((r5.other b hbg).trans hb)
        have Hsame := Lib.hid hsame
        have Hown := Lib.hid hown
        have Hbel := Lib.hid hbel
        clear hW1 hsame
        clear hown hbel hcell hcur hsome hfz r1 r2 r3 r4 r5 r6 s1 s2 s3 s4 s5 s6 hon ho h1c hvs h1v hdl htk hcs
        rw [hn]
        go_enter Tryd.func73, Tryd.ntmps73
        go_wp2_with (simp only [hov])
        go_region_law_o (refine step_copy_runI rfl _ _ 80 80 rfl _ _ (by simp [Act.eval, Act.put]) (by simp [Act.eval, Act.put]) (hcp1 _ _ _) ?_)
        go_wp2_with (at_builtin; refine wpList_copy_runI _ rfl _ _ 80 80 rfl _ _ rfl rfl (hcp2 _ (fun _ => rfl) (fun _ => rfl) _ _) ?_)
        go_ret
        exact ⟨_, rfl, Hown.out, Hbel.out, Hsame.out⟩
      · -- no room: a new row
        obtain rfl : c = n := by omega
        have p6 : (c : Int) < (c : Int) + 1 := by omega
        have hkk : (c : Int) + 1 - (k : Int) = ((c + 1 - k : Nat) : Int) := by omega
        have hik : k + (c + 1 - k) = c + 1 := by omega
        obtain ⟨G, hG⟩ : ∃ G, G = grownCap w (c + 1) c 40 := ⟨_, rfl⟩
        have hold : (Builtin.firstCells i0.size k (.slice (some ⟨g, 0, none⟩) k c)).run Tryd.prog w.drew = .ok (xs.take k).toArray w.drew := by
          rw [hz1]
          exact run_firstCells_some w.drew 1 k ⟨g, 0, none⟩ k c (xs.take k) (by rw [List.length_take]; omega) (fun j u hj => by
            rw [Addr.add_lit, Nat.zero_add]
            rw [List.getElem?_take] at hj
            split at hj
            · exact hcell j u hj
            · cases hj)
        obtain ⟨ROW, hROW⟩ : ∃ ROW : Array Value, ROW = (xs.take k).toArray ++ Builtin.zeroCells (.nilIface : Value).cells (c + 1 - k) ++ Builtin.zeroCells (.nilIface : Value).cells (G - (c + 1)) := ⟨_, rfl⟩
        have hrz : ∀ ty, (Builtin.append_ #[80, 3] ty #[.slice (some ⟨g, 0, none⟩) k c, .int .i64 ((c : Int) + 1 - (k : Int))]).run Tryd.prog w = .ok (.slice (some ⟨w.heap.size, 0, none⟩) (c + 1) G) (w.drew.alloc (.cells ROW 40)) := fun ty => by
          have h9 := Lib.run_append_grow_zeros w 80 3 ty 40 i0 _ .i64 .i64 Tryd.underlying80 Tryd.underlying3 hi0 hz0 (some ⟨g, 0, none⟩) k c (xs.take k) hold (c + 1 - k) (by omega) (by omega) (by omega) (by omega) (by rw [hz2]; omega) (by rw [hz2, hik]; exact growslice_fits (by omega) (by omega))
          rw [hik] at h9
          rw [hkk, hROW, hG]
          exact h9
        have hGn : c + 1 ≤ G := by rw [hG]; exact grownCap_ge w _ _ _
        have hGm : G ≤ maxLen := by rw [hG]; exact grownCap_le_maxLen w (c + 1) c 40 (by unfold maxLen; omega)
        have hG63 : G ≤ 9223372036854775807 := by unfold maxLen at hGm; omega
        have hRs : ROW.size = G := by rw [hROW, Array.size_append, Array.size_append, size_zeroCells, size_zeroCells]; simp [Value.cells]; omega
        have hlow : ∀ (j : Nat) (y : Value), j < k → xs[j]? = some y → ROW[j]? = some y := fun j y hj hy => by
          rw [hROW, Array.append_assoc, Array.getElem?_append_left (by simp; omega)]
          simp only [List.getElem?_toArray]
          rw [List.getElem?_take_of_lt hj]
          exact hy
        obtain ⟨W1, hW1⟩ : ∃ W1, W1 = w.drew.alloc (.cells ROW 40) := ⟨_, rfl⟩
        rw [← hW1] at hrz
        have b1 : W1.heap[w.heap.size]? = some (.cells ROW 40 (0, 0)) := by rw [hW1]; exact heap_alloc_new w.drew _
        have hb1 : Below w.heap.size w W1 := by rw [hW1]; exact (Below.refl _ w).drew.alloc (Nat.le_refl _) _
        have hcpA : ∀ (W : World), (∀ p, W.cell? p = W1.cell? p) → (∀ p, W.frozen? p = W1.frozen? p) → ∀ ty dc, (Builtin.copy_ #[80, 80] ty #[.slice (some ⟨w.heap.size, k, none⟩) (c + 1 - k) dc, .slice (some ⟨g2, 0, none⟩) 1 1]).run Tryd.prog W = .ok (goInt [x].length) (W.setCells w.heap.size k [x]) := fun W hWc hWf ty dc =>
          run_copy_cells W _ _ ty 40 w.heap.size k (c + 1 - k) dc ⟨g2, 0, none⟩ 1 1 [x] Tryd.underlying80 hsz (by simp only [List.length_cons, List.length_nil, Nat.min_def]; split <;> omega)
            (fun j u hj => by rw [Addr.add_lit, hWc]; exact (hb1.cell (p := ⟨g2, 0 + j, none⟩) hg2w).trans (hvs j u hj))
            (fun j hj => by rw [hWc, cell_block b1]; simp at hj ⊢; omega) (fun j _ => by rw [hWf]; exact free_block b1 _) h1v
        obtain ⟨cur1, r1, r2, r3, r4, r6, r5⟩ := setCells_row w.heap.size 40 [x] k ROW W1 b1 (by simp; omega)
        obtain ⟨W2, hW2⟩ : ∃ W2, W2 = W1.setCells w.heap.size k [x] := ⟨_, rfl⟩
        rw [← hW2] at r1 r5
        have hcpB : ∀ (W : World), (∀ p, W.cell? p = W2.cell? p) → (∀ p, W.frozen? p = W2.frozen? p) → ∀ ty dc sc, (Builtin.copy_ #[80, 80] ty #[.slice (some ⟨w.heap.size, k + 1, none⟩) (c - k) dc, .slice (some ⟨g, k, none⟩) (c - k) sc]).run Tryd.prog W = .ok (goInt (xs.drop k).length) (W.setCells w.heap.size (k + 1) (xs.drop k)) := fun W hWc hWf ty dc sc =>
          run_copy_cells W _ _ ty 40 w.heap.size (k + 1) (c - k) dc ⟨g, k, none⟩ (c - k) sc (xs.drop k) Tryd.underlying80 hsz (by rw [hdl]; simp only [Nat.min_def]; split <;> omega)
            (fun j u hj => by
              rw [Addr.add_lit, hWc, hW2, setCells_cell _ _ _ _ _ (by show g ≠ w.heap.size; omega)]
              exact (hb1.cell (p := ⟨g, k + j, none⟩) hgw).trans (hcell (k + j) u (by rwa [List.getElem?_drop] at hj)))
            (fun j hj => by rw [hWc, cell_block r1]; simp at hj ⊢; omega) (fun j _ => by rw [hWf]; exact free_block r1 _) (fun u hu => h1c u (List.mem_of_mem_drop hu))
        obtain ⟨W3, hW3⟩ : ∃ W3, W3 = W2.drew := ⟨_, rfl⟩
        have r1' : W3.heap[w.heap.size]? = some (.cells cur1 40 (0, 0)) := by rw [hW3]; exact r1
        obtain ⟨cur2, s1, s2, s3, s4, s6, s5⟩ := setCells_row w.heap.size 40 (xs.drop k) (k + 1) cur1 W3 r1' (by rw [hdl]; omega)
        have hown : OwnAt RVal 1 (W3.setCells w.heap.size (k + 1) (xs.drop k)) B 40 (.slice (some ⟨w.heap.size, 0, none⟩) (c + 1) G) (xs.take k ++ x :: xs.drop k) := by
          have hI := own_of_cells (xs := xs.take k ++ x :: xs.drop k) (c := G) (B := B) s1 hBw (by rw [putin_len (by omega)]; omega) hGm (by rw [s2, r2, hRs]) (fun j y hj => by
            rw [putin_get (by omega)] at hj
            by_cases h5 : j < k
            · rw [if_pos h5] at hj
              rw [s3 j (by omega), r3 j h5]
              exact hlow j y h5 hj
            · rw [if_neg h5] at hj
              by_cases h6 : j = k
              · rw [if_pos h6] at hj
                cases hj
                subst h6
                rw [s3 j (by omega)]
                have := r4 0 _ rfl
                rwa [Nat.add_zero] at this
              · rw [if_neg h6] at hj
                have := s4 (j - (k + 1)) y (by rw [List.getElem?_drop, show k + (j - (k + 1)) = j - 1 by omega]; exact hj)
                rwa [show k + 1 + (j - (k + 1)) = j by omega] at this) hon
          rw [putin_len (by omega), hn] at hI
          exact hI
        have hbel : Below B w (W3.setCells w.heap.size (k + 1) (xs.drop k)) := Touch.below s5 (by rw [hW3]; exact (Touch.below r5 (hb1.mono hBw) hBw).drew) hBw
        have hsame : SameBut 40 w (W3.setCells w.heap.size (k + 1) (xs.drop k)) := sameBut_below (Touch.below s5 (by rw [hW3]; exact (Touch.below r5 hb1 (Nat.le_refl _)).drew) (Nat.le_refl _))
        have Hsame := Lib.hid hsame
        have Hown := Lib.hid hown
        have Hbel := Lib.hid hbel
        clear hsame
        have HW2 := Lib.hid hW2
        subst hW3
        clear hW1 hW2
        have m1 : ¬ (G = k) := by omega
        have m2 : ¬ (G = k + 1) := by omega
        clear hown hbel hcell hcur r1 r2 r3 r4 r5 r6 r1' s1 s2 s3 s4 s5 s6 hon ho h1c hvs h1v hdl htk hcs hold hlow hRs hkk hik hb1 b1 hG hROW
        rw [hn]
        go_enter Tryd.func73, Tryd.ntmps73
        go_wp2_with (first
          | (at_builtin; refine Lib.wpList_append_run _ rfl _ _ _ _ rfl _ _ rfl rfl _ _ (hrz _) ?_)
          | (at_builtin; refine wpList_copy_runI _ rfl _ _ 80 80 rfl _ _ rfl rfl (hcpA _ (fun _ => rfl) (fun _ => rfl) _ _) ?_))
        rw [← HW2.out]
        go_region_law_o (refine step_copy_runI rfl _ _ 80 80 rfl (.slice (some ⟨w.heap.size, k + 1, none⟩) (c - k) (G - (k + 1))) (.slice (some ⟨g, k, none⟩) (c - k) (c - k)) (by simp [Act.eval, Act.put]) (by simp [Act.eval, Act.put]) (hcpB W2.drew (fun _ => rfl) (fun _ => rfl) 3 (G - (k + 1)) (c - k)) ?_)
        go_wp2_with fail
        go_ret
        exact ⟨_, rfl, Hown.out, Hbel.out, Hsame.out⟩
  · obtain rfl : k = xs.length := by omega
    have hend : xs.take xs.length ++ x :: xs.drop xs.length = xs ++ [x] := by rw [List.take_length, List.drop_length]
    rw [hend]
    obtain ⟨a, c, rfl, hcl, hcm⟩ := h.row.len
    have H := Lib.hid h
    have Hrow : Hid (RowAt RVal 1 w (.slice (some ⟨g2, 0, none⟩) 1 1) [x]) := Lib.hid (RowAt.one h2 rfl ⟨rfl, hx⟩)
    have hb : Below B w w := Below.refl _ _
    unfold maxLen at hcm
    obtain ⟨n, Hn⟩ : ∃ n, Hid (xs.length = n) := ⟨_, Lib.hid rfl⟩
    rw [Hn.out] at hcl ⊢
    have Hs : Hid (OwnAt RVal 1 w B 40 (.slice a n c) xs) := by rw [← Hn.out]; exact H
    have hl2 : n ≤ 1048576 := by rw [← Hn.out]; exact hl
    have hxl : xs.length ≤ 1048576 := hl
    clear h ho h1c hvs h1v hon hend h2 hkl hk H hl
    have hform : a = none ∨ ∃ g, a = some ⟨g, 0, none⟩ := by
      rcases Hs.out.form with ⟨h9, _⟩ | ⟨g, c', h9, _⟩
      · cases h9; exact .inl rfl
      · injection h9 with h9; exact .inr ⟨g, h9⟩
    rcases hform with rfl | ⟨g, rfl⟩
    · obtain ⟨rfl, rfl⟩ : n = 0 ∧ c = 0 := by
        rcases Hs.out.form with ⟨h9, _⟩ | ⟨g, c', h9, _⟩
        · cases h9; exact ⟨rfl, rfl⟩
        · cases h9
      go_enter Tryd.func73, Tryd.ntmps73
      go_wp2_with (at_builtin; refine wpList_append_ownAt (R := RVal) (k := 1) (e := 40) (B := B) (l := xs) (m := [x]) _ (by rfl) _ _ _ (by rfl) i0 _ 16 Tryd.underlying80 hi0 hz0 hz1 hz2 rfl (by omega) flat_val one_val _ (by rfl) Hs.out _ (by rfl) Hrow.out (by unfold maxLen; simp; omega) (by simp; omega) hBw ?_)
      intro v' w' hv' hg hr _
      have hb2 : Below B w w' := below_of_grown hb hBw hg hr
      have hb3 : SameBut 40 w w' := Hs.out.sameBut hg
      go_wp2_with fail
      go_ret
      exact ⟨_, rfl, hv', hb2, hb3⟩
    · by_cases hcn : c = n
      · subst hcn
        have p1 : (0 : Int) ≤ (c : Int) := by omega
        go_enter Tryd.func73, Tryd.ntmps73
        go_wp2_with (at_builtin; refine wpList_append_ownAt (R := RVal) (k := 1) (e := 40) (B := B) (l := xs) (m := [x]) _ (by rfl) _ _ _ (by rfl) i0 _ 16 Tryd.underlying80 hi0 hz0 hz1 hz2 rfl (by omega) flat_val one_val _ (by rfl) Hs.out _ (by rfl) Hrow.out (by unfold maxLen; simp; omega) (by simp; omega) hBw ?_)
        intro v' w' hv' hg hr _
        have hb2 : Below B w w' := below_of_grown hb hBw hg hr
        have hb3 : SameBut 40 w w' := Hs.out.sameBut hg
        go_wp2_with fail
        go_ret
        exact ⟨_, rfl, hv', hb2, hb3⟩
      · have p1 : (0 : Int) ≤ (n : Int) := by omega
        go_enter Tryd.func73, Tryd.ntmps73
        go_wp2_with (at_builtin; refine wpList_append_ownAt (R := RVal) (k := 1) (e := 40) (B := B) (l := xs) (m := [x]) _ (by rfl) _ _ _ (by rfl) i0 _ 16 Tryd.underlying80 hi0 hz0 hz1 hz2 rfl (by omega) flat_val one_val _ (by rfl) Hs.out _ (by rfl) Hrow.out (by unfold maxLen; simp; omega) (by simp; omega) hBw ?_)
        intro v' w' hv' hg hr _
        have hb2 : Below B w w' := below_of_grown hb hBw hg hr
        have hb3 : SameBut 40 w w' := Hs.out.sameBut hg
        go_wp2_with fail
        go_ret
        exact ⟨_, rfl, hv', hb2, hb3⟩
end Go.Proofs.YtaddcchpidpbfaaDoor
