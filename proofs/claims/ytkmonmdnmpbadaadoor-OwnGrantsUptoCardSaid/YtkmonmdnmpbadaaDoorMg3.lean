/- Texts of ours joined. -/
import Derived.Deep.MidRow
import Derived.Deep.LoopGhost
import Derived.WalkSpells
import Derived.Deep.DeepCutAuto
import Derived.Lib.LaidTab
import Derived.Test.YtkmonmdnmpbadaaDoorShelf
import Derived.Test.YtkmonmdnmpbadaaDoorMg2
set_option linter.unusedVariables false
set_option linter.unusedSimpArgs false
namespace Go.Proofs.YtkmonmdnmpbadaaDoor
open Go.RowKit
def GrowO (B : Nat) (T : TypeId) (w w' : World) : Prop := ∃ r : Option Nat, w.grownBy w' r ∧ ∀ g, r = some g → B ≤ g ∧ ∃ cur, w.heap[g]? = some (.cells cur T (0, 0))
theorem GrowO.same {B : Nat} {T : TypeId} {w w' : World} (h : GrowO B T w w') : SameBut T w w' := fun b cs t fr hb ht => by
  obtain ⟨r, hg, hr⟩ := h
  have hlt : b < w.heap.size := by
    rcases Nat.lt_or_ge b w.heap.size with h1 | h1
    · exact h1
    · rw [Array.getElem?_eq_none h1] at hb; cases hb
  refine (hg.block b hlt fun hv => ?_).trans hb
  obtain ⟨_, cur, hc⟩ := hr b hv.symm
  rw [hb] at hc
  cases hc
  exact ht rfl
theorem GrowO.below {B : Nat} {T : TypeId} {W w w' : World} (h : GrowO B T w w') (hb : Below B W w) (hB : B ≤ w.heap.size) : Below B W w' := by
  obtain ⟨r, hg, hr⟩ := h
  exact below_of_grown hb hB hg fun g h1 => (hr g h1).1
theorem growO_of {α : Type} {R : Rd α} {k B : Nat} {T : TypeId} {v : Value} {l : List α} {w w' : World} (h : OwnAt R k w B T v l) (hg : w.grownBy w' v.ownBlock) : GrowO B T w w' :=
  ⟨_, hg, fun g h1 => ⟨(h.at h1).1, (h.at h1).2.2⟩⟩
theorem but_new {g b : Nat} {w wx w' : World} (h : But g w wx) (t : Touch b wx w') (hb : w.heap.size ≤ b) : But g w w' :=
  ⟨t.os.trans h.os, t.tape.trans h.tape, t.output.trans h.output, by rw [t.size]; exact h.size, fun k hk hn => (t.other k (by omega)).trans (h.block k hk hn)⟩
theorem but_then {g : Nat} {w wx w' : World} (h : But g w wx) (hb : Below w.heap.size wx w') : But g w w' :=
  ⟨hb.os.trans h.os, hb.tape.trans h.tape, hb.output.trans h.output, Nat.le_trans h.size hb.size, fun k hk hn => (hb.block k hk).trans (h.block k hk hn)⟩
theorem texRole_mono {B B' : Nat} (hB : B' ≤ B) {w : World} {cs : List Value} {x : GRole} (h : TexRole B w cs x) : TexRole B' w cs x :=
  let ⟨v2, h1, h2⟩ := h; ⟨v2, h1, (h2.mono hB).imp fun _ _ h => texRule_mono hB h⟩
theorem texBind_mono {B B' : Nat} (hB : B' ≤ B) {w : World} {cs : List Value} {x : GBind} (h : TexBind B w cs x) : TexBind B' w cs x :=
  let ⟨v4, v5, h1, h2, h3⟩ := h; ⟨v4, v5, h1, h2.mono hB, h3.mono hB⟩
theorem Tryd.sizeGrantsO : (Tryd.prog.info? 40).map (·.size) = some 2 := by kernel_rfl
set_option maxRecDepth 100000 in
set_option maxHeartbeats 6400000 in
theorem granted_any (yr yb : Value) (x : GGrants) (w : World) (h : GrantsR w [yr, yb] x) (hok : okGrants x) :
    Calls Tryd.prog 12 #[.agg #[yr, yb]] w fun e w' => ∃ vr vb, e = .returned (.agg #[vr, vb]) ∧ TexGrants w.heap.size w' [vr, vb] x ∧ Below w.heap.size w w' := by
  obtain ⟨i0, hi0, hz0, hz1, hz2⟩ := info_parts Tryd.infoRoleO
  obtain ⟨i1, hi1, hy0, hy1, hy2⟩ := info_parts Tryd.infoBindO
  obtain ⟨_, _, hcs, hr, hb⟩ := h
  simp only [List.cons.injEq, and_true] at hcs
  obtain ⟨rfl, rfl⟩ := hcs
  obtain ⟨a1, c1, rfl, hc1, _⟩ := hr.len
  obtain ⟨a2, c2, rfl, hc2, _⟩ := hb.len
  obtain ⟨nr, hnr⟩ : ∃ n, x.roles.length = n := ⟨_, rfl⟩
  obtain ⟨nb, hnb⟩ : ∃ n, x.binds.length = n := ⟨_, rfl⟩
  obtain ⟨okr, okrs, okb, okbs⟩ := hok
  rw [hnr] at hr okr hc1 ⊢
  rw [hnb] at hb okb hc2 ⊢
  have HR := Lib.hid hr
  have HB := Lib.hid hb
  have Okr := Lib.hid okrs
  have Okb := Lib.hid okbs
  have Hnr := Lib.hid hnr
  have Hnb := Lib.hid hnb
  clear hr hb okrs okbs hnr hnb
  go_enter Tryd.func12, Tryd.ntmps12
  go_upto_region 2 with fail
  obtain ⟨w1, hw1⟩ : ∃ w1, w1 = ((w.alloc (.cells #[.slice a1 nr c1, .slice a2 nb c2] 40)).alloc (.cells #[.slice none 0 0, .slice none 0 0] 40)).alloc (.cells #[.slice none 0 0, .slice none 0 0] 40) := ⟨_, rfl⟩
  obtain ⟨g3, hg3⟩ : ∃ g3, g3 = w.heap.size + 2 := ⟨_, rfl⟩
  obtain ⟨g2, hg2⟩ : ∃ g2, g2 = w.heap.size + 1 := ⟨_, rfl⟩
  obtain ⟨g1, hg1⟩ : ∃ g1, g1 = w.heap.size := ⟨_, rfl⟩
  rw [← hw1]
  try rw [← hg3]
  try rw [← hg2]
  rw [← hg1]
  have b1 : w1.heap[g1]? = some (.cells #[.slice a1 nr c1, .slice a2 nb c2] 40 (0, 0)) := by
    rw [hw1, hg1]
    exact below_block ((Below.refl _ _).alloc (Nat.le_refl _) _) (below_block ((Below.refl _ _).alloc (Nat.le_refl _) _) (heap_alloc_new w _))
  have b2 : w1.heap[g2]? = some (.cells #[.slice none 0 0, .slice none 0 0] 40 (0, 0)) := by
    have h9 := heap_alloc_new (w.alloc (.cells #[.slice a1 nr c1, .slice a2 nb c2] 40)) (.cells #[.slice none 0 0, .slice none 0 0] 40)
    rw [hw1, hg2]
    exact below_block ((Below.refl _ _).alloc (Nat.le_refl _) _) (by simpa using h9)
  have b3 : w1.heap[g3]? = some (.cells #[.slice none 0 0, .slice none 0 0] 40 (0, 0)) := by
    have h9 := heap_alloc_new ((w.alloc (.cells #[.slice a1 nr c1, .slice a2 nb c2] 40)).alloc (.cells #[.slice none 0 0, .slice none 0 0] 40)) (.cells #[.slice none 0 0, .slice none 0 0] 40)
    rw [hw1, hg3]
    simpa using h9
  have hb1 : Below w.heap.size w w1 := by rw [hw1]; exact (((Below.refl _ _).alloc (Nat.le_refl _) _).alloc (by simp) _).alloc (by simp <;> omega) _
  have hs1 : w1.heap.size = w.heap.size + 3 := by rw [hw1]; simp
  have Hb1 := Lib.hid hb1
  have B1 := Lib.hid b1
  have B2 := Lib.hid b2
  have B3 := Lib.hid b3
  have c1' := fun i => cell_block b1 i
  have l1 : w.heap.size ≤ g1 ∧ g1 < w1.heap.size := by omega
  have l2 : w.heap.size ≤ g2 ∧ g2 < w1.heap.size := by omega
  have l3 : w.heap.size ≤ g3 ∧ g3 < w1.heap.size := by omega
  have l23 : g2 ≠ g3 := by omega
  have l13 : g1 ≠ g3 := by omega
  have hs0 : w.heap.size ≤ w1.heap.size := by omega
  clear hw1 b1 b2 b3 hb1 hg1 hg2 hg3 hs1
  go_wp2_with fail
  clear c1'
  go_loopg [11] nr (fun k u11 wr => ∃ i : Nat, i + k = nr ∧ u11 = .int .i64 (i : Int) ∧ ∃ vr, Hid (wr.heap[g3]? = some (.cells #[vr, .slice none 0 0] 40 (0, 0))) ∧ Hid (OwnAt (TexRole w1.heap.size) 3 wr w1.heap.size 69 vr (x.roles.take i)) ∧ Hid (But g3 w1 wr))
  case atStart => exact ⟨0, by omega, rfl, _, B3, Lib.hid (OwnAt.nil _), Lib.hid (But.refl _ _)⟩
  case round =>
    obtain ⟨i, hig, rfl, vr, Hg3, Hown, Hbut⟩ := hrel
    cases gk with
    | zero =>
      obtain rfl : i = nr := by omega
      have hown := Hown.out
      rw [List.take_of_length_le (by rw [Hnr.out]; exact Nat.le_refl _)] at hown
      obtain ⟨va, vc, rfl, _, _⟩ := hown.row.len
      rw [Hnr.out] at hown Hg3
      have HO := Lib.hid hown
      have c1' := fun k => cell_block (Hbut.out.keep B1.out l13) k
      clear hown Hown
      go_wp2_with fail
      clear c1'
      go_loopg [29] nb (fun k u29 wq => ∃ j : Nat, j + k = nb ∧ u29 = .int .i64 (j : Int) ∧ ∃ vb, Hid (wq.heap[g3]? = some (.cells #[.slice va i vc, vb] 40 (0, 0))) ∧ Hid (OwnAt (TexRole w1.heap.size) 3 wq w1.heap.size 69 (.slice va i vc) x.roles) ∧ Hid (OwnAt (TexBind w1.heap.size) 6 wq w1.heap.size 71 vb (x.binds.take j)) ∧ Hid (But g3 w1 wq))
      case atStart => exact ⟨0, by omega, rfl, _, Hg3, HO, Lib.hid (OwnAt.nil _), Hbut⟩
      case round =>
        obtain ⟨j, hjg, rfl, vb, Hg4, HOr, HOb, HBq⟩ := hrel
        cases gk with
        | zero =>
          obtain rfl : j = nb := by omega
          have hown := HOb.out
          rw [List.take_of_length_le (by rw [Hnb.out]; exact Nat.le_refl _)] at hown
          obtain ⟨ua, uc, rfl, _, _⟩ := hown.row.len
          rw [Hnb.out] at hown Hg4
          have HOb2 := Lib.hid hown
          clear hown HOb
          have c3' := fun k => cell_block Hg4.out k
          have b2 := HBq.out.keep B2.out l23
          have f2 := fun k => free_block b2 k
          have c2' := fun k => cell_block b2 k
          have HB0 := Lib.hid (HBq.out.below Hb1.out hs0 l3.1)
          go_wp2_with fail
          clear c3' f2 c2'
          obtain ⟨t1, t2⟩ := touch_setCell (i := 0) (v := .slice va i vc) b2
          generalize World.setCell wr ⟨g2, 0, none⟩ (.slice va i vc) = wA at t1 t2 ⊢
          obtain ⟨t3, t4⟩ := touch_setCell (i := 1) (v := .slice ua j uc) t1
          generalize World.setCell wA ⟨g2, 1, none⟩ (.slice ua j uc) = wB at t3 t4 ⊢
          have HBf : Below w.heap.size w wB := t4.below (t2.below HB0.out l2.1) l2.1
          have r1 := own_touch (texRole_staysX (T := 40) (by decide) (by decide) _) (own_touch (texRole_staysX (T := 40) (by decide) (by decide) _) HOr.out (But.touch t2) b2 (own_apart HOr.out b2 (by decide))) (But.touch t4) t1 (fun q hq => (own_apart HOr.out b2 (by decide)) q hq)
          have r2 := own_touch (texBind_staysX (T := 40) (by decide) _) (own_touch (texBind_staysX (T := 40) (by decide) _) HOb2.out (But.touch t2) b2 (own_apart HOb2.out b2 (by decide))) (But.touch t4) t1 (fun q hq => (own_apart HOb2.out b2 (by decide)) q hq)
          refine bodyPost_ret (results_cell_row rfl _ _ g2 40 #[.slice va i vc, .slice ua j uc] (0, 0) _ rfl (by simpa using t3) Tryd.underlying40 rfl Tryd.sizeGrantsO) rfl ⟨_, _, rfl, ⟨_, _, rfl, ?_, ?_⟩, HBf⟩
          · exact (r1.mono hs0).imp fun cs q h => texRole_mono hs0 h
          · exact (r2.mono hs0).imp fun cs q h => texBind_mono hs0 h
        | succ k =>
          have hjl : j < nb := by omega
          have hsq := HBq.out.size
          obtain ⟨bd, hbj⟩ : ∃ bd, x.binds[j]? = some bd := ⟨x.binds[j]'(by rw [Hnb.out]; exact hjl), List.getElem?_eq_getElem _⟩
          have Hlen : Hid ((x.binds.take j).length = j) := Lib.hid (by rw [List.length_take, Hnb.out]; omega)
          obtain ⟨ua, uc, rfl, _, _⟩ := HOb.out.row.len
          rw [Hlen.out] at HOb Hg4
          obtain ⟨b, o, c', hv, _, _, hbs, hcell⟩ := HB.out.form (by rw [Hnb.out]; omega) (by omega)
          injection hv with u1 u2 u3
          subst u1
          clear u2 u3
          obtain ⟨ds, _, hcc, z4, z5, hR, hus, hgs⟩ := hcell j bd hbj
          subst hR
          obtain ⟨a4, c4, rfl, _, _⟩ := hus.row.len
          obtain ⟨a5, c5, rfl, _, _⟩ := hgs.row.len
          obtain ⟨n4, Hn4⟩ : ∃ n, Hid (bd.users.length = n) := ⟨_, Lib.hid rfl⟩
          obtain ⟨n5, Hn5⟩ : ∃ n, Hid (bd.groups.length = n) := ⟨_, Lib.hid rfl⟩
          rw [Hn4.out] at hus hcc
          rw [Hn5.out] at hgs hcc
          have hbw := HBq.out.below Hb1.out hs0 l3.1
          have e0 : wr.cell? ⟨b, o + j * 6, none⟩ = some (.string bd.space) := (hbw.cell (p := ⟨b, _, none⟩) hbs).trans (by simpa using hcc 0 _ rfl)
          have e1 : wr.cell? ⟨b, o + j * 6 + 1, none⟩ = some (.string bd.name) := (hbw.cell (p := ⟨b, _, none⟩) hbs).trans (hcc 1 _ rfl)
          have e2 : wr.cell? ⟨b, o + j * 6 + 2, none⟩ = some (.string bd.role) := (hbw.cell (p := ⟨b, _, none⟩) hbs).trans (hcc 2 _ rfl)
          have e3 : wr.cell? ⟨b, o + j * 6 + 3, none⟩ = some (.bool bd.whole) := (hbw.cell (p := ⟨b, _, none⟩) hbs).trans (hcc 3 _ rfl)
          have e4 : wr.cell? ⟨b, o + j * 6 + 4, none⟩ = some (.slice a4 n4 c4) := (hbw.cell (p := ⟨b, _, none⟩) hbs).trans (hcc 4 _ rfl)
          have e5 : wr.cell? ⟨b, o + j * 6 + 5, none⟩ = some (.slice a5 n5 c5) := (hbw.cell (p := ⟨b, _, none⟩) hbs).trans (hcc 5 _ rfl)
          have q1 : (0 : Int) ≤ (j : Int) := by omega
          have q2 : (j : Int) < (nb : Int) := by omega
          have hokb := Okb.out bd (List.mem_of_getElem? hbj)
          obtain ⟨w2, hw2⟩ : ∃ w2, w2 = wr.alloc (.cells #[.string bd.space, .string bd.name, .string bd.role, .bool bd.whole, .slice a4 n4 c4, .slice a5 n5 c5] 71) := ⟨_, rfl⟩
          obtain ⟨g7, hg7⟩ : ∃ g7, g7 = wr.heap.size := ⟨_, rfl⟩
          have b7 : w2.heap[g7]? = some (.cells #[.string bd.space, .string bd.name, .string bd.role, .bool bd.whole, .slice a4 n4 c4, .slice a5 n5 c5] 71 (0, 0)) := by rw [hw2, hg7]; exact heap_alloc_new wr _
          have hb2 : Below wr.heap.size wr w2 := by rw [hw2]; exact (Below.refl _ wr).alloc (Nat.le_refl _) _
          have hs2 : g7 < w2.heap.size := by rw [hw2, hg7, World.size_alloc]; omega
          have S4 := Lib.hid ((hus.below' hbw).below' hb2)
          have S5 := Lib.hid ((hgs.below' hbw).below' hb2)
          have HR2 := Lib.hid (HOr.out.belowX (texRole_staysX (T := 69) (by decide) (by decide) _) hb2)
          have HO2 := Lib.hid (HOb.out.belowX (texBind_staysX (T := 71) (by decide) _) hb2)
          have HB2 := Lib.hid (HBq.out.trans (But.of hb2))
          have HG2 := Lib.hid (below_block hb2 Hg4.out)
          have Hne : Hid (∀ q, (Value.slice ua j uc).ownBlock = some q → q ≠ g7) := Lib.hid (fun q hq => by have := (HOb.out.at hq).2.1; omega)
          have Hbj := Lib.hid hbj
          have hgg : g3 ≠ g7 := by omega
          have hsb := hb2.size
          have hg7w : w1.heap.size ≤ g7 := by omega
          have B7 := Lib.hid b7
          have Hokb := Lib.hid hokb
          clear hcc hcell hus hgs hbj hb2 hokb hbw HOb HOr Hg4 HBq b7
          go_upto_region 11 with fail
          rw [← hw2, ← hg7]
          clear hw2 hg7 e0 e1 e2 e3 e4 e5
          refine wp_region_relK 7 (fun w' => Below w2.heap.size w2 w') (fun _ wa wb => Below wa.heap.size wa wb) (fun q U w' => match q with
            | 0 => U 0 = .pointer (some ⟨g7, 4, none⟩)
            | 1 => U 1 = .slice a4 n4 c4
            | 2 => TxtAt w1.heap.size w' (U 2) bd.users
            | 3 => U 3 = .pointer (some ⟨g7, 5, none⟩)
            | 4 => U 4 = .slice a5 n5 c5
            | 5 => TxtAt w1.heap.size w' (U 5) bd.groups
            | 6 => U 6 = .pointer (some ⟨g7, 4, none⟩)
            | _ => True)
            (fun | 1 => [0] | 2 => [1] | 4 => [3] | 5 => [4] | _ => []) (by kernel_rfl) (by kernel_rfl) (Below.refl _ _).drew (fun _ _ _ hk hi => below_then hi hk) ?_ ⟨?_, ?_, ?_, ?_, ?_, ?_, ?_, trivial⟩ ?_
          · intro i' q U wa wb hji hk hi h
            match q, h with
            | 0, h => exact h
            | 1, h => exact h
            | 2, h => exact TxtAt.below h hk
            | 3, h => exact h
            | 4, h => exact h
            | 5, h => exact TxtAt.below h hk
            | 6, h => exact h
            | _ + 7, h => trivial
          · intro y w' hb hd
            refine owesK_here (.pointer (some ⟨g7, 4, none⟩)) (by rfl) ?_ rfl (Below.refl _ _)
            simp only [putAll, List.take_succ_cons, List.take_zero]
            go_simp
          · intro y w' hb hd
            have h0 : y 0 = .pointer (some ⟨g7, 4, none⟩) := hd 0 (by simp)
            have d0 := (hb.block g7 hs2).trans B7.out
            have cc := fun i => cell_block d0 i
            clear d0
            refine owesK_here (.slice a4 n4 c4) (by rfl) ?_ rfl (Below.refl _ _)
            simp only [putAll, List.take_succ_cons, List.take_zero]
            go_simp
          · intro y w' hb hd
            have h0 : y 1 = .slice a4 n4 c4 := hd 1 (by simp)
            have hsz := hb.size
            refine owesK_call 30 #[.slice a4 n4 c4] (by rfl) ?_ ((texts_any _ bd.users w' (S4.out.below' hb) Hokb.out.2.2.2.1.1).mono ?_)
            · simp only [putAll, List.take_succ_cons, List.take_zero]
              go_simp
            · rintro _ w3 ⟨g, rfl, hg, hbg, hb3⟩
              exact ⟨_, rfl, ⟨g, rfl, by omega, hbg⟩, hb3⟩
          · intro y w' hb hd
            refine owesK_here (.pointer (some ⟨g7, 5, none⟩)) (by rfl) ?_ rfl (Below.refl _ _)
            simp only [putAll, List.take_succ_cons, List.take_zero]
            go_simp
          · intro y w' hb hd
            have h0 : y 3 = .pointer (some ⟨g7, 5, none⟩) := hd 3 (by simp)
            have d0 := (hb.block g7 hs2).trans B7.out
            have cc := fun i => cell_block d0 i
            clear d0
            refine owesK_here (.slice a5 n5 c5) (by rfl) ?_ rfl (Below.refl _ _)
            simp only [putAll, List.take_succ_cons, List.take_zero]
            go_simp
          · intro y w' hb hd
            have h0 : y 4 = .slice a5 n5 c5 := hd 4 (by simp)
            have hsz := hb.size
            refine owesK_call 30 #[.slice a5 n5 c5] (by rfl) ?_ ((texts_any _ bd.groups w' (S5.out.below' hb) Hokb.out.2.2.2.2.1).mono ?_)
            · simp only [putAll, List.take_succ_cons, List.take_zero]
              go_simp
            · rintro _ w3 ⟨g, rfl, hg, hbg, hb3⟩
              exact ⟨_, rfl, ⟨g, rfl, by omega, hbg⟩, hb3⟩
          · intro y w' hb hd
            refine owesK_here (.pointer (some ⟨g7, 4, none⟩)) (by rfl) ?_ rfl (Below.refl _ _)
            simp only [putAll, List.take_succ_cons, List.take_zero]
            go_simp
          · intro y w' hb hR
            obtain ⟨k4, D4, hk4, hc4⟩ : TxtAt w1.heap.size w' (y 2) bd.users := hR 2 (by omega)
            obtain ⟨k5, D5, hk5, hc5⟩ : TxtAt w1.heap.size w' (y 5) bd.groups := hR 5 (by omega)
            have h6 : y 6 = .pointer (some ⟨g7, 4, none⟩) := hR 6 (by omega)
            rw [Hn4.out] at D4
            rw [Hn5.out] at D5
            have b7 := below_block hb B7.out
            have HR3 := Lib.hid (HR2.out.belowX (texRole_staysX (T := 69) (by decide) (by decide) _) hb)
            have HO3 := Lib.hid (HO2.out.belowX (texBind_staysX (T := 71) (by decide) _) hb)
            have HB3 := Lib.hid (HB2.out.trans (But.of hb))
            have HG3 := Lib.hid (below_block hb HG2.out)
            obtain ⟨t1, t2⟩ := touch_setCell (i := 4) (v := .slice (some ⟨k4, 0, none⟩) n4 (n4 + 2)) b7
            have t1' : (World.setCell w' ⟨g7, 4, none⟩ (.slice (some ⟨k4, 0, none⟩) n4 (n4 + 2))).heap[g7]? = some (.cells #[.string bd.space, .string bd.name, .string bd.role, .bool bd.whole, .slice (some ⟨k4, 0, none⟩) n4 (n4 + 2), .slice a5 n5 c5] 71 (0, 0)) := t1
            obtain ⟨t3, t4⟩ := touch_setCell (i := 5) (v := .slice (some ⟨k5, 0, none⟩) n5 (n5 + 2)) t1'
            have f7 := fun q => free_block b7 q
            have d7 := fun q => cell_block b7 q
            have f8 := fun q => free_block t1' q
            have d8 := fun q => cell_block t1' q
            clear hR hb HR2 HO2 HB2 HG2
            simp only [putAll, List.take_succ_cons, List.take_zero, List.drop_succ_cons, List.drop_zero]
            rw [h6, D4, D5]
            clear h6 D4 D5
            try simp only [Act.put, List.setIfInBounds_toArray, List.set_cons_zero, List.set_cons_succ]
            go_upto_region 12 with fail
            have t3' : (World.setCell (World.setCell w' ⟨g7, 4, none⟩ (.slice (some ⟨k4, 0, none⟩) n4 (n4 + 2))) ⟨g7, 5, none⟩ (.slice (some ⟨k5, 0, none⟩) n5 (n5 + 2))).heap[g7]? = some (.cells #[.string bd.space, .string bd.name, .string bd.role, .bool bd.whole, .slice (some ⟨k4, 0, none⟩) n4 (n4 + 2), .slice (some ⟨k5, 0, none⟩) n5 (n5 + 2)] 71 (0, 0)) := t3
            generalize World.setCell (World.setCell w' ⟨g7, 4, none⟩ (.slice (some ⟨k4, 0, none⟩) n4 (n4 + 2))) ⟨g7, 5, none⟩ (.slice (some ⟨k5, 0, none⟩) n5 (n5 + 2)) = w4 at t3 t3' t4 ⊢
            generalize World.setCell w' ⟨g7, 4, none⟩ (.slice (some ⟨k4, 0, none⟩) n4 (n4 + 2)) = w3 at t1 t1' t2 t4 f8 d8
            have hb34 : But g7 w' w4 := (But.touch t2).trans (But.touch t4)
            have B8 := Lib.hid t3'
            have HR4 := Lib.hid (own_touch (texRole_staysX (T := 71) (by decide) (by decide) _) HR3.out hb34 b7 (own_apart HR3.out b7 (by decide)))
            have HO4 := Lib.hid (own_touch (texBind_staysX (T := 71) (by decide) _) HO3.out hb34 b7 Hne.out)
            have HB4 := Lib.hid (but_new (but_new HB3.out t2 hg7w) t4 hg7w)
            have HG4 := Lib.hid (hb34.keep HG3.out hgg)
            have hne4 : k4 ≠ g7 := by rintro rfl; rw [b7] at hc4; have h9 := Option.some.inj hc4; injection h9 with _ h2; exact absurd h2 (by decide)
            have hne5 : k5 ≠ g7 := by rintro rfl; rw [b7] at hc5; have h9 := Option.some.inj hc5; injection h9 with _ h2; exact absurd h2 (by decide)
            have HC4 := Lib.hid (hb34.keep hc4 hne4)
            have HC5 := Lib.hid (hb34.keep hc5 hne5)
            clear t1 t1' t2 t3 t3' t4 f7 f8 d7 d8 hb34 HR3 HO3 HB3 HG3 hc4 hc5 b7
            have c3 := fun q => cell_block B8.out q
            have c4' := fun q => cell_block HG4.out q
            have hb5 := (Below.refl w4.heap.size w4).alloc (Nat.le_refl _) (.cells #[.string bd.space, .string bd.name, .string bd.role, .bool bd.whole, .slice (some ⟨k4, 0, none⟩) n4 (n4 + 2), .slice (some ⟨k5, 0, none⟩) n5 (n5 + 2)] 71)
            have HR5 := Lib.hid (HR4.out.belowX (texRole_staysX (T := 69) (by decide) (by decide) _) hb5)
            have HO5 := Lib.hid (HO4.out.belowX (texBind_staysX (T := 71) (by decide) _) hb5)
            have HX5 : Hid (TexBind w1.heap.size (w4.alloc (.cells #[.string bd.space, .string bd.name, .string bd.role, .bool bd.whole, .slice (some ⟨k4, 0, none⟩) n4 (n4 + 2), .slice (some ⟨k5, 0, none⟩) n5 (n5 + 2)] 71)) [.string bd.space, .string bd.name, .string bd.role, .bool bd.whole, .slice (some ⟨k4, 0, none⟩) n4 (n4 + 2), .slice (some ⟨k5, 0, none⟩) n5 (n5 + 2)] bd) := Lib.hid ⟨_, _, rfl, ⟨k4, by rw [Hn4.out], hk4, below_block hb5 HC4.out⟩, ⟨k5, by rw [Hn5.out], hk5, below_block hb5 HC5.out⟩⟩
            have HB5 := Lib.hid (but_then HB4.out (hb5.mono HB4.out.size))
            have HG5 := Lib.hid (below_block hb5 HG4.out)
            have hsz5 := HB5.out.size
            clear hb5 HR4 HO4 HB4 HC4 HC5
            go_wp2_with (at_builtin; refine wpList_append_ownAtX (R := TexBind w1.heap.size) (k := 6) (e := 71) (B := w1.heap.size) (l := x.binds.take j) (m := [bd]) _ (by rfl) _ _ _ (by rfl) i1 _ 104 Tryd.underlying38 hi1 hy0 hy1 hy2 rfl (by omega) (texBind_staysX (by decide) _) (texBind_one _) _ (by rfl) HO5.out (.slice (some ⟨w4.heap.size, 0, none⟩) 1 1) (by rfl) (RowAt.one (R := TexBind w1.heap.size) (k := 6) (cs := #[.string bd.space, .string bd.name, .string bd.role, .bool bd.whole, .slice (some ⟨k4, 0, none⟩) n4 (n4 + 2), .slice (some ⟨k5, 0, none⟩) n5 (n5 + 2)]) (heap_alloc_new w4 _) rfl HX5.out) (by rw [Hlen.out]; unfold maxLen; simp; omega) (by rw [Hlen.out]; simp; omega) hsz5 ?_)
            intro v' w6 hv' hgr _ _
            have G6 := (growO_of HO5.out hgr).same _ _ _ _ HG5.out (by decide)
            have HB6 := Lib.hid (but_then HB5.out ((growO_of HO5.out hgr).below (Below.refl w1.heap.size _) hsz5))
            have HR6 := Lib.hid (HR5.out.sameX (texRole_staysX (T := 71) (by decide) (by decide) _) (growO_of HO5.out hgr).same (by decide))
            obtain ⟨na, nc, rfl, _, _⟩ := hv'.row.len
            rw [List.length_append, Hlen.out, List.length_singleton] at hv' ⊢
            have f6 := fun q => free_block G6 q
            have d6 := fun q => cell_block G6 q
            obtain ⟨t1, t2⟩ := touch_setCell (i := 1) (v := .slice na (j + 1) nc) G6
            generalize hw7 : World.setCell w6 ⟨g3, 1, none⟩ (.slice na (j + 1) nc) = w7 at t1 t2
            have G7 : Hid (w7.heap[g3]? = some (.cells #[.slice va i vc, .slice na (j + 1) nc] 40 (0, 0))) := Lib.hid t1
            have HO7 := Lib.hid (own_touch (texBind_staysX (T := 40) (by decide) _) hv' (But.touch t2) G6 (own_apart hv' G6 (by decide)))
            have HO8 : Hid (OwnAt (TexBind w1.heap.size) 6 w7 w1.heap.size 71 (.slice na (j + 1) nc) (x.binds.take (j + 1))) := Lib.hid (by
              rw [List.take_add_one, Hbj.out]
              exact HO7.out)
            have HR7 := Lib.hid (own_touch (texRole_staysX (T := 40) (by decide) (by decide) _) HR6.out (But.touch t2) G6 (own_apart HR6.out G6 (by decide)))
            have HB7 := Lib.hid (HB6.out.trans (But.touch t2))
            clear t1 t2 hv' hgr HO5 HX5 HB5 HG5 c3 c4' HO7 HB6 G6 HR5 HR6
            go_upto_region 13 with fail
            try rw [hw7]
            clear hw7 f6 d6
            go_wp2_with fail
            go_roundg k
            case measure => omega
            case rel => exact ⟨j + 1, by omega, by go_num, _, G7, HR7, HO8, HB7⟩
    | succ k =>
      have hil : i < nr := by omega
      have hsw := Hbut.out.size
      obtain ⟨r, hri⟩ : ∃ r, x.roles[i]? = some r := ⟨x.roles[i]'(by rw [Hnr.out]; exact hil), List.getElem?_eq_getElem _⟩
      have Hlen : Hid ((x.roles.take i).length = i) := Lib.hid (by rw [List.length_take, Hnr.out]; omega)
      obtain ⟨va, vc, rfl, _, _⟩ := Hown.out.row.len
      rw [Hlen.out] at Hown Hg3
      obtain ⟨b, o, c', hv, _, _, hbs, hcell⟩ := HR.out.form (by rw [Hnr.out]; omega) (by omega)
      injection hv with u1 u2 u3
      subst u1
      clear u2 u3
      obtain ⟨ds, _, hcc, z2, hR, hrules⟩ := hcell i r hri
      subst hR
      obtain ⟨ra, rc, rfl, _, _⟩ := hrules.len
      obtain ⟨nn, Hnn⟩ : ∃ n, Hid (r.rules.length = n) := ⟨_, Lib.hid rfl⟩
      rw [Hnn.out] at hrules hcc
      have hbw := Hbut.out.below Hb1.out (by omega) (by omega)
      have e0 : wr.cell? ⟨b, o + i * 3, none⟩ = some (.string r.space) := (hbw.cell (p := ⟨b, _, none⟩) hbs).trans (by simpa using hcc 0 _ rfl)
      have e1 : wr.cell? ⟨b, o + i * 3 + 1, none⟩ = some (.string r.name) := (hbw.cell (p := ⟨b, _, none⟩) hbs).trans (hcc 1 _ rfl)
      have e2 : wr.cell? ⟨b, o + i * 3 + 2, none⟩ = some (.slice ra nn rc) := (hbw.cell (p := ⟨b, _, none⟩) hbs).trans (hcc 2 _ rfl)
      have q1 : (0 : Int) ≤ (i : Int) := by omega
      have q2 : (i : Int) < (nr : Int) := by omega
      have hokr := Okr.out r (List.mem_of_getElem? hri)
      obtain ⟨w2, hw2⟩ : ∃ w2, w2 = wr.alloc (.cells #[.string r.space, .string r.name, .slice ra nn rc] 69) := ⟨_, rfl⟩
      obtain ⟨g5, hg5⟩ : ∃ g5, g5 = wr.heap.size := ⟨_, rfl⟩
      have b5 : w2.heap[g5]? = some (.cells #[.string r.space, .string r.name, .slice ra nn rc] 69 (0, 0)) := by rw [hw2, hg5]; exact heap_alloc_new wr _
      have hb2 : Below wr.heap.size wr w2 := by rw [hw2]; exact (Below.refl _ wr).alloc (Nat.le_refl _) _
      have hs2 : g5 < w2.heap.size := by rw [hw2, hg5, World.size_alloc]; omega
      have HT := Lib.hid (keepRules_any (.slice ra nn rc) r.rules w2 ((hrules.below stays_rule hbw).below stays_rule hb2) hokr.2.2.1 hokr.2.2.2)
      have HO2 := Lib.hid (Hown.out.belowX (texRole_staysX (T := 69) (by decide) (by decide) _) hb2)
      have HB2 := Lib.hid (Hbut.out.trans (But.of hb2))
      have HG2 := Lib.hid (below_block hb2 Hg3.out)
      have Hne : Hid (∀ q, (Value.slice va i vc).ownBlock = some q → q ≠ g5) := Lib.hid (fun q hq => by have := (Hown.out.at hq).2.1; omega)
      have Hri := Lib.hid hri
      have hgg : g3 ≠ g5 := by omega
      have hsb := hb2.size
      have hg5w : w1.heap.size ≤ g5 := by omega
      have cc := fun i => cell_block b5 i
      clear hcc hcell hrules hri hb2 hokr hbw Hown Hg3 Hbut
      go_upto_region 5 with fail
      rw [← hw2, ← hg5]
      clear hw2 hg5 e0 e1 e2
      go_wp2_with fail
      refine HT.out.mono ?_
      rintro E w3 ⟨v3, rfl, hown3, hb3⟩
      obtain ⟨ta, tc, rfl, _, _⟩ := hown3.row.len
      rw [Hnn.out] at hown3 ⊢
      have b6 := below_block hb3 b5
      have hs3 := hb3.size
      have HO3 := Lib.hid (HO2.out.belowX (texRole_staysX (T := 69) (by decide) (by decide) _) hb3)
      have HB3 := Lib.hid (HB2.out.trans (But.of hb3))
      have HG3 := Lib.hid (below_block hb3 HG2.out)
      have f2 := fun i => free_block b6 i
      have d2 := fun i => cell_block b6 i
      obtain ⟨t1, t2⟩ := touch_setCell (i := 2) (v := .slice ta nn tc) b6
      generalize hw4 : World.setCell w3 ⟨g5, 2, none⟩ (.slice ta nn tc) = w4 at t1 t2
      have B5 : Hid (w4.heap[g5]? = some (.cells #[.string r.space, .string r.name, .slice ta nn tc] 69 (0, 0))) := Lib.hid t1
      have HO4 := Lib.hid (own_touch (texRole_staysX (T := 69) (by decide) (by decide) _) HO3.out (But.touch t2) b6 Hne.out)
      have HX4 := Lib.hid (((hown3.sameX (texRule_staysX (T := 69) (by decide) _) (sameBut_but (But.touch t2) b6) (by decide)).mono (B' := w1.heap.size) (by omega)).imp fun cs q h => texRule_mono (B' := w1.heap.size) (by omega) h)
      have HB4 := Lib.hid (but_new HB3.out t2 (by omega))
      have HG4 := Lib.hid ((But.touch t2).keep HG3.out hgg)
      have hs4 : w3.heap.size ≤ w4.heap.size := by rw [t2.size]; exact Nat.le_refl _
      clear cc hb3 t1 t2 HT HO2 HO3 HB2 HB3 HG2 HG3 hown3 b5 b6
      go_upto_region 6 with fail
      try rw [hw4]
      clear hw4 f2 d2
      have c3 := fun i => cell_block B5.out i
      have c4 := fun i => cell_block HG4.out i
      have hb5 := (Below.refl w4.heap.size w4).alloc (Nat.le_refl _) (.cells #[.string r.space, .string r.name, .slice ta nn tc] 69)
      have HO5 := Lib.hid (HO4.out.belowX (texRole_staysX (T := 69) (by decide) (by decide) _) hb5)
      have HX5 : Hid (TexRole w1.heap.size (w4.alloc (.cells #[.string r.space, .string r.name, .slice ta nn tc] 69)) [.string r.space, .string r.name, .slice ta nn tc] r) := Lib.hid ⟨_, rfl, HX4.out.belowX (texRule_staysX (by decide) _) hb5⟩
      have HB5 := Lib.hid (but_then HB4.out (hb5.mono HB4.out.size))
      have HG5 := Lib.hid (below_block hb5 HG4.out)
      have hsz5 := HB5.out.size
      clear hb5 HO4 HX4 HB4
      go_wp2_with (at_builtin; refine wpList_append_ownAtX (R := TexRole w1.heap.size) (k := 3) (e := 69) (B := w1.heap.size) (l := x.roles.take i) (m := [r]) _ (by rfl) _ _ _ (by rfl) i0 _ 56 Tryd.underlying37 hi0 hz0 hz1 hz2 rfl (by omega) (texRole_staysX (by decide) (by decide) _) (texRole_one _) _ (by rfl) HO5.out (.slice (some ⟨w4.heap.size, 0, none⟩) 1 1) (by rfl) (RowAt.one (R := TexRole w1.heap.size) (k := 3) (cs := #[.string r.space, .string r.name, .slice ta nn tc]) (heap_alloc_new w4 _) rfl HX5.out) (by rw [Hlen.out]; unfold maxLen; simp; omega) (by rw [Hlen.out]; simp; omega) hsz5 ?_)
      intro v' w6 hv' hgr _ _
      have G6 := (growO_of HO5.out hgr).same _ _ _ _ HG5.out (by decide)
      have HB6 := Lib.hid (but_then HB5.out ((growO_of HO5.out hgr).below (Below.refl w1.heap.size _) hsz5))
      obtain ⟨na, nc, rfl, _, _⟩ := hv'.row.len
      rw [List.length_append, Hlen.out, List.length_singleton] at hv' ⊢
      have f6 := fun i => free_block G6 i
      have d6 := fun i => cell_block G6 i
      obtain ⟨t1, t2⟩ := touch_setCell (i := 0) (v := .slice na (i + 1) nc) G6
      generalize hw7 : World.setCell w6 ⟨g3, 0, none⟩ (.slice na (i + 1) nc) = w7 at t1 t2
      have G7 : Hid (w7.heap[g3]? = some (.cells #[.slice na (i + 1) nc, .slice none 0 0] 40 (0, 0))) := Lib.hid t1
      have HO7 := Lib.hid (own_touch (texRole_staysX (T := 40) (by decide) (by decide) _) hv' (But.touch t2) G6 (own_apart hv' G6 (by decide)))
      have HO8 : Hid (OwnAt (TexRole w1.heap.size) 3 w7 w1.heap.size 69 (.slice na (i + 1) nc) (x.roles.take (i + 1))) := Lib.hid (by
        rw [List.take_add_one, Hri.out]
        exact HO7.out)
      have HB7 := Lib.hid (HB6.out.trans (But.touch t2))
      clear t1 t2 hv' hgr HO5 HX5 HB5 HG5 c3 c4 HO7 HB6 G6
      go_upto_region 7 with fail
      try rw [hw7]
      clear hw7 f6 d6
      go_wp2_with fail
      go_roundg k
      case measure => omega
      case rel => exact ⟨i + 1, by omega, by go_num, _, G7, HO8, HB7⟩
end Go.Proofs.YtkmonmdnmpbadaaDoor
namespace Go.Proofs.YtkmonmdnmpbadaaDoor
open Go.RowKit
/-- a rule whose texts are the call's own -/
def RuleO (B : Nat) : Rd GRule := fun w cs x => ∃ v0 v1 v2, cs = [v0, v1, v2] ∧ OwnAt RString 1 w B 9 v0 x.verbs ∧ OwnAt RString 1 w B 9 v1 x.kinds ∧ OwnAt RString 1 w B 9 v2 x.names
theorem ruleO_stays (B : Nat) : StaysX 44 (RuleO B) := fun w w' cs x hs ⟨v0, v1, v2, h1, h2, h3, h4⟩ =>
  have st : StaysX 44 RString := fun _ _ _ _ _ h => h
  ⟨v0, v1, v2, h1, h2.sameX st hs (by decide), h3.sameX st hs (by decide), h4.sameX st hs (by decide)⟩
theorem ruleO_mono {B B' : Nat} (hB : B' ≤ B) {w : World} {cs : List Value} {x : GRule} (h : RuleO B w cs x) : RuleO B' w cs x :=
  let ⟨v0, v1, v2, h1, h2, h3, h4⟩ := h; ⟨v0, v1, v2, h1, h2.mono hB, h3.mono hB, h4.mono hB⟩
theorem ruleO_rule {B : Nat} (w : World) (cs : List Value) (x : GRule) (h : RuleO B w cs x) : RuleR w cs x := by
  obtain ⟨v0, v1, v2, h, g0, g1, g2⟩ := h
  exact ⟨v0, v1, v2, h, g0.row.strs, g1.row.strs, g2.row.strs⟩
theorem one_ruleO (B : Nat) : OneR (RuleO B) := fun w cs x h u hu => one_rule w cs x (ruleO_rule w cs x h) u hu
def HeldO (p : Int × List GRule) (w : World) (e : Ending) (w' : World) : Prop := ∃ v', e = .returned (.tuple #[v', .int .i64 p.1]) ∧ OwnAt (RuleO w.heap.size) 3 w' w.heap.size 44 v' p.2 ∧ Below w.heap.size w w'
set_option maxRecDepth 100000 in
set_option maxHeartbeats 1600000 in
theorem copiedO_any (v : Value) (l : List GRule) (w : World) (h : RowAt RuleR 3 w v l) (hok : ∀ r ∈ l, okRule r) (hl : l.length ≤ 1048576) :
    Calls Tryd.prog 32 #[v] w fun e w' => ∃ v', e = .returned v' ∧ OwnAt (RuleO w.heap.size) 3 w' w.heap.size 44 v' l ∧ Below w.heap.size w w' := by
  obtain ⟨a1, c1, rfl, _, _⟩ := h.len
  have H := Lib.hid h
  have Hok := Lib.hid hok
  obtain ⟨i0, hi0, hz0, hz1, hz2⟩ := info_parts Tryd.infoRule
  clear h hok
  go_enter Tryd.func32, Tryd.ntmps32
  go_wp2_with fail
  go_loopg [8, 3] l.length (fun k u8 u3 wr => ∃ i : Nat, i + k = l.length ∧ u8 = .int .i64 (i : Int) ∧ Hid (OwnAt (RuleO w.heap.size) 3 wr w.heap.size 44 u3 (l.take i)) ∧ Hid (Below w.heap.size w wr))
  case atStart => exact ⟨0, by omega, rfl, Lib.hid (by rw [List.take_zero]; exact OwnAt.nil _), Lib.hid (Below.refl _ _)⟩
  case round =>
    obtain ⟨i, hig, rfl, Hown, Hbel⟩ := hrel
    have hsw := Hbel.out.size
    cases gk with
    | zero =>
      obtain rfl : i = l.length := by omega
      have h9 := Hown.out
      rw [List.take_of_length_le (Nat.le_refl _)] at h9
      have Hend := Lib.hid h9
      clear h9 Hown
      go_wp2_with fail
      go_ret
      exact ⟨_, rfl, Hend.out, Hbel.out⟩
    | succ k =>
      have hil : i < l.length := by omega
      obtain ⟨x, hxi⟩ : ∃ x, l[i]? = some x := ⟨l[i]'(by omega), List.getElem?_eq_getElem _⟩
      obtain ⟨bk, o, c', hv, _, _, hbs, hcell⟩ := H.out.form (by omega) (by omega)
      cases hv
      obtain ⟨ds, _, hcc, hR⟩ := hcell i x hxi
      obtain ⟨y0, y1, y2, rfl, s0, s1, s2⟩ := hR
      obtain ⟨a0', c0', rfl, _, _⟩ := s0.row.len
      obtain ⟨a1', c1', rfl, _, _⟩ := s1.row.len
      obtain ⟨a2', c2', rfl, _, _⟩ := s2.row.len
      have e0 : wr.cell? ⟨bk, o + i * 3, none⟩ = some (.slice a0' x.verbs.length c0') := (Hbel.out.cell (p := ⟨bk, _, none⟩) hbs).trans (by simpa using hcc 0 _ rfl)
      have e1 : wr.cell? ⟨bk, o + i * 3 + 1, none⟩ = some (.slice a1' x.kinds.length c1') := (Hbel.out.cell (p := ⟨bk, _, none⟩) hbs).trans (hcc 1 _ rfl)
      have e2 : wr.cell? ⟨bk, o + i * 3 + 2, none⟩ = some (.slice a2' x.names.length c2') := (Hbel.out.cell (p := ⟨bk, _, none⟩) hbs).trans (hcc 2 _ rfl)
      have q1 : (0 : Int) ≤ (i : Int) := by omega
      have q2 : (i : Int) < (l.length : Int) := by omega
      obtain ⟨⟨o0, _⟩, ⟨o1, _⟩, ⟨o2, _⟩⟩ := Hok.out x (List.mem_of_getElem? hxi)
      have S0 := Lib.hid s0
      have S1 := Lib.hid s1
      have S2 := Lib.hid s2
      have htk : l.take (i + 1) = l.take i ++ [x] := by rw [List.take_add_one, hxi]; rfl
      have Htk := Lib.hid htk
      have hlt : (l.take i).length = i := by rw [List.length_take]; omega
      have Hlt := Lib.hid hlt
      obtain ⟨n0, Hn0⟩ : ∃ n, Hid (x.verbs.length = n) := ⟨_, Lib.hid rfl⟩
      obtain ⟨n1, Hn1⟩ : ∃ n, Hid (x.kinds.length = n) := ⟨_, Lib.hid rfl⟩
      obtain ⟨n2, Hn2⟩ : ∃ n, Hid (x.names.length = n) := ⟨_, Lib.hid rfl⟩
      rw [Hn0.out] at e0 S0
      rw [Hn1.out] at e1 S1
      rw [Hn2.out] at e2 S2
      clear hcc hcell hxi s0 s1 s2 htk hlt
      go_upto_region 5 with fail
      obtain ⟨W, hW⟩ : ∃ W, W = wr.alloc (.cells #[.slice a0' n0 c0', .slice a1' n1 c1', .slice a2' n2 c2'] 44) := ⟨_, rfl⟩
      obtain ⟨gb, hgb⟩ : ∃ gb, gb = wr.heap.size := ⟨_, rfl⟩
      rw [← hW, ← hgb]
      have c0 : W.heap[gb]? = some (.cells #[.slice a0' n0 c0', .slice a1' n1 c1', .slice a2' n2 c2'] 44 (0, 0)) := by rw [hW, hgb]; exact heap_alloc_new wr _
      have hWs : gb < W.heap.size := by rw [hW, hgb]; simp
      have hb5 : Below wr.heap.size wr W := by rw [hW]; exact (Below.refl _ _).alloc (Nat.le_refl _) _
      have hWb : Below w.heap.size w W := Hbel.out.trans (hb5.mono hsw)
      have hWw : w.heap.size ≤ W.heap.size := hWb.size
      have HownW := Lib.hid (Hown.out.belowX (ruleO_stays _) hb5)
      have hne5 : ∀ g, u3.ownBlock = some g → g ≠ gb := fun g hg => by have := (Hown.out.at hg).2.1; omega
      have Hne5 := Lib.hid hne5
      have HWb := Lib.hid hWb
      clear hW hgb hb5 Hown e0 e1 e2 hne5 hWb
      refine wp_region_relB 12 (fun i u w' => match i with
        | 0 => u 0 = u3 | 1 => u 1 = .pointer (some ⟨gb, 0, none⟩) | 2 => u 2 = .slice a0' n0 c0' | 3 => OwnAt RString 1 w' W.heap.size 9 (u 3) x.verbs
        | 4 => u 4 = .pointer (some ⟨gb, 1, none⟩) | 5 => u 5 = .slice a1' n1 c1' | 6 => OwnAt RString 1 w' W.heap.size 9 (u 6) x.kinds
        | 7 => u 7 = .pointer (some ⟨gb, 2, none⟩) | 8 => u 8 = .slice a2' n2 c2' | 9 => OwnAt RString 1 w' W.heap.size 9 (u 9) x.names
        | 10 => ∃ c0 c1 c2 : Value, u 10 = .agg #[c0, c1, c2] ∧ RuleO w.heap.size w' [c0, c1, c2] x | 11 => RowAt (RuleO w.heap.size) 3 w' (u 11) [x]
        | _ => True)
        (fun | 2 => [1] | 3 => [2] | 5 => [4] | 6 => [5] | 8 => [7] | 9 => [8] | 10 => [3, 6, 9] | 11 => [10] | _ => []) (by kernel_rfl) (by kernel_rfl) ?_ ⟨?_, ?_, ?_, ?_, ?_, ?_, ?_, ?_, ?_, ?_, ?_, ?_, trivial⟩ ?_
      · intro j v w1 w2 hb h
        match j, h with
        | 0, h => exact h
        | 1, h => exact h
        | 2, h => exact h
        | 3, h => exact OwnAt.below stays_string h hb
        | 4, h => exact h
        | 5, h => exact h
        | 6, h => exact OwnAt.below stays_string h hb
        | 7, h => exact h
        | 8, h => exact h
        | 9, h => exact OwnAt.below stays_string h hb
        | 10, ⟨c0, c1, c2, h1, h2⟩ => exact ⟨c0, c1, c2, h1, (ruleO_stays _) _ _ _ _ (sameBut_below hb) h2⟩
        | 11, h => exact RowAt.belowX (ruleO_stays _) h hb
        | _ + 12, h => trivial
      · intro x' w' hb hd
        refine owes_here u3 (by rfl) ?_ rfl
        simp only [putAll, List.take_succ_cons, List.take_zero]
        go_simp
      · intro x' w' hb hd
        refine owes_here (.pointer (some ⟨gb, 0, none⟩)) (by rfl) ?_ rfl
        simp only [putAll, List.take_succ_cons, List.take_zero]
        go_simp
      · intro x' w' hb hd
        have h0 : x' 1 = .pointer (some ⟨gb, 0, none⟩) := hd 1 (by simp)
        have d0 := (hb.block gb (by show gb < W.heap.size; omega)).trans c0
        refine owes_here (.slice a0' n0 c0') (by rfl) ?_ rfl
        simp only [putAll, List.take_succ_cons, List.take_zero]
        have e3 := cell_block d0 0
        go_simp
      · intro x' w' hb hd
        have h0 : x' 2 = .slice a0' n0 c0' := hd 2 (by simp)
        have hb2 : Below w.heap.size w w' := HWb.out.drew.trans (hb.mono (by show w.heap.size ≤ W.heap.size; omega))
        refine owes_call 57 #[.slice a0' n0 c0'] (by rfl) ?_ ((cloneTexts_any _ _ w' (S0.out.below' hb2) (by omega)).mono ?_)
        · simp only [putAll, List.take_succ_cons, List.take_zero]
          go_simp
        · rintro _ w2 ⟨v2, rfl, ho, hb3⟩
          exact ⟨v2, rfl, ho.mono (by have h9 : W.heap.size ≤ w'.heap.size := hb.size; omega), hb3⟩
      · intro x' w' hb hd
        refine owes_here (.pointer (some ⟨gb, 1, none⟩)) (by rfl) ?_ rfl
        simp only [putAll, List.take_succ_cons, List.take_zero]
        go_simp
      · intro x' w' hb hd
        have h0 : x' 4 = .pointer (some ⟨gb, 1, none⟩) := hd 4 (by simp)
        have d0 := (hb.block gb (by show gb < W.heap.size; omega)).trans c0
        refine owes_here (.slice a1' n1 c1') (by rfl) ?_ rfl
        simp only [putAll, List.take_succ_cons, List.take_zero]
        have e3 := cell_block d0 1
        go_simp
      · intro x' w' hb hd
        have h0 : x' 5 = .slice a1' n1 c1' := hd 5 (by simp)
        have hb2 : Below w.heap.size w w' := HWb.out.drew.trans (hb.mono (by show w.heap.size ≤ W.heap.size; omega))
        refine owes_call 57 #[.slice a1' n1 c1'] (by rfl) ?_ ((cloneTexts_any _ _ w' (S1.out.below' hb2) (by omega)).mono ?_)
        · simp only [putAll, List.take_succ_cons, List.take_zero]
          go_simp
        · rintro _ w2 ⟨v2, rfl, ho, hb3⟩
          exact ⟨v2, rfl, ho.mono (by have h9 : W.heap.size ≤ w'.heap.size := hb.size; omega), hb3⟩
      · intro x' w' hb hd
        refine owes_here (.pointer (some ⟨gb, 2, none⟩)) (by rfl) ?_ rfl
        simp only [putAll, List.take_succ_cons, List.take_zero]
        go_simp
      · intro x' w' hb hd
        have h0 : x' 7 = .pointer (some ⟨gb, 2, none⟩) := hd 7 (by simp)
        have d0 := (hb.block gb (by show gb < W.heap.size; omega)).trans c0
        refine owes_here (.slice a2' n2 c2') (by rfl) ?_ rfl
        simp only [putAll, List.take_succ_cons, List.take_zero]
        have e3 := cell_block d0 2
        go_simp
      · intro x' w' hb hd
        have h0 : x' 8 = .slice a2' n2 c2' := hd 8 (by simp)
        have hb2 : Below w.heap.size w w' := HWb.out.drew.trans (hb.mono (by show w.heap.size ≤ W.heap.size; omega))
        refine owes_call 57 #[.slice a2' n2 c2'] (by rfl) ?_ ((cloneTexts_any _ _ w' (S2.out.below' hb2) (by omega)).mono ?_)
        · simp only [putAll, List.take_succ_cons, List.take_zero]
          go_simp
        · rintro _ w2 ⟨v2, rfl, ho, hb3⟩
          exact ⟨v2, rfl, ho.mono (by have h9 : W.heap.size ≤ w'.heap.size := hb.size; omega), hb3⟩
      · intro x' w' hb hd
        have h3 : OwnAt RString 1 w' W.heap.size 9 (x' 3) x.verbs := hd 3 (by simp)
        have h6 : OwnAt RString 1 w' W.heap.size 9 (x' 6) x.kinds := hd 6 (by simp)
        have h9 : OwnAt RString 1 w' W.heap.size 9 (x' 9) x.names := hd 9 (by simp)
        obtain ⟨a3, q3, E3, _, _⟩ := h3.row.len
        obtain ⟨a6, q6, E6, _, _⟩ := h6.row.len
        obtain ⟨a9, q9, E9, _, _⟩ := h9.row.len
        refine owes_here (.agg #[x' 3, x' 6, x' 9]) (by rfl) ?_ ⟨_, _, _, rfl, _, _, _, rfl, h3.mono (by omega), h6.mono (by omega), h9.mono (by omega)⟩
        clear h3 h6 h9 hd
        simp only [putAll, List.take_succ_cons, List.take_zero]
        rw [E3, E6, E9]
        go_simp
      · intro x' w' hb hd
        obtain ⟨d0, d1, d2, h10, hx⟩ : ∃ c0 c1 c2 : Value, x' 10 = .agg #[c0, c1, c2] ∧ RuleO w.heap.size w' [c0, c1, c2] x := hd 10 (by simp)
        have hx2 := hx
        obtain ⟨_, _, _, hcs, g0, g1, g2⟩ := hx
        simp only [List.cons.injEq, and_true] at hcs
        obtain ⟨rfl, rfl, rfl⟩ := hcs
        obtain ⟨a3, q3, rfl, _, _⟩ := g0.row.len
        obtain ⟨a6, q6, rfl, _, _⟩ := g1.row.len
        obtain ⟨a9, q9, rfl, _, _⟩ := g2.row.len
        refine owes_makes (w' := w'.alloc (.cells #[.slice a3 x.verbs.length q3, .slice a6 x.kinds.length q6, .slice a9 x.names.length q9] 44)) (.slice (some ⟨w'.heap.size, 0, none⟩) 1 1) (by rfl) ?_ (RowAt.one (heap_alloc_new w' _) rfl ((ruleO_stays _) _ _ _ _ (sameBut_below ((Below.refl _ w').alloc (Nat.le_refl _) _)) hx2)) ((Below.refl _ w').alloc (Nat.le_refl _) _)
        clear g0 g1 g2 hd hx2
        simp only [putAll, List.take_succ_cons, List.take_zero]
        rw [h10]
        go_simp
      · intro x' w' hb hR
        have h0 : x' 0 = u3 := hR 0 (by omega)
        have h11 : RowAt (RuleO w.heap.size) 3 w' (x' 11) [x] := hR 11 (by omega)
        have hbW : Below W.heap.size W w' := by have := hb; exact (Below.refl _ W).drew.trans hb
        obtain ⟨g, q, E11, _, _⟩ := h11.len
        rw [E11] at h11
        have Hown2 := Lib.hid (HownW.out.belowX (ruleO_stays _) hbW)
        have Hbel2 := Lib.hid (HWb.out.trans (hbW.mono hWw))
        have hsz : w.heap.size ≤ w'.heap.size := Hbel2.out.size
        have H11 := Lib.hid h11
        clear hR h11 hb hbW
        simp only [putAll, List.take_succ_cons, List.take_zero, List.drop_succ_cons, List.drop_zero]
        rw [h0, E11]
        clear h0 E11
        try simp only [Act.put, List.setIfInBounds_toArray, List.set_cons_zero, List.set_cons_succ]
        go_wp2_with (at_builtin; refine wpList_append_ownAtX (R := RuleO w.heap.size) (k := 3) (e := 44) (B := w.heap.size) (l := l.take i) (m := [x]) _ (by rfl) _ _ _ (by rfl) i0 _ 72 Tryd.underlying46 hi0 hz0 hz1 hz2 rfl (by omega) (ruleO_stays _) (one_ruleO _) _ (by rfl) Hown2.out _ (by rfl) H11.out (by unfold maxLen; rw [Hlt.out]; simp; omega) (by rw [Hlt.out]; simp; omega) hsz ?_)
        intro v' w9 hown9 hg9 hr9 _
        have Hbel9 := Lib.hid (below_of_grown Hbel2.out hsz hg9 hr9)
        have Hfin : Hid (OwnAt (RuleO w.heap.size) 3 w9 w.heap.size 44 v' (l.take (i + 1))) := Lib.hid (by rw [Htk.out]; exact hown9)
        clear hown9 hg9 hr9 H11 Hown2 Hbel2
        go_wp2_with fail
        go_roundg k
        case measure => omega
        case rel => exact ⟨i + 1, by omega, by go_num, Hfin, Hbel9⟩
set_option maxRecDepth 100000 in
set_option maxHeartbeats 800000 in
theorem heldO_any (yr yb yg : Value) (x : GGrants) (u : GUser) (s : ByteArray) (w : World) (h : GrantsR w [yr, yb] x) (hu : UserR w [.string u.name, yg] u) (hok : okGrants x) (hok2 : okUser u) (hs : s.size ≤ 1048576) :
    Calls Tryd.prog 13 #[.agg #[yr, yb], .agg #[.string u.name, yg], .string s] w (HeldO (heldP x u s) w) := by
  have H := Lib.hid h
  have HU := Lib.hid hu
  have Hok := Lib.hid hok
  have Hok2 := Lib.hid hok2
  obtain ⟨_, _, hcs, hr, hb⟩ := h
  simp only [List.cons.injEq, and_true] at hcs
  obtain ⟨rfl, rfl⟩ := hcs
  obtain ⟨a1, c1, rfl, hc1, _⟩ := hr.len
  obtain ⟨a2, c2, rfl, hc2, _⟩ := hb.len
  obtain ⟨_, hcs, hg⟩ := hu
  simp only [List.cons.injEq, and_true, true_and] at hcs
  obtain rfl := hcs
  obtain ⟨a3, c3, rfl, hc3, _⟩ := hg.row.len
  obtain ⟨nr, Hnr⟩ : ∃ n, Hid (x.roles.length = n) := ⟨_, Lib.hid rfl⟩
  obtain ⟨nb, Hnb⟩ : ∃ n, Hid (x.binds.length = n) := ⟨_, Lib.hid rfl⟩
  obtain ⟨ng, Hng⟩ : ∃ n, Hid (u.groups.length = n) := ⟨_, Lib.hid rfl⟩
  obtain ⟨R, HR⟩ : ∃ R, Hid (heldP x u s = R) := ⟨_, Lib.hid rfl⟩
  obtain ⟨cd, Hcd⟩ : ∃ cd, Hid (codeC x u s = cd) := ⟨_, Lib.hid rfl⟩
  rw [HR.out]
  rw [Hnr.out] at H hc1 ⊢
  rw [Hnb.out] at H hc2 ⊢
  rw [Hng.out] at HU hc3 ⊢
  obtain ⟨w1, hw1⟩ : ∃ w1, w1 = (w.alloc (.cells #[.slice a1 nr c1, .slice a2 nb c2] 40)).alloc (.cells #[.string u.name, .slice a3 ng c3] 42) := ⟨_, rfl⟩
  obtain ⟨gu, hgu⟩ : ∃ gu, gu = w.heap.size + 1 := ⟨_, rfl⟩
  obtain ⟨gx, hgx⟩ : ∃ gx, gx = w.heap.size := ⟨_, rfl⟩
  have b1 : w1.heap[gx]? = some (.cells #[.slice a1 nr c1, .slice a2 nb c2] 40 (0, 0)) := by
    rw [hw1, hgx]
    exact below_block ((Below.refl _ _).alloc (Nat.le_refl _) _) (heap_alloc_new w _)
  have b2 : w1.heap[gu]? = some (.cells #[.string u.name, .slice a3 ng c3] 42 (0, 0)) := by
    have h9 := heap_alloc_new (w.alloc (.cells #[.slice a1 nr c1, .slice a2 nb c2] 40)) (.cells #[.string u.name, .slice a3 ng c3] 42)
    rw [hw1, hgu]
    simpa using h9
  have hb1 : Below w.heap.size w w1 := by rw [hw1]; exact ((Below.refl _ _).alloc (Nat.le_refl _) _).alloc (by simp) _
  have hs1 := hb1.size
  have Hb1 := Lib.hid hb1
  have B1 := Lib.hid b1
  have B2 := Lib.hid b2
  have cc := fun i => cell_block b1 i
  have dd := fun i => cell_block b2 i
  have Hw1 := Lib.hid hw1
  have Hgu := Lib.hid hgu
  have Hgx := Lib.hid hgx
  clear hr hb hg hok hok2 b1 b2 hb1 hw1 hgu hgx
  go_enter Tryd.func13, Tryd.ntmps13
  go_upto_region 1 with fail
  rw [← Hw1.out]
  try rw [← Hgu.out]
  rw [← Hgx.out]
  go_wp2_with fail
  refine (check3_any _ _ _ x u s w1 (stays_grants _ _ _ _ (keeps_below Hb1.out) H.out) (stays_user _ _ _ _ (keeps_below Hb1.out) HU.out) Hok.out Hok2.out hs).mono ?_
  rw [Hcd.out]
  rintro E w2 ⟨rfl, hb2⟩
  have Hb2 := Lib.hid (Hb1.out.trans (hb2.mono hs1))
  have hs2 := Hb2.out.size
  have B12 := Lib.hid (below_block hb2 B1.out)
  have B22 := Lib.hid (below_block hb2 B2.out)
  clear cc dd hb2
  have cc := fun i => cell_block B12.out i
  have dd := fun i => cell_block B22.out i
  by_cases h0 : cd = 0
  · subst h0
    have Hfew := Lib.hid (few_of_code Hcd.out)
    have HR2 : Hid (R = (0, heldL x u s)) := by show _ = _; rw [← HR.out]; unfold heldP; rw [if_neg (by rw [Hcd.out]; simp)]
    obtain ⟨L, HL⟩ : ∃ L, Hid (heldL x u s = L) := ⟨_, Lib.hid rfl⟩
    have hLl : L.length ≤ 1152 := by rw [← HL.out]; exact held_len Hfew.out u s
    have hLo : ∀ r ∈ L, okRule r := by rw [← HL.out]; exact held_ok Hok.out u s
    have HLo := Lib.hid hLo
    rw [HL.out] at HR2
    clear hLo
    go_wp2_with fail
    refine (held_any _ _ _ x u s w2 (stays_grants _ _ _ _ (keeps_below Hb2.out) H.out) (stays_user _ _ _ _ (keeps_below Hb2.out) HU.out) Hok.out Hok2.out Hfew.out).mono ?_
    rw [HL.out]
    rintro E w3 ⟨v3, rfl, ho3, hb3⟩
    have Hr3 := Lib.hid (RowAt.ofW stays_rule ho3.row hb3)
    have Hb3 := Lib.hid (Hb2.out.trans (hb3.mono hs2))
    have hs3 := Hb3.out.size
    clear ho3 hb3 cc dd
    go_wp2_with fail
    refine (copiedO_any _ L w3 Hr3.out HLo.out (by omega)).mono ?_
    rintro E w4 ⟨v4, rfl, ho4, hb4⟩
    have Hr4 := Lib.hid ((ho4.mono (B' := w.heap.size) (by have := Hb3.out.size; omega)).imp fun cs y hy => ruleO_mono (B' := w.heap.size) (by have := Hb3.out.size; omega) hy)
    have Hb4 := Lib.hid (Hb3.out.trans (hb4.mono hs3))
    clear ho4 hb4
    go_wp2_with fail
    go_ret2
    rw [HR2.out]
    exact ⟨_, rfl, Hr4.out, Hb4.out⟩
  · have q1 : (cd != 0) = true := by rw [bne_iff_ne]; exact h0
    have HR2 : Hid (R = (cd, [])) := by show _ = _; rw [← HR.out]; unfold heldP; rw [if_pos (by rw [Hcd.out]; exact h0), Hcd.out]
    clear h0
    go_wp2_with fail
    go_ret2
    rw [HR2.out]
    exact ⟨_, rfl, OwnAt.nil _, Hb2.out⟩
end Go.Proofs.YtkmonmdnmpbadaaDoor
namespace Go.Proofs.YtkmonmdnmpbadaaDoor
open Go.RowKit
/-- stores into a row of the call's own, one behind the other: all else stays -/
theorem setCells_all (g : Nat) (t : TypeId) : ∀ (vs : List Value) (i : Nat) (cur : Array Value) (w : World), w.heap[g]? = some (.cells cur t (0, 0)) → i + vs.length ≤ cur.size →
    ∃ cur', (w.setCells g i vs).heap[g]? = some (.cells cur' t (0, 0)) ∧ cur'.size = cur.size ∧ (∀ j, j < i ∨ i + vs.length ≤ j → cur'[j]? = cur[j]?) ∧ (∀ j u, vs[j]? = some u → cur'[i + j]? = some u) ∧ Touch g w (w.setCells g i vs)
  | [], i, cur, w, hg, _ => ⟨cur, hg, rfl, fun _ _ => rfl, fun j u h => by simp at h, ⟨rfl, rfl, rfl, rfl, fun _ _ => rfl⟩⟩
  | v :: r, i, cur, w, hg, hl => by
    simp only [List.length_cons] at hl
    obtain ⟨h1, h2⟩ := touch_setCell (w := w) (i := i) (v := v) hg
    obtain ⟨cur', g1, g2, g3, g4, g5⟩ := setCells_all g t r (i + 1) _ _ h1 (by simp; omega)
    refine ⟨cur', g1, by simpa using g2, fun j hj => ?_, fun j u hu => ?_, ?_⟩
    · simp only [List.length_cons] at hj
      rw [g3 j (by omega), Array.getElem?_setIfInBounds, if_neg (by omega)]
    · cases j with
      | zero =>
        simp only [List.getElem?_cons_zero, Option.some.injEq] at hu
        subst hu
        rw [Nat.add_zero, g3 i (by omega), Array.getElem?_setIfInBounds, if_pos rfl, if_pos (by omega)]
      | succ j =>
        have := g4 j u (by simpa using hu)
        rwa [show i + 1 + j = i + (j + 1) by omega] at this
    · show Touch g w ((w.setCell ⟨g, i, none⟩ v).setCells g (i + 1) r)
      exact ⟨g5.os.trans h2.os, g5.tape.trans h2.tape, g5.output.trans h2.output, g5.size.trans h2.size, fun b hb => (g5.other b hb).trans (h2.other b hb)⟩
section
variable {α : Type} {R : Rd α} {k B : Nat} {e : TypeId} {w : World} {g n c : Nat} {l : List α}
/-- its cells may be written -/
theorem OwnAt.there (h : OwnAt R k w B e (.slice (some ⟨g, 0, none⟩) n c) l) {o m : Nat} (hm : o + m ≤ c * k) : w.there g o m := by
  obtain ⟨css, h1, h2, h3, h4⟩ := h
  rcases h3.2 with ⟨h5, _⟩ | ⟨g', cap, cur, hv, hB, hh, hle, hmx, hz, ht⟩
  · cases h5
  · cases hv
    intro j hj
    refine ⟨?_, free_block hh _⟩
    rw [cell_block hh, Array.getElem?_eq_getElem (by omega)]
    rfl
/-- stores behind the first i; cut short there -/
theorem OwnAt.behind (hf : Flat R) (h : OwnAt R k w B e (.slice (some ⟨g, 0, none⟩) n c) l) {i : Nat} (hi : i ≤ l.length) {vs : List Value} (hvs : i * k + vs.length ≤ c * k) :
    OwnAt R k (w.setCells g (i * k) vs) B e (.slice (some ⟨g, 0, none⟩) i c) (l.take i) ∧ Touch g w (w.setCells g (i * k) vs) := by
  obtain ⟨css, h1, h2, h3, h4⟩ := h
  rcases h3.2 with ⟨h5, _⟩ | ⟨g', cap, cur, hv, hB, hh, hle, hmx, hz, ht⟩
  · cases h5
  · cases hv
    obtain ⟨cur', g1, g2, g3, g4, g5⟩ := setCells_all g e vs (i * k) cur w hh (by rw [hz]; exact hvs)
    have hik : i * k ≤ l.length * k := Nat.mul_le_mul_right k hi
    have hlk : (l.take i).length = i := by rw [List.length_take]; omega
    have hk2 : ∀ q ∈ css.take i, q.length = k := fun q hq => h2 q (List.mem_of_mem_take hq)
    have hfl : (css.take i).flatten.length = i * k := by rw [flat_len hk2, List.length_take, h1]; congr 1; omega
    have hpre : (css.take i).flatten = css.flatten.take (i * k) := by
      have h7 : css.flatten = (css.take i).flatten ++ (css.drop i).flatten := by rw [← List.flatten_append, List.take_append_drop]
      rw [h7, ← hfl, List.take_left]
    refine ⟨⟨css.take i, by rw [List.length_take, List.length_take, h1], hk2, ?_, fun j q y hq hy => ?_⟩, g5⟩
    · rw [hlk]
      refine ⟨hfl, .inr ⟨g, c, cur', rfl, hB, g1, by omega, hmx, by rw [g2]; exact hz, ?_⟩⟩
      rw [hpre, ← ht]
      apply List.ext_getElem?
      intro t
      by_cases htl : t < i * k
      · rw [List.getElem?_take_of_lt htl, Array.getElem?_toList, g3 t (.inl htl), List.getElem?_take_of_lt htl, List.getElem?_take_of_lt (by omega), Array.getElem?_toList]
      · rw [List.getElem?_eq_none (by rw [List.length_take]; omega), List.getElem?_eq_none (by rw [List.length_take]; omega)]
    · have hj : j < i := by have := (List.getElem?_eq_some_iff.1 hy).1; omega
      rw [List.getElem?_take_of_lt hj] at hq hy
      exact hf _ _ _ _ (h4 j q y hq hy)
end
end Go.Proofs.YtkmonmdnmpbadaaDoor
namespace Go.Proofs.YtkmonmdnmpbadaaDoor
open Go.RowKit
/-- only blocks from B on and below H may have turned, and none has turned its kind -/
structure Mid (B H : Nat) (w w' : World) : Prop where
  os : w'.os = w.os
  tape : w'.tape = w.tape
  output : w'.output = w.output
  size : w.heap.size ≤ w'.heap.size
  block : ∀ k, k < w.heap.size → (k < B ∨ H ≤ k) → w'.heap[k]? = w.heap[k]?
  kind : ∀ (k : Nat) (cs : Array Value) (t : TypeId), w.heap[k]? = some (.cells cs t (0, 0)) → ∃ cs' : Array Value, w'.heap[k]? = some (.cells cs' t (0, 0)) ∧ cs'.size = cs.size
theorem Mid.refl (B H : Nat) (w : World) : Mid B H w w := ⟨rfl, rfl, rfl, Nat.le_refl _, fun _ _ _ => rfl, fun _ cs _ h => ⟨cs, h, rfl⟩⟩
theorem Mid.but {B H g : Nat} {a w w' : World} (h : Mid B H a w) (hb : But g w w') (h1 : B ≤ g) (h2 : g < H) (hk : ∀ (cs : Array Value) (t : TypeId), w.heap[g]? = some (.cells cs t (0, 0)) → ∃ cs' : Array Value, w'.heap[g]? = some (.cells cs' t (0, 0)) ∧ cs'.size = cs.size) : Mid B H a w' := by
  refine ⟨hb.os.trans h.os, hb.tape.trans h.tape, hb.output.trans h.output, Nat.le_trans h.size hb.size, fun k hk1 hk2 => ?_, fun k cs t hc => ?_⟩
  · rw [hb.block k (Nat.lt_of_lt_of_le hk1 h.size) (by omega)]; exact h.block k hk1 hk2
  · obtain ⟨cs1, c1, c2⟩ := h.kind k cs t hc
    by_cases hkg : k = g
    · subst hkg
      obtain ⟨cs2, d1, d2⟩ := hk cs1 t c1
      exact ⟨cs2, d1, d2.trans c2⟩
    · exact ⟨cs1, hb.keep c1 hkg, c2⟩
theorem Mid.below {B H B0 : Nat} {a w w' : World} (h : Mid B H w w') (hb : Below B0 a w) (hB : B0 ≤ B) (hs : B0 ≤ w.heap.size) : Below B0 a w' :=
  hb.trans ⟨h.os, h.tape, h.output, h.size, fun k hk => h.block k (by omega) (.inl (by omega))⟩
theorem OwnAt.mid {α : Type} {R : Rd α} {k B H B' : Nat} {e : TypeId} {v : Value} {l : List α} {w w' : World} (hf : Flat R) (h : OwnAt R k w B' e v l) (hm : Mid B H w w') (hB : H ≤ B') : OwnAt R k w' B' e v l := by
  have hat := fun q hq => h.at (g := q) hq
  obtain ⟨css, h1, h2, h3, h4⟩ := h
  refine ⟨css, h1, h2, ⟨h3.1, ?_⟩, fun j cs y hcs hy => hf _ _ _ _ (h4 j cs y hcs hy)⟩
  rcases h3.2 with h5 | ⟨q, cap, cur, rfl, hB2, hh, hr⟩
  · exact .inl h5
  · exact .inr ⟨q, cap, cur, rfl, hB2, (hm.block q (hat q rfl).2.1 (.inr (by omega))).trans hh, hr⟩
set_option maxRecDepth 100000 in
set_option maxHeartbeats 1600000 in
theorem spoil_big (g n c : Nat) (cs : Array Value) (t : TypeId) (w : World) (h : w.heap[g]? = some (.cells cs t (0, 0))) (hn : n ≤ c) (hc : c ≤ cs.size) (hb : c ≤ 9223372036854775807) :
    Calls Tryd.prog 45 #[.slice (some ⟨g, 0, none⟩) n c] w fun e w' => e = .returned (.tuple #[]) ∧ But g w w' ∧ ∃ cs', w'.heap[g]? = some (.cells cs' t (0, 0)) ∧ cs'.size = cs.size := by
  have H := Lib.hid h
  have q0 : (0 : Int) ≤ (c : Int) := by omega
  clear h
  go_enter Tryd.func45, Tryd.ntmps45
  go_wp2_with fail
  go_loopg [9] c (fun k u9 wr => ∃ i : Nat, i + k = c ∧ u9 = .int .i64 (i : Int) ∧ Hid (But g w wr) ∧ Hid (∃ cs', wr.heap[g]? = some (.cells cs' t (0, 0)) ∧ cs'.size = cs.size))
  case atStart => exact ⟨0, by omega, rfl, Lib.hid (But.refl _ _), Lib.hid ⟨_, H.out, rfl⟩⟩
  case round =>
    obtain ⟨i, hig, rfl, Hbut, Hc⟩ := hrel
    cases gk with
    | zero =>
      obtain rfl : i = c := by omega
      go_wp2_with fail
      go_end0
      exact ⟨rfl, Hbut.out, Hc.out⟩
    | succ k =>
      have hic : i < c := by omega
      obtain ⟨cs', hcs, hsz⟩ := Hc.out
      have q1 : (0 : Int) ≤ (i : Int) := by omega
      have q2 : (i : Int) < (c : Int) := by omega
      have fr : wr.frozen? ⟨g, i, none⟩ = false := free_block hcs i
      have cc : ∃ x, wr.cell? ⟨g, i, none⟩ = some x := ⟨cs'[i]'(by omega), (cell_block hcs i).trans (Array.getElem?_eq_getElem (by omega))⟩
      obtain ⟨x, hx⟩ := cc
      obtain ⟨t1, t2⟩ := touch_setCell (i := i) (v := .string ⟨#[115, 112, 111, 105, 108, 116]⟩) hcs
      have HT1 := Lib.hid t1
      have HT2 := Lib.hid t2
      have Hs := Lib.hid hsz
      clear t1 t2 hcs hsz Hc
      go_wp2_with fail
      go_roundg k
      case measure => omega
      case rel => exact ⟨i + 1, by omega, by go_num, Lib.hid (Hbut.out.trans (But.touch HT2.out)), Lib.hid ⟨_, HT1.out, by rw [Array.size_setIfInBounds, Hs.out]⟩⟩
theorem there_block {w : World} {g o m : Nat} {cur : Array Value} {t : TypeId} (hh : w.heap[g]? = some (.cells cur t (0, 0))) (hm : o + m ≤ cur.size) : w.there g o m := by
  intro j hj
  refine ⟨?_, free_block hh _⟩
  rw [cell_block hh, Array.getElem?_eq_getElem (by omega)]
  rfl
theorem block_lt' {w : World} {g : Nat} {o : Obj} (h : w.heap[g]? = some o) : g < w.heap.size := by
  rcases Nat.lt_or_ge g w.heap.size with h1 | h1
  · exact h1
  · rw [Array.getElem?_eq_none h1] at h; cases h
end Go.Proofs.YtkmonmdnmpbadaaDoor
namespace Go.Proofs.YtkmonmdnmpbadaaDoor
open Go.RowKit
theorem Mid.then {B H : Nat} {a w w' : World} (h : Mid B H a w) (hb : Below w.heap.size w w') : Mid B H a w' := by
  refine ⟨hb.os.trans h.os, hb.tape.trans h.tape, hb.output.trans h.output, Nat.le_trans h.size hb.size, fun k h1 h2 => ?_, fun k cs t hc => ?_⟩
  · rw [hb.block k (Nat.lt_of_lt_of_le h1 h.size)]; exact h.block k h1 h2
  · obtain ⟨cs', c1, c2⟩ := h.kind k cs t hc
    exact ⟨cs', below_block hb c1, c2⟩
/-- what spoil may be handed -/
def LooseV (B : Nat) (w : World) (u : Value) : Prop := u = .slice none 0 0 ∨ ∃ g n c cs, u = .slice (some ⟨g, 0, none⟩) n c ∧ B ≤ g ∧ w.heap[g]? = some (.cells cs 9 (0, 0)) ∧ n ≤ c ∧ c ≤ cs.size ∧ c ≤ 1073741824
theorem LooseV.one {B : Nat} {w : World} {u : Value} (h : LooseV B w u) : u.oneCell' = true := by
  rcases h with rfl | ⟨g, n, c, cs, rfl, _⟩ <;> rfl
theorem TxtAt.loose {B : Nat} {w : World} {v : Value} {l : List ByteArray} (h : TxtAt B w v l) (hl : l.length ≤ 1048576) : LooseV B w v := by
  obtain ⟨g, rfl, h2, h3⟩ := h
  exact .inr ⟨g, _, _, _, rfl, h2, h3, by omega, by simp [strs_length], by omega⟩
/-- a row of rules all of whose cells may be handed to spoil -/
def LooseRow (B : Nat) (w wr : World) (gr m : Nat) : Prop := ∃ cs' : Array Value, wr.heap[gr]? = some (.cells cs' 44 (0, 0)) ∧ m * 3 ≤ cs'.size ∧ ∀ q, q < m * 3 → ∃ u, cs'[q]? = some u ∧ LooseV B w u
structure SpI (B : Nat) (w w1 wr : World) : Prop where
  base : Below w.heap.size w w1
  mid : Mid B w.heap.size w1 wr
  loose : ∀ gr m, LooseRow B w w gr m → LooseRow B w wr gr m
theorem SpI.start {B : Nat} {w w1 : World} (hb : Below w.heap.size w w1) : SpI B w w1 w1 := ⟨hb, Mid.refl _ _ _, fun _ _ ⟨cs, h1, h2⟩ => ⟨cs, below_block hb h1, h2⟩⟩
theorem SpI.below {B : Nat} {w w1 wr w' : World} (h : SpI B w w1 wr) (hb : Below wr.heap.size wr w') : SpI B w w1 w' :=
  ⟨h.base, h.mid.then hb, fun gr m hl => by
    obtain ⟨cs', h1, h2, h3⟩ := h.loose gr m hl
    exact ⟨cs', below_block hb h1, h2, h3⟩⟩
theorem SpI.text {B g : Nat} {w w1 wr w' : World} {cs cs' : Array Value} (h : SpI B w w1 wr) (hb : But g wr w') (h1 : B ≤ g) (h2 : g < w.heap.size) (hg : wr.heap[g]? = some (.cells cs 9 (0, 0))) (hg' : w'.heap[g]? = some (.cells cs' 9 (0, 0))) (hz : cs'.size = cs.size) : SpI B w w1 w' := by
  refine ⟨h.base, h.mid.but hb h1 h2 fun c t hc => ?_, fun gr m hl => ?_⟩
  · rw [hg] at hc; cases hc; exact ⟨cs', hg', hz⟩
  · obtain ⟨c, k1, k2, k3⟩ := h.loose gr m hl
    exact ⟨c, hb.keep k1 (by rintro rfl; rw [hg] at k1; cases k1), k2, k3⟩
/-- spoil at what may be handed to it -/
theorem spoil_loose {B : Nat} {w w1 wr : World} {u : Value} (h : SpI B w w1 wr) (hu : LooseV B w u) :
    Calls Tryd.prog 45 #[u] wr fun e w' => e = .returned (.tuple #[]) ∧ SpI B w w1 w' ∧ SameBut 9 wr w' := by
  rcases hu with rfl | ⟨g, n, c, cs, rfl, h1, h2, h3, h4, h5⟩
  · refine (spoil_nil 0 wr).mono ?_
    rintro e w' ⟨rfl, rfl⟩
    exact ⟨rfl, h, fun _ _ _ _ hb _ => hb⟩
  · have hg : g < w.heap.size := block_lt' h2
    obtain ⟨cs2, k1, k2⟩ := h.mid.kind g cs _ ((h.base.block g hg).trans h2)
    refine (spoil_big g n c cs2 9 wr k1 h3 (by omega) (by omega)).mono ?_
    rintro e w' ⟨rfl, hb, cs3, k3, k4⟩
    exact ⟨rfl, h.text hb h1 hg k1 k3 k4, sameBut_but hb k1⟩
theorem own_block {α : Type} {R : Rd α} {k B g n c : Nat} {e : TypeId} {l : List α} {w : World} (h : OwnAt R k w B e (.slice (some ⟨g, 0, none⟩) n c) l) : n = l.length ∧ B ≤ g ∧ ∃ cur : Array Value, w.heap[g]? = some (.cells cur e (0, 0)) ∧ cur.size = c * k ∧ n ≤ c ∧ c ≤ maxLen := by
  have hat := h.form
  obtain ⟨css, h1, h2, h3, h4⟩ := h
  rcases hat with ⟨h5, _⟩ | ⟨g', c', h5, _⟩
  · cases h5
  · injection h5 with _ u2 _
    rcases h3.2 with ⟨h6, _⟩ | ⟨g'', cap, cur, h6, hB, hh, hle, hm, hz, _⟩
    · cases h6
    · injection h6 with u1 u3 u4
      injection u1 with u1
      injection u1 with u1
      subst u1; subst u4
      exact ⟨u2, hB, cur, hh, hz, by omega, hm⟩
theorem texRules_loose {B g n c : Nat} {l : List GRule} {w : World} (h : OwnAt (TexRule B) 3 w B 44 (.slice (some ⟨g, 0, none⟩) n c) l) (hok : ∀ r ∈ l, okRule r) : LooseRow B w w g n := by
  obtain ⟨hn, _, cur, h1, h2, h3, _⟩ := own_block h
  have hrow := h.row
  refine ⟨cur, h1, by rw [h2]; exact Nat.mul_le_mul_right 3 h3, fun q hq => ?_⟩
  have hql : q / 3 < l.length := by omega
  obtain ⟨b', o', c'', hv1, _, _, hbs', hcell⟩ := hrow.form (by omega) (by omega)
  injection hv1 with u1 u2 u3
  injection u1 with u1
  injection u1 with u1 u4
  subst u1 u4
  obtain ⟨x, hx⟩ : ∃ x, l[q / 3]? = some x := ⟨_, List.getElem?_eq_getElem hql⟩
  obtain ⟨ds, _, hcc, v0, v1, v2, rfl, t0, t1, t2⟩ := hcell _ x hx
  have ok := hok x (List.mem_of_getElem? hx)
  have key : ∀ (i : Nat) (u : Value), [v0, v1, v2][i]? = some u → cur[q / 3 * 3 + i]? = some u := fun i u hu => by
    have := hcc i u hu
    rw [Nat.zero_add, cell_block h1] at this
    exact this
  have e : q = q / 3 * 3 + q % 3 := by omega
  have hm : q % 3 < 3 := Nat.mod_lt _ (by omega)
  rw [e]
  generalize q % 3 = r at hm
  match r, hm with
  | 0, _ => exact ⟨v0, key 0 v0 rfl, t0.loose ok.1.1⟩
  | 1, _ => exact ⟨v1, key 1 v1 rfl, t1.loose ok.2.1.1⟩
  | 2, _ => exact ⟨v2, key 2 v2 rfl, t2.loose ok.2.2.1⟩
/-- a rule is made empty -/
theorem SpI.rule {B gr m k : Nat} {w w1 wr : World} (h : SpI B w w1 wr) (h1 : B ≤ gr) (h2 : gr < w.heap.size) (hl : LooseRow B w w gr m) (hk : k < m) :
    wr.there gr (k * 3) 3 ∧ SpI B w w1 (wr.setCells gr (k * 3) [.slice none 0 0, .slice none 0 0, .slice none 0 0]) ∧ SameBut 44 wr (wr.setCells gr (k * 3) [.slice none 0 0, .slice none 0 0, .slice none 0 0]) := by
  obtain ⟨cs, k1, k2, k3⟩ := h.loose gr m hl
  have hsz : k * 3 + 3 ≤ cs.size := by omega
  obtain ⟨cur', g1, g2, g3, g4, g5⟩ := setCells_all gr 44 [.slice none 0 0, .slice none 0 0, .slice none 0 0] (k * 3) cs wr k1 hsz
  refine ⟨there_block k1 hsz, ⟨h.base, h.mid.but (But.touch g5) h1 h2 fun c t hc => ?_, fun gr' m' hl' => ?_⟩, sameBut_but (But.touch g5) k1⟩
  · rw [k1] at hc; cases hc; exact ⟨cur', g1, g2⟩
  · obtain ⟨c, j1, j2, j3⟩ := h.loose gr' m' hl'
    by_cases he : gr' = gr
    · subst he
      rw [k1] at j1
      cases j1
      refine ⟨cur', g1, by rw [g2]; exact j2, fun q hq => ?_⟩
      by_cases hin : q < k * 3 ∨ k * 3 + 3 ≤ q
      · obtain ⟨u, q1, q2⟩ := j3 q hq
        exact ⟨u, (g3 q hin).trans q1, q2⟩
      · have e : q = k * 3 + (q - k * 3) := by omega
        have hm : q - k * 3 < 3 := by omega
        rw [e]
        generalize q - k * 3 = r at hm
        match r, hm with
        | 0, _ => exact ⟨_, g4 0 _ rfl, .inl rfl⟩
        | 1, _ => exact ⟨_, g4 1 _ rfl, .inl rfl⟩
        | 2, _ => exact ⟨_, g4 2 _ rfl, .inl rfl⟩
    · exact ⟨c, (But.touch g5).keep j1 he, j2, j3⟩
/-- cells of a block from a place on stand as they stood -/
def From (w wr : World) (g o : Nat) : Prop := ∃ (cs cs' : Array Value) (t : TypeId), w.heap[g]? = some (.cells cs t (0, 0)) ∧ wr.heap[g]? = some (.cells cs' t (0, 0)) ∧ cs'.size = cs.size ∧ ∀ q, o ≤ q → cs'[q]? = cs[q]?
/-- a thing of another block is made empty -/
theorem SpI.other {B g o : Nat} {vs : List Value} {T : TypeId} {cs : Array Value} {w w1 wr : World} (h : SpI B w w1 wr) (h1 : B ≤ g) (h2 : g < w.heap.size) (hT : T ≠ 44) (hw : w.heap[g]? = some (.cells cs T (0, 0))) (hf : From w wr g o) (hsz : o + vs.length ≤ cs.size) :
    wr.there g o vs.length ∧ SpI B w w1 (wr.setCells g o vs) ∧ SameBut T wr (wr.setCells g o vs) ∧ From w (wr.setCells g o vs) g (o + vs.length) := by
  obtain ⟨c1, c2, t, e1, e2, e3, e4⟩ := hf
  rw [hw] at e1
  cases e1
  obtain ⟨cur', g1, g2, g3, g4, g5⟩ := setCells_all g T vs o c2 wr e2 (by omega)
  refine ⟨there_block e2 (by omega), ⟨h.base, h.mid.but (But.touch g5) h1 h2 fun c t hc => ?_, fun gr' m' hl' => ?_⟩, sameBut_but (But.touch g5) e2, ⟨cs, cur', T, hw, g1, by omega, fun q hq => ?_⟩⟩
  · rw [e2] at hc; cases hc; exact ⟨cur', g1, g2⟩
  · obtain ⟨c, j1, j2, j3⟩ := h.loose gr' m' hl'
    exact ⟨c, (But.touch g5).keep j1 (by rintro rfl; rw [e2] at j1; cases j1; exact hT rfl), j2, j3⟩
  · rw [g3 q (.inr hq)]; exact e4 q (by omega)
theorem From.same {w wr w' : World} {g o : Nat} {T : TypeId} (h : From w wr g o) (hs : SameBut T wr w') (hT : ∀ cs t, w.heap[g]? = some (.cells cs t (0, 0)) → t ≠ T) : From w w' g o := by
  obtain ⟨c1, c2, t, e1, e2, e3, e4⟩ := h
  exact ⟨c1, c2, t, e1, hs _ _ _ _ e2 (hT _ _ e1), e3, e4⟩
theorem From.below {w wr w' : World} {g o : Nat} (h : From w wr g o) (hb : Below wr.heap.size wr w') : From w w' g o := by
  obtain ⟨c1, c2, t, e1, e2, e3, e4⟩ := h
  exact ⟨c1, c2, t, e1, below_block hb e2, e3, e4⟩
theorem From.cell {w wr : World} {g o q : Nat} (h : From w wr g o) (hq : o ≤ q) : wr.cell? ⟨g, q, none⟩ = w.cell? ⟨g, q, none⟩ := by
  obtain ⟨c1, c2, t, e1, e2, e3, e4⟩ := h
  rw [cell_block e2, cell_block e1]; exact e4 q hq
end Go.Proofs.YtkmonmdnmpbadaaDoor
namespace Go.Proofs.YtkmonmdnmpbadaaDoor
open Go.RowKit
theorem Tryd.sizeRuleO : (Tryd.prog.info? 44).map (·.size) = some 3 := by kernel_rfl
theorem Tryd.sizeRoleO : (Tryd.prog.info? 69).map (·.size) = some 3 := by kernel_rfl
theorem Tryd.sizeBindO : (Tryd.prog.info? 71).map (·.size) = some 6 := by kernel_rfl
theorem from_start {w w1 : World} {g : Nat} {cs : Array Value} {t : TypeId} (hb : Below w.heap.size w w1) (h : w.heap[g]? = some (.cells cs t (0, 0))) : From w w1 g 0 := ⟨cs, cs, t, h, below_block hb h, rfl, fun _ _ => rfl⟩
theorem LooseV.slice {B : Nat} {w : World} {u : Value} (h : LooseV B w u) : ∃ a n c, u = .slice a n c := by
  rcases h with rfl | ⟨g, n, c, cs, rfl, _⟩
  · exact ⟨_, _, _, rfl⟩
  · exact ⟨_, _, _, rfl⟩
set_option maxRecDepth 100000 in
set_option maxHeartbeats 6400000 in
theorem spoilGrants_any (B : Nat) (vr vb : Value) (x : GGrants) (w0 w : World) (h : TexGrants B w0 [vr, vb] x) (hb0 : Below w0.heap.size w0 w) (hok : okGrants x) :
    Calls Tryd.prog 19 #[.agg #[vr, vb]] w fun e w' => e = .returned (.tuple #[]) ∧ Mid B w0.heap.size w w' := by
  obtain ⟨_, _, hcs, hr, hb⟩ := h
  simp only [List.cons.injEq, and_true] at hcs
  obtain ⟨rfl, rfl⟩ := hcs
  obtain ⟨a1, c1, rfl, hc1, _⟩ := hr.row.len
  obtain ⟨a2, c2, rfl, hc2, _⟩ := hb.row.len
  obtain ⟨nr, hnr⟩ : ∃ n, x.roles.length = n := ⟨_, rfl⟩
  obtain ⟨nb, hnb⟩ : ∃ n, x.binds.length = n := ⟨_, rfl⟩
  obtain ⟨okr, okrs, okb, okbs⟩ := hok
  rw [hnr] at hr okr hc1 ⊢
  rw [hnb] at hb okb hc2 ⊢
  have HR := Lib.hid hr
  have HB := Lib.hid hb
  have Okr := Lib.hid okrs
  have Okb := Lib.hid okbs
  have Hnr := Lib.hid hnr
  have Hnb := Lib.hid hnb
  obtain ⟨w1, hw1⟩ : ∃ w1, w1 = w.alloc (.cells #[.slice a1 nr c1, .slice a2 nb c2] 40) := ⟨_, rfl⟩
  obtain ⟨g1, hg1⟩ : ∃ g1, g1 = w.heap.size := ⟨_, rfl⟩
  have b1 : w1.heap[g1]? = some (.cells #[.slice a1 nr c1, .slice a2 nb c2] 40 (0, 0)) := by rw [hw1, hg1]; exact heap_alloc_new w _
  have hb1 : Below w.heap.size w w1 := by rw [hw1]; exact (Below.refl _ w).alloc (Nat.le_refl _) _
  have S1 : Hid (SpI B w0 w w1) := Lib.hid ((SpI.start hb0).below hb1)
  have B1 := Lib.hid b1
  have Hb1 := Lib.hid (hb0.trans (hb1.mono hb0.size))
  have cc := fun i => cell_block b1 i
  clear hr hb okrs okbs hnr hnb hb1 b1 hb0
  go_enter Tryd.func19, Tryd.ntmps19
  go_upto_region 1 with fail
  rw [← hw1, ← hg1]
  clear hw1 hg1
  go_wp2_with fail
  clear cc
  go_loopg [11] nr (fun k u11 wr => ∃ i : Nat, i + k = nr ∧ u11 = .int .i64 (i : Int) ∧ Hid (SpI B w0 w wr) ∧ Hid (wr.heap[g1]? = some (.cells #[.slice a1 nr c1, .slice a2 nb c2] 40 (0, 0))) ∧ Hid (∀ gR, Value.ownBlock (.slice a1 nr c1) = some gR → From w0 wr gR (i * 3)) ∧ Hid (∀ gB, Value.ownBlock (.slice a2 nb c2) = some gB → From w0 wr gB 0))
  case atStart =>
    refine ⟨0, by omega, rfl, S1, B1, Lib.hid fun gR hq => ?_, Lib.hid fun gB hq => ?_⟩
    · obtain ⟨_, _, cur, h1⟩ := HR.out.at hq
      simpa using from_start Hb1.out h1
    · obtain ⟨_, _, cur, h1⟩ := HB.out.at hq
      exact from_start Hb1.out h1
  case round =>
    obtain ⟨i, hig, rfl, Hsp, Hg1, Hfr, Hfb⟩ := hrel
    cases gk with
    | zero =>
      obtain rfl : nr = i := by omega
      have d1 := fun i => cell_block Hg1.out i
      clear hig Hfr
      go_wp2_with fail
      clear d1
      go_loopg [48] nb (fun k u48 wr => ∃ i : Nat, i + k = nb ∧ u48 = .int .i64 (i : Int) ∧ Hid (SpI B w0 w wr) ∧ Hid (wr.heap[g1]? = some (.cells #[.slice a1 nr c1, .slice a2 nb c2] 40 (0, 0))) ∧ Hid (∀ gB, Value.ownBlock (.slice a2 nb c2) = some gB → From w0 wr gB (i * 6)))
      case atStart => exact ⟨0, by omega, rfl, Hsp, Hg1, Lib.hid fun gB hq => by simpa using Hfb.out gB hq⟩
      case round =>
        obtain ⟨j, hjg, rfl, Hsp, Hg1, Hfb⟩ := hrel
        cases gk with
        | zero =>
          obtain rfl : nb = j := by omega
          go_wp2_with fail
          go_end0
          exact ⟨rfl, Hsp.out.mid⟩
        | succ k =>
          have hjl : j < nb := by omega
          obtain ⟨r, hri⟩ : ∃ r, x.binds[j]? = some r := ⟨x.binds[j]'(by rw [Hnb.out]; exact hjl), List.getElem?_eq_getElem _⟩
          have hown1 := HB.out
          rcases hown1.form with ⟨hv0, hl0⟩ | ⟨gR, cR, hv0, hgR, hgR2, _, _⟩
          · rw [hl0] at hri; cases hri
          have hrow1 := hown1.row
          obtain ⟨cur1, hcur1⟩ := (hown1.at (g := gR) (by rw [hv0]; rfl)).2.2
          injection hv0 with u1 u2 u3
          subst u1 u3
          clear u2
          obtain ⟨-, -, cur, hcur, hcz, hcl, -⟩ := own_block hown1
          obtain ⟨b', o', c'', hv1, _, _, hbs', hcell'⟩ := hrow1.form (by rw [Hnb.out]; omega) (by omega)
          injection hv1 with u1 u2 u3
          injection u1 with u1
          injection u1 with u1 u4
          subst u1 u4
          clear u2 u3
          obtain ⟨ds', _, hcc', v4, v5, hR', ht4, ht5⟩ := hcell' j r hri
          subst hR'
          have okr' := Okb.out r (List.mem_of_getElem? hri)
          have L4 := Lib.hid (ht4.loose okr'.2.2.2.1.1)
          have L5 := Lib.hid (ht5.loose okr'.2.2.2.2.1)
          obtain ⟨a4, n4, c4, rfl⟩ := L4.out.slice
          obtain ⟨a5, n5, c5, rfl⟩ := L5.out.slice
          have hfc := fun q (hq : j * 6 ≤ q) => (Hfb.out gR rfl).cell hq
          have e0 : wr.cell? ⟨gR, j * 6, none⟩ = some (.string r.space) := (hfc _ (Nat.le_refl _)).trans (by simpa using hcc' 0 _ rfl)
          have e1 : wr.cell? ⟨gR, j * 6 + 1, none⟩ = some (.string r.name) := (hfc _ (by omega)).trans (by simpa using hcc' 1 _ rfl)
          have e2 : wr.cell? ⟨gR, j * 6 + 2, none⟩ = some (.string r.role) := (hfc _ (by omega)).trans (by simpa using hcc' 2 _ rfl)
          have e3 : wr.cell? ⟨gR, j * 6 + 3, none⟩ = some (.bool r.whole) := (hfc _ (by omega)).trans (by simpa using hcc' 3 _ rfl)
          have e4 : wr.cell? ⟨gR, j * 6 + 4, none⟩ = some (.slice a4 n4 c4) := (hfc _ (by omega)).trans (by simpa using hcc' 4 _ rfl)
          have e5 : wr.cell? ⟨gR, j * 6 + 5, none⟩ = some (.slice a5 n5 c5) := (hfc _ (by omega)).trans (by simpa using hcc' 5 _ rfl)
          have q1 : (0 : Int) ≤ (j : Int) := by omega
          have q2 : (j : Int) < (nb : Int) := by omega
          obtain ⟨w2, hw2⟩ : ∃ w2, w2 = wr.alloc (.cells #[.string r.space, .string r.name, .string r.role, .bool r.whole, .slice a4 n4 c4, .slice a5 n5 c5] 71) := ⟨_, rfl⟩
          obtain ⟨g3, hg3⟩ : ∃ g3, g3 = wr.heap.size := ⟨_, rfl⟩
          have b3 : w2.heap[g3]? = some (.cells #[.string r.space, .string r.name, .string r.role, .bool r.whole, .slice a4 n4 c4, .slice a5 n5 c5] 71 (0, 0)) := by rw [hw2, hg3]; exact heap_alloc_new wr _
          have hb2 : Below wr.heap.size wr w2 := by rw [hw2]; exact (Below.refl _ wr).alloc (Nat.le_refl _) _
          have S2 := Lib.hid (Hsp.out.below hb2)
          have B2 := Lib.hid (below_block hb2 Hg1.out)
          have B3 := Lib.hid b3
          have F2 := Lib.hid ((Hfb.out gR rfl).below hb2)
          have HC := Lib.hid hcur
          have HZ := Lib.hid hcz
          have d3 := fun i => cell_block b3 i
          clear hcc' hcell' hrow1 hown1 hfc hb2 b3 Hsp Hg1 Hfb hcur1 hcur hcz ht4 ht5 hri okr'
          go_upto_region 17 with fail
          rw [← hw2, ← hg3]
          clear hw2 hg3 e0 e1 e2 e3 e4 e5
          go_wp2_with fail
          refine (spoil_loose S2.out L4.out).mono ?_
          rintro E w3 ⟨rfl, hs3, hk3⟩
          have S3 := Lib.hid hs3
          have C1 := Lib.hid (hk3 _ _ _ _ B2.out (by decide))
          have C3 := Lib.hid (hk3 _ _ _ _ B3.out (by decide))
          have F3 := Lib.hid (F2.out.same hk3 (fun cs t h => by rw [HC.out] at h; cases h; decide))
          clear d3 hs3 hk3 S2 B2 B3 F2
          have d3 := fun i => cell_block C3.out i
          go_wp2_with fail
          refine (spoil_loose S3.out L5.out).mono ?_
          rintro E w4 ⟨rfl, hs4, hk4⟩
          have D1 := Lib.hid (hk4 _ _ _ _ C1.out (by decide))
          have F4 := F3.out.same hk4 (fun cs t h => by rw [HC.out] at h; cases h; decide)
          obtain ⟨hth, hs5, hk5, hf5⟩ := hs4.other (vs := [.string ⟨#[]⟩, .string ⟨#[]⟩, .string ⟨#[]⟩, .bool false, .slice none 0 0, .slice none 0 0]) hgR hgR2 (by decide) HC.out F4 (by rw [HZ.out]; show j * 6 + 6 ≤ _; omega)
          have S5 := Lib.hid hs5
          have D5 := Lib.hid (hk5 _ _ _ _ D1.out (by decide))
          have F5 := Lib.hid hf5
          have d1 := fun i => cell_block D1.out i
          clear d3 hs4 hk4 hs5 hk5 hf5 F4 S3 C1 C3 F3
          go_upto_region 19 with fail
          iterate 16 go_step
          refine wpList_store_mid (by rfl) _ _ _ (by rfl) gR (j * 6) #[.string ⟨#[]⟩, .string ⟨#[]⟩, .string ⟨#[]⟩, .bool false, .slice none 0 0, .slice none 0 0] (by rfl) (by rfl) hth Tryd.sizeBindO (by simp [Value.oneCell']) ?_
          obtain ⟨wz, Hwz⟩ : ∃ wz, Hid (w4.setCells gR (j * 6) [.string ⟨#[]⟩, .string ⟨#[]⟩, .string ⟨#[]⟩, .bool false, .slice none 0 0, .slice none 0 0] = wz) := ⟨_, Lib.hid rfl⟩
          have n1 := S5.out
          have n2 := D5.out
          have n3 := F5.out
          rw [Hwz.out] at n1 n2 n3
          have N1 := Lib.hid n1
          have N2 := Lib.hid n2
          have N3 : Hid (∀ gB, Value.ownBlock (.slice (some ⟨gR, 0, none⟩) nb c2) = some gB → From w0 wz gB ((j + 1) * 6)) := Lib.hid (fun gB he => by
            have he2 : gR = gB := by simpa [Value.ownBlock] using he
            subst he2
            have : (j + 1) * 6 = j * 6 + 6 := by omega
            rw [this]; exact n3)
          have hwz : w4.setCells gR (j * 6) (#[.string ⟨#[]⟩, .string ⟨#[]⟩, .string ⟨#[]⟩, .bool false, .slice none 0 0, .slice none 0 0] : Array Value).toList = wz := Hwz.out
          rw [hwz]
          clear n1 n2 n3 hwz Hwz hth S5 D5 F5 d1 D1
          go_wp2_with fail
          go_roundg k
          case measure => omega
          case rel => exact ⟨j + 1, by omega, by go_num, N1, N2, N3⟩
    | succ k =>
      have hil : i < nr := by omega
      obtain ⟨r, hri⟩ : ∃ r, x.roles[i]? = some r := ⟨x.roles[i]'(by rw [Hnr.out]; exact hil), List.getElem?_eq_getElem _⟩
      have hown1 := HR.out
      rcases hown1.form with ⟨hv0, hl0⟩ | ⟨gR, cR, hv0, hgR, hgR2, _, _⟩
      · rw [hl0] at hri; cases hri
      have hrow1 := hown1.row
      injection hv0 with u1 u2 u3
      subst u1 u3
      clear u2
      obtain ⟨-, -, cur, hcur, hcz, hcl, -⟩ := own_block hown1
      obtain ⟨b', o', c'', hv1, _, _, hbs', hcell'⟩ := hrow1.form (by rw [Hnr.out]; omega) (by omega)
      injection hv1 with u1 u2 u3
      injection u1 with u1
      injection u1 with u1 u4
      subst u1 u4
      clear u2 u3
      obtain ⟨ds', _, hcc', v2, hR', hrules⟩ := hcell' i r hri
      subst hR'
      have okr' := Okr.out r (List.mem_of_getElem? hri)
      obtain ⟨ra, rc, rfl, _, _⟩ := hrules.row.len
      obtain ⟨nn, hnn⟩ : ∃ n, r.rules.length = n := ⟨_, rfl⟩
      rw [hnn] at hrules hcc'
      have hnn2 : nn ≤ 1048576 := by rw [← hnn]; exact okr'.2.2.1
      have HQ := Lib.hid hrules
      have HokQ := Lib.hid okr'.2.2.2
      have hfc := fun q (hq : i * 3 ≤ q) => (Hfr.out gR rfl).cell hq
      have e0 : wr.cell? ⟨gR, i * 3, none⟩ = some (.string r.space) := (hfc _ (Nat.le_refl _)).trans (by simpa using hcc' 0 _ rfl)
      have e1 : wr.cell? ⟨gR, i * 3 + 1, none⟩ = some (.string r.name) := (hfc _ (by omega)).trans (by simpa using hcc' 1 _ rfl)
      have e2 : wr.cell? ⟨gR, i * 3 + 2, none⟩ = some (.slice ra nn rc) := (hfc _ (by omega)).trans (by simpa using hcc' 2 _ rfl)
      have q1 : (0 : Int) ≤ (i : Int) := by omega
      have q2 : (i : Int) < (nr : Int) := by omega
      obtain ⟨w2, hw2⟩ : ∃ w2, w2 = wr.alloc (.cells #[.string r.space, .string r.name, .slice ra nn rc] 69) := ⟨_, rfl⟩
      obtain ⟨g3, hg3⟩ : ∃ g3, g3 = wr.heap.size := ⟨_, rfl⟩
      have b3 : w2.heap[g3]? = some (.cells #[.string r.space, .string r.name, .slice ra nn rc] 69 (0, 0)) := by rw [hw2, hg3]; exact heap_alloc_new wr _
      have hb2 : Below wr.heap.size wr w2 := by rw [hw2]; exact (Below.refl _ wr).alloc (Nat.le_refl _) _
      have S2 := Lib.hid (Hsp.out.below hb2)
      have B2 := Lib.hid (below_block hb2 Hg1.out)
      have B3 := Lib.hid b3
      have F2 := Lib.hid ((Hfr.out gR rfl).below hb2)
      have Fb2 : Hid (∀ gB, Value.ownBlock (.slice a2 nb c2) = some gB → From w0 w2 gB 0) := Lib.hid (fun gB he => (Hfb.out gB he).below hb2)
      have HC := Lib.hid hcur
      have HZ := Lib.hid hcz
      have Hnn := Lib.hid hnn
      have d3 := fun i => cell_block b3 i
      clear hcc' hcell' hrow1 hown1 hfc hb2 b3 Hsp Hg1 Hfr Hfb hcur hcz hrules hri okr' hnn
      go_upto_region 4 with fail
      rw [← hw2, ← hg3]
      clear hw2 hg3 e0 e1 e2
      go_wp2_with fail
      clear d3
      go_loopg [19] nn (fun k u19 wr => ∃ j : Nat, j + k = nn ∧ u19 = .int .i64 (j : Int) ∧ Hid (SpI B w0 w wr) ∧ Hid (wr.heap[g1]? = some (.cells #[.slice (some ⟨gR, 0, none⟩) nr c1, .slice a2 nb c2] 40 (0, 0))) ∧ Hid (wr.heap[g3]? = some (.cells #[.string r.space, .string r.name, .slice ra nn rc] 69 (0, 0))) ∧ Hid (From w0 wr gR (i * 3)) ∧ Hid (∀ gB, Value.ownBlock (.slice a2 nb c2) = some gB → From w0 wr gB 0))
      case atStart => exact ⟨0, by omega, rfl, S2, B2, B3, F2, Fb2⟩
      case round =>
        obtain ⟨j, hjg, rfl, Hsp, Hg1, Hg3, Hfr, Hfb⟩ := hrel
        cases gk with
        | zero =>
          obtain rfl : nn = j := by omega
          have d1 := fun i => cell_block Hg1.out i
          obtain ⟨hth, hs5, hk5, hf5⟩ := Hsp.out.other (vs := [.string ⟨#[]⟩, .string ⟨#[]⟩, .slice none 0 0]) hgR hgR2 (by decide) HC.out Hfr.out (by rw [HZ.out]; show i * 3 + 3 ≤ _; omega)
          have S5 := Lib.hid hs5
          have D5 := Lib.hid (hk5 _ _ _ _ Hg1.out (by decide))
          have F5 := Lib.hid hf5
          have G5 : Hid (∀ gB, Value.ownBlock (.slice a2 nb c2) = some gB → From w0 (wr.setCells gR (i * 3) [.string ⟨#[]⟩, .string ⟨#[]⟩, .slice none 0 0]) gB 0) := Lib.hid (fun gB he => (Hfb.out gB he).same hk5 (fun cs t h => by
            obtain ⟨_, _, cur9, h9⟩ := HB.out.at he
            rw [h9] at h; cases h; decide))
          clear hs5 hk5 hf5 hjg Hfr Hfb Hg3 S2 B2 B3 F2 Fb2 HQ HokQ
          go_upto_region 12 with fail
          iterate 16 go_step
          refine wpList_store_mid (by rfl) _ _ _ (by rfl) gR (i * 3) #[.string ⟨#[]⟩, .string ⟨#[]⟩, .slice none 0 0] (by rfl) (by rfl) hth Tryd.sizeRoleO (by simp [Value.oneCell']) ?_
          obtain ⟨wz, Hwz⟩ : ∃ wz, Hid (wr.setCells gR (i * 3) [.string ⟨#[]⟩, .string ⟨#[]⟩, .slice none 0 0] = wz) := ⟨_, Lib.hid rfl⟩
          have n1 := S5.out
          have n2 := D5.out
          have n3 := F5.out
          have n4 := G5.out
          rw [Hwz.out] at n1 n2 n3 n4
          have N1 := Lib.hid n1
          have N2 := Lib.hid n2
          have N4 := Lib.hid n4
          have N3 : Hid (∀ gB, Value.ownBlock (.slice (some ⟨gR, 0, none⟩) nr c1) = some gB → From w0 wz gB ((i + 1) * 3)) := Lib.hid (fun gB he => by
            have he2 : gR = gB := by simpa [Value.ownBlock] using he
            subst he2
            have : (i + 1) * 3 = i * 3 + 3 := by omega
            rw [this]; exact n3)
          have hwz : wr.setCells gR (i * 3) (#[.string ⟨#[]⟩, .string ⟨#[]⟩, .slice none 0 0] : Array Value).toList = wz := Hwz.out
          rw [hwz]
          clear n1 n2 n3 n4 hwz Hwz hth S5 D5 F5 G5 d1 Hsp Hg1
          go_wp2_with fail
          go_roundg k
          case measure => omega
          case rel => exact ⟨i + 1, by omega, by go_num, N1, N2, N3, N4⟩
        | succ k =>
          have hjl : j < nn := by omega
          have hownQ := HQ.out
          rcases hownQ.form with ⟨hv0, hl0⟩ | ⟨gq, cq, hv0, hgq, hgq2, _, _⟩
          · have h9 := Hnn.out; rw [hl0] at h9; simp at h9; omega
          injection hv0 with u1 u2 u3
          subst u1 u3
          clear u2
          have hloose := texRules_loose hownQ HokQ.out
          obtain ⟨cs, k1, k2, k3⟩ := Hsp.out.loose gq nn hloose
          obtain ⟨u0, m0, l0⟩ := k3 (j * 3) (by omega)
          obtain ⟨u1, m1, l1⟩ := k3 (j * 3 + 1) (by omega)
          obtain ⟨u2, m2, l2⟩ := k3 (j * 3 + 2) (by omega)
          obtain ⟨p0, n0, c0, rfl⟩ := l0.slice
          obtain ⟨p1, n1, cc1, rfl⟩ := l1.slice
          obtain ⟨p2, n2, cc2, rfl⟩ := l2.slice
          have e0 : wr.cell? ⟨gq, j * 3, none⟩ = some (.slice p0 n0 c0) := (cell_block k1 _).trans m0
          have e1 : wr.cell? ⟨gq, j * 3 + 1, none⟩ = some (.slice p1 n1 cc1) := (cell_block k1 _).trans m1
          have e2 : wr.cell? ⟨gq, j * 3 + 2, none⟩ = some (.slice p2 n2 cc2) := (cell_block k1 _).trans m2
          have q3 : (0 : Int) ≤ (j : Int) := by omega
          have q4 : (j : Int) < (nn : Int) := by omega
          obtain ⟨w5, hw5⟩ : ∃ w5, w5 = wr.alloc (.cells #[.slice p0 n0 c0, .slice p1 n1 cc1, .slice p2 n2 cc2] 44) := ⟨_, rfl⟩
          obtain ⟨g5, hg5⟩ : ∃ g5, g5 = wr.heap.size := ⟨_, rfl⟩
          have b5 : w5.heap[g5]? = some (.cells #[.slice p0 n0 c0, .slice p1 n1 cc1, .slice p2 n2 cc2] 44 (0, 0)) := by rw [hw5, hg5]; exact heap_alloc_new wr _
          have hb5 : Below wr.heap.size wr w5 := by rw [hw5]; exact (Below.refl _ wr).alloc (Nat.le_refl _) _
          have S5 := Lib.hid (Hsp.out.below hb5)
          have P1 := Lib.hid (below_block hb5 Hg1.out)
          have P3 := Lib.hid (below_block hb5 Hg3.out)
          have P5 := Lib.hid b5
          have F5 := Lib.hid (Hfr.out.below hb5)
          have G5 : Hid (∀ gB, Value.ownBlock (.slice a2 nb c2) = some gB → From w0 w5 gB 0) := Lib.hid (fun gB he => (Hfb.out gB he).below hb5)
          have L0 := Lib.hid l0
          have L1 := Lib.hid l1
          have L2 := Lib.hid l2
          have HL := Lib.hid hloose
          have d3 := fun i => cell_block b5 i
          clear hownQ hloose k1 k2 k3 m0 m1 m2 l0 l1 l2 hb5 b5 Hsp Hg1 Hg3 Hfr Hfb S2 B2 B3 F2 Fb2 HQ
          go_upto_region 7 with fail
          rw [← hw5, ← hg5]
          clear hw5 hg5 e0 e1 e2
          go_wp2_with fail
          refine (spoil_loose S5.out L0.out).mono ?_
          rintro E w6 ⟨rfl, hs, hk⟩
          have S6 := Lib.hid hs
          have Q1 := Lib.hid (hk _ _ _ _ P1.out (by decide))
          have Q3 := Lib.hid (hk _ _ _ _ P3.out (by decide))
          have Q5 := Lib.hid (hk _ _ _ _ P5.out (by decide))
          have F6 := Lib.hid (F5.out.same hk (fun cs t h => by rw [HC.out] at h; cases h; decide))
          have G6 : Hid (∀ gB, Value.ownBlock (.slice a2 nb c2) = some gB → From w0 w6 gB 0) := Lib.hid (fun gB he => (G5.out gB he).same hk (fun cs t h => by
            obtain ⟨_, _, cur9, h9⟩ := HB.out.at he
            rw [h9] at h; cases h; decide))
          clear d3 hs hk S5 P1 P3 P5 F5 G5
          have d3 := fun i => cell_block Q5.out i
          go_wp2_with fail
          refine (spoil_loose S6.out L1.out).mono ?_
          rintro E w7 ⟨rfl, hs, hk⟩
          have S7 := Lib.hid hs
          have R1 := Lib.hid (hk _ _ _ _ Q1.out (by decide))
          have R3 := Lib.hid (hk _ _ _ _ Q3.out (by decide))
          have R5 := Lib.hid (hk _ _ _ _ Q5.out (by decide))
          have F7 := Lib.hid (F6.out.same hk (fun cs t h => by rw [HC.out] at h; cases h; decide))
          have G7 : Hid (∀ gB, Value.ownBlock (.slice a2 nb c2) = some gB → From w0 w7 gB 0) := Lib.hid (fun gB he => (G6.out gB he).same hk (fun cs t h => by
            obtain ⟨_, _, cur9, h9⟩ := HB.out.at he
            rw [h9] at h; cases h; decide))
          clear d3 hs hk S6 Q1 Q3 Q5 F6 G6
          have d3 := fun i => cell_block R5.out i
          go_wp2_with fail
          refine (spoil_loose S7.out L2.out).mono ?_
          rintro E w8 ⟨rfl, hs, hk⟩
          have X1 := Lib.hid (hk _ _ _ _ R1.out (by decide))
          have X3 := Lib.hid (hk _ _ _ _ R3.out (by decide))
          have f8 := F7.out.same hk (fun cs t h => by rw [HC.out] at h; cases h; decide)
          have g8 : (∀ gB, Value.ownBlock (.slice a2 nb c2) = some gB → From w0 w8 gB 0) := (fun gB he => (G7.out gB he).same hk (fun cs t h => by
            obtain ⟨_, _, cur9, h9⟩ := HB.out.at he
            rw [h9] at h; cases h; decide))
          obtain ⟨hth, hs9, hk9⟩ := hs.rule hgq hgq2 HL.out hjl
          have S9 := Lib.hid hs9
          have Y1 := Lib.hid (hk9 _ _ _ _ X1.out (by decide))
          have Y3 := Lib.hid (hk9 _ _ _ _ X3.out (by decide))
          have F9 := Lib.hid (f8.same hk9 (fun cs t h => by rw [HC.out] at h; cases h; decide))
          have G9 : Hid (∀ gB, Value.ownBlock (.slice a2 nb c2) = some gB → From w0 (w8.setCells gq (j * 3) [.slice none 0 0, .slice none 0 0, .slice none 0 0]) gB 0) := Lib.hid (fun gB he => (g8 gB he).same hk9 (fun cs t h => by
            obtain ⟨_, _, cur9, h9⟩ := HB.out.at he
            rw [h9] at h; cases h; decide))
          have d1 := fun i => cell_block X3.out i
          clear d3 hs hk hs9 hk9 f8 g8 S7 R1 R3 R5 F7 G7
          go_upto_region 10 with fail
          iterate 16 go_step
          refine wpList_store_mid (by rfl) _ _ _ (by rfl) gq (j * 3) #[.slice none 0 0, .slice none 0 0, .slice none 0 0] (by rfl) (by rfl) hth Tryd.sizeRuleO (by simp [Value.oneCell']) ?_
          obtain ⟨wz, Hwz⟩ : ∃ wz, Hid (w8.setCells gq (j * 3) [.slice none 0 0, .slice none 0 0, .slice none 0 0] = wz) := ⟨_, Lib.hid rfl⟩
          have n1 := S9.out
          have n2 := Y1.out
          have n3 := Y3.out
          have n4 := F9.out
          have n5 := G9.out
          rw [Hwz.out] at n1 n2 n3 n4 n5
          have N1 := Lib.hid n1
          have N2 := Lib.hid n2
          have N3 := Lib.hid n3
          have N4 := Lib.hid n4
          have N5 := Lib.hid n5
          have hwz : w8.setCells gq (j * 3) (#[.slice none 0 0, .slice none 0 0, .slice none 0 0] : Array Value).toList = wz := Hwz.out
          rw [hwz]
          clear n1 n2 n3 n4 n5 hwz Hwz hth S9 Y1 Y3 F9 G9 d1 X1 X3 L0 L1 L2
          go_wp2_with fail
          go_roundg k
          case measure => omega
          case rel => exact ⟨j + 1, by omega, by go_num, N1, N2, N3, N4, N5⟩
end Go.Proofs.YtkmonmdnmpbadaaDoor
namespace Go.Proofs.YtkmonmdnmpbadaaDoor
open Go.RowKit
theorem eqS_no {l m : List ByteArray} {i : Nat} {x y : ByteArray} (hx : l[i]? = some x) (hy : m[i]? = some y) (h : x ≠ y) : decide (l = m) = false := by
  rw [decide_eq_false_iff_not]
  intro e
  subst e
  rw [hx] at hy
  cases hy
  exact h rfl
theorem eqS_yes {l m : List ByteArray} (h : l.length = m.length) (k : ∀ (i : Nat) (x y : ByteArray), i < l.length → l[i]? = some x → m[i]? = some y → x = y) : decide (l = m) = true := by
  rw [decide_eq_true_iff]
  apply List.ext_getElem h
  intro i hi hj
  exact k i _ _ hi (List.getElem?_eq_getElem hi) (List.getElem?_eq_getElem hj)
set_option maxRecDepth 100000 in
set_option maxHeartbeats 800000 in
theorem eqStrs_any (v1 v2 : Value) (l m : List ByteArray) (w : World) (h1 : StrAt w v1 l) (h2 : StrAt w v2 m) (hl : l.length ≤ 8388608) (hm : m.length ≤ 8388608) :
    Calls Tryd.prog 29 #[v1, v2] w fun e w' => e = .returned (.bool (decide (l = m))) ∧ w = w' := by
  obtain ⟨a1, c1, rfl, _, _⟩ := h1.len
  obtain ⟨a2, c2, rfl, _, _⟩ := h2.len
  have H1 := Lib.hid h1
  have H2 := Lib.hid h2
  clear h1 h2
  by_cases hlen : l.length = m.length
  · have q1 : ((l.length : Int) != (m.length : Int)) = false := by rw [bne_eq_false_iff_eq]; omega
    have Hlen := Lib.hid hlen
    clear hlen
    go_enter Tryd.func29, Tryd.ntmps29
    go_wp2_with fail
    clear q1
    go_loopg [14] l.length (fun g u14 wr => ∃ i : Nat, i + g = l.length ∧ u14 = .int .i64 (i : Int) ∧ Hid (∀ (k : Nat) (x y : ByteArray), k < i → l[k]? = some x → m[k]? = some y → x = y) ∧ w = wr)
    case atStart => exact ⟨0, by omega, rfl, Lib.hid (fun k _ _ hk => by omega), rfl⟩
    case round =>
      obtain ⟨i, hig, rfl, Hall, rfl⟩ := hrel
      cases gk with
      | zero =>
        obtain rfl : i = l.length := by omega
        have Hyes : Hid (decide (l = m) = true) := eqS_yes Hlen.out fun k x y hk hx hy => Hall.out k x y hk hx hy
        go_wp2_with fail
        go_ret
        exact ⟨congrArg (fun b => Ending.returned (Value.bool b)) Hyes.out.symm, rfl⟩
      | succ g =>
        have hil : i < l.length := by omega
        have him : i < m.length := by have := Hlen.out; omega
        obtain ⟨x, hx⟩ : ∃ x, l[i]? = some x := ⟨l[i]'(by omega), List.getElem?_eq_getElem _⟩
        obtain ⟨y, hy⟩ : ∃ y, m[i]? = some y := ⟨m[i]'(by omega), List.getElem?_eq_getElem _⟩
        obtain ⟨b, o, c', hv, _, _, hbs, hcell⟩ := H1.out.form (by omega)
        injection hv with u1 u2 u3
        subst u1
        clear u2 u3
        obtain ⟨b', o', c'', hv, _, _, hbs', hcell'⟩ := H2.out.form (by omega)
        injection hv with u1 u2 u3
        subst u1
        clear u2 u3
        have e0 : w.cell? ⟨b, o + i, none⟩ = some (.string x) := hcell i x hx
        have f0 : w.cell? ⟨b', o' + i, none⟩ = some (.string y) := hcell' i y hy
        have q1 : (0 : Int) ≤ (i : Int) := by omega
        have q2 : (i : Int) < (l.length : Int) := by omega
        have q3 : (i : Int) < (m.length : Int) := by omega
        have Hx := Lib.hid hx
        have Hy := Lib.hid hy
        clear hcell hcell' hx hy
        by_cases he : x = y
        · have Hall2 : Hid (∀ (k : Nat) (x y : ByteArray), k < i + 1 → l[k]? = some x → m[k]? = some y → x = y) := Lib.hid fun k x' y' hk hx' hy' => by
            rcases Nat.lt_or_ge k i with h | h
            · exact Hall.out k x' y' h hx' hy'
            · obtain rfl : k = i := by omega
              have a := Hx.out; have b := Hy.out
              rw [a] at hx'; rw [b] at hy'
              cases hx'; cases hy'
              exact he
          have q4 : (x.toList == y.toList) = true := by rw [he]; simp
          clear he
          go_wp2_with fail
          go_roundg g
          case measure => omega
          case rel => exact ⟨i + 1, by omega, by go_num, Hall2, rfl⟩
        · have Hno : Hid (decide (l = m) = false) := Lib.hid (eqS_no Hx.out Hy.out he)
          have q4 : (x.toList == y.toList) = false := by rw [beq_eq_false_iff_ne]; exact fun h => he (toList_inj h)
          clear he
          go_wp2_with fail
          go_ret
          exact ⟨congrArg (fun b => Ending.returned (Value.bool b)) Hno.out.symm, rfl⟩
  · have q1 : ((l.length : Int) != (m.length : Int)) = true := by rw [bne_iff_ne]; omega
    have Hno : Hid (decide (l = m) = false) := by show _ = _; rw [decide_eq_false_iff_not]; exact fun h => hlen (congrArg _ h)
    clear hlen
    go_enter Tryd.func29, Tryd.ntmps29
    go_wp2_with fail
    go_ret
    exact ⟨congrArg (fun b => Ending.returned (Value.bool b)) Hno.out.symm, rfl⟩
end Go.Proofs.YtkmonmdnmpbadaaDoor
namespace Go.Proofs.YtkmonmdnmpbadaaDoor
open Go.RowKit
theorem below_drew1' (w : World) : Below w.heap.size w w.drew := ⟨rfl, rfl, rfl, Nat.le_refl _, fun _ _ => rfl⟩
theorem eqStrs_yes (v1 v2 : Value) (l : List ByteArray) (w : World) (h1 : StrAt w v1 l) (h2 : StrAt w v2 l) (hl : l.length ≤ 8388608) :
    Calls Tryd.prog 29 #[v1, v2] w fun e w' => e = .returned (.bool true) ∧ w = w' := by
  refine (eqStrs_any v1 v2 l l w h1 h2 hl hl).mono ?_
  rintro E w' ⟨rfl, rfl⟩
  exact ⟨by rw [decide_eq_true rfl], rfl⟩
set_option maxRecDepth 100000 in
set_option maxHeartbeats 3200000 in
theorem sameRule_yes (x : GRule) (y0 z0 y1 z1 y2 z2 : Value) (w : World) (hx : RuleR w [y0, y1, y2] x) (hy : RuleR w [z0, z1, z2] x) (ok : okRule x) :
    Calls Tryd.prog 21 #[.agg #[y0, y1, y2], .agg #[z0, z1, z2]] w fun e w' => e = .returned (.bool true) ∧ Below w.heap.size w w' := by
  obtain ⟨_, _, _, hcs, p0, p1, p2⟩ := hx
  simp only [List.cons.injEq, and_true] at hcs
  obtain ⟨rfl, rfl, rfl⟩ := hcs
  obtain ⟨_, _, _, hcs, r0, r1, r2⟩ := hy
  simp only [List.cons.injEq, and_true] at hcs
  obtain ⟨rfl, rfl, rfl⟩ := hcs
  have o0 := ok.1.1
  have o1 := ok.2.1.1
  have o2 := ok.2.2.1
  obtain ⟨m0, hm0⟩ : ∃ m, x.verbs.length = m := ⟨_, rfl⟩
  obtain ⟨m1, hm1⟩ : ∃ m, x.kinds.length = m := ⟨_, rfl⟩
  obtain ⟨m2, hm2⟩ : ∃ m, x.names.length = m := ⟨_, rfl⟩
  obtain ⟨a0, c0, rfl, -, -⟩ := p0.row.len
  obtain ⟨d0, e0, rfl, -, -⟩ := r0.row.len
  rw [hm0] at p0 r0 o0 ⊢
  obtain ⟨a1, c1, rfl, -, -⟩ := p1.row.len
  obtain ⟨d1, e1, rfl, -, -⟩ := r1.row.len
  rw [hm1] at p1 r1 o1 ⊢
  obtain ⟨a2, c2, rfl, -, -⟩ := p2.row.len
  obtain ⟨d2, e2, rfl, -, -⟩ := r2.row.len
  rw [hm2] at p2 r2 o2 ⊢
  obtain ⟨w1, hw1⟩ : ∃ w1, w1 = w.alloc (.cells #[.slice a0 m0 c0, .slice a1 m1 c1, .slice a2 m2 c2] 44) := ⟨_, rfl⟩
  obtain ⟨w2, hw2⟩ : ∃ w2, w2 = w1.alloc (.cells #[.slice d0 m0 e0, .slice d1 m1 e1, .slice d2 m2 e2] 44) := ⟨_, rfl⟩
  obtain ⟨g, hg⟩ : ∃ g, g = w.heap.size := ⟨_, rfl⟩
  have hs1 : w1.heap.size = g + 1 := by rw [hw1, hg, World.size_alloc]
  have b1 : w1.heap[g]? = some (.cells #[.slice a0 m0 c0, .slice a1 m1 c1, .slice a2 m2 c2] 44 (0, 0)) := by rw [hw1, hg]; exact heap_alloc_new w _
  have b2 : w2.heap[g + 1]? = some (.cells #[.slice d0 m0 e0, .slice d1 m1 e1, .slice d2 m2 e2] 44 (0, 0)) := by rw [hw2, ← hs1]; exact heap_alloc_new w1 _
  have hb1 : Below w.heap.size w w1 := by rw [hw1]; exact (Below.refl _ _).alloc (Nat.le_refl _) _
  have hb2 : Below w1.heap.size w1 w2 := by rw [hw2]; exact (Below.refl _ _).alloc (Nat.le_refl _) _
  have hb : Below w.heap.size w w2 := hb1.trans (hb2.mono hb1.size)
  have B1 := Lib.hid (below_block hb2 b1)
  have B2 := Lib.hid b2
  have dd := fun i => cell_block B1.out i
  have ee := fun i => cell_block B2.out i
  have Hb := Lib.hid hb
  have P0 := Lib.hid (p0.below' hb)
  have R0 := Lib.hid (r0.below' hb)
  have M0 := Lib.hid hm0
  have P1 := Lib.hid (p1.below' hb)
  have R1 := Lib.hid (r1.below' hb)
  have M1 := Lib.hid hm1
  have P2 := Lib.hid (p2.below' hb)
  have R2 := Lib.hid (r2.below' hb)
  have M2 := Lib.hid hm2
  clear b1 b2 hb1 hb2 hb p0 p1 p2 r0 r1 r2 hm0 hm1 hm2 ok
  go_enter Tryd.func21, Tryd.ntmps21
  go_upto_region 1 with fail
  rw [← hw1, ← hw2]
  try rw [hs1]
  try rw [← hg]
  clear hw1 hw2 hg hs1
  go_wp2_with fail
  refine (eqStrs_yes _ _ x.verbs w2 P0.out R0.out (by rw [M0.out]; omega)).mono ?_
  rintro E w3 ⟨rfl, rfl⟩
  go_wp2_with fail
  refine (eqStrs_yes _ _ x.kinds w2 P1.out R1.out (by rw [M1.out]; omega)).mono ?_
  rintro E w3 ⟨rfl, rfl⟩
  go_wp2_with fail
  refine (eqStrs_yes _ _ x.names w2 P2.out R2.out (by rw [M2.out]; omega)).mono ?_
  rintro E w3 ⟨rfl, rfl⟩
  go_wp2_with fail
  go_ret
  exact ⟨rfl, Hb.out⟩
theorem run_sameRule : ∀ (a : Array Value) (w : World), (callFunc 21 a).run Tryd.prog w = .ok (.enter 21 a) w := run_callFunc_body Tryd.func21 (by kernel_rfl) (by kernel_rfl)
set_option maxRecDepth 100000 in
set_option maxHeartbeats 3200000 in
theorem sameRules_yes (v1 v2 : Value) (l : List GRule) (w : World) (h1 : RowAt RuleR 3 w v1 l) (h2 : RowAt RuleR 3 w v2 l) (hl : l.length ≤ 8388608) (ok : ∀ r ∈ l, okRule r) :
    Calls Tryd.prog 20 #[v1, v2, .func (.func 21) #[] #[]] w fun e w' => e = .returned (.bool true) ∧ Below w.heap.size w w' := by
  obtain ⟨a1, c1, rfl, _, _⟩ := h1.len
  obtain ⟨a2, c2, rfl, _, _⟩ := h2.len
  have H1 := Lib.hid h1
  have H2 := Lib.hid h2
  have Ok := Lib.hid ok
  obtain ⟨n, hn⟩ : ∃ n, l.length = n := ⟨_, rfl⟩
  rw [hn] at H1 H2 hl ⊢
  have Hn := Lib.hid hn
  clear h1 h2 ok hn
  have q1 : ((n : Int) != (n : Int)) = false := by rw [bne_eq_false_iff_eq]
  go_enter Tryd.func20, Tryd.ntmps20
  go_wp2_with fail
  clear q1
  go_loopg [15] n (fun g u15 wr => ∃ i : Nat, i + g = n ∧ u15 = .int .i64 (i : Int) ∧ Hid (Below w.heap.size w wr))
  case atStart => exact ⟨0, by omega, rfl, Lib.hid (Below.refl _ _)⟩
  case round =>
    obtain ⟨i, hig, rfl, Hbel⟩ := hrel
    cases gk with
    | zero =>
      obtain rfl : n = i := by omega
      go_wp2_with fail
      go_ret
      exact ⟨rfl, Hbel.out⟩
    | succ k =>
      have hil : i < n := by omega
      obtain ⟨x, hx⟩ : ∃ x, l[i]? = some x := ⟨l[i]'(by rw [Hn.out]; exact hil), List.getElem?_eq_getElem _⟩
      obtain ⟨b, o, c', hv, _, _, hbs, hcell⟩ := H1.out.form (by rw [Hn.out]; omega) (by omega)
      injection hv with u1 u2 u3
      subst u1
      clear u2 u3
      obtain ⟨b', o', c'', hv, _, _, hbs', hcell'⟩ := H2.out.form (by rw [Hn.out]; omega) (by omega)
      injection hv with u1 u2 u3
      subst u1
      clear u2 u3
      obtain ⟨ds, _, hcc, hR⟩ := hcell i x hx
      obtain ⟨es, _, hdd, hS⟩ := hcell' i x hx
      have SR := stays_rule _ _ _ _ (keeps_below Hbel.out) hR
      have SS := stays_rule _ _ _ _ (keeps_below Hbel.out) hS
      have SR2 := SR
      have SS2 := SS
      obtain ⟨y0, y1, y2, rfl, _⟩ := SR2
      obtain ⟨z0, z1, z2, rfl, _⟩ := SS2
      have e0 : wr.cell? ⟨b, o + i * 3, none⟩ = some (y0) := (Hbel.out.cell (p := ⟨b, _, none⟩) hbs).trans (by simpa using hcc 0 _ rfl)
      have f0 : wr.cell? ⟨b', o' + i * 3, none⟩ = some (z0) := (Hbel.out.cell (p := ⟨b', _, none⟩) hbs').trans (by simpa using hdd 0 _ rfl)
      have e1 : wr.cell? ⟨b, o + i * 3 + 1, none⟩ = some (y1) := (Hbel.out.cell (p := ⟨b, _, none⟩) hbs).trans (hcc 1 _ rfl)
      have f1 : wr.cell? ⟨b', o' + i * 3 + 1, none⟩ = some (z1) := (Hbel.out.cell (p := ⟨b', _, none⟩) hbs').trans (hdd 1 _ rfl)
      have e2 : wr.cell? ⟨b, o + i * 3 + 2, none⟩ = some (y2) := (Hbel.out.cell (p := ⟨b, _, none⟩) hbs).trans (hcc 2 _ rfl)
      have f2 : wr.cell? ⟨b', o' + i * 3 + 2, none⟩ = some (z2) := (Hbel.out.cell (p := ⟨b', _, none⟩) hbs').trans (hdd 2 _ rfl)
      have q1 : (0 : Int) ≤ (i : Int) := by omega
      have q2 : (i : Int) < (n : Int) := by omega
      have hb0 : b < wr.heap.size := Nat.lt_of_lt_of_le hbs Hbel.out.size
      have hb1 : b' < wr.heap.size := Nat.lt_of_lt_of_le hbs' Hbel.out.size
      have hokx := Ok.out x (List.mem_of_getElem? hx)
      have HC : Hid (∀ w', Below wr.heap.size wr w' → Calls Tryd.prog 21 #[.agg #[y0, y1, y2], .agg #[z0, z1, z2]] w' fun e w'' => e = .returned (.bool true) ∧ Below wr.heap.size wr w'') := Lib.hid fun w' hb' => by
        refine (sameRule_yes x y0 z0 y1 z1 y2 z2 w' (stays_rule _ _ _ _ (keeps_below hb') SR) (stays_rule _ _ _ _ (keeps_below hb') SS) hokx).mono ?_
        rintro E w'' ⟨rfl, hb''⟩
        exact ⟨rfl, hb'.trans (hb''.mono hb'.size)⟩
      clear hcell hcell' hx hcc hdd hR hS SR SS hokx hbs hbs'
      go_upto_region 6 with fail
      refine wp_region_hold 10 (fun w' => Below wr.heap.size wr w') (by kernel_rfl) (by kernel_rfl) ?_ ?_
      · exact below_drew1' wr
      simp only [List.take_succ_cons, List.take_zero, List.drop_succ_cons, List.drop_zero]
      (first | (refine wpHold_pure (v := ?_) (by rfl) (fun w => ?_) ?_; rotate_left; focus (first | (go_simp; done) | (go_simp; with_reducible rfl))) | (refine wpHold_skip ?_ ?_; focus (go_simp; done)) | (refine wpHold_pure' (v := ?_) ?_ (fun w => ?_) ?_; rotate_left; focus (go_simp; done); focus (first | (go_simp; done) | (go_simp; with_reducible rfl)))); try simp only [Act.put, List.setIfInBounds_toArray, List.set_cons_zero, List.set_cons_succ]
      (first | (refine wpHold_pure (v := ?_) (by rfl) (fun w => ?_) ?_; rotate_left; focus (first | (go_simp; done) | (go_simp; with_reducible rfl))) | (refine wpHold_skip ?_ ?_; focus (go_simp; done)) | (refine wpHold_pure' (v := ?_) ?_ (fun w => ?_) ?_; rotate_left; focus (go_simp; done); focus (first | (go_simp; done) | (go_simp; with_reducible rfl)))); try simp only [Act.put, List.setIfInBounds_toArray, List.set_cons_zero, List.set_cons_succ]
      (first | (refine wpHold_pure (v := ?_) (by rfl) (fun w => ?_) ?_; rotate_left; focus (first | (go_simp; done) | (go_simp; with_reducible rfl))) | (refine wpHold_skip ?_ ?_; focus (go_simp; done)) | (refine wpHold_pure' (v := ?_) ?_ (fun w => ?_) ?_; rotate_left; focus (go_simp; done); focus (first | (go_simp; done) | (go_simp; with_reducible rfl)))); try simp only [Act.put, List.setIfInBounds_toArray, List.set_cons_zero, List.set_cons_succ]
      refine wpHold_pure (v := .pointer (some ⟨b, o + i * 3, none⟩)) (by rfl) (fun w' => ?_) ?_
      · go_simp
        done
      try simp only [Act.put, List.setIfInBounds_toArray, List.set_cons_zero, List.set_cons_succ]
      refine wpHold_read (v := .agg #[y0, y1, y2]) (by rfl) (fun w' hI => ?_) ?_
      · have d0 := (hI.cell (p := ⟨b, o + i * 3, none⟩) hb0).trans e0
        have d1 := (hI.cell (p := ⟨b, o + i * 3 + 1, none⟩) hb0).trans e1
        have d2 := (hI.cell (p := ⟨b, o + i * 3 + 2, none⟩) hb0).trans e2
        go_simp
        done
      try simp only [Act.put, List.setIfInBounds_toArray, List.set_cons_zero, List.set_cons_succ]
      (first | (refine wpHold_pure (v := ?_) (by rfl) (fun w => ?_) ?_; rotate_left; focus (first | (go_simp; done) | (go_simp; with_reducible rfl))) | (refine wpHold_skip ?_ ?_; focus (go_simp; done)) | (refine wpHold_pure' (v := ?_) ?_ (fun w => ?_) ?_; rotate_left; focus (go_simp; done); focus (first | (go_simp; done) | (go_simp; with_reducible rfl)))); try simp only [Act.put, List.setIfInBounds_toArray, List.set_cons_zero, List.set_cons_succ]
      (first | (refine wpHold_pure (v := ?_) (by rfl) (fun w => ?_) ?_; rotate_left; focus (first | (go_simp; done) | (go_simp; with_reducible rfl))) | (refine wpHold_skip ?_ ?_; focus (go_simp; done)) | (refine wpHold_pure' (v := ?_) ?_ (fun w => ?_) ?_; rotate_left; focus (go_simp; done); focus (first | (go_simp; done) | (go_simp; with_reducible rfl)))); try simp only [Act.put, List.setIfInBounds_toArray, List.set_cons_zero, List.set_cons_succ]
      refine wpHold_pure (v := .pointer (some ⟨b', o' + i * 3, none⟩)) (by rfl) (fun w' => ?_) ?_
      · go_simp
        done
      try simp only [Act.put, List.setIfInBounds_toArray, List.set_cons_zero, List.set_cons_succ]
      refine wpHold_read (v := .agg #[z0, z1, z2]) (by rfl) (fun w' hI => ?_) ?_
      · have d0 := (hI.cell (p := ⟨b', o' + i * 3, none⟩) hb1).trans f0
        have d1 := (hI.cell (p := ⟨b', o' + i * 3 + 1, none⟩) hb1).trans f1
        have d2 := (hI.cell (p := ⟨b', o' + i * 3 + 2, none⟩) hb1).trans f2
        go_simp
        done
      try simp only [Act.put, List.setIfInBounds_toArray, List.set_cons_zero, List.set_cons_succ]
      refine wpHold_call (v := .bool true) (f := 21) (args := #[.agg #[y0, y1, y2], .agg #[z0, z1, z2]]) (by rfl) (fun w' => ?_) (fun w' hI => HC.out w' hI) ?_
      · simp only [run_sameRule, go_sem]
        go_simp
        done
      try simp only [Act.put, List.setIfInBounds_toArray, List.set_cons_zero, List.set_cons_succ]
      refine wpHold_nil ?_
      intro w' hI
      have Hb' := Lib.hid (Hbel.out.trans (hI.mono Hbel.out.size))
      clear hI e0 f0 e1 f1 e2 f2 HC
      go_wp2_with fail
      go_roundg k
      case measure => omega
      case rel => exact ⟨i + 1, by omega, by go_num, Hb'⟩
set_option maxRecDepth 100000 in
set_option maxHeartbeats 3200000 in
theorem sameRole_yes (x : GRole) (y2 z2 : Value) (w : World) (hx : RoleR w [.string x.space, .string x.name, y2] x) (hy : RoleR w [.string x.space, .string x.name, z2] x) (ok : okRole x) :
    Calls Tryd.prog 36 #[.agg #[.string x.space, .string x.name, y2], .agg #[.string x.space, .string x.name, z2]] w fun e w' => e = .returned (.bool true) ∧ Below w.heap.size w w' := by
  obtain ⟨_, hcs, p2⟩ := hx
  simp only [List.cons.injEq, and_true, true_and] at hcs
  obtain rfl := hcs
  obtain ⟨_, hcs, r2⟩ := hy
  simp only [List.cons.injEq, and_true, true_and] at hcs
  obtain rfl := hcs
  have o2 := ok.2.2.1
  have Ok := Lib.hid ok.2.2.2
  obtain ⟨m2, hm2⟩ : ∃ m, x.rules.length = m := ⟨_, rfl⟩
  obtain ⟨a2, c2, rfl, -, -⟩ := p2.len
  obtain ⟨d2, e2, rfl, -, -⟩ := r2.len
  rw [hm2] at p2 r2 o2 ⊢
  have s1 : (x.space.toList == x.space.toList) = true := beq_self_eq_true _
  have s2 : (x.name.toList == x.name.toList) = true := beq_self_eq_true _
  obtain ⟨w1, hw1⟩ : ∃ w1, w1 = w.alloc (.cells #[.string x.space, .string x.name, .slice a2 m2 c2] 69) := ⟨_, rfl⟩
  obtain ⟨w2, hw2⟩ : ∃ w2, w2 = w1.alloc (.cells #[.string x.space, .string x.name, .slice d2 m2 e2] 69) := ⟨_, rfl⟩
  obtain ⟨g, hg⟩ : ∃ g, g = w.heap.size := ⟨_, rfl⟩
  have hs1 : w1.heap.size = g + 1 := by rw [hw1, hg, World.size_alloc]
  have b1 : w1.heap[g]? = some (.cells #[.string x.space, .string x.name, .slice a2 m2 c2] 69 (0, 0)) := by rw [hw1, hg]; exact heap_alloc_new w _
  have b2 : w2.heap[g + 1]? = some (.cells #[.string x.space, .string x.name, .slice d2 m2 e2] 69 (0, 0)) := by rw [hw2, ← hs1]; exact heap_alloc_new w1 _
  have hb1 : Below w.heap.size w w1 := by rw [hw1]; exact (Below.refl _ _).alloc (Nat.le_refl _) _
  have hb2 : Below w1.heap.size w1 w2 := by rw [hw2]; exact (Below.refl _ _).alloc (Nat.le_refl _) _
  have hb : Below w.heap.size w w2 := hb1.trans (hb2.mono hb1.size)
  have B1 := Lib.hid (below_block hb2 b1)
  have B2 := Lib.hid b2
  have dd := fun i => cell_block B1.out i
  have ee := fun i => cell_block B2.out i
  have Hb := Lib.hid hb
  have P2 := Lib.hid (p2.below stays_rule hb)
  have R2 := Lib.hid (r2.below stays_rule hb)
  have M2 := Lib.hid hm2
  clear b1 b2 hb1 hb2 hb p2 r2 hm2 ok
  go_enter Tryd.func36, Tryd.ntmps36
  go_upto_region 1 with fail
  rw [← hw1, ← hw2]
  try rw [hs1]
  try rw [← hg]
  clear hw1 hw2 hg hs1
  go_wp2_with fail
  refine (sameRules_yes _ _ x.rules w2 P2.out R2.out (by rw [M2.out]; omega) Ok.out).mono ?_
  rintro E w3 ⟨rfl, hb3⟩
  have Hb3 := Lib.hid (Hb.out.trans (hb3.mono Hb.out.size))
  clear hb3
  go_wp2_with fail
  go_ret
  exact ⟨rfl, Hb3.out⟩
theorem run_sameRole : ∀ (a : Array Value) (w : World), (callFunc 36 a).run Tryd.prog w = .ok (.enter 36 a) w := run_callFunc_body Tryd.func36 (by kernel_rfl) (by kernel_rfl)
set_option maxRecDepth 100000 in
set_option maxHeartbeats 3200000 in
theorem sameRoles_yes (v1 v2 : Value) (l : List GRole) (w : World) (h1 : RowAt RoleR 3 w v1 l) (h2 : RowAt RoleR 3 w v2 l) (hl : l.length ≤ 8388608) (ok : ∀ r ∈ l, okRole r) :
    Calls Tryd.prog 35 #[v1, v2, .func (.func 36) #[] #[]] w fun e w' => e = .returned (.bool true) ∧ Below w.heap.size w w' := by
  obtain ⟨a1, c1, rfl, _, _⟩ := h1.len
  obtain ⟨a2, c2, rfl, _, _⟩ := h2.len
  have H1 := Lib.hid h1
  have H2 := Lib.hid h2
  have Ok := Lib.hid ok
  obtain ⟨n, hn⟩ : ∃ n, l.length = n := ⟨_, rfl⟩
  rw [hn] at H1 H2 hl ⊢
  have Hn := Lib.hid hn
  clear h1 h2 ok hn
  have q1 : ((n : Int) != (n : Int)) = false := by rw [bne_eq_false_iff_eq]
  go_enter Tryd.func35, Tryd.ntmps35
  go_wp2_with fail
  clear q1
  go_loopg [15] n (fun g u15 wr => ∃ i : Nat, i + g = n ∧ u15 = .int .i64 (i : Int) ∧ Hid (Below w.heap.size w wr))
  case atStart => exact ⟨0, by omega, rfl, Lib.hid (Below.refl _ _)⟩
  case round =>
    obtain ⟨i, hig, rfl, Hbel⟩ := hrel
    cases gk with
    | zero =>
      obtain rfl : n = i := by omega
      go_wp2_with fail
      go_ret
      exact ⟨rfl, Hbel.out⟩
    | succ k =>
      have hil : i < n := by omega
      obtain ⟨x, hx⟩ : ∃ x, l[i]? = some x := ⟨l[i]'(by rw [Hn.out]; exact hil), List.getElem?_eq_getElem _⟩
      obtain ⟨b, o, c', hv, _, _, hbs, hcell⟩ := H1.out.form (by rw [Hn.out]; omega) (by omega)
      injection hv with u1 u2 u3
      subst u1
      clear u2 u3
      obtain ⟨b', o', c'', hv, _, _, hbs', hcell'⟩ := H2.out.form (by rw [Hn.out]; omega) (by omega)
      injection hv with u1 u2 u3
      subst u1
      clear u2 u3
      obtain ⟨ds, _, hcc, hR⟩ := hcell i x hx
      obtain ⟨es, _, hdd, hS⟩ := hcell' i x hx
      have SR := stays_role _ _ _ _ (keeps_below Hbel.out) hR
      have SS := stays_role _ _ _ _ (keeps_below Hbel.out) hS
      have SR2 := SR
      have SS2 := SS
      obtain ⟨y2, rfl, _⟩ := SR2
      obtain ⟨z2, rfl, _⟩ := SS2
      have e0 : wr.cell? ⟨b, o + i * 3, none⟩ = some (.string x.space) := (Hbel.out.cell (p := ⟨b, _, none⟩) hbs).trans (by simpa using hcc 0 _ rfl)
      have f0 : wr.cell? ⟨b', o' + i * 3, none⟩ = some (.string x.space) := (Hbel.out.cell (p := ⟨b', _, none⟩) hbs').trans (by simpa using hdd 0 _ rfl)
      have e1 : wr.cell? ⟨b, o + i * 3 + 1, none⟩ = some (.string x.name) := (Hbel.out.cell (p := ⟨b, _, none⟩) hbs).trans (hcc 1 _ rfl)
      have f1 : wr.cell? ⟨b', o' + i * 3 + 1, none⟩ = some (.string x.name) := (Hbel.out.cell (p := ⟨b', _, none⟩) hbs').trans (hdd 1 _ rfl)
      have e2 : wr.cell? ⟨b, o + i * 3 + 2, none⟩ = some (y2) := (Hbel.out.cell (p := ⟨b, _, none⟩) hbs).trans (hcc 2 _ rfl)
      have f2 : wr.cell? ⟨b', o' + i * 3 + 2, none⟩ = some (z2) := (Hbel.out.cell (p := ⟨b', _, none⟩) hbs').trans (hdd 2 _ rfl)
      have q1 : (0 : Int) ≤ (i : Int) := by omega
      have q2 : (i : Int) < (n : Int) := by omega
      have hb0 : b < wr.heap.size := Nat.lt_of_lt_of_le hbs Hbel.out.size
      have hb1 : b' < wr.heap.size := Nat.lt_of_lt_of_le hbs' Hbel.out.size
      have hokx := Ok.out x (List.mem_of_getElem? hx)
      have HC : Hid (∀ w', Below wr.heap.size wr w' → Calls Tryd.prog 36 #[.agg #[.string x.space, .string x.name, y2], .agg #[.string x.space, .string x.name, z2]] w' fun e w'' => e = .returned (.bool true) ∧ Below wr.heap.size wr w'') := Lib.hid fun w' hb' => by
        refine (sameRole_yes x y2 z2 w' (stays_role _ _ _ _ (keeps_below hb') SR) (stays_role _ _ _ _ (keeps_below hb') SS) hokx).mono ?_
        rintro E w'' ⟨rfl, hb''⟩
        exact ⟨rfl, hb'.trans (hb''.mono hb'.size)⟩
      clear hcell hcell' hx hcc hdd hR hS SR SS hokx hbs hbs'
      go_upto_region 6 with fail
      refine wp_region_hold 10 (fun w' => Below wr.heap.size wr w') (by kernel_rfl) (by kernel_rfl) ?_ ?_
      · exact below_drew1' wr
      simp only [List.take_succ_cons, List.take_zero, List.drop_succ_cons, List.drop_zero]
      (first | (refine wpHold_pure (v := ?_) (by rfl) (fun w => ?_) ?_; rotate_left; focus (first | (go_simp; done) | (go_simp; with_reducible rfl))) | (refine wpHold_skip ?_ ?_; focus (go_simp; done)) | (refine wpHold_pure' (v := ?_) ?_ (fun w => ?_) ?_; rotate_left; focus (go_simp; done); focus (first | (go_simp; done) | (go_simp; with_reducible rfl)))); try simp only [Act.put, List.setIfInBounds_toArray, List.set_cons_zero, List.set_cons_succ]
      (first | (refine wpHold_pure (v := ?_) (by rfl) (fun w => ?_) ?_; rotate_left; focus (first | (go_simp; done) | (go_simp; with_reducible rfl))) | (refine wpHold_skip ?_ ?_; focus (go_simp; done)) | (refine wpHold_pure' (v := ?_) ?_ (fun w => ?_) ?_; rotate_left; focus (go_simp; done); focus (first | (go_simp; done) | (go_simp; with_reducible rfl)))); try simp only [Act.put, List.setIfInBounds_toArray, List.set_cons_zero, List.set_cons_succ]
      (first | (refine wpHold_pure (v := ?_) (by rfl) (fun w => ?_) ?_; rotate_left; focus (first | (go_simp; done) | (go_simp; with_reducible rfl))) | (refine wpHold_skip ?_ ?_; focus (go_simp; done)) | (refine wpHold_pure' (v := ?_) ?_ (fun w => ?_) ?_; rotate_left; focus (go_simp; done); focus (first | (go_simp; done) | (go_simp; with_reducible rfl)))); try simp only [Act.put, List.setIfInBounds_toArray, List.set_cons_zero, List.set_cons_succ]
      refine wpHold_pure (v := .pointer (some ⟨b, o + i * 3, none⟩)) (by rfl) (fun w' => ?_) ?_
      · go_simp
        done
      try simp only [Act.put, List.setIfInBounds_toArray, List.set_cons_zero, List.set_cons_succ]
      refine wpHold_read (v := .agg #[.string x.space, .string x.name, y2]) (by rfl) (fun w' hI => ?_) ?_
      · have d0 := (hI.cell (p := ⟨b, o + i * 3, none⟩) hb0).trans e0
        have d1 := (hI.cell (p := ⟨b, o + i * 3 + 1, none⟩) hb0).trans e1
        have d2 := (hI.cell (p := ⟨b, o + i * 3 + 2, none⟩) hb0).trans e2
        go_simp
        done
      try simp only [Act.put, List.setIfInBounds_toArray, List.set_cons_zero, List.set_cons_succ]
      (first | (refine wpHold_pure (v := ?_) (by rfl) (fun w => ?_) ?_; rotate_left; focus (first | (go_simp; done) | (go_simp; with_reducible rfl))) | (refine wpHold_skip ?_ ?_; focus (go_simp; done)) | (refine wpHold_pure' (v := ?_) ?_ (fun w => ?_) ?_; rotate_left; focus (go_simp; done); focus (first | (go_simp; done) | (go_simp; with_reducible rfl)))); try simp only [Act.put, List.setIfInBounds_toArray, List.set_cons_zero, List.set_cons_succ]
      (first | (refine wpHold_pure (v := ?_) (by rfl) (fun w => ?_) ?_; rotate_left; focus (first | (go_simp; done) | (go_simp; with_reducible rfl))) | (refine wpHold_skip ?_ ?_; focus (go_simp; done)) | (refine wpHold_pure' (v := ?_) ?_ (fun w => ?_) ?_; rotate_left; focus (go_simp; done); focus (first | (go_simp; done) | (go_simp; with_reducible rfl)))); try simp only [Act.put, List.setIfInBounds_toArray, List.set_cons_zero, List.set_cons_succ]
      refine wpHold_pure (v := .pointer (some ⟨b', o' + i * 3, none⟩)) (by rfl) (fun w' => ?_) ?_
      · go_simp
        done
      try simp only [Act.put, List.setIfInBounds_toArray, List.set_cons_zero, List.set_cons_succ]
      refine wpHold_read (v := .agg #[.string x.space, .string x.name, z2]) (by rfl) (fun w' hI => ?_) ?_
      · have d0 := (hI.cell (p := ⟨b', o' + i * 3, none⟩) hb1).trans f0
        have d1 := (hI.cell (p := ⟨b', o' + i * 3 + 1, none⟩) hb1).trans f1
        have d2 := (hI.cell (p := ⟨b', o' + i * 3 + 2, none⟩) hb1).trans f2
        go_simp
        done
      try simp only [Act.put, List.setIfInBounds_toArray, List.set_cons_zero, List.set_cons_succ]
      refine wpHold_call (v := .bool true) (f := 36) (args := #[.agg #[.string x.space, .string x.name, y2], .agg #[.string x.space, .string x.name, z2]]) (by rfl) (fun w' => ?_) (fun w' hI => HC.out w' hI) ?_
      · simp only [run_sameRole, go_sem]
        go_simp
        done
      try simp only [Act.put, List.setIfInBounds_toArray, List.set_cons_zero, List.set_cons_succ]
      refine wpHold_nil ?_
      intro w' hI
      have Hb' := Lib.hid (Hbel.out.trans (hI.mono Hbel.out.size))
      clear hI e0 f0 e1 f1 e2 f2 HC
      go_wp2_with fail
      go_roundg k
      case measure => omega
      case rel => exact ⟨i + 1, by omega, by go_num, Hb'⟩
set_option maxRecDepth 100000 in
set_option maxHeartbeats 3200000 in
theorem sameBind_yes (x : GBind) (y4 z4 y5 z5 : Value) (w : World) (hx : BindR w [.string x.space, .string x.name, .string x.role, .bool x.whole, y4, y5] x) (hy : BindR w [.string x.space, .string x.name, .string x.role, .bool x.whole, z4, z5] x) (ok : okBind x) :
    Calls Tryd.prog 38 #[.agg #[.string x.space, .string x.name, .string x.role, .bool x.whole, y4, y5], .agg #[.string x.space, .string x.name, .string x.role, .bool x.whole, z4, z5]] w fun e w' => e = .returned (.bool true) ∧ Below w.heap.size w w' := by
  obtain ⟨_, _, hcs, p4, p5⟩ := hx
  simp only [List.cons.injEq, and_true, true_and] at hcs
  obtain ⟨rfl, rfl⟩ := hcs
  obtain ⟨_, _, hcs, r4, r5⟩ := hy
  simp only [List.cons.injEq, and_true, true_and] at hcs
  obtain ⟨rfl, rfl⟩ := hcs
  have o4 := ok.2.2.2.1.1
  have o5 := ok.2.2.2.2.1
  obtain ⟨m4, hm4⟩ : ∃ m, x.users.length = m := ⟨_, rfl⟩
  obtain ⟨m5, hm5⟩ : ∃ m, x.groups.length = m := ⟨_, rfl⟩
  obtain ⟨a4, c4, rfl, -, -⟩ := p4.row.len
  obtain ⟨d4, e4, rfl, -, -⟩ := r4.row.len
  rw [hm4] at p4 r4 o4 ⊢
  obtain ⟨a5, c5, rfl, -, -⟩ := p5.row.len
  obtain ⟨d5, e5, rfl, -, -⟩ := r5.row.len
  rw [hm5] at p5 r5 o5 ⊢
  have s1 : (x.space.toList == x.space.toList) = true := beq_self_eq_true _
  have s2 : (x.name.toList == x.name.toList) = true := beq_self_eq_true _
  have s3 : (x.role.toList == x.role.toList) = true := beq_self_eq_true _
  have s4 : (x.whole == x.whole) = true := beq_self_eq_true _
  obtain ⟨w1, hw1⟩ : ∃ w1, w1 = w.alloc (.cells #[.string x.space, .string x.name, .string x.role, .bool x.whole, .slice a4 m4 c4, .slice a5 m5 c5] 71) := ⟨_, rfl⟩
  obtain ⟨w2, hw2⟩ : ∃ w2, w2 = w1.alloc (.cells #[.string x.space, .string x.name, .string x.role, .bool x.whole, .slice d4 m4 e4, .slice d5 m5 e5] 71) := ⟨_, rfl⟩
  obtain ⟨g, hg⟩ : ∃ g, g = w.heap.size := ⟨_, rfl⟩
  have hs1 : w1.heap.size = g + 1 := by rw [hw1, hg, World.size_alloc]
  have b1 : w1.heap[g]? = some (.cells #[.string x.space, .string x.name, .string x.role, .bool x.whole, .slice a4 m4 c4, .slice a5 m5 c5] 71 (0, 0)) := by rw [hw1, hg]; exact heap_alloc_new w _
  have b2 : w2.heap[g + 1]? = some (.cells #[.string x.space, .string x.name, .string x.role, .bool x.whole, .slice d4 m4 e4, .slice d5 m5 e5] 71 (0, 0)) := by rw [hw2, ← hs1]; exact heap_alloc_new w1 _
  have hb1 : Below w.heap.size w w1 := by rw [hw1]; exact (Below.refl _ _).alloc (Nat.le_refl _) _
  have hb2 : Below w1.heap.size w1 w2 := by rw [hw2]; exact (Below.refl _ _).alloc (Nat.le_refl _) _
  have hb : Below w.heap.size w w2 := hb1.trans (hb2.mono hb1.size)
  have B1 := Lib.hid (below_block hb2 b1)
  have B2 := Lib.hid b2
  have dd := fun i => cell_block B1.out i
  have ee := fun i => cell_block B2.out i
  have Hb := Lib.hid hb
  have P4 := Lib.hid (p4.below' hb)
  have R4 := Lib.hid (r4.below' hb)
  have M4 := Lib.hid hm4
  have P5 := Lib.hid (p5.below' hb)
  have R5 := Lib.hid (r5.below' hb)
  have M5 := Lib.hid hm5
  clear b1 b2 hb1 hb2 hb p4 p5 r4 r5 hm4 hm5 ok
  go_enter Tryd.func38, Tryd.ntmps38
  go_upto_region 1 with fail
  rw [← hw1, ← hw2]
  try rw [hs1]
  try rw [← hg]
  clear hw1 hw2 hg hs1
  go_wp2_with fail
  refine (eqStrs_yes _ _ x.users w2 P4.out R4.out (by rw [M4.out]; omega)).mono ?_
  rintro E w3 ⟨rfl, rfl⟩
  go_wp2_with fail
  refine (eqStrs_yes _ _ x.groups w2 P5.out R5.out (by rw [M5.out]; omega)).mono ?_
  rintro E w3 ⟨rfl, rfl⟩
  go_wp2_with fail
  go_ret
  exact ⟨rfl, Hb.out⟩
theorem run_sameBind : ∀ (a : Array Value) (w : World), (callFunc 38 a).run Tryd.prog w = .ok (.enter 38 a) w := run_callFunc_body Tryd.func38 (by kernel_rfl) (by kernel_rfl)
set_option maxRecDepth 100000 in
set_option maxHeartbeats 3200000 in
theorem sameBinds_yes (v1 v2 : Value) (l : List GBind) (w : World) (h1 : RowAt BindR 6 w v1 l) (h2 : RowAt BindR 6 w v2 l) (hl : l.length ≤ 8388608) (ok : ∀ r ∈ l, okBind r) :
    Calls Tryd.prog 37 #[v1, v2, .func (.func 38) #[] #[]] w fun e w' => e = .returned (.bool true) ∧ Below w.heap.size w w' := by
  obtain ⟨a1, c1, rfl, _, _⟩ := h1.len
  obtain ⟨a2, c2, rfl, _, _⟩ := h2.len
  have H1 := Lib.hid h1
  have H2 := Lib.hid h2
  have Ok := Lib.hid ok
  obtain ⟨n, hn⟩ : ∃ n, l.length = n := ⟨_, rfl⟩
  rw [hn] at H1 H2 hl ⊢
  have Hn := Lib.hid hn
  clear h1 h2 ok hn
  have q1 : ((n : Int) != (n : Int)) = false := by rw [bne_eq_false_iff_eq]
  go_enter Tryd.func37, Tryd.ntmps37
  go_wp2_with fail
  clear q1
  go_loopg [15] n (fun g u15 wr => ∃ i : Nat, i + g = n ∧ u15 = .int .i64 (i : Int) ∧ Hid (Below w.heap.size w wr))
  case atStart => exact ⟨0, by omega, rfl, Lib.hid (Below.refl _ _)⟩
  case round =>
    obtain ⟨i, hig, rfl, Hbel⟩ := hrel
    cases gk with
    | zero =>
      obtain rfl : n = i := by omega
      go_wp2_with fail
      go_ret
      exact ⟨rfl, Hbel.out⟩
    | succ k =>
      have hil : i < n := by omega
      obtain ⟨x, hx⟩ : ∃ x, l[i]? = some x := ⟨l[i]'(by rw [Hn.out]; exact hil), List.getElem?_eq_getElem _⟩
      obtain ⟨b, o, c', hv, _, _, hbs, hcell⟩ := H1.out.form (by rw [Hn.out]; omega) (by omega)
      injection hv with u1 u2 u3
      subst u1
      clear u2 u3
      obtain ⟨b', o', c'', hv, _, _, hbs', hcell'⟩ := H2.out.form (by rw [Hn.out]; omega) (by omega)
      injection hv with u1 u2 u3
      subst u1
      clear u2 u3
      obtain ⟨ds, _, hcc, hR⟩ := hcell i x hx
      obtain ⟨es, _, hdd, hS⟩ := hcell' i x hx
      have SR := stays_bind _ _ _ _ (keeps_below Hbel.out) hR
      have SS := stays_bind _ _ _ _ (keeps_below Hbel.out) hS
      have SR2 := SR
      have SS2 := SS
      obtain ⟨y4, y5, rfl, _⟩ := SR2
      obtain ⟨z4, z5, rfl, _⟩ := SS2
      have e0 : wr.cell? ⟨b, o + i * 6, none⟩ = some (.string x.space) := (Hbel.out.cell (p := ⟨b, _, none⟩) hbs).trans (by simpa using hcc 0 _ rfl)
      have f0 : wr.cell? ⟨b', o' + i * 6, none⟩ = some (.string x.space) := (Hbel.out.cell (p := ⟨b', _, none⟩) hbs').trans (by simpa using hdd 0 _ rfl)
      have e1 : wr.cell? ⟨b, o + i * 6 + 1, none⟩ = some (.string x.name) := (Hbel.out.cell (p := ⟨b, _, none⟩) hbs).trans (hcc 1 _ rfl)
      have f1 : wr.cell? ⟨b', o' + i * 6 + 1, none⟩ = some (.string x.name) := (Hbel.out.cell (p := ⟨b', _, none⟩) hbs').trans (hdd 1 _ rfl)
      have e2 : wr.cell? ⟨b, o + i * 6 + 2, none⟩ = some (.string x.role) := (Hbel.out.cell (p := ⟨b, _, none⟩) hbs).trans (hcc 2 _ rfl)
      have f2 : wr.cell? ⟨b', o' + i * 6 + 2, none⟩ = some (.string x.role) := (Hbel.out.cell (p := ⟨b', _, none⟩) hbs').trans (hdd 2 _ rfl)
      have e3 : wr.cell? ⟨b, o + i * 6 + 3, none⟩ = some (.bool x.whole) := (Hbel.out.cell (p := ⟨b, _, none⟩) hbs).trans (hcc 3 _ rfl)
      have f3 : wr.cell? ⟨b', o' + i * 6 + 3, none⟩ = some (.bool x.whole) := (Hbel.out.cell (p := ⟨b', _, none⟩) hbs').trans (hdd 3 _ rfl)
      have e4 : wr.cell? ⟨b, o + i * 6 + 4, none⟩ = some (y4) := (Hbel.out.cell (p := ⟨b, _, none⟩) hbs).trans (hcc 4 _ rfl)
      have f4 : wr.cell? ⟨b', o' + i * 6 + 4, none⟩ = some (z4) := (Hbel.out.cell (p := ⟨b', _, none⟩) hbs').trans (hdd 4 _ rfl)
      have e5 : wr.cell? ⟨b, o + i * 6 + 5, none⟩ = some (y5) := (Hbel.out.cell (p := ⟨b, _, none⟩) hbs).trans (hcc 5 _ rfl)
      have f5 : wr.cell? ⟨b', o' + i * 6 + 5, none⟩ = some (z5) := (Hbel.out.cell (p := ⟨b', _, none⟩) hbs').trans (hdd 5 _ rfl)
      have q1 : (0 : Int) ≤ (i : Int) := by omega
      have q2 : (i : Int) < (n : Int) := by omega
      have hb0 : b < wr.heap.size := Nat.lt_of_lt_of_le hbs Hbel.out.size
      have hb1 : b' < wr.heap.size := Nat.lt_of_lt_of_le hbs' Hbel.out.size
      have hokx := Ok.out x (List.mem_of_getElem? hx)
      have HC : Hid (∀ w', Below wr.heap.size wr w' → Calls Tryd.prog 38 #[.agg #[.string x.space, .string x.name, .string x.role, .bool x.whole, y4, y5], .agg #[.string x.space, .string x.name, .string x.role, .bool x.whole, z4, z5]] w' fun e w'' => e = .returned (.bool true) ∧ Below wr.heap.size wr w'') := Lib.hid fun w' hb' => by
        refine (sameBind_yes x y4 z4 y5 z5 w' (stays_bind _ _ _ _ (keeps_below hb') SR) (stays_bind _ _ _ _ (keeps_below hb') SS) hokx).mono ?_
        rintro E w'' ⟨rfl, hb''⟩
        exact ⟨rfl, hb'.trans (hb''.mono hb'.size)⟩
      clear hcell hcell' hx hcc hdd hR hS SR SS hokx hbs hbs'
      go_upto_region 6 with fail
      refine wp_region_hold 10 (fun w' => Below wr.heap.size wr w') (by kernel_rfl) (by kernel_rfl) ?_ ?_
      · exact below_drew1' wr
      simp only [List.take_succ_cons, List.take_zero, List.drop_succ_cons, List.drop_zero]
      (first | (refine wpHold_pure (v := ?_) (by rfl) (fun w => ?_) ?_; rotate_left; focus (first | (go_simp; done) | (go_simp; with_reducible rfl))) | (refine wpHold_skip ?_ ?_; focus (go_simp; done)) | (refine wpHold_pure' (v := ?_) ?_ (fun w => ?_) ?_; rotate_left; focus (go_simp; done); focus (first | (go_simp; done) | (go_simp; with_reducible rfl)))); try simp only [Act.put, List.setIfInBounds_toArray, List.set_cons_zero, List.set_cons_succ]
      (first | (refine wpHold_pure (v := ?_) (by rfl) (fun w => ?_) ?_; rotate_left; focus (first | (go_simp; done) | (go_simp; with_reducible rfl))) | (refine wpHold_skip ?_ ?_; focus (go_simp; done)) | (refine wpHold_pure' (v := ?_) ?_ (fun w => ?_) ?_; rotate_left; focus (go_simp; done); focus (first | (go_simp; done) | (go_simp; with_reducible rfl)))); try simp only [Act.put, List.setIfInBounds_toArray, List.set_cons_zero, List.set_cons_succ]
      (first | (refine wpHold_pure (v := ?_) (by rfl) (fun w => ?_) ?_; rotate_left; focus (first | (go_simp; done) | (go_simp; with_reducible rfl))) | (refine wpHold_skip ?_ ?_; focus (go_simp; done)) | (refine wpHold_pure' (v := ?_) ?_ (fun w => ?_) ?_; rotate_left; focus (go_simp; done); focus (first | (go_simp; done) | (go_simp; with_reducible rfl)))); try simp only [Act.put, List.setIfInBounds_toArray, List.set_cons_zero, List.set_cons_succ]
      refine wpHold_pure (v := .pointer (some ⟨b, o + i * 6, none⟩)) (by rfl) (fun w' => ?_) ?_
      · go_simp
        done
      try simp only [Act.put, List.setIfInBounds_toArray, List.set_cons_zero, List.set_cons_succ]
      refine wpHold_read (v := .agg #[.string x.space, .string x.name, .string x.role, .bool x.whole, y4, y5]) (by rfl) (fun w' hI => ?_) ?_
      · have d0 := (hI.cell (p := ⟨b, o + i * 6, none⟩) hb0).trans e0
        have d1 := (hI.cell (p := ⟨b, o + i * 6 + 1, none⟩) hb0).trans e1
        have d2 := (hI.cell (p := ⟨b, o + i * 6 + 2, none⟩) hb0).trans e2
        have d3 := (hI.cell (p := ⟨b, o + i * 6 + 3, none⟩) hb0).trans e3
        have d4 := (hI.cell (p := ⟨b, o + i * 6 + 4, none⟩) hb0).trans e4
        have d5 := (hI.cell (p := ⟨b, o + i * 6 + 5, none⟩) hb0).trans e5
        go_simp
        done
      try simp only [Act.put, List.setIfInBounds_toArray, List.set_cons_zero, List.set_cons_succ]
      (first | (refine wpHold_pure (v := ?_) (by rfl) (fun w => ?_) ?_; rotate_left; focus (first | (go_simp; done) | (go_simp; with_reducible rfl))) | (refine wpHold_skip ?_ ?_; focus (go_simp; done)) | (refine wpHold_pure' (v := ?_) ?_ (fun w => ?_) ?_; rotate_left; focus (go_simp; done); focus (first | (go_simp; done) | (go_simp; with_reducible rfl)))); try simp only [Act.put, List.setIfInBounds_toArray, List.set_cons_zero, List.set_cons_succ]
      (first | (refine wpHold_pure (v := ?_) (by rfl) (fun w => ?_) ?_; rotate_left; focus (first | (go_simp; done) | (go_simp; with_reducible rfl))) | (refine wpHold_skip ?_ ?_; focus (go_simp; done)) | (refine wpHold_pure' (v := ?_) ?_ (fun w => ?_) ?_; rotate_left; focus (go_simp; done); focus (first | (go_simp; done) | (go_simp; with_reducible rfl)))); try simp only [Act.put, List.setIfInBounds_toArray, List.set_cons_zero, List.set_cons_succ]
      refine wpHold_pure (v := .pointer (some ⟨b', o' + i * 6, none⟩)) (by rfl) (fun w' => ?_) ?_
      · go_simp
        done
      try simp only [Act.put, List.setIfInBounds_toArray, List.set_cons_zero, List.set_cons_succ]
      refine wpHold_read (v := .agg #[.string x.space, .string x.name, .string x.role, .bool x.whole, z4, z5]) (by rfl) (fun w' hI => ?_) ?_
      · have d0 := (hI.cell (p := ⟨b', o' + i * 6, none⟩) hb1).trans f0
        have d1 := (hI.cell (p := ⟨b', o' + i * 6 + 1, none⟩) hb1).trans f1
        have d2 := (hI.cell (p := ⟨b', o' + i * 6 + 2, none⟩) hb1).trans f2
        have d3 := (hI.cell (p := ⟨b', o' + i * 6 + 3, none⟩) hb1).trans f3
        have d4 := (hI.cell (p := ⟨b', o' + i * 6 + 4, none⟩) hb1).trans f4
        have d5 := (hI.cell (p := ⟨b', o' + i * 6 + 5, none⟩) hb1).trans f5
        go_simp
        done
      try simp only [Act.put, List.setIfInBounds_toArray, List.set_cons_zero, List.set_cons_succ]
      refine wpHold_call (v := .bool true) (f := 38) (args := #[.agg #[.string x.space, .string x.name, .string x.role, .bool x.whole, y4, y5], .agg #[.string x.space, .string x.name, .string x.role, .bool x.whole, z4, z5]]) (by rfl) (fun w' => ?_) (fun w' hI => HC.out w' hI) ?_
      · simp only [run_sameBind, go_sem]
        go_simp
        done
      try simp only [Act.put, List.setIfInBounds_toArray, List.set_cons_zero, List.set_cons_succ]
      refine wpHold_nil ?_
      intro w' hI
      have Hb' := Lib.hid (Hbel.out.trans (hI.mono Hbel.out.size))
      clear hI e0 f0 e1 f1 e2 f2 e3 f3 e4 f4 e5 f5 HC
      go_wp2_with fail
      go_roundg k
      case measure => omega
      case rel => exact ⟨i + 1, by omega, by go_num, Hb'⟩
set_option maxRecDepth 100000 in
set_option maxHeartbeats 3200000 in
theorem sameGrants_yes (x : GGrants) (y0 z0 y1 z1 : Value) (w : World) (hx : GrantsR w [y0, y1] x) (hy : GrantsR w [z0, z1] x) (ok : okGrants x) :
    Calls Tryd.prog 15 #[.agg #[y0, y1], .agg #[z0, z1]] w fun e w' => e = .returned (.bool true) ∧ Below w.heap.size w w' := by
  obtain ⟨_, _, hcs, p0, p1⟩ := hx
  simp only [List.cons.injEq, and_true] at hcs
  obtain ⟨rfl, rfl⟩ := hcs
  obtain ⟨_, _, hcs, r0, r1⟩ := hy
  simp only [List.cons.injEq, and_true] at hcs
  obtain ⟨rfl, rfl⟩ := hcs
  have o0 := ok.1
  have o1 := ok.2.2.1
  have Okr := Lib.hid ok.2.1
  have Okb := Lib.hid ok.2.2.2
  obtain ⟨m0, hm0⟩ : ∃ m, x.roles.length = m := ⟨_, rfl⟩
  obtain ⟨m1, hm1⟩ : ∃ m, x.binds.length = m := ⟨_, rfl⟩
  obtain ⟨a0, c0, rfl, -, -⟩ := p0.len
  obtain ⟨d0, e0, rfl, -, -⟩ := r0.len
  rw [hm0] at p0 r0 o0 ⊢
  obtain ⟨a1, c1, rfl, -, -⟩ := p1.len
  obtain ⟨d1, e1, rfl, -, -⟩ := r1.len
  rw [hm1] at p1 r1 o1 ⊢
  obtain ⟨w1, hw1⟩ : ∃ w1, w1 = w.alloc (.cells #[.slice a0 m0 c0, .slice a1 m1 c1] 40) := ⟨_, rfl⟩
  obtain ⟨w2, hw2⟩ : ∃ w2, w2 = w1.alloc (.cells #[.slice d0 m0 e0, .slice d1 m1 e1] 40) := ⟨_, rfl⟩
  obtain ⟨g, hg⟩ : ∃ g, g = w.heap.size := ⟨_, rfl⟩
  have hs1 : w1.heap.size = g + 1 := by rw [hw1, hg, World.size_alloc]
  have b1 : w1.heap[g]? = some (.cells #[.slice a0 m0 c0, .slice a1 m1 c1] 40 (0, 0)) := by rw [hw1, hg]; exact heap_alloc_new w _
  have b2 : w2.heap[g + 1]? = some (.cells #[.slice d0 m0 e0, .slice d1 m1 e1] 40 (0, 0)) := by rw [hw2, ← hs1]; exact heap_alloc_new w1 _
  have hb1 : Below w.heap.size w w1 := by rw [hw1]; exact (Below.refl _ _).alloc (Nat.le_refl _) _
  have hb2 : Below w1.heap.size w1 w2 := by rw [hw2]; exact (Below.refl _ _).alloc (Nat.le_refl _) _
  have hb : Below w.heap.size w w2 := hb1.trans (hb2.mono hb1.size)
  have B1 := Lib.hid (below_block hb2 b1)
  have B2 := Lib.hid b2
  have dd := fun i => cell_block B1.out i
  have ee := fun i => cell_block B2.out i
  have Hb := Lib.hid hb
  have P0 := Lib.hid (p0.below stays_role hb)
  have R0 := Lib.hid (r0.below stays_role hb)
  have P1 := Lib.hid (p1.below stays_bind hb)
  have R1 := Lib.hid (r1.below stays_bind hb)
  have M0 := Lib.hid hm0
  have M1 := Lib.hid hm1
  clear b1 b2 hb1 hb2 hb p0 r0 p1 r1 hm0 hm1 ok
  go_enter Tryd.func15, Tryd.ntmps15
  go_upto_region 1 with fail
  rw [← hw1, ← hw2]
  try rw [hs1]
  try rw [← hg]
  clear hw1 hw2 hg hs1
  go_wp2_with fail
  refine (sameRoles_yes _ _ x.roles w2 P0.out R0.out (by rw [M0.out]; omega) Okr.out).mono ?_
  rintro E w3 ⟨rfl, hb3⟩
  have Hb3 := Lib.hid (Hb.out.trans (hb3.mono Hb.out.size))
  have Q1 := Lib.hid (P1.out.below stays_bind hb3)
  have S1 := Lib.hid (R1.out.below stays_bind hb3)
  have D1 := Lib.hid (below_block hb3 B1.out)
  have D2 := Lib.hid (below_block hb3 B2.out)
  clear hb3 dd ee
  have dd := fun i => cell_block D1.out i
  have ee := fun i => cell_block D2.out i
  go_wp2_with fail
  refine (sameBinds_yes _ _ x.binds w3 Q1.out S1.out (by rw [M1.out]; omega) Okb.out).mono ?_
  rintro E w4 ⟨rfl, hb4⟩
  have Hb4 := Lib.hid (Hb3.out.trans (hb4.mono Hb3.out.size))
  clear hb4
  go_wp2_with fail
  go_ret
  exact ⟨rfl, Hb4.out⟩
end Go.Proofs.YtkmonmdnmpbadaaDoor
namespace Go.Proofs.YtkmonmdnmpbadaaDoor
open Go.RowKit
theorem var_keep {P : Program} {w w' : World} {n : String} {k : IntKind} {zs : List Int} (h : Lib.TabIs P w n k zs) (hb : Below w.heap.size w w') : Lib.TabIs P w' n k zs := by
  unfold Lib.TabIs World.var? at h ⊢
  cases hg : P.globalNamed n with
  | none => rw [hg] at h; cases h
  | some g =>
    rw [hg] at h
    simp only [Option.bind_some] at h ⊢
    have hlt : g < w.heap.size := by
      rcases Nat.lt_or_ge g w.heap.size with h1 | h1
      · exact h1
      · rw [Array.getElem?_eq_none h1] at h; cases h
    rw [hb.block g hlt]
    exact h
/-- the table that strconv reads -/
def TabOK (w : World) : Prop := Lib.TabIs Tryd.prog w "internal/strconv.uint64pow10" .u64 Lib.pow10Tab
theorem TabOK.below {w w' : World} (h : TabOK w) (hb : Below w.heap.size w w') : TabOK w' := var_keep h hb
end Go.Proofs.YtkmonmdnmpbadaaDoor
