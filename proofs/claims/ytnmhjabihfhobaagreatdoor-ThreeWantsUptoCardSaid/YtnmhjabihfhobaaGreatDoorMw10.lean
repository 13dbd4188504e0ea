/- Texts of ours joined: ThreeWantsWalk. -/
import Derived.Deep.LoopGhost
import Derived.Test.YtnmhjabihfhobaaGreatDoorMw9
set_option linter.unusedVariables false
set_option linter.unusedSimpArgs false
/- The law ThreeWants. -/
namespace Go.Proofs.YtnmhjabihfhobaaGreatDoor
open Go.RowKit
open JP (JV Bs)

set_option maxRecDepth 100000 in
set_option maxHeartbeats 12800000 in
theorem threeWants_walk (a b c : ByteArray) (w : World) (hbulk : a.data.toList.length + 1 + (b.data.toList.length + 1 + (c.data.toList.length + 1 + 0)) ≤ 1048576) (hE : Env w) :
    Calls Tryz.prog 6 #[.string a, .string b, .string c] w fun e w' => e = .returned (.bool true) ∧ Below w.heap.size w w' := by
  have ha : a.size ≤ 1048576 := by rw [list_size a] at hbulk; omega
  have hb : b.size ≤ 1048576 := by rw [list_size b] at hbulk; omega
  have hc : c.size ≤ 1048576 := by rw [list_size c] at hbulk; omega
  have HB0 := Lib.hid (Below.refl w.heap.size w)
  obtain ⟨w0, hw0⟩ : ∃ x, x = w := ⟨_, rfl⟩
  have t0 : (mkB []).toList.isEmpty = true := by rw [mkB_empty]; rfl
  have t9 : ((mkB [51]).toList == [51]) = true := by rw [mkB_toList]; rfl
  have H0 := Lib.hid (fun (w' : World) (h : Below w.heap.size w w') => merge3_any a b c w' ha hb hc (hE.1.below h))
  have H1 := Lib.hid (fun (w' : World) (h : Below w.heap.size w w') => leavesDoc_any c w' hc (hE.below h).2.2)
  have H2 := Lib.hid (fun (w' : World) (h : Below w.heap.size w w') => merge3_const w' (hE.below h))
  have hw := @JP.three_wants a.data.toList b.data.toList c.data.toList
  have hno := @JP.merge3_no a.data.toList b.data.toList c.data.toList
  have hTl := JP.merge3T_len a.data.toList b.data.toList c.data.toList
  have hrg := @JP.readL_good c.data.toList
  obtain ⟨T1, hT1⟩ : ∃ T, JP.merge3T a.data.toList b.data.toList c.data.toList = T := ⟨_, rfl⟩
  obtain ⟨E1, hE1⟩ : ∃ T, JP.merge3E a.data.toList b.data.toList c.data.toList = T := ⟨_, rfl⟩
  rw [hT1, hE1] at H0 hno
  rw [hT1, hE1] at hw
  rw [hT1] at hTl
  clear hE1 hT1
  by_cases h1 : E1 = 0
  · subst h1
    obtain ⟨he, hp⟩ := hw rfl
    obtain ⟨L, hL⟩ : ∃ L, leavesL c.data.toList = L := ⟨_, rfl⟩
    have hL2 : L = JP.gat [] (JP.readL c.data.toList).1 := by rw [← hL]; unfold leavesL; rw [if_pos he]
    obtain ⟨g1, g2, g3, g4, g5⟩ := hrg (v := (JP.readL c.data.toList).1) (Prod.ext rfl he)
    have hLl : L.length ≤ 200 := by rw [hL2]; exact Nat.le_trans (JP.gat_len _ _) g2
    rw [← hL2] at hp
    rw [hL, he] at H1
    have hT1s : (mkB T1).size ≤ 1048576 := by rw [mkB_size]; omega
    -- what each path says
    have hps : ∀ p ∈ L, (mkB (pathP p.1)).size ≤ 1048576 ∧ JP.getE c.data.toList (pathP p.1) = 0 ∧ JP.getE T1 (pathP p.1) = 0 ∧ (JP.getT c.data.toList (pathP p.1) = JP.getT T1 (pathP p.1) ∨ JP.kindT (JP.getT c.data.toList (pathP p.1)) = 6) := fun p hm => by
      obtain ⟨k1, k2, k3, k4⟩ := hp p hm
      have e1 : pathP p.1 = joinK p.1 := if_neg (by omega)
      have hwt := JP.gat_sum _ [] g1 p (by rw [← hL2]; exact hm)
      have hjl := JP.joinK_len p.1
      have e0 : JP.wayS [] = 0 := rfl
      rw [e1]
      exact ⟨by rw [mkB_size]; omega, k2, k3, k4⟩
    have HP := Lib.hid (fun (p : Leaf) (hm : p ∈ L) (w' : World) (h : Below w.heap.size w w') => (by
      obtain ⟨k1, k2, k3, k4⟩ := hps p hm
      have r1 := pget_any c (mkB (pathP p.1)) w' hc k1 (hE.below h)
      rw [mkB_list, k2] at r1
      exact r1 : Calls Tryz.prog 15 #[.string c, .string (mkB (pathP p.1))] w' (AnsAt (JP.getT c.data.toList (pathP p.1)) 0 w')))
    have HPt := Lib.hid (fun (p : Leaf) (hm : p ∈ L) (w' : World) (h : Below w.heap.size w w') => (by
      obtain ⟨k1, k2, k3, k4⟩ := hps p hm
      have r1 := pget_any (mkB T1) (mkB (pathP p.1)) w' hT1s k1 (hE.below h)
      rw [mkB_list, mkB_list, k3] at r1
      exact r1 : Calls Tryz.prog 15 #[.string (mkB T1), .string (mkB (pathP p.1))] w' (AnsAt (JP.getT T1 (pathP p.1)) 0 w')))
    have HK := Lib.hid (fun (p : Leaf) (w' : World) => (by
      have r1 := kindJ_any (mkB (JP.getT c.data.toList (pathP p.1))) w' (by rw [mkB_size]; have := JP.getT_len c.data.toList (pathP p.1); omega)
      rw [mkB_list] at r1
      exact r1 : Calls Tryz.prog 16 #[.string (mkB (JP.getT c.data.toList (pathP p.1)))] w' fun e w' => e = .returned (.tuple #[.int .i64 (JP.kindT (JP.getT c.data.toList (pathP p.1))), .int .i64 (JP.canonE (JP.getT c.data.toList (pathP p.1)))]) ∧ _))
    have HQ := Lib.hid (fun (p : Leaf) (hm : p ∈ L) => (hps p hm).2.2.2)
    clear hps hp hL hL2 g1 g2 g3 g4 g5 he hno hrg hw hTl hT1s hE ha hb hc hbulk
    subst hw0
    go_enter Tryz.func6, Tryz.ntmps6
    go_wp2_with fail
    refine (H0.out w0 HB0.out).mono ?_
    rintro E w1 ⟨rfl, hb⟩
    have HB1 := Lib.hid (HB0.out.trans (hb.mono HB0.out.size))
    clear hb
    go_wp2_with fail
    refine (H2.out w1 HB1.out).mono ?_
    rintro E w2 ⟨rfl, hb⟩
    have HB2 := Lib.hid (HB1.out.trans (hb.mono HB1.out.size))
    clear hb
    go_wp2_with fail
    refine (H1.out w2 HB2.out).mono ?_
    rintro E w3 ⟨v3, l', rfl, hpm, ho, hb⟩
    obtain ⟨a3, c3, e3, _⟩ := ho.row.len
    rw [List.length_map] at e3
    obtain ⟨ln, hln⟩ : ∃ n, l'.length = n := ⟨_, rfl⟩
    rw [hln] at e3
    subst e3
    have Hln := Lib.hid hln
    have hlnl : ln ≤ 200 := by rw [← hln, hpm.length_eq]; exact hLl
    have HRow := Lib.hid ho.row
    have HPm := Lib.hid hpm
    have HB3 := Lib.hid (HB2.out.trans (hb.mono HB2.out.size))
    clear hb ho hln hLl hpm
    go_wp2_with fail
    go_loopg [48] ln (fun k u48 wr => ∃ (i : Nat), i + k = ln ∧ u48 = .int .i64 (i : Int) ∧ Hid (Below w3.heap.size w3 wr))
    case atStart => exact ⟨0, by omega, rfl, Lib.hid (Below.refl _ _)⟩
    case round =>
      obtain ⟨i, hik, rfl, HR⟩ := hrel
      have HBr : Hid (Below w0.heap.size w0 wr) := Lib.hid (HB3.out.trans (HR.out.mono HB3.out.size))
      cases gk with
      | succ k9 =>
        have hil : i < ln := by omega
        obtain ⟨y, hy⟩ : ∃ y, l'[i]? = some y := ⟨l'[i]'(by rw [Hln.out]; exact hil), List.getElem?_eq_getElem _⟩
        obtain ⟨b1, o1, c', hv1, _, _, hbs1, hcell1⟩ := HRow.out.form (by rw [List.length_map, Hln.out]; omega) (by omega)
        injection hv1 with u1 u2 u3
        subst u1
        clear u2 u3
        obtain ⟨ds1, _, hcc1, hR1⟩ := hcell1 i (mkB (pathP y.1)) (by rw [List.getElem?_map, hy]; rfl)
        obtain rfl : ds1 = [.string (mkB (pathP y.1))] := hR1
        have e0 : wr.cell? ⟨b1, o1 + i, none⟩ = some (.string (mkB (pathP y.1))) := (HR.out.cell (p := ⟨b1, _, none⟩) hbs1).trans (by simpa using hcc1 0 _ rfl)
        have q1 : (0 : Int) ≤ (i : Int) := by omega
        have q2 : (i : Int) < (ln : Int) := by omega
        have hmem : y ∈ L := HPm.out.mem_iff.1 (List.mem_of_getElem? hy)
        have HG1 := Lib.hid (HP.out y hmem)
        have HG2 := Lib.hid (HPt.out y hmem)
        have HG3 := Lib.hid (HK.out y)
        have hq := HQ.out y hmem
        obtain ⟨X, hX⟩ : ∃ X, JP.getT c.data.toList (pathP y.1) = X := ⟨_, rfl⟩
        obtain ⟨Y, hY⟩ : ∃ X, JP.getT T1 (pathP y.1) = X := ⟨_, rfl⟩
        rw [hX] at HG1 HG3 hq
        rw [hY] at HG2 hq
        obtain ⟨KX, hKX⟩ : ∃ k, JP.kindT X = k := ⟨_, rfl⟩
        rw [hKX] at HG3 hq
        obtain ⟨P, hP⟩ : ∃ P, mkB (pathP y.1) = P := ⟨_, rfl⟩
        rw [hP] at HG1 HG2 e0
        have Hq := Lib.hid hq
        clear hcell1 hcc1 hy hbs1 hmem hX hY hKX hP hq
        go_wp2_with fail
        refine (HG1.out wr HBr.out).mono ?_
        rintro E w4 ⟨rfl, hb⟩
        have HR4 := Lib.hid (HR.out.trans (hb.mono HR.out.size))
        have HB4 := Lib.hid (HBr.out.trans (hb.mono HBr.out.size))
        clear hb e0
        go_wp2_with fail
        refine (HG2.out w4 HB4.out).mono ?_
        rintro E w5 ⟨rfl, hb⟩
        have HR5 := Lib.hid (HR4.out.trans (hb.mono HR4.out.size))
        clear hb
        go_wp2_with fail
        refine (HG3.out w5).mono ?_
        rintro E w6 ⟨rfl, hb⟩
        have HR6 := Lib.hid (HR5.out.trans (hb.mono HR5.out.size))
        clear hb
        rcases Hq.out with rfl | rfl
        · have t1 : ((mkB X).toList == (mkB X).toList) = true := by simp
          go_wp2_with fail
          go_roundg k9
          case measure => omega
          case rel => exact ⟨i + 1, by omega, by go_num, HR6⟩
        · obtain ⟨bq, hbq⟩ : ∃ q, ((mkB X).toList == (mkB Y).toList) = q := ⟨_, rfl⟩
          cases bq
          · go_wp2_with fail
            go_roundg k9
            case measure => omega
            case rel => exact ⟨i + 1, by omega, by go_num, HR6⟩
          · go_wp2_with fail
            go_roundg k9
            case measure => omega
            case rel => exact ⟨i + 1, by omega, by go_num, HR6⟩
      | zero =>
        have hil : i = ln := by omega
        subst hil
        have q9 : ¬ (i : Int) < (i : Int) := by omega
        go_wp2_with fail
        go_ret
        exact ⟨rfl, HBr.out⟩
  · have n0 : (E1 != 0) = true := by rw [bne_iff_ne]; exact h1
    obtain rfl := hno h1
    clear hno hTl hE ha hb hc h1 hw hrg H1
    subst hw0
    go_enter Tryz.func6, Tryz.ntmps6
    go_wp2_with fail
    refine (H0.out w0 HB0.out).mono ?_
    rintro E w1 ⟨rfl, hb⟩
    have HB1 := Lib.hid (HB0.out.trans (hb.mono HB0.out.size))
    clear hb
    go_wp2_with fail
    refine (H2.out w1 HB1.out).mono ?_
    rintro E w2 ⟨rfl, hb⟩
    have HB2 := Lib.hid (HB1.out.trans (hb.mono HB1.out.size))
    clear hb
    go_wp2_with fail
    go_ret
    exact ⟨by first | rfl | (rw [t0] <;> rfl), HB2.out⟩
end Go.Proofs.YtnmhjabihfhobaaGreatDoor
