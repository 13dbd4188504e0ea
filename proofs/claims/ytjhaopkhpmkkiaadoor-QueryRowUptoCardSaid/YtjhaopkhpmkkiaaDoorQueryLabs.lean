/- query.CheckLabels: its contract. -/
import Derived.Test.YtjhaopkhpmkkiaaDoorQueryChecks
namespace Go.Proofs.YtjhaopkhpmkkiaaDoor
open Go.RowKit

theorem labZ_length (l : List GLabel) : (labZ l).length = l.length := by unfold labZ; simp
theorem labZ_get0 {l : List GLabel} {x : GLabel} (h : l[0]? = some x) : (labZ l)[0]? = some (none, x) := by
  unfold labZ
  rw [List.getElem?_zip_eq_some]
  exact ⟨rfl, h⟩
theorem labZ_get {l : List GLabel} {i : Nat} {x y : GLabel} (h : l[i + 1]? = some x) (hy : l[i]? = some y) : (labZ l)[i + 1]? = some (some y.key, x) := by
  unfold labZ
  rw [List.getElem?_zip_eq_some]
  exact ⟨by simp [hy], h⟩
theorem below_drew (B : Nat) (w : World) : Below B w w.drew := ⟨rfl, rfl, rfl, Nat.le_refl _, fun _ _ => rfl⟩
set_option maxRecDepth 100000 in
set_option maxHeartbeats 3200000 in
theorem labels_any (v : Value) (l : List GLabel) (m : Int) (w : World) (h : RowAt LabelR 2 w v l) (hl : l.length ≤ 1048576) (hok : ∀ r ∈ l, okLab r) (hm : MaxOK m w) :
    Calls Tryd.prog 29 #[v] w fun e w' => e = .returned (.int .i64 (labelsE l)) ∧ Below w.heap.size w w' := by
  obtain ⟨a1, c1, rfl, _, _⟩ := h.len
  obtain ⟨R, HR⟩ : ∃ R, Hid (labelsE l = R) := ⟨_, Lib.hid rfl⟩
  rw [HR.out]
  have hE : R = if 10 < l.length then 2 else errF labE (labZ l) := by rw [← HR.out]; rfl
  have HE := Lib.hid hE
  have H := Lib.hid h
  have Hm := Lib.hid hm
  have Hok := Lib.hid hok
  clear hE h hm hok
  by_cases h8 : 10 < l.length
  · have q0 : (10 : Int) < (l.length : Int) := by omega
    have HR4 : Hid (2 = R) := Lib.hid (by rw [HE.out, if_pos h8])
    clear h8
    go_enter Tryd.func29, Tryd.ntmps29
    go_wp2_with fail
    go_ret
    exact ⟨ret_int HR4.out, Below.refl _ _⟩
  · have q0 : ¬ (10 : Int) < (l.length : Int) := by omega
    have HR4 : Hid (R = errF labE (labZ l)) := Lib.hid (by rw [HE.out, if_neg h8])
    clear h8
    go_enter Tryd.func29, Tryd.ntmps29
    go_wp2_with fail
    go_loopg [12] l.length (fun k u12 wr => ∃ i : Nat, i + k = l.length ∧ u12 = .int .i64 (i : Int) ∧ Hid (∀ x ∈ (labZ l).take i, labE x = 0) ∧ Hid (Below w.heap.size w wr))
    case atStart => exact ⟨0, by omega, rfl, Lib.hid (by simp), Lib.hid (Below.refl _ _)⟩
    case round =>
      obtain ⟨i, hig, rfl, Hall, Hbel⟩ := hrel
      have hsr := Hbel.out.size
      cases gk with
      | zero =>
        obtain rfl : i = l.length := by omega
        have HR5 : Hid (0 = R) := Lib.hid (by
          rw [HR4.out, errF_none]
          intro x hx
          refine Hall.out x ?_
          rw [List.take_of_length_le (by rw [labZ_length]; exact Nat.le_refl _)]; exact hx)
        go_wp2_with fail
        go_ret
        exact ⟨ret_int HR5.out, Hbel.out⟩
      | succ k =>
        have hil : i < l.length := by omega
        obtain ⟨x, hxi⟩ : ∃ x, l[i]? = some x := ⟨l[i]'(by omega), List.getElem?_eq_getElem _⟩
        obtain ⟨b, o, c', hv, _, _, hbs, hcell⟩ := H.out.form (by omega) (by omega)
        injection hv with u1 u2 u3
        subst u1
        clear u2 u3
        obtain ⟨ds, _, hcc, hR⟩ := hcell i x hxi
        obtain rfl : ds = [.string x.key, .string x.val] := hR
        have e0 : wr.cell? ⟨b, o + i * 2, none⟩ = some (.string x.key) := (Hbel.out.cell (p := ⟨b, _, none⟩) hbs).trans (by simpa using hcc 0 _ rfl)
        have e1 : wr.cell? ⟨b, o + i * 2 + 1, none⟩ = some (.string x.val) := (Hbel.out.cell (p := ⟨b, _, none⟩) hbs).trans (hcc 1 _ rfl)
        have q1 : (0 : Int) ≤ (i : Int) := by omega
        have q2 : (i : Int) < (l.length : Int) := by omega
        have Hxi := Lib.hid hxi
        -- the label ahead of it
        have hprev : ∃ p, (labZ l)[i]? = some (p, x) ∧ ((i = 0 ∧ p = none) ∨ ∃ y : GLabel, 0 < i ∧ p = some y.key ∧ w.cell? ⟨b, o + (i - 1) * 2, none⟩ = some (.string y.key)) := by
          cases i with
          | zero => exact ⟨none, labZ_get0 hxi, .inl ⟨rfl, rfl⟩⟩
          | succ j =>
            obtain ⟨y, hy⟩ : ∃ y, l[j]? = some y := ⟨l[j]'(by omega), List.getElem?_eq_getElem _⟩
            obtain ⟨ds, _, hcc2, hR2⟩ := hcell j y hy
            obtain rfl : ds = [.string y.key, .string y.val] := hR2
            exact ⟨some y.key, labZ_get hxi hy, .inr ⟨y, by omega, rfl, by simpa using hcc2 0 _ rfl⟩⟩
        obtain ⟨p, hzi, hp⟩ := hprev
        have Hzi := Lib.hid hzi
        have Hp := Lib.hid hp
        have Hlab : Hid (labE (p, x) = if keyE x.key ≠ 0 then keyE x.key else if valE x.val ≠ 0 then valE x.val else prevE p x.key) := Lib.hid rfl
        obtain ⟨ok1, ok2⟩ := Hok.out x (List.mem_of_getElem? hxi)
        clear hcc hcell hxi hzi hp
        go_upto_region 6 with fail
        obtain ⟨W, hW⟩ : ∃ W, W = wr.alloc (.cells #[.string x.key, .string x.val] 78) := ⟨_, rfl⟩
        obtain ⟨gb, hgb⟩ : ∃ gb, gb = wr.heap.size := ⟨_, rfl⟩
        rw [← hW, ← hgb]
        have c0 : W.heap[gb]? = some (.cells #[.string x.key, .string x.val] 78 (0, 0)) := by rw [hW, hgb]; exact heap_alloc_new wr _
        have hb5 : Below wr.heap.size wr W := by rw [hW]; exact (Below.refl _ _).alloc (Nat.le_refl _) _
        have HW := Lib.hid (Hbel.out.trans (hb5.mono hsr))
        have Hc0 := Lib.hid c0
        have cc := fun i => cell_block c0 i
        clear hW hgb hb5 c0 e0 e1
        go_wp2_with fail
        refine (checkKey_any x.key m W (by omega) (Hm.out.below HW.out)).mono ?_
        rintro E w3 ⟨rfl, hb3⟩
        have Hb3 := Lib.hid (HW.out.trans (hb3.mono HW.out.size))
        have c3 := below_block hb3 Hc0.out
        have Hc3 := Lib.hid c3
        clear hb3 cc
        have cc := fun i => cell_block c3 i
        clear c3
        obtain ⟨kE, HkE⟩ : ∃ kE, Hid (NameP.checkKey x.key.data.toList = kE) := ⟨_, Lib.hid rfl⟩
        rw [HkE.out]
        have hk1 : keyE x.key = kE := HkE.out
        have Hk1 := Lib.hid hk1
        clear hk1
        by_cases hr0 : kE = 0
        · subst hr0
          go_wp2_with fail
          refine (checkVal_any x.val _ (by omega)).mono ?_
          rintro E w' ⟨rfl, rfl⟩
          obtain ⟨vE, HvE⟩ : ∃ vE, Hid (NameP.checkVal x.val.data.toList = vE) := ⟨_, Lib.hid rfl⟩
          rw [HvE.out]
          have hv1 : valE x.val = vE := HvE.out
          have Hv1 := Lib.hid hv1
          clear hv1
          by_cases hv0 : vE = 0
          · subst hv0
            have hl2 : labE (p, x) = prevE p x.key := by rw [Hlab.out, if_neg (by rw [Hk1.out]; simp), if_neg (by rw [Hv1.out]; simp)]
            have Hl2 := Lib.hid hl2
            clear hl2
            go_upto_region 12 with fail
            rcases Hp.out with ⟨hi0, rfl⟩ | ⟨y, hi0, rfl, hy⟩
            · subst hi0
              have hl3 : labE (none, x) = 0 := Hl2.out
              have Hall2 := Lib.hid (zero_snoc Hall.out Hzi.out hl3)
              clear hl3
              go_region
              go_wp2_with fail
              go_roundg k
              case measure => omega
              case rel => exact ⟨1, by omega, by go_num, Hall2, Lib.hid (Hb3.out.trans (below_drew _ _))⟩
            · have q5 : (0 : Int) ≤ (i : Int) - 1 := by omega
              have q6 : (i : Int) - 1 < (l.length : Int) := by omega
              have q7 : (0 : Int) < (i : Int) := by omega
              have f0 : w3.cell? ⟨b, o + (i - 1) * 2, none⟩ = some (.string y.key) := (Hb3.out.cell (p := ⟨b, _, none⟩) hbs).trans hy
              clear hy
              cases hless : Op.bytesLess y.key.toList x.key.toList with
              | true =>
                have hl3 : labE (some y.key, x) = 0 := by rw [Hl2.out]; show (if Op.bytesLess y.key.toList x.key.toList = true then (0 : Int) else 1) = _; rw [hless]; rfl
                have Hall2 := Lib.hid (zero_snoc Hall.out Hzi.out hl3)
                clear hl3
                go_region
                go_wp2_with fail
                go_roundg k
                case measure => omega
                case rel => exact ⟨i + 1, by omega, by go_num, Hall2, Lib.hid (Hb3.out.trans (below_drew _ _))⟩
              | false =>
                have hl3 : labE (some y.key, x) = 1 := by rw [Hl2.out]; show (if Op.bytesLess y.key.toList x.key.toList = true then (0 : Int) else 1) = _; rw [hless]; rfl
                have HR5 : Hid (1 = R) := Lib.hid (by rw [HR4.out, errF_at Hzi.out Hall.out (by rw [hl3]; decide)]; exact hl3.symm)
                clear hl3
                go_region
                go_wp2_with fail
                go_ret
                exact ⟨ret_int HR5.out, Hb3.out.trans (below_drew _ _)⟩
          · have q3 : (vE == 0) = false := by rw [beq_eq_false_iff_ne]; exact hv0
            have q4 : (vE != 0) = true := by rw [bne_iff_ne]; exact hv0
            have hlab : labE (p, x) = vE := by rw [Hlab.out, if_neg (by rw [Hk1.out]; simp), if_pos (by rw [Hv1.out]; exact hv0)]; exact Hv1.out
            have HR5 : Hid (vE = R) := Lib.hid (by rw [HR4.out, errF_at Hzi.out Hall.out (by rw [hlab]; exact hv0)]; exact hlab.symm)
            clear hv0 hlab
            go_wp2_with fail
            go_ret
            exact ⟨ret_int HR5.out, Hb3.out⟩
        · have q3 : (kE == 0) = false := by rw [beq_eq_false_iff_ne]; exact hr0
          have q4 : (kE != 0) = true := by rw [bne_iff_ne]; exact hr0
          have hlab : labE (p, x) = kE := by rw [Hlab.out, if_pos (by rw [Hk1.out]; exact hr0)]; exact Hk1.out
          have HR5 : Hid (kE = R) := Lib.hid (by rw [HR4.out, errF_at Hzi.out Hall.out (by rw [hlab]; exact hr0)]; exact hlab.symm)
          clear hr0 hlab
          go_wp2_with fail
          go_ret
          exact ⟨ret_int HR5.out, Hb3.out⟩
end Go.Proofs.YtjhaopkhpmkkiaaDoor
