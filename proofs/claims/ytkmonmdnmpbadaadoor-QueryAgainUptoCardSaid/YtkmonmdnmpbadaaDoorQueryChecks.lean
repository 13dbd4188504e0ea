/- query: Check, CheckLabels: their contracts. -/
import Derived.Test.YtkmonmdnmpbadaaDoorQueryCheck
namespace Go.Proofs.YtkmonmdnmpbadaaDoor
open Go.RowKit

theorem zero_snoc {α : Type} {l : List α} {f : α → Int} {i : Nat} {x : α} (h : ∀ y ∈ l.take i, f y = 0) (hx : l[i]? = some x) (hf : f x = 0) : ∀ y ∈ l.take (i + 1), f y = 0 := fun y hy => by
  rw [List.take_add_one, hx] at hy
  rcases List.mem_append.1 hy with h1 | h1
  · exact h y h1
  · simp at h1; subst h1; exact hf
set_option maxRecDepth 100000 in
set_option maxHeartbeats 3200000 in
theorem checks_any (v : Value) (l : List GReq) (m : Int) (w : World) (h : RowAt ReqR 3 w v l) (hl : l.length ≤ 1048576) (hok : ∀ r ∈ l, okReq r) (hm : MaxOK m w) :
    Calls Tryd.prog 8 #[v] w fun e w' => e = .returned (.int .i64 (reqsE l)) ∧ Below w.heap.size w w' := by
  obtain ⟨a1, c1, rfl, _, _⟩ := h.len
  obtain ⟨R, HR⟩ : ∃ R, Hid (reqsE l = R) := ⟨_, Lib.hid rfl⟩
  rw [HR.out]
  have hE : R = if 8 < l.length then 2 else errF reqE l := by rw [← HR.out]; rfl
  have HE := Lib.hid hE
  have H := Lib.hid h
  have Hm := Lib.hid hm
  have Hok := Lib.hid hok
  clear hE h hm hok
  by_cases h8 : 8 < l.length
  · have q0 : (8 : Int) < (l.length : Int) := by omega
    have HR4 : Hid (2 = R) := Lib.hid (by rw [HE.out, if_pos h8])
    clear h8
    go_enter Tryd.func8, Tryd.ntmps8
    go_wp2_with fail
    go_ret
    exact ⟨ret_int HR4.out, Below.refl _ _⟩
  · have q0 : ¬ (8 : Int) < (l.length : Int) := by omega
    have HR4 : Hid (R = errF reqE l) := Lib.hid (by rw [HE.out, if_neg h8])
    clear h8
    go_enter Tryd.func8, Tryd.ntmps8
    go_wp2_with fail
    go_loopg [11] l.length (fun k u11 wr => ∃ i : Nat, i + k = l.length ∧ u11 = .int .i64 (i : Int) ∧ Hid (∀ x ∈ l.take i, reqE x = 0) ∧ Hid (Below w.heap.size w wr))
    case atStart => exact ⟨0, by omega, rfl, Lib.hid (by simp), Lib.hid (Below.refl _ _)⟩
    case round =>
      obtain ⟨i, hig, rfl, Hall, Hbel⟩ := hrel
      have hsr := Hbel.out.size
      cases gk with
      | zero =>
        obtain rfl : i = l.length := by omega
        have HR5 : Hid (0 = R) := Lib.hid (by
          rw [HR4.out, errF_none]
          intro x hx
          refine Hall.out x ?_
          rw [List.take_of_length_le (Nat.le_refl _)]; exact hx)
        go_wp2_with fail
        go_ret
        exact ⟨ret_int HR5.out, Hbel.out⟩
      | succ k =>
        have hil : i < l.length := by omega
        obtain ⟨x, hxi⟩ : ∃ x, l[i]? = some x := ⟨l[i]'(by omega), List.getElem?_eq_getElem _⟩
        obtain ⟨b, o, c', hv, _, _, hbs, hcell⟩ := H.out.form (by omega) (by omega)
        injection hv with u1 u2 u3
        subst u1
        clear u2 u3
        obtain ⟨ds, _, hcc, hR⟩ := hcell i x hxi
        have hR2 := stays_req _ _ _ _ (keeps_below Hbel.out) hR
        obtain ⟨y2, rfl, _, _⟩ := hR
        have e0 : wr.cell? ⟨b, o + i * 3, none⟩ = some (.string x.key) := (Hbel.out.cell (p := ⟨b, _, none⟩) hbs).trans (by simpa using hcc 0 _ rfl)
        have e1 : wr.cell? ⟨b, o + i * 3 + 1, none⟩ = some (.int .i64 x.kind) := (Hbel.out.cell (p := ⟨b, _, none⟩) hbs).trans (hcc 1 _ rfl)
        have e2 : wr.cell? ⟨b, o + i * 3 + 2, none⟩ = some y2 := (Hbel.out.cell (p := ⟨b, _, none⟩) hbs).trans (hcc 2 _ rfl)
        have q1 : (0 : Int) ≤ (i : Int) := by omega
        have q2 : (i : Int) < (l.length : Int) := by omega
        have HRx := Lib.hid hR2
        have Hxi := Lib.hid hxi
        obtain ⟨ao, co, rfl, _, _⟩ : ∃ ao co, y2 = .slice ao x.vals.length co ∧ True ∧ True := by
          obtain ⟨v2, h1, _, h2⟩ := hR2
          obtain ⟨ao, co, h3, _, _⟩ := h2.row.len
          injection h1 with _ h1; injection h1 with _ h1; injection h1 with h1 _
          exact ⟨ao, co, h1.trans h3, trivial, trivial⟩
        clear hcc hcell hxi hR2
        go_upto_region 6 with fail
        obtain ⟨W, hW⟩ : ∃ W, W = wr.alloc (.cells #[.string x.key, .int .i64 x.kind, .slice ao x.vals.length co] 33) := ⟨_, rfl⟩
        obtain ⟨gb, hgb⟩ : ∃ gb, gb = wr.heap.size := ⟨_, rfl⟩
        rw [← hW, ← hgb]
        have c0 : W.heap[gb]? = some (.cells #[.string x.key, .int .i64 x.kind, .slice ao x.vals.length co] 33 (0, 0)) := by rw [hW, hgb]; exact heap_alloc_new wr _
        have hb5 : Below wr.heap.size wr W := by rw [hW]; exact (Below.refl _ _).alloc (Nat.le_refl _) _
        have HW := Lib.hid (Hbel.out.trans (hb5.mono hsr))
        have HRW := Lib.hid (stays_req _ _ _ _ (keeps_below hb5) HRx.out)
        have cc := fun i => cell_block c0 i
        clear hW hgb hb5 c0 e0 e1 e2
        go_wp2_with fail
        refine (check1_any x _ m W HRW.out (Hok.out x (List.mem_of_getElem? Hxi.out)) (Hm.out.below HW.out)).mono ?_
        rintro E w3 ⟨rfl, hb3⟩
        have Hb3 := Lib.hid (HW.out.trans (hb3.mono HW.out.size))
        obtain ⟨rE, HrE⟩ : ∃ rE, Hid (reqE x = rE) := ⟨_, Lib.hid rfl⟩
        rw [HrE.out]
        clear hb3 cc
        by_cases hr0 : rE = 0
        · subst hr0
          have Hall2 := Lib.hid (zero_snoc Hall.out Hxi.out HrE.out)
          go_wp2_with fail
          go_roundg k
          case measure => omega
          case rel => exact ⟨i + 1, by omega, by go_num, Hall2, Hb3⟩
        · have q3 : (rE == 0) = false := by rw [beq_eq_false_iff_ne]; exact hr0
          have q4 : (rE != 0) = true := by rw [bne_iff_ne]; exact hr0
          have HR5 : Hid (rE = R) := Lib.hid (by rw [HR4.out, errF_at Hxi.out Hall.out (by rw [HrE.out]; exact hr0)]; exact HrE.out.symm)
          clear hr0
          go_wp2_with fail
          go_ret
          exact ⟨ret_int HR5.out, Hb3.out⟩
end Go.Proofs.YtkmonmdnmpbadaaDoor
