/- query: check, Check, CheckLabels: their contracts. -/
import Derived.Test.YtkmonmdnmpbadaaDoorQueryPlain
import Derived.Test.YtkmonmdnmpbadaaDoorBox
import Derived.Deep.LoopGhost
import Derived.Deep.DeepCutAuto
namespace Go.Proofs.YtkmonmdnmpbadaaDoor
open Go.RowKit

def okReq (r : GReq) : Prop := r.key.size ≤ 1048576 ∧ r.vals.length ≤ 1048576 ∧ ∀ x ∈ r.vals, x.size ≤ 1048576
def okLab (x : GLabel) : Prop := x.key.size ≤ 1048576 ∧ x.val.size ≤ 1048576
theorem ret_int {a b : Int} (h : a = b) : Ending.returned (.int .i64 a) = .returned (.int .i64 b) := by rw [h]
set_option maxRecDepth 100000 in
set_option maxHeartbeats 3200000 in
theorem check1_any (r : GReq) (v2 : Value) (m : Int) (w : World) (h : ReqR w [.string r.key, .int .i64 r.kind, v2] r) (hok : okReq r) (hm : MaxOK m w) :
    Calls Tryd.prog 24 #[.agg #[.string r.key, .int .i64 r.kind, v2]] w fun e w' => e = .returned (.int .i64 (reqE r)) ∧ Below w.heap.size w w' := by
  obtain ⟨v2', h1, _, hst⟩ := h
  obtain rfl : v2 = v2' := by injection h1 with _ h1; injection h1 with _ h1; injection h1
  clear h1
  obtain ⟨ao, c, rfl, _, _⟩ := hst.row.len
  obtain ⟨ok1, ok2, ok3⟩ := hok
  obtain ⟨R, HR⟩ : ∃ R, Hid (reqE r = R) := ⟨_, Lib.hid rfl⟩
  rw [HR.out]
  have hE : reqE r = if keyE r.key ≠ 0 then keyE r.key else if argR r = true then 1 else if 8 < r.vals.length then 2 else errF valE r.vals := rfl
  rw [HR.out] at hE
  have HE := Lib.hid hE
  have Hst := Lib.hid hst
  have Hm := Lib.hid hm
  have Hok3 := Lib.hid ok3
  obtain ⟨nv, Hnv⟩ : ∃ nv, Hid (r.vals.length = nv) := ⟨_, Lib.hid rfl⟩
  rw [Hnv.out] at ok2 ⊢
  obtain ⟨kd, Hkd⟩ : ∃ kd, Hid (r.kind = kd) := ⟨_, Lib.hid rfl⟩
  rw [Hkd.out]
  obtain ⟨ky, Hky⟩ : ∃ ky, Hid (r.key = ky) := ⟨_, Lib.hid rfl⟩
  rw [Hky.out] at ok1 ⊢
  clear hE hst hm ok3
  obtain ⟨w1, hw1⟩ : ∃ w1, w1 = w.alloc (.cells #[.string ky, .int .i64 kd, .slice ao nv c] 33) := ⟨_, rfl⟩
  obtain ⟨g, hg⟩ : ∃ g, g = w.heap.size := ⟨_, rfl⟩
  have b1 : w1.heap[g]? = some (.cells #[.string ky, .int .i64 kd, .slice ao nv c] 33 (0, 0)) := by rw [hw1, hg]; exact heap_alloc_new w _
  have hb1 : Below w.heap.size w w1 := by rw [hw1]; exact (Below.refl _ _).alloc (Nat.le_refl _) _
  have Hb1 := Lib.hid hb1
  have B1 := Lib.hid b1
  have cc := fun i => cell_block b1 i
  clear b1 hb1
  obtain ⟨ls, Hls⟩ : ∃ ls, Hid (listsK kd = ls) := ⟨_, Lib.hid rfl⟩
  have way : (kd = 1 ∧ ls = true) ∨ ((kd == 1) = false ∧ kd = 2 ∧ ls = true) ∨ ((kd == 1) = false ∧ (kd == 2) = false ∧ ls = false) := by
    have := Hls.out
    unfold listsK at this
    by_cases k1 : kd = 1
    · subst k1; exact .inl ⟨rfl, this.symm⟩
    · by_cases k2 : kd = 2
      · subst k2; exact .inr (.inl ⟨rfl, rfl, this.symm⟩)
      · have e1 : (kd == 1) = false := by rw [beq_eq_false_iff_ne]; exact k1
        have e2 : (kd == 2) = false := by rw [beq_eq_false_iff_ne]; exact k2
        rw [e1, e2] at this
        exact .inr (.inr ⟨e1, e2, this.symm⟩)
  go_enter Tryd.func24, Tryd.ntmps24
  go_upto_region 1 with fail
  rw [← hw1]
  try rw [← hg]
  clear hw1 hg
  go_cut [3] (fun u3 wx => u3 = .bool ls ∧ w1 = wx)
  case first =>
    rcases way with ⟨rfl, rfl⟩ | ⟨q1, rfl, rfl⟩ | ⟨q1, q2, rfl⟩
    all_goals
      go_wp2_with fail
      go_meet
      exact ⟨rfl, rfl⟩
  case rest =>
  obtain ⟨rfl, rfl⟩ := hcut
  clear way
  go_wp2_with fail
  refine (checkKey_any ky m w1 (by omega) (Hm.out.below Hb1.out)).mono ?_
  rintro E w2 ⟨rfl, hb2⟩
  have Hb2 := Lib.hid (Hb1.out.trans (hb2.mono Hb1.out.size))
  have b2 := below_block hb2 B1.out
  have B2 := Lib.hid b2
  have hkk : keyE r.key = NameP.checkKey ky.data.toList := by rw [Hky.out]; rfl
  obtain ⟨kE, HkE⟩ : ∃ kE, Hid (NameP.checkKey ky.data.toList = kE) := ⟨_, Lib.hid rfl⟩
  rw [HkE.out] at hkk ⊢
  have Hkk := Lib.hid hkk
  clear cc hb2 hkk
  have cc := fun i => cell_block b2 i
  clear b2
  by_cases hk0 : kE = 0
  · subst hk0
    have hR2 : R = if argR r = true then 1 else if 8 < nv then 2 else errF valE r.vals := by rw [HE.out, Hkk.out, if_neg (by simp), Hnv.out]
    have HR2 := Lib.hid hR2
    clear hR2
    obtain ⟨ar, Har⟩ : ∃ ar, Hid (argR r = ar) := ⟨_, Lib.hid rfl⟩
    have way : (kd < 1 ∧ ar = true) ∨ (¬ kd < 1 ∧ 4 < kd ∧ ar = true) ∨ (¬ kd < 1 ∧ ¬ 4 < kd ∧ (0 : Int) < (nv : Int) ∧ ls = true ∧ ar = false) ∨ (¬ kd < 1 ∧ ¬ 4 < kd ∧ (0 : Int) < (nv : Int) ∧ ls = false ∧ ar = true) ∨ (¬ kd < 1 ∧ ¬ 4 < kd ∧ ¬ (0 : Int) < (nv : Int) ∧ ls = true ∧ ar = true) ∨ (¬ kd < 1 ∧ ¬ 4 < kd ∧ ¬ (0 : Int) < (nv : Int) ∧ ls = false ∧ ar = false) := by
      have e := Har.out
      unfold argR at e
      rw [Hkd.out, Hnv.out, Hls.out] at e
      by_cases k1 : kd < 1
      · rw [decide_eq_true k1, Bool.true_or] at e; exact .inl ⟨k1, e.symm⟩
      · rw [decide_eq_false k1, Bool.false_or] at e
        by_cases k2 : 4 < kd
        · rw [decide_eq_true k2, Bool.true_or] at e; exact .inr (.inl ⟨k1, k2, e.symm⟩)
        · rw [decide_eq_false k2, Bool.false_or] at e
          by_cases k3 : 0 < nv
          · rw [decide_eq_true k3] at e
            cases ls with
            | true => exact .inr (.inr (.inl ⟨k1, k2, by omega, rfl, e.symm⟩))
            | false => exact .inr (.inr (.inr (.inl ⟨k1, k2, by omega, rfl, e.symm⟩)))
          · rw [decide_eq_false k3] at e
            cases ls with
            | true => exact .inr (.inr (.inr (.inr (.inl ⟨k1, k2, by omega, rfl, e.symm⟩))))
            | false => exact .inr (.inr (.inr (.inr (.inr ⟨k1, k2, by omega, rfl, e.symm⟩))))
    go_upto_region 5 with fail
    go_cut [22] (fun u22 wx => u22 = .bool ar ∧ w2 = wx)
    case first =>
      clear Har HR2 Hls
      rcases way with ⟨k1, rfl⟩ | ⟨k1, k2, rfl⟩ | ⟨k1, k2, k3, rfl, rfl⟩ | ⟨k1, k2, k3, rfl, rfl⟩ | ⟨k1, k2, k3, rfl, rfl⟩ | ⟨k1, k2, k3, rfl, rfl⟩
      all_goals
        go_wp2_with fail
        go_meet
        exact ⟨by first | rfl | (simp [k1, k2]; omega), rfl⟩
    case rest =>
    obtain ⟨rfl, rfl⟩ := hcut
    clear way
    rw [Har.out] at HR2
    cases ar with
    | true =>
      go_wp2_with fail
      go_ret
      exact ⟨ret_int (by rw [HR2.out]; rfl), Hb2.out⟩
    | false =>
      have HR3 : Hid (R = if 8 < nv then 2 else errF valE r.vals) := Lib.hid (by rw [HR2.out]; rfl)
      clear HR2
      by_cases h8 : 8 < nv
      · have q0 : (8 : Int) < (nv : Int) := by omega
        have HR4 : Hid (2 = R) := Lib.hid (by rw [HR3.out, if_pos h8])
        clear HR3 h8
        go_wp2_with fail
        go_ret
        exact ⟨ret_int HR4.out, Hb2.out⟩
      · have q0 : ¬ (8 : Int) < (nv : Int) := by omega
        have HR4 : Hid (R = errF valE r.vals) := Lib.hid (by rw [HR3.out, if_neg h8])
        clear HR3 h8
        go_wp2_with fail
        go_loopg [47] nv (fun k u47 wr => ∃ i : Nat, i + k = nv ∧ u47 = .int .i64 (i : Int) ∧ Hid (∀ x ∈ r.vals.take i, valE x = 0) ∧ w2 = wr)
        case atStart => exact ⟨0, by omega, rfl, Lib.hid (by simp), rfl⟩
        case round =>
          obtain ⟨i, hig, rfl, Hall, rfl⟩ := hrel
          cases gk with
          | zero =>
            obtain rfl : i = nv := by omega
            have HR5 : Hid (0 = R) := Lib.hid (by
              rw [HR4.out, errF_none]
              intro x hx
              refine Hall.out x ?_
              rw [List.take_of_length_le (by rw [Hnv.out]; exact Nat.le_refl _)]; exact hx)
            go_wp2_with fail
            go_ret
            exact ⟨ret_int HR5.out, Hb2.out⟩
          | succ k =>
            have hil : i < r.vals.length := by rw [Hnv.out]; omega
            obtain ⟨x, hxi⟩ : ∃ x, r.vals[i]? = some x := ⟨r.vals[i]'(by omega), List.getElem?_eq_getElem _⟩
            have hst2 := Hst.out.below Hb2.out
            obtain ⟨b, o, c', hv, _, _, _, hcell⟩ := hst2.form (by omega)
            injection hv with u1 u2 u3
            subst u1
            clear u2 u3
            have e0 : w2.cell? ⟨b, o + i, none⟩ = some (.string x) := hcell i x hxi
            have q1 : (0 : Int) ≤ (i : Int) := by omega
            have q2 : (i : Int) < (nv : Int) := by omega
            have hxs := Hok3.out x (List.mem_of_getElem? hxi)
            have Hxi := Lib.hid hxi
            clear hcell hst2 hxi
            obtain ⟨vE, HvE⟩ : ∃ vE, Hid (NameP.checkVal x.data.toList = vE) := ⟨_, Lib.hid rfl⟩
            go_wp2_with fail
            refine (checkVal_any x _ (by omega)).mono ?_
            rintro E w' ⟨rfl, rfl⟩
            rw [HvE.out]
            by_cases hv0 : vE = 0
            · subst hv0
              have Hall2 : Hid (∀ y ∈ r.vals.take (i + 1), valE y = 0) := Lib.hid fun y hy => by
                rw [List.take_add_one, Hxi.out] at hy
                rcases List.mem_append.1 hy with h | h
                · exact Hall.out y h
                · simp at h; subst h; exact HvE.out
              go_wp2_with fail
              go_roundg k
              case measure => omega
              case rel => exact ⟨i + 1, by omega, by go_num, Hall2, rfl⟩
            · have q3 : (vE == 0) = false := by rw [beq_eq_false_iff_ne]; exact hv0
              have q4 : (vE != 0) = true := by rw [bne_iff_ne]; exact hv0
              have HR5 : Hid (vE = R) := Lib.hid (by rw [HR4.out, errF_at Hxi.out Hall.out (by unfold valE; rw [HvE.out]; exact hv0)]; exact HvE.out.symm)
              clear hv0
              go_wp2_with fail
              go_ret
              exact ⟨ret_int HR5.out, Hb2.out⟩
  · have q0 : (kE == 0) = false := by rw [beq_eq_false_iff_ne]; exact hk0
    have q1 : (kE != 0) = true := by rw [bne_iff_ne]; exact hk0
    have HR2 : Hid (kE = R) := Lib.hid (by rw [HE.out, Hkk.out, if_pos hk0])
    clear hk0
    go_wp2_with fail
    go_ret
    exact ⟨ret_int HR2.out, Hb2.out⟩
end Go.Proofs.YtkmonmdnmpbadaaDoor
