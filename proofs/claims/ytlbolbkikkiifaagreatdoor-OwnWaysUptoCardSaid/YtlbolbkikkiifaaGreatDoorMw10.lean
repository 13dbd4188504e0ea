/- Texts of ours joined: OwnOps, PatchSizes, OwnWaysWalk. -/
import Derived.Laws.StructEq
import Derived.Lib.ItoaLen
import Derived.Test.YtlbolbkikkiifaaGreatDoorMw9
set_option linter.unusedVariables false
set_option linter.unusedSimpArgs false
/- Contracts that tell where a thing lies: ptr.Steps, patch.Invert; R.Eq at steps; kept. -/
namespace Go.Proofs.YtlbolbkikkiifaaGreatDoor
open Go.RowKit
open JP (JV Bs)

def StepsO (r : Int × List (List UInt8)) (w : World) (E : Ending) (w' : World) : Prop :=
  ∃ v', E = .returned (.tuple #[v', .int .i64 r.1]) ∧ (∃ l : List ByteArray, StrAt w' v' l ∧ l.map (·.data.toList) = r.2) ∧ LooseAt w.heap.size w' v' ∧ Below w.heap.size w w'
set_option maxRecDepth 100000 in
set_option maxHeartbeats 1600000 in
theorem ptrStepsO_any (p : ByteArray) (m : Int) (w : World) (hp : p.size ≤ 8388608) (hm : MaxOK m w) :
    Calls Tryz.prog 20 #[.string p] w (StepsO (stepsP p.data.toList) w) := by
  have Hm := Lib.hid hm
  clear hm
  obtain ⟨R, HR⟩ : ∃ R, Hid (stepsP p.data.toList = R) := ⟨_, Lib.hid rfl⟩
  rw [HR.out]
  go_enter Tryz.func20, Tryz.ntmps20
  by_cases h0 : p.size = 0
  · have h1 : p.data.toList = [] := List.eq_nil_of_length_eq_zero (by simpa using h0)
    have q0 : p.toList.isEmpty = true := by rw [ByteArray.toList_eq, h1]; rfl
    go_wp2_with fail
    go_ret2
    have h2 : R = (0, []) := by rw [← HR.out, h1]; rfl
    subst h2
    exact ⟨_, rfl, ⟨[], StrAt.nil _, rfl⟩, .inl ⟨0, rfl⟩, Below.refl _ _⟩
  · have h0' : 0 < p.size := by omega
    have q0 : p.toList.isEmpty = false := by
      rw [ByteArray.toList_eq]
      cases h : p.data.toList with
      | nil => exact absurd (by rw [← Array.length_toList, h]; rfl : p.data.size = 0) h0
      | cons => rfl
    by_cases h47 : p[0] = 47
    · have q1 : ((p[0].toNat : Int) != 47) = false := by rw [h47]; rfl
      have q2 : 1 ≤ p.size := by omega
      have hpd : p.data.toList = 47 :: p.data.toList.drop 1 := by
        have := List.drop_eq_getElem_cons (l := p.data.toList) (i := 0) (by simpa using h0')
        rw [List.drop_zero] at this
        rw [← h47]; exact this
      have hqd : (p.extract 1 p.size).data.toList = p.data.toList.drop 1 := Lib.extract_to_end p 1
      have hqs : (p.extract 1 p.size).size ≤ 8388608 := by rw [ByteArray.size_extract]; omega
      have Hpd := Lib.hid hpd
      have Hqd := Lib.hid hqd
      clear hpd hqd h47 h0
      go_wp2_with fail
      refine (split_any (p.extract 1 p.size) 47 m w (by omega) Hm.out).mono ?_
      rintro E w1 ⟨L, hL, rfl, hh, hs1, hb⟩
      have HL := Lib.hid hL
      have Hh := Lib.hid hh
      have Hb := Lib.hid hb
      have hLl : L.length ≤ 8388609 := by
        have h1 : L.length = (splitL 47 (p.extract 1 p.size).data.toList).length := by rw [← hL, List.length_map]
        have h2 := splitL_len 47 (p.extract 1 p.size).data.toList
        have h3 : (p.extract 1 p.size).data.toList.length = (p.extract 1 p.size).size := by simp
        omega
      clear hL hh hb
      go_wp2_with fail
      go_loopg [20] L.length (fun k u20 wr => ∃ i : Nat, i + k = L.length ∧ u20 = .int .i64 (i : Int) ∧ Hid (wr.heap[w.heap.size]? = some (.cells (strs (lstB L i)).toArray 9 (0, 0))) ∧ Hid (Below w.heap.size w wr) ∧ Hid (∀ x ∈ L.take i, okEsc x.data.toList = true))
      case atStart => exact ⟨0, by omega, rfl, Lib.hid (by simpa [lstB] using Hh.out), Hb, Lib.hid (by simp)⟩
      case round =>
        obtain ⟨i, hig, rfl, Hc, Hbel, Hok⟩ := hrel
        have hsr := Hbel.out.size
        cases gk with
        | zero =>
          obtain rfl : i = L.length := by omega
          have hR : R = if 10 < L.length then (2, []) else (0, (L.map unB).map (·.data.toList)) := by
            rw [← HR.out, Hpd.out]
            exact steps_good (HL.out.trans (by rw [Hqd.out])) fun x hx => Hok.out x (by rw [List.take_of_length_le (Nat.le_refl _)]; exact hx)
          have HR2 := Lib.hid hR
          clear hR
          by_cases h10 : 10 < L.length
          · have q3 : (10 : Int) < (L.length : Int) := by omega
            have HR3 : Hid (R = (2, [])) := Lib.hid (by rw [HR2.out, if_pos h10])
            clear h10
            go_wp2_with fail
            go_ret2
            refine ⟨_, congrArg (fun n => Ending.returned (.tuple #[_, Value.int .i64 n])) (by rw [HR3.out]), ⟨[], StrAt.nil _, by rw [HR3.out]; rfl⟩, .inl ⟨0, rfl⟩, Hbel.out⟩
          · have q3 : ¬ (10 : Int) < (L.length : Int) := by omega
            have HR3 : Hid (R = (0, (L.map unB).map (·.data.toList))) := Lib.hid (by rw [HR2.out, if_neg h10])
            clear h10
            go_wp2_with fail
            go_ret2
            have h6 : lstB L L.length = L.map unB := by simp [lstB]
            refine ⟨.slice (some ⟨w.heap.size, 0, none⟩) L.length L.length, congrArg (fun n => Ending.returned (.tuple #[_, Value.int .i64 n])) (by rw [HR3.out]), ⟨L.map unB, .inr ⟨⟨w.heap.size, 0, none⟩, L.length, by rw [List.length_map], by rw [List.length_map]; exact Nat.le_refl _, by unfold maxLen; omega, fun j x hx => ?_⟩, by rw [HR3.out]⟩, .inr ⟨w.heap.size, L.length, L.length, _, _, rfl, Nat.le_refl _, Hc.out, Nat.le_refl _, by simp [strs_length, lstB], by omega⟩, Hbel.out⟩
            rw [add_plain', Nat.zero_add, cell_block Hc.out j, h6, List.getElem?_toArray]
            exact strs_get hx
        | succ k =>
          have hil : i < L.length := by omega
          obtain ⟨x, hxi⟩ : ∃ x, L[i]? = some x := ⟨L[i]'(by omega), List.getElem?_eq_getElem _⟩
          have e0 : wr.cell? ⟨w.heap.size, i, none⟩ = some (.string x) := (cell_block Hc.out i).trans (lstB_get hxi)
          have q3 : (0 : Int) ≤ (i : Int) := by omega
          have q4 : (i : Int) < (L.length : Int) := by omega
          have hxs : x.size ≤ 8388608 := by
            have h1 := splitL_mem_len 47 (p.extract 1 p.size).data.toList x.data.toList (by rw [← HL.out]; exact List.mem_map_of_mem (List.mem_of_getElem? hxi))
            have h2 : (p.extract 1 p.size).data.toList.length = (p.extract 1 p.size).size := by simp
            have h3 : x.data.toList.length = x.size := by simp
            omega
          have Hxi := Lib.hid hxi
          clear hxi
          go_wp2_with fail
          refine (split_any x 126 m wr (by omega) (Hm.out.below Hbel.out)).mono ?_
          rintro E w2 ⟨L2, hL2, rfl, hh2, hs2, hb2⟩
          have HL2 := Lib.hid hL2
          have Hh2 := Lib.hid hh2
          have Hb2 := Lib.hid (Hbel.out.trans (hb2.mono hsr))
          have Hc2 : Hid (w2.heap[w.heap.size]? = some (.cells (strs (lstB L i)).toArray 9 (0, 0))) := Lib.hid (below_block hb2 Hc.out)
          have hL2n : 1 ≤ L2.length := by
            have h1 : L2.length = (splitL 126 x.data.toList).length := by rw [← hL2, List.length_map]
            have h2 := splitL_ne 126 x.data.toList
            cases h3 : splitL 126 x.data.toList with
            | nil => exact absurd h3 h2
            | cons => rw [h1, h3]; simp
          have hL2l : L2.length ≤ 8388609 := by
            have h1 : L2.length = (splitL 126 x.data.toList).length := by rw [← hL2, List.length_map]
            have h2 := splitL_len 126 x.data.toList
            have h3 : x.data.toList.length = x.size := by simp
            omega
          have hB2 : Hid (wr.heap.size = wr.heap.size) := Lib.hid rfl
          obtain ⟨B2, HB2⟩ : ∃ B2, Hid (wr.heap.size = B2) := ⟨_, Lib.hid rfl⟩
          have Hh3 : Hid (w2.heap[B2]? = some (.cells (strs L2).toArray 9 (0, 0))) := Lib.hid (by rw [← HB2.out]; exact Hh2.out)
          rw [HB2.out]
          clear hL2 hh2 hb2 e0 hB2 Hh2
          obtain ⟨n2, Hn2⟩ : ∃ n2, Hid (L2.length = n2) := ⟨_, Lib.hid rfl⟩
          rw [Hn2.out] at hL2n hL2l ⊢
          go_upto_region 10 with fail
          go_cut [28, 29, 30] (fun u28 u29 u30 wx => ∃ o c : Nat, u28 = .slice (some ⟨B2, o, none⟩) (n2 - 1) c ∧ u29 = .int .i64 ((n2 - 1 : Nat) : Int) ∧ u30 = .int .i64 0 ∧ Hid (∀ j t, L2.tail[j]? = some t → wx.cell? ⟨B2, o + j, none⟩ = some (.string t)) ∧ w2 = wx)
          case first =>
            have htail : ∀ j t, L2.tail[j]? = some t → w2.cell? ⟨B2, 1 + j, none⟩ = some (.string t) := fun j t ht => by
              rw [cell_block Hh3.out (1 + j), List.getElem?_toArray, Nat.add_comm]
              refine strs_get ?_
              rw [List.getElem?_tail] at ht; exact ht
            have Htail := Lib.hid htail
            clear htail
            by_cases h1 : n2 = 1
            · subst h1
              go_wp2_with fail
              go_meet
              refine ⟨_, _, rfl, rfl, rfl, Lib.hid fun j t ht => ?_, rfl⟩
              have h2 := (List.getElem?_eq_some_iff.1 ht).1
              have h3 := Hn2.out
              simp at h2; omega
            · have q5 : ¬ n2 = 1 := h1
              go_wp2_with fail
              go_meet
              exact ⟨_, _, rfl, rfl, rfl, Htail, rfl⟩
          case rest =>
          obtain ⟨o, c, rfl, rfl, rfl, Hcl, rfl⟩ := hcut
          obtain ⟨n2', Hn2'⟩ : ∃ n2', Hid (n2 - 1 = n2') := ⟨_, Lib.hid rfl⟩
          rw [Hn2'.out]
          have hn2' : n2' ≤ 8388609 := by have := Hn2'.out; omega
          go_wp2_with fail
          go_loopg [30] n2' (fun kj u30 wj => ∃ j : Nat, j + kj = n2' ∧ u30 = .int .i64 (j : Int) ∧ Hid (∀ t ∈ L2.tail.take j, headOK t.data.toList = true) ∧ w2 = wj)
          case atStart => exact ⟨0, by omega, rfl, Lib.hid (by simp), rfl⟩
          case round =>
            obtain ⟨j, hjk, rfl, Hj, rfl⟩ := hrel
            cases gk with
            | zero =>
              have hok : okEsc x.data.toList = true := by
                rw [okEsc_tail HL2.out, List.all_eq_true]
                intro t ht
                have h1 : L2.tail.length = n2' := by rw [List.length_tail, Hn2.out, Hn2'.out]
                refine Hj.out t ?_
                rw [List.take_of_length_le (by omega)]; exact ht
              have Hok2 : Hid (∀ y ∈ L.take (i + 1), okEsc y.data.toList = true) := Lib.hid fun y hy => by
                rw [List.take_add_one, Hxi.out] at hy
                rcases List.mem_append.1 hy with h | h
                · exact Hok.out y h
                · simp at h; subst h; exact hok
              obtain rfl : j = n2' := by omega
              clear hok
              have e2 : w2.cell? ⟨w.heap.size, i, none⟩ = some (.string x) := (cell_block Hc2.out i).trans (lstB_get Hxi.out)
              go_wp2_with fail
              refine (Tryz.strings_ReplaceAll x ⟨#[126, 49]⟩ ⟨#[47]⟩ m w2 (by omega) (Hm.out.below Hb2.out) (by decide) (by
                have h1 := Lib.countB_le ⟨#[126, 49]⟩ (by decide) x.size x (Nat.le_refl _)
                have h2 : (ByteArray.mk #[47]).size = 1 := rfl
                rw [h2]; omega)).mono ?_
              rintro E w3 ⟨rfl, hb3⟩
              have hs2' := Hb2.out.size
              have Hb3 := Lib.hid (Hb2.out.trans (hb3.mono hs2'))
              have Hc3 := Lib.hid (below_block hb3 Hc2.out)
              have hs3 := Hb3.out.size
              obtain ⟨y, Hy⟩ : ∃ y : ByteArray, Hid ((⟨(Lib.replaceAll x.data.toList [126, 49] [47]).toArray⟩ : ByteArray) = y) := ⟨_, Lib.hid rfl⟩
              have hy0 : (⟨(Lib.replaceAll x.data.toList (⟨#[126, 49]⟩ : ByteArray).data.toList (⟨#[47]⟩ : ByteArray).data.toList).toArray⟩ : ByteArray) = y := Hy.out
              have hyd : y.data.toList = Lib.replaceAll x.data.toList [126, 49] [47] := by rw [← Hy.out]
              have hys : y.size ≤ 8388608 := by
                have h1 : y.data.toList.length = y.size := by simp
                have h2 := repl_len x.data.toList
                have h4 : x.data.toList.length = x.size := by simp
                rw [← hyd] at h2
                omega
              rw [hy0]
              have Hyd := Lib.hid hyd
              clear hy0 hyd hb3 e2
              go_wp2_with fail
              refine (Tryz.strings_ReplaceAll y ⟨#[126, 48]⟩ ⟨#[126]⟩ m w3 (by omega) (Hm.out.below Hb3.out) (by decide) (by
                have h1 := Lib.countB_le ⟨#[126, 48]⟩ (by decide) y.size y (Nat.le_refl _)
                have h2 : (ByteArray.mk #[126]).size = 1 := rfl
                rw [h2]; omega)).mono ?_
              rintro E w4 ⟨rfl, hb4⟩
              have Hb4 := Lib.hid (Hb3.out.trans (hb4.mono hs3))
              have hc4 := below_block hb4 Hc3.out
              obtain ⟨z, Hz⟩ : ∃ z : ByteArray, Hid (unB x = z) := ⟨_, Lib.hid rfl⟩
              have hz0 : (⟨(Lib.replaceAll y.data.toList (⟨#[126, 48]⟩ : ByteArray).data.toList (⟨#[126]⟩ : ByteArray).data.toList).toArray⟩ : ByteArray) = z := by rw [← Hz.out, Hyd.out]; rfl
              rw [hz0]
              have e4 : w4.cell? ⟨w.heap.size, i, none⟩ = some (.string x) := (cell_block hc4 i).trans (lstB_get Hxi.out)
              have f4 : w4.frozen? ⟨w.heap.size, i, none⟩ = false := free_block hc4 i
              have Hc4 := Lib.hid hc4
              clear hb4 hz0 hc4
              go_wp2_with fail
              go_roundg k
              case measure => omega
              case rel =>
                refine ⟨i + 1, by omega, by go_num, Lib.hid ?_, Lib.hid ((Hb4.out).setCell (p := ⟨w.heap.size, i, none⟩) (Nat.le_refl _) _), Hok2⟩
                rw [(touch_setCell Hc4.out).1, ← Hz.out, lstB_set Hxi.out]
            | succ kj =>
              have hjl : j < n2' := by omega
              have htl : j < L2.tail.length := by rw [List.length_tail, Hn2.out, Hn2'.out]; exact hjl
              obtain ⟨t, ht⟩ : ∃ t, L2.tail[j]? = some t := ⟨L2.tail[j], List.getElem?_eq_getElem htl⟩
              have e1 : w2.cell? ⟨B2, o + j, none⟩ = some (.string t) := Hcl.out j t ht
              have q5 : (0 : Int) ≤ (j : Int) := by omega
              have q6 : (j : Int) < (n2' : Int) := by omega
              have hbad : headOK t.data.toList = false → R = (16, []) := fun h => by
                rw [← HR.out, Hpd.out]
                refine steps_bad (HL.out.trans (by rw [Hqd.out])) (List.mem_of_getElem? Hxi.out) ?_
                rw [okEsc_tail HL2.out, List.all_eq_false]
                exact ⟨t, List.mem_of_getElem? ht, by rw [h]; simp⟩
              have Hbad := Lib.hid hbad
              have Ht := Lib.hid ht
              clear hbad ht
              by_cases ht0 : t.size = 0
              · have h1 : t.data.toList = [] := List.eq_nil_of_length_eq_zero (by simpa using ht0)
                have q7 : t.toList.isEmpty = true := by rw [ByteArray.toList_eq, h1]; rfl
                have HR2 := Lib.hid (Hbad.out (headOK_nil ht0))
                clear h1 ht0 Hbad
                go_wp2_with fail
                go_ret2
                exact ⟨_, congrArg (fun n => Ending.returned (.tuple #[_, Value.int .i64 n])) (by rw [HR2.out]), ⟨[], StrAt.nil _, by rw [HR2.out]; rfl⟩, .inl ⟨0, rfl⟩, Hb2.out⟩
              · have ht0' : 0 < t.size := by omega
                have q7 : t.toList.isEmpty = false := by
                  rw [ByteArray.toList_eq]
                  cases h : t.data.toList with
                  | nil => exact absurd (by rw [← Array.length_toList, h]; rfl : t.data.size = 0) ht0
                  | cons => rfl
                have hh := headOK_cons ht0'
                have key : ∀ d : UInt8, ((t[0].toNat : Int) != (d.toNat : Int)) = (t[0] != d) := fun d => by
                  by_cases h : t[0] = d
                  · rw [h]; simp
                  · have h2 : ¬ t[0].toNat = d.toNat := fun e => h (UInt8.toNat_inj.1 e)
                    rw [bne_iff_ne.2 h, bne_iff_ne]; omega
                by_cases h48 : t[0] = 48
                · have q8 : ((t[0].toNat : Int) != 48) = false := (key 48).trans (by rw [h48]; rfl)
                  have Hgo : Hid (headOK t.data.toList = true) := Lib.hid (by rw [hh, h48]; rfl)
                  clear ht0 hh key h48 Hbad
                  go_wp2_with fail
                  go_roundg kj
                  case measure => omega
                  case rel => exact ⟨j + 1, by omega, by go_num, all_snoc Hj.out Ht.out Hgo.out, rfl⟩
                · have q8 : ((t[0].toNat : Int) != 48) = true := (key 48).trans (bne_iff_ne.2 h48)
                  by_cases h49 : t[0] = 49
                  · have q9 : ((t[0].toNat : Int) != 49) = false := (key 49).trans (by rw [h49]; rfl)
                    have Hgo : Hid (headOK t.data.toList = true) := Lib.hid (by rw [hh, h49]; rfl)
                    clear ht0 hh key h48 h49 Hbad
                    go_wp2_with fail
                    go_roundg kj
                    case measure => omega
                    case rel => exact ⟨j + 1, by omega, by go_num, all_snoc Hj.out Ht.out Hgo.out, rfl⟩
                  · have q9 : ((t[0].toNat : Int) != 49) = true := (key 49).trans (bne_iff_ne.2 h49)
                    have HR2 := Lib.hid (Hbad.out (by rw [hh, Bool.or_eq_false_iff, beq_eq_false_iff_ne, beq_eq_false_iff_ne]; exact ⟨h48, h49⟩))
                    clear ht0 hh key h48 h49 Hbad
                    go_wp2_with fail
                    go_ret2
                    exact ⟨_, congrArg (fun n => Ending.returned (.tuple #[_, Value.int .i64 n])) (by rw [HR2.out]), ⟨[], StrAt.nil _, by rw [HR2.out]; rfl⟩, .inl ⟨0, rfl⟩, Hb2.out⟩
    · have q1 : ((p[0].toNat : Int) != 47) = true := by
        rw [bne_iff_ne]; intro h; apply h47; apply UInt8.toNat_inj.1; have h2 : (47 : UInt8).toNat = 47 := rfl; omega
      go_wp2_with fail
      go_ret2
      have hpd : p.data.toList = p[0] :: p.data.toList.drop 1 := by
        have := List.drop_eq_getElem_cons (l := p.data.toList) (i := 0) (by simpa using h0')
        rw [List.drop_zero] at this
        exact this
      have h2 : R = (16, []) := by
        rw [← HR.out, hpd]
        unfold stepsP
        simp only
        rw [if_pos h47]
      subst h2
      exact ⟨_, rfl, ⟨[], StrAt.nil _, rfl⟩, .inl ⟨0, rfl⟩, Below.refl _ _⟩
def InvO (d : Bs) (ops : List JP.PO) (w : World) (e : Ending) (w' : World) : Prop :=
  ∃ v', e = .returned (.tuple #[v', .int .i64 (JP.applyE d ops)]) ∧ RowAt OpR 4 w' v' ((JP.invL d ops).map ofPO) ∧ (∀ q, v'.ownBlock = some q → w.heap.size ≤ q ∧ q < w'.heap.size) ∧ Below w.heap.size w w'
set_option maxRecDepth 100000 in
set_option maxHeartbeats 3200000 in
theorem invertO_any (d : ByteArray) (ov : Value) (L : List GOp) (w : World) (hd : d.size ≤ 1048576) (hL : RowAt OpR 4 w ov L) (hll : L.length ≤ 1048576) (hok : ∀ g ∈ L, OpOK g) (hE : Env w) :
    Calls Tryz.prog 22 #[.string d, ov] w (InvO d.data.toList (L.map toPO) w) := by
  obtain ⟨g, hg⟩ : ∃ g, w.heap.size = g := ⟨_, rfl⟩
  have hsee := sees_back w hE
  obtain ⟨w1, hw⟩ : ∃ w1, w1 = w.alloc (.cells #[.slice none 0 0] 49) := ⟨_, rfl⟩
  have hb1 : Below w.heap.size w w1 := by rw [hw]; exact (Below.refl _ w).alloc (Nat.le_refl _) _
  have hbox : w1.heap[w.heap.size]? = some (.cells #[.slice none 0 0] 49 (0, 0)) := by rw [hw]; exact heap_alloc_new w _
  have hI1 : OutAt w.heap.size [] w1 := ⟨_, hbox, OwnAt.nil _⟩
  have HRn := Lib.hid (fun enter => run1_any (f := 42) (cap := .pointer (some ⟨w.heap.size, 0, none⟩)) (G := [w.heap.size]) (I := OutAt w.heap.size) (w0 := w) enter (fun d w w' h hb => by
      obtain ⟨o, h1, h2⟩ := h
      exact ⟨o, below_block hb h1, h2.below flat_op.stays hb⟩) (fun b h => by rw [List.mem_singleton.1 h]; exact Nat.le_refl _) (fun d w n v x h hj => by
      obtain ⟨o, h1, h2⟩ := h
      obtain ⟨a, c, e, _⟩ := h2.row.len
      subst e
      exact jv_off h1 hj) hsee d ov L w1 hd hb1 hL hll hok hE hI1)
  have HEn := Lib.hid hE.1
  obtain ⟨ao, co, e1, _⟩ := hL.len
  subst e1
  obtain ⟨ln, hln⟩ : ∃ ln, L.length = ln := ⟨_, rfl⟩
  rw [hln] at HRn ⊢
  obtain ⟨r1, r2, r3, hR⟩ : ∃ a b c, JP.runO d.data.toList (L.map toPO) = (a, b, c) := ⟨_, _, _, rfl⟩
  have hE2 : JP.applyE d.data.toList (L.map toPO) = r1 := by unfold JP.applyE; rw [hR]
  have hinv : JP.invL d.data.toList (L.map toPO) = if r1 = 0 then JP.outP (JP.seenP (L.map toPO) (JP.readL d.data.toList).1) [] else [] := by unfold JP.invL; rw [hE2, JP.bk_seen]
  rw [hR] at HRn
  unfold InvO
  rw [hE2, hinv]
  obtain ⟨S, hS⟩ : ∃ S, JP.seenP (L.map toPO) (JP.readL d.data.toList).1 = S := ⟨_, rfl⟩
  rw [hS] at HRn ⊢
  rw [hg] at HRn ⊢
  have Hg := Lib.hid hg
  have Hb1 := Lib.hid hb1
  have ep : ∀ (a : Array Value) (w : World), (callFunc 42 a).run Tryz.prog w = .ok (.enter 42 a) w := fun a w => by kernel_rfl
  have HRn2 := Lib.hid (HRn.out ep)
  clear ep HRn hR hE2 hinv hS hL hok hE hd hll hln hsee hI1 hbox hb1
  go_enter Tryz.func22, Tryz.ntmps22
  go_upto_region 2 with fail
  rw [← hw]
  clear hw hg
  go_wp2_with fail
  refine HRn2.out.mono ?_
  rintro E w2 ⟨u, rfl, hu, hb⟩
  have HB : Hid (Below g w w2) := Lib.hid (by have h9 := hb; rw [Hg.out] at h9; exact h9)
  by_cases he : r1 = 0
  · subst he
    obtain ⟨_, o, h1, h2⟩ := hu rfl
    obtain ⟨a, c, e, _⟩ := h2.row.len
    have HRow := Lib.hid h2.row
    have HWh := Lib.hid (fun q (hq : o.ownBlock = some q) => (⟨(h2.at hq).1, (h2.at hq).2.1⟩ : g + 1 ≤ q ∧ q < w2.heap.size))
    obtain ⟨no, hno⟩ : ∃ n, (List.map ofPO (JP.outP S [])).length = n := ⟨_, rfl⟩
    rw [hno] at e
    subst e
    have q1 := cell_block h1 0
    clear hu hb h1 h2 hno HRn2
    go_wp2_with fail
    go_ret2
    exact ⟨_, rfl, HRow.out, fun q hq => (by have := HWh.out q hq; omega), HB.out⟩
  · have n0 : (r1 != 0) = true := by rw [bne_iff_ne]; exact he
    have Hne := Lib.hid he
    clear hu hb he HRn2
    go_wp2_with fail
    go_ret2
    exact ⟨_, rfl, .inl ⟨rfl, rfl⟩, fun q hq => (by cases hq), HB.out⟩
theorem Tryz.fieldsOp : Tryz.prog.underlying 52 = some (.struct (Tryz.prog.fieldsOf 52)) := by kernel_rfl
theorem Tryz.heldOp : Tryz.prog.stoodInHeld 52 = false := by kernel_rfl
theorem run_neqOp (k : Int) (a b c : ByteArray) (w : World) : (binOp .neq 52 (.agg #[.int .i64 k, .string a, .string b, .string c]) (.agg #[.int .i64 k, .string a, .string b, .string c])).run Tryz.prog w = .ok (.bool false) w := by
  rw [run_neq_struct, run_equalIn_agg w 9999 _ _ _ Tryz.fieldsOp Tryz.heldOp]
  simp [Op.eqFields, Program.fieldsOf, Tryz.underlying52]
  go_simp
set_option maxRecDepth 100000 in
set_option maxHeartbeats 1600000 in
theorem eqOp_yes (v1 v2 : Value) (l : List GOp) (w : World) (h1 : RowAt OpR 4 w v1 l) (h2 : RowAt OpR 4 w v2 l) (hl : l.length ≤ 1048576) :
    Calls Tryz.prog 23 #[v1, v2] w fun e w' => e = .returned (.bool true) ∧ Below w.heap.size w w' := by
  obtain ⟨a1, c1, rfl, _, _⟩ := h1.len
  obtain ⟨a2, c2, rfl, _, _⟩ := h2.len
  have H1 := Lib.hid h1
  have H2 := Lib.hid h2
  clear h1 h2
  have q1 : ((l.length : Int) != (l.length : Int)) = false := by rw [bne_eq_false_iff_eq]
  go_enter Tryz.func23, Tryz.ntmps23
  go_wp2_with fail
  clear q1
  go_loopg [14] l.length (fun g u14 wr => ∃ i : Nat, i + g = l.length ∧ u14 = .int .i64 (i : Int) ∧ Below w.heap.size w wr)
  case atStart => exact ⟨0, by omega, rfl, Below.refl _ _⟩
  case round =>
    obtain ⟨i, hig, rfl, hbel⟩ := hrel
    cases gk with
    | zero =>
      obtain rfl : i = l.length := by omega
      go_wp2_with fail
      go_ret
      exact ⟨rfl, hbel⟩
    | succ g =>
      have hil : i < l.length := by omega
      obtain ⟨x, hx⟩ : ∃ x, l[i]? = some x := ⟨l[i]'(by omega), List.getElem?_eq_getElem _⟩
      obtain ⟨b, o, c', hv, _, _, hbs, hcell⟩ := H1.out.form (by omega) (by omega)
      cases hv
      obtain ⟨cs, _, hcc, hR, _⟩ := hcell i x hx
      subst hR
      obtain ⟨b', o', c'', hv, _, _, hbs', hcell'⟩ := H2.out.form (by omega) (by omega)
      cases hv
      obtain ⟨cs', _, hcc', hR', _⟩ := hcell' i x hx
      subst hR'
      have e0 : wr.cell? ⟨b, o + i * 4, none⟩ = some (.int .i64 x.kind) := (hbel.cell (p := ⟨b, _, none⟩) hbs).trans (by simpa using hcc 0 _ rfl)
      have e1 : wr.cell? ⟨b, o + i * 4 + 1, none⟩ = some (.string x.path) := (hbel.cell (p := ⟨b, _, none⟩) hbs).trans (hcc 1 _ rfl)
      have e2 : wr.cell? ⟨b, o + i * 4 + 2, none⟩ = some (.string x.from_) := (hbel.cell (p := ⟨b, _, none⟩) hbs).trans (hcc 2 _ rfl)
      have e3 : wr.cell? ⟨b, o + i * 4 + 3, none⟩ = some (.string x.value) := (hbel.cell (p := ⟨b, _, none⟩) hbs).trans (hcc 3 _ rfl)
      have f0 : wr.cell? ⟨b', o' + i * 4, none⟩ = some (.int .i64 x.kind) := (hbel.cell (p := ⟨b', _, none⟩) hbs').trans (by simpa using hcc' 0 _ rfl)
      have f1 : wr.cell? ⟨b', o' + i * 4 + 1, none⟩ = some (.string x.path) := (hbel.cell (p := ⟨b', _, none⟩) hbs').trans (hcc' 1 _ rfl)
      have f2 : wr.cell? ⟨b', o' + i * 4 + 2, none⟩ = some (.string x.from_) := (hbel.cell (p := ⟨b', _, none⟩) hbs').trans (hcc' 2 _ rfl)
      have f3 : wr.cell? ⟨b', o' + i * 4 + 3, none⟩ = some (.string x.value) := (hbel.cell (p := ⟨b', _, none⟩) hbs').trans (hcc' 3 _ rfl)
      have hbs2 : b' < wr.heap.size := by have := hbel.size; omega
      have q1 : (0 : Int) ≤ (i : Int) := by omega
      have q2 : (i : Int) < (l.length : Int) := by omega
      have hne := run_neqOp x.kind x.path x.from_ x.value
      have Hbel : ∀ o : Obj, Hid (Below w.heap.size w (wr.alloc o)) := fun o => Lib.hid (hbel.alloc hbel.size o)
      clear hcc hcc' hcell hcell' hx hbel
      go_wp2_with fail
      go_quiet (fail)
      go_wp2_with fail
      go_roundg g
      case measure => omega
      case rel => exact ⟨i + 1, by omega, by go_num, below_drewN (Hbel _).out _⟩
set_option maxRecDepth 100000 in
set_option maxHeartbeats 800000 in
theorem kept_any (v : Value) (l : List ByteArray) (g : Nat) (w : World) (h : StrAt w v l) (hl : l.length ≤ 1048576) (hg : w.heap[g]? = some (.cells (strs (l ++ [markB, markB])).toArray 9 (0, 0))) :
    Calls Tryz.prog 13 #[.slice (some ⟨g, 0, none⟩) l.length (l.length + 2), v] w fun e w' => e = .returned (.bool true) ∧ w = w' := by
  obtain ⟨a1, c1, rfl, _, _⟩ := h.len
  have hrow : StrAt w (.slice (some ⟨g, 0, none⟩) l.length (l.length + 2)) l := .inr ⟨_, _, rfl, by omega, by unfold maxLen; omega, fun j x hx => by
    rw [add_plain', Nat.zero_add, cell_block hg j, List.getElem?_toArray]
    exact strs_get (by rw [List.getElem?_append_left (List.getElem?_eq_some_iff.1 hx).1]; exact hx)⟩
  have HE := Lib.hid (eqStrs_any _ _ l l w hrow h (by omega) (by omega))
  rw [decide_eq_true rfl] at HE
  have m0 : w.cell? ⟨g, l.length, none⟩ = some (.string markB) := (cell_block hg l.length).trans (by rw [List.getElem?_toArray]; exact strs_get (by rw [List.getElem?_append_right (Nat.le_refl _)]; simp))
  have m1 : w.cell? ⟨g, l.length + 1, none⟩ = some (.string markB) := (cell_block hg (l.length + 1)).trans (by rw [List.getElem?_toArray]; exact strs_get (by rw [List.getElem?_append_right (by omega)]; simp))
  obtain ⟨n, hn⟩ : ∃ n, l.length = n := ⟨_, rfl⟩
  rw [hn] at m0 m1 hl HE ⊢
  have p0 : (0 : Int) ≤ (n : Int) := by omega
  have p1 : (n : Int) ≤ (n : Int) + 2 := by omega
  have tm : (markB.toList == [109, 97, 114, 107]) = true := by rw [ByteArray.toList_eq]; rfl
  have tm2 : (n + 2 - n : Nat) = 2 := by omega
  clear hg h hrow hn
  go_enter Tryz.func13, Tryz.ntmps13
  go_wp2_with fail
  refine HE.out.mono ?_
  rintro E w2 ⟨rfl, rfl⟩
  go_wp2_with fail
  go_ret
  exact ⟨rfl, rfl⟩
end Go.Proofs.YtlbolbkikkiifaaGreatDoor
/- patch: how long the steps back are. -/
namespace Go.Proofs.YtlbolbkikkiifaaGreatDoor
open Go.RowKit
open JP (JV Bs)

namespace JP
theorem itoa_few : ∀ n : Nat, n < 201 → (Lib.itoa (n : Int)).length ≤ 3 := by decide +kernel
theorem len_size (l : List JV) : l.length ≤ sizeL l := by
  induction l with
  | nil => exact Nat.le_refl _
  | cons v r ih => have := size_pos v; rw [sizeL, List.length_cons]; omega
theorem joinK_snoc (l : List Bs) (s : Bs) : (joinK (l ++ [s])).length = (joinK l).length + 1 + (escS s).length := by
  unfold joinK
  rw [List.flatMap_append, List.length_append]
  simp
  omega
/-- how long a step back may be -/
def Short (M : Nat) (o : PO) : Prop := o.path.length ≤ M + 5 ∧ o.frm.length ≤ 5 ∧ o.val.length ≤ 2000
theorem unput_short {M : Nat} {x : JV} {l : List Bs} (hx : Fit x) (hl : (joinK l).length ≤ M) : Short M (unputP x l) := by
  have hx2 := hx.2.2.2
  unfold unputP
  split
  · exact ⟨Nat.zero_le _, Nat.zero_le _, hx2⟩
  · split
    · rename_i ls hls
      refine ⟨?_, Nat.zero_le _, Nat.zero_le _⟩
      show (joinK _).length ≤ _
      split
      · rename_i hg
        obtain ⟨r, rfl⟩ := List.getLast?_eq_some_iff.1 hg
        rw [List.dropLast_concat] at hls ⊢
        have hf := at_fit hx hls
        have h1 : ls.length ≤ 200 := by have h9 : size (.list ls) ≤ 200 := hf.2.1; rw [size] at h9; have := len_size ls; omega
        have h2 := itoa_few ls.length (by omega)
        have h3 := esc_len (Lib.itoa (ls.length : Int))
        rw [joinK_snoc] at hl ⊢
        have h4 : 1 ≤ (escS [45]).length := by rw [escS_eq]; decide
        omega
      · omega
    · split
      · rename_i was hw
        exact ⟨by show (joinK l).length ≤ _; omega, Nat.zero_le _, (at_fit hx hw).2.2.2⟩
      · exact ⟨by show (joinK l).length ≤ _; omega, Nat.zero_le _, Nat.zero_le _⟩
theorem textO_short {x : JV} {l : List Bs} (hx : Fit x) : (textO (atW x l)).length ≤ 2000 := by
  cases h : atW x l with
  | none => exact fit_nul.2.2.2
  | some y => exact (at_fit hx h).2.2.2
theorem back_short {M : Nat} {s : PS} {v : JV} (hv : Fit v) (hp : (joinK s.path).length ≤ M) (hf : (joinK s.frm).length ≤ M) : ∀ o ∈ backP v s, Short M o := by
  intro o ho
  unfold backP at ho
  split at ho
  · rw [List.mem_singleton.1 ho]; exact unput_short hv hp
  · split at ho
    · rw [List.mem_singleton.1 ho]; exact ⟨by show (joinK s.path).length ≤ _; omega, Nat.zero_le _, textO_short hv⟩
    · split at ho
      · rw [List.mem_singleton.1 ho]; exact ⟨by show (joinK s.path).length ≤ _; omega, Nat.zero_le _, textO_short hv⟩
      · split at ho
        · split at ho
          · cases ho
          · split at ho
            · rename_i rest hr
              rcases List.mem_cons.1 ho with rfl | ho
              · exact unput_short (cutW_less hv hr).1 hp
              · rw [List.mem_singleton.1 ho]; exact ⟨by show (joinK s.frm).length ≤ _; omega, Nat.zero_le _, textO_short hv⟩
            · cases ho
        · cases ho
theorem read_short {o : PO} {M : Nat} (h : (readO o).1 = 0) (hp : o.path.length ≤ M) (hf : o.frm.length ≤ M) : (joinK (readO o).2.path).length ≤ M ∧ (joinK (readO o).2.frm).length ≤ M := by
  unfold readO at h ⊢
  by_cases h0 : o.kind < 1 ∨ 6 < o.kind
  · rw [if_pos h0] at h; cases h
  rw [if_neg h0] at h ⊢
  by_cases h1 : (stepsP o.path).1 ≠ 0
  · rw [if_pos h1] at h; exact absurd h h1
  rw [if_neg h1] at h ⊢
  have hs : stepsP o.path = (0, (stepsP o.path).2) := Prod.ext (by simpa using h1) rfl
  have m1 := (join_steps hs).1
  by_cases h2 : o.kind = 4 ∨ o.kind = 5
  · rw [if_pos h2] at h ⊢
    have hs2 : stepsP o.frm = (0, (stepsP o.frm).2) := Prod.ext h rfl
    exact ⟨by show (joinK (stepsP o.path).2).length ≤ M; rw [m1]; exact hp, by show (joinK (stepsP o.frm).2).length ≤ M; rw [(join_steps hs2).1]; exact hf⟩
  rw [if_neg h2] at h ⊢
  by_cases h3 : o.kind = 2
  · rw [if_pos h3] at h ⊢
    exact ⟨by show (joinK (stepsP o.path).2).length ≤ M; rw [m1]; exact hp, Nat.zero_le _⟩
  rw [if_neg h3] at h ⊢
  exact ⟨by show (joinK (stepsP o.path).2).length ≤ M; rw [m1]; exact hp, Nat.zero_le _⟩
theorem step_read {o : PO} {v : JV} (h : (stepP o v).1 = 0) : (readO o).1 = 0 := by
  unfold stepP at h
  by_cases h1 : (readO o).1 ≠ 0
  · rw [if_pos h1] at h; exact absurd h h1
  · simpa using h1
theorem bk_short {M : Nat} : ∀ {ops : List PO} {v : JV} {out : List PO}, Fit v → (∀ o ∈ ops, o.path.length ≤ M ∧ o.frm.length ≤ M) → (∀ o ∈ out, Short M o) → ∀ o ∈ bkP ops v out, Short M o
  | [], v, out, _, _, h => h
  | o :: r, v, out, hv, hops, h => by
    rw [bkP]
    by_cases h1 : (stepP o v).1 = 0
    · rw [if_pos h1]
      refine bk_short (stepP_fit hv h1) (fun o' ho => hops o' (List.mem_cons_of_mem _ ho)) fun o' ho => ?_
      rcases List.mem_append.1 ho with ho | ho
      · obtain ⟨a, b⟩ := hops o (List.mem_cons_self ..)
        obtain ⟨c, e⟩ := read_short (step_read h1) a b
        exact back_short hv c e o' ho
      · exact h o' ho
    · rw [if_neg h1]; exact h
theorem inv_short {M : Nat} {d : Bs} {ops : List PO} (h : ∀ o ∈ ops, o.path.length ≤ M ∧ o.frm.length ≤ M) : ∀ o ∈ invL d ops, Short M o := by
  unfold invL
  by_cases h0 : applyE d ops = 0
  · rw [if_pos h0]
    obtain ⟨x, h1, h2, h3, h4, h5⟩ := runO_ok h0
    rw [h1]
    exact bk_short h4 h (fun o ho => by cases ho)
  · rw [if_neg h0]; intro o ho; cases ho
theorem invL_no {d : Bs} {ops : List PO} (h : applyE d ops ≠ 0) : invL d ops = [] := if_neg h
end JP
end Go.Proofs.YtlbolbkikkiifaaGreatDoor
/- The law OwnWays. -/
namespace Go.Proofs.YtlbolbkikkiifaaGreatDoor
open Go.RowKit
open JP (JV Bs)

theorem data_inj : ∀ {l m : List ByteArray}, l.map (·.data.toList) = m.map (·.data.toList) → l = m
  | [], [], _ => rfl
  | [], _ :: _, h => by cases h
  | _ :: _, [], h => by cases h
  | x :: l, y :: m, h => by
    rw [List.map_cons, List.map_cons] at h
    injection h with h1 h2
    have : x = y := by
      apply ByteArray.ext
      exact Array.toList_inj.1 h1
    rw [this, data_inj h2]
theorem RowAt.but {α : Type} {R : Rd α} {k : Nat} {v : Value} {l : List α} {g : Nat} {w w' : World} (hf : Flat R) (h : RowAt R k w v l) (hb : But g w w') (hne : ∀ q, v.ownBlock = some q → q ≠ g) (hk : 0 < k) : RowAt R k w' v l := by
  rcases h with ⟨h1, h2⟩ | ⟨a, c, h1, h2, h3, h4⟩
  · exact .inl ⟨h1, h2⟩
  · refine .inr ⟨a, c, h1, h2, h3, fun j x hx => ?_⟩
    obtain ⟨cs, g1, g2, g3⟩ := h4 j x hx
    refine ⟨cs, g1, fun i u hu => ?_, hf _ _ _ _ g3⟩
    have g5 := g2 i u hu
    have h6 : (a.add (j * k + i)).block = a.block := by unfold Addr.add; split <;> rfl
    have h7 := World.block_lt_of_cell? w _ g5
    rw [← g5]
    exact hb.cell (p := a.add (j * k + i)) h7 (by rw [h6]; exact hne a.block (by rw [h1]; rfl))
theorem zero_strs {w : World} {g : Nat} {t : TypeId} (h : w.heap[g]? = some (.cells (madeCells #[.string ByteArray.empty] 11) t (0, 0))) : StrAt w (.slice (some ⟨g, 0, none⟩) 11 11) (List.replicate 11 ByteArray.empty) := by
  refine .inr ⟨⟨g, 0, none⟩, 11, by rw [List.length_replicate], by rw [List.length_replicate]; exact Nat.le_refl _, by unfold maxLen; decide, fun j x hx => ?_⟩
  rw [add_plain', Nat.zero_add]
  have hj : j < 11 := by simpa using (List.getElem?_eq_some_iff.1 hx).1
  have : w.cell? ⟨g, j, none⟩ = (madeCells #[.string ByteArray.empty] 11)[j]? := cell_block h j
  rw [this]
  obtain rfl : x = ByteArray.empty := List.eq_of_mem_replicate (List.mem_of_getElem? hx)
  simp [madeCells, hj, Nat.mod_one]
theorem LooseAt.butOut {B : Nat} {w w' : World} {v : Value} (h : LooseAt B w v) (hb : But w.heap.size w w') : LooseAt B w' v := by
  rcases h with ⟨n, rfl⟩ | ⟨q, n, c, cs, t, rfl, h1, h2, h3, h4, h5⟩
  · exact .inl ⟨n, rfl⟩
  · refine .inr ⟨q, n, c, cs, t, rfl, h1, hb.keep h2 ?_, h3, h4, h5⟩
    rintro rfl
    rw [Array.getElem?_eq_none (Nat.le_refl _)] at h2
    cases h2
theorem JP.invL_len2 (d : Bs) (ops : List JP.PO) : (JP.invL d ops).length ≤ 80 := by
  unfold JP.invL
  by_cases h0 : JP.applyE d ops = 0
  · obtain ⟨x, h1, h2, h3, h4, h5⟩ := JP.runO_ok h0
    rw [if_pos h0, h1]
    obtain ⟨m, m1, m2, _⟩ := JP.bk_runs (i := 0) [] 0 h4 h3
    rw [m2, List.length_nil]; omega
  · rw [if_neg h0]; exact Nat.zero_le _
theorem spoil_any {B : Nat} {w : World} {v : Value} (h : LooseAt B w v) (hB : B ≤ w.heap.size) : Calls Tryz.prog 14 #[v] w fun e w' => e = .returned (.tuple #[]) ∧ ∃ g, B ≤ g ∧ But g w w' := by
  rcases h with ⟨n, rfl⟩ | ⟨g, n, c, cs, t, rfl, h1, h2, h3, h4, h5⟩
  · refine (spoil_nil n w).mono ?_
    rintro e w' ⟨rfl, rfl⟩
    exact ⟨rfl, w.heap.size, hB, But.refl _ _⟩
  · refine (spoil_some g n c cs t w h2 h3 h4 h5).mono ?_
    rintro e w' ⟨rfl, hb, _⟩
    exact ⟨rfl, g, h1, hb⟩
theorem LooseAt.but {B g : Nat} {w w' : World} {v : Value} (h : LooseAt B w v) (hb : But g w w') (hg : g < B) : LooseAt B w' v := by
  rcases h with ⟨n, rfl⟩ | ⟨q, n, c, cs, t, rfl, h1, h2, h3, h4, h5⟩
  · exact .inl ⟨n, rfl⟩
  · exact .inr ⟨q, n, c, cs, t, rfl, h1, hb.keep h2 (by omega), h3, h4, h5⟩
theorem LooseAt.below {B : Nat} {w w' : World} {v : Value} (h : LooseAt B w v) (hb : Below w.heap.size w w') : LooseAt B w' v := by
  rcases h with ⟨n, rfl⟩ | ⟨q, n, c, cs, t, rfl, h1, h2, h3, h4, h5⟩
  · exact .inl ⟨n, rfl⟩
  · exact .inr ⟨q, n, c, cs, t, rfl, h1, below_block hb h2, h3, h4, h5⟩
set_option maxRecDepth 100000 in
set_option maxHeartbeats 12800000 in
theorem ownWays_walk (v : Value) (l : List ByteArray) (d : ByteArray) (ov : Value) (L : List GOp) (w : World) (hv : StrAt w v l) (hL : RowAt OpR 4 w ov L) (hbulk : total l + (d.data.toList.length + (L.map opB).sum) ≤ 1048576) (hE : Env w) :
    Calls Tryz.prog 4 #[v, .string d, ov] w fun e w' => e = .returned (.bool true) ∧ Below w.heap.size w w' := by
  have hd : d.size ≤ 1048576 := by rw [← list_size d]; omega
  have htl : total l ≤ 1048576 := by omega
  have hll : l.length ≤ 1048576 := by have := total_length l; omega
  obtain ⟨hok, hLl⟩ := ops_ok (L := L) (by omega)
  obtain ⟨mx, hmx⟩ := hE.2.2
  have hjl := joinL_len l
  have HT := Lib.hid (texts_any v l w hv hll)
  have HC := Lib.hid (fun (w' : World) (h : Below w.heap.size w w') => copyOp_any ov L w' (hL.below stays_op h) hLl)
  have HJ := Lib.hid (fun (w' : World) (u : Value) (h : Below w.heap.size w w') (hu : StrAt w' u l) => ptrJoin_any u l mx w' hu (by omega) (hmx.below h))
  have HJ0 := Lib.hid (fun (w' : World) (u : Value) (h : Below w.heap.size w w') (hu : StrAt w' u (List.replicate 11 ByteArray.empty)) => ptrJoin_any u _ mx w' hu (by decide) (hmx.below h))
  have HSt := Lib.hid (fun (p : ByteArray) (hp : p.size ≤ 8388608) (w' : World) (h : Below w.heap.size w w') => ptrStepsO_any p mx w' hp (hmx.below h))
  have HA := Lib.hid (fun (w' : World) (u : Value) (h : Below w.heap.size w w') (hu : RowAt OpR 4 w' u L) => apply_any d u L w' hd hu hLl hok (hE.below h))
  have HI := Lib.hid (fun (w' : World) (u : Value) (h : Below w.heap.size w w') (hu : RowAt OpR 4 w' u L) => invertO_any d u L w' hd hu hLl hok (hE.below h))
  have hbl := @JP.invL_len2 d.data.toList (L.map toPO)
  unfold AppAt at HA
  unfold InvO at HI
  obtain ⟨T1, hT1⟩ : ∃ n, JP.applyT d.data.toList (L.map toPO) = n := ⟨_, rfl⟩
  obtain ⟨N1, hN1⟩ : ∃ n, JP.applyN d.data.toList (L.map toPO) = n := ⟨_, rfl⟩
  obtain ⟨E1, hE1⟩ : ∃ n, JP.applyE d.data.toList (L.map toPO) = n := ⟨_, rfl⟩
  obtain ⟨BL, hBL⟩ : ∃ n, (JP.invL d.data.toList (L.map toPO)).map ofPO = n := ⟨_, rfl⟩
  rw [hT1, hN1, hE1] at HA
  rw [hE1, hBL] at HI
  have hblen : BL.length ≤ 1048576 := by rw [← hBL, List.length_map]; have := hbl; omega
  have HCb := Lib.hid (fun (w' : World) (u : Value) (hu : RowAt OpR 4 w' u BL) => copyOp_any u BL w' hu hblen)
  have HEq := Lib.hid (fun (w' : World) (u1 u2 : Value) (h1 : RowAt OpR 4 w' u1 BL) (h2 : RowAt OpR 4 w' u2 BL) => eqOp_yes u1 u2 BL w' h1 h2 hblen)
  have HK := Lib.hid (fun (w' : World) (g : Nat) (h : Below w.heap.size w w') (hg : w'.heap[g]? = some (.cells (strs (l ++ [markB, markB])).toArray 9 (0, 0))) => kept_any v l g w' (hv.below h) hll hg)
  have HEs := Lib.hid (fun (w' : World) (u : Value) (h : Below w.heap.size w w') (hu : StrAt w' u l) => (eqStrs_any u v l l w' hu (hv.below h) (by omega) (by omega)).mono fun e w'' (h : e = .returned (.bool (decide (l = l))) ∧ w' = w'') => (by rwa [decide_eq_true rfl] at h : e = .returned (.bool true) ∧ w' = w''))
  obtain ⟨i0, hi0, hz0, hz1, hz2⟩ := info_parts Tryz.infoStr
  have HM := Lib.hid (fun (w' : World) => run_makeSlice (P := Tryz.prog) w' 24 9 i0 _ Tryz.underlying24 hi0 hz0 .i64 .i64 11 11 (by decide) (by decide) (by rw [hz1]; decide) (by rw [hz2]; decide) (by decide))
  rw [hz1] at HM
  obtain ⟨a1, c1, e1, hc1, _⟩ := hv.len
  obtain ⟨a2, c2, e2, _, _⟩ := hL.len
  obtain ⟨n, hn⟩ : ∃ n, l.length = n := ⟨_, rfl⟩
  obtain ⟨nL, hnL⟩ : ∃ n, L.length = n := ⟨_, rfl⟩
  rw [hn] at e1
  rw [hnL] at e2
  subst e1 e2
  obtain ⟨PS, hPS⟩ : ∃ r, (if 10 < l.length then (⟨#[]⟩ : ByteArray) else ⟨(joinL l).toArray⟩) = r := ⟨_, rfl⟩
  obtain ⟨PE, hPE⟩ : ∃ r : Int, (if 10 < l.length then 2 else 0) = r := ⟨_, rfl⟩
  have hJr : (if 10 < l.length then Value.tuple #[.string ⟨#[]⟩, .int .i64 2] else .tuple #[.string ⟨(joinL l).toArray⟩, .int .i64 0]) = .tuple #[.string PS, .int .i64 PE] := by
    rw [← hPS, ← hPE]; split <;> rfl
  rw [hJr] at HJ
  have hJ0 : (if 10 < (List.replicate 11 ByteArray.empty).length then Value.tuple #[.string ⟨#[]⟩, .int .i64 2] else .tuple #[.string ⟨(joinL (List.replicate 11 ByteArray.empty)).toArray⟩, .int .i64 0]) = .tuple #[.string ⟨#[]⟩, .int .i64 2] := if_pos (by decide)
  rw [hJ0] at HJ0
  have hPs : PS.size ≤ 8388608 := by
    rw [← hPS]
    split
    · decide
    · show (joinL l).toArray.size ≤ _; rw [List.size_toArray]; omega
  have hlaw : PE = 0 → stepsP PS.data.toList = (0, l.map (·.data.toList)) := fun h => by
    have h10 : ¬ 10 < l.length := fun h9 => by rw [if_pos h9] at hPE; omega
    rw [← hPS, if_neg h10]
    show stepsP (joinL l) = _
    rw [joinL_map]
    exact steps_join _ (by rw [List.length_map]; omega)
  have HStP := Lib.hid (HSt.out PS hPs)
  obtain ⟨SR, hSR⟩ : ∃ r, stepsP PS.data.toList = r := ⟨_, rfl⟩
  rw [hSR] at HStP hlaw
  unfold StepsO at HStP
  have Hlaw := Lib.hid hlaw
  have Hn := Lib.hid hn
  rw [hn] at HT
  have HB0 := Lib.hid (Below.refl w.heap.size w)
  clear hlaw hSR hPs hPS hPE hJr hJ0 HSt hT1 hN1 hE1 hBL hbl hjl hv hL hE hbulk hok hmx htl hd hi0 hz0 hz1 hz2
  go_enter Tryz.func4, Tryz.ntmps4
  go_wp2_with fail
  refine HT.out.mono ?_
  rintro E w1 ⟨g1, rfl, hg1, hb1, hb⟩
  have HB1 := Lib.hid hb
  have HG1 := Lib.hid hb1
  have hlt1 : g1 < w1.heap.size := by
    rcases Nat.lt_or_ge g1 w1.heap.size with h1 | h1
    · exact h1
    · rw [Array.getElem?_eq_none h1] at hb1; cases hb1
  clear hb hb1 HT
  go_wp2_with fail
  refine (HC.out w1 HB1.out).mono ?_
  rintro E w2 ⟨sv, rfl, hsv, hb⟩
  have HB2 := Lib.hid (HB1.out.trans (hb.mono HB1.out.size))
  have HG2 := Lib.hid ((hb.block g1 hlt1).trans HG1.out)
  have hs2 := hb.size
  have HS2 := Lib.hid hsv
  have hform := hsv.form
  clear hb hsv HC HG1
  have hin : StrAt w2 (.slice (some ⟨g1, 0, none⟩) n (n + 2)) l := by
    rw [← Hn.out]
    refine .inr ⟨_, _, rfl, by omega, by unfold maxLen; omega, fun j x hx => ?_⟩
    rw [add_plain', Nat.zero_add, cell_block HG2.out j, List.getElem?_toArray]
    exact strs_get (by rw [List.getElem?_append_left (List.getElem?_eq_some_iff.1 hx).1]; exact hx)
  have HIn := Lib.hid hin
  clear hin
  rcases hform with ⟨rfl, hLn⟩ | ⟨gS, cS, rfl, hgS, hgS2, hcS, hcS2⟩
  · obtain rfl := hLn
    simp only [List.length_nil] at hnL
    subst hnL
    obtain ⟨gS, hgSe⟩ : ∃ g, g = w1.heap.size := ⟨_, rfl⟩
    have HSr2 := Lib.hid HS2.out.row
    go_wp2_with fail
    refine (HJ.out w2 _ HB2.out HIn.out).mono ?_
    rintro E w3 ⟨rfl, hb⟩
    have HB3 := Lib.hid (HB2.out.trans (hb.mono HB2.out.size))
    have hs3 := hb.size
    have HG3 := Lib.hid ((hb.block g1 (by omega)).trans HG2.out)
    have HS3 := Lib.hid (HS2.out.below flat_op.stays hb)
    have HSr3 := Lib.hid HS3.out.row
    clear hb HJ HIn HG2 HS2 HSr2
    go_wp2_with fail
    refine (HStP.out w3 HB3.out).mono ?_
    rintro E w4 ⟨av, rfl, ⟨al, hal, _⟩, hlo, hb⟩
    have HB4 := Lib.hid (HB3.out.trans (hb.mono HB3.out.size))
    have hs4 := hb.size
    have HG4 := Lib.hid ((hb.block g1 (by omega)).trans HG3.out)
    have HS4 := Lib.hid (HS3.out.below flat_op.stays hb)
    have HSr4 := Lib.hid HS4.out.row
    obtain ⟨aa, ac, ae, _, _⟩ := hal.len
    obtain ⟨an, han⟩ : ∃ m, al.length = m := ⟨_, rfl⟩
    rw [han] at ae
    subst ae
    have HLo4 := Lib.hid hlo
    clear hb hal hlo han HG3 HS3 HSr3
    have hmk := HM.out w4
    simp only [show (11 : Int).toNat = 11 from rfl, Nat.mul_one] at hmk
    have hb45 := (Below.refl w4.heap.size w4).alloc (Nat.le_refl _) (.cells (madeCells #[.string ByteArray.empty] 11) 9)
    have HZ := Lib.hid (zero_strs (heap_alloc_new w4 (.cells (madeCells #[.string ByteArray.empty] 11) 9)))
    have HJ2 := Lib.hid (HJ0.out (w4.alloc (.cells (madeCells #[.string ByteArray.empty] 11) 9)) _ (HB4.out.trans (hb45.mono HB4.out.size)) HZ.out)
    have HB45 := Lib.hid hb45
    clear hb45
    go_wp2_with fail
    refine HJ2.out.mono ?_
    rintro E w5 ⟨rfl, hb0⟩
    have hb := HB45.out.trans (hb0.mono HB45.out.size)
    have HB5 := Lib.hid (HB4.out.trans (hb.mono HB4.out.size))
    have hs5 := hb.size
    have HG5 := Lib.hid ((hb.block g1 (by omega)).trans HG4.out)
    have HS5 := Lib.hid (HS4.out.below flat_op.stays hb)
    have HSr5 := Lib.hid HS5.out.row
    have HLo5 := Lib.hid (HLo4.out.below hb)
    clear hb hb0 HJ2 HZ HB45 hmk HM HLo4 HG4 HS4 HSr4
    go_wp2_with fail
    refine (HA.out w5 _ HB5.out HSr5.out).mono ?_
    rintro E w6 ⟨rfl, hb⟩
    have HB6 := Lib.hid (HB5.out.trans (hb.mono HB5.out.size))
    have hs6 := hb.size
    have HG6 := Lib.hid ((hb.block g1 (by omega)).trans HG5.out)
    have HS6 := Lib.hid (HS5.out.below flat_op.stays hb)
    have HSr6 := Lib.hid HS6.out.row
    have HLo6 := Lib.hid (HLo5.out.below hb)
    clear hb HA HLo5 HG5 HS5 HSr5
    go_wp2_with fail
    refine (HI.out w6 _ HB6.out HSr6.out).mono ?_
    rintro E w7 ⟨bv, rfl, hbv, hbw, hb⟩
    have HB7 := Lib.hid (HB6.out.trans (hb.mono HB6.out.size))
    have hs7 := hb.size
    have HG7 := Lib.hid ((hb.block g1 (by omega)).trans HG6.out)
    have HS7 := Lib.hid (HS6.out.below flat_op.stays hb)
    have HSr7 := Lib.hid HS7.out.row
    have HLo7 := Lib.hid (HLo6.out.below hb)
    have HBv := Lib.hid hbv
    have HBw := Lib.hid hbw
    obtain ⟨ba, bc, be, _, _⟩ := hbv.len
    obtain ⟨bn, hbn⟩ : ∃ m, BL.length = m := ⟨_, rfl⟩
    rw [hbn] at be
    subst be
    clear hb HI HLo6 HG6 HS6 HSr6 hbv hbw
    go_wp2_with fail
    refine (HCb.out w7 _ HBv.out).mono ?_
    rintro E w8 ⟨hv2, rfl, hown, hb⟩
    have HB8 := Lib.hid (HB7.out.trans (hb.mono HB7.out.size))
    have hs8 := hb.size
    have HG8 := Lib.hid ((hb.block g1 (by omega)).trans HG7.out)
    have HS8 := Lib.hid (HS7.out.below flat_op.stays hb)
    have HSr8 := Lib.hid HS8.out.row
    have HLo8 := Lib.hid (HLo7.out.below hb)
    have HBv8 := Lib.hid (HBv.out.below stays_op hb)
    have HH8 := Lib.hid hown
    obtain ⟨ha, hc, he, _, _⟩ := hown.row.len
    rw [hbn] at he
    subst he
    clear hb HLo7 HG7 HS7 HSr7 hown HBv HSr8
    go_wp2_with fail
    go_loopg [55] 0 (fun k u55 wr => k = 0 ∧ u55 = .int .i64 0 ∧ w8 = wr)
    case atStart => exact ⟨rfl, rfl, rfl⟩
    case round =>
      obtain ⟨rfl, rfl, rfl⟩ := hrel
      obtain ⟨wr, hwr⟩ : ∃ wr, wr = w8 := ⟨_, rfl⟩
      have HBut : Hid (But w8.heap.size w8 wr) := Lib.hid (by rw [hwr]; exact But.refl _ _)
      rw [← hwr]
      clear hwr
      have hs1 := HB1.out.size
      have hsz8 := HB8.out.size
      have HB9 : Hid (Below w.heap.size w wr) := Lib.hid (HBut.out.below HB8.out HB8.out.size (by omega))
      have HG9 := Lib.hid (HBut.out.keep HG8.out (by omega))
      have hs9 := HBut.out.size
      have HBv9 := Lib.hid (HBv8.out.but flat_op HBut.out (fun q hq => by have := HBw.out q hq; omega) (by decide))
      have HH9 := Lib.hid (HH8.out.but flat_op HBut.out (fun q hq => by have := HH8.out.at hq; omega))
      have HLo9 := Lib.hid (HLo8.out.butOut HBut.out)
      clear HBut HG8 HBv8 HH8 HLo8 HS8
      have HKe := Lib.hid (HK.out wr g1 HB9.out HG9.out)
      rw [Hn.out] at HKe
      go_wp2_with fail
      refine HKe.out.mono ?_
      rintro E wq ⟨rfl, rfl⟩
      clear HKe HK
      go_wp2_with fail
      refine (HEq.out wr _ _ HBv9.out HH9.out.row).mono ?_
      rintro E w10 ⟨rfl, hb⟩
      have HB10 := Lib.hid (HB9.out.trans (hb.mono HB9.out.size))
      have HLo10 := Lib.hid (HLo9.out.below hb)
      have hs10 := hb.size
      clear hb HEq HBv9 HH9 HLo9 HG9
      go_wp2_with fail
      refine (spoil_any HLo10.out (by omega)).mono ?_
      rintro E w11 ⟨rfl, ga, hga, hbut⟩
      have HB11 : Hid (Below w.heap.size w w11) := Lib.hid (hbut.below HB10.out HB10.out.size (by have := HB3.out.size; omega))
      clear hbut HLo10
      go_wp2_with fail
      refine (HStP.out w11 HB11.out).mono ?_
      rintro E w12 ⟨bv2, rfl, ⟨bl, hbl, hbd⟩, _, hb⟩
      have HB12 := Lib.hid (HB11.out.trans (hb.mono HB11.out.size))
      obtain ⟨b3a, b3c, b3e, _, _⟩ := hbl.len
      obtain ⟨b3n, hb3n⟩ : ∃ m, bl.length = m := ⟨_, rfl⟩
      rw [hb3n] at b3e
      subst b3e
      clear hb HStP
      by_cases hp : PE = 0
      · have hsr := Hlaw.out hp
        rw [hsr] at hbd
        obtain rfl : bl = l := data_inj hbd
        have HEn := Lib.hid (HEs.out w12 _ HB12.out hbl)
        have r1 : SR.1 = 0 := by rw [hsr]
        subst hp
        clear hsr hbd hbl HEs hb3n
        rw [r1]
        clear r1
        go_wp2_with fail
        refine HEn.out.mono ?_
        rintro E w13 ⟨rfl, rfl⟩
        go_wp2_with fail
        go_ret
        exact ⟨rfl, HB12.out⟩
      · have q9 : (PE != 0) = true := by rw [bne_iff_ne]; exact hp
        clear hp hbd hbl HEs hb3n Hlaw
        go_wp2_with fail
        go_ret
        exact ⟨rfl, HB12.out⟩
  · skip
    rw [hnL] at HS2 hcS ⊢
    have hnLb : nL ≤ 1048576 := by omega
    have HnL := Lib.hid hnL
    clear hnL
    have HSr2 := Lib.hid HS2.out.row
    go_wp2_with fail
    refine (HJ.out w2 _ HB2.out HIn.out).mono ?_
    rintro E w3 ⟨rfl, hb⟩
    have HB3 := Lib.hid (HB2.out.trans (hb.mono HB2.out.size))
    have hs3 := hb.size
    have HG3 := Lib.hid ((hb.block g1 (by omega)).trans HG2.out)
    have HS3 := Lib.hid (HS2.out.below flat_op.stays hb)
    have HSr3 := Lib.hid HS3.out.row
    clear hb HJ HIn HG2 HS2 HSr2
    go_wp2_with fail
    refine (HStP.out w3 HB3.out).mono ?_
    rintro E w4 ⟨av, rfl, ⟨al, hal, _⟩, hlo, hb⟩
    have HB4 := Lib.hid (HB3.out.trans (hb.mono HB3.out.size))
    have hs4 := hb.size
    have HG4 := Lib.hid ((hb.block g1 (by omega)).trans HG3.out)
    have HS4 := Lib.hid (HS3.out.below flat_op.stays hb)
    have HSr4 := Lib.hid HS4.out.row
    obtain ⟨aa, ac, ae, _, _⟩ := hal.len
    obtain ⟨an, han⟩ : ∃ m, al.length = m := ⟨_, rfl⟩
    rw [han] at ae
    subst ae
    have HLo4 := Lib.hid hlo
    clear hb hal hlo han HG3 HS3 HSr3
    have hmk := HM.out w4
    simp only [show (11 : Int).toNat = 11 from rfl, Nat.mul_one] at hmk
    have hb45 := (Below.refl w4.heap.size w4).alloc (Nat.le_refl _) (.cells (madeCells #[.string ByteArray.empty] 11) 9)
    have HZ := Lib.hid (zero_strs (heap_alloc_new w4 (.cells (madeCells #[.string ByteArray.empty] 11) 9)))
    have HJ2 := Lib.hid (HJ0.out (w4.alloc (.cells (madeCells #[.string ByteArray.empty] 11) 9)) _ (HB4.out.trans (hb45.mono HB4.out.size)) HZ.out)
    have HB45 := Lib.hid hb45
    clear hb45
    go_wp2_with fail
    refine HJ2.out.mono ?_
    rintro E w5 ⟨rfl, hb0⟩
    have hb := HB45.out.trans (hb0.mono HB45.out.size)
    have HB5 := Lib.hid (HB4.out.trans (hb.mono HB4.out.size))
    have hs5 := hb.size
    have HG5 := Lib.hid ((hb.block g1 (by omega)).trans HG4.out)
    have HS5 := Lib.hid (HS4.out.below flat_op.stays hb)
    have HSr5 := Lib.hid HS5.out.row
    have HLo5 := Lib.hid (HLo4.out.below hb)
    clear hb hb0 HJ2 HZ HB45 hmk HM HLo4 HG4 HS4 HSr4
    go_wp2_with fail
    refine (HA.out w5 _ HB5.out HSr5.out).mono ?_
    rintro E w6 ⟨rfl, hb⟩
    have HB6 := Lib.hid (HB5.out.trans (hb.mono HB5.out.size))
    have hs6 := hb.size
    have HG6 := Lib.hid ((hb.block g1 (by omega)).trans HG5.out)
    have HS6 := Lib.hid (HS5.out.below flat_op.stays hb)
    have HSr6 := Lib.hid HS6.out.row
    have HLo6 := Lib.hid (HLo5.out.below hb)
    clear hb HA HLo5 HG5 HS5 HSr5
    go_wp2_with fail
    refine (HI.out w6 _ HB6.out HSr6.out).mono ?_
    rintro E w7 ⟨bv, rfl, hbv, hbw, hb⟩
    have HB7 := Lib.hid (HB6.out.trans (hb.mono HB6.out.size))
    have hs7 := hb.size
    have HG7 := Lib.hid ((hb.block g1 (by omega)).trans HG6.out)
    have HS7 := Lib.hid (HS6.out.below flat_op.stays hb)
    have HSr7 := Lib.hid HS7.out.row
    have HLo7 := Lib.hid (HLo6.out.below hb)
    have HBv := Lib.hid hbv
    have HBw := Lib.hid hbw
    obtain ⟨ba, bc, be, _, _⟩ := hbv.len
    obtain ⟨bn, hbn⟩ : ∃ m, BL.length = m := ⟨_, rfl⟩
    rw [hbn] at be
    subst be
    clear hb HI HLo6 HG6 HS6 HSr6 hbv hbw
    go_wp2_with fail
    refine (HCb.out w7 _ HBv.out).mono ?_
    rintro E w8 ⟨hv2, rfl, hown, hb⟩
    have HB8 := Lib.hid (HB7.out.trans (hb.mono HB7.out.size))
    have hs8 := hb.size
    have HG8 := Lib.hid ((hb.block g1 (by omega)).trans HG7.out)
    have HS8 := Lib.hid (HS7.out.below flat_op.stays hb)
    have HSr8 := Lib.hid HS8.out.row
    have HLo8 := Lib.hid (HLo7.out.below hb)
    have HBv8 := Lib.hid (HBv.out.below stays_op hb)
    have HH8 := Lib.hid hown
    obtain ⟨ha, hc, he, _, _⟩ := hown.row.len
    rw [hbn] at he
    subst he
    clear hb HLo7 HG7 HS7 HSr7 hown HBv HSr8
    go_wp2_with fail
    go_loopg [55] nL (fun k u55 wr => ∃ i : Nat, i + k = nL ∧ u55 = .int .i64 (i : Int) ∧ Hid (But gS w8 wr) ∧ Hid (∃ S : List GOp, S.length = nL ∧ OwnAt OpR 4 wr w1.heap.size 52 (.slice (some ⟨gS, 0, none⟩) nL cS) S))
    case atStart => exact ⟨0, by omega, rfl, Lib.hid (But.refl _ _), Lib.hid ⟨L, HnL.out, HS8.out⟩⟩
    case round =>
      obtain ⟨i, hig, rfl, Hbut, Hrow⟩ := hrel
      cases gk with
      | succ k =>
        obtain ⟨S, hSl, hS⟩ := Hrow.out
        have hiS : i < nL := by omega
        have q1 : (0 : Int) ≤ (i : Int) := by omega
        have q2 : (i : Int) < (nL : Int) := by omega
        have hthere := hS.there (o := i * 4) (m := 4) (by omega)
        obtain ⟨hnew, htouch⟩ := hS.storeElem flat_op (i := i) (by omega) (cs := [.int .i64 0, .string ⟨#[]⟩, .string ⟨#[]⟩, .string ⟨#[]⟩]) rfl (x := ⟨0, ⟨#[]⟩, ⟨#[]⟩, ⟨#[]⟩⟩) ⟨rfl, by decide⟩
        have Hnew := Lib.hid hnew
        have Htouch := Lib.hid htouch
        have HSl : Hid ((S.set i (⟨0, ⟨#[]⟩, ⟨#[]⟩, ⟨#[]⟩⟩ : GOp)).length = nL) := Lib.hid (by rw [List.length_set, hSl])
        clear hnew htouch hSl hS Hrow
        go_upto_region 13 with fail
        iterate 13 go_step
        refine wpList_store_mid (by rfl) _ _ _ (by rfl) gS (i * 4) #[.int .i64 0, .string ⟨#[]⟩, .string ⟨#[]⟩, .string ⟨#[]⟩] (by rfl) (by rfl) hthere Tryz.sizeOp (by simp [Value.oneCell']) ?_
        obtain ⟨wz, Hwz⟩ : ∃ wz, Hid (wr.setCells gS (i * 4) [.int .i64 0, .string ⟨#[]⟩, .string ⟨#[]⟩, .string ⟨#[]⟩] = wz) := ⟨_, Lib.hid rfl⟩
        have hnew4 := Hnew.out
        have ht4 := Htouch.out
        rw [Hwz.out] at hnew4 ht4
        have Hnew4 := Lib.hid hnew4
        have Htouch4 := Lib.hid ht4
        have hwz : wr.setCells gS (i * 4) (#[.int .i64 0, .string ⟨#[]⟩, .string ⟨#[]⟩, .string ⟨#[]⟩] : Array Value).toList = wz := Hwz.out
        rw [hwz]
        clear hnew4 ht4 hwz hthere Hwz Hnew Htouch
        go_wp2_with fail
        go_roundg k
        case measure => omega
        case rel => exact ⟨i + 1, by omega, by go_num, Lib.hid (Hbut.out.trans (But.touch Htouch4.out)), Lib.hid ⟨_, HSl.out, Hnew4.out⟩⟩
      | zero =>
        obtain rfl : i = nL := by omega
        have HBut := Hbut
        clear Hrow
        have hs1 := HB1.out.size
        have hsz8 := HB8.out.size
        have HB9 : Hid (Below w.heap.size w wr) := Lib.hid (HBut.out.below HB8.out HB8.out.size (by omega))
        have HG9 := Lib.hid (HBut.out.keep HG8.out (by omega))
        have hs9 := HBut.out.size
        have HBv9 := Lib.hid (HBv8.out.but flat_op HBut.out (fun q hq => by have := HBw.out q hq; omega) (by decide))
        have HH9 := Lib.hid (HH8.out.but flat_op HBut.out (fun q hq => by have := HH8.out.at hq; omega))
        have HLo9 := Lib.hid (HLo8.out.but HBut.out (by omega))
        clear HBut HG8 HBv8 HH8 HLo8 HS8
        have HKe := Lib.hid (HK.out wr g1 HB9.out HG9.out)
        rw [Hn.out] at HKe
        go_wp2_with fail
        refine HKe.out.mono ?_
        rintro E wq ⟨rfl, rfl⟩
        clear HKe HK
        go_wp2_with fail
        refine (HEq.out wr _ _ HBv9.out HH9.out.row).mono ?_
        rintro E w10 ⟨rfl, hb⟩
        have HB10 := Lib.hid (HB9.out.trans (hb.mono HB9.out.size))
        have HLo10 := Lib.hid (HLo9.out.below hb)
        have hs10 := hb.size
        clear hb HEq HBv9 HH9 HLo9 HG9
        go_wp2_with fail
        refine (spoil_any HLo10.out (by omega)).mono ?_
        rintro E w11 ⟨rfl, ga, hga, hbut⟩
        have HB11 : Hid (Below w.heap.size w w11) := Lib.hid (hbut.below HB10.out HB10.out.size (by have := HB3.out.size; omega))
        clear hbut HLo10
        go_wp2_with fail
        refine (HStP.out w11 HB11.out).mono ?_
        rintro E w12 ⟨bv2, rfl, ⟨bl, hbl, hbd⟩, _, hb⟩
        have HB12 := Lib.hid (HB11.out.trans (hb.mono HB11.out.size))
        obtain ⟨b3a, b3c, b3e, _, _⟩ := hbl.len
        obtain ⟨b3n, hb3n⟩ : ∃ m, bl.length = m := ⟨_, rfl⟩
        rw [hb3n] at b3e
        subst b3e
        clear hb HStP
        by_cases hp : PE = 0
        · have hsr := Hlaw.out hp
          rw [hsr] at hbd
          obtain rfl : bl = l := data_inj hbd
          have HEn := Lib.hid (HEs.out w12 _ HB12.out hbl)
          have r1 : SR.1 = 0 := by rw [hsr]
          subst hp
          clear hsr hbd hbl HEs hb3n
          rw [r1]
          clear r1
          go_wp2_with fail
          refine HEn.out.mono ?_
          rintro E w13 ⟨rfl, rfl⟩
          go_wp2_with fail
          go_ret
          exact ⟨rfl, HB12.out⟩
        · have q9 : (PE != 0) = true := by rw [bne_iff_ne]; exact hp
          clear hp hbd hbl HEs hb3n Hlaw
          go_wp2_with fail
          go_ret
          exact ⟨rfl, HB12.out⟩
end Go.Proofs.YtlbolbkikkiifaaGreatDoor
