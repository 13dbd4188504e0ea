/- Texts of ours joined. -/
import Derived.Deep.LoopGhost
import Derived.IntWalk
import Derived.Deep.DeepCutAuto
import Derived.Lib.AppendIntMem
import Derived.Shelf.SlLaysF0
import Derived.Shelf.Small.Strs
import Derived.Test.YtnmhjabihfhobaaGreatDoorProg
import Derived.Shelf.SlSortCmp.NoneTotal
import Derived.Test.YtnmhjabihfhobaaGreatDoorMt8
set_option linter.unusedVariables false
set_option linter.unusedSimpArgs false
namespace Go.Proofs.YtnmhjabihfhobaaGreatDoor
open Go.RowKit
open JP (JV Bs)
namespace Sch
/-- the counter lies there -/
def CameAt (gc : Nat) (c : Nat) (w : World) : Prop := w.heap[gc]? = some (.cells #[.int .i64 (c : Int)] 3 (0, 0))
theorem fold_take {S : List GPart} {F : List GField} {j : Nat} {f : GField} (h : F[j]? = some f) (st : Flds × Nat) : (F.take (j + 1)).foldl (fillStepC S) st = fillStepC S ((F.take j).foldl (fillStepC S) st) f := by
  rw [List.take_add_one, h, Option.toList_some, List.foldl_append]; rfl
set_option maxRecDepth 100000 in
set_option maxHeartbeats 12800000 in
theorem makes_fill {S : List GPart} {sa : Option Addr} {sn sc : Nat} {w0 : World} (hgood : GoodS S) (hlies : Lies S (.slice sa sn sc) w0) (gs gc : Nat) (hgs : w0.heap[gs]? = some (.cells #[.slice sa sn sc] 38 (0, 0))) (hgc : w0.heap.size ≤ gc) :
    Makes S w0 [gc] (fillC S) (CameAt gc) potC (fun c => c ≤ 1099511627776) 48 #[.pointer (some ⟨gs, 0, none⟩), .pointer (some ⟨gc, 0, none⟩)] := by
  intro i p b0 o0 fa fn fc na nn nc ea en ec T m q l c w hp hGT hT hob hI hz hgo hb
  have hgp := hgood.2.2 i p hp.at_
  have hd200 : ∀ k, (partAt S k).deflt ≠ ByteArray.empty → JP.size (dfl S k) ≤ 200 := fun k h => (text_dfl hgood k h).2.1
  have hfn : p.fields.length = fn := hp.fl
  have hfn8 : fn ≤ 8 := by have := hgp.few.1; omega
  have hgcT : gc ∈ T := hGT gc (List.mem_singleton.2 rfl)
  obtain ⟨w1, hw1⟩ : ∃ w1, w1 = w.alloc (.cells #[.int .i64 p.kind, .slice fa fn fc, .slice na nn nc, .bool p.extra, .int .i64 p.items, .int .i64 p.least, .int .i64 p.most, .slice ea en ec, .string p.deflt] 73) := ⟨_, rfl⟩
  have hb1 : Below w.heap.size w w1 := by rw [hw1]; exact (Below.refl _ w).alloc (Nat.le_refl _) _
  obtain ⟨gp, hgp9⟩ : ∃ gp, gp = w.heap.size := ⟨_, rfl⟩
  have hbox : w1.heap[gp]? = some (.cells #[.int .i64 p.kind, .slice fa fn fc, .slice na nn nc, .bool p.extra, .int .i64 p.items, .int .i64 p.least, .int .i64 p.most, .slice ea en ec, .string p.deflt] 73 (0, 0)) := by rw [hw1, hgp9]; exact heap_alloc_new w _
  have BX := Lib.hid hbox
  have HGp := Lib.hid hgp
  have HP := Lib.hid hp
  have HT := Lib.hid hT
  have HgT := Lib.hid hgcT
  have HLies := Lib.hid hlies
  have HGood := Lib.hid hgood
  have HGs := Lib.hid hgs
  have Hd200 := Lib.hid hd200
  have Hfn := Lib.hid hfn
  have Hz := Lib.hid hz
  have HO1 := Lib.hid (hob.keepJ (KeepT.of hb1))
  have HI1 : Hid (CameAt gc c w1) := Lib.hid (below_block hb1 hI)
  have HB1 := Lib.hid (hb.trans (hb1.mono hb.size))
  have HK1 : Hid (KeepT [gc] w w1) := Lib.hid (KeepT.of hb1)
  have hgcw : gc < w1.heap.size := by have := blk_lt hI; have := hb1.size; omega
  have e9 : #[Value.agg #[.int .i64 p.kind, .slice fa fn fc, .slice na nn nc, .bool p.extra, .int .i64 p.items, .int .i64 p.least, .int .i64 p.most, .slice ea en ec, .string p.deflt], .pointer (some ⟨q, 0, none⟩)] ++ #[.pointer (some ⟨gs, 0, none⟩), .pointer (some ⟨gc, 0, none⟩)] = #[Value.agg #[.int .i64 p.kind, .slice fa fn fc, .slice na nn nc, .bool p.extra, .int .i64 p.items, .int .i64 p.least, .int .i64 p.most, .slice ea en ec, .string p.deflt], .pointer (some ⟨q, 0, none⟩), .pointer (some ⟨gs, 0, none⟩), .pointer (some ⟨gc, 0, none⟩)] := rfl
  rw [e9]
  obtain ⟨RES, hRES⟩ : ∃ r, fillC S p l c = r := ⟨_, rfl⟩
  rw [hRES] at hgo ⊢
  have HRES : Hid (p.fields.foldl (fillStepC S) (l, c) = RES) := Lib.hid hRES
  have hup : ∀ j, ((p.fields.take j).foldl (fillStepC S) (l, c)).2 ≤ 1099511627776 := fun j => by
    have h1 := (foldC_up S (p.fields.drop j) ((p.fields.take j).foldl (fillStepC S) (l, c))).1
    rw [← List.foldl_append, List.take_append_drop] at h1
    rw [HRES.out] at h1
    omega
  have Hup := Lib.hid hup
  clear e9 hgp hd200 hfn hgcT hb1 hbox hp hGT hT hob hI hz hgo hb hRES hup hlies hgood hgs
  go_enter Tryz.func48, Tryz.ntmps48
  go_upto_region 1 with fail
  rw [← hw1]
  rw [← hgp9]
  clear hw1 hgp9
  have cc := fun i => cell_block BX.out i
  go_wp2_with fail
  clear cc
  go_loopg [1, 16] fn (fun k u1 u16 wr => ∃ (j q' mm : Nat) (st : Flds × Nat), j + k = fn ∧ u1 = .pointer (some ⟨q', 0, none⟩) ∧ u16 = .int .i64 (j : Int) ∧ Hid (st = (p.fields.take j).foldl (fillStepC S) (l, c)) ∧ Hid (ObR (JvR mm T) T wr q' st.1) ∧ Hid (CameAt gc st.2 wr) ∧ Hid (KeepT [gc] w wr) ∧ Hid (Below w0.heap.size w0 wr) ∧ Hid (w1.heap.size ≤ wr.heap.size))
  case atStart => exact ⟨0, q, m, (l, c), by omega, rfl, rfl, Lib.hid rfl, HO1, HI1, HK1, HB1, Lib.hid (Nat.le_refl _)⟩
  case round =>
    clear HO1 HI1 HK1 HB1
    obtain ⟨j, q', mm, st, hjk, rfl, rfl, Hst, HO, HI, HK, HB, HZ⟩ := hrel
    cases gk with
    | zero =>
      have hjl : fn = j := by omega
      subst hjl
      have q9 : ¬ (fn : Int) < (fn : Int) := by omega
      have hst := Hst.out
      rw [List.take_of_length_le (by rw [Hfn.out]; exact Nat.le_refl _), HRES.out] at hst
      have HM : Hid (MadeO w0 [gc] T (CameAt gc) RES.1 RES.2 w (.returned (.pointer (some ⟨q', 0, none⟩))) wr) := Lib.hid ⟨q', mm, rfl, by rw [← hst]; exact HO.out, by rw [← hst]; exact HI.out, HK.out, HB.out⟩
      clear hst HO HI HK HB
      go_wp2_with fail
      go_ret
      exact HM.out
    | succ k =>
      have hjl : j < fn := by omega
      obtain ⟨f, hf⟩ : ∃ f, p.fields[j]? = some f := ⟨p.fields[j]'(by rw [Hfn.out]; exact hjl), List.getElem?_eq_getElem _⟩
      obtain ⟨bk, ok, ck, hv1, _, _, hbs1, hcell1⟩ := HP.out.fields.form (by rw [Hfn.out]; omega) (by omega)
      injection hv1 with u1 u2 u3
      subst u1
      clear u2 u3
      obtain ⟨ds1, _, hcc1, hds1, _⟩ := hcell1 j f hf
      subst hds1
      have e0 : wr.cell? ⟨bk, ok + j * 2, none⟩ = some (.string f.name) := (HB.out.cell (p := ⟨bk, _, none⟩) hbs1).trans (by simpa using hcc1 0 _ rfl)
      have e1 : wr.cell? ⟨bk, ok + j * 2 + 1, none⟩ = some (.int .i64 f.part) := (HB.out.cell (p := ⟨bk, _, none⟩) hbs1).trans (hcc1 1 _ rfl)
      have q1 : (0 : Int) ≤ (j : Int) := by omega
      have q2 : (j : Int) < (fn : Int) := by omega
      have hps := HGp.out.parts f (List.mem_of_getElem? hf)
      have hft := fold_take (S := S) hf (l, c)
      rw [← Hst.out] at hft
      obtain ⟨pn, hpn⟩ : ∃ pn : Nat, f.part = (pn : Int) := ⟨f.part.toNat, by omega⟩
      rw [hpn] at e1 hps
      have hpl : pn < S.length := by omega
      obtain ⟨b2, o2, p2, fa2, fn2, fc2, na2, nn2, nc2, ea2, en2, ec2, hsa, hsn9, hp2⟩ := HLies.out.part hpl
      have q3 : (0 : Int) ≤ (pn : Int) := by omega
      have q4 : (pn : Int) < (sn : Int) := by omega
      have hpa : partAt S f.part = p2 := by rw [hpn]; exact partAt_of hp2.at_
      have hds := (HLies.out.small p2 (List.mem_of_getElem? hp2.at_)).2.2.2.2
      obtain ⟨DV, hDV⟩ : ∃ v, dfl S f.part = v := ⟨_, rfl⟩
      have hdf : (JP.readL p2.deflt.data.toList).1 = DV := by rw [← hDV]; unfold dfl; rw [hpa]
      have hsk : skips S st.1 f = ((JP.get f.name.data.toList st.1).isSome || decide (p2.deflt = ByteArray.empty)) := by unfold skips hasN; rw [hpa]
      have hszl : JP.sizeF st.1 + potC st.2 ≤ 1000000 := by
        have h1 : JP.sizeF st.1 + potC st.2 ≤ JP.sizeF l + potC c := by
          have h3 := foldC_size Hd200.out (p.fields.take j) (l, c)
          rw [← Hst.out] at h3
          exact h3
        have h2 := Hz.out
        omega
      have hlen : st.1.length ≤ 1000000 := by have := JP.sizeF_long st.1; omega
      have hupj := Hup.out j
      rw [← Hst.out] at hupj
      obtain ⟨L, C, rfl⟩ : ∃ L C, st = (L, C) := ⟨st.1, st.2, rfl⟩
      dsimp only at hsk hlen hupj hszl
      have hst9 : fillStepC S (L, C) f = if skips S L f = true then (L, C) else (if C + 1 ≤ 1000 then JP.put f.name.data.toList (dfl S f.part) L else L, C + 1) := rfl
      rw [hDV, hsk] at hst9
      obtain ⟨NX, hNX⟩ : ∃ x, fillStepC S (L, C) f = x := ⟨_, rfl⟩
      rw [hNX] at hft hst9
      -- the box of the field
      obtain ⟨w5, hw5⟩ : ∃ w5, w5 = wr.alloc (.cells #[.string f.name, .int .i64 (pn : Int)] 89) := ⟨_, rfl⟩
      obtain ⟨gf, hgf⟩ : ∃ gf, gf = wr.heap.size := ⟨_, rfl⟩
      have b5 : w5.heap[gf]? = some (.cells #[.string f.name, .int .i64 (pn : Int)] 89 (0, 0)) := by rw [hw5, hgf]; exact heap_alloc_new wr _
      have hb5 : Below wr.heap.size wr w5 := by rw [hw5]; exact (Below.refl _ _).alloc (Nat.le_refl _) _
      have ho5 := HO.out.keepJ (KeepT.of hb5)
      have HG := get_any (x := f.name.data.toList) ho5 (by show L.length ≤ _; omega)
      rw [mkB_of] at HG
      obtain ⟨GO, hGO⟩ : ∃ g, JP.get f.name.data.toList L = g := ⟨_, rfl⟩
      have hGO' : JP.get f.name.data.toList (L, C).1 = GO := hGO
      rw [hGO'] at HG
      rw [hGO] at hst9
      have HG := Lib.hid HG
      have HO5 := Lib.hid ho5
      have HI5 : Hid (CameAt gc C w5) := Lib.hid (below_block hb5 HI.out)
      have HK5 := Lib.hid (HK.out.trans (KeepT.of hb5))
      have HB5 := Lib.hid (HB.out.trans (hb5.mono HB.out.size))
      have HZ5 : Hid (w1.heap.size ≤ w5.heap.size) := Lib.hid (Nat.le_trans HZ.out hb5.size)
      have F5 := Lib.hid b5
      have ngf : gf ≠ gc := by have := HZ.out; omega
      have Hft := Lib.hid hft
      have HNXe := Lib.hid hst9
      have HP2 := Lib.hid hp2
      have Hhs := Lib.hid hdf
      have Hds := Lib.hid hds
      have dd := fun i => cell_block b5 i
      subst hsa
      clear hcell1 hcc1 hbs1 hf hps hft hpn hpl hsn9 hp2 hpa hds hDV hdf hsk hszl hst9 hNX b5 hb5 ho5 hGO hGO' HO HI HK HB HZ Hst
      go_upto_region 4 with fail
      rw [← hw5, ← hgf]
      clear hw5 hgf e0 e1 q1 q2
      go_wp2_with fail
      refine HG.out.mono ?_
      rintro E w6 ⟨vg, rfl, _, _, kd, rfl⟩
      have hbd := below_drewG w5.heap.size w5 kd
      obtain ⟨w7, hw7⟩ : ∃ u, w5.drewN kd = u := ⟨_, rfl⟩
      rw [hw7] at hbd ⊢
      have HO7 := Lib.hid (HO5.out.keepJ (KeepT.of hbd))
      have HI7 : Hid (CameAt gc C w7) := Lib.hid (below_block hbd HI5.out)
      have HK7 := Lib.hid (HK5.out.trans (KeepT.of hbd))
      have HB7 := Lib.hid (HB5.out.trans (hbd.mono HB5.out.size))
      have HZ7 : Hid (w1.heap.size ≤ w7.heap.size) := Lib.hid (Nat.le_trans HZ5.out hbd.size)
      have F7 := Lib.hid (below_block hbd F5.out)
      clear dd hbd hw7 HG HO5 HI5 HK5 HB5 HZ5 F5
      have dd := fun i => cell_block F7.out i
      have s0 : w7.cell? ⟨gs, 0, none⟩ = some (.slice (some ⟨b2, o2, none⟩) sn sc) := (HB7.out.cell (p := ⟨gs, _, none⟩) (blk_lt HGs.out)).trans (cell_block HGs.out 0)
      have s8 : w7.cell? ⟨b2, o2 + pn * 9 + 8, none⟩ = some (.string p2.deflt) := (HB7.out.cell (p := ⟨b2, _, none⟩) HP2.out.blk).trans HP2.out.c8
      have skip : (GO.isSome || decide (p2.deflt = ByteArray.empty)) = true → Hid ((L, C) = (p.fields.take (j + 1)).foldl (fillStepC S) (l, c)) := fun h => Lib.hid (by rw [Hft.out, HNXe.out, if_pos h])
      cases GO with
      | some z =>
        have Hst2 := skip rfl
        clear skip
        go_wp2_with fail
        go_roundg k
        case measure => omega
        case rel => exact ⟨j + 1, q', mm, (L, C), by omega, rfl, by go_num, Hst2, HO7, HI7, HK7, HB7, HZ7⟩
      | none =>
        by_cases hd : p2.deflt = ByteArray.empty
        · have t1 : p2.deflt.toList = [] := by rw [hd, ByteArray.toList_eq]; rfl
          have t2 : p2.deflt.toList.isEmpty = true := by rw [t1]; rfl
          have Hst2 := skip (by rw [hd]; rfl)
          clear skip hd
          go_wp2_with fail
          go_roundg k
          case measure => omega
          case rel => exact ⟨j + 1, q', mm, (L, C), by omega, rfl, by go_num, Hst2, HO7, HI7, HK7, HB7, HZ7⟩
        · have t1 : p2.deflt.toList.isEmpty = false := by
            cases h : p2.deflt.toList with
            | nil => exact absurd (toList_inj (h.trans (show ([] : List UInt8) = ByteArray.empty.toList by rw [ByteArray.toList_eq]; rfl))) hd
            | cons _ _ => rfl
          have t2 : (!p2.deflt.toList.isEmpty) = true := by rw [t1]; rfl
          have hns : ¬ (((none : Option JV).isSome || decide (p2.deflt = ByteArray.empty)) = true) := by rw [decide_eq_false hd]; simp
          have hnx := HNXe.out
          rw [if_neg hns] at hnx
          have Hnx := Lib.hid hnx
          have c0 : w7.cell? ⟨gc, 0, none⟩ = some (.int .i64 (C : Int)) := cell_block HI7.out 0
          have z0 : w7.frozen? ⟨gc, 0, none⟩ = false := free_block HI7.out 0
          obtain ⟨w8, hw8⟩ : ∃ w8, w8 = w7.setCell ⟨gc, 0, none⟩ (.int .i64 ((C : Int) + 1)) := ⟨_, rfl⟩
          obtain ⟨t81, t82⟩ := touch_setCell (i := 0) (v := .int .i64 ((C : Int) + 1)) HI7.out
          rw [← hw8] at t81 t82
          have hi8 : w8.heap[gc]? = some (.cells #[.int .i64 ((C + 1 : Nat) : Int)] 3 (0, 0)) := t81
          have HI8 : Hid (CameAt gc (C + 1) w8) := Lib.hid hi8
          have HO8 := Lib.hid (HO7.out.keepJ (KeepT.touch t82 HgT.out))
          have HK8 : Hid (KeepT [gc] w w8) := Lib.hid (HK7.out.trans (KeepT.touch t82 (List.mem_singleton.2 rfl)))
          have HB8 := Lib.hid (t82.below HB7.out hgc)
          have HZ8 : Hid (w1.heap.size ≤ w8.heap.size) := Lib.hid (by rw [t82.size]; exact HZ7.out)
          have F8 := Lib.hid (t82.block F7.out ngf)
          have c08 : w8.cell? ⟨gc, 0, none⟩ = some (.int .i64 ((C : Int) + 1)) := cell_block hi8 0
          clear skip hns hnx hd t81 t82 hi8 HI7 HO7 HK7 HB7 HZ7 F7
          go_upto_region 7 with fail
          rw [← hw8]
          clear hw8 c0 z0 s0 s8 dd t1 t2
          have dd := fun i => cell_block F8.out i
          have s0 : w8.cell? ⟨gs, 0, none⟩ = some (.slice (some ⟨b2, o2, none⟩) sn sc) := (HB8.out.cell (p := ⟨gs, _, none⟩) (blk_lt HGs.out)).trans (cell_block HGs.out 0)
          have s8 : w8.cell? ⟨b2, o2 + pn * 9 + 8, none⟩ = some (.string p2.deflt) := (HB8.out.cell (p := ⟨b2, _, none⟩) HP2.out.blk).trans HP2.out.c8
          by_cases hc : C + 1 ≤ 1000
          · have qc : (C : Int) + 1 ≤ 1000 := by omega
            have Hst2 : Hid ((JP.put f.name.data.toList DV L, C + 1) = (p.fields.take (j + 1)).foldl (fillStepC S) (l, c)) := Lib.hid (by rw [Hft.out, Hnx.out, if_pos hc])
            have HRd := Lib.hid (read_low p2.deflt w8 Hds.out)
            rw [Hhs.out] at HRd
            clear hc
            go_wp2_with fail
            refine HRd.out.mono ?_
            rintro E w9 ⟨v, rfl, ⟨nj, hj⟩, hb9⟩
            have hT8 : ∀ b ∈ T, b < w8.heap.size := fun b hb => by
              have h1 := HT.out b hb
              have h2 := HK8.out.size
              omega
            have hjT := hj T hT8
            have ho9 := (HO8.out.keepJ (KeepT.of hb9)).upsJ (Nat.le_max_left mm nj)
            have HW := with_any (x := f.name.data.toList) ho9 (hjT.ups (Nat.le_max_right mm nj)) (fun b hb => Nat.lt_of_lt_of_le (hT8 b hb) hb9.size) (by show L.length ≤ _; omega)
            rw [mkB_of] at HW
            have HW := Lib.hid HW
            have HI9 : Hid (CameAt gc (C + 1) w9) := Lib.hid (below_block hb9 HI8.out)
            have HK9 := Lib.hid (HK8.out.trans (KeepT.of hb9))
            have HB9 := Lib.hid (HB8.out.trans (hb9.mono HB8.out.size))
            have HZ9 : Hid (w1.heap.size ≤ w9.heap.size) := Lib.hid (Nat.le_trans HZ8.out hb9.size)
            have F9 := Lib.hid (below_block hb9 F8.out)
            clear dd hj hT8 hjT ho9 hb9 HRd HI8 HO8 HK8 HB8 HZ8 F8 s0 s8 c08
            have dd := fun i => cell_block F9.out i
            go_wp2_with fail
            refine HW.out.mono ?_
            rintro E w10 ⟨q10, rfl, ho10, hb10⟩
            have HO10 := Lib.hid ho10
            have HI10 : Hid (CameAt gc (C + 1) w10) := Lib.hid (below_block hb10 HI9.out)
            have HK10 := Lib.hid (HK9.out.trans (KeepT.of hb10))
            have HB10 := Lib.hid (HB9.out.trans (hb10.mono HB9.out.size))
            have HZ10 : Hid (w1.heap.size ≤ w10.heap.size) := Lib.hid (Nat.le_trans HZ9.out hb10.size)
            clear dd ho10 hb10 HW HI9 HK9 HB9 HZ9 F9
            go_wp2_with fail
            go_roundg k
            case measure => omega
            case rel => exact ⟨j + 1, q10, max mm nj, (JP.put f.name.data.toList DV L, C + 1), by omega, rfl, by go_num, Hst2, HO10, HI10, HK10, HB10, HZ10⟩
          · have qc : ¬ (C : Int) + 1 ≤ 1000 := by omega
            have Hst2 : Hid ((L, C + 1) = (p.fields.take (j + 1)).foldl (fillStepC S) (l, c)) := Lib.hid (by rw [Hft.out, Hnx.out, if_neg hc])
            clear hc
            go_wp2_with fail
            go_roundg k
            case measure => omega
            case rel => exact ⟨j + 1, q', mm, (L, C + 1), by omega, rfl, by go_num, Hst2, HO8, HI8, HK8, HB8, HZ8⟩
end Sch
end Go.Proofs.YtnmhjabihfhobaaGreatDoor
namespace Go.Proofs.YtnmhjabihfhobaaGreatDoor
open Go.RowKit
open JP (JV Bs)
namespace Sch
theorem fold_sameC (s : List GPart) : ∀ (F : List GField) (l : Flds) (c : Nat), (∀ f ∈ F, skips s l f = true) → F.foldl (fillStepC s) (l, c) = (l, c)
  | [], _, _, _ => rfl
  | f :: r, l, c, h => by
    have e : fillStepC s (l, c) f = (l, c) := by unfold fillStepC; rw [if_pos (h f (List.mem_cons_self ..))]
    rw [List.foldl_cons, e]
    exact fold_sameC s r l c fun g hg => h g (List.mem_cons_of_mem _ hg)
theorem mapC_id {α : Type} {f : α → Nat → α × Nat} : ∀ (l : List α) (c : Nat), (∀ x ∈ l, ∀ c, f x c = (x, c)) → mapC f l c = (l, c)
  | [], _, _ => rfl
  | x :: r, c, h => by
    rw [mapC, h x (List.mem_cons_self ..) c]
    dsimp only
    rw [mapC_id r c fun y hy => h y (List.mem_cons_of_mem _ hy)]
/-- filled again: nothing comes -/
theorem thru_again (s : List GPart) : ∀ (n : Nat) (p : GPart) (v : JV) (c : Nat), thruC s (fillC s) n p (fillV s n p v) c = (fillV s n p v, c)
  | 0, _, _, _ => rfl
  | n + 1, p, v, c => by
    have ih := thru_again s n
    unfold fillV at ih ⊢
    rw [thruV, thruC]
    by_cases hk : JP.kind v ≠ p.kind
    · rw [if_pos hk, if_pos hk]
    · rw [if_neg hk, kind_bodyT, if_neg hk]
      cases v with
      | list l =>
        have h := mapC_id (f := thruC s (fillC s) n (partAt s p.items)) (l.map (thruV s (fillO s) n (partAt s p.items))) c (fun x hx c => by
          obtain ⟨y, _, rfl⟩ := List.mem_map.1 hx
          exact ih _ y c)
        show (JV.list (mapC _ (l.map _) c).1, (mapC _ (l.map _) c).2) = _
        rw [h]; rfl
      | obj l =>
        have h0 : fillC s p ((fillO s p l).map (kidV p fun k => thruV s (fillO s) n (partAt s k))) c = ((fillO s p l).map (kidV p fun k => thruV s (fillO s) n (partAt s k)), c) := fold_sameC s _ _ _ fun f hf => by
          have h := fold_full s p.fields l f hf
          unfold skips hasN at h ⊢
          rw [get_mapK, Option.isSome_map]
          exact h
        have h := mapC_id (f := kidC p fun k => thruC s (fillC s) n (partAt s k)) ((fillO s p l).map (kidV p fun k => thruV s (fillO s) n (partAt s k))) c (fun x hx c => by
          obtain ⟨y, _, rfl⟩ := List.mem_map.1 hx
          unfold kidC
          rw [kidV_name]
          unfold kidV
          cases hf : fieldL p.fields (mkB y.1) with
          | none => rfl
          | some k => dsimp only; rw [ih])
        show (JV.obj (mapC _ (fillC s p _ c).1 (fillC s p _ c).2).1, (mapC _ (fillC s p _ c).1 (fillC s p _ c).2).2) = _
        rw [h0]
        dsimp only
        rw [h]; rfl
      | _ => rfl
/-- no less than what came -/
theorem foldC_more (s : List GPart) : ∀ (F : List GField) (st : Flds × Nat), JP.sizeF st.1 + aC (F.foldl (fillStepC s) st).2 ≤ JP.sizeF (F.foldl (fillStepC s) st).1 + aC st.2
  | [], _ => Nat.le_refl _
  | f :: r, st => by
    have h1 := foldC_more s r (fillStepC s st f)
    rw [List.foldl_cons]
    have h2 : JP.sizeF st.1 + aC (fillStepC s st f).2 ≤ JP.sizeF (fillStepC s st f).1 + aC st.2 := by
      unfold fillStepC
      by_cases hs : skips s st.1 f = true
      · rw [if_pos hs]; exact Nat.le_refl _
      · rw [if_neg hs]
        have hg : JP.get f.name.data.toList st.1 = none := by
          unfold skips hasN at hs
          have := hs
          cases h : JP.get f.name.data.toList st.1 with
          | none => rfl
          | some z => rw [h] at this; simp at this
        dsimp only
        by_cases hc : st.2 + 1 ≤ 1000
        · rw [if_pos hc, JP.put_size _ _ _ hg]
          have := JP.size_pos (dfl s f.part)
          unfold aC
          omega
        · rw [if_neg hc]
          unfold aC
          omega
    omega
theorem mapC_more {α β : Type} {f : α → Nat → β × Nat} {z : α → Nat} {z' : β → Nat} (hf : ∀ x c, z x + aC (f x c).2 ≤ z' (f x c).1 + aC c) : ∀ (l : List α) (c : Nat), (l.map z).sum + aC (mapC f l c).2 ≤ ((mapC f l c).1.map z').sum + aC c
  | [], c => Nat.le_refl _
  | x :: r, c => by
    have h1 := hf x c
    have h2 := mapC_more hf r (f x c).2
    rw [mapC, List.map_cons, List.sum_cons, List.map_cons, List.sum_cons]
    dsimp only
    omega
theorem thruC_more (s : List GPart) : ∀ (n : Nat) (p : GPart) (v : JV) (c : Nat), JP.size v + aC (thruC s (fillC s) n p v c).2 ≤ JP.size (thruC s (fillC s) n p v c).1 + aC c
  | 0, _, _, _ => Nat.le_refl _
  | n + 1, p, v, c => by
    have ih := thruC_more s n
    rw [thruC]
    split
    · exact Nat.le_refl _
    · cases v with
      | list l =>
        have := mapC_more (z := JP.size) (z' := JP.size) (fun x c => ih (partAt s p.items) x c) l c
        rw [sum_sizeL, sum_sizeL] at this
        show JP.size (.list l) + aC (mapC _ l c).2 ≤ JP.size (.list _) + _
        rw [JP.size, JP.size]
        omega
      | obj l =>
        have h1 := foldC_more s p.fields (l, c)
        have h2 := mapC_more (z := fun y : Bs × JV => JP.size y.2) (z' := fun y : Bs × JV => JP.size y.2) (f := kidC p fun j => thruC s (fillC s) n (partAt s j)) (fun y c => by
          unfold kidC
          split
          · exact ih _ _ _
          · exact Nat.le_refl _) (fillC s p l c).1 (fillC s p l c).2
        rw [sum_sizeF, sum_sizeF] at h2
        have h1' : JP.sizeF l + aC (fillC s p l c).2 ≤ JP.sizeF (fillC s p l c).1 + aC c := h1
        show JP.size (.obj l) + aC (mapC _ _ _).2 ≤ JP.size (.obj _) + _
        rw [JP.size, JP.size]
        omega
      | _ => exact Nat.le_refl _
/-- how long the text gets -/
def KT : Nat := 2100000
theorem foldC_len {s : List GPart} (hd : ∀ k, (partAt s k).deflt ≠ ByteArray.empty → (JP.text (dfl s k)).length ≤ 2000) : ∀ (F : List GField) (st : Flds × Nat), (∀ f ∈ F, f.name.size ≤ 1048576) → JP.lenF (F.foldl (fillStepC s) st).1 + KT * aC st.2 ≤ JP.lenF st.1 + KT * aC (F.foldl (fillStepC s) st).2
  | [], _, _ => Nat.le_refl _
  | f :: r, st, hF => by
    have h1 := foldC_len hd r (fillStepC s st f) (fun g hg => hF g (List.mem_cons_of_mem _ hg))
    have hn := hF f (List.mem_cons_self ..)
    rw [List.foldl_cons]
    have h2 : JP.lenF (fillStepC s st f).1 + KT * aC st.2 ≤ JP.lenF st.1 + KT * aC (fillStepC s st f).2 := by
      unfold fillStepC
      by_cases hs : skips s st.1 f = true
      · rw [if_pos hs]; exact Nat.le_refl _
      · rw [if_neg hs]
        have hs2 : hasN st.1 f = false ∧ (partAt s f.part).deflt ≠ ByteArray.empty := by
          unfold skips at hs
          simpa using hs
        have hg : JP.get f.name.data.toList st.1 = none := by
          have := hs2.1
          unfold hasN at this
          simpa using this
        have h3 := hd f.part hs2.2
        have h4 := JP.quote_bound f.name.data.toList
        have h5 : f.name.data.toList.length = f.name.size := Array.length_toList
        dsimp only
        by_cases hc : st.2 + 1 ≤ 1000
        · rw [if_pos hc, JP.put_len _ _ _ hg]
          unfold aC KT
          omega
        · rw [if_neg hc]
          unfold aC KT
          omega
    omega
theorem mapC_len2 {α β : Type} {f : α → Nat → β × Nat} {z : α → Nat} {z' : β → Nat} (hf : ∀ x c, z' (f x c).1 + KT * aC c ≤ z x + KT * aC (f x c).2) : ∀ (l : List α) (c : Nat), ((mapC f l c).1.map z').sum + KT * aC c ≤ (l.map z).sum + KT * aC (mapC f l c).2
  | [], c => Nat.le_refl _
  | x :: r, c => by
    have h1 := hf x c
    have h2 := mapC_len2 hf r (f x c).2
    rw [mapC, List.map_cons, List.sum_cons, List.map_cons, List.sum_cons]
    dsimp only
    omega
theorem sum_lenL : ∀ l : List JV, (l.map fun x => (JP.text x).length + 1).sum = JP.lenL l
  | [] => rfl
  | x :: r => by rw [List.map_cons, List.sum_cons, JP.lenL, sum_lenL r]
theorem sum_lenF : ∀ l : Flds, (l.map fun y => (JP.quote y.1).length + 1 + (JP.text y.2).length + 1).sum = JP.lenF l
  | [] => rfl
  | (n, x) :: r => by rw [List.map_cons, List.sum_cons, JP.lenF, sum_lenF r]
theorem list_text (l : List JV) : (JP.text (.list l)).length = if l = [] then 2 else JP.lenL l + 1 := by
  by_cases h : l = []
  · subst h; rfl
  · rw [if_neg h]; exact JP.list_len_eq l h
theorem obj_text (l : Flds) : (JP.text (.obj l)).length = if l = [] then 2 else JP.lenF l + 1 := by
  by_cases h : l = []
  · subst h; rfl
  · rw [if_neg h]; exact JP.obj_len_eq l h
theorem thruC_len {s : List GPart} (hd : ∀ k, (partAt s k).deflt ≠ ByteArray.empty → (JP.text (dfl s k)).length ≤ 2000) (hF : ∀ k, ∀ f ∈ (partAt s k).fields, f.name.size ≤ 1048576) : ∀ (n : Nat) (k : Int) (v : JV) (c : Nat), (JP.text (thruC s (fillC s) n (partAt s k) v c).1).length + KT * aC c ≤ (JP.text v).length + KT * aC (thruC s (fillC s) n (partAt s k) v c).2
  | 0, _, _, _ => Nat.le_refl _
  | n + 1, k, v, c => by
    have ih := thruC_len hd hF n
    rw [thruC]
    split
    · exact Nat.le_refl _
    · cases v with
      | list l =>
        have h1 := mapC_len2 (z := fun x => (JP.text x).length + 1) (z' := fun x => (JP.text x).length + 1) (f := thruC s (fillC s) n (partAt s (partAt s k).items)) (fun x c => by have := ih (partAt s k).items x c; omega) l c
        rw [sum_lenL, sum_lenL] at h1
        have h2 := mapC_len (thruC s (fillC s) n (partAt s (partAt s k).items)) l c
        show (JP.text (.list (mapC _ l c).1)).length + _ ≤ _ + KT * aC (mapC _ l c).2
        rw [list_text, list_text]
        by_cases hl : l = []
        · subst hl
          rw [if_pos rfl, if_pos (show (mapC _ [] c).1 = [] from rfl)]
          exact Nat.le_refl _
        · rw [if_neg hl, if_neg (fun e => hl (List.eq_nil_of_length_eq_zero (by rw [← h2, e]; rfl)))]
          omega
      | obj l =>
        have h1 : JP.lenF (fillC s (partAt s k) l c).1 + KT * aC c ≤ JP.lenF l + KT * aC (fillC s (partAt s k) l c).2 := foldC_len hd (partAt s k).fields (l, c) (hF k)
        have h3 := mapC_len2 (z := fun y : Bs × JV => (JP.quote y.1).length + 1 + (JP.text y.2).length + 1) (z' := fun y : Bs × JV => (JP.quote y.1).length + 1 + (JP.text y.2).length + 1) (f := kidC (partAt s k) fun j => thruC s (fillC s) n (partAt s j)) (fun y c => by
          unfold kidC
          split
          · rename_i j _
            have := ih j y.2 c
            dsimp only
            omega
          · exact Nat.le_refl _) (fillC s (partAt s k) l c).1 (fillC s (partAt s k) l c).2
        rw [sum_lenF, sum_lenF] at h3
        show (JP.text (.obj (mapC _ _ _).1)).length + _ ≤ _ + KT * aC (mapC _ _ _).2
        rw [obj_text, obj_text]
        have h4 : (if l = [] then 2 else JP.lenF l + 1) ≥ JP.lenF l + 1 ∧ (if l = [] then 2 else JP.lenF l + 1) ≥ 2 := by
          by_cases hl : l = []
          · subst hl; exact ⟨by decide, by decide⟩
          · rw [if_neg hl]
            refine ⟨Nat.le_refl _, ?_⟩
            cases l with
            | nil => exact absurd rfl hl
            | cons y r => obtain ⟨m, x⟩ := y; rw [JP.lenF]; omega
        have h6 : aC c ≤ aC (mapC (kidC (partAt s k) fun j => thruC s (fillC s) n (partAt s j)) (fillC s (partAt s k) l c).1 (fillC s (partAt s k) l c).2).2 := by
          have h7 := thruC_up s (n + 1) (partAt s k) (.obj l) c
          have h8 : c ≤ (mapC (kidC (partAt s k) fun j => thruC s (fillC s) n (partAt s j)) (fillC s (partAt s k) l c).1 (fillC s (partAt s k) l c).2).2 := by
            rw [thruC] at h7
            split at h7
            · contradiction
            · exact h7
          unfold aC; omega
        split
        · have h9 := Nat.mul_le_mul_left KT h6
          omega
        · omega
      | _ => exact Nat.le_refl _
end Sch
end Go.Proofs.YtnmhjabihfhobaaGreatDoor
namespace Go.Proofs.YtnmhjabihfhobaaGreatDoor
open Go.RowKit
open JP (JV Bs)
namespace Sch
end Sch
end Go.Proofs.YtnmhjabihfhobaaGreatDoor
namespace Go.Proofs.YtnmhjabihfhobaaGreatDoor
open Go.RowKit
open JP (JV Bs)
namespace Sch
theorem small_of {S : List GPart} (h : (S.map partB).sum + 1 ≤ 1048576) : S.length ≤ 1048576 ∧ ∀ p ∈ S, SmallP p := by
  have hone : ∀ p : GPart, 1 ≤ partB p := fun p => by unfold partB; omega
  have hsum : ∀ l : List GPart, l.length ≤ (l.map partB).sum := fun l => by
    induction l with
    | nil => exact Nat.le_refl _
    | cons p r ih => rw [List.map_cons, List.sum_cons, List.length_cons]; have := hone p; omega
  have hmem : ∀ (l : List GPart), ∀ p ∈ l, partB p ≤ (l.map partB).sum := fun l => by
    induction l with
    | nil => intro p hp; cases hp
    | cons q r ih =>
      intro p hp
      rw [List.map_cons, List.sum_cons]
      rcases List.mem_cons.1 hp with rfl | hp
      · omega
      · have := ih p hp; omega
  refine ⟨by have := hsum S; omega, fun p hp => ?_⟩
  have hb : partB p ≤ 1048576 := by have := hmem S p hp; omega
  have hf : p.fields.length ≤ (p.fields.map fieldB).sum := by
    generalize p.fields = l
    induction l with
    | nil => exact Nat.le_refl _
    | cons f r ih => rw [List.map_cons, List.sum_cons, List.length_cons]; have : 1 ≤ fieldB f := by unfold fieldB; omega
                     omega
  have he := total_length p.enum
  unfold partB at hb
  refine ⟨by omega, by omega, by omega, fun d hd => ?_, by omega⟩
  have := total_mem hd
  omega
set_option maxRecDepth 100000 in
theorem refuses_any (w : World) (hE : Env w) : Calls Tryz.prog 20 #[] w fun e w' => e = .returned (.bool true) ∧ Below w.heap.size w w' := by
  have hC := check_any (S := []) (sa := none) (sn := 0) (sc := 0) (w := w) ⟨.inl ⟨rfl, rfl⟩, fun p hp => (by cases hp), hE⟩ (by decide)
  have h1 : checkE [] = 1 := by decide
  rw [h1] at hC
  have HC := Lib.hid hC
  clear hC h1 hE
  go_enter Tryz.func20, Tryz.ntmps20
  go_wp2_with fail
  refine HC.out.mono ?_
  rintro E w1 ⟨rfl, hb⟩
  have HB := Lib.hid hb
  clear hb
  go_wp2_with fail
  go_ret
  exact ⟨rfl, HB.out⟩
theorem esc_bound (l : Bs) : (escS l).length ≤ 2 * l.length := esc_len l
theorem join_bound (l : List Bs) : (joinK l).length ≤ 2 * (l.map fun s => s.length + 1).sum := by
  induction l with
  | nil => exact Nat.le_refl _
  | cons s r ih =>
    have e : joinK (s :: r) = 47 :: escS s ++ joinK r := rfl
    have := esc_bound s
    rw [e, List.length_append, List.length_cons, List.map_cons, List.sum_cons]
    omega
end Sch
end Go.Proofs.YtnmhjabihfhobaaGreatDoor
namespace Go.Proofs.YtnmhjabihfhobaaGreatDoor
open Go.RowKit
open JP (JV Bs)
set_option maxRecDepth 100000 in
set_option maxHeartbeats 3200000 in
theorem quote_big (s : ByteArray) (w : World) (hs : s.size ≤ 1099511627776) :
    Calls Tryz.prog 60 #[.string s] w fun e w' => e = .returned (.string (mkB (JP.quote s.data.toList))) ∧ Below w.heap.size w w' := by
  obtain ⟨i0, hi0, hz0, hz1, hz2⟩ := info_parts Tryz.infoU8
  have hel : ∀ i, i ≤ s.size → (34 :: (s.data.toList.take i).flatMap JP.escB).length ≤ 2 * i + 1 := fun i hi => by
    have hone : ∀ c, (JP.escB c).length ≤ 2 := fun c => by unfold JP.escB; split <;> first | (simp; done) | (split <;> first | (simp; done) | (split <;> simp))
    have hgen : ∀ l : Bs, (l.flatMap JP.escB).length ≤ 2 * l.length := fun l => by
      induction l with
      | nil => simp
      | cons c r ih => rw [List.flatMap_cons, List.length_append, List.length_cons]; have := hone c; omega
    have := hgen (s.data.toList.take i)
    rw [List.length_take] at this
    rw [List.length_cons]
    omega
  have Hel := Lib.hid hel
  clear hel
  go_enter Tryz.func60, Tryz.ntmps60
  obtain ⟨w0, hw0⟩ : ∃ w0, w0 = w.alloc (.cells #[.int .u8 34] 5) := ⟨_, rfl⟩
  have h0 : OwnAt RU8 1 w0 w.heap.size 5 (.slice (some ⟨w.heap.size, 0, none⟩) 1 1) [34] := by
    refine ⟨[[.int .u8 34]], rfl, fun cs hcs => by rw [List.mem_singleton.1 hcs]; rfl, ⟨rfl, .inr ⟨w.heap.size, 1, #[.int .u8 34], rfl, Nat.le_refl _, by rw [hw0]; exact heap_alloc_new w _, Nat.le_refl _, by unfold maxLen; decide, rfl, rfl⟩⟩, fun j cs x hcs hx => ?_⟩
    match j, hcs, hx with
    | 0, hcs, hx =>
      simp at hcs hx
      subst hcs
      subst hx
      rfl
  have hb0 : Below w.heap.size w w0 := by rw [hw0]; exact (Below.refl _ _).alloc (Nat.le_refl _) _
  have H0 := Lib.hid h0
  have Hb0 := Lib.hid hb0
  clear h0 hb0
  go_upto_region 2 with fail
  rw [← hw0]
  clear hw0
  go_wp2_with fail
  go_loopg [3, 9] s.size (fun k u3 u9 wr => ∃ i : Nat, i + k = s.size ∧ u9 = .int .i64 (i : Int) ∧ Hid (OwnAt RU8 1 wr w.heap.size 5 u3 (34 :: (s.data.toList.take i).flatMap JP.escB)) ∧ Hid (Below w.heap.size w wr))
  case atStart => exact ⟨0, by omega, rfl, H0, Hb0⟩
  case round =>
    obtain ⟨i, hik, rfl, Hown, Hbel⟩ := hrel
    have hl1 := Hel.out i (by omega)
    have hbs := Hbel.out.size
    obtain ⟨L, HL⟩ : ∃ L, Hid (34 :: (s.data.toList.take i).flatMap JP.escB = L) := ⟨_, Lib.hid rfl⟩
    rw [HL.out] at Hown hl1
    cases gk with
    | zero =>
      obtain rfl : i = s.size := by omega
      have HLq : Hid (L ++ [34] = JP.quote s.data.toList) := Lib.hid (by
        rw [← HL.out, List.take_of_length_le (by simp)]
        rfl)
      obtain ⟨w1, hw1⟩ : ∃ w1, w1 = wr.alloc (.cells #[.int .u8 34] 5) := ⟨_, rfl⟩
      have hb1 : Below wr.heap.size wr w1 := by rw [hw1]; exact (Below.refl _ _).alloc (Nat.le_refl _) _
      have h1 : RowAt RU8 1 w1 (.slice (some ⟨wr.heap.size, 0, none⟩) 1 1) [34] := row_u8 (l := [34]) (by rw [hw1]; exact heap_alloc_new wr _) (by unfold maxLen; simp)
      have Ho1 := Lib.hid (Hown.out.below stays_u8 hb1)
      have H1 := Lib.hid h1
      have Hb1 := Lib.hid (Hbel.out.trans (hb1.mono hbs))
      clear h1 hb1
      go_upto_region 16 with fail
      go_wp2_with (at_builtin; rw [← hw1]; refine wpList_append_ownAt (R := RU8) (k := 1) (e := 5) (B := w.heap.size) (l := L) (m := [34]) _ (by rfl) _ _ _ (by rfl) i0 _ 1 Tryz.underlying154 hi0 hz0 hz1 hz2 rfl (by omega) flat_u8 one_u8 _ (by rfl) Ho1.out _ (by rfl) H1.out (by unfold maxLen; simp; omega) (by simp; omega) (by have := Hb1.out.size; omega) ?_)
      intro v' w2 hv' hg hr _
      rw [← hw1] at hg
      have hb2 : Below w.heap.size w w2 := below_of_grown Hb1.out (by have := Hb1.out.size; omega) hg hr
      have Hb2 := Lib.hid hb2
      have hcv := run_convert_own w2 154 9 5 Tryz.underlying154 Tryz.underlying5 Tryz.underlying9 (own_u8 hv')
      clear hv' hg hr hb2 hw1
      go_wp2_with fail
      go_ret
      exact ⟨by rw [HLq.out]; rfl, Hb2.out⟩
    | succ k =>
      have hil : i < s.size := by omega
      have q1 : (0 : Int) ≤ (i : Int) := by omega
      have q2 : (i : Int) < (s.size : Int) := by omega
      have HS := Lib.hid (esc_snoc hil)
      rw [HL.out] at HS
      by_cases h34 : s[i].toNat = 34
      · have he : s[i] = 34 := u8_eq h34
        have hesc : JP.escB s[i] = [92, 34] := by rw [he]; rfl
        have HE := Lib.hid hesc
        clear he hesc
        have HS2 : Hid (34 :: (s.data.toList.take (i + 1)).flatMap JP.escB = L ++ [92, 34]) := Lib.hid (by rw [HS.out, HE.out])
        clear HS
        go_wp2_with (at_builtin; refine wpList_append_ownAt (R := RU8) (k := 1) (e := 5) (B := w.heap.size) (l := L) (m := [92, 34]) _ (by rfl) _ _ _ (by rfl) i0 _ 1 Tryz.underlying154 hi0 hz0 hz1 hz2 rfl (by omega) flat_u8 one_u8 _ (by rfl) (Hown.out.alloc stays_u8 _) (.slice (some ⟨wr.heap.size, 0, none⟩) 2 2) (by rfl) (row_u8 (l := [92, 34]) (heap_alloc_new wr _) (by unfold maxLen; simp)) (by unfold maxLen; simp; omega) (by simp; omega) (by simp; omega) ?_)
        intro v' w2 hv' hg hr _
        have hb2 : Below w.heap.size w w2 := below_of_grown (Hbel.out.alloc hbs _) (by simp; omega) hg hr
        have Hb2 := Lib.hid hb2
        have Hv : Hid (OwnAt RU8 1 w2 w.heap.size 5 v' (34 :: (s.data.toList.take (i + 1)).flatMap JP.escB)) := Lib.hid (by rw [HS2.out]; exact hv')
        clear hv' hg hr hb2 HS2
        go_wp2_with fail
        go_roundg k
        case measure => omega
        case rel => exact ⟨i + 1, by omega, by go_num, Hv, Hb2⟩
      · have n34 : ((s[i].toNat : Int) == 34) = false := by rw [beq_eq_false_iff_ne]; omega
        by_cases h92 : s[i].toNat = 92
        · have he : s[i] = 92 := u8_eq h92
          have hesc : JP.escB s[i] = [92, 92] := by rw [he]; rfl
          have HE := Lib.hid hesc
          clear he hesc n34 h34
          have HS2 : Hid (34 :: (s.data.toList.take (i + 1)).flatMap JP.escB = L ++ [92, 92]) := Lib.hid (by rw [HS.out, HE.out])
          clear HS
          go_wp2_with (at_builtin; refine wpList_append_ownAt (R := RU8) (k := 1) (e := 5) (B := w.heap.size) (l := L) (m := [92, 92]) _ (by rfl) _ _ _ (by rfl) i0 _ 1 Tryz.underlying154 hi0 hz0 hz1 hz2 rfl (by omega) flat_u8 one_u8 _ (by rfl) (Hown.out.alloc stays_u8 _) (.slice (some ⟨wr.heap.size, 0, none⟩) 2 2) (by rfl) (row_u8 (l := [92, 92]) (heap_alloc_new wr _) (by unfold maxLen; simp)) (by unfold maxLen; simp; omega) (by simp; omega) (by simp; omega) ?_)
          intro v' w2 hv' hg hr _
          have hb2 : Below w.heap.size w w2 := below_of_grown (Hbel.out.alloc hbs _) (by simp; omega) hg hr
          have Hb2 := Lib.hid hb2
          have Hv : Hid (OwnAt RU8 1 w2 w.heap.size 5 v' (34 :: (s.data.toList.take (i + 1)).flatMap JP.escB)) := Lib.hid (by rw [HS2.out]; exact hv')
          clear hv' hg hr hb2 HS2
          go_wp2_with fail
          go_roundg k
          case measure => omega
          case rel => exact ⟨i + 1, by omega, by go_num, Hv, Hb2⟩
        · have n92 : ((s[i].toNat : Int) == 92) = false := by rw [beq_eq_false_iff_ne]; omega
          by_cases h10 : s[i].toNat = 10
          · have he : s[i] = 10 := u8_eq h10
            have hesc : JP.escB s[i] = [92, 110] := by rw [he]; rfl
            have HE := Lib.hid hesc
            clear he hesc n34 h34 n92 h92
            have HS2 : Hid (34 :: (s.data.toList.take (i + 1)).flatMap JP.escB = L ++ [92, 110]) := Lib.hid (by rw [HS.out, HE.out])
            clear HS
            go_wp2_with (at_builtin; refine wpList_append_ownAt (R := RU8) (k := 1) (e := 5) (B := w.heap.size) (l := L) (m := [92, 110]) _ (by rfl) _ _ _ (by rfl) i0 _ 1 Tryz.underlying154 hi0 hz0 hz1 hz2 rfl (by omega) flat_u8 one_u8 _ (by rfl) (Hown.out.alloc stays_u8 _) (.slice (some ⟨wr.heap.size, 0, none⟩) 2 2) (by rfl) (row_u8 (l := [92, 110]) (heap_alloc_new wr _) (by unfold maxLen; simp)) (by unfold maxLen; simp; omega) (by simp; omega) (by simp; omega) ?_)
            intro v' w2 hv' hg hr _
            have hb2 : Below w.heap.size w w2 := below_of_grown (Hbel.out.alloc hbs _) (by simp; omega) hg hr
            have Hb2 := Lib.hid hb2
            have Hv : Hid (OwnAt RU8 1 w2 w.heap.size 5 v' (34 :: (s.data.toList.take (i + 1)).flatMap JP.escB)) := Lib.hid (by rw [HS2.out]; exact hv')
            clear hv' hg hr hb2 HS2
            go_wp2_with fail
            go_roundg k
            case measure => omega
            case rel => exact ⟨i + 1, by omega, by go_num, Hv, Hb2⟩
          · have n10 : ((s[i].toNat : Int) == 10) = false := by rw [beq_eq_false_iff_ne]; omega
            by_cases h9 : s[i].toNat = 9
            · have he : s[i] = 9 := u8_eq h9
              have hesc : JP.escB s[i] = [92, 116] := by rw [he]; rfl
              have HE := Lib.hid hesc
              clear he hesc n34 h34 n92 h92 n10 h10
              have HS2 : Hid (34 :: (s.data.toList.take (i + 1)).flatMap JP.escB = L ++ [92, 116]) := Lib.hid (by rw [HS.out, HE.out])
              clear HS
              go_wp2_with (at_builtin; refine wpList_append_ownAt (R := RU8) (k := 1) (e := 5) (B := w.heap.size) (l := L) (m := [92, 116]) _ (by rfl) _ _ _ (by rfl) i0 _ 1 Tryz.underlying154 hi0 hz0 hz1 hz2 rfl (by omega) flat_u8 one_u8 _ (by rfl) (Hown.out.alloc stays_u8 _) (.slice (some ⟨wr.heap.size, 0, none⟩) 2 2) (by rfl) (row_u8 (l := [92, 116]) (heap_alloc_new wr _) (by unfold maxLen; simp)) (by unfold maxLen; simp; omega) (by simp; omega) (by simp; omega) ?_)
              intro v' w2 hv' hg hr _
              have hb2 : Below w.heap.size w w2 := below_of_grown (Hbel.out.alloc hbs _) (by simp; omega) hg hr
              have Hb2 := Lib.hid hb2
              have Hv : Hid (OwnAt RU8 1 w2 w.heap.size 5 v' (34 :: (s.data.toList.take (i + 1)).flatMap JP.escB)) := Lib.hid (by rw [HS2.out]; exact hv')
              clear hv' hg hr hb2 HS2
              go_wp2_with fail
              go_roundg k
              case measure => omega
              case rel => exact ⟨i + 1, by omega, by go_num, Hv, Hb2⟩
            · have n9 : ((s[i].toNat : Int) == 9) = false := by rw [beq_eq_false_iff_ne]; omega
              have hesc : JP.escB s[i] = [s[i]] := by
                have ne : ∀ (c : UInt8), s[i].toNat ≠ c.toNat → s[i] ≠ c := fun c h e => h (by rw [e])
                unfold JP.escB
                rw [if_neg (fun h => h.elim (ne 34 h34) (ne 92 h92)), if_neg (ne 10 h10), if_neg (ne 9 h9)]
              have HE := Lib.hid hesc
              clear hesc h34 h92 h10 h9
              have HS2 : Hid (34 :: (s.data.toList.take (i + 1)).flatMap JP.escB = L ++ [s[i]]) := Lib.hid (by rw [HS.out, HE.out])
              clear HS
              go_wp2_with (at_builtin; refine wpList_append_ownAt (R := RU8) (k := 1) (e := 5) (B := w.heap.size) (l := L) (m := [s[i]]) _ (by rfl) _ _ _ (by rfl) i0 _ 1 Tryz.underlying154 hi0 hz0 hz1 hz2 rfl (by omega) flat_u8 one_u8 _ (by rfl) (Hown.out.alloc stays_u8 _) (.slice (some ⟨wr.heap.size, 0, none⟩) 1 1) (by rfl) (row_u8 (l := [s[i]]) (heap_alloc_new wr _) (by unfold maxLen; simp)) (by unfold maxLen; simp; omega) (by simp; omega) (by simp; omega) ?_)
              intro v' w2 hv' hg hr _
              have hb2 : Below w.heap.size w w2 := below_of_grown (Hbel.out.alloc hbs _) (by simp; omega) hg hr
              have Hb2 := Lib.hid hb2
              have Hv : Hid (OwnAt RU8 1 w2 w.heap.size 5 v' (34 :: (s.data.toList.take (i + 1)).flatMap JP.escB)) := Lib.hid (by rw [HS2.out]; exact hv')
              clear hv' hg hr hb2 HS2
              go_wp2_with fail
              go_roundg k
              case measure => omega
              case rel => exact ⟨i + 1, by omega, by go_num, Hv, Hb2⟩
set_option maxRecDepth 100000 in
set_option maxHeartbeats 3200000 in
theorem stands_big (s : ByteArray) (w : World) (hs : s.size ≤ 1099511627776) :
    Calls Tryz.prog 85 #[.string s] w fun e w' => e = .returned (.bool (s.data.toList.all JP.stand)) ∧ w = w' := by
  obtain ⟨R, hR⟩ : ∃ R, s.data.toList.all JP.stand = R := ⟨_, rfl⟩
  rw [hR]
  have HR := Lib.hid hR
  clear hR
  go_enter Tryz.func85, Tryz.ntmps85
  go_wp2_with fail
  go_loopg [7] s.size (fun k u7 wx => ∃ i : Nat, i + k = s.size ∧ u7 = .int .i64 (i : Int) ∧ Hid ((s.data.toList.take i).all JP.stand = true) ∧ w = wx)
  case atStart => exact ⟨0, by omega, rfl, Lib.hid (by rw [List.take_zero]; rfl), rfl⟩
  case round =>
    obtain ⟨i, hig, rfl, HA, rfl⟩ := hrel
    cases gk with
    | zero =>
      have q1 : ¬ (i : Int) < (s.size : Int) := by omega
      have Hall : Hid (s.data.toList.all JP.stand = true) := Lib.hid (by have h := HA.out; rwa [List.take_of_length_le (by rw [list_size]; omega)] at h)
      clear HA hig
      go_wp2_with fail
      go_ret
      exact ⟨ret_bool2 (Hall.out.symm.trans HR.out), rfl⟩
    | succ k =>
      have hil : i < s.size := by omega
      have q0 : decide (i < s.size) = true := decide_eq_true hil
      have q1 : (i : Int) < (s.size : Int) := by omega
      have q2 : (0 : Int) ≤ (i : Int) := by omega
      have hwr : IntKind.i64.wrap ((i : Int) + 1) = (i : Int) + 1 := IntWalk.i64_in _ (by omega)
      have hsn := stand_nat s[i]
      cases hst : JP.stand s[i] with
      | false =>
        rw [hst] at hsn
        replace hsn := hsn.symm
        simp only [Bool.or_eq_false_iff, decide_eq_false_iff_not] at hsn
        obtain ⟨⟨m1, m2⟩, m3⟩ := hsn
        have e10 : ((s[i].toNat : Int) != 10) = true := by rw [bne_iff_ne]; omega
        have e9 : ((s[i].toNat : Int) != 9) = true := by rw [bne_iff_ne]; omega
        have Hno := Lib.hid (not_all hil hst)
        clear hst HA hig
        by_cases l1 : s[i].toNat < 32
        · have p1 : (s[i].toNat : Int) < 32 := by omega
          have p2 : decide ((s[i].toNat : Int) < 32) = true := decide_eq_true p1
          clear m1 m2 m3
          go_wp2_with fail
          go_ret
          exact ⟨ret_bool2 (Hno.out.symm.trans HR.out), rfl⟩
        · have p1 : ¬ (s[i].toNat : Int) < 32 := by omega
          have p2 : decide ((s[i].toNat : Int) < 32) = false := decide_eq_false p1
          have p3 : (126 : Int) < (s[i].toNat : Int) := by omega
          have p4 : decide ((126 : Int) < (s[i].toNat : Int)) = true := decide_eq_true p3
          clear m1 m2 m3
          go_wp2_with fail
          go_ret
          exact ⟨ret_bool2 (Hno.out.symm.trans HR.out), rfl⟩
      | true =>
        rw [hst] at hsn
        replace hsn := hsn.symm
        simp only [Bool.or_eq_true, decide_eq_true_eq] at hsn
        have HA2 := Lib.hid (all_take hil HA.out hst)
        clear hst HA
        rcases hsn with (⟨m1, m2⟩ | m1) | m1
        · have p1 : ¬ (s[i].toNat : Int) < 32 := by omega
          have p2 : decide ((s[i].toNat : Int) < 32) = false := decide_eq_false p1
          have p3 : ¬ (126 : Int) < (s[i].toNat : Int) := by omega
          have p4 : decide ((126 : Int) < (s[i].toNat : Int)) = false := decide_eq_false p3
          clear m1 m2
          go_wp2_with fail
          go_roundg k
          case measure => omega
          case rel => exact ⟨i + 1, by omega, by go_num, HA2, rfl⟩
        · go_wp2_with fail
          go_roundg k
          case measure => omega
          case rel => exact ⟨i + 1, by omega, by go_num, HA2, rfl⟩
        · go_wp2_with fail
          go_roundg k
          case measure => omega
          case rel => exact ⟨i + 1, by omega, by go_num, HA2, rfl⟩
set_option maxRecDepth 100000 in
set_option maxHeartbeats 6400000 in
theorem text_big : ∀ (n : Nat) (v : Value) (x : JV) (w : World), JvAt n [] w v x → (JP.text x).length ≤ 1073741824 → TabOK w →
    Calls Tryz.prog 32 #[v] w fun e w' => e = .returned (.string (mkB (JP.text x))) ∧ Below w.heap.size w w' := by
  intro n
  induction n with
  | zero => intro v x w h; cases h
  | succ n ih =>
    intro v x w h hlen htab
    have IH := Lib.hid ih
    have Htab := Lib.hid htab
    clear ih htab
    obtain ⟨i0, hi0, hz0, hz1, hz2⟩ := info_parts Tryz.infoStr
    cases x with
    | nul =>
      obtain rfl : v = .nilIface := h
      obtain ⟨g1, g2, g3, g4, g5⟩ := as_nil
      clear hlen
      go_enter Tryz.func32, Tryz.ntmps32
      go_wp2_with fail
      go_ret
      exact ⟨rfl, Below.refl _ _⟩
    | bool b =>
      obtain rfl : v = .iface 4 (.bool b) := h
      obtain ⟨g1, g2, g3, g4, g5⟩ := as_bool (.bool b)
      clear hlen
      go_enter Tryz.func32, Tryz.ntmps32
      go_wp2_with fail
      refine (Tryz.strconv_FormatBool b w).mono ?_
      rintro E w1 ⟨rfl, rfl⟩
      go_wp2_with fail
      go_ret
      exact ⟨ret_mk (formatBool_text b), Below.refl _ _⟩
    | num k =>
      obtain ⟨rfl, k0, k1⟩ := h
      obtain ⟨g1, g2, g3, g4, g5⟩ := as_int64 (.int .i64 k)
      clear hlen
      go_enter Tryz.func32, Tryz.ntmps32
      go_wp2_with fail
      refine (Tryz.strconv_FormatInt_10 k k0 k1 w Htab.out).mono ?_
      rintro E w1 ⟨rfl, q, os, hw1⟩
      have hb1 : Below w.heap.size w w1 := by rw [hw1]; exact Lib.below_grow _ _ (Nat.le_refl _) _ _
      have Hb1 := Lib.hid hb1
      clear hw1 hb1
      go_wp2_with fail
      go_ret
      exact ⟨ret_mk (by rw [JP.text]), Hb1.out⟩
    | str s =>
      obtain rfl : v = .iface 9 (.string (mkB s)) := h
      obtain ⟨g1, g2, g3, g4, g5⟩ := as_string (.string (mkB s))
      have hs : (mkB s).size ≤ 1073741824 := by
        rw [mkB_size]
        rw [JP.text] at hlen
        have := quote_size s
        omega
      have HQ := Lib.hid (quote_big (mkB s) w (Nat.le_trans hs (by decide)))
      clear hlen hs
      go_enter Tryz.func32, Tryz.ntmps32
      go_wp2_with fail
      refine HQ.out.mono ?_
      rintro E w1 ⟨rfl, hb1⟩
      have Hb1 := Lib.hid hb1
      clear hb1
      go_wp2_with fail
      go_ret
      exact ⟨ret_mk (by rw [JP.text, mkB_list]), Hb1.out⟩
    | list l =>
      obtain ⟨u, rfl, hrow, _⟩ := h
      obtain ⟨a, c, rfl, _, _⟩ := hrow.len
      obtain ⟨g1, g2, g3, g4, g5⟩ := as_list (.slice a l.length c)
      have h1 := lenL_text l
      have h2 := lenL_len l
      have hll : l.length ≤ 1073741824 := by omega
      have Hlen : Hid (JP.lenL l ≤ 1073741824) := Lib.hid (by omega)
      have Hrow := Lib.hid hrow
      have hjl : (Lib.join (JP.textL l) [44]).length ≤ 1073741824 := by
        have : (JP.text (.list l)).length = (Lib.join (JP.textL l) [44]).length + 2 := by rw [JP.text]; simp
        omega
      have Hjl := Lib.hid hjl
      have HT : Hid (JP.text (.list l) = 91 :: (Lib.join (JP.textL l) [44] ++ [93])) := Lib.hid (by rw [JP.text])
      clear hrow hlen h1 h2 hjl
      go_enter Tryz.func32, Tryz.ntmps32
      go_wp2_with fail
      go_loopg [7, 35] l.length (fun k u7 u35 wr => ∃ i : Nat, i + k = l.length ∧ u35 = .int .i64 (i : Int) ∧ Hid (OwnAt RString 1 wr w.heap.size 9 u7 ((l.take i).map fun x => mkB (JP.text x))) ∧ Hid (Below w.heap.size w wr))
      case atStart => exact ⟨0, by omega, rfl, Lib.hid (OwnAt.nil _), Lib.hid (Below.refl _ _)⟩
      case round =>
        obtain ⟨i, hik, rfl, Hown, Hbel⟩ := hrel
        have hsr := Hbel.out.size
        cases gk with
        | zero =>
          obtain rfl : i = l.length := by omega
          have hown := Hown.out
          rw [List.take_of_length_le (Nat.le_refl _)] at hown
          have HJ := Lib.hid (joinStrs_any hown.row (by rw [List.length_map]; omega) (by rw [mk_map, ← textL_map]; have := Hjl.out; omega))
          obtain ⟨J, HJe⟩ : ∃ J : Bs, Hid (Lib.join (JP.textL l) [44] = J) := ⟨_, Lib.hid rfl⟩
          rw [mk_map, ← textL_map, HJe.out] at HJ
          have hJs : (mkB J).size ≤ 1073741824 := by rw [mkB_size, ← HJe.out]; exact Hjl.out
          rw [HJe.out] at HT
          have q1 : ¬ 9223372036854775807 < 1 + (mkB J).size := by omega
          have q2 : ¬ 9223372036854775807 < 1 + (mkB J).size + 1 := by omega
          clear hown hik hsr
          go_wp2_with fail
          refine HJ.out.mono ?_
          rintro E w1 ⟨rfl, hb1⟩
          have Hb1 := Lib.hid (Hbel.out.trans (hb1.mono Hbel.out.size))
          clear hb1
          go_wp2_with fail
          go_ret
          exact ⟨by rw [HT.out, ← wrap_mk]; rfl, Hb1.out⟩
        | succ k =>
          have hil : i < l.length := by omega
          obtain ⟨x, hx⟩ : ∃ x, l[i]? = some x := ⟨l[i]'(by omega), List.getElem?_eq_getElem _⟩
          obtain ⟨b, o, c', hv, _, _, hbs, hcell⟩ := Hrow.out.form (by omega) (by omega)
          injection hv with u1 u2 u3
          subst u1
          clear u2 u3
          obtain ⟨ds, _, hcc, vx, rfl, hvx⟩ := hcell i x hx
          have e0 : wr.cell? ⟨b, o + i, none⟩ = some vx := (Hbel.out.cell (p := ⟨b, _, none⟩) hbs).trans (by simpa using hcc 0 _ rfl)
          have q1 : (0 : Int) ≤ (i : Int) := by omega
          have q2 : (i : Int) < (l.length : Int) := by omega
          have hmem := lenL_mem (List.mem_of_getElem? hx)
          have HC := Lib.hid (IH.out vx x wr (hvx.below Hbel.out) (by have := Hlen.out; omega) (Htab.out.below Hbel.out))
          have Htk : Hid ((l.take (i + 1)).map (fun x => mkB (JP.text x)) = (l.take i).map (fun x => mkB (JP.text x)) ++ [mkB (JP.text x)]) := Lib.hid (by rw [List.take_add_one, hx, List.map_append]; rfl)
          have hol : ((l.take i).map fun x => mkB (JP.text x)).length ≤ 1073741824 := by rw [List.length_map, List.length_take]; omega
          obtain ⟨O, HO⟩ : ∃ O, Hid ((l.take i).map (fun x => mkB (JP.text x)) = O) := ⟨_, Lib.hid rfl⟩
          obtain ⟨t, Ht⟩ : ∃ t, Hid (mkB (JP.text x) = t) := ⟨_, Lib.hid rfl⟩
          rw [HO.out, Ht.out] at Htk
          rw [HO.out] at Hown hol
          rw [Ht.out] at HC
          clear hcell hcc hx hvx hmem
          go_wp2_with fail
          refine HC.out.mono ?_
          rintro E w1 ⟨rfl, hb1⟩
          have Ho1 := Lib.hid (Hown.out.below stays_string hb1)
          have Hb1 := Lib.hid (Hbel.out.trans (hb1.mono Hbel.out.size))
          have hs1 := Hb1.out.size
          clear hb1 e0
          go_wp2_with (at_builtin; refine wpList_append_ownAt (R := RString) (k := 1) (e := 9) (B := w.heap.size) (l := O) (m := [t]) _ (by rfl) _ _ _ (by rfl) i0 _ 16 Tryz.underlying25 hi0 hz0 hz1 hz2 rfl (by omega) flat_string one_string _ (by rfl) (Ho1.out.alloc stays_string _) (.slice (some ⟨w1.heap.size, 0, none⟩) 1 1) (by rfl) (RowAt.one (R := RString) (k := 1) (cs := #[.string t]) (heap_alloc_new w1 _) rfl rfl) (by unfold maxLen; simp; omega) (by simp; omega) (by simp; omega) ?_)
          intro v' w2 hv' hg hr _
          have hb2 : Below w.heap.size w w2 := below_of_grown (Hb1.out.alloc hs1 _) (by simp; omega) hg hr
          have Hb2 := Lib.hid hb2
          have Hv : Hid (OwnAt RString 1 w2 w.heap.size 9 v' ((l.take (i + 1)).map fun x => mkB (JP.text x))) := Lib.hid (by rw [Htk.out]; exact hv')
          clear hv' hg hr hb2
          go_wp2_with fail
          go_roundg k
          case measure => omega
          case rel => exact ⟨i + 1, by omega, by go_num, Hv, Hb2⟩
    | obj l =>
      obtain ⟨q, rfl, _, _, vn, vv, cn, cv, hrn, _, hrv, _⟩ := h
      obtain ⟨an, c1, hu1, _, _⟩ := hrn.len
      obtain ⟨av, c2, hu2, _, _⟩ := hrv.len
      rw [List.length_map] at hu1 hu2
      subst hu1
      subst hu2
      obtain ⟨g1, g2, g3, g4, g5⟩ := as_obj (.pointer (some ⟨q, 0, none⟩))
      have h1 := lenF_text l
      have h2 := lenF_len l
      have hll : l.length ≤ 1073741824 := by omega
      have Hlen : Hid (JP.lenF l ≤ 1073741824) := Lib.hid (by omega)
      have Hrn := Lib.hid hrn
      have Hrv := Lib.hid hrv
      have hjl : (Lib.join (JP.textF l) [44]).length ≤ 1073741824 := by
        have : (JP.text (.obj l)).length = (Lib.join (JP.textF l) [44]).length + 2 := by rw [JP.text]; simp
        omega
      have Hjl := Lib.hid hjl
      have HT : Hid (JP.text (.obj l) = 123 :: (Lib.join (JP.textF l) [44] ++ [125])) := Lib.hid (by rw [JP.text])
      have hqw : q < w.heap.size := World.block_lt_of_cell? w ⟨q, 0, none⟩ cn
      have Cv := Lib.hid cv
      clear hrn hrv hlen h1 h2 hjl cv
      go_enter Tryz.func32, Tryz.ntmps32
      go_wp2_with fail
      clear cn
      go_loopg [11, 57] l.length (fun k u11 u57 wr => ∃ i : Nat, i + k = l.length ∧ u57 = .int .i64 (i : Int) ∧ Hid (OwnAt RString 1 wr w.heap.size 9 u11 ((l.take i).map fun x => mkB (JP.quote x.1 ++ 58 :: JP.text x.2))) ∧ Hid (Below w.heap.size w wr))
      case atStart => exact ⟨0, by omega, rfl, Lib.hid (OwnAt.nil _), Lib.hid (Below.refl _ _)⟩
      case round =>
        obtain ⟨i, hik, rfl, Hown, Hbel⟩ := hrel
        have hsr := Hbel.out.size
        cases gk with
        | zero =>
          obtain rfl : i = l.length := by omega
          have hown := Hown.out
          rw [List.take_of_length_le (Nat.le_refl _)] at hown
          have HJ := Lib.hid (joinStrs_any hown.row (by rw [List.length_map]; omega) (by rw [mk_map, ← textF_map]; have := Hjl.out; omega))
          obtain ⟨J, HJe⟩ : ∃ J : Bs, Hid (Lib.join (JP.textF l) [44] = J) := ⟨_, Lib.hid rfl⟩
          rw [mk_map, ← textF_map, HJe.out] at HJ
          have hJs : (mkB J).size ≤ 1073741824 := by rw [mkB_size, ← HJe.out]; exact Hjl.out
          rw [HJe.out] at HT
          have q1 : ¬ 9223372036854775807 < 1 + (mkB J).size := by omega
          have q2 : ¬ 9223372036854775807 < 1 + (mkB J).size + 1 := by omega
          clear hown hik hsr
          go_wp2_with fail
          refine HJ.out.mono ?_
          rintro E w1 ⟨rfl, hb1⟩
          have Hb1 := Lib.hid (Hbel.out.trans (hb1.mono Hbel.out.size))
          clear hb1
          go_wp2_with fail
          go_ret
          exact ⟨by rw [HT.out, ← wrap_mk]; rfl, Hb1.out⟩
        | succ k =>
          have hil : i < l.length := by omega
          obtain ⟨y, hx⟩ : ∃ y, l[i]? = some y := ⟨l[i]'(by omega), List.getElem?_eq_getElem _⟩
          have hxn : (l.map fun x => mkB x.1)[i]? = some (mkB y.1) := by rw [List.getElem?_map, hx]; rfl
          have hxv : (l.map (·.2))[i]? = some y.2 := by rw [List.getElem?_map, hx]; rfl
          obtain ⟨b, o, c', hv, _, _, hbs, hcell⟩ := Hrn.out.form (by rw [List.length_map]; omega) (by omega)
          injection hv with u1 u2 u3
          subst u1
          clear u2 u3
          obtain ⟨b2, o2, c2', hv2, _, _, hbs2, hcell2⟩ := Hrv.out.form (by rw [List.length_map]; omega) (by omega)
          injection hv2 with u1 u2 u3
          subst u1
          clear u2 u3
          obtain ⟨ds, _, hcc, rfl⟩ := hcell i _ hxn
          obtain ⟨es, _, hdd, vx, rfl, hvx⟩ := hcell2 i _ hxv
          have e0 : wr.cell? ⟨b, o + i, none⟩ = some (.string (mkB y.1)) := (Hbel.out.cell (p := ⟨b, _, none⟩) hbs).trans (by simpa using hcc 0 _ rfl)
          have f0 : wr.cell? ⟨b2, o2 + i, none⟩ = some vx := (Hbel.out.cell (p := ⟨b2, _, none⟩) hbs2).trans (by simpa using hdd 0 _ rfl)
          have p1 : wr.cell? ⟨q, 1, none⟩ = some (.slice (some ⟨b2, o2, none⟩) l.length c2) := (Hbel.out.cell (p := ⟨q, 1, none⟩) hqw).trans Cv.out
          have hqr : q < wr.heap.size := Nat.lt_of_lt_of_le hqw hsr
          have hbr2 : b2 < wr.heap.size := Nat.lt_of_lt_of_le hbs2 hsr
          have q1 : (0 : Int) ≤ (i : Int) := by omega
          have q2 : (i : Int) < (l.length : Int) := by omega
          have hmem := lenF_mem (List.mem_of_getElem? hx)
          have hl0 := Hlen.out
          have hns : (mkB y.1).size ≤ 1073741824 := by rw [mkB_size]; have := quote_size y.1; omega
          obtain ⟨Q, HQ⟩ : ∃ Q : Bs, Hid (JP.quote y.1 = Q) := ⟨_, Lib.hid rfl⟩
          obtain ⟨X, HX⟩ : ∃ X : Bs, Hid (JP.text y.2 = X) := ⟨_, Lib.hid rfl⟩
          have HC1 : Hid (∀ w', Below wr.heap.size wr w' → Calls Tryz.prog 60 #[.string (mkB y.1)] w' fun e w'' => e = .returned (.string (mkB Q)) ∧ Below w'.heap.size w' w'') := Lib.hid fun w' hb' => by
            refine (quote_big (mkB y.1) w' (Nat.le_trans hns (by decide))).mono ?_
            rintro E w'' ⟨rfl, hb''⟩
            exact ⟨by rw [mkB_list, HQ.out], hb''⟩
          have HC2 : Hid (∀ w', Below wr.heap.size wr w' → Calls Tryz.prog 32 #[vx] w' fun e w'' => e = .returned (.string (mkB X)) ∧ Below w'.heap.size w' w'') := Lib.hid fun w' hb' => by
            have hbw := Hbel.out.trans (hb'.mono hsr)
            refine (IH.out vx y.2 w' (hvx.below hbw) (by omega) (Htab.out.below hbw)).mono ?_
            rintro E w'' ⟨rfl, hb''⟩
            exact ⟨by rw [HX.out], hb''⟩
          have Htk : Hid ((l.take (i + 1)).map (fun x => mkB (JP.quote x.1 ++ 58 :: JP.text x.2)) = (l.take i).map (fun x => mkB (JP.quote x.1 ++ 58 :: JP.text x.2)) ++ [mkB (Q ++ 58 :: X)]) := Lib.hid (by rw [List.take_add_one, hx, List.map_append, ← HQ.out, ← HX.out]; rfl)
          have hol : ((l.take i).map fun x => mkB (JP.quote x.1 ++ 58 :: JP.text x.2)).length ≤ 1073741824 := by rw [List.length_map, List.length_take]; omega
          have hQs : (mkB Q).size ≤ 1073741824 := by rw [mkB_size, ← HQ.out]; omega
          have hXs : (mkB X).size ≤ 1073741824 := by rw [mkB_size, ← HX.out]; omega
          have q4 : ¬ 9223372036854775807 < (mkB Q).size + 1 := by omega
          have q5 : ¬ 9223372036854775807 < (mkB Q).size + 1 + (mkB X).size := by omega
          obtain ⟨O, HO⟩ : ∃ O, Hid ((l.take i).map (fun x => mkB (JP.quote x.1 ++ 58 :: JP.text x.2)) = O) := ⟨_, Lib.hid rfl⟩
          obtain ⟨t, Ht⟩ : ∃ t, Hid (mkB (Q ++ 58 :: X) = t) := ⟨_, Lib.hid rfl⟩
          have Ht2 : Hid ((mkB Q ++ ⟨#[58]⟩ ++ mkB X : ByteArray) = t) := Lib.hid (by rw [colon_mk]; exact Ht.out)
          rw [HO.out, Ht.out] at Htk
          rw [HO.out] at Hown hol
          clear hcell hcc hcell2 hdd hx hxn hxv hvx hmem hl0
          go_upto_region 26 with fail
          refine wp_region_relB 14 (fun ii U w' => match ii with
            | 0 => U 0 = u11
            | 1 => U 1 = .string (mkB y.1)
            | 2 => U 2 = .string (mkB Q)
            | 3 => U 3 = .string (mkB Q ++ ⟨#[58]⟩)
            | 4 => U 4 = .pointer (some ⟨q, 0, none⟩)
            | 5 => U 5 = .pointer (some ⟨q, 0, none⟩)
            | 6 => U 6 = .pointer (some ⟨q, 1, none⟩)
            | 7 => U 7 = .slice (some ⟨b2, o2, none⟩) l.length c2
            | 8 => U 8 = .int .i64 (i : Int)
            | 9 => U 9 = .pointer (some ⟨b2, o2 + i, none⟩)
            | 10 => U 10 = vx
            | 11 => U 11 = .string (mkB X)
            | 12 => U 12 = .string t
            | 13 => ∃ g, U 13 = .slice (some ⟨g, 0, none⟩) 1 1 ∧ w'.heap[g]? = some (.cells #[.string t] 9 (0, 0))
            | _ => True)
            (fun | 2 => [1] | 3 => [2] | 5 => [4] | 6 => [5] | 7 => [6] | 9 => [7, 8] | 10 => [9] | 11 => [10] | 12 => [3, 11] | 13 => [12] | _ => []) (by kernel_rfl) (by kernel_rfl) ?_ ⟨?_, ?_, ?_, ?_, ?_, ?_, ?_, ?_, ?_, ?_, ?_, ?_, ?_, ?_, trivial⟩ ?_
          · intro j u w1 w2 hb h
            match j, h with
            | 0, h => exact h
            | 1, h => exact h
            | 2, h => exact h
            | 3, h => exact h
            | 4, h => exact h
            | 5, h => exact h
            | 6, h => exact h
            | 7, h => exact h
            | 8, h => exact h
            | 9, h => exact h
            | 10, h => exact h
            | 11, h => exact h
            | 12, h => exact h
            | 13, h => exact (by obtain ⟨g, h1, h2⟩ := h; exact ⟨g, h1, below_block hb h2⟩)
            | _ + 14, h => trivial
          · intro x w' hb hd
            have hbr : Below wr.heap.size wr w' := (below_drew1 wr).trans hb
            refine owes_here u11 (by rfl) ?_ rfl
            simp only [putAll, List.take_succ_cons, List.take_zero]
            go_simp
          · intro x w' hb hd
            have hbr : Below wr.heap.size wr w' := (below_drew1 wr).trans hb
            refine owes_here (.string (mkB y.1)) (by rfl) ?_ rfl
            simp only [putAll, List.take_succ_cons, List.take_zero]
            go_simp
          · intro x w' hb hd
            have hbr : Below wr.heap.size wr w' := (below_drew1 wr).trans hb
            have k1 : x 1 = .string (mkB y.1) := hd 1 (by simp)
            refine owes_call 60 #[.string (mkB y.1)] (by rfl) ?_ ((HC1.out w' hbr).mono fun e w2 h => ⟨_, h.1, rfl, h.2⟩)
            simp only [putAll, List.take_succ_cons, List.take_zero]
            go_simp
          · intro x w' hb hd
            have hbr : Below wr.heap.size wr w' := (below_drew1 wr).trans hb
            have k1 : x 2 = .string (mkB Q) := hd 2 (by simp)
            refine owes_here (.string (mkB Q ++ ⟨#[58]⟩)) (by rfl) ?_ rfl
            simp only [putAll, List.take_succ_cons, List.take_zero]
            go_simp
          · intro x w' hb hd
            have hbr : Below wr.heap.size wr w' := (below_drew1 wr).trans hb
            refine owes_here (.pointer (some ⟨q, 0, none⟩)) (by rfl) ?_ rfl
            simp only [putAll, List.take_succ_cons, List.take_zero]
            go_simp
          · intro x w' hb hd
            have hbr : Below wr.heap.size wr w' := (below_drew1 wr).trans hb
            have k1 : x 4 = .pointer (some ⟨q, 0, none⟩) := hd 4 (by simp)
            refine owes_here (.pointer (some ⟨q, 0, none⟩)) (by rfl) ?_ rfl
            simp only [putAll, List.take_succ_cons, List.take_zero]
            go_simp
          · intro x w' hb hd
            have hbr : Below wr.heap.size wr w' := (below_drew1 wr).trans hb
            have k1 : x 5 = .pointer (some ⟨q, 0, none⟩) := hd 5 (by simp)
            refine owes_here (.pointer (some ⟨q, 1, none⟩)) (by rfl) ?_ rfl
            simp only [putAll, List.take_succ_cons, List.take_zero]
            go_simp
          · intro x w' hb hd
            have hbr : Below wr.heap.size wr w' := (below_drew1 wr).trans hb
            have k1 : x 6 = .pointer (some ⟨q, 1, none⟩) := hd 6 (by simp)
            have d1 := (hbr.cell (p := ⟨q, 1, none⟩) hqr).trans p1
            refine owes_here (.slice (some ⟨b2, o2, none⟩) l.length c2) (by rfl) ?_ rfl
            simp only [putAll, List.take_succ_cons, List.take_zero]
            go_simp
          · intro x w' hb hd
            have hbr : Below wr.heap.size wr w' := (below_drew1 wr).trans hb
            refine owes_here (.int .i64 (i : Int)) (by rfl) ?_ rfl
            simp only [putAll, List.take_succ_cons, List.take_zero]
            go_simp
          · intro x w' hb hd
            have hbr : Below wr.heap.size wr w' := (below_drew1 wr).trans hb
            have k1 : x 7 = .slice (some ⟨b2, o2, none⟩) l.length c2 := hd 7 (by simp)
            have k2 : x 8 = .int .i64 (i : Int) := hd 8 (by simp)
            refine owes_here (.pointer (some ⟨b2, o2 + i, none⟩)) (by rfl) ?_ rfl
            simp only [putAll, List.take_succ_cons, List.take_zero]
            go_simp
          · intro x w' hb hd
            have hbr : Below wr.heap.size wr w' := (below_drew1 wr).trans hb
            have k1 : x 9 = .pointer (some ⟨b2, o2 + i, none⟩) := hd 9 (by simp)
            have d1 := (hbr.cell (p := ⟨b2, o2 + i, none⟩) hbr2).trans f0
            refine owes_here vx (by rfl) ?_ rfl
            simp only [putAll, List.take_succ_cons, List.take_zero]
            go_simp
          · intro x w' hb hd
            have hbr : Below wr.heap.size wr w' := (below_drew1 wr).trans hb
            have k1 : x 10 = vx := hd 10 (by simp)
            refine owes_call 32 #[vx] (by rfl) ?_ ((HC2.out w' hbr).mono fun e w2 h => ⟨_, h.1, rfl, h.2⟩)
            simp only [putAll, List.take_succ_cons, List.take_zero]
            go_simp
          · intro x w' hb hd
            have hbr : Below wr.heap.size wr w' := (below_drew1 wr).trans hb
            have k1 : x 3 = .string (mkB Q ++ ⟨#[58]⟩) := hd 3 (by simp)
            have k2 : x 11 = .string (mkB X) := hd 11 (by simp)
            have hS := Ht2.out
            refine owes_here (.string t) (by rfl) ?_ rfl
            simp only [putAll, List.take_succ_cons, List.take_zero]
            go_simp
          · intro x w' hb hd
            have hbr : Below wr.heap.size wr w' := (below_drew1 wr).trans hb
            have k1 : x 12 = .string t := hd 12 (by simp)
            refine owes_makes (.slice (some ⟨w'.heap.size, 0, none⟩) 1 1) (w' := w'.alloc (.cells #[.string t] 9)) (by rfl) ?_ (⟨_, rfl, heap_alloc_new w' _⟩) ((Below.refl _ _).alloc (Nat.le_refl _) _)
            simp only [putAll, List.take_succ_cons, List.take_zero]
            go_simp
          · intro x w' hb hR
            have hbr : Below wr.heap.size wr w' := (below_drew1 wr).trans hb
            have k0 : x 0 = u11 := hR 0 (by omega)
            obtain ⟨g, kg1, kg2⟩ : ∃ g, x 13 = .slice (some ⟨g, 0, none⟩) 1 1 ∧ w'.heap[g]? = some (.cells #[.string t] 9 (0, 0)) := hR 13 (by omega)
            have Ho1 := Lib.hid (Hown.out.below stays_string hbr)
            have Hb1 := Lib.hid (Hbel.out.trans (hbr.mono Hbel.out.size))
            have hs1 := Hb1.out.size
            have Hg := Lib.hid kg2
            clear hR hb hbr e0 f0 p1 kg2
            simp only [putAll, List.take_succ_cons, List.take_zero, List.drop_succ_cons, List.drop_zero]
            try simp only [Act.put, List.setIfInBounds_toArray, List.set_cons_zero, List.set_cons_succ]
            go_wp2_with (at_builtin; refine wpList_append_ownAt (R := RString) (k := 1) (e := 9) (B := w.heap.size) (l := O) (m := [t]) _ (by rfl) _ _ _ (by rfl) i0 _ 16 Tryz.underlying25 hi0 hz0 hz1 hz2 rfl (by omega) flat_string one_string _ (by exact k0) Ho1.out _ (by exact kg1) (RowAt.one (R := RString) (k := 1) (cs := #[.string t]) Hg.out rfl rfl) (by unfold maxLen; simp; omega) (by simp; omega) (by omega) ?_)
            intro v' w2 hv' hg hr _
            have hb2 : Below w.heap.size w w2 := below_of_grown Hb1.out hs1 hg hr
            have Hb2 := Lib.hid hb2
            have Hv : Hid (OwnAt RString 1 w2 w.heap.size 9 v' ((l.take (i + 1)).map fun x => mkB (JP.quote x.1 ++ 58 :: JP.text x.2))) := Lib.hid (by rw [Htk.out]; exact hv')
            clear hv' hg hr hb2
            go_wp2_with fail
            go_roundg k
            case measure => omega
            case rel => exact ⟨i + 1, by omega, by go_num, Hv, Hb2⟩
def SoundIHB (n : Nat) : Prop := ∀ (v : Value) (x : JV) (w : World), JvAt n [] w v x → (JP.text x).length ≤ 1099511627776 → Calls Tryz.prog 51 #[v] w fun e w' => e = .returned (.bool (JP.sound x)) ∧ w = w'
set_option maxRecDepth 100000 in
set_option maxHeartbeats 1600000 in
theorem cloSound_big {n : Nat} (ih : SoundIHB n) (v : Value) (x : JV) (w : World) (h : JvAt n [] w v x) (hl : (JP.text x).length ≤ 1099511627776) :
    Calls Tryz.prog 87 #[v] w fun e w' => e = .returned (.bool (!JP.sound x)) ∧ w = w' := by
  have H := Lib.hid (ih v x w h hl)
  obtain ⟨b, hb⟩ : ∃ b, JP.sound x = b := ⟨_, rfl⟩
  rw [hb] at H ⊢
  clear ih h hl hb
  go_enter Tryz.func87, Tryz.ntmps87
  go_wp2_with fail
  refine H.out.mono ?_
  rintro E w1 ⟨rfl, rfl⟩
  go_wp2_with fail
  go_ret
  exact ⟨rfl, rfl⟩
set_option maxRecDepth 100000 in
set_option maxHeartbeats 3200000 in
theorem idxSound_big {n : Nat} (ih : SoundIHB n) (v : Value) (l : List JV) (w : World) (h : RowAt (JvR n []) 1 w v l) (hl : l.length ≤ 1099511627776) (hx : ∀ x ∈ l, (JP.text x).length ≤ 1099511627776) :
    Calls Tryz.prog 125 #[v, .func (.func 87) #[] #[]] w fun e w' => (∃ i : Int, e = .returned (.int .i64 i) ∧ (decide (0 ≤ i) = l.any fun x => !JP.sound x)) ∧ w = w' := by
  obtain ⟨a1, c1, rfl, _, _⟩ := h.len
  have H := Lib.hid h
  have Hx := Lib.hid hx
  have HC := Lib.hid (fun v x w h hl => cloSound_big ih v x w h hl)
  clear h hx ih
  go_enter Tryz.func125, Tryz.ntmps125
  go_wp2_with fail
  go_loopg [8] l.length (fun g u8 wr => ∃ i : Nat, i + g = l.length ∧ u8 = .int .i64 (i : Int) ∧ Hid (∀ x ∈ l.take i, (!JP.sound x) = false) ∧ w = wr)
  case atStart => exact ⟨0, by omega, rfl, Lib.hid (fun x hx => by simp at hx), rfl⟩
  case round =>
    obtain ⟨i, hig, rfl, Hall, rfl⟩ := hrel
    cases gk with
    | zero =>
      obtain rfl : i = l.length := by omega
      have Hany : Hid (decide ((0 : Int) ≤ -1) = l.any fun x => !JP.sound x) := by
        refine Lib.hid ?_
        rw [decide_eq_false (by omega), eq_comm, List.any_eq_false]
        intro x hx
        have := Hall.out x (by rw [List.take_of_length_le (Nat.le_refl _)]; exact hx)
        rw [this]; decide
      clear hig
      go_wp2_with fail
      go_ret
      exact ⟨⟨-1, rfl, Hany.out⟩, rfl⟩
    | succ g =>
      have hil : i < l.length := by omega
      obtain ⟨x, hxi⟩ : ∃ x, l[i]? = some x := ⟨l[i]'(by omega), List.getElem?_eq_getElem _⟩
      obtain ⟨b, o, c', hv, _, _, hbs, hcell⟩ := H.out.form (by omega) (by omega)
      cases hv
      obtain ⟨ds, _, hcc, vx, rfl, hvx⟩ := hcell i x hxi
      have e0 : w.cell? ⟨b, o + i, none⟩ = some vx := by simpa using hcc 0 _ rfl
      have q1 : (0 : Int) ≤ (i : Int) := by omega
      have q2 : (i : Int) < (l.length : Int) := by omega
      have Hxi := Lib.hid hxi
      have HC1 := Lib.hid (HC.out vx x w hvx (Hx.out x (List.mem_of_getElem? hxi)))
      clear hcc hcell hvx hxi
      obtain ⟨pb, Hpb⟩ : ∃ pb, Hid ((!JP.sound x) = pb) := ⟨_, Lib.hid rfl⟩
      have h9 := HC1.out
      rw [Hpb.out] at h9
      have HC2 := Lib.hid h9
      clear h9 HC1
      go_wp2_with fail
      refine HC2.out.mono ?_
      rintro E w1 ⟨rfl, rfl⟩
      cases pb with
      | true =>
        have Hany : Hid (decide ((0 : Int) ≤ (i : Int)) = l.any fun x => !JP.sound x) := by
          refine Lib.hid ?_
          rw [decide_eq_true (by omega), eq_comm, List.any_eq_true]
          exact ⟨x, List.mem_of_getElem? Hxi.out, Hpb.out⟩
        go_wp2_with fail
        go_ret
        exact ⟨⟨_, rfl, Hany.out⟩, rfl⟩
      | false =>
        have Hall2 : Hid (∀ x ∈ l.take (i + 1), (!JP.sound x) = false) := Lib.hid fun y hy => by
          rw [List.take_add_one, Hxi.out] at hy
          rcases List.mem_append.1 hy with h | h
          · exact Hall.out y h
          · have h9 : y = x := by simpa using h
            rw [h9]; exact Hpb.out
        go_wp2_with fail
        go_roundg g
        case measure => omega
        case rel => exact ⟨i + 1, by omega, by go_num, Hall2, rfl⟩
set_option maxRecDepth 100000 in
set_option maxHeartbeats 1600000 in
theorem anySound_big {n : Nat} (ih : SoundIHB n) (v : Value) (l : List JV) (w : World) (h : RowAt (JvR n []) 1 w v l) (hl : l.length ≤ 1099511627776) (hx : ∀ x ∈ l, (JP.text x).length ≤ 1099511627776) :
    Calls Tryz.prog 86 #[v, .func (.func 87) #[] #[]] w fun e w' => e = .returned (.bool (!JP.soundL l)) ∧ w = w' := by
  have H := Lib.hid (idxSound_big ih v l w h hl hx)
  obtain ⟨B, HB⟩ : ∃ B, Hid ((!JP.soundL l) = B) := ⟨_, Lib.hid rfl⟩
  have HB2 : Hid ((l.any fun x => !JP.sound x) = B) := Lib.hid (by rw [← HB.out, JP.soundL_any, Bool.not_not])
  rw [HB.out]
  clear h ih hx
  go_enter Tryz.func86, Tryz.ntmps86
  go_wp2_with fail
  refine H.out.mono ?_
  rintro E w1 ⟨⟨i, rfl, hn⟩, rfl⟩
  rw [HB2.out] at hn
  have Hn := Lib.hid hn
  clear hn H
  go_wp2_with fail
  go_ret
  exact ⟨congrArg (fun b => Ending.returned (Value.bool b)) Hn.out, rfl⟩
set_option maxRecDepth 100000 in
set_option maxHeartbeats 6400000 in
theorem sound_big : ∀ (n : Nat), SoundIHB n := by
  intro n
  induction n with
  | zero => intro v x w h; cases h
  | succ n ih =>
    intro v x w h hlen
    have IH := Lib.hid ih
    clear ih
    cases x with
    | nul =>
      obtain rfl : v = .nilIface := h
      obtain ⟨g1, g2, g3, g4, g5⟩ := as_nil
      clear hlen
      go_enter Tryz.func51, Tryz.ntmps51
      go_wp2_with fail
      go_ret
      exact ⟨ret_bool2 (by rw [JP.sound]), rfl⟩
    | bool b =>
      obtain rfl : v = .iface 4 (.bool b) := h
      obtain ⟨g1, g2, g3, g4, g5⟩ := as_bool (.bool b)
      clear hlen
      go_enter Tryz.func51, Tryz.ntmps51
      go_wp2_with fail
      go_ret
      exact ⟨ret_bool2 (by rw [JP.sound]), rfl⟩
    | num k =>
      obtain ⟨rfl, _, _⟩ := h
      obtain ⟨g1, g2, g3, g4, g5⟩ := as_int64 (.int .i64 k)
      clear hlen
      go_enter Tryz.func51, Tryz.ntmps51
      go_wp2_with fail
      go_ret
      exact ⟨ret_bool2 (by rw [JP.sound]), rfl⟩
    | str s =>
      obtain rfl : v = .iface 9 (.string (mkB s)) := h
      obtain ⟨g1, g2, g3, g4, g5⟩ := as_string (.string (mkB s))
      have hsz : (mkB s).size ≤ 1099511627776 := by
        rw [mkB_size]
        have := quote_size s
        rw [JP.text] at hlen
        omega
      have HS := stands_big (mkB s) w hsz
      rw [mkB_list] at HS
      obtain ⟨b, hb⟩ : ∃ b, s.all JP.stand = b := ⟨_, rfl⟩
      rw [hb] at HS
      have HS := Lib.hid HS
      have Hb := Lib.hid hb
      clear hlen hb hsz
      go_enter Tryz.func51, Tryz.ntmps51
      go_wp2_with fail
      refine HS.out.mono ?_
      rintro E w1 ⟨rfl, rfl⟩
      go_wp2_with fail
      go_ret
      exact ⟨ret_bool2 (by rw [JP.sound]; exact Hb.out.symm), rfl⟩
    | list L =>
      obtain ⟨u, rfl, hrow, _⟩ := h
      obtain ⟨a, c, rfl, _, _⟩ := hrow.len
      obtain ⟨g1, g2, g3, g4, g5⟩ := as_list (.slice a L.length c)
      have hll := lenL_text L
      have hln := lenL_len L
      have HA := anySound_big IH.out _ L w hrow (by omega) (fun x hx => by have := lenL_mem hx; omega)
      obtain ⟨b, hb⟩ : ∃ b, JP.soundL L = b := ⟨_, rfl⟩
      rw [hb] at HA
      have HA := Lib.hid HA
      have Hb := Lib.hid hb
      clear hlen hb hll hrow
      go_enter Tryz.func51, Tryz.ntmps51
      go_wp2_with fail
      refine HA.out.mono ?_
      rintro E w1 ⟨rfl, rfl⟩
      go_wp2_with fail
      go_ret
      exact ⟨ret_bool2 (by rw [JP.sound]; exact Hb.out.symm), rfl⟩
    | obj l =>
      obtain ⟨q, rfl, _, _, vn, vv, cn, cv, hrn, _, hrv, _⟩ := h
      obtain ⟨a1, c1, hu1, _, _⟩ := hrn.len
      obtain ⟨a2, c2, hu2, _, _⟩ := hrv.len
      obtain ⟨ln, hln⟩ : ∃ ln, l.length = ln := ⟨_, rfl⟩
      rw [List.length_map, hln] at hu1 hu2
      subst hu1
      subst hu2
      obtain ⟨g1, g2, g3, g4, g5⟩ := as_obj (.pointer (some ⟨q, 0, none⟩))
      have hll := lenF_text l
      have hln2 := lenF_len l
      have hlb : ln ≤ 1099511627776 := by omega
      have Hln := Lib.hid hln
      have Hrn := Lib.hid hrn
      have Hrv := Lib.hid hrv
      have Hlen := Lib.hid (fun x (hx : x ∈ l) => (show x.1.length ≤ 1099511627776 ∧ (JP.text x.2).length ≤ 1099511627776 from by
        have h1 := lenF_mem hx
        have h2 := quote_size x.1
        omega))
      have HS : Hid (JP.sound (.obj l) = l.all fun x => x.1.all JP.stand && JP.sound x.2) := Lib.hid (by rw [JP.sound, JP.soundF_all])
      clear hlen hll hln2 hrn hrv hln
      go_enter Tryz.func51, Tryz.ntmps51
      go_wp2_with fail
      go_loopg [28] ln (fun k u28 wr => ∃ i : Nat, i + k = ln ∧ u28 = .int .i64 (i : Int) ∧ Hid ((l.take i).all (fun x => x.1.all JP.stand && JP.sound x.2) = true) ∧ w = wr)
      case atStart => exact ⟨0, by omega, rfl, Lib.hid rfl, rfl⟩
      case round =>
        obtain ⟨i, hik, rfl, Hall, rfl⟩ := hrel
        cases gk with
        | zero =>
          have hall := Hall.out
          rw [List.take_of_length_le (by rw [Hln.out]; omega)] at hall
          have Ha := Lib.hid hall
          have q1 : ¬ (i : Int) < (ln : Int) := by omega
          clear hall hik
          go_wp2_with fail
          go_ret
          exact ⟨ret_bool2 (by rw [HS.out]; exact Ha.out.symm), rfl⟩
        | succ k =>
          have hil : i < ln := by omega
          obtain ⟨y, hy⟩ : ∃ y, l[i]? = some y := ⟨l[i]'(by rw [Hln.out]; exact hil), List.getElem?_eq_getElem _⟩
          have hlm := Hlen.out y (List.mem_of_getElem? hy)
          obtain ⟨b1, o1, c', hv1, _, _, hbs1, hcell1⟩ := Hrn.out.form (by rw [List.length_map, Hln.out]; omega) (by omega)
          injection hv1 with u1 u2 u3
          subst u1
          clear u2 u3
          obtain ⟨ds1, _, hcc1, hR1⟩ := hcell1 i (mkB y.1) (by rw [List.getElem?_map, hy]; rfl)
          obtain rfl : ds1 = [.string (mkB y.1)] := hR1
          have e0 : w.cell? ⟨b1, o1 + i, none⟩ = some (.string (mkB y.1)) := by simpa using hcc1 0 _ rfl
          obtain ⟨b2, o2, c'', hv2, _, _, hbs2, hcell2⟩ := Hrv.out.form (by rw [List.length_map, Hln.out]; omega) (by omega)
          injection hv2 with u1 u2 u3
          subst u1
          clear u2 u3
          obtain ⟨ds2, _, hcc2, vx, rfl, hvx⟩ := hcell2 i y.2 (by rw [List.getElem?_map, hy]; rfl)
          have e1 : w.cell? ⟨b2, o2 + i, none⟩ = some vx := by simpa using hcc2 0 _ rfl
          have q1 : (0 : Int) ≤ (i : Int) := by omega
          have q2 : (i : Int) < (ln : Int) := by omega
          have hST := stands_big (mkB y.1) w (by rw [mkB_size]; exact hlm.1)
          rw [mkB_list] at hST
          have hSO := IH.out vx y.2 w hvx hlm.2
          obtain ⟨p1, hp1⟩ : ∃ p, y.1.all JP.stand = p := ⟨_, rfl⟩
          obtain ⟨p2, hp2⟩ : ∃ p, JP.sound y.2 = p := ⟨_, rfl⟩
          rw [hp1] at hST
          rw [hp2] at hSO
          have HST := Lib.hid hST
          have HSO := Lib.hid hSO
          have Hy := Lib.hid hy
          have Hp : Hid ((y.1.all JP.stand && JP.sound y.2) = (p1 && p2)) := Lib.hid (by rw [hp1, hp2])
          clear hcell1 hcell2 hcc1 hcc2 hvx hy hp1 hp2 hST hSO hlm
          cases p1 with
          | false =>
            go_wp2_with fail
            refine HST.out.mono ?_
            rintro E w1 ⟨rfl, rfl⟩
            go_wp2_with fail
            go_ret
            exact ⟨ret_bool2 (by rw [HS.out]; exact (not_all_of Hy.out Hp.out).symm), rfl⟩
          | true =>
            go_wp2_with fail
            refine HST.out.mono ?_
            rintro E w1 ⟨rfl, rfl⟩
            go_wp2_with fail
            refine HSO.out.mono ?_
            rintro E w1 ⟨rfl, rfl⟩
            cases p2 with
            | false =>
              go_wp2_with fail
              go_ret
              exact ⟨ret_bool2 (by rw [HS.out]; exact (not_all_of Hy.out Hp.out).symm), rfl⟩
            | true =>
              have HA2 := Lib.hid (all_take_of Hall.out Hy.out Hp.out)
              go_wp2_with fail
              go_roundg k
              case measure => omega
              case rel => exact ⟨i + 1, by omega, by go_num, HA2, rfl⟩
set_option maxRecDepth 100000 in
set_option maxHeartbeats 3200000 in
theorem tell_big (n : Nat) (v : Value) (x : JV) (w : World) (h : JvAt n [] w v x) (hl : (JP.text x).length ≤ 1099511627776) (hl2 : JP.size x ≤ 200 → (JP.text x).length ≤ 1073741824) (hz : JP.size x ≤ 4194304) (ht : TabOK w) :
    Calls Tryz.prog 26 #[v] w fun e w' => e = .returned (.tuple #[.string (mkB (JP.tellT x)), .int .i64 (JP.tellE x)]) ∧ Below w.heap.size w w' := by
  have HZ := size_any n v x w h hz
  have HS := sound_big n v x w h hl
  have ht0 : JP.size x ≤ 200 → _ := fun h9 => text_big n v x w h (hl2 h9) ht
  obtain ⟨S, hS⟩ : ∃ S, JP.sound x = S := ⟨_, rfl⟩
  obtain ⟨M, hM⟩ : ∃ S, JP.size x = S := ⟨_, rfl⟩
  obtain ⟨D, hD⟩ : ∃ S, JP.deep x = S := ⟨_, rfl⟩
  rw [hM, hD] at HZ
  rw [hM] at ht0
  have HT0 := Lib.hid ht0
  clear ht0 hl2
  rw [hS] at HS
  have HZ := Lib.hid HZ
  have HS := Lib.hid HS
  obtain ⟨E0, hE⟩ : ∃ T, JP.tellE x = T := ⟨_, rfl⟩
  obtain ⟨T0, hT⟩ : ∃ T, JP.tellT x = T := ⟨_, rfl⟩
  rw [hE, hT]
  have HE : Hid (E0 = if S = false then 16 else if 10 < D then 4 else if 200 < M then 2 else if 2000 < (JP.text x).length then 2 else 0) := Lib.hid (by rw [← hE, ← hS, ← hM, ← hD]; rfl)
  have HTT : Hid (T0 = if E0 = 0 then JP.text x else []) := Lib.hid (by rw [← hE, ← hT]; rfl)
  clear hS hM hD hE hT ht h
  have no : ∀ e : Int, E0 = e → e ≠ 0 → mkB T0 = ByteArray.empty := fun e h1 h2 => by
    rw [HTT.out, if_neg (by rw [h1]; exact h2)]; rfl
  have No := Lib.hid no
  clear no
  cases S with
  | false =>
    have He : Hid (E0 = 16) := Lib.hid (HE.out.trans (if_pos rfl))
    go_enter Tryz.func26, Tryz.ntmps26
    go_wp2_with fail
    refine HZ.out.mono ?_
    rintro E w1 ⟨rfl, rfl⟩
    go_wp2_with fail
    refine HS.out.mono ?_
    rintro E w1 ⟨rfl, rfl⟩
    go_wp2_with fail
    go_ret2
    exact ⟨ret_tell (No.out 16 He.out (by decide)) He.out.symm, Below.refl _ _⟩
  | true =>
    have HE1 : Hid (E0 = if 10 < D then 4 else if 200 < M then 2 else if 2000 < (JP.text x).length then 2 else 0) := Lib.hid (HE.out.trans (if_neg (by decide)))
    clear HE
    by_cases hd : 10 < D
    · have He : Hid (E0 = 4) := Lib.hid (HE1.out.trans (if_pos hd))
      have p1 : (10 : Int) < (D : Int) := by omega
      clear hd
      go_enter Tryz.func26, Tryz.ntmps26
      go_wp2_with fail
      refine HZ.out.mono ?_
      rintro E w1 ⟨rfl, rfl⟩
      go_wp2_with fail
      refine HS.out.mono ?_
      rintro E w1 ⟨rfl, rfl⟩
      go_wp2_with fail
      go_ret2
      exact ⟨ret_tell (No.out 4 He.out (by decide)) He.out.symm, Below.refl _ _⟩
    have p1 : ¬ (10 : Int) < (D : Int) := by omega
    have HE2 : Hid (E0 = if 200 < M then 2 else if 2000 < (JP.text x).length then 2 else 0) := Lib.hid (HE1.out.trans (if_neg hd))
    clear HE1 hd
    by_cases hm : 200 < M
    · have He : Hid (E0 = 2) := Lib.hid (HE2.out.trans (if_pos hm))
      have p2 : (200 : Int) < (M : Int) := by omega
      clear hm
      go_enter Tryz.func26, Tryz.ntmps26
      go_wp2_with fail
      refine HZ.out.mono ?_
      rintro E w1 ⟨rfl, rfl⟩
      go_wp2_with fail
      refine HS.out.mono ?_
      rintro E w1 ⟨rfl, rfl⟩
      go_wp2_with fail
      go_ret2
      exact ⟨ret_tell (No.out 2 He.out (by decide)) He.out.symm, Below.refl _ _⟩
    have p2 : ¬ (200 : Int) < (M : Int) := by omega
    have HE3 : Hid (E0 = if 2000 < (JP.text x).length then 2 else 0) := Lib.hid (HE2.out.trans (if_neg hm))
    have HT := Lib.hid (HT0.out (by omega))
    clear HE2 hm HT0
    obtain ⟨T, hT⟩ : ∃ T, JP.text x = T := ⟨_, rfl⟩
    rw [hT] at HE3 HT HTT hl
    have hsz := mkB_size T
    by_cases hlg : 2000 < T.length
    · have He : Hid (E0 = 2) := Lib.hid (HE3.out.trans (if_pos hlg))
      have p3 : (2000 : Int) < ((mkB T).size : Int) := by omega
      clear hlg hsz hT
      go_enter Tryz.func26, Tryz.ntmps26
      go_wp2_with fail
      refine HZ.out.mono ?_
      rintro E w1 ⟨rfl, rfl⟩
      go_wp2_with fail
      refine HS.out.mono ?_
      rintro E w1 ⟨rfl, rfl⟩
      go_wp2_with fail
      refine HT.out.mono ?_
      rintro E w1 ⟨rfl, hb⟩
      have HB := Lib.hid hb
      clear hb
      go_wp2_with fail
      go_ret2
      exact ⟨ret_tell (No.out 2 He.out (by decide)) He.out.symm, HB.out⟩
    · have He : Hid (E0 = 0) := Lib.hid (HE3.out.trans (if_neg hlg))
      have p3 : ¬ (2000 : Int) < ((mkB T).size : Int) := by omega
      have HTx : Hid (T0 = T) := Lib.hid (by rw [HTT.out, if_pos He.out])
      clear hlg hsz hT
      go_enter Tryz.func26, Tryz.ntmps26
      go_wp2_with fail
      refine HZ.out.mono ?_
      rintro E w1 ⟨rfl, rfl⟩
      go_wp2_with fail
      refine HS.out.mono ?_
      rintro E w1 ⟨rfl, rfl⟩
      go_wp2_with fail
      refine HT.out.mono ?_
      rintro E w1 ⟨rfl, hb⟩
      have HB := Lib.hid hb
      clear hb
      go_wp2_with fail
      go_ret2
      exact ⟨ret_tell (by rw [HTx.out]) He.out.symm, HB.out⟩
end Go.Proofs.YtnmhjabihfhobaaGreatDoor
namespace Go.Proofs.YtnmhjabihfhobaaGreatDoor
open Go.RowKit
open JP (JV Bs)
namespace Sch
/-- what is filled, and how many came -/
def cameV (S : List GPart) (d : Bs) : JV × Nat := thruC S (fillC S) S.length (partAt S 0) (JP.readL d).1 0
def fillE (S : List GPart) (d : Bs) : Int := if bothE S d ≠ 0 then bothE S d else if 1000 < (cameV S d).2 then 2 else JP.tellE (cameV S d).1
def fillT (S : List GPart) (d : Bs) : Bs := if fillE S d = 0 then JP.tellT (cameV S d).1 else []
theorem keeps_fill {S : List GPart} (hgood : GoodS S) (w0 : World) (gc : Nat) (hgc : w0.heap.size ≤ gc) : Keeps3 (σ := Nat) w0 [gc] (fillC S) (CameAt gc) potC (fun c => c ≤ 1099511627776) where
  below := fun _ _ _ h hb => below_block hb h
  touch := fun _ g _ _ h ht hn _ => ht.block h (fun e => hn (List.mem_singleton.2 e.symm))
  low := fun b hb => by rw [List.mem_singleton.1 hb]; exact hgc
  size := fun p l c => fillC_size (fun k h => (text_dfl hgood k h).2.1) p l c
  down := fun p l c h => Nat.le_trans (foldC_up S p.fields (l, c)).1 h
theorem fields_few {S : List GPart} (h : GoodS S) (k : Int) : (partAt S k).fields.length ≤ 8 := by
  rcases part_cases S k with e | e
  · rw [e]; exact Nat.zero_le _
  · exact (h.2.2 _ _ e).few.1
theorem came_facts {S : List GPart} (hg : GoodS S) (hn : ∀ k, ∀ f ∈ (partAt S k).fields, f.name.size ≤ 1048576) {x : JV} (hx : JP.Fit x) :
    (thruC S (fillC S) S.length (partAt S 0) x 0).2 ≤ 1099511627776 ∧ JP.size (thruC S (fillC S) S.length (partAt S 0) x 0).1 ≤ 4194304 ∧ (JP.text (thruC S (fillC S) S.length (partAt S 0) x 0).1).length ≤ 1099511627776 ∧
      ((thruC S (fillC S) S.length (partAt S 0) x 0).2 ≤ 1000 → JP.size (thruC S (fillC S) S.length (partAt S 0) x 0).1 ≤ 200 → (JP.text (thruC S (fillC S) S.length (partAt S 0) x 0).1).length ≤ 1073741824) := by
  have hd : ∀ k, (partAt S k).deflt ≠ ByteArray.empty → JP.Fit (dfl S k) := fun k h => text_dfl hg k h
  have h1 := thruC_many (s := S) (fun k h => (hd k h).2.1) (fields_few hg) S.length 0 x 0
  have h2 := thruC_size (s := S) (pot := potC) (mk := fillC S) (fun p l c => fillC_size (fun k h => (hd k h).2.1) p l c) S.length (partAt S 0) x 0
  have h3 := thruC_len (s := S) (fun k h => (hd k h).2.2.2) hn S.length 0 x 0
  have h4 := thruC_more S S.length (partAt S 0) x 0
  have h5 := hx.2.1
  have h6 : (JP.text x).length ≤ 2000 := hx.2.2.2
  obtain ⟨v', c', hvc⟩ : ∃ v c, thruC S (fillC S) S.length (partAt S 0) x 0 = (v, c) := ⟨_, _, rfl⟩
  rw [hvc] at h1 h2 h3 h4 ⊢
  have h7 := JP.size_pos x
  unfold aC potC KT at *
  dsimp only at h1 h2 h3 h4 ⊢
  refine ⟨by omega, by omega, by omega, fun h8 h9 => by omega⟩
def FillAt (S : List GPart) (d : Bs) (w : World) (e : Ending) (w' : World) : Prop := e = .returned (.tuple #[.string (mkB (fillT S d)), .int .i64 (fillE S d)]) ∧ Below w.heap.size w w'
set_option maxRecDepth 100000 in
set_option maxHeartbeats 3200000 in
theorem fill_any {S : List GPart} {sa : Option Addr} {sn sc : Nat} {w : World} (hlies : Lies S (.slice sa sn sc) w) (hS : S.length ≤ 1048576) (hn : ∀ k, ∀ f ∈ (partAt S k).fields, f.name.size ≤ 1048576) (d : ByteArray) (hd : d.size ≤ 1048576) :
    Calls Tryz.prog 24 #[.slice sa sn sc, .string d] w (FillAt S d.data.toList w) := by
  obtain ⟨w1, hw1⟩ : ∃ w1, w1 = w.alloc (.cells #[.slice sa sn sc] 38) := ⟨_, rfl⟩
  obtain ⟨gs, hgs⟩ : ∃ g, g = w.heap.size := ⟨_, rfl⟩
  have hb1 : Below w.heap.size w w1 := by rw [hw1]; exact (Below.refl _ w).alloc (Nat.le_refl _) _
  have hx1 : w1.heap[gs]? = some (.cells #[.slice sa sn sc] 38 (0, 0)) := by rw [hw1, hgs]; exact heap_alloc_new w _
  have hl1 := hlies.below hb1
  have HB := Lib.hid (both_any hl1 hS d hd)
  unfold FillAt
  have hok := @both_ok S d.data.toList
  have hfe : fillE S d.data.toList = if bothE S d.data.toList ≠ 0 then bothE S d.data.toList else if 1000 < (cameV S d.data.toList).2 then 2 else JP.tellE (cameV S d.data.toList).1 := rfl
  have hft : fillT S d.data.toList = if fillE S d.data.toList = 0 then JP.tellT (cameV S d.data.toList).1 else [] := rfl
  have hcv : cameV S d.data.toList = thruC S (fillC S) S.length (partAt S 0) (JP.readL d.data.toList).1 0 := rfl
  obtain ⟨CV, hCV⟩ : ∃ x, cameV S d.data.toList = x := ⟨_, rfl⟩
  obtain ⟨FE, hFE⟩ : ∃ x, fillE S d.data.toList = x := ⟨_, rfl⟩
  obtain ⟨FT, hFT⟩ : ∃ x, fillT S d.data.toList = x := ⟨_, rfl⟩
  unfold BothAt at HB
  obtain ⟨b, hb⟩ : ∃ b, bothE S d.data.toList = b := ⟨_, rfl⟩
  rw [hb] at HB hok hfe
  rw [hFE, hCV] at hfe
  rw [hFT, hFE, hCV] at hft
  rw [hCV] at hcv
  rw [hFT, hFE]
  have HLies := Lib.hid hl1
  have HB1 := Lib.hid hb1
  have X1 := Lib.hid hx1
  have c1 := cell_block hx1 0
  have Hft := Lib.hid hft
  clear hlies hl1 hS hd hCV hFE hFT hb hb1 hx1 hft
  by_cases h0 : b = 0
  · subst h0
    obtain ⟨ok1, ok2⟩ := hok rfl
    have hgood := (check_good ok1).1
    have HGood := Lib.hid hgood
    have hfit := JP.read_fit' ok2
    have Hfit := Lib.hid hfit
    obtain ⟨f1, f2, f3, f4⟩ := came_facts hgood hn hfit
    rw [← hcv] at f1 f2 f3 f4
    obtain ⟨x, hx⟩ : ∃ x, (JP.readL d.data.toList).1 = x := ⟨_, rfl⟩
    rw [hx] at HB hcv Hfit
    have Hcv := Lib.hid hcv
    rw [if_neg (fun h => h rfl)] at hfe
    have Hfe := Lib.hid hfe
    have F1 := Lib.hid f1
    have F2 := Lib.hid f2
    have F3 := Lib.hid f3
    have F4 := Lib.hid f4
    obtain ⟨V, C, rfl⟩ : ∃ V C, CV = (V, C) := ⟨CV.1, CV.2, rfl⟩
    have hC : C ≤ 1099511627776 := f1
    clear ok1 ok2 hok hgood hfit hx hcv hfe hn f1 f2 f3 f4
    go_enter Tryz.func24, Tryz.ntmps24
    go_upto_region 1 with fail
    rw [← hw1]
    rw [← hgs]
    clear hw1 hgs
    go_wp2_with fail
    refine HB.out.mono ?_
    rintro E w5 ⟨v, rfl, hj, hb5⟩
    obtain ⟨nj, hj⟩ := hj trivial
    obtain ⟨w6, hw6⟩ : ∃ w6, w6 = w5.alloc (.cells #[.int .i64 0] 3) := ⟨_, rfl⟩
    obtain ⟨gc, hgc⟩ : ∃ g, g = w5.heap.size := ⟨_, rfl⟩
    have hb6 : Below w5.heap.size w5 w6 := by rw [hw6]; exact (Below.refl _ w5).alloc (Nat.le_refl _) _
    have hx6 : CameAt gc 0 w6 := by show w6.heap[gc]? = _; rw [hw6, hgc]; exact heap_alloc_new w5 _
    have hl5 := HLies.out.below hb5
    have x5 := below_block hb5 X1.out
    have c6 := cell_block (below_block hb6 x5) 0
    have hpos : 0 < S.length := HGood.out.1
    have hgs6 : gc < w6.heap.size := blk_lt hx6
    have hth := through_any (f := 48) (caps := #[.pointer (some ⟨gs, 0, none⟩), .pointer (some ⟨gc, 0, none⟩)]) (run_callFunc_body Tryz.func48 (by kernel_rfl) (by kernel_rfl)) HGood.out hl5 (keeps_fill HGood.out w5 gc (by omega)) (makes_fill HGood.out hl5 gs gc x5 (by omega)) S.length 0 nj [gc] v x 0 w6 hpos (by omega) (fun g h => h) (fun g h => by rw [List.mem_singleton.1 h]; exact hgs6) ((hj.fresh (T' := [gc]) (fun b hb => by rw [List.mem_singleton.1 hb]; exact .inr (by omega))).below hb6) hx6 (by
      have := Hfit.out.2.1
      unfold potC; omega) (by
      show (thruC S (fillC S) S.length (partAt S 0) x 0).2 ≤ 1099511627776
      rw [← Hcv.out]
      exact F1.out) hb6
    rw [show ((0 : Nat) : Int) = 0 from rfl, ← Hcv.out] at hth
    have HTh := Lib.hid hth
    have HB5 := Lib.hid (HB1.out.trans (hb5.mono HB1.out.size))
    have hbs := HB1.out.size
    have HE5 := Lib.hid (HLies.out.env.below hb5)
    clear hb5 hj hl5 hpos hth hb6 hx6 x5 hgs6
    go_upto_region 5 with fail
    rw [← hw6]
    rw [← hgc]
    clear hw6 hgc
    go_wp2_with fail
    refine HTh.out.mono ?_
    rintro E w7 ⟨u, m6, rfl, hu, hi7, _, hb7⟩
    have c7 : w7.cell? ⟨gc, 0, none⟩ = some (.int .i64 (C : Int)) := cell_block hi7 0
    have HB7 := Lib.hid (HB5.out.trans (hb7.mono HB5.out.size))
    by_cases hc : 1000 < C
    · have qc : (1000 : Int) < (C : Int) := by omega
      have HFE : Hid (FE = 2) := Lib.hid (by rw [Hfe.out]; exact if_pos hc)
      have HFT : Hid (FT = []) := Lib.hid (by rw [Hft.out, if_neg (by rw [HFE.out]; decide)])
      clear hu hi7 hb7 hc HTh c6
      go_wp2_with fail
      go_ret2
      exact ⟨by rw [HFE.out, HFT.out]; rfl, HB7.out⟩
    · have qc : ¬ (1000 : Int) < (C : Int) := by omega
      have HFE : Hid (FE = JP.tellE V) := Lib.hid (by rw [Hfe.out]; exact if_neg hc)
      have HFT : Hid (FT = JP.tellT V) := Lib.hid (by
        rw [Hft.out]
        by_cases h9 : FE = 0
        · rw [if_pos h9]
        · rw [if_neg h9]
          exact (JP.tellT_no (by rw [← HFE.out]; exact h9)).symm)
      have hte := tell_big m6 u V w7 (hu.fresh (T' := []) (fun b hb => by cases hb)) F3.out (fun h9 => F4.out (by show C ≤ 1000; omega) h9) F2.out (HE5.out.1.below hb7)
      rw [← HFE.out, ← HFT.out] at hte
      have HTe := Lib.hid hte
      clear hu hi7 hb7 hc HTh c6 hte
      go_wp2_with fail
      refine HTe.out.mono ?_
      rintro E w8 ⟨rfl, hb8⟩
      have HB8 := Lib.hid (HB7.out.trans (hb8.mono HB7.out.size))
      clear hb8
      go_wp2_with fail
      go_ret2
      exact ⟨rfl, HB8.out⟩
  · have q : (b != 0) = true := by rw [bne_iff_ne]; exact h0
    rw [if_pos h0] at hfe
    have HFT : Hid (FT = []) := Lib.hid (by rw [Hft.out, if_neg (by rw [hfe]; exact h0)])
    have hft2 := HFT.out
    clear h0 hok hcv hn HFT Hft
    subst hft2
    subst hfe
    go_enter Tryz.func24, Tryz.ntmps24
    go_upto_region 1 with fail
    rw [← hw1]
    rw [← hgs]
    clear hw1 hgs
    go_wp2_with fail
    refine HB.out.mono ?_
    rintro E w5 ⟨v, rfl, _, hb⟩
    have HB5 := Lib.hid (HB1.out.trans (hb.mono HB1.out.size))
    clear hb
    go_wp2_with fail
    go_ret2
    exact ⟨rfl, HB5.out⟩
end Sch
end Go.Proofs.YtnmhjabihfhobaaGreatDoor
namespace Go.Proofs.YtnmhjabihfhobaaGreatDoor
open Go.RowKit
open JP (JV Bs)
namespace Sch
theorem foldC_wf {s : List GPart} (hd : ∀ k, (partAt s k).deflt ≠ ByteArray.empty → JP.wfS (dfl s k)) : ∀ (F : List GField) (l : Flds), JP.wfSF l → JP.wfSF (F.foldl (fillStep s) l)
  | [], _, h => h
  | f :: r, l, h => by
    refine foldC_wf hd r _ ?_
    unfold fillStep
    by_cases hs : skips s l f = true
    · rw [if_pos hs]; exact h
    · rw [if_neg hs]
      have hs2 : (partAt s f.part).deflt ≠ ByteArray.empty := by
        unfold skips at hs
        have : hasN l f = false ∧ ¬ (partAt s f.part).deflt = ByteArray.empty := by simpa using hs
        exact this.2
      exact JP.putS_wf (hd _ hs2) h
theorem wfSL_map {f : JV → JV} (hf : ∀ v, JP.wfS v → JP.wfS (f v)) : ∀ l : List JV, JP.wfSL l → JP.wfSL (l.map f)
  | [], h => h
  | v :: r, h => by
    rw [JP.wfSL] at h
    rw [List.map_cons, JP.wfSL]
    exact ⟨hf v h.1, wfSL_map hf r h.2⟩
theorem wfSF_map {f : Bs × JV → Bs × JV} (hf : ∀ y : Bs × JV, JP.wfS y.2 → JP.wfS (f y).2) : ∀ l : Flds, JP.wfSF l → JP.wfSF (l.map f)
  | [], h => h
  | (n, v) :: r, h => by
    rw [JP.wfSF] at h
    obtain ⟨⟨m, u⟩, hm⟩ : ∃ z, f (n, v) = z := ⟨_, rfl⟩
    have h1 := hf (n, v) h.1
    rw [hm] at h1
    rw [List.map_cons, hm, JP.wfSF]
    exact ⟨h1, wfSF_map hf r h.2⟩
theorem fill_wf {s : List GPart} (hd : ∀ k, (partAt s k).deflt ≠ ByteArray.empty → JP.wfS (dfl s k)) : ∀ (n : Nat) (p : GPart) (v : JV), JP.wfS v → JP.wfS (fillV s n p v)
  | 0, _, _, h => h
  | n + 1, p, v, h => by
    have ih := fill_wf hd n
    unfold fillV at ih ⊢
    rw [thruV]
    split
    · exact h
    · cases v with
      | list l =>
        show JP.wfS (.list (l.map _))
        rw [JP.wfS] at h ⊢
        exact wfSL_map (fun v hv => ih _ v hv) l h
      | obj l =>
        show JP.wfS (.obj ((fillO s p l).map _))
        rw [JP.wfS] at h ⊢
        refine ⟨?_, wfSF_map (fun y hy => ?_) _ (foldC_wf hd _ _ h.2)⟩
        · refine List.pairwise_map.2 (List.Pairwise.imp ?_ (fold_srt s p.fields l h.1))
          intro a b hab
          rw [kidV_name, kidV_name]; exact hab
        · unfold kidV
          split
          · exact ih _ _ hy
          · exact hy
      | _ => exact h
/-- what is filled, where it is told -/
theorem fills_ok {S : List GPart} {d : Bs} (h : fillE S d = 0) : bothE S d = 0 ∧ (cameV S d).1 = fillV S S.length (partAt S 0) (JP.readL d).1 ∧ JP.Fit (fillV S S.length (partAt S 0) (JP.readL d).1) ∧ fillT S d = JP.text (fillV S S.length (partAt S 0) (JP.readL d).1) := by
  have h0 := h
  unfold fillE at h
  by_cases hb : bothE S d ≠ 0
  · rw [if_pos hb] at h; exact absurd h hb
  · rw [if_neg hb] at h
    have hb := Decidable.not_not.1 hb
    by_cases hc : 1000 < (cameV S d).2
    · rw [if_pos hc] at h; exact absurd h (by decide)
    · rw [if_neg hc] at h
      obtain ⟨h1, h2⟩ := both_ok hb
      have hg := (check_good h1).1
      have hv : (cameV S d).1 = fillV S S.length (partAt S 0) (JP.readL d).1 := thruC_fill S S.length (partAt S 0) (JP.readL d).1 0 (by unfold cameV at hc; omega)
      have hw := fill_wf (s := S) (fun k hk => JP.wf_S.1 _ (text_dfl hg k hk).1) S.length (partAt S 0) (JP.readL d).1 (JP.wf_S.1 _ (JP.read_fit' h2).1)
      rw [hv] at h
      obtain ⟨hf, ht⟩ := JP.tell_ok hw h
      refine ⟨hb, hv, hf, ?_⟩
      unfold fillT
      rw [if_pos h0, hv, ht]
theorem fills_read {S : List GPart} {d : Bs} (h : fillE S d = 0) : JP.readL (fillT S d) = (fillV S S.length (partAt S 0) (JP.readL d).1, 0) ∧ bothE S (fillT S d) = 0 := by
  obtain ⟨h1, h2, h3, h4⟩ := fills_ok h
  have hr := JP.fit_read h3
  rw [← h4] at hr
  refine ⟨hr, ?_⟩
  unfold bothE
  rw [if_pos (both_ok h1).1, hr]
theorem fills_again {S : List GPart} {d : Bs} (h : fillE S d = 0) : fillE S (fillT S d) = 0 ∧ fillT S (fillT S d) = fillT S d := by
  obtain ⟨h1, h2, h3, h4⟩ := fills_ok h
  obtain ⟨h5, h6⟩ := fills_read h
  have hc : cameV S (fillT S d) = (fillV S S.length (partAt S 0) (JP.readL d).1, 0) := by
    unfold cameV
    rw [h5]
    exact thru_again S S.length (partAt S 0) (JP.readL d).1 0
  have he : fillE S (fillT S d) = 0 := by
    unfold fillE
    rw [if_neg (by rw [h6]; exact fun h => h rfl), hc]
    exact (JP.tell_fit h3).1
  refine ⟨he, ?_⟩
  have : fillT S (fillT S d) = JP.tellT (cameV S (fillT S d)).1 := if_pos he
  rw [this, hc, h4]
  exact (JP.tell_fit h3).2
theorem names_small {S : List GPart} (h : (S.map partB).sum + 1 ≤ 1048576) : ∀ k, ∀ f ∈ (partAt S k).fields, f.name.size ≤ 1048576 := by
  intro k f hf
  rcases part_cases S k with e | e
  · rw [e] at hf; simp [noPart] at hf
  · have hmem : ∀ (l : List GPart), ∀ p ∈ l, partB p ≤ (l.map partB).sum := fun l => by
      induction l with
      | nil => intro p hp; cases hp
      | cons q r ih =>
        intro p hp
        rw [List.map_cons, List.sum_cons]
        rcases List.mem_cons.1 hp with rfl | hp
        · omega
        · have := ih p hp; omega
    have hb : partB (partAt S k) ≤ 1048576 := by have := hmem S _ (List.mem_of_getElem? e); omega
    have hfl : ∀ (l : List GField), ∀ p ∈ l, fieldB p ≤ (l.map fieldB).sum := fun l => by
      induction l with
      | nil => intro p hp; cases hp
      | cons q r ih =>
        intro p hp
        rw [List.map_cons, List.sum_cons]
        rcases List.mem_cons.1 hp with rfl | hp
        · omega
        · have := ih p hp; omega
    have h2 := hfl _ f hf
    unfold partB at hb
    unfold fieldB at h2 hb
    omega
end Sch
end Go.Proofs.YtnmhjabihfhobaaGreatDoor
namespace Go.Proofs.YtnmhjabihfhobaaGreatDoor
open Go.Shelf
def Tryz.leafSort_ren : Go.Shelf.Ren := ⟨fun | 6 => 66 | 15 => 53 | 14 => 112 | 28 => 97 | 29 => 98 | 20 => 147 | 21 => 148 | 22 => 149 | 23 => 150 | 24 => 151 | 25 => 152 | 26 => 153 | 27 => 154 | 46 => 176 | 47 => 127 | 48 => 128 | 49 => 177 | 50 => 178 | 57 => 191 | n => n, fun | 22 => 65 | 24 => 68 | 25 => 116 | 3 => 3 | 39 => 98 | 0 => 0 | 53 => 146 | 55 => 148 | 4 => 4 | 46 => 139 | 45 => 138 | 50 => 77 | 5 => 5 | 9 => 9 | 66 => 179 | 70 => 183 | 76 => 200 | 77 => 86 | n => n, fun | n => n⟩
theorem Tryz.leafSort : Go.Proofs.SlLaysF0.n6 Tryz.prog Tryz.leafSort_ren := {
  mixed := by kernel_rfl
  f6 := ⟨Tryz.f66.name, by decide, Tryz.func66.trans (congrArg some (by kernel_rfl))⟩
  f14 := ⟨Tryz.f112.name, by decide, Tryz.func112.trans (congrArg some (by kernel_rfl))⟩
  f15 := Tryz.func53.trans (congrArg some (by kernel_rfl))
  f20 := ⟨Tryz.f147.name, by decide, Tryz.func147.trans (congrArg some (by kernel_rfl))⟩
  f21 := ⟨Tryz.f148.name, by decide, Tryz.func148.trans (congrArg some (by kernel_rfl))⟩
  f22 := ⟨Tryz.f149.name, by decide, Tryz.func149.trans (congrArg some (by kernel_rfl))⟩
  f23 := ⟨Tryz.f150.name, by decide, Tryz.func150.trans (congrArg some (by kernel_rfl))⟩
  f24 := ⟨Tryz.f151.name, by decide, Tryz.func151.trans (congrArg some (by kernel_rfl))⟩
  f25 := ⟨Tryz.f152.name, by decide, Tryz.func152.trans (congrArg some (by kernel_rfl))⟩
  f26 := ⟨Tryz.f153.name, by decide, Tryz.func153.trans (congrArg some (by kernel_rfl))⟩
  f27 := ⟨Tryz.f154.name, by decide, Tryz.func154.trans (congrArg some (by kernel_rfl))⟩
  f28 := Tryz.func97.trans (congrArg some (by kernel_rfl))
  f29 := Tryz.func98.trans (congrArg some (by kernel_rfl))
  f46 := ⟨Tryz.f176.name, by decide, Tryz.func176.trans (congrArg some (by kernel_rfl))⟩
  f47 := Tryz.func127.trans (congrArg some (by kernel_rfl))
  f48 := Tryz.func128.trans (congrArg some (by kernel_rfl))
  f49 := ⟨Tryz.f177.name, by decide, Tryz.func177.trans (congrArg some (by kernel_rfl))⟩
  f50 := ⟨Tryz.f178.name, by decide, Tryz.func178.trans (congrArg some (by kernel_rfl))⟩
  f57 := ⟨Tryz.f191.name, by decide, Tryz.func191.trans (congrArg some (by kernel_rfl))⟩
  t0 := Tryz.underlying0
  a0 := Tryz.isAgg0
  z0 := Tryz.sizeOf0
  v0 := Tryz.zeroValue0
  t3 := Tryz.underlying3
  a3 := Tryz.isAgg3
  z3 := Tryz.sizeOf3
  v3 := Tryz.zeroValue3
  t4 := Tryz.underlying4
  a4 := Tryz.isAgg4
  z4 := Tryz.sizeOf4
  v4 := Tryz.zeroValue4
  t5 := Tryz.underlying5
  a5 := Tryz.isAgg5
  z5 := Tryz.sizeOf5
  v5 := Tryz.zeroValue5
  t9 := Tryz.underlying9
  a9 := Tryz.isAgg9
  z9 := Tryz.sizeOf9
  v9 := Tryz.zeroValue9
  t22 := Tryz.underlying65
  a22 := Tryz.isAgg65
  z22 := Tryz.sizeOf65
  v22 := Tryz.zeroValue65
  t25 := Tryz.underlying116
  a25 := Tryz.isAgg116
  z25 := Tryz.sizeOf116
  v25 := Tryz.zeroValue116
  t39 := Tryz.underlying98
  a39 := Tryz.isAgg98
  z39 := Tryz.sizeOf98
  v39 := Tryz.zeroValue98
  t45 := Tryz.underlying138
  a45 := Tryz.isAgg138
  z45 := Tryz.sizeOf138
  v45 := Tryz.zeroValue138
  t46 := Tryz.underlying139
  a46 := Tryz.isAgg139
  z46 := Tryz.sizeOf139
  v46 := Tryz.zeroValue139
  t50 := Tryz.underlying77
  a50 := Tryz.isAgg77
  z50 := Tryz.sizeOf77
  v50 := Tryz.zeroValue77
  t53 := Tryz.underlying146
  a53 := Tryz.isAgg146
  z53 := Tryz.sizeOf146
  v53 := Tryz.zeroValue146
  t55 := Tryz.underlying148
  a55 := Tryz.isAgg148
  z55 := Tryz.sizeOf148
  v55 := Tryz.zeroValue148
  t66 := Tryz.underlying179
  a66 := Tryz.isAgg179
  z66 := Tryz.sizeOf179
  v66 := Tryz.zeroValue179
  t70 := Tryz.underlying183
  a70 := Tryz.isAgg183
  z70 := Tryz.sizeOf183
  v70 := Tryz.zeroValue183
  t76 := Tryz.underlying200
  a76 := Tryz.isAgg200
  z76 := Tryz.sizeOf200
  v76 := Tryz.zeroValue200
  t77 := Tryz.underlying86
  a77 := Tryz.isAgg86
  z77 := Tryz.sizeOf86
  v77 := Tryz.zeroValue86 }
def Tryz.lays106_ren : Go.Shelf.Ren := ⟨fun | 106 => 68 | 213 => 113 | 265 => 155 | n => n, fun | 9 => 9 | 3 => 3 | n => n, fun | n => n⟩
theorem Tryz.lays106 : Go.Proofs.Lays.n106 Tryz.prog Tryz.lays106_ren := {
  mixed := by kernel_rfl
  f106 := Tryz.func68.trans (congrArg some (by kernel_rfl))
  f213 := Tryz.func113.trans (congrArg some (by kernel_rfl))
  f265 := Tryz.func155.trans (congrArg some (by kernel_rfl))
  t3 := Tryz.underlying3
  a3 := Tryz.isAgg3
  z3 := Tryz.sizeOf3
  v3 := Tryz.zeroValue3
  t9 := Tryz.underlying9
  a9 := Tryz.isAgg9
  z9 := Tryz.sizeOf9
  v9 := Tryz.zeroValue9 }
open Go.RowKit in
/-- strings.Compare: "Compare returns an integer comparing two strings lexicographically. The result will be 0 if a == b, -1 if a < b, and +1 if a > b.": IT RETURNS 'Lib.compareBytes a b'; the world is as it was. (LAID: no walk: one application.) -/
theorem Tryz.strings_Compare (a b : ByteArray) (w : World) :
    Calls Tryz.prog 68 #[.string a, .string b] w fun e w' => e = .returned (.int .i64 (Lib.compareBytes a.data.toList b.data.toList)) ∧ w' = w := Any.strings_Compare Tryz.lays106 a b w
end Go.Proofs.YtnmhjabihfhobaaGreatDoor
namespace Go.Proofs.YtnmhjabihfhobaaGreatDoor
open Go.RowKit Go.Shelf Go.Sort
open JP (JV Bs)
theorem cmpB_self : ∀ a : List UInt8, Lib.compareBytes a a = 0
  | [] => rfl
  | x :: r => by unfold Lib.compareBytes; simp [cmpB_self r, UInt8.lt_irrefl]
theorem cmpB_trans : ∀ a b c : List UInt8, Lib.compareBytes a b < 0 → Lib.compareBytes b c < 0 → Lib.compareBytes a c < 0
  | _, [], [], _, h2 => by simp [Lib.compareBytes] at h2
  | [], [], _ :: _, _, _ => by simp [Lib.compareBytes]
  | _ :: _, [], _ :: _, h1, _ => by simp [Lib.compareBytes] at h1
  | _, _ :: _, [], _, h2 => by simp [Lib.compareBytes] at h2
  | [], _ :: _, _ :: _, _, _ => by simp [Lib.compareBytes]
  | x :: xs, y :: ys, z :: zs, h1, h2 => by
    have ih := cmpB_trans xs ys zs
    simp only [Lib.compareBytes, UInt8.lt_iff_toNat_lt] at h1 h2 ⊢
    by_cases p1 : x.toNat < y.toNat <;> by_cases p2 : y.toNat < x.toNat <;> by_cases p3 : y.toNat < z.toNat <;> by_cases p4 : z.toNat < y.toNat <;> by_cases p5 : x.toNat < z.toNat <;> by_cases p6 : z.toNat < x.toNat <;> first
      | (exfalso; omega)
      | (simp only [p1, p2, p3, p4, p5, p6, if_true, if_false] at h1 h2 ⊢; first | exact ih h1 h2 | omega)
theorem cmpB_ntrans : ∀ a b c : List UInt8, ¬ Lib.compareBytes a b < 0 → ¬ Lib.compareBytes b c < 0 → ¬ Lib.compareBytes a c < 0
  | [], [], [], _, _ => by simp [Lib.compareBytes]
  | _ :: _, [], [], _, _ => by simp [Lib.compareBytes]
  | _, [], _ :: _, _, h2 => by simp [Lib.compareBytes] at h2
  | [], _ :: _, _, h1, _ => by simp [Lib.compareBytes] at h1
  | _ :: _, _ :: _, [], _, _ => by simp [Lib.compareBytes]
  | x :: xs, y :: ys, z :: zs, h1, h2 => by
    have ih := cmpB_ntrans xs ys zs
    simp only [Lib.compareBytes, UInt8.lt_iff_toNat_lt] at h1 h2 ⊢
    by_cases p1 : x.toNat < y.toNat <;> by_cases p2 : y.toNat < x.toNat <;> by_cases p3 : y.toNat < z.toNat <;> by_cases p4 : z.toNat < y.toNat <;> by_cases p5 : x.toNat < z.toNat <;> by_cases p6 : z.toNat < x.toNat <;> first
      | (exfalso; omega)
      | (simp only [p1, p2, p3, p4, p5, p6, if_true, if_false] at h1 h2 ⊢; first | exact ih h1 h2 | omega)
instance inhJV : Inhabited JV := ⟨.nul⟩
abbrev LC := Value × Value × Leaf
def oneV (v : Value) : Value := if v.oneCell' = true then v else .nilIface
theorem oneV_one (v : Value) : (oneV v).oneCell' = true := by
  unfold oneV
  split
  · assumption
  · rfl
theorem oneV_of {v : Value} (h : v.oneCell' = true) : oneV v = v := if_pos h
def encLf (p : LC) : List Value := [.string (mkB (pathP p.2.2.1)), oneV p.1, oneV p.2.1]
def cfLf (p q : LC) : Int := Lib.compareBytes (pathP p.2.2.1) (pathP q.2.2.1)
theorem ltLf (p q : LC) : ltOf cfLf p q = decide (Lib.compareBytes (pathP p.2.2.1) (pathP q.2.2.1) < 0) := rfl
theorem swoLf : SWO (ltOf cfLf) where
  irrefl x := by rw [ltLf, cmpB_self]; rfl
  trans x y z h1 h2 := by
    rw [ltLf, decide_eq_true_iff] at *
    exact cmpB_trans _ _ _ h1 h2
  ntrans x y z h1 h2 := by
    rw [ltLf, decide_eq_false_iff_not] at *
    exact cmpB_ntrans _ _ _ h1 h2
set_option maxHeartbeats 1000000 in
theorem leafCmp (x y : LC) (W : World) : Calls Tryz.prog 67 #[.agg (encLf x).toArray, .agg (encLf y).toArray] W fun e w' => e = .returned (.int .i64 (cfLf x y)) ∧ ∃ q os', w' = Go.Sort.grow (W.drewN q) os' := by
  obtain ⟨a1, a2, lx⟩ := x
  obtain ⟨b1, b2, ly⟩ := y
  have hcon := fun W' => Tryz.strings_Compare (mkB (pathP lx.1)) (mkB (pathP ly.1)) W'
  rw [show cfLf (a1, a2, lx) (b1, b2, ly) = Lib.compareBytes (mkB (pathP lx.1)).data.toList (mkB (pathP ly.1)).data.toList by rw [mkB_list, mkB_list]; rfl]
  generalize Lib.compareBytes (mkB (pathP lx.1)).data.toList (mkB (pathP ly.1)).data.toList = r at hcon ⊢
  unfold encLf
  generalize mkB (pathP lx.1) = s1 at hcon ⊢
  generalize mkB (pathP ly.1) = s2 at hcon ⊢
  generalize oneV (a1, a2, lx).1 = c1
  generalize oneV (a1, a2, lx).2.1 = c2
  generalize oneV (b1, b2, ly).1 = d1
  generalize oneV (b1, b2, ly).2.1 = d2
  show Calls Tryz.prog 67 #[.agg #[.string s1, c1, c2], .agg #[.string s2, d1, d2]] W _
  go_enter Tryz.func67, Tryz.ntmps67
  go_wp2_with (go_at_call 68; refine (hcon _).mono ?_; rintro e w' ⟨rfl, rfl⟩)
  go_ret
  exact ⟨rfl, 0, _, by rw [alloc_eq_grow, alloc_eq_grow, grow_grow]; rfl⟩
theorem leafLays (blk off size : Nat) (w : World) : CmpLays Tryz.prog 67 #[] encLf 3 cfLf blk off size w := fun _ _ _ _ x y => leafCmp x y _
theorem encLf_len (x : LC) : (encLf x).length = 3 := rfl
theorem encLf_one (x : LC) : ∀ v ∈ encLf x, v.oneCell' = true := fun v hv => by
  unfold encLf at hv
  simp only [List.mem_cons, List.not_mem_nil, or_false] at hv
  rcases hv with rfl | rfl | rfl
  · rfl
  · exact oneV_one _
  · exact oneV_one _
/-- the flat row, cell by cell -/
theorem flatK_get (d : List LC) : (flatK encLf 3 d.toArray).toList = (d.map encLf).flatten := by
  have hk : ∀ cs ∈ d.map encLf, cs.length = 3 := fun cs h => by
    obtain ⟨x, _, rfl⟩ := List.mem_map.1 h
    rfl
  have hl : (d.map encLf).flatten.length = d.length * 3 := by rw [flat_len hk, List.length_map]
  refine List.ext_getElem? fun t => ?_
  by_cases ht : t < d.length * 3
  · have e1 : t = t / 3 * 3 + t % 3 := by omega
    have hj : t / 3 < d.length := by omega
    have hi : t % 3 < 3 := by omega
    have e2 : (d.map encLf).flatten[t]? = some (encLf d[t / 3])[t % 3] := by
      conv => lhs; rw [e1]
      exact get_flat hk (by rw [List.getElem?_map, List.getElem?_eq_getElem hj]; rfl) (List.getElem?_eq_getElem (by rw [encLf_len]; exact hi))
    rw [e2]
    have e3 := get_flatK encLf 3 d.toArray t (by simpa using ht)
    have e4 : t < (flatK encLf 3 d.toArray).size := by rw [size_flatK]; simpa using ht
    rw [getElem!_pos _ t e4] at e3
    rw [Array.getElem?_toList, Array.getElem?_eq_getElem e4, e3, getElem!_pos d.toArray (t / 3) (by simpa using hj), getElem!_pos _ (t % 3) (by rw [encLf_len]; exact hi)]
    rfl
  · rw [List.getElem?_eq_none (by rw [Array.length_toList, size_flatK]; simp; omega), List.getElem?_eq_none (by rw [hl]; omega)]
/-- another order of the same leaves -/
theorem own_sorted {w0 w : World} {B g n c : Nat} {l : List Leaf} (h : OwnAt (LeafX w0) 3 w B 68 (.slice (some ⟨g, 0, none⟩) n c) l) :
    n = l.length ∧ g < w.heap.size ∧ ∃ d : List LC, d.length = l.length ∧ HoldsK encLf 3 w g 0 d.toArray ∧ ∀ (q : Nat) (d' : List LC), d'.Perm d → (d'.map (·.2.2)).Perm l ∧
      OwnAt (LeafX w0) 3 (putRowK encLf 3 (Go.Sort.ahead w q) g 0 d'.toArray) B 68 (.slice (some ⟨g, 0, none⟩) n c) (d'.map (·.2.2)) ∧ RowKit.Below B w (putRowK encLf 3 (Go.Sort.ahead w q) g 0 d'.toArray) ∧ SameBut 68 w (putRowK encLf 3 (Go.Sort.ahead w q) g 0 d'.toArray) ∧ (putRowK encLf 3 (Go.Sort.ahead w q) g 0 d'.toArray).heap.size = w.heap.size := by
  obtain ⟨css, c1, c2, ⟨c3, c4⟩, c5⟩ := h
  rcases c4 with ⟨h0, _⟩ | ⟨g', cap, cur, hv, hB, hh, hle, hm, hzc, ht⟩
  · cases h0
  · injection hv with u1 u2 u3
    injection u1 with u1
    injection u1 with u1
    subst u1; subst u2; subst u3
    have hgl : g < w.heap.size := by
      rcases Nat.lt_or_ge g w.heap.size with h1 | h1
      · exact h1
      · rw [Array.getElem?_eq_none h1] at hh; cases hh
    obtain ⟨d, hd1, hd2⟩ := pick_each (fun j (p : LC) => ∃ cs x, css[j]? = some cs ∧ l[j]? = some x ∧ p.2.2 = x ∧ encLf p = cs) l.length (fun j hj => by
      have hj1 : css[j]? = some (css[j]'(by omega)) := List.getElem?_eq_getElem _
      have hj2 : l[j]? = some l[j] := List.getElem?_eq_getElem _
      obtain ⟨sv, vv, k, e1, e2, e3⟩ := c5 j _ _ hj1 hj2
      refine ⟨(sv, vv, l[j]), _, _, hj1, hj2, rfl, ?_⟩
      rw [e1]
      unfold encLf
      rw [oneV_of (strX_cell e2), oneV_of (one_jv k [] w0 [vv] _ ⟨vv, rfl, e3⟩ vv (List.mem_singleton.2 rfl))])
    have hdl : d.map (·.2.2) = l := by
      refine List.ext_getElem? fun j => ?_
      rw [List.getElem?_map]
      by_cases hj : j < l.length
      · have hp : d[j]? = some (d[j]'(by omega)) := List.getElem?_eq_getElem _
        obtain ⟨cs, x, _, e2, e3, _⟩ := hd2 j _ hp
        rw [hp, e2, ← e3]
        rfl
      · rw [List.getElem?_eq_none (by omega), List.getElem?_eq_none (by omega)]; rfl
    have hdc : d.map encLf = css := by
      refine List.ext_getElem? fun j => ?_
      rw [List.getElem?_map]
      by_cases hj : j < l.length
      · have hp : d[j]? = some (d[j]'(by omega)) := List.getElem?_eq_getElem _
        obtain ⟨cs, x, e1, _, _, e4⟩ := hd2 j _ hp
        rw [hp, e1, ← e4]
        rfl
      · rw [List.getElem?_eq_none (by omega), List.getElem?_eq_none (by omega)]; rfl
    have hR : ∀ p ∈ d, LeafX w0 w (encLf p) p.2.2 := fun p hp => by
      obtain ⟨j, hj, rfl⟩ := List.getElem_of_mem hp
      obtain ⟨cs, x, e1, e2, e3, e4⟩ := hd2 j _ (List.getElem?_eq_getElem hj)
      rw [e3, e4]
      exact c5 j cs x e1 e2
    refine ⟨rfl, hgl, d, hd1, ?_, ?_⟩
    · intro j hj
      rw [size_flatK] at hj
      have hj3 : j < l.length * 3 := by simpa [hd1] using hj
      refine ⟨?_, free_block hh _⟩
      have e4 : j < (flatK encLf 3 d.toArray).size := by rw [size_flatK]; exact hj
      rw [getElem!_pos _ j e4, Nat.zero_add, cell_block hh]
      have e5 : (flatK encLf 3 d.toArray).toList[j]? = cur.toList[j]? := by
        rw [flatK_get, hdc, ← ht, List.getElem?_take_of_lt hj3]
      rw [Array.getElem?_toList, Array.getElem?_toList, Array.getElem?_eq_getElem e4] at e5
      exact e5.symm
    · intro q d' hp
      have hl' : d'.length = l.length := by rw [hp.length_eq, hd1]
      obtain ⟨W, hW⟩ : ∃ W, putRowK encLf 3 (Go.Sort.ahead w q) g 0 d'.toArray = W := ⟨_, rfl⟩
      rw [hW]
      have hw : W.heap[g]? = some (.cells (putCells id 0 (flatK encLf 3 d'.toArray) cur) 68 (0, 0)) := by
        rw [← hW]
        unfold putRowK putRow mapBlock
        show (Array.modify w.heap g _)[g]? = _
        rw [Array.getElem?_modify, if_pos rfl, hh]
        rfl
      have ho : ∀ k, k ≠ g → W.heap[k]? = w.heap[k]? := fun k hk => by
        rw [← hW]
        unfold putRowK putRow mapBlock
        show (Array.modify w.heap g _)[k]? = _
        rw [Array.getElem?_modify, if_neg (Ne.symm hk)]
      have hs : W.heap.size = w.heap.size := by
        rw [← hW]
        unfold putRowK putRow mapBlock
        show (Array.modify w.heap g _).size = _
        rw [Array.size_modify]
      have hsb : SameBut 68 w W := fun b cs t fr hb htn => by
        rw [ho b (fun e => by rw [e, hh] at hb; injection hb with hb; injection hb with _ hb _; exact htn hb.symm)]
        exact hb
      have hk' : ∀ cs ∈ d'.map encLf, cs.length = 3 := fun cs h => by
        obtain ⟨x, _, rfl⟩ := List.mem_map.1 h
        rfl
      refine ⟨by rw [← hdl]; exact hp.map _, ⟨d'.map encLf, by rw [List.length_map, List.length_map], hk', ⟨by rw [flat_len hk', List.length_map, List.length_map], .inr ⟨g, c, _, by rw [List.length_map, hl'], hB, hw, by rw [List.length_map, hl']; exact hle, hm, by unfold putCells; rw [Array.size_mapIdx]; exact hzc, ?_⟩⟩, ?_⟩, ⟨by rw [← hW]; rfl, by rw [← hW]; rfl, by rw [← hW]; rfl, by rw [hs]; exact Nat.le_refl _, fun k hk => ho k (by omega)⟩, hsb, hs⟩
      · rw [← flatK_get, List.length_map, hl']
        apply List.ext_getElem?
        intro t
        by_cases htl : t < l.length * 3
        · have htc : t < cur.size := by rw [hzc]; omega
          have e4 : t < (flatK encLf 3 d'.toArray).size := by rw [size_flatK]; simp [hl']; omega
          rw [List.getElem?_take_of_lt htl, Array.getElem?_toList, Array.getElem?_toList]
          unfold putCells
          rw [Array.getElem?_mapIdx, Array.getElem?_eq_getElem htc, Option.map_some, if_pos ⟨by omega, by omega⟩, Nat.sub_zero, getElem!_pos _ t e4, Array.getElem?_eq_getElem e4]
          rfl
        · rw [List.getElem?_eq_none (by rw [List.length_take]; omega), List.getElem?_eq_none (by rw [Array.length_toList, size_flatK]; simp [hl']; omega)]
      · intro j cs x hcs hx
        rw [List.getElem?_map] at hcs hx
        obtain ⟨p, hp1, rfl⟩ := Option.map_eq_some_iff.1 hcs
        rw [hp1] at hx
        obtain rfl : p.2.2 = x := by simpa using hx
        exact leafX_staysX w0 _ _ _ _ hsb (hR p (hp.mem_iff.1 (List.mem_of_getElem? hp1)))
theorem leafSort_any (v : Value) (l : List Leaf) (B : Nat) (w0 w : World) (h : OwnAt (LeafX w0) 3 w B 68 v l) (hB : B ≤ w.heap.size) (hl : l.length ≤ 1073741824) :
    Calls Tryz.prog 66 #[v, .func (.func 67) #[] #[]] w fun e w' => e = .returned (.tuple #[]) ∧ ∃ l', l'.Perm l ∧ OwnAt (LeafX w0) 3 w' B 68 v l' ∧ RowKit.Below B w w' ∧ SameBut 68 w w' := by
  rcases h.form with ⟨rfl, rfl⟩ | ⟨g, c, rfl, _, hg, _, _⟩
  · refine (AnyF.slices_SortFunc_none Tryz.leafSort none 0 _ w).mono fun e w' ⟨h1, h2⟩ => ?_
    subst h2
    exact ⟨h1, [], List.Perm.refl _, OwnAt.nil _, Below.refl _ _, fun _ _ _ _ h _ => h⟩
  · obtain ⟨_, _, d, hd1, hH, ho⟩ := own_sorted h
    have eg : ∀ args w, (callFunc 67 args).run Tryz.prog w = .ok (.enter 67 args) w := enters_of Tryz.func67 (by kernel_rfl) rfl
    have hs := AnyQ.slices_SortFunc Tryz.leafSort 3 Tryz.isAgg68 Tryz.sizeOf68 encLf encLf_len encLf_one cfLf swoLf 67 #[] g 0 c d.toArray w eg (leafLays g 0 _ w) hH hg (by simp [hd1]; omega)
    have hsz : d.toArray.size = l.length := by simp [hd1]
    rw [hsz] at hs
    refine hs.mono fun e w' ⟨h1, d', n, os, hp, _, h2⟩ => ?_
    have hpp : d'.toList.Perm d := by
      obtain ⟨p1, _, p3⟩ := hp
      have e1 : d'.size = l.length := by rw [p1, hsz]
      have e2 : d'.extract 0 l.length = d' := by rw [← e1]; exact Array.extract_size
      have e3 : d.toArray.extract 0 l.length = d.toArray := by rw [← hsz]; exact Array.extract_size
      rw [e2, e3] at p3
      exact p3
    obtain ⟨o0, o1, o2, o3, o4⟩ := ho n d'.toList hpp
    rw [Array.toArray_toList] at o1 o2 o3 o4
    have hgr : RowKit.Below (putRowK encLf 3 (Go.Sort.ahead w n) g 0 d').heap.size (putRowK encLf 3 (Go.Sort.ahead w n) g 0 d') w' := by
      rw [h2]
      exact Lib.below_grow _ _ (Nat.le_refl _) 0 os
    exact ⟨h1, _, o0, o1.belowX (leafX_staysX _) hgr, o2.trans (hgr.mono (by rw [o4]; exact hB)), o3.trans (sameBut_below hgr)⟩
end Go.Proofs.YtnmhjabihfhobaaGreatDoor
namespace Go.Proofs.YtnmhjabihfhobaaGreatDoor
open Go.RowKit
open JP (JV Bs)
theorem alloc_ge (w : World) (o : Obj) : w.heap.size ≤ (w.alloc o).heap.size := ((Below.refl 0 w).alloc (Nat.zero_le _) o).size
theorem alloc_sz (w : World) (o : Obj) : (w.alloc o).heap.size = w.heap.size + 1 := by unfold World.alloc; simp
theorem gather_all : ∀ n, GatIn n
  | 0 => fun _ _ _ _ _ _ _ _ h => by cases h
  | n + 1 => gather_step n (gather_all n)
theorem strX_nil (e : TypeId) (w : World) : StrX e w (.slice none 0 0) [] := ⟨.inl ⟨rfl, rfl⟩, fun h => absurd h (by decide)⟩
set_option maxRecDepth 100000 in
set_option maxHeartbeats 3200000 in
theorem leaves_any (n : Nat) (v : Value) (x : JV) (w : World) (hv : JvAt n [] w v x) (hl : JP.size x ≤ 1048576) (ht : (JP.text x).length ≤ 20000) (hm : ∃ m, MaxOK m w) :
    Calls Tryz.prog 37 #[v] w fun e w' => ∃ v' l', e = .returned v' ∧ l'.Perm (JP.gat [] x) ∧ OwnAt (LeafX w) 3 w' w.heap.size 68 v' l' ∧ Below w.heap.size w w' := by
  have HG := Lib.hid (gather_all n v (.slice none 0 0) (.slice none 0 0) x [] [] w w hv (strX_nil _ _) (OwnAt.nil _) (Below.refl _ _) (by simpa using hl) (by simpa using ht) hm)
  have hgl := JP.gat_len [] x
  clear hv hm ht
  go_enter Tryz.func37, Tryz.ntmps37
  go_wp2_with fail
  refine HG.out.mono ?_
  rintro E w1 ⟨v1, rfl, ho, hb, _, hz⟩
  rw [List.nil_append] at ho
  have HS := Lib.hid (leafSort_any v1 _ _ w w1 ho hz (by omega))
  have HB := Lib.hid hb
  clear ho hb HG
  go_wp2_with fail
  refine HS.out.mono ?_
  rintro E w2 ⟨rfl, l', hp, ho, hb, _⟩
  have HO := Lib.hid ho
  have HP := Lib.hid hp
  have HB2 := Lib.hid (HB.out.trans hb)
  clear ho hp hb HS HB hz
  go_wp2_with fail
  go_ret
  exact ⟨_, l', rfl, HP.out, HO.out, HB2.out⟩
/-- the paths of the leaves -/
def LeavesAt (L : List (List Bs × JV)) (er : Int) (w : World) (e : Ending) (w' : World) : Prop :=
  ∃ (v : Value) (l' : List Leaf), e = .returned (.tuple #[v, .int .i64 er]) ∧ l'.Perm L ∧ OwnAt RString 1 w' w.heap.size 9 v (l'.map fun p => mkB (pathP p.1)) ∧ Below w.heap.size w w'
def leavesL (s : Bs) : List (List Bs × JV) := if (JP.readL s).2 = 0 then JP.gat [] (JP.readL s).1 else []
set_option maxRecDepth 100000 in
set_option maxHeartbeats 6400000 in
theorem leavesDoc_any (s : ByteArray) (w : World) (hs : s.size ≤ 1048576) (hm : ∃ m, MaxOK m w) :
    Calls Tryz.prog 18 #[.string s] w (LeavesAt (leavesL s.data.toList) (JP.readL s.data.toList).2 w) := by
  obtain ⟨mx, hm⟩ := hm
  obtain ⟨j0, hj0, hy0, hy1, hy2⟩ := info_parts Tryz.infoStr
  have HR := Lib.hid (read_any s w hs)
  obtain ⟨x, hx⟩ : ∃ x, (JP.readL s.data.toList).1 = x := ⟨_, rfl⟩
  obtain ⟨er, her⟩ : ∃ er, (JP.readL s.data.toList).2 = er := ⟨_, rfl⟩
  have hre : JP.readL s.data.toList = (x, er) := Prod.ext hx her
  have hL : leavesL s.data.toList = if er = 0 then JP.gat [] x else [] := by unfold leavesL; rw [hx, her]
  rw [hx, her] at HR
  rw [her, hL]
  have Hm := Lib.hid hm
  have Hre := Lib.hid hre
  clear hx her hre hL hm
  by_cases h0 : er = 0
  · subst h0
    rw [if_pos rfl]
    obtain ⟨g1, g2, g3, g4, g5⟩ := JP.readL_good Hre.out
    have hgl := JP.gat_len [] x
    have Hg : Hid (JP.size x ≤ 1048576 ∧ (JP.text x).length ≤ 20000 ∧ (JP.gat [] x).length ≤ 200) := Lib.hid ⟨by omega, by omega, by omega⟩
    clear g1 g2 g3 g4 g5 hgl
    go_enter Tryz.func18, Tryz.ntmps18
    go_wp2_with fail
    refine HR.out.mono ?_
    rintro E w1 ⟨v1, rfl, ⟨n, hj⟩, hb⟩
    have HB1 := Lib.hid hb
    have HL := Lib.hid (leaves_any n v1 x w1 hj Hg.out.1 Hg.out.2.1 ⟨mx, Hm.out.below hb⟩)
    clear hj hb HR
    go_wp2_with fail
    refine HL.out.mono ?_
    rintro E w2 ⟨v2, l', rfl, hp, ho, hb⟩
    obtain ⟨a2, c2, e2, _⟩ := ho.row.len
    obtain ⟨ln, hln⟩ : ∃ m, l'.length = m := ⟨_, rfl⟩
    rw [hln] at e2
    subst e2
    have HP := Lib.hid hp
    have Hln := Lib.hid hln
    have hln9 : ln ≤ 200 := by rw [← hln, hp.length_eq]; exact Hg.out.2.2
    have HRow := Lib.hid ho.row
    have HB2 := Lib.hid (HB1.out.trans (hb.mono HB1.out.size))
    clear hp ho hb hln HL HB1
    go_wp2_with fail
    go_loopg [6, 20] ln (fun k u6 u20 wr => ∃ i : Nat, i + k = ln ∧ u20 = .int .i64 (i : Int) ∧ Hid (OwnAt RString 1 wr w2.heap.size 9 u6 ((l'.take i).map fun p => mkB (pathP p.1))) ∧ Hid (Below w2.heap.size w2 wr))
    case atStart => exact ⟨0, by omega, rfl, Lib.hid (OwnAt.nil _), Lib.hid (Below.refl _ _)⟩
    case round =>
      obtain ⟨i, hik, rfl, HO, HR⟩ := hrel
      cases gk with
      | zero =>
        have hil : i = ln := by omega
        subst hil
        have q9 : ¬ (i : Int) < (i : Int) := by omega
        have htk : l'.take i = l' := List.take_of_length_le (by rw [Hln.out]; exact Nat.le_refl _)
        rw [htk] at HO
        have HO' := Lib.hid (HO.out.mono (B' := w.heap.size) HB2.out.size)
        have HBn := Lib.hid (HB2.out.trans (HR.out.mono HB2.out.size))
        clear htk HO HR
        go_wp2_with fail
        go_ret2
        exact ⟨_, l', rfl, HP.out, HO'.out, HBn.out⟩
      | succ k =>
        have hil : i < ln := by omega
        obtain ⟨y, hy⟩ : ∃ y, l'[i]? = some y := ⟨l'[i]'(by rw [Hln.out]; exact hil), List.getElem?_eq_getElem _⟩
        obtain ⟨b1, o1, c', hv1, _, _, hbs1, hcell1⟩ := HRow.out.form (by rw [Hln.out]; omega) (by omega)
        injection hv1 with u1 u2 u3
        subst u1
        clear u2 u3
        obtain ⟨ds1, _, hcc1, sv, vv, kk, hds, hsx, hjv⟩ := hcell1 i y hy
        subst hds
        obtain ⟨d1, f1, hsv, _, _⟩ := hsx.1.len
        rw [hsv] at hcc1
        have e0 : wr.cell? ⟨b1, o1 + i * 3, none⟩ = some (.string (mkB (pathP y.1))) := (HR.out.cell (p := ⟨b1, _, none⟩) hbs1).trans (by simpa using hcc1 0 _ rfl)
        have e1 : wr.cell? ⟨b1, o1 + i * 3 + 1, none⟩ = some (.slice d1 (y.1.map mkB).length f1) := (HR.out.cell (p := ⟨b1, _, none⟩) hbs1).trans (hcc1 1 _ rfl)
        have e2 : wr.cell? ⟨b1, o1 + i * 3 + 2, none⟩ = some vv := (HR.out.cell (p := ⟨b1, _, none⟩) hbs1).trans (hcc1 2 _ rfl)
        have hvf := jv_shape hjv
        obtain ⟨sl, hsl⟩ : ∃ m, (y.1.map mkB).length = m := ⟨_, rfl⟩
        rw [hsl] at e1
        obtain ⟨P, hP⟩ : ∃ P, mkB (pathP y.1) = P := ⟨_, rfl⟩
        rw [hP] at e0
        have Hst : Hid ((l'.take (i + 1)).map (fun p => mkB (pathP p.1)) = (l'.take i).map (fun p => mkB (pathP p.1)) ++ [P]) := Lib.hid (by rw [List.take_add_one, hy, List.map_append, ← hP]; rfl)
        have hll : ((l'.take i).map fun p => mkB (pathP p.1)).length = i := by rw [List.length_map, List.length_take, Hln.out]; omega
        have Hll := Lib.hid hll
        have q1 : (0 : Int) ≤ (i : Int) := by omega
        have q2 : (i : Int) < (ln : Int) := by omega
        clear hcell1 hcc1 hy hsx hjv hsv hbs1 hsl hP hll
        rcases hvf with rfl | ⟨t9, u9, rfl⟩
        · skip
          obtain ⟨W1, hW1⟩ : ∃ W, W = (wr.alloc (.cells #[.string P, .slice d1 sl f1, .nilIface] 68)).alloc (.cells #[.string P] 9) := ⟨_, rfl⟩
          have hbl : Below w2.heap.size w2 W1 := by rw [hW1]; exact ((HR.out).alloc HR.out.size _).alloc (Nat.le_trans HR.out.size (alloc_ge wr _)) _
          have hg1 : Below wr.heap.size wr W1 := by rw [hW1]; exact ((Below.refl _ wr).alloc (Nat.le_refl _) _).alloc (alloc_ge wr _) _
          have HO1 := Lib.hid (HO.out.below stays_string hg1)
          have hr1 : RowAt RString 1 W1 (.slice (some ⟨wr.heap.size + 1, 0, none⟩) 1 1) [P] := by rw [hW1, ← alloc_sz wr (.cells #[.string P, .slice d1 sl f1, .nilIface] 68)]; exact RowAt.one (R := RString) (k := 1) (cs := #[.string P]) (heap_alloc_new _ _) rfl rfl
          have HR1 := Lib.hid hr1
          have HBl := Lib.hid hbl
          clear hg1 hr1 hbl
          have Hs2 : Hid (w2.heap.size ≤ W1.heap.size) := Lib.hid HBl.out.size
          go_wp2_with (at_builtin; rw [← hW1]; refine wpList_append_ownAt (R := RString) (k := 1) (e := 9) (B := w2.heap.size) (l := (l'.take i).map fun p => mkB (pathP p.1)) (m := [P]) _ (by rfl) _ _ _ (by rfl) j0 _ 16 Tryz.underlying25 hj0 hy0 hy1 hy2 rfl (by omega) flat_string one_string _ (by rfl) HO1.out _ (by rfl) HR1.out (by rw [Hll.out]; simp only [List.length_cons, List.length_nil]; exact Nat.le_trans (m := 300) (by omega) (by decide)) (by rw [Hll.out]; simp only [List.length_cons, List.length_nil]; omega) Hs2.out ?_)
          intro v8 w8 hv8 hg8 hr8 _
          rw [← hW1] at hg8
          have HBn : Hid (Below w2.heap.size w2 w8) := Lib.hid (below_of_grown HBl.out Hs2.out hg8 hr8)
          have HOn : Hid (OwnAt RString 1 w8 w2.heap.size 9 v8 ((l'.take (i + 1)).map fun p => mkB (pathP p.1))) := Lib.hid (by rw [Hst.out, List.map_take]; exact hv8)
          clear hv8 hg8 hr8 Hs2 HO1 HR1 HBl hW1
          go_wp2_with fail
          go_roundg k
          case measure => omega
          case rel => exact ⟨i + 1, by omega, by go_num, HOn, HBn⟩
        · skip
          obtain ⟨W1, hW1⟩ : ∃ W, W = (wr.alloc (.cells #[.string P, .slice d1 sl f1, .iface t9 u9] 68)).alloc (.cells #[.string P] 9) := ⟨_, rfl⟩
          have hbl : Below w2.heap.size w2 W1 := by rw [hW1]; exact ((HR.out).alloc HR.out.size _).alloc (Nat.le_trans HR.out.size (alloc_ge wr _)) _
          have hg1 : Below wr.heap.size wr W1 := by rw [hW1]; exact ((Below.refl _ wr).alloc (Nat.le_refl _) _).alloc (alloc_ge wr _) _
          have HO1 := Lib.hid (HO.out.below stays_string hg1)
          have hr1 : RowAt RString 1 W1 (.slice (some ⟨wr.heap.size + 1, 0, none⟩) 1 1) [P] := by rw [hW1, ← alloc_sz wr (.cells #[.string P, .slice d1 sl f1, .iface t9 u9] 68)]; exact RowAt.one (R := RString) (k := 1) (cs := #[.string P]) (heap_alloc_new _ _) rfl rfl
          have HR1 := Lib.hid hr1
          have HBl := Lib.hid hbl
          clear hg1 hr1 hbl
          have Hs2 : Hid (w2.heap.size ≤ W1.heap.size) := Lib.hid HBl.out.size
          go_wp2_with (at_builtin; rw [← hW1]; refine wpList_append_ownAt (R := RString) (k := 1) (e := 9) (B := w2.heap.size) (l := (l'.take i).map fun p => mkB (pathP p.1)) (m := [P]) _ (by rfl) _ _ _ (by rfl) j0 _ 16 Tryz.underlying25 hj0 hy0 hy1 hy2 rfl (by omega) flat_string one_string _ (by rfl) HO1.out _ (by rfl) HR1.out (by rw [Hll.out]; simp only [List.length_cons, List.length_nil]; exact Nat.le_trans (m := 300) (by omega) (by decide)) (by rw [Hll.out]; simp only [List.length_cons, List.length_nil]; omega) Hs2.out ?_)
          intro v8 w8 hv8 hg8 hr8 _
          rw [← hW1] at hg8
          have HBn : Hid (Below w2.heap.size w2 w8) := Lib.hid (below_of_grown HBl.out Hs2.out hg8 hr8)
          have HOn : Hid (OwnAt RString 1 w8 w2.heap.size 9 v8 ((l'.take (i + 1)).map fun p => mkB (pathP p.1))) := Lib.hid (by rw [Hst.out, List.map_take]; exact hv8)
          clear hv8 hg8 hr8 Hs2 HO1 HR1 HBl hW1
          go_wp2_with fail
          go_roundg k
          case measure => omega
          case rel => exact ⟨i + 1, by omega, by go_num, HOn, HBn⟩
  · have n0 : (er != 0) = true := by rw [bne_iff_ne]; exact h0
    rw [if_neg h0]
    clear h0
    go_enter Tryz.func18, Tryz.ntmps18
    go_wp2_with fail
    refine HR.out.mono ?_
    rintro E w1 ⟨v1, rfl, _, hb⟩
    have HB1 := Lib.hid hb
    clear hb HR
    go_wp2_with fail
    go_ret2
    exact ⟨_, [], rfl, List.Perm.refl _, OwnAt.nil _, HB1.out⟩
end Go.Proofs.YtnmhjabihfhobaaGreatDoor
namespace Go.Proofs.YtnmhjabihfhobaaGreatDoor
open Go.RowKit
open JP (JV Bs)
namespace Sch
theorem mem_gatG : ∀ {l : Flds} {way : List Bs} {p : List Bs × JV}, p ∈ JP.gatF way l → ∃ n w, (n, w) ∈ l ∧ p ∈ JP.gat (way ++ [n]) w
  | [], _, _, h => by rw [JP.gatF] at h; cases h
  | (n, w) :: r, way, p, h => by
    rw [JP.gatF] at h
    rcases List.mem_append.1 h with h | h
    · exact ⟨n, w, List.mem_cons_self .., h⟩
    · obtain ⟨m, v, h1, h2⟩ := mem_gatG h
      exact ⟨m, v, List.mem_cons_of_mem _ h1, h2⟩
theorem gat_there : ∀ x : JV, ∀ base : List Bs, JP.wf x → ∀ p ∈ JP.gat base x, (∃ r, p.1 = base ++ r ∧ JP.atW x r = some p.2) ∧ (p.1.map fun s => s.length + 1).sum ≤ (base.map fun s => s.length + 1).sum + (JP.text x).length := by
  refine JP.JV.byGet (P := fun x => ∀ base : List Bs, JP.wf x → ∀ p ∈ JP.gat base x, (∃ r, p.1 = base ++ r ∧ JP.atW x r = some p.2) ∧ (p.1.map fun s => s.length + 1).sum ≤ (base.map fun s => s.length + 1).sum + (JP.text x).length) (fun x ih => ?_)
  intro base hf p hp
  rcases JP.obj_or x with ⟨o, rfl⟩ | hn
  · obtain ⟨so, fo⟩ := JP.wf_obj hf
    rw [JP.gat] at hp
    by_cases ho : o.isEmpty = true
    · rw [if_pos ho] at hp
      have : o = [] := by simpa using ho
      subst this
      by_cases hb : base.isEmpty = true
      · rw [if_pos hb] at hp; cases hp
      · rw [if_neg hb] at hp
        obtain rfl := List.mem_singleton.1 hp
        exact ⟨⟨[], by simp, by rw [JP.atW]⟩, Nat.le_add_right _ _⟩
    · rw [if_neg ho] at hp
      obtain ⟨n, w, k1, k2⟩ := mem_gatG hp
      have hg := JP.get_memS so k1
      obtain ⟨⟨r, e1, e2⟩, e3⟩ := ih o n w rfl hg (base ++ [n]) (JP.wf_at fo hg) p k2
      rw [way_sum2] at e3
      obtain ⟨i, hi⟩ := List.getElem?_of_mem k1
      have h2 := JP.name_len hi
      have h3 := lenF_text o
      refine ⟨⟨n :: r, by rw [e1, List.append_assoc]; rfl, ?_⟩, by omega⟩
      rw [JP.atW_cons]
      show (JP.get n o).bind _ = _
      rw [hg]; exact e2
  · rw [JP.gat_other hn] at hp
    obtain rfl := List.mem_singleton.1 hp
    exact ⟨⟨[], by simp, by rw [JP.atW]⟩, Nat.le_add_right _ _⟩
theorem at_deepS : ∀ {l : List Bs} {v c : JV}, JP.atW v l = some c → l.length + JP.deep c ≤ JP.deep v
  | [], v, c, h => by rw [JP.atW] at h; cases h; simp
  | s :: r, v, c, h => by
    rw [JP.atW_cons] at h
    obtain ⟨x, h1, h2⟩ := Option.bind_eq_some_iff.1 h
    have := at_deepS h2
    have := (JP.child_len h1).2.2
    rw [List.length_cons]; omega
/-- what SchemaFills asks of each leaf -/
theorem leaf_ok {S : List GPart} {d : Bs} (h : fillE S d = 0) : (JP.readL d).2 = 0 ∧ ∀ p ∈ JP.gat [] (JP.readL d).1, (pathP p.1).length ≤ 1048576 ∧ JP.getE d (pathP p.1) = 0 ∧ JP.getE (fillT S d) (pathP p.1) = 0 ∧
    (JP.getT d (pathP p.1) = JP.getT (fillT S d) (pathP p.1) ∨ JP.kindT (JP.getT d (pathP p.1)) = 5 ∨ JP.kindT (JP.getT d (pathP p.1)) = 6) := by
  obtain ⟨h1, _, _, _⟩ := fills_ok h
  obtain ⟨h5, _⟩ := fills_read h
  have hr := (both_ok h1).2
  have hf := JP.read_fit' hr
  refine ⟨hr, fun p hp => ?_⟩
  obtain ⟨⟨r, e1, e2⟩, e3⟩ := gat_there _ [] hf.1 p hp
  rw [List.nil_append] at e1
  have ht : (JP.text (JP.readL d).1).length ≤ 2000 := hf.2.2.2
  have hl : p.1.length ≤ 10 := by have := at_deepS e2; have := hf.2.2.1; rw [e1]; omega
  have ep : pathP p.1 = joinK p.1 := if_neg (by omega)
  have hst := steps_join p.1 hl
  have hjb := join_bound p.1
  simp only [List.map_nil, List.sum_nil] at e3
  rw [← e1] at e2
  have g1 := (JP.get_of (d := d) (p := joinK p.1) (x := (JP.readL d).1) (l := p.1) (Prod.ext rfl hr) hst).1 p.2 e2
  obtain ⟨c', f1, f2⟩ := fill_at S p.1 S.length (partAt S 0) (JP.readL d).1 p.2 e2
  have g2 := (JP.get_of (d := fillT S d) (p := joinK p.1) h5 hst).1 c' f1
  have hpf : JP.Fit p.2 := JP.at_fit hf e2
  have hkt : JP.kindT (JP.text p.2) = JP.kind p.2 := by unfold JP.kindT; rw [JP.fit_read hpf]; rfl
  rw [ep]
  refine ⟨by omega, g1.1, g2.1, ?_⟩
  rw [g1.2, g2.2, hkt]
  by_cases k5 : JP.kind p.2 = 5
  · exact .inr (.inl k5)
  · by_cases k6 : JP.kind p.2 = 6
    · exact .inr (.inr k6)
    · rw [f2 k5 k6]; exact .inl rfl
set_option maxRecDepth 100000 in
set_option maxHeartbeats 12800000 in
theorem schemaFills_walkV (sa : Option Addr) (sn sc : Nat) (S : List GPart) (a : ByteArray) (w : World) (hrow : RowAt PartR 9 w (.slice sa sn sc) S) (hbulk : (S.map partB).sum + 1 + (a.data.toList.length + 1 + 0) ≤ 1048576) (hE : Env w) :
    Calls Tryz.prog 10 #[.slice sa sn sc, .string a] w fun e w' => e = .returned (.bool true) ∧ Below w.heap.size w w' := by
  have ha : a.size ≤ 1048576 := by rw [list_size a] at hbulk; omega
  obtain ⟨hS, hsm⟩ := small_of (S := S) (by omega)
  have hnm := names_small (S := S) (by omega)
  have hlies : Lies S (.slice sa sn sc) w := ⟨hrow, hsm, hE⟩
  have HF := Lib.hid (fill_any hlies hS hnm a ha)
  have HR := Lib.hid (fun (w' : World) (hb : Below w.heap.size w w') => refuses_any w' (hE.below hb))
  unfold FillAt at HF
  by_cases h1 : fillE S a.data.toList = 0
  · obtain ⟨he, hp⟩ := leaf_ok h1
    obtain ⟨a1, a2⟩ := fills_again h1
    have hTl : (fillT S a.data.toList).length ≤ 2000 := by rw [(fills_ok h1).2.2.2]; exact (fills_ok h1).2.2.1.2.2.2
    obtain ⟨T1, hT1⟩ : ∃ T, fillT S a.data.toList = T := ⟨_, rfl⟩
    rw [hT1] at a1 a2 hp hTl
    rw [hT1, h1] at HF
    have hT1s : (mkB T1).size ≤ 1048576 := by rw [mkB_size]; omega
    have HF2 := fun (w' : World) (hb : Below w.heap.size w w') => fill_any (hlies.below hb) hS hnm (mkB T1) hT1s
    unfold FillAt at HF2
    rw [mkB_list, a1, a2] at HF2
    have HF2 := Lib.hid HF2
    have HLv := fun (w' : World) (h : Below w.heap.size w w') => leavesDoc_any a w' ha (hE.below h).2.2
    obtain ⟨L, hL⟩ : ∃ L, leavesL a.data.toList = L := ⟨_, rfl⟩
    have hL2 : L = JP.gat [] (JP.readL a.data.toList).1 := by rw [← hL]; unfold leavesL; rw [if_pos he]
    have hLl : L.length ≤ 200 := by rw [hL2]; exact Nat.le_trans (JP.gat_len _ _) (JP.read_fit' he).2.1
    rw [← hL2] at hp
    rw [hL, he] at HLv
    have HLv := Lib.hid HLv
    have HP := Lib.hid (fun (p : Leaf) (hm : p ∈ L) (w' : World) (h : Below w.heap.size w w') => (by
      obtain ⟨k1, k2, k3, k4⟩ := hp p hm
      have r1 := pget_any a (mkB (pathP p.1)) w' ha (by rw [mkB_size]; exact k1) (hE.below h)
      rw [mkB_list, k2] at r1
      exact r1 : Calls Tryz.prog 15 #[.string a, .string (mkB (pathP p.1))] w' (AnsAt (JP.getT a.data.toList (pathP p.1)) 0 w')))
    have HPt := Lib.hid (fun (p : Leaf) (hm : p ∈ L) (w' : World) (h : Below w.heap.size w w') => (by
      obtain ⟨k1, k2, k3, k4⟩ := hp p hm
      have r1 := pget_any (mkB T1) (mkB (pathP p.1)) w' hT1s (by rw [mkB_size]; exact k1) (hE.below h)
      rw [mkB_list, mkB_list, k3] at r1
      exact r1 : Calls Tryz.prog 15 #[.string (mkB T1), .string (mkB (pathP p.1))] w' (AnsAt (JP.getT T1 (pathP p.1)) 0 w')))
    have HK := Lib.hid (fun (p : Leaf) (w' : World) => (by
      have r1 := kindJ_any (mkB (JP.getT a.data.toList (pathP p.1))) w' (by rw [mkB_size]; have := JP.getT_len a.data.toList (pathP p.1); omega)
      rw [mkB_list] at r1
      exact r1 : Calls Tryz.prog 16 #[.string (mkB (JP.getT a.data.toList (pathP p.1)))] w' fun e w' => e = .returned (.tuple #[.int .i64 (JP.kindT (JP.getT a.data.toList (pathP p.1))), .int .i64 (JP.canonE (JP.getT a.data.toList (pathP p.1)))]) ∧ _))
    have HQ := Lib.hid (fun (p : Leaf) (hm : p ∈ L) => (hp p hm).2.2.2)
    have qs : ((mkB T1).toList == (mkB T1).toList) = true := by simp
    have qs2 : ((mkB T1).toList != (mkB T1).toList) = false := by simp
    clear hrow hbulk hE ha hS hsm hnm hlies h1 he hp a1 a2 hTl hT1 hT1s hL hL2
    go_enter Tryz.func10, Tryz.ntmps10
    go_wp2_with fail
    refine HF.out.mono ?_
    rintro E w1 ⟨rfl, hb1⟩
    have HB1 := Lib.hid hb1
    clear hb1 HF
    go_wp2_with fail
    refine (HR.out w1 HB1.out).mono ?_
    rintro E w2 ⟨rfl, hb2⟩
    have HB2 := Lib.hid (HB1.out.trans (hb2.mono HB1.out.size))
    clear hb2 HR
    go_wp2_with fail
    refine (HF2.out w2 HB2.out).mono ?_
    rintro E w3 ⟨rfl, hb3⟩
    have HB3 := Lib.hid (HB2.out.trans (hb3.mono HB2.out.size))
    clear hb3 HF2
    go_wp2_with fail
    refine (HLv.out w3 HB3.out).mono ?_
    rintro E w4 ⟨v3, l', rfl, hpm, ho, hb⟩
    obtain ⟨a3, c3, e3, _⟩ := ho.row.len
    rw [List.length_map] at e3
    obtain ⟨ln, hln⟩ : ∃ n, l'.length = n := ⟨_, rfl⟩
    rw [hln] at e3
    subst e3
    have Hln := Lib.hid hln
    have hlnl : ln ≤ 200 := by rw [← hln, hpm.length_eq]; exact hLl
    have HRow := Lib.hid ho.row
    have HPm := Lib.hid hpm
    have HB4 := Lib.hid (HB3.out.trans (hb.mono HB3.out.size))
    clear hb ho hln hLl hpm HLv
    go_wp2_with fail
    go_loopg [51] ln (fun k u51 wr => ∃ (i : Nat), i + k = ln ∧ u51 = .int .i64 (i : Int) ∧ Hid (Below w4.heap.size w4 wr))
    case atStart => exact ⟨0, by omega, rfl, Lib.hid (Below.refl _ _)⟩
    case round =>
      obtain ⟨i, hik, rfl, HRr⟩ := hrel
      have HBr : Hid (Below w.heap.size w wr) := Lib.hid (HB4.out.trans (HRr.out.mono HB4.out.size))
      cases gk with
      | zero =>
        have hil : ln = i := by omega
        subst hil
        have q9 : ¬ (ln : Int) < (ln : Int) := by omega
        go_wp2_with fail
        go_ret
        exact ⟨rfl, HBr.out⟩
      | succ k9 =>
        have hil : i < ln := by omega
        obtain ⟨y, hy⟩ : ∃ y, l'[i]? = some y := ⟨l'[i]'(by rw [Hln.out]; exact hil), List.getElem?_eq_getElem _⟩
        obtain ⟨b1, o1, c', hv1, _, _, hbs1, hcell1⟩ := HRow.out.form (by rw [List.length_map, Hln.out]; omega) (by omega)
        injection hv1 with u1 u2 u3
        subst u1
        clear u2 u3
        obtain ⟨ds1, _, hcc1, hR1⟩ := hcell1 i (mkB (pathP y.1)) (by rw [List.getElem?_map, hy]; rfl)
        obtain rfl : ds1 = [.string (mkB (pathP y.1))] := hR1
        have e0 : wr.cell? ⟨b1, o1 + i, none⟩ = some (.string (mkB (pathP y.1))) := (HRr.out.cell (p := ⟨b1, _, none⟩) hbs1).trans (by simpa using hcc1 0 _ rfl)
        have q1 : (0 : Int) ≤ (i : Int) := by omega
        have q2 : (i : Int) < (ln : Int) := by omega
        have hmem : y ∈ L := HPm.out.mem_iff.1 (List.mem_of_getElem? hy)
        have HG1 := Lib.hid (HP.out y hmem)
        have HG2 := Lib.hid (HPt.out y hmem)
        have HG3 := Lib.hid (HK.out y)
        have hq := HQ.out y hmem
        obtain ⟨X, hX⟩ : ∃ X, JP.getT a.data.toList (pathP y.1) = X := ⟨_, rfl⟩
        obtain ⟨Y, hY⟩ : ∃ X, JP.getT T1 (pathP y.1) = X := ⟨_, rfl⟩
        rw [hX] at HG1 HG3 hq
        rw [hY] at HG2 hq
        obtain ⟨KX, hKX⟩ : ∃ k, JP.kindT X = k := ⟨_, rfl⟩
        rw [hKX] at HG3 hq
        obtain ⟨P, hP⟩ : ∃ P, mkB (pathP y.1) = P := ⟨_, rfl⟩
        rw [hP] at HG1 HG2 e0
        have Hq := Lib.hid hq
        clear hcell1 hcc1 hy hbs1 hmem hX hY hKX hP hq
        go_wp2_with fail
        refine (HG1.out wr HBr.out).mono ?_
        rintro E w5 ⟨rfl, hb⟩
        have HR5 := Lib.hid (HRr.out.trans (hb.mono HRr.out.size))
        have HB5 := Lib.hid (HBr.out.trans (hb.mono HBr.out.size))
        clear hb e0
        go_wp2_with fail
        refine (HG2.out w5 HB5.out).mono ?_
        rintro E w6 ⟨rfl, hb⟩
        have HR6 := Lib.hid (HR5.out.trans (hb.mono HR5.out.size))
        clear hb
        go_wp2_with fail
        refine (HG3.out w6).mono ?_
        rintro E w7 ⟨rfl, hb⟩
        have HR7 := Lib.hid (HR6.out.trans (hb.mono HR6.out.size))
        clear hb
        by_cases k6 : KX = 6
        · have t6 : (KX != 6) = false := by rw [k6]; rfl
          clear k6
          go_wp2_with fail
          go_roundg k9
          case measure => omega
          case rel => exact ⟨i + 1, by omega, by go_num, HR7⟩
        · have t6 : (KX != 6) = true := by rw [bne_iff_ne]; exact k6
          by_cases k5 : KX = 5
          · have t5 : (KX != 5) = false := by rw [k5]; rfl
            clear k6 k5
            go_wp2_with fail
            go_roundg k9
            case measure => omega
            case rel => exact ⟨i + 1, by omega, by go_num, HR7⟩
          · have t5 : (KX != 5) = true := by rw [bne_iff_ne]; exact k5
            have hXY : X = Y := Hq.out.elim id fun h => h.elim (fun h => absurd h k5) (fun h => absurd h k6)
            subst hXY
            have tq : ((mkB X).toList != (mkB X).toList) = false := by simp
            clear k6 k5
            go_wp2_with fail
            go_roundg k9
            case measure => omega
            case rel => exact ⟨i + 1, by omega, by go_num, HR7⟩
  · have hft : fillT S a.data.toList = [] := by unfold fillT; rw [if_neg h1]
    rw [hft] at HF
    obtain ⟨b, hb⟩ : ∃ b, fillE S a.data.toList = b := ⟨_, rfl⟩
    rw [hb] at HF h1
    have q0 : (b != 0) = true := by rw [bne_iff_ne]; exact h1
    have qe : (mkB []).toList.isEmpty = true := by rw [ByteArray.toList_eq]; rfl
    clear hrow hbulk hE ha hS hsm hnm hlies h1 hft hb
    go_enter Tryz.func10, Tryz.ntmps10
    go_wp2_with fail
    refine HF.out.mono ?_
    rintro E w1 ⟨rfl, hb1⟩
    have HB1 := Lib.hid hb1
    clear hb1 HF
    go_wp2_with fail
    refine (HR.out w1 HB1.out).mono ?_
    rintro E w2 ⟨rfl, hb2⟩
    have HB2 := Lib.hid (HB1.out.trans (hb2.mono HB1.out.size))
    clear hb2 HR
    go_wp2_with fail
    go_ret
    exact ⟨rfl, HB2.out⟩
end Sch
theorem schemaFills_walk (v : Value) (S : List GPart) (a : ByteArray) (w : World) (hrow : RowAt PartR 9 w v S) (hbulk : (S.map partB).sum + 1 + (a.data.toList.length + 1 + 0) ≤ 1048576) (hE : Env w) :
    Calls Tryz.prog 10 #[v, .string a] w fun e w' => e = .returned (.bool true) ∧ Below w.heap.size w w' := by
  obtain ⟨sa, sc, rfl, _, _⟩ := hrow.len
  exact Sch.schemaFills_walkV sa _ sc S a w hrow hbulk hE
end Go.Proofs.YtnmhjabihfhobaaGreatDoor
