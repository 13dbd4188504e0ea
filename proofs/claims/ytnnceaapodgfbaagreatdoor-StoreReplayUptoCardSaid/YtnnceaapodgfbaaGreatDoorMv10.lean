/- Texts of ours joined. -/
import Derived.WalkSpells
import Derived.Test.YtnnceaapodgfbaaGreatDoorMv9
set_option linter.unusedVariables false
set_option linter.unusedSimpArgs false
namespace Go.Proofs.YtnnceaapodgfbaaGreatDoor
namespace Sto
open Go.RowKit
theorem one_storeStep : OneR StoreStepR := fun w cs x hx u hu => by
  obtain ⟨c2, rfl, _, _, v1, v2, v3, rfl, g1, g2, g3, _⟩ := hx
  obtain ⟨_, _, rfl, _⟩ := g1.len
  obtain ⟨_, _, rfl, _⟩ := g2.row.len
  obtain ⟨_, _, rfl, _⟩ := g3.row.len
  simp only [List.cons_append, List.nil_append, List.mem_cons, List.not_mem_nil, or_false] at hu
  rcases hu with rfl | rfl | rfl | rfl | rfl | rfl | rfl | rfl | rfl | rfl | rfl | rfl <;> rfl
theorem step_at {w w' : World} {va : Option Addr} {vn vc : Nat} {l : List GStoreStep} (h : RowAt StoreStepR 12 w (.slice va vn vc) l) (hn : l.length = vn) (hb : Below w.heap.size w w') {m : Nat} {x : GStoreStep} (he : l[m]? = some x) :
    ∃ b o a7 c7 a8 c8 a9 c9, va = some ⟨b, o, none⟩ ∧ StoreStepR w [.int .i64 x.kind, .int .i64 x.rev, .string x.o.okey.kind, .string x.o.okey.space, .string x.o.okey.name, .slice a7 x.o.labels.length c7, .slice a8 x.o.owners.length c8, .slice a9 x.o.holds.length c9, .bool x.o.ending, .string x.o.uid, .int .i64 x.o.rev, .string x.o.doc] x ∧
      ∀ i u, ([.int .i64 x.kind, .int .i64 x.rev, .string x.o.okey.kind, .string x.o.okey.space, .string x.o.okey.name, .slice a7 x.o.labels.length c7, .slice a8 x.o.owners.length c8, .slice a9 x.o.holds.length c9, .bool x.o.ending, .string x.o.uid, .int .i64 x.o.rev, .string x.o.doc] : List Value)[i]? = some u → w'.cell? ⟨b, o + m * 12 + i, none⟩ = some u := by
  have hm := (List.getElem?_eq_some_iff.1 he).1
  obtain ⟨b, o, c', hv, _, _, hbs, hcell⟩ := h.form (by omega) (by omega)
  injection hv with u1 u2 u3
  obtain ⟨ds, _, hcc, hR⟩ := hcell m x he
  have hR' := hR
  obtain ⟨c2, rfl, k1, k2, v1, v2, v3, rfl, g1, g2, g3, g4⟩ := hR'
  obtain ⟨a7, c7, rfl, _⟩ := g1.len
  obtain ⟨a8, c8, rfl, _⟩ := g2.row.len
  obtain ⟨a9, c9, rfl, _⟩ := g3.row.len
  exact ⟨b, o, a7, c7, a8, c8, a9, c9, u1, hR, fun i u hu => (hb.cell (p := ⟨b, _, none⟩) hbs).trans (hcc i u hu)⟩
theorem noComp_mem {l : List GStoreStep} {x : GStoreStep} (h : x ∈ noComp l) : x ∈ l ∧ modI x.kind 4 ≠ 3 := by
  unfold noComp at h
  obtain ⟨h1, h2⟩ := List.mem_filter.1 h
  exact ⟨h1, of_decide_eq_true h2⟩
theorem noComp_len (l : List GStoreStep) : (noComp l).length ≤ l.length := List.length_filter_le _ _
theorem Tryz.infoStep : (Tryz.prog.info? 40).map (fun i => (i.zero, i.size, i.bytes)) = some (some (.agg #[.int .i64 0, .int .i64 0, .string ByteArray.empty, .string ByteArray.empty, .string ByteArray.empty, .slice none 0 0, .slice none 0 0, .slice none 0 0, .bool false, .string ByteArray.empty, .int .i64 0, .string ByteArray.empty]), 12, 184) := by kernel_rfl
theorem Tryz.zeroObjM (w : World) : (zeroValue 30).run Tryz.prog w = .ok (.agg noA) w := by kernel_rfl
set_option maxRecDepth 100000 in
set_option maxHeartbeats 12800000 in
theorem storeReplay_walk (v : Value) (l : List GStoreStep) (kind space : ByteArray) (w : World) (hrow : RowAt StoreStepR 12 w v l)
    (hbulk : (l.map storeStepB).sum + kind.data.toList.length + space.data.toList.length ≤ 1048576) (hE : Env w) :
    Calls Tryz.prog 6 #[v, .string kind, .string space] w fun e w' => e = .returned (.bool true) ∧ Below w.heap.size w w' := by
  obtain ⟨hok2, hll2⟩ := okSteps_bulk hrow (by omega)
  have hd1 : kind.size ≤ 1048576 := by have h9 : kind.data.toList.length = kind.size := rfl; omega
  have hd2 : space.size ≤ 1048576 := by have h9 : space.data.toList.length = space.size := rfl; omega
  have HEn := Lib.hid hE
  obtain ⟨am, cm, rfl, -, -⟩ := hrow.len
  obtain ⟨mn, HN2⟩ : ∃ n, Hid (l.length = n) := ⟨_, Lib.hid rfl⟩
  rw [HN2.out] at hrow hll2 ⊢
  have HR2 := Lib.hid hrow
  have Hok2 := Lib.hid hok2
  have HB0 := Lib.hid (Below.refl w.heap.size w)
  clear hrow hbulk hE hok2
  go_enter Tryz.func6, Tryz.ntmps6
  go_wp2_with fail
  go_loopg [7, 25] mn (fun k9 u7 u25 wr => ∃ i : Nat, i + k9 = mn ∧ u25 = .int .i64 (i : Int) ∧ Hid (OwnAt (AtW w StoreStepR) 12 wr w.heap.size 40 u7 (noComp (l.take i))) ∧ Hid (Below w.heap.size w wr))
  case atStart => exact ⟨0, by omega, rfl, Lib.hid (OwnAt.nil _), HB0⟩
  case round =>
    clear HB0
    obtain ⟨i, hik, rfl, HO, HB⟩ := hrel
    have hsw := HB.out.size
    cases gk with
    | zero =>
      obtain rfl : mn = i := by omega
      have eL : Hid (l.take mn = l) := Lib.hid (by rw [← HN2.out, List.take_length])
      rw [eL.out] at HO
      obtain ⟨ac, cc, rfl, -, -⟩ := HO.out.row.len
      obtain ⟨cn, Hcn⟩ : ∃ n, Hid ((noComp l).length = n) := ⟨_, Lib.hid rfl⟩
      rw [Hcn.out] at HO ⊢
      have hcn : cn ≤ mn := by rw [← Hcn.out, ← HN2.out]; exact noComp_len l
      have okC : ∀ x ∈ noComp l, OkObj x.o := fun x hx => Hok2.out x (noComp_mem hx).1
      have HSt := Lib.hid (stored_any (.slice ac cn cc) (noComp l) wr (HO.out.row.ofW stays_storeStep HB.out) (by rw [Hcn.out]; omega) okC (HEn.out.below HB.out))
      obtain ⟨S, HSe⟩ : ∃ S, Hid (run St0 (noComp l) = S) := ⟨_, Lib.hid rfl⟩
      have HS : Hid (OkSt S) := Lib.hid (by rw [← HSe.out]; exact okSt_run okSt0 _ okC (by show 0 + _ ≤ _; rw [Hcn.out]; omega))
      have Hrev : Hid (S.rev ≤ 1048576) := Lib.hid (by rw [← HSe.out]; have h9 := rev_run St0 (noComp l); rw [Hcn.out] at h9; have h8 : St0.rev = 0 := rfl; omega)
      have H0 := Lib.hid (since0 (S := S) (by rw [← HSe.out]; exact comp_run _ (fun x hx => (noComp_mem hx).2) rfl))
      rw [HSe.out] at HSt
      clear okC
      go_wp2_with fail
      refine HSt.out.mono ?_
      rintro E w2 ⟨g, D, rfl, hst, hlow, hb2⟩
      have HB_a := Lib.hid (HB.out.trans (hb2.mono HB.out.size))
      have HA_a := Lib.hid hst
      have HH_a : Hid (Home w D w2) := Lib.hid ⟨HEn.out.1, HEn.out.2.2, HB_a.out, fun b hb => by have := hlow b hb; omega⟩
      clear hst hlow hb2 HSt HO HB
      have HX : Hid (Calls Tryz.prog 25 #[.pointer (some ⟨g, 0, none⟩), .int .i64 0] w2 fun e w' => Below w2.heap.size w2 w' ∧ ∃ E v, e = .returned (.tuple #[v, .int .i64 0]) ∧ OwnX EvX 12 E w' 56 v S.log ∧ ∀ b, E b → w2.heap.size ≤ b ∧ b < w'.heap.size) := Lib.hid (by
        have h9 := since_any HA_a.out HS.out 0
        rw [H0.out.1, H0.out.2] at h9
        exact h9)
      go_wp2_with fail
      refine HX.out.mono ?_
      rintro E9 w3 ⟨hb9, E3, va, rfl, k2, k3⟩
      have hlowD : Hid (∀ b, D b → b < w2.heap.size) := Lib.hid fun b hb => HA_a.out.low hb
      clear HX
      have hs_b := (hb9).size
      have HA_b := Lib.hid (HA_a.out.belowW hb9)
      have HB_b := Lib.hid (HB_a.out.trans ((hb9).mono HB_a.out.size))
      have HH_b := Lib.hid (HH_a.out.below hb9)
      clear HA_a HB_a HH_a
      have RV_b := Lib.hid k2
      have MV_b : Hid (∀ b, E3 b → b < w3.heap.size ∧ ¬ D b) := Lib.hid fun b hb => ⟨(k3 b hb).2, fun h9 => by have := hlowD.out b h9; have := (k3 b hb).1; omega⟩
      clear k2 k3 hb9 hlowD
      obtain ⟨aV, cV, rfl, -, -⟩ := RV_b.out.own.row.len
      obtain ⟨rn, Hrn⟩ : ∃ rn, Hid (S.rev = rn) := ⟨_, Lib.hid rfl⟩
      have HnV : Hid (S.log.length = rn) := Hrn
      rw [HnV.out] at RV_b ⊢
      have HRv := Lib.hid (rev_any HA_b.out)
      rw [Hrn.out] at HRv
      have hrn := Hrev.out
      rw [Hrn.out] at hrn
      have hmm := @run_makeMap Tryz.prog
      go_wp2_with fail
      refine HRv.out.mono ?_
      rintro E w9 ⟨rfl, hw9⟩
      subst hw9
      clear HRv
      go_upto_region 15 with fail
      obtain ⟨gm, Hgm⟩ : ∃ gm, Hid (w3.heap.size = gm) := ⟨_, Lib.hid rfl⟩
      obtain ⟨w4, hw4⟩ : ∃ w4, w4 = w3.alloc (.map #[] 0) := ⟨_, rfl⟩
      have MP_c : Hid (∃ n f, MapK keyC w4 gm n f ∧ n ≤ 0 ∧ AllAt E3 w4 f (S.log.take 0)) := Lib.hid ⟨0, fun _ => none, by rw [hw4, ← Hgm.out]; exact mapK_made _ _, Nat.le_refl _, by rw [List.take_zero]; exact AllAt.nil⟩
      have hb4 : Below w3.heap.size w3 w4 := by rw [hw4]; exact (Below.refl _ w3).alloc (Nat.le_refl _) _
      have hgD : Hid (∀ b, D b → b ≠ gm) := Lib.hid fun b hb e => by have := HA_b.out.low hb; have := Hgm.out; omega
      have hgE : Hid (∀ b, E3 b → b ≠ gm) := Lib.hid fun b hb e => by have := (MV_b.out b hb).1; have := Hgm.out; omega
      have hwm : w.heap.size ≤ gm := by rw [← Hgm.out]; exact HB_b.out.size
      rw [← hw4]
      try rw [Hgm.out]
      have hs_c := (hb4).size
      have HA_c := Lib.hid (HA_b.out.belowW hb4)
      have HB_c := Lib.hid (HB_b.out.trans ((hb4).mono HB_b.out.size))
      have HH_c := Lib.hid (HH_b.out.below hb4)
      have RV_c := Lib.hid (RV_b.out.agree famEv fun b hb => (hb4).block b (MV_b.out b hb).1)
      have MV_c : Hid (∀ b, E3 b → b < w4.heap.size ∧ ¬ D b) := Lib.hid fun b hb => ⟨Nat.lt_of_lt_of_le (MV_b.out b hb).1 hs_c, (MV_b.out b hb).2⟩
      clear HA_b HB_b HH_b RV_b MV_b
      clear hb4 hw4 Hgm hmm
      go_wp2_with fail
      go_loopg [59] rn (fun k9 u59 wr2 => ∃ i2 : Nat, i2 + k9 = rn ∧ u59 = .int .i64 (i2 : Int) ∧ Hid (∃ n f, MapK keyC wr2 gm n f ∧ n ≤ i2 ∧ AllAt E3 wr2 f (S.log.take i2)) ∧ Hid (StoreAt D wr2 g S) ∧ Hid (Below w.heap.size w wr2) ∧ Hid (Home w D wr2) ∧ Hid (OwnX EvX 12 E3 wr2 56 (.slice aV rn cV) S.log) ∧ Hid (∀ b, E3 b → b < wr2.heap.size ∧ ¬ D b))
      case atStart => exact ⟨0, by omega, rfl, MP_c, HA_c, HB_c, HH_c, RV_c, MV_c⟩
      case round =>
        clear HA_c HB_c HH_c RV_c MV_c MP_c
        obtain ⟨i, hik, rfl, HM, HA_e, HB_e, HH_e, RV_e, MV_e⟩ := hrel
        cases gk with
        | zero =>
          obtain rfl : rn = i := by omega
          have eLg : Hid (S.log.take rn = S.log) := Lib.hid (by rw [← HnV.out, List.take_length])
          obtain ⟨n, f, m1, m2, m3⟩ := HM.out
          rw [eLg.out] at m3
          have M1 := Lib.hid m1
          have M3 := Lib.hid m3
          have HFc : Hid (∀ s v, f s = some v → ∃ o, cur S.log s = some o) := Lib.hid fun s v h9 => AllAt.here m3 h9
          clear m1 m3 HM eLg
          obtain ⟨la, Hla⟩ : ∃ x, Hid (listE S kind space 0 = x) := ⟨_, Lib.hid rfl⟩
          have HX := Lib.hid (list_any HA_e.out HS.out kind space hd1 hd2 0)
          rw [Hla.out] at HX
          go_wp2_with fail
          refine HX.out.mono ?_
          rintro E9 w5 ⟨hb9, E5, vl, A, rfl, hT_A, k2, k3⟩
          have HT_A := Lib.hid hT_A
          have hlowD : Hid (∀ b, D b → b < wr.heap.size) := Lib.hid fun b hb => HA_e.out.low hb
          clear HX hT_A
          have M1 := Lib.hid (M1.out.belowW hb9)
          have M3 := Lib.hid (M3.out.agree (fun b hb => hb9.block b (MV_e.out b hb).1))
          have hs_f := (hb9).size
          have HA_f := Lib.hid (HA_e.out.belowW hb9)
          have HB_f := Lib.hid (HB_e.out.trans ((hb9).mono HB_e.out.size))
          have HH_f := Lib.hid (HH_e.out.below hb9)
          have RV_f := Lib.hid (RV_e.out.agree famEv fun b hb => (hb9).block b (MV_e.out b hb).1)
          have MV_f : Hid (∀ b, E3 b → b < w5.heap.size ∧ ¬ D b) := Lib.hid fun b hb => ⟨Nat.lt_of_lt_of_le (MV_e.out b hb).1 hs_f, (MV_e.out b hb).2⟩
          clear HA_e HB_e HH_e RV_e MV_e
          have RA_f := Lib.hid k2
          have MA_f : Hid (∀ b, E5 b → b < w5.heap.size ∧ ¬ D b) := Lib.hid fun b hb => ⟨(k3 b hb).2, fun h9 => by have := hlowD.out b h9; have := (k3 b hb).1; omega⟩
          clear k2 k3 hb9 hlowD
          obtain ⟨aA, cA, rfl, -, -⟩ := RA_f.out.own.row.len
          obtain ⟨nA, HnA⟩ : ∃ n, Hid (A.length = n) := ⟨_, Lib.hid rfl⟩
          rw [HnA.out] at RA_f ⊢
          have HIL : Hid (la = 0 → IsList S.log kind space A) := Lib.hid fun h0 => by
            have h1 := HT_A.out.2 (by rw [Hla.out]; exact h0)
            rw [timeT0, take_rev] at h1
            exact h1
          have HNo : Hid (la ≠ 0 → A = []) := Lib.hid fun h0 => HT_A.out.1 (by rw [Hla.out]; exact h0)
          have okA : Hid (∀ o ∈ A, OkObj o) := Lib.hid (okObj_list HS.out HT_A.out)
          have hnA : nA ≤ 4194304 := by rw [← HnA.out]; exact list_short HS.out HT_A.out
          clear HT_A
          go_wp2_with fail
          go_loopg [115] nA (fun k9 u115 wr3 => ∃ i3 : Nat, i3 + k9 = nA ∧ u115 = .int .i64 (i3 : Int) ∧ Hid (MapK keyC wr3 gm n f) ∧ Hid (AllAt E3 wr3 f S.log) ∧ Hid (StoreAt D wr3 g S) ∧ Hid (Below w.heap.size w wr3) ∧ Hid (Home w D wr3) ∧ Hid (OwnX EvX 12 E3 wr3 56 (.slice aV rn cV) S.log) ∧ Hid (∀ b, E3 b → b < wr3.heap.size ∧ ¬ D b) ∧ Hid (OwnX ObjX 10 E5 wr3 30 (.slice aA nA cA) A) ∧ Hid (∀ b, E5 b → b < wr3.heap.size ∧ ¬ D b))
          case atStart => exact ⟨0, by omega, rfl, M1, M3, HA_f, HB_f, HH_f, RV_f, MV_f, RA_f, MA_f⟩
          case round =>
            clear HA_f HB_f HH_f RV_f RA_f MV_f MA_f M1 M3
            obtain ⟨i, hik, rfl, M1, M3, HA_g, HB_g, HH_g, RV_g, MV_g, RA_g, MA_g⟩ := hrel
            cases gk with
            | zero =>
              obtain rfl : nA = i := by omega
              clear HEn HR2 Hok2
              go_wp2_with (at_range; refine wpList_range_mapK _ (by rfl) _ 54 (by rfl) 30 Tryz.underlying54 gm n f (by rfl) M1.out ?_; intro w6 cnt hrg hgr hsz)
              try go_frame
              have hb6 : Below wr.heap.size wr w6 := ⟨hgr.os, hgr.tape, hgr.output, hgr.size, fun k hk => hgr.block k hk (by simp)⟩
              have HR1 := Lib.hid hrg
              have HB6 := Lib.hid (HB_g.out.trans (hb6.mono HB_g.out.size))
              obtain ⟨r, hr⟩ : ∃ r, wr.heap.size = r := ⟨_, rfl⟩
              rw [hr] at HR1 ⊢
              have hwr : w.heap.size ≤ r := by rw [← hr]; exact HB_g.out.size
              have HL0 : Hid (la = 0 → (0 : Int) + leftN (fun k => (f k).isSome) A = nA) := Lib.hid fun h0 => by
                rw [leftN_all fun o ho => ?_, HnA.out]
                · omega
                · obtain ⟨_, _, _, h9, _⟩ := (M3.out o.okey).2 o (((HIL.out h0).2 o).1 ho).2
                  rw [h9]; rfl
              clear hrg hgr hsz hb6 hr HA_g HB_g HH_g RV_g RA_g MV_g MA_g M1 M3
              go_loopg [21] cnt (fun c u21 wr4 => ∃ (left : GKey → Bool) (q : Int), u21 = .int .i64 q ∧ Hid (RangeK keyC wr4 gm r n f left c) ∧ Hid (la = 0 → 0 ≤ q ∧ q + leftN left A = nA) ∧ Hid (Below w.heap.size w wr4))
              case atStart => exact ⟨_, 0, rfl, HR1, Lib.hid fun h0 => ⟨by omega, HL0.out h0⟩, HB6⟩
              case round =>
                clear HR1 HB6 HL0
                obtain ⟨left, q, rfl, HR, HL, HB⟩ := hrel
                go_wp2_with (at_next; refine wpList_next_rangeK _ (by rfl) _ (by rfl) gm r n f left gk (by rfl) HR.out ?_ ?_)
                · intro hl0
                  have HL9 : Hid (la = 0 → q = nA) := Lib.hid fun h0 => by
                    have h1 := (HL.out h0).2
                    rw [show left = fun _ => false from funext hl0, leftN_none] at h1
                    omega
                  clear hl0 HL HR
                  by_cases h0 : la = 0
                  · have e1 : (la != 0) = false := by rw [h0]; rfl
                    obtain rfl := HL9.out h0
                    have e2 : ((nA : Int) == (nA : Int)) = true := beq_self_eq_true _
                    clear h0 HL9
                    go_wp2_with fail
                    go_ret
                    exact ⟨by first | rfl | simp, HB.out⟩
                  · have e1 : (la != 0) = true := bne_iff_ne.2 h0
                    clear h0 HL9
                    go_wp2_with fail
                    go_ret
                    exact ⟨by first | rfl | simp, HB.out⟩
                · intro s v w7 cnt2 hs7 hls hv hrg2 hlt hgr2 hsz2 hen
                  have HR7 := Lib.hid hrg2
                  have HB7 := Lib.hid (HB.out.grown hgr2 HB.out.size (fun j hj => by cases hj; exact hwr))
                  have Hls := Lib.hid hls
                  obtain ⟨so, hso⟩ := HFc.out s v hv
                  have Hso := Lib.hid hso
                  rw [show keyC.val s = .agg #[.string s.kind, .string s.space, .string s.name] from rfl] at hen ⊢
                  clear hrg2 hgr2 hsz2 hls hs7 hv hso HR HB
                  go_upto_region 36 with fail
                  obtain ⟨w8, hw8⟩ : ∃ w8, w8 = w7.alloc (.cells #[.string s.kind, .string s.space, .string s.name] 24) := ⟨_, rfl⟩
                  obtain ⟨gs, hgs⟩ : ∃ x, x = w7.heap.size := ⟨_, rfl⟩
                  have KB : Hid (w8.heap[gs]? = some (.cells #[.string s.kind, .string s.space, .string s.name] 24 (0, 0))) := Lib.hid (by rw [hw8, hgs]; exact heap_alloc_new w7 _)
                  have hb78 : Below w7.heap.size w7 w8 := by rw [hw8]; exact (Below.refl _ w7).alloc (Nat.le_refl _) _
                  have HB8 := Lib.hid (HB7.out.trans (hb78.mono HB7.out.size))
                  have HR8 := Lib.hid (HR7.out.belowW hb78)
                  rw [← hw8]
                  rw [← hgs]
                  clear hw8 hgs hb78 hen HR7 HB7
                  have ck := fun i => cell_block KB.out i
                  cases kb : (s.kind.toList == kind.toList) with
                  | false =>
                    have HNF : Hid (¬ fitsK kind space s) := Lib.hid fun h9 => by rw [h9.1, beq_self_eq_true] at kb; cases kb
                    have HLn : Hid (la = 0 → 0 ≤ q ∧ q + leftN (fun k => left k && !decide (k = s)) A = nA) := Lib.hid fun h0 => ⟨(HL.out h0).1, by
                      rw [leftN_miss (list_miss (HIL.out h0) HNF.out)]; exact (HL.out h0).2⟩
                    clear HL HNF
                    go_wp2_with fail
                    go_roundg cnt2
                    case measure => exact hlt
                    case rel => exact ⟨_, q, rfl, HR8, HLn, HB8⟩
                  | true =>
                    cases eb : space.toList.isEmpty with
                    | true =>
                      have HNF : Hid (fitsK kind space s) := Lib.hid ⟨toList_inj (eq_of_beq kb), .inl (by have h9 : space.toList = [] := List.isEmpty_iff.1 eb; exact toList_inj (h9.trans (by rw [Lib.toList_data]; rfl)))⟩
                      by_cases h0 : la = 0
                      · have hq := HL.out h0
                        obtain ⟨hin, hek⟩ := list_hit (HIL.out h0) Hso.out HNF.out
                        have hN := leftN_hit (left := left) (list_keys (HIL.out h0)) hin (by rw [hek]; exact Hls.out)
                        rw [hek] at hN
                        obtain ⟨N, hNN⟩ : ∃ N, leftN (fun k => left k && !decide (k = s)) A = N := ⟨_, rfl⟩
                        rw [hNN] at hN
                        rw [hN] at hq
                        obtain ⟨hq0, hq1⟩ := hq
                        have qw : IntKind.i64.wrap (q + 1) = q + 1 := IntWalk.i64_in _ (by omega)
                        have HLn : Hid (la = 0 → 0 ≤ q + 1 ∧ (q + 1) + leftN (fun k => left k && !decide (k = s)) A = nA) := Lib.hid fun _ => ⟨by omega, by rw [hNN]; omega⟩
                        clear HL hin hek hN hNN hq0 hq1 h0 HNF
                        go_wp2_with fail
                        go_roundg cnt2
                        case measure => exact hlt
                        case rel => exact ⟨_, _, rfl, HR8, HLn, HB8⟩
                      · have HLn : ∀ q' : Int, Hid (la = 0 → 0 ≤ q' ∧ q' + leftN (fun k => left k && !decide (k = s)) A = nA) := fun q' => Lib.hid fun h9 => absurd h9 h0
                        clear HL h0 HNF
                        go_wp2_with fail
                        go_roundg cnt2
                        case measure => exact hlt
                        case rel => exact ⟨_, _, rfl, HR8, HLn _, HB8⟩
                    | false =>
                      cases sb : (s.space.toList == space.toList) with
                      | true =>
                        have HNF : Hid (fitsK kind space s) := Lib.hid ⟨toList_inj (eq_of_beq kb), .inr (toList_inj (eq_of_beq sb))⟩
                        by_cases h0 : la = 0
                        · have hq := HL.out h0
                          obtain ⟨hin, hek⟩ := list_hit (HIL.out h0) Hso.out HNF.out
                          have hN := leftN_hit (left := left) (list_keys (HIL.out h0)) hin (by rw [hek]; exact Hls.out)
                          rw [hek] at hN
                          obtain ⟨N, hNN⟩ : ∃ N, leftN (fun k => left k && !decide (k = s)) A = N := ⟨_, rfl⟩
                          rw [hNN] at hN
                          rw [hN] at hq
                          obtain ⟨hq0, hq1⟩ := hq
                          have qw : IntKind.i64.wrap (q + 1) = q + 1 := IntWalk.i64_in _ (by omega)
                          have HLn : Hid (la = 0 → 0 ≤ q + 1 ∧ (q + 1) + leftN (fun k => left k && !decide (k = s)) A = nA) := Lib.hid fun _ => ⟨by omega, by rw [hNN]; omega⟩
                          clear HL hin hek hN hNN hq0 hq1 h0 HNF
                          go_wp2_with fail
                          go_roundg cnt2
                          case measure => exact hlt
                          case rel => exact ⟨_, _, rfl, HR8, HLn, HB8⟩
                        · have HLn : ∀ q' : Int, Hid (la = 0 → 0 ≤ q' ∧ q' + leftN (fun k => left k && !decide (k = s)) A = nA) := fun q' => Lib.hid fun h9 => absurd h9 h0
                          clear HL h0 HNF
                          go_wp2_with fail
                          go_roundg cnt2
                          case measure => exact hlt
                          case rel => exact ⟨_, _, rfl, HR8, HLn _, HB8⟩
                      | false =>
                        have HNF : Hid (¬ fitsK kind space s) := Lib.hid fun h9 => by
                          rcases h9.2 with h8 | h8
                          · rw [h8, Lib.toList_data] at eb; cases eb
                          · rw [h8, beq_self_eq_true] at sb; cases sb
                        have HLn : Hid (la = 0 → 0 ≤ q ∧ q + leftN (fun k => left k && !decide (k = s)) A = nA) := Lib.hid fun h0 => ⟨(HL.out h0).1, by
                          rw [leftN_miss (list_miss (HIL.out h0) HNF.out)]; exact (HL.out h0).2⟩
                        clear HL HNF
                        go_wp2_with fail
                        go_roundg cnt2
                        case measure => exact hlt
                        case rel => exact ⟨_, q, rfl, HR8, HLn, HB8⟩
            | succ k9 =>
              have hil : i < nA := by omega
              obtain ⟨x, hx⟩ : ∃ x, A[i]? = some x := ⟨A[i]'(by rw [HnA.out]; exact hil), List.getElem?_eq_getElem _⟩
              have hla0 : la = 0 := Classical.byContradiction fun h9 => by rw [HNo.out h9] at hx; cases hx
              have HI := Lib.hid (HIL.out hla0)
              clear hla0
              have hxm := List.mem_of_getElem? hx
              have hcur := ((HI.out.2 x).1 hxm).2
              obtain ⟨u1, u2, u3, hfx, hou⟩ := (M3.out x.okey).2 x hcur
              obtain ⟨bA, oA, v1, v2, v3, hva, hobj, ec⟩ := obj_cells RA_g.out.own.row HnA.out (Below.refl _ _) hx
              subst hva
              obtain ⟨a7, c7, rfl, -, -⟩ := hobj.rowL.len
              obtain ⟨a8, c8, rfl, -, -⟩ := hobj.rowO.row.len
              obtain ⟨a9, c9, rfl, -, -⟩ := hobj.rowH.row.len
              obtain ⟨b7, d7, rfl, -, -⟩ := hou.rowL.len
              obtain ⟨b8, d8, rfl, -, -⟩ := hou.rowO.row.len
              obtain ⟨b9, d9, rfl, -, -⟩ := hou.rowH.row.len
              obtain ⟨n7, Hn7⟩ : ∃ n, Hid (x.labels.length = n) := ⟨_, Lib.hid rfl⟩
              obtain ⟨n8, Hn8⟩ : ∃ n, Hid (x.owners.length = n) := ⟨_, Lib.hid rfl⟩
              obtain ⟨n9, Hn9⟩ : ∃ n, Hid (x.holds.length = n) := ⟨_, Lib.hid rfl⟩
              rw [Hn7.out, Hn8.out, Hn9.out] at hobj ec hou hfx
              have f0 := ec 0 _ rfl
              have f1 := ec 1 _ rfl
              have f2 := ec 2 _ rfl
              have f3 := ec 3 _ rfl
              have f4 := ec 4 _ rfl
              have f5 := ec 5 _ rfl
              have f6 := ec 6 _ rfl
              have f7 := ec 7 _ rfl
              have f8 := ec 8 _ rfl
              have f9 := ec 9 _ rfl
              rw [Nat.add_zero] at f0
              have q1 : (0 : Int) ≤ (i : Int) := by omega
              have q2 : (i : Int) < (nA : Int) := by omega
              have Hobj := Lib.hid hobj
              have Hou := Lib.hid hou
              have Hx := Lib.hid hx
              have Hfx := Lib.hid hfx
              have Hok : Hid (OkObj x) := Lib.hid (okA.out x hxm)
              have Hkey : Hid (okKey x.okey) := Lib.hid ⟨Nat.le_trans Hok.out.kind (by decide), Nat.le_trans Hok.out.space (by decide), Nat.le_trans Hok.out.name (by decide)⟩
              clear hx ec hobj hou hfx hxm hcur
              obtain ⟨gx, Hgx⟩ : ∃ gx, Hid (wr.heap.size = gx) := ⟨_, Lib.hid rfl⟩
              have h7_X := Lib.hid (heap_alloc_new wr (.cells noA 30))
              have h4_X := Lib.hid ((Below.refl wr.heap.size wr).alloc (Nat.le_refl _) (.cells noA 30))
              have hz9_X : Hid ((wr.alloc (.cells noA 30)).heap.size = wr.heap.size + 1) := Lib.hid (World.size_alloc _ _)
              go_wp2_with (refine wpList_store_box (by rfl) _ _ _ (by rfl) wr.heap.size #[.string x.okey.kind, .string x.okey.space, .string x.okey.name, .slice a7 n7 c7, .slice a8 n8 c8, .slice a9 n9 c9, .bool x.ending, .string x.uid, .int .i64 x.rev, .string x.doc] (by rfl) (by rfl) _ _ (by exact h7_X.out) (by exact Tryz.sizeObj) (by rfl) (by simp [Value.oneCell']) ?_)
              intro w6 b5 t5
              have hbb := t5.below h4_X.out (Nat.le_refl _)
              rw [Hgx.out] at b5 ⊢
              have hz_X : w6.heap.size = gx + 1 := by rw [← Hgx.out]; exact t5.size.trans hz9_X.out
              have hl_X : gx < w6.heap.size := by omega
              have hj_X : wr.heap.size ≤ gx := by rw [Hgx.out]; exact Nat.le_refl _
              have XX := Lib.hid b5
              have YX : Hid (∀ b, D b → b ≠ gx) := Lib.hid fun b hb e => by have := HA_g.out.low hb; omega
              have Hobj := Lib.hid (Hobj.out.agree fun b hb => hbb.block b (MA_g.out b hb).1)
              have Hou := Lib.hid (Hou.out.agree fun b hb => hbb.block b (MV_g.out b hb).1)
              have M1 := Lib.hid (M1.out.belowW hbb)
              have M3 := Lib.hid (M3.out.agree (fun b hb => hbb.block b (MV_g.out b hb).1))
              have hs_h := (hbb).size
              have HA_h := Lib.hid (HA_g.out.belowW hbb)
              have HB_h := Lib.hid (HB_g.out.trans ((hbb).mono HB_g.out.size))
              have HH_h := Lib.hid (HH_g.out.below hbb)
              have RV_h := Lib.hid (RV_g.out.agree famEv fun b hb => (hbb).block b (MV_g.out b hb).1)
              have RA_h := Lib.hid (RA_g.out.agree famObj fun b hb => (hbb).block b (MA_g.out b hb).1)
              have MV_h : Hid (∀ b, E3 b → b < w6.heap.size ∧ ¬ D b) := Lib.hid fun b hb => ⟨Nat.lt_of_lt_of_le (MV_g.out b hb).1 hs_h, (MV_g.out b hb).2⟩
              have MA_h : Hid (∀ b, E5 b → b < w6.heap.size ∧ ¬ D b) := Lib.hid fun b hb => ⟨Nat.lt_of_lt_of_le (MA_g.out b hb).1 hs_h, (MA_g.out b hb).2⟩
              clear HA_g HB_g HH_g RV_g RA_g MV_g MA_g
              have BX_h := XX
              have NX_h := YX
              clear b5 t5 hbb h7_X h4_X hz9_X XX YX hz_X
              clear f0 f1 f2 f3 f4 f5 f6 f7 f8 f9
              have HLk : Hid (∀ w', Below w6.heap.size w6 w' → (Instr.lookup 54 (.map (some gm)) (.agg #[.string x.okey.kind, .string x.okey.space, .string x.okey.name]) false).run Tryz.prog w' = .ok (.agg #[.string x.okey.kind, .string x.okey.space, .string x.okey.name, .slice b7 n7 d7, .slice b8 n8 d8, .slice b9 n9 d9, .bool x.ending, .string x.uid, .int .i64 x.rev, .string x.doc]) w') := Lib.hid fun w' hb => by
                have h9 := (MapK.look (M1.out.belowW hb) Tryz.underlying54 (Tryz.zeroObjM w') x.okey Hkey.out).2
                rw [Hfx.out] at h9
                exact h9
              have HSm : Hid (∀ w', Below w6.heap.size w6 w' → Calls Tryz.prog 19 #[.agg #[.string x.okey.kind, .string x.okey.space, .string x.okey.name, .slice a7 n7 c7, .slice a8 n8 c8, .slice a9 n9 c9, .bool x.ending, .string x.uid, .int .i64 x.rev, .string x.doc], .agg #[.string x.okey.kind, .string x.okey.space, .string x.okey.name, .slice b7 n7 d7, .slice b8 n8 d8, .slice b9 n9 d9, .bool x.ending, .string x.uid, .int .i64 x.rev, .string x.doc]] w' fun e w'' => e = .returned (.bool true) ∧ Below w6.heap.size w6 w'') := Lib.hid fun w' hb => by
                refine (sameObj_yes x (.slice a7 n7 c7) (.slice a8 n8 c8) (.slice a9 n9 c9) (.slice b7 n7 d7) (.slice b8 n8 d8) (.slice b9 n9 d9) w' (Hobj.out.rowL.below stays_label hb) (Hobj.out.rowO.below hb) (Hobj.out.rowH.below hb) (Hou.out.rowL.below stays_label hb) (Hou.out.rowO.below hb) (Hou.out.rowH.below hb) Hok.out).mono ?_
                rintro E w'' ⟨rfl, hb2⟩
                exact ⟨rfl, hb.trans (hb2.mono hb.size)⟩
              have hgx6 : gx < w6.heap.size := lt_of_some BX_h.out
              clear HR2 Hok2 HEn HN2 Hcn HSe Hrev H0 HFc okA HIL HNo HS Hla Hrn HnV Hkey Hok Hfx
              cases i with
              | zero =>
                go_upto_region 29 with fail
                refine wp_region_hold 49 (fun w' => Below w6.heap.size w6 w') (by kernel_rfl) (by kernel_rfl) ?_ ?_
                · exact below_drew1' w6
                simp only [List.take_succ_cons, List.take_zero, List.drop_succ_cons, List.drop_zero]
                refine wpHold_read (v := .agg #[.string x.okey.kind, .string x.okey.space, .string x.okey.name, .slice a7 n7 c7, .slice a8 n8 c8, .slice a9 n9 c9, .bool x.ending, .string x.uid, .int .i64 x.rev, .string x.doc]) (by first | rfl | (go_simp; done)) (fun w' hI => ?_) ?_
                · have d0 := (hI.cell (p := ⟨gx, 0, none⟩) hgx6).trans (cell_block BX_h.out 0)
                  have d1 := (hI.cell (p := ⟨gx, 1, none⟩) hgx6).trans (cell_block BX_h.out 1)
                  have d2 := (hI.cell (p := ⟨gx, 2, none⟩) hgx6).trans (cell_block BX_h.out 2)
                  have d3 := (hI.cell (p := ⟨gx, 3, none⟩) hgx6).trans (cell_block BX_h.out 3)
                  have d4 := (hI.cell (p := ⟨gx, 4, none⟩) hgx6).trans (cell_block BX_h.out 4)
                  have d5 := (hI.cell (p := ⟨gx, 5, none⟩) hgx6).trans (cell_block BX_h.out 5)
                  have d6 := (hI.cell (p := ⟨gx, 6, none⟩) hgx6).trans (cell_block BX_h.out 6)
                  have d7 := (hI.cell (p := ⟨gx, 7, none⟩) hgx6).trans (cell_block BX_h.out 7)
                  have d8 := (hI.cell (p := ⟨gx, 8, none⟩) hgx6).trans (cell_block BX_h.out 8)
                  have d9 := (hI.cell (p := ⟨gx, 9, none⟩) hgx6).trans (cell_block BX_h.out 9)
                  go_simp
                  done
                try simp only [Act.put, List.setIfInBounds_toArray, List.set_cons_zero, List.set_cons_succ]
                (first | (refine wpHold_pure (v := ?_) (by rfl) (fun w => ?_) ?_; rotate_left; focus (first | (go_simp; done) | (go_simp; with_reducible rfl))) | (refine wpHold_skip ?_ ?_; focus (go_simp; done)) | (refine wpHold_pure' (v := ?_) ?_ (fun w => ?_) ?_; rotate_left; focus (go_simp; done); focus (first | (go_simp; done) | (go_simp; with_reducible rfl)))); try simp only [Act.put, List.setIfInBounds_toArray, List.set_cons_zero, List.set_cons_succ]
                (first | (refine wpHold_pure (v := ?_) (by rfl) (fun w => ?_) ?_; rotate_left; focus (first | (go_simp; done) | (go_simp; with_reducible rfl))) | (refine wpHold_skip ?_ ?_; focus (go_simp; done)) | (refine wpHold_pure' (v := ?_) ?_ (fun w => ?_) ?_; rotate_left; focus (go_simp; done); focus (first | (go_simp; done) | (go_simp; with_reducible rfl)))); try simp only [Act.put, List.setIfInBounds_toArray, List.set_cons_zero, List.set_cons_succ]
                refine wpHold_read (v := .agg #[.string x.okey.kind, .string x.okey.space, .string x.okey.name]) (by first | rfl | (go_simp; done)) (fun w' hI => ?_) ?_
                · have d0 := (hI.cell (p := ⟨gx, 0, none⟩) hgx6).trans (cell_block BX_h.out 0)
                  have d1 := (hI.cell (p := ⟨gx, 1, none⟩) hgx6).trans (cell_block BX_h.out 1)
                  have d2 := (hI.cell (p := ⟨gx, 2, none⟩) hgx6).trans (cell_block BX_h.out 2)
                  go_simp
                  done
                try simp only [Act.put, List.setIfInBounds_toArray, List.set_cons_zero, List.set_cons_succ]
                refine wpHold_read (v := .agg #[.string x.okey.kind, .string x.okey.space, .string x.okey.name, .slice b7 n7 d7, .slice b8 n8 d8, .slice b9 n9 d9, .bool x.ending, .string x.uid, .int .i64 x.rev, .string x.doc]) (by first | rfl | (go_simp; done)) (fun w' hI => ?_) ?_
                · have hlk := HLk.out w' hI
                  go_simp
                  done
                try simp only [Act.put, List.setIfInBounds_toArray, List.set_cons_zero, List.set_cons_succ]
                refine wpHold_call (v := .bool true) (f := 19) (args := #[.agg #[.string x.okey.kind, .string x.okey.space, .string x.okey.name, .slice a7 n7 c7, .slice a8 n8 c8, .slice a9 n9 c9, .bool x.ending, .string x.uid, .int .i64 x.rev, .string x.doc], .agg #[.string x.okey.kind, .string x.okey.space, .string x.okey.name, .slice b7 n7 d7, .slice b8 n8 d8, .slice b9 n9 d9, .bool x.ending, .string x.uid, .int .i64 x.rev, .string x.doc]]) (by rfl) (fun w' => ?_) (fun w' hI => HSm.out w' hI) ?_
                · simp only [run_sameObjS, go_sem]
                  go_simp
                  done
                try simp only [Act.put, List.setIfInBounds_toArray, List.set_cons_zero, List.set_cons_succ]
                (first | (refine wpHold_pure (v := ?_) (by rfl) (fun w => ?_) ?_; rotate_left; focus (first | (go_simp; done) | (go_simp; with_reducible rfl))) | (refine wpHold_skip ?_ ?_; focus (go_simp; done)) | (refine wpHold_pure' (v := ?_) ?_ (fun w => ?_) ?_; rotate_left; focus (go_simp; done); focus (first | (go_simp; done) | (go_simp; with_reducible rfl)))); try simp only [Act.put, List.setIfInBounds_toArray, List.set_cons_zero, List.set_cons_succ]
                (first | (refine wpHold_pure (v := ?_) (by rfl) (fun w => ?_) ?_; rotate_left; focus (first | (go_simp; done) | (go_simp; with_reducible rfl))) | (refine wpHold_skip ?_ ?_; focus (go_simp; done)) | (refine wpHold_pure' (v := ?_) ?_ (fun w => ?_) ?_; rotate_left; focus (go_simp; done); focus (first | (go_simp; done) | (go_simp; with_reducible rfl)))); try simp only [Act.put, List.setIfInBounds_toArray, List.set_cons_zero, List.set_cons_succ]
                refine wpHold_pure' (v := ?_) ?_ (fun w => ?_) ?_
                rotate_left
                focus (go_simp; done)
                focus (first | (go_simp; done) | (go_simp; with_reducible rfl))
                try simp only [Act.put, List.setIfInBounds_toArray, List.set_cons_zero, List.set_cons_succ]
                refine wpHold_pure' (v := ?_) ?_ (fun w => ?_) ?_
                rotate_left
                focus (go_simp; done)
                focus (first | (go_simp; done) | (go_simp; with_reducible rfl))
                try simp only [Act.put, List.setIfInBounds_toArray, List.set_cons_zero, List.set_cons_succ]
                refine wpHold_pure' (v := ?_) ?_ (fun w => ?_) ?_
                rotate_left
                focus (go_simp; done)
                focus (first | (go_simp; done) | (go_simp; with_reducible rfl))
                try simp only [Act.put, List.setIfInBounds_toArray, List.set_cons_zero, List.set_cons_succ]
                refine wpHold_skip ?_ ?_
                focus (first | (go_simp; done) | (go_simp; intro h9; cases h9))
                try simp only [Act.put, List.setIfInBounds_toArray, List.set_cons_zero, List.set_cons_succ]
                refine wpHold_skip ?_ ?_
                focus (first | (go_simp; done) | (go_simp; intro h9; cases h9))
                try simp only [Act.put, List.setIfInBounds_toArray, List.set_cons_zero, List.set_cons_succ]
                refine wpHold_skip ?_ ?_
                focus (first | (go_simp; done) | (go_simp; intro h9; cases h9))
                try simp only [Act.put, List.setIfInBounds_toArray, List.set_cons_zero, List.set_cons_succ]
                refine wpHold_skip ?_ ?_
                focus (first | (go_simp; done) | (go_simp; intro h9; cases h9))
                try simp only [Act.put, List.setIfInBounds_toArray, List.set_cons_zero, List.set_cons_succ]
                refine wpHold_skip ?_ ?_
                focus (first | (go_simp; done) | (go_simp; intro h9; cases h9))
                try simp only [Act.put, List.setIfInBounds_toArray, List.set_cons_zero, List.set_cons_succ]
                refine wpHold_skip ?_ ?_
                focus (first | (go_simp; done) | (go_simp; intro h9; cases h9))
                try simp only [Act.put, List.setIfInBounds_toArray, List.set_cons_zero, List.set_cons_succ]
                refine wpHold_skip ?_ ?_
                focus (first | (go_simp; done) | (go_simp; intro h9; cases h9))
                try simp only [Act.put, List.setIfInBounds_toArray, List.set_cons_zero, List.set_cons_succ]
                refine wpHold_skip ?_ ?_
                focus (first | (go_simp; done) | (go_simp; intro h9; cases h9))
                try simp only [Act.put, List.setIfInBounds_toArray, List.set_cons_zero, List.set_cons_succ]
                refine wpHold_skip ?_ ?_
                focus (first | (go_simp; done) | (go_simp; intro h9; cases h9))
                try simp only [Act.put, List.setIfInBounds_toArray, List.set_cons_zero, List.set_cons_succ]
                refine wpHold_skip ?_ ?_
                focus (first | (go_simp; done) | (go_simp; intro h9; cases h9))
                try simp only [Act.put, List.setIfInBounds_toArray, List.set_cons_zero, List.set_cons_succ]
                refine wpHold_skip ?_ ?_
                focus (first | (go_simp; done) | (go_simp; intro h9; cases h9))
                try simp only [Act.put, List.setIfInBounds_toArray, List.set_cons_zero, List.set_cons_succ]
                refine wpHold_skip ?_ ?_
                focus (first | (go_simp; done) | (go_simp; intro h9; cases h9))
                try simp only [Act.put, List.setIfInBounds_toArray, List.set_cons_zero, List.set_cons_succ]
                refine wpHold_skip ?_ ?_
                focus (first | (go_simp; done) | (go_simp; intro h9; cases h9))
                try simp only [Act.put, List.setIfInBounds_toArray, List.set_cons_zero, List.set_cons_succ]
                refine wpHold_skip ?_ ?_
                focus (first | (go_simp; done) | (go_simp; intro h9; cases h9))
                try simp only [Act.put, List.setIfInBounds_toArray, List.set_cons_zero, List.set_cons_succ]
                refine wpHold_skip ?_ ?_
                focus (first | (go_simp; done) | (go_simp; intro h9; cases h9))
                try simp only [Act.put, List.setIfInBounds_toArray, List.set_cons_zero, List.set_cons_succ]
                refine wpHold_skip ?_ ?_
                focus (first | (go_simp; done) | (go_simp; intro h9; cases h9))
                try simp only [Act.put, List.setIfInBounds_toArray, List.set_cons_zero, List.set_cons_succ]
                refine wpHold_skip ?_ ?_
                focus (first | (go_simp; done) | (go_simp; intro h9; cases h9))
                try simp only [Act.put, List.setIfInBounds_toArray, List.set_cons_zero, List.set_cons_succ]
                refine wpHold_skip ?_ ?_
                focus (first | (go_simp; done) | (go_simp; intro h9; cases h9))
                try simp only [Act.put, List.setIfInBounds_toArray, List.set_cons_zero, List.set_cons_succ]
                refine wpHold_skip ?_ ?_
                focus (first | (go_simp; done) | (go_simp; intro h9; cases h9))
                try simp only [Act.put, List.setIfInBounds_toArray, List.set_cons_zero, List.set_cons_succ]
                refine wpHold_skip ?_ ?_
                focus (first | (go_simp; done) | (go_simp; intro h9; cases h9))
                try simp only [Act.put, List.setIfInBounds_toArray, List.set_cons_zero, List.set_cons_succ]
                refine wpHold_skip ?_ ?_
                focus (first | (go_simp; done) | (go_simp; intro h9; cases h9))
                try simp only [Act.put, List.setIfInBounds_toArray, List.set_cons_zero, List.set_cons_succ]
                refine wpHold_skip ?_ ?_
                focus (first | (go_simp; done) | (go_simp; intro h9; cases h9))
                try simp only [Act.put, List.setIfInBounds_toArray, List.set_cons_zero, List.set_cons_succ]
                refine wpHold_skip ?_ ?_
                focus (first | (go_simp; done) | (go_simp; intro h9; cases h9))
                try simp only [Act.put, List.setIfInBounds_toArray, List.set_cons_zero, List.set_cons_succ]
                refine wpHold_skip ?_ ?_
                focus (first | (go_simp; done) | (go_simp; intro h9; cases h9))
                try simp only [Act.put, List.setIfInBounds_toArray, List.set_cons_zero, List.set_cons_succ]
                refine wpHold_skip ?_ ?_
                focus (first | (go_simp; done) | (go_simp; intro h9; cases h9))
                try simp only [Act.put, List.setIfInBounds_toArray, List.set_cons_zero, List.set_cons_succ]
                refine wpHold_skip ?_ ?_
                focus (first | (go_simp; done) | (go_simp; intro h9; cases h9))
                try simp only [Act.put, List.setIfInBounds_toArray, List.set_cons_zero, List.set_cons_succ]
                refine wpHold_skip ?_ ?_
                focus (first | (go_simp; done) | (go_simp; intro h9; cases h9))
                try simp only [Act.put, List.setIfInBounds_toArray, List.set_cons_zero, List.set_cons_succ]
                refine wpHold_skip ?_ ?_
                focus (first | (go_simp; done) | (go_simp; intro h9; cases h9))
                try simp only [Act.put, List.setIfInBounds_toArray, List.set_cons_zero, List.set_cons_succ]
                refine wpHold_skip ?_ ?_
                focus (first | (go_simp; done) | (go_simp; intro h9; cases h9))
                try simp only [Act.put, List.setIfInBounds_toArray, List.set_cons_zero, List.set_cons_succ]
                refine wpHold_skip ?_ ?_
                focus (first | (go_simp; done) | (go_simp; intro h9; cases h9))
                try simp only [Act.put, List.setIfInBounds_toArray, List.set_cons_zero, List.set_cons_succ]
                refine wpHold_skip ?_ ?_
                focus (first | (go_simp; done) | (go_simp; intro h9; cases h9))
                try simp only [Act.put, List.setIfInBounds_toArray, List.set_cons_zero, List.set_cons_succ]
                refine wpHold_skip ?_ ?_
                focus (first | (go_simp; done) | (go_simp; intro h9; cases h9))
                try simp only [Act.put, List.setIfInBounds_toArray, List.set_cons_zero, List.set_cons_succ]
                refine wpHold_skip ?_ ?_
                focus (first | (go_simp; done) | (go_simp; intro h9; cases h9))
                try simp only [Act.put, List.setIfInBounds_toArray, List.set_cons_zero, List.set_cons_succ]
                refine wpHold_skip ?_ ?_
                focus (first | (go_simp; done) | (go_simp; intro h9; cases h9))
                try simp only [Act.put, List.setIfInBounds_toArray, List.set_cons_zero, List.set_cons_succ]
                refine wpHold_skip ?_ ?_
                focus (first | (go_simp; done) | (go_simp; intro h9; cases h9))
                try simp only [Act.put, List.setIfInBounds_toArray, List.set_cons_zero, List.set_cons_succ]
                refine wpHold_skip ?_ ?_
                focus (first | (go_simp; done) | (go_simp; intro h9; cases h9))
                try simp only [Act.put, List.setIfInBounds_toArray, List.set_cons_zero, List.set_cons_succ]
                refine wpHold_skip ?_ ?_
                focus (first | (go_simp; done) | (go_simp; intro h9; cases h9))
                try simp only [Act.put, List.setIfInBounds_toArray, List.set_cons_zero, List.set_cons_succ]
                refine wpHold_pure' (v := ?_) ?_ (fun w => ?_) ?_
                rotate_left
                focus (go_simp; done)
                focus (first | (go_simp; done) | (go_simp; with_reducible rfl))
                try simp only [Act.put, List.setIfInBounds_toArray, List.set_cons_zero, List.set_cons_succ]
                refine wpHold_nil ?_
                intro w7 hI7
                have HI7 := Lib.hid hI7
                clear hI7 HSm HLk
                clear BX_h NX_h
                have M1 := Lib.hid (M1.out.belowW HI7.out)
                have M3 := Lib.hid (M3.out.agree (fun b hb => HI7.out.block b (MV_h.out b hb).1))
                have hs_i := (HI7.out).size
                have HA_i := Lib.hid (HA_h.out.belowW HI7.out)
                have HB_i := Lib.hid (HB_h.out.trans ((HI7.out).mono HB_h.out.size))
                have HH_i := Lib.hid (HH_h.out.below HI7.out)
                have RV_i := Lib.hid (RV_h.out.agree famEv fun b hb => (HI7.out).block b (MV_h.out b hb).1)
                have RA_i := Lib.hid (RA_h.out.agree famObj fun b hb => (HI7.out).block b (MA_h.out b hb).1)
                have MV_i : Hid (∀ b, E3 b → b < w7.heap.size ∧ ¬ D b) := Lib.hid fun b hb => ⟨Nat.lt_of_lt_of_le (MV_h.out b hb).1 hs_i, (MV_h.out b hb).2⟩
                have MA_i : Hid (∀ b, E5 b → b < w7.heap.size ∧ ¬ D b) := Lib.hid fun b hb => ⟨Nat.lt_of_lt_of_le (MA_h.out b hb).1 hs_i, (MA_h.out b hb).2⟩
                clear HA_h HB_h HH_h RV_h RA_h MV_h MA_h
                go_wp2_with fail
                go_roundg k9
                case measure => omega
                case rel => exact ⟨1, by omega, by go_num, M1, M3, HA_i, HB_i, HH_i, RV_i, MV_i, RA_i, MA_i⟩
              | succ p =>
                obtain ⟨y, hy⟩ : ∃ y, A[p]? = some y := ⟨A[p]'(by rw [HnA.out]; omega), List.getElem?_eq_getElem _⟩
                have hah : ahead y x := by
                  obtain ⟨hp1, e1⟩ := List.getElem?_eq_some_iff.1 hy
                  obtain ⟨hp2, e2⟩ := List.getElem?_eq_some_iff.1 Hx.out
                  rw [← e1, ← e2]
                  exact List.pairwise_iff_getElem.1 HI.out.1 p (p + 1) hp1 hp2 (by omega)
                obtain ⟨bA', oA', v1, v2, v3, hva, -, ec⟩ := obj_cells RA_h.out.own.row HnA.out (Below.refl _ _) hy
                injection hva with hva
                obtain ⟨rfl, rfl⟩ : bA = bA' ∧ oA = oA' := by injection hva with e1 e2; exact ⟨e1, e2⟩
                have E1 := Lib.hid (ec 1 _ rfl)
                have E2 := Lib.hid (ec 2 _ rfl)
                have hbA6 : bA < w6.heap.size := World.block_lt_of_cell? w6 ⟨bA, _, none⟩ E1.out
                have q3 : (0 : Int) ≤ (p : Int) := by omega
                have q4 : (p : Int) < (nA : Int) := by omega
                have q5 : ((p + 1 : Nat) : Int) = (p : Int) + 1 := by omega
                have qw : IntKind.i64.wrap (p : Int) = (p : Int) := IntWalk.i64_in _ (by omega)
                have qg : (0 : Int) < (p : Int) + 1 := by omega
                have Hah := Lib.hid hah
                clear ec hah hva hy
                rcases Hah.out with hls | ⟨hes, hln⟩
                · have t1 : Op.bytesLess y.okey.space.toList x.okey.space.toList = true := by rw [bl_cb]; exact decide_eq_true (by rw [Lib.toList_data, Lib.toList_data]; exact hls)
                  have t2 : (y.okey.space.toList == x.okey.space.toList) = false := by
                    rw [beq_eq_false_iff_ne]; intro e9; rw [e9, bl_irrefl] at t1; cases t1
                  clear hls
                  go_upto_region 29 with fail
                  refine wp_region_hold 49 (fun w' => Below w6.heap.size w6 w') (by kernel_rfl) (by kernel_rfl) ?_ ?_
                  · exact below_drew1' w6
                  simp only [List.take_succ_cons, List.take_zero, List.drop_succ_cons, List.drop_zero]
                  refine wpHold_read (v := .agg #[.string x.okey.kind, .string x.okey.space, .string x.okey.name, .slice a7 n7 c7, .slice a8 n8 c8, .slice a9 n9 c9, .bool x.ending, .string x.uid, .int .i64 x.rev, .string x.doc]) (by first | rfl | (go_simp; done)) (fun w' hI => ?_) ?_
                  · have d0 := (hI.cell (p := ⟨gx, 0, none⟩) hgx6).trans (cell_block BX_h.out 0)
                    have d1 := (hI.cell (p := ⟨gx, 1, none⟩) hgx6).trans (cell_block BX_h.out 1)
                    have d2 := (hI.cell (p := ⟨gx, 2, none⟩) hgx6).trans (cell_block BX_h.out 2)
                    have d3 := (hI.cell (p := ⟨gx, 3, none⟩) hgx6).trans (cell_block BX_h.out 3)
                    have d4 := (hI.cell (p := ⟨gx, 4, none⟩) hgx6).trans (cell_block BX_h.out 4)
                    have d5 := (hI.cell (p := ⟨gx, 5, none⟩) hgx6).trans (cell_block BX_h.out 5)
                    have d6 := (hI.cell (p := ⟨gx, 6, none⟩) hgx6).trans (cell_block BX_h.out 6)
                    have d7 := (hI.cell (p := ⟨gx, 7, none⟩) hgx6).trans (cell_block BX_h.out 7)
                    have d8 := (hI.cell (p := ⟨gx, 8, none⟩) hgx6).trans (cell_block BX_h.out 8)
                    have d9 := (hI.cell (p := ⟨gx, 9, none⟩) hgx6).trans (cell_block BX_h.out 9)
                    go_simp
                    done
                  try simp only [Act.put, List.setIfInBounds_toArray, List.set_cons_zero, List.set_cons_succ]
                  (first | (refine wpHold_pure (v := ?_) (by rfl) (fun w => ?_) ?_; rotate_left; focus (first | (go_simp; done) | (go_simp; with_reducible rfl))) | (refine wpHold_skip ?_ ?_; focus (go_simp; done)) | (refine wpHold_pure' (v := ?_) ?_ (fun w => ?_) ?_; rotate_left; focus (go_simp; done); focus (first | (go_simp; done) | (go_simp; with_reducible rfl)))); try simp only [Act.put, List.setIfInBounds_toArray, List.set_cons_zero, List.set_cons_succ]
                  (first | (refine wpHold_pure (v := ?_) (by rfl) (fun w => ?_) ?_; rotate_left; focus (first | (go_simp; done) | (go_simp; with_reducible rfl))) | (refine wpHold_skip ?_ ?_; focus (go_simp; done)) | (refine wpHold_pure' (v := ?_) ?_ (fun w => ?_) ?_; rotate_left; focus (go_simp; done); focus (first | (go_simp; done) | (go_simp; with_reducible rfl)))); try simp only [Act.put, List.setIfInBounds_toArray, List.set_cons_zero, List.set_cons_succ]
                  refine wpHold_read (v := .agg #[.string x.okey.kind, .string x.okey.space, .string x.okey.name]) (by first | rfl | (go_simp; done)) (fun w' hI => ?_) ?_
                  · have d0 := (hI.cell (p := ⟨gx, 0, none⟩) hgx6).trans (cell_block BX_h.out 0)
                    have d1 := (hI.cell (p := ⟨gx, 1, none⟩) hgx6).trans (cell_block BX_h.out 1)
                    have d2 := (hI.cell (p := ⟨gx, 2, none⟩) hgx6).trans (cell_block BX_h.out 2)
                    go_simp
                    done
                  try simp only [Act.put, List.setIfInBounds_toArray, List.set_cons_zero, List.set_cons_succ]
                  refine wpHold_read (v := .agg #[.string x.okey.kind, .string x.okey.space, .string x.okey.name, .slice b7 n7 d7, .slice b8 n8 d8, .slice b9 n9 d9, .bool x.ending, .string x.uid, .int .i64 x.rev, .string x.doc]) (by first | rfl | (go_simp; done)) (fun w' hI => ?_) ?_
                  · have hlk := HLk.out w' hI
                    go_simp
                    done
                  try simp only [Act.put, List.setIfInBounds_toArray, List.set_cons_zero, List.set_cons_succ]
                  refine wpHold_call (v := .bool true) (f := 19) (args := #[.agg #[.string x.okey.kind, .string x.okey.space, .string x.okey.name, .slice a7 n7 c7, .slice a8 n8 c8, .slice a9 n9 c9, .bool x.ending, .string x.uid, .int .i64 x.rev, .string x.doc], .agg #[.string x.okey.kind, .string x.okey.space, .string x.okey.name, .slice b7 n7 d7, .slice b8 n8 d8, .slice b9 n9 d9, .bool x.ending, .string x.uid, .int .i64 x.rev, .string x.doc]]) (by rfl) (fun w' => ?_) (fun w' hI => HSm.out w' hI) ?_
                  · simp only [run_sameObjS, go_sem]
                    go_simp
                    done
                  try simp only [Act.put, List.setIfInBounds_toArray, List.set_cons_zero, List.set_cons_succ]
                  (first | (refine wpHold_pure (v := ?_) (by rfl) (fun w => ?_) ?_; rotate_left; focus (first | (go_simp; done) | (go_simp; with_reducible rfl))) | (refine wpHold_skip ?_ ?_; focus (go_simp; done)) | (refine wpHold_pure' (v := ?_) ?_ (fun w => ?_) ?_; rotate_left; focus (go_simp; done); focus (first | (go_simp; done) | (go_simp; with_reducible rfl)))); try simp only [Act.put, List.setIfInBounds_toArray, List.set_cons_zero, List.set_cons_succ]
                  (first | (refine wpHold_pure (v := ?_) (by rfl) (fun w => ?_) ?_; rotate_left; focus (first | (go_simp; done) | (go_simp; with_reducible rfl))) | (refine wpHold_skip ?_ ?_; focus (go_simp; done)) | (refine wpHold_pure' (v := ?_) ?_ (fun w => ?_) ?_; rotate_left; focus (go_simp; done); focus (first | (go_simp; done) | (go_simp; with_reducible rfl)))); try simp only [Act.put, List.setIfInBounds_toArray, List.set_cons_zero, List.set_cons_succ]
                  refine wpHold_pure' (v := ?_) ?_ (fun w => ?_) ?_
                  rotate_left
                  focus (go_simp; done)
                  focus (first | (go_simp; done) | (go_simp; with_reducible rfl))
                  try simp only [Act.put, List.setIfInBounds_toArray, List.set_cons_zero, List.set_cons_succ]
                  refine wpHold_pure' (v := ?_) ?_ (fun w => ?_) ?_
                  rotate_left
                  focus (go_simp; done)
                  focus (first | (go_simp; done) | (go_simp; with_reducible rfl))
                  try simp only [Act.put, List.setIfInBounds_toArray, List.set_cons_zero, List.set_cons_succ]
                  refine wpHold_pure' (v := ?_) ?_ (fun w => ?_) ?_
                  rotate_left
                  focus (go_simp; done)
                  focus (first | (go_simp; done) | (go_simp; with_reducible rfl))
                  try simp only [Act.put, List.setIfInBounds_toArray, List.set_cons_zero, List.set_cons_succ]
                  refine wpHold_pure' (v := ?_) ?_ (fun w => ?_) ?_
                  rotate_left
                  focus (go_simp; done)
                  focus (first | (go_simp; done) | (go_simp; with_reducible rfl))
                  try simp only [Act.put, List.setIfInBounds_toArray, List.set_cons_zero, List.set_cons_succ]
                  refine wpHold_pure' (v := ?_) ?_ (fun w => ?_) ?_
                  rotate_left
                  focus (go_simp; done)
                  focus (first | (go_simp; done) | (go_simp; with_reducible rfl))
                  try simp only [Act.put, List.setIfInBounds_toArray, List.set_cons_zero, List.set_cons_succ]
                  refine wpHold_pure' (v := .int .i64 (p : Int)) (by first | rfl | (go_simp; done)) (fun w' => ?_) ?_
                  · go_simp
                    done
                  try simp only [Act.put, List.setIfInBounds_toArray, List.set_cons_zero, List.set_cons_succ]
                  refine wpHold_pure' (v := .pointer (some ⟨bA, oA + p * 10, none⟩)) (by first | rfl | (go_simp; done)) (fun w' => ?_) ?_
                  · go_simp
                    done
                  try simp only [Act.put, List.setIfInBounds_toArray, List.set_cons_zero, List.set_cons_succ]
                  refine wpHold_pure' (v := ?_) ?_ (fun w => ?_) ?_
                  rotate_left
                  focus (go_simp; done)
                  focus (first | (go_simp; done) | (go_simp; with_reducible rfl))
                  try simp only [Act.put, List.setIfInBounds_toArray, List.set_cons_zero, List.set_cons_succ]
                  refine wpHold_pure' (v := ?_) ?_ (fun w => ?_) ?_
                  rotate_left
                  focus (go_simp; done)
                  focus (first | (go_simp; done) | (go_simp; with_reducible rfl))
                  try simp only [Act.put, List.setIfInBounds_toArray, List.set_cons_zero, List.set_cons_succ]
                  refine wpHold_read' (v := .string y.okey.space) (by first | rfl | (go_simp; done)) (fun w' hI => ?_) ?_
                  · have d0 := (hI.cell (p := ⟨bA, oA + p * 10 + 1, none⟩) hbA6).trans (E1.out)
                    go_simp
                    done
                  try simp only [Act.put, List.setIfInBounds_toArray, List.set_cons_zero, List.set_cons_succ]
                  refine wpHold_pure' (v := ?_) ?_ (fun w => ?_) ?_
                  rotate_left
                  focus (go_simp; done)
                  focus (first | (go_simp; done) | (go_simp; with_reducible rfl))
                  try simp only [Act.put, List.setIfInBounds_toArray, List.set_cons_zero, List.set_cons_succ]
                  refine wpHold_pure' (v := ?_) ?_ (fun w => ?_) ?_
                  rotate_left
                  focus (go_simp; done)
                  focus (first | (go_simp; done) | (go_simp; with_reducible rfl))
                  try simp only [Act.put, List.setIfInBounds_toArray, List.set_cons_zero, List.set_cons_succ]
                  refine wpHold_read' (v := .string x.okey.space) (by first | rfl | (go_simp; done)) (fun w' hI => ?_) ?_
                  · have d0 := (hI.cell (p := ⟨gx, 1, none⟩) hgx6).trans (cell_block BX_h.out 1)
                    go_simp
                    done
                  try simp only [Act.put, List.setIfInBounds_toArray, List.set_cons_zero, List.set_cons_succ]
                  refine wpHold_pure' (v := ?_) ?_ (fun w => ?_) ?_
                  rotate_left
                  focus (go_simp; done)
                  focus (first | (go_simp; done) | (go_simp; with_reducible rfl))
                  try simp only [Act.put, List.setIfInBounds_toArray, List.set_cons_zero, List.set_cons_succ]
                  refine wpHold_pure' (v := ?_) ?_ (fun w => ?_) ?_
                  rotate_left
                  focus (go_simp; done)
                  focus (first | (go_simp; done) | (go_simp; with_reducible rfl))
                  try simp only [Act.put, List.setIfInBounds_toArray, List.set_cons_zero, List.set_cons_succ]
                  refine wpHold_pure' (v := ?_) ?_ (fun w => ?_) ?_
                  rotate_left
                  focus (go_simp; done)
                  focus (first | (go_simp; done) | (go_simp; with_reducible rfl))
                  try simp only [Act.put, List.setIfInBounds_toArray, List.set_cons_zero, List.set_cons_succ]
                  refine wpHold_pure' (v := ?_) ?_ (fun w => ?_) ?_
                  rotate_left
                  focus (go_simp; done)
                  focus (first | (go_simp; done) | (go_simp; with_reducible rfl))
                  try simp only [Act.put, List.setIfInBounds_toArray, List.set_cons_zero, List.set_cons_succ]
                  refine wpHold_pure' (v := .int .i64 (p : Int)) (by first | rfl | (go_simp; done)) (fun w' => ?_) ?_
                  · go_simp
                    done
                  try simp only [Act.put, List.setIfInBounds_toArray, List.set_cons_zero, List.set_cons_succ]
                  refine wpHold_pure' (v := .pointer (some ⟨bA, oA + p * 10, none⟩)) (by first | rfl | (go_simp; done)) (fun w' => ?_) ?_
                  · go_simp
                    done
                  try simp only [Act.put, List.setIfInBounds_toArray, List.set_cons_zero, List.set_cons_succ]
                  refine wpHold_pure' (v := ?_) ?_ (fun w => ?_) ?_
                  rotate_left
                  focus (go_simp; done)
                  focus (first | (go_simp; done) | (go_simp; with_reducible rfl))
                  try simp only [Act.put, List.setIfInBounds_toArray, List.set_cons_zero, List.set_cons_succ]
                  refine wpHold_pure' (v := ?_) ?_ (fun w => ?_) ?_
                  rotate_left
                  focus (go_simp; done)
                  focus (first | (go_simp; done) | (go_simp; with_reducible rfl))
                  try simp only [Act.put, List.setIfInBounds_toArray, List.set_cons_zero, List.set_cons_succ]
                  refine wpHold_read' (v := .string y.okey.space) (by first | rfl | (go_simp; done)) (fun w' hI => ?_) ?_
                  · have d0 := (hI.cell (p := ⟨bA, oA + p * 10 + 1, none⟩) hbA6).trans (E1.out)
                    go_simp
                    done
                  try simp only [Act.put, List.setIfInBounds_toArray, List.set_cons_zero, List.set_cons_succ]
                  refine wpHold_pure' (v := ?_) ?_ (fun w => ?_) ?_
                  rotate_left
                  focus (go_simp; done)
                  focus (first | (go_simp; done) | (go_simp; with_reducible rfl))
                  try simp only [Act.put, List.setIfInBounds_toArray, List.set_cons_zero, List.set_cons_succ]
                  refine wpHold_pure' (v := ?_) ?_ (fun w => ?_) ?_
                  rotate_left
                  focus (go_simp; done)
                  focus (first | (go_simp; done) | (go_simp; with_reducible rfl))
                  try simp only [Act.put, List.setIfInBounds_toArray, List.set_cons_zero, List.set_cons_succ]
                  refine wpHold_read' (v := .string x.okey.space) (by first | rfl | (go_simp; done)) (fun w' hI => ?_) ?_
                  · have d0 := (hI.cell (p := ⟨gx, 1, none⟩) hgx6).trans (cell_block BX_h.out 1)
                    go_simp
                    done
                  try simp only [Act.put, List.setIfInBounds_toArray, List.set_cons_zero, List.set_cons_succ]
                  refine wpHold_pure' (v := ?_) ?_ (fun w => ?_) ?_
                  rotate_left
                  focus (go_simp; done)
                  focus (first | (go_simp; done) | (go_simp; with_reducible rfl))
                  try simp only [Act.put, List.setIfInBounds_toArray, List.set_cons_zero, List.set_cons_succ]
                  refine wpHold_pure' (v := ?_) ?_ (fun w => ?_) ?_
                  rotate_left
                  focus (go_simp; done)
                  focus (first | (go_simp; done) | (go_simp; with_reducible rfl))
                  try simp only [Act.put, List.setIfInBounds_toArray, List.set_cons_zero, List.set_cons_succ]
                  refine wpHold_skip ?_ ?_
                  focus (first | (go_simp; done) | (go_simp; intro h9; cases h9))
                  try simp only [Act.put, List.setIfInBounds_toArray, List.set_cons_zero, List.set_cons_succ]
                  refine wpHold_skip ?_ ?_
                  focus (first | (go_simp; done) | (go_simp; intro h9; cases h9))
                  try simp only [Act.put, List.setIfInBounds_toArray, List.set_cons_zero, List.set_cons_succ]
                  refine wpHold_skip ?_ ?_
                  focus (first | (go_simp; done) | (go_simp; intro h9; cases h9))
                  try simp only [Act.put, List.setIfInBounds_toArray, List.set_cons_zero, List.set_cons_succ]
                  refine wpHold_skip ?_ ?_
                  focus (first | (go_simp; done) | (go_simp; intro h9; cases h9))
                  try simp only [Act.put, List.setIfInBounds_toArray, List.set_cons_zero, List.set_cons_succ]
                  refine wpHold_skip ?_ ?_
                  focus (first | (go_simp; done) | (go_simp; intro h9; cases h9))
                  try simp only [Act.put, List.setIfInBounds_toArray, List.set_cons_zero, List.set_cons_succ]
                  refine wpHold_skip ?_ ?_
                  focus (first | (go_simp; done) | (go_simp; intro h9; cases h9))
                  try simp only [Act.put, List.setIfInBounds_toArray, List.set_cons_zero, List.set_cons_succ]
                  refine wpHold_skip ?_ ?_
                  focus (first | (go_simp; done) | (go_simp; intro h9; cases h9))
                  try simp only [Act.put, List.setIfInBounds_toArray, List.set_cons_zero, List.set_cons_succ]
                  refine wpHold_skip ?_ ?_
                  focus (first | (go_simp; done) | (go_simp; intro h9; cases h9))
                  try simp only [Act.put, List.setIfInBounds_toArray, List.set_cons_zero, List.set_cons_succ]
                  refine wpHold_skip ?_ ?_
                  focus (first | (go_simp; done) | (go_simp; intro h9; cases h9))
                  try simp only [Act.put, List.setIfInBounds_toArray, List.set_cons_zero, List.set_cons_succ]
                  refine wpHold_skip ?_ ?_
                  focus (first | (go_simp; done) | (go_simp; intro h9; cases h9))
                  try simp only [Act.put, List.setIfInBounds_toArray, List.set_cons_zero, List.set_cons_succ]
                  refine wpHold_skip ?_ ?_
                  focus (first | (go_simp; done) | (go_simp; intro h9; cases h9))
                  try simp only [Act.put, List.setIfInBounds_toArray, List.set_cons_zero, List.set_cons_succ]
                  refine wpHold_pure' (v := ?_) ?_ (fun w => ?_) ?_
                  rotate_left
                  focus (go_simp; done)
                  focus (first | (go_simp; done) | (go_simp; with_reducible rfl))
                  try simp only [Act.put, List.setIfInBounds_toArray, List.set_cons_zero, List.set_cons_succ]
                  refine wpHold_pure' (v := ?_) ?_ (fun w => ?_) ?_
                  rotate_left
                  focus (go_simp; done)
                  focus (first | (go_simp; done) | (go_simp; with_reducible rfl))
                  try simp only [Act.put, List.setIfInBounds_toArray, List.set_cons_zero, List.set_cons_succ]
                  refine wpHold_pure' (v := ?_) ?_ (fun w => ?_) ?_
                  rotate_left
                  focus (go_simp; done)
                  focus (first | (go_simp; done) | (go_simp; with_reducible rfl))
                  try simp only [Act.put, List.setIfInBounds_toArray, List.set_cons_zero, List.set_cons_succ]
                  refine wpHold_nil ?_
                  intro w7 hI7
                  have HI7 := Lib.hid hI7
                  clear hI7 HSm HLk
                  clear BX_h NX_h
                  have M1 := Lib.hid (M1.out.belowW HI7.out)
                  have M3 := Lib.hid (M3.out.agree (fun b hb => HI7.out.block b (MV_h.out b hb).1))
                  have hs_i := (HI7.out).size
                  have HA_i := Lib.hid (HA_h.out.belowW HI7.out)
                  have HB_i := Lib.hid (HB_h.out.trans ((HI7.out).mono HB_h.out.size))
                  have HH_i := Lib.hid (HH_h.out.below HI7.out)
                  have RV_i := Lib.hid (RV_h.out.agree famEv fun b hb => (HI7.out).block b (MV_h.out b hb).1)
                  have RA_i := Lib.hid (RA_h.out.agree famObj fun b hb => (HI7.out).block b (MA_h.out b hb).1)
                  have MV_i : Hid (∀ b, E3 b → b < w7.heap.size ∧ ¬ D b) := Lib.hid fun b hb => ⟨Nat.lt_of_lt_of_le (MV_h.out b hb).1 hs_i, (MV_h.out b hb).2⟩
                  have MA_i : Hid (∀ b, E5 b → b < w7.heap.size ∧ ¬ D b) := Lib.hid fun b hb => ⟨Nat.lt_of_lt_of_le (MA_h.out b hb).1 hs_i, (MA_h.out b hb).2⟩
                  clear HA_h HB_h HH_h RV_h RA_h MV_h MA_h
                  go_wp2_with fail
                  go_roundg k9
                  case measure => omega
                  case rel => exact ⟨p + 2, by omega, by go_num, M1, M3, HA_i, HB_i, HH_i, RV_i, MV_i, RA_i, MA_i⟩
                · have t2 : (y.okey.space.toList == x.okey.space.toList) = true := by rw [hes]; exact beq_self_eq_true _
                  have t1 : Op.bytesLess y.okey.name.toList x.okey.name.toList = true := by rw [bl_cb]; exact decide_eq_true (by rw [Lib.toList_data, Lib.toList_data]; exact hln)
                  clear hes hln
                  go_upto_region 29 with fail
                  refine wp_region_hold 49 (fun w' => Below w6.heap.size w6 w') (by kernel_rfl) (by kernel_rfl) ?_ ?_
                  · exact below_drew1' w6
                  simp only [List.take_succ_cons, List.take_zero, List.drop_succ_cons, List.drop_zero]
                  refine wpHold_read (v := .agg #[.string x.okey.kind, .string x.okey.space, .string x.okey.name, .slice a7 n7 c7, .slice a8 n8 c8, .slice a9 n9 c9, .bool x.ending, .string x.uid, .int .i64 x.rev, .string x.doc]) (by first | rfl | (go_simp; done)) (fun w' hI => ?_) ?_
                  · have d0 := (hI.cell (p := ⟨gx, 0, none⟩) hgx6).trans (cell_block BX_h.out 0)
                    have d1 := (hI.cell (p := ⟨gx, 1, none⟩) hgx6).trans (cell_block BX_h.out 1)
                    have d2 := (hI.cell (p := ⟨gx, 2, none⟩) hgx6).trans (cell_block BX_h.out 2)
                    have d3 := (hI.cell (p := ⟨gx, 3, none⟩) hgx6).trans (cell_block BX_h.out 3)
                    have d4 := (hI.cell (p := ⟨gx, 4, none⟩) hgx6).trans (cell_block BX_h.out 4)
                    have d5 := (hI.cell (p := ⟨gx, 5, none⟩) hgx6).trans (cell_block BX_h.out 5)
                    have d6 := (hI.cell (p := ⟨gx, 6, none⟩) hgx6).trans (cell_block BX_h.out 6)
                    have d7 := (hI.cell (p := ⟨gx, 7, none⟩) hgx6).trans (cell_block BX_h.out 7)
                    have d8 := (hI.cell (p := ⟨gx, 8, none⟩) hgx6).trans (cell_block BX_h.out 8)
                    have d9 := (hI.cell (p := ⟨gx, 9, none⟩) hgx6).trans (cell_block BX_h.out 9)
                    go_simp
                    done
                  try simp only [Act.put, List.setIfInBounds_toArray, List.set_cons_zero, List.set_cons_succ]
                  (first | (refine wpHold_pure (v := ?_) (by rfl) (fun w => ?_) ?_; rotate_left; focus (first | (go_simp; done) | (go_simp; with_reducible rfl))) | (refine wpHold_skip ?_ ?_; focus (go_simp; done)) | (refine wpHold_pure' (v := ?_) ?_ (fun w => ?_) ?_; rotate_left; focus (go_simp; done); focus (first | (go_simp; done) | (go_simp; with_reducible rfl)))); try simp only [Act.put, List.setIfInBounds_toArray, List.set_cons_zero, List.set_cons_succ]
                  (first | (refine wpHold_pure (v := ?_) (by rfl) (fun w => ?_) ?_; rotate_left; focus (first | (go_simp; done) | (go_simp; with_reducible rfl))) | (refine wpHold_skip ?_ ?_; focus (go_simp; done)) | (refine wpHold_pure' (v := ?_) ?_ (fun w => ?_) ?_; rotate_left; focus (go_simp; done); focus (first | (go_simp; done) | (go_simp; with_reducible rfl)))); try simp only [Act.put, List.setIfInBounds_toArray, List.set_cons_zero, List.set_cons_succ]
                  refine wpHold_read (v := .agg #[.string x.okey.kind, .string x.okey.space, .string x.okey.name]) (by first | rfl | (go_simp; done)) (fun w' hI => ?_) ?_
                  · have d0 := (hI.cell (p := ⟨gx, 0, none⟩) hgx6).trans (cell_block BX_h.out 0)
                    have d1 := (hI.cell (p := ⟨gx, 1, none⟩) hgx6).trans (cell_block BX_h.out 1)
                    have d2 := (hI.cell (p := ⟨gx, 2, none⟩) hgx6).trans (cell_block BX_h.out 2)
                    go_simp
                    done
                  try simp only [Act.put, List.setIfInBounds_toArray, List.set_cons_zero, List.set_cons_succ]
                  refine wpHold_read (v := .agg #[.string x.okey.kind, .string x.okey.space, .string x.okey.name, .slice b7 n7 d7, .slice b8 n8 d8, .slice b9 n9 d9, .bool x.ending, .string x.uid, .int .i64 x.rev, .string x.doc]) (by first | rfl | (go_simp; done)) (fun w' hI => ?_) ?_
                  · have hlk := HLk.out w' hI
                    go_simp
                    done
                  try simp only [Act.put, List.setIfInBounds_toArray, List.set_cons_zero, List.set_cons_succ]
                  refine wpHold_call (v := .bool true) (f := 19) (args := #[.agg #[.string x.okey.kind, .string x.okey.space, .string x.okey.name, .slice a7 n7 c7, .slice a8 n8 c8, .slice a9 n9 c9, .bool x.ending, .string x.uid, .int .i64 x.rev, .string x.doc], .agg #[.string x.okey.kind, .string x.okey.space, .string x.okey.name, .slice b7 n7 d7, .slice b8 n8 d8, .slice b9 n9 d9, .bool x.ending, .string x.uid, .int .i64 x.rev, .string x.doc]]) (by rfl) (fun w' => ?_) (fun w' hI => HSm.out w' hI) ?_
                  · simp only [run_sameObjS, go_sem]
                    go_simp
                    done
                  try simp only [Act.put, List.setIfInBounds_toArray, List.set_cons_zero, List.set_cons_succ]
                  (first | (refine wpHold_pure (v := ?_) (by rfl) (fun w => ?_) ?_; rotate_left; focus (first | (go_simp; done) | (go_simp; with_reducible rfl))) | (refine wpHold_skip ?_ ?_; focus (go_simp; done)) | (refine wpHold_pure' (v := ?_) ?_ (fun w => ?_) ?_; rotate_left; focus (go_simp; done); focus (first | (go_simp; done) | (go_simp; with_reducible rfl)))); try simp only [Act.put, List.setIfInBounds_toArray, List.set_cons_zero, List.set_cons_succ]
                  (first | (refine wpHold_pure (v := ?_) (by rfl) (fun w => ?_) ?_; rotate_left; focus (first | (go_simp; done) | (go_simp; with_reducible rfl))) | (refine wpHold_skip ?_ ?_; focus (go_simp; done)) | (refine wpHold_pure' (v := ?_) ?_ (fun w => ?_) ?_; rotate_left; focus (go_simp; done); focus (first | (go_simp; done) | (go_simp; with_reducible rfl)))); try simp only [Act.put, List.setIfInBounds_toArray, List.set_cons_zero, List.set_cons_succ]
                  refine wpHold_pure' (v := ?_) ?_ (fun w => ?_) ?_
                  rotate_left
                  focus (go_simp; done)
                  focus (first | (go_simp; done) | (go_simp; with_reducible rfl))
                  try simp only [Act.put, List.setIfInBounds_toArray, List.set_cons_zero, List.set_cons_succ]
                  refine wpHold_pure' (v := ?_) ?_ (fun w => ?_) ?_
                  rotate_left
                  focus (go_simp; done)
                  focus (first | (go_simp; done) | (go_simp; with_reducible rfl))
                  try simp only [Act.put, List.setIfInBounds_toArray, List.set_cons_zero, List.set_cons_succ]
                  refine wpHold_pure' (v := ?_) ?_ (fun w => ?_) ?_
                  rotate_left
                  focus (go_simp; done)
                  focus (first | (go_simp; done) | (go_simp; with_reducible rfl))
                  try simp only [Act.put, List.setIfInBounds_toArray, List.set_cons_zero, List.set_cons_succ]
                  refine wpHold_pure' (v := ?_) ?_ (fun w => ?_) ?_
                  rotate_left
                  focus (go_simp; done)
                  focus (first | (go_simp; done) | (go_simp; with_reducible rfl))
                  try simp only [Act.put, List.setIfInBounds_toArray, List.set_cons_zero, List.set_cons_succ]
                  refine wpHold_pure' (v := ?_) ?_ (fun w => ?_) ?_
                  rotate_left
                  focus (go_simp; done)
                  focus (first | (go_simp; done) | (go_simp; with_reducible rfl))
                  try simp only [Act.put, List.setIfInBounds_toArray, List.set_cons_zero, List.set_cons_succ]
                  refine wpHold_pure' (v := .int .i64 (p : Int)) (by first | rfl | (go_simp; done)) (fun w' => ?_) ?_
                  · go_simp
                    done
                  try simp only [Act.put, List.setIfInBounds_toArray, List.set_cons_zero, List.set_cons_succ]
                  refine wpHold_pure' (v := .pointer (some ⟨bA, oA + p * 10, none⟩)) (by first | rfl | (go_simp; done)) (fun w' => ?_) ?_
                  · go_simp
                    done
                  try simp only [Act.put, List.setIfInBounds_toArray, List.set_cons_zero, List.set_cons_succ]
                  refine wpHold_pure' (v := ?_) ?_ (fun w => ?_) ?_
                  rotate_left
                  focus (go_simp; done)
                  focus (first | (go_simp; done) | (go_simp; with_reducible rfl))
                  try simp only [Act.put, List.setIfInBounds_toArray, List.set_cons_zero, List.set_cons_succ]
                  refine wpHold_pure' (v := ?_) ?_ (fun w => ?_) ?_
                  rotate_left
                  focus (go_simp; done)
                  focus (first | (go_simp; done) | (go_simp; with_reducible rfl))
                  try simp only [Act.put, List.setIfInBounds_toArray, List.set_cons_zero, List.set_cons_succ]
                  refine wpHold_read' (v := .string y.okey.space) (by first | rfl | (go_simp; done)) (fun w' hI => ?_) ?_
                  · have d0 := (hI.cell (p := ⟨bA, oA + p * 10 + 1, none⟩) hbA6).trans (E1.out)
                    go_simp
                    done
                  try simp only [Act.put, List.setIfInBounds_toArray, List.set_cons_zero, List.set_cons_succ]
                  refine wpHold_pure' (v := ?_) ?_ (fun w => ?_) ?_
                  rotate_left
                  focus (go_simp; done)
                  focus (first | (go_simp; done) | (go_simp; with_reducible rfl))
                  try simp only [Act.put, List.setIfInBounds_toArray, List.set_cons_zero, List.set_cons_succ]
                  refine wpHold_pure' (v := ?_) ?_ (fun w => ?_) ?_
                  rotate_left
                  focus (go_simp; done)
                  focus (first | (go_simp; done) | (go_simp; with_reducible rfl))
                  try simp only [Act.put, List.setIfInBounds_toArray, List.set_cons_zero, List.set_cons_succ]
                  refine wpHold_read' (v := .string x.okey.space) (by first | rfl | (go_simp; done)) (fun w' hI => ?_) ?_
                  · have d0 := (hI.cell (p := ⟨gx, 1, none⟩) hgx6).trans (cell_block BX_h.out 1)
                    go_simp
                    done
                  try simp only [Act.put, List.setIfInBounds_toArray, List.set_cons_zero, List.set_cons_succ]
                  refine wpHold_pure' (v := ?_) ?_ (fun w => ?_) ?_
                  rotate_left
                  focus (go_simp; done)
                  focus (first | (go_simp; done) | (go_simp; with_reducible rfl))
                  try simp only [Act.put, List.setIfInBounds_toArray, List.set_cons_zero, List.set_cons_succ]
                  refine wpHold_pure' (v := ?_) ?_ (fun w => ?_) ?_
                  rotate_left
                  focus (go_simp; done)
                  focus (first | (go_simp; done) | (go_simp; with_reducible rfl))
                  try simp only [Act.put, List.setIfInBounds_toArray, List.set_cons_zero, List.set_cons_succ]
                  refine wpHold_pure' (v := ?_) ?_ (fun w => ?_) ?_
                  rotate_left
                  focus (go_simp; done)
                  focus (first | (go_simp; done) | (go_simp; with_reducible rfl))
                  try simp only [Act.put, List.setIfInBounds_toArray, List.set_cons_zero, List.set_cons_succ]
                  refine wpHold_pure' (v := ?_) ?_ (fun w => ?_) ?_
                  rotate_left
                  focus (go_simp; done)
                  focus (first | (go_simp; done) | (go_simp; with_reducible rfl))
                  try simp only [Act.put, List.setIfInBounds_toArray, List.set_cons_zero, List.set_cons_succ]
                  refine wpHold_pure' (v := .int .i64 (p : Int)) (by first | rfl | (go_simp; done)) (fun w' => ?_) ?_
                  · go_simp
                    done
                  try simp only [Act.put, List.setIfInBounds_toArray, List.set_cons_zero, List.set_cons_succ]
                  refine wpHold_pure' (v := .pointer (some ⟨bA, oA + p * 10, none⟩)) (by first | rfl | (go_simp; done)) (fun w' => ?_) ?_
                  · go_simp
                    done
                  try simp only [Act.put, List.setIfInBounds_toArray, List.set_cons_zero, List.set_cons_succ]
                  refine wpHold_pure' (v := ?_) ?_ (fun w => ?_) ?_
                  rotate_left
                  focus (go_simp; done)
                  focus (first | (go_simp; done) | (go_simp; with_reducible rfl))
                  try simp only [Act.put, List.setIfInBounds_toArray, List.set_cons_zero, List.set_cons_succ]
                  refine wpHold_pure' (v := ?_) ?_ (fun w => ?_) ?_
                  rotate_left
                  focus (go_simp; done)
                  focus (first | (go_simp; done) | (go_simp; with_reducible rfl))
                  try simp only [Act.put, List.setIfInBounds_toArray, List.set_cons_zero, List.set_cons_succ]
                  refine wpHold_read' (v := .string y.okey.space) (by first | rfl | (go_simp; done)) (fun w' hI => ?_) ?_
                  · have d0 := (hI.cell (p := ⟨bA, oA + p * 10 + 1, none⟩) hbA6).trans (E1.out)
                    go_simp
                    done
                  try simp only [Act.put, List.setIfInBounds_toArray, List.set_cons_zero, List.set_cons_succ]
                  refine wpHold_pure' (v := ?_) ?_ (fun w => ?_) ?_
                  rotate_left
                  focus (go_simp; done)
                  focus (first | (go_simp; done) | (go_simp; with_reducible rfl))
                  try simp only [Act.put, List.setIfInBounds_toArray, List.set_cons_zero, List.set_cons_succ]
                  refine wpHold_pure' (v := ?_) ?_ (fun w => ?_) ?_
                  rotate_left
                  focus (go_simp; done)
                  focus (first | (go_simp; done) | (go_simp; with_reducible rfl))
                  try simp only [Act.put, List.setIfInBounds_toArray, List.set_cons_zero, List.set_cons_succ]
                  refine wpHold_read' (v := .string x.okey.space) (by first | rfl | (go_simp; done)) (fun w' hI => ?_) ?_
                  · have d0 := (hI.cell (p := ⟨gx, 1, none⟩) hgx6).trans (cell_block BX_h.out 1)
                    go_simp
                    done
                  try simp only [Act.put, List.setIfInBounds_toArray, List.set_cons_zero, List.set_cons_succ]
                  refine wpHold_pure' (v := ?_) ?_ (fun w => ?_) ?_
                  rotate_left
                  focus (go_simp; done)
                  focus (first | (go_simp; done) | (go_simp; with_reducible rfl))
                  try simp only [Act.put, List.setIfInBounds_toArray, List.set_cons_zero, List.set_cons_succ]
                  refine wpHold_pure' (v := ?_) ?_ (fun w => ?_) ?_
                  rotate_left
                  focus (go_simp; done)
                  focus (first | (go_simp; done) | (go_simp; with_reducible rfl))
                  try simp only [Act.put, List.setIfInBounds_toArray, List.set_cons_zero, List.set_cons_succ]
                  refine wpHold_pure' (v := ?_) ?_ (fun w => ?_) ?_
                  rotate_left
                  focus (go_simp; done)
                  focus (first | (go_simp; done) | (go_simp; with_reducible rfl))
                  try simp only [Act.put, List.setIfInBounds_toArray, List.set_cons_zero, List.set_cons_succ]
                  refine wpHold_pure' (v := ?_) ?_ (fun w => ?_) ?_
                  rotate_left
                  focus (go_simp; done)
                  focus (first | (go_simp; done) | (go_simp; with_reducible rfl))
                  try simp only [Act.put, List.setIfInBounds_toArray, List.set_cons_zero, List.set_cons_succ]
                  refine wpHold_pure' (v := .int .i64 (p : Int)) (by first | rfl | (go_simp; done)) (fun w' => ?_) ?_
                  · go_simp
                    done
                  try simp only [Act.put, List.setIfInBounds_toArray, List.set_cons_zero, List.set_cons_succ]
                  refine wpHold_pure' (v := .pointer (some ⟨bA, oA + p * 10, none⟩)) (by first | rfl | (go_simp; done)) (fun w' => ?_) ?_
                  · go_simp
                    done
                  try simp only [Act.put, List.setIfInBounds_toArray, List.set_cons_zero, List.set_cons_succ]
                  refine wpHold_pure' (v := ?_) ?_ (fun w => ?_) ?_
                  rotate_left
                  focus (go_simp; done)
                  focus (first | (go_simp; done) | (go_simp; with_reducible rfl))
                  try simp only [Act.put, List.setIfInBounds_toArray, List.set_cons_zero, List.set_cons_succ]
                  refine wpHold_pure' (v := ?_) ?_ (fun w => ?_) ?_
                  rotate_left
                  focus (go_simp; done)
                  focus (first | (go_simp; done) | (go_simp; with_reducible rfl))
                  try simp only [Act.put, List.setIfInBounds_toArray, List.set_cons_zero, List.set_cons_succ]
                  refine wpHold_read' (v := .string y.okey.name) (by first | rfl | (go_simp; done)) (fun w' hI => ?_) ?_
                  · have d0 := (hI.cell (p := ⟨bA, oA + p * 10 + 2, none⟩) hbA6).trans (E2.out)
                    go_simp
                    done
                  try simp only [Act.put, List.setIfInBounds_toArray, List.set_cons_zero, List.set_cons_succ]
                  refine wpHold_pure' (v := ?_) ?_ (fun w => ?_) ?_
                  rotate_left
                  focus (go_simp; done)
                  focus (first | (go_simp; done) | (go_simp; with_reducible rfl))
                  try simp only [Act.put, List.setIfInBounds_toArray, List.set_cons_zero, List.set_cons_succ]
                  refine wpHold_pure' (v := ?_) ?_ (fun w => ?_) ?_
                  rotate_left
                  focus (go_simp; done)
                  focus (first | (go_simp; done) | (go_simp; with_reducible rfl))
                  try simp only [Act.put, List.setIfInBounds_toArray, List.set_cons_zero, List.set_cons_succ]
                  refine wpHold_read' (v := .string x.okey.name) (by first | rfl | (go_simp; done)) (fun w' hI => ?_) ?_
                  · have d0 := (hI.cell (p := ⟨gx, 2, none⟩) hgx6).trans (cell_block BX_h.out 2)
                    go_simp
                    done
                  try simp only [Act.put, List.setIfInBounds_toArray, List.set_cons_zero, List.set_cons_succ]
                  refine wpHold_pure' (v := ?_) ?_ (fun w => ?_) ?_
                  rotate_left
                  focus (go_simp; done)
                  focus (first | (go_simp; done) | (go_simp; with_reducible rfl))
                  try simp only [Act.put, List.setIfInBounds_toArray, List.set_cons_zero, List.set_cons_succ]
                  refine wpHold_pure' (v := ?_) ?_ (fun w => ?_) ?_
                  rotate_left
                  focus (go_simp; done)
                  focus (first | (go_simp; done) | (go_simp; with_reducible rfl))
                  try simp only [Act.put, List.setIfInBounds_toArray, List.set_cons_zero, List.set_cons_succ]
                  refine wpHold_pure' (v := ?_) ?_ (fun w => ?_) ?_
                  rotate_left
                  focus (go_simp; done)
                  focus (first | (go_simp; done) | (go_simp; with_reducible rfl))
                  try simp only [Act.put, List.setIfInBounds_toArray, List.set_cons_zero, List.set_cons_succ]
                  refine wpHold_pure' (v := ?_) ?_ (fun w => ?_) ?_
                  rotate_left
                  focus (go_simp; done)
                  focus (first | (go_simp; done) | (go_simp; with_reducible rfl))
                  try simp only [Act.put, List.setIfInBounds_toArray, List.set_cons_zero, List.set_cons_succ]
                  refine wpHold_nil ?_
                  intro w7 hI7
                  have HI7 := Lib.hid hI7
                  clear hI7 HSm HLk
                  clear BX_h NX_h
                  have M1 := Lib.hid (M1.out.belowW HI7.out)
                  have M3 := Lib.hid (M3.out.agree (fun b hb => HI7.out.block b (MV_h.out b hb).1))
                  have hs_i := (HI7.out).size
                  have HA_i := Lib.hid (HA_h.out.belowW HI7.out)
                  have HB_i := Lib.hid (HB_h.out.trans ((HI7.out).mono HB_h.out.size))
                  have HH_i := Lib.hid (HH_h.out.below HI7.out)
                  have RV_i := Lib.hid (RV_h.out.agree famEv fun b hb => (HI7.out).block b (MV_h.out b hb).1)
                  have RA_i := Lib.hid (RA_h.out.agree famObj fun b hb => (HI7.out).block b (MA_h.out b hb).1)
                  have MV_i : Hid (∀ b, E3 b → b < w7.heap.size ∧ ¬ D b) := Lib.hid fun b hb => ⟨Nat.lt_of_lt_of_le (MV_h.out b hb).1 hs_i, (MV_h.out b hb).2⟩
                  have MA_i : Hid (∀ b, E5 b → b < w7.heap.size ∧ ¬ D b) := Lib.hid fun b hb => ⟨Nat.lt_of_lt_of_le (MA_h.out b hb).1 hs_i, (MA_h.out b hb).2⟩
                  clear HA_h HB_h HH_h RV_h RA_h MV_h MA_h
                  go_wp2_with fail
                  go_roundg k9
                  case measure => omega
                  case rel => exact ⟨p + 2, by omega, by go_num, M1, M3, HA_i, HB_i, HH_i, RV_i, MV_i, RA_i, MA_i⟩
        | succ k9 =>
          have hil : i < rn := by omega
          obtain ⟨x, hx⟩ : ∃ x, S.log[i]? = some x := ⟨S.log[i]'(by rw [HnV.out]; exact hil), List.getElem?_eq_getElem _⟩
          obtain ⟨b9, o9, v1, v2, v3, hva, hobj, ec⟩ := ev_cells RV_e.out.own.row HnV.out (Below.refl _ _) hx
          subst hva
          obtain ⟨a7, c7, rfl, -, -⟩ := hobj.rowL.len
          obtain ⟨a8, c8, rfl, -, -⟩ := hobj.rowO.row.len
          obtain ⟨a9, c9, rfl, -, -⟩ := hobj.rowH.row.len
          obtain ⟨n7, Hn7⟩ : ∃ n, Hid (x.object.labels.length = n) := ⟨_, Lib.hid rfl⟩
          obtain ⟨n8, Hn8⟩ : ∃ n, Hid (x.object.owners.length = n) := ⟨_, Lib.hid rfl⟩
          obtain ⟨n9, Hn9⟩ : ∃ n, Hid (x.object.holds.length = n) := ⟨_, Lib.hid rfl⟩
          rw [Hn7.out, Hn8.out, Hn9.out] at hobj ec
          have f0 := ec 0 _ rfl
          have f1 := ec 1 _ rfl
          have f2 := ec 2 _ rfl
          have f3 := ec 3 _ rfl
          have f4 := ec 4 _ rfl
          have f5 := ec 5 _ rfl
          have f6 := ec 6 _ rfl
          have f7 := ec 7 _ rfl
          have f8 := ec 8 _ rfl
          have f9 := ec 9 _ rfl
          have f10 := ec 10 _ rfl
          have f11 := ec 11 _ rfl
          rw [Nat.add_zero] at f0
          have q1 : (0 : Int) ≤ (i : Int) := by omega
          have q2 : (i : Int) < (rn : Int) := by omega
          have Hobj := Lib.hid hobj
          have HRs := Lib.hid (replay_step HS.out.good hx)
          have Hkc := Lib.hid (kind_cases HS.out.good hx)
          have Hx := Lib.hid hx
          have Hok : Hid (OkObj x.object) := Lib.hid (HS.out.obj x (List.mem_of_getElem? hx))
          have Hkey : Hid (okKey x.object.okey) := Lib.hid ⟨Nat.le_trans Hok.out.kind (by decide), Nat.le_trans Hok.out.space (by decide), Nat.le_trans Hok.out.name (by decide)⟩
          clear hx ec hobj
          obtain ⟨gx, Hgx⟩ : ∃ gx, Hid (wr.heap.size = gx) := ⟨_, Lib.hid rfl⟩
          have h7_X := Lib.hid (heap_alloc_new wr (.cells #[.int .i64 0, .int .i64 0, .string { data := #[] }, .string { data := #[] }, .string { data := #[] }, .slice none 0 0, .slice none 0 0, .slice none 0 0, .bool false, .string { data := #[] }, .int .i64 0, .string { data := #[] }] 56))
          have h4_X := Lib.hid ((Below.refl wr.heap.size wr).alloc (Nat.le_refl _) (.cells #[.int .i64 0, .int .i64 0, .string { data := #[] }, .string { data := #[] }, .string { data := #[] }, .slice none 0 0, .slice none 0 0, .slice none 0 0, .bool false, .string { data := #[] }, .int .i64 0, .string { data := #[] }] 56))
          have hz9_X : Hid ((wr.alloc (.cells #[.int .i64 0, .int .i64 0, .string { data := #[] }, .string { data := #[] }, .string { data := #[] }, .slice none 0 0, .slice none 0 0, .slice none 0 0, .bool false, .string { data := #[] }, .int .i64 0, .string { data := #[] }] 56)).heap.size = wr.heap.size + 1) := Lib.hid (World.size_alloc _ _)
          go_wp2_with (refine wpList_store_box (by rfl) _ _ _ (by rfl) wr.heap.size #[.int .i64 x.kind, .int .i64 x.rev, .string x.object.okey.kind, .string x.object.okey.space, .string x.object.okey.name, .slice a7 n7 c7, .slice a8 n8 c8, .slice a9 n9 c9, .bool x.object.ending, .string x.object.uid, .int .i64 x.object.rev, .string x.object.doc] (by rfl) (by rfl) _ _ (by exact h7_X.out) (by exact Tryz.sizeEv) (by rfl) (by simp [Value.oneCell']) ?_)
          intro w5 b5 t5
          have hbb := t5.below h4_X.out (Nat.le_refl _)
          rw [Hgx.out] at b5 ⊢
          have hz_X : w5.heap.size = gx + 1 := by rw [← Hgx.out]; exact t5.size.trans hz9_X.out
          have hl_X : gx < w5.heap.size := by omega
          have hj_X : wr.heap.size ≤ gx := by rw [Hgx.out]; exact Nat.le_refl _
          have XX := Lib.hid b5
          have YX : Hid (∀ b, D b → b ≠ gx) := Lib.hid fun b hb e => by have := HA_e.out.low hb; omega
          have Hobj := Lib.hid (Hobj.out.agree fun b hb => hbb.block b (MV_e.out b hb).1)
          have HM := Lib.hid (let ⟨n, f, m1, m2, m3⟩ := HM.out; (⟨n, f, m1.belowW hbb, m2, m3.agree fun b hb => hbb.block b (MV_e.out b hb).1⟩ : ∃ n f, MapK keyC w5 gm n f ∧ n ≤ i ∧ AllAt E3 w5 f (S.log.take i)))
          have hs_f := (hbb).size
          have HA_f := Lib.hid (HA_e.out.belowW hbb)
          have HB_f := Lib.hid (HB_e.out.trans ((hbb).mono HB_e.out.size))
          have HH_f := Lib.hid (HH_e.out.below hbb)
          have RV_f := Lib.hid (RV_e.out.agree famEv fun b hb => (hbb).block b (MV_e.out b hb).1)
          have MV_f : Hid (∀ b, E3 b → b < w5.heap.size ∧ ¬ D b) := Lib.hid fun b hb => ⟨Nat.lt_of_lt_of_le (MV_e.out b hb).1 hs_f, (MV_e.out b hb).2⟩
          clear HA_e HB_e HH_e RV_e MV_e
          have BX_f := XX
          have NX_f := YX
          clear b5 t5 hbb h7_X h4_X hz9_X XX YX hz_X
          clear f0 f1 f2 f3 f4 f5 f6 f7 f8 f9 f10 f11
          obtain ⟨n, f, m1, m2, m3⟩ := HM.out
          have M1 := Lib.hid m1
          have M3 := Lib.hid m3
          clear m1 m3 HM
          obtain ⟨y1, y2, y3, -⟩ := HRs.out
          have cx := fun i => cell_block BX_f.out i
          obtain ⟨kb, hkb⟩ : ∃ kb, (x.kind == 1) = kb := ⟨_, rfl⟩
          obtain ⟨zc, Hc9⟩ : ∃ zc : Array Value, Hid ((f x.object.okey).getD (.agg noA) = .agg zc ∧ (f x.object.okey).isSome = !kb ∧ zc.size = 10 ∧ zc.all (·.oneCell') = true) := by
            cases hc : cur (S.log.take i) x.object.okey with
            | none =>
              rw [hc] at y3
              have h1 := (M3.out x.object.okey).1 hc
              refine ⟨noA, Lib.hid ⟨by rw [h1]; rfl, ?_, rfl, by simp [Value.oneCell', noA]⟩⟩
              rw [h1, ← hkb]
              have h2 : decide (x.kind = 1) = true := by have h3 := y3.symm; simpa using h3
              rw [beq_iff_eq.2 (of_decide_eq_true h2)]; rfl
            | some o =>
              rw [hc] at y3
              obtain ⟨u1, u2, u3, h1, h2⟩ := (M3.out x.object.okey).2 o hc
              refine ⟨(objCs o u1 u2 u3).toArray, Lib.hid ⟨by rw [h1]; rfl, ?_, rfl, objA_ones h2⟩⟩
              rw [h1, ← hkb]
              have h3 : decide (x.kind = 1) = false := by have h4 := y3.symm; simpa using h4
              rw [beq_eq_false_iff_ne.2 (of_decide_eq_false h3)]; rfl
          have Hkb := Lib.hid hkb
          obtain ⟨isb, his⟩ : ∃ b, (!kb) = b := ⟨_, rfl⟩
          have qd : (isb == kb) = false := by rw [← his]; cases kb <;> rfl
          obtain ⟨z1, z2, hz1, hz2⟩ := Hc9.out
          rw [his] at z2
          have hlk := (MapK.look M1.out Tryz.underlying54 (Tryz.zeroObjM w5) x.object.okey Hkey.out).1
          rw [z1, z2] at hlk
          rw [show keyC.val x.object.okey = .agg #[.string x.object.okey.kind, .string x.object.okey.space, .string x.object.okey.name] from rfl] at hlk
          have Hz1 := Lib.hid hz1
          have Hz2 := Lib.hid hz2
          have Hy1 := Lib.hid y1
          have Hy2 := Lib.hid y2
          clear z1 z2 hz1 hz2 his y1 y2 y3 hkb Hc9
          obtain ⟨gz, Hgz⟩ : ∃ gz, Hid (w5.heap.size = gz) := ⟨_, Lib.hid rfl⟩
          have h7_Z := Lib.hid (heap_alloc_new w5 (.cells noA 30))
          have h4_Z := Lib.hid ((Below.refl w5.heap.size w5).alloc (Nat.le_refl _) (.cells noA 30))
          have hz9_Z : Hid ((w5.alloc (.cells noA 30)).heap.size = w5.heap.size + 1) := Lib.hid (World.size_alloc _ _)
          go_wp2_with (refine wpList_store_box (by rfl) _ _ _ (by rfl) w5.heap.size zc (by rfl) (by rfl) _ _ (by exact h7_Z.out) (by rw [Hz1.out]; exact Tryz.sizeObj) (by rw [Hz1.out]; rfl) Hz2.out ?_)
          intro w6 b5 t5
          have hbb := t5.below h4_Z.out (Nat.le_refl _)
          rw [Hgz.out] at b5 ⊢
          have hz_Z : w6.heap.size = gz + 1 := by rw [← Hgz.out]; exact t5.size.trans hz9_Z.out
          have hl_Z : gz < w6.heap.size := by omega
          have hj_Z : w5.heap.size ≤ gz := by rw [Hgz.out]; exact Nat.le_refl _
          have XZ := Lib.hid b5
          have YZ : Hid (∀ b, D b → b ≠ gz) := Lib.hid fun b hb e => by have := HA_f.out.low hb; omega
          have Hobj := Lib.hid (Hobj.out.agree fun b hb => hbb.block b (MV_f.out b hb).1)
          have M1 := Lib.hid (M1.out.belowW hbb)
          have M3 := Lib.hid (M3.out.agree (fun b hb => hbb.block b (MV_f.out b hb).1))
          have hs_g := (hbb).size
          have HA_g := Lib.hid (HA_f.out.belowW hbb)
          have HB_g := Lib.hid (HB_f.out.trans ((hbb).mono HB_f.out.size))
          have HH_g := Lib.hid (HH_f.out.below hbb)
          have BX_g := Lib.hid (below_block (hbb) BX_f.out)
          have NX_g := NX_f
          have RV_g := Lib.hid (RV_f.out.agree famEv fun b hb => (hbb).block b (MV_f.out b hb).1)
          have MV_g : Hid (∀ b, E3 b → b < w6.heap.size ∧ ¬ D b) := Lib.hid fun b hb => ⟨Nat.lt_of_lt_of_le (MV_f.out b hb).1 hs_g, (MV_f.out b hb).2⟩
          clear HA_f HB_f HH_f BX_f NX_f RV_f MV_f
          have BZ_g := XZ
          have NZ_g := YZ
          clear b5 t5 hbb h7_Z h4_Z hz9_Z XZ YZ hz_Z
          clear cx hlk
          have cx := fun i => cell_block BX_g.out i
          have y1 := Hy1.out
          have y2 := Hy2.out
          have qa : (x.rev != (i : Int) + 1) = false := by rw [y1, bne_eq_false_iff_eq]
          have qb : (x.object.rev != x.rev) = false := by rw [y1, y2, bne_eq_false_iff_eq]
          have qw : IntKind.i64.wrap ((i : Int) + 1) = (i : Int) + 1 := IntWalk.i64_in _ (by omega)
          have qk := Hkb.out
          have hgm := MapK.lt M1.out
          have hgx : gm ≠ gx := MapK.ne M1.out BX_g.out
          have hnm : n < maxLen := Nat.lt_of_le_of_lt (by omega : n ≤ 1048576) (by decide)
          clear y1 y2
          by_cases h3 : x.kind = 3
          · have e3 : (x.kind == 3) = true := beq_iff_eq.2 h3
            have H3 := Lib.hid h3
            clear h3
            obtain ⟨w7, hrun, hm7, ht7⟩ := MapK.drop M1.out Tryz.underlying54 x.object.okey Hkey.out 0
            rw [show keyC.val x.object.okey = .agg #[.string x.object.okey.kind, .string x.object.okey.space, .string x.object.okey.name] from rfl] at hrun
            go_upto_region 24 with fail
            have hO : Only (fun b => b = gm) w6 w7 := Only.turned ht7 rfl
            have HM7 : Hid (∃ n f, MapK keyC w7 gm n f ∧ n ≤ i + 1 ∧ AllAt E3 w7 f (S.log.take (i + 1))) := Lib.hid ⟨n, _, hm7, by omega, (AllAt.del HS.out.good Hx.out M3.out H3.out).agree fun b hb => hO.block b (MV_g.out b hb).1 (hgE.out b hb)⟩
            clear cx hrun hm7 ht7 M1 M3 Hobj
            have hs_h := (hO).size
            have hz_h := HB_g.out.size
            have HA_h := Lib.hid (HA_g.out.agree (fun b hb => (hO).block b (HA_g.out.low hb) (hgD.out b hb)) (hO).size)
            have HB_h := Lib.hid (HB_g.out.trans ((hO).below (fun b hb => by rw [hb]; exact hwm) HB_g.out.size))
            have HH_h : Hid (Home w D w7) := Lib.hid ⟨HH_g.out.tab, HH_g.out.max, HB_h.out, HH_g.out.own⟩
            have RV_h := Lib.hid (RV_g.out.agree famEv fun b hb => (hO).block b (MV_g.out b hb).1 (hgE.out b hb))
            have MV_h : Hid (∀ b, E3 b → b < w7.heap.size ∧ ¬ D b) := Lib.hid fun b hb => ⟨Nat.lt_of_lt_of_le (MV_g.out b hb).1 hs_h, (MV_g.out b hb).2⟩
            clear HA_g HB_g HH_g RV_g MV_g
            clear hO
            go_wp2_with fail
            go_roundg k9
            case measure => omega
            case rel => exact ⟨i + 1, by omega, by go_num, HM7, HA_h, HB_h, HH_h, RV_h, MV_h⟩
          · have e3 : (x.kind == 3) = false := by rw [beq_eq_false_iff_ne]; exact h3
            have H3 := Lib.hid h3
            clear h3
            obtain ⟨w7, hrun, hm7, ht7⟩ := MapK.store M1.out Tryz.underlying54 hnm x.object.okey Hkey.out (objW x.object (.slice a7 n7 c7) (.slice a8 n8 c8) (.slice a9 n9 c9))
            rw [show keyC.val x.object.okey = .agg #[.string x.object.okey.kind, .string x.object.okey.space, .string x.object.okey.name] from rfl, show objW x.object (.slice a7 n7 c7) (.slice a8 n8 c8) (.slice a9 n9 c9) = .agg #[.string x.object.okey.kind, .string x.object.okey.space, .string x.object.okey.name, .slice a7 n7 c7, .slice a8 n8 c8, .slice a9 n9 c9, .bool x.object.ending, .string x.object.uid, .int .i64 x.object.rev, .string x.object.doc] from rfl] at hrun
            go_upto_region 24 with fail
            have hO : Only (fun b => b = gm) w6 w7 := Only.turned ht7 rfl
            have HM7 : Hid (∃ n f, MapK keyC w7 gm n f ∧ n ≤ i + 1 ∧ AllAt E3 w7 f (S.log.take (i + 1))) := Lib.hid ⟨n + 1, _, hm7, by omega, (AllAt.put HS.out.good Hx.out M3.out H3.out Hobj.out).agree fun b hb => hO.block b (MV_g.out b hb).1 (hgE.out b hb)⟩
            clear cx hrun hm7 ht7 M1 M3 Hobj
            have hs_h := (hO).size
            have hz_h := HB_g.out.size
            have HA_h := Lib.hid (HA_g.out.agree (fun b hb => (hO).block b (HA_g.out.low hb) (hgD.out b hb)) (hO).size)
            have HB_h := Lib.hid (HB_g.out.trans ((hO).below (fun b hb => by rw [hb]; exact hwm) HB_g.out.size))
            have HH_h : Hid (Home w D w7) := Lib.hid ⟨HH_g.out.tab, HH_g.out.max, HB_h.out, HH_g.out.own⟩
            have RV_h := Lib.hid (RV_g.out.agree famEv fun b hb => (hO).block b (MV_g.out b hb).1 (hgE.out b hb))
            have MV_h : Hid (∀ b, E3 b → b < w7.heap.size ∧ ¬ D b) := Lib.hid fun b hb => ⟨Nat.lt_of_lt_of_le (MV_g.out b hb).1 hs_h, (MV_g.out b hb).2⟩
            clear HA_g HB_g HH_g RV_g MV_g
            clear hO
            go_wp2_with fail
            go_roundg k9
            case measure => omega
            case rel => exact ⟨i + 1, by omega, by go_num, HM7, HA_h, HB_h, HH_h, RV_h, MV_h⟩
    | succ k9 =>
      have hil : i < mn := by omega
      obtain ⟨x, hx⟩ : ∃ x, l[i]? = some x := ⟨l[i]'(by rw [HN2.out]; exact hil), List.getElem?_eq_getElem _⟩
      obtain ⟨b9, o9, a7, c7, a8, c8, a9, c9, hva, hR, ec⟩ := step_at HR2.out HN2.out HB.out hx
      subst hva
      obtain ⟨n7, Hn7⟩ : ∃ n, Hid (x.o.labels.length = n) := ⟨_, Lib.hid rfl⟩
      obtain ⟨n8, Hn8⟩ : ∃ n, Hid (x.o.owners.length = n) := ⟨_, Lib.hid rfl⟩
      obtain ⟨n9, Hn9⟩ : ∃ n, Hid (x.o.holds.length = n) := ⟨_, Lib.hid rfl⟩
      rw [Hn7.out, Hn8.out, Hn9.out] at hR ec
      have f0 := ec 0 _ rfl
      have f1 := ec 1 _ rfl
      have f2 := ec 2 _ rfl
      have f3 := ec 3 _ rfl
      have f4 := ec 4 _ rfl
      have f5 := ec 5 _ rfl
      have f6 := ec 6 _ rfl
      have f7 := ec 7 _ rfl
      have f8 := ec 8 _ rfl
      have f9 := ec 9 _ rfl
      have f10 := ec 10 _ rfl
      have f11 := ec 11 _ rfl
      rw [Nat.add_zero] at f0
      have q1 : (0 : Int) ≤ (i : Int) := by omega
      have q2 : (i : Int) < (mn : Int) := by omega
      have HRx := Lib.hid hR
      obtain ⟨kk, Hkk⟩ : ∃ y, Hid (modI x.kind 4 = y) := ⟨_, Lib.hid rfl⟩
      have HNs : Hid (noComp (l.take (i + 1)) = noComp (l.take i) ++ if kk = 3 then [] else [x]) := Lib.hid (by rw [← Hkk.out]; exact noComp_snoc l hx)
      have HSp : ∀ w8, Hid (Calls Tryz.prog 21 #[.int .i64 x.kind, .int .i64 4] w8 fun e w' => e = .returned (.int .i64 kk) ∧ w8 = w') := fun w8 => Lib.hid (by rw [← Hkk.out]; exact step_any x.kind 4 w8 (by decide) (by decide))
      have H7 := Lib.hid (heap_alloc_new wr (.cells #[.int .i64 0, .int .i64 0, .string { data := #[] }, .string { data := #[] }, .string { data := #[] }, .slice none 0 0, .slice none 0 0, .slice none 0 0, .bool false, .string { data := #[] }, .int .i64 0, .string { data := #[] }] 40))
      have hb4 := Lib.hid ((Below.refl wr.heap.size wr).alloc (Nat.le_refl _) (.cells #[.int .i64 0, .int .i64 0, .string { data := #[] }, .string { data := #[] }, .string { data := #[] }, .slice none 0 0, .slice none 0 0, .slice none 0 0, .bool false, .string { data := #[] }, .int .i64 0, .string { data := #[] }] 40))
      have hs4 : Hid ((wr.alloc (.cells #[.int .i64 0, .int .i64 0, .string { data := #[] }, .string { data := #[] }, .string { data := #[] }, .slice none 0 0, .slice none 0 0, .slice none 0 0, .bool false, .string { data := #[] }, .int .i64 0, .string { data := #[] }] 40)).heap.size = wr.heap.size + 1) := Lib.hid (World.size_alloc _ _)
      clear hx ec hR
      go_wp2_with (refine wpList_store_box (by rfl) _ _ _ (by rfl) wr.heap.size #[.int .i64 x.kind, .int .i64 x.rev, .string x.o.okey.kind, .string x.o.okey.space, .string x.o.okey.name, .slice a7 n7 c7, .slice a8 n8 c8, .slice a9 n9 c9, .bool x.o.ending, .string x.o.uid, .int .i64 x.o.rev, .string x.o.doc] (by rfl) (by rfl) _ _ (by exact H7.out) (by exact Tryz.sizeStep) (by rfl) (by simp [Value.oneCell']) ?_)
      intro w5 b5 t5
      have hb5 : Below wr.heap.size wr w5 := t5.below hb4.out (Nat.le_refl _)
      have hs5 : w5.heap.size = wr.heap.size + 1 := t5.size.trans hs4.out
      obtain ⟨gx, hgx⟩ : ∃ gx, wr.heap.size = gx := ⟨_, rfl⟩
      rw [hgx] at b5 ⊢
      have hgl : gx < w5.heap.size := by omega
      have B5 := Lib.hid b5
      have HB5 := Lib.hid (HB.out.trans (hb5.mono HB.out.size))
      have HO5 : Hid (OwnAt (AtW w StoreStepR) 12 w5 w.heap.size 40 u7 (noComp (l.take i))) := Lib.hid (HO.out.stay (flat_atW _ _) fun b hb => hb5.block b (HO.out.at hb).2.1)
      clear b5 t5 hb5 hb4 hs4 hs5 H7 hgx HO HB f0 f1 f2 f3 f4 f5 f6 f7 f8 f9 f10 f11
      have cx := fun i => cell_block B5.out i
      go_wp2_with fail
      refine (HSp w5).out.mono ?_
      rintro E w9 ⟨rfl, hw9⟩
      subst hw9
      by_cases h3 : kk = 3
      · have e3 : (kk != 3) = false := by rw [h3]; rfl
        have HO6 : Hid (OwnAt (AtW w StoreStepR) 12 w5 w.heap.size 40 u7 (noComp (l.take (i + 1)))) := Lib.hid (by rw [HNs.out, if_pos h3, List.append_nil]; exact HO5.out)
        clear h3 cx
        go_wp2_with fail
        go_roundg k9
        case measure => omega
        case rel => exact ⟨i + 1, by omega, by go_num, HO6, HB5⟩
      · have e3 : (kk != 3) = true := bne_iff_ne.2 h3
        obtain ⟨gl, hgz⟩ : ∃ gl, w5.heap.size = gl := ⟨_, rfl⟩
        obtain ⟨w8, hw8⟩ : ∃ w8, w8 = w5.alloc (.cells #[.int .i64 x.kind, .int .i64 x.rev, .string x.o.okey.kind, .string x.o.okey.space, .string x.o.okey.name, .slice a7 n7 c7, .slice a8 n8 c8, .slice a9 n9 c9, .bool x.o.ending, .string x.o.uid, .int .i64 x.o.rev, .string x.o.doc] 40) := ⟨_, rfl⟩
        have hb8 : Below w5.heap.size w5 w8 := by rw [hw8]; exact (Below.refl _ w5).alloc (Nat.le_refl _) _
        have hs8 : w8.heap.size = w5.heap.size + 1 := by rw [hw8, World.size_alloc]
        have HB8 := Lib.hid (HB5.out.trans (hb8.mono HB5.out.size))
        have HO8 : Hid (OwnAt (AtW w StoreStepR) 12 w8 w.heap.size 40 u7 (noComp (l.take i))) := Lib.hid (HO5.out.stay (flat_atW _ _) fun b hb => hb8.block b (HO5.out.at hb).2.1)
        have HRow : Hid (RowAt (AtW w StoreStepR) 12 w8 (.slice (some ⟨gl, 0, none⟩) 1 1) [x]) := Lib.hid (RowAt.one (R := (AtW w StoreStepR)) (k := 12) (cs := #[.int .i64 x.kind, .int .i64 x.rev, .string x.o.okey.kind, .string x.o.okey.space, .string x.o.okey.name, .slice a7 n7 c7, .slice a8 n8 c8, .slice a9 n9 c9, .bool x.o.ending, .string x.o.uid, .int .i64 x.o.rev, .string x.o.doc]) (x := x) (by rw [hw8, ← hgz]; exact heap_alloc_new w5 _) rfl HRx.out)
        have hbase : w.heap.size ≤ w8.heap.size := HB8.out.size
        have hcl : (noComp (l.take i)).length ≤ 1048576 := by have h9 := noComp_len (l.take i); rw [List.length_take] at h9; omega
        have HNs' : Hid (noComp (l.take (i + 1)) = noComp (l.take i) ++ [x]) := Lib.hid (by rw [HNs.out, if_neg h3])
        obtain ⟨i0, hi0, hy0, hy1, hy2⟩ := info_parts Tryz.infoStep
        have hsl : w8.heap.size = gl + 1 := by omega
        clear hs8 hb8 h3
        go_wp2_with (at_builtin; rw [← hw8]; refine wpList_append_ownAt (R := (AtW w StoreStepR)) (k := 12) (e := 40) (B := w.heap.size) (l := noComp (l.take i)) (m := [x]) _ (by rfl) _ _ _ (by rfl) i0 _ 184 Tryz.underlying22 hi0 hy0 hy1 hy2 rfl (by omega) (flat_atW _ _) (one_atW _ one_storeStep) _ (by rfl) HO8.out _ (by rfl) HRow.out (by rw [List.length_singleton]; unfold maxLen; omega) (by rw [List.length_singleton]; omega) hbase ?_)
        intro v' w9 r1 r2 r3 r4
        rw [← hw8] at r2
        have HO9 : Hid (OwnAt (AtW w StoreStepR) 12 w9 w.heap.size 40 v' (noComp (l.take (i + 1)))) := Lib.hid (by rw [HNs'.out]; exact r1)
        have HB9 := Lib.hid (HB8.out.grown r2 hbase r3)
        clear r1 r2 r3 r4 HO8 HRow HB8 HO5 hw8 cx B5
        go_wp2_with fail
        go_roundg k9
        case measure => omega
        case rel => exact ⟨i + 1, by omega, by go_num, HO9, HB9⟩
end Sto
end Go.Proofs.YtnnceaapodgfbaaGreatDoor
