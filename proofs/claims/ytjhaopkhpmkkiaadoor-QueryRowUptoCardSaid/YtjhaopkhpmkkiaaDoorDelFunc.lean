/- slices.DeleteFunc at parts of a selector. -/
import Derived.Test.YtjhaopkhpmkkiaaDoorQueryReqIdx
import Derived.Test.YtjhaopkhpmkkiaaDoorQueryCopy
import Derived.Test.YtjhaopkhpmkkiaaDoorRowStore
namespace Go.Proofs.YtjhaopkhpmkkiaaDoor
open Go.RowKit

theorem Tryd.sizeReq : (Tryd.prog.info? 33).map (·.size) = some 3 := by kernel_rfl
abbrev ReqW (w0 : World) : Rd GReq := AtW w0 ReqR
theorem keepC_mono {Cap : World → Prop} {B : Nat} (h : ∀ w w' : World, Cap w → Below B w w' → Cap w') (w w' : World) (hB : B ≤ w.heap.size) (hc : Cap w) (hb : Below w.heap.size w w') : Cap w' := h w w' hc (hb.mono hB)
set_option maxRecDepth 100000 in
set_option maxHeartbeats 3200000 in
theorem deleteReq_any {f : FuncId} {cap : Value} {Cap : World → Prop} {p : GReq → Bool} (w0 : World) (B : Nat) (enter : ∀ (a : Array Value) (w : World), (callFunc f a).run Tryd.prog w = .ok (.enter f a) w)
    (keepC : ∀ w w' : World, Cap w → Below B w w' → Cap w')
    (clo : ∀ (x : GReq) (y2 : Value) (w : World), ReqR w [.string x.key, .int .i64 x.kind, y2] x → Cap w → Calls Tryd.prog f #[.agg #[.string x.key, .int .i64 x.kind, y2], cap] w fun e w' => e = .returned (.bool (p x)) ∧ Below w.heap.size w w')
    (v : Value) (l : List GReq) (w : World) (h : OwnAt (ReqW w0) 3 w B 33 v l) (hb0 : Below w0.heap.size w0 w) (h0B : w0.heap.size ≤ B) (hB : B ≤ w.heap.size) (hl : l.length ≤ 1048576) (hc : Cap w) :
    Calls Tryd.prog 55 #[v, .func (.func f) #[] #[cap]] w fun e w' => ∃ v', e = .returned v' ∧ OwnAt (ReqW w0) 3 w' B 33 v' (l.filter fun r => !p r) ∧ Below B w w' := by
  have hrow := h.row.ofW stays_req hb0
  have hidx := idxReq_any (p := p) (Cap := fun w => Cap w ∧ B ≤ w.heap.size) (OK := fun _ => True) enter (fun w w' hc hb => ⟨keepC_mono keepC w w' hc.2 hc.1 hb, by have := hb.size; have := hc.2; omega⟩) (fun x y2 w hx _ hc => clo x y2 w hx hc.1) v l w hrow (by omega) (fun _ _ => trivial) ⟨hc, hB⟩
  have Hidx := Lib.hid hidx
  have H := Lib.hid h
  have Hb0 := Lib.hid hb0
  have HC := Lib.hid clo
  have HK := Lib.hid keepC
  have Hc := Lib.hid hc
  have ep := enter
  rcases h.form with ⟨rfl, rfl⟩ | ⟨g, c, rfl, hgB, hgw, hlc, hcm⟩
  · clear h hb0 clo keepC hc enter hidx hrow
    go_enter Tryd.func55, Tryd.ntmps55
    go_wp2_with fail
    refine Hidx.out.mono ?_
    rintro E w1 ⟨n, rfl, hn, hb1⟩
    rcases hn with ⟨rfl, _⟩ | ⟨i, x, rfl, hx, _⟩
    · have Hb1 := Lib.hid (hb1.mono hB)
      clear hb1
      go_wp2_with fail
      go_ret
      exact ⟨_, rfl, OwnAt.nil _, Hb1.out⟩
    · simp at hx
  · clear h hb0 clo keepC hc enter hidx hrow
    go_enter Tryd.func55, Tryd.ntmps55
    go_wp2_with fail
    refine Hidx.out.mono ?_
    rintro E w1 ⟨n, rfl, hn, hb1⟩
    have Hown := Lib.hid (H.out.below (flat_atW w0 ReqR).stays hb1)
    have Hb1 := Lib.hid (hb1.mono hB)
    have Hc1 := Lib.hid (keepC_mono HK.out w w1 hB Hc.out hb1)
    have hs1 := hb1.size
    clear hb1
    rcases hn with ⟨rfl, hnone⟩ | ⟨i0, x0, rfl, hx0, hf0, hpre⟩
    · have hfil : l.filter (fun r => !p r) = l := List.filter_eq_self.2 fun r hr => by
        have := List.find?_eq_none.1 hnone r hr
        simpa using this
      go_wp2_with fail
      go_ret
      exact ⟨_, rfl, by rw [hfil]; exact Hown.out, Hb1.out⟩
    · have hi0 : i0 < l.length := (List.getElem?_eq_some_iff.1 hx0).1
      have hpx0 : p x0 = true := by have := List.find?_some hf0; exact this
      have hfil0 : (l.take (i0 + 1)).filter (fun r => !p r) = l.take i0 := by
        rw [List.take_add_one, hx0, List.filter_append, List.filter_eq_self.2 fun r hr => by rw [hpre r hr]; rfl]
        simp [hpx0]
      have q0 : ((i0 : Int) == -1) = false := by rw [beq_eq_false_iff_ne]; omega
      have Hfil0 := Lib.hid hfil0
      clear hx0 hf0 hpre hpx0 hfil0
      go_wp2_with fail
      go_loopg [5, 6] l.length (fun gq u5 u6 wr => ∃ (i j : Nat) (S : List GReq), j + gq = l.length + (i0 + 1) ∧ j ≤ l.length ∧ i < j ∧ u5 = .int .i64 (i : Int) ∧ u6 = .int .i64 (j : Int) ∧ Hid (OwnAt (ReqW w0) 3 wr B 33 (.slice (some ⟨g, 0, none⟩) l.length c) S) ∧ S.length = l.length ∧ Hid (S.take i = (l.take j).filter fun r => !p r) ∧ Hid (S.drop j = l.drop j) ∧ Hid (Below B w wr) ∧ Hid (Cap wr))
      case atStart => exact ⟨i0, i0 + 1, l, by omega, by omega, by omega, rfl, by go_num, Hown, rfl, Lib.hid Hfil0.out.symm, Lib.hid rfl, Hb1, Hc1⟩
      case round =>
        obtain ⟨i, j, S, hjg, hjl, hij, rfl, rfl, HS, hSl, Hf, Hd, Hbel, Hcr⟩ := hrel
        have hsr := Hbel.out.size
        by_cases hend : j < l.length
        · have hSj : j < S.length := by omega
          obtain ⟨x, hxi⟩ : ∃ x, l[j]? = some x := ⟨l[j], List.getElem?_eq_getElem hend⟩
          have hxS : S[j]? = some x := by
            have h1 := congrArg (fun m => m[0]?) Hd.out
            simp only [List.getElem?_drop, Nat.add_zero] at h1
            rw [h1, hxi]
          obtain ⟨b, o, c', hv, _, _, hbs, hcell⟩ := HS.out.row.form (by omega) (by omega)
          injection hv with u1 u2 u3
          injection u1 with u1
          injection u1 with u1 u4
          subst u1; subst u4
          clear u2 u3
          obtain ⟨ds, _, hcc, hR⟩ := hcell j x hxS
          have hRw : ReqR w0 ds x := hR
          have hRc := stays_req _ _ _ _ (keeps_below (Hb0.out.trans (Hbel.out.mono h0B))) hRw
          obtain ⟨y2, rfl, _, hst⟩ := hR
          obtain ⟨ao, co, rfl, _, _⟩ := hst.row.len
          have e0 : wr.cell? ⟨g, j * 3, none⟩ = some (.string x.key) := by simpa using hcc 0 _ rfl
          have e1 : wr.cell? ⟨g, j * 3 + 1, none⟩ = some (.int .i64 x.kind) := by simpa using hcc 1 _ rfl
          have e2 : wr.cell? ⟨g, j * 3 + 2, none⟩ = some (.slice ao x.vals.length co) := by simpa using hcc 2 _ rfl
          have q1 : (0 : Int) ≤ (j : Int) := by omega
          have q2 : (j : Int) < (l.length : Int) := by omega
          have q3 : (0 : Int) ≤ (i : Int) := by omega
          have q4 : (i : Int) < (l.length : Int) := by omega
          have HRw := Lib.hid hRw
          have HRc := Lib.hid hRc
          have Hxi := Lib.hid hxi
          clear hcc hcell hxi hxS hRw hRc hst
          go_upto_region 8 with fail
          obtain ⟨W, hW⟩ : ∃ W, W = wr.alloc (.cells #[.string x.key, .int .i64 x.kind, .slice ao x.vals.length co] 33) := ⟨_, rfl⟩
          obtain ⟨gb, hgb⟩ : ∃ gb, gb = wr.heap.size := ⟨_, rfl⟩
          rw [← hW, ← hgb]
          have c0 : W.heap[gb]? = some (.cells #[.string x.key, .int .i64 x.kind, .slice ao x.vals.length co] 33 (0, 0)) := by rw [hW, hgb]; exact heap_alloc_new wr _
          have hb5 : Below wr.heap.size wr W := by rw [hW]; exact (Below.refl _ _).alloc (Nat.le_refl _) _
          have hBr : B ≤ wr.heap.size := by omega
          have HW := Lib.hid (Hbel.out.trans (hb5.mono hBr))
          have HRW := Lib.hid (stays_req _ _ _ _ (keeps_below hb5) HRc.out)
          have HSW := Lib.hid (HS.out.below (flat_atW w0 ReqR).stays hb5)
          have HcW := Lib.hid (keepC_mono HK.out _ _ hBr Hcr.out hb5)
          have Hc0 := Lib.hid c0
          have cc := fun i => cell_block c0 i
          have hWs := hb5.size
          clear hW hgb hb5 c0 e0 e1 e2
          go_wp2_with fail
          refine (HC.out x _ W HRW.out HcW.out).mono ?_
          rintro E w3 ⟨rfl, hb3⟩
          have HS3 := Lib.hid (HSW.out.below (flat_atW w0 ReqR).stays hb3)
          have Hb3 := Lib.hid (HW.out.trans (hb3.mono (by omega)))
          have Hc3 := Lib.hid (keepC_mono HK.out _ _ (by omega) HcW.out hb3)
          have d3 := below_block hb3 Hc0.out
          have hs3 := hb3.size
          clear hb3 cc
          have cc := fun i => cell_block d3 i
          obtain ⟨pb, Hpb⟩ : ∃ pb, Hid (p x = pb) := ⟨_, Lib.hid rfl⟩
          rw [Hpb.out]
          cases pb with
          | true =>
            have Hf2 : Hid (S.take i = (l.take (j + 1)).filter fun r => !p r) := Lib.hid (by
              rw [List.take_add_one, Hxi.out, List.filter_append, ← Hf.out]
              simp [Hpb.out])
            have Hd2 : Hid (S.drop (j + 1) = l.drop (j + 1)) := Lib.hid (by rw [← List.drop_drop, ← List.drop_drop, Hd.out])
            go_wp2_with fail
            go_roundg (gk - 1)
            case measure => omega
            case rel => exact ⟨i, j + 1, S, by omega, by omega, by omega, rfl, by go_num, HS3, hSl, Hf2, Hd2, Hb3, Hc3⟩
          | false =>
            go_upto_region 9 with fail
            obtain ⟨hnew, htouch⟩ := HS3.out.storeElem (flat_atW w0 ReqR) (i := i) (by omega) (cs := [.string x.key, .int .i64 x.kind, .slice ao x.vals.length co]) rfl (x := x) HRw.out
            have Hnew := Lib.hid hnew
            have Htouch := Lib.hid htouch
            have hthere := HS3.out.there (o := i * 3) (m := 3) (by omega)
            clear hnew htouch
            have Hf2 : Hid ((S.set i x).take (i + 1) = (l.take (j + 1)).filter fun r => !p r) := Lib.hid (by
              rw [List.take_add_one, List.getElem?_set, if_pos rfl, if_pos (by omega), List.take_set_of_le (Nat.le_refl i), List.take_add_one, Hxi.out, List.filter_append, ← Hf.out]
              simp [Hpb.out])
            have Hd2 : Hid ((S.set i x).drop (j + 1) = l.drop (j + 1)) := Lib.hid (by rw [List.drop_set_of_lt (by omega), ← List.drop_drop, ← List.drop_drop, Hd.out])
            iterate 13 go_step
            refine wpList_store_mid (by rfl) _ _ _ (by rfl) g (i * 3) #[.string x.key, .int .i64 x.kind, .slice ao x.vals.length co] (by rfl) (by rfl) hthere Tryd.sizeReq (by simp [Value.oneCell']) ?_
            obtain ⟨w4, Hw4⟩ : ∃ w4, Hid (w3.setCells g (i * 3) [.string x.key, .int .i64 x.kind, .slice ao x.vals.length co] = w4) := ⟨_, Lib.hid rfl⟩
            have hnew4 := Hnew.out
            have ht4 := Htouch.out
            rw [Hw4.out] at hnew4 ht4
            have Hnew4 := Lib.hid hnew4
            have Hb4 := Lib.hid (ht4.below Hb3.out hgB)
            have Hc4 := Lib.hid (HK.out _ _ Hc3.out (ht4.below (Below.refl _ _) hgB))
            have hw4 : w3.setCells g (i * 3) (#[.string x.key, .int .i64 x.kind, .slice ao x.vals.length co] : Array Value).toList = w4 := Hw4.out
            rw [hw4]
            clear hnew4 ht4 hw4 cc hthere
            go_wp2_with fail
            go_roundg (gk - 1)
            case measure => omega
            case rel => exact ⟨i + 1, j + 1, S.set i x, by omega, by omega, by omega, by go_num, by go_num, Hnew4, by rw [List.length_set]; exact hSl, Hf2, Hd2, Hb4, Hc4⟩
        · have hjn : j = l.length := by omega
          have hfin : S.take i = l.filter fun r => !p r := by
            rw [Hf.out, List.take_of_length_le (by omega)]
          have q2 : ¬ (j : Int) < (l.length : Int) := by omega
          have q3 : (0 : Int) ≤ (i : Int) := by omega
          have q4 : (i : Int) ≤ (l.length : Int) := by omega
          have q5 : (i : Int) ≤ (c : Int) := by omega
          have Hfin := Lib.hid hfin
          have hlt : i < l.length := by omega
          obtain ⟨m, hm⟩ : ∃ m, l.length - i = m := ⟨_, rfl⟩
          go_upto_region 11 with fail
          iterate 10 go_step
          have hzs : (Builtin.zeroCells (Value.agg #[.string ByteArray.empty, .int .i64 0, .slice none 0 0]).cells m).size = m * 3 := zeroCells_size _ _
          obtain ⟨hend1, htouch⟩ := HS.out.behind (flat_atW w0 ReqR) (i := i) (vs := (Builtin.zeroCells (Value.agg #[.string ByteArray.empty, .int .i64 0, .slice none 0 0]).cells m).toList) (by omega) (by rw [Array.length_toList, hzs]; omega)
          have hthere := HS.out.there (o := i * 3) (m := m * 3) (by omega)
          rw [← hzs] at hthere
          have Hend1 := Lib.hid hend1
          have Hthere := Lib.hid hthere
          have Htouch := Lib.hid htouch
          clear hend1 htouch hthere
          refine wpList_clear_rows wr (by rfl) _ _ 33 (by rfl) (.agg #[.string ByteArray.empty, .int .i64 0, .slice none 0 0]) Tryd.underlying22 Tryd.zeroValue33 (by simp [Value.cells, Value.oneCell']) g (i * 3) m (c - i) (by omega) (by rfl) Hthere.out ?_
          obtain ⟨w4, Hw4⟩ : ∃ w4, Hid (wr.setCells g (i * 3) (Builtin.zeroCells (Value.agg #[.string ByteArray.empty, .int .i64 0, .slice none 0 0]).cells m).toList = w4) := ⟨_, Lib.hid rfl⟩
          rw [Hw4.out]
          have h1 := Hend1.out
          have h2 := Htouch.out
          rw [Hw4.out] at h1 h2
          rw [Hfin.out] at h1
          have H1 := Lib.hid h1
          have H2 := Lib.hid (h2.below Hbel.out hgB)
          clear h1 h2 hm hzs
          go_wp2_with fail
          go_ret
          exact ⟨_, rfl, H1.out, H2.out⟩
end Go.Proofs.YtjhaopkhpmkkiaaDoor
