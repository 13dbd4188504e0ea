/- Texts of ours joined. -/
import Derived.Test.YtdcmnpeabjallaaGreatDoorChecked
import Derived.WalkKit
import Derived.WalkSpells
import Derived.WalkLawsBesides
import Derived.Lib.Hide
import Derived.KernelRfl
import Derived.Test.YtdcmnpeabjallaaGreatDoorMy8
set_option linter.unusedVariables false
set_option linter.unusedSimpArgs false
namespace Go.Proofs.YtdcmnpeabjallaaGreatDoor
open Go.RowKit Go.MapKept Go.ChangeMaps
open JP (JV Bs Lf)
noncomputable def dropG (live : JV) (bk : BookF) (m : Bs) (W : List Leaf) (ps : List Bs) : JV := ps.foldl (fun v p => if (W.any (fun x => JP.pathL x == p) || othersG bk m (JP.touchB p)) = true then v else JP.cutP v p) live
theorem dropG_more (live : JV) (bk : BookF) (m : Bs) (W : List Leaf) (ps : List Bs) (p : Bs) : dropG live bk m W (ps ++ [p]) = if (W.any (fun x => JP.pathL x == p) || othersG bk m (JP.touchB p)) = true then dropG live bk m W ps else JP.cutP (dropG live bk m W ps) p := by
  unfold dropG
  rw [List.foldl_append]; rfl
theorem cutP_fit {v : JV} (p : Bs) (h : JP.Fit v) : JP.Fit (JP.cutP v p) := by
  unfold JP.cutP
  cases hc : JP.cutW v (stepsP p).2 with
  | none => exact h
  | some u => exact (JP.cutW_less h hc).1
theorem dropG_fit (bk : BookF) (m : Bs) (W : List Leaf) : ∀ (ps : List Bs) (v : JV), JP.Fit v → JP.Fit (dropG v bk m W ps)
  | [], _, h => h
  | p :: ps, v, h => by
    unfold dropG
    rw [List.foldl_cons]
    refine dropG_fit bk m W ps _ ?_
    split
    · exact h
    · exact cutP_fit p h
set_option maxRecDepth 100000 in
set_option maxHeartbeats 1600000 in
theorem drop1_any {gp : Nat} {sv vv : Value} {w : World} (x : Leaf) (hx : LeafFit x) (hr : LeafR w [.string (mkB (pathP x.1)), sv, vv] x) (p : ByteArray) (hg : w.heap[gp]? = some (.cells #[.string p] 9 (0, 0))) :
    Calls Tryz.prog 64 #[.agg #[.string (mkB (pathP x.1)), sv, vv], .pointer (some ⟨gp, 0, none⟩)] w fun e w' => e = .returned (.bool (JP.pathL x == p.data.toList)) ∧ Below w.heap.size w w' := by
  obtain ⟨_, _, hcs, hs, hv⟩ := hr
  simp only [List.cons.injEq, and_true, true_and] at hcs
  obtain ⟨rfl, rfl⟩ := hcs
  obtain ⟨sa, sc, rfl, -, -⟩ := hs.row.len
  have hvf : vv = .nilIface ∨ ∃ t u, vv = .iface t u := by obtain ⟨k, hk⟩ := hv; exact jv_form hk
  obtain ⟨sn, hsn⟩ : ∃ sn, (x.1.map mkB).length = sn := ⟨_, rfl⟩
  rw [hsn] at hs ⊢
  have hpath := hx.path
  rw [hpath]
  obtain ⟨X, hX⟩ : ∃ X, JP.pathL x = X := ⟨_, rfl⟩
  rw [hX]
  have e1 : ((mkB X).toList == p.toList) = (X == p.data.toList) := by rw [ByteArray.toList_eq, ByteArray.toList_eq, mkB_list]
  obtain ⟨ans, Hans⟩ : ∃ ans, Hid ((X == p.data.toList) = ans) := ⟨_, Lib.hid rfl⟩
  rw [Hans.out] at e1 ⊢
  obtain ⟨w1, hw1⟩ : ∃ w1, w1 = w.alloc (.cells #[.string (mkB X), .slice sa sn sc, vv] 65) := ⟨_, rfl⟩
  obtain ⟨gb, hgb⟩ : ∃ gb, gb = w.heap.size := ⟨_, rfl⟩
  have b1 : w1.heap[gb]? = some (.cells #[.string (mkB X), .slice sa sn sc, vv] 65 (0, 0)) := by rw [hw1, hgb]; exact heap_alloc_new w _
  have hb1 : Below w.heap.size w w1 := by rw [hw1]; exact (Below.refl _ w).alloc (Nat.le_refl _) _
  have c2 := fun i => cell_block b1 i
  have c3 := fun i => cell_block (below_block hb1 hg) i
  have HB1 := Lib.hid hb1
  clear hx hsn hs hv hg hb1 b1 hpath hX
  rcases hvf with rfl | ⟨vt, vu, rfl⟩
  all_goals
    go_enter Tryz.func64, Tryz.ntmps64
    go_upto_region 1 with fail
    rw [← hw1]
    try rw [← hgb]
    clear hw1 hgb
    go_wp2_with fail
    go_ret
    exact ⟨rfl, HB1.out⟩
set_option maxRecDepth 100000 in
set_option maxHeartbeats 1600000 in
theorem drop2_any {gp : Nat} {w : World} (q : ByteArray) (hq : q.size ≤ 1048576) (p : ByteArray) (hp : p.size ≤ 1048576) (hg : w.heap[gp]? = some (.cells #[.string p] 9 (0, 0))) :
    Calls Tryz.prog 65 #[.string q, .pointer (some ⟨gp, 0, none⟩)] w fun e w' => e = .returned (.bool (JP.touchB p.data.toList q.data.toList)) ∧ Below w.heap.size w w' := by
  have HT := Lib.hid (touch_any p.data.toList q.data.toList w (by rw [Array.length_toList]; exact hp) (by rw [Array.length_toList]; exact hq))
  rw [mkB_of, mkB_of] at HT
  have c3 := fun i => cell_block hg i
  obtain ⟨ans, Hans⟩ : ∃ ans, Hid (JP.touchB p.data.toList q.data.toList = ans) := ⟨_, Lib.hid rfl⟩
  rw [Hans.out] at HT ⊢
  clear hg hp hq
  go_enter Tryz.func65, Tryz.ntmps65
  go_wp2_with fail
  refine HT.out.mono ?_
  rintro E w1 ⟨rfl, rfl⟩
  go_wp2_with fail
  go_ret
  exact ⟨rfl, Below.refl _ _⟩
theorem run_drop1 : ∀ (a : Array Value) (w : World), (callFunc 64 a).run Tryz.prog w = .ok (.enter 64 a) w := run_callFunc_body Tryz.func64 (by kernel_rfl) (by kernel_rfl)
theorem run_drop2 : ∀ (a : Array Value) (w : World), (callFunc 65 a).run Tryz.prog w = .ok (.enter 65 a) w := run_callFunc_body Tryz.func65 (by kernel_rfl) (by kernel_rfl)
theorem book_at {w : World} {lo b n : Nat} {g : BookF} (h : BookAt w lo b n g) (m : Bs) (hm : m.length ≤ 1048576) : ∃ va vn vc, (∀ w', Below w.heap.size w w' → (Instr.lookup 56 (.map (some b)) (.string (mkB m)) false).run Tryz.prog w' = .ok (.slice va vn vc) w') ∧ vn = ((g m).getD []).length ∧ StrAt w (.slice va vn vc) (((g m).getD []).map mkB) := by
  obtain ⟨f, h1, h2, h3, h4, h5⟩ := h
  have hl := fun w' (hb : Below w.heap.size w w') => ((h1.belowW hb).look (t := 56) (e := 28) Tryz.underlying9 Tryz.underlying56 (Tryz.zeroStrs w') (mkB m) (by rw [mkB_size]; unfold maxLen; omega)).2
  rw [mkB_list] at hl
  have h6 := h2 m
  cases hf : f m with
  | none =>
    rw [hf] at h6
    have hg : g m = none := by cases h7 : g m with
      | none => rfl
      | some l => rw [h7] at h6; cases h6
    rw [hf] at hl
    exact ⟨none, 0, 0, hl, by rw [hg]; rfl, by rw [hg]; exact .inl ⟨rfl, rfl⟩⟩
  | some v =>
    rw [hf] at h6 hl
    obtain ⟨l, hg⟩ : ∃ l, g m = some l := Option.isSome_iff_exists.1 h6.symm
    have h8 := (h3 m v l hf hg).row
    obtain ⟨va, vc, rfl, -, -⟩ := h8.len
    rw [List.length_map] at hl h8
    exact ⟨va, l.length, vc, hl, by rw [hg]; rfl, by rw [hg]; exact h8.strs⟩
theorem len_sum : ∀ l : List Bs, l.length ≤ (l.map fun s => s.length + 1).sum
  | [] => Nat.le_refl _
  | a :: r => by have := len_sum r; rw [List.map_cons, List.sum_cons, List.length_cons]; omega
set_option maxRecDepth 100000 in
set_option maxHeartbeats 6400000 in
theorem drop_any {g lo b n : Nat} {lv lf : Value} {m : Bs} {live : JV} {W : List Leaf} {bk : BookF} {w : World} (hd : DealAt w g lv (.map (some b)) m lf) (hl : ∃ n, JvAt n [] w lv live) (hf : JP.Fit live) (hW : RowAt LeafR 3 w lf W) (hWl : W.length ≤ 1048576) (hx : ∀ x ∈ W, LeafFit x)
    (hb : BookAt w lo b n bk) (hg : ∀ k l, bk k = some l → l.length ≤ 1048576 ∧ ∀ s ∈ l, s.length ≤ 1048576) (hm : m.length ≤ 1048576) (hps : ∀ p ∈ (bk m).getD [], ∃ k, stepsP p = (0, k) ∧ k ≠ []) (hE : Env w) :
    Calls Tryz.prog 36 #[.pointer (some ⟨g, 0, none⟩)] w fun e w' => ∃ v k, e = .returned v ∧ JvAt k [] w' v (dropG live bk m W ((bk m).getD [])) ∧ Below w.heap.size w w' := by
  obtain ⟨va, vn, vc, hlook, hvn, hSt⟩ := book_at hb m hm
  have hpl : ((bk m).getD []).length ≤ 1048576 ∧ ∀ s ∈ (bk m).getD [], s.length ≤ 1048576 := by
    cases hbm : bk m with
    | none => exact ⟨Nat.zero_le _, fun s h => by cases h⟩
    | some l => exact hg m l hbm
  obtain ⟨ps, hpsd⟩ : ∃ ps, (bk m).getD [] = ps := ⟨_, rfl⟩
  rw [hpsd] at hvn hSt hpl hps ⊢
  obtain ⟨lfa, lfc, rfl, -, -⟩ := hW.len
  obtain ⟨nW, hnW⟩ : ∃ n, W.length = n := ⟨_, rfl⟩
  rw [hnW] at hd hW hWl
  have hlf : lv = .nilIface ∨ ∃ t u, lv = .iface t u := by obtain ⟨k, hk⟩ := hl; exact jv_form hk
  have hgl : g < w.heap.size := deal_lt hd
  have HL := Lib.hid hl
  have Hf := Lib.hid hf
  have HW := Lib.hid hW
  have Hx := Lib.hid hx
  have HBk := Lib.hid hb
  have Hg := Lib.hid hg
  have HE := Lib.hid hE
  have HD := Lib.hid hd
  have HSt := Lib.hid hSt
  have Hps := Lib.hid hps
  have Hpl := Lib.hid hpl
  have Hlook := Lib.hid hlook
  have HnW := Lib.hid hnW
  have Hvn := Lib.hid hvn
  have hvl : vn ≤ 1048576 := by rw [hvn]; exact hpl.1
  have dd : ∀ i, w.cell? ⟨g, i, none⟩ = #[lv, .map (some b), .string (mkB m), .slice lfa nW lfc][i]? := fun i => cell_block hd i
  clear hd hl hf hW hx hb hg hE hlook hSt hps hpl hpsd hnW hvn
  rcases hlf with rfl | ⟨lt, lu, rfl⟩
  all_goals
    go_enter Tryz.func36, Tryz.ntmps36
    go_upto_region 2 with fail
    have hlk : ∀ n, (Instr.lookup 56 (.map (some b)) (.string (mkB m)) false).run Tryz.prog (w.drewN n) = .ok (.slice va vn vc) (w.drewN n) := fun n => Hlook.out (w.drewN n) (below_drewN (Below.refl w.heap.size w) n)
    go_quiet (fail)
    have HB1 := Lib.hid (below_drewN (Below.refl w.heap.size w) nq)
    obtain ⟨w1, hw1⟩ : ∃ w1, w.drewN nq = w1 := ⟨_, rfl⟩
    rw [hw1] at HB1 ⊢
    clear hw1 hlk dd Hlook
    go_wp2_with fail
    go_loopg [3, 25] vn (fun k u3 u25 wr => ∃ i : Nat, i + k = vn ∧ u25 = .int .i64 (i : Int) ∧ Hid (∃ k, JvAt k [] wr u3 (dropG live bk m W (ps.take i))) ∧ Hid (Below w.heap.size w wr))
    case atStart =>
      exact ⟨0, by omega, rfl, Lib.hid (let ⟨k, hk⟩ := HL.out; ⟨k, hk.below HB1.out⟩), HB1⟩
    case round =>
      obtain ⟨i, hik, rfl, HJ, Hbel⟩ := hrel
      cases gk with
      | zero =>
        obtain rfl : vn = i := by omega
        have htk : ps.take vn = ps := List.take_of_length_le (by rw [Hvn.out]; exact Nat.le_refl _)
        rw [htk] at HJ
        clear htk
        go_wp2_with fail
        go_ret
        obtain ⟨k, hk⟩ := HJ.out
        exact ⟨_, k, rfl, hk, Hbel.out⟩
      | succ k =>
        have hil : i < vn := by omega
        obtain ⟨p, hpi⟩ : ∃ p, ps[i]? = some p := ⟨ps[i]'(by rw [← Hvn.out]; exact hil), List.getElem?_eq_getElem _⟩
        have hpm := List.mem_of_getElem? hpi
        have hplen : p.length ≤ 1048576 := Hpl.out.2 p hpm
        obtain ⟨kk, hst, hk0⟩ := Hps.out p hpm
        obtain ⟨bb, o, hva, e0⟩ : ∃ bb o, va = some ⟨bb, o, none⟩ ∧ wr.cell? ⟨bb, o + i, none⟩ = some (.string (mkB p)) := str_cell HSt.out Hbel.out hpi
        subst hva
        have q1 : (0 : Int) ≤ (i : Int) := by omega
        have q2 : (i : Int) < (vn : Int) := by omega
        obtain ⟨w2, hw2⟩ : ∃ w2, w2 = wr.alloc (.cells #[.string (mkB p)] 9) := ⟨_, rfl⟩
        obtain ⟨gp, hgp⟩ : ∃ gp, gp = wr.heap.size := ⟨_, rfl⟩
        have b2 : w2.heap[gp]? = some (.cells #[.string (mkB p)] 9 (0, 0)) := by rw [hw2, hgp]; exact heap_alloc_new wr _
        have hb2 : Below wr.heap.size wr w2 := by rw [hw2]; exact (Below.refl _ wr).alloc (Nat.le_refl _) _
        have hb12 := Hbel.out.trans (hb2.mono Hbel.out.size)
        have hgpl : gp < w2.heap.size := by rw [hw2, hgp, World.size_alloc]; omega
        have hmp : (mkB p).size ≤ 1048576 := by rw [mkB_size]; exact hplen
        have HA := Lib.hid (anyLeaf1_any (cap1 := .pointer (some ⟨gp, 0, none⟩)) (Cap := fun w' => w'.heap[gp]? = some (.cells #[.string (mkB p)] 9 (0, 0))) (p := fun x => JP.pathL x == (mkB p).data.toList) (OK := LeafFit) run_drop1 (fun a b h hb => below_block hb h)
          (fun x sv vv w' hr hx hc => drop1_any x hx hr (mkB p) hc) (.slice lfa nW lfc) W w2 (leaves_below HW.out hb12) (by rw [HnW.out]; omega) Hx.out b2)
        have HOth : Hid (∀ w', Below w2.heap.size w2 w' → Calls Tryz.prog 57 #[.map (some b), .string (mkB m), .func (.func 65) #[] #[.pointer (some ⟨gp, 0, none⟩)]] w' fun e w'' => e = .returned (.bool (othersG bk m (JP.touchB p))) ∧ Below w'.heap.size w' w'') := Lib.hid fun w' hb' => by
          refine (others1_any (cap1 := .pointer (some ⟨gp, 0, none⟩)) (Cap := fun w' => w'.heap[gp]? = some (.cells #[.string (mkB p)] 9 (0, 0))) (p := JP.touchB p) run_drop2 (fun _ _ h hb => below_block hb h) (fun q w' hq hc => (by
            have h9 := drop2_any q hq (mkB p) hmp hc
            rw [mkB_list] at h9
            exact h9)) w' lo b n bk m ((HBk.out.below hb12).below hb') Hg.out (below_block hb' b2)).mono ?_
          rintro E w'' ⟨B, rfl, hB, hb''⟩
          exact ⟨by rw [hB.eq], hb''⟩
        rw [mkB_list] at HA
        obtain ⟨wd, Hwd⟩ : ∃ wd, Hid ((W.any fun x => JP.pathL x == p) = wd) := ⟨_, Lib.hid rfl⟩
        rw [Hwd.out] at HA
        obtain ⟨ob, Hob⟩ : ∃ ob, Hid (othersG bk m (JP.touchB p) = ob) := ⟨_, Lib.hid rfl⟩
        rw [Hob.out] at HOth
        have HB2 := Lib.hid hb12
        have HJ2 : Hid (∃ k, JvAt k [] w2 u3 (dropG live bk m W (ps.take i))) := Lib.hid (let ⟨k, hk⟩ := HJ.out; ⟨k, hk.below hb2⟩)
        have Hmore : Hid (dropG live bk m W (ps.take (i + 1)) = if (wd || ob) = true then dropG live bk m W (ps.take i) else JP.cutP (dropG live bk m W (ps.take i)) p) := Lib.hid (by
          rw [List.take_add_one, hpi]
          show dropG live bk m W (_ ++ [p]) = _
          rw [dropG_more, Hwd.out, Hob.out])
        have HVf := Lib.hid (dropG_fit bk m W (ps.take i) live Hf.out)
        obtain ⟨V, hV⟩ : ∃ V, dropG live bk m W (ps.take i) = V := ⟨_, rfl⟩
        rw [hV] at HJ2 Hmore HVf
        have hV0 := Lib.hid hV
        have hgl2 : g < w2.heap.size := Nat.lt_of_lt_of_le hgl hb12.size
        have D2 := Lib.hid (HD.out.below hb12)
        have dd : ∀ i, w2.cell? ⟨g, i, none⟩ = _ := fun i => cell_block D2.out i
        have B2 := Lib.hid b2
        have Hst := Lib.hid hst
        have Hk0 := Lib.hid hk0
        have Hpi := Lib.hid hpi
        clear hb2 hb12 b2 hV HJ hpm hst hk0 hpi
        go_upto_region 5 with fail
        rw [← hw2]
        try rw [← hgp]
        clear hw2 hgp e0
        go_wp2_with fail
        refine HA.out.mono ?_
        rintro E w3 ⟨rfl, hb3⟩
        have hgl3 : g < w3.heap.size := Nat.lt_of_lt_of_le hgl2 hb3.size
        have HB3 := Lib.hid hb3
        have hs3 := hb3.size
        clear hb3 dd HA
        have HD3 := Lib.hid (D2.out.below HB3.out)
        have b3 := below_block HB3.out B2.out
        cases wd with
        | true =>
          have hm1 : dropG live bk m W (ps.take (i + 1)) = dropG live bk m W (ps.take i) := by rw [Hmore.out, hV0.out]; rfl
          go_upto_region 6 with fail
          refine wp_region_hold 12 (fun w' => Below w3.heap.size w3 w') (by kernel_rfl) (by kernel_rfl) ?_ ?_
          · exact below_drewF w3
          simp only [List.take_succ_cons, List.take_zero, List.drop_succ_cons, List.drop_zero]
          (first | (refine wpHold_pure (v := ?_) (by rfl) (fun w => ?_) ?_; rotate_left; focus (first | (go_simp; done) | (go_simp; with_reducible rfl))) | (refine wpHold_skip ?_ ?_; focus (go_simp; done)) | (refine wpHold_pure' (v := ?_) ?_ (fun w => ?_) ?_; rotate_left; focus (go_simp; done); focus (first | (go_simp; done) | (go_simp; with_reducible rfl)))); try simp only [Act.put, List.setIfInBounds_toArray, List.set_cons_zero, List.set_cons_succ]
          (first | (refine wpHold_pure (v := ?_) (by rfl) (fun w => ?_) ?_; rotate_left; focus (first | (go_simp; done) | (go_simp; with_reducible rfl))) | (refine wpHold_skip ?_ ?_; focus (go_simp; done)) | (refine wpHold_pure' (v := ?_) ?_ (fun w => ?_) ?_; rotate_left; focus (go_simp; done); focus (first | (go_simp; done) | (go_simp; with_reducible rfl)))); try simp only [Act.put, List.setIfInBounds_toArray, List.set_cons_zero, List.set_cons_succ]
          refine wpHold_skip ?_ ?_
          focus (go_simp; done)
          try simp only [Act.put, List.setIfInBounds_toArray, List.set_cons_zero, List.set_cons_succ]
          refine wpHold_skip ?_ ?_
          focus (go_simp; done)
          try simp only [Act.put, List.setIfInBounds_toArray, List.set_cons_zero, List.set_cons_succ]
          refine wpHold_skip ?_ ?_
          focus (go_simp; done)
          try simp only [Act.put, List.setIfInBounds_toArray, List.set_cons_zero, List.set_cons_succ]
          refine wpHold_skip ?_ ?_
          focus (go_simp; done)
          try simp only [Act.put, List.setIfInBounds_toArray, List.set_cons_zero, List.set_cons_succ]
          refine wpHold_skip ?_ ?_
          focus (go_simp; done)
          try simp only [Act.put, List.setIfInBounds_toArray, List.set_cons_zero, List.set_cons_succ]
          refine wpHold_skip ?_ ?_
          focus (go_simp; done)
          try simp only [Act.put, List.setIfInBounds_toArray, List.set_cons_zero, List.set_cons_succ]
          refine wpHold_skip ?_ ?_
          focus (go_simp; done)
          try simp only [Act.put, List.setIfInBounds_toArray, List.set_cons_zero, List.set_cons_succ]
          refine wpHold_skip ?_ ?_
          focus (go_simp; done)
          try simp only [Act.put, List.setIfInBounds_toArray, List.set_cons_zero, List.set_cons_succ]
          refine wpHold_skip ?_ ?_
          focus (go_simp; done)
          try simp only [Act.put, List.setIfInBounds_toArray, List.set_cons_zero, List.set_cons_succ]
          refine wpHold_skip ?_ ?_
          focus (go_simp; done)
          try simp only [Act.put, List.setIfInBounds_toArray, List.set_cons_zero, List.set_cons_succ]
          refine wpHold_nil ?_
          intro w4 hI4
          have HJ4 : Hid (∃ k, JvAt k [] w4 u3 (dropG live bk m W (ps.take (i + 1)))) := Lib.hid (by
            rw [hm1, hV0.out]
            obtain ⟨k, hk⟩ := HJ2.out
            exact ⟨k, (hk.below HB3.out).below hI4⟩)
          have HB4 := Lib.hid (HB2.out.trans ((HB3.out.trans (hI4.mono HB3.out.size)).mono HB2.out.size))
          clear hI4 b3 hm1
          go_wp2_with fail
          go_roundg k
          case measure => omega
          case rel => exact ⟨i + 1, by omega, by go_num, HJ4, HB4⟩
        | false =>
          go_upto_region 6 with fail
          refine wp_region_hold 12 (fun w' => Below w3.heap.size w3 w') (by kernel_rfl) (by kernel_rfl) ?_ ?_
          · exact below_drewF w3
          simp only [List.take_succ_cons, List.take_zero, List.drop_succ_cons, List.drop_zero]
          (first | (refine wpHold_pure (v := ?_) (by rfl) (fun w => ?_) ?_; rotate_left; focus (first | (go_simp; done) | (go_simp; with_reducible rfl))) | (refine wpHold_skip ?_ ?_; focus (go_simp; done)) | (refine wpHold_pure' (v := ?_) ?_ (fun w => ?_) ?_; rotate_left; focus (go_simp; done); focus (first | (go_simp; done) | (go_simp; with_reducible rfl)))); try simp only [Act.put, List.setIfInBounds_toArray, List.set_cons_zero, List.set_cons_succ]
          (first | (refine wpHold_pure (v := ?_) (by rfl) (fun w => ?_) ?_; rotate_left; focus (first | (go_simp; done) | (go_simp; with_reducible rfl))) | (refine wpHold_skip ?_ ?_; focus (go_simp; done)) | (refine wpHold_pure' (v := ?_) ?_ (fun w => ?_) ?_; rotate_left; focus (go_simp; done); focus (first | (go_simp; done) | (go_simp; with_reducible rfl)))); try simp only [Act.put, List.setIfInBounds_toArray, List.set_cons_zero, List.set_cons_succ]
          refine wpHold_pure' (v := ?_) ?_ (fun w => ?_) ?_
          rotate_left
          focus (go_simp; done)
          focus (first | (go_simp; done) | (go_simp; with_reducible rfl))
          try simp only [Act.put, List.setIfInBounds_toArray, List.set_cons_zero, List.set_cons_succ]
          refine wpHold_pure' (v := ?_) ?_ (fun w => ?_) ?_
          rotate_left
          focus (go_simp; done)
          focus (first | (go_simp; done) | (go_simp; with_reducible rfl))
          try simp only [Act.put, List.setIfInBounds_toArray, List.set_cons_zero, List.set_cons_succ]
          refine wpHold_pure' (v := ?_) ?_ (fun w => ?_) ?_
          rotate_left
          focus (go_simp; done)
          focus (first | (go_simp; done) | (go_simp; with_reducible rfl))
          try simp only [Act.put, List.setIfInBounds_toArray, List.set_cons_zero, List.set_cons_succ]
          refine wpHold_read' (v := .map (some b)) (by first | rfl | (go_simp; done)) (fun w' hI => ?_) ?_
          · have d0 := (hI.cell (p := ⟨g, 1, none⟩) hgl3).trans (cell_block HD3.out 1)
            go_simp
            done
          try simp only [Act.put, List.setIfInBounds_toArray, List.set_cons_zero, List.set_cons_succ]
          refine wpHold_pure' (v := ?_) ?_ (fun w => ?_) ?_
          rotate_left
          focus (go_simp; done)
          focus (first | (go_simp; done) | (go_simp; with_reducible rfl))
          try simp only [Act.put, List.setIfInBounds_toArray, List.set_cons_zero, List.set_cons_succ]
          refine wpHold_pure' (v := ?_) ?_ (fun w => ?_) ?_
          rotate_left
          focus (go_simp; done)
          focus (first | (go_simp; done) | (go_simp; with_reducible rfl))
          try simp only [Act.put, List.setIfInBounds_toArray, List.set_cons_zero, List.set_cons_succ]
          refine wpHold_pure' (v := ?_) ?_ (fun w => ?_) ?_
          rotate_left
          focus (go_simp; done)
          focus (first | (go_simp; done) | (go_simp; with_reducible rfl))
          try simp only [Act.put, List.setIfInBounds_toArray, List.set_cons_zero, List.set_cons_succ]
          refine wpHold_read' (v := .string (mkB m)) (by first | rfl | (go_simp; done)) (fun w' hI => ?_) ?_
          · have d0 := (hI.cell (p := ⟨g, 2, none⟩) hgl3).trans (cell_block HD3.out 2)
            go_simp
            done
          try simp only [Act.put, List.setIfInBounds_toArray, List.set_cons_zero, List.set_cons_succ]
          refine wpHold_pure' (v := ?_) ?_ (fun w => ?_) ?_
          rotate_left
          focus (go_simp; done)
          focus (first | (go_simp; done) | (go_simp; with_reducible rfl))
          try simp only [Act.put, List.setIfInBounds_toArray, List.set_cons_zero, List.set_cons_succ]
          refine wpHold_call' (v := .bool ob) (f := 57) (args := #[.map (some b), .string (mkB m), .func (.func 65) #[] #[.pointer (some ⟨gp, 0, none⟩)]]) (by first | rfl | (go_simp; done)) (fun w' => by go_simp) (fun w' hI => (HOth.out w' (HB3.out.trans (hI.mono HB3.out.size))).mono fun e w'' h => ?_) ?_
          · exact ⟨h.1, hI.trans (h.2.mono hI.size)⟩
          try simp only [Act.put, List.setIfInBounds_toArray, List.set_cons_zero, List.set_cons_succ]
          refine wpHold_nil ?_
          intro w4 hI4
          have HJ4 : Hid (∃ k, JvAt k [] w4 u3 V) := Lib.hid (by
            obtain ⟨k, hk⟩ := HJ2.out
            exact ⟨k, (hk.below HB3.out).below hI4⟩)
          have HB24 := Lib.hid (HB3.out.trans (hI4.mono HB3.out.size))
          have HB4 := Lib.hid (HB2.out.trans (HB24.out.mono HB2.out.size))
          have hs4 := HB4.out.size
          clear hI4 b3 HOth HJ2 HD3
          cases ob with
          | true =>
            have HJ5 : Hid (∃ k, JvAt k [] w4 u3 (dropG live bk m W (ps.take (i + 1)))) := Lib.hid (by rw [Hmore.out]; exact HJ4.out)
            go_wp2_with fail
            go_roundg k
            case measure => omega
            case rel => exact ⟨i + 1, by omega, by go_num, HJ5, HB4⟩
          | false =>
            have hE4 := HE.out.below HB4.out
            obtain ⟨mm, hmm⟩ := hE4.2.2
            have hS := ptrSteps_any (mkB p) mm w4 (by omega) hmm
            rw [mkB_list, Hst.out] at hS
            have HS := Lib.hid hS
            have c4 := fun i => cell_block (below_block HB24.out B2.out) i
            have HE4 := Lib.hid hE4
            clear hS hmm hE4
            go_wp2_with fail
            refine HS.out.mono ?_
            rintro E w5 ⟨v5, rfl, ⟨l5, hv5, hl5⟩, hb5⟩
            have hl5' : l5 = kk.map mkB := by
              have h9 : l5 = (l5.map (·.data.toList)).map mkB := by
                rw [List.map_map]
                have h8 : (mkB ∘ fun x : ByteArray => x.data.toList) = id := funext fun x => mkB_of x
                rw [h8, List.map_id]
              rw [h9, hl5]
            rw [hl5'] at hv5
            obtain ⟨sa, sc, rfl, -, -⟩ := hv5.row.len
            obtain ⟨sn, hsn⟩ : ∃ sn, (kk.map mkB).length = sn := ⟨_, rfl⟩
            rw [hsn] at hv5 ⊢
            obtain ⟨k5, hJ5⟩ := HJ4.out
            have hkl := steps_mem Hst.out
            have hcut := tcut_any (hJ5.below hb5) (by have := HVf.out.2.2.2; omega) hv5 (fun s hs => by have := hkl s hs; omega) (Nat.le_trans (len_sum kk) (Nat.le_trans (steps_total Hst.out) hplen)) Hk0.out ((HE4.out.below hb5).1) ((HE4.out.below hb5).2.1)
            obtain ⟨oc, hoc⟩ : ∃ oc, JP.cutW V kk = oc := ⟨_, rfl⟩
            rw [hoc] at hcut
            have Hoc := Lib.hid hoc
            have HCut := Lib.hid hcut
            have HB5 := Lib.hid (HB4.out.trans (hb5.mono HB4.out.size))
            have HJ5' := Lib.hid (hJ5.below hb5)
            have hs5 := HB5.out.size
            have Hmm : Hid (dropG live bk m W (ps.take (i + 1)) = (oc).getD V) := Lib.hid (by
              rw [Hmore.out]
              show JP.cutP V p = _
              unfold JP.cutP
              rw [Hst.out, Hoc.out])
            clear hv5 hl5 hl5' hb5 hJ5 hkl hcut hoc hsn c4 HS HJ4 Hmore HE4
            go_wp2_with fail
            refine HCut.out.mono ?_
            rintro E w6 ⟨u6, rfl, hu6, hb6⟩
            have HB6 := Lib.hid (HB5.out.trans (hb6.mono HB5.out.size))
            cases oc with
            | none =>
              have HJ6 : Hid (∃ k, JvAt k [] w6 u3 (dropG live bk m W (ps.take (i + 1)))) := Lib.hid (by rw [Hmm.out]; exact ⟨_, HJ5'.out.below hb6⟩)
              rw [show JP.codE 7 (none : Option JV) = 7 from rfl]
              clear hu6 hb6 HCut HJ5'
              go_wp2_with fail
              go_roundg k
              case measure => omega
              case rel => exact ⟨i + 1, by omega, by go_num, HJ6, HB6⟩
            | some z =>
              have HJ6 : Hid (∃ k, JvAt k [] w6 u6 (dropG live bk m W (ps.take (i + 1)))) := Lib.hid (by rw [Hmm.out]; exact hu6 z rfl)
              rw [show JP.codE 7 (some z : Option JV) = 0 from rfl]
              clear hu6 hb6 HCut HJ5'
              go_wp2_with fail
              go_roundg k
              case measure => omega
              case rel => exact ⟨i + 1, by omega, by go_num, HJ6, HB6⟩
end Go.Proofs.YtdcmnpeabjallaaGreatDoor
namespace Go.Proofs.YtdcmnpeabjallaaGreatDoor
open Go.RowKit
open JP (JV Bs Lf)
theorem fields_other {d : JV} (h : ∀ l, d ≠ .obj l) : JP.fieldsOf d = [] := by
  cases d with
  | obj l => exact absurd rfl (h l)
  | _ => rfl
theorem sizeF_len' (l : List (Bs × JV)) : l.length ≤ JP.sizeF l := by
  induction l with
  | nil => exact Nat.le_refl _
  | cons x r ih => obtain ⟨n, v⟩ := x; have := JP.size_pos v; rw [JP.sizeF, List.length_cons]; omega
theorem sizeF_gto (s : Bs) : ∀ d : List (Bs × JV), JP.sizeF (JP.fieldsOf (JP.gto s d)) ≤ JP.sizeF d
  | [] => Nat.le_refl _
  | (m, x) :: r => by
    have ih := sizeF_gto s r
    unfold JP.gto at ih ⊢
    rw [JP.get, JP.sizeF]
    by_cases h : m = s
    · rw [if_pos h]
      have := JP.sizeF_fields x
      simp only [Option.getD]; omega
    · rw [if_neg h]; omega
theorem below_drewNs {B : Nat} {a w : World} (h : Below B a w) (n : Nat) : Below B a (w.drewN n) := ⟨h.os, h.tape, h.output, h.size, h.block⟩
set_option maxRecDepth 100000 in
set_option maxHeartbeats 6400000 in
theorem set_any (T : List Nat) : ∀ (l : List Bs) (n k : Nat) (v sv wv : Value) (x y : JV) (w : World), JvAt n T w v x → JvAt k T w wv y → StrAt w sv (l.map mkB) → l.length ≤ 1048576 → JP.sizeF (JP.fieldsOf x) ≤ 1000000 → (∀ b ∈ T, b < w.heap.size) →
    Calls Tryz.prog 37 #[v, sv, wv] w fun e w' => ∃ u, e = .returned u ∧ (∃ j, JvAt j T w' u (JP.setV x l y)) ∧ Below w.heap.size w w' := by
  intro l
  induction l with
  | nil =>
    intro n k v sv wv x y w hv hw hs _ _ _
    rw [JP.setV_nil]
    obtain ⟨a1, c1, rfl, -, -⟩ := hs.len
    have HW := Lib.hid hw
    clear hv hw hs
    go_enter Tryz.func37, Tryz.ntmps37
    go_wp2_with fail
    go_ret
    exact ⟨_, rfl, ⟨k, HW.out⟩, Below.refl _ _⟩
  | cons s r ih =>
    intro n k v sv wv x y w hv hw hs hll hsz hT
    obtain ⟨a1, c1, hu, hlc, -⟩ := hs.len
    rw [List.length_map] at hu hlc
    subst hu
    obtain ⟨b, o, ea, e0⟩ := str_cell (wr := w) hs (Below.refl _ _) (i := 0) (y := s) rfl
    subst ea
    have e0 : w.cell? ⟨b, o, none⟩ = some (.string (mkB s)) := e0
    have hbw := World.block_lt_of_cell? w ⟨b, o, none⟩ e0
    have hlen : (s :: r).length = r.length + 1 := rfl
    obtain ⟨m, hm⟩ : ∃ m, r.length = m := ⟨_, rfl⟩
    rw [hm] at hlen
    rw [hlen] at hs hll hlc ⊢
    have hcut := hs.cut (i := 1) (j := m + 1) (b := b) (o := o) (c := c1) (by rw [List.length_map, hlen]) (by omega) (by rw [List.length_map, hlen]; omega)
    rw [List.take_of_length_le (by rw [List.length_map, hlen]; omega), List.map_cons, List.drop_one, List.tail_cons] at hcut
    obtain ⟨tv, htv, hts⟩ : ∃ tv, ((c1 = 1 ∧ tv = .slice (some ⟨b, o, none⟩) 0 0) ∨ (c1 ≠ 1 ∧ tv = .slice (some ⟨b, o + 1, none⟩) (m + 1 - 1) (c1 - 1))) ∧ StrAt w tv (r.map mkB) := by
      by_cases hc : c1 = 1
      · have hm0 : m = 0 := by omega
        have hr0 : r = [] := List.eq_nil_of_length_eq_zero (hm.trans hm0)
        exact ⟨_, .inl ⟨hc, rfl⟩, by rw [hr0]; exact .inr ⟨_, 0, rfl, Nat.le_refl _, Nat.zero_le _, fun j x h => by simp at h⟩⟩
      · exact ⟨_, .inr ⟨hc, rfl⟩, hcut⟩
    have HTv := Lib.hid htv
    have HCut := Lib.hid hts
    have HW := Lib.hid hw
    have HVr := Lib.hid hv
    have HT := Lib.hid hT
    have IH := Lib.hid ih
    have Hm := Lib.hid hm
    have hdl := sizeF_len' (JP.fieldsOf x)
    have hgz := sizeF_gto s (JP.fieldsOf x)
    have q1 : ((m : Int) + 1 == 0) = false := by rw [beq_eq_false_iff_ne]; omega
    have q2 : (0 : Int) < (m : Int) + 1 := by omega
    have q3 : (1 : Int) ≤ (m : Int) + 1 := by omega
    have q4 : (m : Int) + 1 ≤ (c1 : Int) := by omega
    have q5 : ((m : Int) + 1).toNat = m + 1 := by omega
    have hset := JP.setV_cons x s r y
    obtain ⟨D, hD⟩ : ∃ D, JP.fieldsOf x = D := ⟨_, rfl⟩
    rw [hD] at hset hdl hgz hsz
    rw [hset]
    clear hset
    have way : (∃ q M, x = .obj D ∧ v = .iface 88 (.pointer (some ⟨q, 0, none⟩)) ∧ ObR (JvR M T) T w q D) ∨ (D = [] ∧ (∀ w' : World, (Instr.typeAssert v 47 88 true).run Tryz.prog w' = .ok (.tuple #[.pointer none, .bool false]) w')) := by
      by_cases hdo : ∃ d, x = .obj d
      · obtain ⟨d, rfl⟩ := hdo
        have : d = D := hD
        subst this
        cases n with
        | zero => cases hv
        | succ n =>
          obtain ⟨qd, rfl, hdr⟩ := hv
          exact .inl ⟨qd, n, rfl, rfl, hdr⟩
      · have hdn : ∀ d, x ≠ .obj d := fun d e => hdo ⟨d, e⟩
        exact .inr ⟨by rw [← hD, fields_other hdn], as_other hv hdn⟩
    clear hv hw hs ih hcut hm hD htv hts hT
    rcases way with ⟨q, M, rfl, rfl, hdr⟩ | ⟨rfl, G2⟩
    · have G2 := (as_obj (.pointer (some ⟨q, 0, none⟩))).2.2.2.2
      have HO := Lib.hid hdr
      have HB := Lib.hid (Below.refl w.heap.size w)
      clear hdr HVr
      go_enter Tryz.func37, Tryz.ntmps37
      have HG := Lib.hid (get_any (x := s) (w := w) HO.out (by omega))
      have e1 : (w).cell? ⟨b, o, none⟩ = some (.string (mkB s)) := (HB.out.cell (p := ⟨b, o, none⟩) hbw).trans e0
      go_wp2_with fail
      refine HG.out.mono ?_
      rintro E w2 ⟨vg, rfl, hs2, hn2, k2, hw2⟩
      obtain ⟨m2, hm2⟩ : ∃ m2, JvAt m2 T w2 vg (JP.gto s D) := by
        unfold JP.gto
        rw [hw2]
        cases hgo : JP.get s D with
        | none => exact ⟨1, hn2 hgo⟩
        | some u => exact ⟨_, (hs2 u hgo).keepT (KeepT.drewN _ k2)⟩
      have hO2 : ObR (JvR M T) T w2 q D := by rw [hw2]; exact HO.out.keepJ (KeepT.drewN _ k2)
      have hB2 : Below w.heap.size w w2 := by rw [hw2]; exact below_drewNs HB.out k2
      have HM2 := Lib.hid hm2
      have HO2 := Lib.hid hO2
      have HB2 := Lib.hid hB2
      have e2 : w2.cell? ⟨b, o, none⟩ = some (.string (mkB s)) := (hB2.cell (p := ⟨b, o, none⟩) hbw).trans e0
      clear hm2 hO2 hB2 hs2 hn2 hw2 HG e1
      go_upto_region 7 with fail
      refine wp_region_relB 11 (fun ii U w' => match ii with
        | 0 => U 0 = .pointer (some ⟨q, 0, none⟩)
        | 1 => U 1 = .slice (some ⟨b, o, none⟩) (m + 1) c1
        | 2 => U 2 = .pointer (some ⟨b, o, none⟩)
        | 3 => U 3 = .string (mkB s)
        | 4 => U 4 = vg
        | 5 => U 5 = .slice (some ⟨b, o, none⟩) (m + 1) c1
        | 6 => U 6 = tv
        | 7 => U 7 = wv
        | 8 => ∃ j, JvAt j T w' (U 8) (JP.setV (JP.gto s D) r y)
        | 9 => ∃ q' j, U 9 = .pointer (some ⟨q', 0, none⟩) ∧ ObR (JvR j T) T w' q' (JP.put s (JP.setV (JP.gto s D) r y) D)
        | 10 => ∃ q' j, U 10 = .iface 88 (.pointer (some ⟨q', 0, none⟩)) ∧ ObR (JvR j T) T w' q' (JP.put s (JP.setV (JP.gto s D) r y) D)
        | _ => True)
        (fun | 2 => [1] | 3 => [2] | 6 => [5] | 8 => [4, 6, 7] | 9 => [0, 3, 8] | 10 => [9] | _ => []) (by kernel_rfl) (by kernel_rfl) ?_ ⟨?_, ?_, ?_, ?_, ?_, ?_, ?_, ?_, ?_, ?_, ?_, trivial⟩ ?_
      · intro j u w1 w2 hb h
        match j, h with
        | 0, h => exact h
        | 1, h => exact h
        | 2, h => exact h
        | 3, h => exact h
        | 4, h => exact h
        | 5, h => exact h
        | 6, h => exact h
        | 7, h => exact h
        | 8, h => exact (let ⟨j, hj⟩ := h; ⟨j, hj.below hb⟩)
        | 9, h => exact (let ⟨q', j, h1, h2⟩ := h; ⟨q', j, h1, h2.keepJ (KeepT.of hb)⟩)
        | 10, h => exact (let ⟨q', j, h1, h2⟩ := h; ⟨q', j, h1, h2.keepJ (KeepT.of hb)⟩)
        | _ + 11, h => trivial
      · intro x' w' hb hd
        have hb2r : Below w2.heap.size w2 w' := (below_drewF w2).trans hb
        have hbr : Below w.heap.size w w' := HB2.out.trans (hb2r.mono HB2.out.size)
        refine owes_here (.pointer (some ⟨q, 0, none⟩)) (by rfl) ?_ rfl
        simp only [putAll, List.take_succ_cons, List.take_zero]
        go_simp
      · intro x' w' hb hd
        have hb2r : Below w2.heap.size w2 w' := (below_drewF w2).trans hb
        have hbr : Below w.heap.size w w' := HB2.out.trans (hb2r.mono HB2.out.size)
        refine owes_here (.slice (some ⟨b, o, none⟩) (m + 1) c1) (by rfl) ?_ rfl
        simp only [putAll, List.take_succ_cons, List.take_zero]
        go_simp
      · intro x' w' hb hd
        have hb2r : Below w2.heap.size w2 w' := (below_drewF w2).trans hb
        have hbr : Below w.heap.size w w' := HB2.out.trans (hb2r.mono HB2.out.size)
        have k1 : x' 1 = .slice (some ⟨b, o, none⟩) (m + 1) c1 := hd 1 (by simp)
        refine owes_here (.pointer (some ⟨b, o, none⟩)) (by rfl) ?_ rfl
        simp only [putAll, List.take_succ_cons, List.take_zero]
        go_simp
      · intro x' w' hb hd
        have hb2r : Below w2.heap.size w2 w' := (below_drewF w2).trans hb
        have hbr : Below w.heap.size w w' := HB2.out.trans (hb2r.mono HB2.out.size)
        have k2 : x' 2 = .pointer (some ⟨b, o, none⟩) := hd 2 (by simp)
        have e9 := (hb2r.cell (p := ⟨b, o, none⟩) (World.block_lt_of_cell? w2 ⟨b, o, none⟩ e2)).trans e2
        refine owes_here (.string (mkB s)) (by rfl) ?_ rfl
        simp only [putAll, List.take_succ_cons, List.take_zero]
        go_simp
      · intro x' w' hb hd
        have hb2r : Below w2.heap.size w2 w' := (below_drewF w2).trans hb
        have hbr : Below w.heap.size w w' := HB2.out.trans (hb2r.mono HB2.out.size)
        refine owes_here vg (by rfl) ?_ rfl
        simp only [putAll, List.take_succ_cons, List.take_zero]
        go_simp
      · intro x' w' hb hd
        have hb2r : Below w2.heap.size w2 w' := (below_drewF w2).trans hb
        have hbr : Below w.heap.size w w' := HB2.out.trans (hb2r.mono HB2.out.size)
        refine owes_here (.slice (some ⟨b, o, none⟩) (m + 1) c1) (by rfl) ?_ rfl
        simp only [putAll, List.take_succ_cons, List.take_zero]
        go_simp
      · intro x' w' hb hd
        have hb2r : Below w2.heap.size w2 w' := (below_drewF w2).trans hb
        have hbr : Below w.heap.size w w' := HB2.out.trans (hb2r.mono HB2.out.size)
        have k5 : x' 5 = .slice (some ⟨b, o, none⟩) (m + 1) c1 := hd 5 (by simp)
        refine owes_here tv (by rfl) ?_ rfl
        simp only [putAll, List.take_succ_cons, List.take_zero]
        rcases HTv.out with ⟨hc, e⟩ | ⟨hc, e⟩
        · have hm0 : m = 0 := by omega
          rw [e]
          go_simp
          try exact hm0
        · rw [e]
          go_simp
      · intro x' w' hb hd
        have hb2r : Below w2.heap.size w2 w' := (below_drewF w2).trans hb
        have hbr : Below w.heap.size w w' := HB2.out.trans (hb2r.mono HB2.out.size)
        refine owes_here wv (by rfl) ?_ rfl
        simp only [putAll, List.take_succ_cons, List.take_zero]
        go_simp
      · intro x' w' hb hd
        have hb2r : Below w2.heap.size w2 w' := (below_drewF w2).trans hb
        have hbr : Below w.heap.size w w' := HB2.out.trans (hb2r.mono HB2.out.size)
        have k4 : x' 4 = vg := hd 4 (by simp)
        have k6 : x' 6 = tv := hd 6 (by simp)
        have k7 : x' 7 = wv := hd 7 (by simp)
        refine owes_call 37 #[vg, tv, wv] (by rfl) ?_ ((IH.out m2 k vg _ wv (JP.gto s D) y w' (HM2.out.below hb2r) (HW.out.below hbr) (HCut.out.below hbr) (by rw [Hm.out]; omega) (by omega) (fun b hb => Nat.lt_of_lt_of_le (HT.out b hb) hbr.size)).mono fun e w3 ⟨uu, h1, h2, h3⟩ => ⟨_, h1, h2, h3⟩)
        simp only [putAll, List.take_succ_cons, List.take_zero]
        go_simp
      · intro x' w' hb hd
        have hb2r : Below w2.heap.size w2 w' := (below_drewF w2).trans hb
        have hbr : Below w.heap.size w w' := HB2.out.trans (hb2r.mono HB2.out.size)
        have k0 : x' 0 = .pointer (some ⟨q, 0, none⟩) := hd 0 (by simp)
        have k3 : x' 3 = .string (mkB s) := hd 3 (by simp)
        obtain ⟨j8, k8⟩ : ∃ j, JvAt j T w' (x' 8) (JP.setV (JP.gto s D) r y) := hd 8 (by simp)
        refine owes_call 70 #[.pointer (some ⟨q, 0, none⟩), .string (mkB s), x' 8] (by rfl) ?_ ((with_any (x := s) ((HO2.out.keepJ (KeepT.of hb2r)).upsJ (Nat.le_max_left M j8)) (k8.ups (Nat.le_max_right M j8)) (fun b hb => Nat.lt_of_lt_of_le (HT.out b hb) hbr.size) (by omega)).mono fun e w3 ⟨q', h1, h2, h3⟩ => ⟨_, h1, ⟨q', _, rfl, h2⟩, h3⟩)
        simp only [putAll, List.take_succ_cons, List.take_zero]
        go_simp
      · intro x' w' hb hd
        have hb2r : Below w2.heap.size w2 w' := (below_drewF w2).trans hb
        have hbr : Below w.heap.size w w' := HB2.out.trans (hb2r.mono HB2.out.size)
        obtain ⟨q', j, k9, k10⟩ : ∃ q' j, x' 9 = .pointer (some ⟨q', 0, none⟩) ∧ ObR (JvR j T) T w' q' (JP.put s (JP.setV (JP.gto s D) r y) D) := hd 9 (by simp)
        refine owes_here (.iface 88 (.pointer (some ⟨q', 0, none⟩))) (by rfl) ?_ ⟨q', j, rfl, k10⟩
        clear k10 hd
        simp only [putAll, List.take_succ_cons, List.take_zero]
        go_simp
      · intro x' w' hb hR
        have hb2r : Below w2.heap.size w2 w' := (below_drewF w2).trans hb
        have hbr : Below w.heap.size w w' := HB2.out.trans (hb2r.mono HB2.out.size)
        obtain ⟨q', j, k10, k11⟩ : ∃ q' j, x' 10 = .iface 88 (.pointer (some ⟨q', 0, none⟩)) ∧ ObR (JvR j T) T w' q' (JP.put s (JP.setV (JP.gto s D) r y) D) := hR 10 (by omega)
        have HF := Lib.hid k11
        have HBF := Lib.hid hbr
        clear hR hb hb2r hbr k11
        simp only [putAll, List.take_succ_cons, List.take_zero, List.drop_succ_cons, List.drop_zero]
        rw [k10]
        clear k10
        try simp only [Act.put, List.setIfInBounds_toArray, List.set_cons_zero, List.set_cons_succ]
        go_wp2_with fail
        go_ret
        exact ⟨_, rfl, ⟨j + 1, q', rfl, HF.out⟩, HBF.out⟩
    · obtain ⟨w1, hw1⟩ : ∃ w1, w1 = w.alloc (.cells #[.slice none 0 0, .slice none 0 0] 101) := ⟨_, rfl⟩
      obtain ⟨q, hq⟩ : ∃ q, q = w.heap.size := ⟨_, rfl⟩
      have HB : Hid (Below w.heap.size w w1) := Lib.hid (by rw [hw1]; exact (Below.refl _ _).alloc (Nat.le_refl _) _)
      have HO : Hid (ObR (JvR 0 T) T w1 q []) := Lib.hid (by rw [hw1, hq]; exact empty_ob (heap_alloc_new w _) (fun hb => Nat.lt_irrefl _ (HT.out _ hb)))
      clear HVr
      go_enter Tryz.func37, Tryz.ntmps37
      go_upto_region 6 with fail
      rw [← hw1]
      try rw [← hq]
      clear hw1 hq G2
      have HG := Lib.hid (get_any (x := s) (w := w1) HO.out (by omega))
      have e1 : (w1).cell? ⟨b, o, none⟩ = some (.string (mkB s)) := (HB.out.cell (p := ⟨b, o, none⟩) hbw).trans e0
      go_wp2_with fail
      refine HG.out.mono ?_
      rintro E w2 ⟨vg, rfl, hs2, hn2, k2, hw2⟩
      obtain ⟨m2, hm2⟩ : ∃ m2, JvAt m2 T w2 vg (JP.gto s []) := by
        unfold JP.gto
        rw [hw2]
        cases hgo : JP.get s [] with
        | none => exact ⟨1, hn2 hgo⟩
        | some u => exact ⟨_, (hs2 u hgo).keepT (KeepT.drewN _ k2)⟩
      have hO2 : ObR (JvR 0 T) T w2 q [] := by rw [hw2]; exact HO.out.keepJ (KeepT.drewN _ k2)
      have hB2 : Below w.heap.size w w2 := by rw [hw2]; exact below_drewNs HB.out k2
      have HM2 := Lib.hid hm2
      have HO2 := Lib.hid hO2
      have HB2 := Lib.hid hB2
      have e2 : w2.cell? ⟨b, o, none⟩ = some (.string (mkB s)) := (hB2.cell (p := ⟨b, o, none⟩) hbw).trans e0
      clear hm2 hO2 hB2 hs2 hn2 hw2 HG e1
      go_upto_region 7 with fail
      refine wp_region_relB 11 (fun ii U w' => match ii with
        | 0 => U 0 = .pointer (some ⟨q, 0, none⟩)
        | 1 => U 1 = .slice (some ⟨b, o, none⟩) (m + 1) c1
        | 2 => U 2 = .pointer (some ⟨b, o, none⟩)
        | 3 => U 3 = .string (mkB s)
        | 4 => U 4 = vg
        | 5 => U 5 = .slice (some ⟨b, o, none⟩) (m + 1) c1
        | 6 => U 6 = tv
        | 7 => U 7 = wv
        | 8 => ∃ j, JvAt j T w' (U 8) (JP.setV (JP.gto s []) r y)
        | 9 => ∃ q' j, U 9 = .pointer (some ⟨q', 0, none⟩) ∧ ObR (JvR j T) T w' q' (JP.put s (JP.setV (JP.gto s []) r y) [])
        | 10 => ∃ q' j, U 10 = .iface 88 (.pointer (some ⟨q', 0, none⟩)) ∧ ObR (JvR j T) T w' q' (JP.put s (JP.setV (JP.gto s []) r y) [])
        | _ => True)
        (fun | 2 => [1] | 3 => [2] | 6 => [5] | 8 => [4, 6, 7] | 9 => [0, 3, 8] | 10 => [9] | _ => []) (by kernel_rfl) (by kernel_rfl) ?_ ⟨?_, ?_, ?_, ?_, ?_, ?_, ?_, ?_, ?_, ?_, ?_, trivial⟩ ?_
      · intro j u w1 w2 hb h
        match j, h with
        | 0, h => exact h
        | 1, h => exact h
        | 2, h => exact h
        | 3, h => exact h
        | 4, h => exact h
        | 5, h => exact h
        | 6, h => exact h
        | 7, h => exact h
        | 8, h => exact (let ⟨j, hj⟩ := h; ⟨j, hj.below hb⟩)
        | 9, h => exact (let ⟨q', j, h1, h2⟩ := h; ⟨q', j, h1, h2.keepJ (KeepT.of hb)⟩)
        | 10, h => exact (let ⟨q', j, h1, h2⟩ := h; ⟨q', j, h1, h2.keepJ (KeepT.of hb)⟩)
        | _ + 11, h => trivial
      · intro x' w' hb hd
        have hb2r : Below w2.heap.size w2 w' := (below_drewF w2).trans hb
        have hbr : Below w.heap.size w w' := HB2.out.trans (hb2r.mono HB2.out.size)
        refine owes_here (.pointer (some ⟨q, 0, none⟩)) (by rfl) ?_ rfl
        simp only [putAll, List.take_succ_cons, List.take_zero]
        go_simp
      · intro x' w' hb hd
        have hb2r : Below w2.heap.size w2 w' := (below_drewF w2).trans hb
        have hbr : Below w.heap.size w w' := HB2.out.trans (hb2r.mono HB2.out.size)
        refine owes_here (.slice (some ⟨b, o, none⟩) (m + 1) c1) (by rfl) ?_ rfl
        simp only [putAll, List.take_succ_cons, List.take_zero]
        go_simp
      · intro x' w' hb hd
        have hb2r : Below w2.heap.size w2 w' := (below_drewF w2).trans hb
        have hbr : Below w.heap.size w w' := HB2.out.trans (hb2r.mono HB2.out.size)
        have k1 : x' 1 = .slice (some ⟨b, o, none⟩) (m + 1) c1 := hd 1 (by simp)
        refine owes_here (.pointer (some ⟨b, o, none⟩)) (by rfl) ?_ rfl
        simp only [putAll, List.take_succ_cons, List.take_zero]
        go_simp
      · intro x' w' hb hd
        have hb2r : Below w2.heap.size w2 w' := (below_drewF w2).trans hb
        have hbr : Below w.heap.size w w' := HB2.out.trans (hb2r.mono HB2.out.size)
        have k2 : x' 2 = .pointer (some ⟨b, o, none⟩) := hd 2 (by simp)
        have e9 := (hb2r.cell (p := ⟨b, o, none⟩) (World.block_lt_of_cell? w2 ⟨b, o, none⟩ e2)).trans e2
        refine owes_here (.string (mkB s)) (by rfl) ?_ rfl
        simp only [putAll, List.take_succ_cons, List.take_zero]
        go_simp
      · intro x' w' hb hd
        have hb2r : Below w2.heap.size w2 w' := (below_drewF w2).trans hb
        have hbr : Below w.heap.size w w' := HB2.out.trans (hb2r.mono HB2.out.size)
        refine owes_here vg (by rfl) ?_ rfl
        simp only [putAll, List.take_succ_cons, List.take_zero]
        go_simp
      · intro x' w' hb hd
        have hb2r : Below w2.heap.size w2 w' := (below_drewF w2).trans hb
        have hbr : Below w.heap.size w w' := HB2.out.trans (hb2r.mono HB2.out.size)
        refine owes_here (.slice (some ⟨b, o, none⟩) (m + 1) c1) (by rfl) ?_ rfl
        simp only [putAll, List.take_succ_cons, List.take_zero]
        go_simp
      · intro x' w' hb hd
        have hb2r : Below w2.heap.size w2 w' := (below_drewF w2).trans hb
        have hbr : Below w.heap.size w w' := HB2.out.trans (hb2r.mono HB2.out.size)
        have k5 : x' 5 = .slice (some ⟨b, o, none⟩) (m + 1) c1 := hd 5 (by simp)
        refine owes_here tv (by rfl) ?_ rfl
        simp only [putAll, List.take_succ_cons, List.take_zero]
        rcases HTv.out with ⟨hc, e⟩ | ⟨hc, e⟩
        · have hm0 : m = 0 := by omega
          rw [e]
          go_simp
          try exact hm0
        · rw [e]
          go_simp
      · intro x' w' hb hd
        have hb2r : Below w2.heap.size w2 w' := (below_drewF w2).trans hb
        have hbr : Below w.heap.size w w' := HB2.out.trans (hb2r.mono HB2.out.size)
        refine owes_here wv (by rfl) ?_ rfl
        simp only [putAll, List.take_succ_cons, List.take_zero]
        go_simp
      · intro x' w' hb hd
        have hb2r : Below w2.heap.size w2 w' := (below_drewF w2).trans hb
        have hbr : Below w.heap.size w w' := HB2.out.trans (hb2r.mono HB2.out.size)
        have k4 : x' 4 = vg := hd 4 (by simp)
        have k6 : x' 6 = tv := hd 6 (by simp)
        have k7 : x' 7 = wv := hd 7 (by simp)
        refine owes_call 37 #[vg, tv, wv] (by rfl) ?_ ((IH.out m2 k vg _ wv (JP.gto s []) y w' (HM2.out.below hb2r) (HW.out.below hbr) (HCut.out.below hbr) (by rw [Hm.out]; omega) (by omega) (fun b hb => Nat.lt_of_lt_of_le (HT.out b hb) hbr.size)).mono fun e w3 ⟨uu, h1, h2, h3⟩ => ⟨_, h1, h2, h3⟩)
        simp only [putAll, List.take_succ_cons, List.take_zero]
        go_simp
      · intro x' w' hb hd
        have hb2r : Below w2.heap.size w2 w' := (below_drewF w2).trans hb
        have hbr : Below w.heap.size w w' := HB2.out.trans (hb2r.mono HB2.out.size)
        have k0 : x' 0 = .pointer (some ⟨q, 0, none⟩) := hd 0 (by simp)
        have k3 : x' 3 = .string (mkB s) := hd 3 (by simp)
        obtain ⟨j8, k8⟩ : ∃ j, JvAt j T w' (x' 8) (JP.setV (JP.gto s []) r y) := hd 8 (by simp)
        refine owes_call 70 #[.pointer (some ⟨q, 0, none⟩), .string (mkB s), x' 8] (by rfl) ?_ ((with_any (x := s) ((HO2.out.keepJ (KeepT.of hb2r)).upsJ (Nat.le_max_left 0 j8)) (k8.ups (Nat.le_max_right 0 j8)) (fun b hb => Nat.lt_of_lt_of_le (HT.out b hb) hbr.size) (by simp only [List.length_nil]; omega)).mono fun e w3 ⟨q', h1, h2, h3⟩ => ⟨_, h1, ⟨q', _, rfl, h2⟩, h3⟩)
        simp only [putAll, List.take_succ_cons, List.take_zero]
        go_simp
      · intro x' w' hb hd
        have hb2r : Below w2.heap.size w2 w' := (below_drewF w2).trans hb
        have hbr : Below w.heap.size w w' := HB2.out.trans (hb2r.mono HB2.out.size)
        obtain ⟨q', j, k9, k10⟩ : ∃ q' j, x' 9 = .pointer (some ⟨q', 0, none⟩) ∧ ObR (JvR j T) T w' q' (JP.put s (JP.setV (JP.gto s []) r y) []) := hd 9 (by simp)
        refine owes_here (.iface 88 (.pointer (some ⟨q', 0, none⟩))) (by rfl) ?_ ⟨q', j, rfl, k10⟩
        clear k10 hd
        simp only [putAll, List.take_succ_cons, List.take_zero]
        go_simp
      · intro x' w' hb hR
        have hb2r : Below w2.heap.size w2 w' := (below_drewF w2).trans hb
        have hbr : Below w.heap.size w w' := HB2.out.trans (hb2r.mono HB2.out.size)
        obtain ⟨q', j, k10, k11⟩ : ∃ q' j, x' 10 = .iface 88 (.pointer (some ⟨q', 0, none⟩)) ∧ ObR (JvR j T) T w' q' (JP.put s (JP.setV (JP.gto s []) r y) []) := hR 10 (by omega)
        have HF := Lib.hid k11
        have HBF := Lib.hid hbr
        clear hR hb hb2r hbr k11
        simp only [putAll, List.take_succ_cons, List.take_zero, List.drop_succ_cons, List.drop_zero]
        rw [k10]
        clear k10
        try simp only [Act.put, List.setIfInBounds_toArray, List.set_cons_zero, List.set_cons_succ]
        go_wp2_with fail
        go_ret
        exact ⟨_, rfl, ⟨j + 1, q', rfl, HF.out⟩, HBF.out⟩
end Go.Proofs.YtdcmnpeabjallaaGreatDoor
namespace Go.Proofs.YtdcmnpeabjallaaGreatDoor
open Go.RowKit Go.Shelf Go.Sort
open JP (JV Bs)
def OwnedX (lo : Nat) (w0 : World) : Rd JP.OwnP := fun _ cs x => ∃ v1, cs = [.string (mkB x.1), v1] ∧ OwnAt RString 1 w0 lo 9 v1 (x.2.map mkB)
theorem ownedX_staysX (lo : Nat) (w0 : World) : StaysX 30 (OwnedX lo w0) := fun _ _ _ _ _ h => h
theorem ownedX_flat (lo : Nat) (w0 : World) : Flat (OwnedX lo w0) := fun _ _ _ _ h => h
theorem ownedX_one (lo : Nat) (w0 : World) : OneR (OwnedX lo w0) := fun w cs x ⟨v1, h1, h2⟩ u hu => by
  rw [h1] at hu
  simp only [List.mem_cons, List.not_mem_nil, or_false] at hu
  rcases hu with rfl | rfl
  · rfl
  · exact strX_cell h2
instance inhOP : Inhabited JP.OwnP := ⟨([], [])⟩
abbrev OC := Value × JP.OwnP
def encOw (p : OC) : List Value := [.string (mkB p.2.1), oneV p.1]
def cfOw (p q : OC) : Int := Lib.compareBytes p.2.1 q.2.1
theorem ltOw (p q : OC) : ltOf cfOw p q = decide (Lib.compareBytes p.2.1 q.2.1 < 0) := rfl
theorem swoOw : SWO (ltOf cfOw) where
  irrefl x := by rw [ltOw, cmpB_self]; rfl
  trans x y z h1 h2 := by
    rw [ltOw, decide_eq_true_iff] at *
    exact cmpB_trans _ _ _ h1 h2
  ntrans x y z h1 h2 := by
    rw [ltOw, decide_eq_false_iff_not] at *
    exact cmpB_ntrans _ _ _ h1 h2
set_option maxHeartbeats 1000000 in
theorem ownedCmp (x y : OC) (W : World) : Calls Tryz.prog 72 #[.agg (encOw x).toArray, .agg (encOw y).toArray] W fun e w' => e = .returned (.int .i64 (cfOw x y)) ∧ ∃ q os', w' = Go.Sort.grow (W.drewN q) os' := by
  obtain ⟨a1, lx⟩ := x
  obtain ⟨b1, ly⟩ := y
  have hcon := fun W' => Tryz.strings_Compare (mkB lx.1) (mkB ly.1) W'
  rw [show cfOw (a1, lx) (b1, ly) = Lib.compareBytes (mkB lx.1).data.toList (mkB ly.1).data.toList by rw [mkB_list, mkB_list]; rfl]
  generalize Lib.compareBytes (mkB lx.1).data.toList (mkB ly.1).data.toList = r at hcon ⊢
  unfold encOw
  generalize mkB lx.1 = s1 at hcon ⊢
  generalize mkB ly.1 = s2 at hcon ⊢
  have p1 := oneV_one a1
  have p2 := oneV_one b1
  generalize oneV (a1, lx).1 = c1
  generalize oneV (b1, ly).1 = d1
  show Calls Tryz.prog 72 #[.agg #[.string s1, c1], .agg #[.string s2, d1]] W _
  go_enter Tryz.func72, Tryz.ntmps72
  go_wp2_with (go_at_call 56; refine (hcon _).mono ?_; rintro e w' ⟨rfl, rfl⟩)
  go_ret
  exact ⟨rfl, 0, _, by rw [alloc_eq_grow, alloc_eq_grow, grow_grow]; rfl⟩
theorem ownedLays (blk off size : Nat) (w : World) : CmpLays Tryz.prog 72 #[] encOw 2 cfOw blk off size w := fun _ _ _ _ x y => ownedCmp x y _
theorem encOw_len (x : OC) : (encOw x).length = 2 := rfl
theorem encOw_one (x : OC) : ∀ v ∈ encOw x, v.oneCell' = true := fun v hv => by
  unfold encOw at hv
  simp only [List.mem_cons, List.not_mem_nil, or_false] at hv
  rcases hv with rfl | rfl
  · rfl
  · exact oneV_one _
theorem flatK_getOw (d : List OC) : (flatK encOw 2 d.toArray).toList = (d.map encOw).flatten := by
  have hk : ∀ cs ∈ d.map encOw, cs.length = 2 := fun cs h => by
    obtain ⟨x, _, rfl⟩ := List.mem_map.1 h
    rfl
  have hl : (d.map encOw).flatten.length = d.length * 2 := by rw [flat_len hk, List.length_map]
  refine List.ext_getElem? fun t => ?_
  by_cases ht : t < d.length * 2
  · have e1 : t = t / 2 * 2 + t % 2 := by omega
    have hj : t / 2 < d.length := by omega
    have hi : t % 2 < 2 := by omega
    have e2 : (d.map encOw).flatten[t]? = some (encOw d[t / 2])[t % 2] := by
      conv => lhs; rw [e1]
      exact get_flat hk (by rw [List.getElem?_map, List.getElem?_eq_getElem hj]; rfl) (List.getElem?_eq_getElem (by rw [encOw_len]; exact hi))
    rw [e2]
    have e3 := get_flatK encOw 2 d.toArray t (by simpa using ht)
    have e4 : t < (flatK encOw 2 d.toArray).size := by rw [size_flatK]; simpa using ht
    rw [getElem!_pos _ t e4] at e3
    rw [Array.getElem?_toList, Array.getElem?_eq_getElem e4, e3, getElem!_pos d.toArray (t / 2) (by simpa using hj), getElem!_pos _ (t % 2) (by rw [encOw_len]; exact hi)]
    rfl
  · rw [List.getElem?_eq_none (by rw [Array.length_toList, size_flatK]; simp; omega), List.getElem?_eq_none (by rw [hl]; omega)]
theorem ow_sorted {lo : Nat} {w0 w : World} {B g n c : Nat} {l : List JP.OwnP} (h : OwnAt (OwnedX lo w0) 2 w B 30 (.slice (some ⟨g, 0, none⟩) n c) l) :
    n = l.length ∧ g < w.heap.size ∧ ∃ d : List OC, d.length = l.length ∧ HoldsK encOw 2 w g 0 d.toArray ∧ ∀ (q : Nat) (d' : List OC), d'.Perm d → (d'.map (·.2)).Perm l ∧
      OwnAt (OwnedX lo w0) 2 (putRowK encOw 2 (Go.Sort.ahead w q) g 0 d'.toArray) B 30 (.slice (some ⟨g, 0, none⟩) n c) (d'.map (·.2)) ∧ RowKit.Below B w (putRowK encOw 2 (Go.Sort.ahead w q) g 0 d'.toArray) ∧ SameBut 30 w (putRowK encOw 2 (Go.Sort.ahead w q) g 0 d'.toArray) ∧ (putRowK encOw 2 (Go.Sort.ahead w q) g 0 d'.toArray).heap.size = w.heap.size := by
  obtain ⟨css, c1, c2, ⟨c3, c4⟩, c5⟩ := h
  rcases c4 with ⟨h0, _⟩ | ⟨g', cap, cur, hv, hB, hh, hle, hm, hzc, ht⟩
  · cases h0
  · injection hv with u1 u2 u3
    injection u1 with u1
    injection u1 with u1
    subst u1; subst u2; subst u3
    have hgl : g < w.heap.size := by
      rcases Nat.lt_or_ge g w.heap.size with h1 | h1
      · exact h1
      · rw [Array.getElem?_eq_none h1] at hh; cases hh
    obtain ⟨d, hd1, hd2⟩ := pick_each (fun j (p : OC) => ∃ cs x, css[j]? = some cs ∧ l[j]? = some x ∧ p.2 = x ∧ encOw p = cs) l.length (fun j hj => by
      have hj1 : css[j]? = some (css[j]'(by omega)) := List.getElem?_eq_getElem _
      have hj2 : l[j]? = some l[j] := List.getElem?_eq_getElem _
      obtain ⟨sv, e1, e2⟩ := c5 j _ _ hj1 hj2
      refine ⟨(sv, l[j]), _, _, hj1, hj2, rfl, ?_⟩
      rw [e1]
      unfold encOw
      rw [oneV_of (strX_cell e2)])
    have hdl : d.map (·.2) = l := by
      refine List.ext_getElem? fun j => ?_
      rw [List.getElem?_map]
      by_cases hj : j < l.length
      · have hp : d[j]? = some (d[j]'(by omega)) := List.getElem?_eq_getElem _
        obtain ⟨cs, x, _, e2, e3, _⟩ := hd2 j _ hp
        rw [hp, e2, ← e3]
        rfl
      · rw [List.getElem?_eq_none (by omega), List.getElem?_eq_none (by omega)]; rfl
    have hdc : d.map encOw = css := by
      refine List.ext_getElem? fun j => ?_
      rw [List.getElem?_map]
      by_cases hj : j < l.length
      · have hp : d[j]? = some (d[j]'(by omega)) := List.getElem?_eq_getElem _
        obtain ⟨cs, x, e1, _, _, e4⟩ := hd2 j _ hp
        rw [hp, e1, ← e4]
        rfl
      · rw [List.getElem?_eq_none (by omega), List.getElem?_eq_none (by omega)]; rfl
    have hR : ∀ p ∈ d, OwnedX lo w0 w (encOw p) p.2 := fun p hp => by
      obtain ⟨j, hj, rfl⟩ := List.getElem_of_mem hp
      obtain ⟨cs, x, e1, e2, e3, e4⟩ := hd2 j _ (List.getElem?_eq_getElem hj)
      rw [e3, e4]
      exact c5 j cs x e1 e2
    refine ⟨rfl, hgl, d, hd1, ?_, ?_⟩
    · intro j hj
      rw [size_flatK] at hj
      have hj3 : j < l.length * 2 := by simpa [hd1] using hj
      refine ⟨?_, free_block hh _⟩
      have e4 : j < (flatK encOw 2 d.toArray).size := by rw [size_flatK]; exact hj
      rw [getElem!_pos _ j e4, Nat.zero_add, cell_block hh]
      have e5 : (flatK encOw 2 d.toArray).toList[j]? = cur.toList[j]? := by
        rw [flatK_getOw, hdc, ← ht, List.getElem?_take_of_lt hj3]
      rw [Array.getElem?_toList, Array.getElem?_toList, Array.getElem?_eq_getElem e4] at e5
      exact e5.symm
    · intro q d' hp
      have hl' : d'.length = l.length := by rw [hp.length_eq, hd1]
      obtain ⟨W, hW⟩ : ∃ W, putRowK encOw 2 (Go.Sort.ahead w q) g 0 d'.toArray = W := ⟨_, rfl⟩
      rw [hW]
      have hw : W.heap[g]? = some (.cells (putCells id 0 (flatK encOw 2 d'.toArray) cur) 30 (0, 0)) := by
        rw [← hW]
        unfold putRowK putRow mapBlock
        show (Array.modify w.heap g _)[g]? = _
        rw [Array.getElem?_modify, if_pos rfl, hh]
        rfl
      have ho : ∀ k, k ≠ g → W.heap[k]? = w.heap[k]? := fun k hk => by
        rw [← hW]
        unfold putRowK putRow mapBlock
        show (Array.modify w.heap g _)[k]? = _
        rw [Array.getElem?_modify, if_neg (Ne.symm hk)]
      have hs : W.heap.size = w.heap.size := by
        rw [← hW]
        unfold putRowK putRow mapBlock
        show (Array.modify w.heap g _).size = _
        rw [Array.size_modify]
      have hsb : SameBut 30 w W := fun b cs t fr hb htn => by
        rw [ho b (fun e => by rw [e, hh] at hb; injection hb with hb; injection hb with _ hb _; exact htn hb.symm)]
        exact hb
      have hk' : ∀ cs ∈ d'.map encOw, cs.length = 2 := fun cs h => by
        obtain ⟨x, _, rfl⟩ := List.mem_map.1 h
        rfl
      refine ⟨by rw [← hdl]; exact hp.map _, ⟨d'.map encOw, by rw [List.length_map, List.length_map], hk', ⟨by rw [flat_len hk', List.length_map, List.length_map], .inr ⟨g, c, _, by rw [List.length_map, hl'], hB, hw, by rw [List.length_map, hl']; exact hle, hm, by unfold putCells; rw [Array.size_mapIdx]; exact hzc, ?_⟩⟩, ?_⟩, ⟨by rw [← hW]; rfl, by rw [← hW]; rfl, by rw [← hW]; rfl, by rw [hs]; exact Nat.le_refl _, fun k hk => ho k (by omega)⟩, hsb, hs⟩
      · rw [← flatK_getOw, List.length_map, hl']
        apply List.ext_getElem?
        intro t
        by_cases htl : t < l.length * 2
        · have htc : t < cur.size := by rw [hzc]; omega
          have e4 : t < (flatK encOw 2 d'.toArray).size := by rw [size_flatK]; simp [hl']; omega
          rw [List.getElem?_take_of_lt htl, Array.getElem?_toList, Array.getElem?_toList]
          unfold putCells
          rw [Array.getElem?_mapIdx, Array.getElem?_eq_getElem htc, Option.map_some, if_pos ⟨by omega, by omega⟩, Nat.sub_zero, getElem!_pos _ t e4, Array.getElem?_eq_getElem e4]
          rfl
        · rw [List.getElem?_eq_none (by rw [List.length_take]; omega), List.getElem?_eq_none (by rw [Array.length_toList, size_flatK]; simp [hl']; omega)]
      · intro j cs x hcs hx
        rw [List.getElem?_map] at hcs hx
        obtain ⟨p, hp1, rfl⟩ := Option.map_eq_some_iff.1 hcs
        rw [hp1] at hx
        obtain rfl : p.2 = x := by simpa using hx
        exact ownedX_staysX lo w0 _ _ _ _ hsb (hR p (hp.mem_iff.1 (List.mem_of_getElem? hp1)))
def RiseO (l : List JP.OwnP) : Prop := l.Pairwise fun x y => ¬ Lib.compareBytes y.1 x.1 < 0
theorem ownedSort_any (v : Value) (l : List JP.OwnP) (B : Nat) (lo : Nat) (w0 w : World) (h : OwnAt (OwnedX lo w0) 2 w B 30 v l) (hB : B ≤ w.heap.size) (hl : l.length ≤ 1073741824) :
    Calls Tryz.prog 71 #[v, .func (.func 72) #[] #[]] w fun e w' => e = .returned (.tuple #[]) ∧ ∃ l', l'.Perm l ∧ RiseO l' ∧ OwnAt (OwnedX lo w0) 2 w' B 30 v l' ∧ RowKit.Below B w w' ∧ SameBut 30 w w' := by
  rcases h.form with ⟨rfl, rfl⟩ | ⟨g, c, rfl, _, hg, _, _⟩
  · refine (AnyF.slices_SortFunc_none Tryz.ownedSort none 0 _ w).mono fun e w' ⟨h1, h2⟩ => ?_
    subst h2
    exact ⟨h1, [], List.Perm.refl _, List.Pairwise.nil, OwnAt.nil _, Below.refl _ _, fun _ _ _ _ h _ => h⟩
  · obtain ⟨_, _, d, hd1, hH, ho⟩ := ow_sorted h
    have eg : ∀ args w, (callFunc 72 args).run Tryz.prog w = .ok (.enter 72 args) w := enters_of Tryz.func72 (by kernel_rfl) rfl
    have hs := AnyQ.slices_SortFunc Tryz.ownedSort 2 Tryz.isAgg30 Tryz.sizeOf30 encOw encOw_len encOw_one cfOw swoOw 72 #[] g 0 c d.toArray w eg (ownedLays g 0 _ w) hH hg (by simp [hd1]; omega)
    have hsz : d.toArray.size = l.length := by simp [hd1]
    rw [hsz] at hs
    refine hs.mono fun e w' ⟨h1, d', n, os, hp, hso, h2⟩ => ?_
    have hpp : d'.toList.Perm d := by
      obtain ⟨p1, _, p3⟩ := hp
      have e1 : d'.size = l.length := by rw [p1, hsz]
      have e2 : d'.extract 0 l.length = d' := by rw [← e1]; exact Array.extract_size
      have e3 : d.toArray.extract 0 l.length = d.toArray := by rw [← hsz]; exact Array.extract_size
      rw [e2, e3] at p3
      exact p3
    obtain ⟨o0, o1, o2, o3, o4⟩ := ho n d'.toList hpp
    rw [Array.toArray_toList] at o1 o2 o3 o4
    have hgr : RowKit.Below (putRowK encOw 2 (Go.Sort.ahead w n) g 0 d').heap.size (putRowK encOw 2 (Go.Sort.ahead w n) g 0 d') w' := by
      rw [h2]
      exact Lib.below_grow _ _ (Nat.le_refl _) 0 os
    have hrise : RiseO (d'.toList.map (·.2)) := by
      unfold RiseO
      rw [List.pairwise_map]
      exact sorted_pairs (fun p q : OC => Lib.compareBytes p.2.1 q.2.1) (fun p q => ltOw p q) (by rw [hp.1, hsz]) hso
    exact ⟨h1, _, o0, hrise, o1.belowX (ownedX_staysX _ _) hgr, o2.trans (hgr.mono (by rw [o4]; exact hB)), o3.trans (sameBut_below hgr)⟩
end Go.Proofs.YtdcmnpeabjallaaGreatDoor
namespace Go.Proofs.YtdcmnpeabjallaaGreatDoor
open Go.RowKit Go.MapKept Go.ChangeMaps
open JP (JV Bs Lf)
theorem nodup_len {α : Type} [DecidableEq α] : ∀ {l ks : List α}, l.Nodup → (∀ x, x ∈ l → x ∈ ks) → l.length ≤ ks.length
  | [], _, _, _ => Nat.zero_le _
  | a :: r, ks, h, hs => by
    obtain ⟨h1, h2⟩ := List.nodup_cons.1 h
    have ha := hs a (List.mem_cons_self ..)
    have ih := nodup_len (ks := ks.erase a) h2 fun x hx => (List.mem_erase_of_ne (fun e => h1 (by rw [← e]; exact hx))).2 (hs x (List.mem_cons_of_mem _ hx))
    rw [List.length_erase_of_mem ha] at ih
    have := List.length_pos_of_mem ha
    rw [List.length_cons]; omega
theorem Tryz.infoOwned : (Tryz.prog.info? 30).map (fun i => (i.zero, i.size, i.bytes)) = some (some (.agg #[.string ByteArray.empty, .slice none 0 0]), 2, 40) := by kernel_rfl
structure Listed (g : BookF) (left : Bs → Bool) (l : List JP.OwnP) : Prop where
  mem : ∀ x, x ∈ l ↔ g x.1 = some x.2 ∧ left x.1 = false ∧ x.2 ≠ []
  one : (l.map (·.1)).Nodup
theorem Listed.pass {g : BookF} {left : Bs → Bool} {l : List JP.OwnP} {k : Bs} (h : Listed g left l) (hk : g k = some []) : Listed g (fun z => left z && !decide (z = k)) l := by
  refine ⟨fun x => (h.mem x).trans ⟨fun ⟨h1, h2, h3⟩ => ⟨h1, by show (left x.1 && _) = false; rw [h2]; rfl, h3⟩, fun ⟨h1, h2, h3⟩ => ⟨h1, ?_, h3⟩⟩, h.one⟩
  have h4 : (left x.1 && !decide (x.1 = k)) = false := h2
  by_cases e : x.1 = k
  · rw [e, hk] at h1; exact absurd (Option.some.inj h1).symm h3
  · rw [decide_eq_false e] at h4; simpa using h4
theorem Listed.more {g : BookF} {left : Bs → Bool} {l : List JP.OwnP} {k : Bs} {ps : List Bs} (h : Listed g left l) (hk : g k = some ps) (hl : left k = true) (hn : ps ≠ []) : Listed g (fun z => left z && !decide (z = k)) (l ++ [(k, ps)]) := by
  have hno : ∀ x ∈ l, x.1 ≠ k := fun x hx e => by
    have h1 := ((h.mem x).1 hx).2.1
    rw [e, hl] at h1; cases h1
  refine ⟨fun x => ?_, ?_⟩
  · rw [List.mem_append, List.mem_singleton]
    constructor
    · rintro (hx | rfl)
      · obtain ⟨h1, h2, h3⟩ := (h.mem x).1 hx
        exact ⟨h1, by show (left x.1 && _) = false; rw [h2]; rfl, h3⟩
      · exact ⟨hk, by show (left k && !decide (k = k)) = false; rw [decide_eq_true rfl]; simp, hn⟩
    · rintro ⟨h1, h2, h3⟩
      have h4 : (left x.1 && !decide (x.1 = k)) = false := h2
      by_cases e : x.1 = k
      · right
        rw [e, hk] at h1
        exact Prod.ext e (Option.some.inj h1).symm
      · left
        rw [decide_eq_false e] at h4
        exact (h.mem x).2 ⟨h1, by simpa using h4, h3⟩
  · rw [List.map_append, List.nodup_append]
    refine ⟨h.one, List.nodup_cons.2 ⟨fun h => (by cases h), List.nodup_nil⟩, fun a ha b hb => ?_⟩
    obtain ⟨x, hx, rfl⟩ := List.mem_map.1 ha
    obtain rfl := List.mem_singleton.1 hb
    exact hno x hx
theorem Listed.start {g : BookF} {left : Bs → Bool} (h : ∀ k, left k = (g k).isSome) : Listed g left [] := by
  refine ⟨fun x => ⟨fun h => (by cases h), fun ⟨h1, h2, _⟩ => ?_⟩, List.nodup_nil⟩
  rw [h, h1] at h2; cases h2
theorem ownedX_stays (lo : Nat) (w0 : World) : Stays (OwnedX lo w0) := fun _ _ _ _ _ h => h
set_option maxRecDepth 100000 in
set_option maxHeartbeats 6400000 in
theorem list_any (w : World) (lo b n : Nat) (g : BookF) (hb : BookAt w lo b n g) (hg : ∀ k l, g k = some l → l.length ≤ 1048576) (hn : n ≤ 1048576) :
    Calls Tryz.prog 38 #[.map (some b)] w fun e w' => ∃ v L, e = .returned v ∧ Listed g (fun _ => false) L ∧ RiseO L ∧ OwnAt (OwnedX lo w) 2 w' w.heap.size 30 v L ∧ Below w.heap.size w w' := by
  obtain ⟨i0, hi0, hz0, hz1, hz2⟩ := info_parts Tryz.infoOwned
  obtain ⟨F, hm, h2, h3, h4, h5⟩ := hb
  have HM := Lib.hid hm
  have H2 := Lib.hid h2
  have H3 := Lib.hid h3
  have Hg := Lib.hid hg
  have Hkeys : Hid (∃ ks : List KB, (∀ k, k ∈ ks ↔ (F k).isSome = true) ∧ ks.length ≤ n) := Lib.hid (let ⟨ks, _, k2, k3, _⟩ := hm.keys Tryz.underlying9; ⟨ks, k2, k3⟩)
  have hbw := hm.lt
  clear hm h2 h3 h4 h5 hg
  go_enter Tryz.func38, Tryz.ntmps38
  go_wp2_with (at_range; refine wpList_range_mapS _ (by rfl) _ 56 (by rfl) 9 28 Tryz.underlying9 Tryz.underlying56 b n F (by rfl) HM.out ?_; intro w1 cnt hrg hgr hsz)
  try go_frame
  have hb1 : Below w.heap.size w w1 := ⟨hgr.os, hgr.tape, hgr.output, hgr.size, fun k hk => hgr.block k hk (by simp)⟩
  have HR1 := Lib.hid hrg
  have HB1 := Lib.hid hb1
  have hsr : w.heap.size < w1.heap.size := by omega
  obtain ⟨r, hr⟩ : ∃ r, w.heap.size = r := ⟨_, rfl⟩
  rw [hr] at HR1 ⊢
  have Hr := Lib.hid hr
  clear hrg hgr hsz hb1 hr
  go_loopg [3, 4, 5] cnt (fun k u3 u4 u5 wr => ∃ (left : KB → Bool) (l1 : List JP.OwnP), Hid (RangeS Tryz.prog 9 wr b r n F left k) ∧ Hid (OwnAt (OwnedX lo w) 2 wr (r + 1) 30 u3 l1) ∧ Hid (Listed g left l1) ∧ Hid (Below w.heap.size w wr))
  case atStart =>
    exact ⟨_, [], HR1, Lib.hid (OwnAt.nil _), Lib.hid (.start fun k => H2.out k), HB1⟩
  case round =>
    obtain ⟨left, l1, HR, HO, HL, Hbel⟩ := hrel
    go_wp2_with (at_next; refine wpList_next_rangeS _ (by rfl) _ (by rfl) 9 Tryz.underlying9 b r n F left gk (by rfl) HR.out ?_ ?_)
    · intro hl0
      have HLf : Hid (Listed g (fun _ => false) l1) := Lib.hid (by
        have : left = fun _ => false := funext hl0
        rw [← this]; exact HL.out)
      have hlen : l1.length ≤ n := by
        obtain ⟨ks, k1, k2⟩ := Hkeys.out
        have h1 := nodup_len HL.out.one (ks := ks) fun x hx => by
          obtain ⟨y, hy, rfl⟩ := List.mem_map.1 hx
          have h9 := ((HL.out.mem y).1 hy).1
          rw [k1, H2.out, h9]; rfl
        rw [List.length_map] at h1
        omega
      have hrw : r + 1 ≤ wr.heap.size := by have := HR.out.lt; omega
      have HS := Lib.hid (ownedSort_any u3 l1 (r + 1) lo w wr HO.out hrw (by omega))
      have hrow := HO.out.row.len
      have HBr := Hbel
      clear hl0 HL HO HR hlen
      obtain ⟨a3, c3, e3, -, -⟩ := hrow
      obtain ⟨n3, hn3⟩ : ∃ n, l1.length = n := ⟨_, rfl⟩
      rw [hn3] at e3
      subst e3
      clear hn3
      go_wp2_with fail
      refine HS.out.mono ?_
      rintro E w3 ⟨rfl, L, hp, hri, ho, hb3, -⟩
      have HLf2 : Hid (Listed g (fun _ => false) L) := Lib.hid ⟨fun x => (hp.mem_iff).trans (HLf.out.mem x), ((hp.map (·.1)).nodup_iff).2 HLf.out.one⟩
      have Hri := Lib.hid hri
      have Hho := Lib.hid (ho.mono (B' := w.heap.size) (by rw [Hr.out]; omega))
      have HB3 : Hid (Below w.heap.size w w3) := Lib.hid (HBr.out.trans (by rw [Hr.out]; exact hb3.mono (by omega)))
      clear hp hri ho hb3 HS
      go_wp2_with fail
      go_ret
      exact ⟨_, L, rfl, HLf2.out, Hri.out, Hho.out, HB3.out⟩
    · intro s v w2 cnt2 hs hlk hv hrg2 hlt hgr2 hsz2 hen
      obtain ⟨k, rfl⟩ : ∃ k, s = mkB k := ⟨s.data.toList, (mkB_of s).symm⟩
      rw [mkB_list] at hlk hv hrg2
      obtain ⟨l, hgl⟩ : ∃ l, g k = some l := by
        have h9 := H2.out k
        rw [hv] at h9
        exact Option.isSome_iff_exists.1 h9.symm
      have hown := H3.out _ _ _ hv hgl
      have hrl := HR.out.lt
      have hrw : w.heap.size ≤ r := by rw [Hr.out]; exact Nat.le_refl _
      have hbel2 : Below w.heap.size w w2 := Hbel.out.grown hgr2 Hbel.out.size (fun j hj => by cases hj; exact hrw)
      have hr2 : r + 1 ≤ w2.heap.size := by omega
      have hO2 : OwnAt (OwnedX lo w) 2 w2 (r + 1) 30 u3 l1 := HO.out.grown (ownedX_flat lo w) hgr2 (fun q hq => by
        have := (HO.out.at hq).1
        intro e; cases e; omega)
      obtain ⟨va, vc, rfl, -, -⟩ := hown.row.len
      obtain ⟨vn, hvn⟩ : ∃ vn, (l.map mkB).length = vn := ⟨_, rfl⟩
      rw [hvn] at hen hown hv ⊢
      rw [List.length_map] at hvn
      have hlen : l1.length ≤ n := by
        obtain ⟨ks, k1, k2⟩ := Hkeys.out
        have h1 := nodup_len HL.out.one (ks := ks) fun x hx => by
          obtain ⟨y, hy, rfl⟩ := List.mem_map.1 hx
          have h9 := ((HL.out.mem y).1 hy).1
          rw [k1, H2.out, h9]; rfl
        rw [List.length_map] at h1
        omega
      have hvl : vn ≤ 1048576 := by rw [← hvn]; exact Hg.out _ _ hgl
      have HR2 := Lib.hid hrg2
      have HB2 := Lib.hid hbel2
      have HO2 := Lib.hid hO2
      have Hown := Lib.hid hown
      have Hlk := Lib.hid hlk
      clear hrg2 hgr2 hsz2 hbel2 hO2 hown hv hlk HR HO Hbel hrw
      rcases Nat.eq_zero_or_pos vn with h0 | h0
      · have hl0 : l = [] := List.eq_nil_of_length_eq_zero (hvn.trans h0)
        subst hl0
        have HL2 := Lib.hid (HL.out.pass hgl)
        clear hgl HL hvn
        subst h0
        go_wp2_with fail
        go_roundg cnt2
        case measure => exact hlt
        case rel => exact ⟨_, l1, HR2, HO2, HL2, HB2⟩
      · have hne : l ≠ [] := fun e => by rw [e] at hvn; rw [← hvn] at h0; exact absurd h0 (Nat.lt_irrefl _)
        have HL2 := Lib.hid (HL.out.more hgl Hlk.out hne)
        have q1 : (0 : Int) < (vn : Int) := by omega
        have Hlen := Lib.hid hlen
        clear hgl HL hvn hne hlen
        obtain ⟨w5, hw5⟩ : ∃ w5, w5 = w2.alloc (.cells #[.string (mkB k), .slice va vn vc] 30) := ⟨_, rfl⟩
        have HO5 : Hid (OwnAt (OwnedX lo w) 2 w5 (r + 1) 30 u3 l1) := Lib.hid (by rw [hw5]; exact HO2.out.below (ownedX_stays lo w) ((Below.refl _ w2).alloc (Nat.le_refl _) _))
        have HB5 : Hid (Below w.heap.size w w5) := Lib.hid (by rw [hw5]; exact HB2.out.alloc HB2.out.size _)
        have HRg5 : Hid (RangeS Tryz.prog 9 w5 b r n F (fun z => left z && !decide (z = k)) cnt2) := Lib.hid (by rw [hw5]; exact HR2.out.belowW ((Below.refl _ w2).alloc (Nat.le_refl _) _))
        have HR5 : Hid (RowAt (OwnedX lo w) 2 w5 (.slice (some ⟨w2.heap.size, 0, none⟩) 1 1) [(k, l)]) := Lib.hid (RowAt.one (R := OwnedX lo w) (k := 2) (cs := #[.string (mkB k), .slice va vn vc]) (x := (k, l)) (by rw [hw5]; exact heap_alloc_new w2 _) rfl ⟨_, rfl, Hown.out⟩)
        have hsz5 : r + 1 ≤ w5.heap.size := by rw [hw5, World.size_alloc]; omega
        go_wp2_with (at_builtin; rw [← hw5]; refine wpList_append_ownAt (R := OwnedX lo w) (k := 2) (e := 30) (B := r + 1) (m := [(k, l)]) _ (by rfl) _ _ _ (by rfl) i0 _ 40 Tryz.underlying22 hi0 hz0 hz1 hz2 rfl (by omega) (ownedX_flat lo w) (ownedX_one lo w) _ (by rfl) HO5.out _ (by rfl) HR5.out (by unfold maxLen; have := Hlen.out; simp only [List.length_singleton]; omega) (by have := Hlen.out; simp only [List.length_singleton]; omega) hsz5 ?_)
        intro v' w6 hv' hg6 hr6 _
        rw [← hw5] at hg6
        have HB6 := Lib.hid (HB5.out.grown hg6 HB5.out.size (fun j hj => by have := hr6 j hj; have := Hr.out; omega))
        have HR6 := Lib.hid (HRg5.out.kept hg6 (fun e => by have := hr6 b e.symm; have := Hr.out; omega) (fun e => by have := hr6 r e.symm; omega))
        have HO6 := Lib.hid hv'
        clear hv' hg6 hr6 HO5 HB5 HRg5 HR5 hw5
        go_wp2_with fail
        go_roundg cnt2
        case measure => exact hlt
        case rel => exact ⟨_, _, HR6, HO6, HL2, HB6⟩
end Go.Proofs.YtdcmnpeabjallaaGreatDoor
namespace Go.Proofs.YtdcmnpeabjallaaGreatDoor
open Go.RowKit Go.ChangeShapes Go.WideShapes
structure GOwned where
  manager : ByteArray
  paths : List ByteArray
def OwnedR : Rd GOwned := fun w cs x => ∃ v1, cs = [.string x.manager, v1] ∧ StrAt w v1 x.paths
theorem stays_owned : Stays OwnedR := fun _ _ _ _ hk ⟨v1, h, g1⟩ => ⟨v1, h, g1.keep hk⟩
def ownedB (x : GOwned) : Nat := ((x.manager.size + 1) + ((total x.paths + 1) + 0)) + 1
set_option maxRecDepth 10000 in
theorem opens_owned : Opens Tryz.prog 30 OwnedR ownedB := by
  intro H enc w base spare held fuel cs x h
  obtain ⟨xs, n, _, rfl, hl, hx, hf⟩ := DataW.trod_struct Tryz.underlying30 h
  have hl2 : cs.length = 2 := hl.trans (by kernel_rfl)
  clear hl h
  match cs, hl2, xs, hx, hf with
  | [c0, c1], _, [x0, x1], _, hf =>
    obtain ⟨a0, r0, m0⟩ := (opens_string Tryz.underlying9).at (o := 0) (cs := [c0, c1]) (ds := [c0]) (x := x0) (hf 0 _ rfl) (k := 1) (by kernel_rfl) rfl
    obtain ⟨a1, r1, m1⟩ := (opens_strs Tryz.underlying28 Tryz.underlying9 (by kernel_rfl)).at (o := 1) (cs := [c0, c1]) (ds := [c1]) (x := x1) (hf 1 _ rfl) (k := 1) (by kernel_rfl) rfl
    clear hf
    obtain rfl : c0 = .string a0 := by simpa [RString] using r0
    obtain ⟨v1, r1, s1⟩ := r1
    obtain rfl : c1 = v1 := by simpa using r1
    refine ⟨⟨a0, a1⟩, ⟨c1, rfl, s1⟩, ?_⟩
    simp only [List.map_cons, List.map_nil, Rows.uptoBulk, Rows.uptoBulkAll, ownedB]
    omega
end Go.Proofs.YtdcmnpeabjallaaGreatDoor
namespace Go.Proofs.YtdcmnpeabjallaaGreatDoor
open Go.RowKit Go.MapKept Go.ChangeMaps
open JP (JV Bs Lf)
set_option maxRecDepth 100000 in
theorem cloneTexts_any (v : Value) (l : List ByteArray) (w : World) (h : StrAt w v l) (hl : l.length ≤ 1073741824) :
    Calls Tryz.prog 52 #[v] w fun e w' => ∃ v', e = .returned v' ∧ OwnAt RString 1 w' w.heap.size 9 v' l ∧ Below w.heap.size w w' := by
  obtain ⟨i0, hi0, hz0, hz1, hz2⟩ := info_parts Tryz.infoStr
  have hrow := h.row
  have hn := fun (w : World) (a : Option Addr) (n c : Nat) => Lib.run_eql_slice_nil (P := Tryz.prog) w 28 9 a n c 0 0 Tryz.underlying28
  rcases h with ⟨rfl, rfl⟩ | ⟨a, c, rfl, _, _, _⟩
  · go_enter Tryz.func52, Tryz.ntmps52
    go_wp2_with fail
    go_ret
    exact ⟨_, rfl, OwnAt.nil _, Below.refl _ _⟩
  · have Hrow := Lib.hid hrow
    clear hrow
    go_enter Tryz.func52, Tryz.ntmps52
    go_wp2_with (at_builtin; refine wpList_append_ownAt (R := RString) (k := 1) (e := 9) (B := w.heap.size) (l := []) (m := l) _ (by rfl) _ _ _ (by rfl) i0 _ 16 Tryz.underlying28 hi0 hz0 hz1 hz2 rfl (by omega) flat_string one_string _ (by rfl) (own_empty w 1 _ (Nat.le_refl _)) _ (by rfl) (Hrow.out.below stays_string ((Below.refl _ _).alloc (Nat.le_refl _) _)) (by unfold maxLen; simp; omega) (by simp; omega) (by simp) ?_)
    intro v' w' hv' hg hr _
    have hb : Below w.heap.size w w' := below_of_grown ((Below.refl _ _).alloc (Nat.le_refl _) _) (by simp) hg hr
    go_wp2_with fail
    go_ret
    exact ⟨_, rfl, by simpa using hv', hb⟩
def oP (x : GOwned) : JP.OwnP := (x.manager.data.toList, x.paths.map (·.data.toList))
def bkOf (l : List JP.OwnP) : BookF := l.foldl (fun g x => updG g x.1 x.2) fun _ => none
theorem bkOf_more (l : List JP.OwnP) (x : JP.OwnP) : bkOf (l ++ [x]) = updG (bkOf l) x.1 x.2 := by unfold bkOf; rw [List.foldl_append]; rfl
theorem BookAt.into {w : World} {lo b n : Nat} {g : BookF} (h : BookAt w lo b n g) : BookIn lo w.heap.size w b n g := by
  obtain ⟨f, h1, h2, h3, h4, h5⟩ := h
  refine ⟨f, h1, h2, h3, h4, fun k v q hk hq => ?_, h5, h1.lt⟩
  obtain ⟨l, hl⟩ : ∃ l, g k = some l := by
    have h9 := h2 k
    rw [hk] at h9
    exact Option.isSome_iff_exists.1 h9.symm
  exact ((h3 k v l hk hl).at hq).2.1
theorem paths_back (l : List ByteArray) : (l.map (·.data.toList)).map mkB = l := by
  rw [List.map_map]
  have : (mkB ∘ fun x : ByteArray => x.data.toList) = id := funext fun x => mkB_of x
  rw [this, List.map_id]
set_option maxRecDepth 100000 in
set_option maxHeartbeats 6400000 in
theorem bookOf_any (v : Value) (l : List GOwned) (w : World) (h : RowAt OwnedR 2 w v l) (hl : l.length ≤ 1048576) (hs : ∀ x ∈ l, x.manager.size ≤ 1048576 ∧ x.paths.length ≤ 1048576) :
    Calls Tryz.prog 32 #[v] w fun e w' => ∃ b, e = .returned (.map (some b)) ∧ BookAt w' w.heap.size b l.length (bkOf (l.map oP)) ∧ Below w.heap.size w w' := by
  obtain ⟨a1, c1, rfl, -, -⟩ := h.len
  obtain ⟨nl, hnl⟩ : ∃ n, l.length = n := ⟨_, rfl⟩
  rw [hnl] at h hl ⊢
  have HRow := Lib.hid h
  have Hnl := Lib.hid hnl
  have Hs := Lib.hid hs
  obtain ⟨w1, hw1⟩ : ∃ w1, w1 = w.alloc (.map #[] 0) := ⟨_, rfl⟩
  obtain ⟨b, hb⟩ : ∃ b, b = w.heap.size := ⟨_, rfl⟩
  have HBk : Hid (BookAt w1 w.heap.size b 0 (bkOf ((l.take 0).map oP))) := Lib.hid (by rw [hw1, hb]; exact book_made w)
  have HB1 : Hid (Below w.heap.size w w1) := Lib.hid (by rw [hw1]; exact (Below.refl _ _).alloc (Nat.le_refl _) _)
  have hmm := @run_makeMap Tryz.prog
  clear h hs hnl
  go_enter Tryz.func32, Tryz.ntmps32
  go_upto_region 2 with fail
  rw [← hw1]
  try rw [← hb]
  have Hb := Lib.hid hb
  clear hw1 hb hmm
  go_wp2_with fail
  go_loopg [9] nl (fun k u9 wr => ∃ i : Nat, i + k = nl ∧ u9 = .int .i64 (i : Int) ∧ Hid (BookAt wr w.heap.size b i (bkOf ((l.take i).map oP))) ∧ Hid (Below w.heap.size w wr))
  case atStart => exact ⟨0, by omega, rfl, HBk, HB1⟩
  case round =>
    obtain ⟨i, hik, rfl, HBr, Hbel⟩ := hrel
    cases gk with
    | zero =>
      obtain rfl : nl = i := by omega
      have HB' : Hid (BookAt wr w.heap.size b nl (bkOf (l.map oP))) := Lib.hid (by
        have h9 := HBr.out
        rw [List.take_of_length_le (by rw [Hnl.out]; exact Nat.le_refl _)] at h9
        exact h9)
      clear HBr
      go_wp2_with fail
      go_ret
      exact ⟨_, rfl, HB'.out, Hbel.out⟩
    | succ k =>
      have hil : i < nl := by omega
      obtain ⟨x, hxi⟩ : ∃ x, l[i]? = some x := ⟨l[i]'(by rw [Hnl.out]; exact hil), List.getElem?_eq_getElem _⟩
      obtain ⟨bb, o, c', hv, _, _, hbs, hcell⟩ := HRow.out.form (by rw [Hnl.out]; omega) (by omega)
      injection hv with u1 u2 u3
      subst u1
      clear u2 u3
      obtain ⟨ds, _, hcc, v1, rfl, hst⟩ := hcell i x hxi
      obtain ⟨sa, sc, rfl, -, -⟩ := hst.row.len
      obtain ⟨sn, hsn⟩ : ∃ sn, x.paths.length = sn := ⟨_, rfl⟩
      rw [hsn] at hcc hst
      have hmx := Hs.out x (List.mem_of_getElem? hxi)
      have e0 : wr.cell? ⟨bb, o + i * 2, none⟩ = some (.string x.manager) := (Hbel.out.cell (p := ⟨bb, _, none⟩) hbs).trans (by simpa using hcc 0 _ rfl)
      have e1 : wr.cell? ⟨bb, o + i * 2 + 1, none⟩ = some (.slice sa sn sc) := (Hbel.out.cell (p := ⟨bb, _, none⟩) hbs).trans (hcc 1 _ rfl)
      have q1 : (0 : Int) ≤ (i : Int) := by omega
      have q2 : (i : Int) < (nl : Int) := by omega
      obtain ⟨w2, hw2⟩ : ∃ w2, w2 = wr.alloc (.cells #[.string x.manager, .slice sa sn sc] 30) := ⟨_, rfl⟩
      obtain ⟨gx, hgx⟩ : ∃ gx, gx = wr.heap.size := ⟨_, rfl⟩
      have b2 : w2.heap[gx]? = some (.cells #[.string x.manager, .slice sa sn sc] 30 (0, 0)) := by rw [hw2, hgx]; exact heap_alloc_new wr _
      have hb2 : Below wr.heap.size wr w2 := by rw [hw2]; exact (Below.refl _ wr).alloc (Nat.le_refl _) _
      have hb12 := Hbel.out.trans (hb2.mono Hbel.out.size)
      have HB2 := Lib.hid hb12
      have HBk2 := Lib.hid (HBr.out.below hb2)
      have HSt := Lib.hid (hst.below hb12)
      have Hxi := Lib.hid hxi
      have B2 := Lib.hid b2
      have hsp : sn ≤ 1048576 := by rw [← hsn]; exact hmx.2
      have hsm := hmx.1
      have Hsn := Lib.hid hsn
      have hs02 := hb12.size
      clear hcc hcell hxi hst hb2 b2 hb12 HBr hsn hbs hmx
      go_upto_region 5 with fail
      rw [← hw2]
      try rw [← hgx]
      clear hw2 hgx e0 e1
      refine wp_region_relB 6 (fun ii U w' => match ii with
        | 0 => U 0 = .map (some b)
        | 1 => U 1 = .pointer (some ⟨gx, 0, none⟩)
        | 2 => U 2 = .string x.manager
        | 3 => U 3 = .pointer (some ⟨gx, 1, none⟩)
        | 4 => U 4 = .slice sa sn sc
        | 5 => OwnAt RString 1 w' w2.heap.size 9 (U 5) x.paths
        | _ => True)
        (fun | 2 => [1] | 4 => [3] | 5 => [4] | _ => []) (by kernel_rfl) (by kernel_rfl) ?_ ⟨?_, ?_, ?_, ?_, ?_, ?_, trivial⟩ ?_
      · intro j u w1 w2 hb h
        match j, h with
        | 0, h => exact h
        | 1, h => exact h
        | 2, h => exact h
        | 3, h => exact h
        | 4, h => exact h
        | 5, h => exact h.below stays_string hb
        | _ + 6, h => trivial
      · intro x' w' hb hd
        have hb2r : Below w2.heap.size w2 w' := (below_drewF w2).trans hb
        refine owes_here (.map (some b)) (by rfl) ?_ rfl
        simp only [putAll, List.take_succ_cons, List.take_zero]
        go_simp
      · intro x' w' hb hd
        have hb2r : Below w2.heap.size w2 w' := (below_drewF w2).trans hb
        refine owes_here (.pointer (some ⟨gx, 0, none⟩)) (by rfl) ?_ rfl
        simp only [putAll, List.take_succ_cons, List.take_zero]
        go_simp
      · intro x' w' hb hd
        have hb2r : Below w2.heap.size w2 w' := (below_drewF w2).trans hb
        have k1 : x' 1 = .pointer (some ⟨gx, 0, none⟩) := hd 1 (by simp)
        have cc := fun i => cell_block (below_block hb2r B2.out) i
        refine owes_here (.string x.manager) (by rfl) ?_ rfl
        simp only [putAll, List.take_succ_cons, List.take_zero]
        go_simp
      · intro x' w' hb hd
        have hb2r : Below w2.heap.size w2 w' := (below_drewF w2).trans hb
        refine owes_here (.pointer (some ⟨gx, 1, none⟩)) (by rfl) ?_ rfl
        simp only [putAll, List.take_succ_cons, List.take_zero]
        go_simp
      · intro x' w' hb hd
        have hb2r : Below w2.heap.size w2 w' := (below_drewF w2).trans hb
        have k3 : x' 3 = .pointer (some ⟨gx, 1, none⟩) := hd 3 (by simp)
        have cc := fun i => cell_block (below_block hb2r B2.out) i
        refine owes_here (.slice sa sn sc) (by rfl) ?_ rfl
        simp only [putAll, List.take_succ_cons, List.take_zero]
        go_simp
      · intro x' w' hb hd
        have hb2r : Below w2.heap.size w2 w' := (below_drewF w2).trans hb
        have k4 : x' 4 = .slice sa sn sc := hd 4 (by simp)
        refine owes_call 52 #[.slice sa sn sc] (by rfl) ?_ ((cloneTexts_any _ _ w' (HSt.out.below hb2r) (by rw [Hsn.out]; omega)).mono fun e w3 ⟨uu, h1, h2, h3⟩ => ⟨_, h1, h2.mono hb2r.size, h3⟩)
        simp only [putAll, List.take_succ_cons, List.take_zero]
        go_simp
      · intro x' w' hb hR
        have hb2r : Below w2.heap.size w2 w' := (below_drewF w2).trans hb
        have k0 : x' 0 = .map (some b) := hR 0 (by omega)
        have k2 : x' 2 = .string x.manager := hR 2 (by omega)
        have k5 : OwnAt RString 1 w' w2.heap.size 9 (x' 5) x.paths := hR 5 (by omega)
        obtain ⟨v5, hv5⟩ : ∃ v5, x' 5 = v5 := ⟨_, rfl⟩
        rw [hv5] at k5
        have HBk3 := Lib.hid (HBk2.out.below hb2r)
        have HB3 := Lib.hid (HB2.out.trans (hb2r.mono hs02))
        have K5 := Lib.hid k5
        have HIn := Lib.hid HBk2.out.into
        obtain ⟨F2, hM2, r2, r3, r4, r5, r6, r7⟩ := HIn.out
        have HF : Hid (MapS Tryz.prog 9 w' b i F2) := Lib.hid (hM2.belowW hb2r)
        have HP : Hid (BookF' w' w.heap.size w2.heap.size b F2 (bkOf ((l.take i).map oP))) := Lib.hid (BookF'.below ⟨r2, r3, r4, r5, r6, r7⟩ hb2r)
        have hkey := mkB_of x.manager
        have hil9 : i < maxLen := by unfold maxLen; omega
        have hsm9 : x.manager.size ≤ maxLen := by unfold maxLen; omega
        clear hR hb hb2r k5 hM2 r2 r3 r4 r5 r6 r7
        simp only [putAll, List.take_succ_cons, List.take_zero, List.drop_succ_cons, List.drop_zero]
        rw [k0, k2, hv5]
        clear k0 k2 hv5
        try simp only [Act.put, List.setIfInBounds_toArray, List.set_cons_zero, List.set_cons_succ]
        go_wp2_with (at_mapUpdate; refine wpList_store_mapS _ (by rfl) _ _ _ 56 (by rfl) 9 28 Tryz.underlying9 Tryz.underlying56 b i F2 (by rfl) HF.out hil9 x.manager hsm9 (by rfl) v5 (by rfl) ?_; intro w4 hm4 ht4)
        try go_frame
        have HBk4 : Hid (BookAt w4 w.heap.size b (i + 1) (bkOf ((l.take (i + 1)).map oP))) := Lib.hid (by
          have e1 : (l.take (i + 1)).map oP = (l.take i).map oP ++ [oP x] := by rw [List.take_add_one, Hxi.out, List.map_append]; rfl
          rw [e1, bkOf_more]
          obtain ⟨p2, p3, p4, p5, p6, p7⟩ := HP.out
          refine book_put (n := 0) p2 p3 p4 p6 hm4 ht4 ?_ ?_
          · show OwnAt RString 1 w' w.heap.size 9 v5 ((x.paths.map (·.data.toList)).map mkB)
            rw [paths_back]
            exact K5.out.mono hs02
          · intro k' v' q hk hf hq hq'
            have h1 := p5 k' v' q hf hq
            have h2 := (K5.out.at hq').1
            omega)
        have HB4 : Hid (Below w.heap.size w w4) := Lib.hid (HB3.out.trans (by
          have hg := ht4.grown
          exact ⟨hg.os, hg.tape, hg.output, hg.size, fun k hk => turned_block ht4 (fun e => by have := HP.out.2.2.2.2.1; omega)⟩))
        clear hm4 ht4 HF HP HIn K5 HBk3 HB3 HBk2 HB2
        go_wp2_with fail
        go_roundg k
        case measure => omega
        case rel => exact ⟨i + 1, by omega, by go_num, HBk4, HB4⟩
end Go.Proofs.YtdcmnpeabjallaaGreatDoor
namespace Go.Proofs.YtdcmnpeabjallaaGreatDoor
open Go.RowKit
theorem byteRanges (c : Nat) : c < 48 ∨ (48 ≤ c ∧ c ≤ 57) ∨ (57 < c ∧ c < 65) ∨ (65 ≤ c ∧ c ≤ 90) ∨ (90 < c ∧ c < 97) ∨ (97 ≤ c ∧ c ≤ 122) ∨ 122 < c := by omega
set_option maxHeartbeats 800000 in
theorem isEdge_any (c : Nat) (w : World) (_h8 : c < 256) :
    Calls Tryz.prog 118 #[.int .u8 (c : Int)] w fun e w' => e = .returned (.bool (NameP.edge c)) ∧ w = w' := by
  rcases byteRanges c with h | ⟨h, h'⟩ | ⟨h, h'⟩ | ⟨h, h'⟩ | ⟨h, h'⟩ | ⟨h, h'⟩ | h
  all_goals
    go_enter Tryz.func118, Tryz.ntmps118
    go_wp2
    go_ret
    exact ⟨congrArg (fun b => Ending.returned (.bool b)) (by unfold NameP.edge; rw [Bool.eq_iff_iff]; simp; omega), rfl⟩
set_option maxHeartbeats 800000 in
theorem isLow_any (c : Nat) (w : World) (h8 : c < 256) :
    Calls Tryz.prog 85 #[.int .u8 (c : Int)] w fun e w' => e = .returned (.bool (NameP.low c)) ∧ w = w' := by
  cases he : NameP.edge c with
  | false =>
    have He := Lib.hid he; clear he
    go_enter Tryz.func85, Tryz.ntmps85
    go_wp2_with fail
    refine (isEdge_any c _ h8).mono ?_
    rintro e w' ⟨rfl, rfl⟩
    rw [He.out]
    go_wp2
    go_ret
    exact ⟨congrArg (fun b => Ending.returned (.bool b)) (by simp [NameP.low, He.out]), rfl⟩
  | true =>
    have He := Lib.hid he; clear he
    by_cases h1 : c < 65
    · go_enter Tryz.func85, Tryz.ntmps85
      go_wp2_with fail
      refine (isEdge_any c _ h8).mono ?_
      rintro e w' ⟨rfl, rfl⟩
      rw [He.out]
      go_wp2
      go_ret
      exact ⟨congrArg (fun b => Ending.returned (.bool b)) (by unfold NameP.low; rw [He.out, Bool.eq_iff_iff]; simp; omega), rfl⟩
    · by_cases h2 : 90 < c
      · go_enter Tryz.func85, Tryz.ntmps85
        go_wp2_with fail
        refine (isEdge_any c _ h8).mono ?_
        rintro e w' ⟨rfl, rfl⟩
        rw [He.out]
        go_wp2
        go_ret
        exact ⟨congrArg (fun b => Ending.returned (.bool b)) (by unfold NameP.low; rw [He.out, Bool.eq_iff_iff]; simp; omega), rfl⟩
      · go_enter Tryz.func85, Tryz.ntmps85
        go_wp2_with fail
        refine (isEdge_any c _ h8).mono ?_
        rintro e w' ⟨rfl, rfl⟩
        rw [He.out]
        go_wp2
        go_ret
        exact ⟨congrArg (fun b => Ending.returned (.bool b)) (by unfold NameP.low; rw [He.out, Bool.eq_iff_iff]; simp; omega), rfl⟩
theorem dash_any (c : Nat) (w : World) (_h8 : c < 256) :
    Calls Tryz.prog 86 #[.int .u8 (c : Int)] w fun e w' => e = .returned (.bool (NameP.dash c)) ∧ w = w' := by
  by_cases h : c = 45
  · subst h
    go_enter Tryz.func86, Tryz.ntmps86
    go_wp2
    go_ret
    exact ⟨rfl, rfl⟩
  · have hc : ((c : Int) == 45) = false := by rw [beq_eq_false_iff_ne]; omega
    have Hc := Lib.hid h; clear h
    go_enter Tryz.func86, Tryz.ntmps86
    go_wp2
    go_ret
    exact ⟨congrArg (fun b => Ending.returned (.bool b)) (by simp [NameP.dash]; exact Hc.out), rfl⟩
end Go.Proofs.YtdcmnpeabjallaaGreatDoor
namespace Go.Proofs.YtdcmnpeabjallaaGreatDoor
open Go.RowKit
structure Tells (f : FuncId) (p : Nat → Bool) : Prop where
  enter : ∀ (a : Array Value) (w : World), (callFunc f a).run Tryz.prog w = .ok (.enter f a) w
  calls : ∀ (c : Nat) (w : World), c < 256 → Calls Tryz.prog f #[.int .u8 (c : Int)] w fun e w' => e = .returned (.bool (p c)) ∧ w = w'
theorem low_tells : Tells 85 NameP.low := ⟨run_callFunc_body Tryz.func85 (by kernel_rfl) (by kernel_rfl), fun c w h => isLow_any c w h⟩
theorem dash_tells : Tells 86 NameP.dash := ⟨run_callFunc_body Tryz.func86 (by kernel_rfl) (by kernel_rfl), fun c w h => dash_any c w h⟩
theorem made_nil {e v : Nat → Bool} {s : ByteArray} (h : s.toList = []) : NameP.made e v s.data.toList = false := by
  rw [ByteArray.toList_eq] at h; rw [h]; rfl
theorem made_cons {p q : Nat → Bool} (s : ByteArray) (h : 1 ≤ s.size) :
    NameP.made p q s.data.toList = (p s[0].toNat && p s[s.size - 1].toNat && s.data.toList.all fun c => p c.toNat || q c.toNat) := by
  have hl : s.data.toList.length = s.size := by simp
  have h0 : s.data.toList[0]? = some s[0] := by rw [List.getElem?_eq_getElem (by omega)]; rfl
  have h1 : s.data.toList.getLast? = some s[s.size - 1] := by
    rw [List.getLast?_eq_getElem?, hl, List.getElem?_eq_getElem (by omega)]; rfl
  cases hd : s.data.toList with
  | nil => rw [hd] at hl; simp at hl; omega
  | cons x r =>
    rw [hd] at h0 h1
    simp only [List.getElem?_cons_zero, Option.some.injEq] at h0
    rw [List.getLast?_eq_some_getLast (by simp)] at h1
    simp only [Option.some.injEq] at h1
    unfold NameP.made
    rw [← h0, ← h1]
theorem all_snocM {s : ByteArray} {k : Nat} {f : UInt8 → Bool} (h : k < s.size) (ha : Hid ((s.data.toList.take k).all f = true)) (hk : f s[k] = true) : Hid ((s.data.toList.take (k + 1)).all f = true) := by
  show _ = _
  rw [take_snoc s k h, List.all_append, ha.out]
  simp [hk]
theorem all_not {s : ByteArray} {k : Nat} {f : UInt8 → Bool} (h : k < s.size) (hk : f s[k] = false) : s.data.toList.all f = false := by
  rw [List.all_eq_false]
  refine ⟨s[k], ?_, by rw [hk]; simp⟩
  have : s[k] = s.data.toList[k]'(by simpa using h) := rfl
  rw [this]
  exact List.getElem_mem _
set_option maxRecDepth 100000 in
set_option maxHeartbeats 1600000 in
theorem made_any {ef vf : FuncId} {p q : Nat → Bool} (hp : Tells ef p) (hq : Tells vf q) (s : ByteArray) (w : World) (hs : s.size ≤ 1099511627776) :
    Calls Tryz.prog 84 #[.string s, .func (.func ef) #[] #[], .func (.func vf) #[] #[]] w fun e w' => e = .returned (.bool (NameP.made p q s.data.toList)) ∧ w = w' := by
  by_cases h0 : s.size = 0
  · have hl : s.toList = [] := by rw [ByteArray.toList_eq]; exact List.eq_nil_of_length_eq_zero (by simpa using h0)
    have Hm := Lib.hid (made_nil (e := p) (v := q) hl)
    have hle : s.toList.isEmpty = true := by rw [hl]; rfl
    clear h0
    go_enter Tryz.func84, Tryz.ntmps84
    go_wp2
    go_ret
    exact ⟨by rw [Hm.out]; rfl, rfl⟩
  · have h1 : 1 ≤ s.size := by omega
    have hne : (!s.toList.isEmpty) = true := by
      rw [ByteArray.toList_eq]
      have hl : s.data.toList.length = s.size := by simp
      cases hd : s.data.toList with | nil => rw [hd] at hl; simp at hl; omega | cons x r => rfl
    have hne2 : s.toList.isEmpty = false := by simpa using hne
    have HM := Lib.hid (made_cons (p := p) (q := q) s h1)
    clear h0
    have c0 : s[0].toNat < 256 := s[0].toNat_lt
    have cl : s[s.size - 1].toNat < 256 := s[s.size - 1].toNat_lt
    have i0 : (0 : Int) < (s.size : Int) := by omega
    have i1 : (0 : Int) ≤ (s.size : Int) - 1 := by omega
    have i2 : (s.size : Int) - 1 < (s.size : Int) := by omega
    have i3 : ((s.size : Int) - 1).toNat = s.size - 1 := by omega
    have ep := hp.enter
    have eq := hq.enter
    cases h2 : p s[0].toNat with
    | false =>
      have H2 := Lib.hid h2; clear h2
      go_enter Tryz.func84, Tryz.ntmps84
      go_wp2_with fail
      refine (hp.calls _ _ c0).mono ?_
      rintro e w' ⟨rfl, rfl⟩
      rw [H2.out]
      go_wp2_with fail
      go_ret
      exact ⟨congrArg (fun b => Ending.returned (.bool b)) (by rw [HM.out, H2.out]; rfl), rfl⟩
    | true =>
      have H2 := Lib.hid h2; clear h2
      cases h3 : p s[s.size - 1].toNat with
      | false =>
        have H3 := Lib.hid h3; clear h3
        go_enter Tryz.func84, Tryz.ntmps84
        go_wp2_with fail
        refine (hp.calls _ _ c0).mono ?_
        rintro e w' ⟨rfl, rfl⟩
        rw [H2.out]
        go_wp2_with fail
        refine (hp.calls _ _ cl).mono ?_
        rintro e w' ⟨rfl, rfl⟩
        rw [H3.out]
        go_wp2_with fail
        go_ret
        exact ⟨congrArg (fun b => Ending.returned (.bool b)) (by rw [HM.out, H2.out, H3.out]; rfl), rfl⟩
      | true =>
        have H3 := Lib.hid h3; clear h3
        go_enter Tryz.func84, Tryz.ntmps84
        go_wp2_with fail
        refine (hp.calls _ _ c0).mono ?_
        rintro e w' ⟨rfl, rfl⟩
        rw [H2.out]
        go_wp2_with fail
        refine (hp.calls _ _ cl).mono ?_
        rintro e w' ⟨rfl, rfl⟩
        rw [H3.out]
        go_wp2_with fail
        go_loop [29] (fun i => ∃ k : Nat, k ≤ s.size ∧ i = .int .i64 k ∧ Hid (((s.data.toList.take k).all fun c => p c.toNat || q c.toNat) = true)) (fun i => s.size - (intOf i).toNat)
        case atStart => exact ⟨0, Nat.zero_le _, rfl, by show _ = _; simp⟩
        case round =>
          obtain ⟨k, hk, rfl, HA⟩ := hrel
          by_cases hlt : k < s.size
          · have ck : s[k].toNat < 256 := s[k].toNat_lt
            have j0 : (0 : Int) ≤ (k : Int) := by omega
            have j1 : (k : Int) < (s.size : Int) := by omega
            cases h4 : p s[k].toNat with
            | true =>
              have H4 := Lib.hid h4; clear h4
              go_wp2_with fail
              refine (hp.calls _ _ ck).mono ?_
              rintro e w' ⟨rfl, rfl⟩
              rw [H4.out]
              go_wp2_with fail
              go_round
              case rel => exact ⟨k + 1, by omega, by go_num, all_snocM hlt HA (by rw [H4.out]; rfl)⟩
              case measure => simp [intOf]; omega
            | false =>
              have H4 := Lib.hid h4; clear h4
              cases h5 : q s[k].toNat with
              | true =>
                have H5 := Lib.hid h5; clear h5
                go_wp2_with fail
                refine (hp.calls _ _ ck).mono ?_
                rintro e w' ⟨rfl, rfl⟩
                rw [H4.out]
                go_wp2_with fail
                refine (hq.calls _ _ ck).mono ?_
                rintro e w' ⟨rfl, rfl⟩
                rw [H5.out]
                go_wp2_with fail
                go_round
                case rel => exact ⟨k + 1, by omega, by go_num, all_snocM hlt HA (by rw [H4.out, H5.out]; rfl)⟩
                case measure => simp [intOf]; omega
              | false =>
                have H5 := Lib.hid h5; clear h5
                go_wp2_with fail
                refine (hp.calls _ _ ck).mono ?_
                rintro e w' ⟨rfl, rfl⟩
                rw [H4.out]
                go_wp2_with fail
                refine (hq.calls _ _ ck).mono ?_
                rintro e w' ⟨rfl, rfl⟩
                rw [H5.out]
                go_wp2_with fail
                go_ret
                exact ⟨congrArg (fun b => Ending.returned (.bool b)) (by rw [HM.out, all_not hlt (by rw [H4.out, H5.out]; rfl)]; simp), rfl⟩
          · go_wp2_with fail
            go_ret
            refine ⟨congrArg (fun b => Ending.returned (.bool b)) ?_, rfl⟩
            have := HA.out
            rw [List.take_of_length_le (by simp; omega)] at this
            rw [HM.out, H2.out, H3.out, this]; rfl
set_option maxHeartbeats 800000 in
theorem judge_any (s : ByteArray) (most : Nat) (b : Bool) (w : World) (_hs : s.size ≤ 1099511627776) (_hm : most ≤ 1000) :
    Calls Tryz.prog 50 #[.string s, .int .i64 (most : Int), .bool b] w fun e w' => e = .returned (.int .i64 (NameP.judge s.size most b)) ∧ w = w' := by
  by_cases h : most < s.size
  · go_enter Tryz.func50, Tryz.ntmps50
    go_wp2
    go_ret
    exact ⟨congrArg (fun b => Ending.returned (.int .i64 b)) (by unfold NameP.judge; rw [if_pos h]), rfl⟩
  · cases b
    all_goals
      go_enter Tryz.func50, Tryz.ntmps50
      go_wp2
      go_ret
      exact ⟨congrArg (fun b => Ending.returned (.int .i64 b)) (by unfold NameP.judge; rw [if_neg h]; rfl), rfl⟩
theorem isName_any (s : ByteArray) (w : World) (hs : s.size ≤ 1099511627776) :
    Calls Tryz.prog 51 #[.string s] w fun e w' => e = .returned (.bool (NameP.isName s.data.toList)) ∧ w = w' := by
  go_enter Tryz.func51, Tryz.ntmps51
  go_wp2_with fail
  refine (made_any low_tells dash_tells s _ hs).mono ?_
  rintro e w' ⟨rfl, rfl⟩
  go_wp2_with fail
  go_ret
  exact ⟨rfl, rfl⟩
theorem check_any (s : ByteArray) (w : World) (hs : s.size ≤ 1099511627776) :
    Calls Tryz.prog 29 #[.string s] w fun e w' => e = .returned (.int .i64 (NameP.check s.data.toList)) ∧ w = w' := by
  go_enter Tryz.func29, Tryz.ntmps29
  go_wp2_with fail
  refine (isName_any s _ hs).mono ?_
  rintro e w' ⟨rfl, rfl⟩
  go_wp2_with fail
  refine (judge_any s 63 _ _ hs (by omega)).mono ?_
  rintro e w' ⟨rfl, rfl⟩
  go_wp2_with fail
  go_ret
  exact ⟨by simp [NameP.check], rfl⟩
end Go.Proofs.YtdcmnpeabjallaaGreatDoor
namespace Go.Proofs.YtdcmnpeabjallaaGreatDoor
open Go.RowKit
open JP (JV Bs Lf)
theorem steps_ne11 (p : Bs) : (stepsP p).1 ≠ 11 := by
  unfold stepsP
  split
  · decide
  · split
    · decide
    · split
      · split
        · decide
        · show (0 : Int) ≠ 11; decide
      · decide
def ChkP (G : Prop) (w : World) (e : Ending) (w' : World) : Prop := ∃ z : Int, e = .returned (.int .i64 z) ∧ (z = 0 ↔ G) ∧ z ≠ 11 ∧ Below w.heap.size w w'
theorem ChkP.no {G : Prop} {w w' : World} {z : Int} (h : ¬ G) (h0 : z ≠ 0) (h1 : z ≠ 11) (hb : Below w.heap.size w w') : ChkP G w (.returned (.int .i64 z)) w' := ⟨z, rfl, ⟨fun e => absurd e h0, fun g => absurd g h⟩, h1, hb⟩
theorem ChkP.yes {G : Prop} {w w' : World} (h : G) (hb : Below w.heap.size w w') : ChkP G w (.returned (.int .i64 0)) w' := ⟨0, rfl, ⟨fun _ => h, fun _ => rfl⟩, by decide, hb⟩
def OneStep (p : Bs) : Prop := ∃ k, stepsP p = (0, k) ∧ k ≠ []
def PathsTo (l : List Bs) : Prop := l.Pairwise (· < ·) ∧ ∀ p ∈ l, OneStep p
theorem pair_snoc {α : Type} {R : α → α → Prop} (ht : ∀ a b c, R a b → R b c → R a c) : ∀ {l : List α} {p : α}, l.Pairwise R → (∀ a, l.getLast? = some a → R a p) → (l ++ [p]).Pairwise R
  | [], p, _, _ => List.pairwise_singleton _ _
  | a :: r, p, h, hl => by
    obtain ⟨h1, h2⟩ := List.pairwise_cons.1 h
    have hp : R a p := by
      cases hr : r.getLast? with
      | none =>
        have : r = [] := List.getLast?_eq_none_iff.1 hr
        subst this
        exact hl a rfl
      | some z =>
        have h3 : (a :: r).getLast? = some z := by rw [List.getLast?_cons, hr]; rfl
        exact ht _ _ _ (h1 z (List.mem_of_getLast? hr)) (hl z h3)
    rw [List.cons_append, List.pairwise_cons]
    refine ⟨fun b hb => ?_, pair_snoc ht h2 fun z hz => hl z (by rw [List.getLast?_cons, hz]; rfl)⟩
    rcases List.mem_append.1 hb with hb | hb
    · exact h1 b hb
    · rw [List.mem_singleton.1 hb]; exact hp
theorem take_last {α : Type} {l : List α} {i : Nat} {a : α} (hi : l[i]? = some a) : (l.take (i + 1)).getLast? = some a := by
  rw [List.take_add_one, hi]
  show (l.take i ++ [a]).getLast? = some a
  simp
theorem pair_get {α : Type} {R : α → α → Prop} {l : List α} (h : l.Pairwise R) {i : Nat} {a b : α} (ha : l[i]? = some a) (hb : l[i + 1]? = some b) : R a b := by
  have h1 := List.pairwise_iff_getElem.1 h
  obtain ⟨hi, e1⟩ := List.getElem?_eq_some_iff.1 ha
  obtain ⟨hj, e2⟩ := List.getElem?_eq_some_iff.1 hb
  rw [← e1, ← e2]
  exact h1 i (i + 1) hi hj (by omega)
theorem PathsTo.more {l : List Bs} {i : Nat} {p : Bs} (h : PathsTo (l.take i)) (hp : l[i]? = some p) (ho : OneStep p) (hl : ∀ j q, i = j + 1 → l[j]? = some q → q < p) : PathsTo (l.take (i + 1)) := by
  rw [List.take_add_one, hp]
  show PathsTo (l.take i ++ [p])
  refine ⟨pair_snoc (R := fun a b : Bs => a < b) (fun _ _ _ => JP.bs_trans) h.1 fun a ha => ?_, fun q hq => ?_⟩
  · cases i with
    | zero => rw [List.take_zero] at ha; cases ha
    | succ j =>
      obtain ⟨q, hq⟩ : ∃ q, l[j]? = some q := ⟨l[j]'(by have := (List.getElem?_eq_some_iff.1 hp).1; omega), List.getElem?_eq_getElem _⟩
      rw [take_last hq] at ha
      rw [← Option.some.inj ha]
      exact hl j q rfl hq
  · rcases List.mem_append.1 hq with hq | hq
    · exact h.2 q hq
    · rw [List.mem_singleton.1 hq]; exact ho
set_option maxRecDepth 100000 in
set_option maxHeartbeats 6400000 in
theorem checkPaths_any (v : Value) (l : List Bs) (w : World) (hs : StrAt w v (l.map mkB)) (hl : l.length ≤ 1048576) (hz : ∀ p ∈ l, p.length ≤ 1048576) (hm : ∃ m, MaxOK m w) :
    Calls Tryz.prog 45 #[v] w (ChkP (JP.GoodPaths l) w) := by
  obtain ⟨a1, c1, rfl, -, -⟩ := hs.row.len
  obtain ⟨nl, hnl⟩ : ∃ n, (l.map mkB).length = n := ⟨_, rfl⟩
  rw [hnl] at hs ⊢
  rw [List.length_map] at hnl
  rw [hnl] at hl
  have HS := Lib.hid hs
  have Hz := Lib.hid hz
  have Hm := Lib.hid hm
  have Hnl := Lib.hid hnl
  have hbad : Hid (¬ PathsTo l → ¬ JP.GoodPaths l) := Lib.hid fun h g => h ⟨g.2.1, g.2.2⟩
  clear hs hz hm hnl
  go_enter Tryz.func45, Tryz.ntmps45
  go_wp2_with fail
  go_loopg [11] nl (fun k u11 wr => ∃ i : Nat, i + k = nl ∧ u11 = .int .i64 (i : Int) ∧ Hid (PathsTo (l.take i)) ∧ Hid (Below w.heap.size w wr))
  case atStart => exact ⟨0, by omega, rfl, Lib.hid (by rw [List.take_zero]; exact ⟨List.Pairwise.nil, fun _ h => by cases h⟩), Lib.hid (Below.refl _ _)⟩
  case round =>
    obtain ⟨i, hik, rfl, HP, Hbel⟩ := hrel
    cases gk with
    | zero =>
      obtain rfl : nl = i := by omega
      have HPl : Hid (PathsTo l) := Lib.hid (by
        have h9 := HP.out
        rw [List.take_of_length_le (by rw [Hnl.out]; exact Nat.le_refl _)] at h9
        exact h9)
      clear HP
      rcases Nat.eq_zero_or_pos nl with h0 | h0
      · have hl0 : l = [] := List.eq_nil_of_length_eq_zero (Hnl.out.trans h0)
        have Hno : Hid (¬ JP.GoodPaths l) := Lib.hid fun g => g.1 hl0
        clear hl0
        subst h0
        go_wp2_with fail
        go_ret
        exact .no Hno.out (by decide) (by decide) Hbel.out
      · have Hyes : Hid (JP.GoodPaths l) := Lib.hid ⟨fun e => by have h9 := Hnl.out; rw [e] at h9; rw [← h9] at h0; exact absurd h0 (Nat.lt_irrefl _), HPl.out.1, HPl.out.2⟩
        have q9 : ((nl : Int) == 0) = false := by rw [beq_eq_false_iff_ne]; omega
        go_wp2_with fail
        go_ret
        exact .yes Hyes.out Hbel.out
    | succ k =>
      have hil : i < nl := by omega
      obtain ⟨p, hpi⟩ : ∃ p, l[i]? = some p := ⟨l[i]'(by rw [Hnl.out]; exact hil), List.getElem?_eq_getElem _⟩
      have hpm := List.mem_of_getElem? hpi
      have hpz := Hz.out p hpm
      obtain ⟨bb, o, ha, e0⟩ := str_cell HS.out Hbel.out hpi
      subst ha
      have q1 : (0 : Int) ≤ (i : Int) := by omega
      have q2 : (i : Int) < (nl : Int) := by omega
      obtain ⟨mm, hmm⟩ := Hm.out
      have hS := ptrSteps_any (mkB p) mm wr (by rw [mkB_size]; omega) (hmm.below Hbel.out)
      rw [mkB_list] at hS
      obtain ⟨z, kk, hst⟩ : ∃ z kk, stepsP p = (z, kk) := ⟨_, _, rfl⟩
      have hz11 : z ≠ 11 := by have := steps_ne11 p; rw [hst] at this; exact this
      rw [hst] at hS
      have HSt := Lib.hid hS
      have Hst := Lib.hid hst
      have Hpi := Lib.hid hpi
      have Hpm := Lib.hid hpm
      have hsw := Hbel.out.size
      have Hmm := Lib.hid hmm
      clear hS hst hpi hpm hmm
      go_wp2_with fail
      refine HSt.out.mono ?_
      rintro E w1 ⟨v1, rfl, ⟨l1, hv1, hl1⟩, hb1⟩
      have HB1 := Lib.hid (Hbel.out.trans (hb1.mono hsw))
      by_cases hz0 : z = 0
      · subst hz0
        have hl1' : l1 = kk.map mkB := by rw [← paths_back l1, hl1]
        rw [hl1'] at hv1
        obtain ⟨hjk, hk10⟩ := join_steps Hst.out
        have htot : total (kk.map mkB) ≤ 4194304 := by
          rw [total_mk]
          exact Nat.le_trans (steps_total Hst.out) (Nat.le_trans hpz (by decide))
        have hJ := ptrJoin_any v1 (kk.map mkB) mm w1 hv1 htot (Hmm.out.below HB1.out)
        rw [List.length_map, if_neg (by omega), joinL_mk, hjk] at hJ
        have hJ2 : Calls Tryz.prog 80 #[v1] w1 fun e w' => e = .returned (.tuple #[.string (mkB p), .int .i64 0]) ∧ Below w1.heap.size w1 w' := hJ
        have HJ := Lib.hid hJ2
        obtain ⟨a2, c2, rfl, -, -⟩ := hv1.row.len
        obtain ⟨kn, hkn⟩ : ∃ n, (kk.map mkB).length = n := ⟨_, rfl⟩
        rw [hkn] at HJ ⊢
        rw [List.length_map] at hkn
        have Hkn := Lib.hid hkn
        have e9 : ((mkB p).toList == (mkB p).toList) = true := beq_self_eq_true _
        have hb1l := hb1.size
        clear hv1 hl1 hl1' hjk htot hJ hJ2 hb1 HSt hkn hz11
        go_wp2_with fail
        refine HJ.out.mono ?_
        rintro E w2 ⟨rfl, hb2⟩
        have HB2 := Lib.hid (HB1.out.trans (hb2.mono (Nat.le_trans hsw hb1l)))
        clear hb2 HJ
        rcases Nat.eq_zero_or_pos kn with hk0 | hk0
        · have Hno : Hid (¬ JP.GoodPaths l) := Lib.hid fun g => by
            obtain ⟨k9, h9, h8⟩ := g.2.2 p Hpm.out
            rw [Hst.out] at h9
            exact h8 (List.eq_nil_of_length_eq_zero (by rw [← (Prod.mk.inj h9).2, Hkn.out, hk0]))
          subst hk0
          go_wp2_with fail
          go_ret
          exact .no Hno.out (by decide) (by decide) HB2.out
        · have hone : OneStep p := ⟨kk, Hst.out, fun e => by have h9 := Hkn.out; rw [e] at h9; rw [← h9] at hk0; exact absurd hk0 (Nat.lt_irrefl _)⟩
          have Hone := Lib.hid hone
          have q4 : ((kn : Int) == 0) = false := by rw [beq_eq_false_iff_ne]; omega
          clear hone
          cases i with
          | zero =>
            have HP2 : Hid (PathsTo (l.take (0 + 1))) := Lib.hid (HP.out.more Hpi.out Hone.out fun j q hj => by omega)
            clear HP
            go_wp2_with fail
            go_roundg k
            case measure => omega
            case rel => exact ⟨0 + 1, by omega, by go_num, HP2, HB2⟩
          | succ j =>
            obtain ⟨q, hqi⟩ : ∃ q, l[j]? = some q := ⟨l[j]'(by rw [Hnl.out]; omega), List.getElem?_eq_getElem _⟩
            obtain ⟨bb2, o2, ha2, e2⟩ := str_cell HS.out HB2.out hqi
            injection ha2 with ha2
            injection ha2 with u1 u2
            subst u1; subst u2
            have q5 : (0 : Int) < ((j + 1 : Nat) : Int) := by omega
            have q6 : (((j + 1 : Nat) : Int)) - 1 = (j : Int) := by omega
            have q7 : (j : Int) < (nl : Int) := by omega
            have hbl : Op.bytesLess (mkB q).toList (mkB p).toList = decide (q < p) := by rw [ByteArray.toList_eq, ByteArray.toList_eq, mkB_list, mkB_list, bl_lt]
            obtain ⟨lt, Hlt⟩ : ∃ b, Hid (decide (q < p) = b) := ⟨_, Lib.hid rfl⟩
            rw [Hlt.out] at hbl
            have Hqi := Lib.hid hqi
            clear hqi
            cases lt with
            | true =>
              have HP2 : Hid (PathsTo (l.take (j + 1 + 1))) := Lib.hid (HP.out.more Hpi.out Hone.out fun j' q' hj hq => by
                obtain rfl : j = j' := by omega
                rw [Hqi.out] at hq
                rw [← Option.some.inj hq]
                exact of_decide_eq_true Hlt.out)
              clear HP
              go_wp2_with fail
              go_roundg k
              case measure => omega
              case rel => exact ⟨j + 1 + 1, by omega, by go_num, HP2, HB2⟩
            | false =>
              have Hno : Hid (¬ JP.GoodPaths l) := Lib.hid fun g => by
                exact of_decide_eq_false Hlt.out (pair_get (R := fun a b : Bs => a < b) g.2.1 Hqi.out Hpi.out)
              clear HP
              go_wp2_with fail
              go_ret
              exact .no Hno.out (by decide) (by decide) HB2.out
      · have q3 : (z == 0) = false := by rw [beq_eq_false_iff_ne]; exact hz0
        have Hno : Hid (¬ JP.GoodPaths l) := Lib.hid fun g => by
          obtain ⟨k9, h9, _⟩ := g.2.2 p Hpm.out
          rw [Hst.out] at h9
          exact hz0 (Prod.mk.inj h9).1
        have Hz0 := Lib.hid hz0
        have Hz11 := Lib.hid hz11
        clear hv1 hl1 hb1 hz0 hz11 HSt
        go_wp2_with fail
        go_ret
        exact .no Hno.out Hz0.out Hz11.out HB1.out
theorem name_ne11 (s : Bs) : NameP.check s ≠ 11 := by
  unfold NameP.check NameP.judge
  split
  · decide
  · split <;> decide
def GoodTo (l : List JP.OwnP) : Prop := l.Pairwise (fun a b => a.1 < b.1) ∧ ∀ x ∈ l, NameP.check x.1 = 0 ∧ JP.GoodPaths x.2
theorem GoodTo.more {l : List JP.OwnP} {i : Nat} {p : JP.OwnP} (h : GoodTo (l.take i)) (hp : l[i]? = some p) (h1 : NameP.check p.1 = 0) (h2 : JP.GoodPaths p.2) (hl : ∀ j q, i = j + 1 → l[j]? = some q → q.1 < p.1) : GoodTo (l.take (i + 1)) := by
  rw [List.take_add_one, hp]
  show GoodTo (l.take i ++ [p])
  refine ⟨pair_snoc (R := fun a b : JP.OwnP => a.1 < b.1) (fun _ _ _ => JP.bs_trans) h.1 fun a ha => ?_, fun q hq => ?_⟩
  · cases i with
    | zero => rw [List.take_zero] at ha; cases ha
    | succ j =>
      obtain ⟨q, hq⟩ : ∃ q, l[j]? = some q := ⟨l[j]'(by have := (List.getElem?_eq_some_iff.1 hp).1; omega), List.getElem?_eq_getElem _⟩
      rw [take_last hq] at ha
      rw [← Option.some.inj ha]
      exact hl j q rfl hq
  · rcases List.mem_append.1 hq with hq | hq
    · exact h.2 q hq
    · rw [List.mem_singleton.1 hq]; exact ⟨h1, h2⟩
set_option maxRecDepth 100000 in
set_option maxHeartbeats 6400000 in
theorem check_owned_any (v : Value) (l : List GOwned) (w : World) (h : RowAt OwnedR 2 w v l) (hl : l.length ≤ 1048576) (hz : ∀ x ∈ l, x.manager.size ≤ 1048576 ∧ x.paths.length ≤ 1048576 ∧ ∀ p ∈ x.paths, p.size ≤ 1048576) (hm : ∃ m, MaxOK m w) :
    Calls Tryz.prog 20 #[v] w (ChkP (JP.GoodO (l.map oP)) w) := by
  obtain ⟨a1, c1, rfl, -, -⟩ := h.len
  obtain ⟨nl, hnl⟩ : ∃ n, l.length = n := ⟨_, rfl⟩
  rw [hnl] at h hl ⊢
  have HS := Lib.hid h
  have Hz := Lib.hid hz
  have Hm := Lib.hid hm
  have Hnl := Lib.hid hnl
  clear h hz hm hnl
  by_cases h6 : 6 < nl
  · have Hno : Hid (¬ JP.GoodO (l.map oP)) := Lib.hid fun g => by
      have h9 := g.1
      rw [List.length_map, Hnl.out] at h9
      omega
    have q0 : (6 : Int) < (nl : Int) := by omega
    go_enter Tryz.func20, Tryz.ntmps20
    go_wp2_with fail
    go_ret
    exact .no Hno.out (by decide) (by decide) (Below.refl _ _)
  · have q0 : ¬ (6 : Int) < (nl : Int) := by omega
    have hn6 : nl ≤ 6 := by omega
    go_enter Tryz.func20, Tryz.ntmps20
    go_wp2_with fail
    go_loopg [12] nl (fun k u12 wr => ∃ i : Nat, i + k = nl ∧ u12 = .int .i64 (i : Int) ∧ Hid (GoodTo ((l.map oP).take i)) ∧ Hid (Below w.heap.size w wr))
    case atStart => exact ⟨0, by omega, rfl, Lib.hid (by rw [List.take_zero]; exact ⟨List.Pairwise.nil, fun _ h => by cases h⟩), Lib.hid (Below.refl _ _)⟩
    case round =>
      obtain ⟨i, hik, rfl, HP, Hbel⟩ := hrel
      cases gk with
      | zero =>
        obtain rfl : nl = i := by omega
        have Hyes : Hid (JP.GoodO (l.map oP)) := Lib.hid (by
          have h9 := HP.out
          rw [List.take_of_length_le (by rw [List.length_map, Hnl.out]; exact Nat.le_refl _)] at h9
          exact ⟨by rw [List.length_map, Hnl.out]; exact hn6, h9.1, h9.2⟩)
        clear HP
        go_wp2_with fail
        go_ret
        exact .yes Hyes.out Hbel.out
      | succ k =>
        have hil : i < nl := by omega
        obtain ⟨x, hxi⟩ : ∃ x, l[i]? = some x := ⟨l[i]'(by rw [Hnl.out]; exact hil), List.getElem?_eq_getElem _⟩
        obtain ⟨hz1, hz2, hz3⟩ := Hz.out x (List.mem_of_getElem? hxi)
        obtain ⟨bb, o, c', hv, _, _, hbs, hcell⟩ := HS.out.form (by rw [Hnl.out]; omega) (by omega)
        injection hv with u1 u2 u3
        subst u1
        clear u2 u3
        obtain ⟨ds, _, hcc, v1, rfl, hst⟩ := hcell i x hxi
        obtain ⟨sa, sc, rfl, -, -⟩ := hst.row.len
        obtain ⟨sn, hsn⟩ : ∃ sn, x.paths.length = sn := ⟨_, rfl⟩
        rw [hsn] at hcc hst
        have e0 : wr.cell? ⟨bb, o + i * 2, none⟩ = some (.string x.manager) := (Hbel.out.cell (p := ⟨bb, _, none⟩) hbs).trans (by simpa using hcc 0 _ rfl)
        have e1 : wr.cell? ⟨bb, o + i * 2 + 1, none⟩ = some (.slice sa sn sc) := (Hbel.out.cell (p := ⟨bb, _, none⟩) hbs).trans (hcc 1 _ rfl)
        have hLi : (l.map oP)[i]? = some (oP x) := by rw [List.getElem?_map, hxi]; rfl
        have q1 : (0 : Int) ≤ (i : Int) := by omega
        have q2 : (i : Int) < (nl : Int) := by omega
        obtain ⟨w2, hw2⟩ : ∃ w2, w2 = wr.alloc (.cells #[.string x.manager, .slice sa sn sc] 30) := ⟨_, rfl⟩
        obtain ⟨gx, hgx⟩ : ∃ gx, gx = wr.heap.size := ⟨_, rfl⟩
        have b2 : w2.heap[gx]? = some (.cells #[.string x.manager, .slice sa sn sc] 30 (0, 0)) := by rw [hw2, hgx]; exact heap_alloc_new wr _
        have hb2 : Below wr.heap.size wr w2 := by rw [hw2]; exact (Below.refl _ wr).alloc (Nat.le_refl _) _
        have hb12 := Hbel.out.trans (hb2.mono Hbel.out.size)
        have HB2 := Lib.hid hb12
        have hst2 : StrAt w2 (.slice sa sn sc) ((oP x).2.map mkB) := by
          show StrAt w2 _ ((x.paths.map (·.data.toList)).map mkB)
          rw [paths_back]; exact hst.below hb12
        have hpl : (oP x).2.length ≤ 1048576 := by show (x.paths.map _).length ≤ _; rw [List.length_map, hsn]; omega
        have HCP : Hid (∀ w', Below w2.heap.size w2 w' → Calls Tryz.prog 45 #[.slice sa sn sc] w' (ChkP (JP.GoodPaths (oP x).2) w')) := Lib.hid fun w' hb' => checkPaths_any (.slice sa sn sc) (oP x).2 w' (hst2.below hb') hpl (fun p hp => by
          obtain ⟨y, hy, rfl⟩ := List.mem_map.1 hp
          rw [Array.length_toList]; exact hz3 y hy) (let ⟨mm, hmm⟩ := Hm.out; ⟨mm, (hmm.below hb12).below hb'⟩)
        have B2 := Lib.hid b2
        have HNm := Lib.hid (check_any x.manager w2 (by omega))
        obtain ⟨nz, Hnz⟩ : ∃ z, Hid (NameP.check x.manager.data.toList = z) := ⟨_, Lib.hid rfl⟩
        rw [Hnz.out] at HNm
        have hn11 : nz ≠ 11 := by rw [← Hnz.out]; exact name_ne11 _
        have HLi := Lib.hid hLi
        have hs2 := hb12.size
        have cc := fun i => cell_block b2 i
        clear hcc hcell hst hst2 hpl hb2 hb12 hsn hbs hLi b2
        go_upto_region 6 with fail
        rw [← hw2]
        try rw [← hgx]
        clear hw2 hgx e0 e1
        go_wp2_with fail
        refine HNm.out.mono ?_
        rintro E w3 ⟨rfl, rfl⟩
        by_cases hz0 : nz = 0
        · subst hz0
          cases i with
          | zero =>
            clear hn11 HNm
            go_upto_region 9 with fail
            go_quiet (fail)
            have hbq : Below w2.heap.size w2 (w2.drewN nq) := below_drewN (Below.refl _ _) nq
            obtain ⟨w3, hw3⟩ : ∃ w3, w2.drewN nq = w3 := ⟨_, rfl⟩
            rw [hw3] at hbq ⊢
            have HB3 := Lib.hid (HB2.out.trans (hbq.mono hs2))
            have cc3 := fun i => cell_block (below_block hbq B2.out) i
            have HC := Lib.hid (HCP.out w3 hbq)
            have hs3 := HB3.out.size
            clear hw3 hbq cc HCP
            go_wp2_with fail
            refine HC.out.mono ?_
            rintro E w4 ⟨z4, rfl, hz4, hz411, hb4⟩
            have HB4 := Lib.hid (HB3.out.trans (hb4.mono hs3))
            by_cases hz40 : z4 = 0
            · have hgp := hz4.1 hz40
              have HP2 : Hid (GoodTo ((l.map oP).take (0 + 1))) := Lib.hid (HP.out.more HLi.out Hnz.out hgp (fun j q hj => by omega))
              subst hz40
              clear hz4 hb4 hgp HC HP
              go_wp2_with fail
              go_roundg k
              case measure => omega
              case rel => exact ⟨0 + 1, by omega, by go_num, HP2, HB4⟩
            · have q3 : (z4 == 0) = false := by rw [beq_eq_false_iff_ne]; exact hz40
              have Hno : Hid (¬ JP.GoodO (l.map oP)) := Lib.hid fun g => hz40 (hz4.2 (g.2.2 (oP x) (List.mem_of_getElem? HLi.out)).2)
              have Hz40 := Lib.hid hz40
              have Hz411 := Lib.hid hz411
              clear hz4 hb4 hz40 hz411 HC HP
              go_wp2_with fail
              go_ret
              exact .no Hno.out Hz40.out Hz411.out HB4.out
          | succ j =>
            obtain ⟨y, hyi⟩ : ∃ y, l[j]? = some y := ⟨l[j]'(by rw [Hnl.out]; omega), List.getElem?_eq_getElem _⟩
            obtain ⟨bb2, o2, c2', hv2, _, _, hbs2, hcell2⟩ := HS.out.form (by rw [Hnl.out]; omega) (by omega)
            injection hv2 with u1 u2 u3
            injection u1 with u1
            injection u1 with u1 u4
            subst u1; subst u4
            clear u2 u3
            obtain ⟨ds2, _, hcc2, v2, rfl, hst2⟩ := hcell2 j y hyi
            have e2 : w2.cell? ⟨bb, o + j * 2, none⟩ = some (.string y.manager) := (HB2.out.cell (p := ⟨bb, _, none⟩) hbs2).trans (by simpa using hcc2 0 _ rfl)
            have hLj : (l.map oP)[j]? = some (oP y) := by rw [List.getElem?_map, hyi]; rfl
            have HLj := Lib.hid hLj
            have q5 : (0 : Int) < ((j + 1 : Nat) : Int) := by omega
            have q6 : (((j + 1 : Nat) : Int)) - 1 = (j : Int) := by omega
            have q7 : (j : Int) < (nl : Int) := by omega
            have hbl : Op.bytesLess y.manager.toList x.manager.toList = decide ((oP y).1 < (oP x).1) := by rw [ByteArray.toList_eq, ByteArray.toList_eq, bl_lt]; rfl
            obtain ⟨lt, Hlt⟩ : ∃ b, Hid (decide ((oP y).1 < (oP x).1) = b) := ⟨_, Lib.hid rfl⟩
            rw [Hlt.out] at hbl
            clear hyi hcc2 hcell2 hst2 hLj hbs2
            cases lt with
            | true =>
              clear hn11 HNm
              go_upto_region 9 with fail
              go_quiet (fail)
              have hbq : Below w2.heap.size w2 (w2.drewN nq) := below_drewN (Below.refl _ _) nq
              obtain ⟨w3, hw3⟩ : ∃ w3, w2.drewN nq = w3 := ⟨_, rfl⟩
              rw [hw3] at hbq ⊢
              have HB3 := Lib.hid (HB2.out.trans (hbq.mono hs2))
              have cc3 := fun i => cell_block (below_block hbq B2.out) i
              have HC := Lib.hid (HCP.out w3 hbq)
              have hs3 := HB3.out.size
              clear hw3 hbq cc HCP
              go_wp2_with fail
              refine HC.out.mono ?_
              rintro E w4 ⟨z4, rfl, hz4, hz411, hb4⟩
              have HB4 := Lib.hid (HB3.out.trans (hb4.mono hs3))
              by_cases hz40 : z4 = 0
              · have hgp := hz4.1 hz40
                have HP2 : Hid (GoodTo ((l.map oP).take (j + 1 + 1))) := Lib.hid (HP.out.more HLi.out Hnz.out hgp (fun j' q' hj hq => by
                  obtain rfl : j = j' := by omega
                  rw [HLj.out] at hq
                  rw [← Option.some.inj hq]
                  exact of_decide_eq_true Hlt.out))
                subst hz40
                clear hz4 hb4 hgp HC HP
                go_wp2_with fail
                go_roundg k
                case measure => omega
                case rel => exact ⟨j + 1 + 1, by omega, by go_num, HP2, HB4⟩
              · have q3 : (z4 == 0) = false := by rw [beq_eq_false_iff_ne]; exact hz40
                have Hno : Hid (¬ JP.GoodO (l.map oP)) := Lib.hid fun g => hz40 (hz4.2 (g.2.2 (oP x) (List.mem_of_getElem? HLi.out)).2)
                have Hz40 := Lib.hid hz40
                have Hz411 := Lib.hid hz411
                clear hz4 hb4 hz40 hz411 HC HP
                go_wp2_with fail
                go_ret
                exact .no Hno.out Hz40.out Hz411.out HB4.out
            | false =>
              have Hno : Hid (¬ JP.GoodO (l.map oP)) := Lib.hid fun g => of_decide_eq_false Hlt.out (pair_get (R := fun a b : JP.OwnP => a.1 < b.1) g.2.1 HLj.out HLi.out)
              clear hn11 HNm
              go_upto_region 9 with fail
              go_quiet (fail)
              have hbq : Below w2.heap.size w2 (w2.drewN nq) := below_drewN (Below.refl _ _) nq
              obtain ⟨w3, hw3⟩ : ∃ w3, w2.drewN nq = w3 := ⟨_, rfl⟩
              rw [hw3] at hbq ⊢
              have HB3 := Lib.hid (HB2.out.trans (hbq.mono hs2))
              have cc3 := fun i => cell_block (below_block hbq B2.out) i
              have HC := Lib.hid (HCP.out w3 hbq)
              have hs3 := HB3.out.size
              clear hw3 hbq cc HCP
              clear HC HP
              go_wp2_with fail
              go_ret
              exact .no Hno.out (by decide) (by decide) HB3.out
        · have q3 : (nz == 0) = false := by rw [beq_eq_false_iff_ne]; exact hz0
          have Hno : Hid (¬ JP.GoodO (l.map oP)) := Lib.hid fun g => by
            have h9 := (g.2.2 (oP x) (List.mem_of_getElem? HLi.out)).1
            exact hz0 (Hnz.out.symm.trans h9)
          have Hz0 := Lib.hid hz0
          have Hn11 := Lib.hid hn11
          clear hz0 hn11 HCP HNm
          go_wp2_with fail
          go_ret
          exact .no Hno.out Hz0.out Hn11.out HB2.out
end Go.Proofs.YtdcmnpeabjallaaGreatDoor
namespace Go.Proofs.YtdcmnpeabjallaaGreatDoor
open Go.RowKit
open JP (JV Bs Lf)
namespace JP
theorem srt_fieldsS {v : JV} (h : wfS v) : Srt (fieldsOf v) := (fields_wfS h).1
theorem size_fields (v : JV) : 1 + sizeF (fieldsOf v) ≤ size v := by
  cases v with
  | obj l => rw [size]; exact Nat.le_refl _
  | nul => decide
  | bool b => exact size_pos _
  | num n => exact size_pos _
  | str n => exact size_pos _
  | list n => exact size_pos _
theorem set_size : ∀ (r : List Bs) (v w : JV), wfS v → size (setV v r w) ≤ size v + size w + r.length + 1
  | [], v, w, _ => by rw [setV_nil]; omega
  | s :: r, v, w, hv => by
    have ih := set_size r (gto s (fieldsOf v)) w (gto_wfS hv s)
    rw [setV_cons, size, List.length_cons]
    have h1 := sizeF_put s (setV (gto s (fieldsOf v)) r w) (fieldsOf v) (srt_fieldsS hv)
    have h2 := size_fields v
    cases hg : get s (fieldsOf v) with
    | none =>
      rw [hg] at h1
      have h3 : gto s (fieldsOf v) = .nul := by unfold gto; rw [hg]; rfl
      rw [h3] at ih h1 ⊢
      have h4 : size JV.nul = 1 := rfl
      dsimp only at h1
      omega
    | some c =>
      rw [hg] at h1
      have h3 : gto s (fieldsOf v) = c := by unfold gto; rw [hg]; rfl
      rw [h3] at ih h1 ⊢
      dsimp only at h1
      omega
def wayB (r : List Bs) : Nat := (r.map fun s => 2 * s.length + 10).sum
theorem set_len : ∀ (r : List Bs) (v w : JV), wfS v → (text (setV v r w)).length ≤ (text v).length + (text w).length + wayB r
  | [], v, w, _ => by rw [setV_nil]; omega
  | s :: r, v, w, hv => by
    have ih := set_len r (gto s (fieldsOf v)) w (gto_wfS hv s)
    rw [setV_cons]
    have h0 := obj_len_le (put s (setV (gto s (fieldsOf v)) r w) (fieldsOf v))
    have h1 := lenF_put s (setV (gto s (fieldsOf v)) r w) (fieldsOf v) (srt_fieldsS hv)
    have h2 := lenF_cut_get (n := s) (srt_fieldsS hv)
    have h3 := lenF_fields v
    have h4 := quote_bound s
    have h5 : wayB (s :: r) = 2 * s.length + 10 + wayB r := by unfold wayB; rw [List.map_cons, List.sum_cons]
    rw [h5]
    cases hg : get s (fieldsOf v) with
    | none =>
      rw [hg] at h2
      have h6 : gto s (fieldsOf v) = .nul := by unfold gto; rw [hg]; rfl
      rw [h6] at ih h0 h1 ⊢
      have h7 : (text JV.nul).length = 4 := by decide
      simp only [wO] at h2
      omega
    | some c =>
      rw [hg] at h2
      have h6 : gto s (fieldsOf v) = c := by unfold gto; rw [hg]; rfl
      rw [h6] at ih h0 h1 ⊢
      simp only [wO] at h2
      omega
theorem quote_ge (s : Bs) : s.length ≤ (quote s).length := by
  rw [quote_len]
  have : ∀ l : Bs, l.length ≤ (l.flatMap escB).length := by
    intro l
    induction l with
    | nil => exact Nat.le_refl _
    | cons a r ih =>
      rw [List.flatMap_cons, List.length_cons, List.length_append]
      have h1 : 1 ≤ (escB a).length := by
        unfold escB
        repeat' split
        all_goals simp
      omega
  have := this s
  omega
theorem way_steps : ∀ (r : List Bs) (v x : JV), wfS v → atO v r = some x → ∀ s ∈ r, s.length ≤ (text v).length
  | [], _, _, _, _, _, h => by cases h
  | t :: r, v, x, hv, h, s, hs => by
    rw [atO_cons] at h
    obtain ⟨c, hg, h⟩ := Option.bind_eq_some_iff.1 h
    have h2 := lenF_cut_get (n := t) (srt_fieldsS hv)
    have h3 := lenF_fields v
    rw [hg] at h2
    simp only [wO] at h2
    have hc : wfS c := by
      have := gto_wfS hv t
      rw [gto_some hg] at this
      exact this
    rcases List.mem_cons.1 hs with rfl | hs
    · have := quote_ge s
      omega
    · have := way_steps r c x hc h s hs
      omega
def Ne11 : R → Prop
  | .bad e => e ≠ 11
  | _ => True
theorem numE_ne (r : Bs) : numE r ≠ 11 := by
  unfold numE
  split
  · decide
  · split
    · decide
    · split <;> decide
theorem word_ne (v : JV) (p r : Bs) (m : Nat) (st : List Fr) : Ne11 (wordP v p r m st) := by
  unfold wordP
  split
  · trivial
  · show (3 : Int) ≠ 11; decide
theorem plain_ne (c : UInt8) (r : Bs) (m : Nat) (st : List Fr) : Ne11 (plainP c r m st) := by
  unfold plainP
  split
  · split
    · show (3 : Int) ≠ 11; decide
    · trivial
  · split
    · exact word_ne ..
    · split
      · exact word_ne ..
      · split
        · exact word_ne ..
        · split
          · trivial
          · exact numE_ne _
theorem field_ne (r : Bs) (m : Nat) (d : List (Bs × JV)) (st : List Fr) : Ne11 (fieldP r m d st) := by
  unfold fieldP
  split
  · show (3 : Int) ≠ 11; decide
  · split
    · split
      · show (3 : Int) ≠ 11; decide
      · unfold fieldN
        split
        · show (5 : Int) ≠ 11; decide
        · split
          · show (3 : Int) ≠ 11; decide
          · split
            · trivial
            · show (3 : Int) ≠ 11; decide
    · show (3 : Int) ≠ 11; decide
theorem begin_ne (r : Bs) (m : Nat) (st : List Fr) : Ne11 (beginP r m st) := by
  unfold beginP
  split
  · show (3 : Int) ≠ 11; decide
  · unfold beginC
    split
    · show (3 : Int) ≠ 11; decide
    · split
      · show (2 : Int) ≠ 11; decide
      · split
        · show (4 : Int) ≠ 11; decide
        · split
          · split <;> trivial
          · split
            · split
              · trivial
              · exact field_ne ..
            · exact plain_ne ..
theorem goes_ne (v : JV) (r : Bs) (m : Nat) (f : Fr) (st : List Fr) : Ne11 (goesP v r m f st) := by
  unfold goesP
  split
  · split
    · show (3 : Int) ≠ 11; decide
    · split
      · trivial
      · split
        · trivial
        · show (3 : Int) ≠ 11; decide
  · split
    · show (3 : Int) ≠ 11; decide
    · split
      · trivial
      · split
        · exact field_ne ..
        · show (3 : Int) ≠ 11; decide
theorem fin_ne : ∀ (k : Nat) (x : R), mu x ≤ k → Ne11 x → (fin x).2 ≠ 11 := by
  intro k
  induction k with
  | zero =>
    intro x hk hx
    cases x with
    | bad e => rw [fin_bad]; exact hx
    | more r m st => simp [mu] at hk
    | whole v r m st => simp [mu] at hk
  | succ k ih =>
    intro x hk hx
    cases x with
    | bad e => rw [fin_bad]; exact hx
    | more r m st => rw [fin_more]; exact ih _ (by have := begin_mu r m st; omega) (begin_ne ..)
    | whole v r m st =>
      cases st with
      | nil =>
        rw [fin_end]
        split
        · show (0 : Int) ≠ 11; decide
        · show (3 : Int) ≠ 11; decide
      | cons f st => rw [fin_whole]; exact ih _ (by have := goes_mu v r m f st; omega) (goes_ne ..)
theorem readL_ne (s : Bs) : (readL s).2 ≠ 11 := by
  unfold readL
  split
  · show (2 : Int) ≠ 11; decide
  · exact fin_ne _ _ (Nat.le_refl _) trivial
theorem tellE_ne (x : JV) : tellE x ≠ 11 := by
  unfold tellE
  split
  · decide
  · split
    · decide
    · split
      · decide
      · split <;> decide
end JP
end Go.Proofs.YtdcmnpeabjallaaGreatDoor
namespace Go.Proofs.YtdcmnpeabjallaaGreatDoor
open Go.RowKit
open JP (JV Bs Lf)
theorem cmpB_lt : ∀ a b : Bs, Lib.compareBytes a b < 0 ↔ a < b
  | [], [] => by simp [Lib.compareBytes]
  | [], _ :: _ => by simp [Lib.compareBytes]
  | _ :: _, [] => by simp [Lib.compareBytes]
  | x :: xs, y :: ys => by
    have ih := cmpB_lt xs ys
    unfold Lib.compareBytes
    rw [List.cons_lt_cons_iff]
    by_cases h1 : x < y
    · simp [h1]
    · rw [if_neg h1]
      by_cases h2 : y < x
      · rw [if_pos h2]
        have : x ≠ y := fun e => by rw [e] at h2; exact UInt8.lt_irrefl _ h2
        simp [h1, this]
      · rw [if_neg h2]
        have : x = y := by
          rw [UInt8.lt_iff_toNat_lt] at h1 h2
          exact UInt8.toNat_inj.1 (by omega)
        simp [this, ih]
def MemB (bk : BookF) (l : List JP.OwnP) : Prop := ∀ k ps, bk k = some ps ↔ (k, ps) ∈ l
theorem fold_mem : ∀ (l : List JP.OwnP) (g : BookF), l.Pairwise (fun a b => a.1 < b.1) → ∀ k ps, (l.foldl (fun g x => updG g x.1 x.2) g) k = some ps ↔ (k, ps) ∈ l ∨ ((∀ x ∈ l, x.1 ≠ k) ∧ g k = some ps)
  | [], g, _, k, ps => by simp
  | x :: r, g, hs, k, ps => by
    obtain ⟨h1, h2⟩ := List.pairwise_cons.1 hs
    rw [List.foldl_cons, fold_mem r _ h2 k ps]
    constructor
    · rintro (h | ⟨h, h3⟩)
      · exact .inl (List.mem_cons_of_mem _ h)
      · unfold updG at h3
        by_cases e : k = x.1
        · rw [if_pos e] at h3
          left
          rw [e, ← Option.some.inj h3]
          exact List.mem_cons_self ..
        · rw [if_neg e] at h3
          refine .inr ⟨fun y hy => ?_, h3⟩
          rcases List.mem_cons.1 hy with rfl | hy
          · exact fun e2 => e e2.symm
          · exact h y hy
    · rintro (h | ⟨h, h3⟩)
      · rcases List.mem_cons.1 h with e | h
        · right
          subst e
          refine ⟨fun y hy e => ?_, by unfold updG; rw [if_pos rfl]⟩
          have := h1 y hy
          rw [e] at this
          exact JP.bs_irrefl _ this
        · exact .inl h
      · refine .inr ⟨fun y hy => h y (List.mem_cons_of_mem _ hy), ?_⟩
        unfold updG
        rw [if_neg fun e => h x (List.mem_cons_self ..) e.symm]
        exact h3
theorem bk_mem {l : List JP.OwnP} (h : l.Pairwise fun a b => a.1 < b.1) : MemB (bkOf l) l := fun k ps => by
  unfold bkOf
  rw [fold_mem l _ h k ps]
  simp
theorem others_memB {bk : BookF} {l : List JP.OwnP} (h : MemB bk l) (m : Bs) (p : Bs → Bool) : othersG bk m p = JP.othersB l m p := by
  unfold othersG JP.othersB
  rw [Bool.eq_iff_iff, @decide_eq_true_iff _ (Classical.propDecidable _), List.any_eq_true]
  constructor
  · rintro ⟨k, ps, h1, h2, h3⟩
    exact ⟨(k, ps), (h k ps).1 h1, by rw [Bool.and_eq_true, bne_iff_ne]; exact ⟨h2, h3⟩⟩
  · rintro ⟨⟨k, ps⟩, h1, h2⟩
    rw [Bool.and_eq_true, bne_iff_ne] at h2
    exact ⟨k, ps, (h k ps).2 h1, h2.1, h2.2⟩
theorem seize_memB {bk : BookF} {l : List JP.OwnP} (h : MemB bk l) (live : JV) (m : Bs) (W : List Leaf) : MemB (seizeG live m W bk) (JP.seizeL live m W l) := fun k ps => by
  unfold seizeG JP.seizeL
  rw [List.mem_map]
  by_cases e : k = m
  · subst e
    simp only [if_true]
    constructor
    · intro h1
      exact ⟨(k, ps), (h k ps).1 h1, by simp⟩
    · rintro ⟨y, hy, h1⟩
      by_cases e2 : y.1 = k
      · rw [if_pos e2] at h1
        rw [h1] at hy
        exact (h k ps).2 hy
      · rw [if_neg e2] at h1
        exact absurd (congrArg Prod.fst h1) e2
  · simp only [if_neg e]
    rw [Option.map_eq_some_iff]
    constructor
    · rintro ⟨a, h1, rfl⟩
      exact ⟨(k, a), (h k a).1 h1, by simp [e]⟩
    · rintro ⟨y, hy, h1⟩
      by_cases e2 : y.1 = m
      · rw [if_pos e2] at h1
        rw [h1] at e2
        exact absurd e2 e
      · rw [if_neg e2] at h1
        obtain ⟨h3, h4⟩ := Prod.mk.inj h1
        exact ⟨y.2, (h k y.2).2 (by rw [← h3]; exact hy), h4⟩
theorem had_memB {bk : BookF} {l : List JP.OwnP} (h : MemB bk l) (hs : l.Pairwise fun a b => a.1 < b.1) (m : Bs) : (bk m).getD [] = JP.had l m := by
  cases hb : bk m with
  | some ps =>
    exact (JP.had_mem hs ((h m ps).1 hb)).symm
  | none =>
    rcases JP.had_cases l m with ⟨y, hy, h1, _⟩ | h1
    · have := (h y.1 y.2).2 hy
      rw [h1, hb] at this; cases this
    · exact h1.symm
theorem drop_memB {bk : BookF} {l : List JP.OwnP} (h : MemB bk l) (live : JV) (m : Bs) (W : List Leaf) (ps : List Bs) : dropG live bk m W ps = JP.dropV live l m W ps := by
  unfold dropG JP.dropV
  congr 1
  funext v p
  rw [others_memB h]
theorem listed_fin {live : JV} {l L : List JP.OwnP} {m : Bs} {W : List Leaf} {bk : BookF} (h : MemB bk l) (hs : l.Pairwise fun a b => a.1 < b.1) (hL : Listed (updG (seizeG live m W bk) m (W.map JP.pathL)) (fun _ => false) L) (hr : RiseO L) : L = JP.finL live l m W := by
  have hLs : L.Pairwise fun a b => a.1 < b.1 := by
    have h1 := hL.one
    unfold List.Nodup at h1
    rw [List.pairwise_map] at h1
    refine List.Pairwise.imp ?_ (h1.and hr)
    rintro a b ⟨h2, h3⟩
    rw [cmpB_lt] at h3
    by_cases h4 : a.1 < b.1
    · exact h4
    · exact absurd (bs_total h4 h3) h2
  refine rise_eq (R := fun a b : JP.OwnP => a.1 < b.1) JP.own_irrefl (fun _ _ _ => JP.bs_trans) hLs (JP.fin_rise hs) fun x => ?_
  rw [hL.mem x, JP.fin_mem]
  have hm := seize_memB h live m W
  constructor
  · rintro ⟨h1, _, h3⟩
    refine ⟨h3, ?_⟩
    unfold updG at h1
    by_cases e : x.1 = m
    · rw [if_pos e] at h1
      exact .inl (Prod.ext e (Option.some.inj h1).symm)
    · rw [if_neg e] at h1
      exact .inr ⟨(hm x.1 x.2).1 h1, e⟩
  · rintro ⟨h3, h1⟩
    refine ⟨?_, rfl, h3⟩
    unfold updG
    rcases h1 with rfl | ⟨h1, e⟩
    · rw [if_pos rfl]
    · rw [if_neg e]
      exact (hm x.1 x.2).2 h1
theorem joinK_inj {a b : List Bs} (ha : a.length ≤ 10) (hb : b.length ≤ 10) (h : joinK a = joinK b) : a = b := by
  have h1 := steps_join a ha
  have h2 := steps_join b hb
  have h3 : joinK a = joinK b := h
  rw [h3, h2] at h1
  exact (Prod.mk.inj h1).2.symm
theorem leaves_is {W : List Leaf} {want : JV} (hp : W.Perm (JP.gat [] want)) (hr : Rise W) (hf : JP.Fit want) (_ : JP.kind want = 6) : JP.IsLeaves W want ∧ ∀ x ∈ W, LeafFit x := by
  have hfit : ∀ x ∈ W, LeafFit x := fun x hx => by
    obtain ⟨r, e1, e2, e3, e4⟩ := JP.leaf_there want [] hf x (hp.mem_iff.1 hx)
    rw [List.nil_append] at e1
    subst e1
    refine ⟨e3, ?_, fun s hs => ?_⟩
    · have := JP.at_deep (JP.atO_atW e2); have := hf.2.2.1; omega
    · have := JP.way_steps x.1 want x.2 (JP.fit_S hf) e2 s hs
      have := hf.2.2.2
      omega
  refine ⟨⟨hp, ?_⟩, hfit⟩
  have hd : W.Pairwise fun x y : Lf => JP.Div x.1 y.1 := (hp.pairwise_iff fun {_ _} h => JP.Div.symm h).2 (JP.gat_div want [] hf)
  have h2 : W.Pairwise fun x y : Lf => x ∈ W ∧ y ∈ W := by
    rw [List.pairwise_iff_getElem]
    intro i j hi hj _
    exact ⟨List.getElem_mem hi, List.getElem_mem hj⟩
  unfold Rise at hr
  refine List.Pairwise.imp ?_ ((hr.and hd).and h2)
  rintro a b ⟨⟨h3, h4⟩, ha, hb⟩
  have fa := hfit a ha
  have fb := hfit b hb
  rw [fa.path, fb.path, cmpB_lt] at h3
  by_cases h5 : JP.pathL a < JP.pathL b
  · exact h5
  · have h6 := bs_total h5 h3
    have h7 := joinK_inj fa.len fb.len h6
    exact absurd (by rw [h7]; exact List.prefix_refl _) h4.1
theorem sets_take (v : JV) {W : List Leaf} {i : Nat} {x : Leaf} (h : W[i]? = some x) : JP.setsV v (W.take (i + 1)) = JP.setV (JP.setsV v (W.take i)) x.1 x.2 := by
  rw [List.take_add_one, h]
  unfold JP.setsV
  show List.foldl _ v (W.take i ++ [x]) = _
  rw [List.foldl_append]; rfl
theorem wayB_le : ∀ r : List Bs, (∀ s ∈ r, s.length ≤ 2000) → JP.wayB r ≤ 4010 * r.length
  | [], _ => Nat.le_refl _
  | s :: r, h => by
    have h1 := wayB_le r fun t ht => h t (List.mem_cons_of_mem _ ht)
    have h2 := h s (List.mem_cons_self ..)
    unfold JP.wayB at h1 ⊢
    rw [List.map_cons, List.sum_cons, List.length_cons]
    omega
theorem sets_bound (W : List Leaf) (hW : ∀ x ∈ W, LeafFit x) : ∀ v : JV, JP.Fit v → ∀ i, i ≤ W.length → JP.wfS (JP.setsV v (W.take i)) ∧ JP.size (JP.setsV v (W.take i)) ≤ 200 + 300 * i ∧ (JP.text (JP.setsV v (W.take i))).length ≤ 2000 + 50000 * i := by
  intro v hv i
  induction i with
  | zero =>
    intro _
    rw [List.take_zero]
    exact ⟨JP.fit_S hv, by have := hv.2.1; show JP.size v ≤ _; omega, by have := hv.2.2.2; show (JP.text v).length ≤ _; omega⟩
  | succ i ih =>
    intro hi
    obtain ⟨h1, h2, h3⟩ := ih (by omega)
    obtain ⟨x, hx⟩ : ∃ x, W[i]? = some x := ⟨W[i]'(by omega), List.getElem?_eq_getElem _⟩
    have fx := hW x (List.mem_of_getElem? hx)
    rw [sets_take v hx]
    have a := JP.set_size x.1 _ x.2 h1
    have b := JP.set_len x.1 _ x.2 h1
    have c := wayB_le x.1 fx.steps
    have f1 := fx.fit.2.1
    have f2 := fx.fit.2.2.2
    have f3 := fx.len
    exact ⟨JP.set_wfS _ _ _ h1 (JP.fit_S fx.fit), by omega, by omega⟩
end Go.Proofs.YtdcmnpeabjallaaGreatDoor
