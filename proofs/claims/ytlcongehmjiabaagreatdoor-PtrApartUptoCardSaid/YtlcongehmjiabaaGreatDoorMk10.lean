/- Texts of ours joined: PatchBackOps, PatchInvert, PatchSizes, PatchBackWalk. -/
import Derived.Lib.ItoaLen
import Derived.Test.YtlcongehmjiabaaGreatDoorMk9
set_option linter.unusedVariables false
set_option linter.unusedSimpArgs false
/- patch: what leads back behind a step. -/
namespace Go.Proofs.YtlcongehmjiabaaGreatDoor
open Go.RowKit
open JP (JV Bs)

def ofPO (o : JP.PO) : GOp := ⟨o.kind, mkB o.path, mkB o.frm, mkB o.val⟩
theorem to_of (o : JP.PO) : toPO (ofPO o) = o := by unfold toPO ofPO; simp only [mkB_list]
theorem to_ofs (l : List JP.PO) : (l.map ofPO).map toPO = l := by
  rw [List.map_map]
  conv => rhs; rw [← List.map_id l]
  exact List.map_congr_left fun o _ => to_of o
def opC (g : GOp) : List Value := [.int .i64 g.kind, .string g.path, .string g.from_, .string g.value]
theorem own_ops {w : World} {B b : Nat} {L : List GOp} (h : w.heap[b]? = some (.cells (L.flatMap opC).toArray 41 (0, 0))) (hB : B ≤ b) (hwf : ∀ g ∈ L, (Lit.int .i64 g.kind).wf = true) (hl : L.length ≤ 1000) :
    OwnAt OpR 4 w B 41 (.slice (some ⟨b, 0, none⟩) L.length L.length) L := by
  have hlen : (L.flatMap opC).length = L.length * 4 := by
    clear h hwf hl
    induction L with
    | nil => rfl
    | cons g r ih => rw [List.flatMap_cons, List.length_append, ih, List.length_cons]; show 4 + _ = _; omega
  refine ⟨L.map opC, List.length_map .., fun cs hcs => ?_, ⟨?_, .inr ⟨b, L.length, _, rfl, hB, h, Nat.le_refl _, by unfold maxLen; omega, by rw [List.size_toArray, hlen], ?_⟩⟩, fun j cs x hcs hx => ?_⟩
  · obtain ⟨g, _, rfl⟩ := List.mem_map.1 hcs
    rfl
  · show (L.map opC).flatten.length = _
    rw [← List.flatMap_def]; exact hlen
  · show List.take _ (L.flatMap opC) = (L.map opC).flatten
    rw [← List.flatMap_def, ← hlen, List.take_length]
  · rw [List.getElem?_map, hx] at hcs
    obtain rfl := Option.some.inj hcs
    exact ⟨rfl, hwf x (List.mem_of_getElem? hx)⟩
theorem JP.unput_kind (x : JV) (l : List Bs) : (JP.unputP x l).kind = 2 ∨ (JP.unputP x l).kind = 3 := by
  unfold JP.unputP
  split
  · exact .inr rfl
  · split
    · exact .inl rfl
    · split
      · exact .inr rfl
      · exact .inl rfl
theorem JP.ins_up {x y u : JV} {l : List Bs} (hf : JP.Few x) (h : JP.insW x l y = some u) (h0 : l ≠ []) : ∃ p, JP.atW x l.dropLast = some p := by
  unfold JP.insW at h
  rw [if_neg h0] at h
  rcases JP.nil_or_snoc l with e | ⟨r, s, rfl⟩
  · exact absurd e h0
  · obtain ⟨p, q, h1, _, _⟩ := JP.under_split hf h
    exact ⟨p, by rw [List.dropLast_concat]; exact h1⟩
theorem toI_some {o : Option JV} (h : (JP.toI 7 o).1 = 0) : ∃ u, o = some u := ⟨_, JP.toI_ok (by decide) h⟩
/-- what 'back' tells -/
def BackAt (l : List JP.PO) (w : World) (e : Ending) (w' : World) : Prop := ∃ v', e = .returned v' ∧ OwnAt OpR 4 w' w.heap.size 41 v' (l.map ofPO) ∧ Below w.heap.size w w'
theorem kind_wf {k : Int} (h : k = 2 ∨ k = 3) : (Lit.int .i64 k).wf = true := by rcases h with rfl | rfl <;> decide
set_option maxRecDepth 100000 in
set_option maxHeartbeats 3200000 in
theorem back1 (kd : Int) (pa fr : List Bs) (val x : JV) (s1 s2 s3 v : Value) (n : Nat) (w : World) (hs : StepAt w s1 s2 s3 ⟨kd, pa, fr, val⟩) (ok : JP.PSOK ⟨kd, pa, fr, val⟩ 1048576) (hj : JvAt n [] w v x) (hx : JP.Fit x) (hE : Env w) (hd : (JP.doP ⟨kd, pa, fr, val⟩ x).1 = 0) (hk : kd = 1) :
    Calls Tryz.prog 42 #[v, .agg #[.int .i64 kd, s1, s2, s3]] w (BackAt (JP.backP x ⟨kd, pa, fr, val⟩) w) := by
  subst hk
  obtain ⟨hs1, hs2, n3, hs3⟩ := hs
  have hs1 : StrAt w s1 (pa.map mkB) := hs1
  have hs2 : StrAt w s2 (fr.map mkB) := hs2
  obtain ⟨k1, k2, k3, k4, k5, k6, k7⟩ := ok
  dsimp only at k1 k2 k3 k4 k5 k6 k7
  obtain ⟨D, hD⟩ : ∃ D, JP.backP x ⟨1, pa, fr, val⟩ = D := ⟨_, rfl⟩
  rw [hD]
  unfold JP.backP at hD
  dsimp only at hD
  unfold JP.doP at hd
  dsimp only at hd
  obtain ⟨w2, hw⟩ : ∃ w2, w2 = w.alloc (.cells #[.int .i64 1, s1, s2, s3] 71) := ⟨_, rfl⟩
  have b1 : w2.heap[w.heap.size]? = some (.cells #[.int .i64 1, s1, s2, s3] 71 (0, 0)) := by rw [hw]; exact heap_alloc_new w _
  have hb2 : Below w.heap.size w w2 := by rw [hw]; exact (Below.refl _ w).alloc (Nat.le_refl _) _
  have HB2 := Lib.hid hb2
  have C1 := Lib.hid b1
  have HE := Lib.hid (hE.below hb2)
  have HS1 := Lib.hid (hs1.below hb2)
  have HS2 := Lib.hid (hs2.below hb2)
  have HJ := Lib.hid (hj.below hb2)
  have Hx := Lib.hid hx
  have Hz : Hid ((JP.text x).length ≤ 1000000) := Lib.hid (by have h9 : (JP.text x).length ≤ 2000 := hx.2.2.2; show _ ≤ _; omega)
  have HAt := Lib.hid (at_any HJ.out Hz.out HS1.out k1 (by omega) HE.out.1 HE.out.2.1)
  rw [if_pos rfl] at hd
  rw [if_pos (by decide)] at hD
  obtain ⟨u0, hu0⟩ := toI_some hd
  have HUn := Lib.hid (fun (w' : World) (hb : Below w2.heap.size w2 w') => unput_any (HJ.out.below hb) Hx.out (HS1.out.below hb) k3 k1 k6 (HE.out.below hb) (fun h => JP.ins_up (JP.fit_few hx) hu0 h))
  have huk := JP.unput_kind x pa
  obtain ⟨⟨ok, op, of, ov⟩, hO⟩ : ∃ O, JP.unputP x pa = O := ⟨_, rfl⟩
  rw [hO] at HUn hD huk
  unfold opV at HUn
  dsimp only at HUn huk
  have HD := Lib.hid hD.symm
  have Hwf := Lib.hid (kind_wf huk)
  clear hO hu0 huk
  clear hb2 b1 hs1 hs2 hs3 hj hx hE k1 k2 k3 k4 k5 k6 k7 hd hD
  go_enter Tryz.func42, Tryz.ntmps42
  go_upto_region 1 with fail
  rw [← hw]
  clear hw
  have q1 := fun i => cell_block C1.out i
  go_wp2_with fail
  refine HAt.out.mono ?_
  rintro E w3 ⟨u, rfl, hu, hb⟩
  have HB3 := Lib.hid (HB2.out.trans (hb.mono HB2.out.size))
  have HB3r := Lib.hid hb
  have Hu := Lib.hid hu
  have d3 := below_block hb C1.out
  have q3 := fun i => cell_block d3 i
  clear hb hu HAt q1
  go_wp2_with fail
  refine (HUn.out w3 HB3r.out).mono ?_
  rintro E w4 ⟨rfl, hb⟩
  have HB4 := Lib.hid (HB3.out.trans (hb.mono HB3.out.size))
  clear hb q3 d3
  go_wp2_with fail
  go_ret
  refine ⟨_, rfl, ?_, HB4.out.alloc HB4.out.size _⟩
  rw [HD.out]
  exact own_ops (L := [ofPO ⟨ok, op, of, ov⟩]) (heap_alloc_new w4 _) HB4.out.size (fun g hg => by rw [List.mem_singleton.1 hg]; exact Hwf.out) (by show 1 ≤ 1000; decide)
set_option maxRecDepth 100000 in
set_option maxHeartbeats 3200000 in
theorem back5 (kd : Int) (pa fr : List Bs) (val x : JV) (s1 s2 s3 v : Value) (n : Nat) (w : World) (hs : StepAt w s1 s2 s3 ⟨kd, pa, fr, val⟩) (ok : JP.PSOK ⟨kd, pa, fr, val⟩ 1048576) (hj : JvAt n [] w v x) (hx : JP.Fit x) (hE : Env w) (hd : (JP.doP ⟨kd, pa, fr, val⟩ x).1 = 0) (hk : kd = 5) :
    Calls Tryz.prog 42 #[v, .agg #[.int .i64 kd, s1, s2, s3]] w (BackAt (JP.backP x ⟨kd, pa, fr, val⟩) w) := by
  subst hk
  obtain ⟨hs1, hs2, n3, hs3⟩ := hs
  have hs1 : StrAt w s1 (pa.map mkB) := hs1
  have hs2 : StrAt w s2 (fr.map mkB) := hs2
  obtain ⟨k1, k2, k3, k4, k5, k6, k7⟩ := ok
  dsimp only at k1 k2 k3 k4 k5 k6 k7
  obtain ⟨D, hD⟩ : ∃ D, JP.backP x ⟨5, pa, fr, val⟩ = D := ⟨_, rfl⟩
  rw [hD]
  unfold JP.backP at hD
  dsimp only at hD
  unfold JP.doP at hd
  dsimp only at hd
  obtain ⟨w2, hw⟩ : ∃ w2, w2 = w.alloc (.cells #[.int .i64 5, s1, s2, s3] 71) := ⟨_, rfl⟩
  have b1 : w2.heap[w.heap.size]? = some (.cells #[.int .i64 5, s1, s2, s3] 71 (0, 0)) := by rw [hw]; exact heap_alloc_new w _
  have hb2 : Below w.heap.size w w2 := by rw [hw]; exact (Below.refl _ w).alloc (Nat.le_refl _) _
  have HB2 := Lib.hid hb2
  have C1 := Lib.hid b1
  have HE := Lib.hid (hE.below hb2)
  have HS1 := Lib.hid (hs1.below hb2)
  have HS2 := Lib.hid (hs2.below hb2)
  have HJ := Lib.hid (hj.below hb2)
  have Hx := Lib.hid hx
  have Hz : Hid ((JP.text x).length ≤ 1000000) := Lib.hid (by have h9 : (JP.text x).length ≤ 2000 := hx.2.2.2; show _ ≤ _; omega)
  have HAt := Lib.hid (at_any HJ.out Hz.out HS1.out k1 (by omega) HE.out.1 HE.out.2.1)
  rw [if_neg (by decide), if_neg (by decide), if_neg (by decide), if_neg (by decide)] at hd
  unfold JP.carryP at hd
  dsimp only at hd
  rw [if_pos (by decide)] at hD
  rw [if_neg (fun e => by cases e.1)] at hd
  obtain ⟨u0, y, hu0⟩ : ∃ u0 y, JP.insW x pa y = some u0 := by
    cases ha : JP.atW x fr with
    | none => rw [ha] at hd; cases hd
    | some y =>
      rw [ha] at hd
      dsimp only at hd
      rw [if_neg (by decide)] at hd
      obtain ⟨u0, hu0⟩ := toI_some hd
      exact ⟨u0, y, hu0⟩
  have HUn := Lib.hid (fun (w' : World) (hb : Below w2.heap.size w2 w') => unput_any (HJ.out.below hb) Hx.out (HS1.out.below hb) k3 k1 k6 (HE.out.below hb) (fun h => JP.ins_up (JP.fit_few hx) hu0 h))
  have huk := JP.unput_kind x pa
  obtain ⟨⟨ok, op, of, ov⟩, hO⟩ : ∃ O, JP.unputP x pa = O := ⟨_, rfl⟩
  rw [hO] at HUn hD huk
  unfold opV at HUn
  dsimp only at HUn huk
  have HD := Lib.hid hD.symm
  have Hwf := Lib.hid (kind_wf huk)
  clear hO hu0 huk
  clear hb2 b1 hs1 hs2 hs3 hj hx hE k1 k2 k3 k4 k5 k6 k7 hd hD
  go_enter Tryz.func42, Tryz.ntmps42
  go_upto_region 1 with fail
  rw [← hw]
  clear hw
  have q1 := fun i => cell_block C1.out i
  go_wp2_with fail
  refine HAt.out.mono ?_
  rintro E w3 ⟨u, rfl, hu, hb⟩
  have HB3 := Lib.hid (HB2.out.trans (hb.mono HB2.out.size))
  have HB3r := Lib.hid hb
  have Hu := Lib.hid hu
  have d3 := below_block hb C1.out
  have q3 := fun i => cell_block d3 i
  clear hb hu HAt q1
  go_wp2_with fail
  refine (HUn.out w3 HB3r.out).mono ?_
  rintro E w4 ⟨rfl, hb⟩
  have HB4 := Lib.hid (HB3.out.trans (hb.mono HB3.out.size))
  clear hb q3 d3
  go_wp2_with fail
  go_ret
  refine ⟨_, rfl, ?_, HB4.out.alloc HB4.out.size _⟩
  rw [HD.out]
  exact own_ops (L := [ofPO ⟨ok, op, of, ov⟩]) (heap_alloc_new w4 _) HB4.out.size (fun g hg => by rw [List.mem_singleton.1 hg]; exact Hwf.out) (by show 1 ≤ 1000; decide)
set_option maxRecDepth 100000 in
set_option maxHeartbeats 3200000 in
theorem back2 (kd : Int) (pa fr : List Bs) (val x : JV) (s1 s2 s3 v : Value) (n : Nat) (w : World) (hs : StepAt w s1 s2 s3 ⟨kd, pa, fr, val⟩) (ok : JP.PSOK ⟨kd, pa, fr, val⟩ 1048576) (hj : JvAt n [] w v x) (hx : JP.Fit x) (hE : Env w) (hd : (JP.doP ⟨kd, pa, fr, val⟩ x).1 = 0) (hk : kd = 2) :
    Calls Tryz.prog 42 #[v, .agg #[.int .i64 kd, s1, s2, s3]] w (BackAt (JP.backP x ⟨kd, pa, fr, val⟩) w) := by
  subst hk
  obtain ⟨hs1, hs2, n3, hs3⟩ := hs
  have hs1 : StrAt w s1 (pa.map mkB) := hs1
  have hs2 : StrAt w s2 (fr.map mkB) := hs2
  obtain ⟨k1, k2, k3, k4, k5, k6, k7⟩ := ok
  dsimp only at k1 k2 k3 k4 k5 k6 k7
  obtain ⟨D, hD⟩ : ∃ D, JP.backP x ⟨2, pa, fr, val⟩ = D := ⟨_, rfl⟩
  rw [hD]
  unfold JP.backP at hD
  dsimp only at hD
  unfold JP.doP at hd
  dsimp only at hd
  obtain ⟨w2, hw⟩ : ∃ w2, w2 = w.alloc (.cells #[.int .i64 2, s1, s2, s3] 71) := ⟨_, rfl⟩
  have b1 : w2.heap[w.heap.size]? = some (.cells #[.int .i64 2, s1, s2, s3] 71 (0, 0)) := by rw [hw]; exact heap_alloc_new w _
  have hb2 : Below w.heap.size w w2 := by rw [hw]; exact (Below.refl _ w).alloc (Nat.le_refl _) _
  have HB2 := Lib.hid hb2
  have C1 := Lib.hid b1
  have HE := Lib.hid (hE.below hb2)
  have HS1 := Lib.hid (hs1.below hb2)
  have HS2 := Lib.hid (hs2.below hb2)
  have HJ := Lib.hid (hj.below hb2)
  have Hx := Lib.hid hx
  have Hz : Hid ((JP.text x).length ≤ 1000000) := Lib.hid (by have h9 : (JP.text x).length ≤ 2000 := hx.2.2.2; show _ ≤ _; omega)
  have HAt := Lib.hid (at_any HJ.out Hz.out HS1.out k1 (by omega) HE.out.1 HE.out.2.1)
  rw [if_neg (by decide), if_pos rfl] at hd
  rw [if_neg (by decide), if_pos rfl] at hD
  by_cases hp0 : pa = []
  · rw [if_pos hp0] at hd; cases hd
  rw [if_neg hp0] at hd
  obtain ⟨u0, hu0⟩ := toI_some hd
  obtain ⟨was, hwas, _⟩ := JP.uncut_back hx (JP.fit_few (JP.cutW_less hx hu0).1) hu0
  rw [hwas] at HAt hD
  have hfw := JP.at_fit hx hwas
  have Hzw : Hid ((JP.text was).length ≤ 4194304) := Lib.hid (by have h9 : (JP.text was).length ≤ 2000 := hfw.2.2.2; show _ ≤ _; omega)
  have HPt := Lib.hid (fun (w' : World) (hb : Below w2.heap.size w2 w') => point_any (HS1.out.below hb) k3 (by omega) (HE.out.below hb))
  obtain ⟨J, hJ⟩ : ∃ J, joinK pa = J := ⟨_, rfl⟩
  obtain ⟨X, hX⟩ : ∃ X, JP.text was = X := ⟨_, rfl⟩
  have hD2 : D = [⟨1, J, [], X⟩] := by rw [← hD, hJ]; show [(⟨_, _, _, JP.text was⟩ : JP.PO)] = _; rw [hX]
  rw [hJ] at HPt
  have HX := Lib.hid hX
  have HD := Lib.hid hD2
  clear hJ hX hfw hwas hD2 hp0 hu0
  clear hb2 b1 hs1 hs2 hs3 hj hx hE k1 k2 k3 k4 k5 k6 k7 hd hD
  go_enter Tryz.func42, Tryz.ntmps42
  go_upto_region 1 with fail
  rw [← hw]
  clear hw
  have q1 := fun i => cell_block C1.out i
  go_wp2_with fail
  refine HAt.out.mono ?_
  rintro E w3 ⟨u, rfl, hu, hb⟩
  have HB3 := Lib.hid (HB2.out.trans (hb.mono HB2.out.size))
  have HB3r := Lib.hid hb
  have Hu := Lib.hid hu
  have d3 := below_block hb C1.out
  have q3 := fun i => cell_block d3 i
  clear hb hu HAt q1
  obtain ⟨kw, hjw⟩ := Hu.out was rfl
  have Hjw := Lib.hid hjw
  clear hjw
  go_wp2_with fail
  refine (HPt.out w3 HB3r.out).mono ?_
  rintro E w4 ⟨rfl, hb⟩
  have HB4 := Lib.hid (HB3.out.trans (hb.mono HB3.out.size))
  have HTx := Lib.hid (text_any kw u was w4 (Hjw.out.below hb) Hzw.out (HE.out.1.below (HB3r.out.trans (hb.mono HB3r.out.size))))
  rw [HX.out] at HTx
  clear hb q3 d3
  go_wp2_with fail
  refine HTx.out.mono ?_
  rintro E w5 ⟨rfl, hb⟩
  have HB5 := Lib.hid (HB4.out.trans (hb.mono HB4.out.size))
  clear hb
  go_wp2_with fail
  go_ret
  refine ⟨_, rfl, ?_, HB5.out.alloc HB5.out.size _⟩
  rw [HD.out]
  exact own_ops (L := [ofPO ⟨1, J, [], X⟩]) (heap_alloc_new w5 _) HB5.out.size (fun g hg => by rw [List.mem_singleton.1 hg]; show (Lit.int .i64 1).wf = true; decide) (by show 1 ≤ 1000; decide)
set_option maxRecDepth 100000 in
set_option maxHeartbeats 3200000 in
theorem back3 (kd : Int) (pa fr : List Bs) (val x : JV) (s1 s2 s3 v : Value) (n : Nat) (w : World) (hs : StepAt w s1 s2 s3 ⟨kd, pa, fr, val⟩) (ok : JP.PSOK ⟨kd, pa, fr, val⟩ 1048576) (hj : JvAt n [] w v x) (hx : JP.Fit x) (hE : Env w) (hd : (JP.doP ⟨kd, pa, fr, val⟩ x).1 = 0) (hk : kd = 3) :
    Calls Tryz.prog 42 #[v, .agg #[.int .i64 kd, s1, s2, s3]] w (BackAt (JP.backP x ⟨kd, pa, fr, val⟩) w) := by
  subst hk
  obtain ⟨hs1, hs2, n3, hs3⟩ := hs
  have hs1 : StrAt w s1 (pa.map mkB) := hs1
  have hs2 : StrAt w s2 (fr.map mkB) := hs2
  obtain ⟨k1, k2, k3, k4, k5, k6, k7⟩ := ok
  dsimp only at k1 k2 k3 k4 k5 k6 k7
  obtain ⟨D, hD⟩ : ∃ D, JP.backP x ⟨3, pa, fr, val⟩ = D := ⟨_, rfl⟩
  rw [hD]
  unfold JP.backP at hD
  dsimp only at hD
  unfold JP.doP at hd
  dsimp only at hd
  obtain ⟨w2, hw⟩ : ∃ w2, w2 = w.alloc (.cells #[.int .i64 3, s1, s2, s3] 71) := ⟨_, rfl⟩
  have b1 : w2.heap[w.heap.size]? = some (.cells #[.int .i64 3, s1, s2, s3] 71 (0, 0)) := by rw [hw]; exact heap_alloc_new w _
  have hb2 : Below w.heap.size w w2 := by rw [hw]; exact (Below.refl _ w).alloc (Nat.le_refl _) _
  have HB2 := Lib.hid hb2
  have C1 := Lib.hid b1
  have HE := Lib.hid (hE.below hb2)
  have HS1 := Lib.hid (hs1.below hb2)
  have HS2 := Lib.hid (hs2.below hb2)
  have HJ := Lib.hid (hj.below hb2)
  have Hx := Lib.hid hx
  have Hz : Hid ((JP.text x).length ≤ 1000000) := Lib.hid (by have h9 : (JP.text x).length ≤ 2000 := hx.2.2.2; show _ ≤ _; omega)
  have HAt := Lib.hid (at_any HJ.out Hz.out HS1.out k1 (by omega) HE.out.1 HE.out.2.1)
  rw [if_neg (by decide), if_neg (by decide), if_pos rfl] at hd
  rw [if_neg (by decide), if_neg (by decide), if_pos rfl] at hD
  obtain ⟨was, hwas⟩ : ∃ was, JP.atW x pa = some was := by
    cases ha : JP.atW x pa with
    | none => rw [ha] at hd; cases hd
    | some y => exact ⟨y, rfl⟩
  rw [hwas] at HAt hD
  have hfw := JP.at_fit hx hwas
  have Hzw : Hid ((JP.text was).length ≤ 4194304) := Lib.hid (by have h9 : (JP.text was).length ≤ 2000 := hfw.2.2.2; show _ ≤ _; omega)
  have HPt := Lib.hid (fun (w' : World) (hb : Below w2.heap.size w2 w') => point_any (HS1.out.below hb) k3 (by omega) (HE.out.below hb))
  obtain ⟨J, hJ⟩ : ∃ J, joinK pa = J := ⟨_, rfl⟩
  obtain ⟨X, hX⟩ : ∃ X, JP.text was = X := ⟨_, rfl⟩
  have hD2 : D = [⟨3, J, [], X⟩] := by rw [← hD, hJ]; show [(⟨_, _, _, JP.text was⟩ : JP.PO)] = _; rw [hX]
  rw [hJ] at HPt
  have HX := Lib.hid hX
  have HD := Lib.hid hD2
  clear hJ hX hfw hwas hD2
  clear hb2 b1 hs1 hs2 hs3 hj hx hE k1 k2 k3 k4 k5 k6 k7 hd hD
  go_enter Tryz.func42, Tryz.ntmps42
  go_upto_region 1 with fail
  rw [← hw]
  clear hw
  have q1 := fun i => cell_block C1.out i
  go_wp2_with fail
  refine HAt.out.mono ?_
  rintro E w3 ⟨u, rfl, hu, hb⟩
  have HB3 := Lib.hid (HB2.out.trans (hb.mono HB2.out.size))
  have HB3r := Lib.hid hb
  have Hu := Lib.hid hu
  have d3 := below_block hb C1.out
  have q3 := fun i => cell_block d3 i
  clear hb hu HAt q1
  obtain ⟨kw, hjw⟩ := Hu.out was rfl
  have Hjw := Lib.hid hjw
  clear hjw
  go_wp2_with fail
  refine (HPt.out w3 HB3r.out).mono ?_
  rintro E w4 ⟨rfl, hb⟩
  have HB4 := Lib.hid (HB3.out.trans (hb.mono HB3.out.size))
  have HTx := Lib.hid (text_any kw u was w4 (Hjw.out.below hb) Hzw.out (HE.out.1.below (HB3r.out.trans (hb.mono HB3r.out.size))))
  rw [HX.out] at HTx
  clear hb q3 d3
  go_wp2_with fail
  refine HTx.out.mono ?_
  rintro E w5 ⟨rfl, hb⟩
  have HB5 := Lib.hid (HB4.out.trans (hb.mono HB4.out.size))
  clear hb
  go_wp2_with fail
  go_ret
  refine ⟨_, rfl, ?_, HB5.out.alloc HB5.out.size _⟩
  rw [HD.out]
  exact own_ops (L := [ofPO ⟨3, J, [], X⟩]) (heap_alloc_new w5 _) HB5.out.size (fun g hg => by rw [List.mem_singleton.1 hg]; show (Lit.int .i64 3).wf = true; decide) (by show 1 ≤ 1000; decide)
set_option maxRecDepth 100000 in
set_option maxHeartbeats 3200000 in
theorem back6 (kd : Int) (pa fr : List Bs) (val x : JV) (s1 s2 s3 v : Value) (n : Nat) (w : World) (hs : StepAt w s1 s2 s3 ⟨kd, pa, fr, val⟩) (ok : JP.PSOK ⟨kd, pa, fr, val⟩ 1048576) (hj : JvAt n [] w v x) (hx : JP.Fit x) (hE : Env w) (hd : (JP.doP ⟨kd, pa, fr, val⟩ x).1 = 0) (hk : kd = 6) :
    Calls Tryz.prog 42 #[v, .agg #[.int .i64 kd, s1, s2, s3]] w (BackAt (JP.backP x ⟨kd, pa, fr, val⟩) w) := by
  subst hk
  obtain ⟨hs1, hs2, n3, hs3⟩ := hs
  have hs1 : StrAt w s1 (pa.map mkB) := hs1
  have hs2 : StrAt w s2 (fr.map mkB) := hs2
  obtain ⟨k1, k2, k3, k4, k5, k6, k7⟩ := ok
  dsimp only at k1 k2 k3 k4 k5 k6 k7
  obtain ⟨D, hD⟩ : ∃ D, JP.backP x ⟨6, pa, fr, val⟩ = D := ⟨_, rfl⟩
  rw [hD]
  unfold JP.backP at hD
  dsimp only at hD
  unfold JP.doP at hd
  dsimp only at hd
  obtain ⟨w2, hw⟩ : ∃ w2, w2 = w.alloc (.cells #[.int .i64 6, s1, s2, s3] 71) := ⟨_, rfl⟩
  have b1 : w2.heap[w.heap.size]? = some (.cells #[.int .i64 6, s1, s2, s3] 71 (0, 0)) := by rw [hw]; exact heap_alloc_new w _
  have hb2 : Below w.heap.size w w2 := by rw [hw]; exact (Below.refl _ w).alloc (Nat.le_refl _) _
  have HB2 := Lib.hid hb2
  have C1 := Lib.hid b1
  have HE := Lib.hid (hE.below hb2)
  have HS1 := Lib.hid (hs1.below hb2)
  have HS2 := Lib.hid (hs2.below hb2)
  have HJ := Lib.hid (hj.below hb2)
  have Hx := Lib.hid hx
  have Hz : Hid ((JP.text x).length ≤ 1000000) := Lib.hid (by have h9 : (JP.text x).length ≤ 2000 := hx.2.2.2; show _ ≤ _; omega)
  have HAt := Lib.hid (at_any HJ.out Hz.out HS1.out k1 (by omega) HE.out.1 HE.out.2.1)
  rw [if_neg (by decide), if_neg (by decide), if_neg (by decide), if_neg (by decide)] at hD
  have HD := Lib.hid hD.symm
  clear hb2 b1 hs1 hs2 hs3 hj hx hE k1 k2 k3 k4 k5 k6 k7 hd hD
  go_enter Tryz.func42, Tryz.ntmps42
  go_upto_region 1 with fail
  rw [← hw]
  clear hw
  have q1 := fun i => cell_block C1.out i
  go_wp2_with fail
  refine HAt.out.mono ?_
  rintro E w3 ⟨u, rfl, hu, hb⟩
  have HB3 := Lib.hid (HB2.out.trans (hb.mono HB2.out.size))
  have HB3r := Lib.hid hb
  have Hu := Lib.hid hu
  have d3 := below_block hb C1.out
  have q3 := fun i => cell_block d3 i
  clear hb hu HAt q1
  go_wp2_with fail
  go_ret
  exact ⟨_, rfl, by rw [HD.out]; exact OwnAt.nil _, HB3.out⟩
set_option maxRecDepth 100000 in
set_option maxHeartbeats 3200000 in
theorem back4 (kd : Int) (pa fr : List Bs) (val x : JV) (s1 s2 s3 v : Value) (n : Nat) (w : World) (hs : StepAt w s1 s2 s3 ⟨kd, pa, fr, val⟩) (ok : JP.PSOK ⟨kd, pa, fr, val⟩ 1048576) (hj : JvAt n [] w v x) (hx : JP.Fit x) (hE : Env w) (hd : (JP.doP ⟨kd, pa, fr, val⟩ x).1 = 0) (hk : kd = 4) :
    Calls Tryz.prog 42 #[v, .agg #[.int .i64 kd, s1, s2, s3]] w (BackAt (JP.backP x ⟨kd, pa, fr, val⟩) w) := by
  subst hk
  obtain ⟨hs1, hs2, n3, hs3⟩ := hs
  have hs1 : StrAt w s1 (pa.map mkB) := hs1
  have hs2 : StrAt w s2 (fr.map mkB) := hs2
  obtain ⟨k1, k2, k3, k4, k5, k6, k7⟩ := ok
  dsimp only at k1 k2 k3 k4 k5 k6 k7
  obtain ⟨D, hD⟩ : ∃ D, JP.backP x ⟨4, pa, fr, val⟩ = D := ⟨_, rfl⟩
  rw [hD]
  unfold JP.backP at hD
  dsimp only at hD
  unfold JP.doP at hd
  dsimp only at hd
  obtain ⟨w2, hw⟩ : ∃ w2, w2 = w.alloc (.cells #[.int .i64 4, s1, s2, s3] 71) := ⟨_, rfl⟩
  have b1 : w2.heap[w.heap.size]? = some (.cells #[.int .i64 4, s1, s2, s3] 71 (0, 0)) := by rw [hw]; exact heap_alloc_new w _
  have hb2 : Below w.heap.size w w2 := by rw [hw]; exact (Below.refl _ w).alloc (Nat.le_refl _) _
  have HB2 := Lib.hid hb2
  have C1 := Lib.hid b1
  have HE := Lib.hid (hE.below hb2)
  have HS1 := Lib.hid (hs1.below hb2)
  have HS2 := Lib.hid (hs2.below hb2)
  have HJ := Lib.hid (hj.below hb2)
  have Hx := Lib.hid hx
  have Hz : Hid ((JP.text x).length ≤ 1000000) := Lib.hid (by have h9 : (JP.text x).length ≤ 2000 := hx.2.2.2; show _ ≤ _; omega)
  have HAt := Lib.hid (at_any HJ.out Hz.out HS1.out k1 (by omega) HE.out.1 HE.out.2.1)
  rw [if_neg (by decide), if_neg (by decide), if_neg (by decide), if_neg (by decide)] at hd
  unfold JP.carryP at hd
  dsimp only at hd
  rw [if_neg (by decide), if_neg (by decide), if_neg (by decide), if_pos rfl] at hD
  obtain ⟨a1, c1, e1, _⟩ := HS1.out.len
  obtain ⟨a2, c2, e2, _⟩ := HS2.out.len
  subst e1; subst e2
  simp only [List.length_map] at C1 HS1 HS2 HAt
  rw [List.length_map, List.length_map] at hw
  rw [List.length_map, List.length_map]
  have HQ := Lib.hid (fun (w3 : World) (hb : Below w2.heap.size w2 w3) => equalS_any (HS2.out.below hb) (HS1.out.below hb) (by rw [List.length_map]; omega) (by rw [List.length_map]; omega))
  rw [dec_mk] at HQ
  have HPt := Lib.hid (fun (w' : World) (hb : Below w2.heap.size w2 w') => point_any (HS2.out.below hb) k4 (by omega) (HE.out.below hb))
  have HAt2 := Lib.hid (fun (w' : World) (hb : Below w2.heap.size w2 w') => at_any (HJ.out.below hb) Hz.out (HS2.out.below hb) k2 (by omega) (HE.out.below hb).1 (HE.out.below hb).2.1)
  by_cases hfp : fr = pa
  · rw [if_pos hfp] at hD
    rw [decide_eq_true hfp] at HQ
    have HD := Lib.hid hD.symm
    obtain ⟨n1, hn1⟩ : ∃ n, pa.length = n := ⟨_, rfl⟩
    obtain ⟨n2, hn2⟩ : ∃ n, fr.length = n := ⟨_, rfl⟩
    rw [hn1, hn2] at HQ C1 hw
    rw [hn1] at HAt HS1
    rw [hn2] at HAt2 HS2 HPt
    rw [hn1, hn2]
    clear hfp hn1 hn2
    clear hb2 b1 hs1 hs2 hs3 hj hx hE k1 k2 k3 k4 k5 k6 k7 hd hD
    go_enter Tryz.func42, Tryz.ntmps42
    go_upto_region 1 with fail
    rw [← hw]
    clear hw
    have q1 := fun i => cell_block C1.out i
    go_wp2_with fail
    refine HAt.out.mono ?_
    rintro E w3 ⟨u, rfl, hu, hb⟩
    have HB3 := Lib.hid (HB2.out.trans (hb.mono HB2.out.size))
    have HB3r := Lib.hid hb
    have Hu := Lib.hid hu
    have d3 := below_block hb C1.out
    have q3 := fun i => cell_block d3 i
    clear hb hu HAt q1
    go_wp2_with fail
    refine (HQ.out w3 HB3r.out).mono ?_
    rintro E w4 ⟨rfl, hb⟩
    have HB4 := Lib.hid (HB3.out.trans (hb.mono HB3.out.size))
    clear hb q3 d3
    go_wp2_with fail
    go_ret
    exact ⟨_, rfl, by rw [HD.out]; exact OwnAt.nil _, HB4.out⟩
  · rw [if_neg hfp] at hD
    rw [decide_eq_false hfp] at HQ
    by_cases hb9 : (4 : Int) = 4 ∧ JP.beginsP fr pa = true
    · rw [if_pos hb9] at hd; cases hd
    rw [if_neg hb9] at hd
    obtain ⟨y, hy⟩ : ∃ y, JP.atW x fr = some y := by
      cases ha : JP.atW x fr with
      | none => rw [ha] at hd; cases hd
      | some y => exact ⟨y, rfl⟩
    rw [hy] at hd hD HAt2
    dsimp only at hd
    rw [if_pos rfl, if_neg hfp] at hd
    obtain ⟨rest, hrest⟩ : ∃ y, JP.cutW x fr = some y := by
      cases ha : JP.cutW x fr with
      | none => rw [ha] at hd; cases hd
      | some y => exact ⟨y, rfl⟩
    rw [hrest] at hd hD
    dsimp only at hd hD
    obtain ⟨u0, hu0⟩ := toI_some hd
    have hne : fr ≠ [] := fun e => by rw [e] at hrest; unfold JP.cutW at hrest; rw [JP.under] at hrest; cases hrest
    have HC := Lib.hid (fun (w3 : World) (hb : Below w2.heap.size w2 w3) => tcut_any (HJ.out.below hb) Hz.out (HS2.out.below hb) k2 (by omega) hne (HE.out.below hb).1 (HE.out.below hb).2.1)
    rw [hrest] at HC
    have frest := (JP.cutW_less hx hrest).1
    have HUn := Lib.hid (fun (kr : Nat) (vr : Value) (w' : World) (hjr : JvAt kr [] w' vr rest) (hb : Below w2.heap.size w2 w') => unput_any hjr frest (HS1.out.below hb) k3 k1 k6 (HE.out.below hb) (fun h => JP.ins_up (JP.fit_few frest) hu0 h))
    have huk := JP.unput_kind rest pa
    obtain ⟨⟨ok, op, of, ov⟩, hO⟩ : ∃ O, JP.unputP rest pa = O := ⟨_, rfl⟩
    rw [hO] at HUn hD huk
    unfold opV at HUn
    dsimp only at HUn huk
    have Hwf := Lib.hid (kind_wf huk)
    have hfw := JP.at_fit hx hy
    have Hzw : Hid ((JP.text y).length ≤ 4194304) := Lib.hid (by have h9 : (JP.text y).length ≤ 2000 := hfw.2.2.2; show _ ≤ _; omega)
    obtain ⟨J, hJ⟩ : ∃ J, joinK fr = J := ⟨_, rfl⟩
    obtain ⟨X, hX⟩ : ∃ X, JP.text y = X := ⟨_, rfl⟩
    have hD2 : D = [⟨ok, op, of, ov⟩, ⟨1, J, [], X⟩] := by rw [← hD, hJ]; show [_, (⟨_, _, _, JP.text y⟩ : JP.PO)] = _; rw [hX]
    rw [hJ] at HPt
    have HX := Lib.hid hX
    have HD := Lib.hid hD2
    obtain ⟨n1, hn1⟩ : ∃ n, pa.length = n := ⟨_, rfl⟩
    obtain ⟨n2, hn2⟩ : ∃ n, fr.length = n := ⟨_, rfl⟩
    rw [hn1, hn2] at HQ C1 hw
    rw [hn1] at HAt HS1 HUn
    rw [hn2] at HAt2 HS2 HPt HC
    rw [hn1, hn2]
    clear hfp hn1 hn2 hJ hX hfw hO hu0 huk hy hrest hne frest hD2 hb9
    clear hb2 b1 hs1 hs2 hs3 hj hx hE k1 k2 k3 k4 k5 k6 k7 hd hD
    go_enter Tryz.func42, Tryz.ntmps42
    go_upto_region 1 with fail
    rw [← hw]
    clear hw
    have q1 := fun i => cell_block C1.out i
    go_wp2_with fail
    refine HAt.out.mono ?_
    rintro E w3 ⟨u, rfl, hu, hb⟩
    have HB3 := Lib.hid (HB2.out.trans (hb.mono HB2.out.size))
    have HB3r := Lib.hid hb
    have Hu := Lib.hid hu
    have d3 := below_block hb C1.out
    have q3 := fun i => cell_block d3 i
    clear hb hu HAt q1
    go_wp2_with fail
    refine (HQ.out w3 HB3r.out).mono ?_
    rintro E w4 ⟨rfl, hb⟩
    have HB4 := Lib.hid (HB3.out.trans (hb.mono HB3.out.size))
    have HB4r := Lib.hid (HB3r.out.trans (hb.mono HB3r.out.size))
    have d4 := below_block hb d3
    have q4 := fun i => cell_block d4 i
    clear hb q3 d3
    go_wp2_with fail
    refine (HAt2.out w4 HB4r.out).mono ?_
    rintro E w5 ⟨uy, rfl, hu, hb⟩
    obtain ⟨ky, hjy⟩ := hu y rfl
    have Hjy := Lib.hid hjy
    have HB5 := Lib.hid (HB4.out.trans (hb.mono HB4.out.size))
    have HB5r := Lib.hid (HB4r.out.trans (hb.mono HB4r.out.size))
    have d5 := below_block hb d4
    have q5 := fun i => cell_block d5 i
    clear hb hu hjy q4 d4
    go_wp2_with fail
    refine (HC.out w5 HB5r.out).mono ?_
    rintro E w6 ⟨ur, rfl, hz, hb⟩
    obtain ⟨kr, hjr⟩ := hz rest rfl
    have Hjr := Lib.hid hjr
    have Hjy6 := Lib.hid (Hjy.out.below hb)
    have HB6 := Lib.hid (HB5.out.trans (hb.mono HB5.out.size))
    have HB6r := Lib.hid (HB5r.out.trans (hb.mono HB5r.out.size))
    have D6 := Lib.hid (below_block hb d5)
    clear hb hz hjr q5 d5
    go_upto_region 15 with fail
    have hlt6 : w.heap.size < w6.heap.size := blk_lt D6.out
    refine wp_region_relB 10 (fun ii U w' => match ii with
      | 0 => U 0 = ur | 1 => U 1 = .pointer (some ⟨w.heap.size, 1, none⟩) | 2 => U 2 = .slice a1 n1 c1
      | 3 => U 3 = .agg #[.int .i64 ok, .string (mkB op), .string (mkB of), .string (mkB ov)]
      | 4 => U 4 = .pointer (some ⟨w.heap.size, 2, none⟩) | 5 => U 5 = .slice a2 n2 c2 | 6 => U 6 = .string (mkB J)
      | 7 => U 7 = uy | 8 => U 8 = .string (mkB X) | 9 => U 9 = .agg #[.int .i64 1, .string (mkB J), .string ⟨#[]⟩, .string (mkB X)]
      | _ => True)
      (fun | 2 => [1] | 3 => [0, 2] | 5 => [4] | 6 => [5] | 8 => [7] | 9 => [6, 8] | _ => []) (by kernel_rfl) (by kernel_rfl) ?_ ⟨?_, ?_, ?_, ?_, ?_, ?_, ?_, ?_, ?_, ?_, trivial⟩ ?_
    · intro jj U wa wb hb h
      match jj, h with
      | 0, h => exact h
      | 1, h => exact h
      | 2, h => exact h
      | 3, h => exact h
      | 4, h => exact h
      | 5, h => exact h
      | 6, h => exact h
      | 7, h => exact h
      | 8, h => exact h
      | 9, h => exact h
      | _ + 10, h => trivial
    · intro y' w' hb hd
      refine owes_here ur (by rfl) ?_ rfl
      simp only [putAll, List.take_succ_cons, List.take_zero]
      go_simp
    · intro y' w' hb hd
      refine owes_here (.pointer (some ⟨w.heap.size, 1, none⟩)) (by rfl) ?_ rfl
      simp only [putAll, List.take_succ_cons, List.take_zero]
      go_simp
    · intro y' w' hb hd
      have h1 : y' 1 = .pointer (some ⟨w.heap.size, 1, none⟩) := hd 1 (by simp)
      have d9 := (hb.block w.heap.size (by show w.heap.size < w6.heap.size; exact hlt6)).trans D6.out
      have e9 := cell_block d9 1
      clear d9
      refine owes_here (.slice a1 n1 c1) (by rfl) ?_ rfl
      simp only [putAll, List.take_succ_cons, List.take_zero]
      go_simp
    · intro y' w' hb hd
      have h0 : y' 0 = ur := hd 0 (by simp)
      have h2 : y' 2 = .slice a1 n1 c1 := hd 2 (by simp)
      have hb6 : Below w6.heap.size w6 w' := (Below.refl w6.heap.size w6).drew.trans hb
      refine owes_call 68 #[ur, .slice a1 n1 c1] (by rfl) ?_ ((HUn.out kr ur w' (Hjr.out.below hb6) (HB6r.out.trans (hb6.mono HB6r.out.size))).mono ?_)
      · simp only [putAll, List.take_succ_cons, List.take_zero]
        go_simp
      · rintro _ w7 ⟨rfl, hb7⟩
        exact ⟨_, rfl, rfl, hb7⟩
    · intro y' w' hb hd
      refine owes_here (.pointer (some ⟨w.heap.size, 2, none⟩)) (by rfl) ?_ rfl
      simp only [putAll, List.take_succ_cons, List.take_zero]
      go_simp
    · intro y' w' hb hd
      have h4 : y' 4 = .pointer (some ⟨w.heap.size, 2, none⟩) := hd 4 (by simp)
      have d9 := (hb.block w.heap.size (by show w.heap.size < w6.heap.size; exact hlt6)).trans D6.out
      have e9 := cell_block d9 2
      clear d9
      refine owes_here (.slice a2 n2 c2) (by rfl) ?_ rfl
      simp only [putAll, List.take_succ_cons, List.take_zero]
      go_simp
    · intro y' w' hb hd
      have h5 : y' 5 = .slice a2 n2 c2 := hd 5 (by simp)
      have hb6 : Below w6.heap.size w6 w' := (Below.refl w6.heap.size w6).drew.trans hb
      refine owes_call 69 #[.slice a2 n2 c2] (by rfl) ?_ ((HPt.out w' (HB6r.out.trans (hb6.mono HB6r.out.size))).mono ?_)
      · simp only [putAll, List.take_succ_cons, List.take_zero]
        go_simp
      · rintro _ w7 ⟨rfl, hb7⟩
        exact ⟨_, rfl, rfl, hb7⟩
    · intro y' w' hb hd
      refine owes_here uy (by rfl) ?_ rfl
      simp only [putAll, List.take_succ_cons, List.take_zero]
      go_simp
    · intro y' w' hb hd
      have h7 : y' 7 = uy := hd 7 (by simp)
      have hb6 : Below w6.heap.size w6 w' := (Below.refl w6.heap.size w6).drew.trans hb
      have HTx := text_any ky uy y w' (Hjy6.out.below hb6) Hzw.out (HE.out.1.below (HB6r.out.trans (hb6.mono HB6r.out.size)))
      rw [HX.out] at HTx
      refine owes_call 26 #[uy] (by rfl) ?_ (HTx.mono ?_)
      · simp only [putAll, List.take_succ_cons, List.take_zero]
        go_simp
      · rintro _ w7 ⟨rfl, hb7⟩
        exact ⟨_, rfl, rfl, hb7⟩
    · intro y' w' hb hd
      have h6 : y' 6 = .string (mkB J) := hd 6 (by simp)
      have h8 : y' 8 = .string (mkB X) := hd 8 (by simp)
      refine owes_here (.agg #[.int .i64 1, .string (mkB J), .string ⟨#[]⟩, .string (mkB X)]) (by rfl) ?_ rfl
      simp only [putAll, List.take_succ_cons, List.take_zero]
      go_simp
    · intro y' w' hb hR
      have h3 : y' 3 = .agg #[.int .i64 ok, .string (mkB op), .string (mkB of), .string (mkB ov)] := hR 3 (by omega)
      have h9 : y' 9 = .agg #[.int .i64 1, .string (mkB J), .string ⟨#[]⟩, .string (mkB X)] := hR 9 (by omega)
      have HB9 := Lib.hid (HB6.out.trans ((show Below w6.heap.size w6 w' from (Below.refl w6.heap.size w6).drew.trans hb).mono HB6.out.size))
      clear hR hb
      simp only [putAll, List.take_succ_cons, List.take_zero, List.drop_succ_cons, List.drop_zero]
      rw [h3, h9]
      clear h3 h9
      try simp only [Act.put, List.setIfInBounds_toArray, List.set_cons_zero, List.set_cons_succ]
      go_wp2_with fail
      go_ret
      refine ⟨_, rfl, ?_, HB9.out.alloc HB9.out.size _⟩
      rw [HD.out]
      exact own_ops (L := [ofPO ⟨ok, op, of, ov⟩, ofPO ⟨1, J, [], X⟩]) (heap_alloc_new w' _) HB9.out.size (fun g hg => by
        rcases List.mem_cons.1 hg with rfl | hg
        · exact Hwf.out
        · rw [List.mem_singleton.1 hg]; show (Lit.int .i64 1).wf = true; decide) (by show 2 ≤ 1000; decide)
theorem back_any (kd : Int) (pa fr : List Bs) (val x : JV) (s1 s2 s3 v : Value) (n : Nat) (w : World) (hs : StepAt w s1 s2 s3 ⟨kd, pa, fr, val⟩) (ok : JP.PSOK ⟨kd, pa, fr, val⟩ 1048576) (hj : JvAt n [] w v x) (hx : JP.Fit x) (hE : Env w) (hd : (JP.doP ⟨kd, pa, fr, val⟩ x).1 = 0) (hk : 1 ≤ kd ∧ kd ≤ 6) :
    Calls Tryz.prog 42 #[v, .agg #[.int .i64 kd, s1, s2, s3]] w (BackAt (JP.backP x ⟨kd, pa, fr, val⟩) w) := by
  have : kd = 1 ∨ kd = 2 ∨ kd = 3 ∨ kd = 4 ∨ kd = 5 ∨ kd = 6 := by omega
  rcases this with h | h | h | h | h | h
  · exact back1 kd pa fr val x s1 s2 s3 v n w hs ok hj hx hE hd h
  · exact back2 kd pa fr val x s1 s2 s3 v n w hs ok hj hx hE hd h
  · exact back3 kd pa fr val x s1 s2 s3 v n w hs ok hj hx hE hd h
  · exact back4 kd pa fr val x s1 s2 s3 v n w hs ok hj hx hE hd h
  · exact back5 kd pa fr val x s1 s2 s3 v n w hs ok hj hx hE hd h
  · exact back6 kd pa fr val x s1 s2 s3 v n w hs ok hj hx hE hd h
end Go.Proofs.YtlcongehmjiabaaGreatDoor
/- patch.Invert: its contract. -/
namespace Go.Proofs.YtlcongehmjiabaaGreatDoor
open Go.RowKit
open JP (JV Bs)

/-- a value looks into no block that holds one slice -/
theorem jv_off {g : Nat} {a : Option Addr} {k c : Nat} {t : TypeId} {fr : Nat × Nat} {w : World} (hg : w.heap[g]? = some (.cells #[.slice a k c] t fr)) : ∀ {n : Nat} {v : Value} {x : JV}, JvAt n [] w v x → JvAt n [g] w v x
  | 0, _, _, h => by cases h
  | n + 1, v, .nul, h => h
  | n + 1, v, .bool b, h => h
  | n + 1, v, .num b, h => h
  | n + 1, v, .str b, h => h
  | n + 1, v, .list l, h => by
    obtain ⟨u, h1, h2, h3⟩ := h
    refine ⟨u, h1, h2.mapR (fun cs x ⟨v, e, hv⟩ => ⟨v, e, jv_off hg hv⟩), fun hl b hb hm => ?_⟩
    obtain rfl := List.mem_singleton.1 hm
    obtain ⟨b', o, c', rfl, _, _, _, hcell⟩ := h2.form (List.length_pos_iff.2 hl) (by decide)
    have : b' = b := by simpa [Value.ownBlock] using hb
    subst this
    obtain ⟨y, hy⟩ : ∃ y, l[0]? = some y := ⟨l[0]'(List.length_pos_iff.2 hl), List.getElem?_eq_getElem _⟩
    obtain ⟨cs, _, hcc, v0, rfl, hv0⟩ := hcell 0 y hy
    have h9 := hcc 0 _ rfl
    rw [cell_block hg] at h9
    have : v0 = .slice a k c := by
      have h8 := List.mem_of_getElem? (l := [Value.slice a k c]) (by simpa using h9)
      exact List.mem_singleton.1 h8
    subst this
    rcases jv_form hv0 with h | ⟨t, u, h⟩ <;> cases h
  | n + 1, v, .obj l, h => by
    obtain ⟨q, h1, h2, h3, vn, vv, h4, h5, h6, h7, h8, h9⟩ := h
    have hq : q ≠ g := fun e => by
      subst e
      rw [cell_block hg] at h5
      simp at h5
    refine ⟨q, h1, fun hm => hq (List.mem_singleton.1 hm), h3, vn, vv, h4, h5, h6, fun hl b hb hm => ?_, h8.mapR (fun cs x ⟨v, e, hv⟩ => ⟨v, e, jv_off hg hv⟩), fun hl b hb hm => ?_⟩
    · obtain rfl := List.mem_singleton.1 hm
      exact off_str (RowAt.strs h6) hg (by intro i s; rcases i with _ | i <;> simp) (fun e => hl (List.map_eq_nil_iff.1 e)) b hb (List.mem_singleton.2 rfl)
    · obtain rfl := List.mem_singleton.1 hm
      obtain ⟨b', o, c', rfl, _, _, _, hcell⟩ := h8.form (by rw [List.length_map]; exact List.length_pos_iff.2 hl) (by decide)
      have : b' = b := by simpa [Value.ownBlock] using hb
      subst this
      obtain ⟨y, hy⟩ : ∃ y, (l.map (·.2))[0]? = some y := ⟨(l.map (·.2))[0]'(by rw [List.length_map]; exact List.length_pos_iff.2 hl), List.getElem?_eq_getElem _⟩
      obtain ⟨cs, _, hcc, v0, rfl, hv0⟩ := hcell 0 y hy
      have h9 := hcc 0 _ rfl
      rw [cell_block hg] at h9
      have : v0 = .slice a k c := by
        have h8 := List.mem_of_getElem? (l := [Value.slice a k c]) (by simpa using h9)
        exact List.mem_singleton.1 h8
      subst this
      rcases jv_form hv0 with h | ⟨t, u, h⟩ <;> cases h
/-- what was seen, turned -/
def JP.outP (d : List (JV × JP.PS)) (out : List JP.PO) : List JP.PO := d.foldl (fun out y => JP.backP y.1 y.2 ++ out) out
theorem JP.outP_snoc (d : List (JV × JP.PS)) (y : JV × JP.PS) (out : List JP.PO) : JP.outP (d ++ [y]) out = JP.backP y.1 y.2 ++ JP.outP d out := by unfold JP.outP; rw [List.foldl_append]; rfl
theorem JP.bk_seen : ∀ (ops : List JP.PO) (v : JV) (out : List JP.PO), JP.bkP ops v out = JP.outP (JP.seenP ops v) out
  | [], v, out => rfl
  | o :: r, v, out => by
    rw [JP.bkP, JP.seenP]
    by_cases h : (JP.stepP o v).1 = 0
    · rw [if_pos h, if_pos h, JP.bk_seen r]; rfl
    · rw [if_neg h, if_neg h]; rfl
/-- what the steps back lie in -/
def OutAt (g : Nat) (d : List (JV × JP.PS)) (w : World) : Prop :=
  ∃ ov, w.heap[g]? = some (.cells #[ov] 37 (0, 0)) ∧ OwnAt OpR 4 w (g + 1) 41 ov ((JP.outP d []).map ofPO)
theorem JP.outP_len (d : List (JV × JP.PS)) : (JP.outP d []).length ≤ 2 * d.length := by
  suffices h : ∀ (d : List (JV × JP.PS)) (out : List JP.PO), (JP.outP d out).length ≤ 2 * d.length + out.length by have := h d []; simpa using this
  intro d
  induction d with
  | nil => intro out; exact Nat.le_add_left ..
  | cons y r ih =>
    intro out
    have h1 := ih (JP.backP y.1 y.2 ++ out)
    have h2 := JP.backP_len y.1 y.2
    rw [List.length_append] at h1
    rw [List.length_cons]
    show (JP.outP r (JP.backP y.1 y.2 ++ out)).length ≤ _
    omega
set_option maxRecDepth 100000 in
set_option maxHeartbeats 3200000 in
theorem sees_back (w0 : World) (hE : Env w0) : Sees 41 #[.pointer (some ⟨w0.heap.size, 0, none⟩)] [w0.heap.size] (OutAt w0.heap.size) w0 := by
  intro d x kd pa fr val vx s1 s2 s3 n w hI hj hx hs ok hk hd hb0 hdl
  obtain ⟨ov, hg, hown⟩ := hI
  obtain ⟨g, hgg⟩ : ∃ g, w0.heap.size = g := ⟨_, rfl⟩
  rw [hgg] at hg hown ⊢
  obtain ⟨os1, os2, os3⟩ : s1.oneCell' = true ∧ s2.oneCell' = true ∧ s3.oneCell' = true := by
    obtain ⟨p1, p2, n3, p3⟩ := hs
    exact ⟨str_one p1, str_one p2, jv_cell p3⟩
  have hlb := JP.backP_len x ⟨kd, pa, fr, val⟩
  have hlo := JP.outP_len d
  obtain ⟨bk, hbk⟩ : ∃ b, (JP.backP x ⟨kd, pa, fr, val⟩).map ofPO = b := ⟨_, rfl⟩
  obtain ⟨ou, hou⟩ : ∃ b, (JP.outP d []).map ofPO = b := ⟨_, rfl⟩
  have lbk : bk.length ≤ 2 := by rw [← hbk, List.length_map]; exact hlb
  have lou : ou.length ≤ 80 := by rw [← hou, List.length_map]; omega
  have hnew : (JP.outP (d ++ [(x, ⟨kd, pa, fr, val⟩)]) []).map ofPO = bk ++ ou := by rw [JP.outP_snoc, List.map_append, hbk, hou]
  rw [hou] at hown
  obtain ⟨ao, co, e1, _⟩ := hown.row.len
  obtain ⟨lo, hlo9⟩ : ∃ n, ou.length = n := ⟨_, rfl⟩
  rw [hlo9] at e1
  subst e1
  have hgw : g < w.heap.size := blk_lt hg
  obtain ⟨w2, hw⟩ : ∃ w2, w2 = w.alloc (.cells #[.int .i64 kd, s1, s2, s3] 71) := ⟨_, rfl⟩
  have hb2 : Below w.heap.size w w2 := by rw [hw]; exact (Below.refl _ w).alloc (Nat.le_refl _) _
  have b1 : w2.heap[w.heap.size]? = some (.cells #[.int .i64 kd, s1, s2, s3] 71 (0, 0)) := by rw [hw]; exact heap_alloc_new w _
  have hE2 : ∀ w', Below w2.heap.size w2 w' → Env w' := fun w' h => hE.below (hb0.trans ((hb2.trans (h.mono hb2.size)).mono hb0.size))
  have HBk := Lib.hid (fun (w' : World) (h : Below w2.heap.size w2 w') => back_any kd pa fr val x s1 s2 s3 vx n w' (by
    obtain ⟨p1, p2, n3, p3⟩ := hs
    exact ⟨(p1.below hb2).below h, (p2.below hb2).below h, n3, (p3.below hb2).below h⟩) ok ((hj.below hb2).below h) hx (hE2 w' h) hd hk)
  unfold BackAt at HBk
  rw [hbk] at HBk
  have C1 := Lib.hid b1
  have G2 := Lib.hid (below_block hb2 hg)
  have HOw := Lib.hid (hown.below flat_op.stays hb2)
  have Hb2 := Lib.hid hb2
  have Hb0 := Lib.hid hb0
  have Hnew := Lib.hid hnew
  have Hgg := Lib.hid hgg
  have hlt2 : w.heap.size < w2.heap.size := blk_lt b1
  have Hlo := Lib.hid hlo9
  obtain ⟨i0, hi0, hz0, hz1, hz2⟩ := info_parts Tryz.infoOp
  show Calls Tryz.prog 41 #[vx, .agg #[.int .i64 kd, s1, s2, s3], .pointer (some ⟨g, 0, none⟩)] w _
  clear hg hown hj hx hs ok hk hd hb0 hdl hbk hou hlb hlo hnew hb2 b1 hE2 hE hgg hlo9
  go_enter Tryz.func41, Tryz.ntmps41
  go_upto_region 1 with fail
  rw [← hw]
  clear hw
  refine wp_region_relB 4 (fun ii U w' => match ii with
    | 0 => U 0 = vx | 1 => U 1 = .agg #[.int .i64 kd, s1, s2, s3]
    | 2 => OwnAt OpR 4 w' w2.heap.size 41 (U 2) bk
    | 3 => U 3 = .slice ao lo co
    | _ => True)
    (fun | 2 => [0, 1] | _ => []) (by kernel_rfl) (by kernel_rfl) ?_ ⟨?_, ?_, ?_, ?_, trivial⟩ ?_
  · intro jj U wa wb hb h
    match jj, h with
    | 0, h => exact h
    | 1, h => exact h
    | 2, h => exact OwnAt.below flat_op.stays h hb
    | 3, h => exact h
    | _ + 4, h => trivial
  · intro y' w' hb hd
    refine owes_here vx (by rfl) ?_ rfl
    simp only [putAll, List.take_succ_cons, List.take_zero]
    go_simp
  · intro y' w' hb hd
    have d9 := (hb.block w.heap.size (by show w.heap.size < w2.heap.size; exact hlt2)).trans C1.out
    have e9 := fun i => cell_block d9 i
    clear d9
    refine owes_here (.agg #[.int .i64 kd, s1, s2, s3]) (by rfl) ?_ rfl
    simp only [putAll, List.take_succ_cons, List.take_zero]
    go_simp
  · intro y' w' hb hd
    have h0 : y' 0 = vx := hd 0 (by simp)
    have h1 : y' 1 = .agg #[.int .i64 kd, s1, s2, s3] := hd 1 (by simp)
    have hb6 : Below w2.heap.size w2 w' := (Below.refl w2.heap.size w2).drew.trans hb
    refine owes_call 42 #[vx, .agg #[.int .i64 kd, s1, s2, s3]] (by rfl) ?_ ((HBk.out w' hb6).mono ?_)
    · simp only [putAll, List.take_succ_cons, List.take_zero]
      go_simp
    · rintro _ w7 ⟨v7, rfl, ho, hb7⟩
      exact ⟨_, rfl, ho.mono hb6.size, hb7⟩
  · intro y' w' hb hd
    have d9 := (hb.block g (by show g < w2.heap.size; omega)).trans G2.out
    have e9 := cell_block d9 0
    clear d9
    refine owes_here (.slice ao lo co) (by rfl) ?_ rfl
    simp only [putAll, List.take_succ_cons, List.take_zero]
    go_simp
  · intro y' w' hb hR
    have h2 : OwnAt OpR 4 w' w2.heap.size 41 (y' 2) bk := hR 2 (by omega)
    have h3 : y' 3 = .slice ao lo co := hR 3 (by omega)
    have hb6 : Below w2.heap.size w2 w' := (Below.refl w2.heap.size w2).drew.trans hb
    have H2 := Lib.hid h2
    have H3 := Lib.hid (HOw.out.row.below stays_op hb6)
    have Hb6 := Lib.hid hb6
    have G6 := Lib.hid (below_block hb6 G2.out)
    clear hR h2 hb hb6
    simp only [putAll, List.take_succ_cons, List.take_zero, List.drop_succ_cons, List.drop_zero]
    rw [h3]
    clear h3
    try simp only [Act.put, List.setIfInBounds_toArray, List.set_cons_zero, List.set_cons_succ]
    refine wpList_append_ownAt (R := OpR) (k := 4) (e := 41) (B := w2.heap.size) (l := bk) (m := ou) _ (by rfl) _ _ _ (by rfl) i0 _ 56 Tryz.underlying37 hi0 hz0 hz1 hz2 rfl (by omega) flat_op oneR_op _ (by rfl) H2.out _ (by rfl) H3.out (by unfold maxLen; omega) (by omega) Hb6.out.size ?_
    intro v8 w8 hv8 hg8 hr8 _
    have hb8 : Below w2.heap.size w2 w8 := below_of_grown Hb6.out Hb6.out.size hg8 hr8
    have g8 : w8.heap[g]? = some (.cells #[.slice ao lo co] 37 (0, 0)) := below_block hb8 G2.out
    obtain ⟨a8, c8, e8, _⟩ := hv8.row.len
    obtain ⟨n8, hn8⟩ : ∃ n, (bk ++ ou).length = n := ⟨_, rfl⟩
    rw [hn8] at e8
    subst e8
    obtain ⟨W, hW⟩ : ∃ W, W = w8.setCell ⟨g, 0, none⟩ (.slice a8 n8 c8) := ⟨_, rfl⟩
    obtain ⟨t1, t2⟩ := touch_setCell (i := 0) (v := .slice a8 n8 c8) g8
    rw [← hW] at t1 t2
    have HG := Lib.hid (show W.heap[g]? = some (.cells #[.slice a8 n8 c8] 37 (0, 0)) from t1)
    have HV := Lib.hid ((hv8.touchLow flat_op t2 (by omega)).mono (show g + 1 ≤ w2.heap.size by omega))
    have hbw8 : Below w.heap.size w w8 := Hb2.out.trans (hb8.mono Hb2.out.size)
    have HK : Hid (KeepT [g] w W) := Lib.hid ((KeepT.of hbw8).trans (KeepT.but (But.touch t2) (List.mem_singleton.2 rfl)))
    have HB := Lib.hid (t2.below (Hb0.out.trans (hbw8.mono Hb0.out.size)) (by rw [Hgg.out]; exact Nat.le_refl _))
    have q1 := cell_block g8 0
    have z1 := free_block g8 0
    clear t1 t2 hv8 hg8 hr8 hb8 g8 hbw8 hn8 H2 H3
    try simp only [Act.put, List.setIfInBounds_toArray, List.set_cons_zero, List.set_cons_succ]
    go_wp2_with fail
    rw [← hW]
    go_end0
    exact ⟨rfl, ⟨_, HG.out, by rw [Hnew.out]; exact HV.out⟩, HK.out, by have h9 := HB.out; rw [Hgg.out] at h9; exact h9⟩
/-- what 'Invert' tells -/
def InvAt (d : Bs) (ops : List JP.PO) (w : World) (e : Ending) (w' : World) : Prop :=
  ∃ v', e = .returned (.tuple #[v', .int .i64 (JP.applyE d ops)]) ∧ RowAt OpR 4 w' v' ((JP.invL d ops).map ofPO) ∧ Below w.heap.size w w'
theorem JP.invL_len (d : Bs) (ops : List JP.PO) (h : ops.length ≤ 1000) : (JP.invL d ops).length ≤ 2000 := by
  unfold JP.invL
  by_cases h0 : JP.applyE d ops = 0
  · obtain ⟨x, h1, h2, h3, h4, h5⟩ := JP.runO_ok h0
    rw [if_pos h0, h1]
    obtain ⟨m, m1, m2, _⟩ := JP.bk_runs (i := 0) [] 0 h4 h3
    rw [m2, List.length_nil]; omega
  · rw [if_neg h0]; exact Nat.zero_le _
set_option maxRecDepth 100000 in
set_option maxHeartbeats 3200000 in
theorem invert_any (d : ByteArray) (ov : Value) (L : List GOp) (w : World) (hd : d.size ≤ 1048576) (hL : RowAt OpR 4 w ov L) (hll : L.length ≤ 1048576) (hok : ∀ g ∈ L, OpOK g) (hE : Env w) :
    Calls Tryz.prog 23 #[.string d, ov] w (InvAt d.data.toList (L.map toPO) w) := by
  obtain ⟨g, hg⟩ : ∃ g, w.heap.size = g := ⟨_, rfl⟩
  have hsee := sees_back w hE
  obtain ⟨w1, hw⟩ : ∃ w1, w1 = w.alloc (.cells #[.slice none 0 0] 37) := ⟨_, rfl⟩
  have hb1 : Below w.heap.size w w1 := by rw [hw]; exact (Below.refl _ w).alloc (Nat.le_refl _) _
  have hbox : w1.heap[w.heap.size]? = some (.cells #[.slice none 0 0] 37 (0, 0)) := by rw [hw]; exact heap_alloc_new w _
  have hI1 : OutAt w.heap.size [] w1 := ⟨_, hbox, OwnAt.nil _⟩
  have HRn := Lib.hid (fun enter => run1_any (f := 41) (cap := .pointer (some ⟨w.heap.size, 0, none⟩)) (G := [w.heap.size]) (I := OutAt w.heap.size) (w0 := w) enter (fun d w w' h hb => by
      obtain ⟨o, h1, h2⟩ := h
      exact ⟨o, below_block hb h1, h2.below flat_op.stays hb⟩) (fun b h => by rw [List.mem_singleton.1 h]; exact Nat.le_refl _) (fun d w n v x h hj => by
      obtain ⟨o, h1, h2⟩ := h
      obtain ⟨a, c, e, _⟩ := h2.row.len
      subst e
      exact jv_off h1 hj) hsee d ov L w1 hd hb1 hL hll hok hE hI1)
  have HEn := Lib.hid hE.1
  obtain ⟨ao, co, e1, _⟩ := hL.len
  subst e1
  obtain ⟨ln, hln⟩ : ∃ ln, L.length = ln := ⟨_, rfl⟩
  rw [hln] at HRn ⊢
  obtain ⟨r1, r2, r3, hR⟩ : ∃ a b c, JP.runO d.data.toList (L.map toPO) = (a, b, c) := ⟨_, _, _, rfl⟩
  have hE2 : JP.applyE d.data.toList (L.map toPO) = r1 := by unfold JP.applyE; rw [hR]
  have hinv : JP.invL d.data.toList (L.map toPO) = if r1 = 0 then JP.outP (JP.seenP (L.map toPO) (JP.readL d.data.toList).1) [] else [] := by unfold JP.invL; rw [hE2, JP.bk_seen]
  rw [hR] at HRn
  unfold InvAt
  rw [hE2, hinv]
  obtain ⟨S, hS⟩ : ∃ S, JP.seenP (L.map toPO) (JP.readL d.data.toList).1 = S := ⟨_, rfl⟩
  rw [hS] at HRn ⊢
  rw [hg] at HRn ⊢
  have Hg := Lib.hid hg
  have Hb1 := Lib.hid hb1
  have ep : ∀ (a : Array Value) (w : World), (callFunc 41 a).run Tryz.prog w = .ok (.enter 41 a) w := fun a w => by kernel_rfl
  have HRn2 := Lib.hid (HRn.out ep)
  clear ep HRn hR hE2 hinv hS hL hok hE hd hll hln hsee hI1 hbox hb1
  go_enter Tryz.func23, Tryz.ntmps23
  go_upto_region 2 with fail
  rw [← hw]
  clear hw hg
  go_wp2_with fail
  refine HRn2.out.mono ?_
  rintro E w2 ⟨u, rfl, hu, hb⟩
  have HB : Hid (Below g w w2) := Lib.hid (by have h9 := hb; rw [Hg.out] at h9; exact h9)
  by_cases he : r1 = 0
  · subst he
    obtain ⟨_, o, h1, h2⟩ := hu rfl
    obtain ⟨a, c, e, _⟩ := h2.row.len
    have HRow := Lib.hid h2.row
    obtain ⟨no, hno⟩ : ∃ n, (List.map ofPO (JP.outP S [])).length = n := ⟨_, rfl⟩
    rw [hno] at e
    subst e
    have q1 := cell_block h1 0
    clear hu hb h1 h2 hno HRn2
    go_wp2_with fail
    go_ret2
    exact ⟨_, rfl, HRow.out, HB.out⟩
  · have n0 : (r1 != 0) = true := by rw [bne_iff_ne]; exact he
    have Hne := Lib.hid he
    clear hu hb he HRn2
    go_wp2_with fail
    go_ret2
    exact ⟨_, rfl, .inl ⟨rfl, rfl⟩, HB.out⟩
end Go.Proofs.YtlcongehmjiabaaGreatDoor
/- patch: how long the steps back are. -/
namespace Go.Proofs.YtlcongehmjiabaaGreatDoor
open Go.RowKit
open JP (JV Bs)

namespace JP
theorem itoa_few : ∀ n : Nat, n < 201 → (Lib.itoa (n : Int)).length ≤ 3 := by decide +kernel
theorem len_size (l : List JV) : l.length ≤ sizeL l := by
  induction l with
  | nil => exact Nat.le_refl _
  | cons v r ih => have := size_pos v; rw [sizeL, List.length_cons]; omega
theorem joinK_snoc (l : List Bs) (s : Bs) : (joinK (l ++ [s])).length = (joinK l).length + 1 + (escS s).length := by
  unfold joinK
  rw [List.flatMap_append, List.length_append]
  simp
  omega
/-- how long a step back may be -/
def Short (M : Nat) (o : PO) : Prop := o.path.length ≤ M + 5 ∧ o.frm.length ≤ 5 ∧ o.val.length ≤ 2000
theorem unput_short {M : Nat} {x : JV} {l : List Bs} (hx : Fit x) (hl : (joinK l).length ≤ M) : Short M (unputP x l) := by
  have hx2 := hx.2.2.2
  unfold unputP
  split
  · exact ⟨Nat.zero_le _, Nat.zero_le _, hx2⟩
  · split
    · rename_i ls hls
      refine ⟨?_, Nat.zero_le _, Nat.zero_le _⟩
      show (joinK _).length ≤ _
      split
      · rename_i hg
        obtain ⟨r, rfl⟩ := List.getLast?_eq_some_iff.1 hg
        rw [List.dropLast_concat] at hls ⊢
        have hf := at_fit hx hls
        have h1 : ls.length ≤ 200 := by have h9 : size (.list ls) ≤ 200 := hf.2.1; rw [size] at h9; have := len_size ls; omega
        have h2 := itoa_few ls.length (by omega)
        have h3 := esc_len (Lib.itoa (ls.length : Int))
        rw [joinK_snoc] at hl ⊢
        have h4 : 1 ≤ (escS [45]).length := by rw [escS_eq]; decide
        omega
      · omega
    · split
      · rename_i was hw
        exact ⟨by show (joinK l).length ≤ _; omega, Nat.zero_le _, (at_fit hx hw).2.2.2⟩
      · exact ⟨by show (joinK l).length ≤ _; omega, Nat.zero_le _, Nat.zero_le _⟩
theorem textO_short {x : JV} {l : List Bs} (hx : Fit x) : (textO (atW x l)).length ≤ 2000 := by
  cases h : atW x l with
  | none => exact fit_nul.2.2.2
  | some y => exact (at_fit hx h).2.2.2
theorem back_short {M : Nat} {s : PS} {v : JV} (hv : Fit v) (hp : (joinK s.path).length ≤ M) (hf : (joinK s.frm).length ≤ M) : ∀ o ∈ backP v s, Short M o := by
  intro o ho
  unfold backP at ho
  split at ho
  · rw [List.mem_singleton.1 ho]; exact unput_short hv hp
  · split at ho
    · rw [List.mem_singleton.1 ho]; exact ⟨by show (joinK s.path).length ≤ _; omega, Nat.zero_le _, textO_short hv⟩
    · split at ho
      · rw [List.mem_singleton.1 ho]; exact ⟨by show (joinK s.path).length ≤ _; omega, Nat.zero_le _, textO_short hv⟩
      · split at ho
        · split at ho
          · cases ho
          · split at ho
            · rename_i rest hr
              rcases List.mem_cons.1 ho with rfl | ho
              · exact unput_short (cutW_less hv hr).1 hp
              · rw [List.mem_singleton.1 ho]; exact ⟨by show (joinK s.frm).length ≤ _; omega, Nat.zero_le _, textO_short hv⟩
            · cases ho
        · cases ho
theorem read_short {o : PO} {M : Nat} (h : (readO o).1 = 0) (hp : o.path.length ≤ M) (hf : o.frm.length ≤ M) : (joinK (readO o).2.path).length ≤ M ∧ (joinK (readO o).2.frm).length ≤ M := by
  unfold readO at h ⊢
  by_cases h0 : o.kind < 1 ∨ 6 < o.kind
  · rw [if_pos h0] at h; cases h
  rw [if_neg h0] at h ⊢
  by_cases h1 : (stepsP o.path).1 ≠ 0
  · rw [if_pos h1] at h; exact absurd h h1
  rw [if_neg h1] at h ⊢
  have hs : stepsP o.path = (0, (stepsP o.path).2) := Prod.ext (by simpa using h1) rfl
  have m1 := (join_steps hs).1
  by_cases h2 : o.kind = 4 ∨ o.kind = 5
  · rw [if_pos h2] at h ⊢
    have hs2 : stepsP o.frm = (0, (stepsP o.frm).2) := Prod.ext h rfl
    exact ⟨by show (joinK (stepsP o.path).2).length ≤ M; rw [m1]; exact hp, by show (joinK (stepsP o.frm).2).length ≤ M; rw [(join_steps hs2).1]; exact hf⟩
  rw [if_neg h2] at h ⊢
  by_cases h3 : o.kind = 2
  · rw [if_pos h3] at h ⊢
    exact ⟨by show (joinK (stepsP o.path).2).length ≤ M; rw [m1]; exact hp, Nat.zero_le _⟩
  rw [if_neg h3] at h ⊢
  exact ⟨by show (joinK (stepsP o.path).2).length ≤ M; rw [m1]; exact hp, Nat.zero_le _⟩
theorem step_read {o : PO} {v : JV} (h : (stepP o v).1 = 0) : (readO o).1 = 0 := by
  unfold stepP at h
  by_cases h1 : (readO o).1 ≠ 0
  · rw [if_pos h1] at h; exact absurd h h1
  · simpa using h1
theorem bk_short {M : Nat} : ∀ {ops : List PO} {v : JV} {out : List PO}, Fit v → (∀ o ∈ ops, o.path.length ≤ M ∧ o.frm.length ≤ M) → (∀ o ∈ out, Short M o) → ∀ o ∈ bkP ops v out, Short M o
  | [], v, out, _, _, h => h
  | o :: r, v, out, hv, hops, h => by
    rw [bkP]
    by_cases h1 : (stepP o v).1 = 0
    · rw [if_pos h1]
      refine bk_short (stepP_fit hv h1) (fun o' ho => hops o' (List.mem_cons_of_mem _ ho)) fun o' ho => ?_
      rcases List.mem_append.1 ho with ho | ho
      · obtain ⟨a, b⟩ := hops o (List.mem_cons_self ..)
        obtain ⟨c, e⟩ := read_short (step_read h1) a b
        exact back_short hv c e o' ho
      · exact h o' ho
    · rw [if_neg h1]; exact h
theorem inv_short {M : Nat} {d : Bs} {ops : List PO} (h : ∀ o ∈ ops, o.path.length ≤ M ∧ o.frm.length ≤ M) : ∀ o ∈ invL d ops, Short M o := by
  unfold invL
  by_cases h0 : applyE d ops = 0
  · rw [if_pos h0]
    obtain ⟨x, h1, h2, h3, h4, h5⟩ := runO_ok h0
    rw [h1]
    exact bk_short h4 h (fun o ho => by cases ho)
  · rw [if_neg h0]; intro o ho; cases ho
theorem invL_no {d : Bs} {ops : List PO} (h : applyE d ops ≠ 0) : invL d ops = [] := if_neg h
end JP
end Go.Proofs.YtlcongehmjiabaaGreatDoor
/- The law PatchBack. -/
namespace Go.Proofs.YtlcongehmjiabaaGreatDoor
open Go.RowKit
open JP (JV Bs)

theorem ops_short {L : List GOp} (h : (L.map opB).sum ≤ 1048576) : ∀ o ∈ L.map toPO, o.path.length ≤ 1048571 ∧ o.frm.length ≤ 1048571 := fun o ho => by
  obtain ⟨g, hg, rfl⟩ := List.mem_map.1 ho
  have h1 := mem_opB hg
  have h2 : g.path.size + g.from_.size + g.value.size + 5 ≤ opB g := by unfold opB; omega
  refine ⟨?_, ?_⟩
  · show g.path.data.toList.length ≤ _; rw [list_size]; omega
  · show g.from_.data.toList.length ≤ _; rw [list_size]; omega
theorem sum_take (L : List GOp) (n : Nat) : ((L.take n).map opB).sum ≤ (L.map opB).sum := by
  conv => rhs; rw [← List.take_append_drop n L, List.map_append, List.sum_append]
  omega
set_option maxRecDepth 100000 in
set_option maxHeartbeats 6400000 in
theorem patchBack_walk (d : ByteArray) (ov : Value) (L0 : List GOp) (w : World) (hL : RowAt OpR 4 w ov L0) (hbulk : d.data.toList.length + (L0.map opB).sum ≤ 1048576) (hE : Env w) :
    Calls Tryz.prog 9 #[.string d, ov] w fun e w' => e = .returned (.bool true) ∧ Below w.heap.size w w' := by
  have hd : d.size ≤ 1048576 := by rw [← list_size d]; omega
  obtain ⟨ao, co, e1, hc1, hc2⟩ := hL.len
  subst e1
  obtain ⟨lc, hlc⟩ : ∃ lc, min L0.length 20 = lc := ⟨_, rfl⟩
  have HLr := Lib.hid (row_take hL (m := lc) (by omega))
  have hsum := sum_take L0 lc
  obtain ⟨L, hLL⟩ : ∃ L, L0.take lc = L := ⟨_, rfl⟩
  rw [hLL] at HLr hsum
  have hln : L.length = lc := by rw [← hLL, List.length_take]; omega
  obtain ⟨hok, hll⟩ := ops_ok (L := L) (by omega)
  have hsh := ops_short (L := L) (by omega)
  obtain ⟨l0, hl0⟩ : ∃ n, L0.length = n := ⟨_, rfl⟩
  rw [hl0] at hlc hc1 ⊢
  have hl20 : lc ≤ 20 := by omega
  have m1 : min (l0 : Int) 20 = (lc : Int) := by omega
  have m2 : (0 : Int) ≤ (lc : Int) := by omega
  have m3 : (lc : Int) ≤ (co : Int) := by omega
  have Hln := Lib.hid hln
  have HA := Lib.hid (apply_any d _ L w hd HLr.out (by omega) hok hE)
  have HI := Lib.hid (fun (w' : World) (h : Below w.heap.size w w') => invert_any d _ L w' hd (HLr.out.below stays_op h) (by omega) hok (hE.below h))
  have HCn := Lib.hid (fun (w' : World) (b : Nat) (t : TypeId) (fr : Nat × Nat) (h : Below w.heap.size w w') (hb : w'.heap[b]? = some (.cells #[.int .i64 0, .string ⟨#[]⟩, .string ⟨#[]⟩, .string ⟨#[]⟩] t fr)) => invert_any ⟨#[49]⟩ _ _ w' (by decide) (one_op (by decide) hb) (by decide) (fun g hg => by rw [List.mem_singleton.1 hg]; exact ⟨by decide, by decide, by decide⟩) (hE.below h))
  have hconst : JP.applyE (⟨#[49]⟩ : ByteArray).data.toList (List.map toPO [⟨0, ⟨#[]⟩, ⟨#[]⟩, ⟨#[]⟩⟩]) = 1 := JP.patch_const1
  unfold AppAt at HA
  unfold InvAt at HI HCn
  rw [hconst] at HCn
  have hlaw := fun h => @JP.patch_back d.data.toList (L.map toPO) (by rw [List.length_map]; omega) h
  have hlen := JP.invL_len d.data.toList (L.map toPO) (by rw [List.length_map]; omega)
  have hshort := @JP.inv_short 1048571 d.data.toList (L.map toPO) hsh
  have lT := JP.applyT_len d.data.toList (L.map toPO)
  have hnoT := fun h => @JP.applyT_no d.data.toList (L.map toPO) h
  have hnoI := fun h => @JP.invL_no d.data.toList (L.map toPO) h
  obtain ⟨T1, hT1⟩ : ∃ n, JP.applyT d.data.toList (L.map toPO) = n := ⟨_, rfl⟩
  obtain ⟨N1, hN1⟩ : ∃ n, JP.applyN d.data.toList (L.map toPO) = n := ⟨_, rfl⟩
  obtain ⟨E1, hE1⟩ : ∃ n, JP.applyE d.data.toList (L.map toPO) = n := ⟨_, rfl⟩
  obtain ⟨B, hB⟩ : ∃ n, JP.invL d.data.toList (L.map toPO) = n := ⟨_, rfl⟩
  rw [hT1, hN1, hE1] at HA
  rw [hE1, hB] at HI
  rw [hT1, hE1, hB] at hlaw
  rw [hB] at hlen hshort hnoI
  rw [hE1] at hnoT hnoI
  rw [hT1] at hnoT lT
  have HA2 := Lib.hid (fun (w' : World) (v : Value) (h : Below w.heap.size w w') (hr : RowAt OpR 4 w' v (B.map ofPO)) => apply_any (mkB T1) v (B.map ofPO) w' (by rw [mkB_size]; omega) hr (by rw [List.length_map]; omega) (fun g hg => by
    obtain ⟨o, ho, rfl⟩ := List.mem_map.1 hg
    obtain ⟨s1, s2, s3⟩ := hshort o ho
    exact ⟨by show (mkB o.path).size ≤ _; rw [mkB_size]; omega, by show (mkB o.frm).size ≤ _; rw [mkB_size]; omega, by show (mkB o.val).size ≤ _; rw [mkB_size]; omega⟩) (hE.below h))
  unfold AppAt at HA2
  rw [to_ofs, mkB_list] at HA2
  have HK := Lib.hid (fun (w' : World) (h : Below w.heap.size w w') => canonK_any d w' hd (hE.1.below h))
  obtain ⟨CT, hCT⟩ : ∃ n, JP.canonT d.data.toList = n := ⟨_, rfl⟩
  obtain ⟨CE, hCE⟩ : ∃ n, JP.canonE d.data.toList = n := ⟨_, rfl⟩
  rw [hCT, hCE] at HK
  rw [hCT] at hlaw
  have hnb : B.length ≤ 2000 := hlen
  obtain ⟨nb, hnb9⟩ : ∃ n, (B.map ofPO).length = n := ⟨_, rfl⟩
  have hnb2 : B.length = nb := by rw [← hnb9, List.length_map]
  have Hlaw := Lib.hid hlaw
  have HnoT := Lib.hid hnoT
  have HnoI := Lib.hid hnoI
  have Hnb := Lib.hid hnb9
  have Hnb2 := Lib.hid hnb2
  have HB0 := Lib.hid (Below.refl w.heap.size w)
  clear hL hLL hok hbulk hll hl0 hlc hc1 hsum hsh hln hconst hlaw hlen hshort lT hnoT hnoI hT1 hN1 hE1 hB hCT hCE hnb hnb9 hnb2 hE hd
  go_enter Tryz.func9, Tryz.ntmps9
  go_wp2_with fail
  refine HA.out.mono ?_
  rintro E w1 ⟨rfl, hb⟩
  have HB1 := Lib.hid hb
  clear hb HA
  go_wp2_with fail
  refine (HI.out w1 HB1.out).mono ?_
  rintro E w2 ⟨vb, rfl, hrow, hb⟩
  obtain ⟨ab, cb, e9, _⟩ := hrow.len
  rw [Hnb.out] at e9
  subst e9
  have HRow := Lib.hid hrow
  have HB2 := Lib.hid (HB1.out.trans (hb.mono HB1.out.size))
  clear hb HI hrow
  go_wp2_with fail
  have hb3 : Below w2.heap.size w2 (w2.alloc (.cells #[.int .i64 0, .string ⟨#[]⟩, .string ⟨#[]⟩, .string ⟨#[]⟩] 41)) := (Below.refl _ w2).alloc (Nat.le_refl _) _
  refine (HCn.out _ w2.heap.size _ _ (HB2.out.trans (hb3.mono HB2.out.size)) (heap_alloc_new w2 _)).mono ?_
  rintro E w3 ⟨vc, rfl, _, hb⟩
  have HB3 := Lib.hid ((HB2.out.trans (hb3.mono HB2.out.size)).trans (hb.mono (Nat.le_trans HB2.out.size hb3.size)))
  have HRow3 := Lib.hid ((HRow.out.below stays_op hb3).below stays_op hb)
  clear hb hb3 HCn HRow
  by_cases he : E1 = 0
  · subst he
    obtain ⟨k1, k2, k3⟩ := Hlaw.out (by first | rfl | trivial)
    have HA3 := Lib.hid (HA2.out w3 _ HB3.out HRow3.out)
    rw [k1, k2, k3, Hnb2.out] at HA3
    have t1 : ((mkB CT).toList == (mkB CT).toList) = true := by simp
    have t2 : ((nb : Int) == (nb : Int)) = true := by simp
    clear k1 k2 k3 HA2 Hlaw HnoT HnoI
    go_wp2_with fail
    refine HA3.out.mono ?_
    rintro E w4 ⟨rfl, hb⟩
    have HB4 := Lib.hid (HB3.out.trans (hb.mono HB3.out.size))
    clear hb HA3
    go_wp2_with fail
    refine (HK.out w4 HB4.out).mono ?_
    rintro E w5 ⟨rfl, hb⟩
    have HB5 := Lib.hid (HB4.out.trans (hb.mono HB4.out.size))
    clear hb HK
    go_wp2_with fail
    go_ret
    exact ⟨by first | rfl | (simp only [t1, t2] <;> rfl), HB5.out⟩
  · have n0 : (E1 != 0) = true := by rw [bne_iff_ne]; exact he
    have n1 : (E1 == E1) = true := by simp
    have h1 := HnoT.out he
    have h2 := HnoI.out he
    have h3 : nb = 0 := by have h9 := Hnb2.out; rw [h2] at h9; exact h9.symm
    subst h1
    subst h3
    have t1 : (mkB []).toList.isEmpty = true := by rw [mkB_empty]; rfl
    clear he h2 HA2 Hlaw HnoT HnoI
    go_wp2_with fail
    go_ret
    exact ⟨by first | rfl | (simp only [t1, n1] <;> rfl), HB3.out⟩
end Go.Proofs.YtlcongehmjiabaaGreatDoor
