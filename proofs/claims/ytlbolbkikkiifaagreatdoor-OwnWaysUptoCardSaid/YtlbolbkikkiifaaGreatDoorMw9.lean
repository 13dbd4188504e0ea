/- Texts of ours joined: PatchRun, PatchApply, PatchUnput, Rest, PatchSplitsWalk, PatchTestsWalk, PatchBackOps, PatchInvert, EqStr. -/
import Derived.Deep.DeepCutAuto
import Derived.Deep.LoopGhost
import Derived.Lib.ItoaLen
import Derived.Lib.Hide
import Derived.IntWalk
import Derived.Test.YtlbolbkikkiifaaGreatDoorMw8
set_option linter.unusedVariables false
set_option linter.unusedSimpArgs false
/- patch: all steps are done. -/
namespace Go.Proofs.YtlbolbkikkiifaaGreatDoor
open Go.RowKit
open JP (JV Bs)

def toPO (g : GOp) : JP.PO := ⟨g.kind, g.path.data.toList, g.from_.data.toList, g.value.data.toList⟩
def OpOK (g : GOp) : Prop := g.path.size ≤ 1048576 ∧ g.from_.size ≤ 1048576 ∧ g.value.size ≤ 1048576
/-- what is seen on the way -/
def JP.seenP : List JP.PO → JV → List (JV × JP.PS)
  | [], _ => []
  | o :: r, v => if (JP.stepP o v).1 = 0 then (v, (JP.readO o).2) :: JP.seenP r (JP.stepP o v).2 else []
def RunAt (G : List Nat) (I : List (JV × JP.PS) → World → Prop) (w0 : World) (R : Int × Nat × JV) (S : List (JV × JP.PS)) (e : Ending) (w' : World) : Prop :=
  ∃ u, e = .returned (.tuple #[u, .int .i64 (R.2.1 : Int), .int .i64 R.1]) ∧ (R.1 = 0 → (∃ k, JvAt k G w' u R.2.2) ∧ I S w') ∧ Below w0.heap.size w0 w'
theorem RunAt.no {G : List Nat} {I : List (JV × JP.PS) → World → Prop} {w0 w' : World} {R : Int × Nat × JV} {S : List (JV × JP.PS)} {u : Value} {i c : Int} (h1 : R.1 = c) (h2 : (R.2.1 : Int) = i) (hc : c ≠ 0) (hb : Below w0.heap.size w0 w') : RunAt G I w0 R S (.returned (.tuple #[u, .int .i64 i, .int .i64 c])) w' :=
  ⟨u, by rw [h1, h2], fun h => absurd (h1.symm.trans h) hc, hb⟩
theorem RunAt.yes {G : List Nat} {I : List (JV × JP.PS) → World → Prop} {w0 w' : World} {R : Int × Nat × JV} {S : List (JV × JP.PS)} {u : Value} {i : Int} (h1 : R.1 = 0) (h2 : (R.2.1 : Int) = i) (hu : ∃ k, JvAt k G w' u R.2.2) (hi : I S w') (hb : Below w0.heap.size w0 w') : RunAt G I w0 R S (.returned (.tuple #[u, .int .i64 i, .int .i64 0])) w' :=
  ⟨u, by rw [h1, h2], fun _ => ⟨hu, hi⟩, hb⟩
theorem one4 {a b c d : Value} (h1 : a.oneCell' = true) (h2 : b.oneCell' = true) (h3 : c.oneCell' = true) (h4 : d.oneCell' = true) : (#[a, b, c, d] : Array Value).all (·.oneCell') = true := by simp [h1, h2, h3, h4]
theorem readO_kd {o : JP.PO} : (JP.readO o).2.kind = o.kind := by
  unfold JP.readO
  split
  · rfl
  · split
    · rfl
    · split
      · rfl
      · split <;> rfl
/-- what a closure does that is shown each step -/
def Sees (f : FuncId) (caps : Array Value) (G : List Nat) (I : List (JV × JP.PS) → World → Prop) (w0 : World) : Prop :=
  ∀ (d : List (JV × JP.PS)) (x : JV) (kd : Int) (pa fr : List Bs) (val : JV) (vx s1 s2 s3 : Value) (n : Nat) (w : World), I d w → JvAt n [] w vx x → JP.Fit x → StepAt w s1 s2 s3 ⟨kd, pa, fr, val⟩ → JP.PSOK ⟨kd, pa, fr, val⟩ 1048576 → 1 ≤ kd ∧ kd ≤ 6 → (JP.doP ⟨kd, pa, fr, val⟩ x).1 = 0 → Below w0.heap.size w0 w → d.length ≤ 40 →
    Calls Tryz.prog f (#[vx, .agg #[.int .i64 kd, s1, s2, s3]] ++ caps) w fun e w' => e = .returned (.tuple #[]) ∧ I (d ++ [(x, ⟨kd, pa, fr, val⟩)]) w' ∧ KeepT G w w' ∧ Below w0.heap.size w0 w'
set_option maxRecDepth 100000 in
set_option maxHeartbeats 12800000 in
theorem run0_any {f : FuncId} {G : List Nat} {I : List (JV × JP.PS) → World → Prop} {w0 : World} (enter : ∀ (a : Array Value) (w : World), (callFunc f a).run Tryz.prog w = .ok (.enter f a) w)
    (hI : ∀ d w w', I d w → Below w.heap.size w w' → I d w') (hG : ∀ b ∈ G, w0.heap.size ≤ b) (hoff : ∀ d w n v x, I d w → JvAt n [] w v x → JvAt n G w v x) (clo : Sees f #[] G I w0)
    (d : ByteArray) (ov : Value) (L : List GOp) (w : World) (hd : d.size ≤ 1048576) (hb0 : Below w0.heap.size w0 w) (hL : RowAt OpR 4 w0 ov L) (hll : L.length ≤ 1048576) (hok : ∀ g ∈ L, OpOK g) (hE : Env w0) (h0 : I [] w) :
    Calls Tryz.prog 39 #[.string d, ov, .func (.func f) #[] #[]] w (RunAt G I w0 (JP.runO d.data.toList (L.map toPO)) (JP.seenP (L.map toPO) (JP.readL d.data.toList).1)) := by
  have HRd := Lib.hid (read_any d w hd)
  obtain ⟨ao, co, e1, _⟩ := hL.len
  subst e1
  have HLr := Lib.hid hL
  have HI := Lib.hid hI
  have Hoff := Lib.hid hoff
  have HC := Lib.hid clo
  have Hok := Lib.hid hok
  have HE := Lib.hid hE
  have HI0 := Lib.hid h0
  have HB0 := Lib.hid hb0
  have ep := enter
  obtain ⟨R, hR⟩ : ∃ R, JP.runO d.data.toList (L.map toPO) = R := ⟨_, rfl⟩
  rw [hR]
  unfold JP.runO at hR
  rw [List.length_map] at hR
  obtain ⟨S, hS⟩ : ∃ S, JP.seenP (L.map toPO) (JP.readL d.data.toList).1 = S := ⟨_, rfl⟩
  rw [hS]
  obtain ⟨x0, er, hrd⟩ : ∃ x e, JP.readL d.data.toList = (x, e) := ⟨_, _, rfl⟩
  rw [hrd] at HRd hR hS
  dsimp only at hR hS HRd
  have hfit : er = 0 → JP.Fit x0 := fun e => JP.read_fit (a := d.data.toList) (by rw [hrd, e])
  obtain ⟨ln, hln⟩ : ∃ ln, L.length = ln := ⟨_, rfl⟩
  have HLr : Hid (RowAt OpR 4 w0 (.slice ao ln co) L) := Lib.hid (by rw [← hln]; exact HLr.out)
  rw [hln] at hR hll ⊢
  have Hln := Lib.hid hln
  clear hL hI hoff clo hok hE h0 hb0 enter hrd hd hln
  by_cases he : er = 0
  · subst he
    rw [if_neg (by simp)] at hR
    have Hfit := Lib.hid (hfit rfl)
    clear hfit
    by_cases hl : 40 < ln
    · rw [if_pos hl] at hR
      have q1 : (40 : Int) < (ln : Int) := by omega
      have HR : Hid (R = (2, 0, .nul)) := Lib.hid hR.symm
      clear hR hS hl
      go_enter Tryz.func39, Tryz.ntmps39
      go_wp2_with fail
      refine HRd.out.mono ?_
      rintro E w1 ⟨v0, rfl, hj, hb⟩
      have HB1 := Lib.hid (HB0.out.trans (hb.mono HB0.out.size))
      clear hb hj
      go_wp2_with fail
      go_ret3
      exact .no (by rw [HR.out]) (by rw [HR.out]; rfl) (by decide) HB1.out
    · rw [if_neg hl] at hR
      have q1 : ¬ (40 : Int) < (ln : Int) := by omega
      have HRun := Lib.hid hR
      have HS := Lib.hid hS
      have hl2 : ln ≤ 40 := by omega
      clear hR hS hl
      go_enter Tryz.func39, Tryz.ntmps39
      go_wp2_with fail
      refine HRd.out.mono ?_
      rintro E w1 ⟨v0, rfl, ⟨n0, hj⟩, hb⟩
      have HB1 := Lib.hid (HB0.out.trans (hb.mono HB0.out.size))
      have HI1 := Lib.hid (HI.out _ _ _ HI0.out hb)
      have HJ0 := Lib.hid hj
      clear hb hj
      go_wp2_with fail
      go_loopg [29, 9] ln (fun k u29 u9 wr => ∃ (i n : Nat) (x : JV) (dn : List (JV × JP.PS)), i + k = ln ∧ u29 = .int .i64 (i : Int) ∧ Hid (JvAt n [] wr u9 x) ∧ Hid (JP.Fit x) ∧ Hid (JP.runP ((L.map toPO).drop i) x i = R) ∧ Hid (dn ++ JP.seenP ((L.map toPO).drop i) x = S) ∧ Hid (I dn wr) ∧ Hid (Below w0.heap.size w0 wr) ∧ Hid (dn.length ≤ i))
      case atStart => exact ⟨0, n0, x0, [], by omega, rfl, HJ0, Hfit, Lib.hid (by rw [List.drop_zero]; exact HRun.out), Lib.hid (by rw [List.drop_zero]; exact HS.out), HI1, HB1, Lib.hid (Nat.le_refl 0)⟩
      case round =>
        obtain ⟨i, n, x, dn, hik, rfl, HJ, HF, HRu, HSn, HIr, HB, Hdn⟩ := hrel
        cases gk with
        | zero =>
          have hil : i = ln := by omega
          subst hil
          have q2 : ¬ (i : Int) < (i : Int) := by omega
          have hnil : (L.map toPO).drop i = [] := List.drop_of_length_le (by rw [List.length_map, Hln.out]; omega)
          have HR2 : Hid (R = (0, i, x)) := Lib.hid (by rw [← HRu.out, hnil, JP.runP])
          have HS2 : Hid (S = dn) := Lib.hid (by rw [← HSn.out, hnil, JP.seenP, List.append_nil])
          clear hnil
          go_wp2_with fail
          go_ret3
          exact .yes (by rw [HR2.out]) (by rw [HR2.out]) ⟨n, by rw [HR2.out]; exact Hoff.out _ _ _ _ _ HIr.out HJ.out⟩ (by rw [HS2.out]; exact HIr.out) HB.out
        | succ k =>
          have hil : i < ln := by omega
          obtain ⟨g, hgi⟩ : ∃ g, L[i]? = some g := ⟨L[i]'(by rw [Hln.out]; exact hil), List.getElem?_eq_getElem _⟩
          obtain ⟨b, off, c', hv, _, _, hbs, hcell⟩ := HLr.out.form (by rw [Hln.out]; omega) (by omega)
          injection hv with u1 u2 u3
          subst u1
          clear u2 u3
          obtain ⟨ds, _, hcc, hRd⟩ := hcell i g hgi
          obtain ⟨hds, _⟩ := hRd
          subst hds
          have e0 : wr.cell? ⟨b, off + i * 4, none⟩ = some (.int .i64 g.kind) := (HB.out.cell (p := ⟨b, _, none⟩) hbs).trans (by simpa using hcc 0 _ rfl)
          have e1 : wr.cell? ⟨b, off + i * 4 + 1, none⟩ = some (.string g.path) := (HB.out.cell (p := ⟨b, _, none⟩) hbs).trans (hcc 1 _ rfl)
          have e2 : wr.cell? ⟨b, off + i * 4 + 2, none⟩ = some (.string g.from_) := (HB.out.cell (p := ⟨b, _, none⟩) hbs).trans (hcc 2 _ rfl)
          have e3 : wr.cell? ⟨b, off + i * 4 + 3, none⟩ = some (.string g.value) := (HB.out.cell (p := ⟨b, _, none⟩) hbs).trans (hcc 3 _ rfl)
          have q3 : (0 : Int) ≤ (i : Int) := by omega
          have q2 : (i : Int) < (ln : Int) := by omega
          have hdrop : (L.map toPO).drop i = toPO g :: (L.map toPO).drop (i + 1) := by
            have h9 : (L.map toPO)[i]? = some (toPO g) := by rw [List.getElem?_map, hgi]; rfl
            obtain ⟨g1, g2⟩ := List.getElem?_eq_some_iff.1 h9
            rw [List.drop_eq_getElem_cons g1, g2]
          have Hg := Lib.hid (Hok.out g (List.mem_of_getElem? hgi))
          have HRu2 : Hid ((if (JP.stepP (toPO g) x).1 = 0 then JP.runP ((L.map toPO).drop (i + 1)) (JP.stepP (toPO g) x).2 (i + 1) else ((JP.stepP (toPO g) x).1, i, .nul)) = R) := Lib.hid (by rw [← HRu.out, hdrop, JP.runP])
          have HSn2 : Hid ((JP.stepP (toPO g) x).1 = 0 → (dn ++ [(x, (JP.readO (toPO g)).2)]) ++ JP.seenP ((L.map toPO).drop (i + 1)) (JP.stepP (toPO g) x).2 = S) := Lib.hid (fun h => by rw [← HSn.out, hdrop, JP.seenP, if_pos h, List.append_assoc]; rfl)
          clear hcc hcell hgi hdrop hbs
          go_upto_region 9 with fail
          obtain ⟨W, hW⟩ : ∃ W, W = wr.alloc (.cells #[.int .i64 g.kind, .string g.path, .string g.from_, .string g.value] 52) := ⟨_, rfl⟩
          obtain ⟨gb, hgb⟩ : ∃ gb, gb = wr.heap.size := ⟨_, rfl⟩
          rw [← hW, ← hgb]
          have c0 : W.heap[gb]? = some (.cells #[.int .i64 g.kind, .string g.path, .string g.from_, .string g.value] 52 (0, 0)) := by rw [hW, hgb]; exact heap_alloc_new wr _
          have hb5 : Below wr.heap.size wr W := by rw [hW]; exact (Below.refl _ _).alloc (Nat.le_refl _) _
          have HBW := Lib.hid (HB.out.trans (hb5.mono HB.out.size))
          have HIW := Lib.hid (HI.out _ _ _ HIr.out hb5)
          have HJW := Lib.hid (HJ.out.below hb5)
          have cc := fun i => cell_block c0 i
          clear hW hgb hb5 c0 e0 e1 e2 e3
          have HPr := Lib.hid (pread_any g.kind g.path g.from_ g.value W Hg.out.1 Hg.out.2.1 Hg.out.2.2 (HE.out.below HBW.out))
          obtain ⟨r1, s, hr⟩ : ∃ r s, JP.readO (toPO g) = (r, s) := ⟨_, _, rfl⟩
          have hkd : s.kind = g.kind := by have := readO_kd (o := toPO g); rw [hr] at this; exact this
          have hr' : JP.readO ⟨g.kind, g.path.data.toList, g.from_.data.toList, g.value.data.toList⟩ = (r1, s) := hr
          rw [hr'] at HPr
          go_wp2_with fail
          refine HPr.out.mono ?_
          rintro E w4 ⟨s1, s2, s3, rfl, hst, ones, hb⟩
          have HB4 := Lib.hid (HBW.out.trans (hb.mono HBW.out.size))
          have HI4 := Lib.hid (HI.out _ _ _ HIW.out hb)
          have HJ4 := Lib.hid (HJW.out.below hb)
          have hst4 := Lib.hid hst
          obtain ⟨o1, o2, o3⟩ := ones
          clear hb cc HPr hst
          go_wp2_with (refine wpList_store_box (by rfl) _ _ _ (by rfl) w4.heap.size #[.int .i64 g.kind, s1, s2, s3] (by rfl) (by rfl) _ _ (by exact heap_alloc_new w4 _) (by exact Tryz.sizeStep) (by rfl) (by exact one4 rfl o1 o2 o3) ?_)
          intro W5 bx tx
          have hb5 : Below w4.heap.size w4 W5 := tx.below ((Below.refl _ w4).alloc (Nat.le_refl _) _) (Nat.le_refl _)
          have hs5 := HB4.out.size
          obtain ⟨gx, hgx⟩ : ∃ gx, w4.heap.size = gx := ⟨_, rfl⟩
          have HB5 := Lib.hid (HB4.out.trans (hb5.mono HB4.out.size))
          have HI5 := Lib.hid (HI.out _ _ _ HI4.out hb5)
          have HJ5 := Lib.hid (HJ4.out.below hb5)
          have hst5 : r1 = 0 → StepAt W5 s1 s2 s3 s := fun h => by
            obtain ⟨p1, p2, n3, p3⟩ := hst4.out h
            exact ⟨p1.below hb5, p2.below hb5, n3, p3.below hb5⟩
          have Hst5 := Lib.hid hst5
          rw [hgx] at bx ⊢
          have Bx := Lib.hid bx
          clear hb5 hs5 tx hst5 hst4 HI4 HJ4 hgx bx
          by_cases hr1 : r1 = 0
          · subst hr1
            obtain ⟨kd, pa, fr, val⟩ := s
            have hkd : kd = g.kind := hkd
            subst hkd
            have hok2 : JP.PSOK ⟨g.kind, pa, fr, val⟩ 1048576 := by
              have := JP.readO_ok (o := toPO g) (B := 1048576) (by rw [hr]) (by show g.path.data.toList.length ≤ _; rw [list_size]; exact Hg.out.1) (by show g.from_.data.toList.length ≤ _; rw [list_size]; exact Hg.out.2.1)
              rw [hr] at this
              exact this
            have hkk : 1 ≤ g.kind ∧ g.kind ≤ 6 := by
              have := JP.readO_kind (o := toPO g) (by rw [hr])
              rw [hr] at this
              exact this
            have HDo := Lib.hid (pdo_any g.kind pa fr val x s1 s2 s3 u9 n W5 (Hst5.out rfl) hok2 HJ5.out HF.out (HE.out.below HB5.out) hkk)
            have hstep : JP.stepP (toPO g) x = if (JP.doP ⟨g.kind, pa, fr, val⟩ x).1 ≠ 0 then ((JP.doP ⟨g.kind, pa, fr, val⟩ x).1, .nul) else (JP.tellE (JP.doP ⟨g.kind, pa, fr, val⟩ x).2, (JP.doP ⟨g.kind, pa, fr, val⟩ x).2) := by
              unfold JP.stepP
              rw [hr, if_neg (by simp)]
            have hdl := fun h => JP.doP_len hok2 HF.out h
            obtain ⟨d1, y, hdo⟩ : ∃ a b, JP.doP ⟨g.kind, pa, fr, val⟩ x = (a, b) := ⟨_, _, rfl⟩
            rw [hdo] at HDo hstep hdl
            dsimp only at hstep hdl
            have Hdo := Lib.hid hdo
            have Hok2 := Lib.hid hok2
            have Hkk := Lib.hid hkk
            have Hr2 : Hid ((JP.readO (toPO g)).2 = ⟨g.kind, pa, fr, val⟩) := Lib.hid (by rw [hr])
            clear hok2 hkk hdo hr hr' hkd
            go_wp2_with (refine wpList_load_row (by rfl) _ _ (by rfl) gx (by rfl) _ _ _ _ (by exact Bx.out) Tryz.underlying81 rfl (by exact Tryz.sizeStep) ?_)
            refine HDo.out.mono ?_
            rintro E w6 ⟨u, rfl, hz, hb⟩
            have HB6 := Lib.hid (HB5.out.trans (hb.mono HB5.out.size))
            have HI6 := Lib.hid (HI.out _ _ _ HI5.out hb)
            have HJ6 := Lib.hid (HJ5.out.below hb)
            have Bx6 := Lib.hid (below_block hb Bx.out)
            have Hst6 : Hid (StepAt w6 s1 s2 s3 ⟨g.kind, pa, fr, val⟩) := Lib.hid (by
              obtain ⟨p1, p2, n3, p3⟩ := Hst5.out trivial
              exact ⟨p1.below hb, p2.below hb, n3, p3.below hb⟩)
            have Hz := Lib.hid hz
            clear hb hz HDo Bx Hst5
            by_cases hd1 : d1 = 0
            · subst hd1
              rw [if_neg (by simp)] at hstep
              obtain ⟨ky, hjy⟩ := Hz.out rfl
              obtain ⟨hwy, hly⟩ := hdl rfl
              have HTl := Lib.hid (tell_any ky u y w6 hjy (by omega) (by have := JP.size_le_len y; omega) (HE.out.below HB6.out).1)
              have Hjy := Lib.hid hjy
              obtain ⟨te, hte⟩ : ∃ te, JP.tellE y = te := ⟨_, rfl⟩
              obtain ⟨tt, htt⟩ : ∃ te, JP.tellT y = te := ⟨_, rfl⟩
              rw [hte, htt] at HTl
              rw [hte] at hstep
              have Hte := Lib.hid hte
              have Hwy := Lib.hid hwy
              rw [hstep] at HRu2 HSn2
              clear hte htt hstep hjy hwy hly hdl Hz
              go_wp2_with fail
              refine HTl.out.mono ?_
              rintro E w7 ⟨rfl, hb⟩
              have HB7 := Lib.hid (HB6.out.trans (hb.mono HB6.out.size))
              have HI7 := Lib.hid (HI.out _ _ _ HI6.out hb)
              have HJ7 := Lib.hid (HJ6.out.below hb)
              have Bx7 := Lib.hid (below_block hb Bx6.out)
              have Hst7 : Hid (StepAt w7 s1 s2 s3 ⟨g.kind, pa, fr, val⟩) := Lib.hid (by
                obtain ⟨p1, p2, n3, p3⟩ := Hst6.out
                exact ⟨p1.below hb, p2.below hb, n3, p3.below hb⟩)
              have Hjy7 := Lib.hid (Hjy.out.below hb)
              clear hb HTl Bx6 Hst6 Hjy
              by_cases ht0 : te = 0
              · subst ht0
                have HFy := Lib.hid (JP.tell_ok Hwy.out Hte.out).1
                have HRu3 : Hid (JP.runP ((L.map toPO).drop (i + 1)) y (i + 1) = R) := Lib.hid (by rw [← HRu2.out, if_pos rfl])
                have HSn3 : Hid ((dn ++ [(x, ⟨g.kind, pa, fr, val⟩)]) ++ JP.seenP ((L.map toPO).drop (i + 1)) y = S) := Lib.hid (by have := HSn2.out rfl; rw [Hr2.out] at this; exact this)
                have HCl := Lib.hid (HC.out dn x g.kind pa fr val u9 s1 s2 s3 n w7 HI7.out HJ7.out HF.out Hst7.out Hok2.out Hkk.out (by rw [Hdo.out]) HB7.out (by have := Hdn.out; omega))
                clear HRu2 HSn2 Hst7
                go_wp2_with (refine wpList_load_row (by rfl) _ _ (by rfl) gx (by rfl) _ _ _ _ (by exact Bx7.out) Tryz.underlying81 rfl (by exact Tryz.sizeStep) ?_)
                refine HCl.out.mono ?_
                rintro E w8 ⟨rfl, hi8, hk8, hb8⟩
                have HI8 := Lib.hid hi8
                have HB8 := Lib.hid hb8
                have HJ8 := Lib.hid (((Hoff.out _ _ _ _ _ HI7.out Hjy7.out).keepT hk8).fresh (T' := []) (fun b hb => by cases hb))
                clear hi8 hk8 hb8 HCl Bx7
                go_wp2_with fail
                go_roundg k
                case measure => omega
                case rel => exact ⟨i + 1, ky, y, dn ++ [(x, ⟨g.kind, pa, fr, val⟩)], by omega, by go_num, HJ8, HFy, HRu3, HSn3, HI8, HB8, Lib.hid (by rw [List.length_append]; have := Hdn.out; show _ + 1 ≤ _; omega)⟩
              · have n1 : (te != 0) = true := by rw [bne_iff_ne]; exact ht0
                have HR2 : Hid (R = (te, i, .nul)) := Lib.hid (by rw [← HRu2.out, if_neg ht0])
                have Hne := Lib.hid ht0
                clear ht0
                go_wp2_with fail
                go_ret3
                exact .no (by rw [HR2.out]) (by rw [HR2.out]) Hne.out HB7.out
            · rw [if_pos hd1] at hstep
              have n1 : (d1 == 0) = false := by rw [beq_eq_false_iff_ne]; exact hd1
              have n2 : (d1 != 0) = true := by rw [bne_iff_ne]; exact hd1
              have HR2 : Hid (R = (d1, i, .nul)) := Lib.hid (by rw [← HRu2.out, hstep, if_neg hd1])
              have Hne := Lib.hid hd1
              clear hd1 hstep hdl
              go_wp2_with fail
              go_ret3
              exact .no (by rw [HR2.out]) (by rw [HR2.out]) Hne.out HB6.out
          · have n1 : (r1 != 0) = true := by rw [bne_iff_ne]; exact hr1
            have hstep : JP.stepP (toPO g) x = (r1, .nul) := by
              unfold JP.stepP
              rw [hr, if_pos hr1]
            have HR2 : Hid (R = (r1, i, .nul)) := Lib.hid (by rw [← HRu2.out, hstep, if_neg hr1])
            have Hne := Lib.hid hr1
            clear hr1 hstep hr hr' hkd
            go_wp2_with fail
            go_ret3
            exact .no (by rw [HR2.out]) (by rw [HR2.out]) Hne.out HB5.out
  · have n0 : (er != 0) = true := by rw [bne_iff_ne]; exact he
    rw [if_pos he] at hR
    have HR : Hid (R = (er, 0, .nul)) := Lib.hid hR.symm
    have Hne := Lib.hid he
    clear hR hS he hfit
    go_enter Tryz.func39, Tryz.ntmps39
    go_wp2_with fail
    refine HRd.out.mono ?_
    rintro E w1 ⟨v0, rfl, hj, hb⟩
    have HB1 := Lib.hid (HB0.out.trans (hb.mono HB0.out.size))
    clear hb hj
    go_wp2_with fail
    go_ret3
    exact .no (by rw [HR.out]) (by rw [HR.out]; rfl) Hne.out HB1.out
set_option maxRecDepth 100000 in
set_option maxHeartbeats 12800000 in
theorem run1_any {f : FuncId} {cap : Value} {G : List Nat} {I : List (JV × JP.PS) → World → Prop} {w0 : World} (enter : ∀ (a : Array Value) (w : World), (callFunc f a).run Tryz.prog w = .ok (.enter f a) w)
    (hI : ∀ d w w', I d w → Below w.heap.size w w' → I d w') (hG : ∀ b ∈ G, w0.heap.size ≤ b) (hoff : ∀ d w n v x, I d w → JvAt n [] w v x → JvAt n G w v x) (clo : Sees f #[cap] G I w0)
    (d : ByteArray) (ov : Value) (L : List GOp) (w : World) (hd : d.size ≤ 1048576) (hb0 : Below w0.heap.size w0 w) (hL : RowAt OpR 4 w0 ov L) (hll : L.length ≤ 1048576) (hok : ∀ g ∈ L, OpOK g) (hE : Env w0) (h0 : I [] w) :
    Calls Tryz.prog 39 #[.string d, ov, .func (.func f) #[] #[cap]] w (RunAt G I w0 (JP.runO d.data.toList (L.map toPO)) (JP.seenP (L.map toPO) (JP.readL d.data.toList).1)) := by
  have HRd := Lib.hid (read_any d w hd)
  obtain ⟨ao, co, e1, _⟩ := hL.len
  subst e1
  have HLr := Lib.hid hL
  have HI := Lib.hid hI
  have Hoff := Lib.hid hoff
  have HC := Lib.hid clo
  have Hok := Lib.hid hok
  have HE := Lib.hid hE
  have HI0 := Lib.hid h0
  have HB0 := Lib.hid hb0
  have ep := enter
  obtain ⟨R, hR⟩ : ∃ R, JP.runO d.data.toList (L.map toPO) = R := ⟨_, rfl⟩
  rw [hR]
  unfold JP.runO at hR
  rw [List.length_map] at hR
  obtain ⟨S, hS⟩ : ∃ S, JP.seenP (L.map toPO) (JP.readL d.data.toList).1 = S := ⟨_, rfl⟩
  rw [hS]
  obtain ⟨x0, er, hrd⟩ : ∃ x e, JP.readL d.data.toList = (x, e) := ⟨_, _, rfl⟩
  rw [hrd] at HRd hR hS
  dsimp only at hR hS HRd
  have hfit : er = 0 → JP.Fit x0 := fun e => JP.read_fit (a := d.data.toList) (by rw [hrd, e])
  obtain ⟨ln, hln⟩ : ∃ ln, L.length = ln := ⟨_, rfl⟩
  have HLr : Hid (RowAt OpR 4 w0 (.slice ao ln co) L) := Lib.hid (by rw [← hln]; exact HLr.out)
  rw [hln] at hR hll ⊢
  have Hln := Lib.hid hln
  clear hL hI hoff clo hok hE h0 hb0 enter hrd hd hln
  by_cases he : er = 0
  · subst he
    rw [if_neg (by simp)] at hR
    have Hfit := Lib.hid (hfit rfl)
    clear hfit
    by_cases hl : 40 < ln
    · rw [if_pos hl] at hR
      have q1 : (40 : Int) < (ln : Int) := by omega
      have HR : Hid (R = (2, 0, .nul)) := Lib.hid hR.symm
      clear hR hS hl
      go_enter Tryz.func39, Tryz.ntmps39
      go_wp2_with fail
      refine HRd.out.mono ?_
      rintro E w1 ⟨v0, rfl, hj, hb⟩
      have HB1 := Lib.hid (HB0.out.trans (hb.mono HB0.out.size))
      clear hb hj
      go_wp2_with fail
      go_ret3
      exact .no (by rw [HR.out]) (by rw [HR.out]; rfl) (by decide) HB1.out
    · rw [if_neg hl] at hR
      have q1 : ¬ (40 : Int) < (ln : Int) := by omega
      have HRun := Lib.hid hR
      have HS := Lib.hid hS
      have hl2 : ln ≤ 40 := by omega
      clear hR hS hl
      go_enter Tryz.func39, Tryz.ntmps39
      go_wp2_with fail
      refine HRd.out.mono ?_
      rintro E w1 ⟨v0, rfl, ⟨n0, hj⟩, hb⟩
      have HB1 := Lib.hid (HB0.out.trans (hb.mono HB0.out.size))
      have HI1 := Lib.hid (HI.out _ _ _ HI0.out hb)
      have HJ0 := Lib.hid hj
      clear hb hj
      go_wp2_with fail
      go_loopg [29, 9] ln (fun k u29 u9 wr => ∃ (i n : Nat) (x : JV) (dn : List (JV × JP.PS)), i + k = ln ∧ u29 = .int .i64 (i : Int) ∧ Hid (JvAt n [] wr u9 x) ∧ Hid (JP.Fit x) ∧ Hid (JP.runP ((L.map toPO).drop i) x i = R) ∧ Hid (dn ++ JP.seenP ((L.map toPO).drop i) x = S) ∧ Hid (I dn wr) ∧ Hid (Below w0.heap.size w0 wr) ∧ Hid (dn.length ≤ i))
      case atStart => exact ⟨0, n0, x0, [], by omega, rfl, HJ0, Hfit, Lib.hid (by rw [List.drop_zero]; exact HRun.out), Lib.hid (by rw [List.drop_zero]; exact HS.out), HI1, HB1, Lib.hid (Nat.le_refl 0)⟩
      case round =>
        obtain ⟨i, n, x, dn, hik, rfl, HJ, HF, HRu, HSn, HIr, HB, Hdn⟩ := hrel
        cases gk with
        | zero =>
          have hil : i = ln := by omega
          subst hil
          have q2 : ¬ (i : Int) < (i : Int) := by omega
          have hnil : (L.map toPO).drop i = [] := List.drop_of_length_le (by rw [List.length_map, Hln.out]; omega)
          have HR2 : Hid (R = (0, i, x)) := Lib.hid (by rw [← HRu.out, hnil, JP.runP])
          have HS2 : Hid (S = dn) := Lib.hid (by rw [← HSn.out, hnil, JP.seenP, List.append_nil])
          clear hnil
          go_wp2_with fail
          go_ret3
          exact .yes (by rw [HR2.out]) (by rw [HR2.out]) ⟨n, by rw [HR2.out]; exact Hoff.out _ _ _ _ _ HIr.out HJ.out⟩ (by rw [HS2.out]; exact HIr.out) HB.out
        | succ k =>
          have hil : i < ln := by omega
          obtain ⟨g, hgi⟩ : ∃ g, L[i]? = some g := ⟨L[i]'(by rw [Hln.out]; exact hil), List.getElem?_eq_getElem _⟩
          obtain ⟨b, off, c', hv, _, _, hbs, hcell⟩ := HLr.out.form (by rw [Hln.out]; omega) (by omega)
          injection hv with u1 u2 u3
          subst u1
          clear u2 u3
          obtain ⟨ds, _, hcc, hRd⟩ := hcell i g hgi
          obtain ⟨hds, _⟩ := hRd
          subst hds
          have e0 : wr.cell? ⟨b, off + i * 4, none⟩ = some (.int .i64 g.kind) := (HB.out.cell (p := ⟨b, _, none⟩) hbs).trans (by simpa using hcc 0 _ rfl)
          have e1 : wr.cell? ⟨b, off + i * 4 + 1, none⟩ = some (.string g.path) := (HB.out.cell (p := ⟨b, _, none⟩) hbs).trans (hcc 1 _ rfl)
          have e2 : wr.cell? ⟨b, off + i * 4 + 2, none⟩ = some (.string g.from_) := (HB.out.cell (p := ⟨b, _, none⟩) hbs).trans (hcc 2 _ rfl)
          have e3 : wr.cell? ⟨b, off + i * 4 + 3, none⟩ = some (.string g.value) := (HB.out.cell (p := ⟨b, _, none⟩) hbs).trans (hcc 3 _ rfl)
          have q3 : (0 : Int) ≤ (i : Int) := by omega
          have q2 : (i : Int) < (ln : Int) := by omega
          have hdrop : (L.map toPO).drop i = toPO g :: (L.map toPO).drop (i + 1) := by
            have h9 : (L.map toPO)[i]? = some (toPO g) := by rw [List.getElem?_map, hgi]; rfl
            obtain ⟨g1, g2⟩ := List.getElem?_eq_some_iff.1 h9
            rw [List.drop_eq_getElem_cons g1, g2]
          have Hg := Lib.hid (Hok.out g (List.mem_of_getElem? hgi))
          have HRu2 : Hid ((if (JP.stepP (toPO g) x).1 = 0 then JP.runP ((L.map toPO).drop (i + 1)) (JP.stepP (toPO g) x).2 (i + 1) else ((JP.stepP (toPO g) x).1, i, .nul)) = R) := Lib.hid (by rw [← HRu.out, hdrop, JP.runP])
          have HSn2 : Hid ((JP.stepP (toPO g) x).1 = 0 → (dn ++ [(x, (JP.readO (toPO g)).2)]) ++ JP.seenP ((L.map toPO).drop (i + 1)) (JP.stepP (toPO g) x).2 = S) := Lib.hid (fun h => by rw [← HSn.out, hdrop, JP.seenP, if_pos h, List.append_assoc]; rfl)
          clear hcc hcell hgi hdrop hbs
          go_upto_region 9 with fail
          obtain ⟨W, hW⟩ : ∃ W, W = wr.alloc (.cells #[.int .i64 g.kind, .string g.path, .string g.from_, .string g.value] 52) := ⟨_, rfl⟩
          obtain ⟨gb, hgb⟩ : ∃ gb, gb = wr.heap.size := ⟨_, rfl⟩
          rw [← hW, ← hgb]
          have c0 : W.heap[gb]? = some (.cells #[.int .i64 g.kind, .string g.path, .string g.from_, .string g.value] 52 (0, 0)) := by rw [hW, hgb]; exact heap_alloc_new wr _
          have hb5 : Below wr.heap.size wr W := by rw [hW]; exact (Below.refl _ _).alloc (Nat.le_refl _) _
          have HBW := Lib.hid (HB.out.trans (hb5.mono HB.out.size))
          have HIW := Lib.hid (HI.out _ _ _ HIr.out hb5)
          have HJW := Lib.hid (HJ.out.below hb5)
          have cc := fun i => cell_block c0 i
          clear hW hgb hb5 c0 e0 e1 e2 e3
          have HPr := Lib.hid (pread_any g.kind g.path g.from_ g.value W Hg.out.1 Hg.out.2.1 Hg.out.2.2 (HE.out.below HBW.out))
          obtain ⟨r1, s, hr⟩ : ∃ r s, JP.readO (toPO g) = (r, s) := ⟨_, _, rfl⟩
          have hkd : s.kind = g.kind := by have := readO_kd (o := toPO g); rw [hr] at this; exact this
          have hr' : JP.readO ⟨g.kind, g.path.data.toList, g.from_.data.toList, g.value.data.toList⟩ = (r1, s) := hr
          rw [hr'] at HPr
          go_wp2_with fail
          refine HPr.out.mono ?_
          rintro E w4 ⟨s1, s2, s3, rfl, hst, ones, hb⟩
          have HB4 := Lib.hid (HBW.out.trans (hb.mono HBW.out.size))
          have HI4 := Lib.hid (HI.out _ _ _ HIW.out hb)
          have HJ4 := Lib.hid (HJW.out.below hb)
          have hst4 := Lib.hid hst
          obtain ⟨o1, o2, o3⟩ := ones
          clear hb cc HPr hst
          go_wp2_with (refine wpList_store_box (by rfl) _ _ _ (by rfl) w4.heap.size #[.int .i64 g.kind, s1, s2, s3] (by rfl) (by rfl) _ _ (by exact heap_alloc_new w4 _) (by exact Tryz.sizeStep) (by rfl) (by exact one4 rfl o1 o2 o3) ?_)
          intro W5 bx tx
          have hb5 : Below w4.heap.size w4 W5 := tx.below ((Below.refl _ w4).alloc (Nat.le_refl _) _) (Nat.le_refl _)
          have hs5 := HB4.out.size
          obtain ⟨gx, hgx⟩ : ∃ gx, w4.heap.size = gx := ⟨_, rfl⟩
          have HB5 := Lib.hid (HB4.out.trans (hb5.mono HB4.out.size))
          have HI5 := Lib.hid (HI.out _ _ _ HI4.out hb5)
          have HJ5 := Lib.hid (HJ4.out.below hb5)
          have hst5 : r1 = 0 → StepAt W5 s1 s2 s3 s := fun h => by
            obtain ⟨p1, p2, n3, p3⟩ := hst4.out h
            exact ⟨p1.below hb5, p2.below hb5, n3, p3.below hb5⟩
          have Hst5 := Lib.hid hst5
          rw [hgx] at bx ⊢
          have Bx := Lib.hid bx
          clear hb5 hs5 tx hst5 hst4 HI4 HJ4 hgx bx
          by_cases hr1 : r1 = 0
          · subst hr1
            obtain ⟨kd, pa, fr, val⟩ := s
            have hkd : kd = g.kind := hkd
            subst hkd
            have hok2 : JP.PSOK ⟨g.kind, pa, fr, val⟩ 1048576 := by
              have := JP.readO_ok (o := toPO g) (B := 1048576) (by rw [hr]) (by show g.path.data.toList.length ≤ _; rw [list_size]; exact Hg.out.1) (by show g.from_.data.toList.length ≤ _; rw [list_size]; exact Hg.out.2.1)
              rw [hr] at this
              exact this
            have hkk : 1 ≤ g.kind ∧ g.kind ≤ 6 := by
              have := JP.readO_kind (o := toPO g) (by rw [hr])
              rw [hr] at this
              exact this
            have HDo := Lib.hid (pdo_any g.kind pa fr val x s1 s2 s3 u9 n W5 (Hst5.out rfl) hok2 HJ5.out HF.out (HE.out.below HB5.out) hkk)
            have hstep : JP.stepP (toPO g) x = if (JP.doP ⟨g.kind, pa, fr, val⟩ x).1 ≠ 0 then ((JP.doP ⟨g.kind, pa, fr, val⟩ x).1, .nul) else (JP.tellE (JP.doP ⟨g.kind, pa, fr, val⟩ x).2, (JP.doP ⟨g.kind, pa, fr, val⟩ x).2) := by
              unfold JP.stepP
              rw [hr, if_neg (by simp)]
            have hdl := fun h => JP.doP_len hok2 HF.out h
            obtain ⟨d1, y, hdo⟩ : ∃ a b, JP.doP ⟨g.kind, pa, fr, val⟩ x = (a, b) := ⟨_, _, rfl⟩
            rw [hdo] at HDo hstep hdl
            dsimp only at hstep hdl
            have Hdo := Lib.hid hdo
            have Hok2 := Lib.hid hok2
            have Hkk := Lib.hid hkk
            have Hr2 : Hid ((JP.readO (toPO g)).2 = ⟨g.kind, pa, fr, val⟩) := Lib.hid (by rw [hr])
            clear hok2 hkk hdo hr hr' hkd
            go_wp2_with (refine wpList_load_row (by rfl) _ _ (by rfl) gx (by rfl) _ _ _ _ (by exact Bx.out) Tryz.underlying81 rfl (by exact Tryz.sizeStep) ?_)
            refine HDo.out.mono ?_
            rintro E w6 ⟨u, rfl, hz, hb⟩
            have HB6 := Lib.hid (HB5.out.trans (hb.mono HB5.out.size))
            have HI6 := Lib.hid (HI.out _ _ _ HI5.out hb)
            have HJ6 := Lib.hid (HJ5.out.below hb)
            have Bx6 := Lib.hid (below_block hb Bx.out)
            have Hst6 : Hid (StepAt w6 s1 s2 s3 ⟨g.kind, pa, fr, val⟩) := Lib.hid (by
              obtain ⟨p1, p2, n3, p3⟩ := Hst5.out trivial
              exact ⟨p1.below hb, p2.below hb, n3, p3.below hb⟩)
            have Hz := Lib.hid hz
            clear hb hz HDo Bx Hst5
            by_cases hd1 : d1 = 0
            · subst hd1
              rw [if_neg (by simp)] at hstep
              obtain ⟨ky, hjy⟩ := Hz.out rfl
              obtain ⟨hwy, hly⟩ := hdl rfl
              have HTl := Lib.hid (tell_any ky u y w6 hjy (by omega) (by have := JP.size_le_len y; omega) (HE.out.below HB6.out).1)
              have Hjy := Lib.hid hjy
              obtain ⟨te, hte⟩ : ∃ te, JP.tellE y = te := ⟨_, rfl⟩
              obtain ⟨tt, htt⟩ : ∃ te, JP.tellT y = te := ⟨_, rfl⟩
              rw [hte, htt] at HTl
              rw [hte] at hstep
              have Hte := Lib.hid hte
              have Hwy := Lib.hid hwy
              rw [hstep] at HRu2 HSn2
              clear hte htt hstep hjy hwy hly hdl Hz
              go_wp2_with fail
              refine HTl.out.mono ?_
              rintro E w7 ⟨rfl, hb⟩
              have HB7 := Lib.hid (HB6.out.trans (hb.mono HB6.out.size))
              have HI7 := Lib.hid (HI.out _ _ _ HI6.out hb)
              have HJ7 := Lib.hid (HJ6.out.below hb)
              have Bx7 := Lib.hid (below_block hb Bx6.out)
              have Hst7 : Hid (StepAt w7 s1 s2 s3 ⟨g.kind, pa, fr, val⟩) := Lib.hid (by
                obtain ⟨p1, p2, n3, p3⟩ := Hst6.out
                exact ⟨p1.below hb, p2.below hb, n3, p3.below hb⟩)
              have Hjy7 := Lib.hid (Hjy.out.below hb)
              clear hb HTl Bx6 Hst6 Hjy
              by_cases ht0 : te = 0
              · subst ht0
                have HFy := Lib.hid (JP.tell_ok Hwy.out Hte.out).1
                have HRu3 : Hid (JP.runP ((L.map toPO).drop (i + 1)) y (i + 1) = R) := Lib.hid (by rw [← HRu2.out, if_pos rfl])
                have HSn3 : Hid ((dn ++ [(x, ⟨g.kind, pa, fr, val⟩)]) ++ JP.seenP ((L.map toPO).drop (i + 1)) y = S) := Lib.hid (by have := HSn2.out rfl; rw [Hr2.out] at this; exact this)
                have HCl := Lib.hid (HC.out dn x g.kind pa fr val u9 s1 s2 s3 n w7 HI7.out HJ7.out HF.out Hst7.out Hok2.out Hkk.out (by rw [Hdo.out]) HB7.out (by have := Hdn.out; omega))
                clear HRu2 HSn2 Hst7
                go_wp2_with (refine wpList_load_row (by rfl) _ _ (by rfl) gx (by rfl) _ _ _ _ (by exact Bx7.out) Tryz.underlying81 rfl (by exact Tryz.sizeStep) ?_)
                refine HCl.out.mono ?_
                rintro E w8 ⟨rfl, hi8, hk8, hb8⟩
                have HI8 := Lib.hid hi8
                have HB8 := Lib.hid hb8
                have HJ8 := Lib.hid (((Hoff.out _ _ _ _ _ HI7.out Hjy7.out).keepT hk8).fresh (T' := []) (fun b hb => by cases hb))
                clear hi8 hk8 hb8 HCl Bx7
                go_wp2_with fail
                go_roundg k
                case measure => omega
                case rel => exact ⟨i + 1, ky, y, dn ++ [(x, ⟨g.kind, pa, fr, val⟩)], by omega, by go_num, HJ8, HFy, HRu3, HSn3, HI8, HB8, Lib.hid (by rw [List.length_append]; have := Hdn.out; show _ + 1 ≤ _; omega)⟩
              · have n1 : (te != 0) = true := by rw [bne_iff_ne]; exact ht0
                have HR2 : Hid (R = (te, i, .nul)) := Lib.hid (by rw [← HRu2.out, if_neg ht0])
                have Hne := Lib.hid ht0
                clear ht0
                go_wp2_with fail
                go_ret3
                exact .no (by rw [HR2.out]) (by rw [HR2.out]) Hne.out HB7.out
            · rw [if_pos hd1] at hstep
              have n1 : (d1 == 0) = false := by rw [beq_eq_false_iff_ne]; exact hd1
              have n2 : (d1 != 0) = true := by rw [bne_iff_ne]; exact hd1
              have HR2 : Hid (R = (d1, i, .nul)) := Lib.hid (by rw [← HRu2.out, hstep, if_neg hd1])
              have Hne := Lib.hid hd1
              clear hd1 hstep hdl
              go_wp2_with fail
              go_ret3
              exact .no (by rw [HR2.out]) (by rw [HR2.out]) Hne.out HB6.out
          · have n1 : (r1 != 0) = true := by rw [bne_iff_ne]; exact hr1
            have hstep : JP.stepP (toPO g) x = (r1, .nul) := by
              unfold JP.stepP
              rw [hr, if_pos hr1]
            have HR2 : Hid (R = (r1, i, .nul)) := Lib.hid (by rw [← HRu2.out, hstep, if_neg hr1])
            have Hne := Lib.hid hr1
            clear hr1 hstep hr hr' hkd
            go_wp2_with fail
            go_ret3
            exact .no (by rw [HR2.out]) (by rw [HR2.out]) Hne.out HB5.out
  · have n0 : (er != 0) = true := by rw [bne_iff_ne]; exact he
    rw [if_pos he] at hR
    have HR : Hid (R = (er, 0, .nul)) := Lib.hid hR.symm
    have Hne := Lib.hid he
    clear hR hS he hfit
    go_enter Tryz.func39, Tryz.ntmps39
    go_wp2_with fail
    refine HRd.out.mono ?_
    rintro E w1 ⟨v0, rfl, hj, hb⟩
    have HB1 := Lib.hid (HB0.out.trans (hb.mono HB0.out.size))
    clear hb hj
    go_wp2_with fail
    go_ret3
    exact .no (by rw [HR.out]) (by rw [HR.out]; rfl) Hne.out HB1.out
end Go.Proofs.YtlbolbkikkiifaaGreatDoor
/- patch.Apply: its contract. -/
namespace Go.Proofs.YtlbolbkikkiifaaGreatDoor
open Go.RowKit
open JP (JV Bs)

theorem sees_none (w0 : World) : Sees 40 #[] [] (fun _ _ => True) w0 := by
  intro d x kd pa fr val vx s1 s2 s3 n w _ _ _ _ _ _ _ hb _
  have HB := Lib.hid hb
  clear hb
  show Calls Tryz.prog 40 #[vx, .agg #[.int .i64 kd, s1, s2, s3]] w _
  go_enter Tryz.func40, Tryz.ntmps40
  go_wp2_with fail
  go_end0
  have h : Below w.heap.size w (w.alloc (.cells #[.int .i64 kd, s1, s2, s3] 81)) := (Below.refl _ w).alloc (Nat.le_refl _) _
  exact ⟨rfl, trivial, KeepT.of h, HB.out.trans (h.mono HB.out.size)⟩
def AppAt (d : Bs) (ops : List JP.PO) (w : World) (e : Ending) (w' : World) : Prop := e = .returned (.tuple #[.string (mkB (JP.applyT d ops)), .int .i64 (JP.applyN d ops : Int), .int .i64 (JP.applyE d ops)]) ∧ Below w.heap.size w w'
set_option maxRecDepth 100000 in
set_option maxHeartbeats 3200000 in
theorem apply_any (d : ByteArray) (ov : Value) (L : List GOp) (w : World) (hd : d.size ≤ 1048576) (hL : RowAt OpR 4 w ov L) (hll : L.length ≤ 1048576) (hok : ∀ g ∈ L, OpOK g) (hE : Env w) :
    Calls Tryz.prog 21 #[.string d, ov] w (AppAt d.data.toList (L.map toPO) w) := by
  have HRn := Lib.hid (fun enter => run0_any (f := 40) (G := []) (I := fun _ _ => True) (w0 := w) enter (fun _ _ _ _ _ => trivial) (fun b h => by cases h) (fun _ _ _ _ _ _ h => h) (sees_none w) d ov L w hd (Below.refl _ _) hL hll hok hE trivial)
  have HEn := Lib.hid hE.1
  obtain ⟨ao, co, e1, _⟩ := hL.len
  subst e1
  obtain ⟨ln, hln⟩ : ∃ ln, L.length = ln := ⟨_, rfl⟩
  rw [hln] at HRn ⊢
  obtain ⟨r1, r2, r3, hR⟩ : ∃ a b c, JP.runO d.data.toList (L.map toPO) = (a, b, c) := ⟨_, _, _, rfl⟩
  have hfit : r1 = 0 → JP.Fit r3 := fun h => by have := JP.runO_fit (d := d.data.toList) (ops := L.map toPO) (by rw [hR]; exact h); rw [hR] at this; exact this
  have hE2 : JP.applyE d.data.toList (L.map toPO) = r1 := by unfold JP.applyE; rw [hR]
  have hN2 : JP.applyN d.data.toList (L.map toPO) = r2 := by unfold JP.applyN; rw [hR]
  have hT2 : JP.applyT d.data.toList (L.map toPO) = if r1 = 0 then JP.text r3 else [] := by unfold JP.applyT; rw [hR]
  rw [hR] at HRn
  unfold AppAt
  rw [hE2, hN2, hT2]
  obtain ⟨S, hS⟩ : ∃ S, JP.seenP (L.map toPO) (JP.readL d.data.toList).1 = S := ⟨_, rfl⟩
  rw [hS] at HRn
  obtain ⟨T, hT⟩ : ∃ T, (if r1 = 0 then JP.text r3 else []) = T := ⟨_, rfl⟩
  rw [hT]
  have HT := Lib.hid hT
  have Hfit := Lib.hid hfit
  clear hR hE2 hN2 hT2 hS hL hok hE hfit hT hd hll hln
  have ep : ∀ (a : Array Value) (w : World), (callFunc 40 a).run Tryz.prog w = .ok (.enter 40 a) w := fun a w => by kernel_rfl
  have HRn2 := Lib.hid (HRn.out ep)
  clear ep HRn
  go_enter Tryz.func21, Tryz.ntmps21
  go_wp2_with fail
  refine HRn2.out.mono ?_
  rintro E w1 ⟨u, rfl, hu, hb⟩
  have HB := Lib.hid hb
  by_cases he : r1 = 0
  · subst he
    obtain ⟨⟨k, hj⟩, _⟩ := hu rfl
    have HX := Lib.hid (text_any k u r3 w1 hj (by have h9 : (JP.text r3).length ≤ 2000 := (Hfit.out rfl).2.2.2; omega) (HEn.out.below hb))
    have HT2 : Hid (JP.text r3 = T) := Lib.hid (by rw [← HT.out, if_pos rfl])
    rw [HT2.out] at HX
    clear hu hj hb
    go_wp2_with fail
    refine HX.out.mono ?_
    rintro E w2 ⟨rfl, hb⟩
    have HB2 := Lib.hid (HB.out.trans (hb.mono HB.out.size))
    clear hb
    go_wp2_with fail
    go_ret3
    exact ⟨rfl, HB2.out⟩
  · have n0 : (r1 != 0) = true := by rw [bne_iff_ne]; exact he
    have HT2 : Hid (T = []) := Lib.hid (by rw [← HT.out, if_neg he])
    clear hu hb he
    go_wp2_with fail
    go_ret3
    exact ⟨by rw [HT2.out]; rfl, HB.out⟩
end Go.Proofs.YtlbolbkikkiifaaGreatDoor
/- patch: what leads back behind something was put. -/
namespace Go.Proofs.YtlbolbkikkiifaaGreatDoor
open Go.RowKit
open JP (JV Bs)

theorem Tryz.sizeOp : (Tryz.prog.info? 52).map (·.size) = some 4 := by kernel_rfl
theorem total_mk (l : List Bs) : total (l.map mkB) = (l.map fun s => s.length + 1).sum := by
  unfold total
  rw [List.map_map]
  exact congrArg List.sum (List.map_congr_left fun s _ => by show (mkB s).size + 1 = _; rw [mkB_size])
set_option maxRecDepth 100000 in
set_option maxHeartbeats 1600000 in
theorem point_any {sv : Value} {l : List Bs} {w : World} (hs : StrAt w sv (l.map mkB)) (hl : l.length ≤ 10) (ht : (l.map fun s => s.length + 1).sum ≤ 4194304) (hE : Env w) :
    Calls Tryz.prog 68 #[sv] w fun e w' => e = .returned (.string (mkB (joinK l))) ∧ Below w.heap.size w w' := by
  obtain ⟨m, hm⟩ := hE.2.2
  have HJ := Lib.hid (ptrJoin_any sv (l.map mkB) m w hs (by rw [total_mk]; exact ht) hm)
  have hjl : joinL (l.map mkB) = joinK l := by
    rw [joinL_map, List.map_map]
    have e : ((fun s : ByteArray => s.data.toList) ∘ mkB) = id := by funext s; exact mkB_list s
    rw [e, List.map_id]
  rw [if_neg (by rw [List.length_map]; omega), hjl, show (⟨(joinK l).toArray⟩ : ByteArray) = mkB (joinK l) from rfl] at HJ
  obtain ⟨J, hJ⟩ : ∃ J, joinK l = J := ⟨_, rfl⟩
  rw [hJ] at HJ ⊢
  clear hm hE ht hJ hjl hs
  go_enter Tryz.func68, Tryz.ntmps68
  go_wp2_with fail
  refine HJ.out.mono ?_
  rintro E w1 ⟨rfl, hb⟩
  have HB := Lib.hid hb
  clear hb
  go_wp2_with fail
  go_ret
  exact ⟨rfl, HB.out⟩
def JP.undoO (J : Bs) : Option JV → JP.PO
  | some was => ⟨3, J, [], JP.text was⟩
  | none => ⟨2, J, [], []⟩
def opV (o : JP.PO) : Value := .agg #[.int .i64 o.kind, .string (mkB o.path), .string (mkB o.frm), .string (mkB o.val)]
theorem str_raw {w : World} {v : Value} {L : List ByteArray} (h : StrAt w v L) : RowAt RVal 1 w v (L.map .string) := by
  rcases h.row with ⟨h1, rfl⟩ | ⟨a, c, h1, h2, h3, h4⟩
  · exact .inl ⟨h1, rfl⟩
  · refine .inr ⟨a, c, by rw [List.length_map]; exact h1, by rw [List.length_map]; exact h2, h3, fun j x hx => ?_⟩
    rw [List.getElem?_map] at hx
    obtain ⟨y, hy, rfl⟩ := Option.map_eq_some_iff.1 hx
    obtain ⟨cs, g1, g2, g3⟩ := h4 j y hy
    obtain rfl : cs = [.string y] := g3
    exact ⟨_, g1, g2, rfl, rfl⟩
theorem raw_str {w : World} {v : Value} {L : List ByteArray} (h : RowAt RVal 1 w v (L.map .string)) : StrAt w v L :=
  RowAt.strs (h.ofRaw (by rw [List.length_map]) fun j u x hu hx => by
    rw [List.getElem?_map, hx] at hu
    obtain rfl := Option.some.inj hu
    rfl)
set_option maxRecDepth 100000 in
set_option maxHeartbeats 1600000 in
theorem unput_nil {n : Nat} {v sv : Value} {x : JV} {l : List Bs} {w : World} (hj : JvAt n [] w v x) (hx : JP.Fit x) (hs : StrAt w sv (l.map mkB)) (hl : l.length ≤ 10) (hm : ∀ s ∈ l, s.length ≤ 1048576) (ht : (l.map fun s => s.length + 1).sum ≤ 1048576) (hE : Env w) (h0 : l = []) :
    Calls Tryz.prog 67 #[v, sv] w fun e w' => e = .returned (opV (JP.unputP x l)) ∧ Below w.heap.size w w' := by
  obtain ⟨O, hO⟩ : ∃ O, JP.unputP x l = O := ⟨_, rfl⟩
  rw [hO]
  unfold JP.unputP at hO
  obtain ⟨w2, hw⟩ : ∃ w2, w2 = w.alloc (.cells #[.int .i64 0, .string ⟨#[]⟩, .string ⟨#[]⟩, .string ⟨#[]⟩] 52) := ⟨_, rfl⟩
  have b1 : w2.heap[w.heap.size]? = some (.cells #[.int .i64 0, .string ⟨#[]⟩, .string ⟨#[]⟩, .string ⟨#[]⟩] 52 (0, 0)) := by rw [hw]; exact heap_alloc_new w _
  have hb2 : Below w.heap.size w w2 := by rw [hw]; exact (Below.refl _ w).alloc (Nat.le_refl _) _
  have HB2 := Lib.hid hb2
  have C1 := Lib.hid b1
  have HE := Lib.hid (hE.below hb2)
  have HJ := Lib.hid (hj.below hb2)
  have HS := Lib.hid (hs.below hb2)
  have Hx := Lib.hid hx
  have Hz : Hid ((JP.text x).length ≤ 1000000) := Lib.hid (by have h9 : (JP.text x).length ≤ 2000 := hx.2.2.2; show _ ≤ _; omega)
  have Hm := Lib.hid hm
  have Ht := Lib.hid ht
  have HAt := Lib.hid (at_any HJ.out Hz.out HS.out hm (by omega) HE.out.1 HE.out.2.1)
  subst h0
  rw [if_pos rfl] at hO
  have HO := Lib.hid hO.symm
  obtain ⟨a, c, e1, _⟩ := HS.out.len
  subst e1
  rw [show ([] : List Bs).map mkB = [] from rfl] at HAt HS
  rw [show (List.map mkB ([] : List Bs)).length = 0 from rfl]
  have HTx := Lib.hid (fun (w' : World) (hb : Below w2.heap.size w2 w') => text_any n v x w' (HJ.out.below hb) (by have := Hz.out; omega) (HE.out.1.below hb))
  obtain ⟨X, hX⟩ : ∃ X, JP.text x = X := ⟨_, rfl⟩
  rw [hX] at HO HTx
  clear hb2 b1 hj hs hx hm ht hE hO hX
  go_enter Tryz.func67, Tryz.ntmps67
  go_upto_region 1 with fail
  rw [← hw]
  clear hw
  go_wp2_with fail
  refine HAt.out.mono ?_
  rintro E w3 ⟨u, rfl, hu, hb⟩
  have HB3 := Lib.hid (HB2.out.trans (hb.mono HB2.out.size))
  have HB3r := Lib.hid hb
  have Hu := Lib.hid hu
  clear hb hu HAt
  go_wp2_with fail
  refine (HTx.out w3 HB3r.out).mono ?_
  rintro E w4 ⟨rfl, hb⟩
  have HB4 := Lib.hid (HB3.out.trans (hb.mono HB3.out.size))
  have HB4r := Lib.hid (HB3r.out.trans (hb.mono HB3r.out.size))
  clear hb
  have d9 := below_block HB4r.out C1.out
  have D9 := Lib.hid d9
  clear d9
  go_wp2_with (refine wpList_store_box (by rfl) _ _ _ (by rfl) w.heap.size #[.int .i64 3, .string ⟨#[]⟩, .string ⟨#[]⟩, .string (mkB X)] (by rfl) (by rfl) _ _ (by exact D9.out) (by exact Tryz.sizeOp) (by rfl) (by simp [Value.oneCell']) ?_)
  intro WF bF tF
  have HF := Lib.hid (tF.below HB4.out (Nat.le_refl _))
  have c4 := fun i => cell_block bF i
  go_wp2_with fail
  refine bodyPost_ret (v := .agg #[.int .i64 3, .string ⟨#[]⟩, .string ⟨#[]⟩, .string (mkB X)]) (by simp [results, Tryz.results67, go_sem, c4]) rfl ⟨by rw [HO.out]; rfl, HF.out⟩
set_option maxRecDepth 100000 in
set_option maxHeartbeats 1600000 in
theorem unput_obj {n : Nat} {v sv : Value} {x : JV} {l : List Bs} {w : World} (hj : JvAt n [] w v x) (hx : JP.Fit x) (hs : StrAt w sv (l.map mkB)) (hl : l.length ≤ 10) (hm : ∀ s ∈ l, s.length ≤ 1048576) (ht : (l.map fun s => s.length + 1).sum ≤ 1048576) (hE : Env w) (p : JV) (h0 : l ≠ []) (hp : JP.atW x l.dropLast = some p) (hnl9 : ∀ ls, p ≠ .list ls) :
    Calls Tryz.prog 67 #[v, sv] w fun e w' => e = .returned (opV (JP.unputP x l)) ∧ Below w.heap.size w w' := by
  obtain ⟨O, hO⟩ : ∃ O, JP.unputP x l = O := ⟨_, rfl⟩
  rw [hO]
  unfold JP.unputP at hO
  obtain ⟨w2, hw⟩ : ∃ w2, w2 = w.alloc (.cells #[.int .i64 0, .string ⟨#[]⟩, .string ⟨#[]⟩, .string ⟨#[]⟩] 52) := ⟨_, rfl⟩
  have b1 : w2.heap[w.heap.size]? = some (.cells #[.int .i64 0, .string ⟨#[]⟩, .string ⟨#[]⟩, .string ⟨#[]⟩] 52 (0, 0)) := by rw [hw]; exact heap_alloc_new w _
  have hb2 : Below w.heap.size w w2 := by rw [hw]; exact (Below.refl _ w).alloc (Nat.le_refl _) _
  have HB2 := Lib.hid hb2
  have C1 := Lib.hid b1
  have HE := Lib.hid (hE.below hb2)
  have HJ := Lib.hid (hj.below hb2)
  have HS := Lib.hid (hs.below hb2)
  have Hx := Lib.hid hx
  have Hz : Hid ((JP.text x).length ≤ 1000000) := Lib.hid (by have h9 : (JP.text x).length ≤ 2000 := hx.2.2.2; show _ ≤ _; omega)
  have Hm := Lib.hid hm
  have Ht := Lib.hid ht
  have HAt := Lib.hid (at_any HJ.out Hz.out HS.out hm (by omega) HE.out.1 HE.out.2.1)
  obtain ⟨il, s, hls⟩ : ∃ r s, l = r ++ [s] := by
    rcases JP.nil_or_snoc l with h | h
    · exact absurd h h0
    · exact h
  rw [if_neg h0] at hO
  have hdl : l.dropLast = il := by rw [hls]; exact List.dropLast_concat
  have hgl : l.getLast? = some s := by rw [hls]; exact List.getLast?_concat
  rw [hdl, hgl] at hO
  rw [hdl] at hp
  rw [hp] at hO
  try dsimp only at hO
  obtain ⟨a1, c1, e1, hcap, _⟩ := HS.out.len
  subst e1
  have hnl : l.length = il.length + 1 := by rw [hls, List.length_append]; rfl
  have htk : l.take il.length = il := by rw [hls]; exact List.take_left
  have hrow := row_take HS.out.row (m := il.length) (by rw [List.length_map]; omega)
  rw [← List.map_take, htk] at hrow
  have HSi := Lib.hid (RowAt.strs hrow)
  rw [List.length_map] at HAt HS hcap
  rw [List.length_map]
  obtain ⟨np, hnp⟩ : ∃ n, l.length = n := ⟨_, rfl⟩
  obtain ⟨m1, hm1⟩ : ∃ n, il.length = n := ⟨_, rfl⟩
  rw [hnp] at HAt HS hcap
  rw [hm1] at HSi hnl
  rw [hnp]
  rw [hnp] at hnl hl
  have HAt2 := Lib.hid (fun (w' : World) (hb : Below w2.heap.size w2 w') => at_any (HJ.out.below hb) Hz.out (HSi.out.below hb) (fun t h => hm t (by rw [hls]; exact List.mem_append_left _ h)) (by rw [hm1]; omega) (HE.out.below hb).1 (HE.out.below hb).2.1)
  rw [hp] at HAt2
  have z0 : ((np : Int) == 0) = false := by rw [beq_eq_false_iff_ne]; omega
  have z1 : IntKind.i64.wrap ((np : Int) - 1) = (m1 : Int) := by rw [IntWalk.i64_in _ (by omega)]; omega
  have z2 : (0 : Int) ≤ (m1 : Int) := by omega
  have z3 : (m1 : Int) ≤ (c1 : Int) := by omega
  have z4 : (m1 : Int) < (np : Int) := by omega
  have HPt := Lib.hid (fun (w' : World) (hb : Below w2.heap.size w2 w') => point_any (HS.out.below hb) (by rw [hnp]; exact hl) (by omega) (HE.out.below hb))
  obtain ⟨J, hJ⟩ : ∃ J, joinK l = J := ⟨_, rfl⟩
  rw [hJ] at HPt
  obtain ⟨A, hA⟩ : ∃ A, JP.atW x l = A := ⟨_, rfl⟩
  rw [hA] at HAt
  have hO2 : JP.undoO J A = O := by
    rw [← hJ, ← hA]
    cases p with
    | list ls => exact absurd rfl (hnl9 ls)
    | _ => (cases h9 : JP.atW x l <;> rw [h9] at hO <;> exact hO)
  have Hnl := Lib.hid hnl9
  cases A with
  | none =>
    have HO : Hid (O = ⟨2, J, [], []⟩) := Lib.hid hO2.symm
    clear hnl hcap hl hb2 b1 hj hs hx hm ht hE hO hO2 hJ hA hnp hm1 hls hdl hgl hp htk hrow hnl9 h0
    go_enter Tryz.func67, Tryz.ntmps67
    go_upto_region 1 with fail
    rw [← hw]
    clear hw
    go_wp2_with fail
    refine HAt.out.mono ?_
    rintro E w3 ⟨u, rfl, hu, hb⟩
    have HB3 := Lib.hid (HB2.out.trans (hb.mono HB2.out.size))
    have HB3r := Lib.hid hb
    have Hu := Lib.hid hu
    clear hb hu HAt
    go_wp2_with fail
    refine (HAt2.out w3 HB3r.out).mono ?_
    rintro E w4 ⟨u2, rfl, hu, hb⟩
    obtain ⟨ku, hju⟩ := hu p rfl
    have Hju := Lib.hid hju
    have HB4 := Lib.hid (HB3.out.trans (hb.mono HB3.out.size))
    have HB4r := Lib.hid (HB3r.out.trans (hb.mono HB3r.out.size))
    clear hb hu hju
    have G1 := as_nolist Hju.out Hnl.out
    go_wp2_with fail
    refine (HPt.out w4 HB4r.out).mono ?_
    rintro E w5 ⟨rfl, hb⟩
    have HB5 := Lib.hid (HB4.out.trans (hb.mono HB4.out.size))
    have HB5r := Lib.hid (HB4r.out.trans (hb.mono HB4r.out.size))
    clear hb
    have d9 := below_block HB5r.out C1.out
    have D9 := Lib.hid d9
    clear d9
    go_wp2_with (refine wpList_store_box (by rfl) _ _ _ (by rfl) w.heap.size #[.int .i64 2, .string (mkB J), .string ⟨#[]⟩, .string ⟨#[]⟩] (by rfl) (by rfl) _ _ (by exact D9.out) (by exact Tryz.sizeOp) (by rfl) (by simp [Value.oneCell']) ?_)
    intro WF bF tF
    have HF := Lib.hid (tF.below HB5.out (Nat.le_refl _))
    have c4 := fun i => cell_block bF i
    go_wp2_with fail
    refine bodyPost_ret (v := .agg #[.int .i64 2, .string (mkB J), .string ⟨#[]⟩, .string ⟨#[]⟩]) (by simp [results, Tryz.results67, go_sem, c4]) rfl ⟨by rw [HO.out]; rfl, HF.out⟩
  | some was =>
    have HO : Hid (O = ⟨3, J, [], JP.text was⟩) := Lib.hid hO2.symm
    have hfw := JP.at_fit Hx.out hA
    have Hzw : Hid ((JP.text was).length ≤ 4194304) := Lib.hid (by have h9 : (JP.text was).length ≤ 2000 := hfw.2.2.2; show _ ≤ _; omega)
    obtain ⟨X, hX⟩ : ∃ X, JP.text was = X := ⟨_, rfl⟩
    have HX := Lib.hid hX
    rw [hX] at HO
    clear hnl hcap hl hb2 b1 hj hs hx hm ht hE hO hO2 hJ hA hnp hm1 hls hdl hgl hp htk hrow hnl9 h0 hX hfw
    go_enter Tryz.func67, Tryz.ntmps67
    go_upto_region 1 with fail
    rw [← hw]
    clear hw
    go_wp2_with fail
    refine HAt.out.mono ?_
    rintro E w3 ⟨u, rfl, hu, hb⟩
    have HB3 := Lib.hid (HB2.out.trans (hb.mono HB2.out.size))
    have HB3r := Lib.hid hb
    have Hu := Lib.hid hu
    clear hb hu HAt
    obtain ⟨kw, hjw⟩ := Hu.out was rfl
    have Hjw := Lib.hid hjw
    clear hjw
    go_wp2_with fail
    refine (HAt2.out w3 HB3r.out).mono ?_
    rintro E w4 ⟨u2, rfl, hu, hb⟩
    obtain ⟨ku, hju⟩ := hu p rfl
    have Hju := Lib.hid hju
    have Hjw4 := Lib.hid (Hjw.out.below hb)
    have HB4 := Lib.hid (HB3.out.trans (hb.mono HB3.out.size))
    have HB4r := Lib.hid (HB3r.out.trans (hb.mono HB3r.out.size))
    clear hb hu hju
    have G1 := as_nolist Hju.out Hnl.out
    go_wp2_with fail
    refine (HPt.out w4 HB4r.out).mono ?_
    rintro E w5 ⟨rfl, hb⟩
    have HB5 := Lib.hid (HB4.out.trans (hb.mono HB4.out.size))
    have HB5r := Lib.hid (HB4r.out.trans (hb.mono HB4r.out.size))
    have HTx := Lib.hid (text_any kw u was w5 (Hjw4.out.below hb) Hzw.out (HE.out.1.below HB5r.out))
    rw [HX.out] at HTx
    clear hb
    go_wp2_with fail
    refine HTx.out.mono ?_
    rintro E w6 ⟨rfl, hb⟩
    have HB6 := Lib.hid (HB5.out.trans (hb.mono HB5.out.size))
    have HB6r := Lib.hid (HB5r.out.trans (hb.mono HB5r.out.size))
    clear hb
    have d9 := below_block HB6r.out C1.out
    have D9 := Lib.hid d9
    clear d9
    go_wp2_with (refine wpList_store_box (by rfl) _ _ _ (by rfl) w.heap.size #[.int .i64 3, .string (mkB J), .string ⟨#[]⟩, .string (mkB X)] (by rfl) (by rfl) _ _ (by exact D9.out) (by exact Tryz.sizeOp) (by rfl) (by simp [Value.oneCell']) ?_)
    intro WF bF tF
    have HF := Lib.hid (tF.below HB6.out (Nat.le_refl _))
    have c4 := fun i => cell_block bF i
    go_wp2_with fail
    refine bodyPost_ret (v := .agg #[.int .i64 3, .string (mkB J), .string ⟨#[]⟩, .string (mkB X)]) (by simp [results, Tryz.results67, go_sem, c4]) rfl ⟨by rw [HO.out]; rfl, HF.out⟩
set_option maxRecDepth 100000 in
set_option maxHeartbeats 1600000 in
theorem unput_list {n : Nat} {v sv : Value} {x : JV} {l : List Bs} {w : World} (hj : JvAt n [] w v x) (hx : JP.Fit x) (hs : StrAt w sv (l.map mkB)) (hl : l.length ≤ 10) (hm : ∀ s ∈ l, s.length ≤ 1048576) (ht : (l.map fun s => s.length + 1).sum ≤ 1048576) (hE : Env w) (ls : List JV) (h0 : l ≠ []) (hp : JP.atW x l.dropLast = some (.list ls)) :
    Calls Tryz.prog 67 #[v, sv] w fun e w' => e = .returned (opV (JP.unputP x l)) ∧ Below w.heap.size w w' := by
  obtain ⟨O, hO⟩ : ∃ O, JP.unputP x l = O := ⟨_, rfl⟩
  rw [hO]
  unfold JP.unputP at hO
  obtain ⟨w2, hw⟩ : ∃ w2, w2 = w.alloc (.cells #[.int .i64 0, .string ⟨#[]⟩, .string ⟨#[]⟩, .string ⟨#[]⟩] 52) := ⟨_, rfl⟩
  have b1 : w2.heap[w.heap.size]? = some (.cells #[.int .i64 0, .string ⟨#[]⟩, .string ⟨#[]⟩, .string ⟨#[]⟩] 52 (0, 0)) := by rw [hw]; exact heap_alloc_new w _
  have hb2 : Below w.heap.size w w2 := by rw [hw]; exact (Below.refl _ w).alloc (Nat.le_refl _) _
  have HB2 := Lib.hid hb2
  have C1 := Lib.hid b1
  have HE := Lib.hid (hE.below hb2)
  have HJ := Lib.hid (hj.below hb2)
  have HS := Lib.hid (hs.below hb2)
  have Hx := Lib.hid hx
  have Hz : Hid ((JP.text x).length ≤ 1000000) := Lib.hid (by have h9 : (JP.text x).length ≤ 2000 := hx.2.2.2; show _ ≤ _; omega)
  have Hm := Lib.hid hm
  have Ht := Lib.hid ht
  have HAt := Lib.hid (at_any HJ.out Hz.out HS.out hm (by omega) HE.out.1 HE.out.2.1)
  obtain ⟨il, s, hls⟩ : ∃ r s, l = r ++ [s] := by
    rcases JP.nil_or_snoc l with h | h
    · exact absurd h h0
    · exact h
  rw [if_neg h0] at hO
  have hdl : l.dropLast = il := by rw [hls]; exact List.dropLast_concat
  have hgl : l.getLast? = some s := by rw [hls]; exact List.getLast?_concat
  rw [hdl, hgl] at hO
  rw [hdl] at hp
  rw [hp] at hO
  try dsimp only at hO
  obtain ⟨a1, c1, e1, hcap, _⟩ := HS.out.len
  subst e1
  have hnl : l.length = il.length + 1 := by rw [hls, List.length_append]; rfl
  have htk : l.take il.length = il := by rw [hls]; exact List.take_left
  have hrow := row_take HS.out.row (m := il.length) (by rw [List.length_map]; omega)
  rw [← List.map_take, htk] at hrow
  have HSi := Lib.hid (RowAt.strs hrow)
  rw [List.length_map] at HAt HS hcap
  rw [List.length_map]
  obtain ⟨np, hnp⟩ : ∃ n, l.length = n := ⟨_, rfl⟩
  obtain ⟨m1, hm1⟩ : ∃ n, il.length = n := ⟨_, rfl⟩
  rw [hnp] at HAt HS hcap
  rw [hm1] at HSi hnl
  rw [hnp]
  rw [hnp] at hnl hl
  have HAt2 := Lib.hid (fun (w' : World) (hb : Below w2.heap.size w2 w') => at_any (HJ.out.below hb) Hz.out (HSi.out.below hb) (fun t h => hm t (by rw [hls]; exact List.mem_append_left _ h)) (by rw [hm1]; omega) (HE.out.below hb).1 (HE.out.below hb).2.1)
  rw [hp] at HAt2
  have z0 : ((np : Int) == 0) = false := by rw [beq_eq_false_iff_ne]; omega
  have z1 : IntKind.i64.wrap ((np : Int) - 1) = (m1 : Int) := by rw [IntWalk.i64_in _ (by omega)]; omega
  have z2 : (0 : Int) ≤ (m1 : Int) := by omega
  have z3 : (m1 : Int) ≤ (c1 : Int) := by omega
  have z4 : (m1 : Int) < (np : Int) := by omega
  have HPt := Lib.hid (fun (w' : World) (hb : Below w2.heap.size w2 w') => point_any (HS.out.below hb) (by rw [hnp]; exact hl) (by omega) (HE.out.below hb))
  obtain ⟨J, hJ⟩ : ∃ J, joinK l = J := ⟨_, rfl⟩
  rw [hJ] at HPt
  have Hm10 : Hid (m1 ≤ 10) := Lib.hid (by show _ ≤ _; omega)
  have hfp := JP.at_fit Hx.out hp
  have hlen : ls.length ≤ 2000 := by have h9 : (JP.text (.list ls)).length ≤ 2000 := hfp.2.2.2; have := lenL_len ls; have := JP.list_len_ge ls; omega
  obtain ⟨b, off, c', hv9, _, _, hbs, hcell⟩ := HS.out.row.form (by rw [List.length_map, hnp]; omega) (by omega)
  injection hv9 with v1 v2 v3
  subst v1
  clear v2 v3
  obtain ⟨ds, _, hcc, hR⟩ := hcell m1 (mkB s) (by rw [List.getElem?_map, hls, ← hm1, List.getElem?_append_right (Nat.le_refl _), Nat.sub_self]; rfl)
  obtain rfl : ds = [.string (mkB s)] := hR
  have He0 : Hid (w2.cell? ⟨b, off + m1, none⟩ = some (.string (mkB s))) := Lib.hid (by simpa using hcc 0 _ rfl)
  have Hbs := Lib.hid hbs
  have tl := mkB_toList s
  clear hcc hcell hbs
  by_cases hsd : s = [45]
  · have hsB : (s == [45]) = true := by rw [hsd]; rfl
    rw [if_pos (by rw [hsd])] at hO
    have hil : ∀ t ∈ il, t.length ≤ 1048576 := fun t h => hm t (by rw [hls]; exact List.mem_append_left _ h)
    have hit := Lib.itoa_length_le (ls.length : Int) (by omega) (by omega)
    have htot : ((il ++ [Lib.itoa (ls.length : Int)]).map fun s => s.length + 1).sum ≤ 4194304 := by
      have h9 := ht
      rw [hls, List.map_append, List.sum_append] at h9
      rw [List.map_append, List.sum_append]
      simp only [List.map_cons, List.map_nil, List.sum_cons, List.sum_nil] at h9 ⊢
      omega
    have Hpt := Lib.hid (fun (w' : World) (sv' : Value) (h : StrAt w' sv' ((il ++ [Lib.itoa (ls.length : Int)]).map mkB)) (hb : Below w2.heap.size w2 w') => point_any h (by rw [List.length_append, hm1]; simp only [List.length_cons, List.length_nil]; omega) htot (HE.out.below hb))
    obtain ⟨J2, hJ2⟩ : ∃ J, joinK (il ++ [Lib.itoa (ls.length : Int)]) = J := ⟨_, rfl⟩
    rw [hJ2] at Hpt hO
    have HO := Lib.hid hO.symm
    have HIt := Lib.hid (fun (w' : World) (hb : Below w2.heap.size w2 w') => Tryz.strconv_Itoa (ls.length : Int) (by omega) (by omega) w' (HE.out.1.below hb))
    have hL9 : (il ++ [Lib.itoa (ls.length : Int)]).map mkB = il.map mkB ++ [mkB (Lib.itoa (ls.length : Int))] := by rw [List.map_append]; rfl
    rw [hL9] at Hpt
    rw [show (⟨(Lib.itoa (ls.length : Int)).toArray⟩ : ByteArray) = mkB (Lib.itoa (ls.length : Int)) from rfl] at HIt
    obtain ⟨IT, hIT⟩ : ∃ J, mkB (Lib.itoa (ls.length : Int)) = J := ⟨_, rfl⟩
    rw [hIT] at HIt Hpt
    obtain ⟨ll, hll⟩ : ∃ n, ls.length = n := ⟨_, rfl⟩
    rw [hll] at HIt hlen
    have Hll := Lib.hid hll
    have Hm1 := Lib.hid hm1
    obtain ⟨i0, hi0, hz0, hz1, hz2⟩ := info_parts Tryz.infoStr
    clear hnl hcap hl hb2 b1 hj hs hx hm ht hE hO hJ hnp hm1 hls hdl hgl hp htk hrow h0 hil hit htot hJ2 hIT hL9 hll hfp HPt hsd
    go_enter Tryz.func67, Tryz.ntmps67
    go_upto_region 1 with fail
    rw [← hw]
    clear hw
    go_wp2_with fail
    refine HAt.out.mono ?_
    rintro E w3 ⟨u, rfl, hu, hb⟩
    have HB3 := Lib.hid (HB2.out.trans (hb.mono HB2.out.size))
    have HB3r := Lib.hid hb
    have Hu := Lib.hid hu
    clear hb hu HAt
    go_wp2_with fail
    refine (HAt2.out w3 HB3r.out).mono ?_
    rintro E w4 ⟨u2, rfl, hu, hb⟩
    obtain ⟨ku, hju⟩ := hu _ rfl
    obtain ⟨kn, rfl⟩ : ∃ kn, ku = kn + 1 := by cases ku with | zero => cases hju | succ k => exact ⟨k, rfl⟩
    obtain ⟨ul, rfl, hrw, _⟩ := hju
    obtain ⟨al, cl, e9, _⟩ := hrw.len
    rw [Hll.out] at e9
    subst e9
    have HB4 := Lib.hid (HB3.out.trans (hb.mono HB3.out.size))
    have HB4r := Lib.hid (HB3r.out.trans (hb.mono HB3r.out.size))
    clear hb hu hrw
    have G1 := (as_list (.slice al ll cl)).2.2.2.1
    have e0 : w4.cell? ⟨b, off + m1, none⟩ = some (.string (mkB s)) := (HB4r.out.cell (p := ⟨b, _, none⟩) Hbs.out).trans He0.out
    have HCl := Lib.hid (cloneStr_any _ _ w4 (str_raw (HSi.out.below HB4r.out)) (by rw [List.length_map, List.length_map, Hm1.out]; have := Hm10.out; omega))
    go_wp2_with fail
    refine HCl.out.mono ?_
    rintro E w5 ⟨vc, rfl, hown, hb⟩
    have HOwn := Lib.hid hown
    have HB5 := Lib.hid (HB4.out.trans (hb.mono HB4.out.size))
    have HB5r := Lib.hid (HB4r.out.trans (hb.mono HB4r.out.size))
    have Hs5 := Lib.hid (show w4.heap.size ≤ w5.heap.size from hb.size)
    have HIt5 := Lib.hid (HIt.out w5 HB5r.out)
    clear hb hown HIt e0
    go_wp2_with fail
    refine HIt5.out.mono ?_
    rintro E w6 ⟨rfl, k2, os, hw6⟩
    have hb6 : Below w5.heap.size w5 w6 := by rw [hw6]; exact Lib.below_grow _ _ (Nat.le_refl _) _ _
    have HB6 := Lib.hid (HB5.out.trans (hb6.mono HB5.out.size))
    have HB6r := Lib.hid (HB5r.out.trans (hb6.mono HB5r.out.size))
    have hb7 : Below w6.heap.size w6 (w6.alloc (.cells #[.string IT] 9)) := (Below.refl _ w6).alloc (Nat.le_refl _) _
    have HB7 := Lib.hid (HB6.out.trans (hb7.mono HB6.out.size))
    have HB7r := Lib.hid (HB6r.out.trans (hb7.mono HB6r.out.size))
    have HOwn7 := Lib.hid ((HOwn.out.below stays_val hb6).below stays_val hb7)
    have Hs7 : Hid (w4.heap.size ≤ (w6.alloc (.cells #[.string IT] 9)).heap.size) := Lib.hid (Nat.le_trans Hs5.out (Nat.le_trans hb6.size hb7.size))
    clear hw6 hb6 hb7 HIt5
    have bd1 : ((il.map mkB).map Value.string).length + [Value.string IT].length ≤ maxLen := by unfold maxLen; rw [List.length_map, List.length_map, Hm1.out]; simp only [List.length_cons, List.length_nil]; have := Hm10.out; omega
    have bd2 : (((il.map mkB).map Value.string).length + [Value.string IT].length) * 16 ≤ 140737488355328 := by rw [List.length_map, List.length_map, Hm1.out]; simp only [List.length_cons, List.length_nil]; have := Hm10.out; omega
    have hr1 : RowAt RVal 1 (w6.alloc (.cells #[.string IT] 9)) (.slice (some ⟨w6.heap.size, 0, none⟩) 1 1) [Value.string IT] := RowAt.one (R := RVal) (x := Value.string IT) (heap_alloc_new w6 _) rfl ⟨rfl, rfl⟩
    go_wp2_with (at_builtin; refine wpList_append_ownAt (R := RVal) (k := 1) (e := 9) (B := w4.heap.size) (l := (il.map mkB).map .string) (m := [.string IT]) _ (by rfl) _ _ _ (by rfl) i0 _ 16 Tryz.underlying24 hi0 hz0 hz1 hz2 rfl (by omega) flat_val one_val _ (by rfl) HOwn7.out _ (by rfl) hr1 bd1 bd2 Hs7.out ?_)
    intro v8 w8 hv8 hg8 hr8 _
    have hb8 : Below w4.heap.size (w6.alloc (.cells #[.string IT] 9)) w8 := below_of_grown (Below.refl _ _) Hs7.out hg8 hr8
    have HB8 := Lib.hid (HB7.out.trans (hb8.mono HB4.out.size))
    have HB8r := Lib.hid (HB7r.out.trans (hb8.mono HB4r.out.size))
    have hst8 : StrAt w8 v8 (il.map mkB ++ [IT]) := raw_str (by have h9 := hv8.row; rw [List.map_append, List.map_map]; exact h9)
    have HP8 := Lib.hid (Hpt.out w8 v8 hst8 HB8r.out)
    clear hv8 hg8 hr8 hb8 hst8 HOwn7 HOwn Hpt
    go_wp2_with fail
    refine HP8.out.mono ?_
    rintro E w9 ⟨rfl, hb⟩
    have HB9 := Lib.hid (HB8.out.trans (hb.mono HB8.out.size))
    have HB9r := Lib.hid (HB8r.out.trans (hb.mono HB8r.out.size))
    clear hb
    have d9 := below_block HB9r.out C1.out
    have D9 := Lib.hid d9
    clear d9
    go_wp2_with (refine wpList_store_box (by rfl) _ _ _ (by rfl) w.heap.size #[.int .i64 2, .string (mkB J2), .string ⟨#[]⟩, .string ⟨#[]⟩] (by rfl) (by rfl) _ _ (by exact D9.out) (by exact Tryz.sizeOp) (by rfl) (by simp [Value.oneCell']) ?_)
    intro WF bF tF
    have HF := Lib.hid (tF.below HB9.out (Nat.le_refl _))
    have c4 := fun i => cell_block bF i
    go_wp2_with fail
    refine bodyPost_ret (v := .agg #[.int .i64 2, .string (mkB J2), .string ⟨#[]⟩, .string ⟨#[]⟩]) (by simp [results, Tryz.results67, go_sem, c4]) rfl ⟨by rw [HO.out]; rfl, HF.out⟩
  · have hsB : (s == [45]) = false := by rw [beq_eq_false_iff_ne]; exact hsd
    rw [if_neg (fun e => hsd (Option.some.inj e)), hJ] at hO
    have HO := Lib.hid hO.symm
    obtain ⟨ll, hll⟩ : ∃ n, ls.length = n := ⟨_, rfl⟩
    have Hll := Lib.hid hll
    clear hnl hcap hl hb2 b1 hj hs hx hm ht hE hO hJ hnp hm1 hls hdl hgl hp htk hrow h0 hll hfp hlen hsd
    go_enter Tryz.func67, Tryz.ntmps67
    go_upto_region 1 with fail
    rw [← hw]
    clear hw
    go_wp2_with fail
    refine HAt.out.mono ?_
    rintro E w3 ⟨u, rfl, hu, hb⟩
    have HB3 := Lib.hid (HB2.out.trans (hb.mono HB2.out.size))
    have HB3r := Lib.hid hb
    have Hu := Lib.hid hu
    clear hb hu HAt
    go_wp2_with fail
    refine (HAt2.out w3 HB3r.out).mono ?_
    rintro E w4 ⟨u2, rfl, hu, hb⟩
    obtain ⟨ku, hju⟩ := hu _ rfl
    obtain ⟨kn, rfl⟩ : ∃ kn, ku = kn + 1 := by cases ku with | zero => cases hju | succ k => exact ⟨k, rfl⟩
    obtain ⟨ul, rfl, hrw, _⟩ := hju
    obtain ⟨al, cl, e9, _⟩ := hrw.len
    rw [Hll.out] at e9
    subst e9
    have HB4 := Lib.hid (HB3.out.trans (hb.mono HB3.out.size))
    have HB4r := Lib.hid (HB3r.out.trans (hb.mono HB3r.out.size))
    clear hb hu hrw
    have G1 := (as_list (.slice al ll cl)).2.2.2.1
    have e0 : w4.cell? ⟨b, off + m1, none⟩ = some (.string (mkB s)) := (HB4r.out.cell (p := ⟨b, _, none⟩) Hbs.out).trans He0.out
    go_wp2_with fail
    refine (HPt.out w4 HB4r.out).mono ?_
    rintro E w5 ⟨rfl, hb⟩
    have HB5 := Lib.hid (HB4.out.trans (hb.mono HB4.out.size))
    have HB5r := Lib.hid (HB4r.out.trans (hb.mono HB4r.out.size))
    clear hb
    have d9 := below_block HB5r.out C1.out
    have D9 := Lib.hid d9
    clear d9
    go_wp2_with (refine wpList_store_box (by rfl) _ _ _ (by rfl) w.heap.size #[.int .i64 2, .string (mkB J), .string ⟨#[]⟩, .string ⟨#[]⟩] (by rfl) (by rfl) _ _ (by exact D9.out) (by exact Tryz.sizeOp) (by rfl) (by simp [Value.oneCell']) ?_)
    intro WF bF tF
    have HF := Lib.hid (tF.below HB5.out (Nat.le_refl _))
    have c4 := fun i => cell_block bF i
    go_wp2_with fail
    refine bodyPost_ret (v := .agg #[.int .i64 2, .string (mkB J), .string ⟨#[]⟩, .string ⟨#[]⟩]) (by simp [results, Tryz.results67, go_sem, c4]) rfl ⟨by rw [HO.out]; rfl, HF.out⟩
theorem unput_any {n : Nat} {v sv : Value} {x : JV} {l : List Bs} {w : World} (hj : JvAt n [] w v x) (hx : JP.Fit x) (hs : StrAt w sv (l.map mkB)) (hl : l.length ≤ 10) (hm : ∀ s ∈ l, s.length ≤ 1048576) (ht : (l.map fun s => s.length + 1).sum ≤ 1048576) (hE : Env w) (hp : l ≠ [] → ∃ p, JP.atW x l.dropLast = some p) :
    Calls Tryz.prog 67 #[v, sv] w fun e w' => e = .returned (opV (JP.unputP x l)) ∧ Below w.heap.size w w' := by
  by_cases h0 : l = []
  · exact unput_nil hj hx hs hl hm ht hE h0
  · obtain ⟨p, hp⟩ := hp h0
    by_cases h : ∃ ls, p = .list ls
    · obtain ⟨ls, rfl⟩ := h
      exact unput_list hj hx hs hl hm ht hE ls h0 hp
    · exact unput_obj hj hx hs hl hm ht hE p h0 hp (fun ls e => h ⟨ls, e⟩)
end Go.Proofs.YtlbolbkikkiifaaGreatDoor
/- The reference's Rest: a remainder that is not below zero. -/
namespace Go.Proofs.YtlbolbkikkiifaaGreatDoor
open Go.RowKit

end Go.Proofs.YtlbolbkikkiifaaGreatDoor
/- The law PatchSplits. -/
namespace Go.Proofs.YtlbolbkikkiifaaGreatDoor
open Go.RowKit
open JP (JV Bs)

theorem mem_opB {L : List GOp} {g : GOp} (h : g ∈ L) : opB g ≤ (L.map opB).sum := by
  induction L with
  | nil => cases h
  | cons a r ih =>
    rw [List.map_cons, List.sum_cons]
    rcases List.mem_cons.1 h with rfl | h
    · omega
    · have := ih h; omega
theorem ops_ok {L : List GOp} (h : (L.map opB).sum ≤ 1048576) : (∀ g ∈ L, OpOK g) ∧ L.length ≤ 1048576 := by
  refine ⟨fun g hg => ?_, ?_⟩
  · have := mem_opB hg
    have h2 : g.path.size + g.from_.size + g.value.size ≤ opB g := by unfold opB; omega
    exact ⟨by omega, by omega, by omega⟩
  · have := sum_ge_length opB (fun x => by unfold opB; omega) L
    omega
theorem row_none {α : Type} {R : Rd α} {k : Nat} {w : World} {a : Addr} {n c : Nat} {l : List α} (h0 : l.length = 0) (hn : n = 0) (hc : c ≤ maxLen) : RowAt R k w (.slice (some a) n c) l := by
  obtain rfl := List.eq_nil_of_length_eq_zero h0
  subst hn
  exact .inr ⟨a, c, rfl, Nat.zero_le _, hc, fun j x hx => by rw [List.getElem?_nil] at hx; cases hx⟩
theorem row_drop {α : Type} {R : Rd α} {k : Nat} {w : World} {a : Addr} {c n : Nat} {l : List α} (hk : 0 < k) (h : RowAt R k w (.slice (some a) n c) l) {m : Nat} (hm : m ≤ n) : RowAt R k w (.slice (some (a.add (m * k))) (n - m) (c - m)) (l.drop m) := by
  obtain ⟨a', c', e1, h1, h2⟩ := h.len
  injection e1 with _ e1 e2
  subst e1; subst e2
  by_cases h0 : l.length = 0
  · exact row_none (by rw [List.length_drop]; omega) (by omega) (by omega)
  · obtain ⟨b, o, c', hv, _⟩ := h.form (by omega) hk
    injection hv with e1 e2 e3
    injection e1 with e1
    subst e1
    have := h.cut rfl (i := m) (j := l.length) hm (Nat.le_refl _)
    rw [List.take_length] at this
    have e : (Addr.add ⟨b, o, none⟩ (m * k)) = ⟨b, o + m * k, none⟩ := add_plain' b o (m * k)
    rw [e]
    exact this
/-- the one step that is none -/
theorem one_op {w : World} {b : Nat} {k : Int} {p f v : ByteArray} {t : TypeId} {fr : Nat × Nat} (hk : (Lit.int .i64 k).wf = true) (h : w.heap[b]? = some (.cells #[.int .i64 k, .string p, .string f, .string v] t fr)) : RowAt OpR 4 w (.slice (some ⟨b, 0, none⟩) 1 1) [⟨k, p, f, v⟩] := by
  refine .inr ⟨⟨b, 0, none⟩, 1, rfl, Nat.le_refl 1, by decide, fun j x hx => ?_⟩
  have hj : j = 0 := by
    rcases Nat.eq_zero_or_pos j with h0 | h0
    · exact h0
    · rw [List.getElem?_eq_none (by show 1 ≤ j; exact h0)] at hx; cases hx
  subst hj
  obtain rfl : (⟨k, p, f, v⟩ : GOp) = x := by simpa using hx
  refine ⟨[.int .i64 k, .string p, .string f, .string v], rfl, fun i u hu => ?_, rfl, hk⟩
  have hc := cell_block h i
  rw [show (Addr.add ⟨b, 0, none⟩ (0 * 4 + i)) = ⟨b, i, none⟩ from by simp [Addr.add]; intro h; exact h.symm]
  rw [hc]
  simpa using hu
end Go.Proofs.YtlbolbkikkiifaaGreatDoor
/- The law PatchTests. -/
namespace Go.Proofs.YtlbolbkikkiifaaGreatDoor
open Go.RowKit
open JP (JV Bs)

theorem flat_op : Flat OpR := fun _ _ _ _ h => h
theorem oneR_op : OneR OpR := fun _ _ _ h u hu => by
  obtain ⟨h1, _⟩ := h
  rw [h1] at hu
  simp only [List.mem_cons, List.not_mem_nil, or_false] at hu
  rcases hu with rfl | rfl | rfl | rfl <;> rfl
theorem Tryz.infoOp : (Tryz.prog.info? 52).map (fun i => (i.zero, i.size, i.bytes)) = some (some (.agg #[.int .i64 0, .string ByteArray.empty, .string ByteArray.empty, .string ByteArray.empty]), 4, 56) := by kernel_rfl
theorem exec_appendP {P : Program} {a : Act} {o : Oper} {w w3 : World} {s x : Operand} {t : TypeId} {v xv v' : Value} (ho : o.op = .call { callee := .builtin .append, args := #[s, x], argTypes := #[t, t] }) (hs : a.eval s = v) (hx : a.eval x = xv)
    (hrun : (Builtin.append_ #[t, t] o.type #[v, xv]).run P w = .ok v' w3) : (execOp a.eval o).run P w = .ok (.value v') w3 := by
  simp [execOp, ho, resolve, invoke, builtin, hs, hx, hrun, Result.andThen]
set_option maxRecDepth 100000 in
set_option maxHeartbeats 800000 in
theorem copyOp_any (v : Value) (l : List GOp) (w : World) (h : RowAt OpR 4 w v l) (hl : l.length ≤ 1048576) :
    Calls Tryz.prog 18 #[v] w fun e w' => ∃ v', e = .returned v' ∧ OwnAt OpR 4 w' w.heap.size 52 v' l ∧ Below w.heap.size w w' := by
  obtain ⟨i0, hi0, hz0, hz1, hz2⟩ := info_parts Tryz.infoOp
  have Hrow := Lib.hid h
  clear h
  go_enter Tryz.func18, Tryz.ntmps18
  go_wp2_with (at_builtin; refine wpList_append_ownAt (R := OpR) (k := 4) (e := 52) (B := w.heap.size) (l := []) (m := l) _ (by rfl) _ _ _ (by rfl) i0 _ 56 Tryz.underlying49 hi0 hz0 hz1 hz2 rfl (by omega) flat_op oneR_op _ (by rfl) (OwnAt.nil _) _ (by rfl) Hrow.out (by unfold maxLen; simp; omega) (by simp; omega) (Nat.le_refl _) ?_)
  intro v' w' hv' hg hr _
  have hb : Below w.heap.size w w' := below_of_grown (Below.refl _ _) (Nat.le_refl _) hg hr
  go_wp2_with fail
  go_ret
  exact ⟨_, rfl, by simpa using hv', hb⟩
end Go.Proofs.YtlbolbkikkiifaaGreatDoor
/- patch: what leads back behind a step. -/
namespace Go.Proofs.YtlbolbkikkiifaaGreatDoor
open Go.RowKit
open JP (JV Bs)

def ofPO (o : JP.PO) : GOp := ⟨o.kind, mkB o.path, mkB o.frm, mkB o.val⟩
theorem to_of (o : JP.PO) : toPO (ofPO o) = o := by unfold toPO ofPO; simp only [mkB_list]
theorem to_ofs (l : List JP.PO) : (l.map ofPO).map toPO = l := by
  rw [List.map_map]
  conv => rhs; rw [← List.map_id l]
  exact List.map_congr_left fun o _ => to_of o
def opC (g : GOp) : List Value := [.int .i64 g.kind, .string g.path, .string g.from_, .string g.value]
theorem own_ops {w : World} {B b : Nat} {L : List GOp} (h : w.heap[b]? = some (.cells (L.flatMap opC).toArray 52 (0, 0))) (hB : B ≤ b) (hwf : ∀ g ∈ L, (Lit.int .i64 g.kind).wf = true) (hl : L.length ≤ 1000) :
    OwnAt OpR 4 w B 52 (.slice (some ⟨b, 0, none⟩) L.length L.length) L := by
  have hlen : (L.flatMap opC).length = L.length * 4 := by
    clear h hwf hl
    induction L with
    | nil => rfl
    | cons g r ih => rw [List.flatMap_cons, List.length_append, ih, List.length_cons]; show 4 + _ = _; omega
  refine ⟨L.map opC, List.length_map .., fun cs hcs => ?_, ⟨?_, .inr ⟨b, L.length, _, rfl, hB, h, Nat.le_refl _, by unfold maxLen; omega, by rw [List.size_toArray, hlen], ?_⟩⟩, fun j cs x hcs hx => ?_⟩
  · obtain ⟨g, _, rfl⟩ := List.mem_map.1 hcs
    rfl
  · show (L.map opC).flatten.length = _
    rw [← List.flatMap_def]; exact hlen
  · show List.take _ (L.flatMap opC) = (L.map opC).flatten
    rw [← List.flatMap_def, ← hlen, List.take_length]
  · rw [List.getElem?_map, hx] at hcs
    obtain rfl := Option.some.inj hcs
    exact ⟨rfl, hwf x (List.mem_of_getElem? hx)⟩
theorem JP.unput_kind (x : JV) (l : List Bs) : (JP.unputP x l).kind = 2 ∨ (JP.unputP x l).kind = 3 := by
  unfold JP.unputP
  split
  · exact .inr rfl
  · split
    · exact .inl rfl
    · split
      · exact .inr rfl
      · exact .inl rfl
theorem JP.ins_up {x y u : JV} {l : List Bs} (hf : JP.Few x) (h : JP.insW x l y = some u) (h0 : l ≠ []) : ∃ p, JP.atW x l.dropLast = some p := by
  unfold JP.insW at h
  rw [if_neg h0] at h
  rcases JP.nil_or_snoc l with e | ⟨r, s, rfl⟩
  · exact absurd e h0
  · obtain ⟨p, q, h1, _, _⟩ := JP.under_split hf h
    exact ⟨p, by rw [List.dropLast_concat]; exact h1⟩
theorem toI_some {o : Option JV} (h : (JP.toI 7 o).1 = 0) : ∃ u, o = some u := ⟨_, JP.toI_ok (by decide) h⟩
/-- what 'back' tells -/
def BackAt (l : List JP.PO) (w : World) (e : Ending) (w' : World) : Prop := ∃ v', e = .returned v' ∧ OwnAt OpR 4 w' w.heap.size 52 v' (l.map ofPO) ∧ Below w.heap.size w w'
theorem kind_wf {k : Int} (h : k = 2 ∨ k = 3) : (Lit.int .i64 k).wf = true := by rcases h with rfl | rfl <;> decide
set_option maxRecDepth 100000 in
set_option maxHeartbeats 3200000 in
theorem back1 (kd : Int) (pa fr : List Bs) (val x : JV) (s1 s2 s3 v : Value) (n : Nat) (w : World) (hs : StepAt w s1 s2 s3 ⟨kd, pa, fr, val⟩) (ok : JP.PSOK ⟨kd, pa, fr, val⟩ 1048576) (hj : JvAt n [] w v x) (hx : JP.Fit x) (hE : Env w) (hd : (JP.doP ⟨kd, pa, fr, val⟩ x).1 = 0) (hk : kd = 1) :
    Calls Tryz.prog 43 #[v, .agg #[.int .i64 kd, s1, s2, s3]] w (BackAt (JP.backP x ⟨kd, pa, fr, val⟩) w) := by
  subst hk
  obtain ⟨hs1, hs2, n3, hs3⟩ := hs
  have hs1 : StrAt w s1 (pa.map mkB) := hs1
  have hs2 : StrAt w s2 (fr.map mkB) := hs2
  obtain ⟨k1, k2, k3, k4, k5, k6, k7⟩ := ok
  dsimp only at k1 k2 k3 k4 k5 k6 k7
  obtain ⟨D, hD⟩ : ∃ D, JP.backP x ⟨1, pa, fr, val⟩ = D := ⟨_, rfl⟩
  rw [hD]
  unfold JP.backP at hD
  dsimp only at hD
  unfold JP.doP at hd
  dsimp only at hd
  obtain ⟨w2, hw⟩ : ∃ w2, w2 = w.alloc (.cells #[.int .i64 1, s1, s2, s3] 81) := ⟨_, rfl⟩
  have b1 : w2.heap[w.heap.size]? = some (.cells #[.int .i64 1, s1, s2, s3] 81 (0, 0)) := by rw [hw]; exact heap_alloc_new w _
  have hb2 : Below w.heap.size w w2 := by rw [hw]; exact (Below.refl _ w).alloc (Nat.le_refl _) _
  have HB2 := Lib.hid hb2
  have C1 := Lib.hid b1
  have HE := Lib.hid (hE.below hb2)
  have HS1 := Lib.hid (hs1.below hb2)
  have HS2 := Lib.hid (hs2.below hb2)
  have HJ := Lib.hid (hj.below hb2)
  have Hx := Lib.hid hx
  have Hz : Hid ((JP.text x).length ≤ 1000000) := Lib.hid (by have h9 : (JP.text x).length ≤ 2000 := hx.2.2.2; show _ ≤ _; omega)
  have HAt := Lib.hid (at_any HJ.out Hz.out HS1.out k1 (by omega) HE.out.1 HE.out.2.1)
  rw [if_pos rfl] at hd
  rw [if_pos (by decide)] at hD
  obtain ⟨u0, hu0⟩ := toI_some hd
  have HUn := Lib.hid (fun (w' : World) (hb : Below w2.heap.size w2 w') => unput_any (HJ.out.below hb) Hx.out (HS1.out.below hb) k3 k1 k6 (HE.out.below hb) (fun h => JP.ins_up (JP.fit_few hx) hu0 h))
  have huk := JP.unput_kind x pa
  obtain ⟨⟨ok, op, of, ov⟩, hO⟩ : ∃ O, JP.unputP x pa = O := ⟨_, rfl⟩
  rw [hO] at HUn hD huk
  unfold opV at HUn
  dsimp only at HUn huk
  have HD := Lib.hid hD.symm
  have Hwf := Lib.hid (kind_wf huk)
  clear hO hu0 huk
  clear hb2 b1 hs1 hs2 hs3 hj hx hE k1 k2 k3 k4 k5 k6 k7 hd hD
  go_enter Tryz.func43, Tryz.ntmps43
  go_upto_region 1 with fail
  rw [← hw]
  clear hw
  have q1 := fun i => cell_block C1.out i
  go_wp2_with fail
  refine HAt.out.mono ?_
  rintro E w3 ⟨u, rfl, hu, hb⟩
  have HB3 := Lib.hid (HB2.out.trans (hb.mono HB2.out.size))
  have HB3r := Lib.hid hb
  have Hu := Lib.hid hu
  have d3 := below_block hb C1.out
  have q3 := fun i => cell_block d3 i
  clear hb hu HAt q1
  go_wp2_with fail
  refine (HUn.out w3 HB3r.out).mono ?_
  rintro E w4 ⟨rfl, hb⟩
  have HB4 := Lib.hid (HB3.out.trans (hb.mono HB3.out.size))
  clear hb q3 d3
  go_wp2_with fail
  go_ret
  refine ⟨_, rfl, ?_, HB4.out.alloc HB4.out.size _⟩
  rw [HD.out]
  exact own_ops (L := [ofPO ⟨ok, op, of, ov⟩]) (heap_alloc_new w4 _) HB4.out.size (fun g hg => by rw [List.mem_singleton.1 hg]; exact Hwf.out) (by show 1 ≤ 1000; decide)
set_option maxRecDepth 100000 in
set_option maxHeartbeats 3200000 in
theorem back5 (kd : Int) (pa fr : List Bs) (val x : JV) (s1 s2 s3 v : Value) (n : Nat) (w : World) (hs : StepAt w s1 s2 s3 ⟨kd, pa, fr, val⟩) (ok : JP.PSOK ⟨kd, pa, fr, val⟩ 1048576) (hj : JvAt n [] w v x) (hx : JP.Fit x) (hE : Env w) (hd : (JP.doP ⟨kd, pa, fr, val⟩ x).1 = 0) (hk : kd = 5) :
    Calls Tryz.prog 43 #[v, .agg #[.int .i64 kd, s1, s2, s3]] w (BackAt (JP.backP x ⟨kd, pa, fr, val⟩) w) := by
  subst hk
  obtain ⟨hs1, hs2, n3, hs3⟩ := hs
  have hs1 : StrAt w s1 (pa.map mkB) := hs1
  have hs2 : StrAt w s2 (fr.map mkB) := hs2
  obtain ⟨k1, k2, k3, k4, k5, k6, k7⟩ := ok
  dsimp only at k1 k2 k3 k4 k5 k6 k7
  obtain ⟨D, hD⟩ : ∃ D, JP.backP x ⟨5, pa, fr, val⟩ = D := ⟨_, rfl⟩
  rw [hD]
  unfold JP.backP at hD
  dsimp only at hD
  unfold JP.doP at hd
  dsimp only at hd
  obtain ⟨w2, hw⟩ : ∃ w2, w2 = w.alloc (.cells #[.int .i64 5, s1, s2, s3] 81) := ⟨_, rfl⟩
  have b1 : w2.heap[w.heap.size]? = some (.cells #[.int .i64 5, s1, s2, s3] 81 (0, 0)) := by rw [hw]; exact heap_alloc_new w _
  have hb2 : Below w.heap.size w w2 := by rw [hw]; exact (Below.refl _ w).alloc (Nat.le_refl _) _
  have HB2 := Lib.hid hb2
  have C1 := Lib.hid b1
  have HE := Lib.hid (hE.below hb2)
  have HS1 := Lib.hid (hs1.below hb2)
  have HS2 := Lib.hid (hs2.below hb2)
  have HJ := Lib.hid (hj.below hb2)
  have Hx := Lib.hid hx
  have Hz : Hid ((JP.text x).length ≤ 1000000) := Lib.hid (by have h9 : (JP.text x).length ≤ 2000 := hx.2.2.2; show _ ≤ _; omega)
  have HAt := Lib.hid (at_any HJ.out Hz.out HS1.out k1 (by omega) HE.out.1 HE.out.2.1)
  rw [if_neg (by decide), if_neg (by decide), if_neg (by decide), if_neg (by decide)] at hd
  unfold JP.carryP at hd
  dsimp only at hd
  rw [if_pos (by decide)] at hD
  rw [if_neg (fun e => by cases e.1)] at hd
  obtain ⟨u0, y, hu0⟩ : ∃ u0 y, JP.insW x pa y = some u0 := by
    cases ha : JP.atW x fr with
    | none => rw [ha] at hd; cases hd
    | some y =>
      rw [ha] at hd
      dsimp only at hd
      rw [if_neg (by decide)] at hd
      obtain ⟨u0, hu0⟩ := toI_some hd
      exact ⟨u0, y, hu0⟩
  have HUn := Lib.hid (fun (w' : World) (hb : Below w2.heap.size w2 w') => unput_any (HJ.out.below hb) Hx.out (HS1.out.below hb) k3 k1 k6 (HE.out.below hb) (fun h => JP.ins_up (JP.fit_few hx) hu0 h))
  have huk := JP.unput_kind x pa
  obtain ⟨⟨ok, op, of, ov⟩, hO⟩ : ∃ O, JP.unputP x pa = O := ⟨_, rfl⟩
  rw [hO] at HUn hD huk
  unfold opV at HUn
  dsimp only at HUn huk
  have HD := Lib.hid hD.symm
  have Hwf := Lib.hid (kind_wf huk)
  clear hO hu0 huk
  clear hb2 b1 hs1 hs2 hs3 hj hx hE k1 k2 k3 k4 k5 k6 k7 hd hD
  go_enter Tryz.func43, Tryz.ntmps43
  go_upto_region 1 with fail
  rw [← hw]
  clear hw
  have q1 := fun i => cell_block C1.out i
  go_wp2_with fail
  refine HAt.out.mono ?_
  rintro E w3 ⟨u, rfl, hu, hb⟩
  have HB3 := Lib.hid (HB2.out.trans (hb.mono HB2.out.size))
  have HB3r := Lib.hid hb
  have Hu := Lib.hid hu
  have d3 := below_block hb C1.out
  have q3 := fun i => cell_block d3 i
  clear hb hu HAt q1
  go_wp2_with fail
  refine (HUn.out w3 HB3r.out).mono ?_
  rintro E w4 ⟨rfl, hb⟩
  have HB4 := Lib.hid (HB3.out.trans (hb.mono HB3.out.size))
  clear hb q3 d3
  go_wp2_with fail
  go_ret
  refine ⟨_, rfl, ?_, HB4.out.alloc HB4.out.size _⟩
  rw [HD.out]
  exact own_ops (L := [ofPO ⟨ok, op, of, ov⟩]) (heap_alloc_new w4 _) HB4.out.size (fun g hg => by rw [List.mem_singleton.1 hg]; exact Hwf.out) (by show 1 ≤ 1000; decide)
set_option maxRecDepth 100000 in
set_option maxHeartbeats 3200000 in
theorem back2 (kd : Int) (pa fr : List Bs) (val x : JV) (s1 s2 s3 v : Value) (n : Nat) (w : World) (hs : StepAt w s1 s2 s3 ⟨kd, pa, fr, val⟩) (ok : JP.PSOK ⟨kd, pa, fr, val⟩ 1048576) (hj : JvAt n [] w v x) (hx : JP.Fit x) (hE : Env w) (hd : (JP.doP ⟨kd, pa, fr, val⟩ x).1 = 0) (hk : kd = 2) :
    Calls Tryz.prog 43 #[v, .agg #[.int .i64 kd, s1, s2, s3]] w (BackAt (JP.backP x ⟨kd, pa, fr, val⟩) w) := by
  subst hk
  obtain ⟨hs1, hs2, n3, hs3⟩ := hs
  have hs1 : StrAt w s1 (pa.map mkB) := hs1
  have hs2 : StrAt w s2 (fr.map mkB) := hs2
  obtain ⟨k1, k2, k3, k4, k5, k6, k7⟩ := ok
  dsimp only at k1 k2 k3 k4 k5 k6 k7
  obtain ⟨D, hD⟩ : ∃ D, JP.backP x ⟨2, pa, fr, val⟩ = D := ⟨_, rfl⟩
  rw [hD]
  unfold JP.backP at hD
  dsimp only at hD
  unfold JP.doP at hd
  dsimp only at hd
  obtain ⟨w2, hw⟩ : ∃ w2, w2 = w.alloc (.cells #[.int .i64 2, s1, s2, s3] 81) := ⟨_, rfl⟩
  have b1 : w2.heap[w.heap.size]? = some (.cells #[.int .i64 2, s1, s2, s3] 81 (0, 0)) := by rw [hw]; exact heap_alloc_new w _
  have hb2 : Below w.heap.size w w2 := by rw [hw]; exact (Below.refl _ w).alloc (Nat.le_refl _) _
  have HB2 := Lib.hid hb2
  have C1 := Lib.hid b1
  have HE := Lib.hid (hE.below hb2)
  have HS1 := Lib.hid (hs1.below hb2)
  have HS2 := Lib.hid (hs2.below hb2)
  have HJ := Lib.hid (hj.below hb2)
  have Hx := Lib.hid hx
  have Hz : Hid ((JP.text x).length ≤ 1000000) := Lib.hid (by have h9 : (JP.text x).length ≤ 2000 := hx.2.2.2; show _ ≤ _; omega)
  have HAt := Lib.hid (at_any HJ.out Hz.out HS1.out k1 (by omega) HE.out.1 HE.out.2.1)
  rw [if_neg (by decide), if_pos rfl] at hd
  rw [if_neg (by decide), if_pos rfl] at hD
  by_cases hp0 : pa = []
  · rw [if_pos hp0] at hd; cases hd
  rw [if_neg hp0] at hd
  obtain ⟨u0, hu0⟩ := toI_some hd
  obtain ⟨was, hwas, _⟩ := JP.uncut_back hx (JP.fit_few (JP.cutW_less hx hu0).1) hu0
  rw [hwas] at HAt hD
  have hfw := JP.at_fit hx hwas
  have Hzw : Hid ((JP.text was).length ≤ 4194304) := Lib.hid (by have h9 : (JP.text was).length ≤ 2000 := hfw.2.2.2; show _ ≤ _; omega)
  have HPt := Lib.hid (fun (w' : World) (hb : Below w2.heap.size w2 w') => point_any (HS1.out.below hb) k3 (by omega) (HE.out.below hb))
  obtain ⟨J, hJ⟩ : ∃ J, joinK pa = J := ⟨_, rfl⟩
  obtain ⟨X, hX⟩ : ∃ X, JP.text was = X := ⟨_, rfl⟩
  have hD2 : D = [⟨1, J, [], X⟩] := by rw [← hD, hJ]; show [(⟨_, _, _, JP.text was⟩ : JP.PO)] = _; rw [hX]
  rw [hJ] at HPt
  have HX := Lib.hid hX
  have HD := Lib.hid hD2
  clear hJ hX hfw hwas hD2 hp0 hu0
  clear hb2 b1 hs1 hs2 hs3 hj hx hE k1 k2 k3 k4 k5 k6 k7 hd hD
  go_enter Tryz.func43, Tryz.ntmps43
  go_upto_region 1 with fail
  rw [← hw]
  clear hw
  have q1 := fun i => cell_block C1.out i
  go_wp2_with fail
  refine HAt.out.mono ?_
  rintro E w3 ⟨u, rfl, hu, hb⟩
  have HB3 := Lib.hid (HB2.out.trans (hb.mono HB2.out.size))
  have HB3r := Lib.hid hb
  have Hu := Lib.hid hu
  have d3 := below_block hb C1.out
  have q3 := fun i => cell_block d3 i
  clear hb hu HAt q1
  obtain ⟨kw, hjw⟩ := Hu.out was rfl
  have Hjw := Lib.hid hjw
  clear hjw
  go_wp2_with fail
  refine (HPt.out w3 HB3r.out).mono ?_
  rintro E w4 ⟨rfl, hb⟩
  have HB4 := Lib.hid (HB3.out.trans (hb.mono HB3.out.size))
  have HTx := Lib.hid (text_any kw u was w4 (Hjw.out.below hb) Hzw.out (HE.out.1.below (HB3r.out.trans (hb.mono HB3r.out.size))))
  rw [HX.out] at HTx
  clear hb q3 d3
  go_wp2_with fail
  refine HTx.out.mono ?_
  rintro E w5 ⟨rfl, hb⟩
  have HB5 := Lib.hid (HB4.out.trans (hb.mono HB4.out.size))
  clear hb
  go_wp2_with fail
  go_ret
  refine ⟨_, rfl, ?_, HB5.out.alloc HB5.out.size _⟩
  rw [HD.out]
  exact own_ops (L := [ofPO ⟨1, J, [], X⟩]) (heap_alloc_new w5 _) HB5.out.size (fun g hg => by rw [List.mem_singleton.1 hg]; show (Lit.int .i64 1).wf = true; decide) (by show 1 ≤ 1000; decide)
set_option maxRecDepth 100000 in
set_option maxHeartbeats 3200000 in
theorem back3 (kd : Int) (pa fr : List Bs) (val x : JV) (s1 s2 s3 v : Value) (n : Nat) (w : World) (hs : StepAt w s1 s2 s3 ⟨kd, pa, fr, val⟩) (ok : JP.PSOK ⟨kd, pa, fr, val⟩ 1048576) (hj : JvAt n [] w v x) (hx : JP.Fit x) (hE : Env w) (hd : (JP.doP ⟨kd, pa, fr, val⟩ x).1 = 0) (hk : kd = 3) :
    Calls Tryz.prog 43 #[v, .agg #[.int .i64 kd, s1, s2, s3]] w (BackAt (JP.backP x ⟨kd, pa, fr, val⟩) w) := by
  subst hk
  obtain ⟨hs1, hs2, n3, hs3⟩ := hs
  have hs1 : StrAt w s1 (pa.map mkB) := hs1
  have hs2 : StrAt w s2 (fr.map mkB) := hs2
  obtain ⟨k1, k2, k3, k4, k5, k6, k7⟩ := ok
  dsimp only at k1 k2 k3 k4 k5 k6 k7
  obtain ⟨D, hD⟩ : ∃ D, JP.backP x ⟨3, pa, fr, val⟩ = D := ⟨_, rfl⟩
  rw [hD]
  unfold JP.backP at hD
  dsimp only at hD
  unfold JP.doP at hd
  dsimp only at hd
  obtain ⟨w2, hw⟩ : ∃ w2, w2 = w.alloc (.cells #[.int .i64 3, s1, s2, s3] 81) := ⟨_, rfl⟩
  have b1 : w2.heap[w.heap.size]? = some (.cells #[.int .i64 3, s1, s2, s3] 81 (0, 0)) := by rw [hw]; exact heap_alloc_new w _
  have hb2 : Below w.heap.size w w2 := by rw [hw]; exact (Below.refl _ w).alloc (Nat.le_refl _) _
  have HB2 := Lib.hid hb2
  have C1 := Lib.hid b1
  have HE := Lib.hid (hE.below hb2)
  have HS1 := Lib.hid (hs1.below hb2)
  have HS2 := Lib.hid (hs2.below hb2)
  have HJ := Lib.hid (hj.below hb2)
  have Hx := Lib.hid hx
  have Hz : Hid ((JP.text x).length ≤ 1000000) := Lib.hid (by have h9 : (JP.text x).length ≤ 2000 := hx.2.2.2; show _ ≤ _; omega)
  have HAt := Lib.hid (at_any HJ.out Hz.out HS1.out k1 (by omega) HE.out.1 HE.out.2.1)
  rw [if_neg (by decide), if_neg (by decide), if_pos rfl] at hd
  rw [if_neg (by decide), if_neg (by decide), if_pos rfl] at hD
  obtain ⟨was, hwas⟩ : ∃ was, JP.atW x pa = some was := by
    cases ha : JP.atW x pa with
    | none => rw [ha] at hd; cases hd
    | some y => exact ⟨y, rfl⟩
  rw [hwas] at HAt hD
  have hfw := JP.at_fit hx hwas
  have Hzw : Hid ((JP.text was).length ≤ 4194304) := Lib.hid (by have h9 : (JP.text was).length ≤ 2000 := hfw.2.2.2; show _ ≤ _; omega)
  have HPt := Lib.hid (fun (w' : World) (hb : Below w2.heap.size w2 w') => point_any (HS1.out.below hb) k3 (by omega) (HE.out.below hb))
  obtain ⟨J, hJ⟩ : ∃ J, joinK pa = J := ⟨_, rfl⟩
  obtain ⟨X, hX⟩ : ∃ X, JP.text was = X := ⟨_, rfl⟩
  have hD2 : D = [⟨3, J, [], X⟩] := by rw [← hD, hJ]; show [(⟨_, _, _, JP.text was⟩ : JP.PO)] = _; rw [hX]
  rw [hJ] at HPt
  have HX := Lib.hid hX
  have HD := Lib.hid hD2
  clear hJ hX hfw hwas hD2
  clear hb2 b1 hs1 hs2 hs3 hj hx hE k1 k2 k3 k4 k5 k6 k7 hd hD
  go_enter Tryz.func43, Tryz.ntmps43
  go_upto_region 1 with fail
  rw [← hw]
  clear hw
  have q1 := fun i => cell_block C1.out i
  go_wp2_with fail
  refine HAt.out.mono ?_
  rintro E w3 ⟨u, rfl, hu, hb⟩
  have HB3 := Lib.hid (HB2.out.trans (hb.mono HB2.out.size))
  have HB3r := Lib.hid hb
  have Hu := Lib.hid hu
  have d3 := below_block hb C1.out
  have q3 := fun i => cell_block d3 i
  clear hb hu HAt q1
  obtain ⟨kw, hjw⟩ := Hu.out was rfl
  have Hjw := Lib.hid hjw
  clear hjw
  go_wp2_with fail
  refine (HPt.out w3 HB3r.out).mono ?_
  rintro E w4 ⟨rfl, hb⟩
  have HB4 := Lib.hid (HB3.out.trans (hb.mono HB3.out.size))
  have HTx := Lib.hid (text_any kw u was w4 (Hjw.out.below hb) Hzw.out (HE.out.1.below (HB3r.out.trans (hb.mono HB3r.out.size))))
  rw [HX.out] at HTx
  clear hb q3 d3
  go_wp2_with fail
  refine HTx.out.mono ?_
  rintro E w5 ⟨rfl, hb⟩
  have HB5 := Lib.hid (HB4.out.trans (hb.mono HB4.out.size))
  clear hb
  go_wp2_with fail
  go_ret
  refine ⟨_, rfl, ?_, HB5.out.alloc HB5.out.size _⟩
  rw [HD.out]
  exact own_ops (L := [ofPO ⟨3, J, [], X⟩]) (heap_alloc_new w5 _) HB5.out.size (fun g hg => by rw [List.mem_singleton.1 hg]; show (Lit.int .i64 3).wf = true; decide) (by show 1 ≤ 1000; decide)
set_option maxRecDepth 100000 in
set_option maxHeartbeats 3200000 in
theorem back6 (kd : Int) (pa fr : List Bs) (val x : JV) (s1 s2 s3 v : Value) (n : Nat) (w : World) (hs : StepAt w s1 s2 s3 ⟨kd, pa, fr, val⟩) (ok : JP.PSOK ⟨kd, pa, fr, val⟩ 1048576) (hj : JvAt n [] w v x) (hx : JP.Fit x) (hE : Env w) (hd : (JP.doP ⟨kd, pa, fr, val⟩ x).1 = 0) (hk : kd = 6) :
    Calls Tryz.prog 43 #[v, .agg #[.int .i64 kd, s1, s2, s3]] w (BackAt (JP.backP x ⟨kd, pa, fr, val⟩) w) := by
  subst hk
  obtain ⟨hs1, hs2, n3, hs3⟩ := hs
  have hs1 : StrAt w s1 (pa.map mkB) := hs1
  have hs2 : StrAt w s2 (fr.map mkB) := hs2
  obtain ⟨k1, k2, k3, k4, k5, k6, k7⟩ := ok
  dsimp only at k1 k2 k3 k4 k5 k6 k7
  obtain ⟨D, hD⟩ : ∃ D, JP.backP x ⟨6, pa, fr, val⟩ = D := ⟨_, rfl⟩
  rw [hD]
  unfold JP.backP at hD
  dsimp only at hD
  unfold JP.doP at hd
  dsimp only at hd
  obtain ⟨w2, hw⟩ : ∃ w2, w2 = w.alloc (.cells #[.int .i64 6, s1, s2, s3] 81) := ⟨_, rfl⟩
  have b1 : w2.heap[w.heap.size]? = some (.cells #[.int .i64 6, s1, s2, s3] 81 (0, 0)) := by rw [hw]; exact heap_alloc_new w _
  have hb2 : Below w.heap.size w w2 := by rw [hw]; exact (Below.refl _ w).alloc (Nat.le_refl _) _
  have HB2 := Lib.hid hb2
  have C1 := Lib.hid b1
  have HE := Lib.hid (hE.below hb2)
  have HS1 := Lib.hid (hs1.below hb2)
  have HS2 := Lib.hid (hs2.below hb2)
  have HJ := Lib.hid (hj.below hb2)
  have Hx := Lib.hid hx
  have Hz : Hid ((JP.text x).length ≤ 1000000) := Lib.hid (by have h9 : (JP.text x).length ≤ 2000 := hx.2.2.2; show _ ≤ _; omega)
  have HAt := Lib.hid (at_any HJ.out Hz.out HS1.out k1 (by omega) HE.out.1 HE.out.2.1)
  rw [if_neg (by decide), if_neg (by decide), if_neg (by decide), if_neg (by decide)] at hD
  have HD := Lib.hid hD.symm
  clear hb2 b1 hs1 hs2 hs3 hj hx hE k1 k2 k3 k4 k5 k6 k7 hd hD
  go_enter Tryz.func43, Tryz.ntmps43
  go_upto_region 1 with fail
  rw [← hw]
  clear hw
  have q1 := fun i => cell_block C1.out i
  go_wp2_with fail
  refine HAt.out.mono ?_
  rintro E w3 ⟨u, rfl, hu, hb⟩
  have HB3 := Lib.hid (HB2.out.trans (hb.mono HB2.out.size))
  have HB3r := Lib.hid hb
  have Hu := Lib.hid hu
  have d3 := below_block hb C1.out
  have q3 := fun i => cell_block d3 i
  clear hb hu HAt q1
  go_wp2_with fail
  go_ret
  exact ⟨_, rfl, by rw [HD.out]; exact OwnAt.nil _, HB3.out⟩
set_option maxRecDepth 100000 in
set_option maxHeartbeats 3200000 in
theorem back4 (kd : Int) (pa fr : List Bs) (val x : JV) (s1 s2 s3 v : Value) (n : Nat) (w : World) (hs : StepAt w s1 s2 s3 ⟨kd, pa, fr, val⟩) (ok : JP.PSOK ⟨kd, pa, fr, val⟩ 1048576) (hj : JvAt n [] w v x) (hx : JP.Fit x) (hE : Env w) (hd : (JP.doP ⟨kd, pa, fr, val⟩ x).1 = 0) (hk : kd = 4) :
    Calls Tryz.prog 43 #[v, .agg #[.int .i64 kd, s1, s2, s3]] w (BackAt (JP.backP x ⟨kd, pa, fr, val⟩) w) := by
  subst hk
  obtain ⟨hs1, hs2, n3, hs3⟩ := hs
  have hs1 : StrAt w s1 (pa.map mkB) := hs1
  have hs2 : StrAt w s2 (fr.map mkB) := hs2
  obtain ⟨k1, k2, k3, k4, k5, k6, k7⟩ := ok
  dsimp only at k1 k2 k3 k4 k5 k6 k7
  obtain ⟨D, hD⟩ : ∃ D, JP.backP x ⟨4, pa, fr, val⟩ = D := ⟨_, rfl⟩
  rw [hD]
  unfold JP.backP at hD
  dsimp only at hD
  unfold JP.doP at hd
  dsimp only at hd
  obtain ⟨w2, hw⟩ : ∃ w2, w2 = w.alloc (.cells #[.int .i64 4, s1, s2, s3] 81) := ⟨_, rfl⟩
  have b1 : w2.heap[w.heap.size]? = some (.cells #[.int .i64 4, s1, s2, s3] 81 (0, 0)) := by rw [hw]; exact heap_alloc_new w _
  have hb2 : Below w.heap.size w w2 := by rw [hw]; exact (Below.refl _ w).alloc (Nat.le_refl _) _
  have HB2 := Lib.hid hb2
  have C1 := Lib.hid b1
  have HE := Lib.hid (hE.below hb2)
  have HS1 := Lib.hid (hs1.below hb2)
  have HS2 := Lib.hid (hs2.below hb2)
  have HJ := Lib.hid (hj.below hb2)
  have Hx := Lib.hid hx
  have Hz : Hid ((JP.text x).length ≤ 1000000) := Lib.hid (by have h9 : (JP.text x).length ≤ 2000 := hx.2.2.2; show _ ≤ _; omega)
  have HAt := Lib.hid (at_any HJ.out Hz.out HS1.out k1 (by omega) HE.out.1 HE.out.2.1)
  rw [if_neg (by decide), if_neg (by decide), if_neg (by decide), if_neg (by decide)] at hd
  unfold JP.carryP at hd
  dsimp only at hd
  rw [if_neg (by decide), if_neg (by decide), if_neg (by decide), if_pos rfl] at hD
  obtain ⟨a1, c1, e1, _⟩ := HS1.out.len
  obtain ⟨a2, c2, e2, _⟩ := HS2.out.len
  subst e1; subst e2
  simp only [List.length_map] at C1 HS1 HS2 HAt
  rw [List.length_map, List.length_map] at hw
  rw [List.length_map, List.length_map]
  have HQ := Lib.hid (fun (w3 : World) (hb : Below w2.heap.size w2 w3) => equalS_any (HS2.out.below hb) (HS1.out.below hb) (by rw [List.length_map]; omega) (by rw [List.length_map]; omega))
  rw [dec_mk] at HQ
  have HPt := Lib.hid (fun (w' : World) (hb : Below w2.heap.size w2 w') => point_any (HS2.out.below hb) k4 (by omega) (HE.out.below hb))
  have HAt2 := Lib.hid (fun (w' : World) (hb : Below w2.heap.size w2 w') => at_any (HJ.out.below hb) Hz.out (HS2.out.below hb) k2 (by omega) (HE.out.below hb).1 (HE.out.below hb).2.1)
  by_cases hfp : fr = pa
  · rw [if_pos hfp] at hD
    rw [decide_eq_true hfp] at HQ
    have HD := Lib.hid hD.symm
    obtain ⟨n1, hn1⟩ : ∃ n, pa.length = n := ⟨_, rfl⟩
    obtain ⟨n2, hn2⟩ : ∃ n, fr.length = n := ⟨_, rfl⟩
    rw [hn1, hn2] at HQ C1 hw
    rw [hn1] at HAt HS1
    rw [hn2] at HAt2 HS2 HPt
    rw [hn1, hn2]
    clear hfp hn1 hn2
    clear hb2 b1 hs1 hs2 hs3 hj hx hE k1 k2 k3 k4 k5 k6 k7 hd hD
    go_enter Tryz.func43, Tryz.ntmps43
    go_upto_region 1 with fail
    rw [← hw]
    clear hw
    have q1 := fun i => cell_block C1.out i
    go_wp2_with fail
    refine HAt.out.mono ?_
    rintro E w3 ⟨u, rfl, hu, hb⟩
    have HB3 := Lib.hid (HB2.out.trans (hb.mono HB2.out.size))
    have HB3r := Lib.hid hb
    have Hu := Lib.hid hu
    have d3 := below_block hb C1.out
    have q3 := fun i => cell_block d3 i
    clear hb hu HAt q1
    go_wp2_with fail
    refine (HQ.out w3 HB3r.out).mono ?_
    rintro E w4 ⟨rfl, hb⟩
    have HB4 := Lib.hid (HB3.out.trans (hb.mono HB3.out.size))
    clear hb q3 d3
    go_wp2_with fail
    go_ret
    exact ⟨_, rfl, by rw [HD.out]; exact OwnAt.nil _, HB4.out⟩
  · rw [if_neg hfp] at hD
    rw [decide_eq_false hfp] at HQ
    by_cases hb9 : (4 : Int) = 4 ∧ JP.beginsP fr pa = true
    · rw [if_pos hb9] at hd; cases hd
    rw [if_neg hb9] at hd
    obtain ⟨y, hy⟩ : ∃ y, JP.atW x fr = some y := by
      cases ha : JP.atW x fr with
      | none => rw [ha] at hd; cases hd
      | some y => exact ⟨y, rfl⟩
    rw [hy] at hd hD HAt2
    dsimp only at hd
    rw [if_pos rfl, if_neg hfp] at hd
    obtain ⟨rest, hrest⟩ : ∃ y, JP.cutW x fr = some y := by
      cases ha : JP.cutW x fr with
      | none => rw [ha] at hd; cases hd
      | some y => exact ⟨y, rfl⟩
    rw [hrest] at hd hD
    dsimp only at hd hD
    obtain ⟨u0, hu0⟩ := toI_some hd
    have hne : fr ≠ [] := fun e => by rw [e] at hrest; unfold JP.cutW at hrest; rw [JP.under] at hrest; cases hrest
    have HC := Lib.hid (fun (w3 : World) (hb : Below w2.heap.size w2 w3) => tcut_any (HJ.out.below hb) Hz.out (HS2.out.below hb) k2 (by omega) hne (HE.out.below hb).1 (HE.out.below hb).2.1)
    rw [hrest] at HC
    have frest := (JP.cutW_less hx hrest).1
    have HUn := Lib.hid (fun (kr : Nat) (vr : Value) (w' : World) (hjr : JvAt kr [] w' vr rest) (hb : Below w2.heap.size w2 w') => unput_any hjr frest (HS1.out.below hb) k3 k1 k6 (HE.out.below hb) (fun h => JP.ins_up (JP.fit_few frest) hu0 h))
    have huk := JP.unput_kind rest pa
    obtain ⟨⟨ok, op, of, ov⟩, hO⟩ : ∃ O, JP.unputP rest pa = O := ⟨_, rfl⟩
    rw [hO] at HUn hD huk
    unfold opV at HUn
    dsimp only at HUn huk
    have Hwf := Lib.hid (kind_wf huk)
    have hfw := JP.at_fit hx hy
    have Hzw : Hid ((JP.text y).length ≤ 4194304) := Lib.hid (by have h9 : (JP.text y).length ≤ 2000 := hfw.2.2.2; show _ ≤ _; omega)
    obtain ⟨J, hJ⟩ : ∃ J, joinK fr = J := ⟨_, rfl⟩
    obtain ⟨X, hX⟩ : ∃ X, JP.text y = X := ⟨_, rfl⟩
    have hD2 : D = [⟨ok, op, of, ov⟩, ⟨1, J, [], X⟩] := by rw [← hD, hJ]; show [_, (⟨_, _, _, JP.text y⟩ : JP.PO)] = _; rw [hX]
    rw [hJ] at HPt
    have HX := Lib.hid hX
    have HD := Lib.hid hD2
    obtain ⟨n1, hn1⟩ : ∃ n, pa.length = n := ⟨_, rfl⟩
    obtain ⟨n2, hn2⟩ : ∃ n, fr.length = n := ⟨_, rfl⟩
    rw [hn1, hn2] at HQ C1 hw
    rw [hn1] at HAt HS1 HUn
    rw [hn2] at HAt2 HS2 HPt HC
    rw [hn1, hn2]
    clear hfp hn1 hn2 hJ hX hfw hO hu0 huk hy hrest hne frest hD2 hb9
    clear hb2 b1 hs1 hs2 hs3 hj hx hE k1 k2 k3 k4 k5 k6 k7 hd hD
    go_enter Tryz.func43, Tryz.ntmps43
    go_upto_region 1 with fail
    rw [← hw]
    clear hw
    have q1 := fun i => cell_block C1.out i
    go_wp2_with fail
    refine HAt.out.mono ?_
    rintro E w3 ⟨u, rfl, hu, hb⟩
    have HB3 := Lib.hid (HB2.out.trans (hb.mono HB2.out.size))
    have HB3r := Lib.hid hb
    have Hu := Lib.hid hu
    have d3 := below_block hb C1.out
    have q3 := fun i => cell_block d3 i
    clear hb hu HAt q1
    go_wp2_with fail
    refine (HQ.out w3 HB3r.out).mono ?_
    rintro E w4 ⟨rfl, hb⟩
    have HB4 := Lib.hid (HB3.out.trans (hb.mono HB3.out.size))
    have HB4r := Lib.hid (HB3r.out.trans (hb.mono HB3r.out.size))
    have d4 := below_block hb d3
    have q4 := fun i => cell_block d4 i
    clear hb q3 d3
    go_wp2_with fail
    refine (HAt2.out w4 HB4r.out).mono ?_
    rintro E w5 ⟨uy, rfl, hu, hb⟩
    obtain ⟨ky, hjy⟩ := hu y rfl
    have Hjy := Lib.hid hjy
    have HB5 := Lib.hid (HB4.out.trans (hb.mono HB4.out.size))
    have HB5r := Lib.hid (HB4r.out.trans (hb.mono HB4r.out.size))
    have d5 := below_block hb d4
    have q5 := fun i => cell_block d5 i
    clear hb hu hjy q4 d4
    go_wp2_with fail
    refine (HC.out w5 HB5r.out).mono ?_
    rintro E w6 ⟨ur, rfl, hz, hb⟩
    obtain ⟨kr, hjr⟩ := hz rest rfl
    have Hjr := Lib.hid hjr
    have Hjy6 := Lib.hid (Hjy.out.below hb)
    have HB6 := Lib.hid (HB5.out.trans (hb.mono HB5.out.size))
    have HB6r := Lib.hid (HB5r.out.trans (hb.mono HB5r.out.size))
    have D6 := Lib.hid (below_block hb d5)
    clear hb hz hjr q5 d5
    go_upto_region 15 with fail
    have hlt6 : w.heap.size < w6.heap.size := blk_lt D6.out
    refine wp_region_relB 10 (fun ii U w' => match ii with
      | 0 => U 0 = ur | 1 => U 1 = .pointer (some ⟨w.heap.size, 1, none⟩) | 2 => U 2 = .slice a1 n1 c1
      | 3 => U 3 = .agg #[.int .i64 ok, .string (mkB op), .string (mkB of), .string (mkB ov)]
      | 4 => U 4 = .pointer (some ⟨w.heap.size, 2, none⟩) | 5 => U 5 = .slice a2 n2 c2 | 6 => U 6 = .string (mkB J)
      | 7 => U 7 = uy | 8 => U 8 = .string (mkB X) | 9 => U 9 = .agg #[.int .i64 1, .string (mkB J), .string ⟨#[]⟩, .string (mkB X)]
      | _ => True)
      (fun | 2 => [1] | 3 => [0, 2] | 5 => [4] | 6 => [5] | 8 => [7] | 9 => [6, 8] | _ => []) (by kernel_rfl) (by kernel_rfl) ?_ ⟨?_, ?_, ?_, ?_, ?_, ?_, ?_, ?_, ?_, ?_, trivial⟩ ?_
    · intro jj U wa wb hb h
      match jj, h with
      | 0, h => exact h
      | 1, h => exact h
      | 2, h => exact h
      | 3, h => exact h
      | 4, h => exact h
      | 5, h => exact h
      | 6, h => exact h
      | 7, h => exact h
      | 8, h => exact h
      | 9, h => exact h
      | _ + 10, h => trivial
    · intro y' w' hb hd
      refine owes_here ur (by rfl) ?_ rfl
      simp only [putAll, List.take_succ_cons, List.take_zero]
      go_simp
    · intro y' w' hb hd
      refine owes_here (.pointer (some ⟨w.heap.size, 1, none⟩)) (by rfl) ?_ rfl
      simp only [putAll, List.take_succ_cons, List.take_zero]
      go_simp
    · intro y' w' hb hd
      have h1 : y' 1 = .pointer (some ⟨w.heap.size, 1, none⟩) := hd 1 (by simp)
      have d9 := (hb.block w.heap.size (by show w.heap.size < w6.heap.size; exact hlt6)).trans D6.out
      have e9 := cell_block d9 1
      clear d9
      refine owes_here (.slice a1 n1 c1) (by rfl) ?_ rfl
      simp only [putAll, List.take_succ_cons, List.take_zero]
      go_simp
    · intro y' w' hb hd
      have h0 : y' 0 = ur := hd 0 (by simp)
      have h2 : y' 2 = .slice a1 n1 c1 := hd 2 (by simp)
      have hb6 : Below w6.heap.size w6 w' := (Below.refl w6.heap.size w6).drew.trans hb
      refine owes_call 67 #[ur, .slice a1 n1 c1] (by rfl) ?_ ((HUn.out kr ur w' (Hjr.out.below hb6) (HB6r.out.trans (hb6.mono HB6r.out.size))).mono ?_)
      · simp only [putAll, List.take_succ_cons, List.take_zero]
        go_simp
      · rintro _ w7 ⟨rfl, hb7⟩
        exact ⟨_, rfl, rfl, hb7⟩
    · intro y' w' hb hd
      refine owes_here (.pointer (some ⟨w.heap.size, 2, none⟩)) (by rfl) ?_ rfl
      simp only [putAll, List.take_succ_cons, List.take_zero]
      go_simp
    · intro y' w' hb hd
      have h4 : y' 4 = .pointer (some ⟨w.heap.size, 2, none⟩) := hd 4 (by simp)
      have d9 := (hb.block w.heap.size (by show w.heap.size < w6.heap.size; exact hlt6)).trans D6.out
      have e9 := cell_block d9 2
      clear d9
      refine owes_here (.slice a2 n2 c2) (by rfl) ?_ rfl
      simp only [putAll, List.take_succ_cons, List.take_zero]
      go_simp
    · intro y' w' hb hd
      have h5 : y' 5 = .slice a2 n2 c2 := hd 5 (by simp)
      have hb6 : Below w6.heap.size w6 w' := (Below.refl w6.heap.size w6).drew.trans hb
      refine owes_call 68 #[.slice a2 n2 c2] (by rfl) ?_ ((HPt.out w' (HB6r.out.trans (hb6.mono HB6r.out.size))).mono ?_)
      · simp only [putAll, List.take_succ_cons, List.take_zero]
        go_simp
      · rintro _ w7 ⟨rfl, hb7⟩
        exact ⟨_, rfl, rfl, hb7⟩
    · intro y' w' hb hd
      refine owes_here uy (by rfl) ?_ rfl
      simp only [putAll, List.take_succ_cons, List.take_zero]
      go_simp
    · intro y' w' hb hd
      have h7 : y' 7 = uy := hd 7 (by simp)
      have hb6 : Below w6.heap.size w6 w' := (Below.refl w6.heap.size w6).drew.trans hb
      have HTx := text_any ky uy y w' (Hjy6.out.below hb6) Hzw.out (HE.out.1.below (HB6r.out.trans (hb6.mono HB6r.out.size)))
      rw [HX.out] at HTx
      refine owes_call 41 #[uy] (by rfl) ?_ (HTx.mono ?_)
      · simp only [putAll, List.take_succ_cons, List.take_zero]
        go_simp
      · rintro _ w7 ⟨rfl, hb7⟩
        exact ⟨_, rfl, rfl, hb7⟩
    · intro y' w' hb hd
      have h6 : y' 6 = .string (mkB J) := hd 6 (by simp)
      have h8 : y' 8 = .string (mkB X) := hd 8 (by simp)
      refine owes_here (.agg #[.int .i64 1, .string (mkB J), .string ⟨#[]⟩, .string (mkB X)]) (by rfl) ?_ rfl
      simp only [putAll, List.take_succ_cons, List.take_zero]
      go_simp
    · intro y' w' hb hR
      have h3 : y' 3 = .agg #[.int .i64 ok, .string (mkB op), .string (mkB of), .string (mkB ov)] := hR 3 (by omega)
      have h9 : y' 9 = .agg #[.int .i64 1, .string (mkB J), .string ⟨#[]⟩, .string (mkB X)] := hR 9 (by omega)
      have HB9 := Lib.hid (HB6.out.trans ((show Below w6.heap.size w6 w' from (Below.refl w6.heap.size w6).drew.trans hb).mono HB6.out.size))
      clear hR hb
      simp only [putAll, List.take_succ_cons, List.take_zero, List.drop_succ_cons, List.drop_zero]
      rw [h3, h9]
      clear h3 h9
      try simp only [Act.put, List.setIfInBounds_toArray, List.set_cons_zero, List.set_cons_succ]
      go_wp2_with fail
      go_ret
      refine ⟨_, rfl, ?_, HB9.out.alloc HB9.out.size _⟩
      rw [HD.out]
      exact own_ops (L := [ofPO ⟨ok, op, of, ov⟩, ofPO ⟨1, J, [], X⟩]) (heap_alloc_new w' _) HB9.out.size (fun g hg => by
        rcases List.mem_cons.1 hg with rfl | hg
        · exact Hwf.out
        · rw [List.mem_singleton.1 hg]; show (Lit.int .i64 1).wf = true; decide) (by show 2 ≤ 1000; decide)
theorem back_any (kd : Int) (pa fr : List Bs) (val x : JV) (s1 s2 s3 v : Value) (n : Nat) (w : World) (hs : StepAt w s1 s2 s3 ⟨kd, pa, fr, val⟩) (ok : JP.PSOK ⟨kd, pa, fr, val⟩ 1048576) (hj : JvAt n [] w v x) (hx : JP.Fit x) (hE : Env w) (hd : (JP.doP ⟨kd, pa, fr, val⟩ x).1 = 0) (hk : 1 ≤ kd ∧ kd ≤ 6) :
    Calls Tryz.prog 43 #[v, .agg #[.int .i64 kd, s1, s2, s3]] w (BackAt (JP.backP x ⟨kd, pa, fr, val⟩) w) := by
  have : kd = 1 ∨ kd = 2 ∨ kd = 3 ∨ kd = 4 ∨ kd = 5 ∨ kd = 6 := by omega
  rcases this with h | h | h | h | h | h
  · exact back1 kd pa fr val x s1 s2 s3 v n w hs ok hj hx hE hd h
  · exact back2 kd pa fr val x s1 s2 s3 v n w hs ok hj hx hE hd h
  · exact back3 kd pa fr val x s1 s2 s3 v n w hs ok hj hx hE hd h
  · exact back4 kd pa fr val x s1 s2 s3 v n w hs ok hj hx hE hd h
  · exact back5 kd pa fr val x s1 s2 s3 v n w hs ok hj hx hE hd h
  · exact back6 kd pa fr val x s1 s2 s3 v n w hs ok hj hx hE hd h
end Go.Proofs.YtlbolbkikkiifaaGreatDoor
/- patch.Invert: its contract. -/
namespace Go.Proofs.YtlbolbkikkiifaaGreatDoor
open Go.RowKit
open JP (JV Bs)

/-- a value looks into no block that holds one slice -/
theorem jv_off {g : Nat} {a : Option Addr} {k c : Nat} {t : TypeId} {fr : Nat × Nat} {w : World} (hg : w.heap[g]? = some (.cells #[.slice a k c] t fr)) : ∀ {n : Nat} {v : Value} {x : JV}, JvAt n [] w v x → JvAt n [g] w v x
  | 0, _, _, h => by cases h
  | n + 1, v, .nul, h => h
  | n + 1, v, .bool b, h => h
  | n + 1, v, .num b, h => h
  | n + 1, v, .str b, h => h
  | n + 1, v, .list l, h => by
    obtain ⟨u, h1, h2, h3⟩ := h
    refine ⟨u, h1, h2.mapR (fun cs x ⟨v, e, hv⟩ => ⟨v, e, jv_off hg hv⟩), fun hl b hb hm => ?_⟩
    obtain rfl := List.mem_singleton.1 hm
    obtain ⟨b', o, c', rfl, _, _, _, hcell⟩ := h2.form (List.length_pos_iff.2 hl) (by decide)
    have : b' = b := by simpa [Value.ownBlock] using hb
    subst this
    obtain ⟨y, hy⟩ : ∃ y, l[0]? = some y := ⟨l[0]'(List.length_pos_iff.2 hl), List.getElem?_eq_getElem _⟩
    obtain ⟨cs, _, hcc, v0, rfl, hv0⟩ := hcell 0 y hy
    have h9 := hcc 0 _ rfl
    rw [cell_block hg] at h9
    have : v0 = .slice a k c := by
      have h8 := List.mem_of_getElem? (l := [Value.slice a k c]) (by simpa using h9)
      exact List.mem_singleton.1 h8
    subst this
    rcases jv_form hv0 with h | ⟨t, u, h⟩ <;> cases h
  | n + 1, v, .obj l, h => by
    obtain ⟨q, h1, h2, h3, vn, vv, h4, h5, h6, h7, h8, h9⟩ := h
    have hq : q ≠ g := fun e => by
      subst e
      rw [cell_block hg] at h5
      simp at h5
    refine ⟨q, h1, fun hm => hq (List.mem_singleton.1 hm), h3, vn, vv, h4, h5, h6, fun hl b hb hm => ?_, h8.mapR (fun cs x ⟨v, e, hv⟩ => ⟨v, e, jv_off hg hv⟩), fun hl b hb hm => ?_⟩
    · obtain rfl := List.mem_singleton.1 hm
      exact off_str (RowAt.strs h6) hg (by intro i s; rcases i with _ | i <;> simp) (fun e => hl (List.map_eq_nil_iff.1 e)) b hb (List.mem_singleton.2 rfl)
    · obtain rfl := List.mem_singleton.1 hm
      obtain ⟨b', o, c', rfl, _, _, _, hcell⟩ := h8.form (by rw [List.length_map]; exact List.length_pos_iff.2 hl) (by decide)
      have : b' = b := by simpa [Value.ownBlock] using hb
      subst this
      obtain ⟨y, hy⟩ : ∃ y, (l.map (·.2))[0]? = some y := ⟨(l.map (·.2))[0]'(by rw [List.length_map]; exact List.length_pos_iff.2 hl), List.getElem?_eq_getElem _⟩
      obtain ⟨cs, _, hcc, v0, rfl, hv0⟩ := hcell 0 y hy
      have h9 := hcc 0 _ rfl
      rw [cell_block hg] at h9
      have : v0 = .slice a k c := by
        have h8 := List.mem_of_getElem? (l := [Value.slice a k c]) (by simpa using h9)
        exact List.mem_singleton.1 h8
      subst this
      rcases jv_form hv0 with h | ⟨t, u, h⟩ <;> cases h
/-- what was seen, turned -/
def JP.outP (d : List (JV × JP.PS)) (out : List JP.PO) : List JP.PO := d.foldl (fun out y => JP.backP y.1 y.2 ++ out) out
theorem JP.outP_snoc (d : List (JV × JP.PS)) (y : JV × JP.PS) (out : List JP.PO) : JP.outP (d ++ [y]) out = JP.backP y.1 y.2 ++ JP.outP d out := by unfold JP.outP; rw [List.foldl_append]; rfl
theorem JP.bk_seen : ∀ (ops : List JP.PO) (v : JV) (out : List JP.PO), JP.bkP ops v out = JP.outP (JP.seenP ops v) out
  | [], v, out => rfl
  | o :: r, v, out => by
    rw [JP.bkP, JP.seenP]
    by_cases h : (JP.stepP o v).1 = 0
    · rw [if_pos h, if_pos h, JP.bk_seen r]; rfl
    · rw [if_neg h, if_neg h]; rfl
/-- what the steps back lie in -/
def OutAt (g : Nat) (d : List (JV × JP.PS)) (w : World) : Prop :=
  ∃ ov, w.heap[g]? = some (.cells #[ov] 49 (0, 0)) ∧ OwnAt OpR 4 w (g + 1) 52 ov ((JP.outP d []).map ofPO)
theorem JP.outP_len (d : List (JV × JP.PS)) : (JP.outP d []).length ≤ 2 * d.length := by
  suffices h : ∀ (d : List (JV × JP.PS)) (out : List JP.PO), (JP.outP d out).length ≤ 2 * d.length + out.length by have := h d []; simpa using this
  intro d
  induction d with
  | nil => intro out; exact Nat.le_add_left ..
  | cons y r ih =>
    intro out
    have h1 := ih (JP.backP y.1 y.2 ++ out)
    have h2 := JP.backP_len y.1 y.2
    rw [List.length_append] at h1
    rw [List.length_cons]
    show (JP.outP r (JP.backP y.1 y.2 ++ out)).length ≤ _
    omega
set_option maxRecDepth 100000 in
set_option maxHeartbeats 3200000 in
theorem sees_back (w0 : World) (hE : Env w0) : Sees 42 #[.pointer (some ⟨w0.heap.size, 0, none⟩)] [w0.heap.size] (OutAt w0.heap.size) w0 := by
  intro d x kd pa fr val vx s1 s2 s3 n w hI hj hx hs ok hk hd hb0 hdl
  obtain ⟨ov, hg, hown⟩ := hI
  obtain ⟨g, hgg⟩ : ∃ g, w0.heap.size = g := ⟨_, rfl⟩
  rw [hgg] at hg hown ⊢
  obtain ⟨os1, os2, os3⟩ : s1.oneCell' = true ∧ s2.oneCell' = true ∧ s3.oneCell' = true := by
    obtain ⟨p1, p2, n3, p3⟩ := hs
    exact ⟨str_one p1, str_one p2, jv_cell p3⟩
  have hlb := JP.backP_len x ⟨kd, pa, fr, val⟩
  have hlo := JP.outP_len d
  obtain ⟨bk, hbk⟩ : ∃ b, (JP.backP x ⟨kd, pa, fr, val⟩).map ofPO = b := ⟨_, rfl⟩
  obtain ⟨ou, hou⟩ : ∃ b, (JP.outP d []).map ofPO = b := ⟨_, rfl⟩
  have lbk : bk.length ≤ 2 := by rw [← hbk, List.length_map]; exact hlb
  have lou : ou.length ≤ 80 := by rw [← hou, List.length_map]; omega
  have hnew : (JP.outP (d ++ [(x, ⟨kd, pa, fr, val⟩)]) []).map ofPO = bk ++ ou := by rw [JP.outP_snoc, List.map_append, hbk, hou]
  rw [hou] at hown
  obtain ⟨ao, co, e1, _⟩ := hown.row.len
  obtain ⟨lo, hlo9⟩ : ∃ n, ou.length = n := ⟨_, rfl⟩
  rw [hlo9] at e1
  subst e1
  have hgw : g < w.heap.size := blk_lt hg
  obtain ⟨w2, hw⟩ : ∃ w2, w2 = w.alloc (.cells #[.int .i64 kd, s1, s2, s3] 81) := ⟨_, rfl⟩
  have hb2 : Below w.heap.size w w2 := by rw [hw]; exact (Below.refl _ w).alloc (Nat.le_refl _) _
  have b1 : w2.heap[w.heap.size]? = some (.cells #[.int .i64 kd, s1, s2, s3] 81 (0, 0)) := by rw [hw]; exact heap_alloc_new w _
  have hE2 : ∀ w', Below w2.heap.size w2 w' → Env w' := fun w' h => hE.below (hb0.trans ((hb2.trans (h.mono hb2.size)).mono hb0.size))
  have HBk := Lib.hid (fun (w' : World) (h : Below w2.heap.size w2 w') => back_any kd pa fr val x s1 s2 s3 vx n w' (by
    obtain ⟨p1, p2, n3, p3⟩ := hs
    exact ⟨(p1.below hb2).below h, (p2.below hb2).below h, n3, (p3.below hb2).below h⟩) ok ((hj.below hb2).below h) hx (hE2 w' h) hd hk)
  unfold BackAt at HBk
  rw [hbk] at HBk
  have C1 := Lib.hid b1
  have G2 := Lib.hid (below_block hb2 hg)
  have HOw := Lib.hid (hown.below flat_op.stays hb2)
  have Hb2 := Lib.hid hb2
  have Hb0 := Lib.hid hb0
  have Hnew := Lib.hid hnew
  have Hgg := Lib.hid hgg
  have hlt2 : w.heap.size < w2.heap.size := blk_lt b1
  have Hlo := Lib.hid hlo9
  obtain ⟨i0, hi0, hz0, hz1, hz2⟩ := info_parts Tryz.infoOp
  show Calls Tryz.prog 42 #[vx, .agg #[.int .i64 kd, s1, s2, s3], .pointer (some ⟨g, 0, none⟩)] w _
  clear hg hown hj hx hs ok hk hd hb0 hdl hbk hou hlb hlo hnew hb2 b1 hE2 hE hgg hlo9
  go_enter Tryz.func42, Tryz.ntmps42
  go_upto_region 1 with fail
  rw [← hw]
  clear hw
  refine wp_region_relB 4 (fun ii U w' => match ii with
    | 0 => U 0 = vx | 1 => U 1 = .agg #[.int .i64 kd, s1, s2, s3]
    | 2 => OwnAt OpR 4 w' w2.heap.size 52 (U 2) bk
    | 3 => U 3 = .slice ao lo co
    | _ => True)
    (fun | 2 => [0, 1] | _ => []) (by kernel_rfl) (by kernel_rfl) ?_ ⟨?_, ?_, ?_, ?_, trivial⟩ ?_
  · intro jj U wa wb hb h
    match jj, h with
    | 0, h => exact h
    | 1, h => exact h
    | 2, h => exact OwnAt.below flat_op.stays h hb
    | 3, h => exact h
    | _ + 4, h => trivial
  · intro y' w' hb hd
    refine owes_here vx (by rfl) ?_ rfl
    simp only [putAll, List.take_succ_cons, List.take_zero]
    go_simp
  · intro y' w' hb hd
    have d9 := (hb.block w.heap.size (by show w.heap.size < w2.heap.size; exact hlt2)).trans C1.out
    have e9 := fun i => cell_block d9 i
    clear d9
    refine owes_here (.agg #[.int .i64 kd, s1, s2, s3]) (by rfl) ?_ rfl
    simp only [putAll, List.take_succ_cons, List.take_zero]
    go_simp
  · intro y' w' hb hd
    have h0 : y' 0 = vx := hd 0 (by simp)
    have h1 : y' 1 = .agg #[.int .i64 kd, s1, s2, s3] := hd 1 (by simp)
    have hb6 : Below w2.heap.size w2 w' := (Below.refl w2.heap.size w2).drew.trans hb
    refine owes_call 43 #[vx, .agg #[.int .i64 kd, s1, s2, s3]] (by rfl) ?_ ((HBk.out w' hb6).mono ?_)
    · simp only [putAll, List.take_succ_cons, List.take_zero]
      go_simp
    · rintro _ w7 ⟨v7, rfl, ho, hb7⟩
      exact ⟨_, rfl, ho.mono hb6.size, hb7⟩
  · intro y' w' hb hd
    have d9 := (hb.block g (by show g < w2.heap.size; omega)).trans G2.out
    have e9 := cell_block d9 0
    clear d9
    refine owes_here (.slice ao lo co) (by rfl) ?_ rfl
    simp only [putAll, List.take_succ_cons, List.take_zero]
    go_simp
  · intro y' w' hb hR
    have h2 : OwnAt OpR 4 w' w2.heap.size 52 (y' 2) bk := hR 2 (by omega)
    have h3 : y' 3 = .slice ao lo co := hR 3 (by omega)
    have hb6 : Below w2.heap.size w2 w' := (Below.refl w2.heap.size w2).drew.trans hb
    have H2 := Lib.hid h2
    have H3 := Lib.hid (HOw.out.row.below stays_op hb6)
    have Hb6 := Lib.hid hb6
    have G6 := Lib.hid (below_block hb6 G2.out)
    clear hR h2 hb hb6
    simp only [putAll, List.take_succ_cons, List.take_zero, List.drop_succ_cons, List.drop_zero]
    rw [h3]
    clear h3
    try simp only [Act.put, List.setIfInBounds_toArray, List.set_cons_zero, List.set_cons_succ]
    refine wpList_append_ownAt (R := OpR) (k := 4) (e := 52) (B := w2.heap.size) (l := bk) (m := ou) _ (by rfl) _ _ _ (by rfl) i0 _ 56 Tryz.underlying49 hi0 hz0 hz1 hz2 rfl (by omega) flat_op oneR_op _ (by rfl) H2.out _ (by rfl) H3.out (by unfold maxLen; omega) (by omega) Hb6.out.size ?_
    intro v8 w8 hv8 hg8 hr8 _
    have hb8 : Below w2.heap.size w2 w8 := below_of_grown Hb6.out Hb6.out.size hg8 hr8
    have g8 : w8.heap[g]? = some (.cells #[.slice ao lo co] 49 (0, 0)) := below_block hb8 G2.out
    obtain ⟨a8, c8, e8, _⟩ := hv8.row.len
    obtain ⟨n8, hn8⟩ : ∃ n, (bk ++ ou).length = n := ⟨_, rfl⟩
    rw [hn8] at e8
    subst e8
    obtain ⟨W, hW⟩ : ∃ W, W = w8.setCell ⟨g, 0, none⟩ (.slice a8 n8 c8) := ⟨_, rfl⟩
    obtain ⟨t1, t2⟩ := touch_setCell (i := 0) (v := .slice a8 n8 c8) g8
    rw [← hW] at t1 t2
    have HG := Lib.hid (show W.heap[g]? = some (.cells #[.slice a8 n8 c8] 49 (0, 0)) from t1)
    have HV := Lib.hid ((hv8.touchLow flat_op t2 (by omega)).mono (show g + 1 ≤ w2.heap.size by omega))
    have hbw8 : Below w.heap.size w w8 := Hb2.out.trans (hb8.mono Hb2.out.size)
    have HK : Hid (KeepT [g] w W) := Lib.hid ((KeepT.of hbw8).trans (KeepT.but (But.touch t2) (List.mem_singleton.2 rfl)))
    have HB := Lib.hid (t2.below (Hb0.out.trans (hbw8.mono Hb0.out.size)) (by rw [Hgg.out]; exact Nat.le_refl _))
    have q1 := cell_block g8 0
    have z1 := free_block g8 0
    clear t1 t2 hv8 hg8 hr8 hb8 g8 hbw8 hn8 H2 H3
    try simp only [Act.put, List.setIfInBounds_toArray, List.set_cons_zero, List.set_cons_succ]
    go_wp2_with fail
    rw [← hW]
    go_end0
    exact ⟨rfl, ⟨_, HG.out, by rw [Hnew.out]; exact HV.out⟩, HK.out, by have h9 := HB.out; rw [Hgg.out] at h9; exact h9⟩
/-- what 'Invert' tells -/
def InvAt (d : Bs) (ops : List JP.PO) (w : World) (e : Ending) (w' : World) : Prop :=
  ∃ v', e = .returned (.tuple #[v', .int .i64 (JP.applyE d ops)]) ∧ RowAt OpR 4 w' v' ((JP.invL d ops).map ofPO) ∧ Below w.heap.size w w'
theorem JP.invL_len (d : Bs) (ops : List JP.PO) (h : ops.length ≤ 1000) : (JP.invL d ops).length ≤ 2000 := by
  unfold JP.invL
  by_cases h0 : JP.applyE d ops = 0
  · obtain ⟨x, h1, h2, h3, h4, h5⟩ := JP.runO_ok h0
    rw [if_pos h0, h1]
    obtain ⟨m, m1, m2, _⟩ := JP.bk_runs (i := 0) [] 0 h4 h3
    rw [m2, List.length_nil]; omega
  · rw [if_neg h0]; exact Nat.zero_le _
set_option maxRecDepth 100000 in
set_option maxHeartbeats 3200000 in
theorem invert_any (d : ByteArray) (ov : Value) (L : List GOp) (w : World) (hd : d.size ≤ 1048576) (hL : RowAt OpR 4 w ov L) (hll : L.length ≤ 1048576) (hok : ∀ g ∈ L, OpOK g) (hE : Env w) :
    Calls Tryz.prog 22 #[.string d, ov] w (InvAt d.data.toList (L.map toPO) w) := by
  obtain ⟨g, hg⟩ : ∃ g, w.heap.size = g := ⟨_, rfl⟩
  have hsee := sees_back w hE
  obtain ⟨w1, hw⟩ : ∃ w1, w1 = w.alloc (.cells #[.slice none 0 0] 49) := ⟨_, rfl⟩
  have hb1 : Below w.heap.size w w1 := by rw [hw]; exact (Below.refl _ w).alloc (Nat.le_refl _) _
  have hbox : w1.heap[w.heap.size]? = some (.cells #[.slice none 0 0] 49 (0, 0)) := by rw [hw]; exact heap_alloc_new w _
  have hI1 : OutAt w.heap.size [] w1 := ⟨_, hbox, OwnAt.nil _⟩
  have HRn := Lib.hid (fun enter => run1_any (f := 42) (cap := .pointer (some ⟨w.heap.size, 0, none⟩)) (G := [w.heap.size]) (I := OutAt w.heap.size) (w0 := w) enter (fun d w w' h hb => by
      obtain ⟨o, h1, h2⟩ := h
      exact ⟨o, below_block hb h1, h2.below flat_op.stays hb⟩) (fun b h => by rw [List.mem_singleton.1 h]; exact Nat.le_refl _) (fun d w n v x h hj => by
      obtain ⟨o, h1, h2⟩ := h
      obtain ⟨a, c, e, _⟩ := h2.row.len
      subst e
      exact jv_off h1 hj) hsee d ov L w1 hd hb1 hL hll hok hE hI1)
  have HEn := Lib.hid hE.1
  obtain ⟨ao, co, e1, _⟩ := hL.len
  subst e1
  obtain ⟨ln, hln⟩ : ∃ ln, L.length = ln := ⟨_, rfl⟩
  rw [hln] at HRn ⊢
  obtain ⟨r1, r2, r3, hR⟩ : ∃ a b c, JP.runO d.data.toList (L.map toPO) = (a, b, c) := ⟨_, _, _, rfl⟩
  have hE2 : JP.applyE d.data.toList (L.map toPO) = r1 := by unfold JP.applyE; rw [hR]
  have hinv : JP.invL d.data.toList (L.map toPO) = if r1 = 0 then JP.outP (JP.seenP (L.map toPO) (JP.readL d.data.toList).1) [] else [] := by unfold JP.invL; rw [hE2, JP.bk_seen]
  rw [hR] at HRn
  unfold InvAt
  rw [hE2, hinv]
  obtain ⟨S, hS⟩ : ∃ S, JP.seenP (L.map toPO) (JP.readL d.data.toList).1 = S := ⟨_, rfl⟩
  rw [hS] at HRn ⊢
  rw [hg] at HRn ⊢
  have Hg := Lib.hid hg
  have Hb1 := Lib.hid hb1
  have ep : ∀ (a : Array Value) (w : World), (callFunc 42 a).run Tryz.prog w = .ok (.enter 42 a) w := fun a w => by kernel_rfl
  have HRn2 := Lib.hid (HRn.out ep)
  clear ep HRn hR hE2 hinv hS hL hok hE hd hll hln hsee hI1 hbox hb1
  go_enter Tryz.func22, Tryz.ntmps22
  go_upto_region 2 with fail
  rw [← hw]
  clear hw hg
  go_wp2_with fail
  refine HRn2.out.mono ?_
  rintro E w2 ⟨u, rfl, hu, hb⟩
  have HB : Hid (Below g w w2) := Lib.hid (by have h9 := hb; rw [Hg.out] at h9; exact h9)
  by_cases he : r1 = 0
  · subst he
    obtain ⟨_, o, h1, h2⟩ := hu rfl
    obtain ⟨a, c, e, _⟩ := h2.row.len
    have HRow := Lib.hid h2.row
    obtain ⟨no, hno⟩ : ∃ n, (List.map ofPO (JP.outP S [])).length = n := ⟨_, rfl⟩
    rw [hno] at e
    subst e
    have q1 := cell_block h1 0
    clear hu hb h1 h2 hno HRn2
    go_wp2_with fail
    go_ret2
    exact ⟨_, rfl, HRow.out, HB.out⟩
  · have n0 : (r1 != 0) = true := by rw [bne_iff_ne]; exact he
    have Hne := Lib.hid he
    clear hu hb he HRn2
    go_wp2_with fail
    go_ret2
    exact ⟨_, rfl, .inl ⟨rfl, rfl⟩, HB.out⟩
end Go.Proofs.YtlbolbkikkiifaaGreatDoor
/- The reference's Eq at texts. -/
namespace Go.Proofs.YtlbolbkikkiifaaGreatDoor
open Go.RowKit

theorem eqS_no {l m : List ByteArray} {i : Nat} {x y : ByteArray} (hx : l[i]? = some x) (hy : m[i]? = some y) (h : x ≠ y) : decide (l = m) = false := by
  rw [decide_eq_false_iff_not]
  intro e
  subst e
  rw [hx] at hy
  cases hy
  exact h rfl
theorem eqS_yes {l m : List ByteArray} (h : l.length = m.length) (k : ∀ (i : Nat) (x y : ByteArray), i < l.length → l[i]? = some x → m[i]? = some y → x = y) : decide (l = m) = true := by
  rw [decide_eq_true_iff]
  apply List.ext_getElem h
  intro i hi hj
  exact k i _ _ hi (List.getElem?_eq_getElem hi) (List.getElem?_eq_getElem hj)
set_option maxRecDepth 100000 in
set_option maxHeartbeats 800000 in
theorem eqStrs_any (v1 v2 : Value) (l m : List ByteArray) (w : World) (h1 : StrAt w v1 l) (h2 : StrAt w v2 m) (hl : l.length ≤ 8388608) (hm : m.length ≤ 8388608) :
    Calls Tryz.prog 24 #[v1, v2] w fun e w' => e = .returned (.bool (decide (l = m))) ∧ w = w' := by
  obtain ⟨a1, c1, rfl, _, _⟩ := h1.len
  obtain ⟨a2, c2, rfl, _, _⟩ := h2.len
  have H1 := Lib.hid h1
  have H2 := Lib.hid h2
  clear h1 h2
  by_cases hlen : l.length = m.length
  · have q1 : ((l.length : Int) != (m.length : Int)) = false := by rw [bne_eq_false_iff_eq]; omega
    have Hlen := Lib.hid hlen
    clear hlen
    go_enter Tryz.func24, Tryz.ntmps24
    go_wp2_with fail
    clear q1
    go_loopg [14] l.length (fun g u14 wr => ∃ i : Nat, i + g = l.length ∧ u14 = .int .i64 (i : Int) ∧ Hid (∀ (k : Nat) (x y : ByteArray), k < i → l[k]? = some x → m[k]? = some y → x = y) ∧ w = wr)
    case atStart => exact ⟨0, by omega, rfl, Lib.hid (fun k _ _ hk => by omega), rfl⟩
    case round =>
      obtain ⟨i, hig, rfl, Hall, rfl⟩ := hrel
      cases gk with
      | zero =>
        obtain rfl : i = l.length := by omega
        have Hyes : Hid (decide (l = m) = true) := eqS_yes Hlen.out fun k x y hk hx hy => Hall.out k x y hk hx hy
        go_wp2_with fail
        go_ret
        exact ⟨congrArg (fun b => Ending.returned (Value.bool b)) Hyes.out.symm, rfl⟩
      | succ g =>
        have hil : i < l.length := by omega
        have him : i < m.length := by have := Hlen.out; omega
        obtain ⟨x, hx⟩ : ∃ x, l[i]? = some x := ⟨l[i]'(by omega), List.getElem?_eq_getElem _⟩
        obtain ⟨y, hy⟩ : ∃ y, m[i]? = some y := ⟨m[i]'(by omega), List.getElem?_eq_getElem _⟩
        obtain ⟨b, o, c', hv, _, _, hbs, hcell⟩ := H1.out.form (by omega)
        injection hv with u1 u2 u3
        subst u1
        clear u2 u3
        obtain ⟨b', o', c'', hv, _, _, hbs', hcell'⟩ := H2.out.form (by omega)
        injection hv with u1 u2 u3
        subst u1
        clear u2 u3
        have e0 : w.cell? ⟨b, o + i, none⟩ = some (.string x) := hcell i x hx
        have f0 : w.cell? ⟨b', o' + i, none⟩ = some (.string y) := hcell' i y hy
        have q1 : (0 : Int) ≤ (i : Int) := by omega
        have q2 : (i : Int) < (l.length : Int) := by omega
        have q3 : (i : Int) < (m.length : Int) := by omega
        have Hx := Lib.hid hx
        have Hy := Lib.hid hy
        clear hcell hcell' hx hy
        by_cases he : x = y
        · have Hall2 : Hid (∀ (k : Nat) (x y : ByteArray), k < i + 1 → l[k]? = some x → m[k]? = some y → x = y) := Lib.hid fun k x' y' hk hx' hy' => by
            rcases Nat.lt_or_ge k i with h | h
            · exact Hall.out k x' y' h hx' hy'
            · obtain rfl : k = i := by omega
              have a := Hx.out; have b := Hy.out
              rw [a] at hx'; rw [b] at hy'
              cases hx'; cases hy'
              exact he
          have q4 : (x.toList == y.toList) = true := by rw [he]; simp
          clear he
          go_wp2_with fail
          go_roundg g
          case measure => omega
          case rel => exact ⟨i + 1, by omega, by go_num, Hall2, rfl⟩
        · have Hno : Hid (decide (l = m) = false) := Lib.hid (eqS_no Hx.out Hy.out he)
          have q4 : (x.toList == y.toList) = false := by rw [beq_eq_false_iff_ne]; exact fun h => he (toList_inj h)
          clear he
          go_wp2_with fail
          go_ret
          exact ⟨congrArg (fun b => Ending.returned (Value.bool b)) Hno.out.symm, rfl⟩
  · have q1 : ((l.length : Int) != (m.length : Int)) = true := by rw [bne_iff_ne]; omega
    have Hno : Hid (decide (l = m) = false) := by show _ = _; rw [decide_eq_false_iff_not]; exact fun h => hlen (congrArg _ h)
    clear hlen
    go_enter Tryz.func24, Tryz.ntmps24
    go_wp2_with fail
    go_ret
    exact ⟨congrArg (fun b => Ending.returned (Value.bool b)) Hno.out.symm, rfl⟩
end Go.Proofs.YtlbolbkikkiifaaGreatDoor
