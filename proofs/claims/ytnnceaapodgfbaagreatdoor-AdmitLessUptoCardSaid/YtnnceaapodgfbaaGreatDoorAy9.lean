/- Texts of ours joined. -/
import Derived.Deep.LoopGhost
import Derived.Laws.StructEq
import Derived.Lib.Hide
import Derived.IntWalk
import Derived.Test.YtnnceaapodgfbaaGreatDoorAy8
set_option linter.unusedVariables false
set_option linter.unusedSimpArgs false
namespace Go.Proofs.YtnnceaapodgfbaaGreatDoor
namespace Adm
open Go.RowKit
open JP (JV Bs)
def RanAt (R : GObject × Nat × Int) (w : World) (e : Ending) (w' : World) : Prop :=
  ∃ u1 u2 u3, e = .returned (.tuple #[Sto.objW R.1 u1 u2 u3, .int .i64 (R.2.1 : Int), .int .i64 R.2.2]) ∧ Sto.ObjIn (fun b => b < w'.heap.size) w' u1 u2 u3 R.1 ∧ Below w.heap.size w w'
theorem ran_no {R : GObject × Nat × Int} {i : Nat} {c : Int} {w w' : World} (hR : R = (Sto.noObj, i, c)) (hb : Below w.heap.size w w') : RanAt R w (.returned (.tuple #[.agg Sto.noA, .int .i64 (i : Int), .int .i64 c])) w' := by
  subst hR
  exact ⟨Sto.nilS, Sto.nilS, Sto.nilS, rfl, (Sto.objIn_no w').mono fun b hb => hb.elim, hb⟩
theorem own_not {α : Type} {X : Dom → World → Rd α} {k : Nat} {D : Dom} {w : World} {e t : TypeId} {v : Value} {l : List α} {g : Nat} {cs : Array Value} {fr : Nat × Nat} (h : OwnX X k D w e v l) (hg : w.heap[g]? = some (.cells cs t fr)) (hne : e ≠ t) (b : Nat) (hb : v.ownBlock = some b) : b ≠ g := by
  intro hbg
  subst hbg
  obtain ⟨css, h1, h2, h3, h4⟩ := h.1
  rcases h3.2 with ⟨h5, -⟩ | ⟨q, cap, cur, rfl, hB, hh, hr⟩
  · rw [h5] at hb; cases hb
  · injection hb with hb
    subst hb
    rw [hh] at hg
    injection hg with h9
    injection h9 with h10 h11
    exact hne h11
theorem objIn_off {D : Dom} {w : World} {v1 v2 v3 : Value} {o : GObject} {g : Nat} {cs : Array Value} (h : Sto.ObjIn D w v1 v2 v3 o) (hg : w.heap[g]? = some (.cells cs 30 (0, 0))) : Sto.ObjIn (fun b => D b ∧ b ≠ g) w v1 v2 v3 o :=
  ⟨⟨h.labels.1, fun b hb => ⟨h.labels.2 b hb, own_not h.labels hg (by decide) b hb⟩⟩, ⟨h.owners.1, fun b hb => ⟨h.owners.2 b hb, own_not h.owners hg (by decide) b hb⟩⟩, ⟨h.holds.1, fun b hb => ⟨h.holds.2 b hb, own_not h.holds hg (by decide) b hb⟩⟩⟩
theorem wpList_store_cell {P : Program} {ops : Array Oper} {rest : List Oper} {o : Oper} {a : Act} {w : World} {Q : Exit → Act → World → Prop} (hgd : o.guard = none) (ty : TypeId) (x y : Operand) (ho : o.op = .store ty x y) (g i : Nat) (v : Value) (hx : a.eval x = .pointer (some ⟨g, i, none⟩)) (hy : a.eval y = v) (h1 : v.oneCell' = true)
    (t : TypeId) (old : Array Value) (hg : w.heap[g]? = some (.cells old t (0, 0))) (hi9 : i < old.size) (hi : (P.info? ty).map (·.size) = some 1)
    (h : wpList P ops Q rest (a.put o.dst undef) (w.setCell ⟨g, i, none⟩ v)) : wpList P ops Q (o :: rest) a w :=
  wpList_plain hgd fun _ hK => by
    have h9 := run_storeCells_cells (P := P) g i [v] 0 w (fun j hj => by
      obtain rfl : j = 0 := by simpa using hj
      rw [cell_block hg, Array.getElem?_eq_getElem (by omega)]; rfl) (fun j hj => free_block hg _) (fun u hu => by rw [List.mem_singleton.1 hu]; exact h1)
    have hc : v.cells = #[v] := by cases v <;> first | rfl | cases h1
    have h8 : (storeVar ty ⟨g, i, none⟩ v).run P w = .ok () (w.setCell ⟨g, i, none⟩ v) := by
      cases hq : P.info? ty with
      | none => simp [hq] at hi
      | some j =>
        have hs : j.size = 1 := by simpa [hq] using hi
        simp [storeVar, sizeOf, typeInfo, hq, hc, hs, h9]
        rfl
    unfold Oper.wp execOp
    simp only [ho, hx, hy, Instr.storeAt, Instr.sureAddr, Sem.run_bind, Sem.run_pure, Result.andThen_ok, h8]
    exact hK _ _ h
theorem see_any {w : World} {gq : Nat} {o : GObject} {x : JV} (h : GuestAt w gq o x) (hg : GoodS (o.labels, x)) (p : GPlugin) (hp : OkPlugin p) (hc : checkP p = 0) (hE : Env w) :
    ∃ f, (∀ v w', Sem.run Tryz.prog (method 439 (kindT p.kind) v "seneschal/admit.see") w' = .ok (f, v) w') ∧ (∀ (a : Array Value) (w' : World), (callFunc f a).run Tryz.prog w' = .ok (.enter f a) w') ∧ Calls Tryz.prog f #[plugW p, .pointer (some ⟨gq, 0, none⟩)] w (Saw w gq o (seeP p (o.labels, x))) := by
  obtain ⟨hs, hsl, -⟩ := steps_each p hp.key
  have hz : (JP.text x).length ≤ 1000000 := Nat.le_trans hg.doc.text (by decide)
  have hlen := hg.len
  unfold kindT seeP
  by_cases k1 : p.kind = 1
  · rw [if_pos k1, if_pos k1]
    obtain ⟨q1, q2⟩ := check_lab hc (.inl k1)
    exact ⟨_, m_addLabel, enter_addLabel, addLabel_any h hg.rise (Nat.le_trans hlen (by decide)) p⟩
  · rw [if_neg k1, if_neg k1]
    by_cases k2 : p.kind = 2
    · rw [if_pos k2, if_pos k2]
      obtain ⟨q1, q2⟩ := check_field hc (.inl k2)
      exact ⟨_, m_addField, enter_addField, addField_any h hg.doc p hp (q2 k2) q1 hE⟩
    · rw [if_neg k2, if_neg k2]
      by_cases k3 : p.kind = 3
      · rw [if_pos k3, if_pos k3]
        exact ⟨_, m_needLabel, enter_needLabel, (needLabel_any h hg.rise (Nat.le_trans hlen (by decide)) p).mono fun e w' h9 => ⟨h9.1, h.below h9.2, But.of h9.2⟩⟩
      · rw [if_neg k3, if_neg k3]
        by_cases k4 : p.kind = 4
        · rw [if_pos k4, if_pos k4]
          exact ⟨_, m_barField, enter_barField, (barField_any h hz p hp hs hsl hE).mono fun e w' h9 => ⟨h9.1, h.below h9.2, But.of h9.2⟩⟩
        · rw [if_neg k4, if_neg k4]
          exact ⟨_, m_mostField, enter_mostField, (mostField_any h hz p hp hs hsl hE).mono fun e w' h9 => ⟨h9.1, h.below h9.2, But.of h9.2⟩⟩
def outR (l : List GPlugin) (o : GObject) (j : Nat) (st : GSt) : GObject × Nat × Int := if j = 0 then restB true l o 0 st else if j = 1 then restB false l o 0 st else doneO o st
theorem outR_at (l : List GPlugin) (o : GObject) (st : GSt) {j : Nat} (hj : j < 2) : ∃ b, (#[.bool true, .bool false] : Array Value)[j]? = some (.bool b) ∧ outR l o j st = restB b l o 0 st ∧ ∀ st', outR l o (j + 1) st' = nextB b l o st' := by
  rcases (show j = 0 ∨ j = 1 by omega) with rfl | rfl
  · exact ⟨true, rfl, rfl, fun _ => rfl⟩
  · exact ⟨false, rfl, rfl, fun _ => rfl⟩
set_option maxRecDepth 100000 in
set_option maxHeartbeats 6400000 in
theorem run_any (v : Value) (l : List GPlugin) (o : GObject) (v1 v2 v3 : Value) (w : World) (h : RowAt PluginR 4 w v l) (hl : l.length ≤ 1048576) (hok : ∀ p ∈ l, OkPlugin p) (hol : RowAt LabelR 2 w v1 o.labels) (hoo : StrAt w v2 o.owners) (hoh : StrAt w v3 o.holds) (hoO : Sto.OkObj o) (hE : Env w) :
    Calls Tryz.prog 26 #[v, Sto.objW o v1 v2 v3] w (RanAt (runP l o) w) := by
  obtain ⟨al, cl, rfl, -, -⟩ := h.len
  obtain ⟨a1, c1, rfl, -, -⟩ := hol.len
  obtain ⟨a2, c2, rfl, -, -⟩ := hoo.row.len
  obtain ⟨a3, c3, rfl, -, -⟩ := hoh.row.len
  obtain ⟨n, Hn⟩ : ∃ n, Hid (l.length = n) := ⟨_, Lib.hid rfl⟩
  obtain ⟨n1, Hn1⟩ : ∃ n, Hid (o.labels.length = n) := ⟨_, Lib.hid rfl⟩
  obtain ⟨n2, Hn2⟩ : ∃ n, Hid (o.owners.length = n) := ⟨_, Lib.hid rfl⟩
  obtain ⟨n3, Hn3⟩ : ∃ n, Hid (o.holds.length = n) := ⟨_, Lib.hid rfl⟩
  rw [Hn1.out] at hol
  rw [Hn2.out] at hoo
  rw [Hn3.out] at hoh
  rw [Hn.out] at h hl
  rw [Hn.out, Hn1.out, Hn2.out, Hn3.out]
  obtain ⟨R, HR⟩ : ∃ R, Hid (runP l o = R) := ⟨_, Lib.hid rfl⟩
  rw [HR.out]
  have HX := Lib.hid h
  have Hok := Lib.hid hok
  have HE := Lib.hid hE
  have HL := Lib.hid hol
  have HOo := Lib.hid hoo
  have HOh := Lib.hid hoh
  have HoO := Lib.hid hoO
  obtain ⟨w1, hw1⟩ : ∃ w1, w1 = (w.alloc (.cells #[.string o.okey.kind, .string o.okey.space, .string o.okey.name, .slice a1 n1 c1, .slice a2 n2 c2, .slice a3 n3 c3, .bool o.ending, .string o.uid, .int .i64 o.rev, .string o.doc] 30)).alloc (.cells Sto.noA 30) := ⟨_, rfl⟩
  obtain ⟨gb, hgb⟩ : ∃ gb, gb = w.heap.size := ⟨_, rfl⟩
  obtain ⟨gr, hgr⟩ : ∃ gr, gr = w.heap.size + 1 := ⟨_, rfl⟩
  have B1 : Hid (w1.heap[gb]? = some (.cells #[.string o.okey.kind, .string o.okey.space, .string o.okey.name, .slice a1 n1 c1, .slice a2 n2 c2, .slice a3 n3 c3, .bool o.ending, .string o.uid, .int .i64 o.rev, .string o.doc] 30 (0, 0))) := Lib.hid (by rw [hw1, hgb]; exact heap_alloc_old (heap_alloc_new w _))
  have R1 : Hid (w1.heap[gr]? = some (.cells Sto.noA 30 (0, 0))) := Lib.hid (by rw [hw1, hgr]; exact heap_alloc_at (World.size_alloc _ _).symm)
  have hb1 : Below w.heap.size w w1 := by rw [hw1]; exact ((Below.refl _ w).alloc (Nat.le_refl _) _).alloc (by rw [World.size_alloc]; omega) _
  have hs1 : w1.heap.size = w.heap.size + 2 := by rw [hw1, World.size_alloc, World.size_alloc]
  have Hb1 := Lib.hid hb1
  have hwr : w.heap.size ≤ gr := by omega
  have hrl : gr < w.heap.size + 2 := by omega
  have HC := Lib.hid (check_plugs (.slice al n cl) l w1 (h.below stays_plugin hb1) (by rw [Hn.out]; exact hl) hok (hE.below hb1))
  obtain ⟨cL, HcL⟩ : ∃ y, Hid (checkL l = y) := ⟨_, Lib.hid rfl⟩
  rw [HcL.out] at HC
  clear h hok hE hol hoo hoh hoO hb1
  rw [show Sto.objW o (.slice a1 n1 c1) (.slice a2 n2 c2) (.slice a3 n3 c3) = .agg #[.string o.okey.kind, .string o.okey.space, .string o.okey.name, .slice a1 n1 c1, .slice a2 n2 c2, .slice a3 n3 c3, .bool o.ending, .string o.uid, .int .i64 o.rev, .string o.doc] from rfl]
  go_enter Tryz.func26, Tryz.ntmps26
  go_upto_region 1 with fail
  have hex : ((w.alloc (.cells #[.string o.okey.kind, .string o.okey.space, .string o.okey.name, .slice a1 n1 c1, .slice a2 n2 c2, .slice a3 n3 c3, .bool o.ending, .string o.uid, .int .i64 o.rev, .string o.doc] 30)).alloc (.cells #[.string { data := #[] }, .string { data := #[] }, .string { data := #[] }, .slice none 0 0, .slice none 0 0, .slice none 0 0, .bool false, .string { data := #[] }, .int .i64 0, .string { data := #[] }] 30)) = w1 := hw1.symm
  rw [hex]
  try rw [← hgr]
  rw [← hgb]
  clear hw1 hex hgb hgr
  go_wp2_with fail
  refine HC.out.mono ?_
  rintro E w2 ⟨rfl, hb2⟩
  have B2 := Lib.hid (below_block hb2 B1.out)
  have R2 := Lib.hid (below_block hb2 R1.out)
  have Hb2 := Lib.hid (Hb1.out.trans (hb2.mono (by omega)))
  have hs2 := hb2.size
  clear hb2 HC B1 R1
  by_cases hcl : cL = 0
  · subst hcl
    have cb := fun i => cell_block B2.out i
    have HCo := Lib.hid (Sto.checkObj_any o (.slice a1 n1 c1) (.slice a2 n2 c2) (.slice a3 n3 c3) w2 (HL.out.below stays_label Hb2.out) (HOo.out.below Hb2.out) (HOh.out.below Hb2.out) HoO.out (HE.out.below Hb2.out).1 (HE.out.below Hb2.out).2.2)
    obtain ⟨ce, Hce⟩ : ∃ y, Hid (Sto.objE o = y) := ⟨_, Lib.hid rfl⟩
    rw [Hce.out, show Sto.objW o (.slice a1 n1 c1) (.slice a2 n2 c2) (.slice a3 n3 c3) = .agg #[.string o.okey.kind, .string o.okey.space, .string o.okey.name, .slice a1 n1 c1, .slice a2 n2 c2, .slice a3 n3 c3, .bool o.ending, .string o.uid, .int .i64 o.rev, .string o.doc] from rfl] at HCo
    go_wp2_with fail
    refine HCo.out.mono ?_
    rintro E w3 ⟨rfl, hb3⟩
    have B3 := Lib.hid (below_block hb3 B2.out)
    have R3 := Lib.hid (below_block hb3 R2.out)
    have Hb3 := Lib.hid (Hb2.out.trans (hb3.mono (by omega)))
    have hs3 := hb3.size
    clear hb3 HCo cb B2 R2 Hb2
    by_cases hc : ce = 0
    · subst hc
      have HR2 : Hid (R = restB true l o 0 (startS o)) := Lib.hid (by
        rw [← HR.out]
        refine run_rest ?_
        unfold checkE
        rw [HcL.out, if_neg (fun h => h rfl)]
        exact Hce.out)
      have Hl8 : Hid (l.length ≤ 8 ∧ ∀ p ∈ l, checkP p = 0) := Lib.hid (checkL_ok HcL.out)
      have HGS : Hid (GoodS (startS o)) := Lib.hid (start_good Hce.out)
      clear HR HcL Hce
      have cb := fun i => cell_block B3.out i
      have HCp := Lib.hid (storeCopy_any o.okey (.slice a1 n1 c1) (.slice a2 n2 c2) (.slice a3 n3 c3) o.ending o.uid o.rev o.doc o.labels o.owners o.holds w3 (HL.out.below stays_label Hb3.out) (HOo.out.below Hb3.out) (HOh.out.below Hb3.out) (by have := HoO.out.labels.1; omega) (by have := HoO.out.owners.1; omega) (by have := HoO.out.holds.1; omega))
      unfold objV at HCp
      go_wp2_with fail
      refine HCp.out.mono ?_
      rintro E w4 ⟨u1, u2, u3, rfl, ho1, ho2, ho3, -, hb4⟩
      have B4 := Lib.hid (below_block hb4 B3.out)
      have R4 := Lib.hid (below_block hb4 R3.out)
      have Hb4 := Lib.hid (Hb3.out.trans (hb4.mono (by omega)))
      have hs4 := hb4.size
      have HO4 : Hid (Sto.ObjIn (fun b => b < w4.heap.size) w4 u1 u2 u3 o) := Lib.hid ⟨OwnX.ofFlat ho1 fun b hb => (ho1.at hb).2.1, OwnX.ofFlat ho2 fun b hb => (ho2.at hb).2.1, OwnX.ofFlat ho3 fun b hb => (ho3.at hb).2.1⟩
      clear hb4 HCp cb B3 R3 Hb3 ho1 ho2 ho3
      obtain ⟨d1, e1, rfl, -, -⟩ := HO4.out.labels.own.row.len
      obtain ⟨d2, e2, rfl, -, -⟩ := HO4.out.owners.own.row.len
      obtain ⟨d3, e3, rfl, -, -⟩ := HO4.out.holds.own.row.len
      rw [Hn1.out, Hn2.out, Hn3.out] at HO4 ⊢
      go_upto_region 7 with fail
      obtain ⟨w5, hw5⟩ : ∃ w5, w5 = w4.alloc (.cells (guestCs o (.slice d1 n1 e1) (.slice d2 n2 e2) (.slice d3 n3 e3) .nilIface) 127) := ⟨_, rfl⟩
      obtain ⟨gq, hgq⟩ : ∃ gq, gq = w4.heap.size := ⟨_, rfl⟩
      have hex : (w4.alloc (.cells #[.string o.okey.kind, .string o.okey.space, .string o.okey.name, .slice d1 n1 e1, .slice d2 n2 e2, .slice d3 n3 e3, .bool o.ending, .string o.uid, .int .i64 o.rev, .string o.doc, .nilIface] 127)) = w5 := hw5.symm
      rw [hex]
      rw [← hgq]
      have hb45 : Below w4.heap.size w4 w5 := by rw [hw5]; exact (Below.refl _ w4).alloc (Nat.le_refl _) _
      have G5 : Hid (w5.heap[gq]? = some (.cells (guestCs o (.slice d1 n1 e1) (.slice d2 n2 e2) (.slice d3 n3 e3) .nilIface) 127 (0, 0))) := Lib.hid (by rw [hw5, hgq]; exact heap_alloc_new w4 _)
      have B5 := Lib.hid (below_block hb45 B4.out)
      have R5 := Lib.hid (below_block hb45 R4.out)
      have Hb5 := Lib.hid (Hb4.out.trans (hb45.mono (by omega)))
      have HO5 : Hid (Sto.ObjIn (fun b => b < w4.heap.size) w5 (.slice d1 n1 e1) (.slice d2 n2 e2) (.slice d3 n3 e3) o) := Lib.hid (HO4.out.agree fun b hb => hb45.block b hb)
      have hs5 : w5.heap.size = w4.heap.size + 1 := by rw [hw5, World.size_alloc]
      have hgr : gr < gq := by omega
      have hwq : w.heap.size ≤ gq := by omega
      have hq4 : w4.heap.size ≤ gq := by omega
      have hq5 : gq < w5.heap.size := by omega
      clear hex hw5 hb45 B4 R4 Hb4 HO4 hgq
      have HRd := Lib.hid (read_low o.doc w5 HoO.out.doc)
      have cb := fun i => cell_block B5.out i
      go_wp2_with fail
      refine HRd.out.mono ?_
      rintro E w6 ⟨wv, rfl, ⟨nw, hjw⟩, hb6⟩
      have HJ6 : Hid (JvAt nw [gq] w6 wv (startS o).2) := Lib.hid (hjw [gq] (fun b hb => by rw [List.mem_singleton.1 hb]; omega))
      have R6 := Lib.hid (below_block hb6 R5.out)
      have G6 := Lib.hid (below_block hb6 G5.out)
      have Hb6 := Lib.hid (Hb5.out.trans (hb6.mono (by omega)))
      have HO6 : Hid (Sto.ObjIn (OffG gq w6) w6 (.slice d1 n1 e1) (.slice d2 n2 e2) (.slice d3 n3 e3) o) := Lib.hid ((HO5.out.agree fun b hb => hb6.block b (by omega)).mono fun b hb => ⟨by have := hb6.size; omega, by omega⟩)
      have hs6 := hb6.size
      clear hb6 hjw HRd cb B5 R5 G5 Hb5 HO5
      obtain ⟨w7, hw7⟩ : ∃ w7, w6.setCell ⟨gq, 10, none⟩ wv = w7 := ⟨_, rfl⟩
      have t7 := touch_setCell (i := 10) (v := wv) G6.out
      rw [hw7] at t7
      have G7 : Hid (GuestAt w7 gq { o with labels := (startS o).1 } (startS o).2) := Lib.hid ⟨_, _, _, _, t7.1, (HO6.out.agree fun b hb => t7.2.other b hb.2).mono (fun b hb => ⟨by rw [t7.2.size]; exact hb.1, hb.2⟩), nw, HJ6.out.keepT (KeepT.but (But.touch t7.2) (List.mem_singleton.2 rfl))⟩
      have R7 := Lib.hid (t7.2.block R6.out (by omega))
      have Hb7 := Lib.hid (t7.2.below Hb6.out hwq)
      have hs7 : w6.heap.size ≤ w7.heap.size := by rw [t7.2.size]; exact Nat.le_refl _
      have cg := fun i => cell_block G6.out i
      have fg := fun i => free_block G6.out i
      unfold guestCs at cg
      have hone := jv_one HJ6.out
      go_wp2_with (refine wpList_store_cell (by rfl) _ _ _ (by rfl) gq 10 wv (by rfl) (by rfl) hone _ _ (by exact G6.out) (by show 10 < 11; decide) (by kernel_rfl) ?_)
      try rw [hw7]
      clear hw7 t7 cg fg G6 R6 Hb6 HJ6 HO6 hone
      obtain ⟨w8, hw8⟩ : ∃ w8, w8 = w7.alloc (.cells #[.bool true, .bool false] 4) := ⟨_, rfl⟩
      obtain ⟨gs, hgs⟩ : ∃ gs, gs = w7.heap.size := ⟨_, rfl⟩
      rw [← hw8]
      try rw [← hgs]
      have hb78 : Below w7.heap.size w7 w8 := by rw [hw8]; exact (Below.refl _ w7).alloc (Nat.le_refl _) _
      have S8 : Hid (w8.heap[gs]? = some (.cells #[.bool true, .bool false] 4 (0, 0))) := Lib.hid (by rw [hw8, hgs]; exact heap_alloc_new w7 _)
      have G8 := Lib.hid (G7.out.below hb78)
      have R8 := Lib.hid (below_block hb78 R7.out)
      have Hb8 := Lib.hid (Hb7.out.trans (hb78.mono Hb7.out.size))
      have hsq : gs ≠ gq := by have := hb78.size; omega
      clear hw8 hgs hb78 G7 R7 Hb7 hs7
      go_loopg [39] 2 (fun k u39 wr => ∃ (j : Nat) (st : GSt), j + k = 2 ∧ u39 = .int .i64 (j : Int) ∧ Hid (R = outR l o j st) ∧ Hid (GuestAt wr gq { o with labels := st.1 } st.2) ∧ Hid (GoodS st) ∧ Hid (wr.heap[gr]? = some (.cells Sto.noA 30 (0, 0))) ∧ Hid (wr.heap[gs]? = some (.cells #[.bool true, .bool false] 4 (0, 0))) ∧ Hid (Below w.heap.size w wr))
      case atStart => exact ⟨0, startS o, rfl, rfl, HR2, G8, HGS, R8, S8, Hb8⟩
      case round =>
        clear HR2 G8 HGS R8 S8 Hb8
        obtain ⟨j, st, hjk, rfl, HRo, HG, HS, HRr, HSs, HB⟩ := hrel
        cases gk with
        | zero =>
          obtain rfl : j = 2 := by omega
          have HRd : Hid (R = doneO o st) := HRo
          obtain ⟨v1, v2, v3, dv, hbx, hob, nj, hj⟩ := HG.out
          obtain ⟨x1, y1, rfl, -, -⟩ := hob.labels.own.row.len
          obtain ⟨x2, y2, rfl, -, -⟩ := hob.owners.own.row.len
          obtain ⟨x3, y3, rfl, -, -⟩ := hob.holds.own.row.len
          obtain ⟨m1, Hm1⟩ : ∃ n, Hid (({ o with labels := st.1 } : GObject).labels.length = n) := ⟨_, Lib.hid rfl⟩
          obtain ⟨m2, Hm2⟩ : ∃ n, Hid (({ o with labels := st.1 } : GObject).owners.length = n) := ⟨_, Lib.hid rfl⟩
          obtain ⟨m3, Hm3⟩ : ∃ n, Hid (({ o with labels := st.1 } : GObject).holds.length = n) := ⟨_, Lib.hid rfl⟩
          rw [Hm1.out, Hm2.out, Hm3.out] at hbx hob
          have HTx := Lib.hid (text_any nj dv st.2 wr (hj.fresh (fun b hb => by cases hb)) (Nat.le_trans HS.out.doc.text (by decide)) (HE.out.below HB.out).1)
          obtain ⟨T9, HT9⟩ : ∃ y, Hid (mkB (JP.text st.2) = y) := ⟨_, Lib.hid rfl⟩
          rw [HT9.out] at HTx
          have HBx := Lib.hid hbx
          have HOb := Lib.hid hob
          have cg := fun i => cell_block HBx.out i
          unfold guestCs at cg
          clear hbx hob hj HG
          go_wp2_with fail
          refine HTx.out.mono ?_
          rintro E w9 ⟨rfl, hb9⟩
          have HR9 := Lib.hid (below_block hb9 HRr.out)
          have HBx9 := Lib.hid (below_block hb9 HBx.out)
          have HB9 := Lib.hid (HB.out.trans (hb9.mono HB.out.size))
          have HOb9 : Hid (Sto.ObjIn (OffG gq w9) w9 (.slice x1 m1 y1) (.slice x2 m2 y2) (.slice x3 m3 y3) { o with labels := st.1 }) := Lib.hid ((HOb.out.agree fun b h9 => hb9.block b h9.1).mono fun b h9 => ⟨Nat.lt_of_lt_of_le h9.1 hb9.size, h9.2⟩)
          clear hb9 HTx cg HBx HOb HRr HB
          obtain ⟨w10, hw10⟩ : ∃ w10, w9.setCell ⟨gq, 9, none⟩ (.string T9) = w10 := ⟨_, rfl⟩
          have t10 := touch_setCell (i := 9) (v := .string T9) HBx9.out
          rw [hw10] at t10
          have B10 : Hid (w10.heap[gq]? = some (.cells (guestCs (outO o st) (.slice x1 m1 y1) (.slice x2 m2 y2) (.slice x3 m3 y3) dv) 127 (0, 0))) := Lib.hid (by
            have h9 := t10.1
            rw [← HT9.out] at h9
            exact h9)
          have HR10 := Lib.hid (t10.2.block HR9.out (by omega))
          have HB10 := Lib.hid (t10.2.below HB9.out hwq)
          have HOb10 : Hid (Sto.ObjIn (OffG gq w10) w10 (.slice x1 m1 y1) (.slice x2 m2 y2) (.slice x3 m3 y3) (outO o st)) := Lib.hid (((HOb9.out.agree fun b h9 => t10.2.other b h9.2).mono fun b h9 => ⟨by rw [t10.2.size]; exact h9.1, h9.2⟩).other rfl rfl rfl)
          have cg := fun i => cell_block HBx9.out i
          have fg := fun i => free_block HBx9.out i
          unfold guestCs at cg
          go_upto_region 21 with fail
          try rw [hw10]
          clear hw10 t10 cg fg HBx9 HR9 HB9 HOb9
          have cg := fun i => cell_block B10.out i
          unfold guestCs at cg
          go_wp2_with (refine wpList_store_box (by rfl) _ _ _ (by rfl) gr (Sto.objCs (outO o st) (.slice x1 m1 y1) (.slice x2 m2 y2) (.slice x3 m3 y3)).toArray (by rfl) (by rfl) _ _ (by exact HR10.out) (by exact Sto.Tryz.sizeObj) (by rfl) (Sto.objA_ones HOb10.out) ?_)
          intro w11 b11 t11
          have B11 := Lib.hid b11
          have HF : Hid (Below w.heap.size w w11) := Lib.hid (t11.below HB10.out hwr)
          have HOF : Hid (Sto.ObjIn (fun b => b < w11.heap.size) w11 (.slice x1 m1 y1) (.slice x2 m2 y2) (.slice x3 m3 y3) (outO o st)) := Lib.hid (((objIn_off HOb10.out HR10.out).agree fun b h9 => t11.other b h9.2).mono fun b h9 => by rw [t11.size]; exact h9.1.1)
          clear b11 t11 cg
          go_wp2_with fail
          refine bodyPost_ret (v := .tuple #[Sto.objW (outO o st) (.slice x1 m1 y1) (.slice x2 m2 y2) (.slice x3 m3 y3), .int .i64 0, .int .i64 0]) ?_ rfl ?_
          · exact results_three_box Tryz.results26 _ _ gr _ _ _ _ (by rfl) B11.out Tryz.underlying30 rfl (by exact Sto.Tryz.sizeObj)
          · rw [HRd.out]
            exact ⟨_, _, _, rfl, HOF.out, HF.out⟩
        | succ k =>
          have hj2 : j < 2 := by omega
          obtain ⟨b, hcb, hb1, hb2⟩ := outR_at l o st hj2
          rw [hb1] at HRo
          have Hnx := Lib.hid hb2
          have f0 := (cell_block HSs.out j).trans hcb
          have q1 : (0 : Int) ≤ (j : Int) := by omega
          have q2 : (j : Int) < 2 := by omega
          clear hb1 hb2 hcb
          go_wp2_with fail
          go_loopg [45] n (fun k2 u45 wr2 => ∃ (i : Nat) (st2 : GSt), i + k2 = n ∧ u45 = .int .i64 (i : Int) ∧ Hid (R = restB b l o i st2) ∧ Hid (GuestAt wr2 gq { o with labels := st2.1 } st2.2) ∧ Hid (GoodS st2) ∧ Hid (wr2.heap[gr]? = some (.cells Sto.noA 30 (0, 0))) ∧ Hid (wr2.heap[gs]? = some (.cells #[.bool true, .bool false] 4 (0, 0))) ∧ Hid (Below w.heap.size w wr2))
          case atStart => exact ⟨0, st, by omega, rfl, HRo, HG, HS, HRr, HSs, HB⟩
          case round =>
            clear HRo HG HS HRr HSs HB f0
            obtain ⟨i, st2, hik, rfl, HRo, HG, HS, HRr, HSs, HB⟩ := hrel
            cases gk with
            | zero =>
              obtain rfl : n = i := by omega
              have HRn : Hid (R = outR l o (j + 1) st2) := Lib.hid (by
                rw [Hnx.out, ← rest_end (b := b) (l := l), Hn.out]; exact HRo.out)
              go_wp2_with fail
              go_roundg k
              case measure => omega
              case rel => exact ⟨j + 1, st2, by omega, by go_num, HRn, HG, HS, HRr, HSs, HB⟩
            | succ k2 =>
              have hil : i < n := by omega
              obtain ⟨x, hx⟩ : ∃ x, l[i]? = some x := ⟨l[i]'(by rw [Hn.out]; exact hil), List.getElem?_eq_getElem _⟩
              have HRx := HRo.out
              rw [rest_at hx] at HRx
              have HRX := Lib.hid HRx
              obtain ⟨bp, op, c', hva, -, -, hbs, hcell⟩ := HX.out.form (by rw [Hn.out]; omega) (by omega)
              injection hva with u1 u2 u3
              subst u1
              clear u2 u3 HRo HRx
              obtain ⟨ds, -, hcc, hds⟩ := hcell i x hx
              obtain ⟨rfl, -, -⟩ := hds
              have f0 := (HB.out.cell (p := ⟨bp, _, none⟩) hbs).trans (hcc 0 _ rfl)
              have f1 := (HB.out.cell (p := ⟨bp, _, none⟩) hbs).trans (hcc 1 _ rfl)
              have f2 := (HB.out.cell (p := ⟨bp, _, none⟩) hbs).trans (hcc 2 _ rfl)
              have f3 := (HB.out.cell (p := ⟨bp, _, none⟩) hbs).trans (hcc 3 _ rfl)
              rw [Nat.add_zero] at f0
              have q3 : (0 : Int) ≤ (i : Int) := by omega
              have q4 : (i : Int) < (n : Int) := by omega
              have Hok1 := Hok.out x (List.mem_of_getElem? hx)
              have Hck := Hl8.out.2 x (List.mem_of_getElem? hx)
              obtain ⟨kd, Hkd⟩ : ∃ y, Hid (x.kind = y) := ⟨_, Lib.hid rfl⟩
              have H7 := Lib.hid (heap_alloc_new wr (.cells #[.int .i64 0, .string { data := #[] }, .string { data := #[] }, .int .i64 0] 64))
              have hb4 := Lib.hid ((Below.refl wr.heap.size wr).alloc (Nat.le_refl _) (.cells #[.int .i64 0, .string { data := #[] }, .string { data := #[] }, .int .i64 0] 64))
              clear hx hcc hcell
              rw [Hkd.out] at f0
              go_wp2_with (refine wpList_store_box (by rfl) _ _ _ (by rfl) wr.heap.size #[.int .i64 kd, .string x.key, .string x.val, .int .i64 x.most] (by rfl) (by rfl) _ _ (by exact H7.out) (by exact Tryz.sizePlug) (by rfl) (by simp [Value.oneCell']) ?_)
              intro w5 b5 t5
              have hb5 : Below wr.heap.size wr w5 := t5.below hb4.out (Nat.le_refl _)
              obtain ⟨gx, hgx⟩ : ∃ g, wr.heap.size = g := ⟨_, rfl⟩
              have HG5 := Lib.hid (HG.out.below hb5)
              have HR5 := Lib.hid (below_block hb5 HRr.out)
              have HS5 := Lib.hid (below_block hb5 HSs.out)
              have HB5 := Lib.hid (HB.out.trans (hb5.mono HB.out.size))
              rw [hgx] at b5 ⊢
              have HX5 := Lib.hid b5
              have cx := fun i => cell_block HX5.out i
              clear b5 t5 hb5 hb4 H7 HB f0 f1 f2 f3 hgx HG HRr HSs
              have way : kd = 1 ∨ kd = 2 ∨ (kd ≠ 1 ∧ kd ≠ 2) := by omega
              have Hadd : Hid (addsB x = (decide (kd = 1) || decide (kd = 2))) := Lib.hid (by rw [← Hkd.out]; rfl)
              obtain ⟨ad, HAd⟩ : ∃ y, Hid (addsB x = y) := ⟨_, Lib.hid rfl⟩
              rw [HAd.out] at HRX Hadd
              rcases way with rfl | rfl | ⟨hk1, hk2⟩
              · obtain rfl : ad = true := Hadd.out
                clear Hadd
                cases b with
                | true =>
                  have HR9 : Hid (R = if (seeP x st2).1 ≠ 0 then (Sto.noObj, i, (seeP x st2).1) else restB _ l o (i + 1) (seeP x st2).2) := Lib.hid (by have h9 := HRX.out; rw [if_neg (by decide)] at h9; exact h9)
                  have HOf := Lib.hid (of_any x w5 (kinds_of Hck))
                  unfold plugW at HOf
                  rw [Hkd.out] at HOf
                  clear HRX
                  go_wp2_with fail
                  refine HOf.out.mono ?_
                  rintro E w6 ⟨rfl, hb6⟩
                  have HG6 := Lib.hid (HG5.out.below hb6)
                  have HR6 := Lib.hid (below_block hb6 HR5.out)
                  have HS6 := Lib.hid (below_block hb6 HS5.out)
                  have HB6 := Lib.hid (HB5.out.trans (hb6.mono HB5.out.size))
                  have HX6 := Lib.hid (below_block hb6 HX5.out)
                  obtain ⟨fn, hme, hen, hca⟩ := see_any HG6.out HS.out x Hok1 Hck (HE.out.below HB6.out)
                  rw [show (({ o with labels := st2.1 } : GObject).labels, st2.2) = st2 from rfl] at hca
                  obtain ⟨T, HT⟩ : ∃ y, Hid (kindT x.kind = y) := ⟨_, Lib.hid rfl⟩
                  rw [HT.out] at hme
                  have HT2 := HT.out
                  rw [Hkd.out] at HT2
                  rw [HT2]
                  unfold plugW at hca
                  rw [Hkd.out] at hca
                  obtain ⟨sr, Hsr⟩ : ∃ y, Hid (seeP x st2 = y) := ⟨_, Lib.hid rfl⟩
                  rw [Hsr.out] at hca HR9
                  have HCa := Lib.hid hca
                  have HGd : Hid (sr.1 = 0 → GoodS sr.2) := Lib.hid fun h9 => by rw [← Hsr.out] at h9 ⊢; exact see_good HS.out Hck h9
                  clear hca hb6 HOf cx HG5 HR5 HS5 HB5 HX5 HT HT2 Hsr HS
                  go_wp2_with fail
                  refine HCa.out.mono ?_
                  rintro E w7 ⟨rfl, hg7, hb7⟩
                  have HG7 : Hid (GuestAt w7 gq { o with labels := sr.2.1 } sr.2.2) := Lib.hid hg7
                  have HR7 := Lib.hid (hb7.keep HR6.out (by omega))
                  have HS7 := Lib.hid (hb7.keep HS6.out hsq)
                  have HB7 := Lib.hid (hb7.below HB6.out HB6.out.size hwq)
                  clear hg7 hb7 HCa hme hen HG6 HR6 HS6 HB6 HX6
                  obtain ⟨ce9, st9⟩ := sr
                  dsimp only at HR9 HGd HG7 ⊢
                  by_cases hc9 : ce9 = 0
                  · subst hc9
                    have HRn : Hid (R = restB _ l o (i + 1) st9) := Lib.hid (by have h9 := HR9.out; rw [if_neg (fun h => h rfl)] at h9; exact h9)
                    have HG9 := Lib.hid (HGd.out rfl)
                    clear HR9 HGd
                    go_wp2_with fail
                    go_roundg k2
                    case measure => omega
                    case rel => exact ⟨i + 1, st9, by omega, by go_num, HRn, HG7, HG9, HR7, HS7, HB7⟩
                  · have q9 : (ce9 != 0) = true := bne_iff_ne.2 hc9
                    have HRn : Hid (R = (Sto.noObj, i, ce9)) := Lib.hid (by have h9 := HR9.out; rw [if_pos hc9] at h9; exact h9)
                    clear HR9 HGd
                    go_wp2_with (refine wpList_store_box (by rfl) _ _ _ (by rfl) gr Sto.noA (by rfl) (by rfl) _ _ (by exact HR7.out) (by exact Sto.Tryz.sizeObj) (by rfl) (by simp [Value.oneCell', Sto.noA]) ?_)
                    intro wF bF tF
                    have BF := Lib.hid bF
                    have HF := Lib.hid (tF.below HB7.out hwr)
                    clear bF tF
                    go_wp2_with fail
                    refine bodyPost_ret (v := .tuple #[.agg Sto.noA, .int .i64 (i : Int), .int .i64 ce9]) ?_ rfl ?_
                    · exact results_three_box Tryz.results26 _ _ gr _ _ _ _ (by rfl) BF.out Tryz.underlying30 rfl (by exact Sto.Tryz.sizeObj)
                    · exact ran_no HRn.out HF.out
                | false =>
                  have HR9 : Hid (R = restB _ l o (i + 1) st2) := Lib.hid (by have h9 := HRX.out; rw [if_pos (by decide)] at h9; exact h9)
                  go_wp2_with fail
                  go_roundg k2
                  case measure => omega
                  case rel => exact ⟨i + 1, st2, by omega, by go_num, HR9, HG5, HS, HR5, HS5, HB5⟩
              · obtain rfl : ad = true := Hadd.out
                clear Hadd
                cases b with
                | true =>
                  have HR9 : Hid (R = if (seeP x st2).1 ≠ 0 then (Sto.noObj, i, (seeP x st2).1) else restB _ l o (i + 1) (seeP x st2).2) := Lib.hid (by have h9 := HRX.out; rw [if_neg (by decide)] at h9; exact h9)
                  have HOf := Lib.hid (of_any x w5 (kinds_of Hck))
                  unfold plugW at HOf
                  rw [Hkd.out] at HOf
                  clear HRX
                  go_wp2_with fail
                  refine HOf.out.mono ?_
                  rintro E w6 ⟨rfl, hb6⟩
                  have HG6 := Lib.hid (HG5.out.below hb6)
                  have HR6 := Lib.hid (below_block hb6 HR5.out)
                  have HS6 := Lib.hid (below_block hb6 HS5.out)
                  have HB6 := Lib.hid (HB5.out.trans (hb6.mono HB5.out.size))
                  have HX6 := Lib.hid (below_block hb6 HX5.out)
                  obtain ⟨fn, hme, hen, hca⟩ := see_any HG6.out HS.out x Hok1 Hck (HE.out.below HB6.out)
                  rw [show (({ o with labels := st2.1 } : GObject).labels, st2.2) = st2 from rfl] at hca
                  obtain ⟨T, HT⟩ : ∃ y, Hid (kindT x.kind = y) := ⟨_, Lib.hid rfl⟩
                  rw [HT.out] at hme
                  have HT2 := HT.out
                  rw [Hkd.out] at HT2
                  rw [HT2]
                  unfold plugW at hca
                  rw [Hkd.out] at hca
                  obtain ⟨sr, Hsr⟩ : ∃ y, Hid (seeP x st2 = y) := ⟨_, Lib.hid rfl⟩
                  rw [Hsr.out] at hca HR9
                  have HCa := Lib.hid hca
                  have HGd : Hid (sr.1 = 0 → GoodS sr.2) := Lib.hid fun h9 => by rw [← Hsr.out] at h9 ⊢; exact see_good HS.out Hck h9
                  clear hca hb6 HOf cx HG5 HR5 HS5 HB5 HX5 HT HT2 Hsr HS
                  go_wp2_with fail
                  refine HCa.out.mono ?_
                  rintro E w7 ⟨rfl, hg7, hb7⟩
                  have HG7 : Hid (GuestAt w7 gq { o with labels := sr.2.1 } sr.2.2) := Lib.hid hg7
                  have HR7 := Lib.hid (hb7.keep HR6.out (by omega))
                  have HS7 := Lib.hid (hb7.keep HS6.out hsq)
                  have HB7 := Lib.hid (hb7.below HB6.out HB6.out.size hwq)
                  clear hg7 hb7 HCa hme hen HG6 HR6 HS6 HB6 HX6
                  obtain ⟨ce9, st9⟩ := sr
                  dsimp only at HR9 HGd HG7 ⊢
                  by_cases hc9 : ce9 = 0
                  · subst hc9
                    have HRn : Hid (R = restB _ l o (i + 1) st9) := Lib.hid (by have h9 := HR9.out; rw [if_neg (fun h => h rfl)] at h9; exact h9)
                    have HG9 := Lib.hid (HGd.out rfl)
                    clear HR9 HGd
                    go_wp2_with fail
                    go_roundg k2
                    case measure => omega
                    case rel => exact ⟨i + 1, st9, by omega, by go_num, HRn, HG7, HG9, HR7, HS7, HB7⟩
                  · have q9 : (ce9 != 0) = true := bne_iff_ne.2 hc9
                    have HRn : Hid (R = (Sto.noObj, i, ce9)) := Lib.hid (by have h9 := HR9.out; rw [if_pos hc9] at h9; exact h9)
                    clear HR9 HGd
                    go_wp2_with (refine wpList_store_box (by rfl) _ _ _ (by rfl) gr Sto.noA (by rfl) (by rfl) _ _ (by exact HR7.out) (by exact Sto.Tryz.sizeObj) (by rfl) (by simp [Value.oneCell', Sto.noA]) ?_)
                    intro wF bF tF
                    have BF := Lib.hid bF
                    have HF := Lib.hid (tF.below HB7.out hwr)
                    clear bF tF
                    go_wp2_with fail
                    refine bodyPost_ret (v := .tuple #[.agg Sto.noA, .int .i64 (i : Int), .int .i64 ce9]) ?_ rfl ?_
                    · exact results_three_box Tryz.results26 _ _ gr _ _ _ _ (by rfl) BF.out Tryz.underlying30 rfl (by exact Sto.Tryz.sizeObj)
                    · exact ran_no HRn.out HF.out
                | false =>
                  have HR9 : Hid (R = restB _ l o (i + 1) st2) := Lib.hid (by have h9 := HRX.out; rw [if_pos (by decide)] at h9; exact h9)
                  go_wp2_with fail
                  go_roundg k2
                  case measure => omega
                  case rel => exact ⟨i + 1, st2, by omega, by go_num, HR9, HG5, HS, HR5, HS5, HB5⟩
              · have p1 : (kd == 1) = false := by rw [beq_eq_false_iff_ne]; exact hk1
                have p2 : (kd == 2) = false := by rw [beq_eq_false_iff_ne]; exact hk2
                obtain rfl : ad = false := by rw [Hadd.out, decide_eq_false hk1, decide_eq_false hk2]; rfl
                clear Hadd
                cases b with
                | true =>
                  have HR9 : Hid (R = restB _ l o (i + 1) st2) := Lib.hid (by have h9 := HRX.out; rw [if_pos (by decide)] at h9; exact h9)
                  go_wp2_with fail
                  go_roundg k2
                  case measure => omega
                  case rel => exact ⟨i + 1, st2, by omega, by go_num, HR9, HG5, HS, HR5, HS5, HB5⟩
                | false =>
                  have HR9 : Hid (R = if (seeP x st2).1 ≠ 0 then (Sto.noObj, i, (seeP x st2).1) else restB _ l o (i + 1) (seeP x st2).2) := Lib.hid (by have h9 := HRX.out; rw [if_neg (by decide)] at h9; exact h9)
                  have HOf := Lib.hid (of_any x w5 (kinds_of Hck))
                  unfold plugW at HOf
                  rw [Hkd.out] at HOf
                  clear HRX
                  go_wp2_with fail
                  refine HOf.out.mono ?_
                  rintro E w6 ⟨rfl, hb6⟩
                  have HG6 := Lib.hid (HG5.out.below hb6)
                  have HR6 := Lib.hid (below_block hb6 HR5.out)
                  have HS6 := Lib.hid (below_block hb6 HS5.out)
                  have HB6 := Lib.hid (HB5.out.trans (hb6.mono HB5.out.size))
                  have HX6 := Lib.hid (below_block hb6 HX5.out)
                  obtain ⟨fn, hme, hen, hca⟩ := see_any HG6.out HS.out x Hok1 Hck (HE.out.below HB6.out)
                  rw [show (({ o with labels := st2.1 } : GObject).labels, st2.2) = st2 from rfl] at hca
                  obtain ⟨T, HT⟩ : ∃ y, Hid (kindT x.kind = y) := ⟨_, Lib.hid rfl⟩
                  rw [HT.out] at hme
                  have HT2 := HT.out
                  rw [Hkd.out] at HT2
                  rw [HT2]
                  unfold plugW at hca
                  rw [Hkd.out] at hca
                  obtain ⟨sr, Hsr⟩ : ∃ y, Hid (seeP x st2 = y) := ⟨_, Lib.hid rfl⟩
                  rw [Hsr.out] at hca HR9
                  have HCa := Lib.hid hca
                  have HGd : Hid (sr.1 = 0 → GoodS sr.2) := Lib.hid fun h9 => by rw [← Hsr.out] at h9 ⊢; exact see_good HS.out Hck h9
                  clear hca hb6 HOf cx HG5 HR5 HS5 HB5 HX5 HT HT2 Hsr HS
                  go_wp2_with fail
                  refine HCa.out.mono ?_
                  rintro E w7 ⟨rfl, hg7, hb7⟩
                  have HG7 : Hid (GuestAt w7 gq { o with labels := sr.2.1 } sr.2.2) := Lib.hid hg7
                  have HR7 := Lib.hid (hb7.keep HR6.out (by omega))
                  have HS7 := Lib.hid (hb7.keep HS6.out hsq)
                  have HB7 := Lib.hid (hb7.below HB6.out HB6.out.size hwq)
                  clear hg7 hb7 HCa hme hen HG6 HR6 HS6 HB6 HX6
                  obtain ⟨ce9, st9⟩ := sr
                  dsimp only at HR9 HGd HG7 ⊢
                  by_cases hc9 : ce9 = 0
                  · subst hc9
                    have HRn : Hid (R = restB _ l o (i + 1) st9) := Lib.hid (by have h9 := HR9.out; rw [if_neg (fun h => h rfl)] at h9; exact h9)
                    have HG9 := Lib.hid (HGd.out rfl)
                    clear HR9 HGd
                    go_wp2_with fail
                    go_roundg k2
                    case measure => omega
                    case rel => exact ⟨i + 1, st9, by omega, by go_num, HRn, HG7, HG9, HR7, HS7, HB7⟩
                  · have q9 : (ce9 != 0) = true := bne_iff_ne.2 hc9
                    have HRn : Hid (R = (Sto.noObj, i, ce9)) := Lib.hid (by have h9 := HR9.out; rw [if_pos hc9] at h9; exact h9)
                    clear HR9 HGd
                    go_wp2_with (refine wpList_store_box (by rfl) _ _ _ (by rfl) gr Sto.noA (by rfl) (by rfl) _ _ (by exact HR7.out) (by exact Sto.Tryz.sizeObj) (by rfl) (by simp [Value.oneCell', Sto.noA]) ?_)
                    intro wF bF tF
                    have BF := Lib.hid bF
                    have HF := Lib.hid (tF.below HB7.out hwr)
                    clear bF tF
                    go_wp2_with fail
                    refine bodyPost_ret (v := .tuple #[.agg Sto.noA, .int .i64 (i : Int), .int .i64 ce9]) ?_ rfl ?_
                    · exact results_three_box Tryz.results26 _ _ gr _ _ _ _ (by rfl) BF.out Tryz.underlying30 rfl (by exact Sto.Tryz.sizeObj)
                    · exact ran_no HRn.out HF.out
    · have q3 : (ce != 0) = true := bne_iff_ne.2 hc
      have HRs : Hid (R = (Sto.noObj, 0, ce)) := Lib.hid (by
        rw [← HR.out]
        have h9 : checkE l o = ce := by unfold checkE; rw [HcL.out, if_neg (fun h => h rfl)]; exact Hce.out
        unfold runP
        rw [h9, if_pos hc])
      go_wp2_with (refine wpList_store_box (by rfl) _ _ _ (by rfl) gr Sto.noA (by rfl) (by rfl) _ _ (by exact R3.out) (by exact Sto.Tryz.sizeObj) (by rfl) (by simp [Value.oneCell', Sto.noA]) ?_)
      intro wF bF tF
      have BF := Lib.hid bF
      have HF := Lib.hid (tF.below Hb3.out hwr)
      clear bF tF
      go_wp2_with fail
      refine bodyPost_ret (v := .tuple #[.agg Sto.noA, .int .i64 0, .int .i64 ce]) ?_ rfl ?_
      · exact results_three_box Tryz.results26 _ _ gr _ _ _ _ (by rfl) BF.out Tryz.underlying30 rfl (by exact Sto.Tryz.sizeObj)
      · exact ran_no HRs.out HF.out
  · have q3 : (cL == 0) = false := by rw [beq_eq_false_iff_ne]; exact hcl
    have q4 : (cL != 0) = true := bne_iff_ne.2 hcl
    have HRs : Hid (R = (Sto.noObj, 0, cL)) := Lib.hid (by
      rw [← HR.out]
      have h9 : checkE l o = cL := by unfold checkE; rw [HcL.out, if_pos hcl]
      unfold runP
      rw [h9, if_pos hcl])
    go_wp2_with (refine wpList_store_box (by rfl) _ _ _ (by rfl) gr Sto.noA (by rfl) (by rfl) _ _ (by exact R2.out) (by exact Sto.Tryz.sizeObj) (by rfl) (by simp [Value.oneCell', Sto.noA]) ?_)
    intro wF bF tF
    have BF := Lib.hid bF
    have HF := Lib.hid (tF.below Hb2.out hwr)
    clear bF tF
    go_wp2_with fail
    refine bodyPost_ret (v := .tuple #[.agg Sto.noA, .int .i64 0, .int .i64 cL]) ?_ rfl ?_
    · exact results_three_box Tryz.results26 _ _ gr _ _ _ _ (by rfl) BF.out Tryz.underlying30 rfl (by exact Sto.Tryz.sizeObj)
    · exact ran_no HRs.out HF.out
end Adm
end Go.Proofs.YtnnceaapodgfbaaGreatDoor
namespace Go.Proofs.YtnnceaapodgfbaaGreatDoor
namespace Adm
open Go.RowKit
open JP (JV Bs)
theorem child_obj (d : List (Bs × JV)) (s : Bs) : JP.child (.obj d) s = JP.get s d := by rfl
theorem atW_self (y : JV) : ∀ (l : List Bs) (o : Option JV), (grownT l o y).2 = true → JP.atW (grownT l o y).1 l = some y
  | [], _, _ => rfl
  | s :: r, o, h => by
    unfold grownT at h ⊢
    cases hf : fieldsO o with
    | none => rw [hf] at h; cases h
    | some d =>
      rw [hf] at h
      show JP.atW (.obj (JP.put s (grownT r (JP.get s d) y).1 d)) (s :: r) = some y
      rw [JP.atW, child_obj, JP.get_put_same]
      exact atW_self y r _ h
theorem atW_keep (y : JV) : ∀ (l : List Bs) (x : JV), (grownT l (some x) y).2 = true → JP.atW x l = none → ∀ m, (JP.atW x m).isSome = true → (JP.atW (grownT l (some x) y).1 m).isSome = true
  | [], x, _, hn, _, _ => by cases hn
  | s :: r, x, h, hn, m, hm => by
    cases m with
    | nil => rfl
    | cons t q =>
      unfold grownT at h ⊢
      cases hf : fieldsO (some x) with
      | none => rw [hf] at h; cases h
      | some d =>
        rw [hf] at h
        have h : (grownT r (JP.get s d) y).2 = true := h
        obtain rfl : x = .obj d := by
          cases x with
          | obj d' => cases hf; rfl
          | _ => cases hf
        show (JP.atW (.obj (JP.put s (grownT r (JP.get s d) y).1 d)) (t :: q)).isSome = true
        rw [JP.atW, child_obj] at hn hm ⊢
        by_cases hts : t = s
        · subst hts
          rw [JP.get_put_same]
          cases hg : JP.get t d with
          | none => rw [hg] at hm; cases hm
          | some c =>
            rw [hg] at hn hm h
            exact atW_keep y r c h hn q hm
        · rw [JP.get_put_ne _ hts]
          exact hm
def DoneS (p : GPlugin) (st : GSt) : Prop := (p.kind = 1 → hasK st.1 p.key = true) ∧ (p.kind = 2 → (JP.atW st.2 (stepsOf p).2).isSome = true)
theorem add_label_0 {p : GPlugin} {st : GSt} (h : (addLabelS p st).1 = 0) : addLabelS p st = (0, if hasK st.1 p.key = true then st else (insL st.1 ⟨p.key, p.val⟩, st.2)) := by
  unfold addLabelS at h ⊢
  by_cases g1 : hasK st.1 p.key = true
  · rw [if_pos g1, if_pos g1]
  · rw [if_neg g1] at h ⊢
    rw [if_neg g1]
    by_cases g2 : st.1.length = 10
    · rw [if_pos g2] at h; cases h
    · rw [if_neg g2]
theorem add_field_0 {p : GPlugin} {st : GSt} (h : (addFieldS p st).1 = 0) : addFieldS p st = (0, st) ∧ (JP.atW st.2 (stepsOf p).2).isSome = true ∨ (JP.atW st.2 (stepsOf p).2 = none ∧ (grownT (stepsOf p).2 (some st.2) (JP.readL p.val.data.toList).1).2 = true ∧ addFieldS p st = (0, (st.1, (grownT (stepsOf p).2 (some st.2) (JP.readL p.val.data.toList).1).1))) := by
  unfold addFieldS at h ⊢
  by_cases g1 : (JP.atW st.2 (stepsOf p).2).isSome = true
  · rw [if_pos g1]; exact .inl ⟨rfl, g1⟩
  · rw [if_neg g1] at h ⊢
    have g9 : JP.atW st.2 (stepsOf p).2 = none := by
      cases hc : JP.atW st.2 (stepsOf p).2 with
      | none => rfl
      | some c => rw [hc] at g1; exact absurd rfl g1
    by_cases g2 : (grownT (stepsOf p).2 (some st.2) (JP.readL p.val.data.toList).1).2 = false
    · rw [if_pos g2] at h; cases h
    · rw [if_neg g2] at h ⊢
      by_cases g3 : JP.tellE (grownT (stepsOf p).2 (some st.2) (JP.readL p.val.data.toList).1).1 ≠ 0
      · rw [if_pos g3] at h; exact absurd h g3
      · rw [if_neg g3]
        exact .inr ⟨g9, by simpa using g2, rfl⟩
theorem see_look {p : GPlugin} {st : GSt} (h : addsB p = false) : (seeP p st).2 = st := by
  unfold addsB at h
  rw [Bool.or_eq_false_iff, decide_eq_false_iff_not, decide_eq_false_iff_not] at h
  unfold seeP
  rw [if_neg h.1, if_neg h.2]
  split
  · rfl
  · split <;> rfl
theorem see_keep {p : GPlugin} {st : GSt} (h : (seeP p st).1 = 0) : (∀ q, DoneS q st → DoneS q (seeP p st).2) ∧ (∀ x ∈ st.1, x ∈ (seeP p st).2.1) ∧ (addsB p = true → DoneS p (seeP p st).2) := by
  by_cases ha : addsB p = false
  · rw [see_look ha]
    exact ⟨fun _ h => h, fun _ h => h, fun h9 => by rw [ha] at h9; cases h9⟩
  · unfold seeP at h ⊢
    by_cases k1 : p.kind = 1
    · rw [if_pos k1] at h ⊢
      rw [add_label_0 h]
      by_cases g : hasK st.1 p.key = true
      · rw [if_pos g]
        exact ⟨fun _ h => h, fun _ h => h, fun _ => ⟨fun _ => g, fun h2 => by omega⟩⟩
      · rw [if_neg g]
        have hm : ∀ x ∈ st.1, x ∈ insL st.1 ⟨p.key, p.val⟩ := fun x hx => ins_mem hx
        exact ⟨fun q hq => ⟨fun h1 => has_mono hm (hq.1 h1), hq.2⟩, hm, fun _ => ⟨fun _ => ins_has, fun h2 => by omega⟩⟩
    · rw [if_neg k1] at h ⊢
      by_cases k2 : p.kind = 2
      · rw [if_pos k2] at h ⊢
        rcases add_field_0 h with ⟨h1, h2⟩ | ⟨h1, h2, h3⟩
        · rw [h1]
          exact ⟨fun _ h => h, fun _ h => h, fun _ => ⟨fun h9 => by omega, fun _ => h2⟩⟩
        · rw [h3]
          refine ⟨fun q hq => ⟨hq.1, fun h9 => atW_keep _ _ _ h2 h1 _ (hq.2 h9)⟩, fun _ h => h, fun _ => ⟨fun h9 => by omega, fun _ => ?_⟩⟩
          show (JP.atW _ _).isSome = true
          rw [atW_self _ _ _ h2]; rfl
      · exact absurd (by unfold addsB; rw [decide_eq_false k1, decide_eq_false k2]; rfl) ha
theorem done_see {p : GPlugin} {st : GSt} (ha : addsB p = true) (h : DoneS p st) : seeP p st = (0, st) := by
  unfold addsB at ha
  rw [Bool.or_eq_true, decide_eq_true_iff, decide_eq_true_iff] at ha
  unfold seeP
  by_cases k1 : p.kind = 1
  · rw [if_pos k1]; unfold addLabelS; rw [if_pos (h.1 k1)]
  · have k2 : p.kind = 2 := by rcases ha with h9 | h9 <;> omega
    rw [if_neg k1, if_pos k2]; unfold addFieldS; rw [if_pos (h.2 k2)]
def runsB (b : Bool) : List GPlugin → GSt → Option GSt
  | [], st => some st
  | p :: r, st => if b ≠ addsB p then runsB b r st else if (seeP p st).1 ≠ 0 then none else runsB b r (seeP p st).2
theorem pass_runs (b : Bool) : ∀ (l : List GPlugin) (i : Nat) (st : GSt), (∀ st', runsB b l st = some st' → passP b l i st = (0, 0, st')) ∧ (runsB b l st = none → (passP b l i st).1 ≠ 0 ∧ (passP b l i st).2.1 < i + l.length)
  | [], i, st => ⟨fun st' h => by cases h; rfl, fun h => by cases h⟩
  | p :: r, i, st => by
    unfold runsB passP
    by_cases h1 : b ≠ addsB p
    · rw [if_pos h1, if_pos h1]
      have := pass_runs b r (i + 1) st
      refine ⟨this.1, fun h => ⟨(this.2 h).1, ?_⟩⟩
      have := (this.2 h).2
      rw [List.length_cons]; omega
    · rw [if_neg h1, if_neg h1]
      by_cases h2 : (seeP p st).1 ≠ 0
      · rw [if_pos h2, if_pos h2]
        exact ⟨fun _ h => (by cases h), fun _ => ⟨h2, by rw [List.length_cons]; show i < _; omega⟩⟩
      · rw [if_neg h2, if_neg h2]
        have := pass_runs b r (i + 1) (seeP p st).2
        refine ⟨this.1, fun h => ⟨(this.2 h).1, ?_⟩⟩
        have := (this.2 h).2
        rw [List.length_cons]; omega
theorem runs_app (b : Bool) : ∀ (l m : List GPlugin) (st : GSt), runsB b (l ++ m) st = (runsB b l st).bind (runsB b m)
  | [], m, st => rfl
  | p :: r, m, st => by
    show runsB b (p :: (r ++ m)) st = _
    unfold runsB
    by_cases h1 : b ≠ addsB p
    · rw [if_pos h1, if_pos h1]; exact runs_app b r m st
    · rw [if_neg h1, if_neg h1]
      by_cases h2 : (seeP p st).1 ≠ 0
      · rw [if_pos h2, if_pos h2]; rfl
      · rw [if_neg h2, if_neg h2]; exact runs_app b r m _
theorem runs_false : ∀ (l : List GPlugin) (st st' : GSt), runsB false l st = some st' → st' = st
  | [], st, st', h => by cases h; rfl
  | p :: r, st, st', h => by
    unfold runsB at h
    by_cases h1 : false ≠ addsB p
    · rw [if_pos h1] at h; exact runs_false r st st' h
    · rw [if_neg h1] at h
      have ha : addsB p = false := (Decidable.not_not.1 h1).symm
      by_cases h2 : (seeP p st).1 ≠ 0
      · rw [if_pos h2] at h; cases h
      · rw [if_neg h2, see_look ha] at h; exact runs_false r st st' h
theorem runs_true : ∀ (l : List GPlugin) (st st' : GSt), (∀ p ∈ l, checkP p = 0) → GoodS st → runsB true l st = some st' → GoodS st' ∧ (∀ q, DoneS q st → DoneS q st') ∧ (∀ x ∈ st.1, x ∈ st'.1) ∧ ∀ p ∈ l, addsB p = true → DoneS p st'
  | [], st, st', _, hg, h => by cases h; exact ⟨hg, fun _ h => h, fun _ h => h, fun p hp => by cases hp⟩
  | p :: r, st, st', hc, hg, h => by
    unfold runsB at h
    have hcr : ∀ p ∈ r, checkP p = 0 := fun q hq => hc q (List.mem_cons_of_mem _ hq)
    by_cases h1 : true ≠ addsB p
    · rw [if_pos h1] at h
      obtain ⟨a, b, c, d⟩ := runs_true r st st' hcr hg h
      refine ⟨a, b, c, fun q hq ha => ?_⟩
      rcases List.mem_cons.1 hq with rfl | hq
      · exact absurd ha.symm h1
      · exact d q hq ha
    · rw [if_neg h1] at h
      have ha : addsB p = true := (Decidable.not_not.1 h1).symm
      by_cases h2 : (seeP p st).1 ≠ 0
      · rw [if_pos h2] at h; cases h
      · rw [if_neg h2] at h
        have h0 := Decidable.not_not.1 h2
        obtain ⟨k1, k2, k3⟩ := see_keep h0
        obtain ⟨a, b, c, d⟩ := runs_true r _ st' hcr (see_good hg (hc p (List.mem_cons_self ..)) h0) h
        refine ⟨a, fun q hq => b q (k1 q hq), fun x hx => c x (k2 x hx), fun q hq haq => ?_⟩
        rcases List.mem_cons.1 hq with rfl | hq
        · exact b _ (k3 ha)
        · exact d q hq haq
theorem runs_again : ∀ (l : List GPlugin) (st : GSt), (∀ p ∈ l, addsB p = true → DoneS p st) → runsB true l st = some st
  | [], _, _ => rfl
  | p :: r, st, h => by
    unfold runsB
    by_cases h1 : true ≠ addsB p
    · rw [if_pos h1]; exact runs_again r st fun q hq => h q (List.mem_cons_of_mem _ hq)
    · rw [if_neg h1]
      have ha : addsB p = true := (Decidable.not_not.1 h1).symm
      rw [done_see ha (h p (List.mem_cons_self ..) ha), if_neg (fun h => h rfl)]
      exact runs_again r st fun q hq => h q (List.mem_cons_of_mem _ hq)
theorem run_ok {l : List GPlugin} {o : GObject} (h : (runP l o).2.2 = 0) : checkE l o = 0 ∧ ∃ st, runsB true l (startS o) = some st ∧ runsB false l st = some st ∧ runP l o = (outO o st, 0, 0) := by
  unfold runP at h ⊢
  by_cases h1 : checkE l o ≠ 0
  · rw [if_pos h1] at h; exact absurd h h1
  · rw [if_neg h1] at h ⊢
    refine ⟨Decidable.not_not.1 h1, ?_⟩
    have p1 := pass_runs true l 0 (startS o)
    cases hr : runsB true l (startS o) with
    | none =>
      rw [if_pos (p1.2 hr).1] at h
      exact absurd h (p1.2 hr).1
    | some st =>
      rw [p1.1 st hr, if_neg (fun h => h rfl)] at h ⊢
      have p2 := pass_runs false l 0 st
      cases hr2 : runsB false l st with
      | none =>
        rw [if_pos (p2.2 hr2).1] at h
        exact absurd h (p2.2 hr2).1
      | some st2 =>
        obtain rfl := runs_false l st st2 hr2
        exact ⟨st2, rfl, hr2, by rw [p2.1 _ hr2, if_neg (fun h => h rfl)]⟩
theorem run_of {l : List GPlugin} {o : GObject} {st : GSt} (hc : checkE l o = 0) (h1 : runsB true l (startS o) = some st) (h2 : runsB false l st = some st) : runP l o = (outO o st, 0, 0) := by
  unfold runP
  rw [if_neg (fun h => h hc), (pass_runs true l 0 _).1 st h1, if_neg (fun h => h rfl), (pass_runs false l 0 _).1 st h2, if_neg (fun h => h rfl)]
theorem run_bad {l : List GPlugin} {o : GObject} (h : (runP l o).2.2 ≠ 0) : (runP l o).1 = Sto.noObj ∧ (runP l o).2.1 < 8 := by
  unfold runP at h ⊢
  by_cases h1 : checkE l o ≠ 0
  · rw [if_pos h1]; exact ⟨rfl, by show 0 < 8; decide⟩
  · rw [if_neg h1] at h ⊢
    have h8 := (checkL_ok (checkE_ok (Decidable.not_not.1 h1)).1).1
    have p1 := pass_runs true l 0 (startS o)
    cases hr : runsB true l (startS o) with
    | none =>
      rw [if_pos (p1.2 hr).1]
      have := (p1.2 hr).2
      exact ⟨rfl, by show (passP true l 0 (startS o)).2.1 < 8; omega⟩
    | some st =>
      rw [p1.1 st hr, if_neg (fun h => h rfl)] at h ⊢
      have p2 := pass_runs false l 0 st
      cases hr2 : runsB false l st with
      | none =>
        rw [if_pos (p2.2 hr2).1]
        have := (p2.2 hr2).2
        exact ⟨rfl, by show (passP false l 0 st).2.1 < 8; omega⟩
      | some st2 =>
        rw [p2.1 _ hr2, if_neg (fun h => h rfl)] at h
        exact absurd rfl h
theorem read_out {st : GSt} (h : GoodS st) (o : GObject) : JP.readL (outO o st).doc.data.toList = (st.2, 0) := by
  show JP.readL (mkB (JP.text st.2)).data.toList = _
  rw [show (mkB (JP.text st.2)).data.toList = JP.text st.2 from rfl]
  exact JP.read_text h.doc.wf h.doc.size h.doc.deep h.doc.text
theorem objE_out {o : GObject} {st : GSt} (h : Sto.objE o = 0) (hg : GoodS st) : Sto.objE (outO o st) = 0 := by
  have h1 : Sto.firstO o = 0 := by
    unfold Sto.objE at h
    by_cases h1 : Sto.firstO o ≠ 0
    · rw [if_pos h1] at h; exact absurd h h1
    · exact Decidable.not_not.1 h1
  have h2 : Sto.firstO (outO o st) = 0 := by
    unfold Sto.firstO at h1 ⊢
    obtain ⟨a, b⟩ := (says_eq_zero _ _).1 h1
    obtain ⟨c, d⟩ := (says_eq_zero _ _).1 a
    exact (says_eq_zero _ _).2 ⟨(says_eq_zero _ _).2 ⟨c, hg.labs⟩, b⟩
  unfold Sto.objE at h ⊢
  rw [if_neg (fun h9 => h9 h1)] at h
  rw [if_neg (fun h9 => h9 h2)]
  obtain ⟨a, b⟩ := (says_eq_zero _ _).1 h
  refine (says_eq_zero _ _).2 ⟨a, ?_⟩
  unfold JP.canonE
  rw [read_out hg]
theorem again_law {l : List GPlugin} {o : GObject} (h : (runP l o).2.2 = 0) : ∃ st, GoodS st ∧ (runP l o).1 = outO o st ∧ runP l (outO o st) = (outO o st, 0, 0) ∧ ∀ x ∈ o.labels, x ∈ st.1 := by
  obtain ⟨hc, st, h1, h2, h3⟩ := run_ok h
  obtain ⟨c1, c2⟩ := checkE_ok hc
  obtain ⟨g1, g2, g3, g4⟩ := runs_true l _ st (checkL_ok c1).2 (start_good c2) h1
  have hst : startS (outO o st) = st := by unfold startS; rw [read_out g1]; rfl
  refine ⟨st, g1, by rw [h3], ?_, g3⟩
  have h9 := run_of (l := l) (o := outO o st) (st := st) (by
    unfold checkE
    rw [c1, if_neg (fun h => h rfl)]
    exact objE_out c2 g1) (by rw [hst]; exact runs_again l st g4) h2
  rw [h9]
  rfl
theorem less_law {l m : List GPlugin} {p : GPlugin} {o : GObject} (h : (runP (l ++ p :: m) o).2.2 = 0) (hk : 3 ≤ p.kind) : runP (l ++ m) o = runP (l ++ p :: m) o := by
  obtain ⟨hc, st, h1, h2, h3⟩ := run_ok h
  obtain ⟨c1, c2⟩ := checkE_ok hc
  obtain ⟨d1, d2⟩ := checkL_ok c1
  have ha : addsB p = false := by unfold addsB; rw [decide_eq_false (by omega), decide_eq_false (by omega)]; rfl
  have e1 : checkL (l ++ m) = 0 := by
    unfold checkL
    rw [List.length_append, List.length_cons] at d1
    rw [if_neg (by rw [List.length_append]; omega)]
    exact errF_zero.2 fun x hx => d2 x (by rcases List.mem_append.1 hx with h9 | h9 <;> simp [h9])
  have drop : ∀ b st st', runsB b (l ++ p :: m) st = some st' → runsB b (l ++ m) st = some st' := fun b s s' h9 => by
    rw [runs_app] at h9 ⊢
    cases hl : runsB b l s with
    | none => rw [hl] at h9; cases h9
    | some s1 =>
      rw [hl] at h9
      have h9 : runsB b (p :: m) s1 = some s' := h9
      show runsB b m s1 = some s'
      unfold runsB at h9
      by_cases hb : b ≠ addsB p
      · rw [if_pos hb] at h9; exact h9
      · rw [if_neg hb] at h9
        by_cases h8 : (seeP p s1).1 ≠ 0
        · rw [if_pos h8] at h9; cases h9
        · rw [if_neg h8, see_look ha] at h9; exact h9
  rw [h3]
  exact run_of (by unfold checkE; rw [e1, if_neg (fun h => h rfl)]; exact c2) (drop _ _ _ h1) (drop _ _ _ h2)
end Adm
end Go.Proofs.YtnnceaapodgfbaaGreatDoor
namespace Go.Proofs.YtnnceaapodgfbaaGreatDoor
open Go.RowKit
theorem eqS_no {l m : List ByteArray} {i : Nat} {x y : ByteArray} (hx : l[i]? = some x) (hy : m[i]? = some y) (h : x ≠ y) : decide (l = m) = false := by
  rw [decide_eq_false_iff_not]
  intro e
  subst e
  rw [hx] at hy
  cases hy
  exact h rfl
theorem eqS_yes {l m : List ByteArray} (h : l.length = m.length) (k : ∀ (i : Nat) (x y : ByteArray), i < l.length → l[i]? = some x → m[i]? = some y → x = y) : decide (l = m) = true := by
  rw [decide_eq_true_iff]
  apply List.ext_getElem h
  intro i hi hj
  exact k i _ _ hi (List.getElem?_eq_getElem hi) (List.getElem?_eq_getElem hj)
set_option maxRecDepth 100000 in
set_option maxHeartbeats 800000 in
theorem eqStrs_any (v1 v2 : Value) (l m : List ByteArray) (w : World) (h1 : StrAt w v1 l) (h2 : StrAt w v2 m) (hl : l.length ≤ 8388608) (hm : m.length ≤ 8388608) :
    Calls Tryz.prog 59 #[v1, v2] w fun e w' => e = .returned (.bool (decide (l = m))) ∧ w = w' := by
  obtain ⟨a1, c1, rfl, _, _⟩ := h1.len
  obtain ⟨a2, c2, rfl, _, _⟩ := h2.len
  have H1 := Lib.hid h1
  have H2 := Lib.hid h2
  clear h1 h2
  by_cases hlen : l.length = m.length
  · have q1 : ((l.length : Int) != (m.length : Int)) = false := by rw [bne_eq_false_iff_eq]; omega
    have Hlen := Lib.hid hlen
    clear hlen
    go_enter Tryz.func59, Tryz.ntmps59
    go_wp2_with fail
    clear q1
    go_loopg [14] l.length (fun g u14 wr => ∃ i : Nat, i + g = l.length ∧ u14 = .int .i64 (i : Int) ∧ Hid (∀ (k : Nat) (x y : ByteArray), k < i → l[k]? = some x → m[k]? = some y → x = y) ∧ w = wr)
    case atStart => exact ⟨0, by omega, rfl, Lib.hid (fun k _ _ hk => by omega), rfl⟩
    case round =>
      obtain ⟨i, hig, rfl, Hall, rfl⟩ := hrel
      cases gk with
      | zero =>
        obtain rfl : i = l.length := by omega
        have Hyes : Hid (decide (l = m) = true) := eqS_yes Hlen.out fun k x y hk hx hy => Hall.out k x y hk hx hy
        go_wp2_with fail
        go_ret
        exact ⟨congrArg (fun b => Ending.returned (Value.bool b)) Hyes.out.symm, rfl⟩
      | succ g =>
        have hil : i < l.length := by omega
        have him : i < m.length := by have := Hlen.out; omega
        obtain ⟨x, hx⟩ : ∃ x, l[i]? = some x := ⟨l[i]'(by omega), List.getElem?_eq_getElem _⟩
        obtain ⟨y, hy⟩ : ∃ y, m[i]? = some y := ⟨m[i]'(by omega), List.getElem?_eq_getElem _⟩
        obtain ⟨b, o, c', hv, _, _, hbs, hcell⟩ := H1.out.form (by omega)
        injection hv with u1 u2 u3
        subst u1
        clear u2 u3
        obtain ⟨b', o', c'', hv, _, _, hbs', hcell'⟩ := H2.out.form (by omega)
        injection hv with u1 u2 u3
        subst u1
        clear u2 u3
        have e0 : w.cell? ⟨b, o + i, none⟩ = some (.string x) := hcell i x hx
        have f0 : w.cell? ⟨b', o' + i, none⟩ = some (.string y) := hcell' i y hy
        have q1 : (0 : Int) ≤ (i : Int) := by omega
        have q2 : (i : Int) < (l.length : Int) := by omega
        have q3 : (i : Int) < (m.length : Int) := by omega
        have Hx := Lib.hid hx
        have Hy := Lib.hid hy
        clear hcell hcell' hx hy
        by_cases he : x = y
        · have Hall2 : Hid (∀ (k : Nat) (x y : ByteArray), k < i + 1 → l[k]? = some x → m[k]? = some y → x = y) := Lib.hid fun k x' y' hk hx' hy' => by
            rcases Nat.lt_or_ge k i with h | h
            · exact Hall.out k x' y' h hx' hy'
            · obtain rfl : k = i := by omega
              have a := Hx.out; have b := Hy.out
              rw [a] at hx'; rw [b] at hy'
              cases hx'; cases hy'
              exact he
          have q4 : (x.toList == y.toList) = true := by rw [he]; simp
          clear he
          go_wp2_with fail
          go_roundg g
          case measure => omega
          case rel => exact ⟨i + 1, by omega, by go_num, Hall2, rfl⟩
        · have Hno : Hid (decide (l = m) = false) := Lib.hid (eqS_no Hx.out Hy.out he)
          have q4 : (x.toList == y.toList) = false := by rw [beq_eq_false_iff_ne]; exact fun h => he (toList_inj h)
          clear he
          go_wp2_with fail
          go_ret
          exact ⟨congrArg (fun b => Ending.returned (Value.bool b)) Hno.out.symm, rfl⟩
  · have q1 : ((l.length : Int) != (m.length : Int)) = true := by rw [bne_iff_ne]; omega
    have Hno : Hid (decide (l = m) = false) := by show _ = _; rw [decide_eq_false_iff_not]; exact fun h => hlen (congrArg _ h)
    clear hlen
    go_enter Tryz.func59, Tryz.ntmps59
    go_wp2_with fail
    go_ret
    exact ⟨congrArg (fun b => Ending.returned (Value.bool b)) Hno.out.symm, rfl⟩
end Go.Proofs.YtnnceaapodgfbaaGreatDoor
namespace Go.Proofs.YtnnceaapodgfbaaGreatDoor
namespace Sto
open Go.RowKit
theorem below_drewN2 {B : Nat} {a w : World} (h : Below B a w) (n : Nat) : Below B a (w.drewN n) := ⟨h.os, h.tape, h.output, h.size, h.block⟩
theorem Tryz.fieldsLabQ : Tryz.prog.underlying 66 = some (.struct (Tryz.prog.fieldsOf 66)) := by kernel_rfl
theorem Tryz.heldLabQ : Tryz.prog.stoodInHeld 66 = false := by kernel_rfl
theorem run_neqLab (a b : ByteArray) (w : World) : (binOp .neq 66 (.agg #[.string a, .string b]) (.agg #[.string a, .string b])).run Tryz.prog w = .ok (.bool false) w := by
  rw [run_neq_struct, run_equalIn_agg w 9999 _ _ _ Tryz.fieldsLabQ Tryz.heldLabQ]
  simp [Op.eqFields, Program.fieldsOf, Tryz.underlying66]
  go_simp
set_option maxRecDepth 100000 in
set_option maxHeartbeats 1600000 in
theorem eqLab_yes (v1 v2 : Value) (l : List GLabel) (w : World) (h1 : RowAt LabelR 2 w v1 l) (h2 : RowAt LabelR 2 w v2 l) (hl : l.length ≤ 1048576) :
    Calls Tryz.prog 58 #[v1, v2] w fun e w' => e = .returned (.bool true) ∧ Below w.heap.size w w' := by
  obtain ⟨a1, c1, rfl, _, _⟩ := h1.len
  obtain ⟨a2, c2, rfl, _, _⟩ := h2.len
  have H1 := Lib.hid h1
  have H2 := Lib.hid h2
  clear h1 h2
  have q1 : ((l.length : Int) != (l.length : Int)) = false := by rw [bne_eq_false_iff_eq]
  go_enter Tryz.func58, Tryz.ntmps58
  go_wp2_with fail
  clear q1
  go_loopg [14] l.length (fun g u14 wr => ∃ i : Nat, i + g = l.length ∧ u14 = .int .i64 (i : Int) ∧ Below w.heap.size w wr)
  case atStart => exact ⟨0, by omega, rfl, Below.refl _ _⟩
  case round =>
    obtain ⟨i, hig, rfl, hbel⟩ := hrel
    cases gk with
    | zero =>
      obtain rfl : i = l.length := by omega
      go_wp2_with fail
      go_ret
      exact ⟨rfl, hbel⟩
    | succ g =>
      have hil : i < l.length := by omega
      obtain ⟨x, hx⟩ : ∃ x, l[i]? = some x := ⟨l[i]'(by omega), List.getElem?_eq_getElem _⟩
      obtain ⟨b, o, c', hv, _, _, hbs, hcell⟩ := H1.out.form (by omega) (by omega)
      cases hv
      obtain ⟨cs, _, hcc, hR⟩ := hcell i x hx
      obtain rfl : cs = [.string x.key, .string x.val] := hR
      obtain ⟨b', o', c'', hv, _, _, hbs', hcell'⟩ := H2.out.form (by omega) (by omega)
      cases hv
      obtain ⟨cs', _, hcc', hR'⟩ := hcell' i x hx
      obtain rfl : cs' = [.string x.key, .string x.val] := hR'
      have e0 : wr.cell? ⟨b, o + i * 2, none⟩ = some (.string x.key) := (hbel.cell (p := ⟨b, _, none⟩) hbs).trans (by simpa using hcc 0 _ rfl)
      have e1 : wr.cell? ⟨b, o + i * 2 + 1, none⟩ = some (.string x.val) := (hbel.cell (p := ⟨b, _, none⟩) hbs).trans (hcc 1 _ rfl)
      have f0 : wr.cell? ⟨b', o' + i * 2, none⟩ = some (.string x.key) := (hbel.cell (p := ⟨b', _, none⟩) hbs').trans (by simpa using hcc' 0 _ rfl)
      have f1 : wr.cell? ⟨b', o' + i * 2 + 1, none⟩ = some (.string x.val) := (hbel.cell (p := ⟨b', _, none⟩) hbs').trans (hcc' 1 _ rfl)
      have hbs2 : b' < wr.heap.size := by have := hbel.size; omega
      have q1 : (0 : Int) ≤ (i : Int) := by omega
      have q2 : (i : Int) < (l.length : Int) := by omega
      have hne := run_neqLab x.key x.val
      have Hbel : ∀ o : Obj, Hid (Below w.heap.size w (wr.alloc o)) := fun o => Lib.hid (hbel.alloc hbel.size o)
      clear hcc hcc' hcell hcell' hx hbel
      go_wp2_with fail
      go_quiet (fail)
      go_wp2_with fail
      go_roundg g
      case measure => omega
      case rel => exact ⟨i + 1, by omega, by go_num, below_drewN2 (Hbel _).out _⟩
theorem Tryz.fieldsKeyQ : Tryz.prog.underlying 24 = some (.struct (Tryz.prog.fieldsOf 24)) := by kernel_rfl
theorem Tryz.heldKeyQ : Tryz.prog.stoodInHeld 24 = false := by kernel_rfl
theorem run_eqKey (a b c : ByteArray) (w : World) : (binOp .eql 24 (.agg #[.string a, .string b, .string c]) (.agg #[.string a, .string b, .string c])).run Tryz.prog w = .ok (.bool true) w := by
  rw [run_eql_struct, run_equalIn_agg w 9999 _ _ _ Tryz.fieldsKeyQ Tryz.heldKeyQ]
  simp [Op.eqFields, Program.fieldsOf, Tryz.underlying24]
  go_simp
set_option maxRecDepth 100000 in
set_option maxHeartbeats 3200000 in
theorem sameObj_yes (o : GObject) (v1 v2 v3 z1 z2 z3 : Value) (w : World) (hl : RowAt LabelR 2 w v1 o.labels) (ho : StrAt w v2 o.owners) (hh : StrAt w v3 o.holds) (kl : RowAt LabelR 2 w z1 o.labels) (ko : StrAt w z2 o.owners) (kh : StrAt w z3 o.holds) (hok : OkObj o) :
    Calls Tryz.prog 19 #[objW o v1 v2 v3, objW o z1 z2 z3] w fun e w' => e = .returned (.bool true) ∧ Below w.heap.size w w' := by
  obtain ⟨a1, c1, rfl, -, -⟩ := hl.len
  obtain ⟨a2, c2, rfl, -, -⟩ := ho.row.len
  obtain ⟨a3, c3, rfl, -, -⟩ := hh.row.len
  obtain ⟨b1, d1, rfl, -, -⟩ := kl.len
  obtain ⟨b2, d2, rfl, -, -⟩ := ko.row.len
  obtain ⟨b3, d3, rfl, -, -⟩ := kh.row.len
  obtain ⟨n1, Hn1⟩ : ∃ n, Hid (o.labels.length = n) := ⟨_, Lib.hid rfl⟩
  obtain ⟨n2, Hn2⟩ : ∃ n, Hid (o.owners.length = n) := ⟨_, Lib.hid rfl⟩
  obtain ⟨n3, Hn3⟩ : ∃ n, Hid (o.holds.length = n) := ⟨_, Lib.hid rfl⟩
  rw [Hn1.out] at hl kl ⊢
  rw [Hn2.out] at ho ko ⊢
  rw [Hn3.out] at hh kh ⊢
  have bl := hok.labels.1
  have bo := hok.owners.1
  have bh := hok.holds.1
  obtain ⟨w1, hw1⟩ : ∃ w1, w1 = (w.alloc (.cells #[.string o.okey.kind, .string o.okey.space, .string o.okey.name, .slice a1 n1 c1, .slice a2 n2 c2, .slice a3 n3 c3, .bool o.ending, .string o.uid, .int .i64 o.rev, .string o.doc] 30)).alloc (.cells #[.string o.okey.kind, .string o.okey.space, .string o.okey.name, .slice b1 n1 d1, .slice b2 n2 d2, .slice b3 n3 d3, .bool o.ending, .string o.uid, .int .i64 o.rev, .string o.doc] 30) := ⟨_, rfl⟩
  obtain ⟨ga, hga⟩ : ∃ ga, ga = w.heap.size := ⟨_, rfl⟩
  obtain ⟨gb, hgb⟩ : ∃ gb, gb = w.heap.size + 1 := ⟨_, rfl⟩
  have XA : Hid (w1.heap[ga]? = some (.cells #[.string o.okey.kind, .string o.okey.space, .string o.okey.name, .slice a1 n1 c1, .slice a2 n2 c2, .slice a3 n3 c3, .bool o.ending, .string o.uid, .int .i64 o.rev, .string o.doc] 30 (0, 0))) := Lib.hid (by rw [hw1, hga]; exact heap_alloc_old (heap_alloc_new w _))
  have XB : Hid (w1.heap[gb]? = some (.cells #[.string o.okey.kind, .string o.okey.space, .string o.okey.name, .slice b1 n1 d1, .slice b2 n2 d2, .slice b3 n3 d3, .bool o.ending, .string o.uid, .int .i64 o.rev, .string o.doc] 30 (0, 0))) := Lib.hid (by rw [hw1, hgb]; exact heap_alloc_at (World.size_alloc _ _).symm)
  have hb1 : Below w.heap.size w w1 := by rw [hw1]; exact ((Below.refl _ w).alloc (Nat.le_refl _) _).alloc (by rw [World.size_alloc]; omega) _
  have HB := Lib.hid hb1
  have E1 := fun w' (hb : Below w1.heap.size w1 w') => Lib.hid (eqLab_yes (.slice a1 n1 c1) (.slice b1 n1 d1) o.labels w' (hl.below stays_label (hb1.trans (hb.mono hb1.size))) (kl.below stays_label (hb1.trans (hb.mono hb1.size))) bl)
  have E2 : ∀ w', Below w1.heap.size w1 w' → Hid (Calls Tryz.prog 59 #[.slice a2 n2 c2, .slice b2 n2 d2] w' fun e w'' => e = .returned (.bool true) ∧ w' = w'') := fun w' hb => Lib.hid (by
    have h9 := eqStrs_any (.slice a2 n2 c2) (.slice b2 n2 d2) o.owners o.owners w' (ho.below (hb1.trans (hb.mono hb1.size))) (ko.below (hb1.trans (hb.mono hb1.size))) (by omega) (by omega)
    rw [decide_eq_true rfl] at h9; exact h9)
  have E3 : ∀ w', Below w1.heap.size w1 w' → Hid (Calls Tryz.prog 59 #[.slice a3 n3 c3, .slice b3 n3 d3] w' fun e w'' => e = .returned (.bool true) ∧ w' = w'') := fun w' hb => Lib.hid (by
    have h9 := eqStrs_any (.slice a3 n3 c3) (.slice b3 n3 d3) o.holds o.holds w' (hh.below (hb1.trans (hb.mono hb1.size))) (kh.below (hb1.trans (hb.mono hb1.size))) (by omega) (by omega)
    rw [decide_eq_true rfl] at h9; exact h9)
  have hk := run_eqKey o.okey.kind o.okey.space o.okey.name
  clear hl ho hh kl ko kh hok bl bo bh hb1
  rw [show objW o (.slice a1 n1 c1) (.slice a2 n2 c2) (.slice a3 n3 c3) = .agg #[.string o.okey.kind, .string o.okey.space, .string o.okey.name, .slice a1 n1 c1, .slice a2 n2 c2, .slice a3 n3 c3, .bool o.ending, .string o.uid, .int .i64 o.rev, .string o.doc] from rfl, show objW o (.slice b1 n1 d1) (.slice b2 n2 d2) (.slice b3 n3 d3) = .agg #[.string o.okey.kind, .string o.okey.space, .string o.okey.name, .slice b1 n1 d1, .slice b2 n2 d2, .slice b3 n3 d3, .bool o.ending, .string o.uid, .int .i64 o.rev, .string o.doc] from rfl]
  go_enter Tryz.func19, Tryz.ntmps19
  go_upto_region 1 with fail
  rw [← hw1]
  try rw [← hgb]
  rw [← hga]
  clear hw1 hga hgb
  have ca := fun i => cell_block XA.out i
  have cb := fun i => cell_block XB.out i
  go_wp2_with fail
  refine (E1 w1 (Below.refl _ _)).out.mono ?_
  rintro E w2 ⟨rfl, hb2⟩
  have A2 := Lib.hid (below_block hb2 XA.out)
  have B2 := Lib.hid (below_block hb2 XB.out)
  have HB2 := Lib.hid (HB.out.trans (hb2.mono HB.out.size))
  have F2 := E2 w2 hb2
  have F3 := E3 w2 hb2
  clear hb2 ca cb E1 E2 E3 XA XB HB
  have ca := fun i => cell_block A2.out i
  have cb := fun i => cell_block B2.out i
  go_wp2_with fail
  refine F2.out.mono ?_
  rintro E w3 ⟨rfl, hw3⟩
  subst hw3
  go_wp2_with fail
  refine F3.out.mono ?_
  rintro E w3 ⟨rfl, hw3⟩
  subst hw3
  go_wp2_with fail
  go_ret
  exact ⟨rfl, HB2.out⟩
end Sto
end Go.Proofs.YtnnceaapodgfbaaGreatDoor
namespace Go.Proofs.YtnnceaapodgfbaaGreatDoor
namespace Adm
open Go.RowKit
end Adm
end Go.Proofs.YtnnceaapodgfbaaGreatDoor
namespace Go.Proofs.YtnnceaapodgfbaaGreatDoor
namespace Sto
open Go.RowKit
open JP (Bs)
structure PastIs (S S' : St) (kind space : ByteArray) (k : GKey) : Prop where
  none : S.rev = 0 → getE S k 0 ≠ 0 ∧ ∀ a, ListTold S kind space 0 a → a = []
  gone : ∀ b, ListTold S' kind space S.rev b → (listE S' kind space S.rev = 13 ∨ getE S' k S.rev = 13) → b = [] ∧ listE S' kind space S.rev ≠ 0 ∧ getE S' k S.rev ≠ 0
  same : ∀ a b, ListTold S kind space 0 a → ListTold S' kind space S.rev b → S.rev ≠ 0 → listE S' kind space S.rev ≠ 13 → getE S' k S.rev ≠ 13 →
    listE S kind space 0 = listE S' kind space S.rev ∧ a = b ∧ getE S k 0 = getE S' k S.rev ∧ getO S k 0 = getO S' k S.rev
end Sto
end Go.Proofs.YtnnceaapodgfbaaGreatDoor
namespace Go.Proofs.YtnnceaapodgfbaaGreatDoor
namespace Sto
open Go.RowKit
open JP (Bs)
structure OnceIs (S : St) (k : GKey) (doc other : ByteArray) : Prop where
  no : getE S k 0 ≠ 0 → (remove S k 0).2.2 = getE S k 0
  yes : getE S k 0 = 0 → ∀ o Ua Ub, o = getO S k 0 → Ua = update S { o with doc := doc } → Ub = update Ua.1 { o with doc := other } →
    getE Ub.1 k 0 = 0 ∧ (Ua.2.2 = 0 → (Ub.2.2 = 12 ∨ objE { o with doc := other } = Ub.2.2) ∧ Ub.2.2 ≠ 0 ∧ Ub.1.rev = S.rev + 1 ∧ getO Ub.1 k 0 = Ua.2.1 ∧ Ua.2.1.rev = (S.rev : Int) + 1) ∧
    (Ua.2.2 ≠ 0 → Ub.2.2 = 0 → Ub.1.rev = S.rev + 1 ∧ getO Ub.1 k 0 = Ub.2.1) ∧ (Ua.2.2 ≠ 0 → Ub.2.2 ≠ 0 → Ub.1.rev = S.rev ∧ (getO Ub.1 k 0).rev = o.rev)
end Sto
end Go.Proofs.YtnnceaapodgfbaaGreatDoor
namespace Go.Proofs.YtnnceaapodgfbaaGreatDoor
open Go.RowKit
def restOf (a b : Int) : Int := if a.tmod b < 0 then a.tmod b + b else a.tmod b
theorem restOf_in {a b : Int} (hb : 0 < b) : 0 ≤ restOf a b ∧ restOf a b < b := by
  have h1 := Int.tmod_lt_of_pos a hb
  have h2 : -b < a.tmod b := by
    have := Int.lt_tmod_of_pos a hb
    omega
  unfold restOf
  split <;> omega
theorem rest_any (a b : Int) (w : World) (hb : 0 < b) (hb2 : b ≤ 1073741824) : Calls Tryz.prog 29 #[.int .i64 a, .int .i64 b] w fun e w' => e = .returned (.int .i64 (restOf a b)) ∧ w = w' := by
  have h1 := Int.tmod_lt_of_pos a hb
  have h2 : -b < a.tmod b := by
    have := Int.lt_tmod_of_pos a hb
    omega
  have hb0 : (b == 0) = false := by rw [beq_eq_false_iff_ne]; omega
  by_cases h : a.tmod b < 0
  · have hr : restOf a b = a.tmod b + b := by unfold restOf; rw [if_pos h]
    have Hr := Lib.hid hr
    have q1 : IntKind.i64.wrap (a.tmod b) = a.tmod b := IntWalk.i64_in _ (by omega)
    have q2 : IntKind.i64.wrap (a.tmod b + b) = a.tmod b + b := IntWalk.i64_in _ (by omega)
    clear hr
    go_enter Tryz.func29, Tryz.ntmps29
    go_wp2_with fail
    go_ret
    exact ⟨congrArg (fun x => Ending.returned (Value.int .i64 x)) Hr.out.symm, rfl⟩
  · have hr : restOf a b = a.tmod b := by unfold restOf; rw [if_neg h]
    have Hr := Lib.hid hr
    have q1 : IntKind.i64.wrap (a.tmod b) = a.tmod b := IntWalk.i64_in _ (by omega)
    clear hr
    go_enter Tryz.func29, Tryz.ntmps29
    go_wp2_with fail
    go_ret
    exact ⟨congrArg (fun x => Ending.returned (Value.int .i64 x)) Hr.out.symm, rfl⟩
end Go.Proofs.YtnnceaapodgfbaaGreatDoor
namespace Go.Proofs.YtnnceaapodgfbaaGreatDoor
namespace Sto
open Go.RowKit
end Sto
end Go.Proofs.YtnnceaapodgfbaaGreatDoor
namespace Go.Proofs.YtnnceaapodgfbaaGreatDoor
namespace Sto
open Go.RowKit
theorem filter_split {α : Type} {p : α → Bool} : ∀ {l : List α} {j : Nat}, (∀ (t : Nat) (x : α), t < j → l[t]? = some x → p x = true) → (∀ (t : Nat) (x : α), j ≤ t → l[t]? = some x → p x = false) → l.filter p = l.take j
  | [], j, _, _ => by rw [List.take_nil]; rfl
  | a :: l, 0, _, h2 => by
    rw [List.filter_cons_of_neg (by rw [h2 0 a (Nat.le_refl _) rfl]; decide), filter_split (l := l) (j := 0) (fun t x ht => absurd ht (Nat.not_lt_zero _)) fun t x _ hx => h2 (t + 1) x (Nat.zero_le _) (by rw [List.getElem?_cons_succ]; exact hx)]
    rfl
  | a :: l, j + 1, h1, h2 => by
    rw [List.filter_cons_of_pos (h1 0 a (by omega) rfl), filter_split (l := l) (j := j) (fun t x ht hx => h1 (t + 1) x (by omega) (by rw [List.getElem?_cons_succ]; exact hx)) fun t x ht hx => h2 (t + 1) x (by omega) (by rw [List.getElem?_cons_succ]; exact hx)]
    rfl
theorem Good.revAt {S : St} (h : Good S) {i : Nat} {e : GEvent} (he : S.log[i]? = some e) : e.rev = (i : Int) + 1 := by
  have h1 := (h.step i e he).1
  rw [List.length_take, Nat.min_eq_left (by have := (List.getElem?_eq_some_iff.1 he).1; omega)] at h1
  exact h1
theorem hits_take {S : St} (h : Good S) (n : Nat) (k : GKey) : hits (S.log.take n) k = (hits S.log k).filter fun e => decide (e.rev ≤ (n : Int)) := by
  have h0 : S.log.take n = S.log.filter fun e => decide (e.rev ≤ (n : Int)) := (filter_split (fun t x ht hx => decide_eq_true (by have := h.revAt hx; omega)) fun t x ht hx => decide_eq_false (by have := h.revAt hx; omega)).symm
  rw [h0]
  unfold hits
  rw [List.filter_filter, List.filter_filter]
  congr 1
  funext e
  exact Bool.and_comm _ _
theorem hits_rise {S : St} (h : Good S) (k : GKey) : ∀ (a b : Nat) (x y : GEvent), a < b → (hits S.log k)[a]? = some x → (hits S.log k)[b]? = some y → x.rev < y.rev := by
  have h1 : S.log.Pairwise fun x y => x.rev < y.rev := List.pairwise_iff_getElem.2 fun i j hi hj hij => by
    have := h.revAt (List.getElem?_eq_getElem hi)
    have := h.revAt (List.getElem?_eq_getElem hj)
    omega
  have h2 : (hits S.log k).Pairwise fun x y => x.rev < y.rev := h1.filter _
  intro a b x y hab hx hy
  obtain ⟨ha, rfl⟩ := List.getElem?_eq_some_iff.1 hx
  obtain ⟨hb, rfl⟩ := List.getElem?_eq_some_iff.1 hy
  exact List.pairwise_iff_getElem.1 h2 a b ha hb hab
theorem at_find {S : St} (h : Good S) {k : GKey} {n i : Nat} {is : Bool} (h1 : ∀ (t : Nat) (x : GEvent), t < i → (hits S.log k)[t]? = some x → x.rev < (n : Int)) (h2 : ∀ (t : Nat) (x : GEvent), i ≤ t → (hits S.log k)[t]? = some x → (n : Int) ≤ x.rev) (h3 : is = true ↔ ∃ x, (hits S.log k)[i]? = some x ∧ x.rev = (n : Int)) :
    hits (S.log.take n) k = (hits S.log k).take (if is = true then i + 1 else i) := by
  rw [hits_take h]
  cases is with
  | true =>
    rw [if_pos rfl]
    obtain ⟨x, hx, hn⟩ := h3.1 rfl
    refine filter_split (fun t y ht hy => decide_eq_true ?_) fun t y ht hy => decide_eq_false ?_
    · rcases Nat.lt_or_ge t i with h4 | h4
      · have := h1 t y h4 hy; omega
      · have h5 : t = i := by omega
        rw [h5, hx] at hy; cases hy; omega
    · have := hits_rise h k i t x y (by omega) hx hy; omega
  | false =>
    rw [if_neg (by decide)]
    refine filter_split (fun t y ht hy => decide_eq_true ?_) fun t y ht hy => decide_eq_false ?_
    · have := h1 t y ht hy; omega
    · have h4 := h2 t y ht hy
      intro h5
      have h6 : y.rev = n := by omega
      rcases Nat.lt_or_ge i t with h7 | h7
      · obtain ⟨x, hx⟩ : ∃ x, (hits S.log k)[i]? = some x := ⟨_, List.getElem?_eq_getElem (by have := (List.getElem?_eq_some_iff.1 hy).1; omega)⟩
        have := hits_rise h k i t x y h7 hx hy
        have := h2 i x (Nat.le_refl _) hx
        omega
      · have h8 : t = i := by omega
        rw [h8] at hy
        have := h3.2 ⟨y, hy, h6⟩
        cases this
theorem at_none {S : St} {k : GKey} {n : Nat} (h : hits (S.log.take n) k = []) : atR S k n = none := by unfold atR cur; rw [h]; rfl
theorem at_some {S : St} {k : GKey} {n m : Nat} {e : GEvent} (h : hits (S.log.take n) k = (hits S.log k).take (m + 1)) (he : (hits S.log k)[m]? = some e) : atR S k n = shown e := by
  unfold atR
  refine curL_last ?_
  rw [h, take_snoc he, List.getLast?_concat]
theorem copyO_any {I : Dom} {v1 v2 v3 : Value} {w : World} {o : GObject} (h : ObjIn I w v1 v2 v3 o) (hok : OkObj o) :
    Calls Tryz.prog 65 #[objW o v1 v2 v3] w fun e w' => ∃ E u1 u2 u3, e = .returned (objW o u1 u2 u3) ∧ ObjIn E w' u1 u2 u3 o ∧ (∀ b, E b → w.heap.size ≤ b ∧ b < w'.heap.size) ∧ Below w.heap.size w w' := by
  refine (storeCopy_any o.okey v1 v2 v3 o.ending o.uid o.rev o.doc o.labels o.owners o.holds w h.rowL h.rowO h.rowH (by have := hok.labels.1; omega) (by have := hok.owners.1; omega) (by have := hok.holds.1; omega)).mono ?_
  rintro E w' ⟨u1, u2, u3, rfl, k1, k2, k3, -, hb⟩
  refine ⟨fun b => u1.ownBlock = some b ∨ u2.ownBlock = some b ∨ u3.ownBlock = some b, u1, u2, u3, rfl, ⟨OwnX.ofFlat k1 fun b hb => .inl hb, OwnX.ofFlat k2 fun b hb => .inr (.inl hb), OwnX.ofFlat k3 fun b hb => .inr (.inr hb)⟩, fun b hb9 => ?_, hb⟩
  rcases hb9 with h9 | h9 | h9
  · exact ⟨(k1.at h9).1, (k1.at h9).2.1⟩
  · exact ⟨(k2.at h9).1, (k2.at h9).2.1⟩
  · exact ⟨(k3.at h9).1, (k3.at h9).2.1⟩
theorem hobj9 {I : Dom} {w w' : World} {v1 v2 v3 : Value} {x : GObject} (h : ObjIn I w v1 v2 v3 x) (hb : Below w.heap.size w w') : ObjIn (fun _ => True) w' v1 v2 v3 x := by
  obtain ⟨⟨h1, -⟩, ⟨h2, -⟩, ⟨h3, -⟩⟩ := h
  exact ⟨⟨h1.stay flat_label fun b h9 => hb.block b (h1.at h9).2.1, fun _ _ => trivial⟩, ⟨h2.stay flat_string fun b h9 => hb.block b (h2.at h9).2.1, fun _ _ => trivial⟩, ⟨h3.stay flat_string fun b h9 => hb.block b (h3.at h9).2.1, fun _ _ => trivial⟩⟩
theorem row_on {I : Dom} {w w' : World} {T : TypeId} {v : Value} {vs : List GEvent} (h : OwnAt (VerX I w) 12 w 0 T v vs) (hb : Below w.heap.size w w') : OwnAt (VerX (fun _ => True) w') 12 w' 0 T v vs :=
  (h.stay (famVer.flat I w) fun b h9 => hb.block b (h.at h9).2.1).imp' fun cs x _ hx => by
    obtain ⟨v1, v2, v3, e1, e2⟩ := hx
    exact ⟨v1, v2, v3, e1, hobj9 e2 hb⟩
set_option maxRecDepth 100000 in
set_option maxHeartbeats 3200000 in
theorem at_any {D : Dom} {w : World} {g : Nat} {S : St} (h : StoreAt D w g S) (hS : OkSt S) (k : GKey) (hk : okKey k) (n : Nat) :
    Calls Tryz.prog 49 #[.pointer (some ⟨g, 0, none⟩), .agg #[.string k.kind, .string k.space, .string k.name], .int .i64 (n : Nat)] w fun e w' => Below w.heap.size w w' ∧ ((atR S k n = none ∧ e = .returned (.tuple #[noW, .bool false])) ∨ ∃ o E u1 u2 u3, atR S k n = some o ∧ e = .returned (.tuple #[objW o u1 u2 u3, .bool true]) ∧ ObjIn E w' u1 u2 u3 o ∧ ∀ b, E b → w.heap.size ≤ b ∧ b < w'.heap.size) := by
  obtain ⟨M, I, mb, nn, f, vlog, hin, -⟩ := h
  obtain ⟨va, vn, vc, hlook, hvn, hrow⟩ := hin.look k hk
  have hvl : vn ≤ 4194304 := by rw [hvn]; exact Nat.le_trans (List.length_filter_le _ _) hS.rev
  obtain ⟨w1, hw1⟩ : ∃ w1, w1 = (w.alloc (.cells #[.string k.kind, .string k.space, .string k.name] 24)).alloc (.cells noA 30) := ⟨_, rfl⟩
  obtain ⟨gk, hgk⟩ : ∃ gk, gk = w.heap.size := ⟨_, rfl⟩
  obtain ⟨go, hgo⟩ : ∃ go, go = w.heap.size + 1 := ⟨_, rfl⟩
  have bk : w1.heap[gk]? = some (.cells #[.string k.kind, .string k.space, .string k.name] 24 (0, 0)) := by rw [hw1, hgk]; exact heap_alloc_old (heap_alloc_new w _)
  have bo : w1.heap[go]? = some (.cells noA 30 (0, 0)) := by rw [hw1, hgo]; exact heap_alloc_at (World.size_alloc _ _).symm
  have hb1 : Below w.heap.size w w1 := by rw [hw1]; exact ((Below.refl _ w).alloc (Nat.le_refl _) _).alloc (by rw [World.size_alloc]; omega) _
  have bg := below_block hb1 hin.box
  have cg := fun i => cell_block bg i
  have ck := fun i => cell_block bk i
  have hgw : w.heap.size ≤ go := by omega
  have hs1 : go < w1.heap.size := by rw [hw1, World.size_alloc, World.size_alloc]; omega
  have Hlook := Lib.hid hlook
  have HR := Lib.hid hrow
  have Hvn := Lib.hid hvn
  have BO := Lib.hid bo
  have HB1 := Lib.hid hb1
  have HS := Lib.hid hS
  clear hin hk hlook hrow hvn bo hb1 bk bg hS
  go_enter Tryz.func49, Tryz.ntmps49
  go_upto_region 1 with fail
  have hex : ((w.alloc (.cells #[.string k.kind, .string k.space, .string k.name] 24)).alloc (.cells #[.string { data := #[] }, .string { data := #[] }, .string { data := #[] }, .slice none 0 0, .slice none 0 0, .slice none 0 0, .bool false, .string { data := #[] }, .int .i64 0, .string { data := #[] }] 30)) = w1 := hw1.symm
  rw [hex]
  try rw [← hgo]
  rw [← hgk]
  have hlk : ∀ n, (Instr.lookup 108 (.map (some mb)) (.agg #[.string k.kind, .string k.space, .string k.name]) false).run Tryz.prog (w1.drewN n) = .ok (.slice va vn vc) (w1.drewN n) := fun n => Hlook.out (w1.drewN n) (drewB HB1.out n)
  clear hw1 hex hgk hgo Hlook
  go_quiet (fail)
  have HB2 := Lib.hid (drewB HB1.out nq)
  have BO2 : Hid ((w1.drewN nq).heap[go]? = some (.cells noA 30 (0, 0))) := BO
  have hs2 : go < (w1.drewN nq).heap.size := hs1
  obtain ⟨w2, hw2⟩ : ∃ w2, w1.drewN nq = w2 := ⟨_, rfl⟩
  rw [hw2] at HB2 BO2 hs2 ⊢
  clear hw2 hlk cg ck HB1 BO hs1
  have HBS := Lib.hid (bsearch_any (row_on HR.out HB2.out) Hvn.out hvl (hits_rise HS.out.good k) (n : Int))
  go_wp2_with fail
  refine HBS.out.mono ?_
  rintro E w3 ⟨hb3, i, is, rfl, hin, hlo, hhi, his⟩
  have HT := Lib.hid (at_find HS.out.good hlo hhi his)
  have HI : Hid (is = true → i < vn) := Lib.hid fun h9 => by obtain ⟨x, hx, -⟩ := his.1 h9; have := (List.getElem?_eq_some_iff.1 hx).1; have := Hvn.out; omega
  have BO := Lib.hid (below_block hb3 BO2.out)
  have HB := Lib.hid (HB2.out.trans (hb3.mono HB2.out.size))
  have hs3 : go < w3.heap.size := by have := hb3.size; omega
  clear hb3 hlo hhi his HBS BO2 HB2 hs2
  cases is with
  | true =>
    have hiv := HI.out rfl
    rw [if_pos rfl] at HT
    obtain ⟨e, he⟩ : ∃ e, (hits S.log k)[i]? = some e := ⟨_, List.getElem?_eq_getElem (by have := Hvn.out; omega)⟩
    clear HI
    obtain ⟨b, o, v1, v2, v3, hva, hobj, ec⟩ := ver_cells HR.out Hvn.out HB.out he
    have Hc9 := Lib.hid (at_some HT.out he)
    have hmem : e ∈ S.log := (List.mem_filter.1 (List.mem_of_getElem? he)).1
    have Hok : Hid (OkObj e.object) := Lib.hid (HS.out.obj e hmem)
    have e11 := ec 11 _ rfl
    subst hva
    obtain ⟨x, Hx⟩ : ∃ x, Hid (e.object = x) := ⟨_, Lib.hid rfl⟩
    have hkk : shown e = if decide (e.kind = 3) = true then none else some e.object := by unfold shown; by_cases h : e.kind = 3 <;> simp [h]
    rw [hkk] at Hc9
    rw [Hx.out] at hobj ec Hok Hc9
    have f1 := ec 1 _ rfl
    have f2 := ec 2 _ rfl
    have f3 := ec 3 _ rfl
    have f4 := ec 4 _ rfl
    have f5 := ec 5 _ rfl
    have f6 := ec 6 _ rfl
    have f7 := ec 7 _ rfl
    have f8 := ec 8 _ rfl
    have f9 := ec 9 _ rfl
    have f10 := ec 10 _ rfl
    have Hobj := Lib.hid hobj
    clear ec hobj hmem hkk he
    cases hk3 : decide (e.kind = 3) with
    | true =>
      rw [hk3] at e11 Hc9
      have Hc : Hid (atR S k n = none) := Lib.hid (by rw [Hc9.out]; rfl)
      clear hk3 Hc9 f1 f2 f3 f4 f5 f6 f7 f8 f9 f10
      go_wp2_with (refine wpList_store_box (by rfl) _ _ _ (by rfl) go noA (by rfl) (by rfl) _ _ (by exact BO.out) (by exact Tryz.sizeObj) (by rfl) (by simp [Value.oneCell', noA]) ?_)
      intro WF bF tF
      have HF := Lib.hid (tF.below HB.out hgw)
      go_wp2_with fail
      refine bodyPost_ret (v := .tuple #[.agg noA, .bool false]) ?_ rfl ?_
      · exact results_two_box Tryz.results49 _ _ go _ _ _ _ (by rfl) bF Tryz.underlying30 rfl (by exact Tryz.sizeObj)
      · exact ⟨HF.out, .inl ⟨Hc.out, rfl⟩⟩
    | false =>
      rw [hk3] at e11 Hc9
      have Hc : Hid (atR S k n = some x) := Lib.hid (by rw [Hc9.out]; rfl)
      have HCo := Lib.hid (copyO_any (hobj9 Hobj.out HB.out) Hok.out)
      rw [show objW x v1 v2 v3 = .agg (objCs x v1 v2 v3).toArray from rfl] at HCo
      unfold objCs at HCo
      clear hk3 Hc9
      go_wp2_with fail
      refine HCo.out.mono ?_
      rintro E w3 ⟨D3, u1, u2, u3, rfl, k1, k2, hb3⟩
      have K1 := Lib.hid k1
      have K2 := Lib.hid k2
      have BO3 := Lib.hid (below_block hb3 BO.out)
      have HB3 := Lib.hid (HB.out.trans (hb3.mono HB.out.size))
      have hs3 := HB.out.size
      clear k1 k2 hb3 HCo BO HB
      go_wp2_with (refine wpList_store_box (by rfl) _ _ _ (by rfl) go (objCs x u1 u2 u3).toArray (by rfl) (by rfl) _ _ (by exact BO3.out) (by exact Tryz.sizeObj) (by rfl) (objA_ones K1.out) ?_)
      intro WF bF tF
      have HF := Lib.hid (tF.below HB3.out hgw)
      have K1F := Lib.hid (K1.out.agree fun b hb => tF.other b fun e9 => by have := (K2.out b hb).1; omega)
      have hsF := tF.size
      go_wp2_with fail
      refine bodyPost_ret (v := .tuple #[objW x u1 u2 u3, .bool true]) ?_ rfl ?_
      · exact results_two_box Tryz.results49 _ _ go _ _ _ _ (by rfl) bF Tryz.underlying30 rfl (by exact Tryz.sizeObj)
      · exact ⟨HF.out, .inr ⟨x, D3, u1, u2, u3, Hc.out, rfl, K1F.out, fun b hb => ⟨by have := (K2.out b hb).1; omega, by rw [hsF]; exact (K2.out b hb).2⟩⟩⟩
  | false =>
    rw [if_neg (by decide)] at HT
    clear HI
    by_cases h0 : i = 0
    · subst h0
      have Hc : Hid (atR S k n = none) := Lib.hid (at_none (by rw [HT.out]; rfl))
      clear HT
      go_wp2_with (refine wpList_store_box (by rfl) _ _ _ (by rfl) go noA (by rfl) (by rfl) _ _ (by exact BO.out) (by exact Tryz.sizeObj) (by rfl) (by simp [Value.oneCell', noA]) ?_)
      intro WF bF tF
      have HF := Lib.hid (tF.below HB.out hgw)
      go_wp2_with fail
      refine bodyPost_ret (v := .tuple #[.agg noA, .bool false]) ?_ rfl ?_
      · exact results_two_box Tryz.results49 _ _ go _ _ _ _ (by rfl) bF Tryz.underlying30 rfl (by exact Tryz.sizeObj)
      · exact ⟨HF.out, .inl ⟨Hc.out, rfl⟩⟩
    · obtain ⟨m, rfl⟩ : ∃ m, i = m + 1 := ⟨i - 1, by omega⟩
      obtain ⟨e, he⟩ : ∃ e, (hits S.log k)[m]? = some e := ⟨_, List.getElem?_eq_getElem (by have := Hvn.out; omega)⟩
      have q0 : ((m + 1 : Nat) : Int) - 1 = (m : Int) := by omega
      obtain ⟨b, o, v1, v2, v3, hva, hobj, ec⟩ := ver_cells HR.out Hvn.out HB.out he
      have Hc9 := Lib.hid (at_some HT.out he)
      have hmem : e ∈ S.log := (List.mem_filter.1 (List.mem_of_getElem? he)).1
      have Hok : Hid (OkObj e.object) := Lib.hid (HS.out.obj e hmem)
      have e11 := ec 11 _ rfl
      subst hva
      obtain ⟨x, Hx⟩ : ∃ x, Hid (e.object = x) := ⟨_, Lib.hid rfl⟩
      have hkk : shown e = if decide (e.kind = 3) = true then none else some e.object := by unfold shown; by_cases h : e.kind = 3 <;> simp [h]
      rw [hkk] at Hc9
      rw [Hx.out] at hobj ec Hok Hc9
      have f1 := ec 1 _ rfl
      have f2 := ec 2 _ rfl
      have f3 := ec 3 _ rfl
      have f4 := ec 4 _ rfl
      have f5 := ec 5 _ rfl
      have f6 := ec 6 _ rfl
      have f7 := ec 7 _ rfl
      have f8 := ec 8 _ rfl
      have f9 := ec 9 _ rfl
      have f10 := ec 10 _ rfl
      have Hobj := Lib.hid hobj
      clear ec hobj hmem hkk he
      cases hk3 : decide (e.kind = 3) with
      | true =>
        rw [hk3] at e11 Hc9
        have Hc : Hid (atR S k n = none) := Lib.hid (by rw [Hc9.out]; rfl)
        clear hk3 Hc9 f1 f2 f3 f4 f5 f6 f7 f8 f9 f10
        go_wp2_with (refine wpList_store_box (by rfl) _ _ _ (by rfl) go noA (by rfl) (by rfl) _ _ (by exact BO.out) (by exact Tryz.sizeObj) (by rfl) (by simp [Value.oneCell', noA]) ?_)
        intro WF bF tF
        have HF := Lib.hid (tF.below HB.out hgw)
        go_wp2_with fail
        refine bodyPost_ret (v := .tuple #[.agg noA, .bool false]) ?_ rfl ?_
        · exact results_two_box Tryz.results49 _ _ go _ _ _ _ (by rfl) bF Tryz.underlying30 rfl (by exact Tryz.sizeObj)
        · exact ⟨HF.out, .inl ⟨Hc.out, rfl⟩⟩
      | false =>
        rw [hk3] at e11 Hc9
        have Hc : Hid (atR S k n = some x) := Lib.hid (by rw [Hc9.out]; rfl)
        have HCo := Lib.hid (copyO_any (hobj9 Hobj.out HB.out) Hok.out)
        rw [show objW x v1 v2 v3 = .agg (objCs x v1 v2 v3).toArray from rfl] at HCo
        unfold objCs at HCo
        clear hk3 Hc9
        go_wp2_with fail
        refine HCo.out.mono ?_
        rintro E w3 ⟨D3, u1, u2, u3, rfl, k1, k2, hb3⟩
        have K1 := Lib.hid k1
        have K2 := Lib.hid k2
        have BO3 := Lib.hid (below_block hb3 BO.out)
        have HB3 := Lib.hid (HB.out.trans (hb3.mono HB.out.size))
        have hs3 := HB.out.size
        clear k1 k2 hb3 HCo BO HB
        go_wp2_with (refine wpList_store_box (by rfl) _ _ _ (by rfl) go (objCs x u1 u2 u3).toArray (by rfl) (by rfl) _ _ (by exact BO3.out) (by exact Tryz.sizeObj) (by rfl) (objA_ones K1.out) ?_)
        intro WF bF tF
        have HF := Lib.hid (tF.below HB3.out hgw)
        have K1F := Lib.hid (K1.out.agree fun b hb => tF.other b fun e9 => by have := (K2.out b hb).1; omega)
        have hsF := tF.size
        go_wp2_with fail
        refine bodyPost_ret (v := .tuple #[objW x u1 u2 u3, .bool true]) ?_ rfl ?_
        · exact results_two_box Tryz.results49 _ _ go _ _ _ _ (by rfl) bF Tryz.underlying30 rfl (by exact Tryz.sizeObj)
        · exact ⟨HF.out, .inr ⟨x, D3, u1, u2, u3, Hc.out, rfl, K1F.out, fun b hb => ⟨by have := (K2.out b hb).1; omega, by rw [hsF]; exact (K2.out b hb).2⟩⟩⟩
set_option maxRecDepth 100000 in
set_option maxHeartbeats 3200000 in
theorem get_any {D : Dom} {w : World} {g : Nat} {S : St} (h : StoreAt D w g S) (hS : OkSt S) (k : GKey) (hk : k.kind.size ≤ 1048576 ∧ k.space.size ≤ 1048576 ∧ k.name.size ≤ 1048576) (rev : Int) :
    Calls Tryz.prog 14 #[.pointer (some ⟨g, 0, none⟩), .agg #[.string k.kind, .string k.space, .string k.name], .int .i64 rev] w fun e w' => Below w.heap.size w w' ∧ ∃ E u1 u2 u3, e = .returned (.tuple #[objW (getO S k rev) u1 u2 u3, .int .i64 (getE S k rev)]) ∧ ObjIn E w' u1 u2 u3 (getO S k rev) ∧ ∀ b, E b → w.heap.size ≤ b ∧ b < w'.heap.size := by
  obtain ⟨er, Her⟩ : ∃ x, Hid (keyK k = x) := ⟨_, Lib.hid rfl⟩
  obtain ⟨ge, Hge⟩ : ∃ x, Hid (getE S k rev = x) := ⟨_, Lib.hid rfl⟩
  obtain ⟨gv, Hgv⟩ : ∃ x, Hid (getO S k rev = x) := ⟨_, Lib.hid rfl⟩
  rw [Hge.out, Hgv.out]
  have hokk : okKey k := ⟨by unfold maxLen; omega, by unfold maxLen; omega, by unfold maxLen; omega⟩
  obtain ⟨w1, hw1⟩ : ∃ w1, w1 = (w.alloc (.cells #[.string k.kind, .string k.space, .string k.name] 24)).alloc (.cells noA 30) := ⟨_, rfl⟩
  obtain ⟨gk, hgk⟩ : ∃ gk, gk = w.heap.size := ⟨_, rfl⟩
  obtain ⟨go, hgo⟩ : ∃ go, go = w.heap.size + 1 := ⟨_, rfl⟩
  have bk : Hid (w1.heap[gk]? = some (.cells #[.string k.kind, .string k.space, .string k.name] 24 (0, 0))) := Lib.hid (by rw [hw1, hgk]; exact heap_alloc_old (heap_alloc_new w _))
  have BO1 : Hid (w1.heap[go]? = some (.cells noA 30 (0, 0))) := Lib.hid (by rw [hw1, hgo]; exact heap_alloc_at (World.size_alloc _ _).symm)
  have hb1 : Below w.heap.size w w1 := by rw [hw1]; exact ((Below.refl _ w).alloc (Nat.le_refl _) _).alloc (by rw [World.size_alloc]; omega) _
  have hgw : w.heap.size ≤ go := by omega
  have hs1 : go < w1.heap.size := by rw [hw1, World.size_alloc, World.size_alloc]; omega
  have HB1 := Lib.hid hb1
  have HS := Lib.hid hS
  have HA := Lib.hid h
  have HC := Lib.hid (key_any k.kind k.space k.name w1 (by omega) (by omega) (by omega))
  have her0 : AuP.keyE k.kind.data.toList k.space.data.toList k.name.data.toList = er := Her.out
  rw [her0] at HC
  clear hb1 h hS her0 hk
  go_enter Tryz.func14, Tryz.ntmps14
  go_upto_region 1 with fail
  have hex : ((w.alloc (.cells #[.string k.kind, .string k.space, .string k.name] 24)).alloc (.cells #[.string { data := #[] }, .string { data := #[] }, .string { data := #[] }, .slice none 0 0, .slice none 0 0, .slice none 0 0, .bool false, .string { data := #[] }, .int .i64 0, .string { data := #[] }] 30)) = w1 := hw1.symm
  rw [hex]
  try rw [← hgo]
  rw [← hgk]
  clear hw1 hex hgk hgo
  have cc := fun i => cell_block bk.out i
  go_wp2_with fail
  refine HC.out.mono ?_
  rintro E w2 ⟨rfl, hb2⟩
  have B2 := Lib.hid (below_block hb2 bk.out)
  have BO2 := Lib.hid (below_block hb2 BO1.out)
  have HB2 := Lib.hid (HB1.out.trans (hb2.mono HB1.out.size))
  have hs2 : go < w2.heap.size := by have := hb2.size; omega
  clear hb2 HC cc bk BO1 HB1 hs1
  by_cases her : er = 0
  · subst her
    have cc := fun i => cell_block B2.out i
    have HTi := Lib.hid (time_any (HA.out.belowW HB2.out) rev)
    go_wp2_with fail
    refine HTi.out.mono ?_
    rintro E w3 ⟨rfl, hw3⟩
    subst hw3
    clear HTi
    obtain ⟨te, Hte⟩ : ∃ x, Hid (timeE S rev = x) := ⟨_, Lib.hid rfl⟩
    obtain ⟨tt, Htt⟩ : ∃ x, Hid (timeT S rev = x) := ⟨_, Lib.hid rfl⟩
    rw [Hte.out, Htt.out]
    by_cases hte : te = 0
    · subst hte
      have HAt := Lib.hid (at_any (HA.out.belowW HB2.out) HS.out k hokk tt)
      go_wp2_with fail
      refine HAt.out.mono ?_
      rintro E w3 ⟨hb3, hat⟩
      have BO3 := Lib.hid (below_block hb3 BO2.out)
      have HB3 := Lib.hid (HB2.out.trans (hb3.mono HB2.out.size))
      have hs3 : go < w3.heap.size := by have := hb3.size; omega
      have hs32 := hb3.size
      have hw2 := HB2.out.size
      clear hb3 HAt cc B2 BO2 HB2
      rcases hat with ⟨hc, rfl⟩ | ⟨o, D3, u1, u2, u3, hc, rfl, ho, hD⟩
      · have Hge9 : Hid (ge = 7) := Lib.hid (by rw [← Hge.out]; unfold getE; rw [Her.out, if_neg (by decide), Hte.out, if_neg (by decide), Htt.out, hc]; rfl)
        have Hgv9 : Hid (gv = noObj) := Lib.hid (by rw [← Hgv.out]; unfold getO; rw [Hge.out, Hge9.out]; rfl)
        rw [show noW = .agg noA from rfl]
        clear hc Her Hte Htt Hge Hgv
        have H7 := Lib.hid (heap_alloc_new w3 (.cells noA 30))
        have HB4 := Lib.hid (HB3.out.alloc (by omega) (.cells noA 30))
        have BO4 := Lib.hid (below_block ((Below.refl _ w3).alloc (Nat.le_refl _) (.cells noA 30)) BO3.out)
        have hs4 : (w3.alloc (.cells noA 30)).heap.size = w3.heap.size + 1 := World.size_alloc _ _
        go_wp2_with (refine wpList_store_box (by rfl) _ _ _ (by rfl) w3.heap.size noA (by rfl) (by rfl) _ _ (by exact H7.out) (by exact Tryz.sizeObj) (by rfl) (by simp [Value.oneCell', noA]) ?_)
        intro w5 b5 t5
        have Z5 := Lib.hid b5
        have BO5 := Lib.hid (t5.block BO4.out (by omega))
        have HB5 := Lib.hid (t5.below HB4.out (by omega))
        have hs5 : w5.heap.size = w3.heap.size + 1 := t5.size.trans hs4
        clear b5 t5 hs4 H7 BO4 BO3 HB4 HB3
        go_wp2_with (refine wpList_store_box (by rfl) _ _ _ (by rfl) go noA (by rfl) (by rfl) _ _ (by exact BO5.out) (by exact Tryz.sizeObj) (by rfl) (by simp [Value.oneCell', noA]) ?_)
        intro WF bF tF
        have BF := Lib.hid bF
        have HF := Lib.hid (tF.below HB5.out hgw)
        clear bF tF
        go_wp2_with fail
        refine bodyPost_ret (v := .tuple #[.agg noA, .int .i64 7]) ?_ rfl ?_
        · exact results_two_obj Tryz.results14 _ _ go _ (by rfl) BF.out rfl
        · rw [Hge9.out, Hgv9.out]
          exact ⟨HF.out, fun _ => False, nilS, nilS, nilS, rfl, objIn_no _, fun b hb => hb.elim⟩
      · have Hge9 : Hid (ge = 0) := Lib.hid (by rw [← Hge.out]; unfold getE; rw [Her.out, if_neg (by decide), Hte.out, if_neg (by decide), Htt.out, hc]; rfl)
        have Hgv9 : Hid (gv = o) := Lib.hid (by rw [← Hgv.out]; unfold getO; rw [Hge.out, Hge9.out, if_pos rfl, Htt.out, hc]; rfl)
        have HO := Lib.hid ho
        have HDd := Lib.hid hD
        clear hc ho hD Her Hte Htt Hge Hgv
        have H7 := Lib.hid (heap_alloc_new w3 (.cells noA 30))
        have HB4 := Lib.hid (HB3.out.alloc (by omega) (.cells noA 30))
        have BO4 := Lib.hid (below_block ((Below.refl _ w3).alloc (Nat.le_refl _) (.cells noA 30)) BO3.out)
        have hs4 : (w3.alloc (.cells noA 30)).heap.size = w3.heap.size + 1 := World.size_alloc _ _
        have K4 := Lib.hid (HO.out.agree fun b hb => ((Below.refl _ w3).alloc (Nat.le_refl _) (.cells noA 30)).block b (HDd.out b hb).2)
        go_wp2_with (refine wpList_store_box (by rfl) _ _ _ (by rfl) w3.heap.size (objCs o u1 u2 u3).toArray (by rfl) (by rfl) _ _ (by exact H7.out) (by exact Tryz.sizeObj) (by rfl) (objA_ones HO.out) ?_)
        intro w5 b5 t5
        have Z5 := Lib.hid b5
        have BO5 := Lib.hid (t5.block BO4.out (by omega))
        have HB5 := Lib.hid (t5.below HB4.out (by omega))
        have K5 := Lib.hid (K4.out.agree fun b hb => t5.other b fun e9 => by have := (HDd.out b hb).2; omega)
        have hs5 : w5.heap.size = w3.heap.size + 1 := t5.size.trans hs4
        clear b5 t5 hs4 H7 BO4 BO3 HB4 HB3
        obtain ⟨g9, hg9⟩ : ∃ g9, w3.heap.size = g9 := ⟨_, rfl⟩
        have ZE : Hid (w5.heap[g9]? = some (.cells (objCs o u1 u2 u3).toArray 30 (0, 0))) := Lib.hid (by rw [← hg9]; exact Z5.out)
        have hOw : ∀ b, D3 b → b < g9 := fun b hb => by have := (HDd.out b hb).2; omega
        rw [hg9]
        unfold objCs at ZE
        have cz := fun i => cell_block ZE.out i
        clear Z5 hg9
        go_wp2_with (refine wpList_store_box (by rfl) _ _ _ (by rfl) go (objCs o u1 u2 u3).toArray (by rfl) (by rfl) _ _ (by exact BO5.out) (by exact Tryz.sizeObj) (by rfl) (objA_ones HO.out) ?_)
        intro WF bF tF
        have HF := Lib.hid (tF.below HB5.out hgw)
        have K1F := Lib.hid (K5.out.agree fun b hb => tF.other b fun e9 => by have := (HDd.out b hb).1; omega)
        have hsF := tF.size
        have HD9 : Hid (∀ b, D3 b → w.heap.size ≤ b ∧ b < WF.heap.size) := Lib.hid fun b hb => ⟨by have := (HDd.out b hb).1; omega, by have := (HDd.out b hb).2; omega⟩
        go_wp2_with fail
        refine bodyPost_ret (v := .tuple #[objW o u1 u2 u3, .int .i64 0]) ?_ rfl ?_
        · exact results_two_obj Tryz.results14 _ _ go _ (by rfl) bF rfl
        · rw [Hge9.out, Hgv9.out]
          exact ⟨HF.out, D3, u1, u2, u3, rfl, K1F.out, HD9.out⟩
    · have q0 : (te == 0) = false := by rw [beq_eq_false_iff_ne]; exact hte
      have q1 : (te != 0) = true := bne_iff_ne.2 hte
      have Hge9 : Hid (ge = te) := Lib.hid (by rw [← Hge.out]; unfold getE; rw [Her.out, if_neg (by decide), Hte.out, if_pos hte])
      have Hgv9 : Hid (gv = noObj) := Lib.hid (by rw [← Hgv.out]; unfold getO; rw [Hge.out, Hge9.out, if_neg hte])
      have BO5 := BO2
      have HB5 := HB2
      clear hte Her Hte Htt Hge Hgv cc
      go_wp2_with (refine wpList_store_box (by rfl) _ _ _ (by rfl) go noA (by rfl) (by rfl) _ _ (by exact BO5.out) (by exact Tryz.sizeObj) (by rfl) (by simp [Value.oneCell', noA]) ?_)
      intro WF bF tF
      have BF := Lib.hid bF
      have HF := Lib.hid (tF.below HB5.out hgw)
      clear bF tF
      go_wp2_with fail
      refine bodyPost_ret (v := .tuple #[.agg noA, .int .i64 te]) ?_ rfl ?_
      · exact results_two_obj Tryz.results14 _ _ go _ (by rfl) BF.out rfl
      · rw [Hge9.out, Hgv9.out]
        exact ⟨HF.out, fun _ => False, nilS, nilS, nilS, rfl, objIn_no _, fun b hb => hb.elim⟩
  · have q0 : (er == 0) = false := by rw [beq_eq_false_iff_ne]; exact her
    have q1 : (er != 0) = true := bne_iff_ne.2 her
    have Hge9 : Hid (ge = er) := Lib.hid (by rw [← Hge.out]; unfold getE; rw [Her.out, if_pos her])
    have Hgv9 : Hid (gv = noObj) := Lib.hid (by rw [← Hgv.out]; unfold getO; rw [Hge.out, Hge9.out, if_neg her])
    have BO5 := BO2
    have HB5 := HB2
    clear her Her Hge Hgv
    go_wp2_with (refine wpList_store_box (by rfl) _ _ _ (by rfl) go noA (by rfl) (by rfl) _ _ (by exact BO5.out) (by exact Tryz.sizeObj) (by rfl) (by simp [Value.oneCell', noA]) ?_)
    intro WF bF tF
    have BF := Lib.hid bF
    have HF := Lib.hid (tF.below HB5.out hgw)
    clear bF tF
    go_wp2_with fail
    refine bodyPost_ret (v := .tuple #[.agg noA, .int .i64 er]) ?_ rfl ?_
    · exact results_two_obj Tryz.results14 _ _ go _ (by rfl) BF.out rfl
    · rw [Hge9.out, Hgv9.out]
      exact ⟨HF.out, fun _ => False, nilS, nilS, nilS, rfl, objIn_no _, fun b hb => hb.elim⟩
end Sto
end Go.Proofs.YtnnceaapodgfbaaGreatDoor
namespace Go.Proofs.YtnnceaapodgfbaaGreatDoor
namespace Sto
open Go.RowKit
end Sto
end Go.Proofs.YtnnceaapodgfbaaGreatDoor
namespace Go.Proofs.YtnnceaapodgfbaaGreatDoor
namespace Sto
open Go.RowKit
theorem sum_mem {α : Type} {f : α → Nat} : ∀ {l : List α} {x : α}, x ∈ l → f x ≤ (l.map f).sum
  | a :: r, x, h => by
    rw [List.map_cons, List.sum_cons]
    rcases List.mem_cons.1 h with rfl | h
    · omega
    · have := sum_mem (f := f) h; omega
theorem sum_length {α : Type} {f : α → Nat} {c : Nat} : ∀ {l : List α}, (∀ x ∈ l, c ≤ f x) → l.length * c ≤ (l.map f).sum
  | [], _ => by simp
  | a :: r, h => by
    rw [List.map_cons, List.sum_cons, List.length_cons, Nat.add_mul, Nat.one_mul]
    have h1 := sum_length (f := f) (c := c) (l := r) fun x hx => h x (List.mem_cons_of_mem _ hx)
    have h2 := h a List.mem_cons_self
    omega
theorem okObj_bulk {o : GObject} (h : objectB o ≤ 1048576) (hr : i64 o.rev) : OkObj o := by
  unfold objectB keyB at h
  have h1 := sum_length (f := labelB) (c := 1) (l := o.labels) fun x _ => by unfold labelB; omega
  have h2 := total_length o.owners
  have h3 := total_length o.holds
  exact ⟨by omega, by omega, by omega, ⟨by omega, fun r hr => by have h5 := sum_mem (f := labelB) hr; have h6 : labelB r = ((r.key.size + 1) + ((r.val.size + 1) + 0)) + 1 := rfl; unfold okLab; omega⟩, ⟨by omega, fun s hs => by have := total_mem hs; omega⟩, ⟨by omega, fun s hs => by have := total_mem hs; omega⟩, by omega, hr, by omega⟩
end Sto
end Go.Proofs.YtnnceaapodgfbaaGreatDoor
namespace Go.Proofs.YtnnceaapodgfbaaGreatDoor
namespace Adm
open Go.RowKit
open JP (JV Bs)
theorem key_short9 {s : ByteArray} (h : keyE s = 0) : s.size ≤ 1048576 := by
  unfold keyE NameP.checkKey NameP.judge at h
  have hl : s.data.toList.length = s.size := by simp
  by_cases h1 : 127 < s.data.toList.length
  · split at h
    · cases h
    · omega
  · omega
theorem val_short9 {s : ByteArray} (h : valE s = 0) : s.size ≤ 1048576 := by
  unfold valE NameP.checkVal NameP.judge at h
  have hl : s.data.toList.length = s.size := by simp
  by_cases h1 : 63 < s.data.toList.length
  · rw [if_pos h1] at h; cases h
  · omega
theorem okObj_out {o : GObject} {st : GSt} (h : Sto.OkObj o) (hg : GoodS st) : Sto.OkObj (outO o st) := by
  obtain ⟨h1, h2, h3⟩ := (labels_iff _).1 hg.labs
  refine ⟨h.kind, h.space, h.name, ⟨?_, fun r hr => ⟨key_short9 (h2 r hr).1, ?_⟩⟩, h.owners, h.holds, h.uid, h.rev, ?_⟩
  · show st.1.length ≤ _; omega
  · exact val_short9 (h2 r hr).2
  · show (mkB (JP.text st.2)).size ≤ _
    rw [mkB_size]
    have := hg.doc.text
    omega
theorem noObj_ok : Sto.OkObj Sto.noObj := ⟨by decide, by decide, by decide, ⟨Nat.zero_le _, fun _ h => by cases h⟩, ⟨Nat.zero_le _, fun _ h => by cases h⟩, ⟨Nat.zero_le _, fun _ h => by cases h⟩, by decide, by show (Lit.int .i64 0).wf = true; decide, by decide⟩
theorem plug_ok {l : List GPlugin} (h : (l.map pluginB).sum ≤ 1048576) : l.length ≤ 1048576 ∧ ∀ p ∈ l, OkPlugin p := by
  have h0 := Sto.sum_length (f := pluginB) (c := 1) (l := l) fun x _ => by unfold pluginB; omega
  refine ⟨by omega, fun p hp => ?_⟩
  have h1 := Sto.sum_mem (f := pluginB) hp
  have h2 : pluginB p = (1 + ((p.key.size + 1) + ((p.val.size + 1) + (1 + 0)))) + 1 := rfl
  exact ⟨by omega, by omega⟩
theorem zero_plug (w : World) (g : Nat) (h : w.heap[g]? = some (.cells #[.int .i64 0, .string { data := #[] }, .string { data := #[] }, .int .i64 0] 64 (0, 0))) : RowAt PluginR 4 w (.slice (some ⟨g, 0, none⟩) 1 1) [⟨0, ByteArray.empty, ByteArray.empty, 0⟩] :=
  RowAt.one h rfl ⟨rfl, by decide, by decide⟩
theorem zero_check : checkL [⟨0, ByteArray.empty, ByteArray.empty, 0⟩] = 1 := by rfl
end Adm
end Go.Proofs.YtnnceaapodgfbaaGreatDoor
