/- Texts of ours joined. -/
import Derived.Test.YtnnceaapodgfbaaGreatDoorAy9
set_option linter.unusedVariables false
set_option linter.unusedSimpArgs false
namespace Go.Proofs.YtnnceaapodgfbaaGreatDoor
namespace Adm
open Go.RowKit
open JP (JV Bs)
theorem flat_plug : Flat PluginR := fun _ _ _ _ h => h
theorem oneR_plug : OneR PluginR := fun _ _ _ h u hu => by
  obtain ⟨h1, _⟩ := h
  rw [h1] at hu
  simp only [List.mem_cons, List.not_mem_nil, or_false] at hu
  rcases hu with rfl | rfl | rfl | rfl <;> rfl
theorem Tryz.infoPlug : (Tryz.prog.info? 64).map (fun i => (i.zero, i.size, i.bytes)) = some (some (.agg #[.int .i64 0, .string ByteArray.empty, .string ByteArray.empty, .int .i64 0]), 4, 48) := by kernel_rfl
theorem exec_appendG {P : Program} {a : Act} {o : Oper} {w w3 : World} {s x : Operand} {t : TypeId} {v xv v' : Value} (ho : o.op = .call { callee := .builtin .append, args := #[s, x], argTypes := #[t, t] }) (hs : a.eval s = v) (hx : a.eval x = xv)
    (hrun : (Builtin.append_ #[t, t] o.type #[v, xv]).run P w = .ok v' w3) : (execOp a.eval o).run P w = .ok (.value v') w3 := by
  simp [execOp, ho, resolve, invoke, builtin, hs, hx, hrun, Result.andThen]
set_option maxRecDepth 100000 in
set_option maxHeartbeats 800000 in
theorem copyPlug_any (v : Value) (l : List GPlugin) (w : World) (h : RowAt PluginR 4 w v l) (hl : l.length ≤ 1048576) :
    Calls Tryz.prog 30 #[v] w fun e w' => ∃ v', e = .returned v' ∧ OwnAt PluginR 4 w' w.heap.size 64 v' l ∧ Below w.heap.size w w' := by
  obtain ⟨i0, hi0, hz0, hz1, hz2⟩ := info_parts Tryz.infoPlug
  have Hrow := Lib.hid h
  clear h
  go_enter Tryz.func30, Tryz.ntmps30
  go_wp2_with (at_builtin; refine wpList_append_ownAt (R := PluginR) (k := 4) (e := 64) (B := w.heap.size) (l := []) (m := l) _ (by rfl) _ _ _ (by rfl) i0 _ 48 Tryz.underlying59 hi0 hz0 hz1 hz2 rfl (by omega) flat_plug oneR_plug _ (by rfl) (OwnAt.nil _) _ (by rfl) Hrow.out (by unfold maxLen; simp; omega) (by simp; omega) (Nat.le_refl _) ?_)
  intro v' w' hv' hg hr _
  have hb : Below w.heap.size w w' := below_of_grown (Below.refl _ _) (Nat.le_refl _) hg hr
  go_wp2_with fail
  go_ret
  exact ⟨_, rfl, by simpa using hv', hb⟩
theorem own_not0 {α : Type} {R : Rd α} {k B : Nat} {w : World} {e t : TypeId} {v : Value} {l : List α} {g : Nat} {cs : Array Value} {fr : Nat × Nat} (h : OwnAt R k w B e v l) (hg : w.heap[g]? = some (.cells cs t fr)) (hne : e ≠ t) (b : Nat) (hb : v.ownBlock = some b) : b ≠ g := by
  intro hbg
  subst hbg
  obtain ⟨css, h1, h2, h3, h4⟩ := h
  rcases h3.2 with ⟨h5, -⟩ | ⟨q, cap, cur, rfl, hB, hh, hr⟩
  · rw [h5] at hb; cases hb
  · injection hb with hb
    subst hb
    rw [hh] at hg
    injection hg with h9
    injection h9 with h10 h11
    exact hne h11
theorem ownX_sb {α : Type} {X : Dom → World → Rd α} {k : Nat} {D D' : Dom} {w w' : World} {e e' : TypeId} {v : Value} {l : List α} (hf : ∀ (cs : List Value) (x : α), X D w w cs x → X D' w' w' cs x) (h : OwnX X k D w e v l) (hs : SameBut e' w w') (hne : e ≠ e') (hd : ∀ b, D b → D' b) : OwnX X k D' w' e v l := by
  obtain ⟨⟨css, h1, h2, h3, h4⟩, hD⟩ := h
  refine ⟨⟨css, h1, h2, ⟨h3.1, ?_⟩, fun j cs y hcs hy => hf _ _ (h4 j cs y hcs hy)⟩, fun b hb => hd b (hD b hb)⟩
  rcases h3.2 with h5 | ⟨q, cap, cur, rfl, hB, hh, hr⟩
  · exact .inl h5
  · exact .inr ⟨q, cap, cur, rfl, hB, hs _ _ _ _ hh hne, hr⟩
theorem objIn_sb {D D' : Dom} {w w' : World} {v1 v2 v3 : Value} {o : GObject} (h : Sto.ObjIn D w v1 v2 v3 o) (hs : SameBut 64 w w') (hd : ∀ b, D b → D' b) : Sto.ObjIn D' w' v1 v2 v3 o :=
  ⟨ownX_sb (D := D) (w := w) (e' := 64) (fun _ _ h => h) h.labels hs (by decide) hd, ownX_sb (D := D) (w := w) (e' := 64) (fun _ _ h => h) h.owners hs (by decide) hd, ownX_sb (D := D) (w := w) (e' := 64) (fun _ _ h => h) h.holds hs (by decide) hd⟩
theorem row_none9 {α : Type} {R : Rd α} {k : Nat} {w : World} {a : Addr} {n c : Nat} {l : List α} (h0 : l.length = 0) (hn : n = 0) (hc : c ≤ maxLen) : RowAt R k w (.slice (some a) n c) l := by
  obtain rfl := List.eq_nil_of_length_eq_zero h0
  subst hn
  exact .inr ⟨a, c, rfl, Nat.zero_le _, hc, fun j x hx => by rw [List.getElem?_nil] at hx; cases hx⟩
theorem row_drop9 {α : Type} {R : Rd α} {k : Nat} {w : World} {a : Addr} {c n : Nat} {l : List α} (hk : 0 < k) (h : RowAt R k w (.slice (some a) n c) l) {m : Nat} (hm : m ≤ n) : RowAt R k w (.slice (some (a.add (m * k))) (n - m) (c - m)) (l.drop m) := by
  obtain ⟨a', c', e1, h1, h2⟩ := h.len
  injection e1 with _ e1 e2
  subst e1; subst e2
  by_cases h0 : l.length = 0
  · exact row_none9 (by rw [List.length_drop]; omega) (by omega) (by omega)
  · obtain ⟨b, o, c', hv, _⟩ := h.form (by omega) hk
    injection hv with e1 e2 e3
    injection e1 with e1
    subst e1
    have := h.cut rfl (i := m) (j := l.length) hm (Nat.le_refl _)
    rw [List.take_length] at this
    have e : (Addr.add ⟨b, o, none⟩ (m * k)) = ⟨b, o + m * k, none⟩ := add_plain' b o (m * k)
    rw [e]
    exact this
theorem row_take9 {α : Type} {R : Rd α} {k : Nat} {w : World} {a : Option Addr} {n c m : Nat} {l : List α} (h : RowAt R k w (.slice a n c) l) (hm : m ≤ l.length) : RowAt R k w (.slice a m c) (l.take m) := by
  rcases h with ⟨h1, rfl⟩ | ⟨b, c', h1, h2, h3, h4⟩
  · cases h1
    obtain rfl : m = 0 := by simpa using hm
    exact .inl ⟨rfl, rfl⟩
  · cases h1
    refine .inr ⟨b, c, by rw [List.length_take, Nat.min_eq_left hm], by rw [List.length_take]; omega, h3, fun j x hx => ?_⟩
    refine h4 j x ?_
    rw [List.getElem?_take] at hx
    split at hx
    · exact hx
    · cases hx
theorem less_at {l : List GPlugin} {j : Nat} {p : GPlugin} {o : GObject} (hp : l[j]? = some p) (h : (runP l o).2.2 = 0) (hk : ¬ p.kind < 3) : runP (l.take j ++ l.drop (j + 1)) o = runP l o := by
  obtain ⟨hj, rfl⟩ := List.getElem?_eq_some_iff.1 hp
  have h1 : l = l.take j ++ l[j] :: l.drop (j + 1) := by rw [← List.drop_eq_getElem_cons hj, List.take_append_drop]
  have h2 := less_law (l := l.take j) (m := l.drop (j + 1)) (p := l[j]) (o := o) (by rw [← h1]; exact h) (by omega)
  rw [← h1] at h2
  exact h2
def Out3 (A : GObject) (u1 u2 u3 : Value) : Value := .tuple #[Sto.objW A u1 u2 u3, .int .i64 0, .int .i64 0]
def OneU (a b c : Value) : Prop := a.oneCell' = true ∧ b.oneCell' = true ∧ c.oneCell' = true
theorem oneU_of {D : Dom} {w : World} {v1 v2 v3 : Value} {o : GObject} (h : Sto.ObjIn D w v1 v2 v3 o) : OneU v1 v2 v3 := ⟨Sto.own_one h.labels.own, Sto.own_one h.owners.own, Sto.own_one h.holds.own⟩
set_option maxRecDepth 100000 in
set_option maxHeartbeats 6400000 in
theorem admitLess_walk (v : Value) (l : List GPlugin) (o : GObject) (v1 v2 v3 : Value) (at_ : Int) (w : World) (h : RowAt PluginR 4 w v l) (hol : RowAt LabelR 2 w v1 o.labels) (hoo : StrAt w v2 o.owners) (hoh : StrAt w v3 o.holds) (hrev : (Lit.int .i64 o.rev).wf = true) (hat : (Lit.int .i64 at_).wf = true) (hbulk : (l.map pluginB).sum + objectB o ≤ 1048576) (hE : Env w) :
    Calls Tryz.prog 8 #[v, Sto.objW o v1 v2 v3, .int .i64 at_] w fun e w' => e = .returned (.bool true) ∧ Below w.heap.size w w' := by
  obtain ⟨hl, hok⟩ := plug_ok (l := l) (by omega)
  have hoO := Sto.okObj_bulk (o := o) (by omega) hrev
  obtain ⟨al, cl, rfl, hlc, hlc2⟩ := h.len
  obtain ⟨a1, c1, rfl, -, -⟩ := hol.len
  obtain ⟨a2, c2, rfl, -, -⟩ := hoo.row.len
  obtain ⟨a3, c3, rfl, -, -⟩ := hoh.row.len
  obtain ⟨n, Hn⟩ : ∃ n, Hid (l.length = n) := ⟨_, Lib.hid rfl⟩
  obtain ⟨n1, Hn1⟩ : ∃ n, Hid (o.labels.length = n) := ⟨_, Lib.hid rfl⟩
  obtain ⟨n2, Hn2⟩ : ∃ n, Hid (o.owners.length = n) := ⟨_, Lib.hid rfl⟩
  obtain ⟨n3, Hn3⟩ : ∃ n, Hid (o.holds.length = n) := ⟨_, Lib.hid rfl⟩
  have hn1 : n1 ≤ 1048576 := by rw [← Hn1.out]; exact hoO.labels.1
  rw [Hn1.out] at hol
  rw [Hn2.out] at hoo
  rw [Hn3.out] at hoh
  rw [Hn.out] at h hl hlc
  rw [Hn.out, Hn1.out, Hn2.out, Hn3.out]
  have HX := Lib.hid h
  have Hok := Lib.hid hok
  have HE := Lib.hid hE
  have HL := Lib.hid hol
  have HOo := Lib.hid hoo
  have HOh := Lib.hid hoh
  have HoO := Lib.hid hoO
  obtain ⟨w1, hw1⟩ : ∃ w1, w1 = w.alloc (.cells #[.string o.okey.kind, .string o.okey.space, .string o.okey.name, .slice a1 n1 c1, .slice a2 n2 c2, .slice a3 n3 c3, .bool o.ending, .string o.uid, .int .i64 o.rev, .string o.doc] 30) := ⟨_, rfl⟩
  obtain ⟨gb, hgb⟩ : ∃ gb, gb = w.heap.size := ⟨_, rfl⟩
  have B1 : Hid (w1.heap[gb]? = some (.cells #[.string o.okey.kind, .string o.okey.space, .string o.okey.name, .slice a1 n1 c1, .slice a2 n2 c2, .slice a3 n3 c3, .bool o.ending, .string o.uid, .int .i64 o.rev, .string o.doc] 30 (0, 0))) := Lib.hid (by rw [hw1, hgb]; exact heap_alloc_new w _)
  have hb1 : Below w.heap.size w w1 := by rw [hw1]; exact (Below.refl _ w).alloc (Nat.le_refl _) _
  have hs1 : w1.heap.size = w.heap.size + 1 := by rw [hw1, World.size_alloc]
  have Hb1 := Lib.hid hb1
  have hwb : w.heap.size ≤ gb := by omega
  have hlb : gb < w1.heap.size := by omega
  have HRn := Lib.hid (run_any (.slice al n cl) l o (.slice a1 n1 c1) (.slice a2 n2 c2) (.slice a3 n3 c3) w1 (h.below stays_plugin hb1) (by rw [Hn.out]; exact hl) hok (hol.below stays_label hb1) (hoo.below hb1) (hoh.below hb1) hoO (hE.below hb1))
  rw [show Sto.objW o (.slice a1 n1 c1) (.slice a2 n2 c2) (.slice a3 n3 c3) = .agg #[.string o.okey.kind, .string o.okey.space, .string o.okey.name, .slice a1 n1 c1, .slice a2 n2 c2, .slice a3 n3 c3, .bool o.ending, .string o.uid, .int .i64 o.rev, .string o.doc] from rfl] at HRn ⊢
  have cb := fun i => cell_block B1.out i
  clear h hok hE hol hoo hoh hoO hb1
  go_enter Tryz.func8, Tryz.ntmps8
  go_upto_region 1 with fail
  rw [← hw1]
  try rw [← hgb]
  clear hw1 hgb
  go_wp2_with fail
  refine HRn.out.mono ?_
  rintro E w2 ⟨u1, u2, u3, rfl, ho2, hb2⟩
  obtain ⟨R, HR⟩ : ∃ R, Hid (runP l o = R) := ⟨_, Lib.hid rfl⟩
  rw [HR.out] at ho2 ⊢
  obtain ⟨A, kk, ce⟩ := R
  dsimp only at ho2 ⊢
  obtain ⟨x1, y1, rfl, -, -⟩ := ho2.labels.own.row.len
  obtain ⟨x2, y2, rfl, -, -⟩ := ho2.owners.own.row.len
  obtain ⟨x3, y3, rfl, -, -⟩ := ho2.holds.own.row.len
  obtain ⟨m1, Hm1⟩ : ∃ n, Hid (A.labels.length = n) := ⟨_, Lib.hid rfl⟩
  obtain ⟨m2, Hm2⟩ : ∃ n, Hid (A.owners.length = n) := ⟨_, Lib.hid rfl⟩
  obtain ⟨m3, Hm3⟩ : ∃ n, Hid (A.holds.length = n) := ⟨_, Lib.hid rfl⟩
  rw [Hm1.out, Hm2.out, Hm3.out] at ho2 ⊢
  have HO2 := Lib.hid ho2
  have B2 := Lib.hid (below_block hb2 B1.out)
  have Hb2 := Lib.hid (Hb1.out.trans (hb2.mono Hb1.out.size))
  have hs2 := hb2.size
  clear ho2 hb2 HRn cb B1 Hb1
  rw [show Sto.objW A (.slice x1 m1 y1) (.slice x2 m2 y2) (.slice x3 m3 y3) = .agg #[.string A.okey.kind, .string A.okey.space, .string A.okey.name, .slice x1 m1 y1, .slice x2 m2 y2, .slice x3 m3 y3, .bool A.ending, .string A.uid, .int .i64 A.rev, .string A.doc] from rfl]
  have h7 := Lib.hid (heap_alloc_new w2 (.cells Sto.noA 30))
  have h4 := Lib.hid ((Below.refl w2.heap.size w2).alloc (Nat.le_refl _) (.cells Sto.noA 30))
  go_wp2_with (refine wpList_store_box (by rfl) _ _ _ (by rfl) w2.heap.size #[.string A.okey.kind, .string A.okey.space, .string A.okey.name, .slice x1 m1 y1, .slice x2 m2 y2, .slice x3 m3 y3, .bool A.ending, .string A.uid, .int .i64 A.rev, .string A.doc] (by rfl) (by rfl) _ _ (by exact h7.out) (by exact Sto.Tryz.sizeObj) (by rfl) (by simp [Value.oneCell']) ?_)
  intro w3 b3 t3
  have hb3 : Below w2.heap.size w2 w3 := t3.below h4.out (Nat.le_refl _)
  have hs3 : w3.heap.size = w2.heap.size + 1 := t3.size.trans (World.size_alloc _ _)
  obtain ⟨ga, hga⟩ : ∃ g, w2.heap.size = g := ⟨_, rfl⟩
  rw [hga] at b3 ⊢
  have XA := Lib.hid b3
  have HO3 : Hid (Sto.ObjIn (fun b => b < ga) w3 (.slice x1 m1 y1) (.slice x2 m2 y2) (.slice x3 m3 y3) A) := Lib.hid (by rw [← hga]; exact HO2.out.agree fun b hb => hb3.block b hb)
  have B3 := Lib.hid (below_block hb3 B2.out)
  have Hb3 := Lib.hid (Hb2.out.trans (hb3.mono Hb2.out.size))
  have hab : gb < ga := by omega
  have hwa : w.heap.size ≤ ga := by omega
  have hla : ga < w3.heap.size := by omega
  clear b3 t3 hb3 h7 h4 HO2 B2 Hb2 hga hs3 hs2
  have cb := fun i => cell_block B3.out i
  have hb34 : Below w3.heap.size w3 (w3.alloc (.cells #[.int .i64 0, .string { data := #[] }, .string { data := #[] }, .int .i64 0] 64)) := (Below.refl _ w3).alloc (Nat.le_refl _) _
  have HCk := Lib.hid (check_plugs (.slice (some ⟨w3.heap.size, 0, none⟩) 1 1) [⟨0, ByteArray.empty, ByteArray.empty, 0⟩] (w3.alloc (.cells #[.int .i64 0, .string { data := #[] }, .string { data := #[] }, .int .i64 0] 64)) (zero_plug _ _ (heap_alloc_new w3 _)) (by decide) (fun p hp => by rw [List.mem_singleton.1 hp]; exact ⟨by decide, by decide⟩) (HE.out.below (Hb3.out.trans (hb34.mono Hb3.out.size))))
  rw [zero_check] at HCk
  go_wp2_with fail
  refine HCk.out.mono ?_
  rintro E w5 ⟨rfl, hb45⟩
  have hb5 : Below w3.heap.size w3 w5 := hb34.trans (hb45.mono hb34.size)
  have XA5 := Lib.hid (below_block hb5 XA.out)
  have B5 := Lib.hid (below_block hb5 B3.out)
  have HO5 : Hid (Sto.ObjIn (fun b => b < ga) w5 (.slice x1 m1 y1) (.slice x2 m2 y2) (.slice x3 m3 y3) A) := Lib.hid (HO3.out.agree fun b hb => hb5.block b (by omega))
  have Hb5 := Lib.hid (Hb3.out.trans (hb5.mono Hb3.out.size))
  have hs5 := hb5.size
  clear hb34 hb45 hb5 HCk cb XA B3 HO3 Hb3
  by_cases hce : ce = 0
  · subst hce
    obtain ⟨hck, st9, -, -, h3⟩ := run_ok (l := l) (o := o) (by rw [HR.out])
    obtain rfl : kk = 0 := by
      rw [HR.out] at h3
      injection h3 with h4 h5
      injection h5
    have hoA : Sto.OkObj A := by
      obtain ⟨st, hgs, hA, -, -⟩ := again_law (l := l) (o := o) (by rw [HR.out])
      rw [HR.out] at hA
      rw [show A = outO o st from hA]
      exact okObj_out HoO.out hgs
    have HoA := Lib.hid hoA
    clear hck h3 hoA
    by_cases hn0 : n = 0
    · subst hn0
      go_wp2_with fail
      go_ret
      exact ⟨rfl, Hb5.out⟩
    · have q0 : ((n : Int) == 0) = false := by rw [beq_eq_false_iff_ne]; omega
      have hri := restOf_in (a := at_) (b := (n : Int)) (by omega)
      have HRt := Lib.hid (fun (w' : World) => rest_any at_ (n : Int) w' (by omega) (by omega))
      obtain ⟨j, hj⟩ : ∃ j : Nat, restOf at_ (n : Int) = j := ⟨(restOf at_ (n : Int)).toNat, by omega⟩
      rw [hj] at HRt hri
      have hjn : j < n := by omega
      clear hj hri
      go_wp2_with fail
      refine (HRt.out w5).mono ?_
      rintro E w6 ⟨rfl, rfl⟩
      clear HRt
      obtain ⟨x, hx⟩ : ∃ x, l[j]? = some x := ⟨l[j]'(by rw [Hn.out]; exact hjn), List.getElem?_eq_getElem _⟩
      obtain ⟨bp, op, c', hva, -, -, hbs, hcell⟩ := HX.out.form (by rw [Hn.out]; omega) (by omega)
      injection hva with e1 e2 e3
      subst e1
      clear e2 e3
      obtain ⟨ds, -, hcc, hds⟩ := hcell j x hx
      obtain ⟨rfl, -, -⟩ := hds
      have f0 := (Hb5.out.cell (p := ⟨bp, _, none⟩) hbs).trans (hcc 0 _ rfl)
      rw [Nat.add_zero] at f0
      have q1 : (0 : Int) ≤ (j : Int) := by omega
      have q2 : (j : Int) < (n : Int) := by omega
      have Hx := Lib.hid hx
      clear hx hcc hcell
      by_cases hk : x.kind < 3
      · go_wp2_with fail
        go_ret
        exact ⟨rfl, Hb5.out⟩
      · have HLs := Lib.hid (less_at (o := o) Hx.out (by rw [HR.out]) hk)
        rw [HR.out] at HLs
        obtain ⟨w3, hw3⟩ : ∃ w3, w5 = w3 := ⟨_, rfl⟩
        rw [hw3] at XA5 B5 HO5 Hb5 f0 hs5 ⊢
        clear hw3
        go_upto_region 9 with fail
        clear f0
        obtain ⟨B, HBd⟩ : ∃ B, Hid (w3.heap.size = B) := ⟨_, Lib.hid rfl⟩
        have q3 : (j : Int) ≤ (cl : Int) := by omega
        have q5 : (j : Int) ≤ (n : Int) := by omega
        have q6 : IntKind.i64.wrap ((j : Int) + 1) = (j : Int) + 1 := IntWalk.i64_in _ (by omega)
        have q7 : (0 : Int) ≤ (j : Int) + 1 := by omega
        have q8 : (j : Int) + 1 ≤ (n : Int) := by omega
        have q9 : (j : Int) + 1 ≤ (cl : Int) := by omega
        obtain ⟨i0, hi0, hz0, hz1, hz2⟩ := info_parts Tryz.infoPlug
        have hlenm : (l.take j ++ l.drop (j + 1)).length + 1 = n := by rw [List.length_append, List.length_take, List.length_drop, Hn.out]; omega
        have Hokm : Hid (∀ p ∈ l.take j ++ l.drop (j + 1), OkPlugin p) := Lib.hid fun p hp => by
          rcases List.mem_append.1 hp with h9 | h9
          · exact Hok.out p (List.mem_of_mem_take h9)
          · exact Hok.out p (List.mem_of_mem_drop h9)
        refine wp_region_relX 18 (fun w' => Below w3.heap.size w3 w') (fun i wa wb => if i = 8 then SameBut 64 wa wb ∧ Below w3.heap.size wa wb else if i = 16 then (∃ q c1 c2, Touch q wa wb ∧ wa.heap[q]? = some (.cells c1 30 (0, 0)) ∧ wb.heap[q]? = some (.cells c2 30 (0, 0)) ∧ c2.size = 10 ∧ w3.heap.size ≤ q) else Below wa.heap.size wa wb) (fun ii U w' => match ii with
          | 0 => U 0 = .slice (some ⟨bp, op, none⟩) n cl
          | 1 => U 1 = .int .i64 (j : Int)
          | 2 => U 2 = .slice (some ⟨bp, op, none⟩) j cl
          | 3 => OwnAt PluginR 4 w' w3.heap.size 64 (U 3) (l.take j)
          | 4 => U 4 = .slice (some ⟨bp, op, none⟩) n cl
          | 5 => U 5 = .int .i64 (j : Int)
          | 6 => U 6 = .int .i64 ((j : Int) + 1)
          | 7 => RowAt PluginR 4 w (U 7) (l.drop (j + 1))
          | 8 => OwnAt PluginR 4 w' w3.heap.size 64 (U 8) (l.take j ++ l.drop (j + 1))
          | 9 => U 9 = .agg #[.string o.okey.kind, .string o.okey.space, .string o.okey.name, .slice a1 n1 c1, .slice a2 n2 c2, .slice a3 n3 c3, .bool o.ending, .string o.uid, .int .i64 o.rev, .string o.doc]
          | 10 => ∃ u1 u2 u3, U 10 = Out3 A u1 u2 u3 ∧ Sto.ObjIn (fun b => b < w'.heap.size) w' u1 u2 u3 A
          | 11 => ∃ u1 u2 u3, U 10 = Out3 A u1 u2 u3 ∧ U 11 = Out3 A u1 u2 u3 ∧ OneU u1 u2 u3
          | 12 => ∃ u1 u2 u3, U 11 = Out3 A u1 u2 u3 ∧ U 12 = Sto.objW A u1 u2 u3 ∧ OneU u1 u2 u3
          | 13 => U 13 = .int .i64 0
          | 14 => U 14 = .int .i64 0
          | 15 => ∃ b c, U 15 = .pointer (some ⟨b, 0, none⟩) ∧ w3.heap.size ≤ b ∧ w'.heap[b]? = some (.cells c 30 (0, 0)) ∧ c.size = 10
          | 16 => ∃ b c, U 15 = .pointer (some ⟨b, 0, none⟩) ∧ w3.heap.size ≤ b ∧ U 12 = .agg c ∧ w'.heap[b]? = some (.cells c 30 (0, 0))
          | 17 => U 17 = .int .i64 0
          | _ => True)
          (fun | 2 => [0, 1] | 3 => [2] | 6 => [5] | 7 => [4, 6] | 8 => [3, 7] | 10 => [8, 9] | 11 => [10] | 12 => [11] | 13 => [11] | 14 => [11] | 16 => [12, 15] | 17 => [13] | _ => [])
          (fun | 3 => [8] | _ => []) (by kernel_rfl) (by kernel_rfl) (Below.refl _ _).drew ?_ ?_ ⟨?_, ?_, ?_, ?_, ?_, ?_, ?_, ?_, ?_, ?_, ?_, ?_, ?_, ?_, ?_, ?_, ?_, ?_, trivial⟩ ?_
        · intro ii wa wb hk hi
          by_cases h8 : ii = 8
          · rw [if_pos h8] at hk
            exact hi.trans hk.2
          · rw [if_neg h8] at hk
            by_cases h16 : ii = 16
            · rw [if_pos h16] at hk
              obtain ⟨q, d1, d2, ht, hq, hq2, hc2, hge⟩ := hk
              exact ht.below hi hge
            · rw [if_neg h16] at hk
              exact hi.trans (hk.mono hi.size)
        · intro ii jj U wa wb hji hkl hk hi h
          by_cases h8 : ii = 8
          · subst h8
            have hsm := hk.1
            have hsz := hk.2.size
            match jj, hji, hkl, h with
            | 0, hji, hkl, h => exact h
            | 1, hji, hkl, h => exact h
            | 2, hji, hkl, h => exact h
            | 3, hji, hkl, h => exact absurd (by simp) hkl
            | 4, hji, hkl, h => exact h
            | 5, hji, hkl, h => exact h
            | 6, hji, hkl, h => exact h
            | 7, hji, hkl, h => exact h
            | 8, hji, hkl, h => exact absurd rfl hji
            | 9, hji, hkl, h => exact h
            | 10, hji, hkl, h => exact (by obtain ⟨u1, u2, u3, h1, h2⟩ := h; exact ⟨u1, u2, u3, h1, objIn_sb h2 hsm fun b hb => Nat.lt_of_lt_of_le hb hsz⟩)
            | 11, hji, hkl, h => exact h
            | 12, hji, hkl, h => exact h
            | 13, hji, hkl, h => exact h
            | 14, hji, hkl, h => exact h
            | 15, hji, hkl, h => exact (by obtain ⟨b, c, h1, h2, h3, h4⟩ := h; exact ⟨b, c, h1, h2, hsm _ _ _ _ h3 (by decide), h4⟩)
            | 16, hji, hkl, h => exact (by obtain ⟨b, c, h1, h2, h3, h4⟩ := h; exact ⟨b, c, h1, h2, h3, hsm _ _ _ _ h4 (by decide)⟩)
            | 17, hji, hkl, h => exact h
            | _ + 18, _, _, h => trivial
          · rw [if_neg h8] at hk
            by_cases h16 : ii = 16
            · rw [if_pos h16] at hk
              subst h16
              obtain ⟨q, d1, c2, ht, hq, hq2, hc2, hge⟩ := hk
              match jj, hji, hkl, h with
              | 0, hji, hkl, h => exact h
              | 1, hji, hkl, h => exact h
              | 2, hji, hkl, h => exact h
              | 3, hji, hkl, h => exact OwnAt.touch flat_plug h ht (fun p hp => own_not0 h hq (by decide) p hp)
              | 4, hji, hkl, h => exact h
              | 5, hji, hkl, h => exact h
              | 6, hji, hkl, h => exact h
              | 7, hji, hkl, h => exact h
              | 8, hji, hkl, h => exact OwnAt.touch flat_plug h ht (fun p hp => own_not0 h hq (by decide) p hp)
              | 9, hji, hkl, h => exact h
              | 10, hji, hkl, h => exact (by obtain ⟨u1, u2, u3, h1, h2⟩ := h; exact ⟨u1, u2, u3, h1, ((objIn_off h2 hq).agree fun b hb => ht.other b hb.2).mono fun b hb => by rw [ht.size]; exact hb.1⟩)
              | 11, hji, hkl, h => exact h
              | 12, hji, hkl, h => exact h
              | 13, hji, hkl, h => exact h
              | 14, hji, hkl, h => exact h
              | 15, hji, hkl, h => exact (by obtain ⟨b, c, h1, h2, h3, h4⟩ := h; exact (if e : b = q then ⟨b, c2, h1, h2, by rw [e]; exact hq2, hc2⟩ else ⟨b, c, h1, h2, ht.block h3 e, h4⟩))
              | 16, hji, hkl, h => exact absurd rfl hji
              | 17, hji, hkl, h => exact h
              | _ + 18, _, _, h => trivial
            · rw [if_neg h16] at hk
              match jj, h with
              | 0, h => exact h
              | 1, h => exact h
              | 2, h => exact h
              | 3, h => exact OwnAt.below flat_plug.stays h hk
              | 4, h => exact h
              | 5, h => exact h
              | 6, h => exact h
              | 7, h => exact h
              | 8, h => exact OwnAt.below flat_plug.stays h hk
              | 9, h => exact h
              | 10, h => exact (by obtain ⟨u1, u2, u3, h1, h2⟩ := h; exact ⟨u1, u2, u3, h1, (h2.agree fun b hb => hk.block b hb).mono fun b hb => Nat.lt_of_lt_of_le hb hk.size⟩)
              | 11, h => exact h
              | 12, h => exact h
              | 13, h => exact h
              | 14, h => exact h
              | 15, h => exact (by obtain ⟨b, c, h1, h2, h3, h4⟩ := h; exact ⟨b, c, h1, h2, below_block hk h3, h4⟩)
              | 16, h => exact (by obtain ⟨b, c, h1, h2, h3, h4⟩ := h; exact ⟨b, c, h1, h2, h3, below_block hk h4⟩)
              | 17, h => exact h
              | _ + 18, h => trivial
        · intro y w' hb hd
          have hbw : Below w.heap.size w w' := Hb5.out.trans (hb.mono Hb5.out.size)
          refine owesK_here (.slice (some ⟨bp, op, none⟩) n cl) (by rfl) ?_ rfl (else_of (by decide) (else_of (by decide) (Below.refl _ _)))
          simp only [putAll, List.take_succ_cons, List.take_zero]
          go_simp
        · intro y w' hb hd
          have hbw : Below w.heap.size w w' := Hb5.out.trans (hb.mono Hb5.out.size)
          refine owesK_here (.int .i64 (j : Int)) (by rfl) ?_ rfl (else_of (by decide) (else_of (by decide) (Below.refl _ _)))
          simp only [putAll, List.take_succ_cons, List.take_zero]
          go_simp
        · intro y w' hb hd
          have hbw : Below w.heap.size w w' := Hb5.out.trans (hb.mono Hb5.out.size)
          have h0 : y 0 = .slice (some ⟨bp, op, none⟩) n cl := hd 0 (by simp)
          have h1 : y 1 = .int .i64 (j : Int) := hd 1 (by simp)
          refine owesK_here (.slice (some ⟨bp, op, none⟩) j cl) (by rfl) ?_ rfl (else_of (by decide) (else_of (by decide) (Below.refl _ _)))
          simp only [putAll, List.take_succ_cons, List.take_zero]
          go_simp
        · intro y w' hb hd
          have hbw : Below w.heap.size w w' := Hb5.out.trans (hb.mono Hb5.out.size)
          have h2 : y 2 = .slice (some ⟨bp, op, none⟩) j cl := hd 2 (by simp)
          refine owesK_call 30 #[.slice (some ⟨bp, op, none⟩) j cl] (by rfl) ?_ ((copyPlug_any _ (l.take j) w' ((row_take9 HX.out (m := j) (by rw [Hn.out]; omega)).below stays_plugin hbw) (by rw [List.length_take]; omega)).mono ?_)
          · simp only [putAll, List.take_succ_cons, List.take_zero]
            go_simp
          · rintro _ w4 ⟨v3, rfl, ho, hb3⟩
            exact ⟨v3, rfl, ho.mono hb.size, else_of (by decide) (else_of (by decide) hb3)⟩
        · intro y w' hb hd
          have hbw : Below w.heap.size w w' := Hb5.out.trans (hb.mono Hb5.out.size)
          refine owesK_here (.slice (some ⟨bp, op, none⟩) n cl) (by rfl) ?_ rfl (else_of (by decide) (else_of (by decide) (Below.refl _ _)))
          simp only [putAll, List.take_succ_cons, List.take_zero]
          go_simp
        · intro y w' hb hd
          have hbw : Below w.heap.size w w' := Hb5.out.trans (hb.mono Hb5.out.size)
          refine owesK_here (.int .i64 (j : Int)) (by rfl) ?_ rfl (else_of (by decide) (else_of (by decide) (Below.refl _ _)))
          simp only [putAll, List.take_succ_cons, List.take_zero]
          go_simp
        · intro y w' hb hd
          have hbw : Below w.heap.size w w' := Hb5.out.trans (hb.mono Hb5.out.size)
          have h5 : y 5 = .int .i64 (j : Int) := hd 5 (by simp)
          refine owesK_here (.int .i64 ((j : Int) + 1)) (by rfl) ?_ rfl (else_of (by decide) (else_of (by decide) (Below.refl _ _)))
          simp only [putAll, List.take_succ_cons, List.take_zero]
          go_simp
        · intro y w' hb hd
          have hbw : Below w.heap.size w w' := Hb5.out.trans (hb.mono Hb5.out.size)
          have h4 : y 4 = .slice (some ⟨bp, op, none⟩) n cl := hd 4 (by simp)
          have h6 : y 6 = .int .i64 ((j : Int) + 1) := hd 6 (by simp)
          have z0   := row_drop9 (by decide) HX.out (m := j + 1) (by omega)
          by_cases hcj : cl - (j + 1) = 0
          · have e1 : n = j + 1 := by omega
            have e2 : cl = j + 1 := by omega
            refine owesK_here (.slice (some ⟨bp, op, none⟩) 0 0) (by rfl) ?_ (row_none9 (by rw [List.length_drop, Hn.out]; omega) rfl (by decide)) (else_of (by decide) (else_of (by decide) (Below.refl _ _)))
            subst e2
            simp only [putAll, List.take_succ_cons, List.take_zero]
            go_simp
          · have q0' : ¬ ((cl : Int) - ((j : Int) + 1) = 0) := by omega
            have q0'' : ((cl : Int) - ((j : Int) + 1) == 0) = false := by rw [beq_eq_false_iff_ne]; omega
            refine owesK_here (.slice (some (Addr.add ⟨bp, op, none⟩ ((j + 1) * 4))) (n - (j + 1)) (cl - (j + 1))) (by rfl) ?_ z0 (else_of (by decide) (else_of (by decide) (Below.refl _ _)))
            simp only [putAll, List.take_succ_cons, List.take_zero]
            go_simp
            all_goals omega
        · intro y w' hb hd
          have hbw : Below w.heap.size w w' := Hb5.out.trans (hb.mono Hb5.out.size)
          have h3 : OwnAt PluginR 4 w' w3.heap.size 64 (y 3) (l.take j) := hd 3 (by simp)
          have h7 : RowAt PluginR 4 w (y 7) (l.drop (j + 1)) := hd 7 (by simp)
          obtain ⟨v', w4, hrun, r1, r2, r3, _⟩ := run_append_ownAt (P := Tryz.prog) w' 59 59 i0 _ 48 Tryz.underlying59 hi0 hz0 hz1 hz2 rfl (by omega) flat_plug oneR_plug (y 3) h3 (y 7) (m := l.drop (j + 1)) (h7.below stays_plugin hbw) (by unfold maxLen; rw [List.length_take, List.length_drop]; have := Hn.out; omega) (by rw [List.length_take, List.length_drop]; have := Hn.out; omega) hb.size
          refine owesK_makes (w' := w4) v' (by rfl) ?_ r1 (then_of rfl ⟨h3.sameBut r2, below_of_grown (Below.refl _ _) hb.size r2 r3⟩)
          simp only [putAll, List.take_succ_cons, List.take_zero]
          try simp only [Act.put, List.setIfInBounds_toArray, List.set_cons_zero, List.set_cons_succ]
          exact exec_appendG (by rfl) (by rfl) (by rfl) hrun
        · intro y w' hb hd
          have hbw : Below w.heap.size w w' := Hb5.out.trans (hb.mono Hb5.out.size)
          have cb := fun i => cell_block (below_block hb B5.out) i
          refine owesK_here (.agg #[.string o.okey.kind, .string o.okey.space, .string o.okey.name, .slice a1 n1 c1, .slice a2 n2 c2, .slice a3 n3 c3, .bool o.ending, .string o.uid, .int .i64 o.rev, .string o.doc]) (by rfl) ?_ rfl (else_of (by decide) (else_of (by decide) (Below.refl _ _)))
          simp only [putAll, List.take_succ_cons, List.take_zero]
          go_simp
        · intro y w' hb hd
          have hbw : Below w.heap.size w w' := Hb5.out.trans (hb.mono Hb5.out.size)
          have h8 : OwnAt PluginR 4 w' w3.heap.size 64 (y 8) (l.take j ++ l.drop (j + 1)) := hd 8 (by simp)
          have h9 : y 9 = .agg #[.string o.okey.kind, .string o.okey.space, .string o.okey.name, .slice a1 n1 c1, .slice a2 n2 c2, .slice a3 n3 c3, .bool o.ending, .string o.uid, .int .i64 o.rev, .string o.doc] := hd 9 (by simp)
          have hrn := run_any (y 8) (l.take j ++ l.drop (j + 1)) o (.slice a1 n1 c1) (.slice a2 n2 c2) (.slice a3 n3 c3) w' h8.row (by omega) Hokm.out (HL.out.below stays_label hbw) (HOo.out.below hbw) (HOh.out.below hbw) HoO.out (HE.out.below hbw)
          rw [HLs.out] at hrn
          refine owesK_call 26 #[y 8, .agg #[.string o.okey.kind, .string o.okey.space, .string o.okey.name, .slice a1 n1 c1, .slice a2 n2 c2, .slice a3 n3 c3, .bool o.ending, .string o.uid, .int .i64 o.rev, .string o.doc]] (by rfl) ?_ (hrn.mono ?_)
          · simp only [putAll, List.take_succ_cons, List.take_zero]
            rw [h9]
            go_simp
          · rintro _ w4 ⟨u1, u2, u3, rfl, ho, hb3⟩
            exact ⟨_, rfl, ⟨u1, u2, u3, rfl, ho⟩, else_of (by decide) (else_of (by decide) hb3)⟩
        · intro y w' hb hd
          have hbw : Below w.heap.size w w' := Hb5.out.trans (hb.mono Hb5.out.size)
          obtain ⟨u1, u2, u3, h1, h2⟩ : ∃ u1 u2 u3, y 10 = Out3 A u1 u2 u3 ∧ Sto.ObjIn (fun b => b < w'.heap.size) w' u1 u2 u3 A := hd 10 (by simp)
          refine owesK_here (Out3 A u1 u2 u3) (by rfl) ?_ ⟨u1, u2, u3, h1, rfl, oneU_of h2⟩ (else_of (by decide) (else_of (by decide) (Below.refl _ _)))
          simp only [putAll, List.take_succ_cons, List.take_zero]
          go_simp
        · intro y w' hb hd
          have hbw : Below w.heap.size w w' := Hb5.out.trans (hb.mono Hb5.out.size)
          obtain ⟨u1, u2, u3, -, h1, h2⟩ : ∃ u1 u2 u3, y 10 = Out3 A u1 u2 u3 ∧ y 11 = Out3 A u1 u2 u3 ∧ OneU u1 u2 u3 := hd 11 (by simp)
          unfold Out3 at h1
          refine owesK_here (Sto.objW A u1 u2 u3) (by rfl) ?_ ⟨u1, u2, u3, h1, rfl, h2⟩ (else_of (by decide) (else_of (by decide) (Below.refl _ _)))
          simp only [putAll, List.take_succ_cons, List.take_zero]
          go_simp
        · intro y w' hb hd
          have hbw : Below w.heap.size w w' := Hb5.out.trans (hb.mono Hb5.out.size)
          obtain ⟨u1, u2, u3, -, h1, h2⟩ : ∃ u1 u2 u3, y 10 = Out3 A u1 u2 u3 ∧ y 11 = Out3 A u1 u2 u3 ∧ OneU u1 u2 u3 := hd 11 (by simp)
          unfold Out3 at h1
          refine owesK_here (.int .i64 0) (by rfl) ?_ rfl (else_of (by decide) (else_of (by decide) (Below.refl _ _)))
          simp only [putAll, List.take_succ_cons, List.take_zero]
          go_simp
        · intro y w' hb hd
          have hbw : Below w.heap.size w w' := Hb5.out.trans (hb.mono Hb5.out.size)
          obtain ⟨u1, u2, u3, -, h1, h2⟩ : ∃ u1 u2 u3, y 10 = Out3 A u1 u2 u3 ∧ y 11 = Out3 A u1 u2 u3 ∧ OneU u1 u2 u3 := hd 11 (by simp)
          unfold Out3 at h1
          refine owesK_here (.int .i64 0) (by rfl) ?_ rfl (else_of (by decide) (else_of (by decide) (Below.refl _ _)))
          simp only [putAll, List.take_succ_cons, List.take_zero]
          go_simp
        · intro y w' hb hd
          have hbw : Below w.heap.size w w' := Hb5.out.trans (hb.mono Hb5.out.size)
          refine owesK_makes (w' := w'.alloc (.cells Sto.noA 30)) (.pointer (some ⟨w'.heap.size, 0, none⟩)) (by rfl) ?_ ⟨w'.heap.size, _, rfl, (by have h9 : w3.heap.size ≤ w'.heap.size := hb.size; exact h9), heap_alloc_new w' _, rfl⟩ (else_of (by decide) (else_of (by decide) ((Below.refl _ _).alloc (Nat.le_refl _) _)))
          simp only [putAll, List.take_succ_cons, List.take_zero]
          go_simp
          rfl
        · intro y w' hb hd
          have hbw : Below w.heap.size w w' := Hb5.out.trans (hb.mono Hb5.out.size)
          obtain ⟨u1, u2, u3, -, g12, g1v⟩ : ∃ u1 u2 u3, y 11 = Out3 A u1 u2 u3 ∧ y 12 = Sto.objW A u1 u2 u3 ∧ OneU u1 u2 u3 := hd 12 (by simp)
          obtain ⟨b, c, g15, h2, h3, h4⟩ : ∃ b c, y 15 = .pointer (some ⟨b, 0, none⟩) ∧ w3.heap.size ≤ b ∧ w'.heap[b]? = some (.cells c 30 (0, 0)) ∧ c.size = 10 := hd 15 (by simp)
          refine owesK_store (by rfl) _ _ _ (by rfl) b (Sto.objCs A u1 u2 u3).toArray ?_ ?_ _ c h3 (by exact Sto.Tryz.sizeObj) (by rw [h4]; rfl) ?_ ?_
          · simp only [putAll, List.take_succ_cons, List.take_zero]
            go_simp
          · simp only [putAll, List.take_succ_cons, List.take_zero]
            go_simp
            rfl
          · simp [Sto.objCs, Value.oneCell']
            exact ⟨g1v.1, g1v.2.1, g1v.2.2⟩
          · intro W9 hW9 ht9
            exact ⟨⟨b, _, g15, h2, g12, hW9⟩, else_of (by decide) (then_of rfl ⟨b, c, _, ht9, h3, hW9, rfl, h2⟩)⟩
        · intro y w' hb hd
          have hbw : Below w.heap.size w w' := Hb5.out.trans (hb.mono Hb5.out.size)
          have h13 : y 13 = .int .i64 0 := hd 13 (by simp)
          refine owesK_here (.int .i64 0) (by rfl) ?_ rfl (else_of (by decide) (else_of (by decide) (Below.refl _ _)))
          simp only [putAll, List.take_succ_cons, List.take_zero]
          go_simp
        · intro y w9 hb9 hd9
          obtain ⟨u1, u2, u3, g10, ho9⟩ : ∃ u1 u2 u3, y 10 = Out3 A u1 u2 u3 ∧ Sto.ObjIn (fun b => b < w9.heap.size) w9 u1 u2 u3 A := hd9 10 (by omega) rfl
          obtain ⟨s1, s2, s3, g10', g11, -⟩ : ∃ u1 u2 u3, y 10 = Out3 A u1 u2 u3 ∧ y 11 = Out3 A u1 u2 u3 ∧ OneU u1 u2 u3 := hd9 11 (by omega) rfl
          obtain ⟨t1, t2, t3, g11', g12, -⟩ : ∃ u1 u2 u3, y 11 = Out3 A u1 u2 u3 ∧ y 12 = Sto.objW A u1 u2 u3 ∧ OneU u1 u2 u3 := hd9 12 (by omega) rfl
          obtain ⟨b, c, g15, hge, g12', hbox⟩ : ∃ b c, y 15 = .pointer (some ⟨b, 0, none⟩) ∧ w3.heap.size ≤ b ∧ y 12 = .agg c ∧ w9.heap[b]? = some (.cells c 30 (0, 0)) := hd9 16 (by omega) rfl
          have g13 : y 13 = .int .i64 0 := hd9 13 (by omega) rfl
          have g14 : y 14 = .int .i64 0 := hd9 14 (by omega) rfl
          rw [g10] at g10'
          rw [g11] at g11'
          rw [g12] at g12'
          simp only [Out3, Sto.objW, objV, Value.tuple.injEq, Value.agg.injEq, Array.mk.injEq, List.cons.injEq, and_true, true_and] at g10' g11' g12'
          obtain ⟨rfl, rfl, rfl⟩ := g10'
          obtain ⟨rfl, rfl, rfl⟩ := g11'
          subst g12'
          obtain ⟨z1, f1, rfl, -, -⟩ := ho9.labels.own.row.len
          obtain ⟨z2, f2, rfl, -, -⟩ := ho9.owners.own.row.len
          obtain ⟨z3, f3, rfl, -, -⟩ := ho9.holds.own.row.len
          rw [Hm1.out, Hm2.out, Hm3.out] at ho9 hbox
          have HO9 := Lib.hid ho9
          have XB9 := Lib.hid hbox
          have XA9 := Lib.hid (below_block hb9 XA5.out)
          have HA9 : Hid (Sto.ObjIn (fun b => b < ga) w9 (.slice x1 m1 y1) (.slice x2 m2 y2) (.slice x3 m3 y3) A) := Lib.hid (HO5.out.agree fun b hb => hb9.block b (by have := heap_lt9 XA5.out; omega))
          have Hb9 := Lib.hid (Hb5.out.trans (hb9.mono Hb5.out.size))
          have HSm := Lib.hid (Sto.sameObj_yes A (.slice x1 m1 y1) (.slice x2 m2 y2) (.slice x3 m3 y3) (.slice z1 m1 f1) (.slice z2 m2 f2) (.slice z3 m3 f3) w9 HA9.out.rowL HA9.out.rowO HA9.out.rowH HO9.out.rowL HO9.out.rowO HO9.out.rowH HoA.out)
          rw [show Sto.objW A (.slice x1 m1 y1) (.slice x2 m2 y2) (.slice x3 m3 y3) = .agg #[.string A.okey.kind, .string A.okey.space, .string A.okey.name, .slice x1 m1 y1, .slice x2 m2 y2, .slice x3 m3 y3, .bool A.ending, .string A.uid, .int .i64 A.rev, .string A.doc] from rfl, show Sto.objW A (.slice z1 m1 f1) (.slice z2 m2 f2) (.slice z3 m3 f3) = .agg #[.string A.okey.kind, .string A.okey.space, .string A.okey.name, .slice z1 m1 f1, .slice z2 m2 f2, .slice z3 m3 f3, .bool A.ending, .string A.uid, .int .i64 A.rev, .string A.doc] from rfl] at HSm
          have cx := fun i => cell_block XA9.out i
          have cz := fun i => cell_block XB9.out i
          clear hd9 ho9 hbox hb9 g10 g11 g12
          simp only [putAll, List.take_succ_cons, List.take_zero, List.drop_succ_cons, List.drop_zero]
          go_wp2_with fail
          refine HSm.out.mono ?_
          rintro E w10 ⟨rfl, hb10⟩
          have HF := Lib.hid (Hb9.out.trans (hb10.mono Hb9.out.size))
          clear hb10 HSm cx cz
          go_wp2_with fail
          go_ret
          exact ⟨rfl, HF.out⟩
  · have q1 : (ce != 0) = true := bne_iff_ne.2 hce
    have q2 : (ce == 0) = false := by rw [beq_eq_false_iff_ne]; exact hce
    obtain ⟨hA, hk8⟩ := run_bad (l := l) (o := o) (by rw [HR.out]; exact hce)
    rw [HR.out] at hA hk8
    obtain rfl : A = Sto.noObj := hA
    have HSm := Lib.hid (Sto.sameObj_yes Sto.noObj (.slice x1 m1 y1) (.slice x2 m2 y2) (.slice x3 m3 y3) Sto.nilS Sto.nilS Sto.nilS w5 HO5.out.rowL HO5.out.rowO HO5.out.rowH (Sto.objIn_no w5).rowL (Sto.objIn_no w5).rowO (Sto.objIn_no w5).rowH noObj_ok)
    rw [show Sto.objW Sto.noObj (.slice x1 m1 y1) (.slice x2 m2 y2) (.slice x3 m3 y3) = .agg #[.string Sto.noObj.okey.kind, .string Sto.noObj.okey.space, .string Sto.noObj.okey.name, .slice x1 m1 y1, .slice x2 m2 y2, .slice x3 m3 y3, .bool Sto.noObj.ending, .string Sto.noObj.uid, .int .i64 Sto.noObj.rev, .string Sto.noObj.doc] from rfl, show Sto.objW Sto.noObj Sto.nilS Sto.nilS Sto.nilS = .agg #[.string { data := #[] }, .string { data := #[] }, .string { data := #[] }, .slice none 0 0, .slice none 0 0, .slice none 0 0, .bool false, .string { data := #[] }, .int .i64 0, .string { data := #[] }] from rfl] at HSm
    have cx := fun i => cell_block XA5.out i
    clear hk8 hce
    go_wp2_with fail
    refine HSm.out.mono ?_
    rintro E w6 ⟨rfl, hb6⟩
    have HF := Lib.hid (Hb5.out.trans (hb6.mono Hb5.out.size))
    clear hb6 HSm
    go_wp2_with fail
    go_ret
    exact ⟨rfl, HF.out⟩
end Adm
end Go.Proofs.YtnnceaapodgfbaaGreatDoor
