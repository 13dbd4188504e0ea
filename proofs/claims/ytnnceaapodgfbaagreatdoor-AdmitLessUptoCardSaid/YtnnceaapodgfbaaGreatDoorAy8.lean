/- Texts of ours joined. -/
import Derived.Test.YtnnceaapodgfbaaGreatDoorShelf
import Derived.WalkSpells
import Derived.BigQuiet
import Derived.WideKeyEntry
import Derived.Lib.ItoaLen
import Derived.Test.YtnnceaapodgfbaaGreatDoorAy7
set_option linter.unusedVariables false
set_option linter.unusedSimpArgs false
namespace Go.Proofs.YtnnceaapodgfbaaGreatDoor
open Go.RowKit
open JP (JV Bs)
theorem at_any {n : Nat} {v sv : Value} {x : JV} {l : List Bs} {w : World} (h : JvAt n [] w v x) (hz : (JP.text x).length ≤ 1000000) (hs : StrAt w sv (l.map mkB)) (hl : ∀ s ∈ l, s.length ≤ 1048576) (hll : l.length ≤ 1048576) (ht : TabOK w) (he : ErrOK w) :
    Calls Tryz.prog 250 #[v, sv] w (ChildAt (JP.atW x l) w) := by
  obtain ⟨R0, hR⟩ : ∃ R, JP.atW x l = R := ⟨_, rfl⟩
  rw [hR]
  have HR := Lib.hid hR
  obtain ⟨a1, c1, hu, _, _⟩ := hs.len
  rw [List.length_map] at hu
  subst hu
  have Hs := Lib.hid hs
  have H := Lib.hid h
  have Hz := Lib.hid hz
  have Hl := Lib.hid hl
  have HT := Lib.hid ht
  have HE := Lib.hid he
  clear hR h hs hz hl ht he
  obtain ⟨ln, hln⟩ : ∃ ln, l.length = ln := ⟨_, rfl⟩
  rw [hln] at hll
  have Hln := Lib.hid hln
  rw [hln]
  have Hs : Hid (StrAt w (.slice a1 ln c1) (l.map mkB)) := Lib.hid (by rw [← hln]; exact Hs.out)
  clear hln
  go_enter Tryz.func250, Tryz.ntmps250
  go_wp2_with fail
  go_loopg [12, 0] ln (fun k u12 u0 wr => ∃ (i m : Nat) (y : JV), i + k = ln ∧ u12 = .int .i64 (i : Int) ∧ Hid (JvAt m [] wr u0 y) ∧ Hid (JP.atW y (l.drop i) = R0) ∧ Hid ((JP.text y).length ≤ 1000000) ∧ Hid (Below w.heap.size w wr))
  case atStart => exact ⟨0, n, x, by omega, rfl, H, Lib.hid (by rw [List.drop_zero]; exact HR.out), Hz, Lib.hid (Below.refl _ _)⟩
  case round =>
    obtain ⟨i, m, y, hik, rfl, HJ, HA, Hy, HB⟩ := hrel
    cases gk with
    | zero =>
      have q1 : ¬ (i : Int) < (ln : Int) := by omega
      have Hfin : Hid (R0 = some y) := Lib.hid (by rw [← HA.out, List.drop_of_length_le (by rw [Hln.out]; omega)]; rw [JP.atW])
      go_wp2_with fail
      go_ret2
      exact ChildAt.yes Hfin.out HJ.out HB.out
    | succ k =>
      have hil : i < ln := by omega
      have hil2 : i < l.length := by rw [Hln.out]; exact hil
      obtain ⟨s, hs⟩ : ∃ s, l[i]? = some s := ⟨_, List.getElem?_eq_getElem hil2⟩
      obtain ⟨b1, o1, c', hv, _, _, hbs1, hcell1⟩ := Hs.out.row.form (by rw [List.length_map]; omega) (by omega)
      injection hv with u1 u2 u3
      subst u1
      clear u2 u3
      obtain ⟨ds1, _, hcc1, hR1⟩ := hcell1 i (mkB s) (by rw [List.getElem?_map, hs]; rfl)
      obtain rfl : ds1 = [.string (mkB s)] := hR1
      have e0 : wr.cell? ⟨b1, o1 + i, none⟩ = some (.string (mkB s)) := (HB.out.cell (p := ⟨b1, _, none⟩) hbs1).trans (by simpa using hcc1 0 _ rfl)
      have q0 : (0 : Int) ≤ (i : Int) := by omega
      have q1 : (i : Int) < (ln : Int) := by omega
      have hdrop : l.drop i = s :: l.drop (i + 1) := by
        obtain ⟨g1, g2⟩ := List.getElem?_eq_some_iff.1 hs
        rw [List.drop_eq_getElem_cons g1, g2]
      have hstep : (JP.child y s).bind (fun c => JP.atW c (l.drop (i + 1))) = R0 := by rw [← HA.out, hdrop, JP.atW]
      have HC := Lib.hid (child_any (s := s) HJ.out Hy.out (Hl.out s (List.mem_of_getElem? hs)) (HT.out.below HB.out) (HE.out.below HB.out))
      have Hstep := Lib.hid hstep
      clear hs hcell1 hcc1 hdrop hstep
      cases hc : JP.child y s with
      | none =>
        rw [hc] at HC
        have Hfin : Hid (R0 = none) := Lib.hid (by rw [← Hstep.out, hc]; rfl)
        clear hc
        go_wp2_with fail
        refine HC.out.mono ?_
        rintro E w1 ⟨u, rfl, _, hb⟩
        have HB2 := Lib.hid (HB.out.trans (hb.mono HB.out.size))
        clear hb
        go_wp2_with fail
        go_ret2
        exact ChildAt.no Hfin.out HB2.out
      | some c =>
        rw [hc] at HC
        have Hst : Hid (JP.atW c (l.drop (i + 1)) = R0) := Lib.hid (by rw [← Hstep.out, hc]; rfl)
        have Hcl : Hid ((JP.text c).length ≤ 1000000) := Lib.hid (by have := (JP.child_len hc).1; have := Hy.out; omega)
        clear hc
        go_wp2_with fail
        refine HC.out.mono ?_
        rintro E w1 ⟨u, rfl, hu, hb⟩
        obtain ⟨m2, hm2⟩ := hu c rfl
        have HB2 := Lib.hid (HB.out.trans (hb.mono HB.out.size))
        have HJ2 := Lib.hid hm2
        clear hb hu hm2
        go_wp2_with fail
        go_roundg k
        case measure => omega
        case rel => exact ⟨i + 1, m2, c, by omega, by go_num, HJ2, Hst, Hcl, HB2⟩
end Go.Proofs.YtnnceaapodgfbaaGreatDoor
namespace Go.Proofs.YtnnceaapodgfbaaGreatDoor
namespace Adm
open Go.RowKit
open JP (JV Bs)
def OffG (gq : Nat) (w : World) : Dom := fun b => b < w.heap.size ∧ b ≠ gq
def guestCs (o : GObject) (v1 v2 v3 dv : Value) : Array Value := #[.string o.okey.kind, .string o.okey.space, .string o.okey.name, v1, v2, v3, .bool o.ending, .string o.uid, .int .i64 o.rev, .string o.doc, dv]
def GuestIn (w : World) (gq : Nat) (o : GObject) (x : JV) (v1 v2 v3 dv : Value) : Prop :=
  w.heap[gq]? = some (.cells (guestCs o v1 v2 v3 dv) 127 (0, 0)) ∧ Sto.ObjIn (OffG gq w) w v1 v2 v3 o ∧ ∃ n, JvAt n [gq] w dv x
def GuestAt (w : World) (gq : Nat) (o : GObject) (x : JV) : Prop := ∃ v1 v2 v3 dv, GuestIn w gq o x v1 v2 v3 dv
theorem GuestIn.below {w w' : World} {gq : Nat} {o : GObject} {x : JV} {v1 v2 v3 dv : Value} (h : GuestIn w gq o x v1 v2 v3 dv) (hb : Below w.heap.size w w') : GuestIn w' gq o x v1 v2 v3 dv :=
  ⟨below_block hb h.1, (h.2.1.agree fun b h9 => hb.block b h9.1).mono fun b h9 => ⟨Nat.lt_of_lt_of_le h9.1 hb.size, h9.2⟩, let ⟨n, hj⟩ := h.2.2; ⟨n, hj.below hb⟩⟩
theorem GuestAt.below {w w' : World} {gq : Nat} {o : GObject} {x : JV} (h : GuestAt w gq o x) (hb : Below w.heap.size w w') : GuestAt w' gq o x :=
  let ⟨v1, v2, v3, dv, h1⟩ := h; ⟨v1, v2, v3, dv, h1.below hb⟩
theorem GuestIn.turn {w w' : World} {gq : Nat} {o o' : GObject} {x x' : JV} {v1 v2 v3 dv u1 dv' : Value} (h : GuestIn w gq o x v1 v2 v3 dv) (t : Touch gq w w') (hb : w'.heap[gq]? = some (.cells (guestCs o' u1 v2 v3 dv') 127 (0, 0)))
    (hl : OwnX Sto.LabF 2 (OffG gq w) w 66 u1 o'.labels) (ho : o'.owners = o.owners) (hh : o'.holds = o.holds) {n : Nat} (hj : JvAt n [gq] w dv' x') : GuestIn w' gq o' x' u1 v2 v3 dv' := by
  have hag : Agree (OffG gq w) w w' := fun b h9 => t.other b h9.2
  have hmo : ∀ b, OffG gq w b → OffG gq w' b := fun b h9 => ⟨by rw [t.size]; exact h9.1, h9.2⟩
  refine ⟨hb, ⟨(hl.agree Sto.famLab hag).mono Sto.famLab hmo, ?_, ?_⟩, n, hj.keepT (KeepT.but (But.touch t) (List.mem_singleton.2 rfl))⟩
  · rw [ho]; exact (h.2.1.owners.agree Sto.famStr hag).mono Sto.famStr hmo
  · rw [hh]; exact (h.2.1.holds.agree Sto.famStr hag).mono Sto.famStr hmo
theorem map_mkB {l : List ByteArray} {k : List Bs} (h : l.map (·.data.toList) = k) : l = k.map mkB := by
  rw [← h, List.map_map]
  have h9 : (mkB ∘ fun x : ByteArray => x.data.toList) = id := by funext x; exact mkB_of x
  rw [h9, List.map_id]
set_option maxRecDepth 100000 in
set_option maxHeartbeats 1600000 in
theorem label_any {w : World} {gq : Nat} {o : GObject} {x : JV} (h : GuestAt w gq o x) (hr : RiseK o.labels) (hl : o.labels.length ≤ 4194304) (k : ByteArray) :
    Calls Tryz.prog 237 #[.pointer (some ⟨gq, 0, none⟩), .string k] w fun e w' => e = .returned (.tuple #[.int .i64 (posK o.labels k : Nat), .bool (hasK o.labels k)]) ∧ Below w.heap.size w w' ∧ (hasK o.labels k = true → (o.labels.find? fun y => decide (y.key = k)) = o.labels[posK o.labels k]?) := by
  obtain ⟨v1, v2, v3, dv, hb, hob, -⟩ := h
  obtain ⟨a1, c1, rfl, -, -⟩ := hob.rowL.len
  have hrow := hob.rowL
  obtain ⟨n1, Hn1⟩ : ∃ n, Hid (o.labels.length = n) := ⟨_, Lib.hid rfl⟩
  rw [Hn1.out] at hrow hb hl
  have HS := Lib.hid (search_lab hrow Hn1.out.symm (by omega) hr k)
  have HR := Lib.hid hr
  have cc := fun i => cell_block hb i
  unfold guestCs at cc
  clear hb hob hrow hr
  go_enter Tryz.func237, Tryz.ntmps237
  go_wp2_with fail
  refine HS.out.mono ?_
  rintro E w2 ⟨hb2, i, is, rfl, hst⟩
  obtain ⟨e1, e2, e3⟩ := hst.is HR.out
  subst e1
  subst e2
  have H3 := Lib.hid e3
  have HB := Lib.hid hb2
  clear e3 hb2 hst HS cc
  go_wp2_with fail
  go_ret2
  exact ⟨rfl, HB.out, H3.out⟩
def WayAt (p : GPlugin) (x : JV) (w : World) (e : Ending) (w' : World) : Prop :=
  ∃ sv u, e = .returned (.tuple #[sv, u, .bool (JP.atW x (stepsOf p).2).isSome]) ∧ StrAt w' sv ((stepsOf p).2.map mkB) ∧ (∀ c, JP.atW x (stepsOf p).2 = some c → ∃ k, JvAt k [] w' u c) ∧ Below w.heap.size w w'
set_option maxRecDepth 100000 in
set_option maxHeartbeats 1600000 in
theorem way_any {w : World} {gq : Nat} {o : GObject} {x : JV} (h : GuestAt w gq o x) (hz : (JP.text x).length ≤ 1000000) (p : GPlugin) (hp : OkPlugin p) (hs : ∀ s ∈ (stepsOf p).2, s.length ≤ 1048576) (hsl : (stepsOf p).2.length ≤ 10) (hE : Env w) :
    Calls Tryz.prog 247 #[.pointer (some ⟨gq, 0, none⟩), plugW p] w (WayAt p x w) := by
  obtain ⟨W, hW⟩ : ∃ W, W = w.alloc (.cells #[.int .i64 p.kind, .string p.key, .string p.val, .int .i64 p.most] 64) := ⟨_, rfl⟩
  obtain ⟨gp, hgp⟩ : ∃ g, g = w.heap.size := ⟨_, rfl⟩
  have BP := Lib.hid (show W.heap[gp]? = some (.cells #[.int .i64 p.kind, .string p.key, .string p.val, .int .i64 p.most] 64 (0, 0)) by rw [hW, hgp]; exact heap_alloc_new w _)
  have HB1 : Hid (Below w.heap.size w W) := Lib.hid (by rw [hW]; exact (Below.refl _ w).alloc (Nat.le_refl _) _)
  have HE := Lib.hid (hE.below HB1.out)
  have HG := Lib.hid (h.below HB1.out)
  obtain ⟨mx, hmx⟩ := HE.out.2.2
  have HSt := Lib.hid (ptrSteps_any p.key mx W (by have := hp.key; omega) hmx)
  rw [show stepsP p.key.data.toList = stepsOf p from rfl] at HSt
  obtain ⟨R, HR⟩ : ∃ y, Hid (stepsOf p = y) := ⟨_, Lib.hid rfl⟩
  have HP : Hid (∀ e w', (∃ sv u, e = .returned (.tuple #[sv, u, .bool (JP.atW x R.2).isSome]) ∧ StrAt w' sv (R.2.map mkB) ∧ (∀ c, JP.atW x R.2 = some c → ∃ k, JvAt k [] w' u c) ∧ Below w.heap.size w w') → WayAt p x w e w') := Lib.hid fun e w' h9 => by
    rw [← HR.out] at h9; exact h9
  rw [HR.out] at HSt hs hsl
  have Hs := Lib.hid hs
  have Hsl := Lib.hid hsl
  have Hz := Lib.hid hz
  have cp := fun i => cell_block BP.out i
  unfold plugW
  clear h hE hmx hp hs hsl hz
  go_enter Tryz.func247, Tryz.ntmps247
  go_upto_region 1 with fail
  rw [← hW]
  try rw [← hgp]
  clear hW hgp
  go_wp2_with fail
  refine HSt.out.mono ?_
  rintro E w2 ⟨v2, rfl, ⟨sl, hsl2, hsm⟩, hb2⟩
  rw [map_mkB hsm] at hsl2
  have HSl := Lib.hid hsl2
  have HB2 := Lib.hid (HB1.out.trans (hb2.mono HB1.out.size))
  have HG2 := Lib.hid (HG.out.below hb2)
  obtain ⟨v1, v22, v3, dv, hbx, -, n, hj⟩ := HG2.out
  have HJ : Hid (JvAt n [] w2 dv x) := Lib.hid (hj.fresh (fun b hb => by cases hb))
  have HA := Lib.hid (at_any HJ.out Hz.out HSl.out Hs.out (by have := Hsl.out; omega) (HE.out.1.below hb2) (HE.out.2.1.below hb2))
  have cc := fun i => cell_block hbx i
  unfold guestCs at cc
  clear hb2 hbx hj hsl2 hsm HSt cp
  go_wp2_with fail
  refine HA.out.mono ?_
  rintro E w3 ⟨u, rfl, hu, hb3⟩
  have HB3 := Lib.hid (HB2.out.trans (hb3.mono HB2.out.size))
  have HSl3 := Lib.hid (HSl.out.below hb3)
  have HU := Lib.hid hu
  clear hb3 hu HA cc
  go_wp2_with fail
  go_ret3
  exact HP.out _ _ ⟨_, _, rfl, HSl3.out, HU.out, HB3.out⟩
end Adm
end Go.Proofs.YtnnceaapodgfbaaGreatDoor
namespace Go.Proofs.YtnnceaapodgfbaaGreatDoor
namespace Adm
open Go.RowKit
theorem run_copy_cells2 {P : Program} (w : World) (dT sT ty elem : TypeId) (b o dLen dCap : Nat) (a : Addr) (sLen sCap m : Nat) (cs : List Value)
    (hu : P.underlying dT = some (.slice elem)) (hs : (P.info? elem).map (·.size) = some 2) (hm : m = Nat.min sLen dLen) (hn : cs.length = m * 2)
    (hsrc : ∀ j v, cs[j]? = some v → w.cell? (a.add j) = some v) (hc : ∀ j, j < cs.length → (w.cell? ⟨b, o + j, none⟩).isSome = true) (hf : ∀ j, j < cs.length → w.frozen? ⟨b, o + j, none⟩ = false) (h1 : ∀ v ∈ cs, v.oneCell' = true) :
    (Builtin.copy_ #[dT, sT] ty #[.slice (some ⟨b, o, none⟩) dLen dCap, .slice (some a) sLen sCap]).run P w = .ok (goInt m) (w.setCells b o cs) := by
  have hl := run_loadCells_list (P := P) w a cs hsrc
  have hst := run_storeCells_cells (P := P) b o cs 0 w (by simpa using hc) (by simpa using hf) h1
  rw [hn] at hl
  cases hq : P.info? elem with
  | none => simp [hq] at hs
  | some i =>
    have hi : i.size = 2 := by simpa [hq] using hs
    simp [Builtin.copy_, run_underlying hu, Builtin.lenOf, Builtin.firstCells, sizeOf, typeInfo, hq, hi, ← hm, hl, hst]
def labF (L : List GLabel) : List Value := (L.map fun x => [Value.string x.key, Value.string x.val]).flatten
theorem labF_len : ∀ L : List GLabel, (labF L).length = L.length * 2
  | [] => rfl
  | a :: r => by
    have h := labF_len r
    show (Value.string a.key :: Value.string a.val :: labF r).length = (r.length + 1) * 2
    rw [List.length_cons, List.length_cons, h]
    omega
theorem labF_append (a b : List GLabel) : labF (a ++ b) = labF a ++ labF b := by
  unfold labF
  rw [List.map_append, List.flatten_append]
theorem labF_take : ∀ (k : Nat) (L : List GLabel), labF (L.take k) = (labF L).take (k * 2)
  | 0, L => by rw [List.take_zero, Nat.zero_mul, List.take_zero]; rfl
  | k + 1, [] => by simp [labF]
  | k + 1, a :: r => by
    show Value.string a.key :: Value.string a.val :: labF (r.take k) = (Value.string a.key :: Value.string a.val :: labF r).take ((k + 1) * 2)
    rw [labF_take k r, show (k + 1) * 2 = k * 2 + 1 + 1 by omega, List.take_succ_cons, List.take_succ_cons]
theorem labF_drop : ∀ (k : Nat) (L : List GLabel), labF (L.drop k) = (labF L).drop (k * 2)
  | 0, L => by rw [List.drop_zero, Nat.zero_mul, List.drop_zero]
  | k + 1, [] => by simp [labF]
  | k + 1, a :: r => by
    show labF (r.drop k) = (Value.string a.key :: Value.string a.val :: labF r).drop ((k + 1) * 2)
    rw [labF_drop k r, show (k + 1) * 2 = k * 2 + 1 + 1 by omega, List.drop_succ_cons, List.drop_succ_cons]
theorem labF_ones (L : List GLabel) : ∀ u ∈ labF L, u.oneCell' = true := fun u hu => by
  unfold labF at hu
  rw [List.mem_flatten] at hu
  obtain ⟨l, h1, h2⟩ := hu
  obtain ⟨x, -, rfl⟩ := List.mem_map.1 h1
  simp only [List.mem_cons, List.not_mem_nil, or_false] at h2
  rcases h2 with rfl | rfl <;> rfl
theorem labF_put {L : List GLabel} {k : Nat} (hk : k ≤ L.length) (x : GLabel) (j : Nat) : (labF (L.take k ++ x :: L.drop k))[j]? = if j < k * 2 then (labF L)[j]? else if j = k * 2 then some (.string x.key) else if j = k * 2 + 1 then some (.string x.val) else (labF L)[j - 2]? := by
  have hl := labF_len L
  have e : labF (L.take k ++ x :: L.drop k) = (labF L).take (k * 2) ++ (Value.string x.key :: Value.string x.val :: (labF L).drop (k * 2)) := by
    rw [labF_append, labF_take]
    show _ ++ (Value.string x.key :: Value.string x.val :: labF (L.drop k)) = _
    rw [labF_drop]
  rw [e]
  have hlt : ((labF L).take (k * 2)).length = k * 2 := by rw [List.length_take]; omega
  by_cases h1 : j < k * 2
  · rw [if_pos h1, List.getElem?_append_left (by omega), List.getElem?_take_of_lt h1]
  · rw [if_neg h1, List.getElem?_append_right (by omega), hlt]
    by_cases h2 : j = k * 2
    · rw [if_pos h2, h2, Nat.sub_self]; rfl
    · rw [if_neg h2]
      by_cases h3 : j = k * 2 + 1
      · rw [if_pos h3, h3, show k * 2 + 1 - k * 2 = 1 by omega]; rfl
      · rw [if_neg h3, show j - k * 2 = j - k * 2 - 2 + 1 + 1 by omega, List.getElem?_cons_succ, List.getElem?_cons_succ, List.getElem?_drop]
        congr 1
        omega
theorem lab_row {w : World} {B : Nat} {e : TypeId} {v : Value} {L : List GLabel} (h : OwnAt LabelR 2 w B e v L) : w.ownsRow B e 2 v L.length (labF L) := by
  obtain ⟨css, h1, h2, h3, h4⟩ := h
  have : css = L.map fun x => [Value.string x.key, Value.string x.val] := by
    apply List.ext_getElem?
    intro j
    rw [List.getElem?_map]
    cases hx : L[j]? with
    | none =>
      have := List.getElem?_eq_none_iff.1 hx
      rw [List.getElem?_eq_none (by omega)]; rfl
    | some x =>
      have hj := (List.getElem?_eq_some_iff.1 hx).1
      have hc : css[j]? = some (css[j]'(by omega)) := List.getElem?_eq_getElem _
      have := h4 j _ x hc hx
      rw [hc]
      exact congrArg some this
  rw [this] at h3
  exact h3
theorem row_lab {w : World} {B : Nat} {e : TypeId} {v : Value} {L : List GLabel} (h : w.ownsRow B e 2 v L.length (labF L)) : OwnAt LabelR 2 w B e v L :=
  ⟨L.map fun x : GLabel => [Value.string x.key, Value.string x.val], List.length_map .., fun cs hcs => (by obtain ⟨x, -, rfl⟩ := List.mem_map.1 hcs; rfl), (show w.ownsRow B e 2 v L.length (labF L) from h), fun j cs x hcs hx => by
    rw [List.getElem?_map, hx] at hcs
    exact (Option.some.inj hcs).symm⟩
theorem lab_of_cells {w : World} {B g c : Nat} {e : TypeId} {cur : Array Value} {L : List GLabel} (hh : w.heap[g]? = some (.cells cur e (0, 0))) (hB : B ≤ g) (hc : L.length ≤ c) (hm : c ≤ maxLen) (hz : cur.size = c * 2) (hcell : ∀ (j : Nat) (x : Value), (labF L)[j]? = some x → cur[j]? = some x) :
    OwnAt LabelR 2 w B e (.slice (some ⟨g, 0, none⟩) L.length c) L := by
  refine row_lab ⟨labF_len L, .inr ⟨g, c, cur, rfl, hB, hh, hc, hm, hz, ?_⟩⟩
  have hl := labF_len L
  apply List.ext_getElem?
  intro j
  by_cases hj : j < (labF L).length
  · have hx : (labF L)[j]? = some (labF L)[j] := List.getElem?_eq_getElem hj
    rw [List.getElem?_take_of_lt (by omega), Array.getElem?_toList, hcell j _ hx, hx]
  · rw [List.getElem?_eq_none (by simp; omega), List.getElem?_eq_none (by omega)]
theorem put_len9 {L : List GLabel} {k : Nat} (hk : k ≤ L.length) (x : GLabel) : (L.take k ++ x :: L.drop k).length = L.length + 1 := by
  rw [List.length_append, List.length_cons, List.length_take, List.length_drop]; omega
set_option maxRecDepth 100000 in
set_option maxHeartbeats 3200000 in
theorem insLab_any (v : Value) (L : List GLabel) (B k : Nat) (x : GLabel) (g2 : Nat) (w : World) (h : OwnAt LabelR 2 w B 66 v L) (hk : k ≤ L.length) (h2 : w.heap[g2]? = some (.cells #[.string x.key, .string x.val] 66 (0, 0))) (hBw : B ≤ w.heap.size) (hl : L.length ≤ 1048576) :
    Calls Tryz.prog 239 #[v, .int .i64 (k : Int), .slice (some ⟨g2, 0, none⟩) 1 1] w fun e w' => ∃ v', e = .returned v' ∧ OwnAt LabelR 2 w' B 66 v' (L.take k ++ x :: L.drop k) ∧ Below B w w' := by
  obtain ⟨i0, hi0, hz0, hz1, hz2⟩ := info_parts Tryz.infoLabel
  have mixed : Tryz.prog.follows .mixedOrders = true := by kernel_rfl
  have hsz : (Tryz.prog.info? 66).map (·.size) = some 2 := by rw [hi0]; simp [hz1]
  have ho := lab_row h
  have h1c := labF_ones L
  obtain ⟨xs, hxs⟩ : ∃ xs, labF L = xs := ⟨_, rfl⟩
  have hxl := labF_len L
  have hput := labF_put hk x
  rw [hxs] at ho h1c hxl hput
  have hvs : ∀ (j : Nat) (u : Value), [Value.string x.key, Value.string x.val][j]? = some u → w.cell? ⟨g2, 0 + j, none⟩ = some u := fun j u hu => by
    rw [Nat.zero_add, cell_block h2]
    simpa using hu
  have h1v : ∀ u ∈ [Value.string x.key, Value.string x.val], u.oneCell' = true := fun u hu => by
    simp only [List.mem_cons, List.not_mem_nil, or_false] at hu
    rcases hu with rfl | rfl <;> rfl
  have hg2w : g2 < w.heap.size := by
    rcases Nat.lt_or_ge g2 w.heap.size with h9 | h9
    · exact h9
    · rw [Array.getElem?_eq_none h9] at h2; cases h2
  rcases Nat.lt_or_ge k L.length with hkl | hkl
  · rcases ho.2 with ⟨_, h0⟩ | ⟨g, c, cur, rfl, hB, hh, hlc, hc, hcs, htk⟩
    · omega
    · have hcur : ∀ (j : Nat) (y : Value), xs[j]? = some y → cur[j]? = some y := fun j y hy => by
        have := ho.cells (g := g) rfl j y hy
        rw [add_plain', Nat.zero_add, cell_block hh] at this
        exact this
      have hcell : ∀ (j : Nat) (u : Value), xs[j]? = some u → w.cell? ⟨g, j, none⟩ = some u := fun j u hu => by rw [cell_block hh]; exact hcur j u hu
      have hgw : g < w.heap.size := by
        rcases Nat.lt_or_ge g w.heap.size with h9 | h9
        · exact h9
        · rw [Array.getElem?_eq_none h9] at hh; cases hh
      obtain ⟨n, hn⟩ : ∃ n, L.length = n := ⟨_, rfl⟩
      have hpl := put_len9 hk x
      rw [hn] at hlc hkl hk hl hxl hpl ⊢
      have hdl : (xs.drop (k * 2)).length = (n - k) * 2 := by rw [List.length_drop, hxl]; omega
      have q1 : ¬ ((k : Int) = (n : Int)) := by omega
      have q1b : ((k : Int) == (n : Int)) = false := by rw [beq_eq_false_iff_ne]; omega
      have w1 : IntKind.i64.wrap ((k : Int) + 1) = (k : Int) + 1 := by rw [IntKind.wrap_i64]; omega
      have w2 : IntKind.i64.wrap ((n : Int) + 1) = (n : Int) + 1 := by rw [IntKind.wrap_i64]; omega
      have w3 : IntKind.i64.wrap ((n : Int) + 1 - (k : Int)) = (n : Int) + 1 - (k : Int) := by rw [IntKind.wrap_i64]; omega
      have p1 : (0 : Int) ≤ (k : Int) + 1 := by omega
      have p2 : k ≤ n := by omega
      have p3 : ((k : Int) + 1).toNat = k + 1 := by omega
      have p4 : (k : Int) ≤ (n : Int) := by omega
      have p5 : ¬ (c = k) := by omega
      have p7 : (k : Int) ≤ (n : Int) + 1 := by omega
      have p8 : k + 1 ≤ n + 1 := by omega
      have p9 : ((n : Int) + 1).toNat = n + 1 := by omega
      rcases Nat.lt_or_ge n c with hroom | hroom
      · -- there is room: the cells behind move up
        have hng : g ≠ g2 := fun e => by
          rw [e, h2] at hh
          cases hh
          have h9 : (2 : Nat) = c * 2 := hcs
          omega
        have p6 : ¬ (c = k + 1) := by omega
        have q2 : ¬ ((c : Int) < (n : Int) + 1) := by omega
        have hsome : ∀ j, j < c * 2 → (w.cell? ⟨g, j, none⟩).isSome = true := fun j hj => by rw [cell_block hh]; simp; omega
        have hfz : ∀ j, w.frozen? ⟨g, j, none⟩ = false := fun j => free_block hh j
        have hov : ∀ lb cb, (callFunc 242 #[.slice (some ⟨g2, 0, none⟩) 1 1, .slice (some ⟨g, (k + 1) * 2, none⟩) lb cb]).run Tryz.prog w = .ok (.value (.bool false)) w := fun lb cb => by
          rw [run_callFunc_extern Tryz.func242 (by kernel_rfl) (by kernel_rfl) (by kernel_rfl) (e := Extern.SlicesOverlaps.overlaps #[27, 27] #[4]) (by kernel_rfl),
            Lib.run_overlaps_apart w 27 4 66 Tryz.underlying27 2 Tryz.sizeOf66 ⟨g2, 0, none⟩ ⟨g, (k + 1) * 2, none⟩ 1 1 lb cb (fun e => hng e.symm) 66 66 2 (c * 2) (by unfold World.shape?; rw [h2]; rfl) (by unfold World.shape?; rw [hh]; simp [hcs]) (by omega) (free_block h2 0) (free_block h2 2)]
          rfl
        have hcp1 : ∀ ty dc sc, (Builtin.copy_ #[27, 27] ty #[.slice (some ⟨g, (k + 1) * 2, none⟩) (n - k) dc, .slice (some ⟨g, k * 2, none⟩) (n + 1 - k) sc]).run Tryz.prog w.drew = .ok (goInt ((n - k : Nat) : Int)) (w.drew.setCells g ((k + 1) * 2) (xs.drop (k * 2))) := fun ty dc sc =>
          run_copy_cells2 w.drew _ _ ty 66 g ((k + 1) * 2) (n - k) dc ⟨g, k * 2, none⟩ (n + 1 - k) sc (n - k) (xs.drop (k * 2)) Tryz.underlying27 hsz (by simp only [Nat.min_def]; split <;> omega) hdl
            (fun j u hj => by rw [Addr.add_lit]; exact hcell (k * 2 + j) u (by rwa [List.getElem?_drop] at hj))
            (fun j hj => hsome _ (by omega)) (fun j _ => hfz _) (fun u hu => h1c u (List.mem_of_mem_drop hu))
        obtain ⟨cur1, r1, r2, r3, r4, r6, r5⟩ := setCells_row g 66 (xs.drop (k * 2)) ((k + 1) * 2) cur w.drew hh (by rw [hdl]; omega)
        obtain ⟨W1, hW1⟩ : ∃ W1, W1 = w.drew.setCells g ((k + 1) * 2) (xs.drop (k * 2)) := ⟨_, rfl⟩
        rw [← hW1] at hcp1 r1 r5
        have hcp2 : ∀ (W : World), (∀ p, W.cell? p = W1.cell? p) → (∀ p, W.frozen? p = W1.frozen? p) → ∀ ty dc, (Builtin.copy_ #[27, 27] ty #[.slice (some ⟨g, k * 2, none⟩) (n + 1 - k) dc, .slice (some ⟨g2, 0, none⟩) 1 1]).run Tryz.prog W = .ok (goInt 1) (W.setCells g (k * 2) [Value.string x.key, Value.string x.val]) := fun W hWc hWf ty dc =>
          run_copy_cells2 W _ _ ty 66 g (k * 2) (n + 1 - k) dc ⟨g2, 0, none⟩ 1 1 1 [Value.string x.key, Value.string x.val] Tryz.underlying27 hsz (by simp only [Nat.min_def]; split <;> omega) rfl
            (fun j u hj => by
              rw [Addr.add_lit, hWc, hW1, setCells_cell g _ _ _ _ (fun e => hng e.symm)]
              exact hvs j u hj)
            (fun j hj => by rw [hWc, cell_block r1]; simp at hj ⊢; omega) (fun j _ => by rw [hWf]; exact free_block r1 _) h1v
        obtain ⟨cur2, s1, s2, s3, s4, s6, s5⟩ := setCells_row g 66 [Value.string x.key, Value.string x.val] (k * 2) cur1 W1 r1 (by simp; omega)
        have hown : OwnAt LabelR 2 (W1.setCells g (k * 2) [Value.string x.key, Value.string x.val]) B 66 (.slice (some ⟨g, 0, none⟩) (n + 1) c) (L.take k ++ x :: L.drop k) := by
          have hI := lab_of_cells (L := L.take k ++ x :: L.drop k) (c := c) (B := B) s1 hB (by rw [hpl]; omega) hc (by rw [s2, r2, hcs]) (fun j y hj => by
            rw [hput j] at hj
            by_cases h5 : j < k * 2
            · rw [if_pos h5] at hj
              rw [s3 j h5, r3 j (by omega)]
              exact hcur j y hj
            · rw [if_neg h5] at hj
              by_cases h6 : j = k * 2
              · rw [if_pos h6] at hj
                cases hj
                subst h6
                have := s4 0 _ rfl
                rwa [Nat.add_zero] at this
              · rw [if_neg h6] at hj
                by_cases h7 : j = k * 2 + 1
                · rw [if_pos h7] at hj
                  cases hj
                  subst h7
                  exact s4 1 _ rfl
                · rw [if_neg h7] at hj
                  rw [s6 j (by simp; omega)]
                  have := r4 (j - (k + 1) * 2) y (by rw [List.getElem?_drop, show k * 2 + (j - (k + 1) * 2) = j - 2 by omega]; exact hj)
                  rwa [show (k + 1) * 2 + (j - (k + 1) * 2) = j by omega] at this)
          rw [hpl] at hI
          exact hI
        have hbel : Below B w (W1.setCells g (k * 2) [Value.string x.key, Value.string x.val]) := Touch.below s5 (Touch.below r5 (Below.refl _ w).drew hB) hB
        have Hown := Lib.hid hown
        have Hbel := Lib.hid hbel
        clear hW1
        clear hown hbel hcell hcur hsome hfz r1 r2 r3 r4 r5 r6 s1 s2 s3 s4 s5 s6 ho h1c hvs h1v hdl htk hcs hxs hxl hput hpl
        go_enter Tryz.func239, Tryz.ntmps239
        go_wp2_with (simp only [hov])
        go_region_law_o (refine step_copy_runI rfl _ _ 27 27 rfl _ _ (by simp [Act.eval, Act.put]) (by simp [Act.eval, Act.put]) (hcp1 _ _ _) ?_)
        go_wp2_with (at_builtin; refine wpList_copy_runI _ rfl _ _ 27 27 rfl _ _ rfl rfl (hcp2 _ (fun _ => rfl) (fun _ => rfl) _ _) ?_)
        go_ret
        exact ⟨_, rfl, Hown.out, Hbel.out⟩
      · -- no room: a new row
        obtain rfl : c = n := by omega
        have p6 : (c : Int) < (c : Int) + 1 := by omega
        have hkk : (c : Int) + 1 - (k : Int) = ((c + 1 - k : Nat) : Int) := by omega
        have hik : k + (c + 1 - k) = c + 1 := by omega
        obtain ⟨G, hG⟩ : ∃ G, G = grownCap w (c + 1) c 66 := ⟨_, rfl⟩
        have hold : (Builtin.firstCells i0.size k (.slice (some ⟨g, 0, none⟩) k c)).run Tryz.prog w.drew = .ok (xs.take (k * 2)).toArray w.drew := by
          rw [hz1]
          exact run_firstCells_some w.drew 2 k ⟨g, 0, none⟩ k c (xs.take (k * 2)) (by rw [List.length_take]; omega) (fun j u hj => by
            rw [Addr.add_lit, Nat.zero_add]
            rw [List.getElem?_take] at hj
            split at hj
            · exact hcell j u hj
            · cases hj)
        obtain ⟨ROW, hROW⟩ : ∃ ROW : Array Value, ROW = (xs.take (k * 2)).toArray ++ Builtin.zeroCells (.agg #[.string ⟨#[]⟩, .string ⟨#[]⟩] : Value).cells (c + 1 - k) ++ Builtin.zeroCells (.agg #[.string ⟨#[]⟩, .string ⟨#[]⟩] : Value).cells (G - (c + 1)) := ⟨_, rfl⟩
        have hrz : ∀ ty, (Builtin.append_ #[27, 3] ty #[.slice (some ⟨g, 0, none⟩) k c, .int .i64 ((c : Int) + 1 - (k : Int))]).run Tryz.prog w = .ok (.slice (some ⟨w.heap.size, 0, none⟩) (c + 1) G) (w.drew.alloc (.cells ROW 66)) := fun ty => by
          have h9 := Lib.run_append_grow_zeros w 27 3 ty 66 i0 _ .i64 .i64 Tryz.underlying27 Tryz.underlying3 hi0 hz0 (some ⟨g, 0, none⟩) k c (xs.take (k * 2)) hold (c + 1 - k) (by omega) (by omega) (by omega) (by omega) (by rw [hz2]; omega) (by rw [hz2, hik]; exact growslice_fits (by omega) (by omega))
          rw [hik] at h9
          rw [hkk, hROW, hG]
          exact h9
        have hGn : c + 1 ≤ G := by rw [hG]; exact grownCap_ge w _ _ _
        have hGm : G ≤ maxLen := by rw [hG]; exact grownCap_le_maxLen w (c + 1) c 66 (by unfold maxLen; omega)
        have hG63 : G ≤ 9223372036854775807 := by unfold maxLen at hGm; omega
        have hRs : ROW.size = G * 2 := by rw [hROW, Array.size_append, Array.size_append, size_zeroCells, size_zeroCells]; simp [Value.cells]; omega
        have hlow : ∀ (j : Nat) (y : Value), j < k * 2 → xs[j]? = some y → ROW[j]? = some y := fun j y hj hy => by
          rw [hROW, Array.append_assoc, Array.getElem?_append_left (by simp; omega)]
          simp only [List.getElem?_toArray]
          rw [List.getElem?_take_of_lt hj]
          exact hy
        obtain ⟨W1, hW1⟩ : ∃ W1, W1 = w.drew.alloc (.cells ROW 66) := ⟨_, rfl⟩
        rw [← hW1] at hrz
        have b1 : W1.heap[w.heap.size]? = some (.cells ROW 66 (0, 0)) := by rw [hW1]; exact heap_alloc_new w.drew _
        have hb1 : Below w.heap.size w W1 := by rw [hW1]; exact (Below.refl _ w).drew.alloc (Nat.le_refl _) _
        have hcpA : ∀ (W : World), (∀ p, W.cell? p = W1.cell? p) → (∀ p, W.frozen? p = W1.frozen? p) → ∀ ty dc, (Builtin.copy_ #[27, 27] ty #[.slice (some ⟨w.heap.size, k * 2, none⟩) (c + 1 - k) dc, .slice (some ⟨g2, 0, none⟩) 1 1]).run Tryz.prog W = .ok (goInt 1) (W.setCells w.heap.size (k * 2) [Value.string x.key, Value.string x.val]) := fun W hWc hWf ty dc =>
          run_copy_cells2 W _ _ ty 66 w.heap.size (k * 2) (c + 1 - k) dc ⟨g2, 0, none⟩ 1 1 1 [Value.string x.key, Value.string x.val] Tryz.underlying27 hsz (by simp only [Nat.min_def]; split <;> omega) rfl
            (fun j u hj => by rw [Addr.add_lit, hWc]; exact (hb1.cell (p := ⟨g2, 0 + j, none⟩) hg2w).trans (hvs j u hj))
            (fun j hj => by rw [hWc, cell_block b1]; simp at hj ⊢; omega) (fun j _ => by rw [hWf]; exact free_block b1 _) h1v
        obtain ⟨cur1, r1, r2, r3, r4, r6, r5⟩ := setCells_row w.heap.size 66 [Value.string x.key, Value.string x.val] (k * 2) ROW W1 b1 (by simp; omega)
        obtain ⟨W2, hW2⟩ : ∃ W2, W2 = W1.setCells w.heap.size (k * 2) [Value.string x.key, Value.string x.val] := ⟨_, rfl⟩
        rw [← hW2] at r1 r5
        have hcpB : ∀ (W : World), (∀ p, W.cell? p = W2.cell? p) → (∀ p, W.frozen? p = W2.frozen? p) → ∀ ty dc sc, (Builtin.copy_ #[27, 27] ty #[.slice (some ⟨w.heap.size, (k + 1) * 2, none⟩) (c - k) dc, .slice (some ⟨g, k * 2, none⟩) (c - k) sc]).run Tryz.prog W = .ok (goInt ((c - k : Nat) : Int)) (W.setCells w.heap.size ((k + 1) * 2) (xs.drop (k * 2))) := fun W hWc hWf ty dc sc =>
          run_copy_cells2 W _ _ ty 66 w.heap.size ((k + 1) * 2) (c - k) dc ⟨g, k * 2, none⟩ (c - k) sc (c - k) (xs.drop (k * 2)) Tryz.underlying27 hsz (by simp only [Nat.min_def]; split <;> omega) hdl
            (fun j u hj => by
              rw [Addr.add_lit, hWc, hW2, setCells_cell _ _ _ _ _ (by show g ≠ w.heap.size; omega)]
              exact (hb1.cell (p := ⟨g, k * 2 + j, none⟩) hgw).trans (hcell (k * 2 + j) u (by rwa [List.getElem?_drop] at hj)))
            (fun j hj => by rw [hWc, cell_block r1]; simp at hj ⊢; omega) (fun j _ => by rw [hWf]; exact free_block r1 _) (fun u hu => h1c u (List.mem_of_mem_drop hu))
        obtain ⟨W3, hW3⟩ : ∃ W3, W3 = W2.drew := ⟨_, rfl⟩
        have r1' : W3.heap[w.heap.size]? = some (.cells cur1 66 (0, 0)) := by rw [hW3]; exact r1
        obtain ⟨cur2, s1, s2, s3, s4, s6, s5⟩ := setCells_row w.heap.size 66 (xs.drop (k * 2)) ((k + 1) * 2) cur1 W3 r1' (by rw [hdl]; omega)
        have hown : OwnAt LabelR 2 (W3.setCells w.heap.size ((k + 1) * 2) (xs.drop (k * 2))) B 66 (.slice (some ⟨w.heap.size, 0, none⟩) (c + 1) G) (L.take k ++ x :: L.drop k) := by
          have hI := lab_of_cells (L := L.take k ++ x :: L.drop k) (c := G) (B := B) s1 hBw (by rw [hpl]; omega) hGm (by rw [s2, r2, hRs]) (fun j y hj => by
            rw [hput j] at hj
            by_cases h5 : j < k * 2
            · rw [if_pos h5] at hj
              rw [s3 j (by omega), r3 j h5]
              exact hlow j y h5 hj
            · rw [if_neg h5] at hj
              by_cases h6 : j = k * 2
              · rw [if_pos h6] at hj
                cases hj
                subst h6
                rw [s3 _ (by omega)]
                have := r4 0 _ rfl
                rwa [Nat.add_zero] at this
              · rw [if_neg h6] at hj
                by_cases h7 : j = k * 2 + 1
                · rw [if_pos h7] at hj
                  cases hj
                  subst h7
                  rw [s3 _ (by omega)]
                  exact r4 1 _ rfl
                · rw [if_neg h7] at hj
                  have := s4 (j - (k + 1) * 2) y (by rw [List.getElem?_drop, show k * 2 + (j - (k + 1) * 2) = j - 2 by omega]; exact hj)
                  rwa [show (k + 1) * 2 + (j - (k + 1) * 2) = j by omega] at this)
          rw [hpl] at hI
          exact hI
        have hbel : Below B w (W3.setCells w.heap.size ((k + 1) * 2) (xs.drop (k * 2))) := Touch.below s5 (by rw [hW3]; exact (Touch.below r5 (hb1.mono hBw) hBw).drew) hBw
        have Hown := Lib.hid hown
        have Hbel := Lib.hid hbel
        have HW2 := Lib.hid hW2
        subst hW3
        clear hW1 hW2
        have m1 : ¬ (G = k) := by omega
        have m2 : ¬ (G = k + 1) := by omega
        clear hown hbel hcell hcur r1 r2 r3 r4 r5 r6 r1' s1 s2 s3 s4 s5 s6 ho h1c hvs h1v hdl htk hcs hold hlow hRs hkk hik hb1 b1 hG hROW hxs hxl hput hpl
        go_enter Tryz.func239, Tryz.ntmps239
        go_wp2_with (first
          | (at_builtin; refine Lib.wpList_append_run _ rfl _ _ _ _ rfl _ _ rfl rfl _ _ (hrz _) ?_)
          | (at_builtin; refine wpList_copy_runI _ rfl _ _ 27 27 rfl _ _ rfl rfl (hcpA _ (fun _ => rfl) (fun _ => rfl) _ _) ?_))
        rw [← HW2.out]
        go_region_law_o (refine step_copy_runI rfl _ _ 27 27 rfl (.slice (some ⟨w.heap.size, (k + 1) * 2, none⟩) (c - k) (G - (k + 1))) (.slice (some ⟨g, k * 2, none⟩) (c - k) (c - k)) (by simp [Act.eval, Act.put]) (by simp [Act.eval, Act.put]) (hcpB W2.drew (fun _ => rfl) (fun _ => rfl) 3 (G - (k + 1)) (c - k)) ?_)
        go_wp2_with fail
        go_ret
        exact ⟨_, rfl, Hown.out, Hbel.out⟩
  · obtain rfl : k = L.length := by omega
    have hend : L.take L.length ++ x :: L.drop L.length = L ++ [x] := by rw [List.take_length, List.drop_length]
    rw [hend]
    obtain ⟨a, c, rfl, hcl, hcm⟩ := h.row.len
    have H := Lib.hid h
    have Hrow : Hid (RowAt LabelR 2 w (.slice (some ⟨g2, 0, none⟩) 1 1) [x]) := Lib.hid (RowAt.one h2 rfl rfl)
    have hb : Below B w w := Below.refl _ _
    unfold maxLen at hcm
    obtain ⟨n, Hn⟩ : ∃ n, Hid (L.length = n) := ⟨_, Lib.hid rfl⟩
    have hLl : L.length ≤ 1048576 := hl
    rw [Hn.out] at hcl ⊢
    have Hs : Hid (OwnAt LabelR 2 w B 66 (.slice a n c) L) := by rw [← Hn.out]; exact H
    have hl2 : n ≤ 1048576 := by rw [← Hn.out]; exact hl
    clear h ho h1c hvs h1v hend h2 hkl hk H hl hput hxs hxl
    have hform : a = none ∨ ∃ g, a = some ⟨g, 0, none⟩ := by
      rcases Hs.out.form with ⟨h9, _⟩ | ⟨g, c', h9, _⟩
      · cases h9; exact .inl rfl
      · injection h9 with h9; exact .inr ⟨g, h9⟩
    rcases hform with rfl | ⟨g, rfl⟩
    · obtain ⟨rfl, rfl⟩ : n = 0 ∧ c = 0 := by
        rcases Hs.out.form with ⟨h9, _⟩ | ⟨g, c', h9, _⟩
        · cases h9; exact ⟨rfl, rfl⟩
        · cases h9
      go_enter Tryz.func239, Tryz.ntmps239
      go_wp2_with (at_builtin; refine wpList_append_ownAt (R := LabelR) (k := 2) (e := 66) (B := B) (l := L) (m := [x]) _ (by rfl) _ _ _ (by rfl) i0 _ 32 Tryz.underlying27 hi0 hz0 hz1 hz2 rfl (by omega) flat_label one_label _ (by rfl) Hs.out _ (by rfl) Hrow.out (by unfold maxLen; simp; omega) (by simp; omega) hBw ?_)
      intro v' w' hv' hg hr _
      have hb2 : Below B w w' := below_of_grown hb hBw hg hr
      go_wp2_with fail
      go_ret
      exact ⟨_, rfl, hv', hb2⟩
    · by_cases hcn : c = n
      · subst hcn
        have p1 : (0 : Int) ≤ (c : Int) := by omega
        go_enter Tryz.func239, Tryz.ntmps239
        go_wp2_with (at_builtin; refine wpList_append_ownAt (R := LabelR) (k := 2) (e := 66) (B := B) (l := L) (m := [x]) _ (by rfl) _ _ _ (by rfl) i0 _ 32 Tryz.underlying27 hi0 hz0 hz1 hz2 rfl (by omega) flat_label one_label _ (by rfl) Hs.out _ (by rfl) Hrow.out (by unfold maxLen; simp; omega) (by simp; omega) hBw ?_)
        intro v' w' hv' hg hr _
        have hb2 : Below B w w' := below_of_grown hb hBw hg hr
        go_wp2_with fail
        go_ret
        exact ⟨_, rfl, hv', hb2⟩
      · have p1 : (0 : Int) ≤ (n : Int) := by omega
        go_enter Tryz.func239, Tryz.ntmps239
        go_wp2_with (at_builtin; refine wpList_append_ownAt (R := LabelR) (k := 2) (e := 66) (B := B) (l := L) (m := [x]) _ (by rfl) _ _ _ (by rfl) i0 _ 32 Tryz.underlying27 hi0 hz0 hz1 hz2 rfl (by omega) flat_label one_label _ (by rfl) Hs.out _ (by rfl) Hrow.out (by unfold maxLen; simp; omega) (by simp; omega) hBw ?_)
        intro v' w' hv' hg hr _
        have hb2 : Below B w w' := below_of_grown hb hBw hg hr
        go_wp2_with fail
        go_ret
        exact ⟨_, rfl, hv', hb2⟩
end Adm
end Go.Proofs.YtnnceaapodgfbaaGreatDoor
namespace Go.Proofs.YtnnceaapodgfbaaGreatDoor
namespace Adm
open Go.RowKit
open JP (JV Bs)
def Saw (w : World) (gq : Nat) (o : GObject) (r : Int × GSt) (e : Ending) (w' : World) : Prop := e = .returned (.int .i64 r.1) ∧ GuestAt w' gq { o with labels := r.2.1 } r.2.2 ∧ But gq w w'
theorem posK_le (vs : List GLabel) (k : ByteArray) : posK vs k ≤ vs.length := by
  unfold posK
  exact (List.takeWhile_sublist _).length_le
theorem heap_lt9 {w : World} {b : Nat} {o : Obj} (h : w.heap[b]? = some o) : b < w.heap.size := by
  rcases Nat.lt_or_ge b w.heap.size with h9 | h9
  · exact h9
  · rw [Array.getElem?_eq_none h9] at h; cases h
theorem GuestAt.same {w : World} {gq : Nat} {o : GObject} {x : JV} (h : GuestAt w gq o x) : GuestAt w gq { o with labels := o.labels } x := h
set_option maxRecDepth 100000 in
set_option maxHeartbeats 3200000 in
theorem addLabel_any {w : World} {gq : Nat} {o : GObject} {x : JV} (h : GuestAt w gq o x) (hr : RiseK o.labels) (hl : o.labels.length ≤ 1048576) (p : GPlugin) :
    Calls Tryz.prog 238 #[plugW p, .pointer (some ⟨gq, 0, none⟩)] w (Saw w gq o (addLabelS p (o.labels, x))) := by
  obtain ⟨W, hW⟩ : ∃ W, W = w.alloc (.cells #[.int .i64 p.kind, .string p.key, .string p.val, .int .i64 p.most] 180) := ⟨_, rfl⟩
  obtain ⟨gp, hgp⟩ : ∃ g, g = w.heap.size := ⟨_, rfl⟩
  have BP := Lib.hid (show W.heap[gp]? = some (.cells #[.int .i64 p.kind, .string p.key, .string p.val, .int .i64 p.most] 180 (0, 0)) by rw [hW, hgp]; exact heap_alloc_new w _)
  have HB1 : Hid (Below w.heap.size w W) := Lib.hid (by rw [hW]; exact (Below.refl _ w).alloc (Nat.le_refl _) _)
  have HG := Lib.hid (h.below HB1.out)
  have hgqw : gq < w.heap.size := by obtain ⟨_, _, _, _, h9, -⟩ := h; exact heap_lt9 h9
  have HS := Lib.hid (label_any HG.out hr (by omega) p.key)
  obtain ⟨pk, Hpk⟩ : ∃ y, Hid (posK o.labels p.key = y) := ⟨_, Lib.hid rfl⟩
  obtain ⟨hk, Hhk⟩ : ∃ y, Hid (hasK o.labels p.key = y) := ⟨_, Lib.hid rfl⟩
  rw [Hpk.out, Hhk.out] at HS
  obtain ⟨res, Hres⟩ : ∃ y, Hid (addLabelS p (o.labels, x) = y) := ⟨_, Lib.hid rfl⟩
  rw [Hres.out]
  have HRes : Hid (res = if hk = true then (0, (o.labels, x)) else if o.labels.length = 10 then (2, (o.labels, x)) else (0, (insL o.labels ⟨p.key, p.val⟩, x))) := Lib.hid (by rw [← Hres.out, ← Hhk.out]; rfl)
  have Hl := Lib.hid hl
  have cp := fun i => cell_block BP.out i
  unfold plugW
  clear h hr
  go_enter Tryz.func238, Tryz.ntmps238
  go_upto_region 1 with fail
  rw [← hW]
  try rw [← hgp]
  clear hW hgp
  go_wp2_with fail
  refine HS.out.mono ?_
  rintro E w3 ⟨rfl, hb2, -⟩
  have HB3 := Lib.hid (HB1.out.trans (hb2.mono HB1.out.size))
  have BP3 := Lib.hid (below_block hb2 BP.out)
  have HGA := Lib.hid (HG.out.below hb2)
  clear hb2 HS cp HG
  cases hk with
  | true =>
    obtain rfl : res = (0, (o.labels, x)) := HRes.out
    clear HRes
    go_wp2_with fail
    go_ret
    exact ⟨rfl, HGA.out, But.of HB3.out⟩
  | false =>
    have HRs : Hid (res = if o.labels.length = 10 then (2, (o.labels, x)) else (0, (insL o.labels ⟨p.key, p.val⟩, x))) := Lib.hid HRes.out
    clear HRes
    obtain ⟨v1, v2, v3, dv, hgi⟩ := HGA.out
    obtain ⟨a1, c1, rfl, -, -⟩ := hgi.2.1.rowL.len
    have HRow := Lib.hid hgi.2.1.rowL
    obtain ⟨n1, Hn1⟩ : ∃ n, Hid (o.labels.length = n) := ⟨_, Lib.hid rfl⟩
    rw [Hn1.out] at hgi HRow HRs
    have HG3 := Lib.hid hgi
    have cg := fun i => cell_block HG3.out.1 i
    unfold guestCs at cg
    clear hgi
    by_cases h10 : n1 = 10
    · have q1 : ((n1 : Int) == 10) = true := by rw [beq_iff_eq]; omega
      obtain rfl : res = (2, (o.labels, x)) := by rw [HRs.out, if_pos h10]
      clear HRs h10
      go_wp2_with fail
      go_ret
      exact ⟨rfl, HGA.out, But.of HB3.out⟩
    · have q1 : ((n1 : Int) == 10) = false := by rw [beq_eq_false_iff_ne]; omega
      obtain rfl : res = (0, (insL o.labels ⟨p.key, p.val⟩, x)) := by rw [HRs.out, if_neg h10]
      clear HRs h10
      go_upto_region 6 with fail
      refine wp_region_relX 17 (fun w' => Below w3.heap.size w3 w') (fun i wa wb => if i = 16 then True ∧ Below w3.heap.size wa wb else Below wa.heap.size wa wb) (fun ii U w' => match ii with
        | 0 => U 0 = (.pointer (some ⟨gq, 0, none⟩))
        | 1 => U 1 = (.pointer (some ⟨gq, 0, none⟩))
        | 2 => U 2 = (.pointer (some ⟨gq, 0, none⟩))
        | 3 => U 3 = (.pointer (some ⟨gq, 0, none⟩))
        | 4 => U 4 = (.pointer (some ⟨gq, 3, none⟩))
        | 5 => U 5 = .slice a1 n1 c1
        | 6 => OwnAt LabelR 2 w' w3.heap.size 66 (U 6) o.labels
        | 7 => U 7 = .int .i64 (pk : Int)
        | 8 => U 8 = (.pointer (some ⟨gp, 0, none⟩))
        | 9 => U 9 = (.pointer (some ⟨gp, 1, none⟩))
        | 10 => U 10 = .string p.key
        | 11 => U 11 = (.pointer (some ⟨gp, 0, none⟩))
        | 12 => U 12 = (.pointer (some ⟨gp, 2, none⟩))
        | 13 => U 13 = .string p.val
        | 14 => U 14 = .agg #[.string p.key, .string p.val]
        | 15 => ∃ g2, U 15 = .slice (some ⟨g2, 0, none⟩) 1 1 ∧ w'.heap[g2]? = some (.cells #[.string p.key, .string p.val] 66 (0, 0))
        | 16 => OwnAt LabelR 2 w' w3.heap.size 66 (U 16) (o.labels.take pk ++ ⟨p.key, p.val⟩ :: o.labels.drop pk)
        | _ => True)
        (fun | 2 => [1] | 3 => [2] | 4 => [3] | 5 => [4] | 6 => [5] | 9 => [8] | 10 => [9] | 12 => [11] | 13 => [12] | 14 => [10, 13] | 15 => [14] | 16 => [6, 7, 15] | _ => [])
        (fun | 6 => [16] | 15 => [16] | _ => []) (by kernel_rfl) (by kernel_rfl) (Below.refl _ _).drew ?_ ?_ ⟨?_, ?_, ?_, ?_, ?_, ?_, ?_, ?_, ?_, ?_, ?_, ?_, ?_, ?_, ?_, ?_, ?_, trivial⟩ ?_
      · intro i wa wb hk hi
        by_cases h16 : i = 16
        · rw [if_pos h16] at hk
          exact hi.trans hk.2
        · rw [if_neg h16] at hk
          exact below_then' hi hk
      · intro i j U wa wb hji hkl hk hi h
        by_cases h16 : i = 16
        · rw [if_pos h16] at hk
          subst h16
          have hsm := hk.1
          match j, hji, hkl, h with
          | 0, _, _, h => exact h
          | 1, _, _, h => exact h
          | 2, _, _, h => exact h
          | 3, _, _, h => exact h
          | 4, _, _, h => exact h
          | 5, _, _, h => exact h
          | 6, _, hkl, h => exact absurd (by simp) hkl
          | 7, _, _, h => exact h
          | 8, _, _, h => exact h
          | 9, _, _, h => exact h
          | 10, _, _, h => exact h
          | 11, _, _, h => exact h
          | 12, _, _, h => exact h
          | 13, _, _, h => exact h
          | 14, _, _, h => exact h
          | 15, _, hkl, h => exact absurd (by simp) hkl
          | 16, hji, _, h => exact absurd rfl hji
          | _ + 17, _, _, h => trivial
        · rw [if_neg h16] at hk
          match j, h with
          | 0, h => exact h
          | 1, h => exact h
          | 2, h => exact h
          | 3, h => exact h
          | 4, h => exact h
          | 5, h => exact h
          | 6, h => exact OwnAt.below stays_label h hk
          | 7, h => exact h
          | 8, h => exact h
          | 9, h => exact h
          | 10, h => exact h
          | 11, h => exact h
          | 12, h => exact h
          | 13, h => exact h
          | 14, h => exact h
          | 15, h => exact (let ⟨g2, h1, h2⟩ := h; ⟨g2, h1, below_block hk h2⟩)
          | 16, h => exact OwnAt.below stays_label h hk
          | _ + 17, h => trivial
      · intro y w' hb hd
        have hb6 : Below w3.heap.size w3 w' := hb
        refine owesK_here (.pointer (some ⟨gq, 0, none⟩)) (by rfl) ?_ rfl (else_of (by decide) (Below.refl _ _))
        simp only [putAll, List.take_succ_cons, List.take_zero]
        go_simp
      · intro y w' hb hd
        have hb6 : Below w3.heap.size w3 w' := hb
        refine owesK_here (.pointer (some ⟨gq, 0, none⟩)) (by rfl) ?_ rfl (else_of (by decide) (Below.refl _ _))
        simp only [putAll, List.take_succ_cons, List.take_zero]
        go_simp
      · intro y w' hb hd
        have hb6 : Below w3.heap.size w3 w' := hb
        have h1 : y 1 = (.pointer (some ⟨gq, 0, none⟩)) := hd 1 (by simp)
        refine owesK_here (.pointer (some ⟨gq, 0, none⟩)) (by rfl) ?_ rfl (else_of (by decide) (Below.refl _ _))
        simp only [putAll, List.take_succ_cons, List.take_zero]
        go_simp
      · intro y w' hb hd
        have hb6 : Below w3.heap.size w3 w' := hb
        have h2 : y 2 = (.pointer (some ⟨gq, 0, none⟩)) := hd 2 (by simp)
        refine owesK_here (.pointer (some ⟨gq, 0, none⟩)) (by rfl) ?_ rfl (else_of (by decide) (Below.refl _ _))
        simp only [putAll, List.take_succ_cons, List.take_zero]
        go_simp
      · intro y w' hb hd
        have hb6 : Below w3.heap.size w3 w' := hb
        have h3 : y 3 = (.pointer (some ⟨gq, 0, none⟩)) := hd 3 (by simp)
        refine owesK_here (.pointer (some ⟨gq, 3, none⟩)) (by rfl) ?_ rfl (else_of (by decide) (Below.refl _ _))
        simp only [putAll, List.take_succ_cons, List.take_zero]
        go_simp
      · intro y w' hb hd
        have hb6 : Below w3.heap.size w3 w' := hb
        have h4 : y 4 = (.pointer (some ⟨gq, 3, none⟩)) := hd 4 (by simp)
        have d0 := cell_block (below_block hb6 HG3.out.1) 3
        unfold guestCs at d0
        refine owesK_here (.slice a1 n1 c1) (by rfl) ?_ rfl (else_of (by decide) (Below.refl _ _))
        simp only [putAll, List.take_succ_cons, List.take_zero]
        go_simp
      · intro y w' hb hd
        have hb6 : Below w3.heap.size w3 w' := hb
        have h5 : y 5 = .slice a1 n1 c1 := hd 5 (by simp)
        refine owesK_call 93 #[.slice a1 n1 c1] (by rfl) ?_ ((cloneLabels_any (.slice a1 n1 c1) o.labels w' (HRow.out.below stays_label hb6) (by have := Hl.out; omega)).mono ?_)
        · simp only [putAll, List.take_succ_cons, List.take_zero]
          go_simp
        · rintro _ w2 ⟨v2, rfl, ho, hb3⟩
          exact ⟨v2, rfl, ho.mono hb6.size, else_of (by decide) hb3⟩
      · intro y w' hb hd
        have hb6 : Below w3.heap.size w3 w' := hb
        refine owesK_here (.int .i64 (pk : Int)) (by rfl) ?_ rfl (else_of (by decide) (Below.refl _ _))
        simp only [putAll, List.take_succ_cons, List.take_zero]
        go_simp
      · intro y w' hb hd
        have hb6 : Below w3.heap.size w3 w' := hb
        refine owesK_here (.pointer (some ⟨gp, 0, none⟩)) (by rfl) ?_ rfl (else_of (by decide) (Below.refl _ _))
        simp only [putAll, List.take_succ_cons, List.take_zero]
        go_simp
      · intro y w' hb hd
        have hb6 : Below w3.heap.size w3 w' := hb
        have h8 : y 8 = (.pointer (some ⟨gp, 0, none⟩)) := hd 8 (by simp)
        refine owesK_here (.pointer (some ⟨gp, 1, none⟩)) (by rfl) ?_ rfl (else_of (by decide) (Below.refl _ _))
        simp only [putAll, List.take_succ_cons, List.take_zero]
        go_simp
      · intro y w' hb hd
        have hb6 : Below w3.heap.size w3 w' := hb
        have h9 : y 9 = (.pointer (some ⟨gp, 1, none⟩)) := hd 9 (by simp)
        have d0 := cell_block (below_block hb6 BP3.out) 1
        refine owesK_here (.string p.key) (by rfl) ?_ rfl (else_of (by decide) (Below.refl _ _))
        simp only [putAll, List.take_succ_cons, List.take_zero]
        go_simp
      · intro y w' hb hd
        have hb6 : Below w3.heap.size w3 w' := hb
        refine owesK_here (.pointer (some ⟨gp, 0, none⟩)) (by rfl) ?_ rfl (else_of (by decide) (Below.refl _ _))
        simp only [putAll, List.take_succ_cons, List.take_zero]
        go_simp
      · intro y w' hb hd
        have hb6 : Below w3.heap.size w3 w' := hb
        have h11 : y 11 = (.pointer (some ⟨gp, 0, none⟩)) := hd 11 (by simp)
        refine owesK_here (.pointer (some ⟨gp, 2, none⟩)) (by rfl) ?_ rfl (else_of (by decide) (Below.refl _ _))
        simp only [putAll, List.take_succ_cons, List.take_zero]
        go_simp
      · intro y w' hb hd
        have hb6 : Below w3.heap.size w3 w' := hb
        have h12 : y 12 = (.pointer (some ⟨gp, 2, none⟩)) := hd 12 (by simp)
        have d0 := cell_block (below_block hb6 BP3.out) 2
        refine owesK_here (.string p.val) (by rfl) ?_ rfl (else_of (by decide) (Below.refl _ _))
        simp only [putAll, List.take_succ_cons, List.take_zero]
        go_simp
      · intro y w' hb hd
        have hb6 : Below w3.heap.size w3 w' := hb
        have h10 : y 10 = .string p.key := hd 10 (by simp)
        have h13 : y 13 = .string p.val := hd 13 (by simp)
        refine owesK_here (.agg #[.string p.key, .string p.val]) (by rfl) ?_ rfl (else_of (by decide) (Below.refl _ _))
        simp only [putAll, List.take_succ_cons, List.take_zero]
        go_simp
      · intro y w' hb hd
        have hb6 : Below w3.heap.size w3 w' := hb
        have h14 : y 14 = .agg #[.string p.key, .string p.val] := hd 14 (by simp)
        refine owesK_makes (.slice (some ⟨w'.heap.size, 0, none⟩) 1 1) (w' := w'.alloc (.cells #[.string p.key, .string p.val] 66)) (by rfl) ?_ (⟨w'.heap.size, rfl, heap_alloc_new w' _⟩) (else_of (by decide) ((Below.refl _ w').alloc (Nat.le_refl _) _))
        simp only [putAll, List.take_succ_cons, List.take_zero]
        go_simp
      · intro y w' hb hd
        have hb6 : Below w3.heap.size w3 w' := hb
        have h6 : OwnAt LabelR 2 w' w3.heap.size 66 (y 6) o.labels := hd 6 (by simp)
        have h7 : y 7 = .int .i64 (pk : Int) := hd 7 (by simp)
        have h15 : ∃ g2, y 15 = .slice (some ⟨g2, 0, none⟩) 1 1 ∧ w'.heap[g2]? = some (.cells #[.string p.key, .string p.val] 66 (0, 0)) := hd 15 (by simp)
        obtain ⟨g2, e15, hg2⟩ := h15
        refine owesK_call 239 #[y 6, .int .i64 (pk : Int), .slice (some ⟨g2, 0, none⟩) 1 1] (by rfl) ?_ ((insLab_any (y 6) o.labels w3.heap.size pk ⟨p.key, p.val⟩ g2 w' h6 (by rw [← Hpk.out]; exact posK_le _ _) hg2 hb6.size Hl.out).mono ?_)
        · simp only [putAll, List.take_succ_cons, List.take_zero]
          go_simp
          try exact ⟨h7, e15⟩
        · rintro _ w2 ⟨v2, rfl, ho, hb3⟩
          exact ⟨v2, rfl, ho, then_of rfl ⟨trivial, hb3⟩⟩
      intro y w' hb hR
      have hb6 : Below w3.heap.size w3 w' := hb
      have r16 : OwnAt LabelR 2 w' w3.heap.size 66 (y 16) (o.labels.take pk ++ ⟨p.key, p.val⟩ :: o.labels.drop pk) := hR 16 (by omega) rfl
      have r0 : y 0 = (.pointer (some ⟨gq, 0, none⟩)) := hR 0 (by omega) rfl
      obtain ⟨w7, hw7⟩ : ∃ w7, w' = w7 := ⟨_, rfl⟩
      rw [hw7] at hb6 r16 ⊢
      clear hw7
      have hb37 : Below w3.heap.size w3 w7 := hb6
      obtain ⟨v7, Hv7⟩ : ∃ v, Hid (y 16 = v) := ⟨_, Lib.hid rfl⟩
      rw [Hv7.out] at r16
      have ho7 := r16
      simp only [putAll, List.take_succ_cons, List.take_zero, List.drop_succ_cons, List.drop_zero]
      rw [r0, Hv7.out]
      have hgq3 : gq < w3.heap.size := heap_lt9 HG3.out.1
      clear hb hR hb6 r16 r0 cg Hv7
      try simp only [Act.put, List.setIfInBounds_toArray, List.set_cons_zero, List.set_cons_succ]
      have HG7 := Lib.hid (HG3.out.below hb37)
      have HB7 := Lib.hid (HB3.out.trans (hb37.mono HB3.out.size))
      have HO7 := Lib.hid ho7
      obtain ⟨n7, Hn7⟩ : ∃ n, Hid ((insL o.labels ⟨p.key, p.val⟩).length = n) := ⟨_, Lib.hid rfl⟩
      have HO8 : Hid (OwnAt LabelR 2 w7 w3.heap.size 66 v7 (insL o.labels ⟨p.key, p.val⟩)) := Lib.hid (by unfold insL; rw [show posK o.labels (⟨p.key, p.val⟩ : GLabel).key = pk from Hpk.out]; exact HO7.out)
      clear ho7 HO7
      obtain ⟨a7, c7, hv7, -, -⟩ := HO8.out.row.len
      rw [Hn7.out] at hv7
      subst hv7
      clear hb37
      obtain ⟨w8, hw8⟩ : ∃ w8, w7.setCell ⟨gq, 3, none⟩ (.slice a7 n7 c7) = w8 := ⟨_, rfl⟩
      have t8 := touch_setCell (i := 3) (v := .slice a7 n7 c7) HG7.out.1
      rw [hw8] at t8
      have cg := fun i => cell_block HG7.out.1 i
      have fg := fun i => free_block HG7.out.1 i
      unfold guestCs at cg
      have HG8 : Hid (GuestAt w8 gq { o with labels := insL o.labels ⟨p.key, p.val⟩ } x) := Lib.hid (by
        obtain ⟨nj, hj⟩ := HG7.out.2.2
        exact ⟨_, _, _, _, HG7.out.turn t8.2 t8.1 (OwnX.ofFlat HO8.out fun b hb => ⟨(HO8.out.at hb).2.1, by have := (HO8.out.at hb).1; omega⟩) rfl rfl hj⟩)
      have HB8 : Hid (But gq w w8) := Lib.hid ((But.of HB7.out).trans (But.touch t8.2))
      clear t8
      go_wp2_with fail
      try rw [hw8]
      clear hw8 cg fg
      go_wp2_with fail
      go_ret
      exact ⟨rfl, HG8.out, HB8.out⟩
end Adm
end Go.Proofs.YtnnceaapodgfbaaGreatDoor
namespace Go.Proofs.YtnnceaapodgfbaaGreatDoor
namespace Adm
open Go.RowKit
open JP (JV Bs)
theorem grown_obj {l : List Bs} {o : Option JV} {y : JV} (hl : l.length ≠ 0) (h : (grownT l o y).2 = true) : ∃ d, (grownT l o y).1 = .obj d := by
  cases l with
  | nil => exact absurd rfl hl
  | cons s r =>
    unfold grownT at h ⊢
    cases hf : fieldsO o with
    | none => rw [hf] at h; cases h
    | some d => exact ⟨_, rfl⟩
set_option maxRecDepth 100000 in
set_option maxHeartbeats 3200000 in
theorem addField_any {w : World} {gq : Nat} {o : GObject} {x : JV} (h : GuestAt w gq o x) (hx : GoodD x) (p : GPlugin) (hp : OkPlugin p) (hrd : (JP.readL p.val.data.toList).2 = 0) (hne : (stepsOf p).2.length ≠ 0) (hE : Env w) :
    Calls Tryz.prog 246 #[plugW p, .pointer (some ⟨gq, 0, none⟩)] w (Saw w gq o (addFieldS p (o.labels, x))) := by
  obtain ⟨hs, hsl, -⟩ := steps_each p hp.key
  have HBd := Lib.hid (grown_bounds hx (good_read hrd) p hp.key)
  obtain ⟨W, hW⟩ : ∃ W, W = w.alloc (.cells #[.int .i64 p.kind, .string p.key, .string p.val, .int .i64 p.most] 181) := ⟨_, rfl⟩
  obtain ⟨gp, hgp⟩ : ∃ g, g = w.heap.size := ⟨_, rfl⟩
  have BP := Lib.hid (show W.heap[gp]? = some (.cells #[.int .i64 p.kind, .string p.key, .string p.val, .int .i64 p.most] 181 (0, 0)) by rw [hW, hgp]; exact heap_alloc_new w _)
  have HB1 : Hid (Below w.heap.size w W) := Lib.hid (by rw [hW]; exact (Below.refl _ w).alloc (Nat.le_refl _) _)
  have HG := Lib.hid (h.below HB1.out)
  have hgqw : gq < w.heap.size := by obtain ⟨_, _, _, _, h9, -⟩ := h; exact heap_lt9 h9
  have HS := Lib.hid (way_any HG.out (Nat.le_trans hx.text (by decide)) p hp hs hsl (hE.below HB1.out))
  unfold plugW at HS
  have HX := Lib.hid hx
  have HP := Lib.hid hp
  have HE := Lib.hid hE
  have Hne := Lib.hid hne
  have Hsl := Lib.hid hsl
  obtain ⟨res, Hres⟩ : ∃ y, Hid (addFieldS p (o.labels, x) = y) := ⟨_, Lib.hid rfl⟩
  rw [Hres.out]
  obtain ⟨is, His⟩ : ∃ y, Hid ((JP.atW x (stepsOf p).2).isSome = y) := ⟨_, Lib.hid rfl⟩
  obtain ⟨yv, Hyv⟩ : ∃ y, Hid ((JP.readL p.val.data.toList).1 = y) := ⟨_, Lib.hid rfl⟩
  obtain ⟨g1, Hg1⟩ : ∃ y, Hid ((grownT (stepsOf p).2 (some x) yv).1 = y) := ⟨_, Lib.hid rfl⟩
  obtain ⟨g2, Hg2⟩ : ∃ y, Hid ((grownT (stepsOf p).2 (some x) yv).2 = y) := ⟨_, Lib.hid rfl⟩
  obtain ⟨te, Hte⟩ : ∃ y, Hid (JP.tellE g1 = y) := ⟨_, Lib.hid rfl⟩
  have HRes : Hid (res = if is = true then (0, (o.labels, x)) else if g2 = false then (8, (o.labels, x)) else if te ≠ 0 then (te, (o.labels, x)) else (0, (o.labels, g1))) := Lib.hid (by
    rw [← Hres.out, ← His.out, ← Hte.out, ← Hg2.out, ← Hg1.out, ← Hyv.out]; rfl)
  rw [Hyv.out, Hg1.out] at HBd
  have Hrd := Lib.hid hrd
  have cp := fun i => cell_block BP.out i
  unfold plugW
  clear h hx hp hE hrd hne hs hsl
  go_enter Tryz.func246, Tryz.ntmps246
  go_upto_region 1 with fail
  rw [← hW]
  try rw [← hgp]
  clear hW hgp
  go_wp2_with fail
  refine HS.out.mono ?_
  rintro E w3 ⟨sv, u, rfl, hsv, -, hb2⟩
  obtain ⟨sa, sc, rfl, -, -⟩ := hsv.row.len
  obtain ⟨sn, Hsn⟩ : ∃ n, Hid (((stepsOf p).2.map mkB).length = n) := ⟨_, Lib.hid rfl⟩
  rw [Hsn.out] at hsv ⊢
  have HB3 := Lib.hid (HB1.out.trans (hb2.mono HB1.out.size))
  have BP3 := Lib.hid (below_block hb2 BP.out)
  have HGA := Lib.hid (HG.out.below hb2)
  have HSv := Lib.hid hsv
  rw [His.out]
  clear hb2 HS cp HG hsv
  cases is with
  | true =>
    obtain rfl : res = (0, (o.labels, x)) := HRes.out
    clear HRes
    go_wp2_with fail
    go_ret
    exact ⟨rfl, HGA.out, But.of HB3.out⟩
  | false =>
    have HRs : Hid (res = if g2 = false then (8, (o.labels, x)) else if te ≠ 0 then (te, (o.labels, x)) else (0, (o.labels, g1))) := Lib.hid HRes.out
    clear HRes
    have HRd := Lib.hid (read_low p.val w3 (by have := HP.out.val; omega))
    have cp := fun i => cell_block BP3.out i
    go_wp2_with fail
    refine HRd.out.mono ?_
    rintro E w4 ⟨wv, rfl, ⟨nw, hjw⟩, hb4⟩
    have hgq3 : gq < w3.heap.size := Nat.lt_of_lt_of_le hgqw HB3.out.size
    have HJw : Hid (JvAt nw [gq] w4 wv yv) := Lib.hid (by rw [← Hyv.out]; exact hjw [gq] (fun b hb => by rw [List.mem_singleton.1 hb]; exact hgq3))
    have HB4 := Lib.hid (HB3.out.trans (hb4.mono HB3.out.size))
    have HG4 := Lib.hid (HGA.out.below hb4)
    have HSv4 := Lib.hid (HSv.out.below hb4)
    have hs34 := hb4.size
    clear hjw hb4 HRd cp HGA HSv BP3 BP
    obtain ⟨v1, v2, v3, dv, hgi⟩ := HG4.out
    have HGi := Lib.hid hgi
    obtain ⟨nd, hjd⟩ := hgi.2.2
    have HGr : Hid (Calls Tryz.prog 248 #[dv, .bool true, .slice sa sn sc, wv] w4 fun e w' => ∃ u, e = .returned (.tuple #[u, .bool g2]) ∧ (∃ j, JvAt j [gq] w' u g1) ∧ Below w4.heap.size w4 w') := Lib.hid (by
      have h9 := grown_any [gq] (stepsOf p).2 nd nw dv (.slice sa sn sc) wv (some x) yv w4 (fun z e => by cases e; exact hjd) HJw.out HSv4.out (by have := Hsl.out; omega) (Nat.le_trans (size_some x) (Nat.le_trans HX.out.size (by decide))) (fun b hb => by rw [List.mem_singleton.1 hb]; omega)
      rw [Hg1.out, Hg2.out] at h9
      exact h9)
    have cg := fun i => cell_block HGi.out.1 i
    unfold guestCs at cg
    clear hgi hjd
    go_wp2_with fail
    refine HGr.out.mono ?_
    rintro E w5 ⟨u5, rfl, ⟨j5, hj5⟩, hb5⟩
    have HJ5 := Lib.hid hj5
    have HB5 := Lib.hid (HB4.out.trans (hb5.mono HB4.out.size))
    have HG5 := Lib.hid (HGi.out.below hb5)
    clear hj5 hb5 HGr cg HGi HG4 HJw HSv4
    cases g2 with
    | false =>
      obtain rfl : res = (8, (o.labels, x)) := HRs.out
      clear HRs
      go_wp2_with fail
      go_ret
      exact ⟨rfl, ⟨_, _, _, _, HG5.out⟩, But.of HB5.out⟩
    | true =>
      have HRt : Hid (res = if te ≠ 0 then (te, (o.labels, x)) else (0, (o.labels, g1))) := Lib.hid HRs.out
      clear HRs
      obtain ⟨d, hd⟩ := grown_obj (o := some x) (y := yv) Hne.out Hg2.out
      rw [Hg1.out] at hd
      have HT := Lib.hid (tell_any j5 u5 g1 w5 (HJ5.out.fresh (fun b hb => by cases hb)) HBd.out.1 HBd.out.2 (HE.out.1.below HB5.out))
      rw [Hte.out] at HT
      have HJd := HJ5.out
      rw [hd] at HJd
      obtain ⟨qd, rfl⟩ : ∃ qd, u5 = .iface 190 (.pointer (some ⟨qd, 0, none⟩)) := by
        cases j5 with
        | zero => cases HJd
        | succ j => obtain ⟨qd, h9, -⟩ := HJd; exact ⟨qd, h9⟩
      clear HJd hd
      go_wp2_with fail
      refine HT.out.mono ?_
      rintro E w6 ⟨rfl, hb6⟩
      have HB6 := Lib.hid (HB5.out.trans (hb6.mono HB5.out.size))
      have HG6 := Lib.hid (HG5.out.below hb6)
      have HJ6 := Lib.hid (HJ5.out.below hb6)
      clear hb6 HT HG5 HJ5
      by_cases ht : te = 0
      · have q1 : (te != 0) = false := by rw [ht]; rfl
        obtain rfl : res = (0, (o.labels, g1)) := by rw [HRt.out, if_neg (fun h => h ht)]
        clear HRt ht
        obtain ⟨w8, hw8⟩ : ∃ w8, w6.setCell ⟨gq, 10, none⟩ (.iface 190 (.pointer (some ⟨qd, 0, none⟩))) = w8 := ⟨_, rfl⟩
        have t8 := touch_setCell (i := 10) (v := .iface 190 (.pointer (some ⟨qd, 0, none⟩))) HG6.out.1
        rw [hw8] at t8
        have cg := fun i => cell_block HG6.out.1 i
        have fg := fun i => free_block HG6.out.1 i
        unfold guestCs at cg
        have HG8 : Hid (GuestAt w8 gq o g1) := Lib.hid ⟨_, _, _, _, HG6.out.turn (o' := o) t8.2 t8.1 HG6.out.2.1.labels rfl rfl HJ6.out⟩
        have HB8 : Hid (But gq w w8) := Lib.hid ((But.of HB6.out).trans (But.touch t8.2))
        clear t8
        go_wp2_with fail
        try rw [hw8]
        clear hw8 cg fg
        go_wp2_with fail
        go_ret
        exact ⟨rfl, HG8.out, HB8.out⟩
      · have q1 : (te != 0) = true := bne_iff_ne.2 ht
        obtain rfl : res = (te, (o.labels, x)) := by rw [HRt.out, if_pos ht]
        clear HRt ht
        go_wp2_with fail
        go_ret
        exact ⟨rfl, ⟨_, _, _, _, HG6.out⟩, But.of HB6.out⟩
end Adm
end Go.Proofs.YtnnceaapodgfbaaGreatDoor
namespace Go.Proofs.YtnnceaapodgfbaaGreatDoor
namespace Adm
open Go.RowKit
open JP (JV Bs)
theorem as_num (n : Int) : ∀ w : World, (Instr.typeAssert (.iface 2 (.int .i64 n)) 125 2 true).run Tryz.prog w = .ok (.tuple #[.int .i64 n, .bool true]) w := (as_int64 _).2.1
theorem as_nonum {n : Nat} {T : List Nat} {w : World} {v : Value} {x : JV} (h : JvAt n T w v x) (hx : ¬ ∃ k, x = .num k) : ∀ w' : World, (Instr.typeAssert v 125 2 true).run Tryz.prog w' = .ok (.tuple #[.int .i64 0, .bool false]) w' := by
  cases n with
  | zero => cases h
  | succ n =>
    cases x with
    | nul => obtain rfl : v = .nilIface := h; exact as_nil.2.1
    | bool b => obtain rfl : v = .iface 4 (.bool b) := h; exact (as_bool _).2.1
    | num k => exact absurd ⟨k, rfl⟩ hx
    | str s => obtain rfl : v = .iface 9 (.string (mkB s)) := h; exact (as_string _).2.1
    | list L => obtain ⟨u, rfl, _, _⟩ := h; exact (as_list _).2.1
    | obj L => obtain ⟨u, rfl, _⟩ := h; exact (as_obj _).2.1
set_option maxRecDepth 100000 in
set_option maxHeartbeats 3200000 in
theorem needLabel_any {w : World} {gq : Nat} {o : GObject} {x : JV} (h : GuestAt w gq o x) (hr : RiseK o.labels) (hl : o.labels.length ≤ 4194304) (p : GPlugin) :
    Calls Tryz.prog 259 #[plugW p, .pointer (some ⟨gq, 0, none⟩)] w fun e w' => e = .returned (.int .i64 (needLabelE p o.labels)) ∧ Below w.heap.size w w' := by
  obtain ⟨W, hW⟩ : ∃ W, W = w.alloc (.cells #[.int .i64 p.kind, .string p.key, .string p.val, .int .i64 p.most] 182) := ⟨_, rfl⟩
  obtain ⟨gp, hgp⟩ : ∃ g, g = w.heap.size := ⟨_, rfl⟩
  have BP := Lib.hid (show W.heap[gp]? = some (.cells #[.int .i64 p.kind, .string p.key, .string p.val, .int .i64 p.most] 182 (0, 0)) by rw [hW, hgp]; exact heap_alloc_new w _)
  have HB1 : Hid (Below w.heap.size w W) := Lib.hid (by rw [hW]; exact (Below.refl _ w).alloc (Nat.le_refl _) _)
  have HG := Lib.hid (h.below HB1.out)
  have HS := Lib.hid (label_any HG.out hr hl p.key)
  obtain ⟨pk, Hpk⟩ : ∃ y, Hid (posK o.labels p.key = y) := ⟨_, Lib.hid rfl⟩
  obtain ⟨hk, Hhk⟩ : ∃ y, Hid (hasK o.labels p.key = y) := ⟨_, Lib.hid rfl⟩
  rw [Hpk.out, Hhk.out] at HS
  obtain ⟨res, Hres⟩ : ∃ y, Hid (needLabelE p o.labels = y) := ⟨_, Lib.hid rfl⟩
  rw [Hres.out]
  have HRes : Hid (res = match o.labels.find? fun y => decide (y.key = p.key) with
    | none => 14
    | some y => if p.val ≠ ByteArray.empty ∧ y.val ≠ p.val then 14 else 0) := Lib.hid (by rw [← Hres.out]; rfl)
  have cp := fun i => cell_block BP.out i
  unfold plugW
  clear h hr
  go_enter Tryz.func259, Tryz.ntmps259
  go_upto_region 1 with fail
  rw [← hW]
  try rw [← hgp]
  clear hW hgp
  go_wp2_with fail
  refine HS.out.mono ?_
  rintro E w2 ⟨rfl, hb2, hfd⟩
  have HB2 := Lib.hid (HB1.out.trans (hb2.mono HB1.out.size))
  have BP2 := Lib.hid (below_block hb2 BP.out)
  have HG2 := Lib.hid (HG.out.below hb2)
  have Hfd := Lib.hid hfd
  clear hb2 hfd HS cp
  cases hk with
  | false =>
    have hr14 : res = 14 := by
      rw [HRes.out]
      have h9 : (o.labels.find? fun y => decide (y.key = p.key)) = none := List.find?_eq_none.2 fun y hy h8 => by
        have h7 := Hhk.out
        unfold hasK at h7
        rw [List.any_eq_false] at h7
        exact h7 y hy h8
      rw [h9]
    subst hr14
    clear HRes Hfd
    go_upto_region 2 with fail
    go_quiet (fail)
    go_wp2_with fail
    go_ret
    exact ⟨rfl, HB2.out.trans (below_drewN _ _ _)⟩
  | true =>
    have hf := Hfd.out rfl
    cases hy : o.labels[pk]? with
    | none =>
      rw [hy] at hf
      have h7 := Hhk.out
      unfold hasK at h7
      rw [List.any_eq_true] at h7
      obtain ⟨y, h6, h5⟩ := h7
      exact absurd h5 (List.find?_eq_none.1 hf y h6)
    | some y =>
      rw [hy] at hf
      have HRs : Hid (res = if p.val ≠ ByteArray.empty ∧ y.val ≠ p.val then 14 else 0) := Lib.hid (by rw [HRes.out, hf])
      have Hy := Lib.hid hy
      clear HRes Hfd hf hy
      obtain ⟨v1, v2, v3, dv, hbx, hob, -⟩ := HG2.out
      obtain ⟨a1, c1, rfl, -, -⟩ := hob.rowL.len
      obtain ⟨n1, Hn1⟩ : ∃ n, Hid (o.labels.length = n) := ⟨_, Lib.hid rfl⟩
      have hrow := hob.rowL
      rw [Hn1.out] at hrow hbx
      obtain ⟨bL, oL, hva, f0, f1⟩ := lab_cells hrow Hn1.out.symm (Below.refl _ _) Hy.out
      subst hva
      have hpk : pk < n1 := by rw [← Hn1.out]; exact (List.getElem?_eq_some_iff.1 Hy.out).1
      have q1 : (0 : Int) ≤ (pk : Int) := by omega
      have q2 : (pk : Int) < (n1 : Int) := by omega
      have cp2 := fun i => cell_block BP2.out i
      have cg := fun i => cell_block hbx i
      unfold guestCs at cg
      clear hbx hob hrow
      cases ev : p.val.toList.isEmpty with
      | true =>
        obtain rfl : res = 0 := by
          rw [HRs.out, if_neg]
          rintro ⟨h1, -⟩
          apply h1
          have h9 : p.val.toList = [] := List.isEmpty_iff.1 ev
          exact toList_inj (h9.trans (by rw [Lib.toList_data]; rfl))
        clear HRs
        go_upto_region 2 with fail
        go_quiet (fail)
        go_wp2_with fail
        go_ret
        exact ⟨rfl, HB2.out.trans (below_drewN _ _ _)⟩
      | false =>
        have hne : p.val ≠ ByteArray.empty := fun h9 => by rw [h9, Lib.toList_data] at ev; cases ev
        cases xv : (y.val.toList == p.val.toList) with
        | true =>
          obtain rfl : res = 0 := by
            rw [HRs.out, if_neg]
            rintro ⟨-, h1⟩
            exact h1 (toList_inj (eq_of_beq xv))
          clear HRs hne
          go_upto_region 2 with fail
          go_quiet (fail)
          go_wp2_with fail
          go_ret
          exact ⟨rfl, HB2.out.trans (below_drewN _ _ _)⟩
        | false =>
          obtain rfl : res = 14 := by
            rw [HRs.out, if_pos]
            exact ⟨hne, fun h9 => by rw [h9, beq_self_eq_true] at xv; cases xv⟩
          clear HRs hne
          go_upto_region 2 with fail
          go_quiet (fail)
          go_wp2_with fail
          go_ret
          exact ⟨rfl, HB2.out.trans (below_drewN _ _ _)⟩
set_option maxRecDepth 100000 in
set_option maxHeartbeats 3200000 in
theorem barField_any {w : World} {gq : Nat} {o : GObject} {x : JV} (h : GuestAt w gq o x) (hz : (JP.text x).length ≤ 1000000) (p : GPlugin) (hp : OkPlugin p) (hs : ∀ s ∈ (stepsOf p).2, s.length ≤ 1048576) (hsl : (stepsOf p).2.length ≤ 10) (hE : Env w) :
    Calls Tryz.prog 260 #[plugW p, .pointer (some ⟨gq, 0, none⟩)] w fun e w' => e = .returned (.int .i64 (barFieldE p x)) ∧ Below w.heap.size w w' := by
  obtain ⟨W, hW⟩ : ∃ W, W = w.alloc (.cells #[.int .i64 p.kind, .string p.key, .string p.val, .int .i64 p.most] 183) := ⟨_, rfl⟩
  obtain ⟨gp, hgp⟩ : ∃ g, g = w.heap.size := ⟨_, rfl⟩
  have BP := Lib.hid (show W.heap[gp]? = some (.cells #[.int .i64 p.kind, .string p.key, .string p.val, .int .i64 p.most] 183 (0, 0)) by rw [hW, hgp]; exact heap_alloc_new w _)
  have HB1 : Hid (Below w.heap.size w W) := Lib.hid (by rw [hW]; exact (Below.refl _ w).alloc (Nat.le_refl _) _)
  have HG := Lib.hid (h.below HB1.out)
  have HS := Lib.hid (way_any HG.out hz p hp hs hsl (hE.below HB1.out))
  unfold plugW at HS
  have cp := fun i => cell_block BP.out i
  obtain ⟨res, Hres⟩ : ∃ y, Hid (barFieldE p x = y) := ⟨_, Lib.hid rfl⟩
  rw [Hres.out]
  have HRes : Hid (res = if (JP.atW x (stepsOf p).2).isSome = true then 14 else 0) := Lib.hid (by rw [← Hres.out]; rfl)
  unfold plugW
  clear h hz hp hs hsl hE
  go_enter Tryz.func260, Tryz.ntmps260
  go_upto_region 1 with fail
  rw [← hW]
  try rw [← hgp]
  clear hW hgp
  go_wp2_with fail
  refine HS.out.mono ?_
  rintro E w2 ⟨sv, u, rfl, -, -, hb2⟩
  have HB2 := Lib.hid (HB1.out.trans (hb2.mono HB1.out.size))
  clear hb2 HS cp
  obtain ⟨is, His⟩ : ∃ y, Hid ((JP.atW x (stepsOf p).2).isSome = y) := ⟨_, Lib.hid rfl⟩
  rw [His.out] at HRes ⊢
  cases is with
  | true =>
    obtain rfl : res = 14 := HRes.out
    clear HRes
    go_wp2_with fail
    go_ret
    exact ⟨rfl, HB2.out⟩
  | false =>
    obtain rfl : res = 0 := HRes.out
    clear HRes
    go_wp2_with fail
    go_ret
    exact ⟨rfl, HB2.out⟩
set_option maxRecDepth 100000 in
set_option maxHeartbeats 3200000 in
theorem mostField_any {w : World} {gq : Nat} {o : GObject} {x : JV} (h : GuestAt w gq o x) (hz : (JP.text x).length ≤ 1000000) (p : GPlugin) (hp : OkPlugin p) (hs : ∀ s ∈ (stepsOf p).2, s.length ≤ 1048576) (hsl : (stepsOf p).2.length ≤ 10) (hE : Env w) :
    Calls Tryz.prog 261 #[plugW p, .pointer (some ⟨gq, 0, none⟩)] w fun e w' => e = .returned (.int .i64 (mostFieldE p x)) ∧ Below w.heap.size w w' := by
  obtain ⟨W, hW⟩ : ∃ W, W = w.alloc (.cells #[.int .i64 p.kind, .string p.key, .string p.val, .int .i64 p.most] 184) := ⟨_, rfl⟩
  obtain ⟨gp, hgp⟩ : ∃ g, g = w.heap.size := ⟨_, rfl⟩
  have BP := Lib.hid (show W.heap[gp]? = some (.cells #[.int .i64 p.kind, .string p.key, .string p.val, .int .i64 p.most] 184 (0, 0)) by rw [hW, hgp]; exact heap_alloc_new w _)
  have HB1 : Hid (Below w.heap.size w W) := Lib.hid (by rw [hW]; exact (Below.refl _ w).alloc (Nat.le_refl _) _)
  have HG := Lib.hid (h.below HB1.out)
  have HS := Lib.hid (way_any HG.out hz p hp hs hsl (hE.below HB1.out))
  unfold plugW at HS
  have cp := fun i => cell_block BP.out i
  obtain ⟨res, Hres⟩ : ∃ y, Hid (mostFieldE p x = y) := ⟨_, Lib.hid rfl⟩
  rw [Hres.out]
  have HRes : Hid (res = match JP.atW x (stepsOf p).2 with
    | none => 0
    | some (.num n) => if p.most < n then 14 else 0
    | some _ => 8) := Lib.hid (by rw [← Hres.out]; rfl)
  unfold plugW
  clear h hz hp hs hsl hE
  go_enter Tryz.func261, Tryz.ntmps261
  go_upto_region 1 with fail
  rw [← hW]
  try rw [← hgp]
  clear hW hgp
  go_wp2_with fail
  refine HS.out.mono ?_
  rintro E w2 ⟨sv, u, rfl, -, hu, hb2⟩
  have HB2 := Lib.hid (HB1.out.trans (hb2.mono HB1.out.size))
  have BP2 := Lib.hid (below_block hb2 BP.out)
  have HU := Lib.hid hu
  clear hb2 hu HS cp
  cases hat : JP.atW x (stepsOf p).2 with
  | none =>
    rw [hat] at HRes
    obtain rfl : res = 0 := HRes.out
    clear HRes HU
    go_wp2_with fail
    go_ret
    exact ⟨rfl, HB2.out⟩
  | some c =>
    obtain ⟨k, hj⟩ := HU.out c hat
    rw [hat] at HRes
    clear HU hat
    by_cases hn : ∃ n, c = .num n
    · obtain ⟨n, rfl⟩ := hn
      cases k with
      | zero => cases hj
      | succ k =>
      obtain ⟨rfl, -, -⟩ := hj
      have HRs : Hid (res = if p.most < n then 14 else 0) := Lib.hid HRes.out
      have G2 := as_num n
      have cp2 := fun i => cell_block BP2.out i
      clear HRes
      by_cases hm : p.most < n
      · obtain rfl : res = 14 := by rw [HRs.out, if_pos hm]
        clear HRs
        go_wp2_with fail
        go_ret
        exact ⟨rfl, HB2.out⟩
      · obtain rfl : res = 0 := by rw [HRs.out, if_neg hm]
        clear HRs
        go_wp2_with fail
        go_ret
        exact ⟨rfl, HB2.out⟩
    · have hr8 : res = 8 := by
        rw [HRes.out]
        cases c with
        | num n => exact absurd ⟨n, rfl⟩ hn
        | _ => rfl
      subst hr8
      have G2 := as_nonum hj hn
      clear HRes hj hn
      go_wp2_with fail
      go_ret
      exact ⟨rfl, HB2.out⟩
end Adm
end Go.Proofs.YtnnceaapodgfbaaGreatDoor
namespace Go.Proofs.YtnnceaapodgfbaaGreatDoor
namespace Adm
open Go.RowKit
open JP (JV Bs)
theorem run_method_val {P : Program} {T : TypeId} {i : TypeInfo} {m : Method} {name : String} {f : FuncId} {w : World} {v : Value} {fuel : Nat} (hi : P.info? T = some i) (hm : i.methods.find? (·.name == name) = some m) (hp : m.path = #[]) (hf : m.func = some (f, false))
    (hu : ∀ e, P.underlying T ≠ some (.pointer e)) (hs : (P.underlying T).isSome = true) : (method (fuel + 1) T v name).run P w = .ok (f, v) w := by
  rw [method]
  obtain ⟨d, hd⟩ := Option.isSome_iff_exists.1 hs
  rw [hd] at hu
  have hd2 : ∀ e, d ≠ .pointer e := fun e h => hu e (by rw [h])
  simp [typeInfo, hi, hm, hp, hf, follow, receiverAt, run_underlying hd, Place.get, go_sem]
  try (cases d <;> simp_all [go_sem])
def kindT (k : Int) : TypeId := if k = 1 then 180 else if k = 2 then 181 else if k = 3 then 182 else if k = 4 then 183 else 184
theorem m_addLabel (v : Value) (w : World) : Sem.run Tryz.prog (method 439 180 v "seneschal/admit.see") w = .ok (238, v) w := by
  have h9 := run_method_val (P := Tryz.prog) (name := "seneschal/admit.see") (i := Tryz.t180) (m := ⟨"seneschal/admit.see", 134, #[], some (238, false)⟩) (v := v) (w := w) (fuel := 438) (by kernel_rfl) (by kernel_rfl) rfl rfl (fun e h => by rw [Tryz.underlying180] at h; cases h) (by rw [Tryz.underlying180]; rfl)
  exact h9
theorem enter_addLabel : ∀ (a : Array Value) (w : World), (callFunc 238 a).run Tryz.prog w = .ok (.enter 238 a) w := run_callFunc_body Tryz.func238 (by kernel_rfl) (by kernel_rfl)
theorem m_addField (v : Value) (w : World) : Sem.run Tryz.prog (method 439 181 v "seneschal/admit.see") w = .ok (246, v) w := by
  have h9 := run_method_val (P := Tryz.prog) (name := "seneschal/admit.see") (i := Tryz.t181) (m := ⟨"seneschal/admit.see", 134, #[], some (246, false)⟩) (v := v) (w := w) (fuel := 438) (by kernel_rfl) (by kernel_rfl) rfl rfl (fun e h => by rw [Tryz.underlying181] at h; cases h) (by rw [Tryz.underlying181]; rfl)
  exact h9
theorem enter_addField : ∀ (a : Array Value) (w : World), (callFunc 246 a).run Tryz.prog w = .ok (.enter 246 a) w := run_callFunc_body Tryz.func246 (by kernel_rfl) (by kernel_rfl)
theorem m_needLabel (v : Value) (w : World) : Sem.run Tryz.prog (method 439 182 v "seneschal/admit.see") w = .ok (259, v) w := by
  have h9 := run_method_val (P := Tryz.prog) (name := "seneschal/admit.see") (i := Tryz.t182) (m := ⟨"seneschal/admit.see", 134, #[], some (259, false)⟩) (v := v) (w := w) (fuel := 438) (by kernel_rfl) (by kernel_rfl) rfl rfl (fun e h => by rw [Tryz.underlying182] at h; cases h) (by rw [Tryz.underlying182]; rfl)
  exact h9
theorem enter_needLabel : ∀ (a : Array Value) (w : World), (callFunc 259 a).run Tryz.prog w = .ok (.enter 259 a) w := run_callFunc_body Tryz.func259 (by kernel_rfl) (by kernel_rfl)
theorem m_barField (v : Value) (w : World) : Sem.run Tryz.prog (method 439 183 v "seneschal/admit.see") w = .ok (260, v) w := by
  have h9 := run_method_val (P := Tryz.prog) (name := "seneschal/admit.see") (i := Tryz.t183) (m := ⟨"seneschal/admit.see", 134, #[], some (260, false)⟩) (v := v) (w := w) (fuel := 438) (by kernel_rfl) (by kernel_rfl) rfl rfl (fun e h => by rw [Tryz.underlying183] at h; cases h) (by rw [Tryz.underlying183]; rfl)
  exact h9
theorem enter_barField : ∀ (a : Array Value) (w : World), (callFunc 260 a).run Tryz.prog w = .ok (.enter 260 a) w := run_callFunc_body Tryz.func260 (by kernel_rfl) (by kernel_rfl)
theorem m_mostField (v : Value) (w : World) : Sem.run Tryz.prog (method 439 184 v "seneschal/admit.see") w = .ok (261, v) w := by
  have h9 := run_method_val (P := Tryz.prog) (name := "seneschal/admit.see") (i := Tryz.t184) (m := ⟨"seneschal/admit.see", 134, #[], some (261, false)⟩) (v := v) (w := w) (fuel := 438) (by kernel_rfl) (by kernel_rfl) rfl rfl (fun e h => by rw [Tryz.underlying184] at h; cases h) (by rw [Tryz.underlying184]; rfl)
  exact h9
theorem enter_mostField : ∀ (a : Array Value) (w : World), (callFunc 261 a).run Tryz.prog w = .ok (.enter 261 a) w := run_callFunc_body Tryz.func261 (by kernel_rfl) (by kernel_rfl)
set_option maxRecDepth 100000 in
set_option maxHeartbeats 3200000 in
theorem of_any (p : GPlugin) (w : World) (hk : 1 ≤ p.kind ∧ p.kind ≤ 5) : Calls Tryz.prog 67 #[plugW p] w fun e w' => e = .returned (.iface (kindT p.kind) (plugW p)) ∧ Below w.heap.size w w' := by
  obtain ⟨kd, Hkd⟩ : ∃ y, Hid (p.kind = y) := ⟨_, Lib.hid rfl⟩
  unfold plugW
  rw [Hkd.out] at hk ⊢
  obtain ⟨W, hW⟩ : ∃ W, W = w.alloc (.cells #[.int .i64 kd, .string p.key, .string p.val, .int .i64 p.most] 64) := ⟨_, rfl⟩
  obtain ⟨gp, hgp⟩ : ∃ g, g = w.heap.size := ⟨_, rfl⟩
  have BP := Lib.hid (show W.heap[gp]? = some (.cells #[.int .i64 kd, .string p.key, .string p.val, .int .i64 p.most] 64 (0, 0)) by rw [hW, hgp]; exact heap_alloc_new w _)
  have HB1 : Hid (Below w.heap.size w W) := Lib.hid (by rw [hW]; exact (Below.refl _ w).alloc (Nat.le_refl _) _)
  have cp := fun i => cell_block BP.out i
  have way : kd = 1 ∨ kd = 2 ∨ kd = 3 ∨ kd = 4 ∨ kd = 5 := by omega
  clear hk
  go_enter Tryz.func67, Tryz.ntmps67
  go_upto_region 1 with fail
  rw [← hW]
  try rw [← hgp]
  clear hW hgp
  rcases way with rfl | rfl | rfl | rfl | rfl
  · go_wp2_with fail
    go_ret
    exact ⟨rfl, HB1.out⟩
  · go_wp2_with fail
    go_ret
    exact ⟨rfl, HB1.out⟩
  · go_wp2_with fail
    go_ret
    exact ⟨rfl, HB1.out⟩
  · go_wp2_with fail
    go_ret
    exact ⟨rfl, HB1.out⟩
  · go_wp2_with fail
    go_ret
    exact ⟨rfl, HB1.out⟩
end Adm
end Go.Proofs.YtnnceaapodgfbaaGreatDoor
namespace Go.Proofs.YtnnceaapodgfbaaGreatDoor
namespace Sto
open Go.RowKit
def PutD (f : GKey → Option Value) (k : GKey) (g mb : Nat) (vlog : Value) : Dom := fun b => b = g ∨ b = mb ∨ ((f k).getD nilS).ownBlock = some b ∨ vlog.ownBlock = some b
section
variable {M I J : Dom} {w w' : World} {g mb nn : Nat} {f : GKey → Option Value} {vlog vlog' vn : Value} {S : St} {kind : Int} {o : GObject}
theorem StoreIn.putM (h : StoreIn M I w g mb nn f vlog S) {k : GKey} {b : Nat} (hb : PutD f k g mb vlog b) : M b := by
  rcases hb with rfl | rfl | hb | hb
  · exact h.gM
  · exact h.mbM
  · cases hf : f k with
    | none => rw [hf] at hb; cases hb
    | some v => rw [hf] at hb; exact (h.chain k v hf).2 b hb
  · exact h.logM b hb
theorem StoreIn.chainAt (h : StoreIn M I w g mb nn f vlog S) {k : GKey} {b : Nat} (hb : ((f k).getD nilS).ownBlock = some b) : ∃ v, f k = some v ∧ v.ownBlock = some b := by
  cases hf : f k with
  | none => rw [hf] at hb; cases hb
  | some v => rw [hf] at hb; exact ⟨v, rfl, hb⟩
theorem StoreIn.chain_ne (h : StoreIn M I w g mb nn f vlog S) {k : GKey} {v : Value} (hf : f k = some v) {b : Nat} (hb : v.ownBlock = some b) : b ≠ g ∧ b ≠ mb ∧ vlog.ownBlock ≠ some b ∧ b < w.heap.size := by
  obtain ⟨_, hlt, cur, hc⟩ := (h.chain k v hf).1.at hb
  refine ⟨fun e => ?_, fun e => ?_, fun e => ?_, hlt⟩
  · rw [e, h.box] at hc; cases hc
  · obtain ⟨es, ck, h9⟩ := h.map.isMap
    rw [e, h9] at hc; cases hc
  · obtain ⟨_, _, cur2, hc2⟩ := h.log.at e
    rw [hc] at hc2; cases hc2
theorem put_end (h : StoreIn M I w g mb nn f vlog S) (hJ : ∀ b, J b → b < w.heap.size ∧ ¬ M b) (hO : Only (PutD f o.okey g mb vlog) w w')
    (hbox : w'.heap[g]? = some (.cells #[.int .i64 (put S kind o).rev, .int .i64 S.comp, .map (some mb), .int .i64 (live (put S kind o).log), vlog'] 110 (0, 0)))
    (hmap : MapK keyC w' mb (nn + 1) (updK f o.okey vn))
    (hrow : OwnAt (VerX (fun b => I b ∨ J b) w) 12 w' 0 163 vn (hits S.log o.okey ++ [(⟨kind, (S.rev : Int) + 1, putO (S.rev + 1) kind o⟩ : GEvent)])) (hvn : ∀ q, vn.ownBlock = some q → ((f o.okey).getD nilS).ownBlock = some q ∨ w.heap.size ≤ q)
    (hlog : OwnAt (EvX (fun b => I b ∨ J b) w) 12 w' 0 56 vlog' (S.log ++ [(⟨kind, (S.rev : Int) + 1, putO (S.rev + 1) kind o⟩ : GEvent)])) (hvl : ∀ q, vlog'.ownBlock = some q → vlog.ownBlock = some q ∨ w.heap.size ≤ q) :
    StoreIn (fun b => M b ∨ vn.ownBlock = some b ∨ vlog'.ownBlock = some b) (fun b => I b ∨ J b) w' g mb (nn + 1) (updK f o.okey vn) vlog' (put S kind o) := by
  have hIJ : ∀ b, I b ∨ J b → b < w.heap.size ∧ ¬ M b := fun b hb => hb.elim (fun hb => ⟨h.low b (.inr hb), fun hm => h.apart b hm hb⟩) (hJ b)
  have hag : Agree (fun b => I b ∨ J b) w w' := hO.agree fun b hb => ⟨(hIJ b hb).1, fun hp => (hIJ b hb).2 (h.putM hp)⟩
  have hh : ∀ k, hits (put S kind o).log k = if o.okey = k then hits S.log k ++ [(⟨kind, (S.rev : Int) + 1, putO (S.rev + 1) kind o⟩ : GEvent)] else hits S.log k := fun k => by
    unfold put
    dsimp only
    rw [hits_append]
    by_cases hk : o.okey = k
    · rw [if_pos hk]
      congr 1
      unfold hits
      rw [List.filter_cons_of_pos (by exact decide_eq_true hk)]; rfl
    · rw [if_neg hk]
      have : hits [(⟨kind, (S.rev : Int) + 1, putO (S.rev + 1) kind o⟩ : GEvent)] k = [] := by
        unfold hits
        rw [List.filter_cons_of_neg (by rw [decide_eq_true_iff]; exact hk)]; rfl
      rw [this, List.append_nil]
  have hvnM : ∀ q, vn.ownBlock = some q → M q ∨ w.heap.size ≤ q := fun q hq => (hvn q hq).imp (fun e => h.putM (k := o.okey) (.inr (.inr (.inl e)))) id
  have hvlM : ∀ q, vlog'.ownBlock = some q → M q ∨ w.heap.size ≤ q := fun q hq => (hvl q hq).imp (fun e => h.logM q e) id
  have oldc : ∀ k v, k ≠ o.okey → f k = some v → ∀ b, v.ownBlock = some b → w'.heap[b]? = w.heap[b]? := fun k v hk hf b hb => by
    obtain ⟨n1, n2, n3, n4⟩ := h.chain_ne hf hb
    refine hO.block b n4 fun hp => ?_
    rcases hp with e | e | e | e
    · exact n1 e
    · exact n2 e
    · obtain ⟨v2, f2, b2⟩ := h.chainAt e
      exact h.own k o.okey v v2 hf f2 hk b hb b2
    · exact n3 e
  refine ⟨.inl h.gM, .inl h.mbM, fun b hb hI => ?_, fun b hb => ?_, hbox, hmap, ?_, fun k v hk => ?_, fun k hk => ?_, fun k k' v v' hk hk' hne b hb hb' => ?_, ?_, fun b hb => .inr (.inr hb)⟩
  · obtain ⟨i1, i2⟩ := hIJ b hI
    rcases hb with hb | hb | hb
    · exact i2 hb
    · rcases hvnM b hb with e | e
      · exact i2 e
      · omega
    · rcases hvlM b hb with e | e
      · exact i2 e
      · omega
  · have hs := hO.size
    rcases hb with (hb | hb | hb) | hb
    · exact Nat.lt_of_lt_of_le (h.low b (.inl hb)) hs
    · exact (hrow.at hb).2.1
    · exact (hlog.at hb).2.1
    · exact Nat.lt_of_lt_of_le (hIJ b hb).1 hs
  · have := h.many
    show nn + 1 ≤ (put S kind o).rev
    rw [show (put S kind o).rev = S.rev + 1 from by unfold put St.rev; dsimp only; rw [List.length_append]; rfl]
    omega
  · rw [hh]
    by_cases hko : k = o.okey
    · subst hko
      rw [updK_same] at hk
      cases hk
      rw [if_pos rfl]
      exact ⟨hrow.imp' fun _ _ _ hx => famVer.agree _ _ _ _ _ _ hag hx, fun b hb => .inr (.inl hb)⟩
    · rw [updK_other f vn hko] at hk
      rw [if_neg (fun e => hko e.symm)]
      obtain ⟨h1, h2⟩ := h.chain k v hk
      exact ⟨(h1.stay (famVer.flat I w) fun b hb => oldc k v hko hk b hb).imp' fun _ _ _ hx => famVer.agree _ _ _ _ _ _ hag (famVer.mono _ _ _ _ _ _ (fun b hb => Or.inl hb) hx), fun b hb => .inl (h2 b hb)⟩
  · rw [hh]
    by_cases hko : k = o.okey
    · subst hko; rw [updK_same] at hk; cases hk
    · rw [updK_other f vn hko] at hk
      rw [if_neg (fun e => hko e.symm)]
      exact h.no k hk
  · have far : ∀ k v, k ≠ o.okey → f k = some v → v.ownBlock = some b → vn.ownBlock ≠ some b := fun k v hk hf hb hn => by
      rcases hvn b hn with e | e
      · obtain ⟨v2, f2, b2⟩ := h.chainAt e
        exact h.own k o.okey v v2 hf f2 hk b hb b2
      · have := (h.chain_ne hf hb).2.2.2
        omega
    by_cases hko : k = o.okey
    · by_cases hko' : k' = o.okey
      · exact hne (hko.trans hko'.symm)
      · rw [hko, updK_same] at hk
        rw [updK_other f vn hko'] at hk'
        cases hk
        exact far k' v' hko' hk' hb' hb
    · rw [updK_other f vn hko] at hk
      by_cases hko' : k' = o.okey
      · rw [hko', updK_same] at hk'
        cases hk'
        exact far k v hko hk hb hb'
      · rw [updK_other f vn hko'] at hk'
        exact h.own k k' v v' hk hk' hne b hb hb'
  · exact hlog.imp' fun _ _ _ hx => famEv.agree _ _ _ _ _ _ hag hx
end
end Sto
end Go.Proofs.YtnnceaapodgfbaaGreatDoor
namespace Go.Proofs.YtnnceaapodgfbaaGreatDoor
open Go.RowKit
theorem strAt_getD {l : List ByteArray} {j : Nat} (hj : j < l.length) : l[j]? = some (l.getD j ByteArray.empty) := by simp [List.getD, hj]
set_option maxRecDepth 100000 in
theorem contains_any (v : Value) (l : List ByteArray) (x : ByteArray) (w : World) (h : StrAt w v l) (hl : l.length ≤ 1073741824) : Calls Tryz.prog 56 #[v, .string x] w fun e w' => e = .returned (.bool (Lib.containsS l x)) ∧ w = w' := by
  rcases Nat.eq_zero_or_pos l.length with h0 | h0
  · obtain rfl := nil_of_len h0
    obtain ⟨ao, c, rfl, _, _⟩ := h.len
    exact (Tryz.slices_Contains_string_empty ao c x w).mono fun e w' ⟨h1, h2⟩ => ⟨by rw [h1]; rfl, h2.symm⟩
  · obtain ⟨b, o, c, rfl, _, _, _, hc⟩ := h.form h0
    refine (Tryz.slices_Contains_string b o l.length c l x w (Nat.le_refl _) (by omega) fun j hj => hc j _ (strAt_getD hj)).mono fun e w' ⟨h1, h2⟩ => ⟨?_, h2.symm⟩
    rw [h1, List.take_of_length_le (Nat.le_refl _)]
theorem idx_none {l : List ByteArray} {x : ByteArray} (h : x ∉ l) : Lib.idxOfS l x = -1 := by
  have := Lib.idxOfS_miss l l.length x fun j hj e => h (by rw [← e]; exact List.mem_of_getElem? (strAt_getD hj))
  rwa [List.take_of_length_le (Nat.le_refl _)] at this
end Go.Proofs.YtnnceaapodgfbaaGreatDoor
namespace Go.Proofs.YtnnceaapodgfbaaGreatDoor
namespace Sto
open Go.RowKit
theorem str_take {w : World} {ao : Option Addr} {n c : Nat} {l : List ByteArray} (h : StrAt w (.slice ao n c) l) {i : Nat} (hi : i ≤ l.length) : StrAt w (.slice ao i c) (l.take i) := by
  rcases h with ⟨h1, rfl⟩ | ⟨a, c', h1, h2, h3, h4⟩
  · cases h1
    obtain rfl : i = 0 := by simpa using hi
    exact .inl ⟨rfl, by simp⟩
  · injection h1 with u1 u2 u3
    subst u1 u3
    have hlen : (l.take i).length = i := by rw [List.length_take]; omega
    refine .inr ⟨a, c, by rw [hlen], by omega, h3, fun j x hx => ?_⟩
    have hj : j < i := by have := (List.getElem?_eq_some_iff.1 hx).1; omega
    rw [List.getElem?_take_of_lt hj] at hx
    exact h4 j x hx
def twI (l : List ByteArray) (i : Nat) : Int := if (l.take i).Nodup then 0 else 5
theorem tw_step {l : List ByteArray} {i : Nat} {h : ByteArray} (hi : l[i]? = some h) (b : Int) : says b (twI l (i + 1)) = if Lib.containsS (l.take i) h = true then says (says b (twI l i)) 5 else says b (twI l i) := by
  have hnd : (l.take (i + 1)).Nodup ↔ (l.take i).Nodup ∧ h ∉ l.take i := by
    rw [List.take_add_one, hi]
    show (l.take i ++ [h]).Nodup ↔ _
    rw [List.nodup_append]
    constructor
    · rintro ⟨h1, _, h3⟩; exact ⟨h1, fun hm => h3 h hm h (List.mem_cons_self ..) rfl⟩
    · rintro ⟨h1, h2⟩; exact ⟨h1, List.nodup_cons.2 ⟨by simp, List.nodup_nil⟩, fun a ha c hc e => by rw [List.mem_singleton] at hc; subst hc; subst e; exact h2 ha⟩
  unfold twI
  by_cases hc : Lib.containsS (l.take i) h = true
  · rw [if_pos hc, if_neg (fun h9 => (hnd.1 h9).2 ((Lib.containsS_iff _ _).1 hc))]
    split
    · rw [says_zero]
    · unfold says; by_cases hb : b = 0 <;> simp [hb]
  · rw [if_neg hc]
    have hno : h ∉ l.take i := fun hm => hc ((Lib.containsS_iff _ _).2 hm)
    by_cases hd : (l.take i).Nodup
    · rw [if_pos (hnd.2 ⟨hd, hno⟩), if_pos hd]
    · rw [if_neg (fun h9 => hd (hnd.1 h9).1), if_neg hd]
theorem bad_cell {g : Nat} {w : World} {b : Int} (h : IsBad g w b) : w.cell? ⟨g, 0, none⟩ = some (.int .i64 b) := cell_block h 0
def bigO (n m : Nat) : Int := if 4 < n ∨ 4 < m then 2 else 0
set_option maxRecDepth 100000 in
set_option maxHeartbeats 6400000 in
theorem checkObj_any (o : GObject) (v1 v2 v3 : Value) (w : World) (hl : RowAt LabelR 2 w v1 o.labels) (ho : StrAt w v2 o.owners) (hh : StrAt w v3 o.holds) (hok : OkObj o) (ht : TabOK w) (hm : ∃ m, MaxOK m w) :
    Calls Tryz.prog 18 #[objW o v1 v2 v3] w fun e w' => e = .returned (.int .i64 (objE o)) ∧ Below w.heap.size w w' := by
  obtain ⟨mx, hmx⟩ := hm
  obtain ⟨a1, c1, rfl, -, -⟩ := hl.len
  obtain ⟨a2, c2, rfl, -, -⟩ := ho.row.len
  obtain ⟨a3, c3, rfl, hc3, -⟩ := hh.row.len
  obtain ⟨n1, Hn1⟩ : ∃ n, Hid (o.labels.length = n) := ⟨_, Lib.hid rfl⟩
  obtain ⟨n2, Hn2⟩ : ∃ n, Hid (o.owners.length = n) := ⟨_, Lib.hid rfl⟩
  obtain ⟨n3, Hn3⟩ : ∃ n, Hid (o.holds.length = n) := ⟨_, Lib.hid rfl⟩
  rw [Hn1.out] at hl
  rw [Hn2.out] at ho
  rw [Hn3.out] at hh hc3
  rw [Hn1.out, Hn2.out, Hn3.out]
  obtain ⟨kc, Hkc⟩ : ∃ x, Hid (keyK o.okey = x) := ⟨_, Lib.hid rfl⟩
  obtain ⟨lc, Hlc⟩ : ∃ x, Hid (labelsE o.labels = x) := ⟨_, Lib.hid rfl⟩
  obtain ⟨ce, Hce⟩ : ∃ x, Hid (JP.canonE o.doc.data.toList = x) := ⟨_, Lib.hid rfl⟩
  obtain ⟨ct, Hct⟩ : ∃ x, Hid (JP.canonT o.doc.data.toList = x) := ⟨_, Lib.hid rfl⟩
  obtain ⟨fo, Hfo⟩ : ∃ x, Hid (firstBad (o.owners.map chk) = x) := ⟨_, Lib.hid rfl⟩
  obtain ⟨fh, Hfh⟩ : ∃ x, Hid (firstBad (o.holds.map chk) = x) := ⟨_, Lib.hid rfl⟩
  obtain ⟨R, HR⟩ : ∃ x, Hid (objE o = x) := ⟨_, Lib.hid rfl⟩
  rw [HR.out]
  have HRe : Hid (R = if says (says kc lc) (bigO n2 n3) ≠ 0 then says (says kc lc) (bigO n2 n3) else says (says (says fo fh) (twI o.holds n3)) ce) := Lib.hid (by
    rw [← HR.out, ← Hkc.out, ← Hlc.out, ← Hce.out, ← Hfo.out, ← Hfh.out, ← Hn2.out, ← Hn3.out]
    unfold twI
    rw [List.take_of_length_le (Nat.le_refl _)]
    rfl)
  have HL := Lib.hid hl
  have HO := Lib.hid ho
  have HH := Lib.hid hh
  have Hok := Lib.hid hok
  have HT := Lib.hid ht
  have HM := Lib.hid hmx
  obtain ⟨w1, hw1⟩ : ∃ w1, w1 = (w.alloc (.cells #[.string o.okey.kind, .string o.okey.space, .string o.okey.name, .slice a1 n1 c1, .slice a2 n2 c2, .slice a3 n3 c3, .bool o.ending, .string o.uid, .int .i64 o.rev, .string o.doc] 30)).alloc (.cells #[.int .i64 0] 113) := ⟨_, rfl⟩
  obtain ⟨gb, hgb⟩ : ∃ gb, gb = w.heap.size := ⟨_, rfl⟩
  obtain ⟨gc, hgc⟩ : ∃ gc, gc = w.heap.size + 1 := ⟨_, rfl⟩
  have B1 : Hid (w1.heap[gb]? = some (.cells #[.string o.okey.kind, .string o.okey.space, .string o.okey.name, .slice a1 n1 c1, .slice a2 n2 c2, .slice a3 n3 c3, .bool o.ending, .string o.uid, .int .i64 o.rev, .string o.doc] 30 (0, 0))) := Lib.hid (by rw [hw1, hgb]; exact heap_alloc_old (heap_alloc_new w _))
  have C1 : Hid (IsBad gc w1 0) := Lib.hid (by unfold IsBad; rw [hw1, hgc]; exact heap_alloc_at (World.size_alloc _ _).symm)
  have hb1 : Below w.heap.size w w1 := by rw [hw1]; exact ((Below.refl _ w).alloc (Nat.le_refl _) _).alloc (by rw [World.size_alloc]; omega) _
  have hs1 : w1.heap.size = w.heap.size + 2 := by rw [hw1, World.size_alloc, World.size_alloc]
  have Hb1 := Lib.hid hb1
  have hne : gb ≠ gc := by omega
  have hwb : w.heap.size ≤ gb := by omega
  have hwc : w.heap.size ≤ gc := by omega
  have hgl : gc < w1.heap.size := by omega
  have N1 : Hid (∀ w', But gc w1 w' → Below w.heap.size w w' ∧ w'.heap[gb]? = some (.cells #[.string o.okey.kind, .string o.okey.space, .string o.okey.name, .slice a1 n1 c1, .slice a2 n2 c2, .slice a3 n3 c3, .bool o.ending, .string o.uid, .int .i64 o.rev, .string o.doc] 30 (0, 0))) := Lib.hid fun w' hb => ⟨hb.below Hb1.out (by omega) hwc, hb.keep B1.out hne⟩
  clear hl ho hh hok ht hmx hb1
  rw [show objW o (.slice a1 n1 c1) (.slice a2 n2 c2) (.slice a3 n3 c3) = .agg #[.string o.okey.kind, .string o.okey.space, .string o.okey.name, .slice a1 n1 c1, .slice a2 n2 c2, .slice a3 n3 c3, .bool o.ending, .string o.uid, .int .i64 o.rev, .string o.doc] from rfl]
  go_enter Tryz.func18, Tryz.ntmps18
  go_upto_region 2 with fail
  rw [← hw1]
  try rw [← hgc]
  rw [← hgb]
  clear hw1 hgb hgc
  -- says(CheckKey)
  have cc := fun i => cell_block B1.out i
  have HK := Lib.hid (key_any o.okey.kind o.okey.space o.okey.name w1 (by have := Hok.out.kind; omega) (by have := Hok.out.space; omega) (by have := Hok.out.name; omega))
  have hkc : AuP.keyE o.okey.kind.data.toList o.okey.space.data.toList o.okey.name.data.toList = kc := Hkc.out
  rw [hkc] at HK
  clear hkc
  go_wp2_with fail
  refine HK.out.mono ?_
  rintro E w2 ⟨rfl, hb2⟩
  have HS := Lib.hid (says_any gc 0 kc w2 (C1.out.below hb2))
  have K2 := Lib.hid (But.of (g := gc) hb2)
  clear hb2 HK cc
  go_wp2_with fail
  refine HS.out.mono ?_
  rintro E w3 ⟨rfl, hbd, hbt⟩
  rw [zero_says] at hbd
  have C3 := Lib.hid hbd
  have K3 := Lib.hid (K2.out.trans hbt)
  clear hbd hbt HS K2
  -- says(CheckLabels)
  have cc := fun i => cell_block (N1.out w3 K3.out).2 i
  have HLb := Lib.hid (labels_any (.slice a1 n1 c1) o.labels mx w3 (HL.out.below stays_label (N1.out w3 K3.out).1) (by have := Hok.out.labels.1; omega) Hok.out.labels.2 (HM.out.below (N1.out w3 K3.out).1))
  rw [Hlc.out] at HLb
  go_wp2_with fail
  refine HLb.out.mono ?_
  rintro E w4 ⟨rfl, hb4⟩
  have HS := Lib.hid (says_any gc kc lc w4 (C3.out.below hb4))
  have K4 := Lib.hid (K3.out.trans (But.of (g := gc) hb4))
  clear hb4 HLb cc
  go_wp2_with fail
  refine HS.out.mono ?_
  rintro E w5 ⟨rfl, hbd, hbt⟩
  have C5 := Lib.hid hbd
  have K5 := Lib.hid (K4.out.trans hbt)
  clear hbd hbt HS K4
  have cc := fun i => cell_block (N1.out w5 K5.out).2 i
  obtain ⟨b5, Hb5⟩ : ∃ x, Hid (says kc lc = x) := ⟨_, Lib.hid rfl⟩
  have HRe2 : Hid (R = if says b5 (bigO n2 n3) ≠ 0 then says b5 (bigO n2 n3) else says (says (says fo fh) (twI o.holds n3)) ce) := Lib.hid (by rw [← Hb5.out]; exact HRe.out)
  have C5b : Hid (IsBad gc w5 b5) := Lib.hid (by rw [← Hb5.out]; exact C5.out)
  clear C5 HRe Hb5 C3 K3 C1
  obtain ⟨bg, Hbg⟩ : ∃ bg, Hid (decide (4 < n2 ∨ 4 < n3) = bg) := ⟨_, Lib.hid rfl⟩
  have hbig : bigO n2 n3 = if bg = true then 2 else 0 := by
    rw [← Hbg.out]
    unfold bigO
    by_cases h : 4 < n2 ∨ 4 < n3
    · rw [if_pos h, if_pos (decide_eq_true h)]
    · rw [if_neg h, if_neg (by rw [decide_eq_false h]; decide)]
  have Hbig := Lib.hid hbig
  clear hbig
  go_upto_region 4 with fail
  go_cut [29] (fun u29 wx => u29 = .bool bg ∧ w5 = wx)
  case first =>
    by_cases h4 : 4 < n2
    · have q1 : (4 : Int) < (n2 : Int) := by omega
      have hb : bg = true := by rw [← Hbg.out]; exact decide_eq_true (.inl h4)
      subst hb
      clear Hbig Hbg
      go_wp2_with fail
      go_meet
      exact ⟨rfl, rfl⟩
    · have q1 : ¬ (4 : Int) < (n2 : Int) := by omega
      by_cases h5 : 4 < n3
      · have q2 : (4 : Int) < (n3 : Int) := by omega
        have hb : bg = true := by rw [← Hbg.out]; exact decide_eq_true (.inr h5)
        subst hb
        clear Hbig Hbg
        go_wp2_with fail
        go_meet
        exact ⟨rfl, rfl⟩
      · have q2 : ¬ (4 : Int) < (n3 : Int) := by omega
        have hb : bg = false := by rw [← Hbg.out]; exact decide_eq_false (by omega)
        subst hb
        clear Hbig Hbg
        go_wp2_with fail
        go_meet
        exact ⟨rfl, rfl⟩
  case rest =>
  obtain ⟨rfl, rfl⟩ := hcut
  go_upto_if 29 with fail
  go_cut [29] (fun u29 wx => Hid (IsBad gc wx (says b5 (bigO n2 n3))) ∧ Hid (But gc w1 wx))
  case first =>
    have hbig := Hbig.out
    cases bg with
    | true =>
      rw [if_pos rfl] at hbig
      have HS := Lib.hid (says_any gc b5 2 w5 C5b.out)
      have Hb2 := Lib.hid hbig
      clear hbig Hbig
      go_wp2_with fail
      refine HS.out.mono ?_
      rintro E w6 ⟨rfl, hbd, hbt⟩
      go_wp2_with fail
      go_meet
      exact ⟨Lib.hid (by rw [Hb2.out]; exact hbd), Lib.hid (K5.out.trans hbt)⟩
    | false =>
      rw [if_neg (by decide)] at hbig
      have Hb2 := Lib.hid hbig
      clear hbig Hbig
      go_wp2_with fail
      go_meet
      exact ⟨Lib.hid (by rw [Hb2.out, says_zero]; exact C5b.out), K5⟩
  case rest =>
  obtain ⟨C6, K6⟩ := hcut
  obtain ⟨b6, Hb6⟩ : ∃ x, Hid (says b5 (bigO n2 n3) = x) := ⟨_, Lib.hid rfl⟩
  rw [Hb6.out] at C6 HRe2
  have cg := bad_cell C6.out
  clear cc C5b K5
  by_cases h0 : b6 = 0
  · subst h0
    have HRe3 : Hid (R = says (says (says fo fh) (twI o.holds n3)) ce) := Lib.hid (by rw [HRe2.out]; exact if_neg fun h => h rfl)
    clear HRe2 Hb6
    have cc := fun i => cell_block (N1.out wc K6.out).2 i
    have HNo := Lib.hid (names_any gc 0 (.slice a2 n2 c2) o.owners wc C6.out (HO.out.below (N1.out wc K6.out).1) (fun hpos a n c he hab => by
      rcases HO.out.form hpos with ⟨b, o', c', hv, _, _, hbs, _⟩
      injection he with e1
      injection hv with e2
      rw [e2] at e1
      injection e1 with e1
      rw [← e1] at hab
      have : b = gc := hab
      omega) (fun x hx => by have := Hok.out.owners.2 x hx; omega) (by have := Hok.out.owners.1; omega))
    rw [Hfo.out, zero_says] at HNo
    go_wp2_with fail
    refine HNo.out.mono ?_
    rintro E w7 ⟨rfl, hbd, hbt⟩
    have C7 := Lib.hid hbd
    have K7 := Lib.hid (K6.out.trans hbt)
    clear hbd hbt HNo cc cg C6 K6
    have cc := fun i => cell_block (N1.out w7 K7.out).2 i
    have HNh := Lib.hid (names_any gc fo (.slice a3 n3 c3) o.holds w7 C7.out (HH.out.below (N1.out w7 K7.out).1) (fun hpos a n c he hab => by
      rcases HH.out.form hpos with ⟨b, o', c', hv, _, _, hbs, _⟩
      injection he with e1
      injection hv with e2
      rw [e2] at e1
      injection e1 with e1
      rw [← e1] at hab
      have : b = gc := hab
      omega) (fun x hx => by have := Hok.out.holds.2 x hx; omega) (by have := Hok.out.holds.1; omega))
    rw [Hfh.out] at HNh
    go_wp2_with fail
    refine HNh.out.mono ?_
    rintro E w8 ⟨rfl, hbd, hbt⟩
    have C8 := Lib.hid hbd
    have K8 := Lib.hid (K7.out.trans hbt)
    obtain ⟨b8, Hb8⟩ : ∃ x, Hid (says fo fh = x) := ⟨_, Lib.hid rfl⟩
    rw [Hb8.out] at C8 HRe3
    clear hbd hbt HNh cc C7 K7 Hb8
    have cc := fun i => cell_block (N1.out w8 K8.out).2 i
    have hn3 : n3 ≤ 1048576 := by rw [← Hn3.out]; exact Hok.out.holds.1
    go_wp2_with fail
    clear cc
    go_loopg [52] n3 (fun k u52 wr => ∃ i : Nat, i + k = n3 ∧ u52 = .int .i64 (i : Int) ∧ Hid (IsBad gc wr (says b8 (twI o.holds i))) ∧ Hid (But gc w1 wr))
    case atStart => exact ⟨0, by omega, rfl, Lib.hid (by unfold twI; rw [List.take_zero, if_pos List.nodup_nil, says_zero]; exact C8.out), K8⟩
    case round =>
      obtain ⟨i, hik, rfl, Cr, Kr⟩ := hrel
      cases gk with
      | zero =>
        obtain rfl : i = n3 := by omega
        have cc := fun i => cell_block (N1.out wr Kr.out).2 i
        have HCn := Lib.hid (canon_any o.doc wr Hok.out.doc (HT.out.below (N1.out wr Kr.out).1))
        rw [Hct.out, Hce.out] at HCn
        obtain ⟨b9, Hb9⟩ : ∃ x, Hid (says b8 (twI o.holds i) = x) := ⟨_, Lib.hid rfl⟩
        rw [Hb9.out] at Cr HRe3
        clear Hb9
        go_wp2_with fail
        refine HCn.out.mono ?_
        rintro E w10 ⟨rfl, hb10⟩
        have HS := Lib.hid (says_any gc b9 ce w10 (Cr.out.below hb10))
        have K10 := Lib.hid (Kr.out.trans (But.of (g := gc) hb10))
        clear hb10 HCn cc Cr Kr
        go_wp2_with fail
        refine HS.out.mono ?_
        rintro E w11 ⟨rfl, hbd, hbt⟩
        have C11 := Lib.hid hbd
        have K11 := Lib.hid (K10.out.trans hbt)
        have cg := bad_cell hbd
        rw [← HRe3.out] at cg
        clear hbd hbt HS K10
        go_wp2_with fail
        go_ret
        exact ⟨rfl, (N1.out w11 K11.out).1⟩
      | succ k =>
        have hil : i < n3 := by omega
        obtain ⟨x, hx⟩ : ∃ x, o.holds[i]? = some x := ⟨o.holds[i]'(by rw [Hn3.out]; exact hil), List.getElem?_eq_getElem _⟩
        have hrow := HH.out.below (N1.out wr Kr.out).1
        obtain ⟨b, o', c', hv, _, _, _, hcell⟩ := hrow.form (by rw [Hn3.out]; omega)
        injection hv with u1 u2 u3
        subst u1
        clear u2 u3
        have e0 := hcell i x hx
        have HCt := Lib.hid (contains_any _ (o.holds.take i) x wr (str_take hrow (i := i) (by rw [Hn3.out]; omega)) (by rw [List.length_take]; have := Hok.out.holds.1; omega))
        have cc := fun i => cell_block (N1.out wr Kr.out).2 i
        have q1 : (0 : Int) ≤ (i : Int) := by omega
        have q2 : (i : Int) < (n3 : Int) := by omega
        have q3 : i ≤ c3 := by omega
        have q4 : (i : Int) ≤ (c3 : Int) := by omega
        have Hst := Lib.hid (tw_step hx b8)
        obtain ⟨cn, Hcn⟩ : ∃ x', Hid (Lib.containsS (o.holds.take i) x = x') := ⟨_, Lib.hid rfl⟩
        rw [Hcn.out] at HCt Hst
        clear hcell hrow hx
        go_wp2_with fail
        refine HCt.out.mono ?_
        rintro E w9 ⟨rfl, rfl⟩
        cases cn with
        | true =>
          have hst := Hst.out
          rw [if_pos rfl] at hst
          have HS := Lib.hid (says_any gc (says b8 (twI o.holds i)) 5 wr Cr.out)
          rw [← hst] at HS
          clear hst Hst HCt cc e0
          go_wp2_with fail
          refine HS.out.mono ?_
          rintro E w10 ⟨rfl, hbd, hbt⟩
          have C10 := Lib.hid hbd
          have K10 := Lib.hid (Kr.out.trans hbt)
          clear hbd hbt HS
          go_wp2_with fail
          go_roundg k
          case measure => omega
          case rel => exact ⟨i + 1, by omega, by go_num, C10, K10⟩
        | false =>
          have hst := Hst.out
          rw [if_neg (by decide)] at hst
          have C10 : Hid (IsBad gc wr (says b8 (twI o.holds (i + 1)))) := Lib.hid (by rw [hst]; exact Cr.out)
          clear hst Hst HCt cc e0
          go_wp2_with fail
          go_roundg k
          case measure => omega
          case rel => exact ⟨i + 1, by omega, by go_num, C10, Kr⟩
  · have q0 : (b6 == 0) = false := by rw [beq_eq_false_iff_ne]; exact h0
    have HRe3 : Hid (R = b6) := Lib.hid (by rw [HRe2.out]; exact if_pos h0)
    clear HRe2 h0 Hb6
    go_wp2_with fail
    go_ret
    exact ⟨congrArg (fun x => Ending.returned (.int .i64 x)) HRe3.out.symm, (N1.out wc K6.out).1⟩
end Sto
end Go.Proofs.YtnnceaapodgfbaaGreatDoor
namespace Go.Proofs.YtnnceaapodgfbaaGreatDoor
namespace Sto
open Go.RowKit
end Sto
end Go.Proofs.YtnnceaapodgfbaaGreatDoor
namespace Go.Proofs.YtnnceaapodgfbaaGreatDoor
open Go.RowKit Go.ChangeMaps Go.MapKept Go.WideMaps
open Go.WideElems (Fit rd rg pl rd_val rd_key rg_of rd_mk other_key)
open Go.Maps (Keyed)
variable {κ : Type}
theorem pair_one {α β : Type} {f : α → β} : ∀ {l : List α}, (l.map f).Pairwise (· ≠ ·) → ∀ {x y : α}, x ∈ l → y ∈ l → f x = f y → x = y
  | [], _, _, _, h, _, _ => by cases h
  | a :: r, hp, x, y, hx, hy, he => by
    rw [List.map_cons, List.pairwise_cons] at hp
    rcases List.mem_cons.1 hx with e1 | hx2
    · rcases List.mem_cons.1 hy with e2 | hy2
      · rw [e1, e2]
      · exact absurd (by rw [← e1]; exact he) (hp.1 _ (List.mem_map.2 ⟨y, hy2, rfl⟩))
    · rcases List.mem_cons.1 hy with e2 | hy2
      · exact absurd (by rw [← e2]; exact he.symm) (hp.1 _ (List.mem_map.2 ⟨x, hx2, rfl⟩))
      · exact pair_one hp.2 hx2 hy2 he
def EntryAt {P : Program} {K : TypeId} [DecidableEq κ] (C : KeyCode P K κ) (t : TypeId) (w1 : World) (b n : Nat) (f : κ → Option Value) (k : κ) (st : Value) : Prop :=
  ∀ w2 v, w2.heap[b]? = w1.heap[b]? → ∃ w3, (Instr.entryStore t (.map (some b)) st v).run P w2 = .ok () w3 ∧ w2.mapTurned w3 b ∧ MapK C w3 b (n + 1) (updK f k v)
theorem EntryAt.block {P : Program} {K : TypeId} [DecidableEq κ] {C : KeyCode P K κ} {t : TypeId} {w1 w1' : World} {b n : Nat} {f : κ → Option Value} {k : κ} {st : Value} (h : EntryAt C t w1 b n f k st) (hb : w1'.heap[b]? = w1.heap[b]?) : EntryAt C t w1' b n f k st :=
  fun w2 v hv => h w2 v (hv.trans hb)
theorem MapK.entry [DecidableEq κ] {P : Program} {K e t : TypeId} {C : KeyCode P K κ} {w : World} {b n : Nat} {f : κ → Option Value} (h : MapK C w b n f) (hL : KeyLaw P K) (ht : P.underlying t = some (.map K e)) (hn : n < maxLen) {z : Value} (hz : ∀ u : World, (zeroValue e).run P u = .ok z u) (k : κ) (hs : C.ok k) :
    ∃ st w1, (Instr.mapEntry t (.map (some b)) (C.val k)).run P w = .ok (.tuple #[(f k).getD z, st]) w1 ∧ w.mapTurned w1 b ∧ EntryAt C t w1 b n f k st := by
  have hlook := (h.look ht (hz w) k hs).2
  obtain ⟨w', hst, hm, htr⟩ := h.store ht hn k hs (.bool false)
  have hstore := fun v => h.store ht hn k hs v
  obtain ⟨D, ⟨es, clock, hb, F, hsz, hD⟩, h2, h3⟩ := h
  have hkey := C.key k hs
  obtain ⟨v0, st, es1, clock1, hrun, hv0, hen⟩ := WideElems.entry_then_store hL ht hz hb F hkey
  have hval : v0 = (f k).getD z := by
    rcases C.keyed.find w hkey es.toList F.keys with ⟨q1, q2⟩ | ⟨j, e1, q1, q2, q3⟩
    · rcases hv0 with ⟨e0, g1, g2, _⟩ | ⟨_, g2⟩
      · exact absurd g2 (q2 e0 g1)
      · have hr : (Instr.lookup t (.map (some b)) (C.val k) false).run P w = .ok z w := by
          simp [Instr.lookup, run_underlying ht, MapKept.run_getObj_map hb, C.keyed.check w es.isEmpty hkey, q1, hz, Result.andThen]
        rw [hr] at hlook
        injection hlook with hlook
        rw [g2, ← hlook]
    · have hr : (Instr.lookup t (.map (some b)) (C.val k) false).run P w = .ok e1.val w := by
        simp [Instr.lookup, run_underlying ht, MapKept.run_getObj_map hb, C.keyed.check w es.isEmpty hkey, q1, hz, Result.andThen]
      rw [hr] at hlook
      injection hlook with hlook
      have hmem : e1 ∈ es.toList := List.mem_of_getElem? q2
      rcases hv0 with ⟨e0, g1, g2, g3⟩ | ⟨g1, _⟩
      · have hone : e0 = e1 := by
          have hp : (es.toList.map fun x => (rg P K rawE x).1).Pairwise (· ≠ ·) := by
            have := F.apart hL
            rw [List.pairwise_map] at this ⊢
            exact this
          refine pair_one hp g1 hmem ?_
          obtain ⟨y0, hy0⟩ := F.reads e0 g1
          obtain ⟨y1, hy1⟩ := F.reads e1 hmem
          rw [rg_of hy0, rg_of hy1]
          have k0 := rd_key hy0
          have k1 := rd_key hy1
          rw [g2] at k0
          rw [q3] at k1
          exact Option.some.inj (k0.symm.trans k1)
        rw [g3, hone, hlook]
      · exact absurd q3 (g1 e1 hmem)
  refine ⟨goInt st, _, by rw [hrun, hval], ⟨es, clock, es1, clock1, hb, rfl⟩, fun w2 v hv => ?_⟩
  have hb1 : (setBlock w b (.map es1 clock1)).heap[b]? = some (.map es1 clock1) := heap_setBlock_same hb _
  rw [hb1] at hv
  obtain ⟨es', clock', g1, g2⟩ := hen w2 v hv
  obtain ⟨w4, r1, r2, r3⟩ := hstore v
  have hw4 : w4 = setBlock w b (.map es' clock') := by
    have := r1.symm.trans g2
    injection this
  refine ⟨_, g1, ⟨es1, clock1, es', clock', hv, rfl⟩, ?_⟩
  rw [hw4] at r2
  refine r2.block ?_
  rw [heap_setBlock_same hv, heap_setBlock_same hb]
section
variable {P : Program} {K : TypeId} {C : KeyCode P K κ} (w : World) {ops : Array Oper} {rest : List Oper} {o : Oper} {a : Act} {Q : Exit → Act → World → Prop}
end
end Go.Proofs.YtnnceaapodgfbaaGreatDoor
namespace Go.Proofs.YtnnceaapodgfbaaGreatDoor
open Go
section
variable {P : Program} {ops : Array Oper} {md : Region.Mode}
end
end Go.Proofs.YtnnceaapodgfbaaGreatDoor
namespace Go.Proofs.YtnnceaapodgfbaaGreatDoor
namespace Sto
open Go.RowKit
end Sto
end Go.Proofs.YtnnceaapodgfbaaGreatDoor
namespace Go.Proofs.YtnnceaapodgfbaaGreatDoor
namespace Sto
open Go.RowKit
open JP (Bs)
inductive Fit : List GEvent → Prop
  | nil : Fit []
  | snoc {l : List GEvent} {e : GEvent} : Fit l → Step l e → Fit (l ++ [e])
end Sto
end Go.Proofs.YtnnceaapodgfbaaGreatDoor
namespace Go.Proofs.YtnnceaapodgfbaaGreatDoor
namespace Sto
open Go.RowKit
structure Home (w0 : World) (D : Dom) (w : World) : Prop where
  tab : TabOK w0
  max : ∃ m, MaxOK m w0
  bel : Below w0.heap.size w0 w
  own : ∀ b, D b → w0.heap.size ≤ b
theorem Home.only {w0 w w' : World} {D D' : Dom} (h : Home w0 D w) (hO : Only D w w') (hD : ∀ b, D' b → D b ∨ w.heap.size ≤ b) : Home w0 D' w' :=
  ⟨h.tab, h.max, h.bel.trans (hO.below h.own h.bel.size), fun b hb => (hD b hb).elim (h.own b) fun h9 => by have := h.bel.size; omega⟩
theorem Home.below {w0 w w' : World} {D : Dom} (h : Home w0 D w) (hb : Below w.heap.size w w') : Home w0 D w' := h.only (Only.of hb) fun _ h => .inl h
theorem objIn_no (w : World) : ObjIn (fun _ => False) w nilS nilS nilS noObj := ⟨OwnX.nil, OwnX.nil, OwnX.nil⟩
theorem results_two_obj {fn : Func} {p q : Tmp} (h : fn.results = #[.cell p 30, .tmp q]) (tmps : Array Value) (w : World) (g : Nat) (cs : Array Value) (hp : tmps.getD p undef = .pointer (some ⟨g, 0, none⟩)) (hg : w.heap[g]? = some (.cells cs 30 (0, 0))) (hs : cs.size = 10) :
    (results fn tmps).run Tryz.prog w = .ok (.tuple #[.agg cs, tmps.getD q undef]) w :=
  results_two_box h tmps w g _ cs (0, 0) _ hp hg Tryz.underlying30 rfl (by rw [hs]; exact Tryz.sizeObj)
end Sto
end Go.Proofs.YtnnceaapodgfbaaGreatDoor
namespace Go.Proofs.YtnnceaapodgfbaaGreatDoor
namespace Adm
open Go.RowKit
open JP (JV Bs)
def finP (q : Int × Nat × GSt) (k : GSt → GObject × Nat × Int) : GObject × Nat × Int := if q.1 ≠ 0 then (Sto.noObj, q.2.1, q.1) else k q.2.2
def doneO (o : GObject) (st : GSt) : GObject × Nat × Int := (outO o st, 0, 0)
def nextB (b : Bool) (l : List GPlugin) (o : GObject) (st : GSt) : GObject × Nat × Int := bif b then finP (passP false l 0 st) (doneO o) else doneO o st
def restB (b : Bool) (l : List GPlugin) (o : GObject) (i : Nat) (st : GSt) : GObject × Nat × Int := finP (passP b (l.drop i) i st) (nextB b l o)
theorem run_rest {l : List GPlugin} {o : GObject} (h : checkE l o = 0) : runP l o = restB true l o 0 (startS o) := by
  unfold runP
  rw [if_neg (fun h9 => h9 h)]
  rfl
theorem rest_end {b : Bool} {l : List GPlugin} {o : GObject} {st : GSt} : restB b l o l.length st = nextB b l o st := by
  unfold restB
  rw [List.drop_length]
  rfl
theorem rest_at {b : Bool} {l : List GPlugin} {o : GObject} {i : Nat} {st : GSt} {p : GPlugin} (hp : l[i]? = some p) : restB b l o i st = if b ≠ addsB p then restB b l o (i + 1) st else if (seeP p st).1 ≠ 0 then (Sto.noObj, i, (seeP p st).1) else restB b l o (i + 1) (seeP p st).2 := by
  unfold restB
  obtain ⟨hi, rfl⟩ := List.getElem?_eq_some_iff.1 hp
  rw [List.drop_eq_getElem_cons hi, passP]
  by_cases h1 : b ≠ addsB l[i]
  · rw [if_pos h1, if_pos h1]
  · rw [if_neg h1, if_neg h1]
    by_cases h2 : (seeP l[i] st).1 ≠ 0
    · rw [if_pos h2, if_pos h2]
      unfold finP
      rw [if_pos h2]
    · rw [if_neg h2, if_neg h2]
theorem checkL_ok {l : List GPlugin} (h : checkL l = 0) : l.length ≤ 8 ∧ ∀ p ∈ l, checkP p = 0 := by
  unfold checkL at h
  by_cases h8 : 8 < l.length
  · rw [if_pos h8] at h; cases h
  · rw [if_neg h8] at h
    exact ⟨by omega, errF_zero.1 h⟩
theorem checkE_ok {l : List GPlugin} {o : GObject} (h : checkE l o = 0) : checkL l = 0 ∧ Sto.objE o = 0 := by
  unfold checkE at h
  by_cases h1 : checkL l ≠ 0
  · rw [if_pos h1] at h; exact absurd h h1
  · rw [if_neg h1] at h; exact ⟨Decidable.not_not.1 h1, h⟩
theorem start_good {o : GObject} (h : Sto.objE o = 0) : GoodS (startS o) := by
  have h1 : Sto.firstO o = 0 := by
    unfold Sto.objE at h
    by_cases h1 : Sto.firstO o ≠ 0
    · rw [if_pos h1] at h; exact absurd h h1
    · exact Decidable.not_not.1 h1
  have h2 : labelsE o.labels = 0 := by
    have h3 := h1
    unfold Sto.firstO at h3
    exact ((says_eq_zero _ _).1 ((says_eq_zero _ _).1 h3).1).2
  have h4 : (JP.readL o.doc.data.toList).2 = 0 := by
    unfold Sto.objE at h
    rw [if_neg (fun h9 => h9 h1)] at h
    exact ((says_eq_zero _ _).1 h).2
  exact ⟨h2, good_read h4⟩
end Adm
end Go.Proofs.YtnnceaapodgfbaaGreatDoor
