/- Texts of ours joined. -/
import Derived.Deep.LoopGhost
import Derived.Laws.StructEq
import Derived.Test.YtnnceaapodgfbaaGreatDoorMy8
set_option linter.unusedVariables false
set_option linter.unusedSimpArgs false
namespace Go.Proofs.YtnnceaapodgfbaaGreatDoor
open Go.RowKit
theorem eqS_no {l m : List ByteArray} {i : Nat} {x y : ByteArray} (hx : l[i]? = some x) (hy : m[i]? = some y) (h : x ≠ y) : decide (l = m) = false := by
  rw [decide_eq_false_iff_not]
  intro e
  subst e
  rw [hx] at hy
  cases hy
  exact h rfl
theorem eqS_yes {l m : List ByteArray} (h : l.length = m.length) (k : ∀ (i : Nat) (x y : ByteArray), i < l.length → l[i]? = some x → m[i]? = some y → x = y) : decide (l = m) = true := by
  rw [decide_eq_true_iff]
  apply List.ext_getElem h
  intro i hi hj
  exact k i _ _ hi (List.getElem?_eq_getElem hi) (List.getElem?_eq_getElem hj)
set_option maxRecDepth 100000 in
set_option maxHeartbeats 800000 in
theorem eqStrs_any (v1 v2 : Value) (l m : List ByteArray) (w : World) (h1 : StrAt w v1 l) (h2 : StrAt w v2 m) (hl : l.length ≤ 8388608) (hm : m.length ≤ 8388608) :
    Calls Tryz.prog 59 #[v1, v2] w fun e w' => e = .returned (.bool (decide (l = m))) ∧ w = w' := by
  obtain ⟨a1, c1, rfl, _, _⟩ := h1.len
  obtain ⟨a2, c2, rfl, _, _⟩ := h2.len
  have H1 := Lib.hid h1
  have H2 := Lib.hid h2
  clear h1 h2
  by_cases hlen : l.length = m.length
  · have q1 : ((l.length : Int) != (m.length : Int)) = false := by rw [bne_eq_false_iff_eq]; omega
    have Hlen := Lib.hid hlen
    clear hlen
    go_enter Tryz.func59, Tryz.ntmps59
    go_wp2_with fail
    clear q1
    go_loopg [14] l.length (fun g u14 wr => ∃ i : Nat, i + g = l.length ∧ u14 = .int .i64 (i : Int) ∧ Hid (∀ (k : Nat) (x y : ByteArray), k < i → l[k]? = some x → m[k]? = some y → x = y) ∧ w = wr)
    case atStart => exact ⟨0, by omega, rfl, Lib.hid (fun k _ _ hk => by omega), rfl⟩
    case round =>
      obtain ⟨i, hig, rfl, Hall, rfl⟩ := hrel
      cases gk with
      | zero =>
        obtain rfl : i = l.length := by omega
        have Hyes : Hid (decide (l = m) = true) := eqS_yes Hlen.out fun k x y hk hx hy => Hall.out k x y hk hx hy
        go_wp2_with fail
        go_ret
        exact ⟨congrArg (fun b => Ending.returned (Value.bool b)) Hyes.out.symm, rfl⟩
      | succ g =>
        have hil : i < l.length := by omega
        have him : i < m.length := by have := Hlen.out; omega
        obtain ⟨x, hx⟩ : ∃ x, l[i]? = some x := ⟨l[i]'(by omega), List.getElem?_eq_getElem _⟩
        obtain ⟨y, hy⟩ : ∃ y, m[i]? = some y := ⟨m[i]'(by omega), List.getElem?_eq_getElem _⟩
        obtain ⟨b, o, c', hv, _, _, hbs, hcell⟩ := H1.out.form (by omega)
        injection hv with u1 u2 u3
        subst u1
        clear u2 u3
        obtain ⟨b', o', c'', hv, _, _, hbs', hcell'⟩ := H2.out.form (by omega)
        injection hv with u1 u2 u3
        subst u1
        clear u2 u3
        have e0 : w.cell? ⟨b, o + i, none⟩ = some (.string x) := hcell i x hx
        have f0 : w.cell? ⟨b', o' + i, none⟩ = some (.string y) := hcell' i y hy
        have q1 : (0 : Int) ≤ (i : Int) := by omega
        have q2 : (i : Int) < (l.length : Int) := by omega
        have q3 : (i : Int) < (m.length : Int) := by omega
        have Hx := Lib.hid hx
        have Hy := Lib.hid hy
        clear hcell hcell' hx hy
        by_cases he : x = y
        · have Hall2 : Hid (∀ (k : Nat) (x y : ByteArray), k < i + 1 → l[k]? = some x → m[k]? = some y → x = y) := Lib.hid fun k x' y' hk hx' hy' => by
            rcases Nat.lt_or_ge k i with h | h
            · exact Hall.out k x' y' h hx' hy'
            · obtain rfl : k = i := by omega
              have a := Hx.out; have b := Hy.out
              rw [a] at hx'; rw [b] at hy'
              cases hx'; cases hy'
              exact he
          have q4 : (x.toList == y.toList) = true := by rw [he]; simp
          clear he
          go_wp2_with fail
          go_roundg g
          case measure => omega
          case rel => exact ⟨i + 1, by omega, by go_num, Hall2, rfl⟩
        · have Hno : Hid (decide (l = m) = false) := Lib.hid (eqS_no Hx.out Hy.out he)
          have q4 : (x.toList == y.toList) = false := by rw [beq_eq_false_iff_ne]; exact fun h => he (toList_inj h)
          clear he
          go_wp2_with fail
          go_ret
          exact ⟨congrArg (fun b => Ending.returned (Value.bool b)) Hno.out.symm, rfl⟩
  · have q1 : ((l.length : Int) != (m.length : Int)) = true := by rw [bne_iff_ne]; omega
    have Hno : Hid (decide (l = m) = false) := by show _ = _; rw [decide_eq_false_iff_not]; exact fun h => hlen (congrArg _ h)
    clear hlen
    go_enter Tryz.func59, Tryz.ntmps59
    go_wp2_with fail
    go_ret
    exact ⟨congrArg (fun b => Ending.returned (Value.bool b)) Hno.out.symm, rfl⟩
end Go.Proofs.YtnnceaapodgfbaaGreatDoor
namespace Go.Proofs.YtnnceaapodgfbaaGreatDoor
namespace Sto
open Go.RowKit
theorem below_drewN2 {B : Nat} {a w : World} (h : Below B a w) (n : Nat) : Below B a (w.drewN n) := ⟨h.os, h.tape, h.output, h.size, h.block⟩
theorem Tryz.fieldsLabQ : Tryz.prog.underlying 66 = some (.struct (Tryz.prog.fieldsOf 66)) := by kernel_rfl
theorem Tryz.heldLabQ : Tryz.prog.stoodInHeld 66 = false := by kernel_rfl
theorem run_neqLab (a b : ByteArray) (w : World) : (binOp .neq 66 (.agg #[.string a, .string b]) (.agg #[.string a, .string b])).run Tryz.prog w = .ok (.bool false) w := by
  rw [run_neq_struct, run_equalIn_agg w 9999 _ _ _ Tryz.fieldsLabQ Tryz.heldLabQ]
  simp [Op.eqFields, Program.fieldsOf, Tryz.underlying66]
  go_simp
set_option maxRecDepth 100000 in
set_option maxHeartbeats 1600000 in
theorem eqLab_yes (v1 v2 : Value) (l : List GLabel) (w : World) (h1 : RowAt LabelR 2 w v1 l) (h2 : RowAt LabelR 2 w v2 l) (hl : l.length ≤ 1048576) :
    Calls Tryz.prog 58 #[v1, v2] w fun e w' => e = .returned (.bool true) ∧ Below w.heap.size w w' := by
  obtain ⟨a1, c1, rfl, _, _⟩ := h1.len
  obtain ⟨a2, c2, rfl, _, _⟩ := h2.len
  have H1 := Lib.hid h1
  have H2 := Lib.hid h2
  clear h1 h2
  have q1 : ((l.length : Int) != (l.length : Int)) = false := by rw [bne_eq_false_iff_eq]
  go_enter Tryz.func58, Tryz.ntmps58
  go_wp2_with fail
  clear q1
  go_loopg [14] l.length (fun g u14 wr => ∃ i : Nat, i + g = l.length ∧ u14 = .int .i64 (i : Int) ∧ Below w.heap.size w wr)
  case atStart => exact ⟨0, by omega, rfl, Below.refl _ _⟩
  case round =>
    obtain ⟨i, hig, rfl, hbel⟩ := hrel
    cases gk with
    | zero =>
      obtain rfl : i = l.length := by omega
      go_wp2_with fail
      go_ret
      exact ⟨rfl, hbel⟩
    | succ g =>
      have hil : i < l.length := by omega
      obtain ⟨x, hx⟩ : ∃ x, l[i]? = some x := ⟨l[i]'(by omega), List.getElem?_eq_getElem _⟩
      obtain ⟨b, o, c', hv, _, _, hbs, hcell⟩ := H1.out.form (by omega) (by omega)
      cases hv
      obtain ⟨cs, _, hcc, hR⟩ := hcell i x hx
      obtain rfl : cs = [.string x.key, .string x.val] := hR
      obtain ⟨b', o', c'', hv, _, _, hbs', hcell'⟩ := H2.out.form (by omega) (by omega)
      cases hv
      obtain ⟨cs', _, hcc', hR'⟩ := hcell' i x hx
      obtain rfl : cs' = [.string x.key, .string x.val] := hR'
      have e0 : wr.cell? ⟨b, o + i * 2, none⟩ = some (.string x.key) := (hbel.cell (p := ⟨b, _, none⟩) hbs).trans (by simpa using hcc 0 _ rfl)
      have e1 : wr.cell? ⟨b, o + i * 2 + 1, none⟩ = some (.string x.val) := (hbel.cell (p := ⟨b, _, none⟩) hbs).trans (hcc 1 _ rfl)
      have f0 : wr.cell? ⟨b', o' + i * 2, none⟩ = some (.string x.key) := (hbel.cell (p := ⟨b', _, none⟩) hbs').trans (by simpa using hcc' 0 _ rfl)
      have f1 : wr.cell? ⟨b', o' + i * 2 + 1, none⟩ = some (.string x.val) := (hbel.cell (p := ⟨b', _, none⟩) hbs').trans (hcc' 1 _ rfl)
      have hbs2 : b' < wr.heap.size := by have := hbel.size; omega
      have q1 : (0 : Int) ≤ (i : Int) := by omega
      have q2 : (i : Int) < (l.length : Int) := by omega
      have hne := run_neqLab x.key x.val
      have Hbel : ∀ o : Obj, Hid (Below w.heap.size w (wr.alloc o)) := fun o => Lib.hid (hbel.alloc hbel.size o)
      clear hcc hcc' hcell hcell' hx hbel
      go_wp2_with fail
      go_quiet (fail)
      go_wp2_with fail
      go_roundg g
      case measure => omega
      case rel => exact ⟨i + 1, by omega, by go_num, below_drewN2 (Hbel _).out _⟩
theorem Tryz.fieldsKeyQ : Tryz.prog.underlying 24 = some (.struct (Tryz.prog.fieldsOf 24)) := by kernel_rfl
theorem Tryz.heldKeyQ : Tryz.prog.stoodInHeld 24 = false := by kernel_rfl
theorem run_eqKey (a b c : ByteArray) (w : World) : (binOp .eql 24 (.agg #[.string a, .string b, .string c]) (.agg #[.string a, .string b, .string c])).run Tryz.prog w = .ok (.bool true) w := by
  rw [run_eql_struct, run_equalIn_agg w 9999 _ _ _ Tryz.fieldsKeyQ Tryz.heldKeyQ]
  simp [Op.eqFields, Program.fieldsOf, Tryz.underlying24]
  go_simp
set_option maxRecDepth 100000 in
set_option maxHeartbeats 3200000 in
theorem sameObj_yes (o : GObject) (v1 v2 v3 z1 z2 z3 : Value) (w : World) (hl : RowAt LabelR 2 w v1 o.labels) (ho : StrAt w v2 o.owners) (hh : StrAt w v3 o.holds) (kl : RowAt LabelR 2 w z1 o.labels) (ko : StrAt w z2 o.owners) (kh : StrAt w z3 o.holds) (hok : OkObj o) :
    Calls Tryz.prog 19 #[objW o v1 v2 v3, objW o z1 z2 z3] w fun e w' => e = .returned (.bool true) ∧ Below w.heap.size w w' := by
  obtain ⟨a1, c1, rfl, -, -⟩ := hl.len
  obtain ⟨a2, c2, rfl, -, -⟩ := ho.row.len
  obtain ⟨a3, c3, rfl, -, -⟩ := hh.row.len
  obtain ⟨b1, d1, rfl, -, -⟩ := kl.len
  obtain ⟨b2, d2, rfl, -, -⟩ := ko.row.len
  obtain ⟨b3, d3, rfl, -, -⟩ := kh.row.len
  obtain ⟨n1, Hn1⟩ : ∃ n, Hid (o.labels.length = n) := ⟨_, Lib.hid rfl⟩
  obtain ⟨n2, Hn2⟩ : ∃ n, Hid (o.owners.length = n) := ⟨_, Lib.hid rfl⟩
  obtain ⟨n3, Hn3⟩ : ∃ n, Hid (o.holds.length = n) := ⟨_, Lib.hid rfl⟩
  rw [Hn1.out] at hl kl ⊢
  rw [Hn2.out] at ho ko ⊢
  rw [Hn3.out] at hh kh ⊢
  have bl := hok.labels.1
  have bo := hok.owners.1
  have bh := hok.holds.1
  obtain ⟨w1, hw1⟩ : ∃ w1, w1 = (w.alloc (.cells #[.string o.okey.kind, .string o.okey.space, .string o.okey.name, .slice a1 n1 c1, .slice a2 n2 c2, .slice a3 n3 c3, .bool o.ending, .string o.uid, .int .i64 o.rev, .string o.doc] 30)).alloc (.cells #[.string o.okey.kind, .string o.okey.space, .string o.okey.name, .slice b1 n1 d1, .slice b2 n2 d2, .slice b3 n3 d3, .bool o.ending, .string o.uid, .int .i64 o.rev, .string o.doc] 30) := ⟨_, rfl⟩
  obtain ⟨ga, hga⟩ : ∃ ga, ga = w.heap.size := ⟨_, rfl⟩
  obtain ⟨gb, hgb⟩ : ∃ gb, gb = w.heap.size + 1 := ⟨_, rfl⟩
  have XA : Hid (w1.heap[ga]? = some (.cells #[.string o.okey.kind, .string o.okey.space, .string o.okey.name, .slice a1 n1 c1, .slice a2 n2 c2, .slice a3 n3 c3, .bool o.ending, .string o.uid, .int .i64 o.rev, .string o.doc] 30 (0, 0))) := Lib.hid (by rw [hw1, hga]; exact heap_alloc_old (heap_alloc_new w _))
  have XB : Hid (w1.heap[gb]? = some (.cells #[.string o.okey.kind, .string o.okey.space, .string o.okey.name, .slice b1 n1 d1, .slice b2 n2 d2, .slice b3 n3 d3, .bool o.ending, .string o.uid, .int .i64 o.rev, .string o.doc] 30 (0, 0))) := Lib.hid (by rw [hw1, hgb]; exact heap_alloc_at (World.size_alloc _ _).symm)
  have hb1 : Below w.heap.size w w1 := by rw [hw1]; exact ((Below.refl _ w).alloc (Nat.le_refl _) _).alloc (by rw [World.size_alloc]; omega) _
  have HB := Lib.hid hb1
  have E1 := fun w' (hb : Below w1.heap.size w1 w') => Lib.hid (eqLab_yes (.slice a1 n1 c1) (.slice b1 n1 d1) o.labels w' (hl.below stays_label (hb1.trans (hb.mono hb1.size))) (kl.below stays_label (hb1.trans (hb.mono hb1.size))) bl)
  have E2 : ∀ w', Below w1.heap.size w1 w' → Hid (Calls Tryz.prog 59 #[.slice a2 n2 c2, .slice b2 n2 d2] w' fun e w'' => e = .returned (.bool true) ∧ w' = w'') := fun w' hb => Lib.hid (by
    have h9 := eqStrs_any (.slice a2 n2 c2) (.slice b2 n2 d2) o.owners o.owners w' (ho.below (hb1.trans (hb.mono hb1.size))) (ko.below (hb1.trans (hb.mono hb1.size))) (by omega) (by omega)
    rw [decide_eq_true rfl] at h9; exact h9)
  have E3 : ∀ w', Below w1.heap.size w1 w' → Hid (Calls Tryz.prog 59 #[.slice a3 n3 c3, .slice b3 n3 d3] w' fun e w'' => e = .returned (.bool true) ∧ w' = w'') := fun w' hb => Lib.hid (by
    have h9 := eqStrs_any (.slice a3 n3 c3) (.slice b3 n3 d3) o.holds o.holds w' (hh.below (hb1.trans (hb.mono hb1.size))) (kh.below (hb1.trans (hb.mono hb1.size))) (by omega) (by omega)
    rw [decide_eq_true rfl] at h9; exact h9)
  have hk := run_eqKey o.okey.kind o.okey.space o.okey.name
  clear hl ho hh kl ko kh hok bl bo bh hb1
  rw [show objW o (.slice a1 n1 c1) (.slice a2 n2 c2) (.slice a3 n3 c3) = .agg #[.string o.okey.kind, .string o.okey.space, .string o.okey.name, .slice a1 n1 c1, .slice a2 n2 c2, .slice a3 n3 c3, .bool o.ending, .string o.uid, .int .i64 o.rev, .string o.doc] from rfl, show objW o (.slice b1 n1 d1) (.slice b2 n2 d2) (.slice b3 n3 d3) = .agg #[.string o.okey.kind, .string o.okey.space, .string o.okey.name, .slice b1 n1 d1, .slice b2 n2 d2, .slice b3 n3 d3, .bool o.ending, .string o.uid, .int .i64 o.rev, .string o.doc] from rfl]
  go_enter Tryz.func19, Tryz.ntmps19
  go_upto_region 1 with fail
  rw [← hw1]
  try rw [← hgb]
  rw [← hga]
  clear hw1 hga hgb
  have ca := fun i => cell_block XA.out i
  have cb := fun i => cell_block XB.out i
  go_wp2_with fail
  refine (E1 w1 (Below.refl _ _)).out.mono ?_
  rintro E w2 ⟨rfl, hb2⟩
  have A2 := Lib.hid (below_block hb2 XA.out)
  have B2 := Lib.hid (below_block hb2 XB.out)
  have HB2 := Lib.hid (HB.out.trans (hb2.mono HB.out.size))
  have F2 := E2 w2 hb2
  have F3 := E3 w2 hb2
  clear hb2 ca cb E1 E2 E3 XA XB HB
  have ca := fun i => cell_block A2.out i
  have cb := fun i => cell_block B2.out i
  go_wp2_with fail
  refine F2.out.mono ?_
  rintro E w3 ⟨rfl, hw3⟩
  subst hw3
  go_wp2_with fail
  refine F3.out.mono ?_
  rintro E w3 ⟨rfl, hw3⟩
  subst hw3
  go_wp2_with fail
  go_ret
  exact ⟨rfl, HB2.out⟩
end Sto
end Go.Proofs.YtnnceaapodgfbaaGreatDoor
namespace Go.Proofs.YtnnceaapodgfbaaGreatDoor
namespace Sto
open Go.RowKit
theorem okSt_update {S : St} (h : OkSt S) {o : GObject} (ho : OkObj o) (hr : S.rev ≤ 4194303) : OkSt (update S o).1 ∧ (update S o).1.rev ≤ S.rev + 1 := by
  have e : doS S ⟨1, 0, o⟩ = update S o := by unfold doS; rw [if_neg (by show ¬ modI 1 4 = 0; decide), if_pos (by show modI 1 4 = 1; decide)]
  rw [← e]
  exact ⟨okSt_do h ho hr, (rev_do S _).2⟩
theorem okObj_get {S : St} (h : OkSt S) {k : GKey} {r : Int} (he : getE S k r = 0) : OkObj (getO S k r) := by
  unfold getO
  rw [if_pos he]
  cases hc : atR S k (timeT S r) with
  | none =>
    unfold getE at he
    rw [hc] at he
    split at he
    · exact absurd he (by assumption)
    · split at he
      · exact absurd he (by assumption)
      · cases he
  | some o =>
    obtain ⟨e, h1, h2⟩ := cur_mem hc
    exact h2 ▸ h.obj e (List.mem_of_mem_take h1)
theorem check_doc (o : GObject) (d : ByteArray) (eb : Int) (v1 v2 v3 : Value) (w : World) (hl : RowAt LabelR 2 w v1 o.labels) (ho : StrAt w v2 o.owners) (hh : StrAt w v3 o.holds) (hok : OkObj { o with doc := d }) (ht : TabOK w) (hm : ∃ m, MaxOK m w) (he : objE { o with doc := d } = eb) :
    Calls Tryz.prog 18 #[objW { o with doc := d } v1 v2 v3] w fun e w' => e = .returned (.int .i64 eb) ∧ Below w.heap.size w w' := by
  have h9 := checkObj_any { o with doc := d } v1 v2 v3 w hl ho hh hok ht hm
  rw [he] at h9
  exact h9
set_option maxRecDepth 100000 in
set_option maxHeartbeats 6400000 in
theorem storeOnce_walk (v : Value) (l : List GStoreStep) (cs : Array Value) (k : GKey) (doc other : ByteArray) (w : World) (hrow : RowAt StoreStepR 12 w v l) (hkey : KeyR w cs.toList k)
    (hbulk : (l.map storeStepB).sum + keyB k + doc.data.toList.length + other.data.toList.length ≤ 1048576) (hE : Env w) :
    Calls Tryz.prog 3 #[v, .agg cs, .string doc, .string other] w fun e w' => e = .returned (.bool true) ∧ Below w.heap.size w w' := by
  obtain ⟨hok, hll⟩ := okSteps_bulk hrow (by omega)
  have hk6 : keyB k = ((k.kind.size + 1) + ((k.space.size + 1) + ((k.name.size + 1) + 0))) + 1 := rfl
  have hkz : k.kind.size ≤ 1048576 ∧ k.space.size ≤ 1048576 ∧ k.name.size ≤ 1048576 := by omega
  have hd1 : doc.size ≤ 1048576 := by have h9 : doc.data.toList.length = doc.size := rfl; omega
  have hd2 : other.size ≤ 1048576 := by have h9 : other.data.toList.length = other.size := rfl; omega
  obtain rfl : cs = #[.string k.kind, .string k.space, .string k.name] := Array.toList_inj.1 hkey
  obtain ⟨w1, hw1⟩ : ∃ w1, w1 = w.alloc (.cells #[.string k.kind, .string k.space, .string k.name] 24) := ⟨_, rfl⟩
  obtain ⟨gk, hgk⟩ : ∃ gk, gk = w.heap.size := ⟨_, rfl⟩
  have K1 : Hid (w1.heap[gk]? = some (.cells #[.string k.kind, .string k.space, .string k.name] 24 (0, 0))) := Lib.hid (by rw [hw1, hgk]; exact heap_alloc_new w _)
  have hb1 : Below w.heap.size w w1 := by rw [hw1]; exact (Below.refl _ w).alloc (Nat.le_refl _) _
  have hs1 : w1.heap.size = w.heap.size + 1 := by rw [hw1, World.size_alloc]
  have hk1 : gk < w1.heap.size := by omega
  have hk2 : w.heap.size ≤ gk := by omega
  have HEn := Lib.hid hE
  have HSt := Lib.hid (stored_any v l w1 (hrow.below stays_storeStep hb1) (by omega) hok (hE.below hb1))
  have HB1 := Lib.hid hb1
  obtain ⟨S, HSe⟩ : ∃ S, Hid (run St0 l = S) := ⟨_, Lib.hid rfl⟩
  have HS : Hid (OkSt S) := Lib.hid (by rw [← HSe.out]; exact okSt_run okSt0 l hok (by show 0 + _ ≤ _; omega))
  have Hrev : Hid (S.rev ≤ 1048576) := Lib.hid (by rw [← HSe.out]; have h9 := rev_run St0 l; have h8 : St0.rev = 0 := rfl; omega)
  rw [HSe.out] at HSt
  clear hrow hkey hbulk hE hok hll hk6 hb1
  go_enter Tryz.func3, Tryz.ntmps3
  go_upto_region 1 with fail
  rw [← hw1]
  rw [← hgk]
  clear hw1 hgk
  have ck := fun i => cell_block K1.out i
  go_wp2_with fail
  refine HSt.out.mono ?_
  rintro E w2 ⟨g, D, rfl, hst, hlow, hb2⟩
  have BK_a := Lib.hid (below_block hb2 K1.out)
  have HB_a := Lib.hid (HB1.out.trans (hb2.mono HB1.out.size))
  have HA_a := Lib.hid hst
  have hs_a := hb2.size
  have NK_a : Hid (∀ b, D b → b ≠ gk) := Lib.hid fun b hb e => by have := hlow b hb; omega
  have HH_a : Hid (Home w D w2) := Lib.hid ⟨HEn.out.1, HEn.out.2.2, HB_a.out, fun b hb => by have := hlow b hb; omega⟩
  clear hst hlow hb2 HSt ck K1 HB1
  have ck := fun i => cell_block BK_a.out i
  have HG := Lib.hid (get_any HA_a.out HS.out k hkz 0)
  have hlaw := Lib.hid (store_once HS.out.good k doc other)
  obtain ⟨O, HO⟩ : ∃ O, Hid (getO S k 0 = O) := ⟨_, Lib.hid rfl⟩
  obtain ⟨ge, Hge⟩ : ∃ ge, Hid (getE S k 0 = ge) := ⟨_, Lib.hid rfl⟩
  rw [HO.out, Hge.out] at HG
  go_wp2_with fail
  refine HG.out.mono ?_
  rintro E w3 ⟨hb3, E3, u1, u2, u3, rfl, ho, hE3⟩
  clear ck HG
  have hs_b := (hb3).size
  have HA_b := Lib.hid (HA_a.out.belowW hb3)
  have HB_b := Lib.hid (HB_a.out.trans ((hb3).mono HB_a.out.size))
  have HH_b := Lib.hid (HH_a.out.below hb3)
  have BK_b := Lib.hid (below_block (hb3) BK_a.out)
  have NK_b := NK_a
  have hlowD : Hid (∀ b, D b → b < w2.heap.size) := Lib.hid fun b hb => HA_a.out.low hb
  clear HA_a HB_a HH_a BK_a NK_a
  have OO_b := Lib.hid ho
  have LO_b : Hid (∀ b, E3 b → b < w3.heap.size ∧ ¬ D b) := Lib.hid fun b hb => ⟨(hE3 b hb).2, fun h9 => by have := hlowD.out b h9; have := (hE3 b hb).1; omega⟩
  clear ho hE3 hb3
  obtain ⟨a1O, c1O, rfl, -, -⟩ := OO_b.out.rowL.len
  obtain ⟨a2O, c2O, rfl, -, -⟩ := OO_b.out.rowO.row.len
  obtain ⟨a3O, c3O, rfl, -, -⟩ := OO_b.out.rowH.row.len
  obtain ⟨n1O, Hn1O⟩ : ∃ n, Hid (O.labels.length = n) := ⟨_, Lib.hid rfl⟩
  obtain ⟨n2O, Hn2O⟩ : ∃ n, Hid (O.owners.length = n) := ⟨_, Lib.hid rfl⟩
  obtain ⟨n3O, Hn3O⟩ : ∃ n, Hid (O.holds.length = n) := ⟨_, Lib.hid rfl⟩
  rw [Hn1O.out, Hn2O.out, Hn3O.out] at OO_b ⊢
  obtain ⟨gp, Hgp⟩ : ∃ gp, Hid (w3.heap.size = gp) := ⟨_, Lib.hid rfl⟩
  have h7_P := Lib.hid (heap_alloc_new w3 (.cells noA 30))
  have h4_P := Lib.hid ((Below.refl w3.heap.size w3).alloc (Nat.le_refl _) (.cells noA 30))
  go_wp2_with (refine wpList_store_box (by rfl) _ _ _ (by rfl) w3.heap.size #[.string O.okey.kind, .string O.okey.space, .string O.okey.name, .slice a1O n1O c1O, .slice a2O n2O c2O, .slice a3O n3O c3O, .bool O.ending, .string O.uid, .int .i64 O.rev, .string O.doc] (by rfl) (by rfl) _ _ (by exact h7_P.out) (by exact Tryz.sizeObj) (by rfl) (by simp [Value.oneCell']) ?_)
  intro w4 b5 t5
  have hbb := t5.below h4_P.out (Nat.le_refl _)
  rw [Hgp.out] at b5 ⊢
  have hj0 : w3.heap.size ≤ gp := by rw [Hgp.out]; exact Nat.le_refl _
  have ne_gp : Hid (∀ b, E3 b → b ≠ gp) := Lib.hid fun b hb e => by have := (LO_b.out b hb).1; omega
  have hz_P : w4.heap.size = gp + 1 := by rw [← Hgp.out]; exact t5.size.trans (World.size_alloc _ _)
  have hl_P : gp < w4.heap.size := by omega
  have hj_P : w3.heap.size ≤ gp := by rw [Hgp.out]; exact Nat.le_refl _
  have XP := Lib.hid b5
  have YP : Hid (∀ b, D b → b ≠ gp) := Lib.hid fun b hb e => by have := HA_b.out.low hb; omega
  have hs_c := (hbb).size
  have HA_c := Lib.hid (HA_b.out.belowW hbb)
  have HB_c := Lib.hid (HB_b.out.trans ((hbb).mono HB_b.out.size))
  have HH_c := Lib.hid (HH_b.out.below hbb)
  have BK_c := Lib.hid (below_block (hbb) BK_b.out)
  have NK_c := NK_b
  have OO_c := Lib.hid (OO_b.out.agree fun b hb => (hbb).block b (LO_b.out b hb).1)
  have LO_c : Hid (∀ b, E3 b → b < w4.heap.size ∧ ¬ D b) := Lib.hid fun b hb => ⟨Nat.lt_of_lt_of_le (LO_b.out b hb).1 hs_c, (LO_b.out b hb).2⟩
  clear HA_b HB_b HH_b BK_b NK_b OO_b LO_b
  have BP_c := XP
  have NP_c := YP
  clear b5 t5 hbb h7_P h4_P XP YP
  by_cases he : ge = 0
  · subst he
    have hyes := Lib.hid (hlaw.out.yes Hge.out _ _ _ rfl rfl rfl)
    rw [HO.out] at hyes
    have ck := fun i => cell_block BK_c.out i
    obtain ⟨rn, Hrn⟩ : ∃ rn, Hid (S.rev = rn) := ⟨_, Lib.hid rfl⟩
    have HR := Lib.hid (rev_any HA_c.out)
    rw [Hrn.out] at HR
    have hrn := Hrev.out
    rw [Hrn.out] at hrn
    go_wp2_with fail
    refine HR.out.mono ?_
    rintro E w9 ⟨rfl, hw9⟩
    subst hw9
    clear HR
    have cp := fun i => cell_block BP_c.out i
    go_upto_region 10 with fail
    obtain ⟨w5, hw5⟩ : ∃ w5, w4.alloc (.cells #[.string O.okey.kind, .string O.okey.space, .string O.okey.name, .slice a1O n1O c1O, .slice a2O n2O c2O, .slice a3O n3O c3O, .bool O.ending, .string O.uid, .int .i64 O.rev, .string O.doc] 30) = w5 := ⟨_, rfl⟩
    rw [hw5]
    obtain ⟨gq, hgq⟩ : ∃ gq, gp + 1 = gq := ⟨_, rfl⟩
    try rw [hgq]
    have hbb : Below w4.heap.size w4 w5 := by rw [← hw5]; exact (Below.refl _ w4).alloc (Nat.le_refl _) _
    have hz_Q : w5.heap.size = gq + 1 := by rw [← hw5, World.size_alloc]; omega
    have ne_gq : Hid (∀ b, E3 b → b ≠ gq) := Lib.hid fun b hb e => by have := (LO_c.out b hb).1; omega
    have XQ : Hid (w5.heap[gq]? = some (.cells #[.string O.okey.kind, .string O.okey.space, .string O.okey.name, .slice a1O n1O c1O, .slice a2O n2O c2O, .slice a3O n3O c3O, .bool O.ending, .string O.uid, .int .i64 O.rev, .string O.doc] 30 (0, 0))) := Lib.hid (by rw [← hw5]; exact heap_alloc_at (by omega))
    have YQ : Hid (∀ b, D b → b ≠ gq) := Lib.hid fun b hb e => by have := HA_c.out.low hb; omega
    have hpq : gp ≠ gq := by omega
    have hkp : gk < gp := by omega
    have hqp : gp < gq := by omega
    have hs_d := (hbb).size
    have HA_d := Lib.hid (HA_c.out.belowW hbb)
    have HB_d := Lib.hid (HB_c.out.trans ((hbb).mono HB_c.out.size))
    have HH_d := Lib.hid (HH_c.out.below hbb)
    have BK_d := Lib.hid (below_block (hbb) BK_c.out)
    have NK_d := NK_c
    have BP_d := Lib.hid (below_block (hbb) BP_c.out)
    have NP_d := NP_c
    have OO_d := Lib.hid (OO_c.out.agree fun b hb => (hbb).block b (LO_c.out b hb).1)
    have LO_d : Hid (∀ b, E3 b → b < w5.heap.size ∧ ¬ D b) := Lib.hid fun b hb => ⟨Nat.lt_of_lt_of_le (LO_c.out b hb).1 hs_d, (LO_c.out b hb).2⟩
    clear HA_c HB_c HH_c BK_c BP_c NK_c NP_c OO_c LO_c
    have BQ_d := XQ
    have NQ_d := YQ
    clear XQ YQ hbb hw5 hgq cp ck
    have fb1 := fun i => free_block BP_d.out i
    have cb1 := fun i => cell_block BP_d.out i
    obtain ⟨w6, hw1⟩ : ∃ w9, w5.setCell ⟨gp, 9, none⟩ (.string doc) = w9 := ⟨_, rfl⟩
    have t1 := touch_setCell (i := 9) (v := .string doc) BP_d.out
    rw [hw1] at t1
    have hs_e := t1.2.size
    have HA_e := Lib.hid (HA_d.out.agree (fun b hb => t1.2.other b (NP_d.out b hb)) (by omega))
    have hz_e := HB_d.out.size
    have HB_e := Lib.hid (t1.2.below HB_d.out (by omega))
    have HH_e : Hid (Home w D w6) := Lib.hid ⟨HH_d.out.tab, HH_d.out.max, HB_e.out, HH_d.out.own⟩
    have BP_e : Hid (w6.heap[gp]? = some (.cells #[.string O.okey.kind, .string O.okey.space, .string O.okey.name, .slice a1O n1O c1O, .slice a2O n2O c2O, .slice a3O n3O c3O, .bool O.ending, .string O.uid, .int .i64 O.rev, .string doc] 30 (0, 0))) := Lib.hid t1.1
    have NP_e := NP_d
    have BK_e := Lib.hid (t1.2.block BK_d.out (by omega))
    have NK_e := NK_d
    have BQ_e := Lib.hid (t1.2.block BQ_d.out (by omega))
    have NQ_e := NQ_d
    have OO_e := Lib.hid (OO_d.out.agree fun b hb => t1.2.other b (ne_gp.out b hb))
    have LO_e : Hid (∀ b, E3 b → b < w6.heap.size ∧ ¬ D b) := Lib.hid fun b hb => ⟨by have := (LO_d.out b hb).1; omega, (LO_d.out b hb).2⟩
    have fb2 := fun i => free_block BQ_e.out i
    have cb2 := fun i => cell_block BQ_e.out i
    obtain ⟨w7, hw2⟩ : ∃ w9, w6.setCell ⟨gq, 9, none⟩ (.string other) = w9 := ⟨_, rfl⟩
    have t2 := touch_setCell (i := 9) (v := .string other) BQ_e.out
    rw [hw2] at t2
    have hs_f := t2.2.size
    have HA_f := Lib.hid (HA_e.out.agree (fun b hb => t2.2.other b (NQ_e.out b hb)) (by omega))
    have hz_f := HB_e.out.size
    have HB_f := Lib.hid (t2.2.below HB_e.out (by omega))
    have HH_f : Hid (Home w D w7) := Lib.hid ⟨HH_e.out.tab, HH_e.out.max, HB_f.out, HH_e.out.own⟩
    have BQ_f : Hid (w7.heap[gq]? = some (.cells #[.string O.okey.kind, .string O.okey.space, .string O.okey.name, .slice a1O n1O c1O, .slice a2O n2O c2O, .slice a3O n3O c3O, .bool O.ending, .string O.uid, .int .i64 O.rev, .string other] 30 (0, 0))) := Lib.hid t2.1
    have NQ_f := NQ_e
    have BK_f := Lib.hid (t2.2.block BK_e.out (by omega))
    have NK_f := NK_e
    have BP_f := Lib.hid (t2.2.block BP_e.out (by omega))
    have NP_f := NP_e
    have OO_f := Lib.hid (OO_e.out.agree fun b hb => t2.2.other b (ne_gq.out b hb))
    have LO_f : Hid (∀ b, E3 b → b < w7.heap.size ∧ ¬ D b) := Lib.hid fun b hb => ⟨by have := (LO_e.out b hb).1; omega, (LO_e.out b hb).2⟩
    go_upto_region 11 with fail
    try rw [hw1]
    try rw [hw2]
    clear t1 t2 hw1 hw2 fb1 fb2 cb1 cb2
    clear HA_d HB_d HH_d BK_d BP_d BQ_d NK_d NP_d NQ_d OO_d LO_d
    clear HA_e HB_e HH_e BK_e BP_e BQ_e NK_e NP_e NQ_e OO_e LO_e
    have okO : Hid (OkObj O) := Lib.hid (by rw [← HO.out]; exact okObj_get HS.out Hge.out)
    have okO1 : Hid (OkObj { O with doc := doc }) := Lib.hid ⟨okO.out.kind, okO.out.space, okO.out.name, okO.out.labels, okO.out.owners, okO.out.holds, okO.out.uid, okO.out.rev, hd1⟩
    have okO2 : Hid (OkObj { O with doc := other }) := Lib.hid ⟨okO.out.kind, okO.out.space, okO.out.name, okO.out.labels, okO.out.owners, okO.out.holds, okO.out.uid, okO.out.rev, hd2⟩
    have cp := fun i => cell_block BP_f.out i
    have HX := Lib.hid (by have h9 := update_any HA_f.out HH_f.out HS.out (by have := Hrev.out; omega) { O with doc := doc } (.slice a1O n1O c1O) (.slice a2O n2O c2O) (.slice a3O n3O c3O) OO_f.out.rowL OO_f.out.rowO OO_f.out.rowH okO1.out; rw [show objW { O with doc := doc } (.slice a1O n1O c1O) (.slice a2O n2O c2O) (.slice a3O n3O c3O) = .agg #[.string O.okey.kind, .string O.okey.space, .string O.okey.name, .slice a1O n1O c1O, .slice a2O n2O c2O, .slice a3O n3O c3O, .bool O.ending, .string O.uid, .int .i64 O.rev, .string doc] from rfl] at h9; exact h9)
    obtain ⟨TT, HTTA⟩ : ∃ TT, Hid (update S { O with doc := doc } = TT) := ⟨_, Lib.hid rfl⟩
    rw [HTTA.out] at HX
    go_wp2_with fail
    refine HX.out.mono ?_
    rintro E w8 ⟨D8, E8, u1, u2, u3, rfl, k1, k2, k3, k4, k5⟩
    clear HX
    obtain ⟨SA, HSA⟩ : ∃ y, Hid (TT.1 = y) := ⟨_, Lib.hid rfl⟩
    obtain ⟨A, HOA⟩ : ∃ y, Hid (TT.2.1 = y) := ⟨_, Lib.hid rfl⟩
    obtain ⟨ea, HEA⟩ : ∃ y, Hid (TT.2.2 = y) := ⟨_, Lib.hid rfl⟩
    rw [HSA.out] at k1
    rw [HOA.out] at k2
    rw [HOA.out, HEA.out]
    rw [HTTA.out, HSA.out, HOA.out, HEA.out] at hyes
    have hs_g := k5.size
    have hz_g := HB_f.out.size
    have HA_g := Lib.hid k1
    have HB_g := Lib.hid (HB_f.out.trans (k5.below HH_f.out.own HB_f.out.size))
    have HH_g := Lib.hid (HH_f.out.only k5 k4)
    have BK_g := Lib.hid ((k5.block gk (by omega) fun hm => NK_f.out gk hm rfl).trans BK_f.out)
    have NK_g : Hid (∀ b, D8 b → b ≠ gk) := Lib.hid fun b hb e => (k4 b hb).elim (fun h => NK_f.out b h e) fun h => by omega
    have BP_g := Lib.hid ((k5.block gp (by omega) fun hm => NP_f.out gp hm rfl).trans BP_f.out)
    have NP_g : Hid (∀ b, D8 b → b ≠ gp) := Lib.hid fun b hb e => (k4 b hb).elim (fun h => NP_f.out b h e) fun h => by omega
    have BQ_g := Lib.hid ((k5.block gq (by omega) fun hm => NQ_f.out gq hm rfl).trans BQ_f.out)
    have NQ_g : Hid (∀ b, D8 b → b ≠ gq) := Lib.hid fun b hb e => (k4 b hb).elim (fun h => NQ_f.out b h e) fun h => by omega
    have OO_g := Lib.hid (OO_f.out.agree (k5.agree LO_f.out))
    have LO_g : Hid (∀ b, E3 b → b < w8.heap.size ∧ ¬ D8 b) := Lib.hid fun b hb => ⟨Nat.lt_of_lt_of_le (LO_f.out b hb).1 hs_g, fun h9 => (k4 b h9).elim (LO_f.out b hb).2 fun h => by have := (LO_f.out b hb).1; omega⟩
    have OA_g := Lib.hid k2
    have LA_g : Hid (∀ b, E8 b → b < w8.heap.size ∧ ¬ D8 b) := Lib.hid fun b hb => (k3 b hb).2
    clear HA_f HB_f HH_f BK_f BP_f BQ_f NK_f NP_f NQ_f OO_f LO_f
    clear k1 k2 k3 k4 k5
    obtain ⟨a1A, c1A, rfl, -, -⟩ := OA_g.out.rowL.len
    obtain ⟨a2A, c2A, rfl, -, -⟩ := OA_g.out.rowO.row.len
    obtain ⟨a3A, c3A, rfl, -, -⟩ := OA_g.out.rowH.row.len
    obtain ⟨n1A, Hn1A⟩ : ∃ n, Hid (A.labels.length = n) := ⟨_, Lib.hid rfl⟩
    obtain ⟨n2A, Hn2A⟩ : ∃ n, Hid (A.owners.length = n) := ⟨_, Lib.hid rfl⟩
    obtain ⟨n3A, Hn3A⟩ : ∃ n, Hid (A.holds.length = n) := ⟨_, Lib.hid rfl⟩
    rw [Hn1A.out, Hn2A.out, Hn3A.out] at OA_g ⊢
    have HSA2 := Lib.hid (okSt_update HS.out okO1.out (by have := Hrev.out; omega))
    rw [HTTA.out, HSA.out] at HSA2
    clear cp
    obtain ⟨ga, Hga⟩ : ∃ ga, Hid (w8.heap.size = ga) := ⟨_, Lib.hid rfl⟩
    have h7_A := Lib.hid (heap_alloc_new w8 (.cells noA 30))
    have h4_A := Lib.hid ((Below.refl w8.heap.size w8).alloc (Nat.le_refl _) (.cells noA 30))
    go_wp2_with (refine wpList_store_box (by rfl) _ _ _ (by rfl) w8.heap.size #[.string A.okey.kind, .string A.okey.space, .string A.okey.name, .slice a1A n1A c1A, .slice a2A n2A c2A, .slice a3A n3A c3A, .bool A.ending, .string A.uid, .int .i64 A.rev, .string A.doc] (by rfl) (by rfl) _ _ (by exact h7_A.out) (by exact Tryz.sizeObj) (by rfl) (by simp [Value.oneCell']) ?_)
    intro w9 b5 t5
    have hbb := t5.below h4_A.out (Nat.le_refl _)
    rw [Hga.out] at b5 ⊢
    have hz_A : w9.heap.size = ga + 1 := by rw [← Hga.out]; exact t5.size.trans (World.size_alloc _ _)
    have hl_A : ga < w9.heap.size := by omega
    have hj_A : w8.heap.size ≤ ga := by rw [Hga.out]; exact Nat.le_refl _
    have XA := Lib.hid b5
    have YA : Hid (∀ b, D8 b → b ≠ ga) := Lib.hid fun b hb e => by have := HA_g.out.low hb; omega
    have hs_h := (hbb).size
    have HA_h := Lib.hid (HA_g.out.belowW hbb)
    have HB_h := Lib.hid (HB_g.out.trans ((hbb).mono HB_g.out.size))
    have HH_h := Lib.hid (HH_g.out.below hbb)
    have BK_h := Lib.hid (below_block (hbb) BK_g.out)
    have NK_h := NK_g
    have BP_h := Lib.hid (below_block (hbb) BP_g.out)
    have NP_h := NP_g
    have BQ_h := Lib.hid (below_block (hbb) BQ_g.out)
    have NQ_h := NQ_g
    have OO_h := Lib.hid (OO_g.out.agree fun b hb => (hbb).block b (LO_g.out b hb).1)
    have LO_h : Hid (∀ b, E3 b → b < w9.heap.size ∧ ¬ D8 b) := Lib.hid fun b hb => ⟨Nat.lt_of_lt_of_le (LO_g.out b hb).1 hs_h, (LO_g.out b hb).2⟩
    have OA_h := Lib.hid (OA_g.out.agree fun b hb => (hbb).block b (LA_g.out b hb).1)
    have LA_h : Hid (∀ b, E8 b → b < w9.heap.size ∧ ¬ D8 b) := Lib.hid fun b hb => ⟨Nat.lt_of_lt_of_le (LA_g.out b hb).1 hs_h, (LA_g.out b hb).2⟩
    clear HA_g HB_g HH_g BK_g BP_g BQ_g NK_g NP_g NQ_g OO_g OA_g LO_g LA_g
    have BA_h := XA
    have NA_h := YA
    clear b5 t5 hbb h7_A h4_A XA YA
    go_upto_region 12 with fail
    have cq := fun i => cell_block BQ_h.out i
    have HX := Lib.hid (by have h9 := update_any HA_h.out HH_h.out HSA2.out.1 (by have := HSA2.out.2; have := Hrev.out; omega) { O with doc := other } (.slice a1O n1O c1O) (.slice a2O n2O c2O) (.slice a3O n3O c3O) OO_h.out.rowL OO_h.out.rowO OO_h.out.rowH okO2.out; rw [show objW { O with doc := other } (.slice a1O n1O c1O) (.slice a2O n2O c2O) (.slice a3O n3O c3O) = .agg #[.string O.okey.kind, .string O.okey.space, .string O.okey.name, .slice a1O n1O c1O, .slice a2O n2O c2O, .slice a3O n3O c3O, .bool O.ending, .string O.uid, .int .i64 O.rev, .string other] from rfl] at h9; exact h9)
    obtain ⟨TT, HTTB⟩ : ∃ TT, Hid (update SA { O with doc := other } = TT) := ⟨_, Lib.hid rfl⟩
    rw [HTTB.out] at HX
    go_wp2_with fail
    refine HX.out.mono ?_
    rintro E w10 ⟨D10, E10, u1, u2, u3, rfl, k1, k2, k3, k4, k5⟩
    clear HX
    obtain ⟨SB, HSB⟩ : ∃ y, Hid (TT.1 = y) := ⟨_, Lib.hid rfl⟩
    obtain ⟨B, HOB⟩ : ∃ y, Hid (TT.2.1 = y) := ⟨_, Lib.hid rfl⟩
    obtain ⟨eb, HEB⟩ : ∃ y, Hid (TT.2.2 = y) := ⟨_, Lib.hid rfl⟩
    rw [HSB.out] at k1
    rw [HOB.out] at k2
    rw [HOB.out, HEB.out]
    rw [HTTB.out, HSB.out, HEB.out, HOB.out] at hyes
    have hs_i := k5.size
    have hz_i := HB_h.out.size
    have HA_i := Lib.hid k1
    have HB_i := Lib.hid (HB_h.out.trans (k5.below HH_h.out.own HB_h.out.size))
    have HH_i := Lib.hid (HH_h.out.only k5 k4)
    have BK_i := Lib.hid ((k5.block gk (by omega) fun hm => NK_h.out gk hm rfl).trans BK_h.out)
    have NK_i : Hid (∀ b, D10 b → b ≠ gk) := Lib.hid fun b hb e => (k4 b hb).elim (fun h => NK_h.out b h e) fun h => by omega
    have BP_i := Lib.hid ((k5.block gp (by omega) fun hm => NP_h.out gp hm rfl).trans BP_h.out)
    have NP_i : Hid (∀ b, D10 b → b ≠ gp) := Lib.hid fun b hb e => (k4 b hb).elim (fun h => NP_h.out b h e) fun h => by omega
    have BQ_i := Lib.hid ((k5.block gq (by omega) fun hm => NQ_h.out gq hm rfl).trans BQ_h.out)
    have NQ_i : Hid (∀ b, D10 b → b ≠ gq) := Lib.hid fun b hb e => (k4 b hb).elim (fun h => NQ_h.out b h e) fun h => by omega
    have BA_i := Lib.hid ((k5.block ga (by omega) fun hm => NA_h.out ga hm rfl).trans BA_h.out)
    have NA_i : Hid (∀ b, D10 b → b ≠ ga) := Lib.hid fun b hb e => (k4 b hb).elim (fun h => NA_h.out b h e) fun h => by omega
    have OO_i := Lib.hid (OO_h.out.agree (k5.agree LO_h.out))
    have LO_i : Hid (∀ b, E3 b → b < w10.heap.size ∧ ¬ D10 b) := Lib.hid fun b hb => ⟨Nat.lt_of_lt_of_le (LO_h.out b hb).1 hs_i, fun h9 => (k4 b h9).elim (LO_h.out b hb).2 fun h => by have := (LO_h.out b hb).1; omega⟩
    have OA_i := Lib.hid (OA_h.out.agree (k5.agree LA_h.out))
    have LA_i : Hid (∀ b, E8 b → b < w10.heap.size ∧ ¬ D10 b) := Lib.hid fun b hb => ⟨Nat.lt_of_lt_of_le (LA_h.out b hb).1 hs_i, fun h9 => (k4 b h9).elim (LA_h.out b hb).2 fun h => by have := (LA_h.out b hb).1; omega⟩
    have OB_i := Lib.hid k2
    have LB_i : Hid (∀ b, E10 b → b < w10.heap.size ∧ ¬ D10 b) := Lib.hid fun b hb => (k3 b hb).2
    clear HA_h HB_h HH_h BK_h BP_h BQ_h BA_h NK_h NP_h NQ_h NA_h OO_h OA_h LO_h LA_h
    clear k1 k2 k3 k4 k5
    obtain ⟨a1B, c1B, rfl, -, -⟩ := OB_i.out.rowL.len
    obtain ⟨a2B, c2B, rfl, -, -⟩ := OB_i.out.rowO.row.len
    obtain ⟨a3B, c3B, rfl, -, -⟩ := OB_i.out.rowH.row.len
    obtain ⟨n1B, Hn1B⟩ : ∃ n, Hid (B.labels.length = n) := ⟨_, Lib.hid rfl⟩
    obtain ⟨n2B, Hn2B⟩ : ∃ n, Hid (B.owners.length = n) := ⟨_, Lib.hid rfl⟩
    obtain ⟨n3B, Hn3B⟩ : ∃ n, Hid (B.holds.length = n) := ⟨_, Lib.hid rfl⟩
    rw [Hn1B.out, Hn2B.out, Hn3B.out] at OB_i ⊢
    have HSB2 := Lib.hid (okSt_update HSA2.out.1 okO2.out (by have := HSA2.out.2; have := Hrev.out; omega))
    rw [HTTB.out, HSB.out] at HSB2
    clear cq
    obtain ⟨gb, Hgb⟩ : ∃ gb, Hid (w10.heap.size = gb) := ⟨_, Lib.hid rfl⟩
    have h7_B := Lib.hid (heap_alloc_new w10 (.cells noA 30))
    have h4_B := Lib.hid ((Below.refl w10.heap.size w10).alloc (Nat.le_refl _) (.cells noA 30))
    go_wp2_with (refine wpList_store_box (by rfl) _ _ _ (by rfl) w10.heap.size #[.string B.okey.kind, .string B.okey.space, .string B.okey.name, .slice a1B n1B c1B, .slice a2B n2B c2B, .slice a3B n3B c3B, .bool B.ending, .string B.uid, .int .i64 B.rev, .string B.doc] (by rfl) (by rfl) _ _ (by exact h7_B.out) (by exact Tryz.sizeObj) (by rfl) (by simp [Value.oneCell']) ?_)
    intro w11 b5 t5
    have hbb := t5.below h4_B.out (Nat.le_refl _)
    rw [Hgb.out] at b5 ⊢
    have hz_B : w11.heap.size = gb + 1 := by rw [← Hgb.out]; exact t5.size.trans (World.size_alloc _ _)
    have hl_B : gb < w11.heap.size := by omega
    have hj_B : w10.heap.size ≤ gb := by rw [Hgb.out]; exact Nat.le_refl _
    have XB := Lib.hid b5
    have YB : Hid (∀ b, D10 b → b ≠ gb) := Lib.hid fun b hb e => by have := HA_i.out.low hb; omega
    have hs_j := (hbb).size
    have HA_j := Lib.hid (HA_i.out.belowW hbb)
    have HB_j := Lib.hid (HB_i.out.trans ((hbb).mono HB_i.out.size))
    have HH_j := Lib.hid (HH_i.out.below hbb)
    have BK_j := Lib.hid (below_block (hbb) BK_i.out)
    have NK_j := NK_i
    have BP_j := Lib.hid (below_block (hbb) BP_i.out)
    have NP_j := NP_i
    have BQ_j := Lib.hid (below_block (hbb) BQ_i.out)
    have NQ_j := NQ_i
    have BA_j := Lib.hid (below_block (hbb) BA_i.out)
    have NA_j := NA_i
    have OO_j := Lib.hid (OO_i.out.agree fun b hb => (hbb).block b (LO_i.out b hb).1)
    have LO_j : Hid (∀ b, E3 b → b < w11.heap.size ∧ ¬ D10 b) := Lib.hid fun b hb => ⟨Nat.lt_of_lt_of_le (LO_i.out b hb).1 hs_j, (LO_i.out b hb).2⟩
    have OA_j := Lib.hid (OA_i.out.agree fun b hb => (hbb).block b (LA_i.out b hb).1)
    have LA_j : Hid (∀ b, E8 b → b < w11.heap.size ∧ ¬ D10 b) := Lib.hid fun b hb => ⟨Nat.lt_of_lt_of_le (LA_i.out b hb).1 hs_j, (LA_i.out b hb).2⟩
    have OB_j := Lib.hid (OB_i.out.agree fun b hb => (hbb).block b (LB_i.out b hb).1)
    have LB_j : Hid (∀ b, E10 b → b < w11.heap.size ∧ ¬ D10 b) := Lib.hid fun b hb => ⟨Nat.lt_of_lt_of_le (LB_i.out b hb).1 hs_j, (LB_i.out b hb).2⟩
    clear HA_i HB_i HH_i BK_i BP_i BQ_i BA_i NK_i NP_i NQ_i NA_i OO_i OA_i OB_i LO_i LA_i LB_i
    have BB_j := XB
    have NB_j := YB
    clear b5 t5 hbb h7_B h4_B XB YB
    go_upto_region 13 with fail
    have ck := fun i => cell_block BK_j.out i
    have HG := Lib.hid (get_any HA_j.out HSB2.out.1 k hkz 0)
    obtain ⟨Q9, HQ9⟩ : ∃ y, Hid (getO SB k 0 = y) := ⟨_, Lib.hid rfl⟩
    rw [HQ9.out] at HG hyes
    rw [hyes.out.1] at HG
    go_wp2_with fail
    refine HG.out.mono ?_
    rintro E w12 ⟨hb12, E12, u1, u2, u3, rfl, ho, hE12⟩
    have hlowD : Hid (∀ b, D10 b → b < w11.heap.size) := Lib.hid fun b hb => HA_j.out.low hb
    clear HG ck
    have hs_k := (hb12).size
    have HA_k := Lib.hid (HA_j.out.belowW hb12)
    have HB_k := Lib.hid (HB_j.out.trans ((hb12).mono HB_j.out.size))
    have HH_k := Lib.hid (HH_j.out.below hb12)
    have BK_k := Lib.hid (below_block (hb12) BK_j.out)
    have NK_k := NK_j
    have BP_k := Lib.hid (below_block (hb12) BP_j.out)
    have NP_k := NP_j
    have BQ_k := Lib.hid (below_block (hb12) BQ_j.out)
    have NQ_k := NQ_j
    have BA_k := Lib.hid (below_block (hb12) BA_j.out)
    have NA_k := NA_j
    have BB_k := Lib.hid (below_block (hb12) BB_j.out)
    have NB_k := NB_j
    have OO_k := Lib.hid (OO_j.out.agree fun b hb => (hb12).block b (LO_j.out b hb).1)
    have LO_k : Hid (∀ b, E3 b → b < w12.heap.size ∧ ¬ D10 b) := Lib.hid fun b hb => ⟨Nat.lt_of_lt_of_le (LO_j.out b hb).1 hs_k, (LO_j.out b hb).2⟩
    have OA_k := Lib.hid (OA_j.out.agree fun b hb => (hb12).block b (LA_j.out b hb).1)
    have LA_k : Hid (∀ b, E8 b → b < w12.heap.size ∧ ¬ D10 b) := Lib.hid fun b hb => ⟨Nat.lt_of_lt_of_le (LA_j.out b hb).1 hs_k, (LA_j.out b hb).2⟩
    have OB_k := Lib.hid (OB_j.out.agree fun b hb => (hb12).block b (LB_j.out b hb).1)
    have LB_k : Hid (∀ b, E10 b → b < w12.heap.size ∧ ¬ D10 b) := Lib.hid fun b hb => ⟨Nat.lt_of_lt_of_le (LB_j.out b hb).1 hs_k, (LB_j.out b hb).2⟩
    clear HA_j HB_j HH_j BK_j BP_j BQ_j BA_j BB_j NK_j NP_j NQ_j NA_j NB_j OO_j OA_j OB_j LO_j LA_j LB_j
    have OQ9_k := Lib.hid ho
    have LQ9_k : Hid (∀ b, E12 b → b < w12.heap.size ∧ ¬ D10 b) := Lib.hid fun b hb => ⟨(hE12 b hb).2, fun h9 => by have := hlowD.out b h9; have := (hE12 b hb).1; omega⟩
    clear ho hE12 hb12
    obtain ⟨a1Q9, c1Q9, rfl, -, -⟩ := OQ9_k.out.rowL.len
    obtain ⟨a2Q9, c2Q9, rfl, -, -⟩ := OQ9_k.out.rowO.row.len
    obtain ⟨a3Q9, c3Q9, rfl, -, -⟩ := OQ9_k.out.rowH.row.len
    obtain ⟨n1Q9, Hn1Q9⟩ : ∃ n, Hid (Q9.labels.length = n) := ⟨_, Lib.hid rfl⟩
    obtain ⟨n2Q9, Hn2Q9⟩ : ∃ n, Hid (Q9.owners.length = n) := ⟨_, Lib.hid rfl⟩
    obtain ⟨n3Q9, Hn3Q9⟩ : ∃ n, Hid (Q9.holds.length = n) := ⟨_, Lib.hid rfl⟩
    rw [Hn1Q9.out, Hn2Q9.out, Hn3Q9.out] at OQ9_k ⊢
    obtain ⟨gg, Hgg⟩ : ∃ gg, Hid (w12.heap.size = gg) := ⟨_, Lib.hid rfl⟩
    have h7_G := Lib.hid (heap_alloc_new w12 (.cells noA 30))
    have h4_G := Lib.hid ((Below.refl w12.heap.size w12).alloc (Nat.le_refl _) (.cells noA 30))
    go_wp2_with (refine wpList_store_box (by rfl) _ _ _ (by rfl) w12.heap.size #[.string Q9.okey.kind, .string Q9.okey.space, .string Q9.okey.name, .slice a1Q9 n1Q9 c1Q9, .slice a2Q9 n2Q9 c2Q9, .slice a3Q9 n3Q9 c3Q9, .bool Q9.ending, .string Q9.uid, .int .i64 Q9.rev, .string Q9.doc] (by rfl) (by rfl) _ _ (by exact h7_G.out) (by exact Tryz.sizeObj) (by rfl) (by simp [Value.oneCell']) ?_)
    intro w13 b5 t5
    have hbb := t5.below h4_G.out (Nat.le_refl _)
    rw [Hgg.out] at b5 ⊢
    have hz_G : w13.heap.size = gg + 1 := by rw [← Hgg.out]; exact t5.size.trans (World.size_alloc _ _)
    have hl_G : gg < w13.heap.size := by omega
    have hj_G : w12.heap.size ≤ gg := by rw [Hgg.out]; exact Nat.le_refl _
    have XG := Lib.hid b5
    have YG : Hid (∀ b, D10 b → b ≠ gg) := Lib.hid fun b hb e => by have := HA_k.out.low hb; omega
    have hs_l := (hbb).size
    have HA_l := Lib.hid (HA_k.out.belowW hbb)
    have HB_l := Lib.hid (HB_k.out.trans ((hbb).mono HB_k.out.size))
    have HH_l := Lib.hid (HH_k.out.below hbb)
    have BK_l := Lib.hid (below_block (hbb) BK_k.out)
    have NK_l := NK_k
    have BP_l := Lib.hid (below_block (hbb) BP_k.out)
    have NP_l := NP_k
    have BQ_l := Lib.hid (below_block (hbb) BQ_k.out)
    have NQ_l := NQ_k
    have BA_l := Lib.hid (below_block (hbb) BA_k.out)
    have NA_l := NA_k
    have BB_l := Lib.hid (below_block (hbb) BB_k.out)
    have NB_l := NB_k
    have OO_l := Lib.hid (OO_k.out.agree fun b hb => (hbb).block b (LO_k.out b hb).1)
    have LO_l : Hid (∀ b, E3 b → b < w13.heap.size ∧ ¬ D10 b) := Lib.hid fun b hb => ⟨Nat.lt_of_lt_of_le (LO_k.out b hb).1 hs_l, (LO_k.out b hb).2⟩
    have OA_l := Lib.hid (OA_k.out.agree fun b hb => (hbb).block b (LA_k.out b hb).1)
    have LA_l : Hid (∀ b, E8 b → b < w13.heap.size ∧ ¬ D10 b) := Lib.hid fun b hb => ⟨Nat.lt_of_lt_of_le (LA_k.out b hb).1 hs_l, (LA_k.out b hb).2⟩
    have OB_l := Lib.hid (OB_k.out.agree fun b hb => (hbb).block b (LB_k.out b hb).1)
    have LB_l : Hid (∀ b, E10 b → b < w13.heap.size ∧ ¬ D10 b) := Lib.hid fun b hb => ⟨Nat.lt_of_lt_of_le (LB_k.out b hb).1 hs_l, (LB_k.out b hb).2⟩
    have OQ9_l := Lib.hid (OQ9_k.out.agree fun b hb => (hbb).block b (LQ9_k.out b hb).1)
    have LQ9_l : Hid (∀ b, E12 b → b < w13.heap.size ∧ ¬ D10 b) := Lib.hid fun b hb => ⟨Nat.lt_of_lt_of_le (LQ9_k.out b hb).1 hs_l, (LQ9_k.out b hb).2⟩
    clear HA_k HB_k HH_k BK_k BP_k BQ_k BA_k BB_k NK_k NP_k NQ_k NA_k NB_k OO_k OA_k OB_k OQ9_k LO_k LA_k LB_k LQ9_k
    have BG_l := XG
    have NG_l := YG
    clear b5 t5 hbb h7_G h4_G XG YG
    have okSB : Hid (∀ x, getE SB k 0 = 0 → x = getO SB k 0 → OkObj x) := Lib.hid fun x h1 h2 => h2 ▸ okObj_get HSB2.out.1 h1
    have okQ : Hid (OkObj Q9) := Lib.hid (okSB.out Q9 hyes.out.1 HQ9.out.symm)
    clear okSB
    have qw : IntKind.i64.wrap ((rn : Int) + 1) = (rn : Int) + 1 := IntWalk.i64_in _ (by omega)
    by_cases hea : ea = 0
    · subst hea
      obtain ⟨y1, y2, y3, y4, y5⟩ := hyes.out.2.1 rfl
      subst y4
      have qr : (Q9.rev == (rn : Int) + 1) = true := by rw [beq_iff_eq, y5, Hrn.out]
      have qn : (eb != 0) = true := bne_iff_ne.2 y2
      have cg := fun i => cell_block BG_l.out i
      have cx := fun i => cell_block BA_l.out i
      by_cases h12 : eb = 12
      · subst h12
        have HR2 : Hid (Calls Tryz.prog 16 #[.pointer (some ⟨g, 0, none⟩)] w13 fun e w' => e = .returned (.int .i64 ((rn : Int) + 1)) ∧ w13 = w') := Lib.hid (by have h9 := rev_any HA_l.out; rw [y3, Hrn.out] at h9; exact h9)
        have HSm : Hid (Calls Tryz.prog 19 #[.agg #[.string Q9.okey.kind, .string Q9.okey.space, .string Q9.okey.name, .slice a1Q9 n1Q9 c1Q9, .slice a2Q9 n2Q9 c2Q9, .slice a3Q9 n3Q9 c3Q9, .bool Q9.ending, .string Q9.uid, .int .i64 Q9.rev, .string Q9.doc], .agg #[.string Q9.okey.kind, .string Q9.okey.space, .string Q9.okey.name, .slice a1A n1A c1A, .slice a2A n2A c2A, .slice a3A n3A c3A, .bool Q9.ending, .string Q9.uid, .int .i64 Q9.rev, .string Q9.doc]] w13 fun e w' => e = .returned (.bool true) ∧ Below w13.heap.size w13 w') := Lib.hid (sameObj_yes Q9 (.slice a1Q9 n1Q9 c1Q9) (.slice a2Q9 n2Q9 c2Q9) (.slice a3Q9 n3Q9 c3Q9) (.slice a1A n1A c1A) (.slice a2A n2A c2A) (.slice a3A n3A c3A) w13 OQ9_l.out.rowL OQ9_l.out.rowO OQ9_l.out.rowH OA_l.out.rowL OA_l.out.rowO OA_l.out.rowH okQ.out)
        clear y1 y2 y3 y5 hyes
        go_wp2_with fail
        refine HR2.out.mono ?_
        rintro E w9' ⟨rfl, hw9⟩
        subst hw9
        go_wp2_with fail
        refine HSm.out.mono ?_
        rintro E w14 ⟨rfl, hb14⟩
        have BA14 := Lib.hid (below_block hb14 BA_l.out)
        have HB14 := Lib.hid (HB_l.out.trans (hb14.mono HB_l.out.size))
        clear hb14 cg cx HSm HR2
        have cx := fun i => cell_block BA14.out i
        go_wp2_with fail
        go_ret
        exact ⟨by first | rfl | simp, HB14.out⟩
      · have q12 : (eb == 12) = false := by rw [beq_eq_false_iff_ne]; exact h12
        have y1' := Lib.hid (y1.resolve_left h12)
        have HC : Hid (Calls Tryz.prog 18 #[.agg #[.string O.okey.kind, .string O.okey.space, .string O.okey.name, .slice a1O n1O c1O, .slice a2O n2O c2O, .slice a3O n3O c3O, .bool O.ending, .string O.uid, .int .i64 O.rev, .string other]] w13 fun e w' => e = .returned (.int .i64 eb) ∧ Below w13.heap.size w13 w') := Lib.hid (check_doc O other eb (.slice a1O n1O c1O) (.slice a2O n2O c2O) (.slice a3O n3O c3O) w13 OO_l.out.rowL OO_l.out.rowO OO_l.out.rowH okO2.out HH_l.out.tabs HH_l.out.maxs y1'.out)
        have cp := fun i => cell_block BQ_l.out i
        clear y1 y2 y5 hyes h12
        go_wp2_with fail
        refine HC.out.mono ?_
        rintro E w14 ⟨rfl, hb14⟩
        clear HC cp cg cx
        have hs_m := (hb14).size
        have HA_m := Lib.hid (HA_l.out.belowW hb14)
        have HB_m := Lib.hid (HB_l.out.trans ((hb14).mono HB_l.out.size))
        have HH_m := Lib.hid (HH_l.out.below hb14)
        have BK_m := Lib.hid (below_block (hb14) BK_l.out)
        have NK_m := NK_l
        have BP_m := Lib.hid (below_block (hb14) BP_l.out)
        have NP_m := NP_l
        have BQ_m := Lib.hid (below_block (hb14) BQ_l.out)
        have NQ_m := NQ_l
        have BA_m := Lib.hid (below_block (hb14) BA_l.out)
        have NA_m := NA_l
        have BB_m := Lib.hid (below_block (hb14) BB_l.out)
        have NB_m := NB_l
        have BG_m := Lib.hid (below_block (hb14) BG_l.out)
        have NG_m := NG_l
        have OO_m := Lib.hid (OO_l.out.agree fun b hb => (hb14).block b (LO_l.out b hb).1)
        have LO_m : Hid (∀ b, E3 b → b < w14.heap.size ∧ ¬ D10 b) := Lib.hid fun b hb => ⟨Nat.lt_of_lt_of_le (LO_l.out b hb).1 hs_m, (LO_l.out b hb).2⟩
        have OA_m := Lib.hid (OA_l.out.agree fun b hb => (hb14).block b (LA_l.out b hb).1)
        have LA_m : Hid (∀ b, E8 b → b < w14.heap.size ∧ ¬ D10 b) := Lib.hid fun b hb => ⟨Nat.lt_of_lt_of_le (LA_l.out b hb).1 hs_m, (LA_l.out b hb).2⟩
        have OB_m := Lib.hid (OB_l.out.agree fun b hb => (hb14).block b (LB_l.out b hb).1)
        have LB_m : Hid (∀ b, E10 b → b < w14.heap.size ∧ ¬ D10 b) := Lib.hid fun b hb => ⟨Nat.lt_of_lt_of_le (LB_l.out b hb).1 hs_m, (LB_l.out b hb).2⟩
        have OQ9_m := Lib.hid (OQ9_l.out.agree fun b hb => (hb14).block b (LQ9_l.out b hb).1)
        have LQ9_m : Hid (∀ b, E12 b → b < w14.heap.size ∧ ¬ D10 b) := Lib.hid fun b hb => ⟨Nat.lt_of_lt_of_le (LQ9_l.out b hb).1 hs_m, (LQ9_l.out b hb).2⟩
        clear HA_l HB_l HH_l BK_l BP_l BQ_l BA_l BB_l BG_l NK_l NP_l NQ_l NA_l NB_l NG_l OO_l OA_l OB_l OQ9_l LO_l LA_l LB_l LQ9_l
        have cg := fun i => cell_block BG_m.out i
        have cx := fun i => cell_block BA_m.out i
        have HR2 : Hid (Calls Tryz.prog 16 #[.pointer (some ⟨g, 0, none⟩)] w14 fun e w' => e = .returned (.int .i64 ((rn : Int) + 1)) ∧ w14 = w') := Lib.hid (by have h9 := rev_any HA_m.out; rw [y3, Hrn.out] at h9; exact h9)
        have HSm : Hid (Calls Tryz.prog 19 #[.agg #[.string Q9.okey.kind, .string Q9.okey.space, .string Q9.okey.name, .slice a1Q9 n1Q9 c1Q9, .slice a2Q9 n2Q9 c2Q9, .slice a3Q9 n3Q9 c3Q9, .bool Q9.ending, .string Q9.uid, .int .i64 Q9.rev, .string Q9.doc], .agg #[.string Q9.okey.kind, .string Q9.okey.space, .string Q9.okey.name, .slice a1A n1A c1A, .slice a2A n2A c2A, .slice a3A n3A c3A, .bool Q9.ending, .string Q9.uid, .int .i64 Q9.rev, .string Q9.doc]] w14 fun e w' => e = .returned (.bool true) ∧ Below w14.heap.size w14 w') := Lib.hid (sameObj_yes Q9 (.slice a1Q9 n1Q9 c1Q9) (.slice a2Q9 n2Q9 c2Q9) (.slice a3Q9 n3Q9 c3Q9) (.slice a1A n1A c1A) (.slice a2A n2A c2A) (.slice a3A n3A c3A) w14 OQ9_m.out.rowL OQ9_m.out.rowO OQ9_m.out.rowH OA_m.out.rowL OA_m.out.rowO OA_m.out.rowH okQ.out)
        clear y3 hb14
        go_wp2_with fail
        refine HR2.out.mono ?_
        rintro E w9' ⟨rfl, hw9⟩
        subst hw9
        go_wp2_with fail
        refine HSm.out.mono ?_
        rintro E w15 ⟨rfl, hb14⟩
        have BA14 := Lib.hid (below_block hb14 BA_m.out)
        have HB14 := Lib.hid (HB_m.out.trans (hb14.mono HB_m.out.size))
        clear hb14 cg cx HSm HR2
        have cx := fun i => cell_block BA14.out i
        go_wp2_with fail
        go_ret
        exact ⟨by first | rfl | simp, HB14.out⟩
    · have qea : (ea == 0) = false := by rw [beq_eq_false_iff_ne]; exact hea
      by_cases heb : eb = 0
      · subst heb
        obtain ⟨y3, y4⟩ := hyes.out.2.2.1 hea rfl
        subst y4
        have cg := fun i => cell_block BG_l.out i
        have cx := fun i => cell_block BB_l.out i
        have HR2 : Hid (Calls Tryz.prog 16 #[.pointer (some ⟨g, 0, none⟩)] w13 fun e w' => e = .returned (.int .i64 ((rn : Int) + 1)) ∧ w13 = w') := Lib.hid (by have h9 := rev_any HA_l.out; rw [y3, Hrn.out] at h9; exact h9)
        have HSm : Hid (Calls Tryz.prog 19 #[.agg #[.string Q9.okey.kind, .string Q9.okey.space, .string Q9.okey.name, .slice a1Q9 n1Q9 c1Q9, .slice a2Q9 n2Q9 c2Q9, .slice a3Q9 n3Q9 c3Q9, .bool Q9.ending, .string Q9.uid, .int .i64 Q9.rev, .string Q9.doc], .agg #[.string Q9.okey.kind, .string Q9.okey.space, .string Q9.okey.name, .slice a1B n1B c1B, .slice a2B n2B c2B, .slice a3B n3B c3B, .bool Q9.ending, .string Q9.uid, .int .i64 Q9.rev, .string Q9.doc]] w13 fun e w' => e = .returned (.bool true) ∧ Below w13.heap.size w13 w') := Lib.hid (sameObj_yes Q9 (.slice a1Q9 n1Q9 c1Q9) (.slice a2Q9 n2Q9 c2Q9) (.slice a3Q9 n3Q9 c3Q9) (.slice a1B n1B c1B) (.slice a2B n2B c2B) (.slice a3B n3B c3B) w13 OQ9_l.out.rowL OQ9_l.out.rowO OQ9_l.out.rowH OB_l.out.rowL OB_l.out.rowO OB_l.out.rowH okQ.out)
        clear y3 hyes hea
        go_wp2_with fail
        refine HR2.out.mono ?_
        rintro E w9' ⟨rfl, hw9⟩
        subst hw9
        go_wp2_with fail
        refine HSm.out.mono ?_
        rintro E w14 ⟨rfl, hb14⟩
        have BA14 := Lib.hid (below_block hb14 BB_l.out)
        have HB14 := Lib.hid (HB_l.out.trans (hb14.mono HB_l.out.size))
        clear hb14 cg cx HSm HR2
        have cx := fun i => cell_block BA14.out i
        go_wp2_with fail
        go_ret
        exact ⟨by first | rfl | simp, HB14.out⟩
      · obtain ⟨y3, y4⟩ := hyes.out.2.2.2 hea heb
        have qeb : (eb == 0) = false := by rw [beq_eq_false_iff_ne]; exact heb
        have qr : (Q9.rev == O.rev) = true := by rw [beq_iff_eq]; exact y4
        have cg := fun i => cell_block BG_l.out i
        have cx := fun i => cell_block BP_l.out i
        have HR2 : Hid (Calls Tryz.prog 16 #[.pointer (some ⟨g, 0, none⟩)] w13 fun e w' => e = .returned (.int .i64 ((rn : Int))) ∧ w13 = w') := Lib.hid (by have h9 := rev_any HA_l.out; rw [y3, Hrn.out] at h9; exact h9)
        clear y3 y4 hyes hea heb
        go_wp2_with fail
        refine HR2.out.mono ?_
        rintro E w9' ⟨rfl, hw9⟩
        subst hw9
        go_wp2_with fail
        go_ret
        exact ⟨by first | rfl | simp, HB_l.out⟩
  · have q0 : (ge == 0) = false := by rw [beq_eq_false_iff_ne]; exact he
    have q1 : (ge != 0) = true := bne_iff_ne.2 he
    have Hno := Lib.hid (hlaw.out.no (by rw [Hge.out]; exact he))
    clear he
    have ck := fun i => cell_block BK_c.out i
    have HX := Lib.hid (remove_any HA_c.out HH_c.out HS.out (by have := Hrev.out; omega) k 0 hkz)
    obtain ⟨TT, HTTR⟩ : ∃ TT, Hid (remove S k 0 = TT) := ⟨_, Lib.hid rfl⟩
    rw [HTTR.out] at HX
    go_wp2_with fail
    refine HX.out.mono ?_
    rintro E w5 ⟨D5, E5, u1, u2, u3, rfl, k1, k2, k3, k4, k5⟩
    clear HX
    obtain ⟨SR, HSR⟩ : ∃ y, Hid (TT.1 = y) := ⟨_, Lib.hid rfl⟩
    obtain ⟨R, HOR⟩ : ∃ y, Hid (TT.2.1 = y) := ⟨_, Lib.hid rfl⟩
    obtain ⟨er, HER⟩ : ∃ y, Hid (TT.2.2 = y) := ⟨_, Lib.hid rfl⟩
    rw [HSR.out] at k1
    rw [HOR.out] at k2
    rw [HOR.out, HER.out]
    have hs_d := k5.size
    have hz_d := HB_c.out.size
    have HA_d := Lib.hid k1
    have HB_d := Lib.hid (HB_c.out.trans (k5.below HH_c.out.own HB_c.out.size))
    have HH_d := Lib.hid (HH_c.out.only k5 k4)
    have BK_d := Lib.hid ((k5.block gk (by omega) fun hm => NK_c.out gk hm rfl).trans BK_c.out)
    have NK_d : Hid (∀ b, D5 b → b ≠ gk) := Lib.hid fun b hb e => (k4 b hb).elim (fun h => NK_c.out b h e) fun h => by omega
    have BP_d := Lib.hid ((k5.block gp (by omega) fun hm => NP_c.out gp hm rfl).trans BP_c.out)
    have NP_d : Hid (∀ b, D5 b → b ≠ gp) := Lib.hid fun b hb e => (k4 b hb).elim (fun h => NP_c.out b h e) fun h => by omega
    have OO_d := Lib.hid (OO_c.out.agree (k5.agree LO_c.out))
    have LO_d : Hid (∀ b, E3 b → b < w5.heap.size ∧ ¬ D5 b) := Lib.hid fun b hb => ⟨Nat.lt_of_lt_of_le (LO_c.out b hb).1 hs_d, fun h9 => (k4 b h9).elim (LO_c.out b hb).2 fun h => by have := (LO_c.out b hb).1; omega⟩
    have OR_d := Lib.hid k2
    have LR_d : Hid (∀ b, E5 b → b < w5.heap.size ∧ ¬ D5 b) := Lib.hid fun b hb => (k3 b hb).2
    clear HA_c HB_c HH_c BK_c BP_c NK_c NP_c OO_c LO_c
    clear k1 k2 k3 k4 k5
    obtain ⟨a1R, c1R, rfl, -, -⟩ := OR_d.out.rowL.len
    obtain ⟨a2R, c2R, rfl, -, -⟩ := OR_d.out.rowO.row.len
    obtain ⟨a3R, c3R, rfl, -, -⟩ := OR_d.out.rowH.row.len
    obtain ⟨n1R, Hn1R⟩ : ∃ n, Hid (R.labels.length = n) := ⟨_, Lib.hid rfl⟩
    obtain ⟨n2R, Hn2R⟩ : ∃ n, Hid (R.owners.length = n) := ⟨_, Lib.hid rfl⟩
    obtain ⟨n3R, Hn3R⟩ : ∃ n, Hid (R.holds.length = n) := ⟨_, Lib.hid rfl⟩
    rw [Hn1R.out, Hn2R.out, Hn3R.out] at OR_d ⊢
    obtain rfl : er = ge := by rw [← HER.out, ← HTTR.out, Hno.out, Hge.out]
    clear ck
    obtain ⟨gr, Hgr⟩ : ∃ gr, Hid (w5.heap.size = gr) := ⟨_, Lib.hid rfl⟩
    have h7_R := Lib.hid (heap_alloc_new w5 (.cells noA 30))
    have h4_R := Lib.hid ((Below.refl w5.heap.size w5).alloc (Nat.le_refl _) (.cells noA 30))
    go_wp2_with (refine wpList_store_box (by rfl) _ _ _ (by rfl) w5.heap.size #[.string R.okey.kind, .string R.okey.space, .string R.okey.name, .slice a1R n1R c1R, .slice a2R n2R c2R, .slice a3R n3R c3R, .bool R.ending, .string R.uid, .int .i64 R.rev, .string R.doc] (by rfl) (by rfl) _ _ (by exact h7_R.out) (by exact Tryz.sizeObj) (by rfl) (by simp [Value.oneCell']) ?_)
    intro w6 b5 t5
    have hbb := t5.below h4_R.out (Nat.le_refl _)
    rw [Hgr.out] at b5 ⊢
    have hz_R : w6.heap.size = gr + 1 := by rw [← Hgr.out]; exact t5.size.trans (World.size_alloc _ _)
    have hl_R : gr < w6.heap.size := by omega
    have hj_R : w5.heap.size ≤ gr := by rw [Hgr.out]; exact Nat.le_refl _
    have XR := Lib.hid b5
    have YR : Hid (∀ b, D5 b → b ≠ gr) := Lib.hid fun b hb e => by have := HA_d.out.low hb; omega
    have hs_e := (hbb).size
    have HA_e := Lib.hid (HA_d.out.belowW hbb)
    have HB_e := Lib.hid (HB_d.out.trans ((hbb).mono HB_d.out.size))
    have HH_e := Lib.hid (HH_d.out.below hbb)
    have BK_e := Lib.hid (below_block (hbb) BK_d.out)
    have NK_e := NK_d
    have BP_e := Lib.hid (below_block (hbb) BP_d.out)
    have NP_e := NP_d
    have OO_e := Lib.hid (OO_d.out.agree fun b hb => (hbb).block b (LO_d.out b hb).1)
    have LO_e : Hid (∀ b, E3 b → b < w6.heap.size ∧ ¬ D5 b) := Lib.hid fun b hb => ⟨Nat.lt_of_lt_of_le (LO_d.out b hb).1 hs_e, (LO_d.out b hb).2⟩
    have OR_e := Lib.hid (OR_d.out.agree fun b hb => (hbb).block b (LR_d.out b hb).1)
    have LR_e : Hid (∀ b, E5 b → b < w6.heap.size ∧ ¬ D5 b) := Lib.hid fun b hb => ⟨Nat.lt_of_lt_of_le (LR_d.out b hb).1 hs_e, (LR_d.out b hb).2⟩
    clear HA_d HB_d HH_d BK_d BP_d NK_d NP_d OO_d OR_d LO_d LR_d
    have BR_e := XR
    have NR_e := YR
    clear b5 t5 hbb h7_R h4_R XR YR
    have q2 : (er == er) = true := beq_self_eq_true _
    go_wp2_with fail
    go_ret
    exact ⟨by first | rfl | simp, HB_e.out⟩
end Sto
end Go.Proofs.YtnnceaapodgfbaaGreatDoor
