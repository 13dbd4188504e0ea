/- quota: what a changed limit is looked at for; the reference's Eq at limits. -/
import Derived.Test.YtkkfnihdnclgiaaQuotaFind
import Derived.Test.YtkkfnihdnclgiaaQuotaClone
import Derived.Laws.StructEq
namespace Go.Proofs.Ytkkfnihdnclgiaa
open Go.RowKit

def takeBad (x : GLimit) : Int := if x.hard < x.used then 18 else 0
def giveBad (x : GLimit) : Int := if x.used < 0 then 1 else 0
theorem takeBad_any (x : GLimit) (w : World) : Calls Try.prog 35 #[limV x] w fun e w' => e = .returned (.int .i64 (takeBad x)) ∧ Below w.heap.size w w' := by
  unfold limV
  by_cases h : x.hard < x.used
  · have Hr : Hid (takeBad x = 18) := by show _ = _; unfold takeBad; rw [if_pos h]
    go_enter Try.func35, Try.ntmps35
    go_wp2_with fail
    go_ret
    exact ⟨congrArg (fun n => Ending.returned (Value.int .i64 n)) Hr.out.symm, (Below.refl _ _).alloc (Nat.le_refl _) _⟩
  · have Hr : Hid (takeBad x = 0) := by show _ = _; unfold takeBad; rw [if_neg h]
    go_enter Try.func35, Try.ntmps35
    go_wp2_with fail
    go_ret
    exact ⟨congrArg (fun n => Ending.returned (Value.int .i64 n)) Hr.out.symm, (Below.refl _ _).alloc (Nat.le_refl _) _⟩
theorem giveBad_any (x : GLimit) (w : World) : Calls Try.prog 36 #[limV x] w fun e w' => e = .returned (.int .i64 (giveBad x)) ∧ Below w.heap.size w w' := by
  unfold limV
  by_cases h : x.used < 0
  · have Hr : Hid (giveBad x = 1) := by show _ = _; unfold giveBad; rw [if_pos h]
    go_enter Try.func36, Try.ntmps36
    go_wp2_with fail
    go_ret
    exact ⟨congrArg (fun n => Ending.returned (Value.int .i64 n)) Hr.out.symm, (Below.refl _ _).alloc (Nat.le_refl _) _⟩
  · have Hr : Hid (giveBad x = 0) := by show _ = _; unfold giveBad; rw [if_neg h]
    go_enter Try.func36, Try.ntmps36
    go_wp2_with fail
    go_ret
    exact ⟨congrArg (fun n => Ending.returned (Value.int .i64 n)) Hr.out.symm, (Below.refl _ _).alloc (Nat.le_refl _) _⟩

def eqL (x y : GLimit) : Bool := (x.what.toList == y.what.toList) && ((x.hard == y.hard) && (x.used == y.used))
theorem Try.fieldsLimit : Try.prog.underlying 33 = some (.struct (Try.prog.fieldsOf 33)) := by kernel_rfl
theorem Try.heldLimit : Try.prog.stoodInHeld 33 = false := by kernel_rfl
theorem run_neqLim (x y : GLimit) (w : World) : (binOp .neq 33 (limV x) (limV y)).run Try.prog w = .ok (.bool (!eqL x y)) w := by
  unfold limV
  rw [run_neq_struct, run_equalIn_agg w 9999 _ _ _ Try.fieldsLimit Try.heldLimit]
  simp [Op.eqFields, Program.fieldsOf, Try.underlying33]
  go_simp
  unfold eqL
  cases h1 : (x.what.toList == y.what.toList) <;> cases h2 : (x.hard == y.hard) <;> cases h3 : (x.used == y.used) <;> simp_all

def eqLs (l m : List GLimit) : Bool := decide (l.length = m.length) && (l.zip m).all fun p => eqL p.1 p.2
theorem eqLs_yes {l m : List GLimit} (h : l.length = m.length) (k : ∀ (i : Nat) (x y : GLimit), i < l.length → l[i]? = some x → m[i]? = some y → eqL x y = true) : eqLs l m = true := by
  unfold eqLs
  rw [decide_eq_true h, Bool.true_and, List.all_eq_true]
  intro p hp
  obtain ⟨i, hi⟩ := List.getElem?_of_mem hp
  rw [List.getElem?_zip_eq_some] at hi
  exact k i p.1 p.2 (List.getElem?_eq_some_iff.1 hi.1).1 hi.1 hi.2
theorem eqLs_no {l m : List GLimit} {i : Nat} {x y : GLimit} (hx : l[i]? = some x) (hy : m[i]? = some y) (h : eqL x y = false) : eqLs l m = false := by
  unfold eqLs
  have : ((l.zip m).all fun p => eqL p.1 p.2) = false := by
    rw [List.all_eq_false]
    refine ⟨(x, y), List.mem_of_getElem? (i := i) ?_, by simp [h]⟩
    rw [List.getElem?_zip_eq_some]
    exact ⟨hx, hy⟩
  rw [this, Bool.and_false]
set_option maxRecDepth 100000 in
set_option maxHeartbeats 800000 in
theorem eqLimits_any (v1 v2 : Value) (l m : List GLimit) (w : World) (h1 : RowAt LimitR 3 w v1 l) (h2 : RowAt LimitR 3 w v2 m) (hl : l.length ≤ 1048576) (hm : m.length ≤ 1048576) :
    Calls Try.prog 14 #[v1, v2] w fun e w' => e = .returned (.bool (eqLs l m)) ∧ Below w.heap.size w w' := by
  obtain ⟨a1, c1, rfl, _, _⟩ := h1.len
  obtain ⟨a2, c2, rfl, _, _⟩ := h2.len
  have H1 := Lib.hid h1
  have H2 := Lib.hid h2
  clear h1 h2
  by_cases hlen : l.length = m.length
  · have q1 : ((l.length : Int) != (m.length : Int)) = false := by rw [bne_eq_false_iff_eq]; omega
    have Hlen := Lib.hid hlen
    clear hlen
    go_enter Try.func14, Try.ntmps14
    go_wp2_with fail
    clear q1
    go_loopg [14] l.length (fun g u14 wr => ∃ i : Nat, i + g = l.length ∧ u14 = .int .i64 (i : Int) ∧ Hid (∀ (k : Nat) (x y : GLimit), k < i → l[k]? = some x → m[k]? = some y → eqL x y = true) ∧ Below w.heap.size w wr)
    case atStart => exact ⟨0, by omega, rfl, Lib.hid (fun k _ _ hk => by omega), Below.refl _ _⟩
    case round =>
      obtain ⟨i, hig, rfl, Hall, hbel⟩ := hrel
      cases gk with
      | zero =>
        obtain rfl : i = l.length := by omega
        have Hyes : Hid (eqLs l m = true) := eqLs_yes Hlen.out fun k x y hk hx hy => Hall.out k x y hk hx hy
        go_wp2_with fail
        go_ret
        exact ⟨congrArg (fun b => Ending.returned (Value.bool b)) Hyes.out.symm, hbel⟩
      | succ g =>
        have hil : i < l.length := by omega
        have him : i < m.length := by have := Hlen.out; omega
        obtain ⟨x, hx⟩ : ∃ x, l[i]? = some x := ⟨l[i]'(by omega), List.getElem?_eq_getElem _⟩
        obtain ⟨y, hy⟩ : ∃ y, m[i]? = some y := ⟨m[i]'(by omega), List.getElem?_eq_getElem _⟩
        obtain ⟨b, o, c', hv, _, _, hbs, hcell⟩ := H1.out.form (by omega) (by omega)
        cases hv
        obtain ⟨cs, _, hcc, hR, _, _⟩ := hcell i x hx
        subst hR
        obtain ⟨b', o', c'', hv, _, _, hbs', hcell'⟩ := H2.out.form (by omega) (by omega)
        cases hv
        obtain ⟨cs', _, hcc', hR', _, _⟩ := hcell' i y hy
        subst hR'
        have e0 : wr.cell? ⟨b, o + i * 3, none⟩ = some (.string x.what) := (hbel.cell (p := ⟨b, _, none⟩) hbs).trans (by simpa using hcc 0 _ rfl)
        have e1 : wr.cell? ⟨b, o + i * 3 + 1, none⟩ = some (.int .i64 x.hard) := (hbel.cell (p := ⟨b, _, none⟩) hbs).trans (hcc 1 _ rfl)
        have e2 : wr.cell? ⟨b, o + i * 3 + 2, none⟩ = some (.int .i64 x.used) := (hbel.cell (p := ⟨b, _, none⟩) hbs).trans (hcc 2 _ rfl)
        have f0 : wr.cell? ⟨b', o' + i * 3, none⟩ = some (.string y.what) := (hbel.cell (p := ⟨b', _, none⟩) hbs').trans (by simpa using hcc' 0 _ rfl)
        have f1 : wr.cell? ⟨b', o' + i * 3 + 1, none⟩ = some (.int .i64 y.hard) := (hbel.cell (p := ⟨b', _, none⟩) hbs').trans (hcc' 1 _ rfl)
        have f2 : wr.cell? ⟨b', o' + i * 3 + 2, none⟩ = some (.int .i64 y.used) := (hbel.cell (p := ⟨b', _, none⟩) hbs').trans (hcc' 2 _ rfl)
        have hbs2 : b' < wr.heap.size := by have := hbel.size; omega
        have q1 : (0 : Int) ≤ (i : Int) := by omega
        have q2 : (i : Int) < (l.length : Int) := by omega
        have q3 : (i : Int) < (m.length : Int) := by omega
        have hne := run_neqLim x y
        unfold limV at hne
        have Hx := Lib.hid hx
        have Hy := Lib.hid hy
        have Hbel : ∀ o : Obj, Hid (Below w.heap.size w (wr.alloc o)) := fun o => Lib.hid (hbel.alloc hbel.size o)
        clear hcc hcc' hcell hcell' hx hy hbel
        by_cases he : eqL x y = true
        · have Hall2 : Hid (∀ (k : Nat) (x y : GLimit), k < i + 1 → l[k]? = some x → m[k]? = some y → eqL x y = true) := Lib.hid fun k x' y' hk hx' hy' => by
            rcases Nat.lt_or_ge k i with h | h
            · exact Hall.out k x' y' h hx' hy'
            · obtain rfl : k = i := by omega
              have a := Hx.out; have b := Hy.out
              rw [a] at hx'; rw [b] at hy'
              cases hx'; cases hy'
              exact he
          go_wp2_with fail
          go_quiet (fail)
          go_wp2_with fail
          go_roundg g
          case measure => omega
          case rel => exact ⟨i + 1, by omega, by go_num, Hall2, below_drewN (Hbel _).out _⟩
        · have he2 : eqL x y = false := by simpa using he
          have Hno : Hid (eqLs l m = false) := Lib.hid (eqLs_no Hx.out Hy.out he2)
          clear he
          go_wp2_with fail
          go_quiet (fail)
          go_wp2_with fail
          go_ret
          exact ⟨congrArg (fun b => Ending.returned (Value.bool b)) Hno.out.symm, below_drewN (Hbel _).out _⟩
  · have q1 : ((l.length : Int) != (m.length : Int)) = true := by rw [bne_iff_ne]; omega
    have Hno : Hid (eqLs l m = false) := by show _ = _; unfold eqLs; rw [decide_eq_false hlen, Bool.false_and]
    clear hlen
    go_enter Try.func14, Try.ntmps14
    go_wp2_with fail
    go_ret
    exact ⟨congrArg (fun b => Ending.returned (Value.bool b)) Hno.out.symm, Below.refl _ _⟩
end Go.Proofs.Ytkkfnihdnclgiaa
