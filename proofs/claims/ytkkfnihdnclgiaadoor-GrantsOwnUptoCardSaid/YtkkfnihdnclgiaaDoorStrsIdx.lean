/- slices.IndexFunc and slices.ContainsFunc: for whatever function value that answers a plain predicate. -/
import Derived.Test.YtkkfnihdnclgiaaDoorGrantsIdx
import Derived.WalkSpells
namespace Go.Proofs.YtkkfnihdnclgiaaDoor
open Go.RowKit

set_option maxRecDepth 100000 in
set_option maxHeartbeats 800000 in
theorem idxStrs_any {f : FuncId} {cap : Value} {Cap : World → Prop} {p : (List ByteArray) → Bool} {OK : (List ByteArray) → Prop} (enter : ∀ (a : Array Value) (w : World), (callFunc f a).run Tryd.prog w = .ok (.enter f a) w)
    (keepC : ∀ w w' : World, Cap w → Below w.heap.size w w' → Cap w')
    (clo : ∀ (x : (List ByteArray)) (y0 : Value) (w : World), RStrs w [y0] x → OK x → Cap w → Calls Tryd.prog f #[y0, cap] w fun e w' => e = .returned (.bool (p x)) ∧ Below w.heap.size w w')
    (v : Value) (l : List (List ByteArray)) (w : World) (h : RowAt RStrs 1 w v l) (hl : l.length ≤ 1073741824) (hok : ∀ x ∈ l, OK x) (hc : Cap w) : Calls Tryd.prog 58 #[v, .func (.func f) #[] #[cap]] w (AnyAt l p w) := by
  obtain ⟨a1, c1, rfl, _, _⟩ := h.len
  have H := Lib.hid h
  have Hc := Lib.hid hc
  have HC := Lib.hid clo
  have HK := Lib.hid keepC
  have Hok := Lib.hid hok
  have ep := enter
  clear h hc clo keepC enter hok
  go_enter Tryd.func58, Tryd.ntmps58
  go_wp2_with fail
  go_loopg [8] l.length (fun g u8 wr => ∃ i : Nat, i + g = l.length ∧ u8 = .int .i64 (i : Int) ∧ Hid (∀ x ∈ l.take i, p x = false) ∧ Hid (Cap wr) ∧ Below w.heap.size w wr)
  case atStart => exact ⟨0, by omega, rfl, Lib.hid (fun x hx => by simp at hx), Hc, Below.refl _ _⟩
  case round =>
    obtain ⟨i, hig, rfl, Hall, Hcr, hbel⟩ := hrel
    cases gk with
    | zero =>
      obtain rfl : i = l.length := by omega
      have Hany : Hid (decide ((0 : Int) ≤ -1) = l.any p) := by
        refine Lib.hid ?_
        rw [decide_eq_false (by omega), eq_comm, List.any_eq_false]
        intro x hx
        rw [Hall.out x (by rw [List.take_length]; exact hx)]; simp
      have Hbel := Lib.hid hbel
      clear hbel
      go_wp2_with fail
      go_ret
      exact ⟨-1, rfl, Hany.out, Hbel.out⟩
    | succ g =>
      have hil : i < l.length := by omega
      obtain ⟨x, hxi⟩ : ∃ x, l[i]? = some x := ⟨l[i]'(by omega), List.getElem?_eq_getElem _⟩
      obtain ⟨b, o, c', hv, _, _, hbs, hcell⟩ := H.out.form (by omega) (by omega)
      cases hv
      obtain ⟨ds, _, hcc, hR⟩ := hcell i x hxi
      have hR2 := hR
      obtain ⟨y0, rfl, _⟩ := hR
      have HR := Lib.hid (stays_strs _ _ _ _ (keeps_below hbel) hR2)
      have e0 : wr.cell? ⟨b, o + i, none⟩ = some (y0) := (hbel.cell (p := ⟨b, _, none⟩) hbs).trans (by simpa using hcc 0 _ rfl)
      have q1 : (0 : Int) ≤ (i : Int) := by omega
      have q2 : (i : Int) < (l.length : Int) := by omega
      have Hbel := Lib.hid hbel
      have hs0 := hbel.size
      have Hxi := Lib.hid hxi
      clear hcc hcell hbel hR2 hxi
      obtain ⟨pb, Hpb⟩ : ∃ pb, Hid (p x = pb) := ⟨_, Lib.hid rfl⟩
      go_wp2_with fail
      refine (HC.out x y0 wr HR.out (Hok.out x (List.mem_of_getElem? Hxi.out)) Hcr.out).mono ?_
      rintro E w1 ⟨rfl, hb1⟩
      rw [Hpb.out]
      have Hb1 := Lib.hid (Hbel.out.trans (hb1.mono hs0))
      have Hc1 := Lib.hid (HK.out _ _ Hcr.out hb1)
      clear hb1 e0
      cases pb with
      | true =>
        have Hany : Hid (decide ((0 : Int) ≤ (i : Int)) = l.any p) := by
          refine Lib.hid ?_
          rw [decide_eq_true (by omega), eq_comm, List.any_eq_true]
          exact ⟨x, List.mem_of_getElem? Hxi.out, Hpb.out⟩
        go_wp2_with fail
        go_ret
        exact ⟨_, rfl, Hany.out, Hb1.out⟩
      | false =>
        have Hall2 : Hid (∀ x ∈ l.take (i + 1), p x = false) := Lib.hid fun y hy => by
          rw [List.take_add_one, Hxi.out] at hy
          rcases List.mem_append.1 hy with h | h
          · exact Hall.out y h
          · have h9 : y = x := by simpa using h
            rw [h9]; exact Hpb.out
        go_wp2_with fail
        go_roundg g
        case measure => omega
        case rel => exact ⟨i + 1, by omega, by go_num, Hall2, Hc1, Hb1.out⟩
set_option maxRecDepth 100000 in
theorem anyStrs_any {f : FuncId} {cap : Value} {Cap : World → Prop} {p : (List ByteArray) → Bool} {OK : (List ByteArray) → Prop} (enter : ∀ (a : Array Value) (w : World), (callFunc f a).run Tryd.prog w = .ok (.enter f a) w)
    (keepC : ∀ w w' : World, Cap w → Below w.heap.size w w' → Cap w')
    (clo : ∀ (x : (List ByteArray)) (y0 : Value) (w : World), RStrs w [y0] x → OK x → Cap w → Calls Tryd.prog f #[y0, cap] w fun e w' => e = .returned (.bool (p x)) ∧ Below w.heap.size w w')
    (v : Value) (l : List (List ByteArray)) (w : World) (h : RowAt RStrs 1 w v l) (hl : l.length ≤ 1073741824) (hok : ∀ x ∈ l, OK x) (hc : Cap w) : Calls Tryd.prog 42 #[v, .func (.func f) #[] #[cap]] w fun e w' => e = .returned (.bool (l.any p)) ∧ Below w.heap.size w w' := by
  have H := Lib.hid (idxStrs_any enter keepC clo v l w h hl hok hc)
  obtain ⟨B, HB⟩ : ∃ B, Hid (l.any p = B) := ⟨_, Lib.hid rfl⟩
  rw [HB.out]
  clear h hc clo keepC enter
  go_enter Tryd.func42, Tryd.ntmps42
  go_wp2_with fail
  refine H.out.mono ?_
  rintro E w1 ⟨n, rfl, hn, hb⟩
  rw [HB.out] at hn
  have Hb := Lib.hid hb
  have Hn := Lib.hid hn
  clear hb hn H
  go_wp2_with fail
  go_ret
  exact ⟨congrArg (fun b => Ending.returned (Value.bool b)) Hn.out, Hb.out⟩
end Go.Proofs.YtkkfnihdnclgiaaDoor
