/- Texts of ours joined. -/
import Derived.WalkSpells
import Derived.Test.YtkmonmdnmpbadaaDoorShelf
import Derived.Lib.ItoaMem
import Derived.Lib.ItoaLen
import Derived.Lib.AppendIntMem
import Derived.Deep.DeepCutAuto
import Derived.Lib.LaidTab
import Derived.Deep.DeepHandedRow
import Derived.Test.YtkmonmdnmpbadaaDoorMg3
set_option linter.unusedVariables false
set_option linter.unusedSimpArgs false
namespace Go.Proofs.YtkmonmdnmpbadaaDoor
open Go.RowKit
set_option maxRecDepth 100000 in
set_option maxHeartbeats 800000 in
theorem idxStrs_any {f : FuncId} {cap : Value} {Cap : World → Prop} {p : (List ByteArray) → Bool} {OK : (List ByteArray) → Prop} (enter : ∀ (a : Array Value) (w : World), (callFunc f a).run Tryd.prog w = .ok (.enter f a) w)
    (keepC : ∀ w w' : World, Cap w → Below w.heap.size w w' → Cap w')
    (clo : ∀ (x : (List ByteArray)) (y0 : Value) (w : World), RStrs w [y0] x → OK x → Cap w → Calls Tryd.prog f #[y0, cap] w fun e w' => e = .returned (.bool (p x)) ∧ Below w.heap.size w w')
    (v : Value) (l : List (List ByteArray)) (w : World) (h : RowAt RStrs 1 w v l) (hl : l.length ≤ 1073741824) (hok : ∀ x ∈ l, OK x) (hc : Cap w) : Calls Tryd.prog 88 #[v, .func (.func f) #[] #[cap]] w (AnyAt l p w) := by
  obtain ⟨a1, c1, rfl, _, _⟩ := h.len
  have H := Lib.hid h
  have Hc := Lib.hid hc
  have HC := Lib.hid clo
  have HK := Lib.hid keepC
  have Hok := Lib.hid hok
  have ep := enter
  clear h hc clo keepC enter hok
  go_enter Tryd.func88, Tryd.ntmps88
  go_wp2_with fail
  go_loopg [8] l.length (fun g u8 wr => ∃ i : Nat, i + g = l.length ∧ u8 = .int .i64 (i : Int) ∧ Hid (∀ x ∈ l.take i, p x = false) ∧ Hid (Cap wr) ∧ Below w.heap.size w wr)
  case atStart => exact ⟨0, by omega, rfl, Lib.hid (fun x hx => by simp at hx), Hc, Below.refl _ _⟩
  case round =>
    obtain ⟨i, hig, rfl, Hall, Hcr, hbel⟩ := hrel
    cases gk with
    | zero =>
      obtain rfl : i = l.length := by omega
      have Hany : Hid (decide ((0 : Int) ≤ -1) = l.any p) := by
        refine Lib.hid ?_
        rw [decide_eq_false (by omega), eq_comm, List.any_eq_false]
        intro x hx
        rw [Hall.out x (by rw [List.take_length]; exact hx)]; simp
      have Hbel := Lib.hid hbel
      clear hbel
      go_wp2_with fail
      go_ret
      exact ⟨-1, rfl, Hany.out, Hbel.out⟩
    | succ g =>
      have hil : i < l.length := by omega
      obtain ⟨x, hxi⟩ : ∃ x, l[i]? = some x := ⟨l[i]'(by omega), List.getElem?_eq_getElem _⟩
      obtain ⟨b, o, c', hv, _, _, hbs, hcell⟩ := H.out.form (by omega) (by omega)
      cases hv
      obtain ⟨ds, _, hcc, hR⟩ := hcell i x hxi
      have hR2 := hR
      obtain ⟨y0, rfl, _⟩ := hR
      have HR := Lib.hid (stays_strs _ _ _ _ (keeps_below hbel) hR2)
      have e0 : wr.cell? ⟨b, o + i, none⟩ = some (y0) := (hbel.cell (p := ⟨b, _, none⟩) hbs).trans (by simpa using hcc 0 _ rfl)
      have q1 : (0 : Int) ≤ (i : Int) := by omega
      have q2 : (i : Int) < (l.length : Int) := by omega
      have Hbel := Lib.hid hbel
      have hs0 := hbel.size
      have Hxi := Lib.hid hxi
      clear hcc hcell hbel hR2 hxi
      obtain ⟨pb, Hpb⟩ : ∃ pb, Hid (p x = pb) := ⟨_, Lib.hid rfl⟩
      go_wp2_with fail
      refine (HC.out x y0 wr HR.out (Hok.out x (List.mem_of_getElem? Hxi.out)) Hcr.out).mono ?_
      rintro E w1 ⟨rfl, hb1⟩
      rw [Hpb.out]
      have Hb1 := Lib.hid (Hbel.out.trans (hb1.mono hs0))
      have Hc1 := Lib.hid (HK.out _ _ Hcr.out hb1)
      clear hb1 e0
      cases pb with
      | true =>
        have Hany : Hid (decide ((0 : Int) ≤ (i : Int)) = l.any p) := by
          refine Lib.hid ?_
          rw [decide_eq_true (by omega), eq_comm, List.any_eq_true]
          exact ⟨x, List.mem_of_getElem? Hxi.out, Hpb.out⟩
        go_wp2_with fail
        go_ret
        exact ⟨_, rfl, Hany.out, Hb1.out⟩
      | false =>
        have Hall2 : Hid (∀ x ∈ l.take (i + 1), p x = false) := Lib.hid fun y hy => by
          rw [List.take_add_one, Hxi.out] at hy
          rcases List.mem_append.1 hy with h | h
          · exact Hall.out y h
          · have h9 : y = x := by simpa using h
            rw [h9]; exact Hpb.out
        go_wp2_with fail
        go_roundg g
        case measure => omega
        case rel => exact ⟨i + 1, by omega, by go_num, Hall2, Hc1, Hb1.out⟩
set_option maxRecDepth 100000 in
theorem anyStrs_any {f : FuncId} {cap : Value} {Cap : World → Prop} {p : (List ByteArray) → Bool} {OK : (List ByteArray) → Prop} (enter : ∀ (a : Array Value) (w : World), (callFunc f a).run Tryd.prog w = .ok (.enter f a) w)
    (keepC : ∀ w w' : World, Cap w → Below w.heap.size w w' → Cap w')
    (clo : ∀ (x : (List ByteArray)) (y0 : Value) (w : World), RStrs w [y0] x → OK x → Cap w → Calls Tryd.prog f #[y0, cap] w fun e w' => e = .returned (.bool (p x)) ∧ Below w.heap.size w w')
    (v : Value) (l : List (List ByteArray)) (w : World) (h : RowAt RStrs 1 w v l) (hl : l.length ≤ 1073741824) (hok : ∀ x ∈ l, OK x) (hc : Cap w) : Calls Tryd.prog 61 #[v, .func (.func f) #[] #[cap]] w fun e w' => e = .returned (.bool (l.any p)) ∧ Below w.heap.size w w' := by
  have H := Lib.hid (idxStrs_any enter keepC clo v l w h hl hok hc)
  obtain ⟨B, HB⟩ : ∃ B, Hid (l.any p = B) := ⟨_, Lib.hid rfl⟩
  rw [HB.out]
  clear h hc clo keepC enter
  go_enter Tryd.func61, Tryd.ntmps61
  go_wp2_with fail
  refine H.out.mono ?_
  rintro E w1 ⟨n, rfl, hn, hb⟩
  rw [HB.out] at hn
  have Hb := Lib.hid hb
  have Hn := Lib.hid hn
  clear hb hn H
  go_wp2_with fail
  go_ret
  exact ⟨congrArg (fun b => Ending.returned (Value.bool b)) Hn.out, Hb.out⟩
end Go.Proofs.YtkmonmdnmpbadaaDoor
namespace Go.Proofs.YtkmonmdnmpbadaaDoor
open Go.RowKit
/-- the number that some digits tell -/
def readD (l : List UInt8) : Nat := l.foldl (fun a c => 10 * a + (c.toNat - 48)) 0
theorem readD_dec (u : Nat) : readD (Lib.decDigits u) = u := by
  induction u using Nat.strongRecOn with
  | _ u ih =>
    rw [Lib.decDigits]
    split
    · rename_i h
      have h1 : (UInt8.ofNat (48 + u)).toNat = 48 + u := by rw [UInt8.toNat_ofNat']; omega
      unfold readD
      simp only [List.foldl_cons, List.foldl_nil, h1]
      omega
    · rename_i h
      have h1 : (UInt8.ofNat (48 + u % 10)).toNat = 48 + u % 10 := by rw [UInt8.toNat_ofNat']; omega
      have h2 := ih (u / 10) (by omega)
      unfold readD at h2 ⊢
      rw [List.foldl_append, h2]
      simp only [List.foldl_cons, List.foldl_nil, h1]
      omega
def xName (n : Nat) : ByteArray := (⟨#[120]⟩ : ByteArray) ++ ⟨(Lib.itoa (n : Int)).toArray⟩
theorem xName_list (n : Nat) : (xName n).data.toList = 120 :: Lib.decDigits n := by
  unfold xName
  rw [Lib.itoa_nonneg]
  simp
theorem xName_inj {a b : Nat} (h : xName a = xName b) : a = b := by
  have h1 := xName_list a
  rw [h, xName_list] at h1
  simp only [List.cons.injEq, true_and] at h1
  rw [← readD_dec a, ← readD_dec b, h1]
/-- a text that no list has -/
def freshOf (L : List (List ByteArray)) (s : ByteArray) : Prop := (∀ m ∈ L, s ∉ m) ∧ s ≠ starB ∧ s.size ≠ 0
theorem xName_fresh {L : List (List ByteArray)} {n : Nat} (h : ∀ m ∈ L, xName n ∉ m) : freshOf L (xName n) := by
  refine ⟨h, fun e => ?_, fun e => ?_⟩
  · have h1 := xName_list n
    rw [e] at h1
    have h2 : starB.data.toList = [42] := by decide +kernel
    rw [h2] at h1
    cases h1
  · have h1 := xName_list n
    have h2 : (xName n).data.toList.length = (xName n).size := by simp
    rw [h1, e] at h2
    cases h2
theorem nodup_le {α : Type} [DecidableEq α] : ∀ {l m : List α}, l.Nodup → (∀ x ∈ l, x ∈ m) → l.length ≤ m.length
  | [], _, _, _ => by simp
  | x :: r, m, h, hs => by
    rw [List.nodup_cons] at h
    have hx := hs x (List.mem_cons_self ..)
    have := nodup_le (l := r) (m := m.erase x) h.2 fun y hy => (List.mem_erase_of_ne (fun e => h.1 (by rw [← e]; exact hy))).2 (hs y (List.mem_cons_of_mem _ hy))
    rw [List.length_erase_of_mem hx] at this
    have h3 : 0 < m.length := List.length_pos_of_mem hx
    simp only [List.length_cons]
    omega
/-- more names than there are texts: one is fresh -/
theorem xName_room {L : List (List ByteArray)} {T : Nat} (hT : L.flatten.length ≤ T) (h : ∀ j, j < T + 1 → ∃ m ∈ L, xName j ∈ m) : False := by
  have h1 := nodup_le (l := (List.range (T + 1)).map xName) (m := L.flatten) (by
    rw [List.nodup_iff_pairwise_ne, List.pairwise_map]
    exact (List.nodup_range (n := T + 1)).imp fun hne e => hne (xName_inj e)) (fun x hx => by
    obtain ⟨j, hj, rfl⟩ := List.mem_map.1 hx
    obtain ⟨m, hm, hx⟩ := h j (List.mem_range.1 hj)
    exact List.mem_flatten.2 ⟨m, hm, hx⟩)
  rw [List.length_map, List.length_range] at h1
  omega
def CapS (gs : Nat) (s : ByteArray) (w : World) : Prop := w.heap[gs]? = some (.cells #[.string s] 9 (0, 0))
set_option maxRecDepth 100000 in
theorem cloFresh_any (gs : Nat) (s : ByteArray) (m : List ByteArray) (y0 : Value) (w : World) (h : RStrs w [y0] m) (hl : m.length ≤ 1073741824) (hc : CapS gs s w) :
    Calls Tryd.prog 62 #[y0, .pointer (some ⟨gs, 0, none⟩)] w fun e w' => e = .returned (.bool (Lib.containsS m s)) ∧ Below w.heap.size w w' := by
  obtain ⟨v, hcs, hv⟩ := h
  simp only [List.cons.injEq, and_true] at hcs
  obtain rfl := hcs
  have hc' : w.heap[gs]? = some (.cells #[.string s] 9 (0, 0)) := hc
  have cc := fun i => cell_block hc' i
  have H := Lib.hid hv
  obtain ⟨R, HR⟩ : ∃ R, Hid (Lib.containsS m s = R) := ⟨_, Lib.hid rfl⟩
  rw [HR.out]
  clear hc hc' hv
  go_enter Tryd.func62, Tryd.ntmps62
  go_wp2_with fail
  refine (contains_any y0 m s w H.out hl).mono ?_
  rw [HR.out]
  rintro E w2 ⟨rfl, rfl⟩
  go_wp2_with fail
  go_ret
  exact ⟨rfl, Below.refl _ _⟩
def FreshAt (L : List (List ByteArray)) (w : World) (e : Ending) (w' : World) : Prop := ∃ s, e = .returned (.string s) ∧ freshOf L s ∧ s.size ≤ 22 ∧ Below w.heap.size w w'
set_option maxRecDepth 100000 in
set_option maxHeartbeats 800000 in
theorem fresh_any (v : Value) (L : List (List ByteArray)) (w : World) (h : RowAt RStrs 1 w v L) (hl : L.length ≤ 1048576) (hT : L.flatten.length ≤ 1048576) (htab : TabOK w) :
    Calls Tryd.prog 40 #[v] w (FreshAt L w) := by
  have hm : ∀ m ∈ L, m.length ≤ 1073741824 := fun m hm => by
    have : m.length ≤ L.flatten.length := by
      rw [List.length_flatten]
      have h9 : ∀ (l : List Nat) (x : Nat), x ∈ l → x ≤ l.sum := fun l => by
        induction l with
        | nil => intro x hx; cases hx
        | cons y r ih => intro x hx; rw [List.sum_cons]; rcases List.mem_cons.1 hx with rfl | hx; · omega
                         · have := ih x hx; omega
      exact h9 _ _ (List.mem_map.2 ⟨m, hm, rfl⟩)
    omega
  have H := Lib.hid h
  have Hm := Lib.hid hm
  have HT := Lib.hid hT
  have Htab := Lib.hid htab
  clear h hm hT htab
  go_enter Tryd.func40, Tryd.ntmps40
  go_wp2_with fail
  go_loopg [3] 1048577 (fun g u3 wr => ∃ i : Nat, i + g = 1048577 ∧ u3 = .int .i64 (i : Int) ∧ Hid (∀ j, j < i → ∃ m ∈ L, xName j ∈ m) ∧ Hid (Below w.heap.size w wr))
  case atStart => exact ⟨0, by omega, rfl, Lib.hid (fun j hj => by omega), Lib.hid (Below.refl _ _)⟩
  case round =>
    obtain ⟨i, hig, rfl, Hall, Hbel⟩ := hrel
    cases gk with
    | zero => exact (xName_room HT.out (fun j hj => Hall.out j (by omega))).elim
    | succ g =>
      have hsw := Hbel.out.size
      have hi : i ≤ 1048576 := by omega
      obtain ⟨nm, Hnm⟩ : ∃ nm, Hid (nm = xName i) := ⟨_, Lib.hid rfl⟩
      have hlen := Lib.itoa_length_le (i : Int) (by omega) (by omega)
      have ls1 : ¬ 9223372036854775807 < 1 + (Lib.itoa (i : Int)).length := by omega
      have hnl : nm.size ≤ 22 := by
        rw [Hnm.out]; unfold xName
        rw [ByteArray.size_append]
        have : (ByteArray.mk (Lib.itoa (i : Int)).toArray).size = (Lib.itoa (i : Int)).length := by show (Array.mk _).size = _; simp
        have h1 : (ByteArray.mk #[120]).size = 1 := rfl
        omega
      have hx : ({ data := #[120] } : ByteArray) ++ { data := (Lib.itoa (i : Int)).toArray } = nm := Hnm.out.symm
      have Hx := Lib.hid hx
      clear hlen hx
      go_wp2_with fail
      refine (Tryd.strconv_Itoa (i : Int) (by omega) (by omega) wr (var_keep Htab.out (Hbel.out))).mono ?_
      rintro E w1 ⟨rfl, k, os, hw1⟩
      have hb1 : Below wr.heap.size wr w1 := by rw [hw1]; exact Lib.below_grow _ _ (Nat.le_refl _) _ _
      have Hb1 := Lib.hid (Hbel.out.trans (hb1.mono hsw))
      have hs1 := Hb1.out.size
      clear hw1 hb1
      go_upto_region 4 with fail
      rw [Hx.out]
      have Hrow := Lib.hid (H.out.below stays_strs Hb1.out)
      obtain ⟨W2, HW2⟩ : ∃ W2, Hid (w1.alloc (Obj.cells #[Value.string nm] 9) = W2) := ⟨_, Lib.hid rfl⟩
      have HbW2 : Hid (Below w1.heap.size w1 W2) := Lib.hid (by rw [← HW2.out]; exact (Below.refl _ _).alloc (Nat.le_refl _) _)
      have hsz := HbW2.out.size
      have Hcap : Hid (CapS w1.heap.size nm W2) := Lib.hid (by rw [← HW2.out]; exact heap_alloc_new _ _)
      have cc := fun i => cell_block (show W2.heap[w1.heap.size]? = some (.cells #[.string nm] 9 (0, 0)) from Hcap.out) i
      obtain ⟨pb, Hpb⟩ : ∃ pb, Hid (L.any (fun m => Lib.containsS m nm) = pb) := ⟨_, Lib.hid rfl⟩
      rw [HW2.out]
      go_wp2_with fail
      refine (anyStrs_any (f := 62) (cap := .pointer (some ⟨w1.heap.size, 0, none⟩)) (Cap := CapS w1.heap.size nm) (p := fun m => Lib.containsS m nm) (OK := fun m => m.length ≤ 1073741824) (run_callFunc_body Tryd.func62 (by kernel_rfl) (by kernel_rfl)) (fun _ _ h hb => below_block hb h) (fun m y0 w' hm ho hc => cloFresh_any w1.heap.size nm m y0 w' hm ho hc) v L W2 (Hrow.out.below stays_strs HbW2.out) (by omega) Hm.out Hcap.out).mono ?_
      rintro E w3 ⟨rfl, hb3⟩
      rw [Hpb.out]
      have Hb3 := Lib.hid (Hb1.out.trans ((HbW2.out.trans (hb3.mono hsz)).mono hs1))
      have cc := fun i => cell_block (show w3.heap[w1.heap.size]? = some (.cells #[.string nm] 9 (0, 0)) from below_block hb3 Hcap.out) i
      clear hb3
      cases pb with
      | true =>
        have Hall2 : Hid (∀ j, j < i + 1 → ∃ m ∈ L, xName j ∈ m) := Lib.hid fun j hj => by
          rcases Nat.lt_or_ge j i with h | h
          · exact Hall.out j h
          · obtain rfl : j = i := by omega
            have h1 := Hpb.out
            rw [List.any_eq_true] at h1
            obtain ⟨m, hm, hc⟩ := h1
            exact ⟨m, hm, by rw [← Hnm.out]; exact (Lib.containsS_iff m nm).1 hc⟩
        go_wp2_with fail
        go_roundg g
        case measure => omega
        case rel => exact ⟨i + 1, by omega, by go_num, Hall2, Hb3⟩
      | false =>
        have Hfr : Hid (freshOf L nm) := Lib.hid (by
          rw [Hnm.out]
          refine xName_fresh fun m hm hx => ?_
          have h1 := Hpb.out
          rw [List.any_eq_false] at h1
          exact h1 m hm ((Lib.containsS_iff m nm).2 (by rw [Hnm.out]; exact hx)))
        go_wp2_with fail
        go_ret
        exact ⟨nm, rfl, Hfr.out, hnl, Hb3.out⟩
end Go.Proofs.YtkmonmdnmpbadaaDoor
namespace Go.Proofs.YtkmonmdnmpbadaaDoor
open Go.RowKit
/-- the word that stands for s -/
def wordOf (L : List (List ByteArray)) (s t : ByteArray) : Prop := if s = starB then freshOf L t else t = s
def allN (r : GRule) : List ByteArray := if r.names.length = 0 then [starB] else r.names
def cellP (l : List GRule) (r : GRule) (v k n : ByteArray) : Bool := l.any fun h => hasL h.verbs v && (hasL h.kinds k && (decide (h.names.length = 0) || (decide (r.names.length ≠ 0) && Lib.containsS h.names n)))
def coverP (l : List GRule) (r : GRule) : Prop := ∀ v ∈ r.verbs, ∀ k ∈ r.kinds, ∀ n ∈ allN r, n.size ≠ 0 → cellP l r v k n = true
structure AskFor (l : List GRule) (r : GRule) (v k n : ByteArray) (a : GAsk) : Prop where
  verb : wordOf (l.map (·.verbs)) v a.verb
  kind : wordOf (l.map (·.kinds)) k a.kind
  space : a.space = ByteArray.empty
  name : if r.names.length = 0 then freshOf (l.map (·.names)) a.name else a.name = n
theorem hasL_word {L : List (List ByteArray)} {v t : ByteArray} (h : wordOf L v t) {m : List ByteArray} (hm : m ∈ L) : hasL m t = hasL m v := by
  unfold wordOf at h
  split at h
  · rename_i hv
    subst hv
    unfold hasL
    have : Lib.containsS m t = false := by
      rw [← Bool.not_eq_true, Lib.containsS_iff]
      exact h.1 m hm
    rw [this, Bool.false_or, Bool.or_self]
  · rw [h]
theorem eqB_none {n : ByteArray} (h : n.size ≠ 0) : eqB n ByteArray.empty = false := by rw [eqB_empty, decide_eq_false h]
theorem allows_cell {l : List GRule} {r : GRule} {v k n : ByteArray} {a : GAsk} (h : AskFor l r v k n a) (hn : n.size ≠ 0) : allowsL l a = cellP l r v k n := by
  unfold allowsL cellP
  have key : ∀ x ∈ l, allowsR a x = (hasL x.verbs v && (hasL x.kinds k && (decide (x.names.length = 0) || (decide (r.names.length ≠ 0) && Lib.containsS x.names n)))) := fun x hx => by
    unfold allowsR
    rw [hasL_word h.verb (List.mem_map.2 ⟨x, hx, rfl⟩), hasL_word h.kind (List.mem_map.2 ⟨x, hx, rfl⟩)]
    have hN := h.name
    split at hN
    · rename_i h0
      have h1 : Lib.containsS x.names a.name = false := by
        rw [← Bool.not_eq_true, Lib.containsS_iff]
        exact hN.1 _ (List.mem_map.2 ⟨x, hx, rfl⟩)
      rw [h1]
      simp [h0]
    · rename_i h0
      rw [hN, eqB_none hn]
      simp [h0]
  have gen : ∀ (m : List GRule) (p q : GRule → Bool), (∀ x ∈ m, p x = q x) → m.any p = m.any q := fun m p q => by
    induction m with
    | nil => intro _; rfl
    | cons x r ih =>
      intro h
      rw [List.any_cons, List.any_cons, h x (List.mem_cons_self ..), ih fun y hy => h y (List.mem_cons_of_mem _ hy)]
  exact gen l _ _ key
theorem hasL_own {m L} {v t : ByteArray} (hv : v ∈ m) (h : wordOf L v t) : hasL m t = true := by
  unfold hasL
  rw [Bool.or_eq_true, Lib.containsS_iff, Lib.containsS_iff]
  unfold wordOf at h
  split at h
  · rename_i hs
    exact .inr (by rw [← hs]; exact hv)
  · exact .inl (by rw [h]; exact hv)
theorem allows_own {l : List GRule} {r : GRule} {v k n : ByteArray} {a : GAsk} (h : AskFor l r v k n a) (hn : n.size ≠ 0) (hv : v ∈ r.verbs) (hk : k ∈ r.kinds) (hN : n ∈ allN r) : allowsR a r = true := by
  unfold allowsR
  rw [hasL_own hv h.verb, hasL_own hk h.kind, Bool.true_and, Bool.true_and]
  have h1 := h.name
  unfold allN at hN
  by_cases h0 : r.names.length = 0
  · rw [decide_eq_true h0, Bool.true_or]
  · rw [if_neg h0] at h1 hN
    rw [h1, eqB_none hn, (Lib.containsS_iff _ _).2 hN]
    simp
/-- what Beyond tells -/
def BeyondAt (l : List GRule) (r : GRule) (a : GAsk) (b : Bool) : Prop :=
  (b = false ∧ a = ⟨ByteArray.empty, ByteArray.empty, ByteArray.empty, ByteArray.empty⟩ ∧ coverP l r) ∨ (b = true ∧ ¬ coverP l r ∧ allowsR a r = true ∧ allowsL l a = false)
theorem beyond_yes {l : List GRule} {r : GRule} {v k n : ByteArray} {a : GAsk} (h : AskFor l r v k n a) (hn : n.size ≠ 0) (hv : v ∈ r.verbs) (hk : k ∈ r.kinds) (hN : n ∈ allN r) (ha : allowsL l a = false) : BeyondAt l r a true :=
  .inr ⟨rfl, fun hc => (by rw [allows_cell h hn, hc v hv k hk n hN hn] at ha; cases ha), allows_own h hn hv hk hN, ha⟩
def WordAt (L : List (List ByteArray)) (s : ByteArray) (w : World) (e : Ending) (w' : World) : Prop := ∃ t, e = .returned (.string t) ∧ wordOf L s t ∧ Below w.heap.size w w'
theorem star_data : (⟨#[42]⟩ : ByteArray) = starB := toList_inj (by decide +kernel)
set_option maxRecDepth 100000 in
theorem word_any (s : ByteArray) (v : Value) (L : List (List ByteArray)) (w : World) (h : RowAt RStrs 1 w v L) (hl : L.length ≤ 1048576) (hT : L.flatten.length ≤ 1048576) (htab : TabOK w) :
    Calls Tryd.prog 39 #[.string s, v] w (WordAt L s w) := by
  have H := Lib.hid (fresh_any v L w h hl hT htab)
  obtain ⟨b, Hb⟩ : ∃ b : Bool, Hid (b = decide (s = starB)) := ⟨_, Lib.hid rfl⟩
  have hb : (s.toList == [42]) = b := by
    rw [Hb.out]
    have h9 : eqB s starB = (s.toList == [42]) := by unfold eqB; rw [show starB.toList = [42] from by decide +kernel]
    rw [← h9]
    rw [Bool.eq_iff_iff, eqB_iff, decide_eq_true_iff]
  clear h htab
  go_enter Tryd.func39, Tryd.ntmps39
  cases b with
  | true =>
    have hs : s = starB := of_decide_eq_true Hb.out.symm
    have Hs := Lib.hid hs
    clear hs
    go_wp2_with fail
    refine H.out.mono ?_
    rintro E w1 ⟨t, rfl, ht, _, hb1⟩
    have Hq : Hid (wordOf L s t) := Lib.hid (by unfold wordOf; rw [if_pos Hs.out]; exact ht)
    have Hb1 := Lib.hid hb1
    clear ht hb1 H
    go_wp2_with fail
    go_ret
    exact ⟨t, rfl, Hq.out, Hb1.out⟩
  | false =>
    have hs : s ≠ starB := of_decide_eq_false Hb.out.symm
    have Hq : Hid (wordOf L s s) := Lib.hid (by unfold wordOf; rw [if_neg hs])
    clear hs H
    go_wp2_with fail
    go_ret
    exact ⟨s, rfl, Hq.out, Below.refl _ _⟩
end Go.Proofs.YtkmonmdnmpbadaaDoor
namespace Go.Proofs.YtkmonmdnmpbadaaDoor
open Go
section
variable {P : Program} {ops : Array Oper} {md : Region.Mode}
/-- what the kernel reckons -/
def relYB (md : Region.Mode) (l : List Oper) (n : Nat) (deps kills : Nat → List Nat) : Bool :=
  decide (n < l.length) && Region.sinkB md l.toArray n && Region.chainB md l.toArray n &&
  ((List.range l.length).all fun i => match l[i]? with | some o => o.after.all fun e => !Region.binds md e || decide (e.on < i) | none => true) &&
  ((List.range n).all fun i => (List.range i).all fun j => match l[i]?, l[j]? with | some x, some y => (match y.dst with | some d => x.dst != some d | none => true) | _, _ => true) &&
  ((List.range n).all fun i => match l[i]? with | some o => (deps i).all fun j => decide (j < n) && o.after.any fun e => Region.binds md e && (e.on == j || (decide (e.on < i) && (deps e.on).contains j)) | none => true) &&
  Region.seqB md l.toArray (l.length - n) n (canon n l.length) &&
  ((List.range n).all fun i => (deps i).all fun d => (kills d).all fun i' => i' == i || (match l[i']? with | some o' => o'.after.any fun e => Region.binds md e && e.on == i | none => false))
end
end Go.Proofs.YtkmonmdnmpbadaaDoor
namespace Go.Proofs.YtkmonmdnmpbadaaDoor
open Go
section
variable {P : Program} {ops : Array Oper} {md : Region.Mode}
theorem wpAny_relZ {n g : Nat} {hs : List Oper} {a0 : Act} {I : World → Prop} {S : Nat → World → Prop} {R : Nat → (Nat → Value) → World → Prop} {deps kills : Nat → List Nat} {Q : Exit → Act → World → Prop}
    (hops : ∀ j, j < n → hs[j]? = ops[j]?) (hn : n < ops.size) (hap : apartDsts hs)
    (hs1 : Region.sinkB md ops n = true) (hc1 : Region.chainB md ops n = true)
    (hback : ∀ i o, ops[i]? = some o → ∀ e ∈ o.after, Region.binds md e = true → e.on < i)
    (hdeps : ∀ i o, hs[i]? = some o → ∀ j ∈ deps i, j < n ∧ ∃ e ∈ o.after, Region.binds md e = true ∧ (e.on = j ∨ (e.on < i ∧ j ∈ deps e.on)))
    (hkill : ∀ i o, hs[i]? = some o → ∀ d ∈ deps i, ∀ i' ∈ kills d, i' = i ∨ ∃ o', ops[i']? = some o' ∧ ∃ e ∈ o'.after, Region.binds md e = true ∧ e.on = i)
    (hloc : ∀ j u u' w, (∀ k, (k = j ∨ k ∈ deps j) → u k = u' k) → R j u w → R j u' w)
    (obl : ∀ i o, hs[i]? = some o → ∀ (u : Nat → Value) w, I w → S i w → (∀ j ∈ deps i, R j u w) →
      (Region.wanted o (yielded ops (putAll hs u 0 a0).tmps) = true ∧ gives P (fun v w' => R i (upd u i v) w' ∧ I w' ∧ (∀ j u, j ≠ i → i ∉ kills j → R j u w → R j u w') ∧ (∀ j, j ≠ i → S j w → S j w')) ((execOp (putAll hs u 0 a0).eval o).run P w)) ∨
      (Region.wanted o (yielded ops (putAll hs u 0 a0).tmps) = false ∧ R i (upd u i undef) w))
    (hend : ∀ (u : Nat → Value) w, I w → (∀ j, j < n → kills j = [] → R j u w) → wpAny P md ops Q g (canon n ops.size) (putAll hs u 0 a0) w) :
    ∀ (f : Nat) (listed : Array Bool) (u : Nat → Value) (w : World), unl listed n = f → HeadInv md ops n listed → I w → (∀ j, j < n → listed.getD j false = true → (∀ i ∈ kills j, listed.getD i false = false) → R j u w) → (∀ j, j < n → listed.getD j false = false → S j w) →
      wpAny P md ops Q (f + g) listed (putAll hs u 0 a0) w := by
  have clos : ∀ (listed : Array Bool), HeadInv md ops n listed → ∀ (m j : Nat), j < n → j ≤ m → listed.getD j false = true → ∀ d ∈ deps j, listed.getD d false = true := by
    intro listed inv m
    induction m with
    | zero =>
      intro j hjn hjm hl d hd
      have hj0 : j = 0 := by omega
      subst hj0
      have hoj : ops[0]? = some (ops[0]'(by omega)) := by simp [show 0 < ops.size by omega]
      obtain ⟨_, e, he, hb, hon⟩ := hdeps 0 _ ((hops 0 hjn).trans hoj) d hd
      have h1 := inv.closed 0 _ hoj hl e he hb
      rcases hon with h2 | ⟨h2, _⟩
      · rw [← h2]; exact h1
      · omega
    | succ m ihm =>
      intro j hjn hjm hl d hd
      have hoj : ops[j]? = some (ops[j]'(by omega)) := by simp [show j < ops.size by omega]
      obtain ⟨_, e, he, hb, hon⟩ := hdeps j _ ((hops j hjn).trans hoj) d hd
      have h1 := inv.closed j _ hoj hl e he hb
      rcases hon with h2 | ⟨h2, h3⟩
      · rw [← h2]; exact h1
      · exact ihm e.on (by omega) (by omega) h1 d h3
  intro f
  induction f with
  | zero =>
    intro listed u w hf inv hI hR hS
    rw [Nat.zero_add, eq_canon inv hf]
    refine hend u w hI fun j hj hk0 => hR j hj (getD_false (by rw [inv.size]; omega) (unl_zero hf j hj)) (fun i hi => by rw [hk0] at hi; cases hi)
  | succ f ih =>
    intro listed u w hf inv hI hR hS
    obtain ⟨k, hk, hku, hkr⟩ := ready_ex inv hback (by omega) (by omega)
    rw [show f + 1 + g = (f + g) + 1 by omega]
    refine ⟨fun h => (by rw [h] at hkr; cases hkr), fun i hi => ?_⟩
    have hin : i < n := by
      rcases Nat.lt_or_ge i n with h | h
      · exact h
      · exact absurd hi (tail_waits hs1 hc1 hn inv _ k rfl hk hku i h)
    obtain ⟨hiu, o, ho, hall⟩ := mem_ready.1 hi
    have ho' : hs[i]? = some o := (hops i hin).trans ho
    have hRd : ∀ j ∈ deps i, R j u w := fun j hj => by
      obtain ⟨hjn, e, he, hb, hon⟩ := hdeps i o ho' j hj
      refine hR j hjn (by rcases hon with h2 | ⟨h2, h3⟩; · rw [← h2]; exact hall e he hb
                          · exact clos listed inv e.on e.on (by omega) (Nat.le_refl _) (hall e he hb) j h3) fun i' hi' => ?_
      rcases hkill i o ho' j hj i' hi' with rfl | ⟨o', ho2, e', he', hb', hon'⟩
      · exact getD_both hiu
      · cases hl : listed.getD i' false with
        | false => rfl
        | true =>
          have h1 := inv.closed i' o' ho2 hl e' he' hb'
          rw [hon', getD_both hiu] at h1
          cases h1
    have next : ∀ v w', R i (upd u i v) w' → I w' → (∀ j u, j ≠ i → i ∉ kills j → R j u w → R j u w') → (∀ j, j ≠ i → S j w → S j w') → wpAny P md ops Q (f + g) (listed.setIfInBounds i true) ((putAll hs u 0 a0).put o.dst v) w' := fun v w' hv hI' hst hsS => by
      rw [putAll_set hs u 0 i a0 o v hap ho']
      have hil : i < listed.size := by rw [inv.size]; omega
      refine ih _ _ w' (by have := unl_set hin hiu hil; omega) (inv.set hi hin) hI' (fun j hj hl hal => ?_) fun j hj hl => by
        by_cases hji : j = i
        · subst hji
          have : (listed.setIfInBounds j true).getD j false = true := by simp [Array.getD, hil]
          rw [this] at hl; cases hl
        · exact hsS j hji (hS j hj (by rwa [getD_set_ne false (fun h => hji h.symm)] at hl))
      have hup : (fun j => if j = 0 + i then v else u j) = upd u i v := by funext j; simp [upd]
      rw [hup]
      by_cases hji : j = i
      · subst hji; exact hv
      · rw [getD_set_ne false (fun h => hji h.symm)] at hl
        have hik : i ∉ kills j := fun hik => by
          have h1 := hal i hik
          have hil2 : i < listed.size := hil
          have : (listed.setIfInBounds i true).getD i false = true := by simp [Array.getD, hil2]
          rw [this] at h1
          cases h1
        refine hloc j u _ w' (fun q hq => ?_) (hst _ _ hji hik (hR j hj hl (fun i' hi' => by
          have h1 := hal i' hi'
          by_cases hii : i' = i
          · subst hii; exact absurd hi' hik
          · rwa [getD_set_ne false (fun h => hii h.symm)] at h1)))
        unfold upd
        rw [if_neg ?_]
        rintro rfl
        rcases hq with rfl | hq
        · exact hji rfl
        · have h1 := clos listed inv j j hj (Nat.le_refl _) hl q hq
          rw [getD_both hiu] at h1
          cases h1
    unfold wpOp
    simp only [ho]
    rcases obl i o ho' u w hI (hS i hin (getD_both hiu)) hRd with ⟨hw, hg⟩ | ⟨hw, hv⟩
    · rw [if_pos hw]
      refine .inl ?_
      unfold Oper.wp
      exact gives_upon (R := fun v w' => R i (upd u i v) w' ∧ I w' ∧ (∀ j u, j ≠ i → i ∉ kills j → R j u w → R j u w') ∧ ∀ j, j ≠ i → S j w → S j w') (fun v w' h => next v w' h.1 h.2.1 h.2.2.1 h.2.2.2) hg
    · rw [if_neg (by rw [hw]; simp)]
      exact next undef w hv hI (fun _ _ _ _ h => h) (fun _ _ h => h)
theorem wp_region_relZr {id : Nat} {Q : Exit → Act → World → Prop} {a : Act} {w : World} {l : List Oper} (n : Nat) (I : World → Prop) (S : Nat → World → Prop) (R : Nat → (Nat → Value) → World → Prop) (deps kills : Nat → List Nat)
    (hm : P.follows .mixedOrders = true) (hB : relYB .any l n deps kills = true) (hloc : ∀ j u u' w, (∀ k, (k = j ∨ k ∈ deps j) → u k = u' k) → R j u w → R j u' w) (hI : I w.drew) (hS0 : ∀ j, S j w.drew)
    (obl : ∀ i o, (l.take n)[i]? = some o → ∀ (u : Nat → Value) w, I w → S i w → (∀ j ∈ deps i, R j u w) →
      (Region.wanted o (yielded l.toArray (putAll (l.take n) u 0 a).tmps) = true ∧ gives P (fun v w' => R i (upd u i v) w' ∧ I w' ∧ (∀ j u, j ≠ i → i ∉ kills j → R j u w → R j u w') ∧ (∀ j, j ≠ i → S j w → S j w')) ((execOp (putAll (l.take n) u 0 a).eval o).run P w)) ∨
      (Region.wanted o (yielded l.toArray (putAll (l.take n) u 0 a).tmps) = false ∧ R i (upd u i undef) w))
    (htail : ∀ (u : Nat → Value) w, I w → (∀ j, j < n → kills j = [] → R j u w) → wpList P l.toArray Q (l.drop n) (putAll (l.take n) u 0 a) w) : (Code.region id l.toArray true).wp P Q a w := by
  simp only [relYB, Bool.and_eq_true, decide_eq_true_eq, List.all_eq_true, List.mem_range] at hB
  obtain ⟨⟨⟨⟨⟨⟨⟨hn, hs1⟩, hc1⟩, hback⟩, hap⟩, hdeps⟩, hseq⟩, hkl⟩ := hB
  have hsz : l.toArray.size = l.length := by simp
  refine wp_region_any hm ?_
  have hown : putAll (l.take n) (fun j => slotOf a (((l.take n)[j]?).bind (·.dst))) 0 a = a := putAll_own _ 0 a _ fun j o ho => by simp only [Nat.zero_add]; rw [ho]; rfl
  have hu0 : unl (Array.replicate l.toArray.size false) n = n := by
    have key : ∀ m, m ≤ l.length → unl (Array.replicate l.toArray.size false) m = m := by
      intro m
      induction m with
      | zero => intro _; rfl
      | succ m ih =>
        intro h
        unfold unl
        rw [ih (by omega), if_neg (by simp [Array.getD, show m < l.length by omega])]
    exact key n (by omega)
  have inv0 : HeadInv .any l.toArray n (Array.replicate l.toArray.size false) :=
    ⟨by simp, fun j oj _ hl => (by rw [getD_replicate_false] at hl; cases hl), fun t _ ht => getD_in (by simpa using ht) (getD_replicate_false _ _)⟩
  have H := wpAny_relZ (P := P) (ops := l.toArray) (md := .any) (n := n) (g := l.length - n) (hs := l.take n) (a0 := a) (I := I) (S := S) (R := R) (deps := deps) (kills := kills) (Q := Q)
    (fun j hj => by simp [List.getElem?_take_of_lt hj]) (by simpa using hn)
    (List.pairwise_iff_getElem.2 fun i j hi hj hij d hd => by
      have hi' : i < l.length := by simp at hi; omega
      have hj' : j < l.length := by simp at hj; omega
      have hjn : j < n := by simp at hj; omega
      have := hap j hjn i hij
      rw [List.getElem?_eq_getElem hj', List.getElem?_eq_getElem hi'] at this
      simp only [List.getElem_take] at hd ⊢
      simp only [hd] at this
      simpa using this)
    hs1 hc1
    (fun i o ho e he hb => by
      have ho' : l[i]? = some o := by simpa using ho
      have hil : i < l.length := (List.getElem?_eq_some_iff.1 ho').1
      have := hback i hil
      rw [ho'] at this
      have := Array.all_eq_true'.1 this e he
      simpa [hb] using this)
    (fun i o ho j hj => by
      have hin : i < n := by have := (List.getElem?_eq_some_iff.1 ho).1; simp at this; omega
      have ho' : l[i]? = some o := by rw [List.getElem?_take_of_lt hin] at ho; exact ho
      have := hdeps i hin
      rw [ho'] at this
      have := List.all_eq_true.1 this j hj
      simp only [Bool.and_eq_true, decide_eq_true_eq] at this
      obtain ⟨e, he, hb⟩ := Array.any_eq_true'.1 this.2
      simp only [Bool.and_eq_true, Bool.or_eq_true, beq_iff_eq, decide_eq_true_eq, List.contains_iff_mem] at hb
      exact ⟨this.1, e, he, hb.1, hb.2⟩)
    (fun i o ho d hd i' hi' => by
      have hin : i < n := by have := (List.getElem?_eq_some_iff.1 ho).1; simp at this; omega
      have ho' : l[i]? = some o := by rw [List.getElem?_take_of_lt hin] at ho; exact ho
      have h1 := hkl i hin d hd i' hi'
      rw [Bool.or_eq_true] at h1
      rcases h1 with h1 | h1
      · left; simpa using h1
      · right
        cases ho2 : l[i']? with
        | none => rw [ho2] at h1; cases h1
        | some o' =>
          rw [ho2] at h1
          obtain ⟨e, he, hb⟩ := Array.any_eq_true'.1 h1
          simp only [Bool.and_eq_true, beq_iff_eq] at hb
          exact ⟨o', by simpa using ho2, e, he, hb.1, hb.2⟩)
    hloc obl
    (fun u w' hI' hR => by
      have := wpAny_of_seq (md := .any) (Q' := Q) (l.drop n) n (canon n l.toArray.size) (putAll (l.take n) u 0 a) w' (fun j => by simp [List.getElem?_drop]) (by rw [List.length_drop, hsz]; exact hseq) (htail u w' hI' hR)
      rwa [List.length_drop] at this)
    n (Array.replicate l.toArray.size false) (fun j => slotOf a (((l.take n)[j]?).bind (·.dst))) w.drew hu0 inv0 hI (fun j _ hl _ => by rw [getD_replicate_false] at hl; cases hl) (fun j _ _ => hS0 j)
  rw [hown, show n + (l.length - n) = l.length by omega] at H
  rw [hsz]
  exact H
def relOblZ (P : Program) (ops : Array Oper) (I : World → Prop) (S : Nat → World → Prop) (K : Nat → World → World → Prop) (R : Nat → (Nat → Value) → World → Prop) (deps : Nat → List Nat) (hs : List Oper) (a0 : Act) : List Oper → Nat → Prop
  | [], _ => True
  | o :: r, i => (∀ (u : Nat → Value) w, I w → S i w → (∀ j ∈ deps i, R j (mask (deps j) j u) w) → owesK P ops (fun v w' => R i (mask (deps i) i (upd u i v)) w') (K i) (putAll hs u 0 a0) o w) ∧ relOblZ P ops I S K R deps hs a0 r (i + 1)
theorem relOblZ_get {I : World → Prop} {S : Nat → World → Prop} {K : Nat → World → World → Prop} {R : Nat → (Nat → Value) → World → Prop} {deps : Nat → List Nat} {hs : List Oper} {a0 : Act} : ∀ (l : List Oper) (k : Nat), relOblZ P ops I S K R deps hs a0 l k → ∀ j o, l[j]? = some o →
    (∀ (u : Nat → Value) w, I w → S (k + j) w → (∀ i ∈ deps (k + j), R i (mask (deps i) i u) w) → owesK P ops (fun v w' => R (k + j) (mask (deps (k + j)) (k + j) (upd u (k + j) v)) w') (K (k + j)) (putAll hs u 0 a0) o w)
  | [], _, _, j, o, h => by simp at h
  | x :: r, k, h, j, o, ho => by
    cases j with
    | zero =>
      simp only [List.getElem?_cons_zero, Option.some.injEq] at ho
      subst ho
      exact h.1
    | succ j =>
      have := relOblZ_get r (k + 1) h.2 j o (by simpa using ho)
      rw [show k + 1 + j = k + (j + 1) by omega] at this
      exact this
theorem wp_region_relZ {id : Nat} {Q : Exit → Act → World → Prop} {a : Act} {w : World} {l : List Oper} (n : Nat) (I : World → Prop) (S : Nat → World → Prop) (K : Nat → World → World → Prop) (R : Nat → (Nat → Value) → World → Prop) (deps : Nat → List Nat)
    (hm : P.follows .mixedOrders = true) (hB : relYB .any l n deps (fun _ => []) = true) (hI0 : I w.drew) (hS0 : ∀ j, S j w.drew) (hI : ∀ i w w', K i w w' → I w → I w') (hS : ∀ i j w w', j ≠ i → K i w w' → I w → S j w → S j w') (hst : ∀ i j u w w', j ≠ i → K i w w' → I w → R j u w → R j u w')
    (obl : relOblZ P l.toArray I S K R deps (l.take n) a (l.take n) 0)
    (htail : ∀ (u : Nat → Value) w', I w' → (∀ j, j < n → R j (mask (deps j) j u) w') → wpList P l.toArray Q (l.drop n) (putAll (l.take n) u 0 a) w') : (Code.region id l.toArray true).wp P Q a w := by
  refine wp_region_relZr n I S (fun j u w => R j (mask (deps j) j u) w) deps (fun _ => []) hm hB (fun j u u' w h hR => by rw [← mask_congr h]; exact hR) hI0 hS0 (fun i o ho u w' hI' hS' hd => ?_) (fun u w' hI' hR => htail u w' hI' fun j hj => hR j hj rfl)
  have h := relOblZ_get (l.take n) 0 obl i o ho u w' hI' (by rw [Nat.zero_add]; exact hS') (by rw [Nat.zero_add]; exact hd)
  rw [Nat.zero_add] at h
  rcases h with ⟨h1, h2⟩ | h
  · exact .inl ⟨h1, gives_mono (fun v w'' ⟨g1, g2⟩ => ⟨g1, hI _ _ _ g2 hI', (fun j u hji _ hj => hst i j _ _ _ hji g2 hI' hj), fun j hji hj => hS i j _ _ hji g2 hI' hj⟩) h2⟩
  · exact .inr h
end
end Go.Proofs.YtkmonmdnmpbadaaDoor
namespace Go.Proofs.YtkmonmdnmpbadaaDoor
open Go.RowKit
theorem strAt_one' {w : World} {v : Value} {l : List ByteArray} (h : StrAt w v l) : v.oneCell' = true := by
  rcases h.row with ⟨rfl, _⟩ | ⟨_, _, rfl, _⟩ <;> rfl
theorem one_strs : OneR RStrs := fun _ _ _ h u hu => by
  obtain ⟨v, hcs, hr⟩ := h
  subst hcs
  simp at hu
  subst hu
  exact strAt_one' hr
theorem Tryd.infoStrs : (Tryd.prog.info? 31).map (fun i => (i.zero, i.size, i.bytes)) = some (some (.slice none 0 0), 1, 24) := by kernel_rfl
theorem exec_append {P : Program} {a : Act} {o : Oper} {w w3 : World} {s x : Operand} {t : TypeId} {v xv v' : Value} (ho : o.op = .call { callee := .builtin .append, args := #[s, x], argTypes := #[t, t] }) (hs : a.eval s = v) (hx : a.eval x = xv)
    (hrun : (Builtin.append_ #[t, t] o.type #[v, xv]).run P w = .ok v' w3) : (execOp a.eval o).run P w = .ok (.value v') w3 := by
  simp [execOp, ho, resolve, invoke, builtin, hs, hx, hrun, Result.andThen]
/-- two slices lie apart -/
def Sep (v v' : Value) : Prop := ∀ q, v.ownBlock = some q → v'.ownBlock ≠ some q
/-- grown in its place, or new -/
def Grew (n : Nat) (V v : Value) : Prop := ∀ q, v.ownBlock = some q → V.ownBlock = some q ∨ n < q
/-- three rows of texts of the call's own, that lie apart -/
def Rows3 (w0 w : World) (B : Nat) (v6 v7 v8 : Value) (l : List GRule) : Prop :=
  OwnAt (AtW w0 RStrs) 1 w B 31 v6 (l.map (·.verbs)) ∧ OwnAt (AtW w0 RStrs) 1 w B 31 v7 (l.map (·.kinds)) ∧ OwnAt (AtW w0 RStrs) 1 w B 31 v8 (l.map (·.names)) ∧ Sep v6 v7 ∧ Sep v6 v8 ∧ Sep v7 v8
theorem rows3_nil (w0 w : World) (B : Nat) : Rows3 w0 w B (.slice none 0 0) (.slice none 0 0) (.slice none 0 0) [] :=
  ⟨OwnAt.nil w, OwnAt.nil w, OwnAt.nil w, fun _ h => (by cases h), fun _ h => (by cases h), fun _ h => (by cases h)⟩
theorem Rows3.below {w0 w w' : World} {B : Nat} {v6 v7 v8 : Value} {l : List GRule} (h : Rows3 w0 w B v6 v7 v8 l) (hb : Below w.heap.size w w') : Rows3 w0 w' B v6 v7 v8 l :=
  ⟨h.1.below (flat_atW w0 _).stays hb, h.2.1.below (flat_atW w0 _).stays hb, h.2.2.1.below (flat_atW w0 _).stays hb, h.2.2.2⟩
theorem take_map {β : Type} (f : GRule → β) {l : List GRule} {i : Nat} {x : GRule} (h : l[i]? = some x) : (l.take (i + 1)).map f = (l.take i).map f ++ [f x] := by
  rw [List.take_add_one, h, List.map_append]; rfl
set_option maxRecDepth 100000 in
theorem app_row {w0 w : World} {B gb : Nat} {V X : Value} {L : List (List ByteArray)} {z : List ByteArray} {g n c : Nat} {d : Option Addr} (h : OwnAt (AtW w0 RStrs) 1 w B 31 V L) (hL : L.length ≤ 1048576)
    (hX : X = .slice (some ⟨g, 0, none⟩) 1 1) (hg : w.heap[g]? = some (.cells #[.slice d n c] 31 (0, 0))) (hz : StrAt w0 (.slice d n c) z) (hB : B ≤ w.heap.size) (hgb : gb < w.heap.size) :
    ∃ v' w', (Builtin.append_ #[80, 80] 80 #[V, X]).run Tryd.prog w = .ok v' w' ∧ OwnAt (AtW w0 RStrs) 1 w' B 31 v' (L ++ [z]) ∧ w.grownBy w' V.ownBlock ∧ Grew gb V v' ∧ ∀ q, v'.ownBlock = some q → V.ownBlock = some q ∨ q = w.heap.size := by
  obtain ⟨i0, hi0, hz0, hz1, hz2⟩ := info_parts Tryd.infoStrs
  obtain ⟨v', w', hrun, r1, r2, _, r4⟩ := run_append_ownAt (P := Tryd.prog) w 80 80 i0 _ 24 Tryd.underlying80 hi0 hz0 hz1 hz2 rfl (by omega) (flat_atW w0 RStrs) (one_atW w0 one_strs) V h X (m := [z]) (by rw [hX]; exact RowAt.one hg rfl ⟨_, rfl, hz⟩) (by unfold maxLen; simp; omega) (by simp; omega) hB
  have r5 : ∀ q, v'.ownBlock = some q → V.ownBlock = some q ∨ q = w.heap.size := fun q hq => by
    rcases r4 with h1 | h1
    · exact .inl (by rw [← h1]; exact hq)
    · rw [h1] at hq; cases hq; exact .inr rfl
  exact ⟨v', w', hrun, r1, r2, fun q hq => (r5 q hq).imp id fun h => by omega, r5⟩
theorem Tryd.sizeAsk : (Tryd.prog.info? 51).map (·.size) = some 4 := by kernel_rfl
def AskV (a : GAsk) : Value := .agg #[.string a.verb, .string a.kind, .string a.space, .string a.name]
set_option maxRecDepth 100000 in
set_option maxHeartbeats 3200000 in
theorem beyond_any (v y0 y1 y2 : Value) (l : List GRule) (r : GRule) (w : World) (h : RowAt RuleR 3 w v l) (hr : RuleR w [y0, y1, y2] r) (hl : l.length ≤ 1048576) (hok : ∀ x ∈ l, okRule x) (hokr : okRule r)
    (hT0 : (l.map (·.verbs)).flatten.length ≤ 1048576) (hT1 : (l.map (·.kinds)).flatten.length ≤ 1048576) (hT2 : (l.map (·.names)).flatten.length ≤ 1048576) (htab : TabOK w) :
    Calls Tryd.prog 16 #[v, .agg #[y0, y1, y2]] w fun e w' => ∃ a b, e = .returned (.tuple #[AskV a, .bool b]) ∧ BeyondAt l r a b ∧ Below w.heap.size w w' := by
  obtain ⟨_, _, _, hcs, s0, s1, s2⟩ := hr
  simp only [List.cons.injEq, and_true] at hcs
  obtain ⟨rfl, rfl, rfl⟩ := hcs
  have S0 := Lib.hid s0
  have S1 := Lib.hid s1
  have S2 := Lib.hid s2
  obtain ⟨a0, c0, rfl, hc0, _⟩ := s0.row.len
  obtain ⟨a1, c1, rfl, hc1, _⟩ := s1.row.len
  obtain ⟨a2, c2, rfl, hc2, _⟩ := s2.row.len
  obtain ⟨av, cv, rfl, _, _⟩ := h.len
  have H := Lib.hid h
  have Hok := Lib.hid hok
  have Hokr := Lib.hid hokr
  have Htab := Lib.hid htab
  have HT0 := Lib.hid hT0
  have HT1 := Lib.hid hT1
  have HT2 := Lib.hid hT2
  have hL0 := hokr.1.1
  have hL1 := hokr.2.1.1
  have hL2 := hokr.2.2.1
  obtain ⟨nv, Hnv⟩ : ∃ n, Hid (r.verbs.length = n) := ⟨_, Lib.hid rfl⟩
  obtain ⟨nk, Hnk⟩ : ∃ n, Hid (r.kinds.length = n) := ⟨_, Lib.hid rfl⟩
  obtain ⟨nn, Hnn⟩ : ∃ n, Hid (r.names.length = n) := ⟨_, Lib.hid rfl⟩
  rw [Hnv.out] at S0 hc0 hL0 ⊢
  rw [Hnk.out] at S1 hc1 hL1 ⊢
  rw [Hnn.out] at S2 hc2 hL2 ⊢
  obtain ⟨w1, hw1⟩ : ∃ w1, w1 = (w.alloc (.cells #[.slice a0 nv c0, .slice a1 nk c1, .slice a2 nn c2] 44)).alloc (.cells #[.string ⟨#[]⟩, .string ⟨#[]⟩, .string ⟨#[]⟩, .string ⟨#[]⟩] 51) := ⟨_, rfl⟩
  obtain ⟨ga, hga⟩ : ∃ ga, ga = w.heap.size + 1 := ⟨_, rfl⟩
  obtain ⟨gr, hgr⟩ : ∃ gr, gr = w.heap.size := ⟨_, rfl⟩
  have b0 : w1.heap[gr]? = some (.cells #[.slice a0 nv c0, .slice a1 nk c1, .slice a2 nn c2] 44 (0, 0)) := by
    rw [hw1, hgr]
    exact below_block ((Below.refl _ _).alloc (Nat.le_refl _) _) (heap_alloc_new w _)
  have b1 : w1.heap[ga]? = some (.cells #[.string ⟨#[]⟩, .string ⟨#[]⟩, .string ⟨#[]⟩, .string ⟨#[]⟩] 51 (0, 0)) := by
    have h9 := heap_alloc_new (w.alloc (.cells #[.slice a0 nv c0, .slice a1 nk c1, .slice a2 nn c2] 44)) (.cells #[.string ⟨#[]⟩, .string ⟨#[]⟩, .string ⟨#[]⟩, .string ⟨#[]⟩] 51)
    rw [hw1, hga]
    simpa using h9
  have hb1 : Below w.heap.size w w1 := by rw [hw1]; exact ((Below.refl _ _).alloc (Nat.le_refl _) _).alloc (by simp) _
  have lgr : gr < w1.heap.size := by rw [hw1, hgr]; simp; omega
  have lga : ga < w1.heap.size := by rw [hw1, hga]; simp
  have hgaw : w.heap.size ≤ ga := by omega
  have hs1 := hb1.size
  have Hb1 := Lib.hid hb1
  have B0 := Lib.hid b0
  have B1 := Lib.hid b1
  have Hw1 := Lib.hid hw1
  have Hga := Lib.hid hga
  have Hgr := Lib.hid hgr
  obtain ⟨i0, hi0, hz0, hz1, hz2⟩ := info_parts Tryd.infoStrs
  clear h hok hokr htab hT0 hT1 hT2 b0 b1 hb1 hw1 hga hgr s0 s1 s2
  go_enter Tryd.func16, Tryd.ntmps16
  go_upto_region 1 with fail
  rw [← Hw1.out]
  try rw [← Hga.out]
  rw [← Hgr.out]
  clear Hw1 Hga Hgr
  go_wp2_with fail
  go_loopg [6, 7, 8, 22] l.length (fun g u6 u7 u8 u22 wr => ∃ i : Nat, i + g = l.length ∧ u22 = .int .i64 (i : Int) ∧ Hid (Rows3 w wr w1.heap.size u6 u7 u8 (l.take i)) ∧ Hid (Below w1.heap.size w1 wr))
  case atStart => exact ⟨0, by omega, rfl, Lib.hid (by rw [List.take_zero]; exact rows3_nil _ _ _), Lib.hid (Below.refl _ _)⟩
  case round =>
    obtain ⟨i, hig, rfl, Hrows, Hbel⟩ := hrel
    cases gk with
    | zero =>
      obtain rfl : i = l.length := by omega
      have hrows := Hrows.out
      rw [List.take_of_length_le (Nat.le_refl _)] at hrows
      have hb0 := Hb1.out.trans (Hbel.out.mono hs1)
      have R6 : Hid (RowAt RStrs 1 wr u6 (l.map (·.verbs))) := Lib.hid (RowAt.ofW stays_strs hrows.1.row hb0)
      have R7 : Hid (RowAt RStrs 1 wr u7 (l.map (·.kinds))) := Lib.hid (RowAt.ofW stays_strs hrows.2.1.row hb0)
      have R8 : Hid (RowAt RStrs 1 wr u8 (l.map (·.names))) := Lib.hid (RowAt.ofW stays_strs hrows.2.2.1.row hb0)
      have Hb0 := Lib.hid hb0
      have X0 := Lib.hid ((Hbel.out.block gr lgr).trans B0.out)
      have X1 := Lib.hid ((Hbel.out.block ga lga).trans B1.out)
      have cc := fun i => cell_block X0.out i
      have lgr2 : gr < wr.heap.size := by have := Hbel.out.size; omega
      have lga2 : ga < wr.heap.size := by have := Hbel.out.size; omega
      have hsr := hb0.size
      obtain ⟨bn, Hbn⟩ : ∃ bn : Bool, Hid (bn = decide (nn = 0)) := ⟨_, Lib.hid rfl⟩
      clear hrows hb0 Hrows B0 B1
      have hl2 : (allN r).length ≤ 1048576 := by
        unfold allN; split
        · simp
        · rw [Hnn.out]; exact hL2
      obtain ⟨na, Hna⟩ : ∃ n, Hid ((allN r).length = n) := ⟨_, Lib.hid rfl⟩
      rw [Hna.out] at hl2
      go_upto_if 46 with fail
      go_cut [12] (fun u12 wx => (∃ c12 d12, u12 = .slice c12 na d12 ∧ na ≤ d12 ∧ Hid (StrAt wx u12 (allN r))) ∧ Hid (Below wr.heap.size wr wx))
      case first =>
        by_cases h0 : nn = 0
        · have q0 : ((nn : Int) == 0) = true := by rw [beq_iff_eq]; omega
          have HN : Hid (allN r = [starB]) := Lib.hid (by unfold allN; rw [if_pos (by rw [Hnn.out]; exact h0)])
          have Hone : Hid (1 = na) := Lib.hid (by rw [← Hna.out, HN.out]; rfl)
          clear h0
          go_wp2_with fail
          go_meet
          refine ⟨⟨some ⟨wr.heap.size, 0, none⟩, 1, by rw [Hone.out], by rw [Hone.out]; exact Nat.le_refl _, Lib.hid ?_⟩, Lib.hid ((Below.refl _ _).alloc (Nat.le_refl _) _)⟩
          rw [HN.out]
          refine RowAt.strs (RowAt.one (e := 9) (cs := #[.string starB]) (fr := (0, 0)) (by rw [← star_data]; exact heap_alloc_new wr _) rfl rfl)
        · have q0 : ((nn : Int) == 0) = false := by rw [beq_eq_false_iff_ne]; omega
          have HN : Hid (allN r = r.names) := Lib.hid (by unfold allN; rw [if_neg (by rw [Hnn.out]; exact h0)])
          have Hone : Hid (nn = na) := Lib.hid (by rw [← Hna.out, HN.out, Hnn.out])
          clear h0
          go_wp2_with fail
          go_meet
          refine ⟨⟨a2, c2, by rw [Hone.out], by rw [← Hone.out]; exact hc2, Lib.hid ?_⟩, Lib.hid (Below.refl _ _)⟩
          rw [HN.out]
          exact S2.out.below' (Hb0.out)
      case rest =>
      obtain ⟨W1, rfl⟩ : ∃ W1, W1 = wr := ⟨_, rfl⟩
      obtain ⟨wx, rfl⟩ : ∃ wx, wx = wc := ⟨_, rfl⟩
      obtain ⟨⟨c12, d12, rfl, hc12, SA⟩, Hbx⟩ := hcut
      clear cc
      have cc := fun i => cell_block (below_block Hbx.out X0.out) i
      have hsx := Hbx.out.size
      go_wp2_with fail
      clear cc
      go_loopg [51] nv (fun g u51 wr => ∃ i : Nat, i + g = nv ∧ u51 = .int .i64 (i : Int) ∧ Hid (∀ v ∈ r.verbs.take i, ∀ k ∈ r.kinds, ∀ n ∈ allN r, n.size ≠ 0 → cellP l r v k n = true) ∧ Hid (Below wx.heap.size wx wr))
      case atStart => exact ⟨0, by omega, rfl, Lib.hid (fun v hv => by simp at hv), Lib.hid (Below.refl _ _)⟩
      case round =>
        obtain ⟨i, hig, rfl, Hcov, Hby⟩ := hrel
        obtain ⟨wy, rfl⟩ : ∃ wy, wy = wr := ⟨_, rfl⟩
        have hsy := Hby.out.size
        have Hbz := Lib.hid (Hbx.out.trans (Hby.out.mono hsx))
        cases gk with
        | zero =>
          obtain rfl : i = nv := by omega
          have Hend : Hid (coverP l r) := Lib.hid fun v hv => Hcov.out v (by rw [List.take_of_length_le (by rw [Hnv.out]; exact Nat.le_refl _)]; exact hv)
          have x1 := below_block Hbz.out X1.out
          have Hbwy := Lib.hid (Hb0.out.trans (Hbz.out.mono hsr))
          have Hgot : Hid (BeyondAt l r ⟨⟨#[]⟩, ⟨#[]⟩, ⟨#[]⟩, ⟨#[]⟩⟩ false) := Lib.hid (.inl ⟨rfl, rfl, Hend.out⟩)
          go_wp2_with (refine wpList_store_box (by rfl) _ _ _ (by rfl) _ _ (by rfl) (by rfl) _ _ (by exact x1) (by exact Tryd.sizeAsk) (by rfl) (by simp [Value.oneCell']) ?_)
          intro W3 b3 t3
          go_wp2_with fail
          refine bodyPost_ret (v := .tuple #[AskV ⟨⟨#[]⟩, ⟨#[]⟩, ⟨#[]⟩, ⟨#[]⟩⟩, .bool false]) ?_ rfl ⟨_, false, rfl, Hgot.out, t3.below Hbwy.out (by omega)⟩
          have c3 := fun i => cell_block b3 i
          simp [results, Tryd.results16, go_sem, c3, AskV]
        | succ gi =>
          have hil : i < nv := by omega
          obtain ⟨vv, hvv⟩ : ∃ vv, r.verbs[i]? = some vv := ⟨r.verbs[i]'(by rw [Hnv.out]; omega), List.getElem?_eq_getElem _⟩
          obtain ⟨bv, ov, c', hv, _, _, hbs, hcell⟩ := S0.out.row.form (by rw [Hnv.out]; omega) (by omega)
          injection hv with u1 u2 u3
          subst u1
          clear u2 u3
          obtain ⟨ds, _, hcc, hR⟩ := hcell i vv hvv
          have hR' : ds = [.string vv] := hR
          subst hR'
          have e0 : wy.cell? ⟨bv, ov + i, none⟩ = some (.string vv) := ((Hb0.out.trans (Hbz.out.mono hsr)).cell (p := ⟨bv, _, none⟩) hbs).trans (by simpa using hcc 0 _ rfl)
          have q1 : (0 : Int) ≤ (i : Int) := by omega
          have q2 : (i : Int) < (nv : Int) := by omega
          have cc := fun i => cell_block (below_block Hbz.out X0.out) i
          have Hvv := Lib.hid hvv
          clear hcc hcell hvv
          go_wp2_with fail
          clear cc e0
          go_loopg [58] nk (fun g u58 wr => ∃ j : Nat, j + g = nk ∧ u58 = .int .i64 (j : Int) ∧ Hid (∀ k ∈ r.kinds.take j, ∀ n ∈ allN r, n.size ≠ 0 → cellP l r vv k n = true) ∧ Hid (Below wy.heap.size wy wr))
          case atStart => exact ⟨0, by omega, rfl, Lib.hid (fun v hv => by simp at hv), Lib.hid (Below.refl _ _)⟩
          case round =>
            obtain ⟨j, hjg, rfl, Hcov2, Hby2⟩ := hrel
            obtain ⟨wz, rfl⟩ : ∃ wz, wz = wr := ⟨_, rfl⟩
            have hsz := Hby2.out.size
            have Hbz2 := Lib.hid (Hbz.out.trans (Hby2.out.mono (by omega)))
            cases gk with
            | zero =>
              obtain rfl : j = nk := by omega
              have Hnext : Hid (∀ v ∈ r.verbs.take (i + 1), ∀ k ∈ r.kinds, ∀ n ∈ allN r, n.size ≠ 0 → cellP l r v k n = true) := Lib.hid fun v hv k hk => by
                rw [List.take_add_one, Hvv.out] at hv
                rcases List.mem_append.1 hv with h | h
                · exact Hcov.out v h k hk
                · obtain rfl : v = vv := by simpa using h
                  exact Hcov2.out k (by rw [List.take_of_length_le (by rw [Hnk.out]; exact Nat.le_refl _)]; exact hk)
              go_wp2_with fail
              go_roundg gi
              case measure => omega
              case rel => exact ⟨i + 1, by omega, by go_num, Hnext, Lib.hid (Hby.out.trans (Hby2.out.mono hsy))⟩
            | succ gj =>
              have hjl : j < nk := by omega
              obtain ⟨kk, hkk⟩ : ∃ kk, r.kinds[j]? = some kk := ⟨r.kinds[j]'(by rw [Hnk.out]; omega), List.getElem?_eq_getElem _⟩
              obtain ⟨bv2, ov2, c2', hv, _, _, hbs, hcell⟩ := S1.out.row.form (by rw [Hnk.out]; omega) (by omega)
              injection hv with u1 u2 u3
              subst u1
              clear u2 u3
              obtain ⟨ds, _, hcc, hR⟩ := hcell j kk hkk
              have hR' : ds = [.string kk] := hR
              subst hR'
              have e0 : wz.cell? ⟨bv2, ov2 + j, none⟩ = some (.string kk) := ((Hb0.out.trans (Hbz2.out.mono hsr)).cell (p := ⟨bv2, _, none⟩) hbs).trans (by simpa using hcc 0 _ rfl)
              have q3 : (0 : Int) ≤ (j : Int) := by omega
              have q4 : (j : Int) < (nk : Int) := by omega
              have cc := fun i => cell_block (below_block Hbz2.out X0.out) i
              have Hkk := Lib.hid hkk
              clear hcc hcell hkk
              go_wp2_with fail
              clear cc e0
              go_loopg [64] na (fun g u64 wr => ∃ m : Nat, m + g = na ∧ u64 = .int .i64 (m : Int) ∧ Hid (∀ n ∈ (allN r).take m, n.size ≠ 0 → cellP l r vv kk n = true) ∧ Hid (Below wz.heap.size wz wr))
              case atStart => exact ⟨0, by omega, rfl, Lib.hid (fun v hv => by simp at hv), Lib.hid (Below.refl _ _)⟩
              case round =>
                obtain ⟨m, hmg, rfl, Hcov3, Hby3⟩ := hrel
                obtain ⟨wt, rfl⟩ : ∃ wt, wt = wr := ⟨_, rfl⟩
                have hst := Hby3.out.size
                have Hbz3 := Lib.hid (Hbz2.out.trans (Hby3.out.mono (by omega)))
                cases gk with
                | zero =>
                  obtain rfl : m = na := by omega
                  have Hnext : Hid (∀ k ∈ r.kinds.take (j + 1), ∀ n ∈ allN r, n.size ≠ 0 → cellP l r vv k n = true) := Lib.hid fun k hk n hn => by
                    rw [List.take_add_one, Hkk.out] at hk
                    rcases List.mem_append.1 hk with h | h
                    · exact Hcov2.out k h n hn
                    · obtain rfl : k = kk := by simpa using h
                      exact Hcov3.out n (by rw [List.take_of_length_le (by rw [Hna.out]; exact Nat.le_refl _)]; exact hn)
                  go_wp2_with fail
                  go_roundg gj
                  case measure => omega
                  case rel => exact ⟨j + 1, by omega, by go_num, Hnext, Lib.hid (Hby2.out.trans (Hby3.out.mono hsz))⟩
                | succ gm =>
                  have hml : m < na := by omega
                  obtain ⟨n, hn⟩ : ∃ n, (allN r)[m]? = some n := ⟨(allN r)[m]'(by rw [Hna.out]; omega), List.getElem?_eq_getElem _⟩
                  have SA2 := SA.out.row
                  obtain ⟨bv3, ov3, c3', hv, _, _, hbs, hcell⟩ := SA2.form (by rw [Hna.out]; omega) (by omega)
                  injection hv with u1 u2 u3
                  subst u1
                  clear u2 u3
                  obtain ⟨ds, _, hcc, hR⟩ := hcell m n hn
                  have hR' : ds = [.string n] := hR
                  subst hR'
                  have Hbt := Lib.hid (Hby.out.trans ((Hby2.out.trans (Hby3.out.mono hsz)).mono hsy))
                  have e0 : wt.cell? ⟨bv3, ov3 + m, none⟩ = some (.string n) := (Hbt.out.cell (p := ⟨bv3, _, none⟩) hbs).trans (by simpa using hcc 0 _ rfl)
                  have q5 : (0 : Int) ≤ (m : Int) := by omega
                  have q6 : (m : Int) < (na : Int) := by omega
                  have cc := fun i => cell_block (below_block Hbz3.out X0.out) i
                  have Hn := Lib.hid hn
                  clear hcc hcell hn SA2
                  by_cases hz : n.size = 0
                  · have p1 := str_none hz
                    have Hnext : Hid (∀ n ∈ (allN r).take (m + 1), n.size ≠ 0 → cellP l r vv kk n = true) := Lib.hid fun x hx hxz => by
                      rw [List.take_add_one, Hn.out] at hx
                      rcases List.mem_append.1 hx with h | h
                      · exact Hcov3.out x h hxz
                      · obtain rfl : x = n := by simpa using h
                        exact absurd hz hxz
                    clear hz
                    go_wp2_with fail
                    go_roundg gm
                    case measure => omega
                    case rel => exact ⟨m + 1, by omega, by go_num, Hnext, Hby3⟩
                  · have p1 := str_some hz
                    have p2 : n.toList.isEmpty = false := by simpa using p1
                    have Hz := Lib.hid hz
                    clear hz
                    have T := Lib.hid (Hb0.out.trans (Hbz3.out.mono hsr))
                    go_wp2_with fail
                    refine (word_any vv u6 (l.map (·.verbs)) wt (R6.out.below stays_strs Hbz3.out) (by rw [List.length_map]; exact hl) HT0.out (var_keep Htab.out T.out)).mono ?_
                    rintro E w4 ⟨tv, rfl, hw4, hb4⟩
                    have Hv := Lib.hid hw4
                    have Hb4 := Lib.hid hb4
                    have hs4 := hb4.size
                    have hst0 := Hbz3.out.size
                    have Hbz4 := Lib.hid (Hbz3.out.trans (hb4.mono hst0))
                    clear cc hw4 hb4
                    go_wp2_with fail
                    refine (word_any kk u7 (l.map (·.kinds)) w4 (R7.out.below stays_strs Hbz4.out) (by rw [List.length_map]; exact hl) HT1.out (var_keep Htab.out (T.out.trans (Hb4.out.mono T.out.size)))).mono ?_
                    rintro E w5 ⟨tk, rfl, hw5, hb5⟩
                    have Hk := Lib.hid hw5
                    have hs5 := hb5.size
                    have Hb5 := Lib.hid (Hb4.out.trans (hb5.mono hs4))
                    have Hbz5 := Lib.hid (Hbz4.out.trans (hb5.mono (by omega)))
                    clear hw5 hb5
                    go_upto_region 22 with fail
                    obtain ⟨W6, HW6⟩ : ∃ W6, Hid (w5.alloc (.cells #[.string tv, .string tk, .string ⟨#[]⟩, .string n] 51) = W6) := ⟨_, Lib.hid rfl⟩
                    obtain ⟨gq, Hgq⟩ : ∃ gq, Hid (w5.heap.size = gq) := ⟨_, Lib.hid rfl⟩
                    have Hb6 : Hid (Below w5.heap.size w5 W6) := Lib.hid (by rw [← HW6.out]; exact (Below.refl _ _).alloc (Nat.le_refl _) _)
                    have Q6 : Hid (W6.heap[gq]? = some (.cells #[.string tv, .string tk, .string ⟨#[]⟩, .string n] 51 (0, 0))) := Lib.hid (by rw [← HW6.out, ← Hgq.out]; exact heap_alloc_new w5 _)
                    have lq6 : gq < W6.heap.size := by rw [← HW6.out, ← Hgq.out]; simp
                    have hs6 := Hb6.out.size
                    have Hbz6 := Lib.hid (Hbz5.out.trans (Hb6.out.mono (by omega)))
                    rw [HW6.out, Hgq.out]
                    clear HW6
                    have cc := fun i => cell_block (below_block Hbz6.out X0.out) i
                    have cq := fun i => cell_block Q6.out i
                    go_upto_if 83 with fail
                    go_cut [19] (fun u19 wx => u19 = .pointer (some ⟨gq, 0, none⟩) ∧ (∃ a, Hid (AskFor l r vv kk n a) ∧ Hid (wx.heap[gq]? = some (.cells #[.string a.verb, .string a.kind, .string a.space, .string a.name] 51 (0, 0)))) ∧ Hid (Below w5.heap.size w5 wx) ∧ Hid (W6.heap.size ≤ wx.heap.size))
                    case first =>
                      by_cases h0 : nn = 0
                      · have q0 : ((nn : Int) == 0) = true := by rw [beq_iff_eq]; omega
                        have Hn0 := Lib.hid h0
                        clear h0
                        go_wp2_with fail
                        refine (fresh_any u8 (l.map (·.names)) W6 (R8.out.below stays_strs Hbz6.out) (by rw [List.length_map]; exact hl) HT2.out (var_keep Htab.out (Hb0.out.trans (Hbz6.out.mono hsr)))).mono ?_
                        rintro E w7 ⟨tn, rfl, hfr, _, hb7⟩
                        have Hfr := Lib.hid hfr
                        have Hb7 := Lib.hid hb7
                        have hs7 := hb7.size
                        have Q7 := Lib.hid (below_block hb7 Q6.out)
                        clear cc cq hfr hb7
                        have cq := fun i => cell_block Q7.out i
                        have fq := fun i => free_block Q7.out i
                        go_wp2_with fail
                        go_meet
                        have t8 := touch_setCell (i := 3) (v := .string tn) Q7.out
                        refine ⟨rfl, ⟨⟨tv, tk, ⟨#[]⟩, tn⟩, Lib.hid ⟨Hv.out, Hk.out, rfl, ?_⟩, Lib.hid t8.1⟩, Lib.hid (t8.2.below (Hb6.out.trans (Hb7.out.mono hs6)) (by have := Hgq.out; omega)), Lib.hid (by rw [t8.2.size]; exact hs7)⟩
                        rw [if_pos (by rw [Hnn.out]; exact Hn0.out)]
                        exact Hfr.out
                      · have q0 : ((nn : Int) == 0) = false := by rw [beq_eq_false_iff_ne]; omega
                        have Hn0 := Lib.hid h0
                        clear h0
                        go_wp2_with fail
                        go_meet
                        refine ⟨rfl, ⟨⟨tv, tk, ⟨#[]⟩, n⟩, Lib.hid ⟨Hv.out, Hk.out, rfl, ?_⟩, Q6⟩, Hb6, Lib.hid (Nat.le_refl _)⟩
                        rw [if_neg (by rw [Hnn.out]; exact Hn0.out)]
                    case rest =>
                    obtain ⟨w8, rfl⟩ : ∃ w8, w8 = wc := ⟨_, rfl⟩
                    obtain ⟨rfl, ⟨a, Ha, Q8⟩, Hb8, hs8⟩ := hcut
                    have hs8 := hs8.out
                    have Hbz8 := Lib.hid (Hbz5.out.trans (Hb8.out.mono (by omega)))
                    have Hbw8 := Lib.hid (Hb0.out.trans (Hbz8.out.mono hsr))
                    clear cc cq
                    have cq := fun i => cell_block Q8.out i
                    obtain ⟨al, Hal⟩ : ∃ al, Hid (allowsL l a = al) := ⟨_, Lib.hid rfl⟩
                    go_wp2_with fail
                    refine (allowsAll_any _ l a w8 (H.out.below stays_rule Hbw8.out) (by omega) Hok.out).mono ?_
                    rw [Hal.out]
                    rintro E w9 ⟨rfl, hb9⟩
                    have hs9 := hb9.size
                    have Hbz9 := Lib.hid (Hbz8.out.trans (hb9.mono (by have := Hbz8.out.size; omega)))
                    have Q9 := Lib.hid (below_block hb9 Q8.out)
                    have Hb9 := Lib.hid (Hbz3.out.size)
                    have Hn9 := Lib.hid (Hb5.out.trans ((Hb8.out.trans (hb9.mono (by omega))).mono (by omega)))
                    clear cq hb9
                    have cq := fun i => cell_block Q9.out i
                    cases al with
                    | true =>
                      have Hnext : Hid (∀ n ∈ (allN r).take (m + 1), n.size ≠ 0 → cellP l r vv kk n = true) := Lib.hid fun x hx hxz => by
                        rw [List.take_add_one, Hn.out] at hx
                        rcases List.mem_append.1 hx with h | h
                        · exact Hcov3.out x h hxz
                        · obtain rfl : x = n := by simpa using h
                          rw [← allows_cell Ha.out hxz]
                          exact Hal.out
                      go_wp2_with fail
                      go_roundg gm
                      case measure => omega
                      case rel => exact ⟨m + 1, by omega, by go_num, Hnext, Lib.hid (Hby3.out.trans (Hn9.out.mono hst))⟩
                    | false =>
                      have Hgot := Lib.hid (beyond_yes Ha.out Hz.out (List.mem_of_getElem? Hvv.out) (List.mem_of_getElem? Hkk.out) (List.mem_of_getElem? Hn.out) Hal.out)
                      have x1 := below_block Hbz9.out X1.out
                      have Hbw9 := Lib.hid (Hb0.out.trans (Hbz9.out.mono hsr))
                      go_wp2_with (refine wpList_copy_box (by rfl) _ _ (by rfl) (by rfl) _ _ (by rfl) _ _ (by rfl) _ _ _ _ (by exact Q9.out) (by rfl) (by rfl) _ _ (by exact x1) Tryd.underlying51 (by rfl) (by exact Tryd.sizeAsk) (by rfl) (by simp [Value.oneCell']) ?_)
                      intro W3 b3 t3
                      go_wp2_with fail
                      refine bodyPost_ret (v := .tuple #[AskV a, .bool true]) ?_ rfl ⟨a, true, rfl, Hgot.out, t3.below Hbw9.out (by omega)⟩
                      have c3 := fun i => cell_block b3 i
                      simp [results, Tryd.results16, go_sem, c3, AskV]
    | succ k =>
      have hil : i < l.length := by omega
      obtain ⟨x, hxi⟩ : ∃ x, l[i]? = some x := ⟨l[i]'(by omega), List.getElem?_eq_getElem _⟩
      obtain ⟨bk, o, c', hv, _, _, hbs, hcell⟩ := H.out.form (by omega) (by omega)
      cases hv
      obtain ⟨ds, _, hcc, hR⟩ := hcell i x hxi
      have hR2 := hR
      obtain ⟨x0, x1, x2, rfl, t0, t1, t2⟩ := hR
      obtain ⟨d0, f0, rfl, _, _⟩ := t0.row.len
      obtain ⟨d1, f1, rfl, _, _⟩ := t1.row.len
      obtain ⟨d2, f2, rfl, _, _⟩ := t2.row.len
      have T0 := Lib.hid t0
      have T1 := Lib.hid t1
      have T2 := Lib.hid t2
      have hbw := Hb1.out.trans (Hbel.out.mono hs1)
      have e0 : wr.cell? ⟨bk, o + i * 3, none⟩ = some (.slice d0 x.verbs.length f0) := (hbw.cell (p := ⟨bk, _, none⟩) hbs).trans (by simpa using hcc 0 _ rfl)
      have e1 : wr.cell? ⟨bk, o + i * 3 + 1, none⟩ = some (.slice d1 x.kinds.length f1) := (hbw.cell (p := ⟨bk, _, none⟩) hbs).trans (hcc 1 _ rfl)
      have e2 : wr.cell? ⟨bk, o + i * 3 + 2, none⟩ = some (.slice d2 x.names.length f2) := (hbw.cell (p := ⟨bk, _, none⟩) hbs).trans (hcc 2 _ rfl)
      have q1 : (0 : Int) ≤ (i : Int) := by omega
      have q2 : (i : Int) < (l.length : Int) := by omega
      have Hbw := Lib.hid hbw
      clear hcc hcell hR2 hbw t0 t1 t2
      go_upto_region 5 with fail
      obtain ⟨m, Hm⟩ : ∃ m, Hid (l.take i = m) := ⟨_, Lib.hid rfl⟩
      rw [Hm.out] at Hrows
      have hml : m.length ≤ 1048576 := by rw [← Hm.out, List.length_take]; omega
      obtain ⟨W, HW⟩ : ∃ W, Hid (wr.alloc (.cells #[.slice d0 x.verbs.length f0, .slice d1 x.kinds.length f1, .slice d2 x.names.length f2] 44) = W) := ⟨_, Lib.hid rfl⟩
      obtain ⟨gb, Hgb⟩ : ∃ gb, Hid (wr.heap.size = gb) := ⟨_, Lib.hid rfl⟩
      have HbW : Hid (Below wr.heap.size wr W) := Lib.hid (by rw [← HW.out]; exact (Below.refl _ _).alloc (Nat.le_refl _) _)
      have Hbox : Hid (W.heap[gb]? = some (.cells #[.slice d0 x.verbs.length f0, .slice d1 x.kinds.length f1, .slice d2 x.names.length f2] 44 (0, 0))) := Lib.hid (by rw [← HW.out, ← Hgb.out]; exact heap_alloc_new wr _)
      have hgW : gb < W.heap.size := by rw [← HW.out, ← Hgb.out]; simp
      have hsr := Hbel.out.size
      have hBW : w1.heap.size ≤ W.heap.size := by have := HbW.out.size; omega
      rw [HW.out, Hgb.out]
      obtain ⟨o6, o7, o8, s67, s68, s78⟩ := Hrows.out.below HbW.out
      have lo6 : ∀ q, u6.ownBlock = some q → w1.heap.size ≤ q ∧ q < gb := fun q hq => ⟨(Hrows.out.1.at hq).1, by have := (Hrows.out.1.at hq).2.1; rw [Hgb.out] at this; exact this⟩
      have lo7 : ∀ q, u7.ownBlock = some q → w1.heap.size ≤ q ∧ q < gb := fun q hq => ⟨(Hrows.out.2.1.at hq).1, by have := (Hrows.out.2.1.at hq).2.1; rw [Hgb.out] at this; exact this⟩
      have lo8 : ∀ q, u8.ownBlock = some q → w1.heap.size ≤ q ∧ q < gb := fun q hq => ⟨(Hrows.out.2.2.1.at hq).1, by have := (Hrows.out.2.2.1.at hq).2.1; rw [Hgb.out] at this; exact this⟩
      obtain ⟨rowOf, r4, r9, r14, rno⟩ : ∃ rowOf : Nat → Option Nat, rowOf 4 = u6.ownBlock ∧ rowOf 9 = u7.ownBlock ∧ rowOf 14 = u8.ownBlock ∧ ∀ i, i ≠ 4 → i ≠ 9 → i ≠ 14 → rowOf i = none := ⟨fun i => if i = 4 then u6.ownBlock else if i = 9 then u7.ownBlock else if i = 14 then u8.ownBlock else none, by simp, by simp, by simp, fun i h1 h2 h3 => by simp [h1, h2, h3]⟩
      have low : ∀ i q, some q = rowOf i → w1.heap.size ≤ q ∧ q < gb := by
        intro i q hq
        by_cases h4 : i = 4
        · subst h4; rw [r4] at hq; exact lo6 q hq.symm
        · by_cases h9 : i = 9
          · subst h9; rw [r9] at hq; exact lo7 q hq.symm
          · by_cases h14 : i = 14
            · subst h14; rw [r14] at hq; exact lo8 q hq.symm
            · rw [rno i h4 h9 h14] at hq; cases hq
      have off : ∀ (V : Value) (n : Nat), (n = 4 ∨ V.ownBlock = none ∨ Sep V u6) → (n = 9 ∨ V.ownBlock = none ∨ Sep V u7) → (n = 14 ∨ V.ownBlock = none ∨ Sep V u8) → ∀ i, n ≠ i → ∀ q, V.ownBlock = some q → some q ≠ rowOf i := by
        intro V n h4 h9 h14 i hi q hq e
        by_cases i4 : i = 4
        · subst i4; rw [r4] at e
          rcases h4 with h | h | h
          · exact hi h
          · rw [h] at hq; cases hq
          · exact h q hq e.symm
        · by_cases i9 : i = 9
          · subst i9; rw [r9] at e
            rcases h9 with h | h | h
            · exact hi h
            · rw [h] at hq; cases hq
            · exact h q hq e.symm
          · by_cases i14 : i = 14
            · subst i14; rw [r14] at e
              rcases h14 with h | h | h
              · exact hi h
              · rw [h] at hq; cases hq
              · exact h q hq e.symm
            · rw [rno i i4 i9 i14] at e; cases e
      have off6 := off u6 4 (.inl rfl) (.inr (.inr s67)) (.inr (.inr s68))
      have off7 := off u7 9 (.inr (.inr fun q h1 h2 => s67 q h2 h1)) (.inl rfl) (.inr (.inr s78))
      have off8 := off u8 14 (.inr (.inr fun q h1 h2 => s68 q h2 h1)) (.inr (.inr fun q h1 h2 => s78 q h2 h1)) (.inl rfl)
      have offG : ∀ (V v' : Value) (i : Nat), (∀ q, V.ownBlock = some q → some q ≠ rowOf i) → Grew gb V v' → ∀ q, v'.ownBlock = some q → some q ≠ rowOf i := fun V v' i h1 h2 q hq e => by
        rcases h2 q hq with h | h
        · exact h1 q h e
        · have := (low i q e).2; omega
      refine wp_region_relZ 15 (fun w' => Below w1.heap.size W w' ∧ w'.heap[gb]? = some (.cells #[.slice d0 x.verbs.length f0, .slice d1 x.kinds.length f1, .slice d2 x.names.length f2] 44 (0, 0))) (fun i w' => match i with
        | 4 => OwnAt (AtW w RStrs) 1 w' w1.heap.size 31 u6 (m.map (·.verbs))
        | 9 => OwnAt (AtW w RStrs) 1 w' w1.heap.size 31 u7 (m.map (·.kinds))
        | 14 => OwnAt (AtW w RStrs) 1 w' w1.heap.size 31 u8 (m.map (·.names))
        | _ => True) (fun i wa wb => wa.grownBy wb (rowOf i)) (fun i U w' => match i with
        | 0 => U 0 = u6
        | 1 => U 1 = .pointer (some ⟨gb, 0, none⟩)
        | 2 => U 2 = .slice d0 x.verbs.length f0
        | 3 => ∃ g, U 3 = .slice (some ⟨g, 0, none⟩) 1 1 ∧ gb < g ∧ w'.heap[g]? = some (.cells #[.slice d0 x.verbs.length f0] 31 (0, 0))
        | 4 => OwnAt (AtW w RStrs) 1 w' w1.heap.size 31 (U 4) (m.map (·.verbs) ++ [x.verbs]) ∧ Grew gb u6 (U 4)
        | 5 => U 5 = u7
        | 6 => U 6 = .pointer (some ⟨gb, 1, none⟩)
        | 7 => U 7 = .slice d1 x.kinds.length f1
        | 8 => ∃ g, U 8 = .slice (some ⟨g, 0, none⟩) 1 1 ∧ gb < g ∧ w'.heap[g]? = some (.cells #[.slice d1 x.kinds.length f1] 31 (0, 0))
        | 9 => OwnAt (AtW w RStrs) 1 w' w1.heap.size 31 (U 9) (m.map (·.kinds) ++ [x.kinds]) ∧ Grew gb u7 (U 9) ∧ Sep (U 4) (U 9)
        | 10 => U 10 = u8
        | 11 => U 11 = .pointer (some ⟨gb, 2, none⟩)
        | 12 => U 12 = .slice d2 x.names.length f2
        | 13 => ∃ g, U 13 = .slice (some ⟨g, 0, none⟩) 1 1 ∧ gb < g ∧ w'.heap[g]? = some (.cells #[.slice d2 x.names.length f2] 31 (0, 0))
        | 14 => OwnAt (AtW w RStrs) 1 w' w1.heap.size 31 (U 14) (m.map (·.names) ++ [x.names]) ∧ Grew gb u8 (U 14) ∧ Sep (U 4) (U 14) ∧ Sep (U 9) (U 14)
        | _ => True)
        (fun | 2 => [1] | 3 => [2] | 4 => [0, 3] | 7 => [6] | 8 => [7] | 9 => [4, 5, 8] | 12 => [11] | 13 => [12] | 14 => [4, 9, 10, 13] | _ => [])
        (by kernel_rfl) (by kernel_rfl) ⟨(Below.refl _ _).drew, Hbox.out⟩ ?_ ?_ ?_ ?_ ⟨?_, ?_, ?_, ?_, ?_, ?_, ?_, ?_, ?_, ?_, ?_, ?_, ?_, ?_, ?_, trivial⟩ ?_
      · intro j
        match j with
        | 0 | 1 | 2 | 3 | 5 | 6 | 7 | 8 | 10 | 11 | 12 | 13 | _ + 15 => trivial
        | 4 => exact o6.below (flat_atW w _).stays (Below.refl _ _).drew
        | 9 => exact o7.below (flat_atW w _).stays (Below.refl _ _).drew
        | 14 => exact o8.below (flat_atW w _).stays (Below.refl _ _).drew
      · intro i wa wb hk hi
        refine ⟨hi.1.grown hk (by have := hi.1.size; omega) fun q hq => (low i q hq.symm).1, (hk.block gb (by have := hi.1.size; omega) fun e => by have := (low i gb e).2; omega).trans hi.2⟩
      · intro i j wa wb hji hk hi h
        match j, hji, h with
        | 0, _, _ | 1, _, _ | 2, _, _ | 3, _, _ | 5, _, _ | 6, _, _ | 7, _, _ | 8, _, _ | 10, _, _ | 11, _, _ | 12, _, _ | 13, _, _ | _ + 15, _, _ => trivial
        | 4, hji, h => exact OwnAt.grown (flat_atW w _) h hk (off6 i hji)
        | 9, hji, h => exact OwnAt.grown (flat_atW w _) h hk (off7 i hji)
        | 14, hji, h => exact OwnAt.grown (flat_atW w _) h hk (off8 i hji)
      · intro i j U wa wb hji hk hi h
        have blk : ∀ g (o : Obj), gb < g → wa.heap[g]? = some o → wb.heap[g]? = some o := fun g o hg h1 => by
          have hlt : g < wa.heap.size := by
            rcases Nat.lt_or_ge g wa.heap.size with h2 | h2
            · exact h2
            · rw [Array.getElem?_eq_none h2] at h1; cases h1
          exact (hk.block g hlt fun e => by have := (low i g e).2; omega).trans h1
        match j, hji, h with
        | 0, _, h => exact h
        | 1, _, h => exact h
        | 2, _, h => exact h
        | 3, _, ⟨g, h1, h2, h3⟩ => exact ⟨g, h1, h2, blk g _ h2 h3⟩
        | 4, hji, ⟨h1, h2⟩ => exact ⟨OwnAt.grown (flat_atW w _) h1 hk (offG u6 _ i (off6 i hji) h2), h2⟩
        | 5, _, h => exact h
        | 6, _, h => exact h
        | 7, _, h => exact h
        | 8, _, ⟨g, h1, h2, h3⟩ => exact ⟨g, h1, h2, blk g _ h2 h3⟩
        | 9, hji, ⟨h1, h2, h3⟩ => exact ⟨OwnAt.grown (flat_atW w _) h1 hk (offG u7 _ i (off7 i hji) h2), h2, h3⟩
        | 10, _, h => exact h
        | 11, _, h => exact h
        | 12, _, h => exact h
        | 13, _, ⟨g, h1, h2, h3⟩ => exact ⟨g, h1, h2, blk g _ h2 h3⟩
        | 14, hji, ⟨h1, h2, h3⟩ => exact ⟨OwnAt.grown (flat_atW w _) h1 hk (offG u8 _ i (off8 i hji) h2), h2, h3⟩
        | _ + 15, _, h => trivial
      · intro y w' hb hS hd
        refine owesK_here u6 (by rfl) ?_ rfl (World.grownBy.refl _ _)
        simp only [putAll, List.take_succ_cons, List.take_zero]
        go_simp
      · intro y w' hb hS hd
        refine owesK_here (.pointer (some ⟨gb, 0, none⟩)) (by rfl) ?_ rfl (World.grownBy.refl _ _)
        simp only [putAll, List.take_succ_cons, List.take_zero]
        go_simp
      · intro y w' hb hS hd
        have h0 : y 1 = .pointer (some ⟨gb, 0, none⟩) := hd 1 (by simp)
        have cc := cell_block hb.2 0
        refine owesK_here (.slice d0 x.verbs.length f0) (by rfl) ?_ rfl (World.grownBy.refl _ _)
        clear hb hS hd
        simp only [putAll, List.take_succ_cons, List.take_zero]
        go_simp
      · intro y w' hb hS hd
        have h0 : y 2 = .slice d0 x.verbs.length f0 := hd 2 (by simp)
        have hsz := hb.1.size
        refine owesK_makes (w' := w'.alloc (.cells #[.slice d0 x.verbs.length f0] 31)) (.slice (some ⟨w'.heap.size, 0, none⟩) 1 1) (by rfl) ?_ ⟨_, rfl, by omega, heap_alloc_new w' _⟩ (World.grownBy_alloc w' _ _)
        clear hb hS hd
        simp only [putAll, List.take_succ_cons, List.take_zero]
        rw [h0]
        go_simp
      · intro y w' hb hS hd
        have h0 : y 0 = u6 := hd 0 (by simp)
        obtain ⟨g, h3, _, hg⟩ : ∃ g, y 3 = .slice (some ⟨g, 0, none⟩) 1 1 ∧ gb < g ∧ w'.heap[g]? = some (.cells #[.slice d0 x.verbs.length f0] 31 (0, 0)) := hd 3 (by simp)
        have hsz := hb.1.size
        obtain ⟨v', w3, hrun, q1, q2, q3, q4⟩ := app_row (gb := gb) (X := y 3) (show OwnAt (AtW w RStrs) 1 w' w1.heap.size 31 u6 (m.map (·.verbs)) from hS) (by rw [List.length_map]; exact hml) h3 hg T0.out (by omega) (by omega)
        refine owesK_makes (w' := w3) v' (by rfl) ?_ ⟨q1, q3⟩ (by show w'.grownBy w3 (rowOf 4); rw [r4]; exact q2)
        rw [← h0] at hrun
        clear hb hS hd
        simp only [putAll, List.take_succ_cons, List.take_zero]
        try simp only [Act.put, List.setIfInBounds_toArray, List.set_cons_zero, List.set_cons_succ]
        exact exec_append (by rfl) (by rfl) (by rfl) hrun
      · intro y w' hb hS hd
        refine owesK_here u7 (by rfl) ?_ rfl (World.grownBy.refl _ _)
        simp only [putAll, List.take_succ_cons, List.take_zero]
        go_simp
      · intro y w' hb hS hd
        refine owesK_here (.pointer (some ⟨gb, 1, none⟩)) (by rfl) ?_ rfl (World.grownBy.refl _ _)
        simp only [putAll, List.take_succ_cons, List.take_zero]
        go_simp
      · intro y w' hb hS hd
        have h0 : y 6 = .pointer (some ⟨gb, 1, none⟩) := hd 6 (by simp)
        have cc := cell_block hb.2 1
        refine owesK_here (.slice d1 x.kinds.length f1) (by rfl) ?_ rfl (World.grownBy.refl _ _)
        clear hb hS hd
        simp only [putAll, List.take_succ_cons, List.take_zero]
        go_simp
      · intro y w' hb hS hd
        have h0 : y 7 = .slice d1 x.kinds.length f1 := hd 7 (by simp)
        have hsz := hb.1.size
        refine owesK_makes (w' := w'.alloc (.cells #[.slice d1 x.kinds.length f1] 31)) (.slice (some ⟨w'.heap.size, 0, none⟩) 1 1) (by rfl) ?_ ⟨_, rfl, by omega, heap_alloc_new w' _⟩ (World.grownBy_alloc w' _ _)
        clear hb hS hd
        simp only [putAll, List.take_succ_cons, List.take_zero]
        rw [h0]
        go_simp
      · intro y w' hb hS hd
        have h0 : y 5 = u7 := hd 5 (by simp)
        obtain ⟨g, h3, _, hg⟩ : ∃ g, y 8 = .slice (some ⟨g, 0, none⟩) 1 1 ∧ gb < g ∧ w'.heap[g]? = some (.cells #[.slice d1 x.kinds.length f1] 31 (0, 0)) := hd 8 (by simp)
        have hsz := hb.1.size
        obtain ⟨v', w3, hrun, q1, q2, q3, q4⟩ := app_row (gb := gb) (X := y 8) (show OwnAt (AtW w RStrs) 1 w' w1.heap.size 31 u7 (m.map (·.kinds)) from hS) (by rw [List.length_map]; exact hml) h3 hg T1.out (by omega) (by omega)
        have dep4 : OwnAt (AtW w RStrs) 1 w' w1.heap.size 31 (y 4) (m.map (·.verbs) ++ [x.verbs]) ∧ Grew gb u6 (y 4) := hd 4 (by simp)
        have sep4 : Sep (y 4) v' := fun q hq hq' => by
          rcases q4 q hq' with h | h
          · rcases dep4.2 q hq with h1 | h1
            · exact s67 q h1 h
            · have := (lo7 q h).2; omega
          · have := (dep4.1.at hq).2.1; omega
        refine owesK_makes (w' := w3) v' (by rfl) ?_ ⟨q1, q3, sep4⟩ (by show w'.grownBy w3 (rowOf 9); rw [r9]; exact q2)
        rw [← h0] at hrun
        clear hb hS hd
        simp only [putAll, List.take_succ_cons, List.take_zero]
        try simp only [Act.put, List.setIfInBounds_toArray, List.set_cons_zero, List.set_cons_succ]
        exact exec_append (by rfl) (by rfl) (by rfl) hrun
      · intro y w' hb hS hd
        refine owesK_here u8 (by rfl) ?_ rfl (World.grownBy.refl _ _)
        simp only [putAll, List.take_succ_cons, List.take_zero]
        go_simp
      · intro y w' hb hS hd
        refine owesK_here (.pointer (some ⟨gb, 2, none⟩)) (by rfl) ?_ rfl (World.grownBy.refl _ _)
        simp only [putAll, List.take_succ_cons, List.take_zero]
        go_simp
      · intro y w' hb hS hd
        have h0 : y 11 = .pointer (some ⟨gb, 2, none⟩) := hd 11 (by simp)
        have cc := cell_block hb.2 2
        refine owesK_here (.slice d2 x.names.length f2) (by rfl) ?_ rfl (World.grownBy.refl _ _)
        clear hb hS hd
        simp only [putAll, List.take_succ_cons, List.take_zero]
        go_simp
      · intro y w' hb hS hd
        have h0 : y 12 = .slice d2 x.names.length f2 := hd 12 (by simp)
        have hsz := hb.1.size
        refine owesK_makes (w' := w'.alloc (.cells #[.slice d2 x.names.length f2] 31)) (.slice (some ⟨w'.heap.size, 0, none⟩) 1 1) (by rfl) ?_ ⟨_, rfl, by omega, heap_alloc_new w' _⟩ (World.grownBy_alloc w' _ _)
        clear hb hS hd
        simp only [putAll, List.take_succ_cons, List.take_zero]
        rw [h0]
        go_simp
      · intro y w' hb hS hd
        have h0 : y 10 = u8 := hd 10 (by simp)
        obtain ⟨g, h3, _, hg⟩ : ∃ g, y 13 = .slice (some ⟨g, 0, none⟩) 1 1 ∧ gb < g ∧ w'.heap[g]? = some (.cells #[.slice d2 x.names.length f2] 31 (0, 0)) := hd 13 (by simp)
        have hsz := hb.1.size
        obtain ⟨v', w3, hrun, q1, q2, q3, q4⟩ := app_row (gb := gb) (X := y 13) (show OwnAt (AtW w RStrs) 1 w' w1.heap.size 31 u8 (m.map (·.names)) from hS) (by rw [List.length_map]; exact hml) h3 hg T2.out (by omega) (by omega)
        have dep4 : OwnAt (AtW w RStrs) 1 w' w1.heap.size 31 (y 4) (m.map (·.verbs) ++ [x.verbs]) ∧ Grew gb u6 (y 4) := hd 4 (by simp)
        have sep4 : Sep (y 4) v' := fun q hq hq' => by
          rcases q4 q hq' with h | h
          · rcases dep4.2 q hq with h1 | h1
            · exact s68 q h1 h
            · have := (lo8 q h).2; omega
          · have := (dep4.1.at hq).2.1; omega
        have dep9 : OwnAt (AtW w RStrs) 1 w' w1.heap.size 31 (y 9) (m.map (·.kinds) ++ [x.kinds]) ∧ Grew gb u7 (y 9) ∧ Sep (y 4) (y 9) := hd 9 (by simp)
        have sep9 : Sep (y 9) v' := fun q hq hq' => by
          rcases q4 q hq' with h | h
          · rcases dep9.2.1 q hq with h1 | h1
            · exact s78 q h1 h
            · have := (lo8 q h).2; omega
          · have := (dep9.1.at hq).2.1; omega
        refine owesK_makes (w' := w3) v' (by rfl) ?_ ⟨q1, q3, sep4, sep9⟩ (by show w'.grownBy w3 (rowOf 14); rw [r14]; exact q2)
        rw [← h0] at hrun
        clear hb hS hd
        simp only [putAll, List.take_succ_cons, List.take_zero]
        try simp only [Act.put, List.setIfInBounds_toArray, List.set_cons_zero, List.set_cons_succ]
        exact exec_append (by rfl) (by rfl) (by rfl) hrun
      · intro y w' hb hR
        obtain ⟨p4, _⟩ : OwnAt (AtW w RStrs) 1 w' w1.heap.size 31 (y 4) (m.map (·.verbs) ++ [x.verbs]) ∧ Grew gb u6 (y 4) := hR 4 (by omega)
        obtain ⟨p9, _, sp1⟩ : OwnAt (AtW w RStrs) 1 w' w1.heap.size 31 (y 9) (m.map (·.kinds) ++ [x.kinds]) ∧ Grew gb u7 (y 9) ∧ Sep (y 4) (y 9) := hR 9 (by omega)
        obtain ⟨p14, _, sp2, sp3⟩ : OwnAt (AtW w RStrs) 1 w' w1.heap.size 31 (y 14) (m.map (·.names) ++ [x.names]) ∧ Grew gb u8 (y 14) ∧ Sep (y 4) (y 14) ∧ Sep (y 9) (y 14) := hR 14 (by omega)
        have Hnew : Hid (Rows3 w w' w1.heap.size (y 4) (y 9) (y 14) (l.take (i + 1))) := Lib.hid (by
          unfold Rows3
          rw [take_map _ hxi, take_map _ hxi, take_map _ hxi, Hm.out]
          exact ⟨p4, p9, p14, sp1, sp2, sp3⟩)
        have Hnb := Lib.hid (Hbel.out.trans ((HbW.out.mono hsr).trans hb.1))
        obtain ⟨z4, Hz4⟩ : ∃ z, Hid (y 4 = z) := ⟨_, Lib.hid rfl⟩
        obtain ⟨z9, Hz9⟩ : ∃ z, Hid (y 9 = z) := ⟨_, Lib.hid rfl⟩
        obtain ⟨z14, Hz14⟩ : ∃ z, Hid (y 14 = z) := ⟨_, Lib.hid rfl⟩
        rw [Hz4.out, Hz9.out, Hz14.out] at Hnew
        clear p4 p9 p14 sp1 sp2 sp3 hR hb off6 off7 off8 off offG low rno r4 r9 r14 lo6 lo7 lo8 s67 s68 s78 o6 o7 o8 hxi
        simp only [putAll, List.take_succ_cons, List.take_zero, List.drop_succ_cons, List.drop_zero]
        rw [Hz4.out, Hz9.out, Hz14.out]
        try simp only [Act.put, List.setIfInBounds_toArray, List.set_cons_zero, List.set_cons_succ]
        go_wp2_with fail
        go_roundg k
        case measure => omega
        case rel => exact ⟨i + 1, by omega, by go_num, Hnew, Hnb⟩
end Go.Proofs.YtkmonmdnmpbadaaDoor
namespace Go.Proofs.YtkmonmdnmpbadaaDoor
open Go.RowKit
theorem mem_sum {α : Type} (μ : α → Nat) {l : List α} {x : α} (h : x ∈ l) : μ x ≤ (l.map μ).sum := by
  induction l with
  | nil => cases h
  | cons y r ih =>
    simp only [List.map_cons, List.sum_cons]
    rcases List.mem_cons.1 h with rfl | h
    · omega
    · have := ih h; omega
theorem okS_of {l : List ByteArray} (h : total l ≤ 1048576) : okS l := ⟨by have := total_length l; omega, fun x hx => by have := total_mem hx; omega⟩
theorem okRule_of {r : GRule} (h : ruleB r ≤ 1048576) : okRule r := by
  unfold ruleB at h
  exact ⟨okS_of (by omega), okS_of (by omega), okS_of (by omega)⟩
theorem okRole_of {r : GRole} (h : roleB r ≤ 1048576) : okRole r := by
  have h1 := sum_ge_length ruleB (fun x => by unfold ruleB; omega) r.rules
  have h2 : ∀ q ∈ r.rules, ruleB q ≤ (r.rules.map ruleB).sum := fun q hq => mem_sum ruleB hq
  unfold roleB at h
  exact ⟨by omega, by omega, by omega, fun q hq => okRule_of (by have := h2 q hq; omega)⟩
theorem okBind_of {b : GBind} (h : bindB b ≤ 1048576) : okBind b := by
  unfold bindB at h
  exact ⟨by omega, by omega, by omega, okS_of (by omega), okS_of (by omega)⟩
theorem okGrants_of {x : GGrants} (h : grantsB x ≤ 1048576) : okGrants x := by
  have h1 := sum_ge_length roleB (fun x => by unfold roleB; omega) x.roles
  have h2 : ∀ q ∈ x.roles, roleB q ≤ (x.roles.map roleB).sum := fun q hq => mem_sum roleB hq
  have h3 := sum_ge_length bindB (fun x => by unfold bindB; omega) x.binds
  have h4 : ∀ q ∈ x.binds, bindB q ≤ (x.binds.map bindB).sum := fun q hq => mem_sum bindB hq
  unfold grantsB at h
  exact ⟨by omega, fun q hq => okRole_of (by have := h2 q hq; omega), by omega, fun q hq => okBind_of (by have := h4 q hq; omega)⟩
theorem okUser_of {u : GUser} (h : userB u ≤ 1048576) : okUser u := by
  unfold userB at h
  exact ⟨by omega, okS_of (by omega)⟩
end Go.Proofs.YtkmonmdnmpbadaaDoor
namespace Go.Proofs.YtkmonmdnmpbadaaDoor
open Go.RowKit
/-- what Beyond needs of the rules -/
structure OkCover (l : List GRule) (r : GRule) : Prop where
  len : l.length ≤ 1048576
  ok : ∀ x ∈ l, okRule x
  okr : okRule r
  t0 : (l.map (·.verbs)).flatten.length ≤ 1048576
  t1 : (l.map (·.kinds)).flatten.length ≤ 1048576
  t2 : (l.map (·.names)).flatten.length ≤ 1048576
def CoversAt (l : List GRule) (r : GRule) (w : World) (e : Ending) (w' : World) : Prop := ∃ b, e = .returned (.bool b) ∧ (b = true ↔ coverP l r) ∧ Below w.heap.size w w'
theorem BeyondAt.iff {l : List GRule} {r : GRule} {a : GAsk} {b : Bool} (h : BeyondAt l r a b) : ((!b) = true ↔ coverP l r) := by
  rcases h with ⟨rfl, _, h⟩ | ⟨rfl, h, _⟩
  · simpa using h
  · simpa using h
set_option maxRecDepth 100000 in
set_option maxHeartbeats 800000 in
theorem covers_any (v y0 y1 y2 : Value) (l : List GRule) (r : GRule) (w : World) (h : RowAt RuleR 3 w v l) (hr : RuleR w [y0, y1, y2] r) (hok : OkCover l r) (htab : TabOK w) :
    Calls Tryd.prog 44 #[v, .agg #[y0, y1, y2]] w (CoversAt l r w) := by
  obtain ⟨w1, hw1⟩ : ∃ w1, w1 = w.alloc (.cells #[y0, y1, y2] 44) := ⟨_, rfl⟩
  have hb1 : Below w.heap.size w w1 := by rw [hw1]; exact (Below.refl _ _).alloc (Nat.le_refl _) _
  have b0 : w1.heap[w.heap.size]? = some (.cells #[y0, y1, y2] 44 (0, 0)) := by rw [hw1]; exact heap_alloc_new w _
  have H := Lib.hid (beyond_any v y0 y1 y2 l r w1 (h.below stays_rule hb1) (stays_rule _ _ _ _ (keeps_below hb1) hr) hok.len hok.ok hok.okr hok.t0 hok.t1 hok.t2 (var_keep htab hb1))
  obtain ⟨_, _, _, hcs, s0, s1, s2⟩ := hr
  simp only [List.cons.injEq, and_true] at hcs
  obtain ⟨rfl, rfl, rfl⟩ := hcs
  obtain ⟨a0, c0, rfl, _, _⟩ := s0.row.len
  obtain ⟨a1, c1, rfl, _, _⟩ := s1.row.len
  obtain ⟨a2, c2, rfl, _, _⟩ := s2.row.len
  obtain ⟨nv, Hnv⟩ : ∃ n, Hid (r.verbs.length = n) := ⟨_, Lib.hid rfl⟩
  obtain ⟨nk, Hnk⟩ : ∃ n, Hid (r.kinds.length = n) := ⟨_, Lib.hid rfl⟩
  obtain ⟨nn, Hnn⟩ : ∃ n, Hid (r.names.length = n) := ⟨_, Lib.hid rfl⟩
  rw [Hnv.out, Hnk.out, Hnn.out] at H b0 hw1 ⊢
  have Hb1 := Lib.hid hb1
  have Hw1 := Lib.hid hw1
  have cc := fun i => cell_block b0 i
  have hs1 := hb1.size
  clear h htab hok hb1 hw1 s0 s1 s2 b0
  go_enter Tryd.func44, Tryd.ntmps44
  go_upto_region 1 with fail
  rw [← Hw1.out]
  clear Hw1
  go_wp2_with fail
  refine H.out.mono ?_
  rintro E w2 ⟨a, b, rfl, hres, hb2⟩
  have Hres := Lib.hid hres.iff
  have Hb2 := Lib.hid (Hb1.out.trans (hb2.mono hs1))
  have hs2 := hb2.size
  unfold AskV
  clear hres hb2 cc H
  go_wp2_with fail
  go_ret
  exact ⟨_, rfl, Hres.out, Hb2.out.alloc (by have := Hb2.out.size; omega) _⟩
end Go.Proofs.YtkmonmdnmpbadaaDoor
namespace Go.Proofs.YtkmonmdnmpbadaaDoor
open Go.RowKit
def escA : GAsk := ⟨⟨#[101, 115, 99, 97, 108, 97, 116, 101]⟩, ⟨#[114, 111, 108, 101, 115]⟩, ⟨#[]⟩, ⟨#[]⟩⟩
/-- a rule that is held is one of a role -/
theorem held_role {x : GGrants} {u : GUser} {s : ByteArray} {r : GRule} (h : r ∈ heldL x u s) : ∃ q ∈ x.roles, r ∈ q.rules := by
  unfold heldL at h
  obtain ⟨b, _, h⟩ := List.mem_flatMap.1 h
  unfold bindRules at h
  split at h
  · obtain ⟨q, hq, h⟩ := List.mem_flatMap.1 h
    unfold rulesOf at h
    split at h
    · exact ⟨q, hq, h⟩
    · cases h
  · cases h
theorem held_rule {x : GGrants} {u : GUser} {s : ByteArray} (hc : codeC x u s = 0) {r : GRule} (h : r ∈ heldL x u s) : ruleC r = 0 := by
  obtain ⟨q, hq, hr⟩ := held_role h
  unfold codeC at hc
  have h1 := ((says_eq_zero _ _).1 hc).1
  unfold grantsC at h1
  have h2 := ((says_eq_zero _ _).1 ((says_eq_zero _ _).1 h1).2).1
  rw [firstBad_zero] at h2
  obtain ⟨i, hi, hqi⟩ := List.getElem_of_mem hq
  have h3 := h2 (roleC (x.roles.take i) q) (by
    unfold rolesC
    rw [List.mem_mapIdx]
    exact ⟨i, hi, by rw [hqi]⟩)
  unfold roleC at h3
  have h4 := ((says_eq_zero _ _).1 ((says_eq_zero _ _).1 ((says_eq_zero _ _).1 h3).2).2).2
  unfold rulesC at h4
  have h5 := ((says_eq_zero _ _).1 h4).2
  rw [firstBad_zero] at h5
  exact h5 _ (List.mem_map.2 ⟨r, hr, rfl⟩)
theorem rule_small {r : GRule} (h : ruleC r = 0) : r.verbs.length ≤ 6 ∧ r.kinds.length ≤ 6 ∧ r.names.length ≤ 6 := by
  unfold ruleC at h
  have h1 := ((says_eq_zero _ _).1 h).1
  unfold need smallR at h1
  split at h1
  · rename_i h2
    simpa using h2
  · cases h1
theorem flat_small (f : GRule → List ByteArray) {l : List GRule} (h : ∀ r ∈ l, (f r).length ≤ 6) : (l.map f).flatten.length ≤ 6 * l.length := by
  induction l with
  | nil => simp
  | cons r l ih =>
    have h1 := h r (List.mem_cons_self ..)
    have h2 := ih fun q hq => h q (List.mem_cons_of_mem _ hq)
    simp only [List.map_cons, List.flatten_cons, List.length_append, List.length_cons]
    omega
theorem okCover_held {x : GGrants} {u : GUser} {s : ByteArray} (hok : okGrants x) (hc : codeC x u s = 0) {r : GRule} (hr : okRule r) : OkCover (heldL x u s) r := by
  have hl := held_len (few_of_code hc) u s
  have h1 := fun r h => rule_small (held_rule (x := x) (u := u) (s := s) hc (r := r) h)
  have f0 := flat_small (·.verbs) fun r h => (h1 r h).1
  have f1 := flat_small (·.kinds) fun r h => (h1 r h).2.1
  have f2 := flat_small (·.names) fun r h => (h1 r h).2.2
  exact ⟨by omega, held_ok hok u s, hr, by omega, by omega, by omega⟩
def grantBad (x : GGrants) (u : GUser) (s : ByteArray) (l : List GRule) : Int := says (codeC x u s) (rulesC l)
/-- what MayGrant tells -/
def GrantIs (x : GGrants) (u : GUser) (s : ByteArray) (l : List GRule) (e : Int) : Prop :=
  (grantBad x u s l ≠ 0 ∧ e = grantBad x u s l) ∨ (grantBad x u s l = 0 ∧ ((e = 0 ∧ (allowsL (heldL x u s) escA = true ∨ ∀ r ∈ l, coverP (heldL x u s) r)) ∨ (e = 14 ∧ allowsL (heldL x u s) escA = false ∧ ∃ r ∈ l, ¬ coverP (heldL x u s) r)))
def GrantAt (x : GGrants) (u : GUser) (s : ByteArray) (l : List GRule) (w : World) (E : Ending) (w' : World) : Prop := ∃ e, E = .returned (.int .i64 e) ∧ GrantIs x u s l e ∧ Below w.heap.size w w'
set_option maxRecDepth 100000 in
set_option maxHeartbeats 1600000 in
theorem mayGrant_any (yr yb yg v : Value) (x : GGrants) (u : GUser) (s : ByteArray) (l : List GRule) (w : World) (h : GrantsR w [yr, yb] x) (hu : UserR w [.string u.name, yg] u) (hl : RowAt RuleR 3 w v l) (hok : okGrants x) (hok2 : okUser u) (hs : s.size ≤ 1048576)
    (hll : l.length ≤ 1048576) (hlo : ∀ r ∈ l, okRule r) (htab : TabOK w) :
    Calls Tryd.prog 17 #[.agg #[yr, yb], .agg #[.string u.name, yg], .string s, v] w (GrantAt x u s l w) := by
  have H := Lib.hid h
  have HU := Lib.hid hu
  have HL := Lib.hid hl
  obtain ⟨_, _, hcs, hr, hb⟩ := h
  simp only [List.cons.injEq, and_true] at hcs
  obtain ⟨rfl, rfl⟩ := hcs
  obtain ⟨a1, c1, rfl, hc1, _⟩ := hr.len
  obtain ⟨a2, c2, rfl, hc2, _⟩ := hb.len
  obtain ⟨_, hcs, hg⟩ := hu
  simp only [List.cons.injEq, and_true, true_and] at hcs
  obtain rfl := hcs
  obtain ⟨a3, c3, rfl, hc3, _⟩ := hg.row.len
  obtain ⟨av, cv, rfl, _, _⟩ := hl.len
  have Hok := Lib.hid hok
  have Hok2 := Lib.hid hok2
  have Hlo := Lib.hid hlo
  have Htab := Lib.hid htab
  obtain ⟨nr, Hnr⟩ : ∃ n, Hid (x.roles.length = n) := ⟨_, Lib.hid rfl⟩
  obtain ⟨nb, Hnb⟩ : ∃ n, Hid (x.binds.length = n) := ⟨_, Lib.hid rfl⟩
  obtain ⟨ng, Hng⟩ : ∃ n, Hid (u.groups.length = n) := ⟨_, Lib.hid rfl⟩
  obtain ⟨cd, Hcd⟩ : ∃ cd, Hid (codeC x u s = cd) := ⟨_, Lib.hid rfl⟩
  obtain ⟨gbd, Hgbd⟩ : ∃ g, Hid (grantBad x u s l = g) := ⟨_, Lib.hid rfl⟩
  have Hsay : Hid (says cd (rulesC l) = gbd) := Lib.hid (by rw [← Hgbd.out, ← Hcd.out]; rfl)
  rw [Hnr.out] at H hc1 ⊢
  rw [Hnb.out] at H hc2 ⊢
  rw [Hng.out] at HU hc3 ⊢
  clear hr hb hg hok hok2 hl hlo htab
  go_enter Tryd.func17, Tryd.ntmps17
  go_upto_region 2 with fail
  obtain ⟨w1, hw1⟩ : ∃ w1, w1 = ((w.alloc (.cells #[.slice a1 nr c1, .slice a2 nb c2] 40)).alloc (.cells #[.string u.name, .slice a3 ng c3] 42)).alloc (.cells #[.int .i64 0] 86) := ⟨_, rfl⟩
  obtain ⟨gc, hgc⟩ : ∃ gc, gc = w.heap.size + 2 := ⟨_, rfl⟩
  obtain ⟨gu, hgu⟩ : ∃ gu, gu = w.heap.size + 1 := ⟨_, rfl⟩
  obtain ⟨gx, hgx⟩ : ∃ gx, gx = w.heap.size := ⟨_, rfl⟩
  rw [← hw1]
  try rw [← hgc]
  try rw [← hgu]
  rw [← hgx]
  have b1 : w1.heap[gx]? = some (.cells #[.slice a1 nr c1, .slice a2 nb c2] 40 (0, 0)) := by
    rw [hw1, hgx]
    exact below_block ((Below.refl _ _).alloc (Nat.le_refl _) _) (below_block ((Below.refl _ _).alloc (Nat.le_refl _) _) (heap_alloc_new w _))
  have b2 : w1.heap[gu]? = some (.cells #[.string u.name, .slice a3 ng c3] 42 (0, 0)) := by
    have h9 := heap_alloc_new (w.alloc (.cells #[.slice a1 nr c1, .slice a2 nb c2] 40)) (.cells #[.string u.name, .slice a3 ng c3] 42)
    rw [hw1, hgu]
    exact below_block ((Below.refl _ _).alloc (Nat.le_refl _) _) (by simpa using h9)
  have h1 : IsBad gc w1 0 := by
    have h9 := heap_alloc_new ((w.alloc (.cells #[.slice a1 nr c1, .slice a2 nb c2] 40)).alloc (.cells #[.string u.name, .slice a3 ng c3] 42)) (.cells #[.int .i64 0] 86)
    rw [hw1, hgc]
    simpa [IsBad] using h9
  have hb1 : Below w.heap.size w w1 := by rw [hw1]; exact (((Below.refl _ _).alloc (Nat.le_refl _) _).alloc (by simp) _).alloc (by simp; omega) _
  have hne : gx ≠ gc := by omega
  have hne2 : gu ≠ gc := by omega
  have hgw2 : w.heap.size ≤ gc := by omega
  have hs1 := hb1.size
  have Hb1 := Lib.hid hb1
  have H1 := Lib.hid h1
  have B1 := Lib.hid b1
  have B2 := Lib.hid b2
  have cc := fun i => cell_block b1 i
  have dd := fun i => cell_block b2 i
  clear hw1 hgc hgu hgx b1 b2 h1 hb1
  go_wp2_with fail
  refine (check3_any _ _ _ x u s w1 (stays_grants _ _ _ _ (keeps_below Hb1.out) H.out) (stays_user _ _ _ _ (keeps_below Hb1.out) HU.out) Hok.out Hok2.out hs).mono ?_
  rw [Hcd.out]
  rintro E w2 ⟨rfl, hb2⟩
  have K2 := Lib.hid (But.of (g := gc) hb2)
  have H2 := Lib.hid (H1.out.below hb2)
  clear cc dd hb2
  go_wp2_with fail
  refine (says_any gc 0 cd w2 H2.out).mono ?_
  rintro E w3 ⟨rfl, h1, h2⟩
  rw [zero_says] at h1
  have H3 := Lib.hid h1
  have K3 := Lib.hid (K2.out.trans h2)
  have hb3 := K3.out.below Hb1.out hs1 hgw2
  have Hb3 := Lib.hid hb3
  clear h1 h2 hb3
  go_wp2_with fail
  refine (rules_any gc cd _ l w w3 H3.out Hb3.out hgw2 HL.out hll Hlo.out).mono ?_
  rw [Hsay.out]
  rintro E w4 ⟨rfl, h1, h2⟩
  have H4 := Lib.hid h1
  have K4 := Lib.hid (K3.out.trans h2)
  have Hb4 := Lib.hid (K4.out.below Hb1.out hs1 hgw2)
  have hs4 := Hb4.out.size
  have X1 := Lib.hid (K4.out.keep B1.out hne)
  have X2 := Lib.hid (K4.out.keep B2.out hne2)
  have ce : ∀ i, w4.cell? ⟨gc, i, none⟩ = #[Value.int .i64 gbd][i]? := fun i => cell_block h1 i
  clear h1 h2
  have cc := fun i => cell_block X1.out i
  have dd := fun i => cell_block X2.out i
  by_cases h0 : gbd = 0
  · subst h0
    have hz := (says_eq_zero _ _).1 Hsay.out
    have hcd : codeC x u s = 0 := by rw [Hcd.out]; exact hz.1
    have Hz := Lib.hid hcd
    have Hfew := Lib.hid (few_of_code hcd)
    obtain ⟨L, HLd⟩ : ∃ L, Hid (heldL x u s = L) := ⟨_, Lib.hid rfl⟩
    have hcov : ∀ r, okRule r → OkCover L r := fun r hr => by rw [← HLd.out]; exact okCover_held Hok.out hcd hr
    have hLo : ∀ r ∈ L, okRule r := by rw [← HLd.out]; exact held_ok Hok.out u s
    have hLl : L.length ≤ 1152 := by rw [← HLd.out]; exact held_len Hfew.out u s
    have HLo := Lib.hid hLo
    have Hcov := Lib.hid hcov
    obtain ⟨es, Hes⟩ : ∃ es, Hid (allowsL L escA = es) := ⟨_, Lib.hid rfl⟩
    clear hz hcd hcov hLo
    go_wp2_with fail
    refine (held_any _ _ _ x u s w4 (stays_grants _ _ _ _ (keeps_below Hb4.out) H.out) (stays_user _ _ _ _ (keeps_below Hb4.out) HU.out) Hok.out Hok2.out Hfew.out).mono ?_
    rw [HLd.out]
    rintro E w5 ⟨v5, rfl, ho5, hb5⟩
    have R5 := Lib.hid (RowAt.ofW stays_rule ho5.row hb5)
    have Hb5 := Lib.hid (Hb4.out.trans (hb5.mono hs4))
    have hs5 := Hb5.out.size
    clear ho5 hb5 cc dd ce
    go_wp2_with fail
    refine (allowsAll_any v5 L escA w5 R5.out (by omega) HLo.out).mono ?_
    rw [Hes.out]
    rintro E w6 ⟨rfl, hb6⟩
    have R6 := Lib.hid (R5.out.below stays_rule hb6)
    have Hb6 := Lib.hid (Hb5.out.trans (hb6.mono hs5))
    have hs6 := Hb6.out.size
    clear hb6
    cases es with
    | true =>
      have Hgot : Hid (GrantIs x u s l 0) := Lib.hid (.inr ⟨Hgbd.out, .inl ⟨rfl, .inl (by rw [HLd.out]; exact Hes.out)⟩⟩)
      go_wp2_with fail
      go_ret
      exact ⟨_, rfl, Hgot.out, Hb6.out⟩
    | false =>
      go_wp2_with fail
      go_loopg [42] l.length (fun k u42 wr => ∃ i : Nat, i + k = l.length ∧ u42 = .int .i64 (i : Int) ∧ Hid (∀ r ∈ l.take i, coverP L r) ∧ Hid (Below w6.heap.size w6 wr))
      case atStart => exact ⟨0, by omega, rfl, Lib.hid (fun v hv => by simp at hv), Lib.hid (Below.refl _ _)⟩
      case round =>
        obtain ⟨i, hig, rfl, Hall, Hbel⟩ := hrel
        have hsr := Hbel.out.size
        have Hbr := Lib.hid (Hb6.out.trans (Hbel.out.mono hs6))
        cases gk with
        | zero =>
          obtain rfl : i = l.length := by omega
          have Hgot : Hid (GrantIs x u s l 0) := Lib.hid (.inr ⟨Hgbd.out, .inl ⟨rfl, .inr (by
            rw [HLd.out]
            have := Hall.out
            rwa [List.take_of_length_le (Nat.le_refl _)] at this)⟩⟩)
          go_wp2_with fail
          go_ret
          exact ⟨_, rfl, Hgot.out, Hbr.out⟩
        | succ k =>
          have hil : i < l.length := by omega
          obtain ⟨r, hri⟩ : ∃ r, l[i]? = some r := ⟨l[i]'(by omega), List.getElem?_eq_getElem _⟩
          obtain ⟨bk, o, c', hv, _, _, hbs, hcell⟩ := HL.out.form (by omega) (by omega)
          injection hv with u1 u2 u3
          subst u1
          clear u2 u3
          obtain ⟨ds, _, hcc, hR⟩ := hcell i r hri
          have hR2 := hR
          obtain ⟨y0, y1, y2, rfl, s0, s1, s2⟩ := hR
          obtain ⟨d0, f0, rfl, _, _⟩ := s0.row.len
          obtain ⟨d1, f1, rfl, _, _⟩ := s1.row.len
          obtain ⟨d2, f2, rfl, _, _⟩ := s2.row.len
          have HR2 := Lib.hid hR2
          have e0 : wr.cell? ⟨bk, o + i * 3, none⟩ = some (.slice d0 r.verbs.length f0) := (Hbr.out.cell (p := ⟨bk, _, none⟩) hbs).trans (by simpa using hcc 0 _ rfl)
          have e1 : wr.cell? ⟨bk, o + i * 3 + 1, none⟩ = some (.slice d1 r.kinds.length f1) := (Hbr.out.cell (p := ⟨bk, _, none⟩) hbs).trans (hcc 1 _ rfl)
          have e2 : wr.cell? ⟨bk, o + i * 3 + 2, none⟩ = some (.slice d2 r.names.length f2) := (Hbr.out.cell (p := ⟨bk, _, none⟩) hbs).trans (hcc 2 _ rfl)
          have q1 : (0 : Int) ≤ (i : Int) := by omega
          have q2 : (i : Int) < (l.length : Int) := by omega
          have Hri := Lib.hid hri
          have Hro := Lib.hid (Hlo.out r (List.mem_of_getElem? hri))
          have hbs2 : bk < wr.heap.size := by have := Hbr.out.size; omega
          clear hcc hcell hR2 hri s0 s1 s2
          have Hal : ∀ o : Obj, Hid (Below wr.heap.size wr (wr.alloc o)) := fun o => Lib.hid ((Below.refl _ _).alloc (Nat.le_refl _) o)
          have Hal0 : ∀ o : Obj, Hid (Below w.heap.size w (wr.alloc o)) := fun o => Lib.hid (Hbr.out.trans ((Hal o).out.mono Hbr.out.size))
          have Hal6 : ∀ o : Obj, Hid (Below w6.heap.size w6 (wr.alloc o)) := fun o => Lib.hid (Hbel.out.trans ((Hal o).out.mono hsr))
          go_wp2_with fail
          refine (covers_any v5 _ _ _ L r _ (R6.out.below stays_rule (Hal6 _).out) (stays_rule _ _ _ _ (keeps_below (Hal0 _).out) HR2.out) (Hcov.out r Hro.out) (var_keep Htab.out (Hal0 _).out)).mono ?_
          rintro E w7 ⟨b, rfl, hb, hb7⟩
          have Hbb := Lib.hid hb
          have Hb7 := Lib.hid ((Hal6 (.cells #[.slice d0 r.verbs.length f0, .slice d1 r.kinds.length f1, .slice d2 r.names.length f2] 44)).out.trans (hb7.mono (by simp; omega)))
          have Hb70 := Lib.hid (Hb6.out.trans (Hb7.out.mono hs6))
          clear hb hb7 e0 e1 e2
          cases b with
          | true =>
            have Hall2 : Hid (∀ r ∈ l.take (i + 1), coverP L r) := Lib.hid fun q hq => by
              rw [List.take_add_one, Hri.out] at hq
              rcases List.mem_append.1 hq with h | h
              · exact Hall.out q h
              · obtain rfl : q = r := by simpa using h
                exact Hbb.out.1 rfl
            go_wp2_with fail
            go_roundg k
            case measure => omega
            case rel => exact ⟨i + 1, by omega, by go_num, Hall2, Hb7⟩
          | false =>
            have Hgot : Hid (GrantIs x u s l 14) := Lib.hid (.inr ⟨Hgbd.out, .inr ⟨rfl, by rw [HLd.out]; exact Hes.out, r, List.mem_of_getElem? Hri.out, by rw [HLd.out]; exact fun h => by have := Hbb.out.2 h; cases this⟩⟩)
            go_wp2_with fail
            go_ret
            exact ⟨_, rfl, Hgot.out, Hb70.out⟩
  · have q1 : (gbd != 0) = true := by rw [bne_iff_ne]; exact h0
    have Hgot : Hid (GrantIs x u s l gbd) := Lib.hid (.inl ⟨by rw [Hgbd.out]; exact h0, Hgbd.out.symm⟩)
    clear h0
    go_wp2_with fail
    go_ret
    exact ⟨_, rfl, Hgot.out, Hb4.out⟩
end Go.Proofs.YtkmonmdnmpbadaaDoor
namespace Go.Proofs.YtkmonmdnmpbadaaDoor
open Go.RowKit
end Go.Proofs.YtkmonmdnmpbadaaDoor
namespace Go.Proofs.YtkmonmdnmpbadaaDoor
open Go.RowKit Go.ChangeShapes Go.WideShapes Go.ChangeAt
theorem laid_tail {P : Program} {W : World} {x : String × DataW Unit} {r : List (String × DataW Unit)} (h : laidMet P (x :: r) W) : laidMet P r W := by
  obtain ⟨ps, ⟨g, t, cs, fuel, p, q, _, _, _, _, hq, rfl⟩, hnd, hall⟩ := h
  exact ⟨q, hq, (List.nodup_append.1 hnd).2.1, fun b off hb => hall b off (List.mem_append_right _ hb)⟩
noncomputable def tabG : Nat := (Tryd.prog.globalNamed "internal/strconv.uint64pow10").getD 0
noncomputable def tabT : TypeId := ((Tryd.prog.globals[tabG]?).map (·.type)).getD 0
noncomputable def tabE : TypeId := match Tryd.prog.underlying tabT with | some (.array _ e) => e | _ => 0
noncomputable def tabN : Nat := match Tryd.prog.underlying tabT with | some (.array n _) => n | _ => 0
theorem gTab1 : Tryd.prog.globalNamed "internal/strconv.uint64pow10" = some tabG := by kernel_rfl
theorem gTab2 : (Tryd.prog.globals[tabG]?).map (·.type) = some tabT := by kernel_rfl
theorem gTab3 : Tryd.prog.underlying tabT = some (.array tabN tabE) := by kernel_rfl
theorem gTab4 : Tryd.prog.underlying tabE = some (.int .u64) := by kernel_rfl
theorem gTab5 : Tryd.prog.cellsOf tabE = 1 := by kernel_rfl
theorem gTab6 : Tryd.prog.cellsOf tabT = tabN := by kernel_rfl
theorem tab_of {W : World} {x1 x2 : String × DataW Unit} {d : DataW Unit} (hd : d = Lib.tabData .u64 Lib.pow10Tab) (h : laidMet Tryd.prog [x1, x2, ("internal/strconv.uint64pow10", d)] W) : TabOK W := by
  subst hd
  exact Lib.tabIs_of_head gTab1 gTab2 gTab3 gTab4 gTab5 gTab6 (laid_tail (laid_tail h))
end Go.Proofs.YtkmonmdnmpbadaaDoor
namespace Go.Proofs.YtkmonmdnmpbadaaDoor
open Go.RowKit
theorem own_midR {α : Type} {R : Rd α} {k B H B' : Nat} {e : TypeId} {v : Value} {l : List α} {w w' : World} (hR : ∀ cs x, R w cs x → R w' cs x) (h : OwnAt R k w B' e v l) (hm : Mid B H w w') (hB : H ≤ B') : OwnAt R k w' B' e v l := by
  have hat := fun q hq => h.at (g := q) hq
  obtain ⟨css, h1, h2, h3, h4⟩ := h
  refine ⟨css, h1, h2, ⟨h3.1, ?_⟩, fun j cs y hcs hy => hR _ _ (h4 j cs y hcs hy)⟩
  rcases h3.2 with h5 | ⟨q, cap, cur, rfl, hB2, hh, hr⟩
  · exact .inl h5
  · exact .inr ⟨q, cap, cur, rfl, hB2, (hm.block q (hat q rfl).2.1 (.inr (by omega))).trans hh, hr⟩
theorem ruleO_mid {B H B' : Nat} {w w' : World} (hm : Mid B H w w') (hB : H ≤ B') (cs : List Value) (x : GRule) (h : RuleO B' w cs x) : RuleO B' w' cs x := by
  obtain ⟨v0, v1, v2, h1, h2, h3, h4⟩ := h
  exact ⟨v0, v1, v2, h1, OwnAt.mid flat_string h2 hm hB, OwnAt.mid flat_string h3 hm hB, OwnAt.mid flat_string h4 hm hB⟩
theorem txt_mid {B H B' : Nat} {w w' : World} {v : Value} {l : List ByteArray} (hm : Mid B H w w') (hB : H ≤ B') (h : TxtAt B' w v l) : TxtAt B' w' v l := by
  obtain ⟨g, h1, h2, h3⟩ := h
  exact ⟨g, h1, h2, (hm.block g (block_lt' h3) (.inr (by omega))).trans h3⟩
theorem texRule_mid {B H B' : Nat} {w w' : World} (hm : Mid B H w w') (hB : H ≤ B') (cs : List Value) (x : GRule) (h : TexRule B' w cs x) : TexRule B' w' cs x := by
  obtain ⟨v0, v1, v2, h1, h2, h3, h4⟩ := h
  exact ⟨v0, v1, v2, h1, txt_mid hm hB h2, txt_mid hm hB h3, txt_mid hm hB h4⟩
theorem texRules_rules {B : Nat} {w : World} {v : Value} {l : List GRule} (h : OwnAt (TexRule B) 3 w B 44 v l) (hok : ∀ r ∈ l, okRule r) : RowAt RuleR 3 w v l := texRow h.row fun r hr _ hx => texRule_rule hx (hok r hr)
set_option maxRecDepth 100000 in
set_option maxHeartbeats 6400000 in
theorem ownGrants_walk (cs0 : Array Value) (x : GGrants) (cs1 : Array Value) (u : GUser) (s : ByteArray) (cs3 : Array Value) (r : GRule) (w : World) (h0 : GrantsR w cs0.toList x) (h1 : UserR w cs1.toList u) (h3 : RuleR w cs3.toList r)
    (hbulk : grantsB x + (userB u + (s.data.toList.length + 1 + (ruleB r + 0))) ≤ 1048576) (htab : TabOK w) :
    Calls Tryd.prog 5 #[.agg cs0, .agg cs1, .string s, .agg cs3] w fun e w' => e = .returned (.bool true) ∧ Below w.heap.size w w' := by
  have hok := okGrants_of (x := x) (by omega)
  have hok2 := okUser_of (u := u) (by omega)
  have hsd : s.data.toList.length = s.size := by simp
  have hs : s.size ≤ 1048576 := by rw [hsd] at hbulk; omega
  have hor : okRule r := okRule_of (by omega)
  have g0 := h0
  have g1 := h1
  have g3 := h3
  obtain ⟨vr, vb, e0, hr, hb⟩ := h0
  obtain ⟨vg, e1, hg⟩ := h1
  obtain ⟨v0, v1, v2, e3, t0, t1, t2⟩ := h3
  have e0' : cs0 = #[vr, vb] := Array.toList_inj.1 e0
  have e1' : cs1 = #[.string u.name, vg] := Array.toList_inj.1 e1
  have e3' : cs3 = #[v0, v1, v2] := Array.toList_inj.1 e3
  subst e0' e1' e3'
  obtain ⟨a1, c1, rfl, hc1, _⟩ := hr.len
  obtain ⟨a2, c2, rfl, hc2, _⟩ := hb.len
  obtain ⟨a3, c3, rfl, hc3, _⟩ := hg.row.len
  obtain ⟨a4, c4, rfl, -, -⟩ := t0.row.len
  obtain ⟨a5, c5, rfl, -, -⟩ := t1.row.len
  obtain ⟨a6, c6, rfl, -, -⟩ := t2.row.len
  have H : Hid (GrantsR w [.slice a1 x.roles.length c1, .slice a2 x.binds.length c2] x) := Lib.hid g0
  have HU : Hid (UserR w [.string u.name, .slice a3 u.groups.length c3] u) := Lib.hid g1
  have HRu : Hid (RuleR w [.slice a4 r.verbs.length c4, .slice a5 r.kinds.length c5, .slice a6 r.names.length c6] r) := Lib.hid g3
  have Hok := Lib.hid hok
  have Hok2 := Lib.hid hok2
  have Hor := Lib.hid hor
  have Htab := Lib.hid htab
  obtain ⟨nr, Hnr⟩ : ∃ n, Hid (x.roles.length = n) := ⟨_, Lib.hid rfl⟩
  obtain ⟨nb, Hnb⟩ : ∃ n, Hid (x.binds.length = n) := ⟨_, Lib.hid rfl⟩
  obtain ⟨ng, Hng⟩ : ∃ n, Hid (u.groups.length = n) := ⟨_, Lib.hid rfl⟩
  obtain ⟨n4, Hn4⟩ : ∃ n, Hid (r.verbs.length = n) := ⟨_, Lib.hid rfl⟩
  obtain ⟨n5, Hn5⟩ : ∃ n, Hid (r.kinds.length = n) := ⟨_, Lib.hid rfl⟩
  obtain ⟨n6, Hn6⟩ : ∃ n, Hid (r.names.length = n) := ⟨_, Lib.hid rfl⟩
  rw [Hnr.out] at H hc1 ⊢
  rw [Hnb.out] at H hc2 ⊢
  rw [Hng.out] at HU hc3 ⊢
  rw [Hn4.out, Hn5.out, Hn6.out] at HRu ⊢
  obtain ⟨w1, hw1⟩ : ∃ w1, w1 = ((w.alloc (.cells #[.slice a1 nr c1, .slice a2 nb c2] 40)).alloc (.cells #[.string u.name, .slice a3 ng c3] 42)).alloc (.cells #[.slice a4 n4 c4, .slice a5 n5 c5, .slice a6 n6 c6] 44) := ⟨_, rfl⟩
  obtain ⟨ga, hga⟩ : ∃ ga, ga = w.heap.size + 2 := ⟨_, rfl⟩
  obtain ⟨gu, hgu⟩ : ∃ gu, gu = w.heap.size + 1 := ⟨_, rfl⟩
  obtain ⟨gx, hgx⟩ : ∃ gx, gx = w.heap.size := ⟨_, rfl⟩
  have b1 : w1.heap[gx]? = some (.cells #[.slice a1 nr c1, .slice a2 nb c2] 40 (0, 0)) := by
    rw [hw1, hgx]
    exact below_block ((Below.refl _ _).alloc (Nat.le_refl _) _) (below_block ((Below.refl _ _).alloc (Nat.le_refl _) _) (heap_alloc_new w _))
  have b2 : w1.heap[gu]? = some (.cells #[.string u.name, .slice a3 ng c3] 42 (0, 0)) := by
    have h9 := heap_alloc_new (w.alloc (.cells #[.slice a1 nr c1, .slice a2 nb c2] 40)) (.cells #[.string u.name, .slice a3 ng c3] 42)
    rw [hw1, hgu]
    exact below_block ((Below.refl _ _).alloc (Nat.le_refl _) _) (by simpa using h9)
  have b3 : w1.heap[ga]? = some (.cells #[.slice a4 n4 c4, .slice a5 n5 c5, .slice a6 n6 c6] 44 (0, 0)) := by
    have h9 := heap_alloc_new ((w.alloc (.cells #[.slice a1 nr c1, .slice a2 nb c2] 40)).alloc (.cells #[.string u.name, .slice a3 ng c3] 42)) (.cells #[.slice a4 n4 c4, .slice a5 n5 c5, .slice a6 n6 c6] 44)
    rw [hw1, hga]
    simpa using h9
  have hb1 : Below w.heap.size w w1 := by rw [hw1]; exact (((Below.refl _ _).alloc (Nat.le_refl _) _).alloc (by simp) _).alloc (by simp; omega) _
  have hgx1 : gx < w1.heap.size := block_lt' b1
  have hgu1 : gu < w1.heap.size := block_lt' b2
  have hga1 : ga < w1.heap.size := block_lt' b3
  have hs1 := hb1.size
  have Hb1 := Lib.hid hb1
  have B1 := Lib.hid b1
  have B2 := Lib.hid b2
  have B3 := Lib.hid b3
  have cc := fun i => cell_block b1 i
  have dd := fun i => cell_block b2 i
  have ee := fun i => cell_block b3 i
  have Hw1 := Lib.hid hw1
  have Hga := Lib.hid hga
  have Hgu := Lib.hid hgu
  have Hgx := Lib.hid hgx
  clear hsd hr hb hg hok hok2 hor htab b1 b2 b3 hb1 hw1 hga hgu hgx e0 e1 e3 g0 g1 g3 hbulk t0 t1 t2
  go_enter Tryd.func5, Tryd.ntmps5
  go_upto_region 1 with fail
  rw [← Hw1.out]
  try rw [← Hga.out]
  try rw [← Hgu.out]
  rw [← Hgx.out]
  clear Hw1 Hga Hgu Hgx
  go_wp2_with fail
  refine (granted_any _ _ x w1 (stays_grants _ _ _ _ (keeps_below Hb1.out) H.out) Hok.out).mono ?_
  rintro E w2 ⟨vr, vb, rfl, htex, hb2⟩
  obtain ⟨ar, cr, rfl, -, -⟩ : ∃ a c, vr = .slice a nr c ∧ True ∧ True := by
    obtain ⟨_, _, hcs, hr, _⟩ := id htex
    simp only [List.cons.injEq, and_true] at hcs
    obtain ⟨rfl, rfl⟩ := hcs
    obtain ⟨a, c, h, _, _⟩ := hr.row.len
    exact ⟨a, c, by rw [h, Hnr.out], trivial, trivial⟩
  obtain ⟨ab, cb, rfl, -, -⟩ : ∃ a c, vb = .slice a nb c ∧ True ∧ True := by
    obtain ⟨_, _, hcs, _, hr⟩ := id htex
    simp only [List.cons.injEq, and_true] at hcs
    obtain ⟨rfl, rfl⟩ := hcs
    obtain ⟨a, c, h, _, _⟩ := hr.row.len
    exact ⟨a, c, by rw [h, Hnb.out], trivial, trivial⟩
  obtain ⟨gi, hgi⟩ : ∃ gi, gi = w2.heap.size := ⟨_, rfl⟩
  obtain ⟨w3, hw3⟩ : ∃ w3, w3 = w2.alloc (.cells #[.slice ar nr cr, .slice ab nb cb] 40) := ⟨_, rfl⟩
  have hb3 : Below w2.heap.size w2 w3 := by rw [hw3]; exact (Below.refl _ _).alloc (Nat.le_refl _) _
  have bi : w3.heap[gi]? = some (.cells #[.slice ar nr cr, .slice ab nb cb] 40 (0, 0)) := by rw [hw3, hgi]; exact heap_alloc_new w2 _
  have HT := Lib.hid htex
  have hs2 := hb2.size
  have hs3 := hb3.size
  have HG3 := Lib.hid (stays_grants _ _ _ _ (keeps_below hb3) (texGrants_grants htex Hok.out))
  have hb13 := hb2.trans (hb3.mono hs2)
  have HB3 := Lib.hid (Hb1.out.trans (hb13.mono hs1))
  have HS3 := Lib.hid hb3
  have C1 := Lib.hid (below_block hb13 B1.out)
  have C2 := Lib.hid (below_block hb13 B2.out)
  have C3 := Lib.hid (below_block hb13 B3.out)
  have Ci := Lib.hid bi
  have hgi2 : w2.heap.size ≤ gi := by omega
  clear htex cc dd ee hb2 hb3 hb13 bi B1 B2 B3
  go_upto_region 2 with fail
  try rw [← hw3]
  try rw [← hgi]
  clear hw3 hgi
  have ci := fun i => cell_block Ci.out i
  have c2 := fun i => cell_block C2.out i
  go_wp2_with fail
  refine (heldO_any _ _ _ x u s w3 HG3.out (stays_user _ _ _ _ (keeps_below HB3.out) HU.out) Hok.out Hok2.out hs).mono ?_
  obtain ⟨e, He⟩ : ∃ e, Hid ((heldP x u s).1 = e) := ⟨_, Lib.hid rfl⟩
  obtain ⟨L, HL⟩ : ∃ L, Hid ((heldP x u s).2 = L) := ⟨_, Lib.hid rfl⟩
  have HeldE : Hid (heldP x u s = (e, L)) := Lib.hid (Prod.ext He.out HL.out)
  rw [HeldE.out]
  rintro E w4 ⟨va, rfl, hva, hb4⟩
  have hLl : L.length ≤ 1152 := by
    rw [← HL.out]
    unfold heldP
    split
    · simp
    · rename_i h9
      exact held_len (few_of_code (by simpa using h9)) u s
  have hLo : ∀ q ∈ L, okRule q := by
    rw [← HL.out]
    unfold heldP
    split
    · intro q hq; cases hq
    · exact held_ok Hok.out u s
  have HLo := Lib.hid hLo
  obtain ⟨nL, HnL⟩ : ∃ n, Hid (L.length = n) := ⟨_, Lib.hid rfl⟩
  have hcov : (L.map (·.verbs)).flatten.length ≤ 1048576 ∧ (L.map (·.kinds)).flatten.length ≤ 1048576 ∧ (L.map (·.names)).flatten.length ≤ 1048576 := by
    rw [← HL.out]
    unfold heldP
    split
    · simp
    · rename_i h9
      have h8 := okCover_held (r := r) (s := s) (u := u) Hok.out (by simpa using h9) Hor.out
      exact ⟨h8.t0, h8.t1, h8.t2⟩
  have Hcov := Lib.hid hcov
  obtain ⟨aL, cL, rfl, -, -⟩ : ∃ a c, va = .slice a nL c ∧ True ∧ True := by
    obtain ⟨a, c, h, _, _⟩ := hva.row.len
    exact ⟨a, c, by rw [h, HnL.out], trivial, trivial⟩
  have HA4 := Lib.hid hva
  have hs4 := hb4.size
  have HB4 := Lib.hid (HB3.out.trans (hb4.mono HB3.out.size))
  have HS4 := Lib.hid (HS3.out.trans (hb4.mono hs3))
  have D1 := Lib.hid (below_block hb4 C1.out)
  have D2 := Lib.hid (below_block hb4 C2.out)
  have D3 := Lib.hid (below_block hb4 C3.out)
  have Di := Lib.hid (below_block hb4 Ci.out)
  clear hva hb4 hLo hcov ci c2 C1 C2 C3 Ci
  rw [HnL.out] at hLl
  go_wp2_with fail
  refine (none_any _).mono ?_
  rintro E w5 ⟨rfl, hb5⟩
  have hs5 := hb5.size
  have HA5 := Lib.hid (HA4.out.belowX (ruleO_stays _) hb5)
  have HB5 := Lib.hid (HB4.out.trans (hb5.mono HB4.out.size))
  have HS5 := Lib.hid (HS4.out.trans (hb5.mono HS4.out.size))
  have E1 := Lib.hid (below_block hb5 D1.out)
  have E2 := Lib.hid (below_block hb5 D2.out)
  have E3 := Lib.hid (below_block hb5 D3.out)
  have Ei := Lib.hid (below_block hb5 Di.out)
  clear hb5 HA4 D1 D2 D3 Di
  have ci := fun i => cell_block Ei.out i
  have c1 := fun i => cell_block E1.out i
  have hg5 : GrantsR w5 [.slice ar nr cr, .slice ab nb cb] x := stays_grants _ _ _ _ (keeps_below HS5.out) (texGrants_grants HT.out Hok.out)
  have HG5 := Lib.hid hg5
  clear hg5
  go_wp2_with fail
  refine (sameGrants_yes x _ _ _ _ w5 HG5.out (stays_grants _ _ _ _ (keeps_below HB5.out) H.out) Hok.out).mono ?_
  rintro E w6 ⟨rfl, hb6⟩
  have hs6 := hb6.size
  have HA6 := Lib.hid (HA5.out.belowX (ruleO_stays _) hb6)
  have HB6 := Lib.hid (HB5.out.trans (hb6.mono HB5.out.size))
  have HS6 := Lib.hid (HS5.out.trans (hb6.mono HS5.out.size))
  have F1 := Lib.hid (below_block hb6 E1.out)
  have F2 := Lib.hid (below_block hb6 E2.out)
  have F3 := Lib.hid (below_block hb6 E3.out)
  have Fi := Lib.hid (below_block hb6 Ei.out)
  clear hb6 HA5 E1 E2 E3 Ei ci c1
  have c3 := fun i => cell_block F3.out i
  go_wp2_with fail
  refine (beyond_any _ _ _ _ L r w6 (RowAt.map ruleO_rule HA6.out.row) (stays_rule _ _ _ _ (keeps_below HB6.out) HRu.out) (by rw [HnL.out]; omega) HLo.out Hor.out Hcov.out.1 Hcov.out.2.1 Hcov.out.2.2 (var_keep Htab.out HB6.out)).mono ?_
  rintro E w7 ⟨qa, qb, rfl, _, hb7⟩
  have hs7 := hb7.size
  have HA7 := Lib.hid (HA6.out.belowX (ruleO_stays _) hb7)
  have HB7 := Lib.hid (HB6.out.trans (hb7.mono HB6.out.size))
  have HS7 := Lib.hid (HS6.out.trans (hb7.mono HS6.out.size))
  have G1 := Lib.hid (below_block hb7 F1.out)
  have G2 := Lib.hid (below_block hb7 F2.out)
  have Gi := Lib.hid (below_block hb7 Fi.out)
  clear hb7 HA6 F1 F2 F3 Fi c3
  have ci := fun i => cell_block Gi.out i
  have c2 := fun i => cell_block G2.out i
  have hg7 : GrantsR w7 [.slice ar nr cr, .slice ab nb cb] x := stays_grants _ _ _ _ (keeps_below HS7.out) (texGrants_grants HT.out Hok.out)
  have HG7 := Lib.hid hg7
  clear hg7
  go_wp2_with fail
  refine (mayGrant_any _ _ _ _ x u s L w7 HG7.out (stays_user _ _ _ _ (keeps_below HB7.out) HU.out) (RowAt.map ruleO_rule HA7.out.row) Hok.out Hok2.out hs (by rw [HnL.out]; omega) HLo.out (var_keep Htab.out HB7.out)).mono ?_
  rintro E w8 ⟨f, rfl, _, hb8⟩
  have hs8 := hb8.size
  have HA8 := Lib.hid (HA7.out.belowX (ruleO_stays _) hb8)
  have HB8 := Lib.hid (HB7.out.trans (hb8.mono HB7.out.size))
  have HS8 := Lib.hid (HS7.out.trans (hb8.mono HS7.out.size))
  have I1 := Lib.hid (below_block hb8 G1.out)
  have I2 := Lib.hid (below_block hb8 G2.out)
  have Ii := Lib.hid (below_block hb8 Gi.out)
  clear hb8 HA7 G1 G2 Gi ci c2
  go_wp2_with fail
  refine (keepRules_any _ L w8 (RowAt.map ruleO_rule HA8.out.row) (by rw [HnL.out]; omega) HLo.out).mono ?_
  rintro E w9 ⟨vh, rfl, hvh, hb9⟩
  obtain ⟨ah, ch, rfl, -, -⟩ : ∃ a c, vh = .slice a nL c ∧ True ∧ True := by
    obtain ⟨a, c, h, _, _⟩ := hvh.row.len
    exact ⟨a, c, by rw [h, HnL.out], trivial, trivial⟩
  have hs9 := hb9.size
  have HA9 := Lib.hid (HA8.out.belowX (ruleO_stays _) hb9)
  have HH9 := Lib.hid hvh
  have HB9 := Lib.hid (HB8.out.trans (hb9.mono HB8.out.size))
  have HS9 := Lib.hid (HS8.out.trans (hb9.mono HS8.out.size))
  have J1 := Lib.hid (below_block hb9 I1.out)
  have J2 := Lib.hid (below_block hb9 I2.out)
  have Ji := Lib.hid (below_block hb9 Ii.out)
  clear hb9 hvh HA8 I1 I2 Ii
  have ci := fun i => cell_block Ji.out i
  go_wp2_with fail
  refine (spoilGrants_any w1.heap.size _ _ x w2 w9 HT.out HS9.out Hok.out).mono ?_
  rintro E w10 ⟨rfl, hm⟩
  have hS8 := HS8.out.size
  have hS3 := HS3.out.size
  have HA10 := Lib.hid (own_midR (fun cs y hy => ruleO_mid hm hs3 cs y hy) HA9.out hm hs3)
  have HH10 := Lib.hid (own_midR (fun cs y hy => texRule_mid hm hS8 cs y hy) HH9.out hm hS8)
  have HB10 := Lib.hid (hm.below HB9.out hs1 HB9.out.size)
  have hsA := HB9.out.size
  have K1 := Lib.hid ((hm.block gx (block_lt' J1.out) (.inl hgx1)).trans J1.out)
  have K2 := Lib.hid ((hm.block gu (block_lt' J2.out) (.inl hgu1)).trans J2.out)
  have hs10 := hm.size
  clear hm HA9 HH9 J1 J2 Ji ci
  go_wp2_with fail
  refine (sameRules_yes _ _ L w10 (RowAt.map ruleO_rule HA10.out.row) (texRules_rules HH10.out HLo.out) (by rw [HnL.out]; omega) HLo.out).mono ?_
  rintro E w11 ⟨rfl, hb11⟩
  have HA11 := Lib.hid (HA10.out.belowX (ruleO_stays _) hb11)
  have HB11 := Lib.hid (HB10.out.trans (hb11.mono HB10.out.size))
  have M1 := Lib.hid (below_block hb11 K1.out)
  have M2 := Lib.hid (below_block hb11 K2.out)
  clear hb11 HA10 HH10 K1 K2
  have c1 := fun i => cell_block M1.out i
  have c2 := fun i => cell_block M2.out i
  go_wp2_with fail
  refine (heldO_any _ _ _ x u s w11 (stays_grants _ _ _ _ (keeps_below HB11.out) H.out) (stays_user _ _ _ _ (keeps_below HB11.out) HU.out) Hok.out Hok2.out hs).mono ?_
  rw [HeldE.out]
  rintro E w12 ⟨vc, rfl, hvc, hb12⟩
  obtain ⟨ac, cc, rfl, -, -⟩ : ∃ a c, vc = .slice a nL c ∧ True ∧ True := by
    obtain ⟨a, c, h, _, _⟩ := hvc.row.len
    exact ⟨a, c, by rw [h, HnL.out], trivial, trivial⟩
  have HA12 := Lib.hid (HA11.out.belowX (ruleO_stays _) hb12)
  have HC12 := Lib.hid hvc
  have HB12 := Lib.hid (HB11.out.trans (hb12.mono HB11.out.size))
  clear hb12 hvc HA11 c1 c2
  have hee : (e == e) = true := beq_self_eq_true e
  go_wp2_with fail
  refine (sameRules_yes _ _ L w12 (RowAt.map ruleO_rule HA12.out.row) (RowAt.map ruleO_rule HC12.out.row) (by rw [HnL.out]; omega) HLo.out).mono ?_
  rintro E w13 ⟨rfl, hb13⟩
  have HB13 := Lib.hid (HB12.out.trans (hb13.mono HB12.out.size))
  clear hb13 HA12 HC12
  go_wp2_with fail
  go_ret
  exact ⟨rfl, HB13.out⟩
end Go.Proofs.YtkmonmdnmpbadaaDoor
