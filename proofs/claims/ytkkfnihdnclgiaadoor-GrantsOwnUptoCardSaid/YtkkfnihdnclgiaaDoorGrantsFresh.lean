/- grants: a text that no list has: its contract. -/
import Derived.Test.YtkkfnihdnclgiaaDoorStrsIdx
import Derived.Test.YtkkfnihdnclgiaaDoorShelf
import Derived.Lib.ItoaMem
import Derived.Lib.ItoaLen
import Derived.Lib.AppendIntMem
namespace Go.Proofs.YtkkfnihdnclgiaaDoor
open Go.RowKit

/-- the number that some digits tell -/
def readD (l : List UInt8) : Nat := l.foldl (fun a c => 10 * a + (c.toNat - 48)) 0
theorem readD_dec (u : Nat) : readD (Lib.decDigits u) = u := by
  induction u using Nat.strongRecOn with
  | _ u ih =>
    rw [Lib.decDigits]
    split
    · rename_i h
      have h1 : (UInt8.ofNat (48 + u)).toNat = 48 + u := by rw [UInt8.toNat_ofNat']; omega
      unfold readD
      simp only [List.foldl_cons, List.foldl_nil, h1]
      omega
    · rename_i h
      have h1 : (UInt8.ofNat (48 + u % 10)).toNat = 48 + u % 10 := by rw [UInt8.toNat_ofNat']; omega
      have h2 := ih (u / 10) (by omega)
      unfold readD at h2 ⊢
      rw [List.foldl_append, h2]
      simp only [List.foldl_cons, List.foldl_nil, h1]
      omega
def xName (n : Nat) : ByteArray := (⟨#[120]⟩ : ByteArray) ++ ⟨(Lib.itoa (n : Int)).toArray⟩
theorem xName_list (n : Nat) : (xName n).data.toList = 120 :: Lib.decDigits n := by
  unfold xName
  rw [Lib.itoa_nonneg]
  simp
theorem xName_inj {a b : Nat} (h : xName a = xName b) : a = b := by
  have h1 := xName_list a
  rw [h, xName_list] at h1
  simp only [List.cons.injEq, true_and] at h1
  rw [← readD_dec a, ← readD_dec b, h1]
/-- a text that no list has -/
def freshOf (L : List (List ByteArray)) (s : ByteArray) : Prop := (∀ m ∈ L, s ∉ m) ∧ s ≠ starB ∧ s.size ≠ 0
theorem xName_fresh {L : List (List ByteArray)} {n : Nat} (h : ∀ m ∈ L, xName n ∉ m) : freshOf L (xName n) := by
  refine ⟨h, fun e => ?_, fun e => ?_⟩
  · have h1 := xName_list n
    rw [e] at h1
    have h2 : starB.data.toList = [42] := by decide +kernel
    rw [h2] at h1
    cases h1
  · have h1 := xName_list n
    have h2 : (xName n).data.toList.length = (xName n).size := by simp
    rw [h1, e] at h2
    cases h2
theorem nodup_le {α : Type} [DecidableEq α] : ∀ {l m : List α}, l.Nodup → (∀ x ∈ l, x ∈ m) → l.length ≤ m.length
  | [], _, _, _ => by simp
  | x :: r, m, h, hs => by
    rw [List.nodup_cons] at h
    have hx := hs x (List.mem_cons_self ..)
    have := nodup_le (l := r) (m := m.erase x) h.2 fun y hy => (List.mem_erase_of_ne (fun e => h.1 (by rw [← e]; exact hy))).2 (hs y (List.mem_cons_of_mem _ hy))
    rw [List.length_erase_of_mem hx] at this
    have h3 : 0 < m.length := List.length_pos_of_mem hx
    simp only [List.length_cons]
    omega
/-- more names than there are texts: one is fresh -/
theorem xName_room {L : List (List ByteArray)} {T : Nat} (hT : L.flatten.length ≤ T) (h : ∀ j, j < T + 1 → ∃ m ∈ L, xName j ∈ m) : False := by
  have h1 := nodup_le (l := (List.range (T + 1)).map xName) (m := L.flatten) (by
    rw [List.nodup_iff_pairwise_ne, List.pairwise_map]
    exact (List.nodup_range (n := T + 1)).imp fun hne e => hne (xName_inj e)) (fun x hx => by
    obtain ⟨j, hj, rfl⟩ := List.mem_map.1 hx
    obtain ⟨m, hm, hx⟩ := h j (List.mem_range.1 hj)
    exact List.mem_flatten.2 ⟨m, hm, hx⟩)
  rw [List.length_map, List.length_range] at h1
  omega
theorem var_keep {P : Program} {w w' : World} {n : String} {k : IntKind} {zs : List Int} (h : Lib.TabIs P w n k zs) (hb : Below w.heap.size w w') : Lib.TabIs P w' n k zs := by
  unfold Lib.TabIs World.var? at h ⊢
  cases hg : P.globalNamed n with
  | none => rw [hg] at h; cases h
  | some g =>
    rw [hg] at h
    simp only [Option.bind_some] at h ⊢
    have hlt : g < w.heap.size := by
      rcases Nat.lt_or_ge g w.heap.size with h1 | h1
      · exact h1
      · rw [Array.getElem?_eq_none h1] at h; cases h
    rw [hb.block g hlt]
    exact h
def CapS (gs : Nat) (s : ByteArray) (w : World) : Prop := w.heap[gs]? = some (.cells #[.string s] 9 (0, 0))
set_option maxRecDepth 100000 in
theorem cloFresh_any (gs : Nat) (s : ByteArray) (m : List ByteArray) (y0 : Value) (w : World) (h : RStrs w [y0] m) (hl : m.length ≤ 1073741824) (hc : CapS gs s w) :
    Calls Tryd.prog 43 #[y0, .pointer (some ⟨gs, 0, none⟩)] w fun e w' => e = .returned (.bool (Lib.containsS m s)) ∧ Below w.heap.size w w' := by
  obtain ⟨v, hcs, hv⟩ := h
  simp only [List.cons.injEq, and_true] at hcs
  obtain rfl := hcs
  have hc' : w.heap[gs]? = some (.cells #[.string s] 9 (0, 0)) := hc
  have cc := fun i => cell_block hc' i
  have H := Lib.hid hv
  obtain ⟨R, HR⟩ : ∃ R, Hid (Lib.containsS m s = R) := ⟨_, Lib.hid rfl⟩
  rw [HR.out]
  clear hc hc' hv
  go_enter Tryd.func43, Tryd.ntmps43
  go_wp2_with fail
  refine (contains_any y0 m s w H.out hl).mono ?_
  rw [HR.out]
  rintro E w2 ⟨rfl, rfl⟩
  go_wp2_with fail
  go_ret
  exact ⟨rfl, Below.refl _ _⟩
/-- the table that strconv reads -/
def TabOK (w : World) : Prop := Lib.TabIs Tryd.prog w "internal/strconv.uint64pow10" .u64 Lib.pow10Tab
def FreshAt (L : List (List ByteArray)) (w : World) (e : Ending) (w' : World) : Prop := ∃ s, e = .returned (.string s) ∧ freshOf L s ∧ s.size ≤ 22 ∧ Below w.heap.size w w'
set_option maxRecDepth 100000 in
set_option maxHeartbeats 800000 in
theorem fresh_any (v : Value) (L : List (List ByteArray)) (w : World) (h : RowAt RStrs 1 w v L) (hl : L.length ≤ 1048576) (hT : L.flatten.length ≤ 1048576) (htab : TabOK w) :
    Calls Tryd.prog 23 #[v] w (FreshAt L w) := by
  have hm : ∀ m ∈ L, m.length ≤ 1073741824 := fun m hm => by
    have : m.length ≤ L.flatten.length := by
      rw [List.length_flatten]
      have h9 : ∀ (l : List Nat) (x : Nat), x ∈ l → x ≤ l.sum := fun l => by
        induction l with
        | nil => intro x hx; cases hx
        | cons y r ih => intro x hx; rw [List.sum_cons]; rcases List.mem_cons.1 hx with rfl | hx; · omega
                         · have := ih x hx; omega
      exact h9 _ _ (List.mem_map.2 ⟨m, hm, rfl⟩)
    omega
  have H := Lib.hid h
  have Hm := Lib.hid hm
  have HT := Lib.hid hT
  have Htab := Lib.hid htab
  clear h hm hT htab
  go_enter Tryd.func23, Tryd.ntmps23
  go_wp2_with fail
  go_loopg [3] 1048577 (fun g u3 wr => ∃ i : Nat, i + g = 1048577 ∧ u3 = .int .i64 (i : Int) ∧ Hid (∀ j, j < i → ∃ m ∈ L, xName j ∈ m) ∧ Hid (Below w.heap.size w wr))
  case atStart => exact ⟨0, by omega, rfl, Lib.hid (fun j hj => by omega), Lib.hid (Below.refl _ _)⟩
  case round =>
    obtain ⟨i, hig, rfl, Hall, Hbel⟩ := hrel
    cases gk with
    | zero => exact (xName_room HT.out (fun j hj => Hall.out j (by omega))).elim
    | succ g =>
      have hsw := Hbel.out.size
      have hi : i ≤ 1048576 := by omega
      obtain ⟨nm, Hnm⟩ : ∃ nm, Hid (nm = xName i) := ⟨_, Lib.hid rfl⟩
      have hlen := Lib.itoa_length_le (i : Int) (by omega) (by omega)
      have ls1 : ¬ 9223372036854775807 < 1 + (Lib.itoa (i : Int)).length := by omega
      have hnl : nm.size ≤ 22 := by
        rw [Hnm.out]; unfold xName
        rw [ByteArray.size_append]
        have : (ByteArray.mk (Lib.itoa (i : Int)).toArray).size = (Lib.itoa (i : Int)).length := by show (Array.mk _).size = _; simp
        have h1 : (ByteArray.mk #[120]).size = 1 := rfl
        omega
      have hx : ({ data := #[120] } : ByteArray) ++ { data := (Lib.itoa (i : Int)).toArray } = nm := Hnm.out.symm
      have Hx := Lib.hid hx
      clear hlen hx
      go_wp2_with fail
      refine (Tryd.strconv_Itoa (i : Int) (by omega) (by omega) wr (var_keep Htab.out (Hbel.out))).mono ?_
      rintro E w1 ⟨rfl, k, os, hw1⟩
      have hb1 : Below wr.heap.size wr w1 := by rw [hw1]; exact Lib.below_grow _ _ (Nat.le_refl _) _ _
      have Hb1 := Lib.hid (Hbel.out.trans (hb1.mono hsw))
      have hs1 := Hb1.out.size
      clear hw1 hb1
      go_upto_region 4 with fail
      rw [Hx.out]
      have Hrow := Lib.hid (H.out.below stays_strs Hb1.out)
      obtain ⟨W2, HW2⟩ : ∃ W2, Hid (w1.alloc (Obj.cells #[Value.string nm] 9) = W2) := ⟨_, Lib.hid rfl⟩
      have HbW2 : Hid (Below w1.heap.size w1 W2) := Lib.hid (by rw [← HW2.out]; exact (Below.refl _ _).alloc (Nat.le_refl _) _)
      have hsz := HbW2.out.size
      have Hcap : Hid (CapS w1.heap.size nm W2) := Lib.hid (by rw [← HW2.out]; exact heap_alloc_new _ _)
      have cc := fun i => cell_block (show W2.heap[w1.heap.size]? = some (.cells #[.string nm] 9 (0, 0)) from Hcap.out) i
      obtain ⟨pb, Hpb⟩ : ∃ pb, Hid (L.any (fun m => Lib.containsS m nm) = pb) := ⟨_, Lib.hid rfl⟩
      rw [HW2.out]
      go_wp2_with fail
      refine (anyStrs_any (f := 43) (cap := .pointer (some ⟨w1.heap.size, 0, none⟩)) (Cap := CapS w1.heap.size nm) (p := fun m => Lib.containsS m nm) (OK := fun m => m.length ≤ 1073741824) (run_callFunc_body Tryd.func43 (by kernel_rfl) (by kernel_rfl)) (fun _ _ h hb => below_block hb h) (fun m y0 w' hm ho hc => cloFresh_any w1.heap.size nm m y0 w' hm ho hc) v L W2 (Hrow.out.below stays_strs HbW2.out) (by omega) Hm.out Hcap.out).mono ?_
      rintro E w3 ⟨rfl, hb3⟩
      rw [Hpb.out]
      have Hb3 := Lib.hid (Hb1.out.trans ((HbW2.out.trans (hb3.mono hsz)).mono hs1))
      have cc := fun i => cell_block (show w3.heap[w1.heap.size]? = some (.cells #[.string nm] 9 (0, 0)) from below_block hb3 Hcap.out) i
      clear hb3
      cases pb with
      | true =>
        have Hall2 : Hid (∀ j, j < i + 1 → ∃ m ∈ L, xName j ∈ m) := Lib.hid fun j hj => by
          rcases Nat.lt_or_ge j i with h | h
          · exact Hall.out j h
          · obtain rfl : j = i := by omega
            have h1 := Hpb.out
            rw [List.any_eq_true] at h1
            obtain ⟨m, hm, hc⟩ := h1
            exact ⟨m, hm, by rw [← Hnm.out]; exact (Lib.containsS_iff m nm).1 hc⟩
        go_wp2_with fail
        go_roundg g
        case measure => omega
        case rel => exact ⟨i + 1, by omega, by go_num, Hall2, Hb3⟩
      | false =>
        have Hfr : Hid (freshOf L nm) := Lib.hid (by
          rw [Hnm.out]
          refine xName_fresh fun m hm hx => ?_
          have h1 := Hpb.out
          rw [List.any_eq_false] at h1
          exact h1 m hm ((Lib.containsS_iff m nm).2 (by rw [Hnm.out]; exact hx)))
        go_wp2_with fail
        go_ret
        exact ⟨nm, rfl, Hfr.out, hnl, Hb3.out⟩
end Go.Proofs.YtkkfnihdnclgiaaDoor
