/- The walk of seal.Mac. -/
import Derived.Test.YteadfpbkhledlaaSum
import Derived.Test.YteadfpbkhledlaaHold
import Derived.Lib.BufferWrite
import Derived.Lib.SlBuf
import Derived.Deep.DeepCutAuto
namespace Go.Proofs.Yteadfpbkhledlaa
open Go.RowKit

def pad64 (k : List UInt8) : List UInt8 := k ++ List.replicate (64 - k.length) 0
def macKey (k : List UInt8) : List UInt8 := if 64 < k.length then sumOf k else k
def xorAll (x : UInt8) (l : List UInt8) : List UInt8 := l.map (fun b => b ^^^ x)
def xorTo (x : UInt8) (l : List UInt8) (j : Nat) : List UInt8 := xorAll x (l.take j) ++ l.drop j
def macOf (k s : List UInt8) : List UInt8 := sumOf (xorAll 92 (pad64 (macKey k)) ++ sumOf (xorAll 54 (pad64 (macKey k)) ++ s))
theorem macKey_le (k : List UInt8) : (macKey k).length ≤ 64 := by
  unfold macKey
  split
  · rw [sumOf_length]; omega
  · omega
theorem pad64_length (k : List UInt8) (h : k.length ≤ 64) : (pad64 k).length = 64 := by simp [pad64]; omega
theorem xorAll_length (x : UInt8) (l : List UInt8) : (xorAll x l).length = l.length := by simp [xorAll]
theorem macOf_length (k s : List UInt8) : (macOf k s).length = 32 := sumOf_length _
theorem xorTo_length (x : UInt8) (l : List UInt8) (j : Nat) : (xorTo x l j).length = l.length := by simp [xorTo, xorAll]; omega
theorem xorTo_getD (x : UInt8) (l : List UInt8) (j : Nat) (h : j < l.length) : (xorTo x l j).getD j 0 = l.getD j 0 := by
  have h1 : (xorAll x (l.take j)).length = j := by simp [xorAll]; omega
  simp [xorTo, List.getD, List.getElem?_append_right (Nat.le_of_eq h1), h1]
theorem xorTo_set (x : UInt8) (l : List UInt8) (j : Nat) (h : j < l.length) : (xorTo x l j).set j (l.getD j 0 ^^^ x) = xorTo x l (j + 1) := by
  have h1 : (xorAll x (l.take j)).length = j := by simp [xorAll]; omega
  unfold xorTo
  rw [List.set_append_right _ _ (Nat.le_of_eq h1), h1, Nat.sub_self, List.drop_eq_getElem_cons h, List.set_cons_zero, List.take_succ_eq_append_getElem h]
  unfold xorAll
  rw [List.map_append, List.append_assoc]
  simp [List.getD, h]
theorem xorTo_all (x : UInt8) (l : List UInt8) (j : Nat) (h : l.length ≤ j) : xorTo x l j = xorAll x l := by
  simp [xorTo, List.take_of_length_le h, List.drop_eq_nil_of_le h]

/-- a block that holds these bytes -/
def Is8 (w : World) (g : Nat) (t : TypeId) (l : List UInt8) : Prop := w.heap[g]? = some (.cells (byteCells l).toArray t (0, 0))
section
variable {w w' : World} {g g' B : Nat} {t : TypeId} {l l' : List UInt8}
theorem byteCells_at (l : List UInt8) (j : Nat) (h : j < l.length) : (byteCells l).toArray[j]? = some (.int .u8 ((l.getD j 0).toNat : Int)) := by simp [byteCells, h]
theorem Is8.cell (h : Is8 w g t l) {j : Nat} (hj : j < l.length) : w.cell? ⟨g, j, none⟩ = some (.int .u8 ((l.getD j 0).toNat : Int)) := by
  rw [cell_of_row w g j _ t (0, 0) h, byteCells_at l j hj]
theorem Is8.frozen (h : Is8 w g t l) (j : Nat) : w.frozen? ⟨g, j, none⟩ = false := frozen_of_row w g j _ t h
theorem Is8.lt (h : Is8 w g t l) : g < w.heap.size := by
  rcases Nat.lt_or_ge g w.heap.size with h1 | h1
  · exact h1
  · unfold Is8 at h
    rw [Array.getElem?_eq_none h1] at h
    cases h
theorem Is8.drew (h : Is8 w g t l) : Is8 w.drew g t l := h
theorem Is8.alloc (h : Is8 w g t l) (o : Obj) : Is8 (w.alloc o) g t l := (Below.heap_alloc w o g h.lt).trans h
theorem Is8.set (h : Is8 w g t l) (j : Nat) (x : UInt8) : Is8 (w.setCell ⟨g, j, none⟩ (.int .u8 (x.toNat : Int))) g t (l.set j x) := by
  unfold Is8
  rw [heap_setCell_same w g j _ t _ h]
  simp [byteCells, List.map_set]
theorem Is8.far (h : Is8 w g t l) {p : Addr} (hp : g ≠ p.block) (x : Value) : Is8 (w.setCell p x) g t l := (heap_setCell_other w p g x hp).trans h
theorem Is8.below (h : Is8 w g t l) (hb : Below B w w') (hg : g < B) : Is8 w' g t l := (hb.block g hg).trans h
theorem Is8.row (h : Is8 w g t l) : Is8 (w.setRow g (byteCells l').toArray) g t l' := setRow_heap _ _ _ _ _ _ h
theorem Is8.rowFar {cs : Array Value} (h : Is8 w g t l) (hg : g ≠ g') : Is8 (w.setRow g' cs) g t l := (setRow_other w g' g cs hg).trans h
end
theorem pad_cells (n : Nat) (K : List UInt8) : (byteCells (List.replicate n 0)).toArray.toList.take 0 ++ byteCells K ++ (byteCells (List.replicate n 0)).toArray.toList.drop (0 + K.length) = byteCells (K ++ List.replicate (n - K.length) 0) := by
  simp [byteCells]
theorem byteCells_oneA (l : List UInt8) : (byteCells l).toArray.all (·.oneCell') = true := by
  rw [Array.all_eq_true_iff_forall_mem]
  intro x hx
  simp [byteCells] at hx
  obtain ⟨a, _, rfl⟩ := hx
  rfl
theorem Is8.conv {w : World} {g cap : Nat} {t : TypeId} {l : List UInt8} (h : Is8 w g t l) :
    (convert 83 9 (.slice (some ⟨g, 0, none⟩) l.length cap)).run Try.prog w = .ok (.string ⟨l.toArray⟩) w := by
  refine run_convert_bytes_back w 83 9 5 ⟨g, 0, none⟩ cap l Try.underlying83 Try.underlying5 Try.underlying9 (fun j hj => ?_)
  have h1 := h.cell hj
  have h2 : (⟨g, 0, none⟩ : Addr).add j = ⟨g, j, none⟩ := by unfold Addr.add; split <;> simp_all
  rw [h2]
  simpa [hj] using h1
theorem bits_xor8 (x y : UInt8) : bits .xor .u8 (x.toNat : Int) (y.toNat : Int) = ((x ^^^ y).toNat : Int) := by
  rw [u8_xor_nat _ _ x.toNat_lt y.toNat_lt, UInt8.toNat_xor]

set_option maxRecDepth 100000 in
set_option maxHeartbeats 1600000 in
theorem mac_any (k s : ByteArray) (w : World) (hk : k.size ≤ 1099510579200) (hs : s.size ≤ 1099510579100) :
    Calls Try.prog 17 #[.string k, .string s] w fun e w' => e = .returned (.string ⟨(macOf k.data.toList s.data.toList).toArray⟩) ∧ Below w.heap.size w w' := by
  go_enter Try.func17, Try.ntmps17
  go_upto_if 10 with fail
  go_cut [0] (fun v wx => v = .string ⟨(macKey k.data.toList).toArray⟩ ∧ Below w.heap.size w wx)
  case first =>
    have hkl := Lib.hid (show k.size = k.data.toList.length by simp)
    by_cases h64 : 64 < k.size
    · have h1 : (64 : Int) < (k.size : Int) := by omega
      go_wp2_with (go_at_call 16; refine (sum_any k _ hk).mono ?_; rintro e w2 ⟨rfl, hb2⟩)
      go_meet
      exact ⟨by unfold macKey; rw [if_pos (by rw [← hkl.out]; exact h64)], hb2⟩
    · have h1 : ¬ (64 : Int) < (k.size : Int) := by omega
      go_wp2_with fail
      go_meet
      exact ⟨by unfold macKey; rw [if_neg (by rw [← hkl.out]; exact h64)], Below.refl _ _⟩
  case rest =>
    obtain ⟨rfl, hbc⟩ := hcut
    have hml := macKey_le k.data.toList
    obtain ⟨K, HK⟩ : ∃ K : ByteArray, Hid (K = ⟨(macKey k.data.toList).toArray⟩) := ⟨_, Lib.hid rfl⟩
    have hKs : K.size ≤ 64 := by rw [HK.out, size_mk]; exact hml
    have HKd : Hid (K.data.toList = macKey k.data.toList) := by show _ = _; rw [HK.out]
    rw [← HK.out]
    clear hml HK
    have hcp := Lib.run_copy_row_string (P := Try.prog) ((wc.alloc (.cells (byteCells (List.replicate 64 0)).toArray 87)).alloc (.cells (byteCells (List.replicate 64 0)).toArray 87)) 83 9 3 5 wc.heap.size 0 64 64 K (byteCells (List.replicate 64 0)).toArray 87 Try.underlying83 (by kernel_rfl) (Is8.alloc (heap_alloc_new wc _) _) hKs (by simp [byteCells]; omega)
    have hE : ((byteCells (List.replicate 64 0)).toArray.toList.take 0 ++ Lib.byteCells K.data.toList ++ (byteCells (List.replicate 64 0)).toArray.toList.drop (0 + K.size)) = byteCells (pad64 K.data.toList) := by
      have hKl : K.size = K.data.toList.length := by simp
      rw [hKl]
      exact pad_cells 64 K.data.toList
    rw [hE] at hcp
    clear hE
    go_upto_region 4 with fail
    go_step
    go_step
    go_step
    go_step
    go_step
    go_step
    go_step
    refine Lib.wpList_copy_run _ rfl _ _ 83 9 rfl _ _ rfl rfl hcp ?_
    have hb1 := hbc.alloc hbc.size (.cells (byteCells (List.replicate 64 0)).toArray 87)
    have hb2 := hb1.alloc hb1.size (.cells (byteCells (List.replicate 64 0)).toArray 87)
    have hb3 := below_setRow hb2 (g := wc.heap.size) hbc.size (byteCells (pad64 K.data.toList)).toArray
    have hin0 : Is8 ((wc.alloc (.cells (byteCells (List.replicate 64 0)).toArray 87)).alloc (.cells (byteCells (List.replicate 64 0)).toArray 87)) wc.heap.size 87 (List.replicate 64 0) := Is8.alloc (heap_alloc_new wc _) _
    have hin := Is8.row (l' := pad64 K.data.toList) hin0
    have hout0 : Is8 ((wc.alloc (.cells (byteCells (List.replicate 64 0)).toArray 87)).alloc (.cells (byteCells (List.replicate 64 0)).toArray 87)) (wc.heap.size + 1) 87 (List.replicate 64 0) := by
      have := heap_alloc_new (wc.alloc (.cells (byteCells (List.replicate 64 0)).toArray 87)) (.cells (byteCells (List.replicate 64 0)).toArray 87)
      rw [World.size_alloc] at this
      exact this
    have hout := Is8.rowFar (g' := wc.heap.size) (cs := (byteCells (pad64 K.data.toList)).toArray) hout0 (by omega)
    have hsz : w.heap.size ≤ wc.heap.size := hbc.size
    clear hb1 hb2 hin0 hout0 hcp
    generalize ((wc.alloc (.cells (byteCells (List.replicate 64 0)).toArray 87)).alloc (.cells (byteCells (List.replicate 64 0)).toArray 87)).setRow wc.heap.size (byteCells (pad64 K.data.toList)).toArray = W1 at *
    have hpl : (pad64 K.data.toList).length = 64 := pad64_length _ (by rw [HKd.out]; exact macKey_le _)
    generalize hgw : wc.heap.size = g at *
    clear hgw
    go_wp2_with (first | (refine wpList_load_row (by rfl) 87 _ (by rfl) g (by rfl) 87 (byteCells (pad64 K.data.toList)).toArray (0, 0) _ hin Try.underlying87 rfl (by rw [List.size_toArray, byteCells_length, hpl]; exact Try.size64) ?_) | (refine wpList_store_row (by rfl) _ _ _ (by rfl) (g + 1) (byteCells (pad64 K.data.toList)).toArray (by rfl) (by rfl) 87 _ hout (by rw [List.size_toArray, byteCells_length, hpl]; exact Try.size64) (by rw [List.size_toArray, List.size_toArray, byteCells_length, byteCells_length, hpl, List.length_replicate]) (byteCells_oneA _) ?_))
    have hb4 := below_setRow hb3 (g := g + 1) (by omega) (byteCells (pad64 K.data.toList)).toArray
    have jin := Is8.rowFar (g' := g + 1) (cs := (byteCells (pad64 K.data.toList)).toArray) hin (by omega)
    have jout := Is8.row (l' := pad64 K.data.toList) hout
    clear hb3 hin hout
    generalize W1.setRow (g + 1) (byteCells (pad64 K.data.toList)).toArray = W2 at *
    generalize hPe : pad64 K.data.toList = P at *
    have HP := Lib.hid hPe
    have HPl := Lib.hid hpl
    clear hPe hpl
    go_loopg [17] 64 (fun n i wr => ∃ j : Nat, j + n = 64 ∧ i = .int .i64 (j : Int) ∧ Below w.heap.size w wr ∧ Is8 wr g 87 (xorTo 54 P j) ∧ Is8 wr (g + 1) 87 (xorTo 92 P j))
    case atStart => exact ⟨0, rfl, rfl, hb4, jin, jout⟩
    case round =>
      clear hb4 jin jout
      obtain ⟨j, hj, rfl, hb, hin, hout⟩ := hrel
      cases gk with
      | zero =>
        obtain rfl : j = 64 := by omega
        rw [xorTo_all _ _ _ (by rw [HPl.out]; omega)] at hin hout
        go_wp2_with fail
        refine wp_region_hold 9 (fun w' => Below w.heap.size w w' ∧ Is8 w' g 87 (xorAll 54 P) ∧ Is8 w' (g + 1) 87 (xorAll 92 P)) (by kernel_rfl) (by kernel_rfl) ?_ ?_
        · exact ⟨hb.drew, hin.drew, hout.drew⟩
        have hA : (xorAll 54 P).length = 64 := by rw [xorAll_length, HPl.out]
        have hB : (xorAll 92 P).length = 64 := by rw [xorAll_length, HPl.out]
        clear hb hin hout
        simp only [List.take_succ_cons, List.take_zero, List.drop_succ_cons, List.drop_zero]
        (first | (refine wpHold_pure (v := ?_) (by rfl) (fun w => ?_) ?_; rotate_left; focus (first | (go_simp; done) | (go_simp; with_reducible rfl))) | (refine wpHold_skip ?_ ?_; focus (go_simp; done)) | (refine wpHold_pure' (v := ?_) ?_ (fun w => ?_) ?_; rotate_left; focus (go_simp; done); focus (first | (go_simp; done) | (go_simp; with_reducible rfl)))); try simp only [Act.put, List.setIfInBounds_toArray, List.set_cons_zero, List.set_cons_succ]
        refine wpHold_read (v := .string ⟨(xorAll 92 P).toArray⟩) (by rfl) (fun w' hI => ?_) ?_
        · have hcv := hI.2.2.conv (cap := 64)
          rw [hB] at hcv
          go_simp
          done
        try simp only [Act.put, List.setIfInBounds_toArray, List.set_cons_zero, List.set_cons_succ]
        (first | (refine wpHold_pure (v := ?_) (by rfl) (fun w => ?_) ?_; rotate_left; focus (first | (go_simp; done) | (go_simp; with_reducible rfl))) | (refine wpHold_skip ?_ ?_; focus (go_simp; done)) | (refine wpHold_pure' (v := ?_) ?_ (fun w => ?_) ?_; rotate_left; focus (go_simp; done); focus (first | (go_simp; done) | (go_simp; with_reducible rfl)))); try simp only [Act.put, List.setIfInBounds_toArray, List.set_cons_zero, List.set_cons_succ]
        refine wpHold_read (v := .string ⟨(xorAll 54 P).toArray⟩) (by rfl) (fun w' hI => ?_) ?_
        · have hcv := hI.2.1.conv (cap := 64)
          rw [hA] at hcv
          go_simp
          done
        try simp only [Act.put, List.setIfInBounds_toArray, List.set_cons_zero, List.set_cons_succ]
        (first | (refine wpHold_pure (v := ?_) (by rfl) (fun w => ?_) ?_; rotate_left; focus (first | (go_simp; done) | (go_simp; with_reducible rfl))) | (refine wpHold_skip ?_ ?_; focus (go_simp; done)) | (refine wpHold_pure' (v := ?_) ?_ (fun w => ?_) ?_; rotate_left; focus (go_simp; done); focus (first | (go_simp; done) | (go_simp; with_reducible rfl)))); try simp only [Act.put, List.setIfInBounds_toArray, List.set_cons_zero, List.set_cons_succ]
        have ls1 : ¬ 9223372036854775807 < 64 + s.size := by omega
        (first | (refine wpHold_pure (v := ?_) (by rfl) (fun w => ?_) ?_; rotate_left; focus (first | (go_simp; done) | (go_simp; with_reducible rfl))) | (refine wpHold_skip ?_ ?_; focus (go_simp; done)) | (refine wpHold_pure' (v := ?_) ?_ (fun w => ?_) ?_; rotate_left; focus (go_simp; done); focus (first | (go_simp; done) | (go_simp; with_reducible rfl)))); try simp only [Act.put, List.setIfInBounds_toArray, List.set_cons_zero, List.set_cons_succ]
        have dA : (({ data := (xorAll 54 P).toArray } : ByteArray) ++ s).data.toList = xorAll 54 P ++ s.data.toList := by simp
        have sA : (({ data := (xorAll 54 P).toArray } : ByteArray) ++ s).size ≤ 1099510579200 := by rw [ByteArray.size_append, size_mk, hA]; omega
        refine wpHold_call (v := .string ⟨(sumOf (xorAll 54 P ++ s.data.toList)).toArray⟩) (f := 16) (args := #[.string (({ data := (xorAll 54 P).toArray } : ByteArray) ++ s)]) (by rfl) (fun w => ?_) (fun w' hI => ?_) ?_
        · go_simp
          done
        · refine (sum_any _ w' sA).mono ?_
          rintro e w2 ⟨rfl, hb2⟩
          rw [dA]
          exact ⟨rfl, hI.1.trans (hb2.mono hI.1.size), hI.2.1.below hb2 hI.2.1.lt, hI.2.2.below hb2 hI.2.2.lt⟩
        try simp only [Act.put, List.setIfInBounds_toArray, List.set_cons_zero, List.set_cons_succ]
        clear dA sA ls1
        generalize hE : sumOf (xorAll 54 P ++ s.data.toList) = E
        have hEl : E.length = 32 := by rw [← hE, sumOf_length]
        have ls2 : ¬ 9223372036854775807 < 64 + E.length := by omega
        (first | (refine wpHold_pure (v := ?_) (by rfl) (fun w => ?_) ?_; rotate_left; focus (first | (go_simp; done) | (go_simp; with_reducible rfl))) | (refine wpHold_skip ?_ ?_; focus (go_simp; done)) | (refine wpHold_pure' (v := ?_) ?_ (fun w => ?_) ?_; rotate_left; focus (go_simp; done); focus (first | (go_simp; done) | (go_simp; with_reducible rfl)))); try simp only [Act.put, List.setIfInBounds_toArray, List.set_cons_zero, List.set_cons_succ]
        have dB : (({ data := (xorAll 92 P).toArray } : ByteArray) ++ { data := E.toArray }).data.toList = xorAll 92 P ++ E := by simp
        have sB : (({ data := (xorAll 92 P).toArray } : ByteArray) ++ { data := E.toArray }).size ≤ 1099510579200 := by rw [ByteArray.size_append, size_mk, size_mk, hB, hEl]; omega
        refine wpHold_call (v := .string ⟨(macOf k.data.toList s.data.toList).toArray⟩) (f := 16) (args := #[.string (({ data := (xorAll 92 P).toArray } : ByteArray) ++ { data := E.toArray })]) (by rfl) (fun w => ?_) (fun w' hI => ?_) ?_
        · go_simp
          done
        · refine (sum_any _ w' sB).mono ?_
          rintro e w2 ⟨rfl, hb2⟩
          rw [dB]
          refine ⟨?_, hI.1.trans (hb2.mono hI.1.size), hI.2.1.below hb2 hI.2.1.lt, hI.2.2.below hb2 hI.2.2.lt⟩
          unfold macOf
          rw [← HKd.out, HP.out, hE]
        try simp only [Act.put, List.setIfInBounds_toArray, List.set_cons_zero, List.set_cons_succ]
        clear dB sB ls2 hE hEl
        refine wpHold_nil ?_
        rintro w' ⟨hb, _, _⟩
        go_wp2_with fail
        go_ret
        exact ⟨rfl, hb⟩
      | succ n =>
        have q0 : (0 : Int) ≤ (j : Int) := by omega
        have q1 : (j : Int) < 64 := by omega
        have hjP : j < P.length := by rw [HPl.out]; omega
        have e0 := hin.cell (j := j) (by rw [xorTo_length]; exact hjP)
        have e1 := hout.cell (j := j) (by rw [xorTo_length]; exact hjP)
        rw [xorTo_getD _ _ _ hjP] at e0 e1
        have f0 := hin.frozen j
        have f1 := hout.frozen j
        obtain ⟨b, Hbj⟩ : ∃ b : UInt8, Hid (P.getD j 0 = b) := ⟨_, Lib.hid rfl⟩
        rw [Hbj.out] at e0 e1
        have z0 : bits .xor .u8 (b.toNat : Int) 54 = ((b ^^^ 54).toNat : Int) := bits_xor8 b 54
        have z1 : bits .xor .u8 (b.toNat : Int) 92 = ((b ^^^ 92).toNat : Int) := bits_xor8 b 92
        go_wp2_with fail
        have k0 := (hin.set j (b ^^^ 54)).far (p := ⟨g + 1, j, none⟩) (by show g ≠ g + 1; omega) (.int .u8 ((b ^^^ 92).toNat : Int))
        have k1 := (hout.far (p := ⟨g, j, none⟩) (by show g + 1 ≠ g; omega) (.int .u8 ((b ^^^ 54).toNat : Int))).set j (b ^^^ 92)
        rw [← Hbj.out, xorTo_set _ _ _ hjP, Hbj.out] at k0 k1
        have hb' := (hb.setCell (p := ⟨g, j, none⟩) (by show w.heap.size ≤ g; omega) (.int .u8 ((b ^^^ 54).toNat : Int))).setCell (p := ⟨g + 1, j, none⟩) (by show w.heap.size ≤ g + 1; omega) (.int .u8 ((b ^^^ 92).toNat : Int))
        clear z0 z1 e0 e1 f0 f1
        go_roundg n
        case measure => omega
        case rel => exact ⟨j + 1, by omega, rfl, hb', k0, k1⟩
end Go.Proofs.Yteadfpbkhledlaa
