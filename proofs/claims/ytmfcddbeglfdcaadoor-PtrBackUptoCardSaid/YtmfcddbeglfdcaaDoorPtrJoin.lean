/- ptr: a step is escaped and read: the calls; Join: its contract. -/
import Derived.Test.YtmfcddbeglfdcaaDoorPtrPlain
import Derived.Test.YtmfcddbeglfdcaaDoorMaxOK
import Derived.Test.YtmfcddbeglfdcaaDoorRow
import Derived.Test.YtmfcddbeglfdcaaDoorOpen
import Derived.Test.YtmfcddbeglfdcaaDoorBytes
namespace Go.Proofs.YtmfcddbeglfdcaaDoor
open Go.RowKit

theorem esc_len (l : List UInt8) : (escS l).length ≤ 2 * l.length := by
  rw [escS_eq]
  induction l with
  | nil => simp
  | cons b l ih =>
    rw [List.flatMap_cons, List.length_append, List.length_cons]
    have : (escB b).length ≤ 2 := by unfold escB; split; · simp
                                     split <;> simp
    omega
def joinL (l : List ByteArray) : List UInt8 := l.flatMap fun s => 47 :: escS s.data.toList
theorem joinL_len (l : List ByteArray) : (joinL l).length ≤ 2 * total l := by
  induction l with
  | nil => simp [joinL]
  | cons s r ih =>
    have h1 := esc_len s.data.toList
    have h2 : s.data.toList.length = s.size := by simp
    unfold joinL at ih ⊢
    rw [List.flatMap_cons, List.length_append, List.length_cons]
    have h3 : total (s :: r) = s.size + 1 + total r := by simp [total]
    omega
set_option maxRecDepth 100000 in
set_option maxHeartbeats 800000 in
theorem ptrJoin_any (v : Value) (l : List ByteArray) (m : Int) (w : World) (h : StrAt w v l) (hl : total l ≤ 4194304) (hm : MaxOK m w) :
    Calls Tryd.prog 13 #[v] w fun e w' => e = .returned (if 10 < l.length then .tuple #[.string ⟨#[]⟩, .int .i64 2] else .tuple #[.string ⟨(joinL l).toArray⟩, .int .i64 0]) ∧ Below w.heap.size w w' := by
  have hll : l.length ≤ 4194304 := by have := total_length l; omega
  obtain ⟨a1, c1, rfl, hc1, hc2⟩ := h.row.len
  have H := Lib.hid h
  have Hm := Lib.hid hm
  have Hl := Lib.hid hl
  clear h hm hl
  by_cases h10 : 10 < l.length
  · rw [if_pos h10]
    have q0 : (10 : Int) < (l.length : Int) := by omega
    go_enter Tryd.func13, Tryd.ntmps13
    go_wp2_with fail
    go_ret2
    exact ⟨rfl, Below.refl _ _⟩
  · rw [if_neg h10]
    have q0 : ¬ (10 : Int) < (l.length : Int) := by omega
    go_enter Tryd.func13, Tryd.ntmps13
    go_wp2_with fail
    go_loopg [4, 12] l.length (fun k u4 u12 wr => ∃ i : Nat, i + k = l.length ∧ u12 = .int .i64 (i : Int) ∧ u4 = .string ⟨(joinL (l.take i)).toArray⟩ ∧ Hid (Below w.heap.size w wr))
    case atStart => exact ⟨0, by omega, rfl, rfl, Lib.hid (Below.refl _ _)⟩
    case round =>
      obtain ⟨i, hig, rfl, rfl, Hbel⟩ := hrel
      have hsr := Hbel.out.size
      cases gk with
      | zero =>
        obtain rfl : i = l.length := by omega
        have Ht : Hid (l.take l.length = l) := Lib.hid (List.take_of_length_le (Nat.le_refl _))
        rw [Ht.out]
        go_wp2_with fail
        go_ret2
        exact ⟨rfl, Hbel.out⟩
      | succ k =>
        have hil : i < l.length := by omega
        obtain ⟨x, hxi⟩ : ∃ x, l[i]? = some x := ⟨l[i]'(by omega), List.getElem?_eq_getElem _⟩
        obtain ⟨b, o, c', hv, _, _, hbs, hcell⟩ := H.out.row.form (by omega) (by omega)
        injection hv with u1 u2 u3
        subst u1
        clear u2 u3
        obtain ⟨ds, _, hcc, hR⟩ := hcell i x hxi
        have hR' : ds = [.string x] := hR
        subst hR'
        have e0 : wr.cell? ⟨b, o + i, none⟩ = some (.string x) := (Hbel.out.cell (p := ⟨b, _, none⟩) hbs).trans (by simpa using hcc 0 _ rfl)
        have q1 : (0 : Int) ≤ (i : Int) := by omega
        have q2 : (i : Int) < (l.length : Int) := by omega
        have hx1 := total_mem (List.mem_of_getElem? hxi)
        have hxs : x.size ≤ 4194304 := by have := Hl.out; omega
        have Hxi := Lib.hid hxi
        clear hcc hcell hxi hx1
        obtain ⟨J, HJ⟩ : ∃ J : ByteArray, Hid (⟨(joinL (l.take i)).toArray⟩ = J) := ⟨_, Lib.hid rfl⟩
        have hJ : J.size ≤ 8388608 := by
          rw [← HJ.out]
          have h1 := joinL_len (l.take i)
          have h2 : total (l.take i) ≤ total l := by
            unfold total
            rw [List.map_take]
            conv => rhs; rw [← List.take_append_drop i (l.map fun s => s.size + 1)]
            rw [List.sum_append]; omega
          have h3 := Hl.out
          show (joinL (l.take i)).toArray.size ≤ _
          rw [List.size_toArray]; omega
        rw [HJ.out]
        go_wp2_with fail
        refine (Tryd.strings_ReplaceAll x ⟨#[126]⟩ ⟨#[126, 48]⟩ m wr (by omega) (Hm.out.below Hbel.out) (by decide) (by
          have h1 := Lib.countB_le ⟨#[126]⟩ (by decide) x.size x (Nat.le_refl _)
          have h2 : (ByteArray.mk #[126, 48]).size = 2 := rfl
          rw [h2]; omega)).mono ?_
        rintro E w2 ⟨rfl, hb2⟩
        have Hb2 := Lib.hid (Hbel.out.trans (hb2.mono hsr))
        have hs2 := Hb2.out.size
        clear hb2
        obtain ⟨y, Hy⟩ : ∃ y : ByteArray, Hid ((⟨(Lib.replaceAll x.data.toList [126] [126, 48]).toArray⟩ : ByteArray) = y) := ⟨_, Lib.hid rfl⟩
        have hy0 : (⟨(Lib.replaceAll x.data.toList (⟨#[126]⟩ : ByteArray).data.toList (⟨#[126, 48]⟩ : ByteArray).data.toList).toArray⟩ : ByteArray) = y := Hy.out
        have hyd : y.data.toList = Lib.replaceAll x.data.toList [126] [126, 48] := by rw [← Hy.out]
        have hys : y.size ≤ 8388608 := by
          have h1 : y.data.toList.length = y.size := by simp
          rw [← h1, hyd, replaceAll_one (by decide)]
          have h2 : ∀ q : List UInt8, (q.flatMap fun b => if b = 126 then [126, 48] else [b]).length ≤ 2 * q.length := fun q => by
            induction q with
            | nil => simp
            | cons b q ih =>
              rw [List.flatMap_cons, List.length_append, List.length_cons]
              have : (if b = 126 then [126, 48] else [b] : List UInt8).length ≤ 2 := by split <;> simp
              omega
          have h3 := h2 x.data.toList
          have h4 : x.data.toList.length = x.size := by simp
          omega
        rw [hy0]
        have Hyd := Lib.hid hyd
        clear hy0 hyd
        go_wp2_with fail
        refine (Tryd.strings_ReplaceAll y ⟨#[47]⟩ ⟨#[126, 49]⟩ m w2 (by omega) (Hm.out.below Hb2.out) (by decide) (by
          have h1 := Lib.countB_le ⟨#[47]⟩ (by decide) y.size y (Nat.le_refl _)
          have h2 : (ByteArray.mk #[126, 49]).size = 2 := rfl
          rw [h2]; omega)).mono ?_
        rintro E w3 ⟨rfl, hb3⟩
        have Hb3 := Lib.hid (Hb2.out.trans (hb3.mono hs2))
        obtain ⟨z, Hz⟩ : ∃ z : ByteArray, Hid ((⟨(escS x.data.toList).toArray⟩ : ByteArray) = z) := ⟨_, Lib.hid rfl⟩
        have hz0 : (⟨(Lib.replaceAll y.data.toList (⟨#[47]⟩ : ByteArray).data.toList (⟨#[126, 49]⟩ : ByteArray).data.toList).toArray⟩ : ByteArray) = z := by rw [← Hz.out, Hyd.out]; rfl
        have hzs : z.size ≤ 8388608 := by
          rw [← Hz.out]
          have h1 := esc_len x.data.toList
          have h4 : x.data.toList.length = x.size := by simp
          show (escS x.data.toList).toArray.size ≤ _
          rw [List.size_toArray]; omega
        rw [hz0]
        have s1 : ¬ 9223372036854775807 < 1 + z.size := by omega
        have s2 : ¬ 9223372036854775807 < (⟨#[47]⟩ : ByteArray).size + z.size := by have : (ByteArray.mk #[47]).size = 1 := rfl; rw [this]; omega
        have s3 : ¬ 9223372036854775807 < J.size + (1 + z.size) := by omega
        have s4 : ¬ 9223372036854775807 < J.size + ((⟨#[47]⟩ : ByteArray) ++ z).size := by rw [ByteArray.size_append]; have : (ByteArray.mk #[47]).size = 1 := rfl; rw [this]; omega
        have Hnew : Hid (J ++ ((⟨#[47]⟩ : ByteArray) ++ z) = ⟨(joinL (l.take (i + 1))).toArray⟩) := Lib.hid (by
          rw [← HJ.out, ← Hz.out, List.take_add_one, Hxi.out]
          apply ByteArray.ext
          simp [joinL])
        clear hb3 hz0 e0
        go_wp2_with fail
        go_roundg k
        case measure => omega
        case rel => exact ⟨i + 1, by omega, by go_num, congrArg Value.string Hnew.out, Hb3⟩
end Go.Proofs.YtmfcddbeglfdcaaDoor
