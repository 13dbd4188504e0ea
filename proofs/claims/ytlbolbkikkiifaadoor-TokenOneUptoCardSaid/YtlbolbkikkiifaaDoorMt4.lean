/- Texts of ours joined: Token, Token2, EqStr, TokenSame, TokenBackWalk, TokenOneWalk. -/
import Derived.Lib.AppendIntMem
import Derived.Lib.ItoaLen
import Derived.Deep.LoopGhost
import Derived.IntWalk
import Derived.Test.YtlbolbkikkiifaaDoorMt3
set_option linter.unusedVariables false
set_option linter.unusedSimpArgs false
/- token: Issue and Check: their contracts. -/
namespace Go.Proofs.YtlbolbkikkiifaaDoor
open Go.RowKit
open JP (Bs)

theorem bytes_empty (s : ByteArray) : s.toList.isEmpty = decide (s.size = 0) := by
  rw [ByteArray.toList_eq]
  have hl : s.data.toList.length = s.size := by simp
  by_cases h : s.size = 0
  · have h1 : s.data.toList = [] := List.eq_nil_of_length_eq_zero (by rw [hl]; exact h)
    rw [h1, decide_eq_true h]; rfl
  · rw [decide_eq_false h]
    cases hd : s.data.toList with
    | nil => rw [hd] at hl; exact absurd hl.symm h
    | cons x r => rfl
set_option maxRecDepth 100000 in
theorem isTime_any (n : Int) (w : World) : Calls Tryd.prog 46 #[.int .i64 n] w fun e w' => e = .returned (.bool (TokP.isTime n)) ∧ w = w' := by
  by_cases h0 : 0 ≤ n
  · by_cases h1 : n ≤ 1099511627776
    · have H : Hid (TokP.isTime n = true) := Lib.hid (by unfold TokP.isTime; simp [h0, h1])
      rw [H.out]
      go_enter Tryd.func46, Tryd.ntmps46
      go_wp2_with fail
      go_ret
      exact ⟨rfl, rfl⟩
    · have H : Hid (TokP.isTime n = false) := Lib.hid (by unfold TokP.isTime; simp [h1])
      rw [H.out]
      go_enter Tryd.func46, Tryd.ntmps46
      go_wp2_with fail
      go_ret
      exact ⟨rfl, rfl⟩
  · have H : Hid (TokP.isTime n = false) := Lib.hid (by unfold TokP.isTime; simp [h0])
    rw [H.out]
    go_enter Tryd.func46, Tryd.ntmps46
    go_wp2_with fail
    go_ret
    exact ⟨rfl, rfl⟩
set_option maxRecDepth 100000 in
theorem isKey_any (s : ByteArray) (w : World) : Calls Tryd.prog 45 #[.string s] w fun e w' => e = .returned (.bool (TokP.isKey s.data.toList)) ∧ w = w' := by
  have hl := list_size s
  have q := bytes_empty s
  by_cases h0 : s.size = 0
  · have H : Hid (TokP.isKey s.data.toList = false) := Lib.hid (by unfold TokP.isKey; rw [hl]; simp [h0])
    rw [H.out]
    rw [h0, decide_eq_true rfl] at q
    clear hl h0
    go_enter Tryd.func45, Tryd.ntmps45
    go_wp2_with fail
    go_ret
    exact ⟨rfl, rfl⟩
  · rw [decide_eq_false h0] at q
    by_cases h1 : s.size ≤ 64
    · have H : Hid (TokP.isKey s.data.toList = true) := Lib.hid (by unfold TokP.isKey; rw [hl]; simp [h1]; omega)
      rw [H.out]
      have h2 : (s.size : Int) ≤ 64 := by omega
      clear hl h0
      go_enter Tryd.func45, Tryd.ntmps45
      go_wp2_with fail
      go_ret
      exact ⟨rfl, rfl⟩
    · have H : Hid (TokP.isKey s.data.toList = false) := Lib.hid (by unfold TokP.isKey; rw [hl]; simp [h1])
      rw [H.out]
      have h2 : ¬ (s.size : Int) ≤ 64 := by omega
      clear hl h0
      go_enter Tryd.func45, Tryd.ntmps45
      go_wp2_with fail
      go_ret
      exact ⟨rfl, rfl⟩
theorem mkB_toList (l : Bs) : (mkB l).toList = l := by rw [ByteArray.toList_eq, mkB_list]
theorem owns_map (u : GUser) : u.groups.map (·.data.toList) = TokP.ownB u := rfl
theorem itoa_any (n : Int) (w : World) (b1 : -9223372036854775808 ≤ n) (b2 : n ≤ 9223372036854775807) (ht : TabOK w) : Calls Tryd.prog 42 #[.int .i64 n] w fun e w' => e = .returned (.string (mkB (Lib.itoa n))) ∧ Below w.heap.size w w' := by
  refine (Tryd.strconv_Itoa n b1 b2 w ht).mono ?_
  rintro e w' ⟨rfl, k, os, rfl⟩
  exact ⟨rfl, Lib.below_grow _ _ (Nat.le_refl _) _ _⟩
theorem block_lt {w : World} {g : Nat} {o : Obj} (h : w.heap[g]? = some o) : g < w.heap.size := by
  rcases Nat.lt_or_ge g w.heap.size with h1 | h1
  · exact h1
  · rw [Array.getElem?_eq_none h1] at h; cases h
def sizeU (u : GUser) : Nat := u.name.size + (Lib.join (TokP.ownB u) [44]).length
theorem join_small {l : List Bs} {c : UInt8} {k : Nat} (h : ∀ q ∈ l, q.length ≤ k) : (Lib.join l [c]).length ≤ l.length * (k + 1) := by
  cases l with
  | nil => simp [Lib.join, List.intercalate]
  | cons p r =>
    rw [join_flat, List.length_append, List.length_cons]
    have h1 := h p (List.mem_cons_self ..)
    have h2 : ∀ r : List Bs, (∀ q ∈ r, q.length ≤ k) → (r.flatMap fun q => c :: q).length ≤ r.length * (k + 1) := by
      intro r hr
      induction r with
      | nil => simp
      | cons q r ih =>
        rw [List.flatMap_cons, List.length_append, List.length_cons, List.length_cons]
        have a := hr q (List.mem_cons_self ..)
        have b := ih fun x hx => hr x (List.mem_cons_of_mem _ hx)
        rw [Nat.add_mul, Nat.one_mul]
        omega
    have h3 := h2 r fun q hq => h q (List.mem_cons_of_mem _ hq)
    rw [Nat.add_mul, Nat.one_mul]
    omega
theorem user_join {u : GUser} (h : userC u = 0) : (Lib.join (TokP.ownB u) [44]).length ≤ 126 := by
  obtain ⟨_, _, h6, h7⟩ := TokP.user_parts h
  have h8 : (Lib.join (TokP.ownB u) [44]).length ≤ (TokP.ownB u).length * (20 + 1) := join_small fun q hq => by
    obtain ⟨g, hg, rfl⟩ := List.mem_map.1 hq
    have := (h7 g hg).2
    rw [list_size]; exact this
  have h9 : (TokP.ownB u).length = u.groups.length := List.length_map ..
  rw [h9] at h8
  omega
def IssAt (k : Bs) (u : GUser) (n : Int) (w : World) (e : Ending) (w' : World) : Prop := e = .returned (.tuple #[.string (mkB (TokP.issueT k u n)), .int .i64 (TokP.issueE k u n)]) ∧ Below w.heap.size w w'
set_option maxRecDepth 100000 in
set_option maxHeartbeats 6400000 in
theorem issue_any (key : ByteArray) (u : GUser) (y1 : Value) (n : Int) (w : World) (h : UserR w [.string u.name, y1] u) (hn : u.name.size ≤ 1048576) (hok : okS u.groups) (b1 : -9223372036854775808 ≤ n) (b2 : n ≤ 9223372036854775807) (hk : key.size ≤ 1048576) (ht : TabOK w) :
    Calls Tryd.prog 19 #[.string key, .agg #[.string u.name, y1], .int .i64 n] w (IssAt key.data.toList u n w) := by
  have hst := stays_user
  obtain ⟨v1, hcs, s1⟩ := h
  simp only [List.cons.injEq, and_true, true_and] at hcs
  obtain rfl := hcs
  have hrow := s1.row
  obtain ⟨a1, c1, rfl, _, _⟩ := hrow.len
  obtain ⟨W, hW⟩ : ∃ W, W = w.alloc (.cells #[.string u.name, .slice a1 u.groups.length c1] 28) := ⟨_, rfl⟩
  have bW : W.heap[w.heap.size]? = some (.cells #[.string u.name, .slice a1 u.groups.length c1] 28 (0, 0)) := by rw [hW]; exact heap_alloc_new w _
  have hb1 : Below w.heap.size w W := by rw [hW]; exact (Below.refl _ w).alloc (Nat.le_refl _) _
  obtain ⟨g, hg⟩ : ∃ g, g = w.heap.size := ⟨_, rfl⟩
  rw [← hg] at bW
  have hlt : g < W.heap.size := block_lt bW
  have hgs : w.heap.size ≤ W.heap.size := hb1.size
  have cc := fun i => cell_block bW i
  have sW := s1.below hb1
  have HK := Lib.hid (isKey_any key W)
  have HU := Lib.hid (user_any (.slice a1 u.groups.length c1) u W ⟨_, rfl, sW⟩ hn hok)
  have HT := Lib.hid (fun (w' : World) => isTime_any n w')
  have HB1 := Lib.hid hb1
  obtain ⟨ng, hng⟩ : ∃ m, u.groups.length = m := ⟨_, rfl⟩
  have hE : TokP.issueE key.data.toList u n = if TokP.isKey key.data.toList = true then (if userC u = 0 then (if TokP.isTime n = true then 0 else 1) else userC u) else 1 := rfl
  have hT : TokP.issueT key.data.toList u n = if TokP.issueE key.data.toList u n = 0 then TokP.base u n ++ HexP.hexl (macOf key.data.toList (TokP.base u n)) else [] := rfl
  obtain ⟨E0, hE0⟩ : ∃ E, TokP.issueE key.data.toList u n = E := ⟨_, rfl⟩
  obtain ⟨T0, hT0⟩ : ∃ E, TokP.issueT key.data.toList u n = E := ⟨_, rfl⟩
  unfold IssAt
  rw [hE0] at hE hT ⊢
  rw [hT0] at hT ⊢
  have HEE := Lib.hid hE
  have HTT := Lib.hid hT
  obtain ⟨K, hK⟩ : ∃ K, TokP.isKey key.data.toList = K := ⟨_, rfl⟩
  obtain ⟨C, hC⟩ : ∃ K, userC u = K := ⟨_, rfl⟩
  obtain ⟨M, hM⟩ : ∃ K, TokP.isTime n = K := ⟨_, rfl⟩
  rw [hK, hC, hM] at HEE
  rw [hK] at HK
  rw [hC] at HU
  rw [hM] at HT
  rw [hng] at HU cc hW ⊢
  clear hE hT hE0 hT0
  cases K with
  | false =>
    have HE1 : Hid (E0 = 1) := Lib.hid (by rw [HEE.out]; rfl)
    have HT1 : Hid (T0 = []) := Lib.hid (by rw [HTT.out, HE1.out]; rfl)
    clear HEE HTT HU HT hb1 bW sW s1 hrow hC hM hK hng
    go_enter Tryd.func19, Tryd.ntmps19
    go_upto_region 1 with fail
    rw [← hW, ← hg]
    clear hW hg
    go_wp2_with fail
    refine HK.out.mono ?_
    rintro E w1 ⟨rfl, rfl⟩
    clear HK
    go_wp2_with fail
    go_ret2
    exact ⟨by rw [HE1.out, HT1.out] <;> rfl, HB1.out⟩
  | true =>
    clear bW hb1 sW
    go_enter Tryd.func19, Tryd.ntmps19
    go_upto_region 1 with fail
    rw [← hW, ← hg]
    clear hW hg
    go_wp2_with fail
    refine HK.out.mono ?_
    rintro E w1 ⟨rfl, rfl⟩
    clear HK
    go_wp2_with fail
    refine HU.out.mono ?_
    rintro E w2 ⟨rfl, hb2⟩
    have HB2 := Lib.hid (HB1.out.trans (hb2.mono hgs))
    have HW2 := Lib.hid hb2
    clear hb2 HU
    by_cases hC0 : C = 0
    · subst hC0
      go_wp2_with fail
      refine (HT.out w2).mono ?_
      rintro E w3 ⟨rfl, rfl⟩
      clear HT
      cases M with
      | false =>
        have HE1 : Hid (E0 = 1) := Lib.hid (by rw [HEE.out]; rfl)
        have HT1 : Hid (T0 = []) := Lib.hid (by rw [HTT.out, HE1.out]; rfl)
        clear HEE HTT
        go_wp2_with fail
        go_ret2
        exact ⟨by rw [HE1.out, HT1.out] <;> rfl, HB2.out⟩
      | true =>
        have HE1 : Hid (E0 = 0) := Lib.hid (by rw [HEE.out]; rfl)
        have HT1 : Hid (T0 = TokP.base u n ++ HexP.hexl (macOf key.data.toList (TokP.base u n))) := Lib.hid (by rw [HTT.out, HE1.out]; rfl)
        have hjl := user_join hC
        have hnl := (TokP.user_parts hC).2.1
        have hil := Lib.itoa_length_le n b1 b2
        obtain ⟨J, hJ⟩ : ∃ J, mkB (Lib.join (TokP.ownB u) [44]) = J := ⟨_, rfl⟩
        obtain ⟨I, hI⟩ : ∃ I, mkB (Lib.itoa n) = I := ⟨_, rfl⟩
        have hJs : J.size ≤ 126 := by rw [← hJ, mkB_size]; exact hjl
        have hIs : I.size ≤ 21 := by rw [← hI, mkB_size]; exact hil
        have hbase : (u.name ++ ⟨#[46]⟩ ++ J ++ ⟨#[46]⟩ ++ I ++ ⟨#[46]⟩ : ByteArray) = mkB (TokP.base u n) := by
          refine toList_inj ?_
          rw [mkB_toList, ByteArray.toList_eq, ← hJ, ← hI]
          simp [TokP.base, mkB_list]
        obtain ⟨S, hS⟩ : ∃ S, (u.name ++ ⟨#[46]⟩ ++ J ++ ⟨#[46]⟩ ++ I ++ ⟨#[46]⟩ : ByteArray) = S := ⟨_, rfl⟩
        have hSb : S = mkB (TokP.base u n) := by rw [← hS, hbase]
        have hSs : S.size ≤ 1000 := by
          rw [← hS]
          simp only [ByteArray.size_append]
          show u.name.size + 1 + J.size + 1 + I.size + 1 ≤ 1000
          omega
        have HJo := Lib.hid (fun (w' : World) (hb : Below W.heap.size W w') => joinC_any 44 ((s1.below (HB1.out)).row.below stays_string hb) (by have := (TokP.user_parts hC).2.2.1; omega) (by rw [owns_map]; omega))
        rw [owns_map, hJ] at HJo
        rw [hng] at HJo
        have HIo := Lib.hid (fun (w' : World) (hb : Below W.heap.size W w') => itoa_any n w' b1 b2 (ht.below (HB1.out.trans (hb.mono hgs))))
        rw [hI] at HIo
        have HMac := Lib.hid (fun (w' : World) => mac_any key S w' (by omega) (by omega))
        have hSd : S.data.toList = TokP.base u n := by rw [hSb, mkB_list]
        rw [hSd] at HMac
        obtain ⟨MC, hMC⟩ : ∃ m, macOf key.data.toList (TokP.base u n) = m := ⟨_, rfl⟩
        have hMl : MC.length = 32 := by rw [← hMC]; exact macOf_length _ _
        have HHex := Lib.hid (fun (w' : World) => hex_any ⟨MC.toArray⟩ w' (by show MC.toArray.size ≤ _; rw [List.size_toArray]; omega))
        rw [hMC] at HT1 HMac
        have hmd : (⟨MC.toArray⟩ : ByteArray).data.toList = MC := by simp
        rw [hmd] at HHex
        obtain ⟨X, hX⟩ : ∃ x : ByteArray, (⟨(HexP.hexl MC).toArray⟩ : ByteArray) = x := ⟨_, rfl⟩
        have hXs : X.size = 64 := by rw [← hX]; show (HexP.hexl MC).toArray.size = _; rw [List.size_toArray, HexP.hexl_length, hMl]
        have HFin : Hid (S ++ X = mkB T0) := Lib.hid (by
          refine toList_inj ?_
          rw [mkB_toList, ByteArray.toList_eq, HT1.out, hSb, ← hX]
          simp [mkB_list])
        rw [hX] at HHex
        have p1 : ¬ 9223372036854775807 < u.name.size + 1 := by omega
        have p2 : ¬ 9223372036854775807 < u.name.size + 1 + J.size := by omega
        have p3 : ¬ 9223372036854775807 < u.name.size + 1 + J.size + 1 := by omega
        have p4 : ¬ 9223372036854775807 < u.name.size + 1 + J.size + 1 + I.size := by omega
        have p5 : ¬ 9223372036854775807 < u.name.size + 1 + J.size + 1 + I.size + 1 := by omega
        have p6 : ¬ 9223372036854775807 < S.size + X.size := by omega
        have HSS := Lib.hid hS
        clear HEE HTT hbase hSb hS hSd hSs hJ hI hJs hIs hjl hnl hil hMC hMl hmd hX hXs hok s1 hrow hn hk ht hst hng hC hM hK
        go_upto_region 8 with fail
        refine wp_region_hold 10 (fun w' => Below W.heap.size W w') (by kernel_rfl) (by kernel_rfl) ?_ ?_
        · exact HW2.out.drew
        simp only [List.take_succ_cons, List.take_zero, List.drop_succ_cons, List.drop_zero]
        (first | (refine wpHold_pure (v := ?_) (by rfl) (fun w => ?_) ?_; rotate_left; focus (first | (go_simp; done) | (go_simp; with_reducible rfl))) | (refine wpHold_skip ?_ ?_; focus (go_simp; done)) | (refine wpHold_pure' (v := ?_) ?_ (fun w => ?_) ?_; rotate_left; focus (go_simp; done); focus (first | (go_simp; done) | (go_simp; with_reducible rfl)))); try simp only [Act.put, List.setIfInBounds_toArray, List.set_cons_zero, List.set_cons_succ]
        refine wpHold_read (v := .string u.name) (by rfl) (fun w' hI => ?_) ?_
        · have dd := fun i => (hI.cell (p := ⟨g, i, none⟩) hlt).trans (cc i)
          go_simp
          done
        try simp only [Act.put, List.setIfInBounds_toArray, List.set_cons_zero, List.set_cons_succ]
        (first | (refine wpHold_pure (v := ?_) (by rfl) (fun w => ?_) ?_; rotate_left; focus (first | (go_simp; done) | (go_simp; with_reducible rfl))) | (refine wpHold_skip ?_ ?_; focus (go_simp; done)) | (refine wpHold_pure' (v := ?_) ?_ (fun w => ?_) ?_; rotate_left; focus (go_simp; done); focus (first | (go_simp; done) | (go_simp; with_reducible rfl)))); try simp only [Act.put, List.setIfInBounds_toArray, List.set_cons_zero, List.set_cons_succ]
        (first | (refine wpHold_pure (v := ?_) (by rfl) (fun w => ?_) ?_; rotate_left; focus (first | (go_simp; done) | (go_simp; with_reducible rfl))) | (refine wpHold_skip ?_ ?_; focus (go_simp; done)) | (refine wpHold_pure' (v := ?_) ?_ (fun w => ?_) ?_; rotate_left; focus (go_simp; done); focus (first | (go_simp; done) | (go_simp; with_reducible rfl)))); try simp only [Act.put, List.setIfInBounds_toArray, List.set_cons_zero, List.set_cons_succ]
        refine wpHold_read (v := .slice a1 ng c1) (by rfl) (fun w' hI => ?_) ?_
        · have dd := fun i => (hI.cell (p := ⟨g, i, none⟩) hlt).trans (cc i)
          go_simp
          done
        try simp only [Act.put, List.setIfInBounds_toArray, List.set_cons_zero, List.set_cons_succ]
        refine wpHold_call (v := .string J) (f := 43) (args := #[.slice a1 ng c1, .string ⟨#[44]⟩]) (by rfl) (fun w' => ?_) (fun w' hI => ?_) ?_
        · go_simp
          done
        · exact (HJo.out w' hI).mono fun e w'' ⟨h1, h2⟩ => ⟨h1, hI.trans (h2.mono hI.size)⟩
        try simp only [Act.put, List.setIfInBounds_toArray, List.set_cons_zero, List.set_cons_succ]
        (first | (refine wpHold_pure (v := ?_) (by rfl) (fun w => ?_) ?_; rotate_left; focus (first | (go_simp; done) | (go_simp; with_reducible rfl))) | (refine wpHold_skip ?_ ?_; focus (go_simp; done)) | (refine wpHold_pure' (v := ?_) ?_ (fun w => ?_) ?_; rotate_left; focus (go_simp; done); focus (first | (go_simp; done) | (go_simp; with_reducible rfl)))); try simp only [Act.put, List.setIfInBounds_toArray, List.set_cons_zero, List.set_cons_succ]
        (first | (refine wpHold_pure (v := ?_) (by rfl) (fun w => ?_) ?_; rotate_left; focus (first | (go_simp; done) | (go_simp; with_reducible rfl))) | (refine wpHold_skip ?_ ?_; focus (go_simp; done)) | (refine wpHold_pure' (v := ?_) ?_ (fun w => ?_) ?_; rotate_left; focus (go_simp; done); focus (first | (go_simp; done) | (go_simp; with_reducible rfl)))); try simp only [Act.put, List.setIfInBounds_toArray, List.set_cons_zero, List.set_cons_succ]
        (first | (refine wpHold_pure (v := ?_) (by rfl) (fun w => ?_) ?_; rotate_left; focus (first | (go_simp; done) | (go_simp; with_reducible rfl))) | (refine wpHold_skip ?_ ?_; focus (go_simp; done)) | (refine wpHold_pure' (v := ?_) ?_ (fun w => ?_) ?_; rotate_left; focus (go_simp; done); focus (first | (go_simp; done) | (go_simp; with_reducible rfl)))); try simp only [Act.put, List.setIfInBounds_toArray, List.set_cons_zero, List.set_cons_succ]
        refine wpHold_call (v := .string I) (f := 42) (args := #[.int .i64 n]) (by rfl) (fun w' => ?_) (fun w' hI => ?_) ?_
        · go_simp
          done
        · exact (HIo.out w' hI).mono fun e w'' ⟨h1, h2⟩ => ⟨h1, hI.trans (h2.mono hI.size)⟩
        try simp only [Act.put, List.setIfInBounds_toArray, List.set_cons_zero, List.set_cons_succ]
        refine wpHold_nil ?_
        intro w4 hI4
        have HW4 := Lib.hid hI4
        have hs4 := hI4.size
        clear hI4 HJo HIo
        go_upto_region 9 with fail
        rw [HSS.out]
        go_wp2_with fail
        refine (HMac.out w4).mono ?_
        rintro E w5 ⟨rfl, hb5⟩
        have hs5 := hb5.size
        have HW5 := Lib.hid (HW4.out.trans (hb5.mono hs4))
        clear hb5 HMac
        go_wp2_with fail
        refine (HHex.out w5).mono ?_
        rintro E w6 ⟨rfl, hb6⟩
        have HB6 := Lib.hid (HB1.out.trans ((HW5.out.trans (hb6.mono HW5.out.size)).mono hgs))
        clear hb6 HHex
        go_wp2_with fail
        go_ret2
        exact ⟨by rw [HE1.out, ← HFin.out] <;> rfl, HB6.out⟩
    · have q9 : (C != 0) = true := by rw [bne_iff_ne]; exact hC0
      have HE1 : Hid (E0 = C) := Lib.hid (by rw [HEE.out]; simp [hC0])
      have HT1 : Hid (T0 = []) := Lib.hid (by rw [HTT.out, HE1.out, if_neg hC0])
      clear HEE HTT HT hC0 hC hM hK
      go_wp2_with fail
      go_ret2
      exact ⟨by rw [HE1.out, HT1.out] <;> rfl, HB2.out⟩
end Go.Proofs.YtlbolbkikkiifaaDoor
/- token: Check: its contract. -/
namespace Go.Proofs.YtlbolbkikkiifaaDoor
open Go.RowKit
open JP (Bs)

theorem Tryd.sizeUser : (Tryd.prog.info? 28).map (·.size) = some 2 := by kernel_rfl
def AtoiAt (s : Bs) (w : World) (e : Ending) (w' : World) : Prop := ∃ (z : Int) (ev : Value), e = .returned (.tuple #[.int .i64 z, ev]) ∧ (-9223372036854775808 ≤ z ∧ z ≤ 9223372036854775807) ∧ ((timeOf s = some z ∧ ev = .nilIface) ∨ (timeOf s = none ∧ ∃ t p, ev = .iface t p)) ∧ Below w.heap.size w w'
theorem atoi_any (s : ByteArray) (w : World) (hs : s.size ≤ 16777216) (he : ErrOK w) : Calls Tryd.prog 44 #[.string s] w (AtoiAt s.data.toList w) := by
  obtain ⟨tp, p, tp', p', h1, h2⟩ := he
  cases hA : Lib.atoiAll s.data.toList
  case range =>
    refine (Tryd.strconv_Atoi_range_var s (by omega) hA tp' p' w h2).mono ?_
    rintro e w' ⟨N, rfl, _, _, hb⟩
    exact ⟨_, _, rfl, by unfold Lib.atoiSat; (repeat' split) <;> omega, .inr ⟨by unfold timeOf; rw [hA], _, _, rfl⟩, hb⟩
  case ok v =>
    have hb := Lib.atoiAll_bounds hA
    refine (Tryd.strconv_Atoi_ok s (by omega) v hA w).mono ?_
    rintro e w' ⟨rfl, hw⟩
    refine ⟨_, _, rfl, hb, .inl ⟨by unfold timeOf; rw [hA], rfl⟩, ?_⟩
    rcases hw with rfl | ⟨t, rfl⟩
    · exact Below.refl _ _
    · exact Lib.bytesWorld_below _ _ _
  · refine (Tryd.strconv_Atoi_syntax_var s (by omega) hA tp p w h1).mono ?_
    rintro e w' ⟨N, rfl, _, _, hb⟩
    exact ⟨_, _, rfl, by omega, .inr ⟨by unfold timeOf; rw [hA], _, _, rfl⟩, hb⟩
theorem unhexOut_some {l b : List UInt8} (h : HexP.unhexl l = some b) : unhexOut l = .tuple #[.string ⟨b.toArray⟩, .int .i64 0] := by
  unfold unhexOut; rw [h]
theorem unhexOut_none {l : List UInt8} (h : HexP.unhexl l = none) : unhexOut l = .tuple #[.string ⟨#[]⟩, .int .i64 16] := by
  unfold unhexOut; rw [h]
theorem StrAt.touchNe {w W : World} {g : Nat} {v : Value} {l : List ByteArray} (h : StrAt w v l) (ht : Touch g w W) (hne : ∀ q, v.ownBlock = some q → q ≠ g) : StrAt W v l := by
  rcases h with ⟨rfl, rfl⟩ | ⟨a, c, rfl, h1, h2, h3⟩
  · exact .inl ⟨rfl, rfl⟩
  · refine .inr ⟨a, c, rfl, h1, h2, fun j x hx => ?_⟩
    have h4 := h3 j x hx
    have hb : (a.add j).block = a.block := by unfold Addr.add; split <;> rfl
    have : W.cell? (a.add j) = w.cell? (a.add j) := World.cell?_of_block (by rw [hb]; exact ht.other a.block (hne a.block rfl))
    rw [this]; exact h4
theorem strAt_block {w : World} {g : Nat} {t : TypeId} {L : List ByteArray} (h : w.heap[g]? = some (.cells (strs L).toArray t (0, 0))) (hl : L.length ≤ maxLen) : StrAt w (.slice (some ⟨g, 0, none⟩) L.length L.length) L := by
  refine .inr ⟨_, _, rfl, Nat.le_refl _, hl, fun j x hx => ?_⟩
  rw [add_plain', Nat.zero_add]
  have : w.cell? ⟨g, j, none⟩ = (strs L).toArray[j]? := cell_block h j
  rw [this, List.getElem?_toArray]
  exact strs_get hx
def ChkAt (r : Int × Bs × List Bs) (w : World) (e : Ending) (w' : World) : Prop := ∃ gv, e = .returned (.tuple #[.agg #[.string (mkB r.2.1), gv], .int .i64 r.1]) ∧ StrAt w' gv (r.2.2.map mkB) ∧ Below w.heap.size w w'
theorem ChkAt.bad {r : Int × Bs × List Bs} {c : Int} {w w' : World} (h : r = (c, [], [])) (hb : Below w.heap.size w w') : ChkAt r w (.returned (.tuple #[.agg #[.string ⟨#[]⟩, .slice none 0 0], .int .i64 c])) w' := by
  subst h
  exact ⟨_, rfl, StrAt.nil _, hb⟩
theorem four {L : List ByteArray} (h : L.length = 4) : ∃ a b c d, L = [a, b, c, d] := by
  match L, h with
  | [a, b, c, d], _ => exact ⟨a, b, c, d, rfl⟩
theorem TokP.parts_no (k t : Bs) (now : Int) {l : List Bs} (h : l.length ≠ 4) : TokP.partsE k t now l = (16, [], []) := by
  unfold TokP.partsE
  split
  · exact absurd rfl h
  · rfl
theorem map_mkB {L : List ByteArray} {l : List Bs} (h : L.map (·.data.toList) = l) : l.map mkB = L := by
  rw [← h, List.map_map]
  have : ((mkB : Bs → ByteArray) ∘ fun x : ByteArray => x.data.toList) = id := funext fun x => mkB_of x
  rw [this, List.map_id]
set_option maxRecDepth 100000 in
set_option maxHeartbeats 6400000 in
theorem check_tok (key t : ByteArray) (now : Int) (w : World) (hk : key.size ≤ 1048576) (ht : t.size ≤ 1048575) (hE : Env w) :
    Calls Tryd.prog 20 #[.string key, .string t, .int .i64 now] w (ChkAt (TokP.checkP key.data.toList t.data.toList now) w) := by
  obtain ⟨R, hR⟩ : ∃ R, TokP.checkP key.data.toList t.data.toList now = R := ⟨_, rfl⟩
  rw [hR]
  unfold TokP.checkP at hR
  obtain ⟨mx, hmx⟩ := hE.2.2
  obtain ⟨W, hW⟩ : ∃ W, W = w.alloc (.cells #[.string ⟨#[]⟩, .slice none 0 0] 28) := ⟨_, rfl⟩
  have bZ : W.heap[w.heap.size]? = some (.cells #[.string ⟨#[]⟩, .slice none 0 0] 28 (0, 0)) := by rw [hW]; exact heap_alloc_new w _
  have hb1 : Below w.heap.size w W := by rw [hW]; exact (Below.refl _ w).alloc (Nat.le_refl _) _
  obtain ⟨g, hg⟩ : ∃ g, g = w.heap.size := ⟨_, rfl⟩
  have hgw : w.heap.size ≤ g := by omega
  rw [← hg] at bZ
  have hlt : g < W.heap.size := block_lt bZ
  have hgs : w.heap.size ≤ W.heap.size := hb1.size
  have HS := Lib.hid (split_any t 46 mx W (by omega) (hmx.below hb1))
  have HK := Lib.hid (isKey_any key W)
  have HT := Lib.hid (isTime_any now W)
  have HB1 := Lib.hid hb1
  have HEn := Lib.hid hE
  have HMx := Lib.hid hmx
  obtain ⟨K, hK⟩ : ∃ K, TokP.isKey key.data.toList = K := ⟨_, rfl⟩
  obtain ⟨M, hM⟩ : ∃ K, TokP.isTime now = K := ⟨_, rfl⟩
  rw [hK, hM] at hR
  rw [hK] at HK
  rw [hM] at HT
  have HR := Lib.hid hR
  have BZ0 := Lib.hid bZ
  clear hE hmx hb1 hK hM hR bZ

  cases K with
  | false =>
    have HRs : Hid (R = (1, [], [])) := Lib.hid (by rw [← HR.out]; simp)
    clear HR HS HT
    go_enter Tryd.func20, Tryd.ntmps20
    go_upto_region 1 with fail
    rw [← hW, ← hg]
    clear hW hg
    go_wp2_with fail
    refine HK.out.mono ?_
    rintro E w1 ⟨rfl, rfl⟩
    clear HK
    go_wp2_with (first | (refine wpList_store_box (by rfl) _ _ _ (by rfl) g #[.string ⟨#[]⟩, .slice none 0 0] (by rfl) (by rfl) _ _ (by exact BZ0.out) (by exact Tryd.sizeUser) (by rfl) (by simp [Value.oneCell']) ?_))
    intro WF bF tF
    have HF := Lib.hid (tF.below HB1.out hgw)
    go_wp2_with fail
    refine bodyPost_ret (v := .tuple #[.agg #[.string ⟨#[]⟩, .slice none 0 0], .int .i64 1]) ?_ rfl ?_
    · exact results_two_box Tryd.results20 _ _ g _ _ _ _ (by rfl) bF Tryd.underlying28 rfl (by exact Tryd.sizeUser)
    · exact ChkAt.bad (HRs.out) HF.out
  | true =>
    cases M with
    | false =>
      have HRs : Hid (R = (1, [], [])) := Lib.hid (by rw [← HR.out]; simp)
      clear HR HS
      go_enter Tryd.func20, Tryd.ntmps20
      go_upto_region 1 with fail
      rw [← hW, ← hg]
      clear hW hg
      go_wp2_with fail
      refine HK.out.mono ?_
      rintro E w1 ⟨rfl, rfl⟩
      clear HK
      go_wp2_with fail
      refine HT.out.mono ?_
      rintro E w1 ⟨rfl, rfl⟩
      clear HT
      go_wp2_with (first | (refine wpList_store_box (by rfl) _ _ _ (by rfl) g #[.string ⟨#[]⟩, .slice none 0 0] (by rfl) (by rfl) _ _ (by exact BZ0.out) (by exact Tryd.sizeUser) (by rfl) (by simp [Value.oneCell']) ?_))
      intro WF bF tF
      have HF := Lib.hid (tF.below HB1.out hgw)
      go_wp2_with fail
      refine bodyPost_ret (v := .tuple #[.agg #[.string ⟨#[]⟩, .slice none 0 0], .int .i64 1]) ?_ rfl ?_
      · exact results_two_box Tryd.results20 _ _ g _ _ _ _ (by rfl) bF Tryd.underlying28 rfl (by exact Tryd.sizeUser)
      · exact ChkAt.bad (HRs.out) HF.out
    | true =>
      have HR1 : Hid (TokP.partsE key.data.toList t.data.toList now (splitL 46 t.data.toList) = R) := Lib.hid (by rw [← HR.out]; simp)
      clear HR
      go_enter Tryd.func20, Tryd.ntmps20
      go_upto_region 1 with fail
      rw [← hW, ← hg]
      clear hW hg
      go_wp2_with fail
      refine HK.out.mono ?_
      rintro E w1 ⟨rfl, rfl⟩
      clear HK
      go_wp2_with fail
      refine HT.out.mono ?_
      rintro E w1 ⟨rfl, rfl⟩
      clear HT
      go_wp2_with fail
      refine HS.out.mono ?_
      rintro E w2 ⟨L, hL, rfl, bL, _, hb2⟩
      clear HS
      obtain ⟨gL, hgL⟩ : ∃ gL, gL = W.heap.size := ⟨_, rfl⟩
      rw [← hgL] at bL ⊢
      have hLt : gL < w2.heap.size := block_lt bL
      have hs2 := hb2.size
      have BZ2 : Hid (w2.heap[g]? = some (.cells #[.string ⟨#[]⟩, .slice none 0 0] 28 (0, 0))) := Lib.hid ((hb2.block g hlt).trans BZ0.out)
      have HB2 := Lib.hid (HB1.out.trans (hb2.mono hgs))
      clear BZ0 hb2 hgL HB1
      rw [← hL] at HR1
      obtain ⟨n, hn⟩ : ∃ n, L.length = n := ⟨_, rfl⟩
      rw [hn]
      by_cases h4 : n = 4
      · subst h4
        obtain ⟨a, b, c, d, rfl⟩ := four hn
        have hm := fun (x : ByteArray) (hx : x ∈ [a, b, c, d]) => (by
          have h9 := splitL_mem_len 46 t.data.toList x.data.toList (by rw [← hL]; exact List.mem_map.2 ⟨x, hx, rfl⟩)
          rw [list_size, list_size] at h9
          exact h9 : x.size ≤ t.size)
        have sa := hm a (by simp)
        have sb := hm b (by simp)
        have sc := hm c (by simp)
        have sd := hm d (by simp)
        have bL' : w2.heap[gL]? = some (.cells #[.string a, .string b, .string c, .string d] 9 (0, 0)) := bL
        have cL := fun i => cell_block bL' i
        have BL := Lib.hid bL'
        have HR2 : Hid ((if d.data.toList.length = 64 then TokP.macE key.data.toList t.data.toList now a.data.toList b.data.toList c.data.toList (HexP.unhexl d.data.toList) else (16, [], [])) = R) := HR1
        clear hm bL HR1 hn hL bL'
        by_cases h64 : d.size = 64
        · have q64 : ((d.size : Int) != 64) = false := by rw [h64]; rfl
          have HR3 : Hid (TokP.macE key.data.toList t.data.toList now a.data.toList b.data.toList c.data.toList (HexP.unhexl d.data.toList) = R) := Lib.hid (by rw [← HR2.out, if_pos (by rw [list_size]; exact h64)])
          have HUn := Lib.hid (fun (w' : World) => unhex_any d w' (by omega))
          clear HR2
          cases hu : HexP.unhexl d.data.toList with
          | none =>
            have HRs : Hid (R = (16, [], [])) := Lib.hid (by rw [← HR3.out, hu]; rfl)
            rw [unhexOut_none hu] at HUn
            clear HR3 hu
            go_wp2_with fail
            refine (HUn.out w2).mono ?_
            rintro E w3 ⟨rfl, hb3⟩
            have BZ3 : Hid (w3.heap[g]? = some (.cells #[.string ⟨#[]⟩, .slice none 0 0] 28 (0, 0))) := Lib.hid ((hb3.block g (by omega)).trans BZ2.out)
            have HB3 := Lib.hid (HB2.out.trans (hb3.mono HB2.out.size))
            clear hb3 HUn BZ2 HB2
            go_wp2_with (first | (refine wpList_store_box (by rfl) _ _ _ (by rfl) g #[.string ⟨#[]⟩, .slice none 0 0] (by rfl) (by rfl) _ _ (by exact BZ3.out) (by exact Tryd.sizeUser) (by rfl) (by simp [Value.oneCell']) ?_))
            intro WF bF tF
            have HF := Lib.hid (tF.below HB3.out hgw)
            go_wp2_with fail
            refine bodyPost_ret (v := .tuple #[.agg #[.string ⟨#[]⟩, .slice none 0 0], .int .i64 16]) ?_ rfl ?_
            · exact results_two_box Tryd.results20 _ _ g _ _ _ _ (by rfl) bF Tryd.underlying28 rfl (by exact Tryd.sizeUser)
            · exact ChkAt.bad (HRs.out) HF.out
          | some m =>
            have HR4 : Hid ((if m = macOf key.data.toList (t.data.toList.take (t.data.toList.length - 64)) then TokP.endE key.data.toList t.data.toList now a.data.toList (TokP.groupsOf b.data.toList) (timeOf c.data.toList) else (17, [], [])) = R) := Lib.hid (by rw [← HR3.out, hu]; rfl)
            rw [unhexOut_some hu] at HUn
            obtain ⟨MM, hMM⟩ : ∃ m, macOf key.data.toList (t.data.toList.take (t.data.toList.length - 64)) = m := ⟨_, rfl⟩
            have hx : (t.extract 0 (t.size - 64)).data.toList = t.data.toList.take (t.data.toList.length - 64) := by
              rw [list_size]
              simp [ByteArray.data_extract]
            have hxs : (t.extract 0 (t.size - 64)).size ≤ 1048576 := by
              rw [ByteArray.size_extract]; omega
            have HMac := Lib.hid (fun (w' : World) => mac_any key (t.extract 0 (t.size - 64)) w' (by omega) (by omega))
            rw [hx, hMM] at HMac
            rw [hMM] at HR4
            have mq : ((⟨m.toArray⟩ : ByteArray).toList == (⟨MM.toArray⟩ : ByteArray).toList) = decide (m = MM) := mkB_eq m MM
            obtain ⟨mb, hmb⟩ : ∃ x, (⟨m.toArray⟩ : ByteArray) = x := ⟨_, rfl⟩
            obtain ⟨Mb, hMb⟩ : ∃ x, (⟨MM.toArray⟩ : ByteArray) = x := ⟨_, rfl⟩
            rw [hmb] at HUn mq
            rw [hMb] at HMac mq
            have p1 : (0 : Int) ≤ (t.size : Int) - 64 := by omega
            have p2 : (t.size : Int) - 64 ≤ (t.size : Int) := by omega
            clear HR3 hu hMM hx hxs hmb hMb
            go_wp2_with fail
            refine (HUn.out w2).mono ?_
            rintro E w3 ⟨rfl, hb3⟩
            have hs3 := hb3.size
            have BZ3 : Hid (w3.heap[g]? = some (.cells #[.string ⟨#[]⟩, .slice none 0 0] 28 (0, 0))) := Lib.hid ((hb3.block g (by omega)).trans BZ2.out)
            have HB3 := Lib.hid (HB2.out.trans (hb3.mono HB2.out.size))
            have BL3 := Lib.hid ((hb3.block gL hLt).trans BL.out)
            clear hb3 HUn BZ2 HB2 BL cL
            go_wp2_with fail
            refine (HMac.out w3).mono ?_
            rintro E w4 ⟨rfl, hb4⟩
            have hs4 := hb4.size
            have BZ4 : Hid (w4.heap[g]? = some (.cells #[.string ⟨#[]⟩, .slice none 0 0] 28 (0, 0))) := Lib.hid ((hb4.block g (by omega)).trans BZ3.out)
            have HB4 := Lib.hid (HB3.out.trans (hb4.mono HB3.out.size))
            have BL4 := Lib.hid ((hb4.block gL (by omega)).trans BL3.out)
            have cL := fun i => cell_block BL4.out i
            clear hb4 HMac BZ3 HB3 BL3
            by_cases hmm : m = MM
            · rw [decide_eq_true hmm] at mq
              have HR5 : Hid (TokP.endE key.data.toList t.data.toList now a.data.toList (TokP.groupsOf b.data.toList) (timeOf c.data.toList) = R) := Lib.hid (by rw [← HR4.out, if_pos hmm])
              clear HR4 hmm

              obtain ⟨w5, hw5⟩ : ∃ w5, w5 = w4.alloc (.cells #[.string a, .slice none 0 0] 28) := ⟨_, rfl⟩
              have b5 : w5.heap[w4.heap.size]? = some (.cells #[.string a, .slice none 0 0] 28 (0, 0)) := by rw [hw5]; exact heap_alloc_new w4 _
              have hb5 : Below w4.heap.size w4 w5 := by rw [hw5]; exact (Below.refl _ w4).alloc (Nat.le_refl _) _
              obtain ⟨g9, hg9⟩ : ∃ g9, g9 = w4.heap.size := ⟨_, rfl⟩
              rw [← hg9] at b5
              have hs5 := hb5.size
              have h95 : g9 < w5.heap.size := block_lt b5
              have hg95 : g < g9 := by omega
              have hgL9 : gL < g9 := by omega
              have BZ5 : Hid (w5.heap[g]? = some (.cells #[.string ⟨#[]⟩, .slice none 0 0] 28 (0, 0))) := Lib.hid ((hb5.block g (by omega)).trans BZ4.out)
              have BL5 := Lib.hid ((hb5.block gL (by omega)).trans BL4.out)
              have HB5 := Lib.hid (HB4.out.trans (hb5.mono HB4.out.size))
              have hg9w : w.heap.size ≤ g9 := by omega
              go_upto_region 12 with fail
              rw [← hw5, ← hg9]
              clear hw5 hg9 hb5 cL BZ4 BL4 HB4
              have cL := fun i => cell_block BL5.out i
              have hbe := bytes_empty b
              by_cases hb0 : b.size = 0
              · rw [decide_eq_true hb0] at hbe
                have hbn : b.data.toList = [] := List.eq_nil_of_length_eq_zero (by rw [list_size]; exact hb0)
                have hgr : TokP.groupsOf b.data.toList = [] := by unfold TokP.groupsOf; rw [if_pos hbn]
                have hmk : (⟨a, []⟩ : GUser) = TokP.mkU a.data.toList (TokP.groupsOf b.data.toList) := by rw [hgr]; unfold TokP.mkU; rw [mkB_of]; rfl
                have hgsm : (TokP.groupsOf b.data.toList).map mkB = [] := by rw [hgr]; rfl
                have hok : okS [] := ⟨by decide, fun x h => by cases h⟩
                obtain ⟨w6, hw6⟩ : ∃ w6, w6 = w5 := ⟨_, rfl⟩
                rw [← hw6] at b5 BZ5 BL5 HB5 h95 hs5 cL ⊢
                have B9 := Lib.hid b5
                have BZ6 := BZ5
                have BL6 := BL5
                have HB6 := HB5
                have hs6 : w4.heap.size ≤ w6.heap.size := by omega
                have h96 : g9 < w6.heap.size := h95
                have S6 : Hid (StrAt w6 (.slice none 0 0) []) := Lib.hid (StrAt.nil _)
                have hne : ∀ q, Value.ownBlock (.slice none 0 0) = some q → q ≠ g := fun q h => by cases h
                clear b5 BZ5 BL5 HB5 hw6 hbn hgr hb0
                go_upto_region 14 with fail
                clear cL
                have HA := Lib.hid (atoi_any c w6 (by omega) (HEn.out.below HB6.out).2.1)
                have cL6 := fun i => cell_block BL6.out i
                go_wp2_with fail
                refine HA.out.mono ?_
                rintro E w7 ⟨z, ev, rfl, ⟨z1, z2⟩, hc, hb7⟩
                have hs7 := hb7.size
                have BZ7 : Hid (w7.heap[g]? = some (.cells #[.string ⟨#[]⟩, .slice none 0 0] 28 (0, 0))) := Lib.hid ((hb7.block g (by omega)).trans BZ6.out)
                have B97 := Lib.hid ((hb7.block g9 (by omega)).trans B9.out)
                have HB7 := Lib.hid (HB6.out.trans (hb7.mono HB6.out.size))
                have S7 := Lib.hid (S6.out.below hb7)
                have HI := Lib.hid (issue_any key ⟨a, []⟩ (.slice none 0 0) z w7 ⟨_, rfl, S7.out⟩ (by show a.size ≤ _; omega) hok z1 z2 hk (HEn.out.below HB7.out).1)
                unfold IssAt at HI
                have c9 := fun i => cell_block B97.out i
                obtain ⟨E0, hE0⟩ : ∃ E, TokP.issueE key.data.toList ⟨a, []⟩ z = E := ⟨_, rfl⟩
                obtain ⟨T0, hT0⟩ : ∃ E, TokP.issueT key.data.toList ⟨a, []⟩ z = E := ⟨_, rfl⟩
                rw [hE0, hT0] at HI
                have HR7 : Hid (R = match timeOf c.data.toList with | none => (16, [], []) | some v => if TokP.issueE key.data.toList ⟨a, []⟩ v = 0 ∧ TokP.issueT key.data.toList ⟨a, []⟩ v = t.data.toList then (if v < now then (15, [], []) else (0, a.data.toList, TokP.groupsOf b.data.toList)) else (16, [], [])) := Lib.hid (by rw [← HR5.out, hmk]; cases timeOf c.data.toList <;> rfl)
                clear hb7 HA BZ6 B9 HB6 cL6 BL6 HR5 S6 hok z1 z2
                go_wp2_with fail
                refine HI.out.mono ?_
                rintro E w8 ⟨rfl, hb8⟩
                have BZ8 : Hid (w8.heap[g]? = some (.cells #[.string ⟨#[]⟩, .slice none 0 0] 28 (0, 0))) := Lib.hid ((hb8.block g (by omega)).trans BZ7.out)
                have B98 := Lib.hid ((hb8.block g9 (by omega)).trans B97.out)
                have HB8 := Lib.hid (HB7.out.trans (hb8.mono HB7.out.size))
                have S8 := Lib.hid (S7.out.below hb8)
                have hs8 := hb8.size
                have h98 : g9 < w8.heap.size := by omega
                have hg8 : g < w8.heap.size := by omega
                clear hb8 HI BZ7 B97 HB7 c9 S7
                rcases hc with ⟨ht1, rfl⟩ | ⟨ht1, tt, pp, rfl⟩
                · rw [ht1] at HR7
                  dsimp only at HR7
                  rw [hE0, hT0] at HR7
                  have hq : ((mkB T0).toList == t.toList) = decide (T0 = t.data.toList) := by rw [← mkB_eq, mkB_of]
                  clear hE0 hT0 ht1
                  by_cases h0 : E0 = 0
                  · subst h0
                    by_cases hT : T0 = t.data.toList
                    · rw [decide_eq_true hT] at hq
                      by_cases hv : z < now
                      · have HRs : Hid (R = (15, [], [])) := Lib.hid (by rw [HR7.out, if_pos ⟨rfl, hT⟩, if_pos hv])
                        clear HR7 hT
                        go_wp2_with (first | (refine wpList_store_box (by rfl) _ _ _ (by rfl) g #[.string ⟨#[]⟩, .slice none 0 0] (by rfl) (by rfl) _ _ (by exact BZ8.out) (by exact Tryd.sizeUser) (by rfl) (by simp [Value.oneCell']) ?_))
                        intro WF bF tF
                        have HF := Lib.hid (tF.below HB8.out hgw)
                        go_wp2_with fail
                        refine bodyPost_ret (v := .tuple #[.agg #[.string ⟨#[]⟩, .slice none 0 0], .int .i64 15]) ?_ rfl ?_
                        · exact results_two_box Tryd.results20 _ _ g _ _ _ _ (by rfl) bF Tryd.underlying28 rfl (by exact Tryd.sizeUser)
                        · exact ChkAt.bad (HRs.out) HF.out
                      · have HRs : Hid (R = (0, a.data.toList, TokP.groupsOf b.data.toList)) := Lib.hid (by rw [HR7.out, if_pos ⟨rfl, hT⟩, if_neg hv])
                        clear HR7 hT
                        go_wp2_with (first | (refine wpList_load_row (by rfl) _ _ (by rfl) g9 (by rfl) _ _ _ _ (by exact B98.out) Tryd.underlying28 rfl (by exact Tryd.sizeUser) ?_) | (refine wpList_store_box (by rfl) _ _ _ (by rfl) g #[.string a, .slice none 0 0] (by rfl) (by rfl) _ _ (by exact BZ8.out) (by exact Tryd.sizeUser) (by rfl) (by simp [Value.oneCell']) ?_))
                        intro WF bF tF
                        have HF := Lib.hid (tF.below HB8.out hgw)
                        have SF := Lib.hid (StrAt.touchNe S8.out tF hne)
                        go_wp2_with fail
                        refine bodyPost_ret (v := .tuple #[.agg #[.string a, .slice none 0 0], .int .i64 0]) ?_ rfl ?_
                        · exact results_two_box Tryd.results20 _ _ g _ _ _ _ (by rfl) bF Tryd.underlying28 rfl (by exact Tryd.sizeUser)
                        · exact ⟨_, by rw [HRs.out, mkB_of], by rw [HRs.out]; show StrAt WF _ ((TokP.groupsOf b.data.toList).map mkB); rw [hgsm]; exact SF.out, HF.out⟩
                    · rw [decide_eq_false hT] at hq
                      have HRs : Hid (R = (16, [], [])) := Lib.hid (by rw [HR7.out, if_neg (fun h => hT h.2)])
                      clear HR7 hT
                      go_wp2_with (first | (refine wpList_store_box (by rfl) _ _ _ (by rfl) g #[.string ⟨#[]⟩, .slice none 0 0] (by rfl) (by rfl) _ _ (by exact BZ8.out) (by exact Tryd.sizeUser) (by rfl) (by simp [Value.oneCell']) ?_))
                      intro WF bF tF
                      have HF := Lib.hid (tF.below HB8.out hgw)
                      go_wp2_with fail
                      refine bodyPost_ret (v := .tuple #[.agg #[.string ⟨#[]⟩, .slice none 0 0], .int .i64 16]) ?_ rfl ?_
                      · exact results_two_box Tryd.results20 _ _ g _ _ _ _ (by rfl) bF Tryd.underlying28 rfl (by exact Tryd.sizeUser)
                      · exact ChkAt.bad (HRs.out) HF.out
                  · have q9 : (E0 != 0) = true := by rw [bne_iff_ne]; exact h0
                    have HRs : Hid (R = (16, [], [])) := Lib.hid (by rw [HR7.out, if_neg (fun h => h0 h.1)])
                    clear HR7 h0
                    go_wp2_with (first | (refine wpList_store_box (by rfl) _ _ _ (by rfl) g #[.string ⟨#[]⟩, .slice none 0 0] (by rfl) (by rfl) _ _ (by exact BZ8.out) (by exact Tryd.sizeUser) (by rfl) (by simp [Value.oneCell']) ?_))
                    intro WF bF tF
                    have HF := Lib.hid (tF.below HB8.out hgw)
                    go_wp2_with fail
                    refine bodyPost_ret (v := .tuple #[.agg #[.string ⟨#[]⟩, .slice none 0 0], .int .i64 16]) ?_ rfl ?_
                    · exact results_two_box Tryd.results20 _ _ g _ _ _ _ (by rfl) bF Tryd.underlying28 rfl (by exact Tryd.sizeUser)
                    · exact ChkAt.bad (HRs.out) HF.out
                · rw [ht1] at HR7
                  have HRs : Hid (R = (16, [], [])) := HR7
                  clear HR7 hE0 hT0 ht1
                  go_wp2_with (first | (refine wpList_store_box (by rfl) _ _ _ (by rfl) g #[.string ⟨#[]⟩, .slice none 0 0] (by rfl) (by rfl) _ _ (by exact BZ8.out) (by exact Tryd.sizeUser) (by rfl) (by simp [Value.oneCell']) ?_))
                  intro WF bF tF
                  have HF := Lib.hid (tF.below HB8.out hgw)
                  go_wp2_with fail
                  refine bodyPost_ret (v := .tuple #[.agg #[.string ⟨#[]⟩, .slice none 0 0], .int .i64 16]) ?_ rfl ?_
                  · exact results_two_box Tryd.results20 _ _ g _ _ _ _ (by rfl) bF Tryd.underlying28 rfl (by exact Tryd.sizeUser)
                  · exact ChkAt.bad (HRs.out) HF.out
              · rw [decide_eq_false hb0] at hbe
                have hbn : b.data.toList ≠ [] := fun h => hb0 (by rw [← list_size, h]; rfl)
                have hgr : TokP.groupsOf b.data.toList = splitL 44 b.data.toList := by unfold TokP.groupsOf; rw [if_neg hbn]
                have HS2 := Lib.hid (split_any b 44 mx w5 (by omega) (HMx.out.below HB5.out))
                clear hb0 hbn
                go_wp2_with fail
                refine HS2.out.mono ?_
                rintro E w5' ⟨L2, hL2, rfl, bL2, _, hb5'⟩
                clear HS2
                obtain ⟨gQ, hgQ⟩ : ∃ gQ, gQ = w5.heap.size := ⟨_, rfl⟩
                rw [← hgQ] at bL2 ⊢
                obtain ⟨nq, hnq⟩ : ∃ nq, L2.length = nq := ⟨_, rfl⟩
                rw [hnq]
                have hmk : (⟨a, L2⟩ : GUser) = TokP.mkU a.data.toList (TokP.groupsOf b.data.toList) := by rw [hgr]; unfold TokP.mkU; rw [mkB_of, map_mkB hL2]
                have hgsm : (TokP.groupsOf b.data.toList).map mkB = L2 := by rw [hgr, map_mkB hL2]
                have hll : L2.length ≤ 1048576 := by
                  have h8 := splitL_len 44 b.data.toList
                  rw [← hL2, List.length_map, list_size] at h8
                  omega
                have hok : okS L2 := ⟨hll, fun x hx => by
                  have h9 := splitL_mem_len 44 b.data.toList x.data.toList (by rw [← hL2]; exact List.mem_map.2 ⟨x, hx, rfl⟩)
                  rw [list_size, list_size] at h9
                  omega⟩
                have hs5' := hb5'.size
                have b5' := (hb5'.block g9 h95).trans b5
                have f5 := fun i => free_block b5' i
                have c5 := fun i => cell_block b5' i
                have hQ9 : gQ ≠ g9 := by omega
                have hQlt : gQ < w5'.heap.size := block_lt bL2
                obtain ⟨t1, t2⟩ := touch_setCell (i := 1) (v := .slice (some ⟨gQ, 0, none⟩) nq nq) b5'
                generalize hw6 : World.setCell w5' ⟨g9, 1, none⟩ (.slice (some ⟨gQ, 0, none⟩) nq nq) = w6 at t1 t2
                have HB6 := Lib.hid (t2.below (HB5.out.trans (hb5'.mono HB5.out.size)) hg9w)
                have BZ6 : Hid (w6.heap[g]? = some (.cells #[.string ⟨#[]⟩, .slice none 0 0] 28 (0, 0))) := Lib.hid (t2.block ((hb5'.block g (by omega)).trans BZ5.out) (by omega))
                have BL6 := Lib.hid (t2.block ((hb5'.block gL (by omega)).trans BL5.out) (by omega))
                have bL3 := t2.block bL2 hQ9
                have S6 : Hid (StrAt w6 (.slice (some ⟨gQ, 0, none⟩) nq nq) L2) := Lib.hid (by rw [← hnq]; exact strAt_block bL3 (by unfold maxLen; omega))
                have hs6 : w4.heap.size ≤ w6.heap.size := by have := t2.size; omega
                have h96 : g9 < w6.heap.size := block_lt t1
                have B9 : Hid (w6.heap[g9]? = some (.cells #[.string a, .slice (some ⟨gQ, 0, none⟩) nq nq] 28 (0, 0))) := Lib.hid t1
                have hne : ∀ q, Value.ownBlock (.slice (some ⟨gQ, 0, none⟩) nq nq) = some q → q ≠ g := fun q h => by
                  simp only [Value.ownBlock, Option.some.injEq] at h
                  omega
                clear BZ5 BL5 HB5 bL2 bL3 hL2 hb5' hgr hll b5 hgQ cL t1 t2
                go_upto_region 14 with fail
                try rw [hw6]
                clear hw6 f5 c5 b5' hnq
                have HA := Lib.hid (atoi_any c w6 (by omega) (HEn.out.below HB6.out).2.1)
                have cL6 := fun i => cell_block BL6.out i
                go_wp2_with fail
                refine HA.out.mono ?_
                rintro E w7 ⟨z, ev, rfl, ⟨z1, z2⟩, hc, hb7⟩
                have hs7 := hb7.size
                have BZ7 : Hid (w7.heap[g]? = some (.cells #[.string ⟨#[]⟩, .slice none 0 0] 28 (0, 0))) := Lib.hid ((hb7.block g (by omega)).trans BZ6.out)
                have B97 := Lib.hid ((hb7.block g9 (by omega)).trans B9.out)
                have HB7 := Lib.hid (HB6.out.trans (hb7.mono HB6.out.size))
                have S7 := Lib.hid (S6.out.below hb7)
                have HI := Lib.hid (issue_any key ⟨a, L2⟩ (.slice (some ⟨gQ, 0, none⟩) nq nq) z w7 ⟨_, rfl, S7.out⟩ (by show a.size ≤ _; omega) hok z1 z2 hk (HEn.out.below HB7.out).1)
                unfold IssAt at HI
                have c9 := fun i => cell_block B97.out i
                obtain ⟨E0, hE0⟩ : ∃ E, TokP.issueE key.data.toList ⟨a, L2⟩ z = E := ⟨_, rfl⟩
                obtain ⟨T0, hT0⟩ : ∃ E, TokP.issueT key.data.toList ⟨a, L2⟩ z = E := ⟨_, rfl⟩
                rw [hE0, hT0] at HI
                have HR7 : Hid (R = match timeOf c.data.toList with | none => (16, [], []) | some v => if TokP.issueE key.data.toList ⟨a, L2⟩ v = 0 ∧ TokP.issueT key.data.toList ⟨a, L2⟩ v = t.data.toList then (if v < now then (15, [], []) else (0, a.data.toList, TokP.groupsOf b.data.toList)) else (16, [], [])) := Lib.hid (by rw [← HR5.out, hmk]; cases timeOf c.data.toList <;> rfl)
                clear hb7 HA BZ6 B9 HB6 cL6 BL6 HR5 S6 hok z1 z2
                go_wp2_with fail
                refine HI.out.mono ?_
                rintro E w8 ⟨rfl, hb8⟩
                have BZ8 : Hid (w8.heap[g]? = some (.cells #[.string ⟨#[]⟩, .slice none 0 0] 28 (0, 0))) := Lib.hid ((hb8.block g (by omega)).trans BZ7.out)
                have B98 := Lib.hid ((hb8.block g9 (by omega)).trans B97.out)
                have HB8 := Lib.hid (HB7.out.trans (hb8.mono HB7.out.size))
                have S8 := Lib.hid (S7.out.below hb8)
                have hs8 := hb8.size
                have h98 : g9 < w8.heap.size := by omega
                have hg8 : g < w8.heap.size := by omega
                clear hb8 HI BZ7 B97 HB7 c9 S7
                rcases hc with ⟨ht1, rfl⟩ | ⟨ht1, tt, pp, rfl⟩
                · rw [ht1] at HR7
                  dsimp only at HR7
                  rw [hE0, hT0] at HR7
                  have hq : ((mkB T0).toList == t.toList) = decide (T0 = t.data.toList) := by rw [← mkB_eq, mkB_of]
                  clear hE0 hT0 ht1
                  by_cases h0 : E0 = 0
                  · subst h0
                    by_cases hT : T0 = t.data.toList
                    · rw [decide_eq_true hT] at hq
                      by_cases hv : z < now
                      · have HRs : Hid (R = (15, [], [])) := Lib.hid (by rw [HR7.out, if_pos ⟨rfl, hT⟩, if_pos hv])
                        clear HR7 hT
                        go_wp2_with (first | (refine wpList_store_box (by rfl) _ _ _ (by rfl) g #[.string ⟨#[]⟩, .slice none 0 0] (by rfl) (by rfl) _ _ (by exact BZ8.out) (by exact Tryd.sizeUser) (by rfl) (by simp [Value.oneCell']) ?_))
                        intro WF bF tF
                        have HF := Lib.hid (tF.below HB8.out hgw)
                        go_wp2_with fail
                        refine bodyPost_ret (v := .tuple #[.agg #[.string ⟨#[]⟩, .slice none 0 0], .int .i64 15]) ?_ rfl ?_
                        · exact results_two_box Tryd.results20 _ _ g _ _ _ _ (by rfl) bF Tryd.underlying28 rfl (by exact Tryd.sizeUser)
                        · exact ChkAt.bad (HRs.out) HF.out
                      · have HRs : Hid (R = (0, a.data.toList, TokP.groupsOf b.data.toList)) := Lib.hid (by rw [HR7.out, if_pos ⟨rfl, hT⟩, if_neg hv])
                        clear HR7 hT
                        go_wp2_with (first | (refine wpList_load_row (by rfl) _ _ (by rfl) g9 (by rfl) _ _ _ _ (by exact B98.out) Tryd.underlying28 rfl (by exact Tryd.sizeUser) ?_) | (refine wpList_store_box (by rfl) _ _ _ (by rfl) g #[.string a, .slice (some ⟨gQ, 0, none⟩) nq nq] (by rfl) (by rfl) _ _ (by exact BZ8.out) (by exact Tryd.sizeUser) (by rfl) (by simp [Value.oneCell']) ?_))
                        intro WF bF tF
                        have HF := Lib.hid (tF.below HB8.out hgw)
                        have SF := Lib.hid (StrAt.touchNe S8.out tF hne)
                        go_wp2_with fail
                        refine bodyPost_ret (v := .tuple #[.agg #[.string a, .slice (some ⟨gQ, 0, none⟩) nq nq], .int .i64 0]) ?_ rfl ?_
                        · exact results_two_box Tryd.results20 _ _ g _ _ _ _ (by rfl) bF Tryd.underlying28 rfl (by exact Tryd.sizeUser)
                        · exact ⟨_, by rw [HRs.out, mkB_of], by rw [HRs.out]; show StrAt WF _ ((TokP.groupsOf b.data.toList).map mkB); rw [hgsm]; exact SF.out, HF.out⟩
                    · rw [decide_eq_false hT] at hq
                      have HRs : Hid (R = (16, [], [])) := Lib.hid (by rw [HR7.out, if_neg (fun h => hT h.2)])
                      clear HR7 hT
                      go_wp2_with (first | (refine wpList_store_box (by rfl) _ _ _ (by rfl) g #[.string ⟨#[]⟩, .slice none 0 0] (by rfl) (by rfl) _ _ (by exact BZ8.out) (by exact Tryd.sizeUser) (by rfl) (by simp [Value.oneCell']) ?_))
                      intro WF bF tF
                      have HF := Lib.hid (tF.below HB8.out hgw)
                      go_wp2_with fail
                      refine bodyPost_ret (v := .tuple #[.agg #[.string ⟨#[]⟩, .slice none 0 0], .int .i64 16]) ?_ rfl ?_
                      · exact results_two_box Tryd.results20 _ _ g _ _ _ _ (by rfl) bF Tryd.underlying28 rfl (by exact Tryd.sizeUser)
                      · exact ChkAt.bad (HRs.out) HF.out
                  · have q9 : (E0 != 0) = true := by rw [bne_iff_ne]; exact h0
                    have HRs : Hid (R = (16, [], [])) := Lib.hid (by rw [HR7.out, if_neg (fun h => h0 h.1)])
                    clear HR7 h0
                    go_wp2_with (first | (refine wpList_store_box (by rfl) _ _ _ (by rfl) g #[.string ⟨#[]⟩, .slice none 0 0] (by rfl) (by rfl) _ _ (by exact BZ8.out) (by exact Tryd.sizeUser) (by rfl) (by simp [Value.oneCell']) ?_))
                    intro WF bF tF
                    have HF := Lib.hid (tF.below HB8.out hgw)
                    go_wp2_with fail
                    refine bodyPost_ret (v := .tuple #[.agg #[.string ⟨#[]⟩, .slice none 0 0], .int .i64 16]) ?_ rfl ?_
                    · exact results_two_box Tryd.results20 _ _ g _ _ _ _ (by rfl) bF Tryd.underlying28 rfl (by exact Tryd.sizeUser)
                    · exact ChkAt.bad (HRs.out) HF.out
                · rw [ht1] at HR7
                  have HRs : Hid (R = (16, [], [])) := HR7
                  clear HR7 hE0 hT0 ht1
                  go_wp2_with (first | (refine wpList_store_box (by rfl) _ _ _ (by rfl) g #[.string ⟨#[]⟩, .slice none 0 0] (by rfl) (by rfl) _ _ (by exact BZ8.out) (by exact Tryd.sizeUser) (by rfl) (by simp [Value.oneCell']) ?_))
                  intro WF bF tF
                  have HF := Lib.hid (tF.below HB8.out hgw)
                  go_wp2_with fail
                  refine bodyPost_ret (v := .tuple #[.agg #[.string ⟨#[]⟩, .slice none 0 0], .int .i64 16]) ?_ rfl ?_
                  · exact results_two_box Tryd.results20 _ _ g _ _ _ _ (by rfl) bF Tryd.underlying28 rfl (by exact Tryd.sizeUser)
                  · exact ChkAt.bad (HRs.out) HF.out
            · rw [decide_eq_false hmm] at mq
              have HRs : Hid (R = (17, [], [])) := Lib.hid (by rw [← HR4.out, if_neg hmm])
              clear HR4 hmm
              go_wp2_with (first | (refine wpList_store_box (by rfl) _ _ _ (by rfl) g #[.string ⟨#[]⟩, .slice none 0 0] (by rfl) (by rfl) _ _ (by exact BZ4.out) (by exact Tryd.sizeUser) (by rfl) (by simp [Value.oneCell']) ?_))
              intro WF bF tF
              have HF := Lib.hid (tF.below HB4.out hgw)
              go_wp2_with fail
              refine bodyPost_ret (v := .tuple #[.agg #[.string ⟨#[]⟩, .slice none 0 0], .int .i64 17]) ?_ rfl ?_
              · exact results_two_box Tryd.results20 _ _ g _ _ _ _ (by rfl) bF Tryd.underlying28 rfl (by exact Tryd.sizeUser)
              · exact ChkAt.bad (HRs.out) HF.out
        · have q64 : ((d.size : Int) != 64) = true := by rw [bne_iff_ne]; omega
          have HRs : Hid (R = (16, [], [])) := Lib.hid (by rw [← HR2.out, if_neg (by rw [list_size]; exact h64)])
          clear HR2 h64
          go_wp2_with (first | (refine wpList_store_box (by rfl) _ _ _ (by rfl) g #[.string ⟨#[]⟩, .slice none 0 0] (by rfl) (by rfl) _ _ (by exact BZ2.out) (by exact Tryd.sizeUser) (by rfl) (by simp [Value.oneCell']) ?_))
          intro WF bF tF
          have HF := Lib.hid (tF.below HB2.out hgw)
          go_wp2_with fail
          refine bodyPost_ret (v := .tuple #[.agg #[.string ⟨#[]⟩, .slice none 0 0], .int .i64 16]) ?_ rfl ?_
          · exact results_two_box Tryd.results20 _ _ g _ _ _ _ (by rfl) bF Tryd.underlying28 rfl (by exact Tryd.sizeUser)
          · exact ChkAt.bad (HRs.out) HF.out
      · have q9 : ((n : Int) != 4) = true := by rw [bne_iff_ne]; omega
        have HRs : Hid (R = (16, [], [])) := Lib.hid (by rw [← HR1.out]; exact TokP.parts_no _ _ _ (by rw [List.length_map, hn]; exact h4))
        clear HR1 hn hL h4 bL
        go_wp2_with (first | (refine wpList_store_box (by rfl) _ _ _ (by rfl) g #[.string ⟨#[]⟩, .slice none 0 0] (by rfl) (by rfl) _ _ (by exact BZ2.out) (by exact Tryd.sizeUser) (by rfl) (by simp [Value.oneCell']) ?_))
        intro WF bF tF
        have HF := Lib.hid (tF.below HB2.out hgw)
        go_wp2_with fail
        refine bodyPost_ret (v := .tuple #[.agg #[.string ⟨#[]⟩, .slice none 0 0], .int .i64 16]) ?_ rfl ?_
        · exact results_two_box Tryd.results20 _ _ g _ _ _ _ (by rfl) bF Tryd.underlying28 rfl (by exact Tryd.sizeUser)
        · exact ChkAt.bad (HRs.out) HF.out
end Go.Proofs.YtlbolbkikkiifaaDoor
/- The reference's Eq at texts. -/
namespace Go.Proofs.YtlbolbkikkiifaaDoor
open Go.RowKit

theorem eqS_no {l m : List ByteArray} {i : Nat} {x y : ByteArray} (hx : l[i]? = some x) (hy : m[i]? = some y) (h : x ≠ y) : decide (l = m) = false := by
  rw [decide_eq_false_iff_not]
  intro e
  subst e
  rw [hx] at hy
  cases hy
  exact h rfl
theorem eqS_yes {l m : List ByteArray} (h : l.length = m.length) (k : ∀ (i : Nat) (x y : ByteArray), i < l.length → l[i]? = some x → m[i]? = some y → x = y) : decide (l = m) = true := by
  rw [decide_eq_true_iff]
  apply List.ext_getElem h
  intro i hi hj
  exact k i _ _ hi (List.getElem?_eq_getElem hi) (List.getElem?_eq_getElem hj)
set_option maxRecDepth 100000 in
set_option maxHeartbeats 800000 in
theorem eqStrs_any (v1 v2 : Value) (l m : List ByteArray) (w : World) (h1 : StrAt w v1 l) (h2 : StrAt w v2 m) (hl : l.length ≤ 8388608) (hm : m.length ≤ 8388608) :
    Calls Tryd.prog 33 #[v1, v2] w fun e w' => e = .returned (.bool (decide (l = m))) ∧ w = w' := by
  obtain ⟨a1, c1, rfl, _, _⟩ := h1.len
  obtain ⟨a2, c2, rfl, _, _⟩ := h2.len
  have H1 := Lib.hid h1
  have H2 := Lib.hid h2
  clear h1 h2
  by_cases hlen : l.length = m.length
  · have q1 : ((l.length : Int) != (m.length : Int)) = false := by rw [bne_eq_false_iff_eq]; omega
    have Hlen := Lib.hid hlen
    clear hlen
    go_enter Tryd.func33, Tryd.ntmps33
    go_wp2_with fail
    clear q1
    go_loopg [14] l.length (fun g u14 wr => ∃ i : Nat, i + g = l.length ∧ u14 = .int .i64 (i : Int) ∧ Hid (∀ (k : Nat) (x y : ByteArray), k < i → l[k]? = some x → m[k]? = some y → x = y) ∧ w = wr)
    case atStart => exact ⟨0, by omega, rfl, Lib.hid (fun k _ _ hk => by omega), rfl⟩
    case round =>
      obtain ⟨i, hig, rfl, Hall, rfl⟩ := hrel
      cases gk with
      | zero =>
        obtain rfl : i = l.length := by omega
        have Hyes : Hid (decide (l = m) = true) := eqS_yes Hlen.out fun k x y hk hx hy => Hall.out k x y hk hx hy
        go_wp2_with fail
        go_ret
        exact ⟨congrArg (fun b => Ending.returned (Value.bool b)) Hyes.out.symm, rfl⟩
      | succ g =>
        have hil : i < l.length := by omega
        have him : i < m.length := by have := Hlen.out; omega
        obtain ⟨x, hx⟩ : ∃ x, l[i]? = some x := ⟨l[i]'(by omega), List.getElem?_eq_getElem _⟩
        obtain ⟨y, hy⟩ : ∃ y, m[i]? = some y := ⟨m[i]'(by omega), List.getElem?_eq_getElem _⟩
        obtain ⟨b, o, c', hv, _, _, hbs, hcell⟩ := H1.out.form (by omega)
        injection hv with u1 u2 u3
        subst u1
        clear u2 u3
        obtain ⟨b', o', c'', hv, _, _, hbs', hcell'⟩ := H2.out.form (by omega)
        injection hv with u1 u2 u3
        subst u1
        clear u2 u3
        have e0 : w.cell? ⟨b, o + i, none⟩ = some (.string x) := hcell i x hx
        have f0 : w.cell? ⟨b', o' + i, none⟩ = some (.string y) := hcell' i y hy
        have q1 : (0 : Int) ≤ (i : Int) := by omega
        have q2 : (i : Int) < (l.length : Int) := by omega
        have q3 : (i : Int) < (m.length : Int) := by omega
        have Hx := Lib.hid hx
        have Hy := Lib.hid hy
        clear hcell hcell' hx hy
        by_cases he : x = y
        · have Hall2 : Hid (∀ (k : Nat) (x y : ByteArray), k < i + 1 → l[k]? = some x → m[k]? = some y → x = y) := Lib.hid fun k x' y' hk hx' hy' => by
            rcases Nat.lt_or_ge k i with h | h
            · exact Hall.out k x' y' h hx' hy'
            · obtain rfl : k = i := by omega
              have a := Hx.out; have b := Hy.out
              rw [a] at hx'; rw [b] at hy'
              cases hx'; cases hy'
              exact he
          have q4 : (x.toList == y.toList) = true := by rw [he]; simp
          clear he
          go_wp2_with fail
          go_roundg g
          case measure => omega
          case rel => exact ⟨i + 1, by omega, by go_num, Hall2, rfl⟩
        · have Hno : Hid (decide (l = m) = false) := Lib.hid (eqS_no Hx.out Hy.out he)
          have q4 : (x.toList == y.toList) = false := by rw [beq_eq_false_iff_ne]; exact fun h => he (toList_inj h)
          clear he
          go_wp2_with fail
          go_ret
          exact ⟨congrArg (fun b => Ending.returned (Value.bool b)) Hno.out.symm, rfl⟩
  · have q1 : ((l.length : Int) != (m.length : Int)) = true := by rw [bne_iff_ne]; omega
    have Hno : Hid (decide (l = m) = false) := by show _ = _; rw [decide_eq_false_iff_not]; exact fun h => hlen (congrArg _ h)
    clear hlen
    go_enter Tryd.func33, Tryd.ntmps33
    go_wp2_with fail
    go_ret
    exact ⟨congrArg (fun b => Ending.returned (Value.bool b)) Hno.out.symm, rfl⟩
end Go.Proofs.YtlbolbkikkiifaaDoor
/- SameUser where they are the same; the law's own calls. -/
namespace Go.Proofs.YtlbolbkikkiifaaDoor
open Go.RowKit
open JP (Bs)

set_option maxRecDepth 100000 in
theorem sameUser_yes (a : ByteArray) (v1 v2 : Value) (l : List ByteArray) (w : World) (h1 : StrAt w v1 l) (h2 : StrAt w v2 l) (hl : l.length ≤ 1048576) :
    Calls Tryd.prog 21 #[.agg #[.string a, v1], .agg #[.string a, v2]] w fun e w' => e = .returned (.bool true) ∧ Below w.heap.size w w' := by
  obtain ⟨a1, c1, rfl, _, _⟩ := h1.len
  obtain ⟨a2, c2, rfl, _, _⟩ := h2.len
  obtain ⟨n, hn⟩ : ∃ n, l.length = n := ⟨_, rfl⟩
  rw [hn] at h1 h2 ⊢
  obtain ⟨W, hW⟩ : ∃ W, W = (w.alloc (.cells #[.string a, .slice a1 n c1] 28)).alloc (.cells #[.string a, .slice a2 n c2] 28) := ⟨_, rfl⟩
  have b1 : W.heap[w.heap.size]? = some (.cells #[.string a, .slice a1 n c1] 28 (0, 0)) := by rw [hW]; exact heap_alloc_old (heap_alloc_new w _)
  have b2 : W.heap[w.heap.size + 1]? = some (.cells #[.string a, .slice a2 n c2] 28 (0, 0)) := by rw [hW]; exact heap_alloc_at (World.size_alloc _ _).symm
  have hb : Below w.heap.size w W := by rw [hW]; exact ((Below.refl _ w).alloc (Nat.le_refl _) _).alloc (by rw [World.size_alloc]; omega) _
  have HE := Lib.hid (eqStrs_any _ _ l l W (h1.below hb) (h2.below hb) (by omega) (by omega))
  rw [decide_eq_true rfl] at HE
  have cc := fun i => cell_block b1 i
  have dd := fun i => cell_block b2 i
  have q : (a.toList == a.toList) = true := by simp
  have HB := Lib.hid hb
  clear b1 b2 hb h1 h2 hl hn
  go_enter Tryd.func21, Tryd.ntmps21
  go_upto_region 1 with fail
  rw [← hW]
  clear hW
  go_wp2_with fail
  refine HE.out.mono ?_
  rintro E w2 ⟨rfl, rfl⟩
  go_wp2_with fail
  go_ret
  exact ⟨rfl, HB.out⟩
theorem none_tok (w : World) (hE : Env w) : Calls Tryd.prog 20 #[.string ⟨#[]⟩, .string ⟨#[]⟩, .int .i64 0] w fun e w' => ∃ gv, e = .returned (.tuple #[.agg #[.string ⟨#[]⟩, gv], .int .i64 1]) ∧ StrAt w' gv [] ∧ Below w.heap.size w w' := by
  have h := check_tok ⟨#[]⟩ ⟨#[]⟩ 0 w (by decide) (by decide) hE
  have e : TokP.checkP (⟨#[]⟩ : ByteArray).data.toList (⟨#[]⟩ : ByteArray).data.toList 0 = (1, [], []) := TokP.none_const
  rw [e] at h
  exact h
theorem issue_len {k : Bs} {u : GUser} {n : Int} : (TokP.issueT k u n).length ≤ 300 := by
  unfold TokP.issueT
  split
  · rename_i h
    obtain ⟨_, hu, hn⟩ := TokP.issue_parts h
    obtain ⟨t1, t2⟩ := TokP.time_parts hn
    have h1 := user_join hu
    have h2 := (TokP.user_parts hu).2.1
    have h3 := Lib.itoa_length_le n (by omega) (by omega)
    rw [List.length_append, TokP.hex64]
    unfold TokP.base
    simp only [List.length_append, List.length_cons, List.length_nil, list_size]
    omega
  · simp
end Go.Proofs.YtlbolbkikkiifaaDoor
/- The law TokenBack. -/
namespace Go.Proofs.YtlbolbkikkiifaaDoor
open Go.RowKit
open JP (Bs)

set_option maxRecDepth 100000 in
set_option maxHeartbeats 6400000 in
theorem tokenBack_walk (key : ByteArray) (cs : Array Value) (u : GUser) (n now : Int) (w : World) (st : UserR w cs.toList u) (wf1 : (Lit.int .i64 n).wf = true) (wf2 : (Lit.int .i64 now).wf = true) (hbulk : key.data.toList.length + 1 + (userB u + (1 + (1 + 0))) ≤ 1048576) (hE : Env w) :
    Calls Tryd.prog 5 #[.string key, .agg cs, .int .i64 n, .int .i64 now] w fun e w' => e = .returned (.bool true) ∧ Below w.heap.size w w' := by
  obtain ⟨v1, hcs, hst⟩ := st
  obtain rfl : cs = #[.string u.name, v1] := Array.toList_inj.1 hcs
  have n1 : -9223372036854775808 ≤ n ∧ n ≤ 9223372036854775807 := by simp [Lit.wf] at wf1; exact wf1
  have hks : key.size ≤ 1048576 := by rw [list_size] at hbulk; omega
  have hub : u.name.size ≤ 1048576 ∧ total u.groups ≤ 1048576 := by unfold userB at hbulk; omega
  have hokS : okS u.groups := ⟨by have := total_length u.groups; omega, fun x hx => by have := total_mem hx; omega⟩
  have hgl := hokS.1
  obtain ⟨a1, c1, e1, _, _⟩ := hst.len
  obtain ⟨ng, hng⟩ : ∃ m, u.groups.length = m := ⟨_, rfl⟩
  rw [hng] at e1
  subst e1
  obtain ⟨W, hW⟩ : ∃ W, W = w.alloc (.cells #[.string u.name, .slice a1 ng c1] 28) := ⟨_, rfl⟩
  have bW : W.heap[w.heap.size]? = some (.cells #[.string u.name, .slice a1 ng c1] 28 (0, 0)) := by rw [hW]; exact heap_alloc_new w _
  have hb1 : Below w.heap.size w W := by rw [hW]; exact (Below.refl _ w).alloc (Nat.le_refl _) _
  obtain ⟨g, hg⟩ : ∃ g, g = w.heap.size := ⟨_, rfl⟩
  rw [← hg] at bW
  have hlt : g < W.heap.size := block_lt bW
  have hgs : w.heap.size ≤ W.heap.size := hb1.size
  have cc := fun i => cell_block bW i
  have SW := Lib.hid (hst.below hb1)
  have HEn := Lib.hid (fun (w' : World) (h : Below W.heap.size W w') => (hE.below (hb1.trans (h.mono hgs)) : Env w'))
  have HI := Lib.hid (issue_any key u (.slice a1 ng c1) n W ⟨_, rfl, SW.out⟩ hub.1 hokS n1.1 n1.2 hks (HEn.out W (Below.refl _ _)).1)
  unfold IssAt at HI
  have HN := Lib.hid (fun (w' : World) (h : Below W.heap.size W w') => none_tok w' (HEn.out w' h))
  obtain ⟨E0, hE0⟩ : ∃ E, TokP.issueE key.data.toList u n = E := ⟨_, rfl⟩
  obtain ⟨T0, hT0⟩ : ∃ E, TokP.issueT key.data.toList u n = E := ⟨_, rfl⟩
  have hlen : T0.length ≤ 300 := by rw [← hT0]; exact issue_len
  have hno : E0 ≠ 0 → T0 = [] := fun h => by rw [← hT0]; unfold TokP.issueT; rw [if_neg (by rw [hE0]; exact h)]
  have HC := Lib.hid (fun (w' : World) (h : Below W.heap.size W w') => check_tok key (mkB T0) now w' hks (by rw [mkB_size]; omega) (HEn.out w' h))
  rw [mkB_list] at HC
  have hlaw : E0 = 0 → TokP.isTime now = true → TokP.checkP key.data.toList T0 now = if n < now then (15, [], []) else (0, u.name.data.toList, TokP.ownB u) := fun h h2 => by rw [← hT0]; exact TokP.back (by rw [hE0]; exact h) h2
  have hout : TokP.isTime now = false → TokP.checkP key.data.toList T0 now = (1, [], []) := fun h => by unfold TokP.checkP; rw [if_neg (by rw [h]; simp)]
  obtain ⟨R, hR⟩ : ∃ R, TokP.checkP key.data.toList T0 now = R := ⟨_, rfl⟩
  rw [hR] at HC hlaw hout
  rw [hE0, hT0] at HI
  have hown : (TokP.ownB u).map mkB = u.groups := map_mkB rfl
  have Hlaw := Lib.hid hlaw
  have Hout := Lib.hid hout
  have Hno := Lib.hid hno
  have HB1 := Lib.hid hb1
  have HB0 : Hid (Below W.heap.size W W) := Lib.hid (Below.refl _ _)
  clear hlaw hout hno hR hE0 hT0 hlen hE hbulk wf1 wf2 hcs hst hb1 n1 hks hub hokS bW
  go_enter Tryd.func5, Tryd.ntmps5
  go_upto_region 1 with fail
  rw [← hW, ← hg]
  clear hW hg
  go_wp2_with fail
  refine HI.out.mono ?_
  rintro E w1 ⟨rfl, hb⟩
  have HB2 := Lib.hid hb
  clear hb HI
  go_wp2_with fail
  refine (HN.out w1 HB2.out).mono ?_
  rintro E w2 ⟨gv, rfl, hgv, hb⟩
  obtain ⟨a2, c2, e2, _, _⟩ := hgv.len
  simp only [List.length_nil] at e2
  subst e2
  have HB3 := Lib.hid (HB2.out.trans (hb.mono HB2.out.size))
  clear hb HN hgv
  obtain ⟨w3, hw3⟩ : ∃ w3, w3 = w2.alloc (.cells #[.string ⟨#[]⟩, .slice a2 0 c2] 28) := ⟨_, rfl⟩
  have HB4 : Hid (Below W.heap.size W w3) := Lib.hid (by rw [hw3]; exact HB3.out.alloc HB3.out.size _)
  go_upto_region 3 with fail
  rw [← hw3]
  clear hw3
  by_cases he : E0 = 0
  · subst he
    have HC2 := Lib.hid (HC.out w3 HB4.out)
    clear HC Hno
    have hnow : TokP.isTime now = (decide (0 ≤ now) && decide (now ≤ 1099511627776)) := rfl
    by_cases t1 : now < 0
    · have HR : Hid (R = (1, [], [])) := Lib.hid (Hout.out (by rw [hnow, decide_eq_false (by omega)]; rfl))
      rw [HR.out] at HC2
      clear HR Hlaw Hout hnow
      go_wp2_with fail
      refine HC2.out.mono ?_
      rintro E w4 ⟨gv, rfl, hgv, hb⟩
      have HB5 := Lib.hid (HB4.out.trans (hb.mono HB4.out.size))
      obtain ⟨a4, c4, e4, _, _⟩ := hgv.len
      simp only [List.map_nil, List.length_nil] at e4
      subst e4
      clear hb HC2 hgv
      obtain ⟨w5, hw5⟩ : ∃ w5, w5 = w4.alloc (.cells #[.string (mkB []), .slice a4 0 c4] 28) := ⟨_, rfl⟩
      have HB6 : Hid (Below W.heap.size W w5) := Lib.hid (by rw [hw5]; exact HB5.out.alloc HB5.out.size _)
      have b5 : w5.heap[w4.heap.size]? = some (.cells #[.string (mkB []), .slice a4 0 c4] 28 (0, 0)) := by rw [hw5]; exact heap_alloc_new w4 _
      have hb45 : Below w4.heap.size w4 w5 := by rw [hw5]; exact (Below.refl _ w4).alloc (Nat.le_refl _) _
      obtain ⟨g5, hg5⟩ : ∃ g5, g5 = w4.heap.size := ⟨_, rfl⟩
      rw [← hg5] at b5
      go_upto_region 8 with fail
      rw [← hw5, ← hg5]
      clear hw5 hg5
      have c5 := fun i => cell_block b5 i
      clear hb45
      go_wp2_with fail
      go_ret
      exact ⟨rfl, HB1.out.trans (HB6.out.mono hgs)⟩
    · by_cases t2 : now ≤ 1099511627776
      · have t3 : ¬ 1099511627776 < now := by omega
        have ht : TokP.isTime now = true := by rw [hnow, decide_eq_true (by omega), decide_eq_true t2]; rfl
        by_cases t4 : n < now
        · have HR : Hid (R = (15, [], [])) := Lib.hid (by rw [Hlaw.out rfl ht, if_pos t4])
          have te : (mkB []).toList.isEmpty = true := by rw [bytes_empty]; rfl
          clear ht
          rw [HR.out] at HC2
          clear HR Hlaw Hout hnow
          go_wp2_with fail
          refine HC2.out.mono ?_
          rintro E w4 ⟨gv, rfl, hgv, hb⟩
          have HB5 := Lib.hid (HB4.out.trans (hb.mono HB4.out.size))
          obtain ⟨a4, c4, e4, _, _⟩ := hgv.len
          simp only [List.map_nil, List.length_nil] at e4
          subst e4
          clear hb HC2 hgv
          obtain ⟨w5, hw5⟩ : ∃ w5, w5 = w4.alloc (.cells #[.string (mkB []), .slice a4 0 c4] 28) := ⟨_, rfl⟩
          have HB6 : Hid (Below W.heap.size W w5) := Lib.hid (by rw [hw5]; exact HB5.out.alloc HB5.out.size _)
          have b5 : w5.heap[w4.heap.size]? = some (.cells #[.string (mkB []), .slice a4 0 c4] 28 (0, 0)) := by rw [hw5]; exact heap_alloc_new w4 _
          have hb45 : Below w4.heap.size w4 w5 := by rw [hw5]; exact (Below.refl _ w4).alloc (Nat.le_refl _) _
          obtain ⟨g5, hg5⟩ : ∃ g5, g5 = w4.heap.size := ⟨_, rfl⟩
          rw [← hg5] at b5
          go_upto_region 8 with fail
          rw [← hw5, ← hg5]
          clear hw5 hg5
          have c5 := fun i => cell_block b5 i
          clear hb45
          go_wp2_with fail
          go_ret
          exact ⟨rfl, HB1.out.trans (HB6.out.mono hgs)⟩
        · have HR : Hid (R = (0, u.name.data.toList, TokP.ownB u)) := Lib.hid (by rw [Hlaw.out rfl ht, if_neg t4])
          clear ht
          rw [HR.out] at HC2
          clear HR Hlaw Hout hnow
          go_wp2_with fail
          refine HC2.out.mono ?_
          rintro E w4 ⟨gv, rfl, hgv, hb⟩
          have HB5 := Lib.hid (HB4.out.trans (hb.mono HB4.out.size))
          obtain ⟨a4, c4, e4, _, _⟩ := hgv.len
          rw [hown, hng] at e4
          subst e4
          have hgv2 : StrAt w4 (.slice a4 ng c4) u.groups := by have h9 := hgv; dsimp only at h9; rw [hown] at h9; exact h9
          have HGV := Lib.hid hgv2
          rw [mkB_of]
          clear hgv2
          clear hb HC2 hgv
          obtain ⟨w5, hw5⟩ : ∃ w5, w5 = w4.alloc (.cells #[.string u.name, .slice a4 ng c4] 28) := ⟨_, rfl⟩
          have HB6 : Hid (Below W.heap.size W w5) := Lib.hid (by rw [hw5]; exact HB5.out.alloc HB5.out.size _)
          have b5 : w5.heap[w4.heap.size]? = some (.cells #[.string u.name, .slice a4 ng c4] 28 (0, 0)) := by rw [hw5]; exact heap_alloc_new w4 _
          have hb45 : Below w4.heap.size w4 w5 := by rw [hw5]; exact (Below.refl _ w4).alloc (Nat.le_refl _) _
          obtain ⟨g5, hg5⟩ : ∃ g5, g5 = w4.heap.size := ⟨_, rfl⟩
          rw [← hg5] at b5
          go_upto_region 8 with fail
          rw [← hw5, ← hg5]
          clear hw5 hg5
          have c5 := fun i => cell_block b5 i
          have HSm := Lib.hid (sameUser_yes u.name (.slice a1 ng c1) (.slice a4 ng c4) u.groups w5 (SW.out.below HB6.out) (HGV.out.below hb45) hgl)
          have c6 := fun i => (HB6.out.cell (p := ⟨g, i, none⟩) hlt).trans (cc i)
          clear hb45 cc b5 HGV
          go_wp2_with fail
          refine HSm.out.mono ?_
          rintro E w6 ⟨rfl, hb⟩
          have HB7 := Lib.hid (HB6.out.trans (hb.mono HB6.out.size))
          clear hb HSm
          go_wp2_with fail
          go_ret
          exact ⟨rfl, HB1.out.trans (HB7.out.mono hgs)⟩
      · have t3 : 1099511627776 < now := by omega
        have HR : Hid (R = (1, [], [])) := Lib.hid (Hout.out (by rw [hnow, decide_eq_false t2]; simp))
        rw [HR.out] at HC2
        clear HR Hlaw Hout hnow
        go_wp2_with fail
        refine HC2.out.mono ?_
        rintro E w4 ⟨gv, rfl, hgv, hb⟩
        have HB5 := Lib.hid (HB4.out.trans (hb.mono HB4.out.size))
        obtain ⟨a4, c4, e4, _, _⟩ := hgv.len
        simp only [List.map_nil, List.length_nil] at e4
        subst e4
        clear hb HC2 hgv
        obtain ⟨w5, hw5⟩ : ∃ w5, w5 = w4.alloc (.cells #[.string (mkB []), .slice a4 0 c4] 28) := ⟨_, rfl⟩
        have HB6 : Hid (Below W.heap.size W w5) := Lib.hid (by rw [hw5]; exact HB5.out.alloc HB5.out.size _)
        have b5 : w5.heap[w4.heap.size]? = some (.cells #[.string (mkB []), .slice a4 0 c4] 28 (0, 0)) := by rw [hw5]; exact heap_alloc_new w4 _
        have hb45 : Below w4.heap.size w4 w5 := by rw [hw5]; exact (Below.refl _ w4).alloc (Nat.le_refl _) _
        obtain ⟨g5, hg5⟩ : ∃ g5, g5 = w4.heap.size := ⟨_, rfl⟩
        rw [← hg5] at b5
        go_upto_region 8 with fail
        rw [← hw5, ← hg5]
        clear hw5 hg5
        have c5 := fun i => cell_block b5 i
        clear hb45
        go_wp2_with fail
        go_ret
        exact ⟨rfl, HB1.out.trans (HB6.out.mono hgs)⟩
  · have q9 : (E0 != 0) = true := by rw [bne_iff_ne]; exact he
    obtain rfl := Hno.out he
    have t0 : (mkB []).toList.isEmpty = true := by rw [bytes_empty]; rfl
    clear he HC Hno Hlaw Hout
    go_wp2_with fail
    go_ret
    exact ⟨by first | rfl | (rw [t0] <;> rfl), HB1.out.trans (HB4.out.mono hgs)⟩
end Go.Proofs.YtlbolbkikkiifaaDoor
/- The law TokenOne. -/
namespace Go.Proofs.YtlbolbkikkiifaaDoor
open Go.RowKit
open JP (Bs)

set_option maxRecDepth 100000 in
set_option maxHeartbeats 6400000 in
theorem tokenOne_walk (key t : ByteArray) (now : Int) (w : World) (wf : (Lit.int .i64 now).wf = true) (hbulk : key.data.toList.length + 1 + (t.data.toList.length + 1 + (1 + 0)) ≤ 1048576) (hE : Env w) :
    Calls Tryd.prog 6 #[.string key, .string t, .int .i64 now] w fun e w' => e = .returned (.bool true) ∧ Below w.heap.size w w' := by
  have hks : key.size ≤ 1048576 := by rw [list_size] at hbulk; omega
  have hts : t.size ≤ 1048575 := by rw [list_size t] at hbulk; omega
  obtain ⟨mx, hmx⟩ := hE.2.2
  have HC := Lib.hid (check_tok key t now w hks hts hE)
  have HN := Lib.hid (fun (w' : World) (h : Below w.heap.size w w') => none_tok w' (hE.below h))
  have HS := Lib.hid (fun (w' : World) (h : Below w.heap.size w w') => split_any t 46 mx w' (by omega) (hmx.below h))
  have hone := @TokP.one key.data.toList t.data.toList now
  have hbad := @TokP.bad key.data.toList t.data.toList now
  obtain ⟨R, hR⟩ : ∃ R, TokP.checkP key.data.toList t.data.toList now = R := ⟨_, rfl⟩
  rw [hR] at HC hone hbad
  have Hone := Lib.hid hone
  have Hbad := Lib.hid hbad
  have HEn := Lib.hid hE
  have HB0 := Lib.hid (Below.refl w.heap.size w)
  clear hone hbad hR hmx hbulk wf hE
  by_cases h0 : R.1 = 0
  · obtain ⟨a, b, d, g, v, rfl, hti, hsp, hie, hit, hnv, hv0, hv1⟩ := Hone.out h0
    obtain ⟨nv, rfl⟩ : ∃ nv : Nat, v = (nv : Int) := ⟨v.toNat, by omega⟩
    clear Hone Hbad h0 hti
    unfold ChkAt at HC
    dsimp only at HC
    have hdec := dec_itoa hv0
    have hdl := dec_length13 hv0 hv1
    obtain ⟨C, hCd⟩ : ∃ C, mkB (Lib.itoa (nv : Int)) = C := ⟨_, rfl⟩
    have hCl : C.data.toList = Lib.itoa (nv : Int) := by rw [← hCd, mkB_list]
    rw [← hCl] at hsp hdec hdl
    have hCs : C.size ≤ 13 := by rw [← list_size]; exact hdl
    obtain ⟨m, hm⟩ : ∃ m, C.size = m := ⟨_, rfl⟩
    have hit' : mkB (TokP.issueT key.data.toList (TokP.mkU a g) (nv : Int)) = t := by rw [hit, mkB_of]
    obtain ⟨hik, hiu, _⟩ := TokP.issue_parts hie
    have hup := TokP.user_parts hiu
    have hug : okS (TokP.mkU a g).groups := ⟨by have := hup.2.2.1; omega, fun x hx => by have := (hup.2.2.2 x hx).2; omega⟩
    have huz : (TokP.mkU a g).name.size ≤ 1048576 := by have := hup.2.1; omega
    have HIs := Lib.hid (fun (w' : World) (y : Value) (h : Below w.heap.size w w') (hy : StrAt w' y (g.map mkB)) => issue_any key (TokP.mkU a g) y (nv : Int) w' ⟨_, rfl, hy⟩ huz hug (by omega) (by omega) hks (HEn.out.below h).1)
    unfold IssAt at HIs
    rw [hie, hit'] at HIs
    have HUs := Lib.hid (fun (w' : World) (y : Value) (hy : StrAt w' y (g.map mkB)) => user_any y (TokP.mkU a g) w' ⟨_, rfl, hy⟩ huz hug)
    rw [hiu] at HUs
    obtain ⟨A, hA⟩ : ∃ A, mkB a = A := ⟨_, rfl⟩
    have hAn : (TokP.mkU a g).name = A := hA
    rw [hAn] at HIs HUs
    rw [hA] at HC
    obtain ⟨gl, hgl⟩ : ∃ n, (g.map mkB).length = n := ⟨_, rfl⟩
    have Hsp := Lib.hid hsp
    have Hdec := Lib.hid hdec
    have HCs := Lib.hid hm
    rw [hm] at hCs
    have m1 : min (m : Int) 13 = (m : Int) := by omega
    clear hit' hit hie hik hiu hup hug huz hA hAn hCl hCd hdl hdec hsp hm
    go_enter Tryd.func6, Tryd.ntmps6
    go_wp2_with fail
    refine HC.out.mono ?_
    rintro E w1 ⟨gv, rfl, hgv, hb⟩
    obtain ⟨a1, c1, e1, _, _⟩ := hgv.len
    rw [hgl] at e1
    subst e1
    have HB1 := Lib.hid hb
    have HG1 := Lib.hid hgv
    clear hb hgv HC
    obtain ⟨w2, hw2⟩ : ∃ w2, w2 = w1.alloc (.cells #[.string A, .slice a1 gl c1] 28) := ⟨_, rfl⟩
    have b2 : w2.heap[w1.heap.size]? = some (.cells #[.string A, .slice a1 gl c1] 28 (0, 0)) := by rw [hw2]; exact heap_alloc_new w1 _
    have hb12 : Below w1.heap.size w1 w2 := by rw [hw2]; exact (Below.refl _ w1).alloc (Nat.le_refl _) _
    have HB2 := Lib.hid (HB1.out.trans (hb12.mono HB1.out.size))
    have HG2 := Lib.hid (HG1.out.below hb12)
    obtain ⟨g2, hg2⟩ : ∃ g2, g2 = w1.heap.size := ⟨_, rfl⟩
    rw [← hg2] at b2
    have hl2 : g2 < w2.heap.size := block_lt b2
    go_upto_region 2 with fail
    rw [← hw2, ← hg2]
    clear hw2 hg2 hb12 HG1 HB1
    go_wp2_with fail
    refine (HN.out w2 HB2.out).mono ?_
    rintro E w3 ⟨gw, rfl, hgw, hb⟩
    obtain ⟨a3, c3, e3, _, _⟩ := hgw.len
    simp only [List.length_nil] at e3
    subst e3
    have B3 := (hb.block g2 hl2).trans b2
    have HB3 := Lib.hid (HB2.out.trans (hb.mono HB2.out.size))
    have HG3 := Lib.hid (HG2.out.below hb)
    clear hgw hb HN HG2 HB2 b2 hl2
    obtain ⟨w4, hw4⟩ : ∃ w4, w4 = w3.alloc (.cells #[.string ⟨#[]⟩, .slice a3 0 c3] 28) := ⟨_, rfl⟩
    have hb34 : Below w3.heap.size w3 w4 := by rw [hw4]; exact (Below.refl _ w3).alloc (Nat.le_refl _) _
    have HB4 := Lib.hid (HB3.out.trans (hb34.mono HB3.out.size))
    have B4 := (hb34.block g2 (block_lt B3)).trans B3
    have HG4 := Lib.hid (HG3.out.below hb34)
    go_upto_region 3 with fail
    rw [← hw4]
    clear hw4 hb34 HG3 HB3 B3
    have hl4 : g2 < w4.heap.size := block_lt B4
    go_wp2_with fail
    refine (HS.out w4 HB4.out).mono ?_
    rintro E w5 ⟨L, hL, rfl, bL, _, hb⟩
    have hL9 := hL.trans Hsp.out
    obtain ⟨x1, x2, x3, x4, rfl⟩ := four (L := L) (by have := congrArg List.length hL9; rw [List.length_map] at this; exact this)
    have hx3 : x3 = C := by
      simp only [List.map_cons, List.cons.injEq] at hL9
      exact toList_inj (by rw [ByteArray.toList_eq, ByteArray.toList_eq]; exact hL9.2.2.1)
    subst hx3
    obtain ⟨gL, hgL⟩ : ∃ gL, gL = w4.heap.size := ⟨_, rfl⟩
    rw [← hgL] at bL ⊢
    have bL' : w5.heap[gL]? = some (.cells #[.string x1, .string x2, .string x3, .string x4] 9 (0, 0)) := bL
    have hlL : gL < w5.heap.size := block_lt bL'
    have B5 := (hb.block g2 hl4).trans B4
    have HB5 := Lib.hid (HB4.out.trans (hb.mono HB4.out.size))
    have HG5 := Lib.hid (HG4.out.below hb)
    have hl5 : g2 < w5.heap.size := block_lt B5
    have c5 := fun i => cell_block B5 i
    clear bL hb HS HG4 HB4 B4 hL hL9 hl4 hgL
    go_wp2_with fail
    refine (HUs.out w5 _ HG5.out).mono ?_
    rintro E w6 ⟨rfl, hb⟩
    have B6 := (hb.block g2 hl5).trans B5
    have bL6 := (hb.block gL hlL).trans bL'
    have HB6 := Lib.hid (HB5.out.trans (hb.mono HB5.out.size))
    have HG6 := Lib.hid (HG5.out.below hb)
    have c6 := fun i => cell_block B6 i
    have cL := fun i => cell_block bL6 i
    clear hb HUs HG5 HB5 B5 bL' c5
    have hsz := HCs.out
    go_wp2_with fail
    clear hsz
    have Hdec2 : Hid (Lib.decFrom 0 (x3.data.toList.drop 0) = some nv) := Lib.hid (by rw [List.drop_zero, Hdec.out]; simp)
    go_loopg [12, 49] m (fun k u12 u49 wr => ∃ i acc : Nat, i + k = m ∧ u49 = .int .i64 (i : Int) ∧ u12 = .int .i64 (acc : Int) ∧ Hid (Lib.decFrom acc (x3.data.toList.drop i) = some nv) ∧ w6 = wr)
    case atStart => exact ⟨0, 0, by omega, rfl, rfl, Hdec2, rfl⟩
    case round =>
      obtain ⟨i, acc, him, rfl, rfl, Hacc, rfl⟩ := hrel
      have hle := dec_mono _ _ _ Hacc.out
      cases gk with
      | zero =>
        obtain rfl : i = m := by omega
        have hfin : acc = nv := by
          have h9 := Hacc.out
          rw [List.drop_eq_nil_of_le (by rw [list_size, HCs.out]; exact Nat.le_refl _)] at h9
          simpa [Lib.decFrom] using h9
        subst hfin
        have tq : (t.toList == t.toList) = true := by simp
        have HI2 := Lib.hid (HIs.out w6 _ HB6.out HG6.out)
        clear HIs Hacc Hdec Hdec2 Hsp hle
        go_wp2_with fail
        refine HI2.out.mono ?_
        rintro E w7 ⟨rfl, hb⟩
        have HB7 := Lib.hid (HB6.out.trans (hb.mono HB6.out.size))
        clear hb HI2
        go_wp2_with fail
        go_ret
        exact ⟨rfl, HB7.out⟩
      | succ k =>
        have him2 : i < m := by omega
        have hix : i < x3.size := by rw [HCs.out]; exact him2
        obtain ⟨c, hc⟩ : ∃ c, x3.data.toList[i]? = some c := ⟨x3.data.toList[i]'(by rw [list_size]; exact hix), List.getElem?_eq_getElem _⟩
        obtain ⟨dd, hd10, hcd, hnext⟩ := dec_step Hacc.out hc
        have hxc : x3[i] = c := by
          have h9 := (List.getElem?_eq_some_iff.1 hc).2
          rw [← h9]; rfl
        have hle2 := dec_mono _ _ _ hnext
        have q1 : (0 : Int) ≤ (i : Int) := by omega
        have q2 : (i : Int) < (m : Int) := by omega
        have e1 : (x3[i].toNat : Int) = 48 + (dd : Int) := by rw [hxc, hcd]; omega
        have hd0 : (0 : Int) ≤ (dd : Int) ∧ (dd : Int) < 10 := by omega
        obtain ⟨hd1, hd2⟩ := hd0
        have ha1 : (0 : Int) ≤ (acc : Int) := by omega
        have ha2 : (acc : Int) * 10 + (dd : Int) ≤ 1099511627776 := by omega
        have Hnext := Lib.hid hnext
        clear hc hcd hxc hnext
        go_wp2_with fail
        go_roundg k
        case measure => omega
        case rel => exact ⟨i + 1, acc * 10 + dd, by omega, by go_num, by go_num, Hnext, rfl⟩
  · have hR2 := Hbad.out h0
    have h1 := HC
    unfold ChkAt at h1
    obtain ⟨E0, hE0⟩ : ∃ e, R.1 = e := ⟨_, rfl⟩
    rw [hE0] at hR2 h0
    subst hR2
    dsimp only at h1
    have q9 : (E0 != 0) = true := by rw [bne_iff_ne]; exact h0
    have HC1 := Lib.hid h1.out
    clear HC h1 Hone Hbad h0 hE0
    go_enter Tryd.func6, Tryd.ntmps6
    go_wp2_with fail
    refine HC1.out.mono ?_
    rintro E w1 ⟨gv, rfl, hgv, hb⟩
    obtain ⟨a1, c1, e1, _, _⟩ := hgv.len
    simp only [List.map_nil, List.length_nil] at e1
    subst e1
    have HB1 := Lib.hid hb
    have HG1 : Hid (StrAt w1 (.slice a1 0 c1) []) := Lib.hid hgv
    have em : mkB [] = (⟨#[]⟩ : ByteArray) := rfl
    rw [em]
    clear hb hgv HC1 em
    obtain ⟨w2, hw2⟩ : ∃ w2, w2 = w1.alloc (.cells #[.string ⟨#[]⟩, .slice a1 0 c1] 28) := ⟨_, rfl⟩
    have b2 : w2.heap[w1.heap.size]? = some (.cells #[.string ⟨#[]⟩, .slice a1 0 c1] 28 (0, 0)) := by rw [hw2]; exact heap_alloc_new w1 _
    have hb12 : Below w1.heap.size w1 w2 := by rw [hw2]; exact (Below.refl _ w1).alloc (Nat.le_refl _) _
    have HB2 := Lib.hid (HB1.out.trans (hb12.mono HB1.out.size))
    have HG2 := Lib.hid (HG1.out.below hb12)
    obtain ⟨g2, hg2⟩ : ∃ g2, g2 = w1.heap.size := ⟨_, rfl⟩
    rw [← hg2] at b2
    have hl2 : g2 < w2.heap.size := block_lt b2
    go_upto_region 2 with fail
    rw [← hw2, ← hg2]
    clear hw2 hg2 hb12 HG1 HB1
    go_wp2_with fail
    refine (HN.out w2 HB2.out).mono ?_
    rintro E w3 ⟨gw, rfl, hgw, hb⟩
    obtain ⟨a3, c3, e3, _, _⟩ := hgw.len
    simp only [List.length_nil] at e3
    subst e3
    have B3 := (hb.block g2 hl2).trans b2
    have HB3 := Lib.hid (HB2.out.trans (hb.mono HB2.out.size))
    have HG3 := Lib.hid (HG2.out.below hb)
    clear hgw hb HN HG2 HB2 b2 hl2
    obtain ⟨w4, hw4⟩ : ∃ w4, w4 = w3.alloc (.cells #[.string ⟨#[]⟩, .slice a3 0 c3] 28) := ⟨_, rfl⟩
    have hb34 : Below w3.heap.size w3 w4 := by rw [hw4]; exact (Below.refl _ w3).alloc (Nat.le_refl _) _
    have HB4 := Lib.hid (HB3.out.trans (hb34.mono HB3.out.size))
    have B4 := (hb34.block g2 (block_lt B3)).trans B3
    have HSm := Lib.hid (sameUser_yes ⟨#[]⟩ (.slice a1 0 c1) (.slice none 0 0) [] w4 (HG3.out.below hb34) (StrAt.nil _) (by decide))
    go_upto_region 3 with fail
    rw [← hw4]
    clear hw4 hb34 HG3 HB3 B3
    have c4 := fun i => cell_block B4 i
    go_wp2_with fail
    refine HSm.out.mono ?_
    rintro E w5 ⟨rfl, hb⟩
    have HB5 := Lib.hid (HB4.out.trans (hb.mono HB4.out.size))
    clear hb HSm
    go_wp2_with fail
    go_ret
    exact ⟨rfl, HB5.out⟩
end Go.Proofs.YtlbolbkikkiifaaDoor
