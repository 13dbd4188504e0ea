/- json: Quote; the laws' own canon. -/
import Derived.Test.YtaddcchpidpbfaaDoorJsonCanon
namespace Go.Proofs.YtaddcchpidpbfaaDoor
open Go.RowKit
open JP (JV Bs)

theorem ba_list (s : ByteArray) : s.toList = s.data.toList := ByteArray.toList_eq s
theorem mkB_eq (a b : Bs) : ((mkB a).toList == (mkB b).toList) = decide (a = b) := by
  rw [ba_list, ba_list, mkB_list, mkB_list]
  rw [Bool.eq_iff_iff, beq_iff_eq, decide_eq_true_iff]
theorem mkB_empty (a : Bs) : (mkB a).toList.isEmpty = decide (a = []) := by
  rw [ba_list, mkB_list]
  cases a <;> rfl
theorem stand_nat (c : UInt8) : JP.stand c = (decide (32 ≤ c.toNat ∧ c.toNat ≤ 126) || decide (c.toNat = 10) || decide (c.toNat = 9)) := by
  have e : ∀ k : UInt8, (c == k) = decide (c.toNat = k.toNat) := fun k => by
    rw [Bool.eq_iff_iff, beq_iff_eq, decide_eq_true_iff]
    exact ⟨fun h => by rw [h], fun h => UInt8.toNat_inj.1 h⟩
  unfold JP.stand
  rw [e 10, e 9]
  have a : decide (32 ≤ c) = decide (32 ≤ c.toNat) := rfl
  have b : decide (c ≤ 126) = decide (c.toNat ≤ 126) := rfl
  rw [a, b]
  by_cases h1 : 32 ≤ c.toNat <;> by_cases h2 : c.toNat ≤ 126 <;> simp [h1, h2]
theorem all_take {s : ByteArray} {i : Nat} (hi : i < s.size) (h : (s.data.toList.take i).all JP.stand = true) (hc : JP.stand s[i] = true) : (s.data.toList.take (i + 1)).all JP.stand = true := by
  have hl : i < s.data.toList.length := by rw [list_size]; exact hi
  rw [List.take_succ_eq_append_getElem hl, List.all_append, h]
  simp only [List.all_cons, List.all_nil, Bool.and_true, Bool.true_and]
  exact hc
theorem not_all {s : ByteArray} {i : Nat} (hi : i < s.size) (hc : JP.stand s[i] = false) : s.data.toList.all JP.stand = false := by
  have hl : i < s.data.toList.length := by rw [list_size]; exact hi
  rw [Bool.eq_false_iff]
  intro h
  rw [List.all_eq_true] at h
  have := h s.data.toList[i] (List.getElem_mem hl)
  rw [show s.data.toList[i] = s[i] from rfl, hc] at this
  cases this
set_option maxRecDepth 100000 in
set_option maxHeartbeats 3200000 in
theorem quoteJ_any (s : ByteArray) (w : World) (hs : s.size ≤ 1048576) :
    Calls Tryd.prog 21 #[.string s] w fun e w' => e = .returned (.tuple #[.string (mkB (JP.quoteT s.data.toList)), .int .i64 (JP.quoteE s.data.toList)]) ∧ Below w.heap.size w w' := by
  have HQ := Lib.hid (quote_any s w hs)
  obtain ⟨E0, hE⟩ : ∃ T, JP.quoteE s.data.toList = T := ⟨_, rfl⟩
  obtain ⟨T, hT⟩ : ∃ T, JP.quoteT s.data.toList = T := ⟨_, rfl⟩
  rw [hE, hT]
  have HTx := Lib.hid hT
  have HEx := Lib.hid hE
  clear hE hT
  go_enter Tryd.func21, Tryd.ntmps21
  go_wp2_with fail
  go_loopg [9] s.size (fun k u9 wx => ∃ i : Nat, i + k = s.size ∧ u9 = .int .i64 (i : Int) ∧ Hid ((s.data.toList.take i).all JP.stand = true) ∧ w = wx)
  case atStart => exact ⟨0, by omega, rfl, Lib.hid (by rw [List.take_zero]; rfl), rfl⟩
  case round =>
    obtain ⟨i, hig, rfl, HA, rfl⟩ := hrel
    cases gk with
    | zero =>
      have q1 : ¬ (i : Int) < (s.size : Int) := by omega
      have Hall : Hid (s.data.toList.all JP.stand = true) := Lib.hid (by have h := HA.out; rwa [List.take_of_length_le (by rw [list_size]; omega)] at h)
      clear HA hig
      go_wp2_with fail
      refine HQ.out.mono ?_
      rintro E w1 ⟨rfl, hb⟩
      have HB := Lib.hid hb
      obtain ⟨Q, hQ⟩ : ∃ Q, JP.quote s.data.toList = Q := ⟨_, rfl⟩
      rw [hQ]
      have HQx := Lib.hid hQ
      have hsz := mkB_size Q
      obtain ⟨m, hm⟩ : ∃ m, Q.length = m := ⟨_, rfl⟩
      rw [hm] at hsz
      have Hsz := Lib.hid hsz
      clear hb hQ HQ hsz
      by_cases hl : 2000 < m
      · have HE2 : Hid (E0 = 2) := Lib.hid (by rw [← HEx.out]; unfold JP.quoteE; rw [if_pos Hall.out, HQx.out, if_pos (by omega)])
        have HT2 : Hid (T = []) := Lib.hid (by rw [← HTx.out]; unfold JP.quoteT; rw [HEx.out, HE2.out]; rfl)
        have p1 : (2000 : Int) < ((mkB Q).size : Int) := by rw [Hsz.out]; omega
        clear hl hm
        go_wp2_with fail
        go_ret2
        exact ⟨by rw [HE2.out, HT2.out] <;> rfl, HB.out⟩
      · have HE2 : Hid (E0 = 0) := Lib.hid (by rw [← HEx.out]; unfold JP.quoteE; rw [if_pos Hall.out, HQx.out, if_neg (by omega)])
        have HT2 : Hid (T = Q) := Lib.hid (by rw [← HTx.out]; unfold JP.quoteT; rw [HEx.out, HE2.out, HQx.out]; rfl)
        have p1 : ¬ (2000 : Int) < ((mkB Q).size : Int) := by rw [Hsz.out]; omega
        clear hl hm
        go_wp2_with fail
        go_ret2
        exact ⟨by rw [HE2.out, HT2.out] <;> rfl, HB.out⟩
    | succ k =>
      have hil : i < s.size := by omega
      have q0 : decide (i < s.size) = true := decide_eq_true hil
      have q1 : (i : Int) < (s.size : Int) := by omega
      have q2 : (0 : Int) ≤ (i : Int) := by omega
      have hwr : IntKind.i64.wrap ((i : Int) + 1) = (i : Int) + 1 := IntWalk.i64_in _ (by omega)
      have hsn := stand_nat s[i]
      cases hst : JP.stand s[i] with
      | false =>
        rw [hst] at hsn
        replace hsn := hsn.symm
        simp only [Bool.or_eq_false_iff, decide_eq_false_iff_not] at hsn
        obtain ⟨⟨m1, m2⟩, m3⟩ := hsn
        have e10 : ((s[i].toNat : Int) != 10) = true := by rw [bne_iff_ne]; omega
        have e9 : ((s[i].toNat : Int) != 9) = true := by rw [bne_iff_ne]; omega
        have HE2 : Hid (E0 = 16) := Lib.hid (by rw [← HEx.out]; unfold JP.quoteE; rw [if_neg (by rw [not_all hil hst]; decide)])
        have HT2 : Hid (T = []) := Lib.hid (by rw [← HTx.out]; unfold JP.quoteT; rw [HEx.out, HE2.out]; rfl)
        clear hst HA hig
        by_cases l1 : s[i].toNat < 32
        · have p1 : (s[i].toNat : Int) < 32 := by omega
          have p2 : decide ((s[i].toNat : Int) < 32) = true := decide_eq_true p1
          clear m1 m2 m3
          go_wp2_with fail
          go_ret2
          exact ⟨by rw [HE2.out, HT2.out] <;> rfl, Below.refl _ _⟩
        · have p1 : ¬ (s[i].toNat : Int) < 32 := by omega
          have p2 : decide ((s[i].toNat : Int) < 32) = false := decide_eq_false p1
          have p3 : (126 : Int) < (s[i].toNat : Int) := by omega
          have p4 : decide ((126 : Int) < (s[i].toNat : Int)) = true := decide_eq_true p3
          clear m1 m2 m3
          go_wp2_with fail
          go_ret2
          exact ⟨by rw [HE2.out, HT2.out] <;> rfl, Below.refl _ _⟩
      | true =>
        rw [hst] at hsn
        replace hsn := hsn.symm
        simp only [Bool.or_eq_true, decide_eq_true_eq] at hsn
        have HA2 := Lib.hid (all_take hil HA.out hst)
        clear hst HA
        rcases hsn with (⟨m1, m2⟩ | m1) | m1
        · have p1 : ¬ (s[i].toNat : Int) < 32 := by omega
          have p2 : decide ((s[i].toNat : Int) < 32) = false := decide_eq_false p1
          have p3 : ¬ (126 : Int) < (s[i].toNat : Int) := by omega
          have p4 : decide ((126 : Int) < (s[i].toNat : Int)) = false := decide_eq_false p3
          clear m1 m2
          go_wp2_with fail
          go_roundg k
          case measure => omega
          case rel => exact ⟨i + 1, by omega, by go_num, HA2, rfl⟩
        · go_wp2_with fail
          go_roundg k
          case measure => omega
          case rel => exact ⟨i + 1, by omega, by go_num, HA2, rfl⟩
        · go_wp2_with fail
          go_roundg k
          case measure => omega
          case rel => exact ⟨i + 1, by omega, by go_num, HA2, rfl⟩
set_option maxRecDepth 100000 in
set_option maxHeartbeats 3200000 in
theorem canonK_any (s : ByteArray) (w : World) (hs : s.size ≤ 1048576) (ht : TabOK w) :
    Calls Tryd.prog 15 #[.string s] w fun e w' => e = .returned (.tuple #[.string (mkB (JP.canonT s.data.toList)), .bool (JP.canonE s.data.toList == 0)]) ∧ Below w.heap.size w w' := by
  have HC := Lib.hid (canon_any s w hs ht)
  obtain ⟨E0, hE⟩ : ∃ T, JP.canonE s.data.toList = T := ⟨_, rfl⟩
  obtain ⟨T, hT⟩ : ∃ T, JP.canonT s.data.toList = T := ⟨_, rfl⟩
  rw [hE, hT] at HC ⊢
  clear hE hT ht
  go_enter Tryd.func15, Tryd.ntmps15
  go_wp2_with fail
  refine HC.out.mono ?_
  rintro E w1 ⟨rfl, hb⟩
  have HB := Lib.hid hb
  clear hb
  go_wp2_with fail
  go_ret2
  exact ⟨rfl, HB.out⟩
end Go.Proofs.YtaddcchpidpbfaaDoor
