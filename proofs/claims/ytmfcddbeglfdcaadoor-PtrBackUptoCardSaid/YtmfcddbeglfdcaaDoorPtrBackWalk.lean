/- PtrBack: the law's walk. -/
import Derived.Test.YtmfcddbeglfdcaaDoorPtrSteps
import Derived.Test.YtmfcddbeglfdcaaDoorEqStr
namespace Go.Proofs.YtmfcddbeglfdcaaDoor
open Go.RowKit

theorem map_data_inj : ∀ {l m : List ByteArray}, l.map (·.data.toList) = m.map (·.data.toList) → l = m
  | [], [], _ => rfl
  | [], _ :: _, h => by cases h
  | _ :: _, [], h => by cases h
  | x :: l, y :: m, h => by
    rw [List.map_cons, List.map_cons] at h
    injection h with h1 h2
    have : x = y := by
      apply ByteArray.ext
      exact Array.toList_inj.1 h1
    rw [this, map_data_inj h2]
set_option maxRecDepth 100000 in
set_option maxHeartbeats 1600000 in
theorem ptrBack_walk (v : Value) (l : List ByteArray) (p : ByteArray) (W : World) (st : StrAt W v l) (hbulk : total l + 1 + (p.data.toList.length + 1) ≤ 1048576) (hmax : ∃ m, MaxOK m W) :
    Calls Tryd.prog 4 #[v, .string p] W fun e W' => e = .returned (.bool true) ∧ Below W.heap.size W W' := by
  obtain ⟨m, hm⟩ := hmax
  have hps : p.size ≤ 1048576 := by have : p.data.toList.length = p.size := by simp
                                    omega
  have hll : l.length ≤ 1048576 := by have := total_length l; omega
  obtain ⟨a1, c1, rfl, hc1, hc2⟩ := st.row.len
  have hJ := joinL_len l
  have Hst := Lib.hid st
  have Hm := Lib.hid hm
  have Hbulk : Hid (total l ≤ 1048576) := Lib.hid (by omega)
  clear st hm hbulk
  go_enter Tryd.func4, Tryd.ntmps4
  go_wp2_with fail
  refine (ptrJoin_any _ l m W Hst.out (by have := Hbulk.out; omega) Hm.out).mono ?_
  rintro E w1 ⟨rfl, hb1⟩
  have Hb1 := Lib.hid hb1
  clear hb1
  by_cases h10 : 10 < l.length
  · rw [if_pos h10]
    have q0 : (10 : Int) < (l.length : Int) := by omega
    go_wp2_with fail
    go_ret
    exact ⟨rfl, Hb1.out⟩
  · rw [if_neg h10]
    obtain ⟨s, Hs⟩ : ∃ s : ByteArray, Hid ((⟨(joinL l).toArray⟩ : ByteArray) = s) := ⟨_, Lib.hid rfl⟩
    rw [Hs.out]
    have hss : s.size ≤ 8388608 := by
      rw [← Hs.out]
      have h3 := Hbulk.out
      show (joinL l).toArray.size ≤ _
      rw [List.size_toArray]; omega
    have hSt : stepsP s.data.toList = (0, l.map (·.data.toList)) := by
      rw [← Hs.out]
      show stepsP (joinL l) = _
      rw [joinL_map]
      exact steps_join _ (by rw [List.length_map]; omega)
    have HSt := Lib.hid hSt
    clear hSt hJ
    go_wp2_with fail
    refine (ptrSteps_any s m w1 hss (Hm.out.below Hb1.out)).mono ?_
    rw [HSt.out]
    rintro E w2 ⟨v2, rfl, ⟨l2, hst2, hl2⟩, hb2⟩
    obtain rfl : l2 = l := map_data_inj hl2
    have hs1 := Hb1.out.size
    have Hb2 := Lib.hid (Hb1.out.trans (hb2.mono hs1))
    have Hst2 := Lib.hid hst2
    obtain ⟨a2, c2, rfl, _, _⟩ := hst2.row.len
    clear hb2 hst2 hl2
    go_wp2_with fail
    refine (ptrSteps_any p m w2 (by omega) (Hm.out.below Hb2.out)).mono ?_
    rintro E w3 ⟨v3, rfl, ⟨k, hst3, hk⟩, hb3⟩
    have hs2 := Hb2.out.size
    have Hb3 := Lib.hid (Hb2.out.trans (hb3.mono hs2))
    have Hst3 := Lib.hid hst3
    have Hst4 := Lib.hid (Hst2.out.below hb3)
    obtain ⟨a3, c3, rfl, _, _⟩ := hst3.row.len
    have Hk := Lib.hid hk
    clear hb3 hst3 hk
    obtain ⟨g, Hg⟩ : ∃ g, Hid ((stepsP p.data.toList).1 = g) := ⟨_, Lib.hid rfl⟩
    rw [Hg.out]
    have fin : ∀ w4, Below W.heap.size W w4 → StrAt w4 (.slice a2 l2.length c2) l2 → Calls Tryd.prog 15 #[.slice a1 l2.length c1, .slice a2 l2.length c2] w4 fun e w' => e = .returned (.bool true) ∧ w4 = w' := fun w4 h1 h2 =>
      (eqStrs_any _ _ l2 l2 w4 (Hst.out.below h1) h2 (by omega) (by omega)).mono fun e w' h => by rwa [decide_eq_true rfl] at h
    by_cases hg : g = 0
    · subst hg
      have hR : stepsP p.data.toList = (0, k.map (·.data.toList)) := by rw [Hk.out, ← Hg.out]
      have hj := join_steps hR
      have ht := steps_total hR
      have hk1 : total k ≤ 4194304 := by
        have h1 : total k = ((k.map (·.data.toList)).map fun s => s.length + 1).sum := by
          unfold total
          rw [List.map_map]
          congr 1
        have h2 : p.data.toList.length = p.size := by simp
        omega
      have hk2 : ¬ 10 < k.length := by have := hj.2; rw [List.length_map] at this; omega
      have hk3 : (⟨(joinL k).toArray⟩ : ByteArray) = p := by
        rw [joinL_map, hj.1]
      have Hk3 := Lib.hid hk3
      clear hj ht hR hk3
      go_wp2_with fail
      refine (ptrJoin_any _ k m w3 Hst3.out hk1 (Hm.out.below Hb3.out)).mono ?_
      rw [if_neg hk2, Hk3.out]
      rintro E w4 ⟨rfl, hb4⟩
      have hs3 := Hb3.out.size
      have Hb4 := Lib.hid (Hb3.out.trans (hb4.mono hs3))
      have Hst5 := Lib.hid (Hst4.out.below hb4)
      clear hb4 hk2
      have q9 : (p.toList == p.toList) = true := by simp
      go_wp2_with fail
      refine (fin w4 Hb4.out Hst5.out).mono ?_
      rintro E w5 ⟨rfl, rfl⟩
      go_wp2_with fail
      go_ret
      exact ⟨rfl, Hb4.out⟩
    · have q8 : (g == 0) = false := by rw [beq_eq_false_iff_ne]; exact hg
      clear hg
      go_wp2_with fail
      refine (fin w3 Hb3.out Hst4.out).mono ?_
      rintro E w5 ⟨rfl, rfl⟩
      go_wp2_with fail
      go_ret
      exact ⟨rfl, Hb3.out⟩
end Go.Proofs.YtmfcddbeglfdcaaDoor
