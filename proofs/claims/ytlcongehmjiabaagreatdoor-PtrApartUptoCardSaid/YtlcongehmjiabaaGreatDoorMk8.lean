/- Texts of ours joined: PtrApartWalk. -/
import Derived.Test.YtlcongehmjiabaaGreatDoorMk7
/- The law PtrApart. -/
namespace Go.Proofs.YtlcongehmjiabaaGreatDoor
open Go.RowKit
open JP (JV Bs)

theorem prefix_c (s p : ByteArray) (w : World) : Calls Tryz.prog 11 #[.string s, .string p] w fun e w' => e = .returned (.bool (Lib.hasPrefix s.data.toList p.data.toList)) ∧ w = w' :=
  (Tryz.strings_HasPrefix s p w).mono fun _ _ h => ⟨h.1, h.2.symm⟩
set_option maxRecDepth 100000 in
set_option maxHeartbeats 6400000 in
theorem ptrApart_walk (d p q v u : ByteArray) (w : World) (hbulk : d.data.toList.length + 1 + (p.data.toList.length + 1 + (q.data.toList.length + 1 + (v.data.toList.length + 1 + (u.data.toList.length + 1 + 0)))) ≤ 1048576) (hE : Env w) :
    Calls Tryz.prog 3 #[.string d, .string p, .string q, .string v, .string u] w fun e w' => e = .returned (.bool true) ∧ Below w.heap.size w w' := by
  have hd : d.size ≤ 1048576 := by rw [list_size d] at hbulk; omega
  have hp : p.size ≤ 1048576 := by rw [list_size p] at hbulk; omega
  have hq : q.size ≤ 1048576 := by rw [list_size q] at hbulk; omega
  have hv : v.size ≤ 1048576 := by rw [list_size v] at hbulk; omega
  have hu : u.size ≤ 1048576 := by rw [list_size u] at hbulk; omega
  have HB0 := Lib.hid (Below.refl w.heap.size w)
  obtain ⟨w0, hw0⟩ : ∃ x, x = w := ⟨_, rfl⟩
  have t0 : (mkB []).toList.isEmpty = true := by rw [mkB_empty]; rfl
  have H1 := Lib.hid (fun (w' : World) (h : Below w.heap.size w w') => pget_any d p w' hd hp (hE.below h))
  have H2 := Lib.hid (fun (w' : World) (h : Below w.heap.size w w') => pget_any d q w' hd hq (hE.below h))
  have H3 := Lib.hid (fun (w' : World) (h : Below w.heap.size w w') => pget_any ⟨#[49]⟩ ⟨#[47, 97]⟩ w' (by decide) (by decide) (hE.below h))
  have H6 := Lib.hid (fun (w' : World) (h : Below w.heap.size w w') => pput_any d p v w' hd hp hv (hE.below h))
  have H7 := Lib.hid (fun (w' : World) (h : Below w.heap.size w w') => pput_any d q u w' hd hq hu (hE.below h))
  have H4 := Lib.hid (fun (w' : World) => prefix_c p (q ++ ⟨#[47]⟩) w')
  have H5 := Lib.hid (fun (w' : World) => prefix_c q (p ++ ⟨#[47]⟩) w')
  rw [JP.ptr_const2] at H3
  have key := @JP.ptr_apart d.data.toList p.data.toList q.data.toList v.data.toList u.data.toList
  have ne0 : p ≠ q → p.data.toList ≠ q.data.toList := fun h e => h (by rw [← mkB_of p, ← mkB_of q, e])
  have sl : (ByteArray.mk #[47]).size = 1 := rfl
  have sq : ¬ 9223372036854775807 < q.size + (ByteArray.mk #[47]).size := by rw [sl]; omega
  have sp : ¬ 9223372036854775807 < p.size + (ByteArray.mk #[47]).size := by rw [sl]; omega
  rw [show (q ++ ⟨#[47]⟩ : ByteArray).data.toList = q.data.toList ++ [47] from by rw [ByteArray.data_append]; simp] at H4
  rw [show (p ++ ⟨#[47]⟩ : ByteArray).data.toList = p.data.toList ++ [47] from by rw [ByteArray.data_append]; simp] at H5
  obtain ⟨B4, hB4⟩ : ∃ B, Lib.hasPrefix p.data.toList (q.data.toList ++ [47]) = B := ⟨_, rfl⟩
  obtain ⟨B5, hB5⟩ : ∃ B, Lib.hasPrefix q.data.toList (p.data.toList ++ [47]) = B := ⟨_, rfl⟩
  rw [hB4] at H4 key
  rw [hB5] at H5 key
  obtain ⟨T3, hT3⟩ : ∃ T, JP.getT (⟨#[49]⟩ : ByteArray).data.toList (⟨#[47, 97]⟩ : ByteArray).data.toList = T := ⟨_, rfl⟩
  rw [hT3] at H3
  obtain ⟨T1, hT1⟩ : ∃ T, JP.getT d.data.toList p.data.toList = T := ⟨_, rfl⟩
  rw [hT1] at H1
  obtain ⟨T2, hT2⟩ : ∃ T, JP.getT d.data.toList q.data.toList = T := ⟨_, rfl⟩
  rw [hT2] at H2
  obtain ⟨E1, hE1⟩ : ∃ E, JP.getE d.data.toList p.data.toList = E := ⟨_, rfl⟩
  rw [hE1] at H1 key
  obtain ⟨E2, hE2⟩ : ∃ E, JP.getE d.data.toList q.data.toList = E := ⟨_, rfl⟩
  rw [hE2] at H2 key
  obtain ⟨E6, hE6⟩ : ∃ E, JP.putE d.data.toList p.data.toList v.data.toList = E := ⟨_, rfl⟩
  rw [hE6] at H6 key
  obtain ⟨E7, hE7⟩ : ∃ E, JP.putE d.data.toList q.data.toList u.data.toList = E := ⟨_, rfl⟩
  rw [hE7] at H7 key
  have l6 := JP.putT_len d.data.toList p.data.toList v.data.toList
  have l7 := JP.putT_len d.data.toList q.data.toList u.data.toList
  obtain ⟨T6, hT6⟩ : ∃ T, JP.putT d.data.toList p.data.toList v.data.toList = T := ⟨_, rfl⟩
  rw [hT6] at H6 key l6
  obtain ⟨T7, hT7⟩ : ∃ T, JP.putT d.data.toList q.data.toList u.data.toList = T := ⟨_, rfl⟩
  rw [hT7] at H7 key l7
  have H8 := Lib.hid (fun (w' : World) (h : Below w.heap.size w w') => pput_any (mkB T6) q u w' (by rw [mkB_size]; omega) hq hu (hE.below h))
  have H9 := Lib.hid (fun (w' : World) (h : Below w.heap.size w w') => pput_any (mkB T7) p v w' (by rw [mkB_size]; omega) hp hv (hE.below h))
  rw [mkB_list] at H8 H9
  clear hT1 hT2 hT3 hE1 hE2 hE6 hE7 hT6 hT7 hB4 hB5 l6 l7 hE hbulk sl
  by_cases z1 : E1 = 0
  · by_cases z2 : E2 = 0
    · by_cases pq : p = q
      · subst pq
        have c1 : (p.toList == p.toList) = true := by simp
        clear key ne0 H4 H5 H6 H7 H8 H9
        subst z1; subst z2
        clear hd hp hq hv hu
        subst hw0
        go_enter Tryz.func3, Tryz.ntmps3
        go_wp2_with fail
        refine (H1.out w0 HB0.out).mono ?_
        rintro E w1 ⟨rfl, hb⟩
        have HB1 := Lib.hid (HB0.out.trans (hb.mono HB0.out.size))
        clear hb
        go_wp2_with fail
        refine (H2.out w1 HB1.out).mono ?_
        rintro E w2 ⟨rfl, hb⟩
        have HB2 := Lib.hid (HB1.out.trans (hb.mono HB1.out.size))
        clear hb
        go_wp2_with fail
        refine (H3.out w2 HB2.out).mono ?_
        rintro E w3 ⟨rfl, hb⟩
        have HB3 := Lib.hid (HB2.out.trans (hb.mono HB2.out.size))
        clear hb
        go_wp2_with fail
        go_ret
        exact ⟨by first | rfl | (rfl), HB3.out⟩
      · have c1 : (p.toList == q.toList) = false := by rw [beq_eq_false_iff_ne, ByteArray.toList_eq, ByteArray.toList_eq]; exact ne0 pq
        have hne := Lib.hid (ne0 pq)
        clear pq
        cases B4 with
        | true =>
          clear key ne0 H5 H6 H7 H8 H9
          subst z1; subst z2
          clear hd hp hq hv hu
          subst hw0
          go_enter Tryz.func3, Tryz.ntmps3
          go_wp2_with fail
          refine (H1.out w0 HB0.out).mono ?_
          rintro E w1 ⟨rfl, hb⟩
          have HB1 := Lib.hid (HB0.out.trans (hb.mono HB0.out.size))
          clear hb
          go_wp2_with fail
          refine (H2.out w1 HB1.out).mono ?_
          rintro E w2 ⟨rfl, hb⟩
          have HB2 := Lib.hid (HB1.out.trans (hb.mono HB1.out.size))
          clear hb
          go_wp2_with fail
          refine (H3.out w2 HB2.out).mono ?_
          rintro E w3 ⟨rfl, hb⟩
          have HB3 := Lib.hid (HB2.out.trans (hb.mono HB2.out.size))
          clear hb
          go_wp2_with fail
          refine (H4.out _).mono ?_
          rintro E w9 ⟨rfl, rfl⟩
          go_wp2_with fail
          go_ret
          exact ⟨by first | rfl | (rfl), HB3.out⟩
        | false =>
          cases B5 with
          | true =>
            clear key ne0 H6 H7 H8 H9
            subst z1; subst z2
            clear hd hp hq hv hu
            subst hw0
            go_enter Tryz.func3, Tryz.ntmps3
            go_wp2_with fail
            refine (H1.out w0 HB0.out).mono ?_
            rintro E w1 ⟨rfl, hb⟩
            have HB1 := Lib.hid (HB0.out.trans (hb.mono HB0.out.size))
            clear hb
            go_wp2_with fail
            refine (H2.out w1 HB1.out).mono ?_
            rintro E w2 ⟨rfl, hb⟩
            have HB2 := Lib.hid (HB1.out.trans (hb.mono HB1.out.size))
            clear hb
            go_wp2_with fail
            refine (H3.out w2 HB2.out).mono ?_
            rintro E w3 ⟨rfl, hb⟩
            have HB3 := Lib.hid (HB2.out.trans (hb.mono HB2.out.size))
            clear hb
            go_wp2_with fail
            refine (H4.out _).mono ?_
            rintro E w9 ⟨rfl, rfl⟩
            go_wp2_with fail
            refine (H5.out _).mono ?_
            rintro E w9 ⟨rfl, rfl⟩
            go_wp2_with fail
            go_ret
            exact ⟨by first | rfl | (rfl), HB3.out⟩
          | false =>
            by_cases z6 : E6 = 0
            · by_cases z7 : E7 = 0
              · obtain ⟨k1, k2⟩ := key z1 z2 hne.out rfl rfl z6 z7
                rw [k1, k2] at H8
                clear key ne0 k1 k2
                subst z1; subst z2; subst z6; subst z7
                obtain ⟨T9, hT9⟩ : ∃ T, JP.putT T7 p.data.toList v.data.toList = T := ⟨_, rfl⟩
                obtain ⟨E9, hE9⟩ : ∃ T, JP.putE T7 p.data.toList v.data.toList = T := ⟨_, rfl⟩
                rw [hT9, hE9] at H8 H9
                clear hT9 hE9
                have t2 : ((mkB T9).toList == (mkB T9).toList) = true := by simp
                have t4 : (E9 == E9) = true := by simp
                clear hd hp hq hv hu
                subst hw0
                go_enter Tryz.func3, Tryz.ntmps3
                go_wp2_with fail
                refine (H1.out w0 HB0.out).mono ?_
                rintro E w1 ⟨rfl, hb⟩
                have HB1 := Lib.hid (HB0.out.trans (hb.mono HB0.out.size))
                clear hb
                go_wp2_with fail
                refine (H2.out w1 HB1.out).mono ?_
                rintro E w2 ⟨rfl, hb⟩
                have HB2 := Lib.hid (HB1.out.trans (hb.mono HB1.out.size))
                clear hb
                go_wp2_with fail
                refine (H3.out w2 HB2.out).mono ?_
                rintro E w3 ⟨rfl, hb⟩
                have HB3 := Lib.hid (HB2.out.trans (hb.mono HB2.out.size))
                clear hb
                go_wp2_with fail
                refine (H4.out _).mono ?_
                rintro E w9 ⟨rfl, rfl⟩
                go_wp2_with fail
                refine (H5.out _).mono ?_
                rintro E w9 ⟨rfl, rfl⟩
                go_wp2_with fail
                refine (H6.out w3 HB3.out).mono ?_
                rintro E w4 ⟨rfl, hb⟩
                have HB4 := Lib.hid (HB3.out.trans (hb.mono HB3.out.size))
                clear hb
                go_wp2_with fail
                refine (H7.out w4 HB4.out).mono ?_
                rintro E w5 ⟨rfl, hb⟩
                have HB5 := Lib.hid (HB4.out.trans (hb.mono HB4.out.size))
                clear hb
                go_wp2_with fail
                refine (H8.out w5 HB5.out).mono ?_
                rintro E w6 ⟨rfl, hb⟩
                have HB6 := Lib.hid (HB5.out.trans (hb.mono HB5.out.size))
                clear hb
                go_wp2_with fail
                refine (H9.out w6 HB6.out).mono ?_
                rintro E w7 ⟨rfl, hb⟩
                have HB7 := Lib.hid (HB6.out.trans (hb.mono HB6.out.size))
                clear hb
                go_wp2_with fail
                go_ret
                exact ⟨by first | rfl | (simp only [t2, t4] <;> rfl), HB7.out⟩
              · have n7 : (E7 != 0) = true := by rw [bne_iff_ne]; exact z7
                clear key ne0 H8 H9
                subst z1; subst z2; subst z6
                clear hd hp hq hv hu
                subst hw0
                go_enter Tryz.func3, Tryz.ntmps3
                go_wp2_with fail
                refine (H1.out w0 HB0.out).mono ?_
                rintro E w1 ⟨rfl, hb⟩
                have HB1 := Lib.hid (HB0.out.trans (hb.mono HB0.out.size))
                clear hb
                go_wp2_with fail
                refine (H2.out w1 HB1.out).mono ?_
                rintro E w2 ⟨rfl, hb⟩
                have HB2 := Lib.hid (HB1.out.trans (hb.mono HB1.out.size))
                clear hb
                go_wp2_with fail
                refine (H3.out w2 HB2.out).mono ?_
                rintro E w3 ⟨rfl, hb⟩
                have HB3 := Lib.hid (HB2.out.trans (hb.mono HB2.out.size))
                clear hb
                go_wp2_with fail
                refine (H4.out _).mono ?_
                rintro E w9 ⟨rfl, rfl⟩
                go_wp2_with fail
                refine (H5.out _).mono ?_
                rintro E w9 ⟨rfl, rfl⟩
                go_wp2_with fail
                refine (H6.out w3 HB3.out).mono ?_
                rintro E w4 ⟨rfl, hb⟩
                have HB4 := Lib.hid (HB3.out.trans (hb.mono HB3.out.size))
                clear hb
                go_wp2_with fail
                refine (H7.out w4 HB4.out).mono ?_
                rintro E w5 ⟨rfl, hb⟩
                have HB5 := Lib.hid (HB4.out.trans (hb.mono HB4.out.size))
                clear hb
                go_wp2_with fail
                go_ret
                exact ⟨by first | rfl | (rfl), HB5.out⟩
            · have n6 : (E6 != 0) = true := by rw [bne_iff_ne]; exact z6
              clear key ne0 H8 H9
              subst z1; subst z2
              clear hd hp hq hv hu
              subst hw0
              go_enter Tryz.func3, Tryz.ntmps3
              go_wp2_with fail
              refine (H1.out w0 HB0.out).mono ?_
              rintro E w1 ⟨rfl, hb⟩
              have HB1 := Lib.hid (HB0.out.trans (hb.mono HB0.out.size))
              clear hb
              go_wp2_with fail
              refine (H2.out w1 HB1.out).mono ?_
              rintro E w2 ⟨rfl, hb⟩
              have HB2 := Lib.hid (HB1.out.trans (hb.mono HB1.out.size))
              clear hb
              go_wp2_with fail
              refine (H3.out w2 HB2.out).mono ?_
              rintro E w3 ⟨rfl, hb⟩
              have HB3 := Lib.hid (HB2.out.trans (hb.mono HB2.out.size))
              clear hb
              go_wp2_with fail
              refine (H4.out _).mono ?_
              rintro E w9 ⟨rfl, rfl⟩
              go_wp2_with fail
              refine (H5.out _).mono ?_
              rintro E w9 ⟨rfl, rfl⟩
              go_wp2_with fail
              refine (H6.out w3 HB3.out).mono ?_
              rintro E w4 ⟨rfl, hb⟩
              have HB4 := Lib.hid (HB3.out.trans (hb.mono HB3.out.size))
              clear hb
              go_wp2_with fail
              refine (H7.out w4 HB4.out).mono ?_
              rintro E w5 ⟨rfl, hb⟩
              have HB5 := Lib.hid (HB4.out.trans (hb.mono HB4.out.size))
              clear hb
              go_wp2_with fail
              go_ret
              exact ⟨by first | rfl | (rfl), HB5.out⟩
    · have n2 : (E2 != 0) = true := by rw [bne_iff_ne]; exact z2
      clear key ne0 H4 H5 H6 H7 H8 H9
      subst z1
      clear hd hp hq hv hu
      subst hw0
      go_enter Tryz.func3, Tryz.ntmps3
      go_wp2_with fail
      refine (H1.out w0 HB0.out).mono ?_
      rintro E w1 ⟨rfl, hb⟩
      have HB1 := Lib.hid (HB0.out.trans (hb.mono HB0.out.size))
      clear hb
      go_wp2_with fail
      refine (H2.out w1 HB1.out).mono ?_
      rintro E w2 ⟨rfl, hb⟩
      have HB2 := Lib.hid (HB1.out.trans (hb.mono HB1.out.size))
      clear hb
      go_wp2_with fail
      refine (H3.out w2 HB2.out).mono ?_
      rintro E w3 ⟨rfl, hb⟩
      have HB3 := Lib.hid (HB2.out.trans (hb.mono HB2.out.size))
      clear hb
      go_wp2_with fail
      go_ret
      exact ⟨by first | rfl | (rfl), HB3.out⟩
  · have n1 : (E1 != 0) = true := by rw [bne_iff_ne]; exact z1
    clear key ne0 H4 H5 H6 H7 H8 H9
    clear hd hp hq hv hu
    subst hw0
    go_enter Tryz.func3, Tryz.ntmps3
    go_wp2_with fail
    refine (H1.out w0 HB0.out).mono ?_
    rintro E w1 ⟨rfl, hb⟩
    have HB1 := Lib.hid (HB0.out.trans (hb.mono HB0.out.size))
    clear hb
    go_wp2_with fail
    refine (H2.out w1 HB1.out).mono ?_
    rintro E w2 ⟨rfl, hb⟩
    have HB2 := Lib.hid (HB1.out.trans (hb.mono HB1.out.size))
    clear hb
    go_wp2_with fail
    refine (H3.out w2 HB2.out).mono ?_
    rintro E w3 ⟨rfl, hb⟩
    have HB3 := Lib.hid (HB2.out.trans (hb.mono HB2.out.size))
    clear hb
    go_wp2_with fail
    go_ret
    exact ⟨by first | rfl | (rfl), HB3.out⟩
end Go.Proofs.YtlcongehmjiabaaGreatDoor
