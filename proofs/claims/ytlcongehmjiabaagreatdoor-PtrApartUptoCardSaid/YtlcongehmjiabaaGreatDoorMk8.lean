/- Texts of ours joined: PtrApartWalk, DataOp, PatchPlain, PatchRead, WayIns, PatchDo. -/
import Derived.Test.YtlcongehmjiabaaGreatDoorMk7
set_option linter.unusedVariables false
set_option linter.unusedSimpArgs false
/- The law PtrApart. -/
namespace Go.Proofs.YtlcongehmjiabaaGreatDoor
open Go.RowKit
open JP (JV Bs)

theorem prefix_c (s p : ByteArray) (w : World) : Calls Tryz.prog 11 #[.string s, .string p] w fun e w' => e = .returned (.bool (Lib.hasPrefix s.data.toList p.data.toList)) ∧ w = w' :=
  (Tryz.strings_HasPrefix s p w).mono fun _ _ h => ⟨h.1, h.2.symm⟩
set_option maxRecDepth 100000 in
set_option maxHeartbeats 6400000 in
theorem ptrApart_walk (d p q v u : ByteArray) (w : World) (hbulk : d.data.toList.length + 1 + (p.data.toList.length + 1 + (q.data.toList.length + 1 + (v.data.toList.length + 1 + (u.data.toList.length + 1 + 0)))) ≤ 1048576) (hE : Env w) :
    Calls Tryz.prog 3 #[.string d, .string p, .string q, .string v, .string u] w fun e w' => e = .returned (.bool true) ∧ Below w.heap.size w w' := by
  have hd : d.size ≤ 1048576 := by rw [list_size d] at hbulk; omega
  have hp : p.size ≤ 1048576 := by rw [list_size p] at hbulk; omega
  have hq : q.size ≤ 1048576 := by rw [list_size q] at hbulk; omega
  have hv : v.size ≤ 1048576 := by rw [list_size v] at hbulk; omega
  have hu : u.size ≤ 1048576 := by rw [list_size u] at hbulk; omega
  have HB0 := Lib.hid (Below.refl w.heap.size w)
  obtain ⟨w0, hw0⟩ : ∃ x, x = w := ⟨_, rfl⟩
  have t0 : (mkB []).toList.isEmpty = true := by rw [mkB_empty]; rfl
  have H1 := Lib.hid (fun (w' : World) (h : Below w.heap.size w w') => pget_any d p w' hd hp (hE.below h))
  have H2 := Lib.hid (fun (w' : World) (h : Below w.heap.size w w') => pget_any d q w' hd hq (hE.below h))
  have H3 := Lib.hid (fun (w' : World) (h : Below w.heap.size w w') => pget_any ⟨#[49]⟩ ⟨#[47, 97]⟩ w' (by decide) (by decide) (hE.below h))
  have H6 := Lib.hid (fun (w' : World) (h : Below w.heap.size w w') => pput_any d p v w' hd hp hv (hE.below h))
  have H7 := Lib.hid (fun (w' : World) (h : Below w.heap.size w w') => pput_any d q u w' hd hq hu (hE.below h))
  have H4 := Lib.hid (fun (w' : World) => prefix_c p (q ++ ⟨#[47]⟩) w')
  have H5 := Lib.hid (fun (w' : World) => prefix_c q (p ++ ⟨#[47]⟩) w')
  rw [JP.ptr_const2] at H3
  have key := @JP.ptr_apart d.data.toList p.data.toList q.data.toList v.data.toList u.data.toList
  have ne0 : p ≠ q → p.data.toList ≠ q.data.toList := fun h e => h (by rw [← mkB_of p, ← mkB_of q, e])
  have sl : (ByteArray.mk #[47]).size = 1 := rfl
  have sq : ¬ 9223372036854775807 < q.size + (ByteArray.mk #[47]).size := by rw [sl]; omega
  have sp : ¬ 9223372036854775807 < p.size + (ByteArray.mk #[47]).size := by rw [sl]; omega
  rw [show (q ++ ⟨#[47]⟩ : ByteArray).data.toList = q.data.toList ++ [47] from by rw [ByteArray.data_append]; simp] at H4
  rw [show (p ++ ⟨#[47]⟩ : ByteArray).data.toList = p.data.toList ++ [47] from by rw [ByteArray.data_append]; simp] at H5
  obtain ⟨B4, hB4⟩ : ∃ B, Lib.hasPrefix p.data.toList (q.data.toList ++ [47]) = B := ⟨_, rfl⟩
  obtain ⟨B5, hB5⟩ : ∃ B, Lib.hasPrefix q.data.toList (p.data.toList ++ [47]) = B := ⟨_, rfl⟩
  rw [hB4] at H4 key
  rw [hB5] at H5 key
  obtain ⟨T3, hT3⟩ : ∃ T, JP.getT (⟨#[49]⟩ : ByteArray).data.toList (⟨#[47, 97]⟩ : ByteArray).data.toList = T := ⟨_, rfl⟩
  rw [hT3] at H3
  obtain ⟨T1, hT1⟩ : ∃ T, JP.getT d.data.toList p.data.toList = T := ⟨_, rfl⟩
  rw [hT1] at H1
  obtain ⟨T2, hT2⟩ : ∃ T, JP.getT d.data.toList q.data.toList = T := ⟨_, rfl⟩
  rw [hT2] at H2
  obtain ⟨E1, hE1⟩ : ∃ E, JP.getE d.data.toList p.data.toList = E := ⟨_, rfl⟩
  rw [hE1] at H1 key
  obtain ⟨E2, hE2⟩ : ∃ E, JP.getE d.data.toList q.data.toList = E := ⟨_, rfl⟩
  rw [hE2] at H2 key
  obtain ⟨E6, hE6⟩ : ∃ E, JP.putE d.data.toList p.data.toList v.data.toList = E := ⟨_, rfl⟩
  rw [hE6] at H6 key
  obtain ⟨E7, hE7⟩ : ∃ E, JP.putE d.data.toList q.data.toList u.data.toList = E := ⟨_, rfl⟩
  rw [hE7] at H7 key
  have l6 := JP.putT_len d.data.toList p.data.toList v.data.toList
  have l7 := JP.putT_len d.data.toList q.data.toList u.data.toList
  obtain ⟨T6, hT6⟩ : ∃ T, JP.putT d.data.toList p.data.toList v.data.toList = T := ⟨_, rfl⟩
  rw [hT6] at H6 key l6
  obtain ⟨T7, hT7⟩ : ∃ T, JP.putT d.data.toList q.data.toList u.data.toList = T := ⟨_, rfl⟩
  rw [hT7] at H7 key l7
  have H8 := Lib.hid (fun (w' : World) (h : Below w.heap.size w w') => pput_any (mkB T6) q u w' (by rw [mkB_size]; omega) hq hu (hE.below h))
  have H9 := Lib.hid (fun (w' : World) (h : Below w.heap.size w w') => pput_any (mkB T7) p v w' (by rw [mkB_size]; omega) hp hv (hE.below h))
  rw [mkB_list] at H8 H9
  clear hT1 hT2 hT3 hE1 hE2 hE6 hE7 hT6 hT7 hB4 hB5 l6 l7 hE hbulk sl
  by_cases z1 : E1 = 0
  · by_cases z2 : E2 = 0
    · by_cases pq : p = q
      · subst pq
        have c1 : (p.toList == p.toList) = true := by simp
        clear key ne0 H4 H5 H6 H7 H8 H9
        subst z1; subst z2
        clear hd hp hq hv hu
        subst hw0
        go_enter Tryz.func3, Tryz.ntmps3
        go_wp2_with fail
        refine (H1.out w0 HB0.out).mono ?_
        rintro E w1 ⟨rfl, hb⟩
        have HB1 := Lib.hid (HB0.out.trans (hb.mono HB0.out.size))
        clear hb
        go_wp2_with fail
        refine (H2.out w1 HB1.out).mono ?_
        rintro E w2 ⟨rfl, hb⟩
        have HB2 := Lib.hid (HB1.out.trans (hb.mono HB1.out.size))
        clear hb
        go_wp2_with fail
        refine (H3.out w2 HB2.out).mono ?_
        rintro E w3 ⟨rfl, hb⟩
        have HB3 := Lib.hid (HB2.out.trans (hb.mono HB2.out.size))
        clear hb
        go_wp2_with fail
        go_ret
        exact ⟨by first | rfl | (rfl), HB3.out⟩
      · have c1 : (p.toList == q.toList) = false := by rw [beq_eq_false_iff_ne, ByteArray.toList_eq, ByteArray.toList_eq]; exact ne0 pq
        have hne := Lib.hid (ne0 pq)
        clear pq
        cases B4 with
        | true =>
          clear key ne0 H5 H6 H7 H8 H9
          subst z1; subst z2
          clear hd hp hq hv hu
          subst hw0
          go_enter Tryz.func3, Tryz.ntmps3
          go_wp2_with fail
          refine (H1.out w0 HB0.out).mono ?_
          rintro E w1 ⟨rfl, hb⟩
          have HB1 := Lib.hid (HB0.out.trans (hb.mono HB0.out.size))
          clear hb
          go_wp2_with fail
          refine (H2.out w1 HB1.out).mono ?_
          rintro E w2 ⟨rfl, hb⟩
          have HB2 := Lib.hid (HB1.out.trans (hb.mono HB1.out.size))
          clear hb
          go_wp2_with fail
          refine (H3.out w2 HB2.out).mono ?_
          rintro E w3 ⟨rfl, hb⟩
          have HB3 := Lib.hid (HB2.out.trans (hb.mono HB2.out.size))
          clear hb
          go_wp2_with fail
          refine (H4.out _).mono ?_
          rintro E w9 ⟨rfl, rfl⟩
          go_wp2_with fail
          go_ret
          exact ⟨by first | rfl | (rfl), HB3.out⟩
        | false =>
          cases B5 with
          | true =>
            clear key ne0 H6 H7 H8 H9
            subst z1; subst z2
            clear hd hp hq hv hu
            subst hw0
            go_enter Tryz.func3, Tryz.ntmps3
            go_wp2_with fail
            refine (H1.out w0 HB0.out).mono ?_
            rintro E w1 ⟨rfl, hb⟩
            have HB1 := Lib.hid (HB0.out.trans (hb.mono HB0.out.size))
            clear hb
            go_wp2_with fail
            refine (H2.out w1 HB1.out).mono ?_
            rintro E w2 ⟨rfl, hb⟩
            have HB2 := Lib.hid (HB1.out.trans (hb.mono HB1.out.size))
            clear hb
            go_wp2_with fail
            refine (H3.out w2 HB2.out).mono ?_
            rintro E w3 ⟨rfl, hb⟩
            have HB3 := Lib.hid (HB2.out.trans (hb.mono HB2.out.size))
            clear hb
            go_wp2_with fail
            refine (H4.out _).mono ?_
            rintro E w9 ⟨rfl, rfl⟩
            go_wp2_with fail
            refine (H5.out _).mono ?_
            rintro E w9 ⟨rfl, rfl⟩
            go_wp2_with fail
            go_ret
            exact ⟨by first | rfl | (rfl), HB3.out⟩
          | false =>
            by_cases z6 : E6 = 0
            · by_cases z7 : E7 = 0
              · obtain ⟨k1, k2⟩ := key z1 z2 hne.out rfl rfl z6 z7
                rw [k1, k2] at H8
                clear key ne0 k1 k2
                subst z1; subst z2; subst z6; subst z7
                obtain ⟨T9, hT9⟩ : ∃ T, JP.putT T7 p.data.toList v.data.toList = T := ⟨_, rfl⟩
                obtain ⟨E9, hE9⟩ : ∃ T, JP.putE T7 p.data.toList v.data.toList = T := ⟨_, rfl⟩
                rw [hT9, hE9] at H8 H9
                clear hT9 hE9
                have t2 : ((mkB T9).toList == (mkB T9).toList) = true := by simp
                have t4 : (E9 == E9) = true := by simp
                clear hd hp hq hv hu
                subst hw0
                go_enter Tryz.func3, Tryz.ntmps3
                go_wp2_with fail
                refine (H1.out w0 HB0.out).mono ?_
                rintro E w1 ⟨rfl, hb⟩
                have HB1 := Lib.hid (HB0.out.trans (hb.mono HB0.out.size))
                clear hb
                go_wp2_with fail
                refine (H2.out w1 HB1.out).mono ?_
                rintro E w2 ⟨rfl, hb⟩
                have HB2 := Lib.hid (HB1.out.trans (hb.mono HB1.out.size))
                clear hb
                go_wp2_with fail
                refine (H3.out w2 HB2.out).mono ?_
                rintro E w3 ⟨rfl, hb⟩
                have HB3 := Lib.hid (HB2.out.trans (hb.mono HB2.out.size))
                clear hb
                go_wp2_with fail
                refine (H4.out _).mono ?_
                rintro E w9 ⟨rfl, rfl⟩
                go_wp2_with fail
                refine (H5.out _).mono ?_
                rintro E w9 ⟨rfl, rfl⟩
                go_wp2_with fail
                refine (H6.out w3 HB3.out).mono ?_
                rintro E w4 ⟨rfl, hb⟩
                have HB4 := Lib.hid (HB3.out.trans (hb.mono HB3.out.size))
                clear hb
                go_wp2_with fail
                refine (H7.out w4 HB4.out).mono ?_
                rintro E w5 ⟨rfl, hb⟩
                have HB5 := Lib.hid (HB4.out.trans (hb.mono HB4.out.size))
                clear hb
                go_wp2_with fail
                refine (H8.out w5 HB5.out).mono ?_
                rintro E w6 ⟨rfl, hb⟩
                have HB6 := Lib.hid (HB5.out.trans (hb.mono HB5.out.size))
                clear hb
                go_wp2_with fail
                refine (H9.out w6 HB6.out).mono ?_
                rintro E w7 ⟨rfl, hb⟩
                have HB7 := Lib.hid (HB6.out.trans (hb.mono HB6.out.size))
                clear hb
                go_wp2_with fail
                go_ret
                exact ⟨by first | rfl | (simp only [t2, t4] <;> rfl), HB7.out⟩
              · have n7 : (E7 != 0) = true := by rw [bne_iff_ne]; exact z7
                clear key ne0 H8 H9
                subst z1; subst z2; subst z6
                clear hd hp hq hv hu
                subst hw0
                go_enter Tryz.func3, Tryz.ntmps3
                go_wp2_with fail
                refine (H1.out w0 HB0.out).mono ?_
                rintro E w1 ⟨rfl, hb⟩
                have HB1 := Lib.hid (HB0.out.trans (hb.mono HB0.out.size))
                clear hb
                go_wp2_with fail
                refine (H2.out w1 HB1.out).mono ?_
                rintro E w2 ⟨rfl, hb⟩
                have HB2 := Lib.hid (HB1.out.trans (hb.mono HB1.out.size))
                clear hb
                go_wp2_with fail
                refine (H3.out w2 HB2.out).mono ?_
                rintro E w3 ⟨rfl, hb⟩
                have HB3 := Lib.hid (HB2.out.trans (hb.mono HB2.out.size))
                clear hb
                go_wp2_with fail
                refine (H4.out _).mono ?_
                rintro E w9 ⟨rfl, rfl⟩
                go_wp2_with fail
                refine (H5.out _).mono ?_
                rintro E w9 ⟨rfl, rfl⟩
                go_wp2_with fail
                refine (H6.out w3 HB3.out).mono ?_
                rintro E w4 ⟨rfl, hb⟩
                have HB4 := Lib.hid (HB3.out.trans (hb.mono HB3.out.size))
                clear hb
                go_wp2_with fail
                refine (H7.out w4 HB4.out).mono ?_
                rintro E w5 ⟨rfl, hb⟩
                have HB5 := Lib.hid (HB4.out.trans (hb.mono HB4.out.size))
                clear hb
                go_wp2_with fail
                go_ret
                exact ⟨by first | rfl | (rfl), HB5.out⟩
            · have n6 : (E6 != 0) = true := by rw [bne_iff_ne]; exact z6
              clear key ne0 H8 H9
              subst z1; subst z2
              clear hd hp hq hv hu
              subst hw0
              go_enter Tryz.func3, Tryz.ntmps3
              go_wp2_with fail
              refine (H1.out w0 HB0.out).mono ?_
              rintro E w1 ⟨rfl, hb⟩
              have HB1 := Lib.hid (HB0.out.trans (hb.mono HB0.out.size))
              clear hb
              go_wp2_with fail
              refine (H2.out w1 HB1.out).mono ?_
              rintro E w2 ⟨rfl, hb⟩
              have HB2 := Lib.hid (HB1.out.trans (hb.mono HB1.out.size))
              clear hb
              go_wp2_with fail
              refine (H3.out w2 HB2.out).mono ?_
              rintro E w3 ⟨rfl, hb⟩
              have HB3 := Lib.hid (HB2.out.trans (hb.mono HB2.out.size))
              clear hb
              go_wp2_with fail
              refine (H4.out _).mono ?_
              rintro E w9 ⟨rfl, rfl⟩
              go_wp2_with fail
              refine (H5.out _).mono ?_
              rintro E w9 ⟨rfl, rfl⟩
              go_wp2_with fail
              refine (H6.out w3 HB3.out).mono ?_
              rintro E w4 ⟨rfl, hb⟩
              have HB4 := Lib.hid (HB3.out.trans (hb.mono HB3.out.size))
              clear hb
              go_wp2_with fail
              refine (H7.out w4 HB4.out).mono ?_
              rintro E w5 ⟨rfl, hb⟩
              have HB5 := Lib.hid (HB4.out.trans (hb.mono HB4.out.size))
              clear hb
              go_wp2_with fail
              go_ret
              exact ⟨by first | rfl | (rfl), HB5.out⟩
    · have n2 : (E2 != 0) = true := by rw [bne_iff_ne]; exact z2
      clear key ne0 H4 H5 H6 H7 H8 H9
      subst z1
      clear hd hp hq hv hu
      subst hw0
      go_enter Tryz.func3, Tryz.ntmps3
      go_wp2_with fail
      refine (H1.out w0 HB0.out).mono ?_
      rintro E w1 ⟨rfl, hb⟩
      have HB1 := Lib.hid (HB0.out.trans (hb.mono HB0.out.size))
      clear hb
      go_wp2_with fail
      refine (H2.out w1 HB1.out).mono ?_
      rintro E w2 ⟨rfl, hb⟩
      have HB2 := Lib.hid (HB1.out.trans (hb.mono HB1.out.size))
      clear hb
      go_wp2_with fail
      refine (H3.out w2 HB2.out).mono ?_
      rintro E w3 ⟨rfl, hb⟩
      have HB3 := Lib.hid (HB2.out.trans (hb.mono HB2.out.size))
      clear hb
      go_wp2_with fail
      go_ret
      exact ⟨by first | rfl | (rfl), HB3.out⟩
  · have n1 : (E1 != 0) = true := by rw [bne_iff_ne]; exact z1
    clear key ne0 H4 H5 H6 H7 H8 H9
    clear hd hp hq hv hu
    subst hw0
    go_enter Tryz.func3, Tryz.ntmps3
    go_wp2_with fail
    refine (H1.out w0 HB0.out).mono ?_
    rintro E w1 ⟨rfl, hb⟩
    have HB1 := Lib.hid (HB0.out.trans (hb.mono HB0.out.size))
    clear hb
    go_wp2_with fail
    refine (H2.out w1 HB1.out).mono ?_
    rintro E w2 ⟨rfl, hb⟩
    have HB2 := Lib.hid (HB1.out.trans (hb.mono HB1.out.size))
    clear hb
    go_wp2_with fail
    refine (H3.out w2 HB2.out).mono ?_
    rintro E w3 ⟨rfl, hb⟩
    have HB3 := Lib.hid (HB2.out.trans (hb.mono HB2.out.size))
    clear hb
    go_wp2_with fail
    go_ret
    exact ⟨by first | rfl | (rfl), HB3.out⟩
end Go.Proofs.YtlcongehmjiabaaGreatDoor
/- The structs Op: as plain data, how their cells read, their share of the bound. -/
namespace Go.Proofs.YtlcongehmjiabaaGreatDoor
open Go.RowKit Go.ChangeShapes Go.WideShapes

structure GOp where
  kind : Int
  path : ByteArray
  from_ : ByteArray
  value : ByteArray
def OpR : Rd GOp := fun _ cs x => cs = [.int .i64 x.kind, .string x.path, .string x.from_, .string x.value] ∧ (Lit.int .i64 x.kind).wf = true
theorem stays_op : Stays OpR := fun _ _ _ _ _ h => h
def opB (x : GOp) : Nat := (1 + ((x.path.size + 1) + ((x.from_.size + 1) + ((x.value.size + 1) + 0)))) + 1
set_option maxRecDepth 10000 in
theorem opens_op : Opens Tryz.prog 41 OpR opB := by
  intro H enc w base spare held fuel cs x h
  obtain ⟨xs, n, _, rfl, hl, hx, hf⟩ := DataW.trod_struct Tryz.underlying41 h
  have hl2 : cs.length = 4 := hl.trans (by kernel_rfl)
  clear hl h
  match cs, hl2, xs, hx, hf with
  | [c0, c1, c2, c3], _, [x0, x1, x2, x3], _, hf =>
    obtain ⟨a0, r0, m0⟩ := (opens_int Tryz.underlying3).at (o := 0) (cs := [c0, c1, c2, c3]) (ds := [c0]) (x := x0) (hf 0 _ rfl) (k := 1) (by kernel_rfl) rfl
    obtain ⟨a1, r1, m1⟩ := (opens_string Tryz.underlying9).at (o := 1) (cs := [c0, c1, c2, c3]) (ds := [c1]) (x := x1) (hf 1 _ rfl) (k := 1) (by kernel_rfl) rfl
    obtain ⟨a2, r2, m2⟩ := (opens_string Tryz.underlying9).at (o := 2) (cs := [c0, c1, c2, c3]) (ds := [c2]) (x := x2) (hf 2 _ rfl) (k := 1) (by kernel_rfl) rfl
    obtain ⟨a3, r3, m3⟩ := (opens_string Tryz.underlying9).at (o := 3) (cs := [c0, c1, c2, c3]) (ds := [c3]) (x := x3) (hf 3 _ rfl) (k := 1) (by kernel_rfl) rfl
    clear hf
    obtain ⟨r0, w0⟩ := r0
    obtain rfl : c0 = .int .i64 a0 := by simpa using r0
    obtain rfl : c1 = .string a1 := by simpa [RString] using r1
    obtain rfl : c2 = .string a2 := by simpa [RString] using r2
    obtain rfl : c3 = .string a3 := by simpa [RString] using r3
    refine ⟨⟨a0, a1, a2, a3⟩, ⟨rfl, w0⟩, ?_⟩
    simp only [List.map_cons, List.map_nil, Rows.uptoBulk, Rows.uptoBulkAll, opB]
    omega
end Go.Proofs.YtlcongehmjiabaaGreatDoor
/- patch: what steps do, in plain Lean. -/
namespace Go.Proofs.YtlcongehmjiabaaGreatDoor
open Go.RowKit
open JP (JV Bs)

namespace JP
/-! what is cut fits -/
def Less (p q : JV) : Prop := Fit q ∧ (text q).length ≤ (text p).length ∧ size q ≤ size p ∧ deep q ≤ deep p
theorem deepF_cut (n : Bs) : ∀ d : Fs, deepF (cut n d) ≤ deepF d
  | [] => Nat.le_refl _
  | (m, x) :: r => by
    have ih := deepF_cut n r
    unfold cut at ih ⊢
    by_cases hm : m = n
    · rw [List.filter_cons_of_neg (by simpa using hm), deepF]; omega
    · rw [List.filter_cons_of_pos (by simpa using hm), deepF, deepF]; omega
theorem deepL_erase : ∀ (l : List JV) (n : Nat), deepL (l.eraseIdx n) ≤ deepL l
  | [], _ => Nat.le_refl _
  | v :: r, 0 => by rw [List.eraseIdx_cons_zero, deepL]; omega
  | v :: r, n + 1 => by have := deepL_erase r n; rw [List.eraseIdx_cons_succ, deepL, deepL]; omega
theorem deepL_set : ∀ (l : List JV) (n : Nat) (x : JV), deepL (l.set n x) ≤ max (deepL l) (deep x)
  | [], _, _ => by rw [List.set_nil]; omega
  | v :: r, 0, x => by rw [List.set_cons_zero, deepL, deepL]; omega
  | v :: r, n + 1, x => by have := deepL_set r n x; rw [List.set_cons_succ, deepL, deepL]; omega
theorem wfL_erase : ∀ {l : List JV} {n : Nat}, wfL l → wfL (l.eraseIdx n)
  | [], _, h => h
  | v :: r, 0, h => by rw [wfL] at h; rw [List.eraseIdx_cons_zero]; exact h.2
  | v :: r, n + 1, h => by rw [wfL] at h; rw [List.eraseIdx_cons_succ, wfL]; exact ⟨h.1, wfL_erase h.2⟩
theorem wfL_set : ∀ {l : List JV} {n : Nat} {w : JV}, wfL l → wf w → wfL (l.set n w)
  | [], _, _, h, _ => h
  | v :: r, 0, w, h, hw => by rw [wfL] at h; rw [List.set_cons_zero, wfL]; exact ⟨hw, h.2⟩
  | v :: r, n + 1, w, h, hw => by rw [wfL] at h; rw [List.set_cons_succ, wfL]; exact ⟨h.1, wfL_set h.2 hw⟩
theorem name_stands {n : Bs} {x : JV} : ∀ {l : Fs}, wfF l → get n l = some x → n.all stand = true
  | [], _, h => by rw [get] at h; cases h
  | (m, v) :: r, hw, h => by
    rw [wfF] at hw
    rw [get] at h
    by_cases e : m = n
    · rw [← e]; exact hw.1
    · rw [if_neg e] at h; exact name_stands hw.2.2 h
theorem wf_S' {v : JV} (h : wf v) : wfS v := wf_S.1 v h
theorem repl_less {v c x : JV} {s : Bs} (hv : Fit v) (hc : child v s = some c) (hx : Less c x) : Less v (repl v s x) := by
  obtain ⟨h1, h2, h3, h4⟩ := hx
  have a := repl_len (w := x) (wf_S' hv.1) hc
  have b := repl_size (x := x) (wf_S' hv.1) hc
  have d : deep (repl v s x) ≤ deep v ∧ wf (repl v s x) := by
    obtain ⟨_, _, hcd⟩ := child_len hc
    cases v with
    | obj l =>
      have := put_deep s x l
      rw [repl, deep, deep]
      rw [deep] at hcd
      refine ⟨by omega, ?_⟩
      have hw := wf_obj hv.1
      rw [wf]; exact ⟨put_srt hw.1, put_wf (name_stands hw.2 hc) h1.1 hw.2⟩
    | list l =>
      obtain ⟨n, k1, k2⟩ := Option.bind_eq_some_iff.1 hc
      rw [repl, k1]
      dsimp only
      have := deepL_set l n x
      rw [deep, deep]
      rw [deep] at hcd
      refine ⟨by omega, ?_⟩
      rw [wf]; exact wfL_set (wf_list hv.1) h1.1
    | _ => cases hc
  have f2 := hv.2.1
  have f3 := hv.2.2.1
  have f4 := hv.2.2.2
  exact ⟨⟨d.2, by omega, by omega, by omega⟩, by omega, by omega, d.1⟩
theorem cutL_less {v u : JV} {s : Bs} (hv : Fit v) (h : cutL v s = some u) : Less v u := by
  have f2 := hv.2.1
  have f3 := hv.2.2.1
  have f4 := hv.2.2.2
  cases v with
  | obj l =>
    have hw := wf_obj hv.1
    rw [cutL] at h
    cases hg : get s l with
    | none => rw [hg] at h; cases h
    | some was =>
      rw [hg] at h
      cases h
      have a := lenF_cut_get (n := s) hw.1
      rw [hg] at a
      simp only [wO] at a
      have := obj_len_le (cut s l)
      have := obj_len_ge l
      have := sizeF_cut s l
      have := deepF_cut s l
      have hq : 2 ≤ (quote s).length := by rw [quote_len]; omega
      have g1 : size (.obj (cut s l)) ≤ size (.obj l) := by rw [size, size]; omega
      have g2 : deep (.obj (cut s l)) ≤ deep (.obj l) := by rw [deep, deep]; omega
      have g3 : (text (.obj (cut s l))).length ≤ (text (.obj l)).length := by omega
      exact ⟨⟨by rw [wf]; exact ⟨srt_cut s hw.1, wfF_cut s hw.2⟩, by omega, by omega, by omega⟩, g3, g1, g2⟩
  | list l =>
    rw [cutL] at h
    cases hp : idx s l.length with
    | none => rw [hp] at h; cases h
    | some n =>
      rw [hp] at h
      cases h
      obtain ⟨h1, _⟩ := idx_some hp
      have := lenL_erase (List.getElem?_eq_getElem h1)
      have := sizeL_erase (List.getElem?_eq_getElem h1)
      have := list_len_ge l
      have := list_len_le (l.eraseIdx n)
      have := deepL_erase l n
      have g1 : size (.list (l.eraseIdx n)) ≤ size (.list l) := by rw [size, size]; omega
      have g2 : deep (.list (l.eraseIdx n)) ≤ deep (.list l) := by rw [deep, deep]; omega
      have g3 : (text (.list (l.eraseIdx n))).length ≤ (text (.list l)).length := by omega
      exact ⟨⟨by rw [wf]; exact wfL_erase (wf_list hv.1), by omega, by omega, by omega⟩, g3, g1, g2⟩
  | _ => cases h
theorem cutW_less : ∀ {l : List Bs} {v u : JV}, Fit v → cutW v l = some u → Less v u
  | [], v, u, _, h => by unfold cutW at h; rw [under] at h; cases h
  | [s], v, u, hv, h => by unfold cutW at h; rw [under_one] at h; exact cutL_less hv h
  | s :: t :: r, v, u, hv, h => by
    unfold cutW at h
    rw [under_more] at h
    obtain ⟨c, hc, h⟩ := Option.bind_eq_some_iff.1 h
    obtain ⟨x, hx, rfl⟩ := Option.map_eq_some_iff.1 h
    exact repl_less hv hc (cutW_less (l := t :: r) (child_fit hv hc) hx)
/-- a step, read -/
structure PS where
  kind : Int
  path : List Bs
  frm : List Bs
  val : JV
/-- a step as it comes: kind, path, from, value -/
structure PO where
  kind : Int
  path : Bs
  frm : Bs
  val : Bs
def readO (o : PO) : Int × PS :=
  if o.kind < 1 ∨ 6 < o.kind then (1, ⟨o.kind, [], [], .nul⟩)
  else if (stepsP o.path).1 ≠ 0 then ((stepsP o.path).1, ⟨o.kind, [], [], .nul⟩)
  else if o.kind = 4 ∨ o.kind = 5 then ((stepsP o.frm).1, ⟨o.kind, (stepsP o.path).2, (stepsP o.frm).2, .nul⟩)
  else if o.kind = 2 then (0, ⟨o.kind, (stepsP o.path).2, [], .nul⟩)
  else ((readL o.val).2, ⟨o.kind, (stepsP o.path).2, [], (readL o.val).1⟩)
def toI (c : Int) : Option JV → Int × JV
  | some w => (0, w)
  | none => (c, .nul)
def beginsP (a b : List Bs) : Bool := decide (a.length < b.length) && decide (a = b.take a.length)
def carryP (s : PS) (v : JV) : Int × JV :=
  if s.kind = 4 ∧ beginsP s.frm s.path = true then (1, .nul)
  else match atW v s.frm with
    | none => (7, .nul)
    | some w =>
      if s.kind = 4 then
        if s.frm = s.path then (0, v)
        else match cutW v s.frm with
          | none => (7, .nul)
          | some rest => toI 7 (insW rest s.path w)
      else toI 7 (insW v s.path w)
def doP (s : PS) (v : JV) : Int × JV :=
  if s.kind = 1 then toI 7 (insW v s.path s.val)
  else if s.kind = 2 then (if s.path = [] then (1, .nul) else toI 7 (cutW v s.path))
  else if s.kind = 3 then (match atW v s.path with | none => (7, .nul) | some _ => toI 7 (putW v s.path s.val))
  else if s.kind = 6 then (match atW v s.path with | none => (7, .nul) | some c => if text c = text s.val then (0, v) else (10, .nul))
  else carryP s v
def stepP (o : PO) (v : JV) : Int × JV :=
  if (readO o).1 ≠ 0 then ((readO o).1, .nul)
  else if (doP (readO o).2 v).1 ≠ 0 then ((doP (readO o).2 v).1, .nul)
  else (tellE (doP (readO o).2 v).2, (doP (readO o).2 v).2)
def runP : List PO → JV → Nat → Int × Nat × JV
  | [], v, i => (0, i, v)
  | o :: r, v, i => if (stepP o v).1 = 0 then runP r (stepP o v).2 (i + 1) else ((stepP o v).1, i, .nul)
/-- what 'run' answers -/
def runO (d : Bs) (ops : List PO) : Int × Nat × JV :=
  if (readL d).2 ≠ 0 then ((readL d).2, 0, .nul) else if 40 < ops.length then (2, 0, .nul) else runP ops (readL d).1 0
def applyE (d : Bs) (ops : List PO) : Int := (runO d ops).1
def applyN (d : Bs) (ops : List PO) : Nat := (runO d ops).2.1
def applyT (d : Bs) (ops : List PO) : Bs := if (runO d ops).1 = 0 then text (runO d ops).2.2 else []

/-! what a step makes -/
theorem toI_ok {c : Int} (hc : c ≠ 0) {o : Option JV} (h : (toI c o).1 = 0) : o = some (toI c o).2 := by
  cases o with
  | none => exact absurd h hc
  | some w => rfl
/-- what is read: how long it is -/
structure PSOK (s : PS) (B : Nat) : Prop where
  path : ∀ x ∈ s.path, x.length ≤ B
  frm : ∀ x ∈ s.frm, x.length ≤ B
  lp : s.path.length ≤ 10
  lf : s.frm.length ≤ 10
  val : Fit s.val
  tp : (s.path.map fun x => x.length + 1).sum ≤ B
  tf : (s.frm.map fun x => x.length + 1).sum ≤ B
theorem steps_mem' {p : Bs} {l : List Bs} (h : stepsP p = (0, l)) : ∀ s ∈ l, s.length ≤ p.length := fun s hs => by
  have h1 : (l.map fun s : Bs => s.length + 1).sum ≤ p.length := steps_total h
  have : ∀ (k : List Bs), s ∈ k → s.length ≤ (k.map fun s => s.length + 1).sum := by
    intro k
    induction k with
    | nil => intro h; cases h
    | cons a r ih =>
      intro hm
      rw [List.map_cons, List.sum_cons]
      rcases List.mem_cons.1 hm with rfl | hm
      · omega
      · have := ih hm; omega
  have := this l hs
  omega
theorem readO_ok {o : PO} {B : Nat} (h : (readO o).1 = 0) (hp : o.path.length ≤ B) (hf : o.frm.length ≤ B) : PSOK (readO o).2 B := by
  unfold readO at h ⊢
  by_cases h0 : o.kind < 1 ∨ 6 < o.kind
  · rw [if_pos h0] at h; cases h
  rw [if_neg h0] at h ⊢
  by_cases h1 : (stepsP o.path).1 ≠ 0
  · rw [if_pos h1] at h; exact absurd h h1
  rw [if_neg h1] at h ⊢
  have hs : stepsP o.path = (0, (stepsP o.path).2) := Prod.ext (by simpa using h1) rfl
  have m1 := steps_mem' hs
  have m2 := (join_steps hs).2
  by_cases h2 : o.kind = 4 ∨ o.kind = 5
  · rw [if_pos h2] at h ⊢
    have hs2 : stepsP o.frm = (0, (stepsP o.frm).2) := Prod.ext h rfl
    exact ⟨fun x hx => Nat.le_trans (m1 x hx) hp, fun x hx => Nat.le_trans (steps_mem' hs2 x hx) hf, m2, (join_steps hs2).2, fit_nul, Nat.le_trans (steps_total hs) hp, Nat.le_trans (steps_total hs2) hf⟩
  rw [if_neg h2] at h ⊢
  by_cases h3 : o.kind = 2
  · rw [if_pos h3] at h ⊢
    exact ⟨fun x hx => Nat.le_trans (m1 x hx) hp, fun x hx => (by cases hx), m2, Nat.zero_le _, fit_nul, Nat.le_trans (steps_total hs) hp, Nat.zero_le _⟩
  rw [if_neg h3] at h ⊢
  exact ⟨fun x hx => Nat.le_trans (m1 x hx) hp, fun x hx => (by cases hx), m2, Nat.zero_le _, read_fit' h, Nat.le_trans (steps_total hs) hp, Nat.zero_le _⟩
theorem doP_len {s : PS} {v : JV} {B : Nat} (hs : PSOK s B) (hv : Fit v) (h : (doP s v).1 = 0) : wfS (doP s v).2 ∧ (text (doP s v).2).length ≤ 2 * B + 5000 := by
  have hv2 := hv.2.2.2
  have hval := hs.val.2.2.2
  unfold doP at h ⊢
  by_cases h1 : s.kind = 1
  · rw [if_pos h1] at h ⊢
    obtain ⟨a, b⟩ := insW_len hv hs.val hs.path (toI_ok (by decide) h)
    exact ⟨a, by omega⟩
  rw [if_neg h1] at h ⊢
  by_cases h2 : s.kind = 2
  · rw [if_pos h2] at h ⊢
    by_cases h3 : s.path = []
    · rw [if_pos h3] at h; cases h
    · rw [if_neg h3] at h ⊢
      obtain ⟨a, b⟩ := cutW_len hv hs.path (toI_ok (by decide) h)
      exact ⟨a, by omega⟩
  rw [if_neg h2] at h ⊢
  by_cases h3 : s.kind = 3
  · rw [if_pos h3] at h ⊢
    cases ha : atW v s.path with
    | none => rw [ha] at h; cases h
    | some c =>
      rw [ha] at h
      dsimp only at h ⊢
      obtain ⟨a, b⟩ := putW_len hv hs.val hs.path (toI_ok (by decide) h)
      exact ⟨a, by omega⟩
  rw [if_neg h3] at h ⊢
  by_cases h4 : s.kind = 6
  · rw [if_pos h4] at h ⊢
    cases ha : atW v s.path with
    | none => rw [ha] at h; cases h
    | some c =>
      rw [ha] at h
      dsimp only at h ⊢
      by_cases ht : text c = text s.val
      · rw [if_pos ht]; exact ⟨fit_S hv, by show (text v).length ≤ _; omega⟩
      · rw [if_neg ht] at h; cases h
  rw [if_neg h4] at h ⊢
  unfold carryP at h ⊢
  by_cases h5 : s.kind = 4 ∧ beginsP s.frm s.path = true
  · rw [if_pos h5] at h; cases h
  rw [if_neg h5] at h ⊢
  cases ha : atW v s.frm with
  | none => rw [ha] at h; cases h
  | some w =>
    have fw := at_fit hv ha
    rw [ha] at h
    dsimp only at h ⊢
    by_cases h6 : s.kind = 4
    · rw [if_pos h6] at h ⊢
      by_cases h7 : s.frm = s.path
      · rw [if_pos h7]; exact ⟨fit_S hv, by show (text v).length ≤ _; omega⟩
      · rw [if_neg h7] at h ⊢
        cases hc : cutW v s.frm with
        | none => rw [hc] at h; cases h
        | some r =>
          rw [hc] at h
          dsimp only at h ⊢
          obtain ⟨a, b⟩ := insW_len (cutW_less hv hc).1 fw hs.path (toI_ok (by decide) h)
          exact ⟨a, by omega⟩
    · rw [if_neg h6] at h ⊢
      obtain ⟨a, b⟩ := insW_len hv fw hs.path (toI_ok (by decide) h)
      exact ⟨a, by omega⟩
theorem stepP_fit {o : PO} {v : JV} (hv : Fit v) (h : (stepP o v).1 = 0) : Fit (stepP o v).2 := by
  unfold stepP at h ⊢
  by_cases h1 : (readO o).1 ≠ 0
  · rw [if_pos h1] at h; exact absurd h h1
  rw [if_neg h1] at h ⊢
  by_cases h2 : (doP (readO o).2 v).1 ≠ 0
  · rw [if_pos h2] at h; exact absurd h h2
  rw [if_neg h2] at h ⊢
  exact (tell_ok (doP_len (readO_ok (B := o.path.length + o.frm.length) (by simpa using h1) (by omega) (by omega)) hv (by simpa using h2)).1 h).1
theorem runP_fit : ∀ {ops : List PO} {v : JV} {i : Nat}, Fit v → (runP ops v i).1 = 0 → Fit (runP ops v i).2.2
  | [], v, i, hv, _ => hv
  | o :: r, v, i, hv, h => by
    rw [runP] at h ⊢
    by_cases h1 : (stepP o v).1 = 0
    · rw [if_pos h1] at h ⊢; exact runP_fit (stepP_fit hv h1) h
    · rw [if_neg h1] at h; exact absurd h h1
theorem runO_fit {d : Bs} {ops : List PO} (h : (runO d ops).1 = 0) : Fit (runO d ops).2.2 := by
  unfold runO at h ⊢
  by_cases h1 : (readL d).2 ≠ 0
  · rw [if_pos h1] at h; exact absurd h h1
  rw [if_neg h1] at h ⊢
  by_cases h2 : 40 < ops.length
  · rw [if_pos h2] at h; cases h
  rw [if_neg h2] at h ⊢
  exact runP_fit (read_fit' (by simpa using h1)) h
theorem applyT_len (d : Bs) (ops : List PO) : (applyT d ops).length ≤ 2000 := by
  unfold applyT
  by_cases h : (runO d ops).1 = 0
  · rw [if_pos h]; exact (runO_fit h).2.2.2
  · rw [if_neg h]; exact Nat.zero_le _
theorem runP_append : ∀ (a b : List PO) (v : JV) (i : Nat), runP (a ++ b) v i = if (runP a v i).1 = 0 then runP b (runP a v i).2.2 (runP a v i).2.1 else runP a v i
  | [], b, v, i => by rw [List.nil_append, runP, if_pos rfl]
  | o :: r, b, v, i => by
    rw [List.cons_append, runP, runP]
    by_cases h1 : (stepP o v).1 = 0
    · rw [if_pos h1, if_pos h1]; exact runP_append r b _ _
    · rw [if_neg h1, if_neg h1, if_neg h1]
theorem runP_shift : ∀ (a : List PO) (v : JV) (i k : Nat), runP a v (i + k) = ((runP a v i).1, (runP a v i).2.1 + k, (runP a v i).2.2)
  | [], v, i, k => rfl
  | o :: r, v, i, k => by
    rw [runP, runP]
    by_cases h1 : (stepP o v).1 = 0
    · rw [if_pos h1, if_pos h1, show i + k + 1 = i + 1 + k from by omega]; exact runP_shift r _ _ _
    · rw [if_neg h1, if_neg h1]
theorem runP_len : ∀ (a : List PO) (v : JV) (i : Nat), (runP a v i).1 = 0 → (runP a v i).2.1 = i + a.length
  | [], v, i, _ => rfl
  | o :: r, v, i, h => by
    rw [runP] at h ⊢
    by_cases h1 : (stepP o v).1 = 0
    · rw [if_pos h1] at h ⊢; rw [runP_len r _ _ h, List.length_cons]; omega
    · rw [if_neg h1] at h; exact absurd h h1
theorem runP_le : ∀ (a : List PO) (v : JV) (i : Nat), (runP a v i).2.1 ≤ i + a.length
  | [], v, i => Nat.le_refl _
  | o :: r, v, i => by
    rw [runP]
    by_cases h1 : (stepP o v).1 = 0
    · rw [if_pos h1]; have := runP_le r (stepP o v).2 (i + 1); rw [List.length_cons]; omega
    · rw [if_neg h1]; show i ≤ _; omega
theorem applyN_le (d : Bs) (ops : List PO) : applyN d ops ≤ ops.length := by
  unfold applyN runO
  split
  · exact Nat.zero_le _
  · split
    · exact Nat.zero_le _
    · have := runP_le ops (readL d).1 0; omega
theorem runO_ok {d : Bs} {ops : List PO} (h : applyE d ops = 0) : ∃ x, readL d = (x, 0) ∧ ops.length ≤ 40 ∧ (runP ops x 0).1 = 0 ∧ Fit x ∧ runO d ops = runP ops x 0 := by
  have h' : (runO d ops).1 = 0 := h
  unfold runO at h'
  by_cases h1 : (readL d).2 ≠ 0
  · rw [if_pos h1] at h'; exact absurd h' h1
  rw [if_neg h1] at h'
  by_cases h2 : 40 < ops.length
  · rw [if_pos h2] at h'; cases h'
  rw [if_neg h2] at h'
  have h3 : (readL d).2 = 0 := by simpa using h1
  refine ⟨_, Prod.ext rfl h3, by omega, h', read_fit' h3, ?_⟩
  unfold runO
  rw [if_neg h1, if_neg h2]
theorem runO_of {d : Bs} {x : JV} {ops : List PO} (h : readL d = (x, 0)) (hl : ops.length ≤ 40) : runO d ops = runP ops x 0 := by
  unfold runO
  rw [h, if_neg (by simp), if_neg (by omega)]
theorem applyT_no {d : Bs} {ops : List PO} (h : applyE d ops ≠ 0) : applyT d ops = [] := if_neg h
/-! PatchSplits -/
theorem apply_many {d : Bs} {ops : List PO} (h : 40 < ops.length) : applyE d ops ≠ 0 ∧ applyN d ops = 0 := by
  unfold applyE applyN runO
  by_cases h1 : (readL d).2 ≠ 0
  · rw [if_pos h1]; exact ⟨h1, rfl⟩
  · rw [if_neg h1, if_pos h]; exact ⟨by decide, rfl⟩
theorem apply_first {d : Bs} {a b : List PO} (hl : (a ++ b).length ≤ 40) (h : applyE d a ≠ 0) : applyE d (a ++ b) = applyE d a ∧ applyN d (a ++ b) = applyN d a := by
  have hl2 : a.length ≤ 40 := by rw [List.length_append] at hl; omega
  unfold applyE applyN
  by_cases h1 : (readL d).2 = 0
  · have h2 : readL d = ((readL d).1, 0) := Prod.ext rfl h1
    have h3 : (runP a (readL d).1 0).1 ≠ 0 := fun e => h (by unfold applyE; rw [runO_of h2 hl2]; exact e)
    rw [runO_of h2 hl, runO_of h2 hl2, runP_append, if_neg h3]
    exact ⟨rfl, rfl⟩
  · unfold runO
    rw [if_pos h1, if_pos h1]
    exact ⟨rfl, rfl⟩
theorem apply_second {d : Bs} {a b : List PO} (hl : (a ++ b).length ≤ 40) (h : applyE d a = 0) : applyE d (a ++ b) = applyE (applyT d a) b ∧ applyT d (a ++ b) = applyT (applyT d a) b ∧ applyN d (a ++ b) = a.length + applyN (applyT d a) b ∧ applyN d a = a.length := by
  obtain ⟨x, h1, h2, h3, h4, h5⟩ := runO_ok h
  have hl2 : b.length ≤ 40 := by rw [List.length_append] at hl; omega
  have hf := runP_fit h4 h3
  have ht : applyT d a = text (runP a x 0).2.2 := by unfold applyT; rw [h5, if_pos h3]
  have hr := fit_read hf
  rw [ht]
  have e1 : runO d (a ++ b) = runP b (runP a x 0).2.2 (runP a x 0).2.1 := by rw [runO_of h1 hl, runP_append, if_pos h3]
  have hn : (runP a x 0).2.1 = a.length := by rw [runP_len a x 0 h3]; omega
  have e2 := runP_shift b (runP a x 0).2.2 0 a.length
  rw [Nat.zero_add] at e2
  rw [hn, e2] at e1
  unfold applyE applyN applyT
  rw [runO_of hr hl2, e1, h5, hn]
  exact ⟨rfl, rfl, Nat.add_comm _ _, rfl⟩
theorem patch_const1 : applyE [49] [⟨0, [], [], []⟩] = 1 := by
  have h1 : readL [49] = (.num 1, 0) := by
    have := fit_read (v := .num 1) ⟨by rw [wf]; exact ⟨by decide, by decide⟩, by decide, by decide, by decide +kernel⟩
    rw [show text (.num 1) = [49] from by decide +kernel] at this; exact this
  unfold applyE
  rw [runO_of h1 (by decide), runP]
  have h2 : (stepP ⟨0, [], [], []⟩ (.num 1)).1 = 1 := by
    unfold stepP readO
    rw [if_pos (by decide : (0 : Int) < 1 ∨ (6 : Int) < 0)]
    rfl
  rw [h2]; rfl
end JP
end Go.Proofs.YtlcongehmjiabaaGreatDoor
/- patch: a step is read. -/
namespace Go.Proofs.YtlcongehmjiabaaGreatDoor
open Go.RowKit
open JP (JV Bs)

theorem Tryz.sizeStep : (Tryz.prog.info? 71).map (·.size) = some 4 := by kernel_rfl
/-- texts lie in no block that holds none -/
theorem off_str {w : World} {g : Nat} {cs : Array Value} {t : TypeId} {fr : Nat × Nat} {sv : Value} {L : List ByteArray} (h : StrAt w sv L) (hg : w.heap[g]? = some (.cells cs t fr)) (hn : ∀ (i : Nat) (s : ByteArray), cs[i]? ≠ some (.string s)) : OffT [g] sv L := by
  intro hl b hb hm
  obtain rfl := List.mem_singleton.1 hm
  obtain ⟨b', o, c, rfl, _, _, hlt, hcell⟩ := h.row.form (List.length_pos_iff.2 hl) (by decide)
  have : b' = b := by simpa [Value.ownBlock] using hb
  subst this
  obtain ⟨x, hx⟩ : ∃ x, L[0]? = some x := ⟨L[0]'(List.length_pos_iff.2 hl), List.getElem?_eq_getElem _⟩
  obtain ⟨ds, _, hcc, hR⟩ := hcell 0 x hx
  obtain rfl : ds = [.string x] := hR
  have h1 := hcc 0 _ rfl
  rw [cell_block hg] at h1
  exact hn _ _ h1
theorem str_keep {w w' : World} {g : Nat} {sv : Value} {L : List ByteArray} (h : StrAt w sv L) (ho : OffT [g] sv L) (ht : Touch g w w') : StrAt w' sv L :=
  RowAt.strs (h.row.keepT (KeepT.but (But.touch ht) (List.mem_singleton.2 rfl)) ho (fun _ _ h => h))
def StepAt (w : World) (s1 s2 s3 : Value) (s : JP.PS) : Prop := StrAt w s1 (s.path.map mkB) ∧ StrAt w s2 (s.frm.map mkB) ∧ ∃ n, JvAt n [] w s3 s.val
def ReadAt (k : Int) (r : Int × JP.PS) (w : World) (e : Ending) (w' : World) : Prop :=
  ∃ s1 s2 s3, e = .returned (.tuple #[.agg #[.int .i64 k, s1, s2, s3], .int .i64 r.1]) ∧ (r.1 = 0 → StepAt w' s1 s2 s3 r.2) ∧ (s1.oneCell' = true ∧ s2.oneCell' = true ∧ s3.oneCell' = true) ∧ Below w.heap.size w w'
theorem jv_nostr {n : Nat} {T : List Nat} {w : World} {s : ByteArray} {x : JV} (h : JvAt n T w (.string s) x) : False := by
  cases n with
  | zero => cases h
  | succ n => cases x with
    | nul => cases h
    | bool b => cases h
    | num k => cases h.1
    | str s => cases h
    | list l => obtain ⟨u, e, _⟩ := h; cases e
    | obj l => obtain ⟨q, e, _⟩ := h; cases e
theorem str_one {w : World} {v : Value} {L : List ByteArray} (h : StrAt w v L) : v.oneCell' = true := by obtain ⟨a, c, rfl, _⟩ := h.len; rfl
theorem str_nil (w : World) : StrAt w (.slice none 0 0) [] := RowAt.strs (.inl ⟨rfl, rfl⟩)
theorem nul_at (w : World) : JvAt 1 [] w .nilIface .nul := rfl
theorem bs_back {L : List ByteArray} {l : List Bs} (h : L.map (·.data.toList) = l) : L = l.map mkB := by rw [← h, map_mk]

set_option maxRecDepth 100000 in
set_option maxHeartbeats 6400000 in
theorem pread_out (kd : Int) (p f v : ByteArray) (w : World) (hp : p.size ≤ 1048576) (hf : f.size ≤ 1048576) (hv : v.size ≤ 1048576) (hE : Env w) (hk : kd < 1 ∨ 6 < kd) :
    Calls Tryz.prog 66 #[.agg #[.int .i64 kd, .string p, .string f, .string v]] w (ReadAt kd (JP.readO ⟨kd, p.data.toList, f.data.toList, v.data.toList⟩) w) := by
  obtain ⟨m, hm⟩ := hE.2.2
  have HSp := Lib.hid (fun (w' : World) (hb : Below w.heap.size w w') => ptrSteps_any p m w' (by omega) (hm.below hb))
  have HSf := Lib.hid (fun (w' : World) (hb : Below w.heap.size w w') => ptrSteps_any f m w' (by omega) (hm.below hb))
  have HRd := Lib.hid (fun (w' : World) => read_low v w' hv)
  obtain ⟨R, hR⟩ : ∃ R, JP.readO ⟨kd, p.data.toList, f.data.toList, v.data.toList⟩ = R := ⟨_, rfl⟩
  rw [hR]
  unfold JP.readO at hR
  dsimp only at hR
  obtain ⟨ep, l, hsp⟩ : ∃ e l, stepsP p.data.toList = (e, l) := ⟨_, _, rfl⟩
  obtain ⟨ef, lf, hsf⟩ : ∃ e l, stepsP f.data.toList = (e, l) := ⟨_, _, rfl⟩
  obtain ⟨x, ev, hrv⟩ : ∃ x e, JP.readL v.data.toList = (x, e) := ⟨_, _, rfl⟩
  rw [hsp] at HSp hR
  rw [hsf] at HSf hR
  rw [hrv] at HRd hR
  dsimp only at hR HRd
  obtain ⟨W, hW⟩ : ∃ W, W = (w.alloc (.cells #[.int .i64 kd, .string p, .string f, .string v] 41)).alloc (.cells #[.int .i64 kd, .slice none 0 0, .slice none 0 0, .nilIface] 71) := ⟨_, rfl⟩
  have c1 : W.heap[w.heap.size]? = some (.cells #[.int .i64 kd, .string p, .string f, .string v] 41 (0, 0)) := by rw [hW]; exact heap_alloc_old (heap_alloc_new w _)
  have c2 : W.heap[w.heap.size + 1]? = some (.cells #[.int .i64 kd, .slice none 0 0, .slice none 0 0, .nilIface] 71 (0, 0)) := by rw [hW]; exact heap_alloc_at (World.size_alloc _ _).symm
  have HB : Hid (Below w.heap.size w W) := Lib.hid (by rw [hW]; exact ((Below.refl _ w).alloc (Nat.le_refl _) _).alloc (by rw [World.size_alloc]; omega) _)
  have C1 := Lib.hid c1
  have C2 := Lib.hid c2
  have Hlt : Hid (w.heap.size + 1 < W.heap.size) := Lib.hid (blk_lt c2)
  clear hm hE hp hf hv hrv hsp hsf c1 c2
  have HRx : Hid (R = (1, ⟨kd, [], [], .nul⟩)) := Lib.hid (by rw [← hR, if_pos hk])
  clear HSp HSf HRd hR
  rcases hk with hk | hk
  · go_enter Tryz.func66, Tryz.ntmps66
    go_upto_region 2 with fail
    rw [← hW]
    clear hW
    have q1 := fun i => cell_block C1.out i
    have q2 := fun i => cell_block C2.out i
    go_upto_region 3 with fail
    go_wp2_with (first | (refine wpList_load_row (by rfl) _ _ (by rfl) (w.heap.size + 1) (by rfl) _ _ _ _ (by exact C2.out) Tryz.underlying71 rfl (by exact Tryz.sizeStep) ?_) | (refine wpList_store_box (by rfl) _ _ _ (by rfl) (w.heap.size + 1) #[.int .i64 kd, .slice none 0 0, .slice none 0 0, .nilIface] (by rfl) (by rfl) _ _ (by exact C2.out) (by exact Tryz.sizeStep) (by rfl) (by simp [Value.oneCell', ]) ?_))
    intro WF bF tF
    have HF := Lib.hid (tF.below HB.out (by omega))
    go_wp2_with fail
    refine bodyPost_ret (v := .tuple #[.agg #[.int .i64 kd, .slice none 0 0, .slice none 0 0, .nilIface], .int .i64 1]) ?_ rfl ?_
    · exact results_two_box Tryz.results66 _ _ (w.heap.size + 1) _ _ _ _ (by rfl) bF Tryz.underlying71 rfl (by exact Tryz.sizeStep)
    · exact ⟨_, _, _, by rw [HRx.out], fun h => (by rw [HRx.out] at h; cases h), ⟨rfl, rfl, rfl⟩, HF.out⟩
  · go_enter Tryz.func66, Tryz.ntmps66
    go_upto_region 2 with fail
    rw [← hW]
    clear hW
    have q1 := fun i => cell_block C1.out i
    have q2 := fun i => cell_block C2.out i
    go_upto_region 3 with fail
    go_wp2_with (first | (refine wpList_load_row (by rfl) _ _ (by rfl) (w.heap.size + 1) (by rfl) _ _ _ _ (by exact C2.out) Tryz.underlying71 rfl (by exact Tryz.sizeStep) ?_) | (refine wpList_store_box (by rfl) _ _ _ (by rfl) (w.heap.size + 1) #[.int .i64 kd, .slice none 0 0, .slice none 0 0, .nilIface] (by rfl) (by rfl) _ _ (by exact C2.out) (by exact Tryz.sizeStep) (by rfl) (by simp [Value.oneCell', ]) ?_))
    intro WF bF tF
    have HF := Lib.hid (tF.below HB.out (by omega))
    go_wp2_with fail
    refine bodyPost_ret (v := .tuple #[.agg #[.int .i64 kd, .slice none 0 0, .slice none 0 0, .nilIface], .int .i64 1]) ?_ rfl ?_
    · exact results_two_box Tryz.results66 _ _ (w.heap.size + 1) _ _ _ _ (by rfl) bF Tryz.underlying71 rfl (by exact Tryz.sizeStep)
    · exact ⟨_, _, _, by rw [HRx.out], fun h => (by rw [HRx.out] at h; cases h), ⟨rfl, rfl, rfl⟩, HF.out⟩

set_option maxRecDepth 100000 in
set_option maxHeartbeats 6400000 in
theorem pread_err (kd : Int) (p f v : ByteArray) (w : World) (hp : p.size ≤ 1048576) (hf : f.size ≤ 1048576) (hv : v.size ≤ 1048576) (hE : Env w) (hk : 1 ≤ kd ∧ kd ≤ 6) (he : (stepsP p.data.toList).1 ≠ 0) :
    Calls Tryz.prog 66 #[.agg #[.int .i64 kd, .string p, .string f, .string v]] w (ReadAt kd (JP.readO ⟨kd, p.data.toList, f.data.toList, v.data.toList⟩) w) := by
  obtain ⟨m, hm⟩ := hE.2.2
  have HSp := Lib.hid (fun (w' : World) (hb : Below w.heap.size w w') => ptrSteps_any p m w' (by omega) (hm.below hb))
  have HSf := Lib.hid (fun (w' : World) (hb : Below w.heap.size w w') => ptrSteps_any f m w' (by omega) (hm.below hb))
  have HRd := Lib.hid (fun (w' : World) => read_low v w' hv)
  obtain ⟨R, hR⟩ : ∃ R, JP.readO ⟨kd, p.data.toList, f.data.toList, v.data.toList⟩ = R := ⟨_, rfl⟩
  rw [hR]
  unfold JP.readO at hR
  dsimp only at hR
  obtain ⟨ep, l, hsp⟩ : ∃ e l, stepsP p.data.toList = (e, l) := ⟨_, _, rfl⟩
  obtain ⟨ef, lf, hsf⟩ : ∃ e l, stepsP f.data.toList = (e, l) := ⟨_, _, rfl⟩
  obtain ⟨x, ev, hrv⟩ : ∃ x e, JP.readL v.data.toList = (x, e) := ⟨_, _, rfl⟩
  rw [hsp] at HSp hR he
  rw [hsf] at HSf hR
  rw [hrv] at HRd hR
  dsimp only at hR HRd he
  obtain ⟨W, hW⟩ : ∃ W, W = (w.alloc (.cells #[.int .i64 kd, .string p, .string f, .string v] 41)).alloc (.cells #[.int .i64 kd, .slice none 0 0, .slice none 0 0, .nilIface] 71) := ⟨_, rfl⟩
  have c1 : W.heap[w.heap.size]? = some (.cells #[.int .i64 kd, .string p, .string f, .string v] 41 (0, 0)) := by rw [hW]; exact heap_alloc_old (heap_alloc_new w _)
  have c2 : W.heap[w.heap.size + 1]? = some (.cells #[.int .i64 kd, .slice none 0 0, .slice none 0 0, .nilIface] 71 (0, 0)) := by rw [hW]; exact heap_alloc_at (World.size_alloc _ _).symm
  have HB : Hid (Below w.heap.size w W) := Lib.hid (by rw [hW]; exact ((Below.refl _ w).alloc (Nat.le_refl _) _).alloc (by rw [World.size_alloc]; omega) _)
  have C1 := Lib.hid c1
  have C2 := Lib.hid c2
  have Hlt : Hid (w.heap.size + 1 < W.heap.size) := Lib.hid (blk_lt c2)
  clear hm hE hp hf hv hrv hsp hsf c1 c2
  have HRx : Hid (R = (ep, ⟨kd, [], [], .nul⟩)) := Lib.hid (by rw [← hR, if_neg (by omega), if_pos he])
  have n0 : (ep != 0) = true := by rw [bne_iff_ne]; exact he
  have hk1 : ¬ kd < 1 := by omega
  have hk2 : ¬ 6 < kd := by omega
  have Hne := Lib.hid he
  clear HSf HRd hR he hk
  go_enter Tryz.func66, Tryz.ntmps66
  go_upto_region 2 with fail
  rw [← hW]
  clear hW
  have q1 := fun i => cell_block C1.out i
  have q2 := fun i => cell_block C2.out i

  go_upto_region 3 with fail
  go_wp2_with fail
  refine (HSp.out W HB.out).mono ?_
  rintro E w3 ⟨sv, rfl, ⟨L, hst, hL⟩, hb⟩
  have hL2 := bs_back hL
  subst hL2
  obtain ⟨av, cs, e9, _, _⟩ := hst.len
  obtain ⟨nl, hnl⟩ : ∃ n, (l.map mkB).length = n := ⟨_, rfl⟩
  rw [hnl] at e9
  subst e9
  have d1 : w3.heap[w.heap.size]? = _ := below_block hb C1.out
  have d2 : w3.heap[w.heap.size + 1]? = _ := below_block hb C2.out
  obtain ⟨w4, hw4⟩ : ∃ w4, w4 = w3.setCell ⟨w.heap.size + 1, 1, none⟩ (.slice av nl cs) := ⟨_, rfl⟩
  obtain ⟨t1, t2⟩ := touch_setCell (i := 1) (v := (.slice av nl cs)) d2
  rw [← hw4] at t1 t2
  have hB4 : Below w.heap.size w w4 := t2.below (HB.out.trans (hb.mono HB.out.size)) (by omega)
  have HB4 := Lib.hid hB4
  have C14 : Hid (w4.heap[w.heap.size]? = some (.cells #[.int .i64 kd, .string p, .string f, .string v] 41 (0, 0))) := Lib.hid (t2.block d1 (by omega))
  have C24 : Hid (w4.heap[w.heap.size + 1]? = some (.cells #[.int .i64 kd, (.slice av nl cs), .slice none 0 0, .nilIface] 71 (0, 0))) := Lib.hid t1
  have HSt : Hid (StrAt w4 (.slice av nl cs) (l.map mkB)) := Lib.hid (str_keep hst (off_str hst d2 (by intro i s; rcases i with _ | _ | _ | _ | i <;> simp)) t2)
  have z2 := fun i => free_block d2 i
  have z3 := fun i => cell_block d2 i
  clear hb hst hL d1 t1 t2 hB4 C1 C2 q1 q2
  go_upto_region 5 with fail
  rw [← hw4]
  clear hw4 z2 z3 d2 HB Hlt
  have q1 := fun i => cell_block C14.out i
  have q2 := fun i => cell_block C24.out i
  go_upto_region 6 with fail
  go_wp2_with (first | (refine wpList_load_row (by rfl) _ _ (by rfl) (w.heap.size + 1) (by rfl) _ _ _ _ (by exact C24.out) Tryz.underlying71 rfl (by exact Tryz.sizeStep) ?_) | (refine wpList_store_box (by rfl) _ _ _ (by rfl) (w.heap.size + 1) #[.int .i64 kd, (.slice av nl cs), .slice none 0 0, .nilIface] (by rfl) (by rfl) _ _ (by exact C24.out) (by exact Tryz.sizeStep) (by rfl) (by simp [Value.oneCell']) ?_))
  intro WF bF tF
  have HF := Lib.hid (tF.below HB4.out (by omega))
  go_wp2_with fail
  refine bodyPost_ret (v := .tuple #[.agg #[.int .i64 kd, (.slice av nl cs), .slice none 0 0, .nilIface], .int .i64 ep]) ?_ rfl ?_
  · exact results_two_box Tryz.results66 _ _ (w.heap.size + 1) _ _ _ _ (by rfl) bF Tryz.underlying71 rfl (by exact Tryz.sizeStep)
  · exact ⟨_, _, _, by rw [HRx.out], fun h => absurd h (by rw [HRx.out]; exact Hne.out), ⟨rfl, rfl, rfl⟩, HF.out⟩

set_option maxRecDepth 100000 in
set_option maxHeartbeats 6400000 in
theorem pread_cut (kd : Int) (p f v : ByteArray) (w : World) (hp : p.size ≤ 1048576) (hf : f.size ≤ 1048576) (hv : v.size ≤ 1048576) (hE : Env w) (hk : kd = 2) (he : (stepsP p.data.toList).1 = 0) :
    Calls Tryz.prog 66 #[.agg #[.int .i64 kd, .string p, .string f, .string v]] w (ReadAt kd (JP.readO ⟨kd, p.data.toList, f.data.toList, v.data.toList⟩) w) := by
  obtain ⟨m, hm⟩ := hE.2.2
  have HSp := Lib.hid (fun (w' : World) (hb : Below w.heap.size w w') => ptrSteps_any p m w' (by omega) (hm.below hb))
  have HSf := Lib.hid (fun (w' : World) (hb : Below w.heap.size w w') => ptrSteps_any f m w' (by omega) (hm.below hb))
  have HRd := Lib.hid (fun (w' : World) => read_low v w' hv)
  obtain ⟨R, hR⟩ : ∃ R, JP.readO ⟨kd, p.data.toList, f.data.toList, v.data.toList⟩ = R := ⟨_, rfl⟩
  rw [hR]
  unfold JP.readO at hR
  dsimp only at hR
  obtain ⟨ep, l, hsp⟩ : ∃ e l, stepsP p.data.toList = (e, l) := ⟨_, _, rfl⟩
  obtain ⟨ef, lf, hsf⟩ : ∃ e l, stepsP f.data.toList = (e, l) := ⟨_, _, rfl⟩
  obtain ⟨x, ev, hrv⟩ : ∃ x e, JP.readL v.data.toList = (x, e) := ⟨_, _, rfl⟩
  rw [hsp] at HSp hR he
  rw [hsf] at HSf hR
  rw [hrv] at HRd hR
  dsimp only at hR HRd he
  obtain ⟨W, hW⟩ : ∃ W, W = (w.alloc (.cells #[.int .i64 kd, .string p, .string f, .string v] 41)).alloc (.cells #[.int .i64 kd, .slice none 0 0, .slice none 0 0, .nilIface] 71) := ⟨_, rfl⟩
  have c1 : W.heap[w.heap.size]? = some (.cells #[.int .i64 kd, .string p, .string f, .string v] 41 (0, 0)) := by rw [hW]; exact heap_alloc_old (heap_alloc_new w _)
  have c2 : W.heap[w.heap.size + 1]? = some (.cells #[.int .i64 kd, .slice none 0 0, .slice none 0 0, .nilIface] 71 (0, 0)) := by rw [hW]; exact heap_alloc_at (World.size_alloc _ _).symm
  have HB : Hid (Below w.heap.size w W) := Lib.hid (by rw [hW]; exact ((Below.refl _ w).alloc (Nat.le_refl _) _).alloc (by rw [World.size_alloc]; omega) _)
  have C1 := Lib.hid c1
  have C2 := Lib.hid c2
  have Hlt : Hid (w.heap.size + 1 < W.heap.size) := Lib.hid (blk_lt c2)
  clear hm hE hp hf hv hrv hsp hsf c1 c2
  subst hk
  subst he
  have HRx : Hid (R = (0, ⟨2, l, [], .nul⟩)) := Lib.hid (by rw [← hR, if_neg (by decide), if_neg (by decide), if_neg (by decide), if_pos rfl])
  clear HSf HRd hR
  go_enter Tryz.func66, Tryz.ntmps66
  go_upto_region 2 with fail
  rw [← hW]
  clear hW
  have q1 := fun i => cell_block C1.out i
  have q2 := fun i => cell_block C2.out i

  go_upto_region 3 with fail
  go_wp2_with fail
  refine (HSp.out W HB.out).mono ?_
  rintro E w3 ⟨sv, rfl, ⟨L, hst, hL⟩, hb⟩
  have hL2 := bs_back hL
  subst hL2
  obtain ⟨av, cs, e9, _, _⟩ := hst.len
  obtain ⟨nl, hnl⟩ : ∃ n, (l.map mkB).length = n := ⟨_, rfl⟩
  rw [hnl] at e9
  subst e9
  have d1 : w3.heap[w.heap.size]? = _ := below_block hb C1.out
  have d2 : w3.heap[w.heap.size + 1]? = _ := below_block hb C2.out
  obtain ⟨w4, hw4⟩ : ∃ w4, w4 = w3.setCell ⟨w.heap.size + 1, 1, none⟩ (.slice av nl cs) := ⟨_, rfl⟩
  obtain ⟨t1, t2⟩ := touch_setCell (i := 1) (v := (.slice av nl cs)) d2
  rw [← hw4] at t1 t2
  have hB4 : Below w.heap.size w w4 := t2.below (HB.out.trans (hb.mono HB.out.size)) (by omega)
  have HB4 := Lib.hid hB4
  have C14 : Hid (w4.heap[w.heap.size]? = some (.cells #[.int .i64 2, .string p, .string f, .string v] 41 (0, 0))) := Lib.hid (t2.block d1 (by omega))
  have C24 : Hid (w4.heap[w.heap.size + 1]? = some (.cells #[.int .i64 2, (.slice av nl cs), .slice none 0 0, .nilIface] 71 (0, 0))) := Lib.hid t1
  have HSt : Hid (StrAt w4 (.slice av nl cs) (l.map mkB)) := Lib.hid (str_keep hst (off_str hst d2 (by intro i s; rcases i with _ | _ | _ | _ | i <;> simp)) t2)
  have z2 := fun i => free_block d2 i
  have z3 := fun i => cell_block d2 i
  clear hb hst hL d1 t1 t2 hB4 C1 C2 q1 q2
  go_upto_region 5 with fail
  rw [← hw4]
  clear hw4 z2 z3 d2 HB Hlt
  have q1 := fun i => cell_block C14.out i
  have q2 := fun i => cell_block C24.out i
  have hsv : ∀ s, (Value.slice av nl cs) ≠ .string s := fun s h => (by cases h)
  go_upto_region 15 with fail
  go_wp2_with (first | (refine wpList_load_row (by rfl) _ _ (by rfl) (w.heap.size + 1) (by rfl) _ _ _ _ (by exact C24.out) Tryz.underlying71 rfl (by exact Tryz.sizeStep) ?_) | (refine wpList_store_box (by rfl) _ _ _ (by rfl) (w.heap.size + 1) #[.int .i64 2, (.slice av nl cs), .slice none 0 0, .nilIface] (by rfl) (by rfl) _ _ (by exact C24.out) (by exact Tryz.sizeStep) (by rfl) (by simp [Value.oneCell']) ?_))
  intro WF bF tF
  have HF := Lib.hid (tF.below HB4.out (by omega))
  go_wp2_with fail
  refine bodyPost_ret (v := .tuple #[.agg #[.int .i64 2, (.slice av nl cs), .slice none 0 0, .nilIface], .int .i64 0]) ?_ rfl ?_
  · exact results_two_box Tryz.results66 _ _ (w.heap.size + 1) _ _ _ _ (by rfl) bF Tryz.underlying71 rfl (by exact Tryz.sizeStep)
  · exact ⟨_, _, _, by rw [HRx.out], fun h => by rw [HRx.out]; exact ⟨str_keep HSt.out (off_str HSt.out C24.out (by intro i s; rcases i with _ | _ | _ | _ | i <;> simp [hsv])) tF, str_nil _, 1, nul_at _⟩, ⟨rfl, rfl, rfl⟩, HF.out⟩

set_option maxRecDepth 100000 in
set_option maxHeartbeats 6400000 in
theorem pread_from (kd : Int) (p f v : ByteArray) (w : World) (hp : p.size ≤ 1048576) (hf : f.size ≤ 1048576) (hv : v.size ≤ 1048576) (hE : Env w) (hk : kd = 4 ∨ kd = 5) (he : (stepsP p.data.toList).1 = 0) :
    Calls Tryz.prog 66 #[.agg #[.int .i64 kd, .string p, .string f, .string v]] w (ReadAt kd (JP.readO ⟨kd, p.data.toList, f.data.toList, v.data.toList⟩) w) := by
  obtain ⟨m, hm⟩ := hE.2.2
  have HSp := Lib.hid (fun (w' : World) (hb : Below w.heap.size w w') => ptrSteps_any p m w' (by omega) (hm.below hb))
  have HSf := Lib.hid (fun (w' : World) (hb : Below w.heap.size w w') => ptrSteps_any f m w' (by omega) (hm.below hb))
  have HRd := Lib.hid (fun (w' : World) => read_low v w' hv)
  obtain ⟨R, hR⟩ : ∃ R, JP.readO ⟨kd, p.data.toList, f.data.toList, v.data.toList⟩ = R := ⟨_, rfl⟩
  rw [hR]
  unfold JP.readO at hR
  dsimp only at hR
  obtain ⟨ep, l, hsp⟩ : ∃ e l, stepsP p.data.toList = (e, l) := ⟨_, _, rfl⟩
  obtain ⟨ef, lf, hsf⟩ : ∃ e l, stepsP f.data.toList = (e, l) := ⟨_, _, rfl⟩
  obtain ⟨x, ev, hrv⟩ : ∃ x e, JP.readL v.data.toList = (x, e) := ⟨_, _, rfl⟩
  rw [hsp] at HSp hR he
  rw [hsf] at HSf hR
  rw [hrv] at HRd hR
  dsimp only at hR HRd he
  obtain ⟨W, hW⟩ : ∃ W, W = (w.alloc (.cells #[.int .i64 kd, .string p, .string f, .string v] 41)).alloc (.cells #[.int .i64 kd, .slice none 0 0, .slice none 0 0, .nilIface] 71) := ⟨_, rfl⟩
  have c1 : W.heap[w.heap.size]? = some (.cells #[.int .i64 kd, .string p, .string f, .string v] 41 (0, 0)) := by rw [hW]; exact heap_alloc_old (heap_alloc_new w _)
  have c2 : W.heap[w.heap.size + 1]? = some (.cells #[.int .i64 kd, .slice none 0 0, .slice none 0 0, .nilIface] 71 (0, 0)) := by rw [hW]; exact heap_alloc_at (World.size_alloc _ _).symm
  have HB : Hid (Below w.heap.size w W) := Lib.hid (by rw [hW]; exact ((Below.refl _ w).alloc (Nat.le_refl _) _).alloc (by rw [World.size_alloc]; omega) _)
  have C1 := Lib.hid c1
  have C2 := Lib.hid c2
  have Hlt : Hid (w.heap.size + 1 < W.heap.size) := Lib.hid (blk_lt c2)
  clear hm hE hp hf hv hrv hsp hsf c1 c2
  subst he
  have HRx : Hid (R = (ef, ⟨kd, l, lf, .nul⟩)) := Lib.hid (by rw [← hR, if_neg (by omega), if_neg (by decide), if_pos hk])
  clear HRd hR
  rcases hk with rfl | rfl
  · go_enter Tryz.func66, Tryz.ntmps66
    go_upto_region 2 with fail
    rw [← hW]
    clear hW
    have q1 := fun i => cell_block C1.out i
    have q2 := fun i => cell_block C2.out i

    go_upto_region 3 with fail
    go_wp2_with fail
    refine (HSp.out W HB.out).mono ?_
    rintro E w3 ⟨sv, rfl, ⟨L, hst, hL⟩, hb⟩
    have hL2 := bs_back hL
    subst hL2
    obtain ⟨av, cs, e9, _, _⟩ := hst.len
    obtain ⟨nl, hnl⟩ : ∃ n, (l.map mkB).length = n := ⟨_, rfl⟩
    rw [hnl] at e9
    subst e9
    have d1 : w3.heap[w.heap.size]? = _ := below_block hb C1.out
    have d2 : w3.heap[w.heap.size + 1]? = _ := below_block hb C2.out
    obtain ⟨w4, hw4⟩ : ∃ w4, w4 = w3.setCell ⟨w.heap.size + 1, 1, none⟩ (.slice av nl cs) := ⟨_, rfl⟩
    obtain ⟨t1, t2⟩ := touch_setCell (i := 1) (v := (.slice av nl cs)) d2
    rw [← hw4] at t1 t2
    have hB4 : Below w.heap.size w w4 := t2.below (HB.out.trans (hb.mono HB.out.size)) (by omega)
    have HB4 := Lib.hid hB4
    have C14 : Hid (w4.heap[w.heap.size]? = some (.cells #[.int .i64 4, .string p, .string f, .string v] 41 (0, 0))) := Lib.hid (t2.block d1 (by omega))
    have C24 : Hid (w4.heap[w.heap.size + 1]? = some (.cells #[.int .i64 4, (.slice av nl cs), .slice none 0 0, .nilIface] 71 (0, 0))) := Lib.hid t1
    have HSt : Hid (StrAt w4 (.slice av nl cs) (l.map mkB)) := Lib.hid (str_keep hst (off_str hst d2 (by intro i s; rcases i with _ | _ | _ | _ | i <;> simp)) t2)
    have z2 := fun i => free_block d2 i
    have z3 := fun i => cell_block d2 i
    clear hb hst hL d1 t1 t2 hB4 C1 C2 q1 q2
    go_upto_region 5 with fail
    rw [← hw4]
    clear hw4 z2 z3 d2 HB Hlt
    have q1 := fun i => cell_block C14.out i
    have q2 := fun i => cell_block C24.out i

    go_upto_region 10 with fail
    go_wp2_with fail
    refine (HSf.out w4 HB4.out).mono ?_
    rintro E w5 ⟨sf, rfl, ⟨L, hst, hL⟩, hb⟩
    have hL2 := bs_back hL
    subst hL2
    obtain ⟨af, cf, e9, _, _⟩ := hst.len
    obtain ⟨nf, hnf⟩ : ∃ n, (lf.map mkB).length = n := ⟨_, rfl⟩
    rw [hnf] at e9
    subst e9
    have d2 : w5.heap[w.heap.size + 1]? = _ := below_block hb C24.out
    obtain ⟨w6, hw6⟩ : ∃ w6, w6 = w5.setCell ⟨w.heap.size + 1, 2, none⟩ (.slice af nf cf) := ⟨_, rfl⟩
    obtain ⟨t1, t2⟩ := touch_setCell (i := 2) (v := (.slice af nf cf)) d2
    rw [← hw6] at t1 t2
    have hB6 : Below w.heap.size w w6 := t2.below (HB4.out.trans (hb.mono HB4.out.size)) (by omega)
    have HB6 := Lib.hid hB6
    have hsv : ∀ s, (Value.slice av nl cs) ≠ .string s := fun s h => (by cases h)
    have C26 : Hid (w6.heap[w.heap.size + 1]? = some (.cells #[.int .i64 4, (.slice av nl cs), (.slice af nf cf), .nilIface] 71 (0, 0))) := Lib.hid t1
    have HSt2 : Hid (StrAt w6 (.slice af nf cf) (lf.map mkB)) := Lib.hid (str_keep hst (off_str hst d2 (by intro i s; rcases i with _ | _ | _ | _ | i <;> simp [hsv])) t2)
    have HSt1 : Hid (StrAt w6 (.slice av nl cs) (l.map mkB)) := Lib.hid (str_keep (HSt.out.below hb) (off_str (HSt.out.below hb) d2 (by intro i s; rcases i with _ | _ | _ | _ | i <;> simp [hsv])) t2)
    have hsf2 : ∀ s, (Value.slice af nf cf) ≠ .string s := fun s h => (by cases h)
    have z2 := fun i => free_block d2 i
    have z3 := fun i => cell_block d2 i
    clear hb hst hL t1 t2 hB6 C14 C24 q1 q2 HSt
    go_upto_region 15 with fail
    rw [← hw6]
    clear hw6 z2 z3 d2 HB4
    go_wp2_with (first | (refine wpList_load_row (by rfl) _ _ (by rfl) (w.heap.size + 1) (by rfl) _ _ _ _ (by exact C26.out) Tryz.underlying71 rfl (by exact Tryz.sizeStep) ?_) | (refine wpList_store_box (by rfl) _ _ _ (by rfl) (w.heap.size + 1) #[.int .i64 4, (.slice av nl cs), (.slice af nf cf), .nilIface] (by rfl) (by rfl) _ _ (by exact C26.out) (by exact Tryz.sizeStep) (by rfl) (by simp [Value.oneCell']) ?_))
    intro WF bF tF
    have HF := Lib.hid (tF.below HB6.out (by omega))
    go_wp2_with fail
    refine bodyPost_ret (v := .tuple #[.agg #[.int .i64 4, (.slice av nl cs), (.slice af nf cf), .nilIface], .int .i64 ef]) ?_ rfl ?_
    · exact results_two_box Tryz.results66 _ _ (w.heap.size + 1) _ _ _ _ (by rfl) bF Tryz.underlying71 rfl (by exact Tryz.sizeStep)
    · exact ⟨_, _, _, by rw [HRx.out], fun h => by rw [HRx.out]; exact ⟨str_keep HSt1.out (off_str HSt1.out C26.out (by intro i s; rcases i with _ | _ | _ | _ | i <;> simp [hsv, hsf2])) tF, str_keep HSt2.out (off_str HSt2.out C26.out (by intro i s; rcases i with _ | _ | _ | _ | i <;> simp [hsv, hsf2])) tF, 1, nul_at _⟩, ⟨rfl, rfl, rfl⟩, HF.out⟩
  · go_enter Tryz.func66, Tryz.ntmps66
    go_upto_region 2 with fail
    rw [← hW]
    clear hW
    have q1 := fun i => cell_block C1.out i
    have q2 := fun i => cell_block C2.out i

    go_upto_region 3 with fail
    go_wp2_with fail
    refine (HSp.out W HB.out).mono ?_
    rintro E w3 ⟨sv, rfl, ⟨L, hst, hL⟩, hb⟩
    have hL2 := bs_back hL
    subst hL2
    obtain ⟨av, cs, e9, _, _⟩ := hst.len
    obtain ⟨nl, hnl⟩ : ∃ n, (l.map mkB).length = n := ⟨_, rfl⟩
    rw [hnl] at e9
    subst e9
    have d1 : w3.heap[w.heap.size]? = _ := below_block hb C1.out
    have d2 : w3.heap[w.heap.size + 1]? = _ := below_block hb C2.out
    obtain ⟨w4, hw4⟩ : ∃ w4, w4 = w3.setCell ⟨w.heap.size + 1, 1, none⟩ (.slice av nl cs) := ⟨_, rfl⟩
    obtain ⟨t1, t2⟩ := touch_setCell (i := 1) (v := (.slice av nl cs)) d2
    rw [← hw4] at t1 t2
    have hB4 : Below w.heap.size w w4 := t2.below (HB.out.trans (hb.mono HB.out.size)) (by omega)
    have HB4 := Lib.hid hB4
    have C14 : Hid (w4.heap[w.heap.size]? = some (.cells #[.int .i64 5, .string p, .string f, .string v] 41 (0, 0))) := Lib.hid (t2.block d1 (by omega))
    have C24 : Hid (w4.heap[w.heap.size + 1]? = some (.cells #[.int .i64 5, (.slice av nl cs), .slice none 0 0, .nilIface] 71 (0, 0))) := Lib.hid t1
    have HSt : Hid (StrAt w4 (.slice av nl cs) (l.map mkB)) := Lib.hid (str_keep hst (off_str hst d2 (by intro i s; rcases i with _ | _ | _ | _ | i <;> simp)) t2)
    have z2 := fun i => free_block d2 i
    have z3 := fun i => cell_block d2 i
    clear hb hst hL d1 t1 t2 hB4 C1 C2 q1 q2
    go_upto_region 5 with fail
    rw [← hw4]
    clear hw4 z2 z3 d2 HB Hlt
    have q1 := fun i => cell_block C14.out i
    have q2 := fun i => cell_block C24.out i

    go_upto_region 10 with fail
    go_wp2_with fail
    refine (HSf.out w4 HB4.out).mono ?_
    rintro E w5 ⟨sf, rfl, ⟨L, hst, hL⟩, hb⟩
    have hL2 := bs_back hL
    subst hL2
    obtain ⟨af, cf, e9, _, _⟩ := hst.len
    obtain ⟨nf, hnf⟩ : ∃ n, (lf.map mkB).length = n := ⟨_, rfl⟩
    rw [hnf] at e9
    subst e9
    have d2 : w5.heap[w.heap.size + 1]? = _ := below_block hb C24.out
    obtain ⟨w6, hw6⟩ : ∃ w6, w6 = w5.setCell ⟨w.heap.size + 1, 2, none⟩ (.slice af nf cf) := ⟨_, rfl⟩
    obtain ⟨t1, t2⟩ := touch_setCell (i := 2) (v := (.slice af nf cf)) d2
    rw [← hw6] at t1 t2
    have hB6 : Below w.heap.size w w6 := t2.below (HB4.out.trans (hb.mono HB4.out.size)) (by omega)
    have HB6 := Lib.hid hB6
    have hsv : ∀ s, (Value.slice av nl cs) ≠ .string s := fun s h => (by cases h)
    have C26 : Hid (w6.heap[w.heap.size + 1]? = some (.cells #[.int .i64 5, (.slice av nl cs), (.slice af nf cf), .nilIface] 71 (0, 0))) := Lib.hid t1
    have HSt2 : Hid (StrAt w6 (.slice af nf cf) (lf.map mkB)) := Lib.hid (str_keep hst (off_str hst d2 (by intro i s; rcases i with _ | _ | _ | _ | i <;> simp [hsv])) t2)
    have HSt1 : Hid (StrAt w6 (.slice av nl cs) (l.map mkB)) := Lib.hid (str_keep (HSt.out.below hb) (off_str (HSt.out.below hb) d2 (by intro i s; rcases i with _ | _ | _ | _ | i <;> simp [hsv])) t2)
    have hsf2 : ∀ s, (Value.slice af nf cf) ≠ .string s := fun s h => (by cases h)
    have z2 := fun i => free_block d2 i
    have z3 := fun i => cell_block d2 i
    clear hb hst hL t1 t2 hB6 C14 C24 q1 q2 HSt
    go_upto_region 15 with fail
    rw [← hw6]
    clear hw6 z2 z3 d2 HB4
    go_wp2_with (first | (refine wpList_load_row (by rfl) _ _ (by rfl) (w.heap.size + 1) (by rfl) _ _ _ _ (by exact C26.out) Tryz.underlying71 rfl (by exact Tryz.sizeStep) ?_) | (refine wpList_store_box (by rfl) _ _ _ (by rfl) (w.heap.size + 1) #[.int .i64 5, (.slice av nl cs), (.slice af nf cf), .nilIface] (by rfl) (by rfl) _ _ (by exact C26.out) (by exact Tryz.sizeStep) (by rfl) (by simp [Value.oneCell']) ?_))
    intro WF bF tF
    have HF := Lib.hid (tF.below HB6.out (by omega))
    go_wp2_with fail
    refine bodyPost_ret (v := .tuple #[.agg #[.int .i64 5, (.slice av nl cs), (.slice af nf cf), .nilIface], .int .i64 ef]) ?_ rfl ?_
    · exact results_two_box Tryz.results66 _ _ (w.heap.size + 1) _ _ _ _ (by rfl) bF Tryz.underlying71 rfl (by exact Tryz.sizeStep)
    · exact ⟨_, _, _, by rw [HRx.out], fun h => by rw [HRx.out]; exact ⟨str_keep HSt1.out (off_str HSt1.out C26.out (by intro i s; rcases i with _ | _ | _ | _ | i <;> simp [hsv, hsf2])) tF, str_keep HSt2.out (off_str HSt2.out C26.out (by intro i s; rcases i with _ | _ | _ | _ | i <;> simp [hsv, hsf2])) tF, 1, nul_at _⟩, ⟨rfl, rfl, rfl⟩, HF.out⟩

set_option maxRecDepth 100000 in
set_option maxHeartbeats 6400000 in
theorem pread_val (kd : Int) (p f v : ByteArray) (w : World) (hp : p.size ≤ 1048576) (hf : f.size ≤ 1048576) (hv : v.size ≤ 1048576) (hE : Env w) (hk : kd = 1 ∨ kd = 3 ∨ kd = 6) (he : (stepsP p.data.toList).1 = 0) :
    Calls Tryz.prog 66 #[.agg #[.int .i64 kd, .string p, .string f, .string v]] w (ReadAt kd (JP.readO ⟨kd, p.data.toList, f.data.toList, v.data.toList⟩) w) := by
  obtain ⟨m, hm⟩ := hE.2.2
  have HSp := Lib.hid (fun (w' : World) (hb : Below w.heap.size w w') => ptrSteps_any p m w' (by omega) (hm.below hb))
  have HSf := Lib.hid (fun (w' : World) (hb : Below w.heap.size w w') => ptrSteps_any f m w' (by omega) (hm.below hb))
  have HRd := Lib.hid (fun (w' : World) => read_low v w' hv)
  obtain ⟨R, hR⟩ : ∃ R, JP.readO ⟨kd, p.data.toList, f.data.toList, v.data.toList⟩ = R := ⟨_, rfl⟩
  rw [hR]
  unfold JP.readO at hR
  dsimp only at hR
  obtain ⟨ep, l, hsp⟩ : ∃ e l, stepsP p.data.toList = (e, l) := ⟨_, _, rfl⟩
  obtain ⟨ef, lf, hsf⟩ : ∃ e l, stepsP f.data.toList = (e, l) := ⟨_, _, rfl⟩
  obtain ⟨x, ev, hrv⟩ : ∃ x e, JP.readL v.data.toList = (x, e) := ⟨_, _, rfl⟩
  rw [hsp] at HSp hR he
  rw [hsf] at HSf hR
  rw [hrv] at HRd hR
  dsimp only at hR HRd he
  obtain ⟨W, hW⟩ : ∃ W, W = (w.alloc (.cells #[.int .i64 kd, .string p, .string f, .string v] 41)).alloc (.cells #[.int .i64 kd, .slice none 0 0, .slice none 0 0, .nilIface] 71) := ⟨_, rfl⟩
  have c1 : W.heap[w.heap.size]? = some (.cells #[.int .i64 kd, .string p, .string f, .string v] 41 (0, 0)) := by rw [hW]; exact heap_alloc_old (heap_alloc_new w _)
  have c2 : W.heap[w.heap.size + 1]? = some (.cells #[.int .i64 kd, .slice none 0 0, .slice none 0 0, .nilIface] 71 (0, 0)) := by rw [hW]; exact heap_alloc_at (World.size_alloc _ _).symm
  have HB : Hid (Below w.heap.size w W) := Lib.hid (by rw [hW]; exact ((Below.refl _ w).alloc (Nat.le_refl _) _).alloc (by rw [World.size_alloc]; omega) _)
  have C1 := Lib.hid c1
  have C2 := Lib.hid c2
  have Hlt : Hid (w.heap.size + 1 < W.heap.size) := Lib.hid (blk_lt c2)
  clear hm hE hp hf hv hrv hsp hsf c1 c2
  subst he
  have HRx : Hid (R = (ev, ⟨kd, l, [], x⟩)) := Lib.hid (by rw [← hR, if_neg (by omega), if_neg (by decide), if_neg (by omega), if_neg (by omega)])
  clear HSf hR
  rcases hk with rfl | rfl | rfl
  · go_enter Tryz.func66, Tryz.ntmps66
    go_upto_region 2 with fail
    rw [← hW]
    clear hW
    have q1 := fun i => cell_block C1.out i
    have q2 := fun i => cell_block C2.out i

    go_upto_region 3 with fail
    go_wp2_with fail
    refine (HSp.out W HB.out).mono ?_
    rintro E w3 ⟨sv, rfl, ⟨L, hst, hL⟩, hb⟩
    have hL2 := bs_back hL
    subst hL2
    obtain ⟨av, cs, e9, _, _⟩ := hst.len
    obtain ⟨nl, hnl⟩ : ∃ n, (l.map mkB).length = n := ⟨_, rfl⟩
    rw [hnl] at e9
    subst e9
    have d1 : w3.heap[w.heap.size]? = _ := below_block hb C1.out
    have d2 : w3.heap[w.heap.size + 1]? = _ := below_block hb C2.out
    obtain ⟨w4, hw4⟩ : ∃ w4, w4 = w3.setCell ⟨w.heap.size + 1, 1, none⟩ (.slice av nl cs) := ⟨_, rfl⟩
    obtain ⟨t1, t2⟩ := touch_setCell (i := 1) (v := (.slice av nl cs)) d2
    rw [← hw4] at t1 t2
    have hB4 : Below w.heap.size w w4 := t2.below (HB.out.trans (hb.mono HB.out.size)) (by omega)
    have HB4 := Lib.hid hB4
    have C14 : Hid (w4.heap[w.heap.size]? = some (.cells #[.int .i64 1, .string p, .string f, .string v] 41 (0, 0))) := Lib.hid (t2.block d1 (by omega))
    have C24 : Hid (w4.heap[w.heap.size + 1]? = some (.cells #[.int .i64 1, (.slice av nl cs), .slice none 0 0, .nilIface] 71 (0, 0))) := Lib.hid t1
    have HSt : Hid (StrAt w4 (.slice av nl cs) (l.map mkB)) := Lib.hid (str_keep hst (off_str hst d2 (by intro i s; rcases i with _ | _ | _ | _ | i <;> simp)) t2)
    have z2 := fun i => free_block d2 i
    have z3 := fun i => cell_block d2 i
    clear hb hst hL d1 t1 t2 hB4 C1 C2 q1 q2
    go_upto_region 5 with fail
    rw [← hw4]
    clear hw4 z2 z3 d2 HB Hlt
    have q1 := fun i => cell_block C14.out i
    have q2 := fun i => cell_block C24.out i

    go_upto_region 14 with fail
    go_wp2_with fail
    refine (HRd.out w4).mono ?_
    rintro E w5 ⟨sx, rfl, ⟨n, hj⟩, hb⟩
    have hJ := hj [w.heap.size + 1] (fun b hb => by rw [List.mem_singleton.1 hb]; exact blk_lt C24.out)
    have hJ0 := hj [] (fun b hb => by cases hb)
    have d2 : w5.heap[w.heap.size + 1]? = _ := below_block hb C24.out
    have z2 := fun i => free_block d2 i
    have z3 := fun i => cell_block d2 i
    have hsv : ∀ s, (Value.slice av nl cs) ≠ .string s := fun s h => (by cases h)
    rcases jv_form hJ0 with rfl | ⟨ty, y, rfl⟩
    · obtain ⟨w6, hw6⟩ : ∃ w6, w6 = w5.setCell ⟨w.heap.size + 1, 3, none⟩ .nilIface := ⟨_, rfl⟩
      obtain ⟨t1, t2⟩ := touch_setCell (i := 3) (v := .nilIface) d2
      rw [← hw6] at t1 t2
      have hB6 : Below w.heap.size w w6 := t2.below (HB4.out.trans (hb.mono HB4.out.size)) (by omega)
      have HB6 := Lib.hid hB6
      have C26 : Hid (w6.heap[w.heap.size + 1]? = some (.cells #[.int .i64 1, (.slice av nl cs), .slice none 0 0, .nilIface] 71 (0, 0))) := Lib.hid t1
      have HSt1 : Hid (StrAt w6 (.slice av nl cs) (l.map mkB)) := Lib.hid (str_keep (HSt.out.below hb) (off_str (HSt.out.below hb) d2 (by intro i s; rcases i with _ | _ | _ | _ | i <;> simp [hsv])) t2)
      have HJ : Hid (JvAt n [w.heap.size + 1] w6 .nilIface x) := Lib.hid (hJ.keepT (KeepT.but (But.touch t2) (List.mem_singleton.2 rfl)))
      clear hb hj hJ hJ0 t1 t2 hB6 C14 C24 q1 q2 HSt
      go_upto_region 15 with fail
      rw [← hw6]
      clear hw6 z2 z3 d2 HB4
      go_wp2_with (first | (refine wpList_load_row (by rfl) _ _ (by rfl) (w.heap.size + 1) (by rfl) _ _ _ _ (by exact C26.out) Tryz.underlying71 rfl (by exact Tryz.sizeStep) ?_) | (refine wpList_store_box (by rfl) _ _ _ (by rfl) (w.heap.size + 1) #[.int .i64 1, (.slice av nl cs), .slice none 0 0, .nilIface] (by rfl) (by rfl) _ _ (by exact C26.out) (by exact Tryz.sizeStep) (by rfl) (by simp [Value.oneCell', ]) ?_))
      intro WF bF tF
      have HF := Lib.hid (tF.below HB6.out (by omega))
      go_wp2_with fail
      refine bodyPost_ret (v := .tuple #[.agg #[.int .i64 1, (.slice av nl cs), .slice none 0 0, .nilIface], .int .i64 ev]) ?_ rfl ?_
      · exact results_two_box Tryz.results66 _ _ (w.heap.size + 1) _ _ _ _ (by rfl) bF Tryz.underlying71 rfl (by exact Tryz.sizeStep)
      · exact ⟨_, _, _, by rw [HRx.out], fun h => by rw [HRx.out]; exact ⟨str_keep HSt1.out (off_str HSt1.out C26.out (by intro i s; rcases i with _ | _ | _ | _ | i <;> simp [hsv])) tF, str_nil _, n, (HJ.out.keepT (KeepT.but (But.touch tF) (List.mem_singleton.2 rfl))).fresh (fun b hb => by cases hb)⟩, ⟨rfl, rfl, rfl⟩, HF.out⟩
    · obtain ⟨w6, hw6⟩ : ∃ w6, w6 = w5.setCell ⟨w.heap.size + 1, 3, none⟩ (.iface ty y) := ⟨_, rfl⟩
      obtain ⟨t1, t2⟩ := touch_setCell (i := 3) (v := (.iface ty y)) d2
      rw [← hw6] at t1 t2
      have hB6 : Below w.heap.size w w6 := t2.below (HB4.out.trans (hb.mono HB4.out.size)) (by omega)
      have HB6 := Lib.hid hB6
      have C26 : Hid (w6.heap[w.heap.size + 1]? = some (.cells #[.int .i64 1, (.slice av nl cs), .slice none 0 0, (.iface ty y)] 71 (0, 0))) := Lib.hid t1
      have HSt1 : Hid (StrAt w6 (.slice av nl cs) (l.map mkB)) := Lib.hid (str_keep (HSt.out.below hb) (off_str (HSt.out.below hb) d2 (by intro i s; rcases i with _ | _ | _ | _ | i <;> simp [hsv])) t2)
      have HJ : Hid (JvAt n [w.heap.size + 1] w6 (.iface ty y) x) := Lib.hid (hJ.keepT (KeepT.but (But.touch t2) (List.mem_singleton.2 rfl)))
      clear hb hj hJ hJ0 t1 t2 hB6 C14 C24 q1 q2 HSt
      go_upto_region 15 with fail
      rw [← hw6]
      clear hw6 z2 z3 d2 HB4
      go_wp2_with (first | (refine wpList_load_row (by rfl) _ _ (by rfl) (w.heap.size + 1) (by rfl) _ _ _ _ (by exact C26.out) Tryz.underlying71 rfl (by exact Tryz.sizeStep) ?_) | (refine wpList_store_box (by rfl) _ _ _ (by rfl) (w.heap.size + 1) #[.int .i64 1, (.slice av nl cs), .slice none 0 0, (.iface ty y)] (by rfl) (by rfl) _ _ (by exact C26.out) (by exact Tryz.sizeStep) (by rfl) (by simp [Value.oneCell', ]) ?_))
      intro WF bF tF
      have HF := Lib.hid (tF.below HB6.out (by omega))
      go_wp2_with fail
      refine bodyPost_ret (v := .tuple #[.agg #[.int .i64 1, (.slice av nl cs), .slice none 0 0, (.iface ty y)], .int .i64 ev]) ?_ rfl ?_
      · exact results_two_box Tryz.results66 _ _ (w.heap.size + 1) _ _ _ _ (by rfl) bF Tryz.underlying71 rfl (by exact Tryz.sizeStep)
      · exact ⟨_, _, _, by rw [HRx.out], fun h => by rw [HRx.out]; exact ⟨str_keep HSt1.out (off_str HSt1.out C26.out (by intro i s; rcases i with _ | _ | _ | _ | i <;> simp [hsv])) tF, str_nil _, n, (HJ.out.keepT (KeepT.but (But.touch tF) (List.mem_singleton.2 rfl))).fresh (fun b hb => by cases hb)⟩, ⟨rfl, rfl, rfl⟩, HF.out⟩
  · go_enter Tryz.func66, Tryz.ntmps66
    go_upto_region 2 with fail
    rw [← hW]
    clear hW
    have q1 := fun i => cell_block C1.out i
    have q2 := fun i => cell_block C2.out i

    go_upto_region 3 with fail
    go_wp2_with fail
    refine (HSp.out W HB.out).mono ?_
    rintro E w3 ⟨sv, rfl, ⟨L, hst, hL⟩, hb⟩
    have hL2 := bs_back hL
    subst hL2
    obtain ⟨av, cs, e9, _, _⟩ := hst.len
    obtain ⟨nl, hnl⟩ : ∃ n, (l.map mkB).length = n := ⟨_, rfl⟩
    rw [hnl] at e9
    subst e9
    have d1 : w3.heap[w.heap.size]? = _ := below_block hb C1.out
    have d2 : w3.heap[w.heap.size + 1]? = _ := below_block hb C2.out
    obtain ⟨w4, hw4⟩ : ∃ w4, w4 = w3.setCell ⟨w.heap.size + 1, 1, none⟩ (.slice av nl cs) := ⟨_, rfl⟩
    obtain ⟨t1, t2⟩ := touch_setCell (i := 1) (v := (.slice av nl cs)) d2
    rw [← hw4] at t1 t2
    have hB4 : Below w.heap.size w w4 := t2.below (HB.out.trans (hb.mono HB.out.size)) (by omega)
    have HB4 := Lib.hid hB4
    have C14 : Hid (w4.heap[w.heap.size]? = some (.cells #[.int .i64 3, .string p, .string f, .string v] 41 (0, 0))) := Lib.hid (t2.block d1 (by omega))
    have C24 : Hid (w4.heap[w.heap.size + 1]? = some (.cells #[.int .i64 3, (.slice av nl cs), .slice none 0 0, .nilIface] 71 (0, 0))) := Lib.hid t1
    have HSt : Hid (StrAt w4 (.slice av nl cs) (l.map mkB)) := Lib.hid (str_keep hst (off_str hst d2 (by intro i s; rcases i with _ | _ | _ | _ | i <;> simp)) t2)
    have z2 := fun i => free_block d2 i
    have z3 := fun i => cell_block d2 i
    clear hb hst hL d1 t1 t2 hB4 C1 C2 q1 q2
    go_upto_region 5 with fail
    rw [← hw4]
    clear hw4 z2 z3 d2 HB Hlt
    have q1 := fun i => cell_block C14.out i
    have q2 := fun i => cell_block C24.out i

    go_upto_region 14 with fail
    go_wp2_with fail
    refine (HRd.out w4).mono ?_
    rintro E w5 ⟨sx, rfl, ⟨n, hj⟩, hb⟩
    have hJ := hj [w.heap.size + 1] (fun b hb => by rw [List.mem_singleton.1 hb]; exact blk_lt C24.out)
    have hJ0 := hj [] (fun b hb => by cases hb)
    have d2 : w5.heap[w.heap.size + 1]? = _ := below_block hb C24.out
    have z2 := fun i => free_block d2 i
    have z3 := fun i => cell_block d2 i
    have hsv : ∀ s, (Value.slice av nl cs) ≠ .string s := fun s h => (by cases h)
    rcases jv_form hJ0 with rfl | ⟨ty, y, rfl⟩
    · obtain ⟨w6, hw6⟩ : ∃ w6, w6 = w5.setCell ⟨w.heap.size + 1, 3, none⟩ .nilIface := ⟨_, rfl⟩
      obtain ⟨t1, t2⟩ := touch_setCell (i := 3) (v := .nilIface) d2
      rw [← hw6] at t1 t2
      have hB6 : Below w.heap.size w w6 := t2.below (HB4.out.trans (hb.mono HB4.out.size)) (by omega)
      have HB6 := Lib.hid hB6
      have C26 : Hid (w6.heap[w.heap.size + 1]? = some (.cells #[.int .i64 3, (.slice av nl cs), .slice none 0 0, .nilIface] 71 (0, 0))) := Lib.hid t1
      have HSt1 : Hid (StrAt w6 (.slice av nl cs) (l.map mkB)) := Lib.hid (str_keep (HSt.out.below hb) (off_str (HSt.out.below hb) d2 (by intro i s; rcases i with _ | _ | _ | _ | i <;> simp [hsv])) t2)
      have HJ : Hid (JvAt n [w.heap.size + 1] w6 .nilIface x) := Lib.hid (hJ.keepT (KeepT.but (But.touch t2) (List.mem_singleton.2 rfl)))
      clear hb hj hJ hJ0 t1 t2 hB6 C14 C24 q1 q2 HSt
      go_upto_region 15 with fail
      rw [← hw6]
      clear hw6 z2 z3 d2 HB4
      go_wp2_with (first | (refine wpList_load_row (by rfl) _ _ (by rfl) (w.heap.size + 1) (by rfl) _ _ _ _ (by exact C26.out) Tryz.underlying71 rfl (by exact Tryz.sizeStep) ?_) | (refine wpList_store_box (by rfl) _ _ _ (by rfl) (w.heap.size + 1) #[.int .i64 3, (.slice av nl cs), .slice none 0 0, .nilIface] (by rfl) (by rfl) _ _ (by exact C26.out) (by exact Tryz.sizeStep) (by rfl) (by simp [Value.oneCell', ]) ?_))
      intro WF bF tF
      have HF := Lib.hid (tF.below HB6.out (by omega))
      go_wp2_with fail
      refine bodyPost_ret (v := .tuple #[.agg #[.int .i64 3, (.slice av nl cs), .slice none 0 0, .nilIface], .int .i64 ev]) ?_ rfl ?_
      · exact results_two_box Tryz.results66 _ _ (w.heap.size + 1) _ _ _ _ (by rfl) bF Tryz.underlying71 rfl (by exact Tryz.sizeStep)
      · exact ⟨_, _, _, by rw [HRx.out], fun h => by rw [HRx.out]; exact ⟨str_keep HSt1.out (off_str HSt1.out C26.out (by intro i s; rcases i with _ | _ | _ | _ | i <;> simp [hsv])) tF, str_nil _, n, (HJ.out.keepT (KeepT.but (But.touch tF) (List.mem_singleton.2 rfl))).fresh (fun b hb => by cases hb)⟩, ⟨rfl, rfl, rfl⟩, HF.out⟩
    · obtain ⟨w6, hw6⟩ : ∃ w6, w6 = w5.setCell ⟨w.heap.size + 1, 3, none⟩ (.iface ty y) := ⟨_, rfl⟩
      obtain ⟨t1, t2⟩ := touch_setCell (i := 3) (v := (.iface ty y)) d2
      rw [← hw6] at t1 t2
      have hB6 : Below w.heap.size w w6 := t2.below (HB4.out.trans (hb.mono HB4.out.size)) (by omega)
      have HB6 := Lib.hid hB6
      have C26 : Hid (w6.heap[w.heap.size + 1]? = some (.cells #[.int .i64 3, (.slice av nl cs), .slice none 0 0, (.iface ty y)] 71 (0, 0))) := Lib.hid t1
      have HSt1 : Hid (StrAt w6 (.slice av nl cs) (l.map mkB)) := Lib.hid (str_keep (HSt.out.below hb) (off_str (HSt.out.below hb) d2 (by intro i s; rcases i with _ | _ | _ | _ | i <;> simp [hsv])) t2)
      have HJ : Hid (JvAt n [w.heap.size + 1] w6 (.iface ty y) x) := Lib.hid (hJ.keepT (KeepT.but (But.touch t2) (List.mem_singleton.2 rfl)))
      clear hb hj hJ hJ0 t1 t2 hB6 C14 C24 q1 q2 HSt
      go_upto_region 15 with fail
      rw [← hw6]
      clear hw6 z2 z3 d2 HB4
      go_wp2_with (first | (refine wpList_load_row (by rfl) _ _ (by rfl) (w.heap.size + 1) (by rfl) _ _ _ _ (by exact C26.out) Tryz.underlying71 rfl (by exact Tryz.sizeStep) ?_) | (refine wpList_store_box (by rfl) _ _ _ (by rfl) (w.heap.size + 1) #[.int .i64 3, (.slice av nl cs), .slice none 0 0, (.iface ty y)] (by rfl) (by rfl) _ _ (by exact C26.out) (by exact Tryz.sizeStep) (by rfl) (by simp [Value.oneCell', ]) ?_))
      intro WF bF tF
      have HF := Lib.hid (tF.below HB6.out (by omega))
      go_wp2_with fail
      refine bodyPost_ret (v := .tuple #[.agg #[.int .i64 3, (.slice av nl cs), .slice none 0 0, (.iface ty y)], .int .i64 ev]) ?_ rfl ?_
      · exact results_two_box Tryz.results66 _ _ (w.heap.size + 1) _ _ _ _ (by rfl) bF Tryz.underlying71 rfl (by exact Tryz.sizeStep)
      · exact ⟨_, _, _, by rw [HRx.out], fun h => by rw [HRx.out]; exact ⟨str_keep HSt1.out (off_str HSt1.out C26.out (by intro i s; rcases i with _ | _ | _ | _ | i <;> simp [hsv])) tF, str_nil _, n, (HJ.out.keepT (KeepT.but (But.touch tF) (List.mem_singleton.2 rfl))).fresh (fun b hb => by cases hb)⟩, ⟨rfl, rfl, rfl⟩, HF.out⟩
  · go_enter Tryz.func66, Tryz.ntmps66
    go_upto_region 2 with fail
    rw [← hW]
    clear hW
    have q1 := fun i => cell_block C1.out i
    have q2 := fun i => cell_block C2.out i

    go_upto_region 3 with fail
    go_wp2_with fail
    refine (HSp.out W HB.out).mono ?_
    rintro E w3 ⟨sv, rfl, ⟨L, hst, hL⟩, hb⟩
    have hL2 := bs_back hL
    subst hL2
    obtain ⟨av, cs, e9, _, _⟩ := hst.len
    obtain ⟨nl, hnl⟩ : ∃ n, (l.map mkB).length = n := ⟨_, rfl⟩
    rw [hnl] at e9
    subst e9
    have d1 : w3.heap[w.heap.size]? = _ := below_block hb C1.out
    have d2 : w3.heap[w.heap.size + 1]? = _ := below_block hb C2.out
    obtain ⟨w4, hw4⟩ : ∃ w4, w4 = w3.setCell ⟨w.heap.size + 1, 1, none⟩ (.slice av nl cs) := ⟨_, rfl⟩
    obtain ⟨t1, t2⟩ := touch_setCell (i := 1) (v := (.slice av nl cs)) d2
    rw [← hw4] at t1 t2
    have hB4 : Below w.heap.size w w4 := t2.below (HB.out.trans (hb.mono HB.out.size)) (by omega)
    have HB4 := Lib.hid hB4
    have C14 : Hid (w4.heap[w.heap.size]? = some (.cells #[.int .i64 6, .string p, .string f, .string v] 41 (0, 0))) := Lib.hid (t2.block d1 (by omega))
    have C24 : Hid (w4.heap[w.heap.size + 1]? = some (.cells #[.int .i64 6, (.slice av nl cs), .slice none 0 0, .nilIface] 71 (0, 0))) := Lib.hid t1
    have HSt : Hid (StrAt w4 (.slice av nl cs) (l.map mkB)) := Lib.hid (str_keep hst (off_str hst d2 (by intro i s; rcases i with _ | _ | _ | _ | i <;> simp)) t2)
    have z2 := fun i => free_block d2 i
    have z3 := fun i => cell_block d2 i
    clear hb hst hL d1 t1 t2 hB4 C1 C2 q1 q2
    go_upto_region 5 with fail
    rw [← hw4]
    clear hw4 z2 z3 d2 HB Hlt
    have q1 := fun i => cell_block C14.out i
    have q2 := fun i => cell_block C24.out i

    go_upto_region 14 with fail
    go_wp2_with fail
    refine (HRd.out w4).mono ?_
    rintro E w5 ⟨sx, rfl, ⟨n, hj⟩, hb⟩
    have hJ := hj [w.heap.size + 1] (fun b hb => by rw [List.mem_singleton.1 hb]; exact blk_lt C24.out)
    have hJ0 := hj [] (fun b hb => by cases hb)
    have d2 : w5.heap[w.heap.size + 1]? = _ := below_block hb C24.out
    have z2 := fun i => free_block d2 i
    have z3 := fun i => cell_block d2 i
    have hsv : ∀ s, (Value.slice av nl cs) ≠ .string s := fun s h => (by cases h)
    rcases jv_form hJ0 with rfl | ⟨ty, y, rfl⟩
    · obtain ⟨w6, hw6⟩ : ∃ w6, w6 = w5.setCell ⟨w.heap.size + 1, 3, none⟩ .nilIface := ⟨_, rfl⟩
      obtain ⟨t1, t2⟩ := touch_setCell (i := 3) (v := .nilIface) d2
      rw [← hw6] at t1 t2
      have hB6 : Below w.heap.size w w6 := t2.below (HB4.out.trans (hb.mono HB4.out.size)) (by omega)
      have HB6 := Lib.hid hB6
      have C26 : Hid (w6.heap[w.heap.size + 1]? = some (.cells #[.int .i64 6, (.slice av nl cs), .slice none 0 0, .nilIface] 71 (0, 0))) := Lib.hid t1
      have HSt1 : Hid (StrAt w6 (.slice av nl cs) (l.map mkB)) := Lib.hid (str_keep (HSt.out.below hb) (off_str (HSt.out.below hb) d2 (by intro i s; rcases i with _ | _ | _ | _ | i <;> simp [hsv])) t2)
      have HJ : Hid (JvAt n [w.heap.size + 1] w6 .nilIface x) := Lib.hid (hJ.keepT (KeepT.but (But.touch t2) (List.mem_singleton.2 rfl)))
      clear hb hj hJ hJ0 t1 t2 hB6 C14 C24 q1 q2 HSt
      go_upto_region 15 with fail
      rw [← hw6]
      clear hw6 z2 z3 d2 HB4
      go_wp2_with (first | (refine wpList_load_row (by rfl) _ _ (by rfl) (w.heap.size + 1) (by rfl) _ _ _ _ (by exact C26.out) Tryz.underlying71 rfl (by exact Tryz.sizeStep) ?_) | (refine wpList_store_box (by rfl) _ _ _ (by rfl) (w.heap.size + 1) #[.int .i64 6, (.slice av nl cs), .slice none 0 0, .nilIface] (by rfl) (by rfl) _ _ (by exact C26.out) (by exact Tryz.sizeStep) (by rfl) (by simp [Value.oneCell', ]) ?_))
      intro WF bF tF
      have HF := Lib.hid (tF.below HB6.out (by omega))
      go_wp2_with fail
      refine bodyPost_ret (v := .tuple #[.agg #[.int .i64 6, (.slice av nl cs), .slice none 0 0, .nilIface], .int .i64 ev]) ?_ rfl ?_
      · exact results_two_box Tryz.results66 _ _ (w.heap.size + 1) _ _ _ _ (by rfl) bF Tryz.underlying71 rfl (by exact Tryz.sizeStep)
      · exact ⟨_, _, _, by rw [HRx.out], fun h => by rw [HRx.out]; exact ⟨str_keep HSt1.out (off_str HSt1.out C26.out (by intro i s; rcases i with _ | _ | _ | _ | i <;> simp [hsv])) tF, str_nil _, n, (HJ.out.keepT (KeepT.but (But.touch tF) (List.mem_singleton.2 rfl))).fresh (fun b hb => by cases hb)⟩, ⟨rfl, rfl, rfl⟩, HF.out⟩
    · obtain ⟨w6, hw6⟩ : ∃ w6, w6 = w5.setCell ⟨w.heap.size + 1, 3, none⟩ (.iface ty y) := ⟨_, rfl⟩
      obtain ⟨t1, t2⟩ := touch_setCell (i := 3) (v := (.iface ty y)) d2
      rw [← hw6] at t1 t2
      have hB6 : Below w.heap.size w w6 := t2.below (HB4.out.trans (hb.mono HB4.out.size)) (by omega)
      have HB6 := Lib.hid hB6
      have C26 : Hid (w6.heap[w.heap.size + 1]? = some (.cells #[.int .i64 6, (.slice av nl cs), .slice none 0 0, (.iface ty y)] 71 (0, 0))) := Lib.hid t1
      have HSt1 : Hid (StrAt w6 (.slice av nl cs) (l.map mkB)) := Lib.hid (str_keep (HSt.out.below hb) (off_str (HSt.out.below hb) d2 (by intro i s; rcases i with _ | _ | _ | _ | i <;> simp [hsv])) t2)
      have HJ : Hid (JvAt n [w.heap.size + 1] w6 (.iface ty y) x) := Lib.hid (hJ.keepT (KeepT.but (But.touch t2) (List.mem_singleton.2 rfl)))
      clear hb hj hJ hJ0 t1 t2 hB6 C14 C24 q1 q2 HSt
      go_upto_region 15 with fail
      rw [← hw6]
      clear hw6 z2 z3 d2 HB4
      go_wp2_with (first | (refine wpList_load_row (by rfl) _ _ (by rfl) (w.heap.size + 1) (by rfl) _ _ _ _ (by exact C26.out) Tryz.underlying71 rfl (by exact Tryz.sizeStep) ?_) | (refine wpList_store_box (by rfl) _ _ _ (by rfl) (w.heap.size + 1) #[.int .i64 6, (.slice av nl cs), .slice none 0 0, (.iface ty y)] (by rfl) (by rfl) _ _ (by exact C26.out) (by exact Tryz.sizeStep) (by rfl) (by simp [Value.oneCell', ]) ?_))
      intro WF bF tF
      have HF := Lib.hid (tF.below HB6.out (by omega))
      go_wp2_with fail
      refine bodyPost_ret (v := .tuple #[.agg #[.int .i64 6, (.slice av nl cs), .slice none 0 0, (.iface ty y)], .int .i64 ev]) ?_ rfl ?_
      · exact results_two_box Tryz.results66 _ _ (w.heap.size + 1) _ _ _ _ (by rfl) bF Tryz.underlying71 rfl (by exact Tryz.sizeStep)
      · exact ⟨_, _, _, by rw [HRx.out], fun h => by rw [HRx.out]; exact ⟨str_keep HSt1.out (off_str HSt1.out C26.out (by intro i s; rcases i with _ | _ | _ | _ | i <;> simp [hsv])) tF, str_nil _, n, (HJ.out.keepT (KeepT.but (But.touch tF) (List.mem_singleton.2 rfl))).fresh (fun b hb => by cases hb)⟩, ⟨rfl, rfl, rfl⟩, HF.out⟩

theorem pread_any (kd : Int) (p f v : ByteArray) (w : World) (hp : p.size ≤ 1048576) (hf : f.size ≤ 1048576) (hv : v.size ≤ 1048576) (hE : Env w) :
    Calls Tryz.prog 66 #[.agg #[.int .i64 kd, .string p, .string f, .string v]] w (ReadAt kd (JP.readO ⟨kd, p.data.toList, f.data.toList, v.data.toList⟩) w) := by
  by_cases hk : kd < 1 ∨ 6 < kd
  · exact pread_out kd p f v w hp hf hv hE hk
  by_cases he : (stepsP p.data.toList).1 = 0
  · by_cases h2 : kd = 2
    · exact pread_cut kd p f v w hp hf hv hE h2 he
    by_cases h4 : kd = 4 ∨ kd = 5
    · exact pread_from kd p f v w hp hf hv hE h4 he
    · exact pread_val kd p f v w hp hf hv hE (by omega) he
  · exact pread_err kd p f v w hp hf hv hE (by omega) he
end Go.Proofs.YtlcongehmjiabaaGreatDoor
/- tree.Insert: its contract (printed by gen_put.py). -/
namespace Go.Proofs.YtlcongehmjiabaaGreatDoor
open Go.RowKit
open JP (JV Bs)

set_option maxRecDepth 100000 in
set_option maxHeartbeats 6400000 in
theorem tinsL_any {cb : Nat} {y : JV} (n : Nat) (v : Value) (x : JV) (s : Bs) (w : World) (h : JvAt n [] w v x) (hz : (JP.text x).length ≤ 1000000) (hs : s.length ≤ 1048576) (ht : TabOK w) (he : ErrOK w) (hc : BoxOf cb y w) :
    Calls Tryz.prog 116 #[v, .string (mkB s), .pointer (some ⟨cb, 0, none⟩)] w (MadeE (JP.insL y x s) w) := by
  obtain ⟨R0, hR⟩ : ∃ R, JP.insL y x s = R := ⟨_, rfl⟩
  rw [hR]
  have HR := Lib.hid hR
  clear hR
  obtain ⟨wv, m, ec, hy⟩ := hc
  have hcb : cb < w.heap.size := World.block_lt_of_cell? w ⟨cb, 0, none⟩ ec
  cases n with
  | zero => cases h
  | succ n =>
    rcases three_ways x with ⟨l, rfl⟩ | ⟨l, rfl⟩ | ⟨h1, h2⟩
    · obtain ⟨q, rfl, ho⟩ := h
      have G1 := (as_obj (.pointer (some ⟨q, 0, none⟩))).2.2.2.2
      have hl : l.length ≤ 1000000 := by have := lenF_len l; have := JP.obj_len_ge l; omega
      have HWi := Lib.hid (with_any (x := s) (ho.upsJ (Nat.le_max_left n m)) (hy.ups (Nat.le_max_right n m)) (fun b hb => by cases hb) (by omega))
      have HN : Hid (R0 = some (.obj (JP.put s y l))) := Lib.hid HR.out.symm
      clear ho hy ht he hz hs hl
      go_enter Tryz.func116, Tryz.ntmps116
      go_wp2_with fail
      refine HWi.out.mono ?_
      rintro E w1 ⟨q', rfl, ho, hb⟩
      have HB := Lib.hid hb
      have HO := Lib.hid ho
      clear hb ho
      go_wp2_with fail
      go_ret2
      exact MadeE.yes (k := max n m + 1) HN.out ⟨q', rfl, HO.out⟩ HB.out
    · have hj := h
      obtain ⟨u, rfl, hr, _⟩ := h
      obtain ⟨a1, c1, rfl, _, _⟩ := hr.len
      obtain ⟨G1, G2⟩ := (as_list (.slice a1 l.length c1)).2.2.2
      have hl : l.length ≤ 1000000 := by have := lenL_len l; have := JP.list_len_ge l; omega
      cases hpl : JP.place s l.length with
      | none =>
        have HI := Lib.hid (place_no hpl hs (by omega) ht he)
        have HN : Hid (R0 = none) := Lib.hid (by rw [← HR.out, JP.insL, hpl])
        clear hpl ht he hs hr hz hj hy HR
        go_enter Tryz.func116, Tryz.ntmps116
        go_wp2_with fail
        refine HI.out.mono ?_
        rintro E w1 ⟨z, rfl, hb⟩
        have HB := Lib.hid hb
        clear hb
        go_wp2_with fail
        go_ret2
        exact MadeE.no HN.out HB.out
      | some k =>
        have HI := Lib.hid (place_yes hpl hs (by omega) ht he)
        have hkl := place_le hpl
        obtain ⟨xs, x1, x2, x3⟩ := list_raw hr
        obtain ⟨i0, hi0, hz0, hz1, hz2⟩ := info_parts Tryz.infoVal
        have HC1 := Lib.hid (fun w' (hb : Below w.heap.size w w') => cloneVal_any (.slice a1 l.length c1) xs w' (x2.below stays_val hb) (by omega))
        have HX3 := Lib.hid x3
        have HX1 := Lib.hid x1
        have HY := Lib.hid hy
        have hv1 := jv_cell hy
        have HVf := Lib.hid (jv_form hy)
        have HN : Hid (R0 = some (.list (l.take k ++ y :: l.drop k))) := Lib.hid (by rw [← HR.out, JP.insL, hpl])
        clear ht he hs hr x2 x3 hz HR x1 hy hpl hj
        go_enter Tryz.func116, Tryz.ntmps116
        go_wp2_with fail
        refine HI.out.mono ?_
        rintro E w1 ⟨rfl, hb⟩
        have HB1 := Lib.hid hb
        have ec1 : w1.cell? ⟨cb, 0, none⟩ = some wv := (hb.cell (p := ⟨cb, 0, none⟩) hcb).trans ec
        clear hb
        go_upto_region 9 with fail
        refine wp_region_relB 5 (fun ii U w' => match ii with
          | 0 => U 0 = .slice a1 l.length c1
          | 1 => OwnAt RVal 1 w' w.heap.size 51 (U 1) xs
          | 2 => U 2 = .int .i64 (k : Int)
          | 3 => U 3 = wv
          | 4 => ∃ g, U 4 = .slice (some ⟨g, 0, none⟩) 1 1 ∧ w'.heap[g]? = some (.cells #[wv] 51 (0, 0))
          | _ => True)
          (fun | 1 => [0] | 4 => [3] | _ => []) (by kernel_rfl) (by kernel_rfl) ?_ ⟨?_, ?_, ?_, ?_, ?_, trivial⟩ ?_
        · intro j u w1 w2 hb h
          match j, h with
          | 0, h => exact h
          | 1, h => exact OwnAt.below stays_val h hb
          | 2, h => exact h
          | 3, h => exact h
          | 4, h => exact (by obtain ⟨g, h1, h2⟩ := h; exact ⟨g, h1, below_block hb h2⟩)
          | _ + 5, h => trivial
        · intro x' w' hb hd
          have hbr : Below w.heap.size w w' := HB1.out.trans (((below_drew1 w1).trans hb).mono HB1.out.size)
          have e0 : w'.cell? ⟨cb, 0, none⟩ = some wv := (hbr.cell (p := ⟨cb, 0, none⟩) hcb).trans ec
          refine owes_here (.slice a1 l.length c1) (by rfl) ?_ rfl
          simp only [putAll, List.take_succ_cons, List.take_zero]
          go_simp
        · intro x' w' hb hd
          have hbr : Below w.heap.size w w' := HB1.out.trans (((below_drew1 w1).trans hb).mono HB1.out.size)
          have e0 : w'.cell? ⟨cb, 0, none⟩ = some wv := (hbr.cell (p := ⟨cb, 0, none⟩) hcb).trans ec
          have k0 : x' 0 = .slice a1 l.length c1 := hd 0 (by simp)
          refine owes_call 58 #[.slice a1 l.length c1] (by rfl) ?_ ((HC1.out w' hbr).mono fun e w2 ⟨v', h1, h2, h3⟩ => ⟨v', h1, h2.mono hbr.size, h3⟩)
          simp only [putAll, List.take_succ_cons, List.take_zero]
          go_simp
        · intro x' w' hb hd
          have hbr : Below w.heap.size w w' := HB1.out.trans (((below_drew1 w1).trans hb).mono HB1.out.size)
          have e0 : w'.cell? ⟨cb, 0, none⟩ = some wv := (hbr.cell (p := ⟨cb, 0, none⟩) hcb).trans ec
          refine owes_here (.int .i64 (k : Int)) (by rfl) ?_ rfl
          simp only [putAll, List.take_succ_cons, List.take_zero]
          go_simp
        · intro x' w' hb hd
          have hbr : Below w.heap.size w w' := HB1.out.trans (((below_drew1 w1).trans hb).mono HB1.out.size)
          have e0 : w'.cell? ⟨cb, 0, none⟩ = some wv := (hbr.cell (p := ⟨cb, 0, none⟩) hcb).trans ec
          refine owes_here wv (by rfl) ?_ rfl
          simp only [putAll, List.take_succ_cons, List.take_zero]
          go_simp
        · intro x' w' hb hd
          have hbr : Below w.heap.size w w' := HB1.out.trans (((below_drew1 w1).trans hb).mono HB1.out.size)
          have e0 : w'.cell? ⟨cb, 0, none⟩ = some wv := (hbr.cell (p := ⟨cb, 0, none⟩) hcb).trans ec
          have k0 : x' 3 = wv := hd 3 (by simp)
          have hf := HVf.out
          refine owes_makes (.slice (some ⟨w'.heap.size, 0, none⟩) 1 1) (w' := w'.alloc (.cells #[wv] 51)) (by rfl) ?_ (⟨_, rfl, heap_alloc_new w' _⟩) ((Below.refl _ _).alloc (Nat.le_refl _) _)
          simp only [putAll, List.take_succ_cons, List.take_zero]
          rcases hf with rfl | ⟨t, u, rfl⟩
          · go_simp
          · go_simp
        · intro x' w' hb hR
          have hbr : Below w.heap.size w w' := HB1.out.trans (((below_drew1 w1).trans hb).mono HB1.out.size)
          have e0 : w'.cell? ⟨cb, 0, none⟩ = some wv := (hbr.cell (p := ⟨cb, 0, none⟩) hcb).trans ec
          have k1 : OwnAt RVal 1 w' w.heap.size 51 (x' 1) xs := hR 1 (by omega)
          have k2 : x' 2 = .int .i64 (k : Int) := hR 2 (by omega)
          obtain ⟨g, kg1, kg2⟩ : ∃ g, x' 4 = .slice (some ⟨g, 0, none⟩) 1 1 ∧ w'.heap[g]? = some (.cells #[wv] 51 (0, 0)) := hR 4 (by omega)
          have hs1 := hbr.size
          have HIn := Lib.hid (insVal_any (x' 1) xs w.heap.size k wv g w' k1 (by rw [HX1.out]; exact hkl) hv1 kg2 hs1 (by rw [HX1.out]; omega))
          have Hb1 := Lib.hid hbr
          clear hR hb hbr kg2 k1 e0
          simp only [putAll, List.take_succ_cons, List.take_zero, List.drop_succ_cons, List.drop_zero]
          try simp only [Act.put, List.setIfInBounds_toArray, List.set_cons_zero, List.set_cons_succ]
          rw [k2, kg1]
          go_wp2_with fail
          refine HIn.out.mono ?_
          rintro E w2 ⟨v', rfl, hv', hb2, _⟩
          have Hb2 := Lib.hid (Hb1.out.trans hb2)
          have Hv := Lib.hid hv'
          clear hv' hb2
          go_wp2_with fail
          go_ret2
          refine MadeE.yes (k := max n m + 1) HN.out ?_ Hb2.out
          refine jv_list Hv.out.row (by rw [putin_len (by rw [HX1.out]; exact hkl), List.length_append, List.length_take, List.length_cons, List.length_drop, HX1.out]; omega) fun j u z hu hz => ?_
          exact pairs_get (P := fun u z => JvAt (max n m) [] w2 u z) (fun j u z hu hz => ((HX3.out j u z hu hz).below Hb2.out).ups (Nat.le_max_left n m)) ((HY.out.below Hb2.out).ups (Nat.le_max_right n m)) HX1.out hkl j u z hu hz
    · have G1 := as_other h h1
      have G2 := as_nolist h h2
      have HN : Hid (R0 = none) := Lib.hid (by rw [← HR.out]; exact (putL_no (w := y) h1 h2).2.1)
      clear h h1 h2 ht he hz hs HR hy
      go_enter Tryz.func116, Tryz.ntmps116
      go_wp2_with fail
      go_ret2
      exact MadeE.no HN.out (Below.refl _ _)
theorem enter_tins (a : Array Value) (w : World) : (callFunc 116 a).run Tryz.prog w = .ok (.enter 116 a) w := by kernel_rfl
set_option maxRecDepth 100000 in
set_option maxHeartbeats 3200000 in
theorem tins_any {n m : Nat} {v sv wv : Value} {x y : JV} {l : List Bs} {w : World} (h : JvAt n [] w v x) (hy : JvAt m [] w wv y) (hz : (JP.text x).length ≤ 1000000) (hs : StrAt w sv (l.map mkB)) (hl : ∀ s ∈ l, s.length ≤ 1048576) (hll : l.length ≤ 1048576) (ht : TabOK w) (he : ErrOK w) :
    Calls Tryz.prog 90 #[v, sv, wv] w (MadeE (JP.insW x l y) w) := by
  obtain ⟨a1, c1, hu, _, _⟩ := hs.len
  rw [List.length_map] at hu
  subst hu
  obtain ⟨W, hW⟩ : ∃ W, w.alloc (.cells #[wv] 51) = W := ⟨_, rfl⟩
  have hf := jv_form hy
  have hb : Below w.heap.size w W := by rw [← hW]; exact (Below.refl _ _).alloc (Nat.le_refl _) _
  have hcell : W.cell? ⟨w.heap.size, 0, none⟩ = some wv := by rw [← hW, cell_block (heap_alloc_new w _)]; rfl
  have HB := Lib.hid hb
  by_cases h0 : l = []
  · subst h0
    have HJ := Lib.hid (hy.below hb)
    have HN : Hid (JP.insW x [] y = some y) := Lib.hid (if_pos rfl)
    clear h hy hz hs hl hll ht he hb
    go_enter Tryz.func90, Tryz.ntmps90
    rcases hf with rfl | ⟨t, u, rfl⟩
    all_goals
      go_wp2_with fail
      go_ret2
      exact MadeE.yes HN.out HJ.out HB.out
  · have hU := under1_any (cap := .pointer (some ⟨w.heap.size, 0, none⟩)) (F := JP.insL y) enter_tins (Cap := BoxOf w.heap.size y) (fun w' w2 h hb => h.below hb) (fun n v x s w' h1 h2 h3 h4 h5 h6 => tinsL_any n v x s w' h1 h2 h3 h4 h5 h6) l n v (.slice a1 l.length c1) x W h0 (h.below hb) hz (hs.below hb) hl hll (ht.below hb) (he.below hb) ⟨wv, m, hcell, hy.below hb⟩
    have HU := Lib.hid hU
    have HN : Hid (JP.insW x l y = JP.under (JP.insL y) x l) := Lib.hid (if_neg h0)
    have q1 : ((l.length : Int) == 0) = false := by
      rw [beq_eq_false_iff_ne]
      intro e
      exact h0 (List.eq_nil_of_length_eq_zero (by omega))
    clear h hy hz hs hl hll ht he hb hU h0
    rw [HN.out]
    go_enter Tryz.func90, Tryz.ntmps90
    rcases hf with rfl | ⟨t, u, rfl⟩
    all_goals
      go_wp2_with fail
      refine HU.out.mono ?_
      rintro E w1 ⟨u, rfl, hu, hb1⟩
      have HB1 := Lib.hid (HB.out.trans (hb1.mono HB.out.size))
      have Hu := Lib.hid hu
      clear hb1 hu
      go_wp2_with fail
      go_ret2
      exact ⟨u, rfl, Hu.out, HB1.out⟩
end Go.Proofs.YtlcongehmjiabaaGreatDoor
/- patch: what a step does. -/
namespace Go.Proofs.YtlcongehmjiabaaGreatDoor
open Go.RowKit
open JP (JV Bs)

theorem row_take {α : Type} {R : Rd α} {k : Nat} {w : World} {a : Option Addr} {n c m : Nat} {l : List α} (h : RowAt R k w (.slice a n c) l) (hm : m ≤ l.length) : RowAt R k w (.slice a m c) (l.take m) := by
  rcases h with ⟨h1, rfl⟩ | ⟨b, c', h1, h2, h3, h4⟩
  · cases h1
    obtain rfl : m = 0 := by simpa using hm
    exact .inl ⟨rfl, rfl⟩
  · cases h1
    refine .inr ⟨b, c, by rw [List.length_take, Nat.min_eq_left hm], by rw [List.length_take]; omega, h3, fun j x hx => ?_⟩
    refine h4 j x ?_
    rw [List.getElem?_take] at hx
    split at hx
    · exact hx
    · cases hx
theorem mk_eq (a b : List Bs) : (a.map mkB = b.map mkB) = (a = b) := by
  apply propext
  refine ⟨fun h => ?_, fun h => by rw [h]⟩
  have := congrArg (List.map (·.data.toList)) h
  rw [List.map_map, List.map_map] at this
  have e : ((fun s : ByteArray => s.data.toList) ∘ mkB) = id := by funext s; exact mkB_list s
  rwa [e, List.map_id, List.map_id] at this
theorem dec_mk (a b : List Bs) : decide (a.map mkB = b.map mkB) = decide (a = b) := decide_eq_decide.2 (by rw [mk_eq])
/-- slices.Equal at texts -/
theorem equalS_any {a1 a2 : Option Addr} {n1 n2 c1 c2 : Nat} {L1 L2 : List ByteArray} {w : World} (h1 : StrAt w (.slice a1 n1 c1) L1) (h2 : StrAt w (.slice a2 n2 c2) L2) (l1 : L1.length ≤ 1048576) (l2 : L2.length ≤ 1048576) :
    Calls Tryz.prog 70 #[.slice a1 n1 c1, .slice a2 n2 c2] w fun e w' => e = .returned (.bool (decide (L1 = L2))) ∧ Below w.heap.size w w' := by
  obtain ⟨x1, y1, e1, _⟩ := h1.len
  obtain ⟨x2, y2, e2, _⟩ := h2.len
  injection e1 with _ e1
  injection e2 with _ e2
  subst e1; subst e2
  by_cases hn : L1.length = L2.length
  · by_cases h0 : L1.length = 0
    · obtain rfl := List.eq_nil_of_length_eq_zero h0
      obtain rfl := List.eq_nil_of_length_eq_zero (hn.symm.trans h0)
      refine (Tryz.slices_Equal_string_empty a1 a2 c1 0 c2 w (by omega)).mono ?_
      rintro E w' ⟨rfl, rfl⟩
      exact ⟨by simp, Below.refl _ _⟩
    · obtain ⟨b1, o1, d1, hv1, _, _, _, k1⟩ := h1.row.form (by omega) (by decide)
      obtain ⟨b2, o2, d2, hv2, _, _, _, k2⟩ := h2.row.form (by omega) (by decide)
      cases hv1
      cases hv2
      have cell : ∀ {b o : Nat} {L : List ByteArray}, (∀ j x, L[j]? = some x → ∃ cs, cs.length = 1 ∧ (∀ i u, cs[i]? = some u → w.cell? ⟨b, o + j * 1 + i, none⟩ = some u) ∧ RString w cs x) → ∀ j, j < L.length → w.cell? ⟨b, o + j, none⟩ = some (.string (L.getD j ByteArray.empty)) := fun {b o L} k j hj => by
        obtain ⟨ds, _, hcc, hR⟩ := k j L[j] (List.getElem?_eq_getElem hj)
        obtain rfl : ds = [.string L[j]] := hR
        have := hcc 0 _ rfl
        rw [List.getD_eq_getElem?_getD, List.getElem?_eq_getElem hj]
        simpa using this
      refine (Tryz.slices_Equal_string b1 o1 L1.length c1 b2 o2 L2.length c2 L1 L2 w (Nat.le_refl _) (Nat.le_refl _) (by omega) (by omega) (cell k1) (cell k2)).mono ?_
      rintro E w' ⟨rfl, q, rfl⟩
      exact ⟨by rw [List.take_length, List.take_length], below_drewNj (Below.refl _ _) q⟩
  · refine (Tryz.slices_Equal_string_lens a1 a2 L1.length c1 L2.length c2 w hn).mono ?_
    rintro E w' ⟨rfl, rfl⟩
    exact ⟨by rw [decide_eq_false (fun e => hn (by rw [e]))], Below.refl _ _⟩
set_option maxRecDepth 100000 in
set_option maxHeartbeats 1600000 in
theorem begins_any {sa sb : Value} {a b : List Bs} {w : World} (ha : StrAt w sa (a.map mkB)) (hb : StrAt w sb (b.map mkB)) (la : a.length ≤ 1048576) (lb : b.length ≤ 1048576) :
    Calls Tryz.prog 117 #[sa, sb] w fun e w' => e = .returned (.bool (JP.beginsP a b)) ∧ Below w.heap.size w w' := by
  obtain ⟨a1, c1, e1, _⟩ := ha.len
  obtain ⟨a2, c2, e2, k2, _⟩ := hb.len
  rw [List.length_map] at e1 e2 k2
  subst e1; subst e2
  obtain ⟨B0, hB0⟩ : ∃ B, JP.beginsP a b = B := ⟨_, rfl⟩
  rw [hB0]
  unfold JP.beginsP at hB0
  by_cases hl : a.length < b.length
  · rw [decide_eq_true hl, Bool.true_and] at hB0
    have htk := row_take hb.row (m := a.length) (by rw [List.length_map]; omega)
    rw [← List.map_take] at htk
    have hst : StrAt w (.slice a2 a.length c2) ((b.take a.length).map mkB) := RowAt.strs htk
    have HQ := Lib.hid (equalS_any ha hst (by rw [List.length_map]; exact la) (by rw [List.length_map, List.length_take]; omega))
    rw [dec_mk, hB0] at HQ
    obtain ⟨n, hn⟩ : ∃ n, a.length = n := ⟨_, rfl⟩
    obtain ⟨m, hm⟩ : ∃ n, b.length = n := ⟨_, rfl⟩
    rw [hn] at HQ hl
    rw [hm] at hl k2
    rw [hn, hm]
    have q1 : (n : Int) < (m : Int) := by omega
    have q2 : (0 : Int) ≤ (n : Int) := by omega
    have q3 : (n : Int) ≤ (c2 : Int) := by omega
    clear ha hb hst htk hB0 hn hm
    go_enter Tryz.func117, Tryz.ntmps117
    go_wp2_with fail
    refine HQ.out.mono ?_
    rintro E w1 ⟨rfl, hb⟩
    have HB := Lib.hid hb
    clear hb
    go_wp2_with fail
    go_ret
    exact ⟨rfl, HB.out⟩
  · rw [decide_eq_false hl, Bool.false_and] at hB0
    subst hB0
    have q1 : ¬ (a.length : Int) < (b.length : Int) := by omega
    clear ha hb
    go_enter Tryz.func117, Tryz.ntmps117
    go_wp2_with fail
    go_ret
    exact ⟨rfl, Below.refl _ _⟩
def DoneAt (r : Int × JV) (w : World) (e : Ending) (w' : World) : Prop := ∃ u, e = .returned (.tuple #[u, .int .i64 r.1]) ∧ (r.1 = 0 → ∃ k, JvAt k [] w' u r.2) ∧ Below w.heap.size w w'
theorem DoneAt.of {r : Int × JV} {w w' : World} {u : Value} {c : Int} (h1 : r.1 = c) (h2 : r.1 = 0 → ∃ k, JvAt k [] w' u r.2) (hb : Below w.heap.size w w') : DoneAt r w (.returned (.tuple #[u, .int .i64 c])) w' := ⟨u, by rw [h1], h2, hb⟩
theorem DoneAt.no {r : Int × JV} {w w' : World} {u : Value} {c : Int} (h1 : r.1 = c) (hc : c ≠ 0) (hb : Below w.heap.size w w') : DoneAt r w (.returned (.tuple #[u, .int .i64 c])) w' := .of h1 (fun h => absurd (h1.symm.trans h) hc) hb
theorem toI_code (c : Int) (o : Option JV) : (JP.toI c o).1 = JP.codE c o := by cases o <;> rfl
theorem toI_jv {o : Option JV} {w' : World} {u : Value} (h : ∀ z, o = some z → ∃ k, JvAt k [] w' u z) : (JP.toI 7 o).1 = 0 → ∃ k, JvAt k [] w' u (JP.toI 7 o).2 := fun h0 => by
  cases o with
  | none => cases h0
  | some z => exact h z rfl
set_option maxRecDepth 100000 in
set_option maxHeartbeats 6400000 in
theorem pcarry4 (kd : Int) (pa fr : List Bs) (val x : JV) (s1 s2 s3 v : Value) (n : Nat) (w : World) (hs : StepAt w s1 s2 s3 ⟨kd, pa, fr, val⟩) (ok : JP.PSOK ⟨kd, pa, fr, val⟩ 1048576) (hj : JvAt n [] w v x) (hx : JP.Fit x) (hE : Env w) (hk : kd = 4) :
    Calls Tryz.prog 91 #[.agg #[.int .i64 kd, s1, s2, s3], v] w (DoneAt (JP.carryP ⟨kd, pa, fr, val⟩ x) w) := by
  obtain ⟨hs1, hs2, n3, hs3⟩ := hs
  have hs1 : StrAt w s1 (pa.map mkB) := hs1
  have hs2 : StrAt w s2 (fr.map mkB) := hs2
  have hs3 : JvAt n3 [] w s3 val := hs3
  obtain ⟨k1, k2, k3, k4, k5, k6, k7⟩ := ok
  dsimp only at k1 k2 k3 k4 k5 k6 k7
  obtain ⟨D, hD⟩ : ∃ D, JP.carryP ⟨kd, pa, fr, val⟩ x = D := ⟨_, rfl⟩
  rw [hD]
  unfold JP.carryP at hD
  dsimp only at hD
  obtain ⟨w2, hw⟩ : ∃ w2, w2 = w.alloc (.cells #[.int .i64 kd, s1, s2, s3] 71) := ⟨_, rfl⟩
  have b1 : w2.heap[w.heap.size]? = some (.cells #[.int .i64 kd, s1, s2, s3] 71 (0, 0)) := by rw [hw]; exact heap_alloc_new w _
  have hb2 : Below w.heap.size w w2 := by rw [hw]; exact (Below.refl _ w).alloc (Nat.le_refl _) _
  have HB2 := Lib.hid hb2
  have C1 := Lib.hid b1
  have HE := Lib.hid (hE.below hb2)
  have HS1 := Lib.hid (hs1.below hb2)
  have HS2 := Lib.hid (hs2.below hb2)
  have HS3 := Lib.hid (hs3.below hb2)
  have HJ := Lib.hid (hj.below hb2)
  have Hx := Lib.hid hx
  have Hz : Hid ((JP.text x).length ≤ 1000000) := Lib.hid (by have h9 : (JP.text x).length ≤ 2000 := hx.2.2.2; show _ ≤ _; omega)
  have K1 := Lib.hid k1
  have K2 := Lib.hid k2
  have K3 := Lib.hid k3
  have K4 := Lib.hid k4
  have K5 := Lib.hid k5
  have K6 := Lib.hid k6
  have K7 := Lib.hid k7
  have q1 := fun i => cell_block b1 i
  clear hb2 hs1 hs2 hs3 hj hE hx k1 k2 k5 k6 k7 b1
  subst hk
  obtain ⟨Bg, hBg⟩ : ∃ B, JP.beginsP fr pa = B := ⟨_, rfl⟩
  have HBg := Lib.hid (begins_any HS2.out HS1.out (by omega) (by omega))
  rw [hBg] at HBg hD
  obtain ⟨A, hA⟩ : ∃ A, JP.atW x fr = A := ⟨_, rfl⟩
  rw [hA] at hD
  have HA := Lib.hid hA
  cases Bg with
  | true =>
    rw [if_pos ⟨rfl, rfl⟩] at hD
    have HD : Hid (D.1 = 1) := Lib.hid (by rw [← hD])
    clear hD hA hBg
    go_enter Tryz.func91, Tryz.ntmps91
    go_upto_region 1 with fail
    rw [← hw]
    clear hw
    go_wp2_with fail
    refine HBg.out.mono ?_
    rintro E w3 ⟨rfl, hb⟩
    have HB3 := Lib.hid (HB2.out.trans (hb.mono HB2.out.size))
    clear hb q1
    go_wp2_with fail
    go_ret2
    exact .no HD.out (by decide) HB3.out
  | false =>
    rw [if_neg (fun e => by cases e.2)] at hD
    have HBg2 := Lib.hid hBg
    clear hBg hA
    have HAt := Lib.hid (fun (w3 : World) (hb : Below w2.heap.size w2 w3) => at_any (HJ.out.below hb) Hz.out (HS2.out.below hb) K2.out (by have := K4.out; omega) (HE.out.below hb).1 (HE.out.below hb).2.1)
    rw [HA.out] at HAt
    cases A with
    | none =>
      have HD : Hid (D.1 = 7) := Lib.hid (by rw [← hD])
      clear hD
      go_enter Tryz.func91, Tryz.ntmps91
      go_upto_region 1 with fail
      rw [← hw]
      clear hw
      go_wp2_with fail
      refine HBg.out.mono ?_
      rintro E w3 ⟨rfl, hb⟩
      have HB3 := Lib.hid (HB2.out.trans (hb.mono HB2.out.size))
      have d1 := below_block hb C1.out
      have HBx := Lib.hid hb
      have q2 := fun i => cell_block d1 i
      clear hb d1 q1
      go_wp2_with fail
      refine (HAt.out w3 HBx.out).mono ?_
      rintro E w4 ⟨u, rfl, hu, hb⟩
      have HB4 := Lib.hid (HB3.out.trans (hb.mono HB3.out.size))
      clear hb hu q2
      go_wp2_with fail
      go_ret2
      exact .no HD.out (by decide) HB4.out
    | some y =>
      dsimp only at hD
      rw [if_pos rfl] at hD
      have HEq := Lib.hid (fun (w3 : World) (hb : Below w2.heap.size w2 w3) => HS2.out.below hb)
      have HEp := Lib.hid (fun (w3 : World) (hb : Below w2.heap.size w2 w3) => HS1.out.below hb)
      obtain ⟨a1, c1, e1, _⟩ := HS1.out.len
      obtain ⟨a2, c2, e2, _⟩ := HS2.out.len
      subst e1; subst e2
      simp only [List.length_map] at HEq HEp HAt C1 q1 HS1 HS2 HBg hw
      rw [List.length_map, List.length_map]
      have HQ := Lib.hid (fun (w3 : World) (hb : Below w2.heap.size w2 w3) => equalS_any (HEq.out w3 hb) (HEp.out w3 hb) (by rw [List.length_map]; have := K4.out; omega) (by rw [List.length_map]; have := K3.out; omega))
      rw [dec_mk] at HQ
      obtain ⟨n1, hn1⟩ : ∃ n, pa.length = n := ⟨_, rfl⟩
      obtain ⟨n2, hn2⟩ : ∃ n, fr.length = n := ⟨_, rfl⟩
      rw [hn1, hn2] at HQ C1 q1 HBg hw
      rw [hn2] at HAt HS2 HEq k4
      rw [hn1] at HS1 HEp k3
      rw [hn1, hn2]
      have Hn1 := Lib.hid hn1
      have Hn2 := Lib.hid hn2
      clear hn1 hn2 k3 k4
      by_cases hfp : fr = pa
      · rw [if_pos hfp] at hD
        rw [decide_eq_true hfp] at HQ
        have HD : Hid (D = (0, x)) := Lib.hid hD.symm
        clear hD hfp
        go_enter Tryz.func91, Tryz.ntmps91
        go_upto_region 1 with fail
        rw [← hw]
        clear hw
        go_wp2_with fail
        refine HBg.out.mono ?_
        rintro E w3 ⟨rfl, hb⟩
        have HB3 := Lib.hid (HB2.out.trans (hb.mono HB2.out.size))
        have d1 := below_block hb C1.out
        have HBx := Lib.hid hb
        have q2 := fun i => cell_block d1 i
        clear hb q1
        go_wp2_with fail
        refine (HAt.out w3 HBx.out).mono ?_
        rintro E w4 ⟨u, rfl, hu, hb⟩
        obtain ⟨ku, hju⟩ := hu y rfl
        have hJu := Lib.hid hju
        have HB4 := Lib.hid (HB3.out.trans (hb.mono HB3.out.size))
        have HB4r := Lib.hid (HBx.out.trans (hb.mono HBx.out.size))
        have d4 := below_block hb d1
        have q3 := fun i => cell_block d4 i
        clear hb hu q2 d1 hju
        go_wp2_with fail
        refine (HQ.out w4 HB4r.out).mono ?_
        rintro E w5 ⟨rfl, hb⟩
        have hb5 := Lib.hid hb
        have HB5 := Lib.hid (HB4.out.trans (hb.mono HB4.out.size))
        have HB5r := Lib.hid (HB4r.out.trans (hb.mono HB4r.out.size))
        have d5 := below_block hb d4
        have q4 := fun i => cell_block d5 i
        clear hb q3 d4
        go_wp2_with fail
        go_ret2
        exact .of (by rw [HD.out]) (fun _ => ⟨n, by rw [HD.out]; exact (HJ.out.below HB5r.out)⟩) HB5.out
      · rw [if_neg hfp] at hD
        rw [decide_eq_false hfp] at HQ
        have hne : fr ≠ [] := fun e => by
          have h9 := HBg2.out
          rw [e] at h9 hfp
          unfold JP.beginsP at h9
          have : 0 < pa.length := List.length_pos_iff.2 (fun e2 => hfp e2.symm)
          rw [List.length_nil, decide_eq_true this] at h9
          simp at h9
        have HC := Lib.hid (fun (w3 : World) (hb : Below w2.heap.size w2 w3) => tcut_any (HJ.out.below hb) Hz.out (HEq.out w3 hb) K2.out (by have := K4.out; omega) hne (HE.out.below hb).1 (HE.out.below hb).2.1)
        cases hc : JP.cutW x fr with
        | none =>
          rw [hc] at HC hD
          have HD : Hid (D.1 = 7) := Lib.hid (by rw [← hD])
          clear hD hc hfp hne
          go_enter Tryz.func91, Tryz.ntmps91
          go_upto_region 1 with fail
          rw [← hw]
          clear hw
          go_wp2_with fail
          refine HBg.out.mono ?_
          rintro E w3 ⟨rfl, hb⟩
          have HB3 := Lib.hid (HB2.out.trans (hb.mono HB2.out.size))
          have d1 := below_block hb C1.out
          have HBx := Lib.hid hb
          have q2 := fun i => cell_block d1 i
          clear hb q1
          go_wp2_with fail
          refine (HAt.out w3 HBx.out).mono ?_
          rintro E w4 ⟨u, rfl, hu, hb⟩
          obtain ⟨ku, hju⟩ := hu y rfl
          have hJu := Lib.hid hju
          have HB4 := Lib.hid (HB3.out.trans (hb.mono HB3.out.size))
          have HB4r := Lib.hid (HBx.out.trans (hb.mono HBx.out.size))
          have d4 := below_block hb d1
          have q3 := fun i => cell_block d4 i
          clear hb hu q2 d1 hju
          go_wp2_with fail
          refine (HQ.out w4 HB4r.out).mono ?_
          rintro E w5 ⟨rfl, hb⟩
          have hb5 := Lib.hid hb
          have HB5 := Lib.hid (HB4.out.trans (hb.mono HB4.out.size))
          have HB5r := Lib.hid (HB4r.out.trans (hb.mono HB4r.out.size))
          have d5 := below_block hb d4
          have q4 := fun i => cell_block d5 i
          clear hb q3 d4
          go_wp2_with fail
          refine (HC.out w5 HB5r.out).mono ?_
          rintro E w6 ⟨u2, rfl, _, hb⟩
          have HB6 := Lib.hid (HB5.out.trans (hb.mono HB5.out.size))
          have e0 : (JP.codE 7 (none : Option JV) != 0) = true := rfl
          clear hb q4
          go_wp2_with fail
          go_ret2
          exact .no HD.out (by decide) HB6.out
        | some rest =>
          rw [hc] at HC hD
          dsimp only at hD
          have fr1 := (JP.cutW_less Hx.out hc).1
          have Hzr : Hid ((JP.text rest).length ≤ 1000000) := Lib.hid (by have h9 : (JP.text rest).length ≤ 2000 := fr1.2.2.2; show _ ≤ _; omega)
          obtain ⟨O, hO⟩ : ∃ O, JP.insW rest pa y = O := ⟨_, rfl⟩
          rw [hO] at hD
          have HO := Lib.hid hO
          have HD : Hid (D = JP.toI 7 O) := Lib.hid hD.symm
          clear hD hc hfp hne fr1 hO
          go_enter Tryz.func91, Tryz.ntmps91
          go_upto_region 1 with fail
          rw [← hw]
          clear hw
          go_wp2_with fail
          refine HBg.out.mono ?_
          rintro E w3 ⟨rfl, hb⟩
          have HB3 := Lib.hid (HB2.out.trans (hb.mono HB2.out.size))
          have d1 := below_block hb C1.out
          have HBx := Lib.hid hb
          have q2 := fun i => cell_block d1 i
          clear hb q1
          go_wp2_with fail
          refine (HAt.out w3 HBx.out).mono ?_
          rintro E w4 ⟨u, rfl, hu, hb⟩
          obtain ⟨ku, hju⟩ := hu y rfl
          have hJu := Lib.hid hju
          have HB4 := Lib.hid (HB3.out.trans (hb.mono HB3.out.size))
          have HB4r := Lib.hid (HBx.out.trans (hb.mono HBx.out.size))
          have d4 := below_block hb d1
          have q3 := fun i => cell_block d4 i
          clear hb hu q2 d1 hju
          go_wp2_with fail
          refine (HQ.out w4 HB4r.out).mono ?_
          rintro E w5 ⟨rfl, hb⟩
          have hb5 := Lib.hid hb
          have HB5 := Lib.hid (HB4.out.trans (hb.mono HB4.out.size))
          have HB5r := Lib.hid (HB4r.out.trans (hb.mono HB4r.out.size))
          have d5 := below_block hb d4
          have q4 := fun i => cell_block d5 i
          clear hb q3 d4
          go_wp2_with fail
          refine (HC.out w5 HB5r.out).mono ?_
          rintro E w6 ⟨u2, rfl, hz2, hb⟩
          obtain ⟨k6, hj6⟩ := hz2 rest rfl
          have HB6 := Lib.hid (HB5.out.trans (hb.mono HB5.out.size))
          have HB6r := Lib.hid (HB5r.out.trans (hb.mono HB5r.out.size))
          have d6 := below_block hb d5
          have q6 := fun i => cell_block d6 i
          have e0 : (JP.codE 7 (some rest) != 0) = false := rfl
          have HI := Lib.hid (tins_any hj6 (hJu.out.below (hb5.out.trans (hb.mono hb5.out.size))) Hzr.out (HEp.out w6 HB6r.out) K1.out (by have := K3.out; omega) (HE.out.below HB6r.out).1 (HE.out.below HB6r.out).2.1)
          rw [HO.out] at HI
          clear hb hz2 hj6 q4 d6
          go_wp2_with fail
          refine HI.out.mono ?_
          rintro E w7 ⟨u3, rfl, hz, hb⟩
          have HZ := Lib.hid hz
          have HB7 := Lib.hid (HB6.out.trans (hb.mono HB6.out.size))
          clear hb hz
          go_wp2_with fail
          go_ret2
          exact .of (by rw [HD.out]; exact toI_code 7 O) (by rw [HD.out]; exact toI_jv HZ.out) HB7.out
set_option maxRecDepth 100000 in
set_option maxHeartbeats 6400000 in
theorem pcarry5 (kd : Int) (pa fr : List Bs) (val x : JV) (s1 s2 s3 v : Value) (n : Nat) (w : World) (hs : StepAt w s1 s2 s3 ⟨kd, pa, fr, val⟩) (ok : JP.PSOK ⟨kd, pa, fr, val⟩ 1048576) (hj : JvAt n [] w v x) (hx : JP.Fit x) (hE : Env w) (hk : kd = 5) :
    Calls Tryz.prog 91 #[.agg #[.int .i64 kd, s1, s2, s3], v] w (DoneAt (JP.carryP ⟨kd, pa, fr, val⟩ x) w) := by
  obtain ⟨hs1, hs2, n3, hs3⟩ := hs
  have hs1 : StrAt w s1 (pa.map mkB) := hs1
  have hs2 : StrAt w s2 (fr.map mkB) := hs2
  have hs3 : JvAt n3 [] w s3 val := hs3
  obtain ⟨k1, k2, k3, k4, k5, k6, k7⟩ := ok
  dsimp only at k1 k2 k3 k4 k5 k6 k7
  obtain ⟨D, hD⟩ : ∃ D, JP.carryP ⟨kd, pa, fr, val⟩ x = D := ⟨_, rfl⟩
  rw [hD]
  unfold JP.carryP at hD
  dsimp only at hD
  obtain ⟨w2, hw⟩ : ∃ w2, w2 = w.alloc (.cells #[.int .i64 kd, s1, s2, s3] 71) := ⟨_, rfl⟩
  have b1 : w2.heap[w.heap.size]? = some (.cells #[.int .i64 kd, s1, s2, s3] 71 (0, 0)) := by rw [hw]; exact heap_alloc_new w _
  have hb2 : Below w.heap.size w w2 := by rw [hw]; exact (Below.refl _ w).alloc (Nat.le_refl _) _
  have HB2 := Lib.hid hb2
  have C1 := Lib.hid b1
  have HE := Lib.hid (hE.below hb2)
  have HS1 := Lib.hid (hs1.below hb2)
  have HS2 := Lib.hid (hs2.below hb2)
  have HS3 := Lib.hid (hs3.below hb2)
  have HJ := Lib.hid (hj.below hb2)
  have Hx := Lib.hid hx
  have Hz : Hid ((JP.text x).length ≤ 1000000) := Lib.hid (by have h9 : (JP.text x).length ≤ 2000 := hx.2.2.2; show _ ≤ _; omega)
  have K1 := Lib.hid k1
  have K2 := Lib.hid k2
  have K3 := Lib.hid k3
  have K4 := Lib.hid k4
  have K5 := Lib.hid k5
  have K6 := Lib.hid k6
  have K7 := Lib.hid k7
  have q1 := fun i => cell_block b1 i
  clear hb2 hs1 hs2 hs3 hj hE hx k1 k2 k5 k6 k7 b1
  subst hk
  rw [if_neg (fun e => by cases e.1)] at hD
  obtain ⟨A, hA⟩ : ∃ A, JP.atW x fr = A := ⟨_, rfl⟩
  rw [hA] at hD
  have HAt := Lib.hid (at_any HJ.out Hz.out HS2.out K2.out (by have := K4.out; omega) HE.out.1 HE.out.2.1)
  rw [hA] at HAt
  clear hA
  cases A with
  | none =>
    have HD : Hid (D.1 = 7) := Lib.hid (by rw [← hD])
    clear hD
    go_enter Tryz.func91, Tryz.ntmps91
    go_upto_region 1 with fail
    rw [← hw]
    clear hw
    go_wp2_with fail
    refine HAt.out.mono ?_
    rintro E w4 ⟨u, rfl, hu, hb⟩
    have HB4 := Lib.hid (HB2.out.trans (hb.mono HB2.out.size))
    clear hb hu q1
    go_wp2_with fail
    go_ret2
    exact .no HD.out (by decide) HB4.out
  | some y =>
    dsimp only at hD
    rw [if_neg (by decide)] at hD
    obtain ⟨O, hO⟩ : ∃ O, JP.insW x pa y = O := ⟨_, rfl⟩
    rw [hO] at hD
    have HO := Lib.hid hO
    have HD : Hid (D = JP.toI 7 O) := Lib.hid hD.symm
    clear hD hO
    go_enter Tryz.func91, Tryz.ntmps91
    go_upto_region 1 with fail
    rw [← hw]
    clear hw
    go_wp2_with fail
    refine HAt.out.mono ?_
    rintro E w4 ⟨u, rfl, hu, hb⟩
    obtain ⟨ku, hju⟩ := hu y rfl
    have HB4 := Lib.hid (HB2.out.trans (hb.mono HB2.out.size))
    have HI := Lib.hid (tins_any (HJ.out.below hb) hju Hz.out (HS1.out.below hb) K1.out (by have := K3.out; omega) (HE.out.below hb).1 (HE.out.below hb).2.1)
    rw [HO.out] at HI
    have d1 := below_block hb C1.out
    have q2 := fun i => cell_block d1 i
    clear hb hu hju q1 d1
    go_wp2_with fail
    refine HI.out.mono ?_
    rintro E w5 ⟨u3, rfl, hz, hb⟩
    have HZ := Lib.hid hz
    have HB5 := Lib.hid (HB4.out.trans (hb.mono HB4.out.size))
    clear hb hz
    go_wp2_with fail
    go_ret2
    exact .of (by rw [HD.out]; exact toI_code 7 O) (by rw [HD.out]; exact toI_jv HZ.out) HB5.out
set_option maxRecDepth 100000 in
set_option maxHeartbeats 6400000 in
theorem pdo1 (kd : Int) (pa fr : List Bs) (val x : JV) (s1 s2 s3 v : Value) (n : Nat) (w : World) (hs : StepAt w s1 s2 s3 ⟨kd, pa, fr, val⟩) (ok : JP.PSOK ⟨kd, pa, fr, val⟩ 1048576) (hj : JvAt n [] w v x) (hx : JP.Fit x) (hE : Env w) (hk : kd = 1) :
    Calls Tryz.prog 67 #[.agg #[.int .i64 kd, s1, s2, s3], v] w (DoneAt (JP.doP ⟨kd, pa, fr, val⟩ x) w) := by
  obtain ⟨hs1, hs2, n3, hs3⟩ := hs
  have hs1 : StrAt w s1 (pa.map mkB) := hs1
  have hs2 : StrAt w s2 (fr.map mkB) := hs2
  have hs3 : JvAt n3 [] w s3 val := hs3
  obtain ⟨k1, k2, k3, k4, k5, k6, k7⟩ := ok
  dsimp only at k1 k2 k3 k4 k5 k6 k7
  obtain ⟨D, hD⟩ : ∃ D, JP.doP ⟨kd, pa, fr, val⟩ x = D := ⟨_, rfl⟩
  rw [hD]
  unfold JP.doP at hD
  dsimp only at hD
  obtain ⟨w2, hw⟩ : ∃ w2, w2 = w.alloc (.cells #[.int .i64 kd, s1, s2, s3] 71) := ⟨_, rfl⟩
  have b1 : w2.heap[w.heap.size]? = some (.cells #[.int .i64 kd, s1, s2, s3] 71 (0, 0)) := by rw [hw]; exact heap_alloc_new w _
  have hb2 : Below w.heap.size w w2 := by rw [hw]; exact (Below.refl _ w).alloc (Nat.le_refl _) _
  have HB2 := Lib.hid hb2
  have C1 := Lib.hid b1
  have HE := Lib.hid (hE.below hb2)
  have HS1 := Lib.hid (hs1.below hb2)
  have HS2 := Lib.hid (hs2.below hb2)
  have HS3 := Lib.hid (hs3.below hb2)
  have HJ := Lib.hid (hj.below hb2)
  have Hx := Lib.hid hx
  have Hz : Hid ((JP.text x).length ≤ 1000000) := Lib.hid (by have h9 : (JP.text x).length ≤ 2000 := hx.2.2.2; show _ ≤ _; omega)
  have K1 := Lib.hid k1
  have K2 := Lib.hid k2
  have K3 := Lib.hid k3
  have K4 := Lib.hid k4
  have K5 := Lib.hid k5
  have K6 := Lib.hid k6
  have K7 := Lib.hid k7
  have q1 := fun i => cell_block b1 i
  clear hb2 hs1 hs2 hs3 hj hE hx k1 k2 k5 k6 k7 b1
  subst hk
  obtain ⟨A, hA⟩ : ∃ A, JP.atW x pa = A := ⟨_, rfl⟩
  have HAt := Lib.hid (at_any HJ.out Hz.out HS1.out K1.out (by have := K3.out; omega) HE.out.1 HE.out.2.1)
  rw [hA] at HAt
  clear hA
  rw [if_pos rfl] at hD
  obtain ⟨O, hO⟩ : ∃ O, JP.insW x pa val = O := ⟨_, rfl⟩
  rw [hO] at hD
  have HO := Lib.hid hO
  have HD : Hid (D = JP.toI 7 O) := Lib.hid hD.symm
  clear hD hO

  go_enter Tryz.func67, Tryz.ntmps67
  go_upto_region 1 with fail
  rw [← hw]
  clear hw
  go_wp2_with fail
  refine HAt.out.mono ?_
  rintro E w3 ⟨u, rfl, hu, hb⟩
  have HB3 := Lib.hid (HB2.out.trans (hb.mono HB2.out.size))
  have HB3r := Lib.hid hb
  have d1 := below_block hb C1.out
  have q2 := fun i => cell_block d1 i
  have HI := Lib.hid (tins_any (HJ.out.below hb) (HS3.out.below hb) Hz.out (HS1.out.below hb) K1.out (by have := K3.out; omega) (HE.out.below hb).1 (HE.out.below hb).2.1)
  rw [HO.out] at HI
  clear hb hu q1 d1
  go_wp2_with fail
  refine HI.out.mono ?_
  rintro E w4 ⟨u3, rfl, hz, hb⟩
  have HZ := Lib.hid hz
  have HB4 := Lib.hid (HB3.out.trans (hb.mono HB3.out.size))
  clear hb hz
  go_wp2_with fail
  go_ret2
  exact .of (by rw [HD.out]; exact toI_code 7 O) (by rw [HD.out]; exact toI_jv HZ.out) HB4.out
set_option maxRecDepth 100000 in
set_option maxHeartbeats 6400000 in
theorem pdo2 (kd : Int) (pa fr : List Bs) (val x : JV) (s1 s2 s3 v : Value) (n : Nat) (w : World) (hs : StepAt w s1 s2 s3 ⟨kd, pa, fr, val⟩) (ok : JP.PSOK ⟨kd, pa, fr, val⟩ 1048576) (hj : JvAt n [] w v x) (hx : JP.Fit x) (hE : Env w) (hk : kd = 2) :
    Calls Tryz.prog 67 #[.agg #[.int .i64 kd, s1, s2, s3], v] w (DoneAt (JP.doP ⟨kd, pa, fr, val⟩ x) w) := by
  obtain ⟨hs1, hs2, n3, hs3⟩ := hs
  have hs1 : StrAt w s1 (pa.map mkB) := hs1
  have hs2 : StrAt w s2 (fr.map mkB) := hs2
  have hs3 : JvAt n3 [] w s3 val := hs3
  obtain ⟨k1, k2, k3, k4, k5, k6, k7⟩ := ok
  dsimp only at k1 k2 k3 k4 k5 k6 k7
  obtain ⟨D, hD⟩ : ∃ D, JP.doP ⟨kd, pa, fr, val⟩ x = D := ⟨_, rfl⟩
  rw [hD]
  unfold JP.doP at hD
  dsimp only at hD
  obtain ⟨w2, hw⟩ : ∃ w2, w2 = w.alloc (.cells #[.int .i64 kd, s1, s2, s3] 71) := ⟨_, rfl⟩
  have b1 : w2.heap[w.heap.size]? = some (.cells #[.int .i64 kd, s1, s2, s3] 71 (0, 0)) := by rw [hw]; exact heap_alloc_new w _
  have hb2 : Below w.heap.size w w2 := by rw [hw]; exact (Below.refl _ w).alloc (Nat.le_refl _) _
  have HB2 := Lib.hid hb2
  have C1 := Lib.hid b1
  have HE := Lib.hid (hE.below hb2)
  have HS1 := Lib.hid (hs1.below hb2)
  have HS2 := Lib.hid (hs2.below hb2)
  have HS3 := Lib.hid (hs3.below hb2)
  have HJ := Lib.hid (hj.below hb2)
  have Hx := Lib.hid hx
  have Hz : Hid ((JP.text x).length ≤ 1000000) := Lib.hid (by have h9 : (JP.text x).length ≤ 2000 := hx.2.2.2; show _ ≤ _; omega)
  have K1 := Lib.hid k1
  have K2 := Lib.hid k2
  have K3 := Lib.hid k3
  have K4 := Lib.hid k4
  have K5 := Lib.hid k5
  have K6 := Lib.hid k6
  have K7 := Lib.hid k7
  have q1 := fun i => cell_block b1 i
  clear hb2 hs1 hs2 hs3 hj hE hx k1 k2 k5 k6 k7 b1
  subst hk
  obtain ⟨A, hA⟩ : ∃ A, JP.atW x pa = A := ⟨_, rfl⟩
  have HAt := Lib.hid (at_any HJ.out Hz.out HS1.out K1.out (by have := K3.out; omega) HE.out.1 HE.out.2.1)
  rw [hA] at HAt
  clear hA
  rw [if_neg (by decide), if_pos rfl] at hD
  obtain ⟨a1, c1, e1, _⟩ := HS1.out.len
  subst e1
  rw [List.length_map] at HAt C1 q1 HS1 hw
  rw [List.length_map]
  obtain ⟨n1, hn1⟩ : ∃ n, pa.length = n := ⟨_, rfl⟩
  rw [hn1] at HAt C1 q1 HS1 hw
  rw [hn1]
  by_cases hp : pa = []
  · rw [if_pos hp] at hD
    have h0 : n1 = 0 := by rw [← hn1, hp]; rfl
    subst h0
    have HD : Hid (D.1 = 1) := Lib.hid (by rw [← hD])
    clear hD hp hn1
    go_enter Tryz.func67, Tryz.ntmps67
    go_upto_region 1 with fail
    rw [← hw]
    clear hw
    go_wp2_with fail
    refine HAt.out.mono ?_
    rintro E w3 ⟨u, rfl, hu, hb⟩
    have HB3 := Lib.hid (HB2.out.trans (hb.mono HB2.out.size))
    have HB3r := Lib.hid hb
    have d1 := below_block hb C1.out
    have q2 := fun i => cell_block d1 i
    clear hb hu q1 d1
    go_wp2_with fail
    go_ret2
    exact .no HD.out (by decide) HB3.out
  · rw [if_neg hp] at hD
    have h0 : ((n1 : Int) == 0) = false := by rw [beq_eq_false_iff_ne]; intro e; exact hp (List.eq_nil_of_length_eq_zero (by omega))
    have Hne := Lib.hid hp
    obtain ⟨O, hO⟩ : ∃ O, JP.cutW x pa = O := ⟨_, rfl⟩
    rw [hO] at hD
    have HO := Lib.hid hO
    have HD : Hid (D = JP.toI 7 O) := Lib.hid hD.symm
    clear hD hO
    clear hp hn1

    go_enter Tryz.func67, Tryz.ntmps67
    go_upto_region 1 with fail
    rw [← hw]
    clear hw
    go_wp2_with fail
    refine HAt.out.mono ?_
    rintro E w3 ⟨u, rfl, hu, hb⟩
    have HB3 := Lib.hid (HB2.out.trans (hb.mono HB2.out.size))
    have HB3r := Lib.hid hb
    have d1 := below_block hb C1.out
    have q2 := fun i => cell_block d1 i
    have HI := Lib.hid (tcut_any (HJ.out.below hb) Hz.out (HS1.out.below hb) K1.out (by have := K3.out; omega) Hne.out (HE.out.below hb).1 (HE.out.below hb).2.1)
    rw [HO.out] at HI
    clear hb hu q1 d1
    go_wp2_with fail
    refine HI.out.mono ?_
    rintro E w4 ⟨u3, rfl, hz, hb⟩
    have HZ := Lib.hid hz
    have HB4 := Lib.hid (HB3.out.trans (hb.mono HB3.out.size))
    clear hb hz
    go_wp2_with fail
    go_ret2
    exact .of (by rw [HD.out]; exact toI_code 7 O) (by rw [HD.out]; exact toI_jv HZ.out) HB4.out
set_option maxRecDepth 100000 in
set_option maxHeartbeats 6400000 in
theorem pdo3 (kd : Int) (pa fr : List Bs) (val x : JV) (s1 s2 s3 v : Value) (n : Nat) (w : World) (hs : StepAt w s1 s2 s3 ⟨kd, pa, fr, val⟩) (ok : JP.PSOK ⟨kd, pa, fr, val⟩ 1048576) (hj : JvAt n [] w v x) (hx : JP.Fit x) (hE : Env w) (hk : kd = 3) :
    Calls Tryz.prog 67 #[.agg #[.int .i64 kd, s1, s2, s3], v] w (DoneAt (JP.doP ⟨kd, pa, fr, val⟩ x) w) := by
  obtain ⟨hs1, hs2, n3, hs3⟩ := hs
  have hs1 : StrAt w s1 (pa.map mkB) := hs1
  have hs2 : StrAt w s2 (fr.map mkB) := hs2
  have hs3 : JvAt n3 [] w s3 val := hs3
  obtain ⟨k1, k2, k3, k4, k5, k6, k7⟩ := ok
  dsimp only at k1 k2 k3 k4 k5 k6 k7
  obtain ⟨D, hD⟩ : ∃ D, JP.doP ⟨kd, pa, fr, val⟩ x = D := ⟨_, rfl⟩
  rw [hD]
  unfold JP.doP at hD
  dsimp only at hD
  obtain ⟨w2, hw⟩ : ∃ w2, w2 = w.alloc (.cells #[.int .i64 kd, s1, s2, s3] 71) := ⟨_, rfl⟩
  have b1 : w2.heap[w.heap.size]? = some (.cells #[.int .i64 kd, s1, s2, s3] 71 (0, 0)) := by rw [hw]; exact heap_alloc_new w _
  have hb2 : Below w.heap.size w w2 := by rw [hw]; exact (Below.refl _ w).alloc (Nat.le_refl _) _
  have HB2 := Lib.hid hb2
  have C1 := Lib.hid b1
  have HE := Lib.hid (hE.below hb2)
  have HS1 := Lib.hid (hs1.below hb2)
  have HS2 := Lib.hid (hs2.below hb2)
  have HS3 := Lib.hid (hs3.below hb2)
  have HJ := Lib.hid (hj.below hb2)
  have Hx := Lib.hid hx
  have Hz : Hid ((JP.text x).length ≤ 1000000) := Lib.hid (by have h9 : (JP.text x).length ≤ 2000 := hx.2.2.2; show _ ≤ _; omega)
  have K1 := Lib.hid k1
  have K2 := Lib.hid k2
  have K3 := Lib.hid k3
  have K4 := Lib.hid k4
  have K5 := Lib.hid k5
  have K6 := Lib.hid k6
  have K7 := Lib.hid k7
  have q1 := fun i => cell_block b1 i
  clear hb2 hs1 hs2 hs3 hj hE hx k1 k2 k5 k6 k7 b1
  subst hk
  obtain ⟨A, hA⟩ : ∃ A, JP.atW x pa = A := ⟨_, rfl⟩
  have HAt := Lib.hid (at_any HJ.out Hz.out HS1.out K1.out (by have := K3.out; omega) HE.out.1 HE.out.2.1)
  rw [hA] at HAt hD
  clear hA
  rw [if_neg (by decide), if_neg (by decide), if_pos rfl] at hD
  cases A with
  | none =>
    have HD : Hid (D.1 = 7) := Lib.hid (by rw [← hD])
    clear hD
    go_enter Tryz.func67, Tryz.ntmps67
    go_upto_region 1 with fail
    rw [← hw]
    clear hw
    go_wp2_with fail
    refine HAt.out.mono ?_
    rintro E w3 ⟨u, rfl, hu, hb⟩
    have HB3 := Lib.hid (HB2.out.trans (hb.mono HB2.out.size))
    have HB3r := Lib.hid hb
    have d1 := below_block hb C1.out
    have q2 := fun i => cell_block d1 i
    clear hb hu q1 d1
    go_wp2_with fail
    go_ret2
    exact .no HD.out (by decide) HB3.out
  | some y =>
    dsimp only at hD
    obtain ⟨O, hO⟩ : ∃ O, JP.putW x pa val = O := ⟨_, rfl⟩
    rw [hO] at hD
    have HO := Lib.hid hO
    have HD : Hid (D = JP.toI 7 O) := Lib.hid hD.symm
    clear hD hO

    go_enter Tryz.func67, Tryz.ntmps67
    go_upto_region 1 with fail
    rw [← hw]
    clear hw
    go_wp2_with fail
    refine HAt.out.mono ?_
    rintro E w3 ⟨u, rfl, hu, hb⟩
    have HB3 := Lib.hid (HB2.out.trans (hb.mono HB2.out.size))
    have HB3r := Lib.hid hb
    have d1 := below_block hb C1.out
    have q2 := fun i => cell_block d1 i
    have HI := Lib.hid (tput_any (HJ.out.below hb) (HS3.out.below hb) Hz.out (HS1.out.below hb) K1.out (by have := K3.out; omega) (HE.out.below hb).1 (HE.out.below hb).2.1)
    rw [HO.out] at HI
    clear hb hu q1 d1
    go_wp2_with fail
    refine HI.out.mono ?_
    rintro E w4 ⟨u3, rfl, hz, hb⟩
    have HZ := Lib.hid hz
    have HB4 := Lib.hid (HB3.out.trans (hb.mono HB3.out.size))
    clear hb hz
    go_wp2_with fail
    go_ret2
    exact .of (by rw [HD.out]; exact toI_code 7 O) (by rw [HD.out]; exact toI_jv HZ.out) HB4.out
set_option maxRecDepth 100000 in
set_option maxHeartbeats 6400000 in
theorem pdo4 (kd : Int) (pa fr : List Bs) (val x : JV) (s1 s2 s3 v : Value) (n : Nat) (w : World) (hs : StepAt w s1 s2 s3 ⟨kd, pa, fr, val⟩) (ok : JP.PSOK ⟨kd, pa, fr, val⟩ 1048576) (hj : JvAt n [] w v x) (hx : JP.Fit x) (hE : Env w) (hk : kd = 4) :
    Calls Tryz.prog 67 #[.agg #[.int .i64 kd, s1, s2, s3], v] w (DoneAt (JP.doP ⟨kd, pa, fr, val⟩ x) w) := by
  obtain ⟨hs1, hs2, n3, hs3⟩ := hs
  have hs1 : StrAt w s1 (pa.map mkB) := hs1
  have hs2 : StrAt w s2 (fr.map mkB) := hs2
  have hs3 : JvAt n3 [] w s3 val := hs3
  obtain ⟨k1, k2, k3, k4, k5, k6, k7⟩ := ok
  dsimp only at k1 k2 k3 k4 k5 k6 k7
  obtain ⟨D, hD⟩ : ∃ D, JP.doP ⟨kd, pa, fr, val⟩ x = D := ⟨_, rfl⟩
  rw [hD]
  unfold JP.doP at hD
  dsimp only at hD
  obtain ⟨w2, hw⟩ : ∃ w2, w2 = w.alloc (.cells #[.int .i64 kd, s1, s2, s3] 71) := ⟨_, rfl⟩
  have b1 : w2.heap[w.heap.size]? = some (.cells #[.int .i64 kd, s1, s2, s3] 71 (0, 0)) := by rw [hw]; exact heap_alloc_new w _
  have hb2 : Below w.heap.size w w2 := by rw [hw]; exact (Below.refl _ w).alloc (Nat.le_refl _) _
  have HB2 := Lib.hid hb2
  have C1 := Lib.hid b1
  have HE := Lib.hid (hE.below hb2)
  have HS1 := Lib.hid (hs1.below hb2)
  have HS2 := Lib.hid (hs2.below hb2)
  have HS3 := Lib.hid (hs3.below hb2)
  have HJ := Lib.hid (hj.below hb2)
  have Hx := Lib.hid hx
  have Hz : Hid ((JP.text x).length ≤ 1000000) := Lib.hid (by have h9 : (JP.text x).length ≤ 2000 := hx.2.2.2; show _ ≤ _; omega)
  have K1 := Lib.hid k1
  have K2 := Lib.hid k2
  have K3 := Lib.hid k3
  have K4 := Lib.hid k4
  have K5 := Lib.hid k5
  have K6 := Lib.hid k6
  have K7 := Lib.hid k7
  have q1 := fun i => cell_block b1 i
  clear hb2 hs1 hs2 hs3 hj hE hx k1 k2 k5 k6 k7 b1
  subst hk
  obtain ⟨A, hA⟩ : ∃ A, JP.atW x pa = A := ⟨_, rfl⟩
  have HAt := Lib.hid (at_any HJ.out Hz.out HS1.out K1.out (by have := K3.out; omega) HE.out.1 HE.out.2.1)
  rw [hA] at HAt
  clear hA
  rw [if_neg (by decide), if_neg (by decide), if_neg (by decide), if_neg (by decide)] at hD
  have HD := Lib.hid hD
  clear hD
  go_enter Tryz.func67, Tryz.ntmps67
  go_upto_region 1 with fail
  rw [← hw]
  clear hw
  go_wp2_with fail
  refine HAt.out.mono ?_
  rintro E w3 ⟨u, rfl, hu, hb⟩
  have HB3 := Lib.hid (HB2.out.trans (hb.mono HB2.out.size))
  have HB3r := Lib.hid hb
  have d1 := below_block hb C1.out
  have q2 := fun i => cell_block d1 i
  have HI := Lib.hid (pcarry4 4 pa fr val x s1 s2 s3 v n w3 ⟨HS1.out.below hb, HS2.out.below hb, n3, HS3.out.below hb⟩ ⟨K1.out, K2.out, K3.out, K4.out, K5.out, K6.out, K7.out⟩ (HJ.out.below hb) Hx.out (HE.out.below hb) rfl)
  rw [HD.out] at HI
  have D1 := Lib.hid d1
  clear hb hu q1 d1
  go_upto_region 19 with fail
  go_wp2_with (refine wpList_load_row (by rfl) _ _ (by rfl) w.heap.size (by rfl) _ _ _ _ (by exact D1.out) Tryz.underlying71 rfl (by exact Tryz.sizeStep) ?_)
  clear q2
  refine HI.out.mono ?_
  rintro E w4 ⟨u3, rfl, hz, hb⟩
  have HZ := Lib.hid hz
  have HB4 := Lib.hid (HB3.out.trans (hb.mono HB3.out.size))
  clear hb hz
  go_wp2_with fail
  go_ret2
  exact .of rfl HZ.out HB4.out
set_option maxRecDepth 100000 in
set_option maxHeartbeats 6400000 in
theorem pdo5 (kd : Int) (pa fr : List Bs) (val x : JV) (s1 s2 s3 v : Value) (n : Nat) (w : World) (hs : StepAt w s1 s2 s3 ⟨kd, pa, fr, val⟩) (ok : JP.PSOK ⟨kd, pa, fr, val⟩ 1048576) (hj : JvAt n [] w v x) (hx : JP.Fit x) (hE : Env w) (hk : kd = 5) :
    Calls Tryz.prog 67 #[.agg #[.int .i64 kd, s1, s2, s3], v] w (DoneAt (JP.doP ⟨kd, pa, fr, val⟩ x) w) := by
  obtain ⟨hs1, hs2, n3, hs3⟩ := hs
  have hs1 : StrAt w s1 (pa.map mkB) := hs1
  have hs2 : StrAt w s2 (fr.map mkB) := hs2
  have hs3 : JvAt n3 [] w s3 val := hs3
  obtain ⟨k1, k2, k3, k4, k5, k6, k7⟩ := ok
  dsimp only at k1 k2 k3 k4 k5 k6 k7
  obtain ⟨D, hD⟩ : ∃ D, JP.doP ⟨kd, pa, fr, val⟩ x = D := ⟨_, rfl⟩
  rw [hD]
  unfold JP.doP at hD
  dsimp only at hD
  obtain ⟨w2, hw⟩ : ∃ w2, w2 = w.alloc (.cells #[.int .i64 kd, s1, s2, s3] 71) := ⟨_, rfl⟩
  have b1 : w2.heap[w.heap.size]? = some (.cells #[.int .i64 kd, s1, s2, s3] 71 (0, 0)) := by rw [hw]; exact heap_alloc_new w _
  have hb2 : Below w.heap.size w w2 := by rw [hw]; exact (Below.refl _ w).alloc (Nat.le_refl _) _
  have HB2 := Lib.hid hb2
  have C1 := Lib.hid b1
  have HE := Lib.hid (hE.below hb2)
  have HS1 := Lib.hid (hs1.below hb2)
  have HS2 := Lib.hid (hs2.below hb2)
  have HS3 := Lib.hid (hs3.below hb2)
  have HJ := Lib.hid (hj.below hb2)
  have Hx := Lib.hid hx
  have Hz : Hid ((JP.text x).length ≤ 1000000) := Lib.hid (by have h9 : (JP.text x).length ≤ 2000 := hx.2.2.2; show _ ≤ _; omega)
  have K1 := Lib.hid k1
  have K2 := Lib.hid k2
  have K3 := Lib.hid k3
  have K4 := Lib.hid k4
  have K5 := Lib.hid k5
  have K6 := Lib.hid k6
  have K7 := Lib.hid k7
  have q1 := fun i => cell_block b1 i
  clear hb2 hs1 hs2 hs3 hj hE hx k1 k2 k5 k6 k7 b1
  subst hk
  obtain ⟨A, hA⟩ : ∃ A, JP.atW x pa = A := ⟨_, rfl⟩
  have HAt := Lib.hid (at_any HJ.out Hz.out HS1.out K1.out (by have := K3.out; omega) HE.out.1 HE.out.2.1)
  rw [hA] at HAt
  clear hA
  rw [if_neg (by decide), if_neg (by decide), if_neg (by decide), if_neg (by decide)] at hD
  have HD := Lib.hid hD
  clear hD
  go_enter Tryz.func67, Tryz.ntmps67
  go_upto_region 1 with fail
  rw [← hw]
  clear hw
  go_wp2_with fail
  refine HAt.out.mono ?_
  rintro E w3 ⟨u, rfl, hu, hb⟩
  have HB3 := Lib.hid (HB2.out.trans (hb.mono HB2.out.size))
  have HB3r := Lib.hid hb
  have d1 := below_block hb C1.out
  have q2 := fun i => cell_block d1 i
  have HI := Lib.hid (pcarry5 5 pa fr val x s1 s2 s3 v n w3 ⟨HS1.out.below hb, HS2.out.below hb, n3, HS3.out.below hb⟩ ⟨K1.out, K2.out, K3.out, K4.out, K5.out, K6.out, K7.out⟩ (HJ.out.below hb) Hx.out (HE.out.below hb) rfl)
  rw [HD.out] at HI
  have D1 := Lib.hid d1
  clear hb hu q1 d1
  go_upto_region 19 with fail
  go_wp2_with (refine wpList_load_row (by rfl) _ _ (by rfl) w.heap.size (by rfl) _ _ _ _ (by exact D1.out) Tryz.underlying71 rfl (by exact Tryz.sizeStep) ?_)
  clear q2
  refine HI.out.mono ?_
  rintro E w4 ⟨u3, rfl, hz, hb⟩
  have HZ := Lib.hid hz
  have HB4 := Lib.hid (HB3.out.trans (hb.mono HB3.out.size))
  clear hb hz
  go_wp2_with fail
  go_ret2
  exact .of rfl HZ.out HB4.out
set_option maxRecDepth 100000 in
set_option maxHeartbeats 6400000 in
theorem pdo6 (kd : Int) (pa fr : List Bs) (val x : JV) (s1 s2 s3 v : Value) (n : Nat) (w : World) (hs : StepAt w s1 s2 s3 ⟨kd, pa, fr, val⟩) (ok : JP.PSOK ⟨kd, pa, fr, val⟩ 1048576) (hj : JvAt n [] w v x) (hx : JP.Fit x) (hE : Env w) (hk : kd = 6) :
    Calls Tryz.prog 67 #[.agg #[.int .i64 kd, s1, s2, s3], v] w (DoneAt (JP.doP ⟨kd, pa, fr, val⟩ x) w) := by
  obtain ⟨hs1, hs2, n3, hs3⟩ := hs
  have hs1 : StrAt w s1 (pa.map mkB) := hs1
  have hs2 : StrAt w s2 (fr.map mkB) := hs2
  have hs3 : JvAt n3 [] w s3 val := hs3
  obtain ⟨k1, k2, k3, k4, k5, k6, k7⟩ := ok
  dsimp only at k1 k2 k3 k4 k5 k6 k7
  obtain ⟨D, hD⟩ : ∃ D, JP.doP ⟨kd, pa, fr, val⟩ x = D := ⟨_, rfl⟩
  rw [hD]
  unfold JP.doP at hD
  dsimp only at hD
  obtain ⟨w2, hw⟩ : ∃ w2, w2 = w.alloc (.cells #[.int .i64 kd, s1, s2, s3] 71) := ⟨_, rfl⟩
  have b1 : w2.heap[w.heap.size]? = some (.cells #[.int .i64 kd, s1, s2, s3] 71 (0, 0)) := by rw [hw]; exact heap_alloc_new w _
  have hb2 : Below w.heap.size w w2 := by rw [hw]; exact (Below.refl _ w).alloc (Nat.le_refl _) _
  have HB2 := Lib.hid hb2
  have C1 := Lib.hid b1
  have HE := Lib.hid (hE.below hb2)
  have HS1 := Lib.hid (hs1.below hb2)
  have HS2 := Lib.hid (hs2.below hb2)
  have HS3 := Lib.hid (hs3.below hb2)
  have HJ := Lib.hid (hj.below hb2)
  have Hx := Lib.hid hx
  have Hz : Hid ((JP.text x).length ≤ 1000000) := Lib.hid (by have h9 : (JP.text x).length ≤ 2000 := hx.2.2.2; show _ ≤ _; omega)
  have K1 := Lib.hid k1
  have K2 := Lib.hid k2
  have K3 := Lib.hid k3
  have K4 := Lib.hid k4
  have K5 := Lib.hid k5
  have K6 := Lib.hid k6
  have K7 := Lib.hid k7
  have q1 := fun i => cell_block b1 i
  clear hb2 hs1 hs2 hs3 hj hE hx k1 k2 k5 k6 k7 b1
  subst hk
  obtain ⟨A, hA⟩ : ∃ A, JP.atW x pa = A := ⟨_, rfl⟩
  have HAt := Lib.hid (at_any HJ.out Hz.out HS1.out K1.out (by have := K3.out; omega) HE.out.1 HE.out.2.1)
  rw [hA] at HAt hD
  have hA2 := hA
  clear hA
  rw [if_neg (by decide), if_neg (by decide), if_neg (by decide), if_pos rfl] at hD
  cases hAc : A with
  | none =>
    rw [hAc] at hD HAt
    have HD : Hid (D.1 = 7) := Lib.hid (by rw [← hD])
    clear hD hAc
    go_enter Tryz.func67, Tryz.ntmps67
    go_upto_region 1 with fail
    rw [← hw]
    clear hw
    go_wp2_with fail
    refine HAt.out.mono ?_
    rintro E w3 ⟨u, rfl, hu, hb⟩
    have HB3 := Lib.hid (HB2.out.trans (hb.mono HB2.out.size))
    have HB3r := Lib.hid hb
    have d1 := below_block hb C1.out
    have q2 := fun i => cell_block d1 i
    clear hb hu q1 d1
    go_wp2_with fail
    go_ret2
    exact .no HD.out (by decide) HB3.out
  | some y =>
    rw [hAc] at hD HAt hA2
    dsimp only at hD
    have fy := JP.at_fit Hx.out hA2
    have Hy : Hid ((JP.text y).length ≤ 4194304) := Lib.hid (by have h9 : (JP.text y).length ≤ 2000 := fy.2.2.2; show _ ≤ _; omega)
    have Hvl : Hid ((JP.text val).length ≤ 4194304) := Lib.hid (by have h9 : (JP.text val).length ≤ 2000 := K5.out.2.2.2; show _ ≤ _; omega)
    clear hAc hA2 fy
    by_cases ht : JP.text y = JP.text val
    · rw [if_pos ht] at hD
      have HD : Hid (D = (0, x)) := Lib.hid hD.symm
      have hdec : decide (JP.text y = JP.text val) = true := decide_eq_true ht
      clear hD ht
      go_enter Tryz.func67, Tryz.ntmps67
      go_upto_region 1 with fail
      rw [← hw]
      clear hw
      go_wp2_with fail
      refine HAt.out.mono ?_
      rintro E w3 ⟨u, rfl, hu, hb⟩
      have HB3 := Lib.hid (HB2.out.trans (hb.mono HB2.out.size))
      have HB3r := Lib.hid hb
      have d1 := below_block hb C1.out
      have q2 := fun i => cell_block d1 i
      obtain ⟨ku, hju⟩ := hu y rfl
      have HSm := Lib.hid (same_any hju (HS3.out.below hb) Hy.out Hvl.out (HE.out.below hb).1)
      rw [hdec] at HSm
      clear hb hu hju q1 d1 hdec
      go_wp2_with fail
      refine HSm.out.mono ?_
      rintro E w4 ⟨rfl, hb⟩
      have HB4 := Lib.hid (HB3.out.trans (hb.mono HB3.out.size))
      have HB4r := Lib.hid (HB3r.out.trans (hb.mono HB3r.out.size))
      clear hb
      go_wp2_with fail
      go_ret2
      exact .of (by rw [HD.out]) (fun _ => ⟨n, by rw [HD.out]; exact HJ.out.below HB4r.out⟩) HB4.out
    · rw [if_neg ht] at hD
      have HD : Hid (D = (10, .nul)) := Lib.hid hD.symm
      have hdec : decide (JP.text y = JP.text val) = false := decide_eq_false ht
      clear hD ht
      go_enter Tryz.func67, Tryz.ntmps67
      go_upto_region 1 with fail
      rw [← hw]
      clear hw
      go_wp2_with fail
      refine HAt.out.mono ?_
      rintro E w3 ⟨u, rfl, hu, hb⟩
      have HB3 := Lib.hid (HB2.out.trans (hb.mono HB2.out.size))
      have HB3r := Lib.hid hb
      have d1 := below_block hb C1.out
      have q2 := fun i => cell_block d1 i
      obtain ⟨ku, hju⟩ := hu y rfl
      have HSm := Lib.hid (same_any hju (HS3.out.below hb) Hy.out Hvl.out (HE.out.below hb).1)
      rw [hdec] at HSm
      clear hb hu hju q1 d1 hdec
      go_wp2_with fail
      refine HSm.out.mono ?_
      rintro E w4 ⟨rfl, hb⟩
      have HB4 := Lib.hid (HB3.out.trans (hb.mono HB3.out.size))
      have HB4r := Lib.hid (HB3r.out.trans (hb.mono HB3r.out.size))
      clear hb
      go_wp2_with fail
      go_ret2
      exact .no (by rw [HD.out]) (by decide) HB4.out
theorem pdo_any (kd : Int) (pa fr : List Bs) (val x : JV) (s1 s2 s3 v : Value) (n : Nat) (w : World) (hs : StepAt w s1 s2 s3 ⟨kd, pa, fr, val⟩) (ok : JP.PSOK ⟨kd, pa, fr, val⟩ 1048576) (hj : JvAt n [] w v x) (hx : JP.Fit x) (hE : Env w) (hk : 1 ≤ kd ∧ kd ≤ 6) :
    Calls Tryz.prog 67 #[.agg #[.int .i64 kd, s1, s2, s3], v] w (DoneAt (JP.doP ⟨kd, pa, fr, val⟩ x) w) := by
  have : kd = 1 ∨ kd = 2 ∨ kd = 3 ∨ kd = 4 ∨ kd = 5 ∨ kd = 6 := by omega
  rcases this with h | h | h | h | h | h
  · exact pdo1 kd pa fr val x s1 s2 s3 v n w hs ok hj hx hE h
  · exact pdo2 kd pa fr val x s1 s2 s3 v n w hs ok hj hx hE h
  · exact pdo3 kd pa fr val x s1 s2 s3 v n w hs ok hj hx hE h
  · exact pdo4 kd pa fr val x s1 s2 s3 v n w hs ok hj hx hE h
  · exact pdo5 kd pa fr val x s1 s2 s3 v n w hs ok hj hx hE h
  · exact pdo6 kd pa fr val x s1 s2 s3 v n w hs ok hj hx hE h
end Go.Proofs.YtlcongehmjiabaaGreatDoor
