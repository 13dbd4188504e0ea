/- Texts of ours joined. -/
import Derived.Deep.DeepCutAuto
import Derived.Deep.LoopGhost
import Derived.Lib.AtoiAllCases
import Derived.Test.YtnnceaapodgfbaaGreatDoorAy6
set_option linter.unusedVariables false
set_option linter.unusedSimpArgs false
namespace Go.Proofs.YtnnceaapodgfbaaGreatDoor
namespace Adm
open Go.RowKit
open JP (JV Bs)
def fieldsO : Option JV → Option (List (Bs × JV))
  | none => some []
  | some (.obj d) => some d
  | some _ => none
def grownT : List Bs → Option JV → JV → JV × Bool
  | [], _, y => (y, true)
  | s :: r, o, y => match fieldsO o with
    | none => (.nul, false)
    | some d => (.obj (JP.put s (grownT r (JP.get s d) y).1 d), (grownT r (JP.get s d) y).2)
def sizeO (o : Option JV) : Nat := match fieldsO o with
  | none => 0
  | some d => JP.sizeF d
theorem sizeF_len9 (l : List (Bs × JV)) : l.length ≤ JP.sizeF l := by
  induction l with
  | nil => exact Nat.le_refl _
  | cons x r ih => obtain ⟨n, v⟩ := x; have := JP.size_pos v; rw [JP.sizeF, List.length_cons]; omega
theorem get_le (s : Bs) {c : JV} : ∀ d : List (Bs × JV), JP.get s d = some c → JP.size c ≤ JP.sizeF d
  | [], h => by cases h
  | (m, x) :: r, h => by
    rw [JP.get] at h
    rw [JP.sizeF]
    by_cases hm : m = s
    · rw [if_pos hm] at h
      injection h with h
      subst h
      omega
    · rw [if_neg hm] at h
      have := get_le s r h
      omega
theorem size_get (s : Bs) (d : List (Bs × JV)) : sizeO (JP.get s d) ≤ JP.sizeF d := by
  cases h : JP.get s d with
  | none => exact Nat.zero_le _
  | some c =>
    have h1 := get_le s d h
    cases c with
    | obj l =>
      have h2 : JP.size (.obj l) = 1 + JP.sizeF l := by rw [JP.size]
      show JP.sizeF l ≤ _
      omega
    | _ => exact Nat.zero_le _
theorem below_drewA {B : Nat} {a w : World} (h : Below B a w) (n : Nat) : Below B a (w.drewN n) := ⟨h.os, h.tape, h.output, h.size, h.block⟩
set_option maxRecDepth 100000 in
set_option maxHeartbeats 6400000 in
theorem grown_any (T : List Nat) : ∀ (l : List Bs) (n k : Nat) (v sv wv : Value) (o : Option JV) (y : JV) (w : World), (∀ x, o = some x → JvAt n T w v x) → JvAt k T w wv y → StrAt w sv (l.map mkB) → l.length ≤ 1048576 → sizeO o ≤ 1000000 → (∀ b ∈ T, b < w.heap.size) →
    Calls Tryz.prog 248 #[v, .bool o.isSome, sv, wv] w fun e w' => ∃ u, e = .returned (.tuple #[u, .bool (grownT l o y).2]) ∧ (∃ j, JvAt j T w' u (grownT l o y).1) ∧ Below w.heap.size w w' := by
  intro l
  induction l with
  | nil =>
    intro n k v sv wv o y w hv hw hs _ _ _
    obtain ⟨a1, c1, rfl, -, -⟩ := hs.len
    have HW := Lib.hid hw
    show Calls _ _ _ _ fun e w' => ∃ u, e = .returned (.tuple #[u, .bool true]) ∧ (∃ j, JvAt j T w' u y) ∧ Below w.heap.size w w'
    clear hv hw hs
    go_enter Tryz.func248, Tryz.ntmps248
    go_wp2_with fail
    go_ret2
    exact ⟨_, rfl, ⟨k, HW.out⟩, Below.refl _ _⟩
  | cons s r ih =>
    intro n k v sv wv o y w hv hw hs hll hsz hT
    obtain ⟨a1, c1, hu, hlc, -⟩ := hs.len
    rw [List.length_map] at hu hlc
    subst hu
    have hlen : (s :: r).length = r.length + 1 := rfl
    obtain ⟨b, oo, c', hvv, -, -, hbs, hcell⟩ := hs.row.form (by rw [List.length_map, hlen]; omega) (by omega)
    injection hvv with u1 u2 u3
    subst u1
    obtain ⟨ds, -, hcc, hds⟩ := hcell 0 (mkB s) rfl
    obtain rfl : ds = [.string (mkB s)] := hds
    have e0 : w.cell? ⟨b, oo, none⟩ = some (.string (mkB s)) := by have h9 := hcc 0 _ rfl; simpa using h9
    have hbw : b < w.heap.size := World.block_lt_of_cell? w ⟨b, oo, none⟩ e0
    clear hcell hcc u2 u3
    obtain ⟨m, hm⟩ : ∃ m, r.length = m := ⟨_, rfl⟩
    rw [hm] at hlen
    rw [hlen] at hs hll hlc ⊢
    have hcut := hs.cut (i := 1) (j := m + 1) (b := b) (o := oo) (c := c1) (by rw [List.length_map, hlen]) (by omega) (by rw [List.length_map, hlen]; omega)
    rw [List.take_of_length_le (by rw [List.length_map, hlen]; omega), List.map_cons, List.drop_one, List.tail_cons] at hcut
    obtain ⟨tv, htv, hts⟩ : ∃ tv, ((c1 = 1 ∧ tv = .slice (some ⟨b, oo, none⟩) 0 0) ∨ (c1 ≠ 1 ∧ tv = .slice (some ⟨b, oo + 1, none⟩) (m + 1 - 1) (c1 - 1))) ∧ StrAt w tv (r.map mkB) := by
      by_cases hc : c1 = 1
      · have hm0 : m = 0 := by omega
        have hr0 : r = [] := List.eq_nil_of_length_eq_zero (hm.trans hm0)
        exact ⟨_, .inl ⟨hc, rfl⟩, by rw [hr0]; exact .inr ⟨_, 0, rfl, Nat.le_refl _, Nat.zero_le _, fun j x h => by simp at h⟩⟩
      · exact ⟨_, .inr ⟨hc, rfl⟩, hcut⟩
    have HTv := Lib.hid htv
    have HCut := Lib.hid hts
    have HW := Lib.hid hw
    have HT := Lib.hid hT
    have IH := Lib.hid ih
    have Hm := Lib.hid hm
    have q1 : ((m : Int) + 1 == 0) = false := by rw [beq_eq_false_iff_ne]; omega
    have q2 : (0 : Int) < (m : Int) + 1 := by omega
    have q3 : (1 : Int) ≤ (m : Int) + 1 := by omega
    have q4 : (m : Int) + 1 ≤ (c1 : Int) := by omega
    have q5 : ((m : Int) + 1).toNat = m + 1 := by omega
    obtain ⟨w1, hw1⟩ : ∃ w1, w1 = w.alloc (.cells #[.slice none 0 0, .slice none 0 0] 192) := ⟨_, rfl⟩
    obtain ⟨qn, hqn⟩ : ∃ q, q = w.heap.size := ⟨_, rfl⟩
    have HB1 : Hid (Below w.heap.size w w1) := Lib.hid (by rw [hw1]; exact (Below.refl _ _).alloc (Nat.le_refl _) _)
    have HOn : Hid (ObR (JvR 0 T) T w1 qn []) := Lib.hid (by rw [hw1, hqn]; exact empty_ob (heap_alloc_new w _) (fun hb => Nat.lt_irrefl _ (HT.out _ hb)))
    clear hw hs ih hcut hm htv hts hT hlc
    -- an object is there, or nothing
    have HGo : Hid (∀ (d : List (Bs × JV)) (M q : Nat), fieldsO o = some d → ObR (JvR M T) T w1 q d → True) := Lib.hid fun _ _ _ _ _ => trivial
    cases o with
    | none =>
      have hres : grownT (s :: r) none y = (.obj (JP.put s (grownT r none y).1 []), (grownT r none y).2) := rfl
      rw [hres]
      clear hres hv
      obtain ⟨g1, Hg1⟩ : ∃ x, Hid ((grownT r none y).1 = x) := ⟨_, Lib.hid rfl⟩
      obtain ⟨g2, Hg2⟩ : ∃ x, Hid ((grownT r none y).2 = x) := ⟨_, Lib.hid rfl⟩
      have IHn := Lib.hid (IH.out 0 k .nilIface tv wv none y)
      rw [Hg1.out, Hg2.out] at IHn ⊢
      clear IH hsz
      go_enter Tryz.func248, Tryz.ntmps248
      go_upto_region 4 with fail
      rw [← hw1]
      try rw [← hqn]
      clear hw1 hqn
      have HG := Lib.hid (get_any (x := s) (w := w1) HOn.out (by decide))
      have e1 : w1.cell? ⟨b, oo, none⟩ = some (.string (mkB s)) := (HB1.out.cell (p := ⟨b, oo, none⟩) hbw).trans e0
      go_wp2_with fail
      refine HG.out.mono ?_
      rintro E w2 ⟨vg, rfl, hs2, hn2, k2, hw2⟩
      have hb12 : Below w1.heap.size w1 w2 := by rw [hw2]; exact below_drewA (Below.refl _ _) k2
      have HB2 := Lib.hid (HB1.out.trans (hb12.mono HB1.out.size))
      have HO2 : Hid (ObR (JvR 0 T) T w2 qn []) := Lib.hid (HOn.out.keepJ (KeepT.of hb12))
      have e2 : w2.cell? ⟨b, oo, none⟩ = some (.string (mkB s)) := (HB2.out.cell (p := ⟨b, oo, none⟩) hbw).trans e0
      have HS2 := Lib.hid hs2
      have HN2 := Lib.hid hn2
      have hb12k := Lib.hid hb12
      obtain rfl : vg = .nilIface := hn2 rfl
      have HI : Hid (Calls Tryz.prog 248 #[.nilIface, .bool false, tv, wv] w2 fun e w' => ∃ u, e = .returned (.tuple #[u, .bool g2]) ∧ (∃ j, JvAt j T w' u g1) ∧ Below w2.heap.size w2 w') := Lib.hid (by
        have h9 := IHn.out  w2 (fun x e => by cases e) (HW.out.below HB2.out) (HCut.out.below HB2.out) (by rw [Hm.out]; omega) (Nat.zero_le _) (fun b hb => Nat.lt_of_lt_of_le (HT.out b hb) HB2.out.size)
        exact h9)
      clear hs2 hn2 hw2 HG e1 hb12 IHn
      rcases HTv.out with ⟨hc1, htv⟩ | ⟨hc1, htv⟩
      · subst htv
        subst hc1
        have hm0 : m = 0 := by omega
        subst hm0
        go_wp2_with fail
        refine HI.out.mono ?_
        rintro E w3 ⟨u3, rfl, ⟨j3, h3⟩, hb3⟩
        have HB3 := Lib.hid (HB2.out.trans (hb3.mono HB2.out.size))
        have H3 := Lib.hid h3
        have e3 : w3.cell? ⟨b, oo, none⟩ = some (.string (mkB s)) := (HB3.out.cell (p := ⟨b, oo, none⟩) hbw).trans e0
        have HWi := Lib.hid (with_any (x := s) ((HO2.out.keepJ (KeepT.of hb3)).upsJ (Nat.le_max_left 0 j3)) (H3.out.ups (Nat.le_max_right 0 j3)) (fun b hb => Nat.lt_of_lt_of_le (HT.out b hb) HB3.out.size) (by decide))
        clear h3 hb3 HI e2
        go_wp2_with fail
        refine HWi.out.mono ?_
        rintro E w4 ⟨q4, rfl, h4, hb4⟩
        have H4 := Lib.hid h4
        have HB4 := Lib.hid (HB3.out.trans (hb4.mono HB3.out.size))
        clear h4 hb4 HWi e3
        go_wp2_with fail
        go_ret2
        exact ⟨_, rfl, ⟨_ + 1, q4, rfl, H4.out⟩, HB4.out⟩
      · subst htv
        have q6 : ((c1 : Int) == 1) = false := by rw [beq_eq_false_iff_ne]; omega
        go_wp2_with fail
        refine HI.out.mono ?_
        rintro E w3 ⟨u3, rfl, ⟨j3, h3⟩, hb3⟩
        have HB3 := Lib.hid (HB2.out.trans (hb3.mono HB2.out.size))
        have H3 := Lib.hid h3
        have e3 : w3.cell? ⟨b, oo, none⟩ = some (.string (mkB s)) := (HB3.out.cell (p := ⟨b, oo, none⟩) hbw).trans e0
        have HWi := Lib.hid (with_any (x := s) ((HO2.out.keepJ (KeepT.of hb3)).upsJ (Nat.le_max_left 0 j3)) (H3.out.ups (Nat.le_max_right 0 j3)) (fun b hb => Nat.lt_of_lt_of_le (HT.out b hb) HB3.out.size) (by decide))
        clear h3 hb3 HI e2
        go_wp2_with fail
        refine HWi.out.mono ?_
        rintro E w4 ⟨q4, rfl, h4, hb4⟩
        have H4 := Lib.hid h4
        have HB4 := Lib.hid (HB3.out.trans (hb4.mono HB3.out.size))
        clear h4 hb4 HWi e3
        go_wp2_with fail
        go_ret2
        exact ⟨_, rfl, ⟨_ + 1, q4, rfl, H4.out⟩, HB4.out⟩
    | some x =>
      by_cases hdo : ∃ d, x = .obj d
      · obtain ⟨d, rfl⟩ := hdo
        have hres : grownT (s :: r) (some (.obj d)) y = (.obj (JP.put s (grownT r (JP.get s d) y).1 d), (grownT r (JP.get s d) y).2) := rfl
        rw [hres]
        have hj := hv _ rfl
        cases n with
        | zero => cases hj
        | succ n =>
        obtain ⟨q, rfl, hdr⟩ := hj
        have HOd := Lib.hid (hdr.keepJ (KeepT.of HB1.out))
        have G2 := (as_obj (.pointer (some ⟨q, 0, none⟩))).2.2.2.2
        clear hres hv hdr
        obtain ⟨g1, Hg1⟩ : ∃ x, Hid ((grownT r (JP.get s d) y).1 = x) := ⟨_, Lib.hid rfl⟩
        obtain ⟨g2, Hg2⟩ : ∃ x, Hid ((grownT r (JP.get s d) y).2 = x) := ⟨_, Lib.hid rfl⟩
        have IHn := Lib.hid fun vg => IH.out n k vg tv wv (JP.get s d) y
        rw [Hg1.out, Hg2.out] at IHn ⊢
        have hsz9 : JP.sizeF d ≤ 1000000 := hsz
        clear IH hsz
        go_enter Tryz.func248, Tryz.ntmps248
        go_upto_region 4 with fail
        rw [← hw1]
        try rw [← hqn]
        clear hw1 hqn
        have HG := Lib.hid (get_any (x := s) (w := w1) HOd.out (by have := sizeF_len9 d; omega))
        have e1 : w1.cell? ⟨b, oo, none⟩ = some (.string (mkB s)) := (HB1.out.cell (p := ⟨b, oo, none⟩) hbw).trans e0
        go_wp2_with fail
        refine HG.out.mono ?_
        rintro E w2 ⟨vg, rfl, hs2, hn2, k2, hw2⟩
        have hb12 : Below w1.heap.size w1 w2 := by rw [hw2]; exact below_drewA (Below.refl _ _) k2
        have HB2 := Lib.hid (HB1.out.trans (hb12.mono HB1.out.size))
        have HO2 : Hid (ObR (JvR n T) T w2 q d) := Lib.hid (HOd.out.keepJ (KeepT.of hb12))
        have e2 : w2.cell? ⟨b, oo, none⟩ = some (.string (mkB s)) := (HB2.out.cell (p := ⟨b, oo, none⟩) hbw).trans e0
        have HS2 := Lib.hid hs2
        have HN2 := Lib.hid hn2
        have hb12k := Lib.hid hb12

        have HI : Hid (Calls Tryz.prog 248 #[vg, .bool (JP.get s d).isSome, tv, wv] w2 fun e w' => ∃ u, e = .returned (.tuple #[u, .bool g2]) ∧ (∃ j, JvAt j T w' u g1) ∧ Below w2.heap.size w2 w') := Lib.hid (by
          have h9 := IHn.out vg w2 (fun x e => (HS2.out x e).keepT (KeepT.of hb12k.out)) (HW.out.below HB2.out) (HCut.out.below HB2.out) (by rw [Hm.out]; omega) (Nat.le_trans (size_get s d) hsz9) (fun b hb => Nat.lt_of_lt_of_le (HT.out b hb) HB2.out.size)
          exact h9)
        clear hs2 hn2 hw2 HG e1 hb12 IHn
        obtain ⟨hasb, Hhb⟩ : ∃ x, Hid ((JP.get s d).isSome = x) := ⟨_, Lib.hid rfl⟩
        rw [Hhb.out] at HI ⊢
        rcases HTv.out with ⟨hc1, htv⟩ | ⟨hc1, htv⟩
        · subst htv
          subst hc1
          have hm0 : m = 0 := by omega
          subst hm0
          go_wp2_with fail
          refine HI.out.mono ?_
          rintro E w3 ⟨u3, rfl, ⟨j3, h3⟩, hb3⟩
          have HB3 := Lib.hid (HB2.out.trans (hb3.mono HB2.out.size))
          have H3 := Lib.hid h3
          have e3 : w3.cell? ⟨b, oo, none⟩ = some (.string (mkB s)) := (HB3.out.cell (p := ⟨b, oo, none⟩) hbw).trans e0
          have HWi := Lib.hid (with_any (x := s) ((HO2.out.keepJ (KeepT.of hb3)).upsJ (Nat.le_max_left n j3)) (H3.out.ups (Nat.le_max_right n j3)) (fun b hb => Nat.lt_of_lt_of_le (HT.out b hb) HB3.out.size) (by have := sizeF_len9 d; omega))
          clear h3 hb3 HI e2
          go_wp2_with fail
          refine HWi.out.mono ?_
          rintro E w4 ⟨q4, rfl, h4, hb4⟩
          have H4 := Lib.hid h4
          have HB4 := Lib.hid (HB3.out.trans (hb4.mono HB3.out.size))
          clear h4 hb4 HWi e3
          go_wp2_with fail
          go_ret2
          exact ⟨_, rfl, ⟨_ + 1, q4, rfl, H4.out⟩, HB4.out⟩
        · subst htv
          have q6 : ((c1 : Int) == 1) = false := by rw [beq_eq_false_iff_ne]; omega
          go_wp2_with fail
          refine HI.out.mono ?_
          rintro E w3 ⟨u3, rfl, ⟨j3, h3⟩, hb3⟩
          have HB3 := Lib.hid (HB2.out.trans (hb3.mono HB2.out.size))
          have H3 := Lib.hid h3
          have e3 : w3.cell? ⟨b, oo, none⟩ = some (.string (mkB s)) := (HB3.out.cell (p := ⟨b, oo, none⟩) hbw).trans e0
          have HWi := Lib.hid (with_any (x := s) ((HO2.out.keepJ (KeepT.of hb3)).upsJ (Nat.le_max_left n j3)) (H3.out.ups (Nat.le_max_right n j3)) (fun b hb => Nat.lt_of_lt_of_le (HT.out b hb) HB3.out.size) (by have := sizeF_len9 d; omega))
          clear h3 hb3 HI e2
          go_wp2_with fail
          refine HWi.out.mono ?_
          rintro E w4 ⟨q4, rfl, h4, hb4⟩
          have H4 := Lib.hid h4
          have HB4 := Lib.hid (HB3.out.trans (hb4.mono HB3.out.size))
          clear h4 hb4 HWi e3
          go_wp2_with fail
          go_ret2
          exact ⟨_, rfl, ⟨_ + 1, q4, rfl, H4.out⟩, HB4.out⟩
      · have hdn : ∀ d, x ≠ .obj d := fun d e => hdo ⟨d, e⟩
        have G2 := as_other (hv x rfl) hdn
        have hres : grownT (s :: r) (some x) y = (.nul, false) := by
          unfold grownT
          have h9 : fieldsO (some x) = none := by
            cases x with
            | obj d => exact absurd rfl (hdn d)
            | _ => rfl
          rw [h9]
        rw [hres]
        clear hres hv hdn hdo IH hsz
        go_enter Tryz.func248, Tryz.ntmps248
        go_upto_region 4 with fail
        rw [← hw1]
        try rw [← hqn]
        clear hw1 hqn
        go_wp2_with fail
        go_ret2
        exact ⟨_, rfl, ⟨1, rfl⟩, HB1.out⟩
end Adm
end Go.Proofs.YtnnceaapodgfbaaGreatDoor
namespace Go.Proofs.YtnnceaapodgfbaaGreatDoor
open Go.RowKit
theorem lab_zero {x : Option ByteArray × GLabel} (h : labE x = 0) : prevE x.1 x.2.key = 0 := by
  unfold labE at h
  by_cases h1 : keyE x.2.key ≠ 0
  · rw [if_pos h1] at h; exact absurd h h1
  · rw [if_neg h1] at h
    by_cases h2 : valE x.2.val ≠ 0
    · rw [if_pos h2] at h; exact absurd h h2
    · rw [if_neg h2] at h; exact h
theorem prev_zero {k key : ByteArray} (h : prevE (some k) key = 0) : lessB k key = true := by
  unfold prevE at h
  dsimp only at h
  by_cases h1 : lessB k key = true
  · exact h1
  · rw [if_neg h1] at h; cases h
theorem labZ_rise : ∀ (l : List GLabel) (p : Option ByteArray), (∀ x ∈ (p :: l.map (some ·.key)).zip l, prevE x.1 x.2.key = 0) → (∀ k, p = some k → ∀ x ∈ l, lessB k x.key = true) ∧ l.Pairwise fun a b => lessB a.key b.key = true
  | [], p, _ => ⟨fun _ _ _ h => (by cases h), List.Pairwise.nil⟩
  | a :: r, p, h => by
    have hz : (p :: (a :: r).map (some ·.key)).zip (a :: r) = (p, a) :: ((some a.key :: r.map (some ·.key)).zip r) := rfl
    rw [hz] at h
    have h1 := h (p, a) (List.mem_cons_self ..)
    obtain ⟨i1, i2⟩ := labZ_rise r (some a.key) fun x hx => h x (List.mem_cons_of_mem _ hx)
    refine ⟨fun k hk x hx => ?_, List.pairwise_cons.2 ⟨fun x hx => i1 _ rfl x hx, i2⟩⟩
    subst hk
    have h2 : lessB k a.key = true := prev_zero h1
    rcases List.mem_cons.1 hx with rfl | hx
    · exact h2
    · exact lessB_trans h2 (i1 _ rfl x hx)
theorem labels_rise {l : List GLabel} (h : labelsE l = 0) : l.Pairwise fun a b => lessB a.key b.key = true := by
  unfold labelsE at h
  by_cases h1 : 10 < l.length
  · rw [if_pos h1] at h; cases h
  · rw [if_neg h1] at h
    exact (labZ_rise l none fun x hx => lab_zero (errF_zero.1 h x hx)).2
end Go.Proofs.YtnnceaapodgfbaaGreatDoor
namespace Go.Proofs.YtnnceaapodgfbaaGreatDoor
open Go Go.Lib
def unescS (l : List UInt8) : List UInt8 := replaceAll (replaceAll l [126, 49] [47]) [126, 48] [126]
def escB (b : UInt8) : List UInt8 := if b = 126 then [126, 48] else if b = 47 then [126, 49] else [b]
theorem unescS_eq (l : List UInt8) : unescS l = rep2 126 48 [126] (rep2 126 49 [47] l) := by
  unfold unescS
  rw [replaceAll_two (by decide), replaceAll_two (by decide)]
def okEsc : List UInt8 → Bool
  | [] => true
  | [x] => x != 126
  | x :: y :: r => if x = 126 then (y == 48 || y == 49) && okEsc r else okEsc (y :: r)
theorem okEsc_ne {x : UInt8} (h : x ≠ 126) (r : List UInt8) : okEsc (x :: r) = okEsc r := by
  cases r with
  | nil => simp [okEsc, h]
  | cons y r => rw [okEsc, if_neg h]
end Go.Proofs.YtnnceaapodgfbaaGreatDoor
namespace Go.Proofs.YtnnceaapodgfbaaGreatDoor
open Go Go.Lib
def headOK : List UInt8 → Bool
  | [] => false
  | x :: _ => x == 48 || x == 49
theorem okEsc_split (n : Nat) : ∀ s : List UInt8, s.length ≤ n → okEsc s = (splitL 126 s).tail.all headOK := by
  induction n with
  | zero =>
    intro s hs
    obtain rfl : s = [] := List.eq_nil_of_length_eq_zero (by omega)
    rfl
  | succ n ih =>
    intro s hs
    match s, hs with
    | [], _ => rfl
    | x :: r, hs =>
      by_cases hx : x = 126
      · subst hx
        rw [splitL, if_pos rfl, List.tail_cons]
        match r, hs with
        | [], _ => rfl
        | y :: r', hs =>
          rw [okEsc, if_pos rfl, splitL]
          by_cases hy : y = 126
          · subst hy
            rw [if_pos rfl, List.all_cons]
            rfl
          · rw [if_neg hy]
            have h2 := ih r' (by simp at hs; omega)
            cases hs2 : splitL 126 r' with
            | nil => exact absurd hs2 (splitL_ne 126 r')
            | cons a t =>
              rw [hs2, List.tail_cons] at h2
              rw [h2, List.all_cons]
              rfl
      · rw [okEsc_ne hx, splitL, if_neg hx, ih r (by simp at hs; omega)]
        cases hs2 : splitL 126 r with
        | nil => exact absurd hs2 (splitL_ne 126 r)
        | cons a t => rfl
end Go.Proofs.YtnnceaapodgfbaaGreatDoor
namespace Go.Proofs.YtnnceaapodgfbaaGreatDoor
open Go Go.Lib
def stepsL (q : List UInt8) : List (List UInt8) := (splitL 47 q).map unescS
def stepsP (p : List UInt8) : Int × List (List UInt8) := match p with
  | [] => (0, [])
  | c :: q => if c ≠ 47 then (16, []) else if (splitL 47 q).all okEsc = true then (if 10 < (splitL 47 q).length then (2, []) else (0, stepsL q)) else (16, [])
theorem rep2_len {a b : UInt8} {new : List UInt8} (h : new.length ≤ 2) : ∀ (n : Nat) (l : List UInt8), l.length ≤ n → (rep2 a b new l).length ≤ l.length
  | 0, l, hl => by
    obtain rfl : l = [] := List.eq_nil_of_length_eq_zero (by omega)
    simp [rep2]
  | n + 1, l, hl => by
    match l, hl with
    | [], _ => simp [rep2]
    | [x], _ => simp [rep2]
    | x :: y :: r, hl =>
      rw [rep2]
      split
      · have := rep2_len (a := a) (b := b) h n r (by simp at hl; omega)
        rw [List.length_append]; simp only [List.length_cons]; omega
      · have := rep2_len (a := a) (b := b) h n (y :: r) (by simp at hl ⊢; omega)
        simp only [List.length_cons] at this ⊢; omega
theorem unesc_len (l : List UInt8) : (unescS l).length ≤ l.length := by
  rw [unescS_eq]
  exact Nat.le_trans (rep2_len (by decide) _ _ (Nat.le_refl _)) (rep2_len (by decide) _ _ (Nat.le_refl _))
end Go.Proofs.YtnnceaapodgfbaaGreatDoor
namespace Go.Proofs.YtnnceaapodgfbaaGreatDoor
open Go.RowKit
open JP (JV Bs)
theorem stand_nat (c : UInt8) : JP.stand c = (decide (32 ≤ c.toNat ∧ c.toNat ≤ 126) || decide (c.toNat = 10) || decide (c.toNat = 9)) := by
  have e : ∀ k : UInt8, (c == k) = decide (c.toNat = k.toNat) := fun k => by
    rw [Bool.eq_iff_iff, beq_iff_eq, decide_eq_true_iff]
    exact ⟨fun h => by rw [h], fun h => UInt8.toNat_inj.1 h⟩
  unfold JP.stand
  rw [e 10, e 9]
  have a : decide (32 ≤ c) = decide (32 ≤ c.toNat) := rfl
  have b : decide (c ≤ 126) = decide (c.toNat ≤ 126) := rfl
  rw [a, b]
  by_cases h1 : 32 ≤ c.toNat <;> by_cases h2 : c.toNat ≤ 126 <;> simp [h1, h2]
theorem all_take {s : ByteArray} {i : Nat} (hi : i < s.size) (h : (s.data.toList.take i).all JP.stand = true) (hc : JP.stand s[i] = true) : (s.data.toList.take (i + 1)).all JP.stand = true := by
  have hl : i < s.data.toList.length := by rw [list_size]; exact hi
  rw [List.take_succ_eq_append_getElem hl, List.all_append, h]
  simp only [List.all_cons, List.all_nil, Bool.and_true, Bool.true_and]
  exact hc
theorem not_all {s : ByteArray} {i : Nat} (hi : i < s.size) (hc : JP.stand s[i] = false) : s.data.toList.all JP.stand = false := by
  have hl : i < s.data.toList.length := by rw [list_size]; exact hi
  rw [Bool.eq_false_iff]
  intro h
  rw [List.all_eq_true] at h
  have := h s.data.toList[i] (List.getElem_mem hl)
  rw [show s.data.toList[i] = s[i] from rfl, hc] at this
  cases this
end Go.Proofs.YtnnceaapodgfbaaGreatDoor
namespace Go.Proofs.YtnnceaapodgfbaaGreatDoor
open Go.RowKit
open JP (JV Bs)
theorem ret_bool2 {a b : Bool} (h : a = b) : Ending.returned (.bool a) = .returned (.bool b) := by rw [h]
set_option maxRecDepth 100000 in
set_option maxHeartbeats 3200000 in
theorem stands_any (s : ByteArray) (w : World) (hs : s.size ≤ 4194304) :
    Calls Tryz.prog 254 #[.string s] w fun e w' => e = .returned (.bool (s.data.toList.all JP.stand)) ∧ w = w' := by
  obtain ⟨R, hR⟩ : ∃ R, s.data.toList.all JP.stand = R := ⟨_, rfl⟩
  rw [hR]
  have HR := Lib.hid hR
  clear hR
  go_enter Tryz.func254, Tryz.ntmps254
  go_wp2_with fail
  go_loopg [7] s.size (fun k u7 wx => ∃ i : Nat, i + k = s.size ∧ u7 = .int .i64 (i : Int) ∧ Hid ((s.data.toList.take i).all JP.stand = true) ∧ w = wx)
  case atStart => exact ⟨0, by omega, rfl, Lib.hid (by rw [List.take_zero]; rfl), rfl⟩
  case round =>
    obtain ⟨i, hig, rfl, HA, rfl⟩ := hrel
    cases gk with
    | zero =>
      have q1 : ¬ (i : Int) < (s.size : Int) := by omega
      have Hall : Hid (s.data.toList.all JP.stand = true) := Lib.hid (by have h := HA.out; rwa [List.take_of_length_le (by rw [list_size]; omega)] at h)
      clear HA hig
      go_wp2_with fail
      go_ret
      exact ⟨ret_bool2 (Hall.out.symm.trans HR.out), rfl⟩
    | succ k =>
      have hil : i < s.size := by omega
      have q0 : decide (i < s.size) = true := decide_eq_true hil
      have q1 : (i : Int) < (s.size : Int) := by omega
      have q2 : (0 : Int) ≤ (i : Int) := by omega
      have hwr : IntKind.i64.wrap ((i : Int) + 1) = (i : Int) + 1 := IntWalk.i64_in _ (by omega)
      have hsn := stand_nat s[i]
      cases hst : JP.stand s[i] with
      | false =>
        rw [hst] at hsn
        replace hsn := hsn.symm
        simp only [Bool.or_eq_false_iff, decide_eq_false_iff_not] at hsn
        obtain ⟨⟨m1, m2⟩, m3⟩ := hsn
        have e10 : ((s[i].toNat : Int) != 10) = true := by rw [bne_iff_ne]; omega
        have e9 : ((s[i].toNat : Int) != 9) = true := by rw [bne_iff_ne]; omega
        have Hno := Lib.hid (not_all hil hst)
        clear hst HA hig
        by_cases l1 : s[i].toNat < 32
        · have p1 : (s[i].toNat : Int) < 32 := by omega
          have p2 : decide ((s[i].toNat : Int) < 32) = true := decide_eq_true p1
          clear m1 m2 m3
          go_wp2_with fail
          go_ret
          exact ⟨ret_bool2 (Hno.out.symm.trans HR.out), rfl⟩
        · have p1 : ¬ (s[i].toNat : Int) < 32 := by omega
          have p2 : decide ((s[i].toNat : Int) < 32) = false := decide_eq_false p1
          have p3 : (126 : Int) < (s[i].toNat : Int) := by omega
          have p4 : decide ((126 : Int) < (s[i].toNat : Int)) = true := decide_eq_true p3
          clear m1 m2 m3
          go_wp2_with fail
          go_ret
          exact ⟨ret_bool2 (Hno.out.symm.trans HR.out), rfl⟩
      | true =>
        rw [hst] at hsn
        replace hsn := hsn.symm
        simp only [Bool.or_eq_true, decide_eq_true_eq] at hsn
        have HA2 := Lib.hid (all_take hil HA.out hst)
        clear hst HA
        rcases hsn with (⟨m1, m2⟩ | m1) | m1
        · have p1 : ¬ (s[i].toNat : Int) < 32 := by omega
          have p2 : decide ((s[i].toNat : Int) < 32) = false := decide_eq_false p1
          have p3 : ¬ (126 : Int) < (s[i].toNat : Int) := by omega
          have p4 : decide ((126 : Int) < (s[i].toNat : Int)) = false := decide_eq_false p3
          clear m1 m2
          go_wp2_with fail
          go_roundg k
          case measure => omega
          case rel => exact ⟨i + 1, by omega, by go_num, HA2, rfl⟩
        · go_wp2_with fail
          go_roundg k
          case measure => omega
          case rel => exact ⟨i + 1, by omega, by go_num, HA2, rfl⟩
        · go_wp2_with fail
          go_roundg k
          case measure => omega
          case rel => exact ⟨i + 1, by omega, by go_num, HA2, rfl⟩
end Go.Proofs.YtnnceaapodgfbaaGreatDoor
namespace Go.Proofs.YtnnceaapodgfbaaGreatDoor
open Go.RowKit
open JP (JV Bs)
namespace JP
mutual
def sound : JV → Bool
  | .nul => true
  | .bool _ => true
  | .num _ => true
  | .str s => s.all stand
  | .list l => soundL l
  | .obj l => soundF l
termination_by structural x => x
def soundL : List JV → Bool
  | [] => true
  | v :: r => sound v && soundL r
termination_by structural x => x
def soundF : List (Bs × JV) → Bool
  | [] => true
  | (n, v) :: r => n.all stand && sound v && soundF r
termination_by structural x => x
end
theorem soundL_any (l : List JV) : soundL l = !l.any fun x => !sound x := by
  induction l with
  | nil => rfl
  | cons v r ih => rw [soundL, ih, List.any_cons]; cases sound v <;> simp
theorem soundF_all (l : List (Bs × JV)) : soundF l = l.all fun x => x.1.all stand && sound x.2 := by
  induction l with
  | nil => rfl
  | cons x r ih => obtain ⟨n, v⟩ := x; rw [soundF, ih, List.all_cons]
end JP
theorem all_take_of {α : Type} {l : List α} {p : α → Bool} {i : Nat} {x : α} (h : (l.take i).all p = true) (hx : l[i]? = some x) (hp : p x = true) : (l.take (i + 1)).all p = true := by
  rw [List.take_add_one, hx, List.all_append, h]
  simp [hp]
theorem not_all_of {α : Type} {l : List α} {p : α → Bool} {i : Nat} {x : α} (hx : l[i]? = some x) (hp : p x = false) : l.all p = false := by
  rw [Bool.eq_false_iff]
  intro h
  rw [List.all_eq_true] at h
  have := h x (List.mem_of_getElem? hx)
  rw [hp] at this
  cases this
def SoundIH (n : Nat) : Prop := ∀ (v : Value) (x : JV) (w : World), JvAt n [] w v x → (JP.text x).length ≤ 4194304 → Calls Tryz.prog 252 #[v] w fun e w' => e = .returned (.bool (JP.sound x)) ∧ w = w'
set_option maxRecDepth 100000 in
set_option maxHeartbeats 1600000 in
theorem cloSound_any {n : Nat} (ih : SoundIH n) (v : Value) (x : JV) (w : World) (h : JvAt n [] w v x) (hl : (JP.text x).length ≤ 4194304) :
    Calls Tryz.prog 256 #[v] w fun e w' => e = .returned (.bool (!JP.sound x)) ∧ w = w' := by
  have H := Lib.hid (ih v x w h hl)
  obtain ⟨b, hb⟩ : ∃ b, JP.sound x = b := ⟨_, rfl⟩
  rw [hb] at H ⊢
  clear ih h hl hb
  go_enter Tryz.func256, Tryz.ntmps256
  go_wp2_with fail
  refine H.out.mono ?_
  rintro E w1 ⟨rfl, rfl⟩
  go_wp2_with fail
  go_ret
  exact ⟨rfl, rfl⟩
set_option maxRecDepth 100000 in
set_option maxHeartbeats 3200000 in
theorem idxSound_any {n : Nat} (ih : SoundIH n) (v : Value) (l : List JV) (w : World) (h : RowAt (JvR n []) 1 w v l) (hl : l.length ≤ 4194304) (hx : ∀ x ∈ l, (JP.text x).length ≤ 4194304) :
    Calls Tryz.prog 258 #[v, .func (.func 256) #[] #[]] w fun e w' => (∃ i : Int, e = .returned (.int .i64 i) ∧ (decide (0 ≤ i) = l.any fun x => !JP.sound x)) ∧ w = w' := by
  obtain ⟨a1, c1, rfl, _, _⟩ := h.len
  have H := Lib.hid h
  have Hx := Lib.hid hx
  have HC := Lib.hid (fun v x w h hl => cloSound_any ih v x w h hl)
  clear h hx ih
  go_enter Tryz.func258, Tryz.ntmps258
  go_wp2_with fail
  go_loopg [8] l.length (fun g u8 wr => ∃ i : Nat, i + g = l.length ∧ u8 = .int .i64 (i : Int) ∧ Hid (∀ x ∈ l.take i, (!JP.sound x) = false) ∧ w = wr)
  case atStart => exact ⟨0, by omega, rfl, Lib.hid (fun x hx => by simp at hx), rfl⟩
  case round =>
    obtain ⟨i, hig, rfl, Hall, rfl⟩ := hrel
    cases gk with
    | zero =>
      obtain rfl : i = l.length := by omega
      have Hany : Hid (decide ((0 : Int) ≤ -1) = l.any fun x => !JP.sound x) := by
        refine Lib.hid ?_
        rw [decide_eq_false (by omega), eq_comm, List.any_eq_false]
        intro x hx
        have := Hall.out x (by rw [List.take_of_length_le (Nat.le_refl _)]; exact hx)
        rw [this]; decide
      clear hig
      go_wp2_with fail
      go_ret
      exact ⟨⟨-1, rfl, Hany.out⟩, rfl⟩
    | succ g =>
      have hil : i < l.length := by omega
      obtain ⟨x, hxi⟩ : ∃ x, l[i]? = some x := ⟨l[i]'(by omega), List.getElem?_eq_getElem _⟩
      obtain ⟨b, o, c', hv, _, _, hbs, hcell⟩ := H.out.form (by omega) (by omega)
      cases hv
      obtain ⟨ds, _, hcc, vx, rfl, hvx⟩ := hcell i x hxi
      have e0 : w.cell? ⟨b, o + i, none⟩ = some vx := by simpa using hcc 0 _ rfl
      have q1 : (0 : Int) ≤ (i : Int) := by omega
      have q2 : (i : Int) < (l.length : Int) := by omega
      have Hxi := Lib.hid hxi
      have HC1 := Lib.hid (HC.out vx x w hvx (Hx.out x (List.mem_of_getElem? hxi)))
      clear hcc hcell hvx hxi
      obtain ⟨pb, Hpb⟩ : ∃ pb, Hid ((!JP.sound x) = pb) := ⟨_, Lib.hid rfl⟩
      have h9 := HC1.out
      rw [Hpb.out] at h9
      have HC2 := Lib.hid h9
      clear h9 HC1
      go_wp2_with fail
      refine HC2.out.mono ?_
      rintro E w1 ⟨rfl, rfl⟩
      cases pb with
      | true =>
        have Hany : Hid (decide ((0 : Int) ≤ (i : Int)) = l.any fun x => !JP.sound x) := by
          refine Lib.hid ?_
          rw [decide_eq_true (by omega), eq_comm, List.any_eq_true]
          exact ⟨x, List.mem_of_getElem? Hxi.out, Hpb.out⟩
        go_wp2_with fail
        go_ret
        exact ⟨⟨_, rfl, Hany.out⟩, rfl⟩
      | false =>
        have Hall2 : Hid (∀ x ∈ l.take (i + 1), (!JP.sound x) = false) := Lib.hid fun y hy => by
          rw [List.take_add_one, Hxi.out] at hy
          rcases List.mem_append.1 hy with h | h
          · exact Hall.out y h
          · have h9 : y = x := by simpa using h
            rw [h9]; exact Hpb.out
        go_wp2_with fail
        go_roundg g
        case measure => omega
        case rel => exact ⟨i + 1, by omega, by go_num, Hall2, rfl⟩
set_option maxRecDepth 100000 in
set_option maxHeartbeats 1600000 in
theorem anySound_any {n : Nat} (ih : SoundIH n) (v : Value) (l : List JV) (w : World) (h : RowAt (JvR n []) 1 w v l) (hl : l.length ≤ 4194304) (hx : ∀ x ∈ l, (JP.text x).length ≤ 4194304) :
    Calls Tryz.prog 255 #[v, .func (.func 256) #[] #[]] w fun e w' => e = .returned (.bool (!JP.soundL l)) ∧ w = w' := by
  have H := Lib.hid (idxSound_any ih v l w h hl hx)
  obtain ⟨B, HB⟩ : ∃ B, Hid ((!JP.soundL l) = B) := ⟨_, Lib.hid rfl⟩
  have HB2 : Hid ((l.any fun x => !JP.sound x) = B) := Lib.hid (by rw [← HB.out, JP.soundL_any, Bool.not_not])
  rw [HB.out]
  clear h ih hx
  go_enter Tryz.func255, Tryz.ntmps255
  go_wp2_with fail
  refine H.out.mono ?_
  rintro E w1 ⟨⟨i, rfl, hn⟩, rfl⟩
  rw [HB2.out] at hn
  have Hn := Lib.hid hn
  clear hn H
  go_wp2_with fail
  go_ret
  exact ⟨congrArg (fun b => Ending.returned (Value.bool b)) Hn.out, rfl⟩
set_option maxRecDepth 100000 in
set_option maxHeartbeats 6400000 in
theorem sound_any : ∀ (n : Nat), SoundIH n := by
  intro n
  induction n with
  | zero => intro v x w h; cases h
  | succ n ih =>
    intro v x w h hlen
    have IH := Lib.hid ih
    clear ih
    cases x with
    | nul =>
      obtain rfl : v = .nilIface := h
      obtain ⟨g1, g2, g3, g4, g5⟩ := as_nil
      clear hlen
      go_enter Tryz.func252, Tryz.ntmps252
      go_wp2_with fail
      go_ret
      exact ⟨ret_bool2 (by rw [JP.sound]), rfl⟩
    | bool b =>
      obtain rfl : v = .iface 4 (.bool b) := h
      obtain ⟨g1, g2, g3, g4, g5⟩ := as_bool (.bool b)
      clear hlen
      go_enter Tryz.func252, Tryz.ntmps252
      go_wp2_with fail
      go_ret
      exact ⟨ret_bool2 (by rw [JP.sound]), rfl⟩
    | num k =>
      obtain ⟨rfl, _, _⟩ := h
      obtain ⟨g1, g2, g3, g4, g5⟩ := as_int64 (.int .i64 k)
      clear hlen
      go_enter Tryz.func252, Tryz.ntmps252
      go_wp2_with fail
      go_ret
      exact ⟨ret_bool2 (by rw [JP.sound]), rfl⟩
    | str s =>
      obtain rfl : v = .iface 9 (.string (mkB s)) := h
      obtain ⟨g1, g2, g3, g4, g5⟩ := as_string (.string (mkB s))
      have hsz : (mkB s).size ≤ 4194304 := by
        rw [mkB_size]
        have := quote_size s
        rw [JP.text] at hlen
        omega
      have HS := stands_any (mkB s) w hsz
      rw [mkB_list] at HS
      obtain ⟨b, hb⟩ : ∃ b, s.all JP.stand = b := ⟨_, rfl⟩
      rw [hb] at HS
      have HS := Lib.hid HS
      have Hb := Lib.hid hb
      clear hlen hb hsz
      go_enter Tryz.func252, Tryz.ntmps252
      go_wp2_with fail
      refine HS.out.mono ?_
      rintro E w1 ⟨rfl, rfl⟩
      go_wp2_with fail
      go_ret
      exact ⟨ret_bool2 (by rw [JP.sound]; exact Hb.out.symm), rfl⟩
    | list L =>
      obtain ⟨u, rfl, hrow, _⟩ := h
      obtain ⟨a, c, rfl, _, _⟩ := hrow.len
      obtain ⟨g1, g2, g3, g4, g5⟩ := as_list (.slice a L.length c)
      have hll := lenL_text L
      have hln := lenL_len L
      have HA := anySound_any IH.out _ L w hrow (by omega) (fun x hx => by have := lenL_mem hx; omega)
      obtain ⟨b, hb⟩ : ∃ b, JP.soundL L = b := ⟨_, rfl⟩
      rw [hb] at HA
      have HA := Lib.hid HA
      have Hb := Lib.hid hb
      clear hlen hb hll hrow
      go_enter Tryz.func252, Tryz.ntmps252
      go_wp2_with fail
      refine HA.out.mono ?_
      rintro E w1 ⟨rfl, rfl⟩
      go_wp2_with fail
      go_ret
      exact ⟨ret_bool2 (by rw [JP.sound]; exact Hb.out.symm), rfl⟩
    | obj l =>
      obtain ⟨q, rfl, _, _, vn, vv, cn, cv, hrn, _, hrv, _⟩ := h
      obtain ⟨a1, c1, hu1, _, _⟩ := hrn.len
      obtain ⟨a2, c2, hu2, _, _⟩ := hrv.len
      obtain ⟨ln, hln⟩ : ∃ ln, l.length = ln := ⟨_, rfl⟩
      rw [List.length_map, hln] at hu1 hu2
      subst hu1
      subst hu2
      obtain ⟨g1, g2, g3, g4, g5⟩ := as_obj (.pointer (some ⟨q, 0, none⟩))
      have hll := lenF_text l
      have hln2 := lenF_len l
      have hlb : ln ≤ 4194304 := by omega
      have Hln := Lib.hid hln
      have Hrn := Lib.hid hrn
      have Hrv := Lib.hid hrv
      have Hlen := Lib.hid (fun x (hx : x ∈ l) => (show x.1.length ≤ 4194304 ∧ (JP.text x.2).length ≤ 4194304 from by
        have h1 := lenF_mem hx
        have h2 := quote_size x.1
        omega))
      have HS : Hid (JP.sound (.obj l) = l.all fun x => x.1.all JP.stand && JP.sound x.2) := Lib.hid (by rw [JP.sound, JP.soundF_all])
      clear hlen hll hln2 hrn hrv hln
      go_enter Tryz.func252, Tryz.ntmps252
      go_wp2_with fail
      go_loopg [28] ln (fun k u28 wr => ∃ i : Nat, i + k = ln ∧ u28 = .int .i64 (i : Int) ∧ Hid ((l.take i).all (fun x => x.1.all JP.stand && JP.sound x.2) = true) ∧ w = wr)
      case atStart => exact ⟨0, by omega, rfl, Lib.hid rfl, rfl⟩
      case round =>
        obtain ⟨i, hik, rfl, Hall, rfl⟩ := hrel
        cases gk with
        | zero =>
          have hall := Hall.out
          rw [List.take_of_length_le (by rw [Hln.out]; omega)] at hall
          have Ha := Lib.hid hall
          have q1 : ¬ (i : Int) < (ln : Int) := by omega
          clear hall hik
          go_wp2_with fail
          go_ret
          exact ⟨ret_bool2 (by rw [HS.out]; exact Ha.out.symm), rfl⟩
        | succ k =>
          have hil : i < ln := by omega
          obtain ⟨y, hy⟩ : ∃ y, l[i]? = some y := ⟨l[i]'(by rw [Hln.out]; exact hil), List.getElem?_eq_getElem _⟩
          have hlm := Hlen.out y (List.mem_of_getElem? hy)
          obtain ⟨b1, o1, c', hv1, _, _, hbs1, hcell1⟩ := Hrn.out.form (by rw [List.length_map, Hln.out]; omega) (by omega)
          injection hv1 with u1 u2 u3
          subst u1
          clear u2 u3
          obtain ⟨ds1, _, hcc1, hR1⟩ := hcell1 i (mkB y.1) (by rw [List.getElem?_map, hy]; rfl)
          obtain rfl : ds1 = [.string (mkB y.1)] := hR1
          have e0 : w.cell? ⟨b1, o1 + i, none⟩ = some (.string (mkB y.1)) := by simpa using hcc1 0 _ rfl
          obtain ⟨b2, o2, c'', hv2, _, _, hbs2, hcell2⟩ := Hrv.out.form (by rw [List.length_map, Hln.out]; omega) (by omega)
          injection hv2 with u1 u2 u3
          subst u1
          clear u2 u3
          obtain ⟨ds2, _, hcc2, vx, rfl, hvx⟩ := hcell2 i y.2 (by rw [List.getElem?_map, hy]; rfl)
          have e1 : w.cell? ⟨b2, o2 + i, none⟩ = some vx := by simpa using hcc2 0 _ rfl
          have q1 : (0 : Int) ≤ (i : Int) := by omega
          have q2 : (i : Int) < (ln : Int) := by omega
          have hST := stands_any (mkB y.1) w (by rw [mkB_size]; exact hlm.1)
          rw [mkB_list] at hST
          have hSO := IH.out vx y.2 w hvx hlm.2
          obtain ⟨p1, hp1⟩ : ∃ p, y.1.all JP.stand = p := ⟨_, rfl⟩
          obtain ⟨p2, hp2⟩ : ∃ p, JP.sound y.2 = p := ⟨_, rfl⟩
          rw [hp1] at hST
          rw [hp2] at hSO
          have HST := Lib.hid hST
          have HSO := Lib.hid hSO
          have Hy := Lib.hid hy
          have Hp : Hid ((y.1.all JP.stand && JP.sound y.2) = (p1 && p2)) := Lib.hid (by rw [hp1, hp2])
          clear hcell1 hcell2 hcc1 hcc2 hvx hy hp1 hp2 hST hSO hlm
          cases p1 with
          | false =>
            go_wp2_with fail
            refine HST.out.mono ?_
            rintro E w1 ⟨rfl, rfl⟩
            go_wp2_with fail
            go_ret
            exact ⟨ret_bool2 (by rw [HS.out]; exact (not_all_of Hy.out Hp.out).symm), rfl⟩
          | true =>
            go_wp2_with fail
            refine HST.out.mono ?_
            rintro E w1 ⟨rfl, rfl⟩
            go_wp2_with fail
            refine HSO.out.mono ?_
            rintro E w1 ⟨rfl, rfl⟩
            cases p2 with
            | false =>
              go_wp2_with fail
              go_ret
              exact ⟨ret_bool2 (by rw [HS.out]; exact (not_all_of Hy.out Hp.out).symm), rfl⟩
            | true =>
              have HA2 := Lib.hid (all_take_of Hall.out Hy.out Hp.out)
              go_wp2_with fail
              go_roundg k
              case measure => omega
              case rel => exact ⟨i + 1, by omega, by go_num, HA2, rfl⟩
end Go.Proofs.YtnnceaapodgfbaaGreatDoor
namespace Go.Proofs.YtnnceaapodgfbaaGreatDoor
open Go.RowKit
open JP (JV Bs)
namespace JP
def tellE (x : JV) : Int := if sound x = false then 16 else if 10 < deep x then 4 else if 200 < size x then 2 else if 2000 < (text x).length then 2 else 0
def tellT (x : JV) : Bs := if tellE x = 0 then text x else []
end JP
theorem ret_tell {t : ByteArray} {e e' : Int} {l : Bs} (h : mkB l = t) (he : e = e') : Ending.returned (.tuple #[.string t, .int .i64 e]) = .returned (.tuple #[.string (mkB l), .int .i64 e']) := by rw [h, he]
set_option maxRecDepth 100000 in
set_option maxHeartbeats 3200000 in
theorem tell_any (n : Nat) (v : Value) (x : JV) (w : World) (h : JvAt n [] w v x) (hl : (JP.text x).length ≤ 4194304) (hz : JP.size x ≤ 4194304) (ht : TabOK w) :
    Calls Tryz.prog 249 #[v] w fun e w' => e = .returned (.tuple #[.string (mkB (JP.tellT x)), .int .i64 (JP.tellE x)]) ∧ Below w.heap.size w w' := by
  have HZ := size_any n v x w h hz
  have HS := sound_any n v x w h hl
  have HT := Lib.hid (text_any n v x w h hl ht)
  obtain ⟨S, hS⟩ : ∃ S, JP.sound x = S := ⟨_, rfl⟩
  obtain ⟨M, hM⟩ : ∃ S, JP.size x = S := ⟨_, rfl⟩
  obtain ⟨D, hD⟩ : ∃ S, JP.deep x = S := ⟨_, rfl⟩
  rw [hM, hD] at HZ
  rw [hS] at HS
  have HZ := Lib.hid HZ
  have HS := Lib.hid HS
  obtain ⟨E0, hE⟩ : ∃ T, JP.tellE x = T := ⟨_, rfl⟩
  obtain ⟨T0, hT⟩ : ∃ T, JP.tellT x = T := ⟨_, rfl⟩
  rw [hE, hT]
  have HE : Hid (E0 = if S = false then 16 else if 10 < D then 4 else if 200 < M then 2 else if 2000 < (JP.text x).length then 2 else 0) := Lib.hid (by rw [← hE, ← hS, ← hM, ← hD]; rfl)
  have HTT : Hid (T0 = if E0 = 0 then JP.text x else []) := Lib.hid (by rw [← hE, ← hT]; rfl)
  clear hS hM hD hE hT ht h
  have no : ∀ e : Int, E0 = e → e ≠ 0 → mkB T0 = ByteArray.empty := fun e h1 h2 => by
    rw [HTT.out, if_neg (by rw [h1]; exact h2)]; rfl
  have No := Lib.hid no
  clear no
  cases S with
  | false =>
    have He : Hid (E0 = 16) := Lib.hid (HE.out.trans (if_pos rfl))
    go_enter Tryz.func249, Tryz.ntmps249
    go_wp2_with fail
    refine HZ.out.mono ?_
    rintro E w1 ⟨rfl, rfl⟩
    go_wp2_with fail
    refine HS.out.mono ?_
    rintro E w1 ⟨rfl, rfl⟩
    go_wp2_with fail
    go_ret2
    exact ⟨ret_tell (No.out 16 He.out (by decide)) He.out.symm, Below.refl _ _⟩
  | true =>
    have HE1 : Hid (E0 = if 10 < D then 4 else if 200 < M then 2 else if 2000 < (JP.text x).length then 2 else 0) := Lib.hid (HE.out.trans (if_neg (by decide)))
    clear HE
    by_cases hd : 10 < D
    · have He : Hid (E0 = 4) := Lib.hid (HE1.out.trans (if_pos hd))
      have p1 : (10 : Int) < (D : Int) := by omega
      clear hd
      go_enter Tryz.func249, Tryz.ntmps249
      go_wp2_with fail
      refine HZ.out.mono ?_
      rintro E w1 ⟨rfl, rfl⟩
      go_wp2_with fail
      refine HS.out.mono ?_
      rintro E w1 ⟨rfl, rfl⟩
      go_wp2_with fail
      go_ret2
      exact ⟨ret_tell (No.out 4 He.out (by decide)) He.out.symm, Below.refl _ _⟩
    have p1 : ¬ (10 : Int) < (D : Int) := by omega
    have HE2 : Hid (E0 = if 200 < M then 2 else if 2000 < (JP.text x).length then 2 else 0) := Lib.hid (HE1.out.trans (if_neg hd))
    clear HE1 hd
    by_cases hm : 200 < M
    · have He : Hid (E0 = 2) := Lib.hid (HE2.out.trans (if_pos hm))
      have p2 : (200 : Int) < (M : Int) := by omega
      clear hm
      go_enter Tryz.func249, Tryz.ntmps249
      go_wp2_with fail
      refine HZ.out.mono ?_
      rintro E w1 ⟨rfl, rfl⟩
      go_wp2_with fail
      refine HS.out.mono ?_
      rintro E w1 ⟨rfl, rfl⟩
      go_wp2_with fail
      go_ret2
      exact ⟨ret_tell (No.out 2 He.out (by decide)) He.out.symm, Below.refl _ _⟩
    have p2 : ¬ (200 : Int) < (M : Int) := by omega
    have HE3 : Hid (E0 = if 2000 < (JP.text x).length then 2 else 0) := Lib.hid (HE2.out.trans (if_neg hm))
    clear HE2 hm
    obtain ⟨T, hT⟩ : ∃ T, JP.text x = T := ⟨_, rfl⟩
    rw [hT] at HE3 HT HTT hl
    have hsz := mkB_size T
    by_cases hlg : 2000 < T.length
    · have He : Hid (E0 = 2) := Lib.hid (HE3.out.trans (if_pos hlg))
      have p3 : (2000 : Int) < ((mkB T).size : Int) := by omega
      clear hlg hsz hT
      go_enter Tryz.func249, Tryz.ntmps249
      go_wp2_with fail
      refine HZ.out.mono ?_
      rintro E w1 ⟨rfl, rfl⟩
      go_wp2_with fail
      refine HS.out.mono ?_
      rintro E w1 ⟨rfl, rfl⟩
      go_wp2_with fail
      refine HT.out.mono ?_
      rintro E w1 ⟨rfl, hb⟩
      have HB := Lib.hid hb
      clear hb
      go_wp2_with fail
      go_ret2
      exact ⟨ret_tell (No.out 2 He.out (by decide)) He.out.symm, HB.out⟩
    · have He : Hid (E0 = 0) := Lib.hid (HE3.out.trans (if_neg hlg))
      have p3 : ¬ (2000 : Int) < ((mkB T).size : Int) := by omega
      have HTx : Hid (T0 = T) := Lib.hid (by rw [HTT.out, if_pos He.out])
      clear hlg hsz hT
      go_enter Tryz.func249, Tryz.ntmps249
      go_wp2_with fail
      refine HZ.out.mono ?_
      rintro E w1 ⟨rfl, rfl⟩
      go_wp2_with fail
      refine HS.out.mono ?_
      rintro E w1 ⟨rfl, rfl⟩
      go_wp2_with fail
      refine HT.out.mono ?_
      rintro E w1 ⟨rfl, hb⟩
      have HB := Lib.hid hb
      clear hb
      go_wp2_with fail
      go_ret2
      exact ⟨ret_tell (by rw [HTx.out]) He.out.symm, HB.out⟩
end Go.Proofs.YtnnceaapodgfbaaGreatDoor
namespace Go.Proofs.YtnnceaapodgfbaaGreatDoor
open Go
namespace JP
abbrev Fs := List (Bs × JV)
theorem get_put_same (n : Bs) (v : JV) : ∀ d : Fs, get n (put n v d) = some v
  | [] => by rw [put, get, if_pos rfl]
  | (m, x) :: r => by
    rw [put]
    by_cases hlt : m < n
    · rw [if_pos hlt, get, if_neg (fun e => by subst e; exact List.lt_irrefl _ hlt)]
      exact get_put_same n v r
    · rw [if_neg hlt]
      by_cases he : m = n
      · rw [if_pos he, get, if_pos rfl]
      · rw [if_neg he, get, if_pos rfl]
theorem get_put_ne {k n : Bs} (v : JV) (h : k ≠ n) : ∀ d : Fs, get k (put n v d) = get k d
  | [] => by simp only [put, get, if_neg (fun e : n = k => h e.symm)]
  | (m, x) :: r => by
    rw [put]
    by_cases hlt : m < n
    · rw [if_pos hlt, get, get, get_put_ne v h r]
    · rw [if_neg hlt]
      by_cases he : m = n
      · rw [if_pos he, get, get, if_neg (fun e => h e.symm), if_neg (fun e => h (e.symm.trans he))]
      · rw [if_neg he, get, if_neg (fun e => h e.symm)]
theorem get_lt {n : Bs} : ∀ {d : Fs}, (∀ x ∈ d, n < x.1) → get n d = none
  | [], _ => rfl
  | (m, x) :: r, h => by
    rw [get, if_neg, get_lt fun y hy => h y (List.mem_cons_of_mem _ hy)]
    intro e
    have := h (m, x) (List.mem_cons_self ..)
    rw [e] at this
    exact List.lt_irrefl _ this
mutual
def both : JV → JV → Option JV
  | p, .obj l => match p with
    | .obj h => (bothF h l).map .obj
    | _ => none
  | _, .nul => some .nul
  | _, .bool b => some (.bool b)
  | _, .num b => some (.num b)
  | _, .str b => some (.str b)
  | _, .list b => some (.list b)
termination_by structural _ x => x
def bothF : Fs → Fs → Option Fs
  | out, [] => some out
  | out, (n, w) :: r => (match get n out with
    | some v => both v w
    | none => some w).bind fun x => bothF (put n x out) r
termination_by structural _ x => x
end
end JP
end Go.Proofs.YtnnceaapodgfbaaGreatDoor
namespace Go.Proofs.YtnnceaapodgfbaaGreatDoor
open Go
namespace JP
theorem obj_len_ge (l : Fs) : lenF l + 1 ≤ (text (.obj l)).length := by
  rcases join_lenF l with h | rfl
  · rw [text]; simp only [List.length_cons, List.length_append, List.length_nil]; omega
  · simp [lenF, text]
theorem list_len_ge (l : List JV) : lenL l + 1 ≤ (text (.list l)).length := by
  rcases join_len l with h | rfl
  · rw [text]; simp only [List.length_cons, List.length_append, List.length_nil]; omega
  · simp [lenL, text]
def wO (n : Bs) : Option JV → Nat
  | some u => (quote n).length + (text u).length + 2
  | none => 0
def w3 (n : Bs) : Option JV → Nat
  | some _ => (quote n).length + 3
  | none => 0
def w4 : Option JV → Nat
  | some u => 4 * (text u).length
  | none => 0
theorem lenF_cut_get {n : Bs} : ∀ {d : Fs}, Srt d → lenF (cut n d) + wO n (get n d) = lenF d
  | [], _ => by simp [cut, get, lenF, wO]
  | (m, x) :: r, hs => by
    obtain ⟨h1, h2⟩ := List.pairwise_cons.1 hs
    have ih := lenF_cut_get (n := n) h2
    unfold cut at ih ⊢
    by_cases h : m = n
    · subst h
      rw [List.filter_cons_of_neg (by simp), lenF, get, if_pos rfl]
      rw [get_lt h1] at ih
      simp only [wO] at ih ⊢
      omega
    · rw [List.filter_cons_of_pos (by simpa using h), lenF, lenF, get, if_neg h]; omega
theorem lenF_put (n : Bs) (v : JV) : ∀ d : Fs, Srt d → lenF (put n v d) = lenF (cut n d) + (quote n).length + (text v).length + 2
  | [], _ => by simp [put, cut, lenF]; omega
  | (m, x) :: r, hs => by
    obtain ⟨h1, h2⟩ := List.pairwise_cons.1 hs
    have ih := lenF_put n v r h2
    rw [put]
    by_cases hlt : m < n
    · have hne : m ≠ n := fun e => by subst e; exact List.lt_irrefl _ hlt
      unfold cut at ih ⊢
      rw [if_pos hlt, List.filter_cons_of_pos (by simpa using hne), lenF, lenF]; omega
    · rw [if_neg hlt]
      by_cases he : m = n
      · subst he
        have hc := lenF_cut_get (n := m) h2
        rw [get_lt h1] at hc
        simp only [wO] at hc
        unfold cut at hc ⊢
        rw [if_pos rfl, List.filter_cons_of_neg (by simp), lenF]; omega
      · have h3 := bs_trich m n hlt he
        have hc := lenF_cut_get (n := n) h2
        rw [get_lt fun y hy => List.lt_trans h3 (h1 y hy)] at hc
        simp only [wO] at hc
        unfold cut at hc ⊢
        rw [if_neg he, List.filter_cons_of_pos (by simpa using he), lenF, lenF, lenF]; omega
theorem lenF_fields (d : JV) : lenF (fieldsOf d) + 1 ≤ (text d).length := by
  cases d with
  | obj l => exact obj_len_ge l
  | nul => decide
  | bool b => cases b <;> decide
  | num n => obtain ⟨c, t, h, _⟩ := text_head (.num n); rw [h, List.length_cons]; show 0 + 1 ≤ _; omega
  | str n => obtain ⟨c, t, h, _⟩ := text_head (.str n); rw [h, List.length_cons]; show 0 + 1 ≤ _; omega
  | list n => obtain ⟨c, t, h, _⟩ := text_head (.list n); rw [h, List.length_cons]; show 0 + 1 ≤ _; omega
def Fit (v : JV) : Prop := wf v ∧ size v ≤ 200 ∧ deep v ≤ 10 ∧ (text v).length ≤ 2000
theorem getF_le : ∀ {l : Fs} {n : Bs} {x : JV}, get n l = some x → size x ≤ sizeF l ∧ deep x ≤ deepF l ∧ (text x).length ≤ lenF l
  | [], _, _, h => by rw [get] at h; cases h
  | (m, v) :: r, n, x, h => by
    rw [get] at h
    rw [sizeF, deepF, lenF]
    by_cases e : m = n
    · rw [if_pos e] at h
      cases h
      exact ⟨by omega, by omega, by omega⟩
    · rw [if_neg e] at h
      obtain ⟨a, b, c⟩ := getF_le h
      exact ⟨by omega, by omega, by omega⟩
end JP
end Go.Proofs.YtnnceaapodgfbaaGreatDoor
namespace Go.Proofs.YtnnceaapodgfbaaGreatDoor
open Go
namespace JP
def idx (s : Bs) (many : Nat) : Option Nat := (List.range many).find? fun n => decide (Lib.itoa (n : Int) = s)
theorem idx_some {s : Bs} {many n : Nat} (h : idx s many = some n) : n < many ∧ Lib.itoa (n : Int) = s := by
  unfold idx at h
  have h1 := List.find?_some h
  have h2 := List.mem_of_find?_eq_some h
  exact ⟨List.mem_range.1 h2, of_decide_eq_true h1⟩
theorem itoa_inj {a b : Nat} (ha : a < 1000000000000000000) (hb : b < 1000000000000000000) (h : Lib.itoa (a : Int) = Lib.itoa (b : Int)) : a = b := by
  obtain ⟨_, h1, _⟩ := num_reads (n := (a : Int)) (rest := []) ⟨by omega, by omega⟩ (fun c t e => by cases e)
  obtain ⟨_, h2, _⟩ := num_reads (n := (b : Int)) (rest := []) ⟨by omega, by omega⟩ (fun c t e => by cases e)
  rw [h, h2] at h1
  omega
theorem idx_of {s : Bs} {many n : Nat} (hm : many < 1000000000000000000) (hn : n < many) (h : Lib.itoa (n : Int) = s) : idx s many = some n := by
  cases hx : idx s many with
  | none =>
    unfold idx at hx
    have := List.find?_eq_none.1 hx n (List.mem_range.2 hn)
    exact absurd h (by simpa using this)
  | some k =>
    obtain ⟨k1, k2⟩ := idx_some hx
    rw [itoa_inj (by omega) (by omega) (k2.trans h.symm)]
theorem idx_none {s : Bs} {many : Nat} (h : ∀ n, n < many → Lib.itoa (n : Int) ≠ s) : idx s many = none := by
  cases hx : idx s many with
  | none => rfl
  | some k => obtain ⟨k1, k2⟩ := idx_some hx; exact absurd k2 (h k k1)
def child (v : JV) (s : Bs) : Option JV := match v with
  | .obj l => get s l
  | .list l => (idx s l.length).bind fun n => l[n]?
  | _ => none
def atW (v : JV) : List Bs → Option JV
  | [] => some v
  | s :: r => (child v s).bind fun c => atW c r
def repl (v : JV) (s : Bs) (w : JV) : JV := match v with
  | .obj l => .obj (put s w l)
  | .list l => match idx s l.length with
    | some n => .list (l.set n w)
    | none => v
  | _ => v
def place (s : Bs) (many : Nat) : Option Nat := if s = [45] then some many else idx s (many + 1)
def insL (w : JV) (v : JV) (s : Bs) : Option JV := match v with
  | .obj l => some (.obj (put s w l))
  | .list l => match place s l.length with
    | some n => some (.list (l.take n ++ w :: l.drop n))
    | none => none
  | _ => none
mutual
def wfS : JV → Prop
  | .nul => True
  | .bool _ => True
  | .num n => numOK n
  | .str _ => True
  | .list l => wfSL l
  | .obj l => Srt l ∧ wfSF l
termination_by structural x => x
def wfSL : List JV → Prop
  | [] => True
  | v :: r => wfS v ∧ wfSL r
termination_by structural x => x
def wfSF : Fs → Prop
  | [] => True
  | (_, v) :: r => wfS v ∧ wfSF r
termination_by structural x => x
end
theorem wfS_obj {l : Fs} (h : wfS (.obj l)) : Srt l ∧ wfSF l := by rw [wfS] at h; exact h
theorem lenL_set : ∀ {l : List JV} {n : Nat} {w x : JV}, l[n]? = some x → lenL (l.set n w) + (text x).length = lenL l + (text w).length
  | [], _, _, _, h => by simp at h
  | v :: r, 0, w, x, h => by
    simp only [List.getElem?_cons_zero, Option.some.injEq] at h
    subst h
    rw [List.set_cons_zero, lenL, lenL]; omega
  | v :: r, n + 1, w, x, h => by
    rw [List.getElem?_cons_succ] at h
    have := lenL_set (w := w) h
    rw [List.set_cons_succ, lenL, lenL]; omega
theorem list_len_eq (l : List JV) (h : l ≠ []) : (text (.list l)).length = lenL l + 1 := by
  rcases join_len l with h1 | h1
  · rw [text]; simp only [List.length_cons, List.length_append, List.length_nil]; omega
  · exact absurd h1 h
theorem obj_len_eq (l : Fs) (h : l ≠ []) : (text (.obj l)).length = lenF l + 1 := by
  rcases join_lenF l with h1 | h1
  · rw [text]; simp only [List.length_cons, List.length_append, List.length_nil]; omega
  · exact absurd h1 h
theorem mem_len {l : List JV} {n : Nat} {x : JV} (h : l[n]? = some x) : (text x).length + 1 ≤ lenL l ∧ size x ≤ sizeL l ∧ deep x ≤ deepL l := by
  induction l generalizing n with
  | nil => simp at h
  | cons v r ih =>
    rw [lenL, sizeL, deepL]
    cases n with
    | zero =>
      simp only [List.getElem?_cons_zero, Option.some.injEq] at h
      subst h
      exact ⟨by omega, by omega, by omega⟩
    | succ n =>
      rw [List.getElem?_cons_succ] at h
      obtain ⟨a, b, c⟩ := ih h
      exact ⟨by omega, by omega, by omega⟩
theorem child_len {v c : JV} {s : Bs} (hc : child v s = some c) : (text c).length + 2 ≤ (text v).length ∧ size c + 1 ≤ size v ∧ deep c + 1 ≤ deep v := by
  cases v with
  | obj l =>
    obtain ⟨a, b, d⟩ := getF_le (show get s l = some c from hc)
    have h1 := obj_len_ge l
    rw [size, deep]
    have h2 : (text c).length + 1 ≤ lenF l := by
      have := lenF_cut_get (n := s) (d := l)
      revert hc
      show get s l = some c → _
      clear a b d h1 this
      induction l with
      | nil => intro h; cases h
      | cons y r ih =>
        obtain ⟨m, x⟩ := y
        intro h
        rw [get] at h
        rw [lenF]
        by_cases e : m = s
        · rw [if_pos e] at h; cases h; omega
        · rw [if_neg e] at h; have := ih h; omega
    exact ⟨by omega, by omega, by omega⟩
  | list l =>
    obtain ⟨n, _, h2⟩ := Option.bind_eq_some_iff.1 hc
    obtain ⟨a, b, d⟩ := mem_len h2
    have h1 := list_len_ge l
    rw [size, deep]
    exact ⟨by omega, by omega, by omega⟩
  | _ => cases hc
theorem repl_len {v w c : JV} {s : Bs} (h : wfS v) (hc : child v s = some c) : (text (repl v s w)).length + (text c).length ≤ (text v).length + (text w).length := by
  cases v with
  | obj l =>
    obtain ⟨h1, h2⟩ := wfS_obj h
    have hg : get s l = some c := hc
    have a := lenF_put s w l h1
    have b := lenF_cut_get (n := s) h1
    rw [hg] at b
    simp only [wO] at b
    rw [repl]
    have e1 : put s w l ≠ [] := fun e => by have := get_put_same s w l; rw [e] at this; cases this
    have e2 : l ≠ [] := fun e => by rw [e] at hg; cases hg
    rw [obj_len_eq _ e1, obj_len_eq _ e2]; omega
  | list l =>
    obtain ⟨n, h1, h2⟩ := Option.bind_eq_some_iff.1 hc
    rw [repl, h1]
    have a := lenL_set (w := w) h2
    have e2 : l ≠ [] := fun e => by rw [e] at h2; simp at h2
    have e1 : l.set n w ≠ [] := fun e => by
      have := congrArg List.length e
      rw [List.length_set] at this
      exact e2 (List.eq_nil_of_length_eq_zero this)
    show (text (.list (l.set n w))).length + _ ≤ _
    rw [list_len_eq _ e1, list_len_eq _ e2]; omega
  | _ => cases hc
end JP
end Go.Proofs.YtnnceaapodgfbaaGreatDoor
namespace Go.Proofs.YtnnceaapodgfbaaGreatDoor
open Go
namespace JP
end JP
end Go.Proofs.YtnnceaapodgfbaaGreatDoor
namespace Go.Proofs.YtnnceaapodgfbaaGreatDoor
namespace Adm
open Go.RowKit
open JP (JV Bs)
abbrev GSt := List GLabel × JV
def stepsOf (p : GPlugin) : Int × List Bs := stepsP p.key.data.toList
def fieldE (p : GPlugin) : Int :=
  if (stepsOf p).1 ≠ 0 then (stepsOf p).1 else if (stepsOf p).2.length = 0 then 1 else if p.kind = 2 then (JP.readL p.val.data.toList).2 else 0
def checkP (p : GPlugin) : Int :=
  if p.kind = 1 ∨ p.kind = 3 then (if keyE p.key ≠ 0 then keyE p.key else valE p.val)
  else if p.kind = 2 ∨ p.kind = 4 ∨ p.kind = 5 then fieldE p else 1
def checkL (l : List GPlugin) : Int := if 8 < l.length then 2 else errF checkP l
def hasK (vs : List GLabel) (k : ByteArray) : Bool := vs.any fun x => decide (x.key = k)
def posK (vs : List GLabel) (k : ByteArray) : Nat := (vs.takeWhile fun x => decide (Sto.cmpB x.key k < 0)).length
def insL (vs : List GLabel) (x : GLabel) : List GLabel := vs.take (posK vs x.key) ++ x :: vs.drop (posK vs x.key)
def addLabelS (p : GPlugin) (st : GSt) : Int × GSt :=
  if hasK st.1 p.key = true then (0, st) else if st.1.length = 10 then (2, st) else (0, (insL st.1 ⟨p.key, p.val⟩, st.2))
def addFieldS (p : GPlugin) (st : GSt) : Int × GSt :=
  if (JP.atW st.2 (stepsOf p).2).isSome = true then (0, st)
  else if (grownT (stepsOf p).2 (some st.2) (JP.readL p.val.data.toList).1).2 = false then (8, st)
  else if JP.tellE (grownT (stepsOf p).2 (some st.2) (JP.readL p.val.data.toList).1).1 ≠ 0 then (JP.tellE (grownT (stepsOf p).2 (some st.2) (JP.readL p.val.data.toList).1).1, st)
  else (0, (st.1, (grownT (stepsOf p).2 (some st.2) (JP.readL p.val.data.toList).1).1))
def needLabelE (p : GPlugin) (vs : List GLabel) : Int := match vs.find? fun x => decide (x.key = p.key) with
  | none => 14
  | some x => if p.val ≠ ByteArray.empty ∧ x.val ≠ p.val then 14 else 0
def barFieldE (p : GPlugin) (x : JV) : Int := if (JP.atW x (stepsOf p).2).isSome = true then 14 else 0
def mostFieldE (p : GPlugin) (x : JV) : Int := match JP.atW x (stepsOf p).2 with
  | none => 0
  | some (.num n) => if p.most < n then 14 else 0
  | some _ => 8
def seeP (p : GPlugin) (st : GSt) : Int × GSt :=
  if p.kind = 1 then addLabelS p st else if p.kind = 2 then addFieldS p st else if p.kind = 3 then (needLabelE p st.1, st) else if p.kind = 4 then (barFieldE p st.2, st) else (mostFieldE p st.2, st)
def addsB (p : GPlugin) : Bool := decide (p.kind = 1) || decide (p.kind = 2)
def passP (adds : Bool) : List GPlugin → Nat → GSt → Int × Nat × GSt
  | [], _, st => (0, 0, st)
  | p :: r, i, st => if adds ≠ addsB p then passP adds r (i + 1) st else if (seeP p st).1 ≠ 0 then ((seeP p st).1, i, st) else passP adds r (i + 1) (seeP p st).2
def outO (o : GObject) (st : GSt) : GObject := { o with labels := st.1, doc := mkB (JP.text st.2) }
def startS (o : GObject) : GSt := (o.labels, (JP.readL o.doc.data.toList).1)
def checkE (l : List GPlugin) (o : GObject) : Int := if checkL l ≠ 0 then checkL l else Sto.objE o
def runP (l : List GPlugin) (o : GObject) : GObject × Nat × Int :=
  if checkE l o ≠ 0 then (Sto.noObj, 0, checkE l o)
  else if (passP true l 0 (startS o)).1 ≠ 0 then (Sto.noObj, (passP true l 0 (startS o)).2.1, (passP true l 0 (startS o)).1)
  else if (passP false l 0 (passP true l 0 (startS o)).2.2).1 ≠ 0 then (Sto.noObj, (passP false l 0 (passP true l 0 (startS o)).2.2).2.1, (passP false l 0 (passP true l 0 (startS o)).2.2).1)
  else (outO o (passP false l 0 (passP true l 0 (startS o)).2.2).2.2, 0, 0)
theorem lessB_cmp {a b : ByteArray} (h : lessB a b = true) : Sto.cmpB a b < 0 := by
  unfold Sto.cmpB
  have h1 : Op.bytesLess a.toList b.toList = true := h
  rw [Sto.bl_cb, decide_eq_true_iff, Lib.toList_data, Lib.toList_data] at h1
  exact h1
theorem cmp_lessB {a b : ByteArray} (h : Sto.cmpB a b < 0) : lessB a b = true := by
  unfold Sto.cmpB at h
  show Op.bytesLess a.toList b.toList = true
  rw [Sto.bl_cb, decide_eq_true_iff, Lib.toList_data, Lib.toList_data]
  exact h
theorem riseK_of {vs : List GLabel} (h : labelsE vs = 0) : RiseK vs := (labels_rise h).imp fun h1 => lessB_cmp h1
theorem Stands.is {vs : List GLabel} {s : ByteArray} {i : Nat} {is : Bool} (hr : RiseK vs) (h : Stands vs s i is) : i = posK vs s ∧ is = hasK vs s ∧ (is = true → (vs.find? fun x => decide (x.key = s)) = vs[i]?) := by
  obtain ⟨h1, h2, h3, h4⟩ := h
  have h5 : i = posK vs s := by
    unfold posK
    have hsp : vs = vs.take i ++ vs.drop i := (List.take_append_drop i vs).symm
    have ht : ∀ x ∈ vs.take i, decide (Sto.cmpB x.key s < 0) = true := fun x hx => by
      obtain ⟨t, ht, rfl⟩ := List.mem_iff_getElem.1 hx
      rw [List.length_take] at ht
      rw [decide_eq_true_iff, List.getElem_take]
      exact h2 t _ (by omega) (List.getElem?_eq_getElem _)
    have hd : (vs.drop i).takeWhile (fun x => decide (Sto.cmpB x.key s < 0)) = [] := by
      cases hc : vs.drop i with
      | nil => rfl
      | cons a r =>
        have h9 : vs[i]? = some a := by
          have h8 := congrArg (fun l => l[0]?) hc
          simp only [List.getElem?_drop, Nat.add_zero] at h8
          exact h8
        have h7 := h3 i a (Nat.le_refl _) h9
        rw [List.takeWhile_cons, decide_eq_false (by omega)]
        rfl
    have h6 : vs.takeWhile (fun x => decide (Sto.cmpB x.key s < 0)) = vs.take i := by
      conv => lhs; rw [hsp]
      rw [List.takeWhile_append_of_pos ht, hd, List.append_nil]
    rw [h6, List.length_take]
    omega
  have hone : ∀ t x, vs[t]? = some x → x.key = s → t = i := fun t x hx hk => by
    have hti : i ≤ t := by
      rcases Nat.lt_or_ge t i with h9 | h9
      · have := h2 t x h9 hx
        rw [cmpB_nil.2 hk] at this
        omega
      · exact h9
    rcases Nat.lt_or_ge i t with h9 | h9
    · have hl := (List.getElem?_eq_some_iff.1 hx).1
      have hy : vs[i]? = some (vs[i]'(by omega)) := List.getElem?_eq_getElem _
      have g1 := hr.at h9 hy hx
      rw [hk] at g1
      have g2 := h3 i _ (Nat.le_refl _) hy
      omega
    · omega
  have h6 : is = hasK vs s := by
    rw [Bool.eq_iff_iff, h4]
    unfold hasK
    rw [List.any_eq_true]
    constructor
    · rintro ⟨x, hx, hk⟩
      exact ⟨x, List.mem_of_getElem? hx, decide_eq_true hk⟩
    · rintro ⟨x, hx, hk⟩
      obtain ⟨t, ht⟩ := List.mem_iff_getElem?.1 hx
      have hk := of_decide_eq_true hk
      have := hone t x ht hk
      subst this
      exact ⟨x, ht, hk⟩
  refine ⟨h5, h6, fun hi => ?_⟩
  obtain ⟨x, hx, hk⟩ := h4.1 hi
  rw [hx]
  cases hf : vs.find? fun x => decide (x.key = s) with
  | none => exact absurd hk (by have := List.find?_eq_none.1 hf x (List.mem_of_getElem? hx); simpa using this)
  | some y =>
    have hy := List.find?_some hf
    have hy := of_decide_eq_true hy
    obtain ⟨t, ht⟩ := List.mem_iff_getElem?.1 (List.mem_of_find?_eq_some hf)
    have := hone t y ht hy
    subst this
    rw [ht] at hx
    exact hx
end Adm
end Go.Proofs.YtnnceaapodgfbaaGreatDoor
namespace Go.Proofs.YtnnceaapodgfbaaGreatDoor
open Go.RowKit
end Go.Proofs.YtnnceaapodgfbaaGreatDoor
namespace Go.Proofs.YtnnceaapodgfbaaGreatDoor
open Go.RowKit
theorem split_any (s : ByteArray) (c : UInt8) (m : Int) (w : World) (hs : s.size ≤ 16777216) (hm : MaxOK m w) :
    Calls Tryz.prog 105 #[.string s, .string ⟨#[c]⟩] w fun e w' => ∃ L : List ByteArray, L.map (·.data.toList) = splitL c s.data.toList ∧ e = .returned (.slice (some ⟨w.heap.size, 0, none⟩) L.length L.length) ∧
      w'.heap[w.heap.size]? = some (.cells (strs L).toArray 9 (0, 0)) ∧ w'.heap.size = w.heap.size + 1 ∧ Below w.heap.size w w' := by
  refine (Tryz.strings_Split s ⟨#[c]⟩ m w (by omega) hm (Nat.le_refl 1)).mono ?_
  rintro E w' ⟨rfl, rfl⟩
  have h1 : (Lib.splitB ⟨#[c]⟩ 0 (Lib.countB s ⟨#[c]⟩) s).length = Lib.countB s ⟨#[c]⟩ + 1 := Lib.splitB_all ⟨#[c]⟩ (Nat.le_refl 1) 0 _ s rfl
  refine ⟨Lib.splitB ⟨#[c]⟩ 0 (Lib.countB s ⟨#[c]⟩) s, ?_, by rw [h1], heap_alloc_at rfl, World.size_alloc _ _, (Below.refl _ w).alloc (Nat.le_refl _) _⟩
  rw [Lib.splitB_data]
  exact splitK_scan c s.data.toList
theorem splitL_len (c : UInt8) (s : List UInt8) : (splitL c s).length ≤ s.length + 1 := by
  induction s with
  | nil => simp [splitL]
  | cons x r ih =>
    rw [splitL]
    split
    · simp; omega
    · split
      · rename_i h1 h2
        rw [h2] at ih; simp at ih ⊢; omega
      · simp
theorem splitL_mem_len (c : UInt8) (s q : List UInt8) (h : q ∈ splitL c s) : q.length ≤ s.length := by
  have h1 : ((splitL c s).flatMap fun p => c :: p).length = s.length + 1 := by rw [splitL_join]; rfl
  have h2 : ∀ m : List (List UInt8), q ∈ m → q.length + 1 ≤ (m.flatMap fun p => c :: p).length := fun m => by
    induction m with
    | nil => intro h; cases h
    | cons a r ih =>
      intro h
      rw [List.flatMap_cons, List.length_append, List.length_cons]
      rcases List.mem_cons.1 h with rfl | h
      · omega
      · have := ih h; omega
  have := h2 _ h
  omega
def unB (s : ByteArray) : ByteArray := ⟨(unescS s.data.toList).toArray⟩
def lstB (L : List ByteArray) (i : Nat) : List ByteArray := (L.take i).map unB ++ L.drop i
theorem lstB_get {L : List ByteArray} {i : Nat} {x : ByteArray} (h : L[i]? = some x) : (strs (lstB L i)).toArray[i]? = some (.string x) := by
  have hi := (List.getElem?_eq_some_iff.1 h).1
  rw [List.getElem?_toArray]
  refine strs_get ?_
  unfold lstB
  rw [List.getElem?_append_right (by simp; omega)]
  simp only [List.length_map, List.length_take, List.getElem?_drop]
  rw [show i + (i - min i L.length) = i by omega]
  exact h
theorem lstB_set {L : List ByteArray} {i : Nat} {x : ByteArray} (h : L[i]? = some x) : (strs (lstB L i)).toArray.setIfInBounds i (.string (unB x)) = (strs (lstB L (i + 1))).toArray := by
  have hi := (List.getElem?_eq_some_iff.1 h).1
  have hx := (List.getElem?_eq_some_iff.1 h).2
  rw [List.setIfInBounds_toArray]
  congr 1
  unfold strs lstB
  rw [List.drop_eq_getElem_cons hi, hx, List.take_succ_eq_append_getElem hi, hx]
  simp only [List.map_append, List.map_cons, List.map_nil, List.append_assoc, List.cons_append, List.nil_append]
  rw [List.set_append_right _ _ (by simp; omega)]
  simp [show i - min i L.length = 0 by omega]
theorem steps_bad {q : List UInt8} {L : List ByteArray} {x : ByteArray} (hL : L.map (·.data.toList) = splitL 47 q) (hx : x ∈ L) (h : okEsc x.data.toList = false) : stepsP (47 :: q) = (16, []) := by
  unfold stepsP
  simp only
  rw [if_neg (by simp), if_neg]
  rw [List.all_eq_true]
  intro h2
  have := h2 x.data.toList (by rw [← hL]; exact List.mem_map_of_mem hx)
  rw [h] at this
  cases this
theorem steps_good {q : List UInt8} {L : List ByteArray} (hL : L.map (·.data.toList) = splitL 47 q) (h : ∀ x ∈ L, okEsc x.data.toList = true) : stepsP (47 :: q) = if 10 < L.length then (2, []) else (0, (L.map unB).map (·.data.toList)) := by
  have h1 : L.length = (splitL 47 q).length := by rw [← hL, List.length_map]
  unfold stepsP
  simp only
  rw [if_neg (by simp), if_pos, h1]
  · congr 2
    unfold stepsL
    rw [← hL, List.map_map, List.map_map]
    congr 1
  · rw [← hL, List.all_eq_true]
    intro y hy
    obtain ⟨x, hx, rfl⟩ := List.mem_map.1 hy
    exact h x hx
theorem all_snoc {α : Type} {l : List α} {p : α → Prop} {j : Nat} {t : α} (h : ∀ y ∈ l.take j, p y) (ht : l[j]? = some t) (hp : p t) : Hid (∀ y ∈ l.take (j + 1), p y) := Lib.hid fun y hy => by
  rw [List.take_add_one, ht] at hy
  rcases List.mem_append.1 hy with h1 | h1
  · exact h y h1
  · simp at h1; subst h1; exact hp
theorem repl_len (l : List UInt8) : (Lib.replaceAll l [126, 49] [47]).length ≤ l.length := by
  rw [replaceAll_two (by decide)]
  exact rep2_len (by decide) _ _ (Nat.le_refl _)
theorem okEsc_tail {x : ByteArray} {L2 : List ByteArray} (h : L2.map (·.data.toList) = splitL 126 x.data.toList) : okEsc x.data.toList = L2.tail.all fun t => headOK t.data.toList := by
  rw [okEsc_split _ _ (Nat.le_refl _), ← h]
  cases L2 with
  | nil => rfl
  | cons a r => rw [List.map_cons, List.tail_cons, List.tail_cons, List.all_map]; rfl
theorem headOK_nil {t : ByteArray} (h : t.size = 0) : headOK t.data.toList = false := by
  have : t.data.toList = [] := List.eq_nil_of_length_eq_zero (by simpa using h)
  rw [this]; rfl
theorem headOK_cons {t : ByteArray} (h : 0 < t.size) : headOK t.data.toList = (t[0] == 48 || t[0] == 49) := by
  have h2 : t.data.toList = t[0] :: t.data.toList.drop 1 := by
    have := List.drop_eq_getElem_cons (l := t.data.toList) (i := 0) (by simpa using h)
    rw [List.drop_zero] at this
    exact this
  rw [h2]; rfl
def StepsAt (r : Int × List (List UInt8)) (w : World) (E : Ending) (w' : World) : Prop :=
  ∃ v', E = .returned (.tuple #[v', .int .i64 r.1]) ∧ (∃ l : List ByteArray, StrAt w' v' l ∧ l.map (·.data.toList) = r.2) ∧ Below w.heap.size w w'
set_option maxRecDepth 100000 in
set_option maxHeartbeats 1600000 in
theorem ptrSteps_any (p : ByteArray) (m : Int) (w : World) (hp : p.size ≤ 8388608) (hm : MaxOK m w) :
    Calls Tryz.prog 102 #[.string p] w (StepsAt (stepsP p.data.toList) w) := by
  have Hm := Lib.hid hm
  clear hm
  obtain ⟨R, HR⟩ : ∃ R, Hid (stepsP p.data.toList = R) := ⟨_, Lib.hid rfl⟩
  rw [HR.out]
  go_enter Tryz.func102, Tryz.ntmps102
  by_cases h0 : p.size = 0
  · have h1 : p.data.toList = [] := List.eq_nil_of_length_eq_zero (by simpa using h0)
    have q0 : p.toList.isEmpty = true := by rw [ByteArray.toList_eq, h1]; rfl
    go_wp2_with fail
    go_ret2
    have h2 : R = (0, []) := by rw [← HR.out, h1]; rfl
    subst h2
    exact ⟨_, rfl, ⟨[], StrAt.nil _, rfl⟩, Below.refl _ _⟩
  · have h0' : 0 < p.size := by omega
    have q0 : p.toList.isEmpty = false := by
      rw [ByteArray.toList_eq]
      cases h : p.data.toList with
      | nil => exact absurd (by rw [← Array.length_toList, h]; rfl : p.data.size = 0) h0
      | cons => rfl
    by_cases h47 : p[0] = 47
    · have q1 : ((p[0].toNat : Int) != 47) = false := by rw [h47]; rfl
      have q2 : 1 ≤ p.size := by omega
      have hpd : p.data.toList = 47 :: p.data.toList.drop 1 := by
        have := List.drop_eq_getElem_cons (l := p.data.toList) (i := 0) (by simpa using h0')
        rw [List.drop_zero] at this
        rw [← h47]; exact this
      have hqd : (p.extract 1 p.size).data.toList = p.data.toList.drop 1 := Lib.extract_to_end p 1
      have hqs : (p.extract 1 p.size).size ≤ 8388608 := by rw [ByteArray.size_extract]; omega
      have Hpd := Lib.hid hpd
      have Hqd := Lib.hid hqd
      clear hpd hqd h47 h0
      go_wp2_with fail
      refine (split_any (p.extract 1 p.size) 47 m w (by omega) Hm.out).mono ?_
      rintro E w1 ⟨L, hL, rfl, hh, hs1, hb⟩
      have HL := Lib.hid hL
      have Hh := Lib.hid hh
      have Hb := Lib.hid hb
      have hLl : L.length ≤ 8388609 := by
        have h1 : L.length = (splitL 47 (p.extract 1 p.size).data.toList).length := by rw [← hL, List.length_map]
        have h2 := splitL_len 47 (p.extract 1 p.size).data.toList
        have h3 : (p.extract 1 p.size).data.toList.length = (p.extract 1 p.size).size := by simp
        omega
      clear hL hh hb
      go_wp2_with fail
      go_loopg [20] L.length (fun k u20 wr => ∃ i : Nat, i + k = L.length ∧ u20 = .int .i64 (i : Int) ∧ Hid (wr.heap[w.heap.size]? = some (.cells (strs (lstB L i)).toArray 9 (0, 0))) ∧ Hid (Below w.heap.size w wr) ∧ Hid (∀ x ∈ L.take i, okEsc x.data.toList = true))
      case atStart => exact ⟨0, by omega, rfl, Lib.hid (by simpa [lstB] using Hh.out), Hb, Lib.hid (by simp)⟩
      case round =>
        obtain ⟨i, hig, rfl, Hc, Hbel, Hok⟩ := hrel
        have hsr := Hbel.out.size
        cases gk with
        | zero =>
          obtain rfl : i = L.length := by omega
          have hR : R = if 10 < L.length then (2, []) else (0, (L.map unB).map (·.data.toList)) := by
            rw [← HR.out, Hpd.out]
            exact steps_good (HL.out.trans (by rw [Hqd.out])) fun x hx => Hok.out x (by rw [List.take_of_length_le (Nat.le_refl _)]; exact hx)
          have HR2 := Lib.hid hR
          clear hR
          by_cases h10 : 10 < L.length
          · have q3 : (10 : Int) < (L.length : Int) := by omega
            have HR3 : Hid (R = (2, [])) := Lib.hid (by rw [HR2.out, if_pos h10])
            clear h10
            go_wp2_with fail
            go_ret2
            refine ⟨_, congrArg (fun n => Ending.returned (.tuple #[_, Value.int .i64 n])) (by rw [HR3.out]), ⟨[], StrAt.nil _, by rw [HR3.out]; rfl⟩, Hbel.out⟩
          · have q3 : ¬ (10 : Int) < (L.length : Int) := by omega
            have HR3 : Hid (R = (0, (L.map unB).map (·.data.toList))) := Lib.hid (by rw [HR2.out, if_neg h10])
            clear h10
            go_wp2_with fail
            go_ret2
            have h6 : lstB L L.length = L.map unB := by simp [lstB]
            refine ⟨.slice (some ⟨w.heap.size, 0, none⟩) L.length L.length, congrArg (fun n => Ending.returned (.tuple #[_, Value.int .i64 n])) (by rw [HR3.out]), ⟨L.map unB, .inr ⟨⟨w.heap.size, 0, none⟩, L.length, by rw [List.length_map], by rw [List.length_map]; exact Nat.le_refl _, by unfold maxLen; omega, fun j x hx => ?_⟩, by rw [HR3.out]⟩, Hbel.out⟩
            rw [add_plain', Nat.zero_add, cell_block Hc.out j, h6, List.getElem?_toArray]
            exact strs_get hx
        | succ k =>
          have hil : i < L.length := by omega
          obtain ⟨x, hxi⟩ : ∃ x, L[i]? = some x := ⟨L[i]'(by omega), List.getElem?_eq_getElem _⟩
          have e0 : wr.cell? ⟨w.heap.size, i, none⟩ = some (.string x) := (cell_block Hc.out i).trans (lstB_get hxi)
          have q3 : (0 : Int) ≤ (i : Int) := by omega
          have q4 : (i : Int) < (L.length : Int) := by omega
          have hxs : x.size ≤ 8388608 := by
            have h1 := splitL_mem_len 47 (p.extract 1 p.size).data.toList x.data.toList (by rw [← HL.out]; exact List.mem_map_of_mem (List.mem_of_getElem? hxi))
            have h2 : (p.extract 1 p.size).data.toList.length = (p.extract 1 p.size).size := by simp
            have h3 : x.data.toList.length = x.size := by simp
            omega
          have Hxi := Lib.hid hxi
          clear hxi
          go_wp2_with fail
          refine (split_any x 126 m wr (by omega) (Hm.out.below Hbel.out)).mono ?_
          rintro E w2 ⟨L2, hL2, rfl, hh2, hs2, hb2⟩
          have HL2 := Lib.hid hL2
          have Hh2 := Lib.hid hh2
          have Hb2 := Lib.hid (Hbel.out.trans (hb2.mono hsr))
          have Hc2 : Hid (w2.heap[w.heap.size]? = some (.cells (strs (lstB L i)).toArray 9 (0, 0))) := Lib.hid (below_block hb2 Hc.out)
          have hL2n : 1 ≤ L2.length := by
            have h1 : L2.length = (splitL 126 x.data.toList).length := by rw [← hL2, List.length_map]
            have h2 := splitL_ne 126 x.data.toList
            cases h3 : splitL 126 x.data.toList with
            | nil => exact absurd h3 h2
            | cons => rw [h1, h3]; simp
          have hL2l : L2.length ≤ 8388609 := by
            have h1 : L2.length = (splitL 126 x.data.toList).length := by rw [← hL2, List.length_map]
            have h2 := splitL_len 126 x.data.toList
            have h3 : x.data.toList.length = x.size := by simp
            omega
          have hB2 : Hid (wr.heap.size = wr.heap.size) := Lib.hid rfl
          obtain ⟨B2, HB2⟩ : ∃ B2, Hid (wr.heap.size = B2) := ⟨_, Lib.hid rfl⟩
          have Hh3 : Hid (w2.heap[B2]? = some (.cells (strs L2).toArray 9 (0, 0))) := Lib.hid (by rw [← HB2.out]; exact Hh2.out)
          rw [HB2.out]
          clear hL2 hh2 hb2 e0 hB2 Hh2
          obtain ⟨n2, Hn2⟩ : ∃ n2, Hid (L2.length = n2) := ⟨_, Lib.hid rfl⟩
          rw [Hn2.out] at hL2n hL2l ⊢
          go_upto_region 10 with fail
          go_cut [28, 29, 30] (fun u28 u29 u30 wx => ∃ o c : Nat, u28 = .slice (some ⟨B2, o, none⟩) (n2 - 1) c ∧ u29 = .int .i64 ((n2 - 1 : Nat) : Int) ∧ u30 = .int .i64 0 ∧ Hid (∀ j t, L2.tail[j]? = some t → wx.cell? ⟨B2, o + j, none⟩ = some (.string t)) ∧ w2 = wx)
          case first =>
            have htail : ∀ j t, L2.tail[j]? = some t → w2.cell? ⟨B2, 1 + j, none⟩ = some (.string t) := fun j t ht => by
              rw [cell_block Hh3.out (1 + j), List.getElem?_toArray, Nat.add_comm]
              refine strs_get ?_
              rw [List.getElem?_tail] at ht; exact ht
            have Htail := Lib.hid htail
            clear htail
            by_cases h1 : n2 = 1
            · subst h1
              go_wp2_with fail
              go_meet
              refine ⟨_, _, rfl, rfl, rfl, Lib.hid fun j t ht => ?_, rfl⟩
              have h2 := (List.getElem?_eq_some_iff.1 ht).1
              have h3 := Hn2.out
              simp at h2; omega
            · have q5 : ¬ n2 = 1 := h1
              go_wp2_with fail
              go_meet
              exact ⟨_, _, rfl, rfl, rfl, Htail, rfl⟩
          case rest =>
          obtain ⟨o, c, rfl, rfl, rfl, Hcl, rfl⟩ := hcut
          obtain ⟨n2', Hn2'⟩ : ∃ n2', Hid (n2 - 1 = n2') := ⟨_, Lib.hid rfl⟩
          rw [Hn2'.out]
          have hn2' : n2' ≤ 8388609 := by have := Hn2'.out; omega
          go_wp2_with fail
          go_loopg [30] n2' (fun kj u30 wj => ∃ j : Nat, j + kj = n2' ∧ u30 = .int .i64 (j : Int) ∧ Hid (∀ t ∈ L2.tail.take j, headOK t.data.toList = true) ∧ w2 = wj)
          case atStart => exact ⟨0, by omega, rfl, Lib.hid (by simp), rfl⟩
          case round =>
            obtain ⟨j, hjk, rfl, Hj, rfl⟩ := hrel
            cases gk with
            | zero =>
              have hok : okEsc x.data.toList = true := by
                rw [okEsc_tail HL2.out, List.all_eq_true]
                intro t ht
                have h1 : L2.tail.length = n2' := by rw [List.length_tail, Hn2.out, Hn2'.out]
                refine Hj.out t ?_
                rw [List.take_of_length_le (by omega)]; exact ht
              have Hok2 : Hid (∀ y ∈ L.take (i + 1), okEsc y.data.toList = true) := Lib.hid fun y hy => by
                rw [List.take_add_one, Hxi.out] at hy
                rcases List.mem_append.1 hy with h | h
                · exact Hok.out y h
                · simp at h; subst h; exact hok
              obtain rfl : j = n2' := by omega
              clear hok
              have e2 : w2.cell? ⟨w.heap.size, i, none⟩ = some (.string x) := (cell_block Hc2.out i).trans (lstB_get Hxi.out)
              go_wp2_with fail
              refine (Tryz.strings_ReplaceAll x ⟨#[126, 49]⟩ ⟨#[47]⟩ m w2 (by omega) (Hm.out.below Hb2.out) (by decide) (by
                have h1 := Lib.countB_le ⟨#[126, 49]⟩ (by decide) x.size x (Nat.le_refl _)
                have h2 : (ByteArray.mk #[47]).size = 1 := rfl
                rw [h2]; omega)).mono ?_
              rintro E w3 ⟨rfl, hb3⟩
              have hs2' := Hb2.out.size
              have Hb3 := Lib.hid (Hb2.out.trans (hb3.mono hs2'))
              have Hc3 := Lib.hid (below_block hb3 Hc2.out)
              have hs3 := Hb3.out.size
              obtain ⟨y, Hy⟩ : ∃ y : ByteArray, Hid ((⟨(Lib.replaceAll x.data.toList [126, 49] [47]).toArray⟩ : ByteArray) = y) := ⟨_, Lib.hid rfl⟩
              have hy0 : (⟨(Lib.replaceAll x.data.toList (⟨#[126, 49]⟩ : ByteArray).data.toList (⟨#[47]⟩ : ByteArray).data.toList).toArray⟩ : ByteArray) = y := Hy.out
              have hyd : y.data.toList = Lib.replaceAll x.data.toList [126, 49] [47] := by rw [← Hy.out]
              have hys : y.size ≤ 8388608 := by
                have h1 : y.data.toList.length = y.size := by simp
                have h2 := repl_len x.data.toList
                have h4 : x.data.toList.length = x.size := by simp
                rw [← hyd] at h2
                omega
              rw [hy0]
              have Hyd := Lib.hid hyd
              clear hy0 hyd hb3 e2
              go_wp2_with fail
              refine (Tryz.strings_ReplaceAll y ⟨#[126, 48]⟩ ⟨#[126]⟩ m w3 (by omega) (Hm.out.below Hb3.out) (by decide) (by
                have h1 := Lib.countB_le ⟨#[126, 48]⟩ (by decide) y.size y (Nat.le_refl _)
                have h2 : (ByteArray.mk #[126]).size = 1 := rfl
                rw [h2]; omega)).mono ?_
              rintro E w4 ⟨rfl, hb4⟩
              have Hb4 := Lib.hid (Hb3.out.trans (hb4.mono hs3))
              have hc4 := below_block hb4 Hc3.out
              obtain ⟨z, Hz⟩ : ∃ z : ByteArray, Hid (unB x = z) := ⟨_, Lib.hid rfl⟩
              have hz0 : (⟨(Lib.replaceAll y.data.toList (⟨#[126, 48]⟩ : ByteArray).data.toList (⟨#[126]⟩ : ByteArray).data.toList).toArray⟩ : ByteArray) = z := by rw [← Hz.out, Hyd.out]; rfl
              rw [hz0]
              have e4 : w4.cell? ⟨w.heap.size, i, none⟩ = some (.string x) := (cell_block hc4 i).trans (lstB_get Hxi.out)
              have f4 : w4.frozen? ⟨w.heap.size, i, none⟩ = false := free_block hc4 i
              have Hc4 := Lib.hid hc4
              clear hb4 hz0 hc4
              go_wp2_with fail
              go_roundg k
              case measure => omega
              case rel =>
                refine ⟨i + 1, by omega, by go_num, Lib.hid ?_, Lib.hid ((Hb4.out).setCell (p := ⟨w.heap.size, i, none⟩) (Nat.le_refl _) _), Hok2⟩
                rw [(touch_setCell Hc4.out).1, ← Hz.out, lstB_set Hxi.out]
            | succ kj =>
              have hjl : j < n2' := by omega
              have htl : j < L2.tail.length := by rw [List.length_tail, Hn2.out, Hn2'.out]; exact hjl
              obtain ⟨t, ht⟩ : ∃ t, L2.tail[j]? = some t := ⟨L2.tail[j], List.getElem?_eq_getElem htl⟩
              have e1 : w2.cell? ⟨B2, o + j, none⟩ = some (.string t) := Hcl.out j t ht
              have q5 : (0 : Int) ≤ (j : Int) := by omega
              have q6 : (j : Int) < (n2' : Int) := by omega
              have hbad : headOK t.data.toList = false → R = (16, []) := fun h => by
                rw [← HR.out, Hpd.out]
                refine steps_bad (HL.out.trans (by rw [Hqd.out])) (List.mem_of_getElem? Hxi.out) ?_
                rw [okEsc_tail HL2.out, List.all_eq_false]
                exact ⟨t, List.mem_of_getElem? ht, by rw [h]; simp⟩
              have Hbad := Lib.hid hbad
              have Ht := Lib.hid ht
              clear hbad ht
              by_cases ht0 : t.size = 0
              · have h1 : t.data.toList = [] := List.eq_nil_of_length_eq_zero (by simpa using ht0)
                have q7 : t.toList.isEmpty = true := by rw [ByteArray.toList_eq, h1]; rfl
                have HR2 := Lib.hid (Hbad.out (headOK_nil ht0))
                clear h1 ht0 Hbad
                go_wp2_with fail
                go_ret2
                exact ⟨_, congrArg (fun n => Ending.returned (.tuple #[_, Value.int .i64 n])) (by rw [HR2.out]), ⟨[], StrAt.nil _, by rw [HR2.out]; rfl⟩, Hb2.out⟩
              · have ht0' : 0 < t.size := by omega
                have q7 : t.toList.isEmpty = false := by
                  rw [ByteArray.toList_eq]
                  cases h : t.data.toList with
                  | nil => exact absurd (by rw [← Array.length_toList, h]; rfl : t.data.size = 0) ht0
                  | cons => rfl
                have hh := headOK_cons ht0'
                have key : ∀ d : UInt8, ((t[0].toNat : Int) != (d.toNat : Int)) = (t[0] != d) := fun d => by
                  by_cases h : t[0] = d
                  · rw [h]; simp
                  · have h2 : ¬ t[0].toNat = d.toNat := fun e => h (UInt8.toNat_inj.1 e)
                    rw [bne_iff_ne.2 h, bne_iff_ne]; omega
                by_cases h48 : t[0] = 48
                · have q8 : ((t[0].toNat : Int) != 48) = false := (key 48).trans (by rw [h48]; rfl)
                  have Hgo : Hid (headOK t.data.toList = true) := Lib.hid (by rw [hh, h48]; rfl)
                  clear ht0 hh key h48 Hbad
                  go_wp2_with fail
                  go_roundg kj
                  case measure => omega
                  case rel => exact ⟨j + 1, by omega, by go_num, all_snoc Hj.out Ht.out Hgo.out, rfl⟩
                · have q8 : ((t[0].toNat : Int) != 48) = true := (key 48).trans (bne_iff_ne.2 h48)
                  by_cases h49 : t[0] = 49
                  · have q9 : ((t[0].toNat : Int) != 49) = false := (key 49).trans (by rw [h49]; rfl)
                    have Hgo : Hid (headOK t.data.toList = true) := Lib.hid (by rw [hh, h49]; rfl)
                    clear ht0 hh key h48 h49 Hbad
                    go_wp2_with fail
                    go_roundg kj
                    case measure => omega
                    case rel => exact ⟨j + 1, by omega, by go_num, all_snoc Hj.out Ht.out Hgo.out, rfl⟩
                  · have q9 : ((t[0].toNat : Int) != 49) = true := (key 49).trans (bne_iff_ne.2 h49)
                    have HR2 := Lib.hid (Hbad.out (by rw [hh, Bool.or_eq_false_iff, beq_eq_false_iff_ne, beq_eq_false_iff_ne]; exact ⟨h48, h49⟩))
                    clear ht0 hh key h48 h49 Hbad
                    go_wp2_with fail
                    go_ret2
                    exact ⟨_, congrArg (fun n => Ending.returned (.tuple #[_, Value.int .i64 n])) (by rw [HR2.out]), ⟨[], StrAt.nil _, by rw [HR2.out]; rfl⟩, Hb2.out⟩
    · have q1 : ((p[0].toNat : Int) != 47) = true := by
        rw [bne_iff_ne]; intro h; apply h47; apply UInt8.toNat_inj.1; have h2 : (47 : UInt8).toNat = 47 := rfl; omega
      go_wp2_with fail
      go_ret2
      have hpd : p.data.toList = p[0] :: p.data.toList.drop 1 := by
        have := List.drop_eq_getElem_cons (l := p.data.toList) (i := 0) (by simpa using h0')
        rw [List.drop_zero] at this
        exact this
      have h2 : R = (16, []) := by
        rw [← HR.out, hpd]
        unfold stepsP
        simp only
        rw [if_pos h47]
      subst h2
      exact ⟨_, rfl, ⟨[], StrAt.nil _, rfl⟩, Below.refl _ _⟩
end Go.Proofs.YtnnceaapodgfbaaGreatDoor
namespace Go.Proofs.YtnnceaapodgfbaaGreatDoor
namespace Adm
open Go.RowKit
open JP (JV Bs)
theorem escB_two (c : UInt8) : (JP.escB c).length ≤ 2 := by
  unfold JP.escB
  split
  · simp
  · split
    · simp
    · split <;> simp
theorem quote_le (s : Bs) : (JP.quote s).length ≤ 2 * s.length + 2 := by
  rw [JP.quote_len]
  have h : ∀ l : Bs, (l.flatMap JP.escB).length ≤ 2 * l.length := fun l => by
    induction l with
    | nil => simp
    | cons a r ih => rw [List.flatMap_cons, List.length_append, List.length_cons]; have := escB_two a; omega
  have := h s
  omega
theorem lenF_put9 (n : Bs) (v : JV) : ∀ d : List (Bs × JV), JP.lenF (JP.put n v d) ≤ JP.lenF d + (JP.quote n).length + (JP.text v).length + 2
  | [] => by simp only [JP.put, JP.lenF]; omega
  | (m, x) :: r => by
    have ih := lenF_put9 n v r
    unfold JP.put
    split
    · simp only [JP.lenF]; omega
    · split
      · simp only [JP.lenF]; omega
      · simp only [JP.lenF]; omega
theorem sizeF_put9 (n : Bs) (v : JV) : ∀ d : List (Bs × JV), JP.sizeF (JP.put n v d) ≤ JP.sizeF d + JP.size v
  | [] => by simp only [JP.put, JP.sizeF]; omega
  | (m, x) :: r => by
    have ih := sizeF_put9 n v r
    unfold JP.put
    split
    · simp only [JP.sizeF]; omega
    · split
      · simp only [JP.sizeF]; omega
      · simp only [JP.sizeF]; omega
theorem grown_size (K : Nat) (y : JV) : ∀ (l : List Bs) (o : Option JV), sizeO o ≤ K → JP.size (grownT l o y).1 ≤ l.length * (K + 1) + JP.size y
  | [], _, _ => by simp [grownT]
  | s :: r, o, h => by
    have hz : (s :: r).length * (K + 1) = r.length * (K + 1) + (K + 1) := by rw [List.length_cons, Nat.succ_mul]
    rw [hz]
    unfold grownT
    unfold sizeO at h
    cases hf : fieldsO o with
    | none => show JP.size .nul ≤ _; rw [JP.size]; omega
    | some d =>
      rw [hf] at h
      have h : JP.sizeF d ≤ K := h
      have ih := grown_size K y r (JP.get s d) (Nat.le_trans (size_get s d) h)
      show JP.size (.obj (JP.put s (grownT r (JP.get s d) y).1 d)) ≤ _
      have h2 := sizeF_put9 s (grownT r (JP.get s d) y).1 d
      rw [JP.size]
      omega
def tO (o : Option JV) : Nat := match fieldsO o with
  | none => 0
  | some d => JP.lenF d
theorem text_get (s : Bs) {c : JV} : ∀ d : List (Bs × JV), JP.get s d = some c → (JP.text c).length ≤ JP.lenF d
  | [], h => by cases h
  | (m, x) :: r, h => by
    rw [JP.get] at h
    rw [JP.lenF]
    by_cases hm : m = s
    · rw [if_pos hm] at h
      injection h with h
      subst h
      omega
    · rw [if_neg hm] at h
      have := text_get s r h
      omega
theorem t_get (s : Bs) (d : List (Bs × JV)) : tO (JP.get s d) ≤ JP.lenF d := by
  cases h : JP.get s d with
  | none => exact Nat.zero_le _
  | some c =>
    have h1 := text_get s d h
    cases c with
    | obj l =>
      have h2 := JP.lenF_fields (.obj l)
      have h3 : JP.fieldsOf (.obj l) = l := rfl
      rw [h3] at h2
      show JP.lenF l ≤ _
      omega
    | _ => exact Nat.zero_le _
def wayN (K : Nat) (l : List Bs) : Nat := (l.map fun s => 2 * s.length + (K + 10)).sum
theorem grown_text (K : Nat) (y : JV) : ∀ (l : List Bs) (o : Option JV), tO o ≤ K → (JP.text (grownT l o y).1).length ≤ wayN K l + (JP.text y).length
  | [], _, _ => by simp [grownT, wayN]
  | s :: r, o, h => by
    have hw : wayN K (s :: r) = 2 * s.length + (K + 10) + wayN K r := by unfold wayN; rw [List.map_cons, List.sum_cons]
    rw [hw]
    unfold grownT
    unfold tO at h
    cases hf : fieldsO o with
    | none =>
      show (JP.text .nul).length ≤ _
      rw [JP.text]
      show 4 ≤ _
      omega
    | some d =>
      rw [hf] at h
      have h : JP.lenF d ≤ K := h
      have ih := grown_text K y r (JP.get s d) (Nat.le_trans (t_get s d) h)
      show (JP.text (.obj (JP.put s (grownT r (JP.get s d) y).1 d))).length ≤ _
      have h2 := lenF_put9 s (grownT r (JP.get s d) y).1 d
      have h3 := quote_le s
      rcases JP.text_obj_len (JP.put s (grownT r (JP.get s d) y).1 d) with h4 | ⟨-, h4⟩
      · omega
      · omega
theorem wayN_le (K : Nat) : ∀ l : List Bs, wayN K l ≤ 2 * (l.map List.length).sum + l.length * (K + 10)
  | [] => by simp [wayN]
  | s :: r => by
    have ih := wayN_le K r
    have hw : wayN K (s :: r) = 2 * s.length + (K + 10) + wayN K r := by unfold wayN; rw [List.map_cons, List.sum_cons]
    have hz : (r.length + 1) * (K + 10) = r.length * (K + 10) + (K + 10) := Nat.succ_mul _ _
    rw [hw, List.map_cons, List.sum_cons, List.length_cons, hz]
    omega
theorem repl_len2 (l : List UInt8) : (Lib.replaceAll l [126, 48] [126]).length ≤ l.length := by
  rw [replaceAll_two (by decide)]
  exact rep2_len (by decide) _ _ (Nat.le_refl _)
theorem unesc_len (l : List UInt8) : (unescS l).length ≤ l.length := by
  unfold unescS
  exact Nat.le_trans (repl_len2 _) (repl_len l)
theorem split_sum (c : UInt8) (s : List UInt8) : ((splitL c s).map List.length).sum ≤ s.length := by
  have h1 : ((splitL c s).flatMap fun p => c :: p).length = s.length + 1 := by rw [splitL_join]; rfl
  have h2 : ∀ m : List (List UInt8), (m.flatMap fun p => c :: p).length = (m.map List.length).sum + m.length := fun m => by
    induction m with
    | nil => rfl
    | cons a r ih => rw [List.flatMap_cons, List.length_append, ih, List.map_cons, List.sum_cons, List.length_cons, List.length_cons]; omega
  rw [h2] at h1
  have h3 : 1 ≤ (splitL c s).length := by
    cases h : splitL c s with
    | nil =>
      have h9 := splitL_join c s
      rw [h] at h9
      cases h9
    | cons a r => simp
  omega
theorem map_sum_le {l : List (List UInt8)} : ((l.map unescS).map List.length).sum ≤ (l.map List.length).sum := by
  induction l with
  | nil => exact Nat.le_refl _
  | cons a r ih => rw [List.map_cons, List.map_cons, List.sum_cons, List.map_cons, List.sum_cons]; have := unesc_len a; omega
theorem steps_sum (p : List UInt8) : ((stepsP p).2.map List.length).sum ≤ p.length ∧ (stepsP p).2.length ≤ 10 := by
  unfold stepsP
  cases p with
  | nil => exact ⟨Nat.le_refl _, Nat.zero_le _⟩
  | cons c q =>
    dsimp only
    split
    · exact ⟨Nat.zero_le _, Nat.zero_le _⟩
    · split
      · split
        · exact ⟨Nat.zero_le _, Nat.zero_le _⟩
        · rename_i h10
          unfold stepsL
          refine ⟨?_, by rw [List.length_map]; omega⟩
          have h1 := split_sum 47 q
          have h2 := map_sum_le (l := splitL 47 q)
          show (((splitL 47 q).map unescS).map List.length).sum ≤ q.length + 1
          omega
      · exact ⟨Nat.zero_le _, Nat.zero_le _⟩
theorem mem_sum {l : List Bs} {s : Bs} (h : s ∈ l) : s.length ≤ (l.map List.length).sum := by
  induction l with
  | nil => cases h
  | cons a r ih =>
    rw [List.map_cons, List.sum_cons]
    rcases List.mem_cons.1 h with rfl | h
    · omega
    · have := ih h; omega
theorem steps_each (p : GPlugin) (hp : p.key.size ≤ 1048576) : (∀ s ∈ (stepsOf p).2, s.length ≤ 1048576) ∧ (stepsOf p).2.length ≤ 10 ∧ ((stepsOf p).2.map List.length).sum ≤ 1048576 := by
  have h := steps_sum p.key.data.toList
  have h9 : p.key.data.toList.length = p.key.size := rfl
  exact ⟨fun s hs => by have := mem_sum hs; unfold stepsOf at this; omega, h.2, by unfold stepsOf; omega⟩
structure GoodD (x : JV) : Prop where
  wf : JP.wf x
  size : JP.size x ≤ 200
  deep : JP.deep x ≤ 10
  text : (JP.text x).length ≤ 2000
theorem good_read {s : Bs} (h : (JP.readL s).2 = 0) : GoodD (JP.readL s).1 := by
  have h1 := JP.readL_good (s := s) (v := (JP.readL s).1) (by rw [← h])
  exact ⟨h1.1, h1.2.1, h1.2.2.1, by omega⟩
theorem size_some (x : JV) : sizeO (some x) ≤ JP.size x := by
  cases x with
  | obj d => show JP.sizeF d ≤ _; rw [JP.size]; omega
  | _ => exact Nat.zero_le _
theorem t_some (x : JV) : tO (some x) ≤ (JP.text x).length := by
  cases x with
  | obj d =>
    have h2 := JP.lenF_fields (.obj d)
    have h3 : JP.fieldsOf (.obj d) = d := rfl
    rw [h3] at h2
    show JP.lenF d ≤ _
    omega
  | _ => exact Nat.zero_le _
theorem grown_bounds {x y : JV} (hx : GoodD x) (hy : GoodD y) (p : GPlugin) (hp : p.key.size ≤ 1048576) :
    (JP.text (grownT (stepsOf p).2 (some x) y).1).length ≤ 4194304 ∧ JP.size (grownT (stepsOf p).2 (some x) y).1 ≤ 4194304 := by
  obtain ⟨-, h2, h3⟩ := steps_each p hp
  have a := grown_text 2000 y (stepsOf p).2 (some x) (Nat.le_trans (t_some x) hx.text)
  have b := grown_size 200 y (stepsOf p).2 (some x) (Nat.le_trans (size_some x) hx.size)
  have c := wayN_le 2000 (stepsOf p).2
  have e := hy.text
  have f := hy.size
  have g : (stepsOf p).2.length * (2000 + 10) ≤ 10 * 2010 := Nat.mul_le_mul h2 (Nat.le_refl _)
  have g2 : (stepsOf p).2.length * (200 + 1) ≤ 10 * 201 := Nat.mul_le_mul h2 (Nat.le_refl _)
  omega
end Adm
end Go.Proofs.YtnnceaapodgfbaaGreatDoor
namespace Go.Proofs.YtnnceaapodgfbaaGreatDoor
namespace Adm
open Go.RowKit
open JP (JV Bs)
theorem labels_iff (l : List GLabel) : labelsE l = 0 ↔ l.length ≤ 10 ∧ (∀ x ∈ l, keyE x.key = 0 ∧ valE x.val = 0) ∧ l.Pairwise fun a b => lessB a.key b.key = true := by
  have hz : ∀ (l : List GLabel) (p : Option ByteArray), (∀ x ∈ (p :: l.map (some ·.key)).zip l, labE x = 0) ↔ (∀ x ∈ l, keyE x.key = 0 ∧ valE x.val = 0) ∧ (∀ k, p = some k → ∀ x ∈ l, lessB k x.key = true) ∧ l.Pairwise fun a b => lessB a.key b.key = true := by
    intro l
    induction l with
    | nil => intro p; exact ⟨fun _ => ⟨fun _ h => (by cases h), fun _ _ _ h => (by cases h), List.Pairwise.nil⟩, fun _ x hx => (by cases hx)⟩
    | cons a r ih =>
      intro p
      have e : (p :: (a :: r).map (some ·.key)).zip (a :: r) = (p, a) :: ((some a.key :: r.map (some ·.key)).zip r) := rfl
      rw [e]
      constructor
      · intro h
        obtain ⟨i1, i2, i3⟩ := (ih (some a.key)).1 fun x hx => h x (List.mem_cons_of_mem _ hx)
        have h1 := h (p, a) (List.mem_cons_self ..)
        have h2 : keyE a.key = 0 ∧ valE a.val = 0 := by
          unfold labE at h1
          by_cases g1 : keyE a.key ≠ 0
          · rw [if_pos g1] at h1; exact absurd h1 g1
          · rw [if_neg g1] at h1
            by_cases g2 : valE a.val ≠ 0
            · rw [if_pos g2] at h1; exact absurd h1 g2
            · exact ⟨Decidable.not_not.1 g1, Decidable.not_not.1 g2⟩
        have h3 := lab_zero h1
        refine ⟨fun x hx => ?_, fun k hk x hx => ?_, List.pairwise_cons.2 ⟨fun x hx => i2 _ rfl x hx, i3⟩⟩
        · rcases List.mem_cons.1 hx with rfl | hx
          · exact h2
          · exact i1 x hx
        · subst hk
          have h4 : lessB k a.key = true := prev_zero h3
          rcases List.mem_cons.1 hx with rfl | hx
          · exact h4
          · exact lessB_trans h4 (i2 _ rfl x hx)
      · rintro ⟨h1, h2, h3⟩ x hx
        rw [List.pairwise_cons] at h3
        rcases List.mem_cons.1 hx with rfl | hx
        · obtain ⟨k1, k2⟩ := h1 a (List.mem_cons_self ..)
          unfold labE
          rw [if_neg (fun h => h k1), if_neg (fun h => h k2)]
          unfold prevE
          cases p with
          | none => rfl
          | some k => show (if lessB k a.key = true then (0 : Int) else 1) = 0; rw [if_pos (h2 k rfl a (List.mem_cons_self ..))]
        · exact (ih (some a.key)).2 ⟨fun x hx => h1 x (List.mem_cons_of_mem _ hx), fun k hk x hx => by cases hk; exact h3.1 x hx, h3.2⟩ x hx
  unfold labelsE
  by_cases h10 : 10 < l.length
  · rw [if_pos h10]
    exact ⟨fun h => (by cases h), fun h => absurd h.1 (by omega)⟩
  · rw [if_neg h10, errF_zero]
    have h := hz l none
    constructor
    · intro h9
      obtain ⟨a, -, c⟩ := h.1 h9
      exact ⟨by omega, a, c⟩
    · rintro ⟨-, a, c⟩
      exact h.2 ⟨a, fun k hk => (by cases hk), c⟩
structure GoodS (st : GSt) : Prop where
  labs : labelsE st.1 = 0
  doc : GoodD st.2
theorem GoodS.rise {st : GSt} (h : GoodS st) : RiseK st.1 := riseK_of h.labs
theorem GoodS.len {st : GSt} (h : GoodS st) : st.1.length ≤ 10 := ((labels_iff _).1 h.labs).1
theorem posK_spec {vs : List GLabel} {k : ByteArray} (hr : RiseK vs) : (∀ x ∈ vs.take (posK vs k), Sto.cmpB x.key k < 0) ∧ (∀ x ∈ vs.drop (posK vs k), ¬ Sto.cmpB x.key k < 0) := by
  have hsp : vs.take (posK vs k) = vs.takeWhile fun x => decide (Sto.cmpB x.key k < 0) := by
    have h1 := List.takeWhile_append_dropWhile (p := fun x : GLabel => decide (Sto.cmpB x.key k < 0)) (l := vs)
    have h2 : vs.take (posK vs k) = (vs.takeWhile (fun x => decide (Sto.cmpB x.key k < 0)) ++ vs.dropWhile (fun x => decide (Sto.cmpB x.key k < 0))).take (vs.takeWhile fun x => decide (Sto.cmpB x.key k < 0)).length := by rw [h1]; rfl
    rw [h2, List.take_left']
    rfl
  have hdp : vs.drop (posK vs k) = vs.dropWhile fun x => decide (Sto.cmpB x.key k < 0) := by
    have h1 := List.takeWhile_append_dropWhile (p := fun x : GLabel => decide (Sto.cmpB x.key k < 0)) (l := vs)
    have h2 : vs.drop (posK vs k) = (vs.takeWhile (fun x => decide (Sto.cmpB x.key k < 0)) ++ vs.dropWhile (fun x => decide (Sto.cmpB x.key k < 0))).drop (vs.takeWhile fun x => decide (Sto.cmpB x.key k < 0)).length := by rw [h1]; rfl
    rw [h2, List.drop_left']
    rfl
  constructor
  · intro x hx
    rw [hsp] at hx
    have hall := List.all_takeWhile (p := fun x : GLabel => decide (Sto.cmpB x.key k < 0)) (l := vs)
    rw [List.all_eq_true] at hall
    exact of_decide_eq_true (hall x hx)
  · intro x hx
    cases hd : vs.drop (posK vs k) with
    | nil => rw [hd] at hx; cases hx
    | cons a r =>
      have h2 : ¬ Sto.cmpB a.key k < 0 := by
        rw [hdp] at hd
        have h9 : (vs.dropWhile fun x : GLabel => decide (Sto.cmpB x.key k < 0)).head? = some a := by rw [hd]; rfl
        have h8 := List.head?_dropWhile_not (p := fun x : GLabel => decide (Sto.cmpB x.key k < 0)) (l := vs)
        rw [h9] at h8
        simpa using h8
      rw [hd] at hx
      rcases List.mem_cons.1 hx with rfl | hx
      · exact h2
      · have h3 : (a :: r).Pairwise fun a b : GLabel => Sto.cmpB a.key b.key < 0 := by
          rw [← hd]
          exact List.Pairwise.sublist (List.drop_sublist _ _) hr
        have h4 := (List.pairwise_cons.1 h3).1 x hx
        intro h5
        exact h2 (cmpB_less h4 h5)
theorem ins_labels {vs : List GLabel} {x : GLabel} (h : labelsE vs = 0) (hk : keyE x.key = 0) (hv : valE x.val = 0) (hn : hasK vs x.key = false) (h10 : vs.length ≠ 10) : labelsE (insL vs x) = 0 := by
  obtain ⟨h1, h2, h3⟩ := (labels_iff _).1 h
  obtain ⟨g1, g2⟩ := posK_spec (k := x.key) (riseK_of h)
  have hne : ∀ y ∈ vs, y.key ≠ x.key := fun y hy e => by
    unfold hasK at hn
    rw [List.any_eq_false] at hn
    exact hn y hy (decide_eq_true e)
  refine (labels_iff _).2 ⟨?_, fun y hy => ?_, ?_⟩
  · unfold insL
    rw [List.length_append, List.length_cons, List.length_take, List.length_drop]
    omega
  · unfold insL at hy
    rcases List.mem_append.1 hy with h9 | h9
    · exact h2 y (List.mem_of_mem_take h9)
    · rcases List.mem_cons.1 h9 with rfl | h9
      · exact ⟨hk, hv⟩
      · exact h2 y (List.mem_of_mem_drop h9)
  · unfold insL
    have hlt : ∀ y ∈ vs.take (posK vs x.key), lessB y.key x.key = true := fun y hy => cmp_lessB (g1 y hy)
    have hgt : ∀ y ∈ vs.drop (posK vs x.key), lessB x.key y.key = true := fun y hy => by
      cases hl : lessB x.key y.key with
      | true => rfl
      | false =>
        have h7 : lessB y.key x.key = false := by
          cases hl2 : lessB y.key x.key with
          | false => rfl
          | true => exact absurd (lessB_cmp hl2) (g2 y hy)
        exact absurd (lessB_total hl h7) fun e => hne y (List.mem_of_mem_drop hy) e.symm
    have hsp : vs = vs.take (posK vs x.key) ++ vs.drop (posK vs x.key) := (List.take_append_drop _ _).symm
    rw [hsp, List.pairwise_append] at h3
    rw [List.pairwise_append]
    refine ⟨h3.1, List.pairwise_cons.2 ⟨hgt, h3.2.1⟩, fun a ha b hb => ?_⟩
    rcases List.mem_cons.1 hb with rfl | hb
    · exact hlt a ha
    · exact h3.2.2 a ha b hb
theorem ins_has {vs : List GLabel} {x : GLabel} : hasK (insL vs x) x.key = true := by
  unfold hasK insL
  rw [List.any_append, List.any_cons, decide_eq_true rfl]
  simp
theorem ins_mem {vs : List GLabel} {x y : GLabel} (h : y ∈ vs) : y ∈ insL vs x := by
  unfold insL
  have h9 : y ∈ vs.take (posK vs x.key) ++ vs.drop (posK vs x.key) := by rw [List.take_append_drop]; exact h
  rcases List.mem_append.1 h9 with h9 | h9
  · exact List.mem_append_left _ h9
  · exact List.mem_append_right _ (List.mem_cons_of_mem _ h9)
theorem has_mono {vs vs' : List GLabel} (h : ∀ y ∈ vs, y ∈ vs') {k : ByteArray} (hk : hasK vs k = true) : hasK vs' k = true := by
  unfold hasK at hk ⊢
  rw [List.any_eq_true] at hk ⊢
  obtain ⟨y, h1, h2⟩ := hk
  exact ⟨y, h y h1, h2⟩
theorem get_wf {s : Bs} : ∀ {d : List (Bs × JV)} {c : JV}, JP.wfF d → JP.get s d = some c → JP.wf c
  | [], _, _, h => by cases h
  | (m, x) :: r, c, hw, h => by
    rw [JP.wfF] at hw
    rw [JP.get] at h
    by_cases hm : m = s
    · rw [if_pos hm] at h; injection h with h; subst h; exact hw.2.1
    · rw [if_neg hm] at h; exact get_wf hw.2.2 h
theorem grown_wf {y : JV} (hy : JP.wf y) : ∀ (l : List Bs) (o : Option JV), (∀ x, o = some x → JP.wf x) → JP.sound (grownT l o y).1 = true → JP.wf (grownT l o y).1
  | [], _, _, _ => hy
  | s :: r, o, ho, hs => by
    unfold grownT at hs ⊢
    cases hf : fieldsO o with
    | none => show JP.wf .nul; rw [JP.wf]; trivial
    | some d =>
      rw [hf] at hs
      have hs : JP.sound (.obj (JP.put s (grownT r (JP.get s d) y).1 d)) = true := hs
      show JP.wf (.obj (JP.put s (grownT r (JP.get s d) y).1 d))
      have hd : JP.Srt d ∧ JP.wfF d := by
        cases o with
        | none => cases hf; exact ⟨List.Pairwise.nil, by rw [JP.wfF]; trivial⟩
        | some x =>
          cases x with
          | obj d' =>
            cases hf
            have h9 := ho _ rfl
            rw [JP.wf] at h9
            exact h9
          | _ => cases hf
      rw [JP.sound, JP.soundF_all, List.all_eq_true] at hs
      have hin : (s, (grownT r (JP.get s d) y).1) ∈ JP.put s (grownT r (JP.get s d) y).1 d := put_in s _ d
      have h1 := hs _ hin
      rw [Bool.and_eq_true] at h1
      have ih := grown_wf hy r (JP.get s d) (fun x hx => get_wf hd.2 hx) h1.2
      rw [JP.wf]
      exact ⟨JP.put_srt hd.1, JP.put_wf h1.1 ih hd.2⟩
where
  put_in (n : Bs) (v : JV) : ∀ d : List (Bs × JV), (n, v) ∈ JP.put n v d
    | [] => by simp [JP.put]
    | (m, x) :: r => by
      unfold JP.put
      split
      · exact List.mem_cons_of_mem _ (put_in n v r)
      · split
        · exact List.mem_cons_self ..
        · exact List.mem_cons_self ..
theorem tell_good {x : JV} (h : JP.tellE x = 0) : JP.sound x = true ∧ JP.deep x ≤ 10 ∧ JP.size x ≤ 200 ∧ (JP.text x).length ≤ 2000 := by
  unfold JP.tellE at h
  by_cases h1 : JP.sound x = false
  · rw [if_pos h1] at h; cases h
  · rw [if_neg h1] at h
    by_cases h2 : 10 < JP.deep x
    · rw [if_pos h2] at h; cases h
    · rw [if_neg h2] at h
      by_cases h3 : 200 < JP.size x
      · rw [if_pos h3] at h; cases h
      · rw [if_neg h3] at h
        by_cases h4 : 2000 < (JP.text x).length
        · rw [if_pos h4] at h; cases h
        · exact ⟨by simpa using h1, by omega, by omega, by omega⟩
theorem kinds_of {p : GPlugin} (h : checkP p = 0) : 1 ≤ p.kind ∧ p.kind ≤ 5 := by
  unfold checkP at h
  by_cases h1 : p.kind = 1 ∨ p.kind = 3
  · omega
  · rw [if_neg h1] at h
    by_cases h2 : p.kind = 2 ∨ p.kind = 4 ∨ p.kind = 5
    · omega
    · rw [if_neg h2] at h; cases h
theorem check_lab {p : GPlugin} (h : checkP p = 0) (hk : p.kind = 1 ∨ p.kind = 3) : keyE p.key = 0 ∧ valE p.val = 0 := by
  unfold checkP at h
  rw [if_pos hk] at h
  by_cases h1 : keyE p.key ≠ 0
  · rw [if_pos h1] at h; exact absurd h h1
  · rw [if_neg h1] at h; exact ⟨Decidable.not_not.1 h1, h⟩
theorem check_field {p : GPlugin} (h : checkP p = 0) (hk : p.kind = 2 ∨ p.kind = 4 ∨ p.kind = 5) : (stepsOf p).2.length ≠ 0 ∧ (p.kind = 2 → (JP.readL p.val.data.toList).2 = 0) := by
  unfold checkP at h
  rw [if_neg (by omega), if_pos hk] at h
  unfold fieldE at h
  by_cases h1 : (stepsOf p).1 ≠ 0
  · rw [if_pos h1] at h; exact absurd h h1
  · rw [if_neg h1] at h
    by_cases h2 : (stepsOf p).2.length = 0
    · rw [if_pos h2] at h; cases h
    · rw [if_neg h2] at h
      exact ⟨h2, fun h3 => by rw [if_pos h3] at h; exact h⟩
theorem see_good {p : GPlugin} {st : GSt} (h : GoodS st) (hp : checkP p = 0) (h0 : (seeP p st).1 = 0) : GoodS (seeP p st).2 := by
  unfold seeP at h0 ⊢
  by_cases k1 : p.kind = 1
  · rw [if_pos k1] at h0 ⊢
    unfold addLabelS at h0 ⊢
    by_cases g1 : hasK st.1 p.key = true
    · rw [if_pos g1]; exact h
    · rw [if_neg g1] at h0 ⊢
      by_cases g2 : st.1.length = 10
      · rw [if_pos g2] at h0; cases h0
      · rw [if_neg g2]
        obtain ⟨c1, c2⟩ := check_lab hp (.inl k1)
        exact ⟨ins_labels h.labs c1 c2 (by simpa using g1) g2, h.doc⟩
  · rw [if_neg k1] at h0 ⊢
    by_cases k2 : p.kind = 2
    · rw [if_pos k2] at h0 ⊢
      unfold addFieldS at h0 ⊢
      by_cases g1 : (JP.atW st.2 (stepsOf p).2).isSome = true
      · rw [if_pos g1]; exact h
      · rw [if_neg g1] at h0 ⊢
        by_cases g2 : (grownT (stepsOf p).2 (some st.2) (JP.readL p.val.data.toList).1).2 = false
        · rw [if_pos g2] at h0; cases h0
        · rw [if_neg g2] at h0 ⊢
          by_cases g3 : JP.tellE (grownT (stepsOf p).2 (some st.2) (JP.readL p.val.data.toList).1).1 ≠ 0
          · rw [if_pos g3] at h0; exact absurd h0 g3
          · rw [if_neg g3]
            obtain ⟨t1, t2, t3, t4⟩ := tell_good (Decidable.not_not.1 g3)
            have hr := good_read ((check_field hp (.inl k2)).2 k2)
            exact ⟨h.labs, grown_wf hr.wf _ _ (fun x hx => by cases hx; exact h.doc.wf) t1, t3, t2, t4⟩
    · rw [if_neg k2] at h0 ⊢
      by_cases k3 : p.kind = 3
      · rw [if_pos k3]; exact h
      · rw [if_neg k3]
        by_cases k4 : p.kind = 4
        · rw [if_pos k4]; exact h
        · rw [if_neg k4]; exact h
end Adm
end Go.Proofs.YtnnceaapodgfbaaGreatDoor
namespace Go.Proofs.YtnnceaapodgfbaaGreatDoor
namespace Adm
open Go.RowKit
open JP (JV Bs)
structure OkPlugin (p : GPlugin) : Prop where
  key : p.key.size ≤ 1048576
  val : p.val.size ≤ 1048576
theorem Tryz.sizePlug : (Tryz.prog.info? 64).map (·.size) = some 4 := by kernel_rfl
def plugW (p : GPlugin) : Value := .agg #[.int .i64 p.kind, .string p.key, .string p.val, .int .i64 p.most]
set_option maxRecDepth 100000 in
set_option maxHeartbeats 3200000 in
theorem check1_plug (p : GPlugin) (w : World) (hp : OkPlugin p) (hE : Env w) :
    Calls Tryz.prog 69 #[plugW p] w fun e w' => e = .returned (.int .i64 (checkP p)) ∧ Below w.heap.size w w' := by
  obtain ⟨kd, Hkd⟩ : ∃ y, Hid (p.kind = y) := ⟨_, Lib.hid rfl⟩
  obtain ⟨ky, Hky⟩ : ∃ y, Hid (p.key = y) := ⟨_, Lib.hid rfl⟩
  obtain ⟨vl, Hvl⟩ : ∃ y, Hid (p.val = y) := ⟨_, Lib.hid rfl⟩
  obtain ⟨ms, Hms⟩ : ∃ y, Hid (p.most = y) := ⟨_, Lib.hid rfl⟩
  obtain ⟨res, Hres⟩ : ∃ y, Hid (checkP p = y) := ⟨_, Lib.hid rfl⟩
  have HRes : Hid (res = if kd = 1 ∨ kd = 3 then (if keyE ky ≠ 0 then keyE ky else valE vl) else if kd = 2 ∨ kd = 4 ∨ kd = 5 then (if (stepsP ky.data.toList).1 ≠ 0 then (stepsP ky.data.toList).1 else if (stepsP ky.data.toList).2.length = 0 then 1 else if kd = 2 then (JP.readL vl.data.toList).2 else 0) else 1) := Lib.hid (by
    rw [← Hres.out, ← Hkd.out, ← Hky.out, ← Hvl.out]; rfl)
  have hks := hp.key
  have hvs := hp.val
  rw [Hky.out] at hks
  rw [Hvl.out] at hvs
  rw [Hres.out]
  unfold plugW
  rw [Hkd.out, Hky.out, Hvl.out, Hms.out]
  obtain ⟨W, hW⟩ : ∃ W, W = w.alloc (.cells #[.int .i64 kd, .string ky, .string vl, .int .i64 ms] 64) := ⟨_, rfl⟩
  obtain ⟨gp, hgp⟩ : ∃ g, g = w.heap.size := ⟨_, rfl⟩
  have BP := Lib.hid (show W.heap[gp]? = some (.cells #[.int .i64 kd, .string ky, .string vl, .int .i64 ms] 64 (0, 0)) by rw [hW, hgp]; exact heap_alloc_new w _)
  have HB1 : Hid (Below w.heap.size w W) := Lib.hid (by rw [hW]; exact (Below.refl _ w).alloc (Nat.le_refl _) _)
  have HE := Lib.hid (hE.below HB1.out)
  obtain ⟨mx, hmx⟩ := HE.out.2.2
  have HK := Lib.hid (checkKey_any ky mx W (by omega) hmx)
  obtain ⟨ke, Hke⟩ : ∃ y, Hid (keyE ky = y) := ⟨_, Lib.hid rfl⟩
  rw [show NameP.checkKey ky.data.toList = ke from Hke.out] at HK
  obtain ⟨ve, Hve⟩ : ∃ y, Hid (valE vl = y) := ⟨_, Lib.hid rfl⟩
  have HV : ∀ w, Hid (Calls Tryz.prog 88 #[.string vl] w fun e w' => e = .returned (.int .i64 ve) ∧ w = w') := fun w => Lib.hid (by
    have h9 := checkVal_any vl w (by omega)
    rw [show NameP.checkVal vl.data.toList = ve from Hve.out] at h9
    exact h9)
  have HSt := Lib.hid (ptrSteps_any ky mx W (by omega) hmx)
  obtain ⟨R, HR⟩ : ∃ y, Hid (stepsP ky.data.toList = y) := ⟨_, Lib.hid rfl⟩
  obtain ⟨re, Hre⟩ : ∃ y, Hid ((JP.readL vl.data.toList).2 = y) := ⟨_, Lib.hid rfl⟩
  rw [HR.out] at HSt
  rw [HR.out, Hke.out, Hve.out, Hre.out] at HRes
  have cp := fun i => cell_block BP.out i
  clear hp hE hmx
  go_enter Tryz.func69, Tryz.ntmps69
  go_upto_region 1 with fail
  rw [← hW]
  try rw [← hgp]
  clear hW hgp
  by_cases h13 : kd = 1 ∨ kd = 3
  · have HRs : Hid (res = if ke ≠ 0 then ke else ve) := Lib.hid (by rw [HRes.out, if_pos h13])
    clear HRes HSt
    have way : (kd == 1) = true ∨ ((kd == 1) = false ∧ (kd == 3) = true) := by
      rcases h13 with h | h
      · exact .inl (by rw [h]; rfl)
      · exact .inr ⟨by rw [h]; rfl, by rw [h]; rfl⟩
    clear h13
    rcases way with k1 | ⟨k1, k3⟩
    · go_wp2_with fail
      refine HK.out.mono ?_
      rintro E w2 ⟨rfl, hb2⟩
      have HB2 := Lib.hid (HB1.out.trans (hb2.mono HB1.out.size))
      have BP2 := Lib.hid (below_block hb2 BP.out)
      have cp2 := fun i => cell_block BP2.out i
      clear hb2 HK cp
      by_cases hk : ke = 0
      · obtain rfl : res = ve := by rw [HRs.out, if_neg (fun h => h hk)]
        have q1 : (ke != 0) = false := by rw [hk]; rfl
        clear HRs hk
        go_wp2_with fail
        refine (HV w2).out.mono ?_
        rintro E wx ⟨rfl, hwx⟩
        subst hwx
        clear HV
        go_wp2_with fail
        go_ret
        exact ⟨rfl, HB2.out⟩
      · obtain rfl : res = ke := by rw [HRs.out, if_pos hk]
        have q1 : (res != 0) = true := bne_iff_ne.2 hk
        clear HRs hk HV
        go_wp2_with fail
        go_ret
        exact ⟨rfl, HB2.out⟩
    · go_wp2_with fail
      refine HK.out.mono ?_
      rintro E w2 ⟨rfl, hb2⟩
      have HB2 := Lib.hid (HB1.out.trans (hb2.mono HB1.out.size))
      have BP2 := Lib.hid (below_block hb2 BP.out)
      have cp2 := fun i => cell_block BP2.out i
      clear hb2 HK cp
      by_cases hk : ke = 0
      · obtain rfl : res = ve := by rw [HRs.out, if_neg (fun h => h hk)]
        have q1 : (ke != 0) = false := by rw [hk]; rfl
        clear HRs hk
        go_wp2_with fail
        refine (HV w2).out.mono ?_
        rintro E wx ⟨rfl, hwx⟩
        subst hwx
        clear HV
        go_wp2_with fail
        go_ret
        exact ⟨rfl, HB2.out⟩
      · obtain rfl : res = ke := by rw [HRs.out, if_pos hk]
        have q1 : (res != 0) = true := bne_iff_ne.2 hk
        clear HRs hk HV
        go_wp2_with fail
        go_ret
        exact ⟨rfl, HB2.out⟩
  · have k1 : (kd == 1) = false := by rw [beq_eq_false_iff_ne]; exact fun h => h13 (.inl h)
    have k3 : (kd == 3) = false := by rw [beq_eq_false_iff_ne]; exact fun h => h13 (.inr h)
    by_cases h245 : kd = 2 ∨ kd = 4 ∨ kd = 5
    · have HRs : Hid (res = if R.1 ≠ 0 then R.1 else if R.2.length = 0 then 1 else if kd = 2 then re else 0) := Lib.hid (by rw [HRes.out, if_neg h13, if_pos h245])
      clear HRes HK
      have way : (kd = 2) ∨ ((kd == 2) = false ∧ kd ≠ 2 ∧ (kd == 4) = true) ∨ ((kd == 2) = false ∧ kd ≠ 2 ∧ (kd == 4) = false ∧ (kd == 5) = true) := by
        rcases h245 with h | h | h
        · exact .inl h
        · exact .inr (.inl ⟨by rw [h]; rfl, by omega, by rw [h]; rfl⟩)
        · exact .inr (.inr ⟨by rw [h]; rfl, by omega, by rw [h]; rfl, by rw [h]; rfl⟩)
      clear h13 h245
      rcases way with rfl | ⟨k2, k2n, k4⟩ | ⟨k2, k2n, k4, k5⟩
      · go_wp2_with fail
        refine HSt.out.mono ?_
        rintro E w2 ⟨v2, rfl, ⟨sl, hsl, hsm⟩, hb2⟩
        obtain ⟨a2, c2, rfl, -, -⟩ := hsl.row.len
        obtain ⟨n2, Hn2⟩ : ∃ n, Hid (sl.length = n) := ⟨_, Lib.hid rfl⟩
        have HRl : Hid (R.2.length = n2) := Lib.hid (by rw [← hsm, List.length_map, Hn2.out])
        rw [Hn2.out]
        have HB2 := Lib.hid (HB1.out.trans (hb2.mono HB1.out.size))
        have BP2 := Lib.hid (below_block hb2 BP.out)
        have cp2 := fun i => cell_block BP2.out i
        obtain ⟨r1, Hr1⟩ : ∃ y, Hid (R.1 = y) := ⟨_, Lib.hid rfl⟩
        rw [Hr1.out]
        rw [Hr1.out, HRl.out] at HRs
        have HRd : Hid (Calls Tryz.prog 66 #[.string vl] w2 fun e w' => ∃ v, e = .returned (.tuple #[v, .int .i64 re]) ∧ Below w2.heap.size w2 w') := Lib.hid (by
          have h9 := read_any vl w2 (by omega)
          rw [Hre.out] at h9
          exact h9.mono fun e w' ⟨v, h1, _, h3⟩ => ⟨v, h1, h3⟩)
        clear hb2 HSt cp hsl hsm HV
        by_cases h1 : r1 = 0
        · subst h1
          by_cases h2 : n2 = 0
          · subst h2
            obtain rfl : res = 1 := by rw [HRs.out, if_neg (by decide), if_pos rfl]
            clear HRs
            go_wp2_with fail
            go_ret
            exact ⟨rfl, HB2.out⟩
          · have q2 : ((n2 : Int) == 0) = false := by rw [beq_eq_false_iff_ne]; omega
            obtain rfl : res = re := by rw [HRs.out, if_neg (by decide), if_neg h2, if_pos trivial]
            clear HRs h2
            go_wp2_with fail
            refine HRd.out.mono ?_
            rintro E w3 ⟨v3, rfl, hb3⟩
            have HB3 := Lib.hid (HB2.out.trans (hb3.mono HB2.out.size))
            clear hb3 HRd
            go_wp2_with fail
            go_ret
            exact ⟨rfl, HB3.out⟩
        · have q1 : (r1 == 0) = false := by rw [beq_eq_false_iff_ne]; exact h1
          obtain rfl : res = r1 := by rw [HRs.out, if_pos h1]
          clear HRs h1
          go_wp2_with fail
          go_ret
          exact ⟨rfl, HB2.out⟩
      · go_wp2_with fail
        refine HSt.out.mono ?_
        rintro E w2 ⟨v2, rfl, ⟨sl, hsl, hsm⟩, hb2⟩
        obtain ⟨a2, c2, rfl, -, -⟩ := hsl.row.len
        obtain ⟨n2, Hn2⟩ : ∃ n, Hid (sl.length = n) := ⟨_, Lib.hid rfl⟩
        have HRl : Hid (R.2.length = n2) := Lib.hid (by rw [← hsm, List.length_map, Hn2.out])
        rw [Hn2.out]
        have HB2 := Lib.hid (HB1.out.trans (hb2.mono HB1.out.size))
        have BP2 := Lib.hid (below_block hb2 BP.out)
        have cp2 := fun i => cell_block BP2.out i
        obtain ⟨r1, Hr1⟩ : ∃ y, Hid (R.1 = y) := ⟨_, Lib.hid rfl⟩
        rw [Hr1.out]
        rw [Hr1.out, HRl.out] at HRs
        clear hb2 HSt cp hsl hsm HV
        by_cases h1 : r1 = 0
        · subst h1
          by_cases h2 : n2 = 0
          · subst h2
            obtain rfl : res = 1 := by rw [HRs.out, if_neg (by decide), if_pos rfl]
            clear HRs
            go_wp2_with fail
            go_ret
            exact ⟨rfl, HB2.out⟩
          · have q2 : ((n2 : Int) == 0) = false := by rw [beq_eq_false_iff_ne]; omega
            obtain rfl : res = 0 := by rw [HRs.out, if_neg (by decide), if_neg h2, if_neg k2n]
            clear HRs h2 k2n
            go_wp2_with fail
            go_ret
            exact ⟨rfl, HB2.out⟩
        · have q1 : (r1 == 0) = false := by rw [beq_eq_false_iff_ne]; exact h1
          obtain rfl : res = r1 := by rw [HRs.out, if_pos h1]
          clear HRs h1
          go_wp2_with fail
          go_ret
          exact ⟨rfl, HB2.out⟩
      · go_wp2_with fail
        refine HSt.out.mono ?_
        rintro E w2 ⟨v2, rfl, ⟨sl, hsl, hsm⟩, hb2⟩
        obtain ⟨a2, c2, rfl, -, -⟩ := hsl.row.len
        obtain ⟨n2, Hn2⟩ : ∃ n, Hid (sl.length = n) := ⟨_, Lib.hid rfl⟩
        have HRl : Hid (R.2.length = n2) := Lib.hid (by rw [← hsm, List.length_map, Hn2.out])
        rw [Hn2.out]
        have HB2 := Lib.hid (HB1.out.trans (hb2.mono HB1.out.size))
        have BP2 := Lib.hid (below_block hb2 BP.out)
        have cp2 := fun i => cell_block BP2.out i
        obtain ⟨r1, Hr1⟩ : ∃ y, Hid (R.1 = y) := ⟨_, Lib.hid rfl⟩
        rw [Hr1.out]
        rw [Hr1.out, HRl.out] at HRs
        clear hb2 HSt cp hsl hsm HV
        by_cases h1 : r1 = 0
        · subst h1
          by_cases h2 : n2 = 0
          · subst h2
            obtain rfl : res = 1 := by rw [HRs.out, if_neg (by decide), if_pos rfl]
            clear HRs
            go_wp2_with fail
            go_ret
            exact ⟨rfl, HB2.out⟩
          · have q2 : ((n2 : Int) == 0) = false := by rw [beq_eq_false_iff_ne]; omega
            obtain rfl : res = 0 := by rw [HRs.out, if_neg (by decide), if_neg h2, if_neg k2n]
            clear HRs h2 k2n
            go_wp2_with fail
            go_ret
            exact ⟨rfl, HB2.out⟩
        · have q1 : (r1 == 0) = false := by rw [beq_eq_false_iff_ne]; exact h1
          obtain rfl : res = r1 := by rw [HRs.out, if_pos h1]
          clear HRs h1
          go_wp2_with fail
          go_ret
          exact ⟨rfl, HB2.out⟩
    · have k2 : (kd == 2) = false := by rw [beq_eq_false_iff_ne]; exact fun h => h245 (.inl h)
      have k4 : (kd == 4) = false := by rw [beq_eq_false_iff_ne]; exact fun h => h245 (.inr (.inl h))
      have k5 : (kd == 5) = false := by rw [beq_eq_false_iff_ne]; exact fun h => h245 (.inr (.inr h))
      obtain rfl : res = 1 := by rw [HRes.out, if_neg h13, if_neg h245]
      clear HRes h13 h245 HK HSt
      go_wp2_with fail
      go_ret
      exact ⟨rfl, HB1.out⟩
set_option maxRecDepth 100000 in
set_option maxHeartbeats 3200000 in
theorem check_plugs (v : Value) (l : List GPlugin) (w : World) (h : RowAt PluginR 4 w v l) (hl : l.length ≤ 1048576) (hok : ∀ p ∈ l, OkPlugin p) (hE : Env w) :
    Calls Tryz.prog 27 #[v] w fun e w' => e = .returned (.int .i64 (checkL l)) ∧ Below w.heap.size w w' := by
  obtain ⟨al, cl, rfl, -, -⟩ := h.len
  obtain ⟨n, Hn⟩ : ∃ n, Hid (l.length = n) := ⟨_, Lib.hid rfl⟩
  obtain ⟨res, Hres⟩ : ∃ y, Hid (checkL l = y) := ⟨_, Lib.hid rfl⟩
  have HRes : Hid (res = if 8 < n then 2 else errF checkP l) := Lib.hid (by rw [← Hres.out, ← Hn.out]; rfl)
  rw [Hn.out] at h hl ⊢
  rw [Hres.out]
  have HR := Lib.hid h
  have HE := Lib.hid hE
  have Hok := Lib.hid hok
  have HB0 := Lib.hid (Below.refl w.heap.size w)
  clear h hE hok
  by_cases h8 : 8 < n
  · obtain rfl : res = 2 := by rw [HRes.out, if_pos h8]
    clear HRes
    go_enter Tryz.func27, Tryz.ntmps27
    go_wp2_with fail
    go_ret
    exact ⟨rfl, HB0.out⟩
  · have HRs : Hid (res = errF checkP l) := Lib.hid (by rw [HRes.out, if_neg h8])
    clear HRes
    go_enter Tryz.func27, Tryz.ntmps27
    go_wp2_with fail
    go_loopg [11] n (fun k u11 wr => ∃ i : Nat, i + k = n ∧ u11 = .int .i64 (i : Int) ∧ Hid (∀ y ∈ l.take i, checkP y = 0) ∧ Hid (Below w.heap.size w wr))
    case atStart => exact ⟨0, by omega, rfl, Lib.hid (fun y hy => by simp at hy), HB0⟩
    case round =>
      clear HB0
      obtain ⟨i, hik, rfl, HA, HB⟩ := hrel
      cases gk with
      | zero =>
        obtain rfl : n = i := by omega
        obtain rfl : res = 0 := by
          have h1 := HA.out
          rw [← Hn.out, List.take_length] at h1
          rw [HRs.out]; exact errF_none h1
        clear HA HRs
        go_wp2_with fail
        go_ret
        exact ⟨rfl, HB.out⟩
      | succ k =>
        have hil : i < n := by omega
        obtain ⟨x, hx⟩ : ∃ x, l[i]? = some x := ⟨l[i]'(by rw [Hn.out]; exact hil), List.getElem?_eq_getElem _⟩
        obtain ⟨b, o, c', hva, -, -, hbs, hcell⟩ := HR.out.form (by rw [Hn.out]; omega) (by omega)
        injection hva with u1 u2 u3
        subst u1
        clear u2 u3
        obtain ⟨ds, -, hcc, hds⟩ := hcell i x hx
        obtain ⟨rfl, -, -⟩ := hds
        have f0 := (HB.out.cell (p := ⟨b, _, none⟩) hbs).trans (hcc 0 _ rfl)
        have f1 := (HB.out.cell (p := ⟨b, _, none⟩) hbs).trans (hcc 1 _ rfl)
        have f2 := (HB.out.cell (p := ⟨b, _, none⟩) hbs).trans (hcc 2 _ rfl)
        have f3 := (HB.out.cell (p := ⟨b, _, none⟩) hbs).trans (hcc 3 _ rfl)
        rw [Nat.add_zero] at f0
        have q1 : (0 : Int) ≤ (i : Int) := by omega
        have q2 : (i : Int) < (n : Int) := by omega
        have Hx := Lib.hid hx
        have H7 := Lib.hid (heap_alloc_new wr (.cells #[.int .i64 0, .string { data := #[] }, .string { data := #[] }, .int .i64 0] 64))
        have hb4 := Lib.hid ((Below.refl wr.heap.size wr).alloc (Nat.le_refl _) (.cells #[.int .i64 0, .string { data := #[] }, .string { data := #[] }, .int .i64 0] 64))
        clear hx hcc hcell
        go_wp2_with (refine wpList_store_box (by rfl) _ _ _ (by rfl) wr.heap.size #[.int .i64 x.kind, .string x.key, .string x.val, .int .i64 x.most] (by rfl) (by rfl) _ _ (by exact H7.out) (by exact Tryz.sizePlug) (by rfl) (by simp [Value.oneCell']) ?_)
        intro w5 b5 t5
        have hb5 : Below wr.heap.size wr w5 := t5.below hb4.out (Nat.le_refl _)
        obtain ⟨gx, hgx⟩ : ∃ g, wr.heap.size = g := ⟨_, rfl⟩
        rw [hgx] at b5 ⊢
        have HX5 := Lib.hid b5
        have HB5 := Lib.hid (HB.out.trans (hb5.mono HB.out.size))
        have HC := Lib.hid (check1_plug x w5 (Hok.out x (List.mem_of_getElem? Hx.out)) (HE.out.below HB5.out))
        unfold plugW at HC
        obtain ⟨ce, Hce⟩ : ∃ y, Hid (checkP x = y) := ⟨_, Lib.hid rfl⟩
        rw [Hce.out] at HC
        have cx := fun i => cell_block HX5.out i
        clear b5 t5 hb5 hb4 H7 HB f0 f1 f2 f3 hgx
        go_wp2_with fail
        refine HC.out.mono ?_
        rintro E w6 ⟨rfl, hb6⟩
        have HB6 := Lib.hid (HB5.out.trans (hb6.mono HB5.out.size))
        clear hb6 HC cx HX5 HB5
        by_cases hc : ce = 0
        · have q3 : (ce != 0) = false := by rw [hc]; rfl
          have HA9 : Hid (∀ y ∈ l.take (i + 1), checkP y = 0) := Lib.hid fun y hy => by
            rw [List.take_add_one, Hx.out] at hy
            rcases List.mem_append.1 hy with h9 | h9
            · exact HA.out y h9
            · simp at h9; rw [h9, Hce.out]; exact hc
          clear hc HA
          go_wp2_with fail
          go_roundg k
          case measure => omega
          case rel => exact ⟨i + 1, by omega, by go_num, HA9, HB6⟩
        · have q3 : (ce != 0) = true := bne_iff_ne.2 hc
          obtain rfl : res = ce := by rw [HRs.out, errF_at Hx.out HA.out (by rw [Hce.out]; exact hc), Hce.out]
          clear hc HA HRs Hce Hres
          go_wp2_with fail
          go_ret
          exact ⟨rfl, HB6.out⟩
end Adm
end Go.Proofs.YtnnceaapodgfbaaGreatDoor
namespace Go.Proofs.YtnnceaapodgfbaaGreatDoor
open Go.RowKit
open JP (JV Bs)
theorem atoi_itoa {n : Nat} (h : n < 100000000000000000) : Lib.atoiAll (Lib.itoa (n : Int)) = .ok (n : Int) := by
  have h2 : Lib.itoa (n : Int) = Lib.decDigits n := by
    unfold Lib.itoa
    rw [if_neg (by omega)]
    rfl
  have hd := JP.dec_digits n
  have hl := JP.dec_length (u := n) (by omega)
  have hv := JP.dec_value n
  obtain ⟨c, t, hc, _⟩ := JP.dec_head n
  rw [h2, hc]
  rw [hc] at hd hl hv
  have hdc := hd c (List.mem_cons_self ..)
  have n43 : c.toNat ≠ 43 := fun e => by have : c = 43 := u8_eq e; subst this; revert hdc; decide
  have n45 : c.toNat ≠ 45 := fun e => by have : c = 45 := u8_eq e; subst this; revert hdc; decide
  have hm := parse_mag hd (by simp) hl
  rw [Lib.parseUintB_64] at hm
  rw [Lib.atoiAll_plain _ _ n43 n45, hm]
  unfold JP.decV
  rw [hv]
  unfold Lib.signless
  dsimp only [Option.getD]
  rw [if_neg (by omega)]
def IdxAt (s : Bs) (many : Nat) (w : World) (e : Ending) (w' : World) : Prop := ∃ n : Int, e = .returned (.tuple #[.int .i64 n, .bool (JP.idx s many).isSome]) ∧ (∀ k, JP.idx s many = some k → n = (k : Int)) ∧ Below w.heap.size w w'
theorem IdxAt.no {s : Bs} {many : Nat} {w w' : World} {n : Int} (h : JP.idx s many = none) (hb : Below w.heap.size w w') : IdxAt s many w (.returned (.tuple #[.int .i64 n, .bool false])) w' :=
  ⟨n, by rw [h]; rfl, fun k hk => (by rw [h] at hk; cases hk), hb⟩
theorem IdxAt.yes {s : Bs} {many k : Nat} {w w' : World} (h : JP.idx s many = some k) (hb : Below w.heap.size w w') : IdxAt s many w (.returned (.tuple #[.int .i64 (k : Int), .bool true])) w' :=
  ⟨k, by rw [h]; rfl, fun j hj => (by rw [h] at hj; cases hj; rfl), hb⟩
set_option maxRecDepth 100000 in
set_option maxHeartbeats 3200000 in
theorem indexT_any (s : ByteArray) (many : Nat) (w : World) (hs : s.size ≤ 1073741824) (hm : many ≤ 1048577) (ht : TabOK w) (he : ErrOK w) :
    Calls Tryz.prog 257 #[.string s, .int .i64 (many : Int)] w (IdxAt s.data.toList many w) := by
  have key : ∀ v : Int, Lib.atoiAll s.data.toList = .ok v → ∀ n, n < many → Lib.itoa (n : Int) = s.data.toList → v = (n : Int) := fun v hv n hn e => by
    rw [← e, atoi_itoa (by omega)] at hv
    injection hv with hv
    exact hv.symm
  have no : (∀ v : Int, Lib.atoiAll s.data.toList ≠ .ok v) → JP.idx s.data.toList many = none := fun h => JP.idx_none fun n hn e => by
    refine h n ?_
    rw [← e]; exact atoi_itoa (by omega)
  obtain ⟨tp, p, tp', p', h1, h2⟩ := he
  have fail : ∀ (z : Int) (te : TypeId) (pe : Nat → Value), Hid (JP.idx s.data.toList many = none) → Hid (Calls Tryz.prog 139 #[.string s] w fun e w' => ∃ N, e = .returned (.tuple #[.int .i64 z, .iface te (pe N)]) ∧ Below w.heap.size w w') → Calls Tryz.prog 257 #[.string s, .int .i64 (many : Int)] w (IdxAt s.data.toList many w) := by
    intro z te pe HN HC
    clear key no h1 h2
    go_enter Tryz.func257, Tryz.ntmps257
    go_wp2_with fail
    refine HC.out.mono ?_
    rintro E w1 ⟨N, rfl, hb⟩
    have HB := Lib.hid hb
    clear hb
    go_wp2_with fail
    go_ret2
    exact IdxAt.no HN.out HB.out
  cases hA : Lib.atoiAll s.data.toList
  case range =>
    exact fail _ _ (fun N => .pointer (some ⟨N, 0, none⟩)) (Lib.hid (no fun v e => by rw [hA] at e; cases e)) (Lib.hid ((Tryz.strconv_Atoi_range_var s (by omega) hA tp' p' w h2).mono fun e w' ⟨N, e1, _, _, hb⟩ => ⟨N, e1, hb⟩))
  case ok v =>
    obtain ⟨b1, b2⟩ := Lib.atoiAll_bounds hA
    have HC : Hid (Calls Tryz.prog 139 #[.string s] w fun e w' => e = .returned (.tuple #[.int .i64 v, .nilIface]) ∧ Below w.heap.size w w') := Lib.hid ((Tryz.strconv_Atoi_ok s (by omega) v hA w).mono fun e w' ⟨e1, hw⟩ => ⟨e1, by
      rcases hw with rfl | ⟨t, rfl⟩
      · exact Below.refl _ _
      · exact Lib.bytesWorld_below _ _ _⟩)
    have HT := Lib.hid (fun (w' : World) (hb : Below w.heap.size w w') => Tryz.strconv_Itoa v b1 b2 w' (ht.below hb))
    by_cases hin : 0 ≤ v ∧ v < (many : Int)
    · obtain ⟨i1, i2⟩ := hin
      obtain ⟨k, rfl⟩ : ∃ k : Nat, v = (k : Int) := ⟨v.toNat, by omega⟩
      have hk : k < many := by omega
      obtain ⟨S, hS⟩ : ∃ S : ByteArray, (⟨(Lib.itoa (k : Int)).toArray⟩ : ByteArray) = S := ⟨_, rfl⟩
      have hSd : S.data.toList = Lib.itoa (k : Int) := by rw [← hS]
      obtain ⟨B, hB⟩ : ∃ B, (S.toList == s.toList) = B := ⟨_, rfl⟩
      have hB2 : B = decide (Lib.itoa (k : Int) = s.data.toList) := by
        rw [← hB, ByteArray.toList_eq, ByteArray.toList_eq, hSd, Bool.eq_iff_iff, beq_iff_eq, decide_eq_true_iff]
      have hK : (B = true → JP.idx s.data.toList many = some k) ∧ (B = false → JP.idx s.data.toList many = none) := by
        refine ⟨fun hb => JP.idx_of (by omega) hk (of_decide_eq_true (hB2.symm.trans hb)), fun hb => JP.idx_none fun n hn e => ?_⟩
        have h4 := key _ hA n hn e
        have h5 : ¬ Lib.itoa (k : Int) = s.data.toList := of_decide_eq_false (hB2.symm.trans hb)
        rw [h4] at h5
        exact h5 e
      have HK := Lib.hid hK
      rw [hS] at HT
      have q1 : (k : Int) < (many : Int) := i2
      have q0 : (0 : Int) ≤ (k : Int) := i1
      have HBe := Lib.hid hB
      clear key no h1 h2 fail hA hK hB2 hS hSd b1 b2 i1 i2 ht hB
      go_enter Tryz.func257, Tryz.ntmps257
      go_wp2_with fail
      refine HC.out.mono ?_
      rintro E w1 ⟨rfl, hb⟩
      have HB := Lib.hid hb
      clear hb
      go_wp2_with fail
      refine (HT.out w1 HB.out).mono ?_
      rintro E w2 ⟨rfl, k2, os, hw2⟩
      have HB2 : Hid (Below w.heap.size w w2) := Lib.hid (HB.out.trans (by rw [hw2]; exact Lib.below_grow _ _ HB.out.size _ _))
      clear hw2
      have hBe := HBe.out
      cases B with
      | true =>
        have HI := Lib.hid (HK.out.1 rfl)
        go_wp2_with fail
        go_ret2
        exact IdxAt.yes HI.out HB2.out
      | false =>
        have HI := Lib.hid (HK.out.2 rfl)
        go_wp2_with fail
        go_ret2
        exact IdxAt.no HI.out HB2.out
    · have HN : Hid (JP.idx s.data.toList many = none) := Lib.hid (JP.idx_none fun n hn e => hin (by rw [key v hA n hn e]; exact ⟨by omega, by omega⟩))
      by_cases h0 : 0 ≤ v
      · have q1 : ¬ v < (many : Int) := fun h => hin ⟨h0, h⟩
        clear key no h1 h2 fail hA ht HT hin
        go_enter Tryz.func257, Tryz.ntmps257
        go_wp2_with fail
        refine HC.out.mono ?_
        rintro E w1 ⟨rfl, hb⟩
        have HB := Lib.hid hb
        clear hb
        go_wp2_with fail
        go_ret2
        exact IdxAt.no HN.out HB.out
      · clear key no h1 h2 fail hA ht HT hin
        go_enter Tryz.func257, Tryz.ntmps257
        go_wp2_with fail
        refine HC.out.mono ?_
        rintro E w1 ⟨rfl, hb⟩
        have HB := Lib.hid hb
        clear hb
        go_wp2_with fail
        go_ret2
        exact IdxAt.no HN.out HB.out
  · exact fail 0 _ (fun N => .pointer (some ⟨N, 0, none⟩)) (Lib.hid (no fun v e => by rw [hA] at e; cases e)) (Lib.hid ((Tryz.strconv_Atoi_syntax_var s (by omega) hA tp p w h1).mono fun e w' ⟨N, e1, _, _, hb⟩ => ⟨N, e1, hb⟩))
theorem index_no {s : Bs} {many : Nat} {w : World} (h : JP.idx s many = none) (hs : s.length ≤ 1048576) (hm : many ≤ 1048577) (ht : TabOK w) (he : ErrOK w) :
    Calls Tryz.prog 257 #[.string (mkB s), .int .i64 (many : Int)] w fun e w' => ∃ z : Int, e = .returned (.tuple #[.int .i64 z, .bool false]) ∧ Below w.heap.size w w' := by
  refine (indexT_any (mkB s) many w (by rw [mkB_size]; omega) hm ht he).mono ?_
  rintro e w' ⟨z, h1, _, h3⟩
  rw [mkB_list, h] at h1
  exact ⟨z, h1, h3⟩
theorem index_yes {s : Bs} {many k : Nat} {w : World} (h : JP.idx s many = some k) (hs : s.length ≤ 1048576) (hm : many ≤ 1048577) (ht : TabOK w) (he : ErrOK w) :
    Calls Tryz.prog 257 #[.string (mkB s), .int .i64 (many : Int)] w fun e w' => e = .returned (.tuple #[.int .i64 (k : Int), .bool true]) ∧ Below w.heap.size w w' := by
  refine (indexT_any (mkB s) many w (by rw [mkB_size]; omega) hm ht he).mono ?_
  rintro e w' ⟨z, h1, h2, h3⟩
  rw [mkB_list, h] at h1 h2
  rw [← h2 k rfl]
  exact ⟨h1, h3⟩
end Go.Proofs.YtnnceaapodgfbaaGreatDoor
namespace Go.Proofs.YtnnceaapodgfbaaGreatDoor
open Go.RowKit
open JP (JV Bs)
def ChildAt (o : Option JV) (w : World) (e : Ending) (w' : World) : Prop := ∃ u, e = .returned (.tuple #[u, .bool o.isSome]) ∧ (∀ c, o = some c → ∃ k, JvAt k [] w' u c) ∧ Below w.heap.size w w'
theorem ChildAt.no {w w' : World} {o : Option JV} (ho : o = none) (hb : Below w.heap.size w w') : ChildAt o w (.returned (.tuple #[.nilIface, .bool false])) w' := by
  subst ho
  exact ⟨_, rfl, fun c h => (by cases h), hb⟩
theorem ChildAt.yes {w w' : World} {o : Option JV} {k : Nat} {c : JV} {u : Value} (ho : o = some c) (h : JvAt k [] w' u c) (hb : Below w.heap.size w w') : ChildAt o w (.returned (.tuple #[u, .bool true])) w' := by
  subst ho
  exact ⟨_, rfl, fun d e => by cases e; exact ⟨k, h⟩, hb⟩
set_option maxRecDepth 100000 in
set_option maxHeartbeats 3200000 in
theorem child_any {n : Nat} {v : Value} {x : JV} {s : Bs} {w : World} (h : JvAt n [] w v x) (hz : (JP.text x).length ≤ 1000000) (hs : s.length ≤ 1048576) (ht : TabOK w) (he : ErrOK w) :
    Calls Tryz.prog 253 #[v, .string (mkB s)] w (ChildAt (JP.child x s) w) := by
  obtain ⟨R0, hR⟩ : ∃ R, JP.child x s = R := ⟨_, rfl⟩
  rw [hR]
  have HR := Lib.hid hR
  clear hR
  cases n with
  | zero => cases h
  | succ n =>
    have way : (∃ l, x = .obj l) ∨ (∃ l, x = .list l) ∨ ((∀ l, x ≠ .obj l) ∧ (∀ l, x ≠ .list l)) := by
      cases x with
      | obj l => exact .inl ⟨l, rfl⟩
      | list l => exact .inr (.inl ⟨l, rfl⟩)
      | _ => exact .inr (.inr ⟨fun l e => (by cases e), fun l e => (by cases e)⟩)
    rcases way with ⟨l, rfl⟩ | ⟨l, rfl⟩ | ⟨h1, h2⟩
    · obtain ⟨q, rfl, ho⟩ := h
      have G1 := (as_obj (.pointer (some ⟨q, 0, none⟩))).2.2.2.2
      have hl : l.length ≤ 1048576 := by have := lenF_len l; have := JP.obj_len_ge l; omega
      have HG := Lib.hid (get_any (x := s) ho hl)
      rw [show JP.get s l = R0 from HR.out] at HG
      clear ho ht he hz hs hl HR
      go_enter Tryz.func253, Tryz.ntmps253
      go_wp2_with fail
      refine HG.out.mono ?_
      rintro E w1 ⟨vg, rfl, hsome, hnone, k, hw1⟩
      have HB : Hid (Below w.heap.size w w1) := Lib.hid (by rw [hw1]; exact ⟨rfl, rfl, rfl, Nat.le_refl _, fun _ _ => rfl⟩)
      have HJ : Hid (∀ c, R0 = some c → ∃ k, JvAt k [] w1 vg c) := Lib.hid (fun c hc => ⟨n, by rw [hw1]; exact (hsome c hc).keepT (KeepT.drewN w k)⟩)
      clear hw1 hsome hnone
      go_wp2_with fail
      go_ret2
      exact ⟨_, rfl, HJ.out, HB.out⟩
    · obtain ⟨u, rfl, hr, _⟩ := h
      obtain ⟨a1, c1, rfl, _, _⟩ := hr.len
      obtain ⟨G1, G2⟩ := (as_list (.slice a1 l.length c1)).2.2.2
      have hl : l.length ≤ 1048576 := by have := lenL_len l; have := JP.list_len_ge l; omega
      have Hr := Lib.hid hr
      clear hr hz
      cases hix : JP.idx s l.length with
      | none =>
        have HI := Lib.hid (index_no hix hs (by omega) ht he)
        clear ht he hs
        have HN : Hid (R0 = none) := Lib.hid (by rw [← HR.out]; show (JP.idx s l.length).bind _ = none; rw [hix]; rfl)
        clear hix HR
        go_enter Tryz.func253, Tryz.ntmps253
        go_wp2_with fail
        refine HI.out.mono ?_
        rintro E w1 ⟨z, rfl, hb⟩
        have HB := Lib.hid hb
        clear hb
        go_wp2_with fail
        go_ret2
        exact ChildAt.no HN.out HB.out
      | some k =>
        have HI := Lib.hid (index_yes hix hs (by omega) ht he)
        clear ht he hs
        obtain ⟨k1, _⟩ := JP.idx_some hix
        obtain ⟨y, hy⟩ : ∃ y, l[k]? = some y := ⟨_, List.getElem?_eq_getElem k1⟩
        have HN : Hid (R0 = some y) := Lib.hid (by rw [← HR.out]; show (JP.idx s l.length).bind _ = _; rw [hix]; exact hy)
        obtain ⟨b, o, c', hv, _, _, hbs, hcell⟩ := Hr.out.form (by omega) (by omega)
        injection hv with u1 u2 u3
        subst u1
        clear u2 u3
        obtain ⟨cs, _, hcc, vx, rfl, hvx⟩ := hcell k y hy
        have e0 : w.cell? ⟨b, o + k, none⟩ = some vx := by simpa using hcc 0 _ rfl
        have q1 : (0 : Int) ≤ (k : Int) := by omega
        have q2 : (k : Int) < (l.length : Int) := by omega
        have Hvx := Lib.hid hvx
        have He0 := Lib.hid e0
        have hbs' := Lib.hid hbs
        clear hix HR hcell hcc hvx e0 hbs
        go_enter Tryz.func253, Tryz.ntmps253
        go_wp2_with fail
        refine HI.out.mono ?_
        rintro E w1 ⟨rfl, hb⟩
        have e1 : w1.cell? ⟨b, o + k, none⟩ = some vx := (hb.cell (p := ⟨b, _, none⟩) hbs'.out).trans He0.out
        have HB := Lib.hid hb
        have HJ := Lib.hid (Hvx.out.below hb)
        clear hb
        go_wp2_with fail
        go_ret2
        exact ChildAt.yes HN.out HJ.out HB.out
    · have G1 := as_other h h1
      have G2 := as_nolist h h2
      have HN : Hid (R0 = none) := Lib.hid (by
        rw [← HR.out]
        cases x with
        | obj l => exact absurd rfl (h1 l)
        | list l => exact absurd rfl (h2 l)
        | _ => rfl)
      clear h h1 h2 ht he hz hs HR
      go_enter Tryz.func253, Tryz.ntmps253
      go_wp2_with fail
      go_ret2
      exact ChildAt.no HN.out (Below.refl _ _)
end Go.Proofs.YtnnceaapodgfbaaGreatDoor
