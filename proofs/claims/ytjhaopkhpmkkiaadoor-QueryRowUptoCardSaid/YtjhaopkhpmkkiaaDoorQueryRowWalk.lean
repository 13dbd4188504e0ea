/- QueryRow: the law's walk. -/
import Derived.Test.YtjhaopkhpmkkiaaDoorImplies
namespace Go.Proofs.YtjhaopkhpmkkiaaDoor
open Go.RowKit

/-- what Implies has told, of e -/
structure Told (a b : List GReq) (is : Bool) (e : Int) : Prop where
  code : implyE a b = e
  ok : e = 0 → ∃ out, ImplyOK a b out is
  no : e ≠ 0 → is = false
set_option maxRecDepth 100000 in
set_option maxHeartbeats 6400000 in
theorem queryRow_walk (v0 : Value) (l : List GReq) (v1 : Value) (m : List GReq) (v2 : Value) (n : List GReq) (w : World) (h0 : RowAt ReqR 3 w v0 l) (h1 : RowAt ReqR 3 w v1 m) (h2 : RowAt ReqR 3 w v2 n)
    (hbulk : (l.map reqB).sum + 1 + ((m.map reqB).sum + 1 + ((n.map reqB).sum + 1 + 0)) ≤ 1048576) (hmax : ∃ m, MaxOK m w) :
    Calls Tryd.prog 5 #[v0, v1, v2] w fun e w' => e = .returned (.bool true) ∧ Below w.heap.size w w' := by
  obtain ⟨mx, hm⟩ := hmax
  obtain ⟨i0, hi0, hz0, hz1, hz2⟩ := info_parts Tryd.infoReq
  obtain ⟨okl, hll⟩ := okReqs_of (l := l) (by omega)
  obtain ⟨okm, hml⟩ := okReqs_of (l := m) (by omega)
  obtain ⟨okn, hnl⟩ := okReqs_of (l := n) (by omega)
  have hln : l.length + n.length ≤ 1048576 := by
    have e1 := sum_ge_length reqB (fun x => by unfold reqB; omega) l
    have e2 := sum_ge_length reqB (fun x => by unfold reqB; omega) n
    omega
  obtain ⟨a0, c0, rfl, _, _⟩ := h0.len
  obtain ⟨a1, c1, rfl, _, _⟩ := h1.len
  obtain ⟨a2, c2, rfl, _, _⟩ := h2.len
  have H0 := Lib.hid h0
  have H1 := Lib.hid h1
  have H2 := Lib.hid h2
  have Hat0 := Lib.hid (h0.atW (Below.refl _ _))
  have Hat2 := Lib.hid (h2.atW (Below.refl _ _))
  have Hm := Lib.hid hm
  have Okl := Lib.hid okl
  have Okm := Lib.hid okm
  have Okn := Lib.hid okn
  clear h0 h1 h2 hm okl okm okn hbulk
  go_enter Tryd.func5, Tryd.ntmps5
  go_wp2_with fail
  refine (implies_any _ _ l m mx w H0.out H1.out hll hml Okl.out Okm.out Hm.out).mono ?_
  rintro E w1 ⟨vx, ox, x, rfl, hs, hne, _, _, _, _, hb1⟩
  have Hb1 := Lib.hid hb1
  obtain ⟨e, he⟩ : ∃ e, implyE l m = e := ⟨_, rfl⟩
  rw [he] at hs hne ⊢
  have Tx : Hid (Told l m x e) := Lib.hid ⟨he, fun h => ⟨ox, hs h⟩, fun h => (hne h).1⟩
  clear hb1 hs hne he
  go_wp2_with fail
  refine (implies_any _ _ m n mx w1 (H1.out.below stays_req Hb1.out) (H2.out.below stays_req Hb1.out) hml hnl Okm.out Okn.out (Hm.out.below Hb1.out)).mono ?_
  rintro E w2 ⟨vy, oy, y, rfl, hs, hne, _, _, _, _, hb2⟩
  have Hb2 := Lib.hid (Hb1.out.trans (hb2.mono Hb1.out.size))
  obtain ⟨f, he⟩ : ∃ e, implyE m n = e := ⟨_, rfl⟩
  rw [he] at hs hne ⊢
  have Ty : Hid (Told m n y f) := Lib.hid ⟨he, fun h => ⟨oy, hs h⟩, fun h => (hne h).1⟩
  clear hb2 hs hne he
  go_wp2_with fail
  refine (implies_any _ _ l n mx w2 (H0.out.below stays_req Hb2.out) (H2.out.below stays_req Hb2.out) hll hnl Okl.out Okn.out (Hm.out.below Hb2.out)).mono ?_
  rintro E w3 ⟨vz, oz, z, rfl, hs, hne, _, _, _, _, hb3⟩
  have Hb3 := Lib.hid (Hb2.out.trans (hb3.mono Hb2.out.size))
  obtain ⟨g, he⟩ : ∃ e, implyE l n = e := ⟨_, rfl⟩
  rw [he] at hs hne ⊢
  have Tz : Hid (Told l n z g) := Lib.hid ⟨he, fun h => ⟨oz, hs h⟩, fun h => (hne h).1⟩
  clear hb3 hs hne he
  go_wp2_with fail
  refine (implies_any _ _ l l mx w3 (H0.out.below stays_req Hb3.out) (H0.out.below stays_req Hb3.out) hll hll Okl.out Okl.out (Hm.out.below Hb3.out)).mono ?_
  rintro E w4 ⟨vt, ot, t, rfl, hs, hne, _, _, _, _, hb4⟩
  have Hb4 := Lib.hid (Hb3.out.trans (hb4.mono Hb3.out.size))
  obtain ⟨h, he⟩ : ∃ e, implyE l l = e := ⟨_, rfl⟩
  rw [he] at hs hne ⊢
  have Tt : Hid (Told l l t h) := Lib.hid ⟨he, fun h => ⟨ot, hs h⟩, fun h => (hne h).1⟩
  clear hb4 hs hne he
  go_wp2_with fail
  refine (strange_any mx w4 (Hm.out.below Hb4.out)).mono ?_
  rintro E w5 ⟨rfl, hb5⟩
  have Hb5 := Lib.hid (Hb4.out.trans (hb5.mono Hb4.out.size))
  clear hb5
  by_cases hh : h = 0
  · subst hh
    have hel : reqsE l = 0 := (implyE_zero.1 Tt.out.code).1
    have hgl := (goods_of hel).1
    obtain ⟨o4, h4⟩ := Tt.out.ok rfl
    have ht := imply_self hgl h4
    subst ht
    have hxyz : e = 0 → f = 0 → x = true → y = true → z = true := fun h1 h2 h3 h4 => by
      subst h1
      subst h2
      subst h3
      subst h4
      have hem := (implyE_zero.1 Tx.out.code).2
      have hen := (implyE_zero.1 Ty.out.code).2
      have hg0 : g = 0 := by rw [← Tz.out.code]; exact implyE_zero.2 ⟨hel, hen⟩
      obtain ⟨o1, k1⟩ := Tx.out.ok rfl
      obtain ⟨o2, k2⟩ := Ty.out.ok rfl
      obtain ⟨o3, k3⟩ := Tz.out.ok hg0
      exact imply_on (goods_of hem).1 (goods_of hen).1 k1 k2 k3
    have hgz : g ≠ 0 → z = false := Tz.out.no
    have Hgl := Lib.hid hgl
    have way1 : ((e == 0) = false) ∨ (e = 0 ∧ (f == 0) = false) ∨ (e = 0 ∧ f = 0 ∧ x = false) ∨ (e = 0 ∧ f = 0 ∧ x = true ∧ y = false) ∨ (e = 0 ∧ f = 0 ∧ x = true ∧ y = true ∧ z = true) := by
      rw [beq_eq_false_iff_ne, beq_eq_false_iff_ne]
      by_cases h1 : e = 0
      · by_cases h2 : f = 0
        · cases hx : x with
          | false => exact .inr (.inr (.inl ⟨h1, h2, rfl⟩))
          | true =>
            cases hy : y with
            | false => exact .inr (.inr (.inr (.inl ⟨h1, h2, rfl, rfl⟩)))
            | true => exact .inr (.inr (.inr (.inr ⟨h1, h2, rfl, rfl, hxyz h1 h2 hx hy⟩)))
        · exact .inr (.inl ⟨h1, h2⟩)
      · exact .inl h1
    have way2 : g = 0 ∨ ((g == 0) = false ∧ (g != 0) = true ∧ z = false) := by
      rw [beq_eq_false_iff_ne, bne_iff_ne]
      by_cases h1 : g = 0
      · exact .inl h1
      · exact .inr ⟨h1, h1, hgz h1⟩
    clear hxyz hgz hel hgl h4 Tx Ty Tz Tt
    go_upto_region 9 with fail
    go_cut [90] (fun u90 wx => u90 = .bool false ∧ w5 = wx)
    case first =>
      rcases way1 with p1 | ⟨rfl, p1⟩ | ⟨rfl, rfl, rfl⟩ | ⟨rfl, rfl, rfl, rfl⟩ | ⟨rfl, rfl, rfl, rfl, rfl⟩
      all_goals
        rcases way2 with rfl | ⟨p2, p3, p4⟩
        · go_wp2_with fail
          go_meet
          exact ⟨rfl, rfl⟩
        · first
            | (cases p4; done)
            | (subst p4
               go_wp2_with fail
               go_meet
               exact ⟨rfl, rfl⟩)
    case rest =>
    obtain ⟨rfl, rfl⟩ := hcut
    clear way1 way2
    go_wp2_with fail
    refine (copyReq_any (flat_atW w ReqR) (one_atW w one_req) _ l w5 (Hat0.out.below (flat_atW w ReqR).stays Hb5.out) hll).mono ?_
    rintro E w6 ⟨vc, rfl, hown, hb6⟩
    have Hown := Lib.hid (hown.mono Hb5.out.size)
    have Hb6 := Lib.hid (Hb5.out.trans (hb6.mono Hb5.out.size))
    have Hat6 := Lib.hid (Hat2.out.below (flat_atW w ReqR).stays Hb6.out)
    clear hown hb6
    go_wp2_with (at_builtin; refine wpList_append_ownAt (R := AtW w ReqR) (k := 3) (e := 33) (B := w.heap.size) (l := l) (m := n) _ (by rfl) _ _ _ (by rfl) i0 _ 48 Tryd.underlying22 hi0 hz0 hz1 hz2 rfl (by omega) (flat_atW w ReqR) (one_atW w one_req) _ (by rfl) Hown.out _ (by rfl) Hat6.out (by unfold maxLen; omega) (by omega) Hb6.out.size ?_)
    intro vb w7 hvb hg hr _
    have Hb7 := Lib.hid (below_of_grown Hb6.out Hb6.out.size hg hr)
    have Hvb := Lib.hid hvb
    clear hvb hg hr
    go_wp2_with fail
    refine (implies_any _ _ (l ++ n) l mx w7 (Hvb.out.row.ofW stays_req Hb7.out) (H0.out.below stays_req Hb7.out) (by rw [List.length_append]; exact hln) hll (fun q hq => (List.mem_append.1 hq).elim (Okl.out q) (Okn.out q)) Okl.out (Hm.out.below Hb7.out)).mono ?_
    rintro E w8 ⟨v8, o8, is, rfl, hs, _, _, _, _, _, hb8⟩
    have Hb8 := Lib.hid (Hb7.out.trans (hb8.mono Hb7.out.size))
    obtain ⟨k, he⟩ : ∃ e, implyE (l ++ n) l = e := ⟨_, rfl⟩
    rw [he] at hs ⊢
    clear hb8 he
    by_cases hk : k = 0
    · subst hk
      have his := imply_more Hgl.out (hs rfl)
      subst his
      clear hs
      go_wp2_with fail
      go_ret
      exact ⟨rfl, Hb8.out⟩
    · have q1 : (k == 0) = false := by rw [beq_eq_false_iff_ne]; exact hk
      have q2 : (k != 0) = true := by rw [bne_iff_ne]; exact hk
      clear hs hk
      go_wp2_with fail
      go_ret
      exact ⟨rfl, Hb8.out⟩
  · have q1 : (h == 0) = false := by rw [beq_eq_false_iff_ne]; exact hh
    have q2 : (h != 0) = true := by rw [bne_iff_ne]; exact hh
    have hl0 : reqsE l ≠ 0 := fun h9 => hh (by rw [← Tt.out.code]; exact implyE_zero.2 ⟨h9, h9⟩)
    have ht := Tt.out.no hh
    have hx := Tx.out.no (fun h9 => hl0 (implyE_zero.1 (Tx.out.code.trans h9)).1)
    have hz := Tz.out.no (fun h9 => hl0 (implyE_zero.1 (Tz.out.code.trans h9)).1)
    subst ht
    subst hx
    subst hz
    clear hh hl0
    go_wp2_with fail
    go_ret
    exact ⟨rfl, Hb5.out⟩
end Go.Proofs.YtjhaopkhpmkkiaaDoor
