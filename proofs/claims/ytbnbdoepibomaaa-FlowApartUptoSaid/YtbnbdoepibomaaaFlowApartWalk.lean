/- The walk of the law FlowApart: hands of cards that differ; two seeds below the number of all hands give two hands. -/
import Derived.Test.YtbnbdoepibomaaaFlowHand
import Derived.Test.YtbnbdoepibomaaaRest
import Derived.Test.YtbnbdoepibomaaaHold
import Derived.Deep.QuietTactic
import Derived.BigQuiet
namespace Go.Proofs.Ytbnbdoepibomaaa
open Go.RowKit FlowP

def eqI (l m : List Int) : Bool := decide (l.length = m.length) && (l.zip m).all fun p => p.1 == p.2
theorem eqI_iff (l m : List Int) : eqI l m = true ↔ l = m := by
  unfold eqI
  rw [Bool.and_eq_true, decide_eq_true_iff, List.all_eq_true]
  constructor
  · rintro ⟨h1, h2⟩
    apply List.ext_getElem h1
    intro i hi hj
    have := h2 (l[i], m[i]) (List.mem_of_getElem? (i := i) (by rw [List.getElem?_zip_eq_some]; exact ⟨List.getElem?_eq_getElem hi, List.getElem?_eq_getElem hj⟩))
    simpa using this
  · rintro rfl
    refine ⟨rfl, fun p hp => ?_⟩
    obtain ⟨i, hi⟩ := List.getElem?_of_mem hp
    rw [List.getElem?_zip_eq_some] at hi
    have h1 := hi.1.symm.trans hi.2
    simp only [Option.some.injEq] at h1
    rw [h1]; simp
theorem eqI_no {l m : List Int} {i : Nat} {x y : Int} (hx : l[i]? = some x) (hy : m[i]? = some y) (h : x ≠ y) : eqI l m = false := by
  cases h1 : eqI l m with
  | false => rfl
  | true => rw [eqI_iff] at h1; subst h1; rw [hx] at hy; cases hy; exact absurd rfl h
theorem eqI_yes {l m : List Int} (h : l.length = m.length) (k : ∀ (i : Nat) (x y : Int), i < l.length → l[i]? = some x → m[i]? = some y → x = y) : eqI l m = true := by
  rw [eqI_iff]
  apply List.ext_getElem h
  intro i hi hj
  exact k i _ _ hi (List.getElem?_eq_getElem hi) (List.getElem?_eq_getElem hj)
set_option maxRecDepth 100000 in
set_option maxHeartbeats 800000 in
theorem eqInts_any (v1 v2 : Value) (l m : List Int) (w : World) (h1 : RowAt RI 1 w v1 l) (h2 : RowAt RI 1 w v2 m) (hl : l.length ≤ 1048576) (hm : m.length ≤ 1048576) :
    Calls Try.prog 14 #[v1, v2] w fun e w' => e = .returned (.bool (eqI l m)) ∧ w = w' := by
  obtain ⟨a1, c1, rfl, _, _⟩ := h1.len
  obtain ⟨a2, c2, rfl, _, _⟩ := h2.len
  have H1 := Lib.hid h1
  have H2 := Lib.hid h2
  clear h1 h2
  by_cases hlen : l.length = m.length
  · have q1 : ((l.length : Int) != (m.length : Int)) = false := by rw [bne_eq_false_iff_eq]; omega
    have Hlen := Lib.hid hlen
    clear hlen
    go_enter Try.func14, Try.ntmps14
    go_wp2_with fail
    clear q1
    go_loopg [14] l.length (fun g u14 wr => ∃ i : Nat, i + g = l.length ∧ u14 = .int .i64 (i : Int) ∧ Hid (∀ (k : Nat) (x y : Int), k < i → l[k]? = some x → m[k]? = some y → x = y) ∧ w = wr)
    case atStart => exact ⟨0, by omega, rfl, Lib.hid (fun k _ _ hk => by omega), rfl⟩
    case round =>
      obtain ⟨i, hig, rfl, Hall, rfl⟩ := hrel
      cases gk with
      | zero =>
        obtain rfl : i = l.length := by omega
        have Hyes : Hid (eqI l m = true) := eqI_yes Hlen.out fun k x y hk hx hy => Hall.out k x y hk hx hy
        go_wp2_with fail
        go_ret
        exact ⟨congrArg (fun b => Ending.returned (Value.bool b)) Hyes.out.symm, rfl⟩
      | succ g =>
        have hil : i < l.length := by omega
        have him : i < m.length := by have := Hlen.out; omega
        obtain ⟨x, hx⟩ : ∃ x, l[i]? = some x := ⟨l[i]'(by omega), List.getElem?_eq_getElem _⟩
        obtain ⟨y, hy⟩ : ∃ y, m[i]? = some y := ⟨m[i]'(by omega), List.getElem?_eq_getElem _⟩
        obtain ⟨b, o, c', hv, _, _, hbs, hcell⟩ := H1.out.form (by omega) (by omega)
        cases hv
        obtain ⟨cs, _, hcc, hR, _⟩ := hcell i x hx
        subst hR
        obtain ⟨b', o', c'', hv, _, _, hbs', hcell'⟩ := H2.out.form (by omega) (by omega)
        cases hv
        obtain ⟨cs', _, hcc', hR', _⟩ := hcell' i y hy
        subst hR'
        have e0 : w.cell? ⟨b, o + i, none⟩ = some (.int .i64 x) := by simpa using hcc 0 _ rfl
        have f0 : w.cell? ⟨b', o' + i, none⟩ = some (.int .i64 y) := by simpa using hcc' 0 _ rfl
        have q1 : (0 : Int) ≤ (i : Int) := by omega
        have q2 : (i : Int) < (l.length : Int) := by omega
        have q3 : (i : Int) < (m.length : Int) := by omega
        have Hx := Lib.hid hx
        have Hy := Lib.hid hy
        clear hcc hcc' hcell hcell' hx hy
        by_cases he : x = y
        · have Hall2 : Hid (∀ (k : Nat) (x y : Int), k < i + 1 → l[k]? = some x → m[k]? = some y → x = y) := Lib.hid fun k x' y' hk hx' hy' => by
            rcases Nat.lt_or_ge k i with h | h
            · exact Hall.out k x' y' h hx' hy'
            · obtain rfl : k = i := by omega
              have a := Hx.out; have b := Hy.out
              rw [a] at hx'; rw [b] at hy'
              cases hx'; cases hy'
              exact he
          have q4 : (x != y) = false := by rw [bne_eq_false_iff_eq]; exact he
          clear he
          go_wp2_with fail
          go_roundg g
          case measure => omega
          case rel => exact ⟨i + 1, by omega, by go_num, Hall2, rfl⟩
        · have Hno : Hid (eqI l m = false) := Lib.hid (eqI_no Hx.out Hy.out he)
          have q4 : (x != y) = true := by rw [bne_iff_ne]; exact he
          clear he
          go_wp2_with fail
          go_ret
          exact ⟨congrArg (fun b => Ending.returned (Value.bool b)) Hno.out.symm, rfl⟩
  · have q1 : ((l.length : Int) != (m.length : Int)) = true := by rw [bne_iff_ne]; omega
    have Hno : Hid (eqI l m = false) := by show _ = _; unfold eqI; rw [decide_eq_false hlen, Bool.false_and]
    clear hlen
    go_enter Try.func14, Try.ntmps14
    go_wp2_with fail
    go_ret
    exact ⟨congrArg (fun b => Ending.returned (Value.bool b)) Hno.out.symm, rfl⟩
set_option maxRecDepth 100000 in
theorem hasInt_no (v : Value) (l : List Int) (x : Int) (w : World) (h : RowAt RI 1 w v l) (hl : l.length ≤ 1048576) (hx : x ∉ l) :
    Calls Try.prog 15 #[v, .int .i64 x] w fun e w' => e = .returned (.bool false) ∧ w = w' := by
  obtain ⟨a1, c1, rfl, _, _⟩ := h.len
  have H1 := Lib.hid h
  have Hx := Lib.hid hx
  clear h hx
  go_enter Try.func15, Try.ntmps15
  go_wp2_with fail
  go_loopg [9] l.length (fun g u9 wr => ∃ i : Nat, i + g = l.length ∧ u9 = .int .i64 (i : Int) ∧ w = wr)
  case atStart => exact ⟨0, by omega, rfl, rfl⟩
  case round =>
    obtain ⟨i, hig, rfl, rfl⟩ := hrel
    cases gk with
    | zero =>
      obtain rfl : i = l.length := by omega
      go_wp2_with fail
      go_ret
      exact ⟨rfl, rfl⟩
    | succ g =>
      have hil : i < l.length := by omega
      obtain ⟨y, hy⟩ : ∃ y, l[i]? = some y := ⟨l[i]'(by omega), List.getElem?_eq_getElem _⟩
      obtain ⟨b, o, c', hv, _, _, hbs, hcell⟩ := H1.out.form (by omega) (by omega)
      cases hv
      obtain ⟨cs, _, hcc, hR, _⟩ := hcell i y hy
      subst hR
      have e0 : w.cell? ⟨b, o + i, none⟩ = some (.int .i64 y) := by simpa using hcc 0 _ rfl
      have q1 : (0 : Int) ≤ (i : Int) := by omega
      have q2 : (i : Int) < (l.length : Int) := by omega
      have q3 : (x == y) = false := by
        rw [beq_eq_false_iff_ne]
        rintro rfl
        exact Hx.out (List.mem_of_getElem? hy)
      clear hcc hcell hy
      go_wp2_with fail
      go_roundg g
      case measure => omega
      case rel => exact ⟨i + 1, by omega, by go_num, rfl⟩
theorem hands_le {left : Nat} (hl : left ≤ 64) : ∀ n, hands left n ≤ 64 ^ n := fun n => by
  induction n generalizing left with
  | zero => simp [hands]
  | succ n ih =>
    unfold hands
    rw [Nat.pow_succ, Nat.mul_comm]
    exact Nat.mul_le_mul (ih (by omega)) hl
theorem natsI_inj {l m : List Nat} : natsI l = natsI m ↔ l = m := by
  constructor
  · intro h
    apply List.ext_getElem?
    intro i
    have := congrArg (fun t => t[i]?) h
    simp only [natsI, List.getElem?_map] at this
    cases h1 : l[i]? with
    | none => rw [h1] at this; cases h2 : m[i]? with
      | none => rfl
      | some y => rw [h2] at this; simp at this
    | some x => rw [h1] at this; cases h2 : m[i]? with
      | none => rw [h2] at this; simp at this
      | some y =>
        rw [h2] at this
        have h9 : ((x : Nat) : Int) = (y : Int) := by simpa using this
        have h8 : x = y := by omega
        rw [h8]
  · rintro rfl; rfl
/-- a slice's first things -/
theorem RowAt.takeI {α : Type} {R : Rd α} {k : Nat} {w : World} {ao : Option Addr} {n c : Nat} {l : List α} (h : RowAt R k w (.slice ao n c) l) {i : Nat} (hi : i ≤ l.length) : RowAt R k w (.slice ao i c) (l.take i) := by
  rcases h with ⟨h1, rfl⟩ | ⟨a, c', h1, h2, h3, h4⟩
  · cases h1
    obtain rfl : i = 0 := by simpa using hi
    exact .inl ⟨rfl, by simp⟩
  · injection h1 with u1 u2 u3
    subst u1 u3
    have hlen : (l.take i).length = i := by rw [List.length_take]; omega
    refine .inr ⟨a, c, by rw [hlen], by omega, h3, fun j x hx => ?_⟩
    have hj : j < i := by have := (List.getElem?_eq_some_iff.1 hx).1; omega
    rw [List.getElem?_take_of_lt hj] at hx
    exact h4 j x hx
set_option maxRecDepth 100000 in
set_option maxHeartbeats 1600000 in
theorem flowApart_walk (a b d z : Int) (w : World) (ha : (Lit.int .u64 a).wf = true) (hb : (Lit.int .u64 b).wf = true) (_hd : (Lit.int .i64 d).wf = true) (_hz : (Lit.int .i64 z).wf = true) (_hbulk : 1 + (1 + (1 + (1 + 0))) ≤ 1048576) :
    Calls Try.prog 5 #[.int .u64 a, .int .u64 b, .int .i64 d, .int .i64 z] w fun e w' => e = .returned (.bool true) ∧ Below w.heap.size w w' := by
  have wf64 : ∀ x : Int, (Lit.int .u64 x).wf = true → 0 ≤ x ∧ x ≤ 18446744073709551615 := fun x h => by
    have h1 : (decide ((0 : Int) ≤ x) && decide (x ≤ 18446744073709551615)) = true := h
    simpa using h1
  obtain ⟨ha1, ha2⟩ := wf64 a ha
  obtain ⟨hb1, hb2⟩ := wf64 b hb
  obtain ⟨an, rfl⟩ := Int.eq_ofNat_of_zero_le ha1
  obtain ⟨bn, rfl⟩ := Int.eq_ofNat_of_zero_le hb1
  have hd1 := restOf_in (a := d) (b := 64) (by omega)
  have hz1 := restOf_in (a := z) (b := 6) (by omega)
  obtain ⟨dn, hdn⟩ := Int.eq_ofNat_of_zero_le hd1.1
  obtain ⟨zn, hzn⟩ := Int.eq_ofNat_of_zero_le hz1.1
  rw [hdn] at hd1
  rw [hzn] at hz1
  have Hdn := Lib.hid hdn
  have Hzn := Lib.hid hzn
  clear ha hb wf64 hdn hzn ha1 hb1 _hd _hz _hbulk
  go_enter Try.func5, Try.ntmps5
  go_wp2_with fail
  refine (rest_any d 64 w (by omega) (by omega)).mono ?_
  rw [Hdn.out]
  rintro E w1 ⟨rfl, rfl⟩
  go_wp2_with fail
  refine (rest_any z 6 w (by omega) (by omega)).mono ?_
  rw [Hzn.out]
  rintro E w1 ⟨rfl, rfl⟩
  go_upto_region 4 with fail
  obtain ⟨D, hD⟩ : ∃ D, D = 1 + dn := ⟨_, rfl⟩
  obtain ⟨N, hN⟩ : ∃ N, N = 1 + min zn dn := ⟨_, rfl⟩
  have e1 : (1 + (dn : Int)) = (D : Int) := by omega
  have e2 : (1 + min (zn : Int) (dn : Int)) = (N : Int) := by omega
  rw [e1, e2]
  have hD1 : 1 ≤ D := by omega
  have hD2 : D ≤ 64 := by omega
  have hN1 : 1 ≤ N := by omega
  have hN2 : N ≤ 6 := by omega
  have hN3 : N ≤ D := by omega
  obtain ⟨M, hM⟩ : ∃ M, M = hands D N := ⟨_, rfl⟩
  have hM1 : 1 ≤ M := by rw [hM]; exact hands_pos N D hN3
  have hM2 : M ≤ 68719476736 := by
    rw [hM]
    refine Nat.le_trans (hands_le hD2 N) ?_
    calc 64 ^ N ≤ 64 ^ 6 := Nat.pow_le_pow_right (by omega) hN2
      _ = 68719476736 := by decide
  have HM := Lib.hid hM
  clear e1 e2 hD hN hM hd1 hz1
  go_wp2_with fail
  go_loopg [29, 9] N (fun k u29 u9 wr => ∃ i A : Nat, i + k = N ∧ u29 = .int .i64 (i : Int) ∧ u9 = .int .u64 (A : Int) ∧ Hid (A * hands (D - i) k = M) ∧ w = wr)
  case atStart => exact ⟨0, 1, by omega, rfl, rfl, Lib.hid (by rw [HM.out, Nat.one_mul]; rfl), rfl⟩
  case round =>
    obtain ⟨i, A, hik, rfl, rfl, HA, rfl⟩ := hrel
    cases gk with
    | zero =>
      obtain rfl : i = N := by omega
      have hAM : A = M := by have := HA.out; simpa [hands] using this
      subst hAM
      have hA0 : ((A : Int) == 0) = false := by rw [beq_eq_false_iff_ne]; omega
      have hA1 : ¬ A = 0 := by omega
      have r1 : (an : Int) % (A : Int) = ((an % A : Nat) : Int) := by omega
      have r2 : (bn : Int) % (A : Int) = ((bn % A : Nat) : Int) := by omega
      obtain ⟨am, ham⟩ : ∃ am, am = an % A := ⟨_, rfl⟩
      obtain ⟨bm, hbm⟩ : ∃ bm, bm = bn % A := ⟨_, rfl⟩
      rw [← ham] at r1
      rw [← hbm] at r2
      have r3 : (an : Int).tmod (A : Int) = (am : Int) := by rw [Int.tmod_eq_emod_of_nonneg (by omega)]; exact r1
      have r4 : (bn : Int).tmod (A : Int) = (bm : Int) := by rw [Int.tmod_eq_emod_of_nonneg (by omega)]; exact r2
      have hbm1 : bm < 18446744073709551616 := by rw [hbm]; exact Nat.lt_of_le_of_lt (Nat.mod_le _ _) (by omega)
      have u64w : ∀ m : Nat, m < 18446744073709551616 → IntKind.u64.wrap (m : Int) = (m : Int) := fun m hm => by unfold IntKind.wrap; simp [IntKind.signed, IntKind.bits]; omega
      have ham1 : am < 18446744073709551616 := by rw [ham]; exact Nat.lt_of_le_of_lt (Nat.mod_le _ _) (by omega)
      obtain ⟨X, hX⟩ : ∃ X, X = hand D i an [] := ⟨_, rfl⟩
      obtain ⟨Y, hY⟩ : ∃ Y, Y = hand D i bn [] := ⟨_, rfl⟩
      have hZ : hand D i am [] = X := by rw [ham, HM.out, hX]; exact hand_mod i an hN3
      have hXl : X.length = i := by rw [hX]; exact hand_length ..
      have hYl : Y.length = i := by rw [hY]; exact hand_length ..
      have hcards := hand_cards (decks := D) i an [] List.Pairwise.nil (by simpa using hN3)
      rw [← hX] at hcards
      have hiff : eqI (natsI X) (natsI Y) = decide (am = bm) := by
        rw [Bool.eq_iff_iff, eqI_iff, natsI_inj, decide_eq_true_iff, hX, hY, ham, hbm, HM.out]
        have h9 := hand_inj (decks := D) i an bn [] List.Pairwise.nil (by simpa using hN3)
        exact h9
      have r5 := u64w am ham1
      have r6 := u64w bm hbm1
      clear u64w
      have HX := Lib.hid hX.symm
      have HY := Lib.hid hY.symm
      have HZ := Lib.hid hZ
      have HXl := Lib.hid hXl
      have HYl := Lib.hid hYl
      have Hcards := Lib.hid hcards
      have Hiff := Lib.hid hiff
      have hEx : eqI (natsI X) (natsI X) = true := (eqI_iff _ _).2 rfl
      have HEx := Lib.hid hEx
      clear hX hY hZ hXl hYl hcards hiff hEx ham hbm HA
      go_wp2_with fail
      refine (hand_any an D i w (by omega) hD1 hD2 hN1 hN2 hN3).mono ?_
      unfold HandAt
      rw [HX.out]
      rintro E w1 ⟨vx, rfl, hrx, hb1⟩
      obtain ⟨ax, cx, rfl, hcx, _⟩ := hrx.len
      rw [natsI_length, HXl.out] at hrx hcx ⊢
      have Hrx := Lib.hid hrx
      have Hb1 := Lib.hid hb1
      have hs1 := hb1.size
      clear hrx hb1
      go_wp2_with fail
      refine (hand_any bn D i w1 (by omega) hD1 hD2 hN1 hN2 hN3).mono ?_
      unfold HandAt
      rw [HY.out]
      rintro E w2 ⟨vy, rfl, hry, hb2⟩
      obtain ⟨ay, cy, rfl, _, _⟩ := hry.len
      rw [natsI_length, HYl.out] at hry ⊢
      have Hry := Lib.hid hry
      have Hrx2 := Lib.hid (Hrx.out.below stays_int' hb2)
      have Hb2 := Lib.hid (Hb1.out.trans (hb2.mono hs1))
      have hs2 := Hb2.out.size
      have hs12 := hb2.size
      clear hry hb2 Hrx
      go_wp2_with fail
      refine (hand_any am D i w2 (by omega) hD1 hD2 hN1 hN2 hN3).mono ?_
      unfold HandAt
      rw [HZ.out]
      rintro E w3 ⟨vz, rfl, hrz, hb3⟩
      have Hrz := Lib.hid hrz
      have Hrx3 := Lib.hid (Hrx2.out.below stays_int' hb3)
      have Hry3 := Lib.hid (Hry.out.below stays_int' hb3)
      have Hb3 := Lib.hid (Hb2.out.trans (hb3.mono hs2))
      clear hrz hb3 Hrx2 Hry
      go_wp2_with fail
      refine (eqInts_any _ vz (natsI X) (natsI X) w3 Hrx3.out Hrz.out (by rw [natsI_length, HXl.out]; omega) (by rw [natsI_length, HXl.out]; omega)).mono ?_
      rw [HEx.out]
      rintro E w4 ⟨rfl, rfl⟩
      go_wp2_with fail
      go_loopg [92] i (fun k u92 wr => ∃ j : Nat, j + k = i ∧ u92 = .int .i64 (j : Int) ∧ w3 = wr)
      case atStart => exact ⟨0, by omega, rfl, rfl⟩
      case round =>
        obtain ⟨j, hjk, rfl, rfl⟩ := hrel
        cases gk with
        | zero =>
          obtain rfl : j = i := by omega
          have hC : ∀ q, Calls Try.prog 14 #[.slice ax j cx, .slice ay j cy] (w3.drewN q) fun e w' => e = .returned (.bool (decide (am = bm))) ∧ (w3.drewN q) = w' := fun q => by
            rw [← Hiff.out]
            exact eqInts_any _ _ (natsI X) (natsI Y) _ (Hrx3.out.below stays_int' (drewN_below (Below.refl _ w3) q)) (Hry3.out.below stays_int' (drewN_below (Below.refl _ w3) q)) (by rw [natsI_length, HXl.out]; omega) (by rw [natsI_length, HYl.out]; omega)
          by_cases hab : am = bm
          · have q1 : ((am : Int) == (bm : Int)) = true := by rw [beq_iff_eq]; omega
            rw [decide_eq_true hab] at hC
            have HC := Lib.hid hC
            clear hab hC
            go_wp2_with fail
            refine wp_region_hold 11 (fun w' => ∃ q, w' = w3.drewN q) (by kernel_rfl) (by kernel_rfl) ?_ ?_
            · exact ⟨1, rfl⟩
            simp only [List.take_succ_cons, List.take_zero, List.drop_succ_cons, List.drop_zero]
            (first | (refine wpHold_pure (v := ?_) (by rfl) (fun w => ?_) ?_; rotate_left; focus (first | (go_simp; done) | (go_simp; with_reducible rfl))) | (refine wpHold_skip ?_ ?_; focus (go_simp; done)) | (refine wpHold_pure' (v := ?_) ?_ (fun w => ?_) ?_; rotate_left; focus (go_simp; done); focus (first | (go_simp; done) | (go_simp; with_reducible rfl)))); try simp only [Act.put, List.setIfInBounds_toArray, List.set_cons_zero, List.set_cons_succ]
            (first | (refine wpHold_pure (v := ?_) (by rfl) (fun w => ?_) ?_; rotate_left; focus (first | (go_simp; done) | (go_simp; with_reducible rfl))) | (refine wpHold_skip ?_ ?_; focus (go_simp; done)) | (refine wpHold_pure' (v := ?_) ?_ (fun w => ?_) ?_; rotate_left; focus (go_simp; done); focus (first | (go_simp; done) | (go_simp; with_reducible rfl)))); try simp only [Act.put, List.setIfInBounds_toArray, List.set_cons_zero, List.set_cons_succ]
            refine wpHold_call (v := .bool true) (f := 14) (args := #[.slice ax j cx, .slice ay j cy]) (by rfl) (fun w' => ?_) (fun w' hI => ?_) ?_
            · go_simp
              done
            · obtain ⟨q, rfl⟩ := hI
              exact (HC.out q).mono fun e w'' ⟨h1, h2⟩ => ⟨h1, ⟨q, h2.symm⟩⟩
            try simp only [Act.put, List.setIfInBounds_toArray, List.set_cons_zero, List.set_cons_succ]
            repeat ((first | (refine wpHold_pure (v := ?_) (by rfl) (fun w => ?_) ?_; rotate_left; focus (first | (go_simp; done) | (go_simp; with_reducible rfl))) | (refine wpHold_skip ?_ ?_; focus (go_simp; done)) | (refine wpHold_pure' (v := ?_) ?_ (fun w => ?_) ?_; rotate_left; focus (go_simp; done); focus (first | (go_simp; done) | (go_simp; with_reducible rfl)))); try simp only [Act.put, List.setIfInBounds_toArray, List.set_cons_zero, List.set_cons_succ])
            refine wpHold_nil ?_
            rintro w' ⟨q, rfl⟩
            go_wp2_with fail
            go_ret
            exact ⟨rfl, drewN_below Hb3.out _⟩
          · have q1 : ((am : Int) == (bm : Int)) = false := by rw [beq_eq_false_iff_ne]; omega
            rw [decide_eq_false hab] at hC
            have HC := Lib.hid hC
            clear hab hC
            go_wp2_with fail
            refine wp_region_hold 11 (fun w' => ∃ q, w' = w3.drewN q) (by kernel_rfl) (by kernel_rfl) ?_ ?_
            · exact ⟨1, rfl⟩
            simp only [List.take_succ_cons, List.take_zero, List.drop_succ_cons, List.drop_zero]
            (first | (refine wpHold_pure (v := ?_) (by rfl) (fun w => ?_) ?_; rotate_left; focus (first | (go_simp; done) | (go_simp; with_reducible rfl))) | (refine wpHold_skip ?_ ?_; focus (go_simp; done)) | (refine wpHold_pure' (v := ?_) ?_ (fun w => ?_) ?_; rotate_left; focus (go_simp; done); focus (first | (go_simp; done) | (go_simp; with_reducible rfl)))); try simp only [Act.put, List.setIfInBounds_toArray, List.set_cons_zero, List.set_cons_succ]
            (first | (refine wpHold_pure (v := ?_) (by rfl) (fun w => ?_) ?_; rotate_left; focus (first | (go_simp; done) | (go_simp; with_reducible rfl))) | (refine wpHold_skip ?_ ?_; focus (go_simp; done)) | (refine wpHold_pure' (v := ?_) ?_ (fun w => ?_) ?_; rotate_left; focus (go_simp; done); focus (first | (go_simp; done) | (go_simp; with_reducible rfl)))); try simp only [Act.put, List.setIfInBounds_toArray, List.set_cons_zero, List.set_cons_succ]
            refine wpHold_call (v := .bool false) (f := 14) (args := #[.slice ax j cx, .slice ay j cy]) (by rfl) (fun w' => ?_) (fun w' hI => ?_) ?_
            · go_simp
              done
            · obtain ⟨q, rfl⟩ := hI
              exact (HC.out q).mono fun e w'' ⟨h1, h2⟩ => ⟨h1, ⟨q, h2.symm⟩⟩
            try simp only [Act.put, List.setIfInBounds_toArray, List.set_cons_zero, List.set_cons_succ]
            repeat ((first | (refine wpHold_pure (v := ?_) (by rfl) (fun w => ?_) ?_; rotate_left; focus (first | (go_simp; done) | (go_simp; with_reducible rfl))) | (refine wpHold_skip ?_ ?_; focus (go_simp; done)) | (refine wpHold_pure' (v := ?_) ?_ (fun w => ?_) ?_; rotate_left; focus (go_simp; done); focus (first | (go_simp; done) | (go_simp; with_reducible rfl)))); try simp only [Act.put, List.setIfInBounds_toArray, List.set_cons_zero, List.set_cons_succ])
            refine wpHold_nil ?_
            rintro w' ⟨q, rfl⟩
            go_wp2_with fail
            go_ret
            exact ⟨rfl, drewN_below Hb3.out _⟩
        | succ k =>
          have hji : j < i := by omega
          obtain ⟨c, hcj⟩ : ∃ c, X[j]? = some c := ⟨X[j]'(by rw [HXl.out]; omega), List.getElem?_eq_getElem _⟩
          have hIj : (natsI X)[j]? = some (c : Int) := by unfold natsI; rw [List.getElem?_map, hcj]; rfl
          obtain ⟨bb, o, c', hv, _, _, hbs, hcell⟩ := Hrx3.out.form (by rw [natsI_length, HXl.out]; omega) (by omega)
          injection hv with u1 u2 u3
          subst u1
          obtain ⟨ds, _, hcc, hR, _⟩ := hcell j _ hIj
          subst hR
          have e0 : w3.cell? ⟨bb, o + j, none⟩ = some (.int .i64 (c : Int)) := by simpa using hcc 0 _ rfl
          have q1 : (0 : Int) ≤ (j : Int) := by omega
          have q2 : (j : Int) < (i : Int) := by omega
          have q3 : (j : Int) ≤ (cx : Int) := by omega
          have hcD : c < D := (Hcards.out.1 c (List.mem_of_getElem? hcj)).1
          have hno : (c : Int) ∉ (natsI X).take j := fun h => by
            obtain ⟨m, hm⟩ := List.getElem?_of_mem h
            have hmj : m < j := by have := (List.getElem?_eq_some_iff.1 hm).1; rw [List.length_take] at this; omega
            rw [List.getElem?_take_of_lt hmj] at hm
            unfold natsI at hm
            rw [List.getElem?_map] at hm
            cases hxm : X[m]? with
            | none => rw [hxm] at hm; cases hm
            | some y =>
              rw [hxm] at hm
              have h9 : ((y : Nat) : Int) = (c : Int) := by simpa using hm
              have h8 : y = c := by omega
              subst h8
              have h7 := (List.getElem?_inj (by rw [HXl.out]; omega : m < X.length) Hcards.out.2).1 (hxm.trans hcj.symm)
              omega
          have Htk := Lib.hid (Hrx3.out.takeI (i := j) (by rw [natsI_length, HXl.out]; omega))
          have hjl : j = ((natsI X).take j).length := by rw [List.length_take, natsI_length, HXl.out]; omega
          have Hjl := Lib.hid hjl
          have Hno := Lib.hid hno
          have q4 : ¬ (c : Int) < 0 := by omega
          have q5 : (c : Int) < (D : Int) := by omega
          clear hcc hcell hcj hIj u2 u3 hno hjl
          go_wp2_with fail
          refine (hasInt_no _ _ (c : Int) w3 Htk.out (by rw [← Hjl.out]; omega) Hno.out).mono ?_
          rintro E w5 ⟨rfl, rfl⟩
          go_wp2_with fail
          go_roundg k
          case measure => omega
          case rel => exact ⟨j + 1, by omega, by go_num, rfl⟩
    | succ k =>
      obtain ⟨lf, hlf⟩ : ∃ lf, lf = D - i := ⟨_, rfl⟩
      have r0 : (D : Int) - (i : Int) = (lf : Int) := by omega
      have hstep : A * lf * hands (D - (i + 1)) k = M := by
        have h9 := HA.out
        unfold hands at h9
        rw [← hlf, ← Nat.mul_assoc] at h9
        rw [show D - (i + 1) = lf - 1 by omega]
        exact h9
      have hpos := hands_pos k (D - (i + 1)) (by omega)
      have hAl : A * lf ≤ M := by rw [← hstep]; exact Nat.le_mul_of_pos_right _ hpos
      obtain ⟨A2, hA2⟩ : ∃ A2, A2 = A * lf := ⟨_, rfl⟩
      rw [← hA2] at hstep hAl
      have r1 : (A : Int) * (lf : Int) = (A2 : Int) := by rw [hA2]; simp
      have r2 : IntKind.u64.wrap (A2 : Int) = (A2 : Int) := by unfold IntKind.wrap; simp [IntKind.signed, IntKind.bits]; omega
      have Hstep := Lib.hid hstep
      have hlf64 : lf ≤ 64 := by omega
      clear hA2 hstep hlf hpos HA
      go_wp2_with fail
      go_roundg k
      case measure => omega
      case rel => exact ⟨i + 1, A2, by omega, by go_num, rfl, Hstep, rfl⟩
end Go.Proofs.Ytbnbdoepibomaaa
