/- quota: where a limit is: the binary search's contract. -/
import Derived.Test.YtkkfnihdnclgiaaQuotaCheck
namespace Go.Proofs.Ytkkfnihdnclgiaa
open Go.RowKit

/-- rising, by what they limit -/
def risingL (l : List GLimit) : Prop := ∀ (i j : Nat) (x y : GLimit), i < j → l[i]? = some x → l[j]? = some y → lessB x.what y.what = true
def limV (x : GLimit) : Value := .agg #[.string x.what, .int .i64 x.hard, .int .i64 x.used]
/-- what the search says -/
def FoundAt (l : List GLimit) (s : ByteArray) (w : World) (e : Ending) (w' : World) : Prop :=
  ∃ (k : Nat) (f : Bool), e = .returned (.tuple #[.int .i64 (k : Int), .bool f]) ∧ k ≤ l.length ∧ (f = true → ∃ x, l[k]? = some x ∧ x.what = s) ∧ (f = false → ∀ x ∈ l, x.what ≠ s) ∧ Below w.heap.size w w'
set_option maxRecDepth 100000 in
theorem limCmp_any (x : GLimit) (s : ByteArray) (w : World) : Calls Try.prog 64 #[limV x, .string s] w fun e w' => e = .returned (.int .i64 (cmpB x.what s)) ∧ Below w.heap.size w w' := by
  unfold limV
  go_enter Try.func64, Try.ntmps64
  go_wp2_with (go_at_call 65; refine (cmpStr_any _ _ _).mono ?_; rintro e w' ⟨rfl, rfl⟩)
  go_ret
  exact ⟨rfl, (Below.refl _ _).alloc (Nat.le_refl _) _⟩

set_option maxRecDepth 100000 in
set_option maxHeartbeats 800000 in
theorem limFind_any (v : Value) (l : List GLimit) (s : ByteArray) (w : World) (h : RowAt LimitR 3 w v l) (hl : l.length ≤ 1048576) (hr : risingL l) :
    Calls Try.prog 63 #[v, .string s, .func (.func 64) #[] #[]] w (FoundAt l s w) := by
  obtain ⟨ao, c, rfl, _, _⟩ := h.len
  have H := Lib.hid h
  have Hr := Lib.hid hr
  clear h hr
  go_enter Try.func63, Try.ntmps63
  go_wp2_with fail
  go_loopg [9, 10] l.length (fun g u9 u10 wr => ∃ i j : Nat, u9 = .int .i64 (i : Int) ∧ u10 = .int .i64 (j : Int) ∧ Hid (i + g = j) ∧ i ≤ j ∧ j ≤ l.length ∧ Hid (∀ k x, k < i → l[k]? = some x → lessB x.what s = true) ∧ Hid (∀ k x, j ≤ k → l[k]? = some x → lessB x.what s = false) ∧ Below w.heap.size w wr)
  case atStart => exact ⟨0, l.length, rfl, rfl, Lib.hid (by omega), by omega, Nat.le_refl _, Lib.hid (fun k x hk => by omega), Lib.hid (fun k x hk hx => by have := (List.getElem?_eq_some_iff.1 hx).1; omega), Below.refl _ _⟩
  case round =>
    obtain ⟨i, j, rfl, rfl, Hg, hij, hjl, Hlo, Hhi, hbel⟩ := hrel
    have hs0 := hbel.size
    by_cases hlt : i < j
    · obtain ⟨h, hh⟩ : ∃ h, h = (i + j) / 2 := ⟨_, rfl⟩
      have h1 : i ≤ h := by omega
      have h2 : h < j := by omega
      have r1 : ((i : Int) + (j : Int)) / 2 = (h : Int) := by omega
      obtain ⟨x, hx⟩ : ∃ x, l[h]? = some x := ⟨l[h]'(by omega), List.getElem?_eq_getElem _⟩
      obtain ⟨b, o, c', hv, _, _, hbs, hcell⟩ := H.out.form (by omega) (by omega)
      cases hv
      obtain ⟨cs, _, hcc, hR, _, _⟩ := hcell h x hx
      subst hR
      have e0 : wr.cell? ⟨b, o + h * 3, none⟩ = some (.string x.what) := (hbel.cell (p := ⟨b, _, none⟩) hbs).trans (by simpa using hcc 0 _ rfl)
      have e1 : wr.cell? ⟨b, o + h * 3 + 1, none⟩ = some (.int .i64 x.hard) := (hbel.cell (p := ⟨b, _, none⟩) hbs).trans (hcc 1 _ rfl)
      have e2 : wr.cell? ⟨b, o + h * 3 + 2, none⟩ = some (.int .i64 x.used) := (hbel.cell (p := ⟨b, _, none⟩) hbs).trans (hcc 2 _ rfl)
      have q1 : (i : Int) < (j : Int) := by omega
      have q2 : i < j := hlt
      have q3 : (0 : Int) ≤ (h : Int) := by omega
      have q4 : (h : Int) < (l.length : Int) := by omega
      have Hx := Lib.hid hx
      have Hbel := Lib.hid hbel
      have Hgg : Hid (j = i + gk) := Lib.hid (by have := Hg.out; omega)
      obtain ⟨cm, Hcm⟩ : ∃ cm, Hid (cmpB x.what s = cm) := ⟨_, Lib.hid rfl⟩
      clear hcc hcell hx hbel hh Hg hlt
      cases gk with
      | zero => have := Hgg.out; omega
      | succ g =>
        go_wp2_with fail
        refine (limCmp_any x s wr).mono ?_
        rintro E w1 ⟨rfl, hb1⟩
        have Hb1 := Lib.hid (Hbel.out.trans (hb1.mono hs0))
        rw [Hcm.out]
        clear hb1 e0 e1 e2
        by_cases hless : lessB x.what s = true
        · have hc : cm = -1 := by rw [← Hcm.out]; unfold cmpB; rw [if_pos hless]
          subst hc
          have Hless := Lib.hid hless
          clear hless
          go_wp2_with fail
          go_roundg (j - (h + 1))
          case measure => have := Hgg.out; omega
          case rel =>
            refine ⟨h + 1, j, by go_num, rfl, Lib.hid (by omega), by omega, hjl, Lib.hid (fun k y hk hy => ?_), Hhi, Hb1.out⟩
            rcases Nat.lt_or_ge k h with hkh | hkh
            · exact lessB_trans (Hr.out k h y x hkh hy Hx.out) Hless.out
            · have : k = h := by omega
              subst this
              rw [Hx.out] at hy
              cases hy
              exact Hless.out
        · have hless2 : lessB x.what s = false := by simpa using hless
          have hc : ¬ cm < 0 := by rw [← Hcm.out]; unfold cmpB; rw [if_neg hless]; split <;> omega
          have Hless := Lib.hid hless2
          clear hless hless2
          go_wp2_with fail
          go_roundg (h - i)
          case measure => have := Hgg.out; omega
          case rel =>
            refine ⟨i, h, rfl, rfl, Lib.hid (by omega), h1, by omega, Hlo, Lib.hid (fun k y hk hy => ?_), Hb1.out⟩
            rcases Nat.lt_or_ge h k with hkh | hkh
            · cases hys : lessB y.what s with
              | false => rfl
              | true =>
                have := lessB_trans (Hr.out h k x y hkh Hx.out hy) hys
                rw [Hless.out] at this
                cases this
            · have : k = h := by omega
              subst this
              rw [Hx.out] at hy
              cases hy
              exact Hless.out
    · obtain rfl : i = j := by omega
      have Hbel := Lib.hid hbel
      have q2 : ¬ i < i := by omega
      by_cases hin : i < l.length
      · obtain ⟨x, hx⟩ : ∃ x, l[i]? = some x := ⟨l[i]'(by omega), List.getElem?_eq_getElem _⟩
        obtain ⟨b, o, c', hv, _, _, hbs, hcell⟩ := H.out.form (by omega) (by omega)
        cases hv
        obtain ⟨cs, _, hcc, hR, _, _⟩ := hcell i x hx
        subst hR
        have e0 : wr.cell? ⟨b, o + i * 3, none⟩ = some (.string x.what) := (hbel.cell (p := ⟨b, _, none⟩) hbs).trans (by simpa using hcc 0 _ rfl)
        have e1 : wr.cell? ⟨b, o + i * 3 + 1, none⟩ = some (.int .i64 x.hard) := (hbel.cell (p := ⟨b, _, none⟩) hbs).trans (hcc 1 _ rfl)
        have e2 : wr.cell? ⟨b, o + i * 3 + 2, none⟩ = some (.int .i64 x.used) := (hbel.cell (p := ⟨b, _, none⟩) hbs).trans (hcc 2 _ rfl)
        have q3 : (0 : Int) ≤ (i : Int) := by omega
        have q4 : (i : Int) < (l.length : Int) := by omega
        have Hx := Lib.hid hx
        have hns : lessB x.what s = false := Hhi.out i x (Nat.le_refl _) hx
        obtain ⟨cm, Hcm⟩ : ∃ cm, Hid (cmpB x.what s = cm) := ⟨_, Lib.hid rfl⟩
        have Hns := Lib.hid hns
        clear hcc hcell hx hbel hlt hns
        go_wp2_with fail
        refine (limCmp_any x s wr).mono ?_
        rintro E w1 ⟨rfl, hb1⟩
        have Hb1 := Lib.hid (Hbel.out.trans (hb1.mono hs0))
        rw [Hcm.out]
        clear hb1 e0 e1 e2
        go_wp2_with fail
        go_ret2
        refine ⟨i, (cm == 0), rfl, hjl, fun hf => ⟨x, Hx.out, ?_⟩, fun hf y hy e => ?_, Hb1.out⟩
        · have hc0 : cm = 0 := by simpa using hf
          have := Hcm.out
          rw [hc0] at this
          unfold cmpB at this
          rw [if_neg (by rw [Hns.out]; simp)] at this
          split at this
          · rename_i h9
            exact toList_inj (by simpa using h9)
          · omega
        · have hc0 : cm ≠ 0 := by simpa using hf
          obtain ⟨k, hk⟩ := List.getElem?_of_mem hy
          rcases Nat.lt_trichotomy k i with h1 | h1 | h1
          · have := Hlo.out k y h1 hk
            rw [e, lessB_irrefl] at this
            cases this
          · subst h1
            rw [Hx.out] at hk
            cases hk
            apply hc0
            rw [← Hcm.out]
            unfold cmpB
            rw [e, if_neg (by rw [lessB_irrefl]; simp), if_pos (by simp)]
          · have := Hr.out i k x y h1 Hx.out hk
            rw [e, Hns.out] at this
            cases this
      · have q3 : ¬ (i : Int) < (l.length : Int) := by omega
        have q4 : decide ((i : Int) < (l.length : Int)) = false := by rw [decide_eq_false_iff_not]; exact q3
        have q5 : decide (i < l.length) = false := by rw [decide_eq_false_iff_not]; exact hin
        clear hbel hlt
        go_wp2_with fail
        go_ret2
        refine ⟨i, false, rfl, hjl, fun hf => (by cases hf), fun _ y hy e => ?_, Hbel.out⟩
        obtain ⟨k, hk⟩ := List.getElem?_of_mem hy
        have hkl := (List.getElem?_eq_some_iff.1 hk).1
        have := Hlo.out k y (by omega) hk
        rw [e, lessB_irrefl] at this
        cases this
end Go.Proofs.Ytkkfnihdnclgiaa
