/- The walk of the law FinalOnce. -/
import Derived.Test.YteadfpbkhledlaaFinalOncePlain
import Derived.Test.YteadfpbkhledlaaHasStr
import Derived.Test.YteadfpbkhledlaaCopyStr
import Derived.Test.YteadfpbkhledlaaRest
import Derived.Deep.DeepCutAuto
namespace Go.Proofs.Yteadfpbkhledlaa
open Go.RowKit

theorem own_form' {w : World} {B n : Nat} {e : TypeId} {v : Value} {xs : List Value} (h : w.ownsRow B e 1 v n xs) : ∃ a c, v = .slice a n c := by
  rcases h.2 with ⟨rfl, rfl⟩ | ⟨g, cap, cur, rfl, _⟩
  · exact ⟨_, _, rfl⟩
  · exact ⟨_, _, rfl⟩
/-- each in one cell -/
def One3 (a b c : Value) : Prop := a.oneCell' = true ∧ b.oneCell' = true ∧ c.oneCell' = true
theorem OwnAt.one {α : Type} {R : Rd α} {k : Nat} {w : World} {B : Nat} {e : TypeId} {v : Value} {l : List α} (h : OwnAt R k w B e v l) : v.oneCell' = true := by
  rcases h.form with ⟨rfl, _⟩ | ⟨g, c, rfl, _⟩ <;> rfl
theorem ObjOwn.one3 {w : World} {B : Nat} {vl vo vh : Value} {labels : List GLabel} {owners holds : List ByteArray} (h : ObjOwn w B vl vo vh labels owners holds) : One3 vl vo vh := ⟨h.1.one, h.2.1.one, h.2.2.1.one⟩
theorem ObjOwn.touchType {w W : World} {B g : Nat} {c : Array Value} {vl vo vh : Value} {labels : List GLabel} {owners holds : List ByteArray} (h : ObjOwn w B vl vo vh labels owners holds) (ht : Touch g w W)
    (hg : w.heap[g]? = some (.cells c 52 (0, 0))) : ObjOwn W B vl vo vh labels owners holds :=
  ⟨h.1.touch flat_label ht fun q hq e => by obtain ⟨_, _, cur, h1⟩ := h.1.at hq; rw [e, hg] at h1; revert h1; simp,
   h.2.1.touch flat_string ht fun q hq e => by obtain ⟨_, _, cur, h1⟩ := h.2.1.at hq; rw [e, hg] at h1; revert h1; simp,
   h.2.2.1.touch flat_string ht fun q hq e => by obtain ⟨_, _, cur, h1⟩ := h.2.2.1.at hq; rw [e, hg] at h1; revert h1; simp, h.2.2.2⟩
/-- the law's object lies in its box, with these who hold it -/
def OnceAt (w wr : World) (k : GKey) (u : ByteArray) (r : Int) (d : ByteArray) (labels : List GLabel) (owners : List ByteArray) (e : Bool) (hs : List ByteArray) : Prop :=
  ∃ al cl ao co ah ch, wr.heap[w.heap.size]? = some (.cells #[.string k.kind, .string k.space, .string k.name, .slice al labels.length cl, .slice ao owners.length co, .slice ah hs.length ch, .bool e, .string u, .int .i64 r, .string d] 52 (0, 0)) ∧
    ObjAt wr (.slice al labels.length cl) (.slice ao owners.length co) (.slice ah hs.length ch) labels owners hs ∧ Below w.heap.size w wr
theorem OnceAt.mk {w wr : World} {k : GKey} {u : ByteArray} {r : Int} {d : ByteArray} {labels : List GLabel} {owners : List ByteArray} {e : Bool} {hs : List ByteArray} {vl vo vh : Value}
    (h : wr.heap[w.heap.size]? = some (.cells #[.string k.kind, .string k.space, .string k.name, vl, vo, vh, .bool e, .string u, .int .i64 r, .string d] 52 (0, 0))) (ho : ObjAt wr vl vo vh labels owners hs) (hb : Below w.heap.size w wr) : OnceAt w wr k u r d labels owners e hs := by
  obtain ⟨al, cl, rfl, _, _⟩ := ho.1.len
  obtain ⟨ao, co, rfl, _, _⟩ := ho.2.1.len
  obtain ⟨ah, ch, rfl, _, _⟩ := ho.2.2.1.len
  exact ⟨al, cl, ao, co, ah, ch, h, ho, hb⟩

set_option maxRecDepth 100000 in
set_option maxHeartbeats 1600000 in
theorem finalOnce_walk (k : GKey) (vl vo vh : Value) (e : Bool) (u : ByteArray) (r : Int) (d : ByteArray) (labels : List GLabel) (owners holds : List ByteArray) (v : Value) (l : List ByteArray) (a : Int) (w : World)
    (h : ObjAt w vl vo vh labels owners holds) (hl : StrAt w v l) (hll : l.length ≤ 1048576) (hlx : ∀ x ∈ l, x.size ≤ 1048576) :
    Calls Try.prog 10 #[objV k vl vo vh e u r d, v, .int .i64 a] w fun E w' => E = .returned (.bool true) ∧ Below w.heap.size w w' := by
  have hb1 : labels.length ≤ 1048576 := h.2.2.2.1
  have hb2 : owners.length ≤ 1048576 := h.2.2.2.2.1
  obtain ⟨al0, cl0, hvl, _, _⟩ := h.1.len
  obtain ⟨ao0, co0, hvo, _, _⟩ := h.2.1.len
  obtain ⟨ah0, ch0, hvh, _, _⟩ := h.2.2.1.len
  obtain ⟨av, cv, hvv, _, _⟩ := hl.len
  subst hvl hvo hvh hvv
  have H := Lib.hid h
  have Hl := Lib.hid hl
  have Hlx := Lib.hid hlx
  clear h hl hlx
  unfold objV
  go_enter Try.func10, Try.ntmps10
  go_wp2_with fail
  go_loopg [28] l.length (fun g u28 wr => ∃ j : Nat, j + g = l.length ∧ u28 = .int .i64 (j : Int) ∧ OnceAt w wr k u r d labels owners false (holdAll (l.take j)))
  case atStart =>
    exact ⟨0, by omega, rfl, OnceAt.mk (vh := .slice none 0 0) (heap_alloc_at rfl) ⟨H.out.1.below stays_label ((Below.refl _ _).alloc (Nat.le_refl _) _), H.out.2.1.below ((Below.refl _ _).alloc (Nat.le_refl _) _), StrAt.nil _, hb1, hb2, by simp [holdAll]⟩ ((Below.refl _ _).alloc (Nat.le_refl _) _)⟩
  case round =>
    obtain ⟨j, hjg, rfl, al, cl, ao, co, ah, ch, b0, hob, hbel⟩ := hrel
    have hs0 : w.heap.size < wr.heap.size := by
      rcases Nat.lt_or_ge w.heap.size wr.heap.size with h1 | h1
      · exact h1
      · rw [Array.getElem?_eq_none h1] at b0; cases b0
    cases gk with
    | zero =>
      obtain rfl : j = l.length := by omega
      rw [List.take_of_length_le (Nat.le_refl _)] at hob b0
      have hk4 := holdAll_ok l
      have hka : l[0]? = some ⟨#[97]⟩ → 0 < (holdAll l).length := holdAll_a
      obtain ⟨hs, Hhs⟩ : ∃ hs, Hid (holdAll l = hs) := ⟨_, Lib.hid rfl⟩
      rw [Hhs.out] at hob b0 hk4 hka
      have hok : hs.length ≤ 4 := hk4.1
      have Hnd := Lib.hid hk4.2
      have Hka := Lib.hid hka
      have Hob := Lib.hid hob
      have Hbel := Lib.hid hbel
      clear hob hbel hk4 hka
      go_upto_region 9 with fail
      go_cut [11, 12] (fun u11 u12 wx => ∃ (g11 : Nat) (cnd : Int) (k1 : GKey) (v1 v2 v3 : Value) (e1 : Bool) (s1 s2 : ByteArray) (n1 : Int) (hx : List ByteArray), u11 = .pointer (some ⟨g11, 0, none⟩) ∧ u12 = .int .i64 cnd ∧
        wx.heap[g11]? = some (.cells #[.string k1.kind, .string k1.space, .string k1.name, v1, v2, v3, .bool e1, .string s1, .int .i64 n1, .string s2] 52 (0, 0)) ∧ StrAt wx v3 hx ∧ hx.length ≤ 5 ∧ Hid (cnd = 0 → Lib.containsS hx ⟨#[104]⟩ = true) ∧ Hid (cnd ≠ 0 → hx = []) ∧
        OnceAt w wx k u r d labels owners false hs)
      case first =>
        have c0 := fun i => cell_block b0 i
        have first : ∃ cnd : Int, Hid (holdCode false hs ⟨#[104]⟩ = cnd) := ⟨_, Lib.hid rfl⟩
        obtain ⟨cnd, Hcnd⟩ := first
        by_cases hh : cnd = 0
        · subst hh
          go_wp2_with fail
          refine (finalHold_ok k _ _ _ false u r d labels owners hs ⟨#[104]⟩ wr Hob.out (by decide) Hcnd.out).mono ?_
          rintro E w1 ⟨vl', vo', vh', rfl, hown, hb1'⟩
          have b1 := below_block hb1' b0
          have hbw1 : Below w.heap.size w w1 := Hbel.out.trans (hb1'.mono (by omega))
          have hs1 : w.heap.size < w1.heap.size := by have := hb1'.size; omega
          unfold objV
          obtain ⟨al2, cl2, e1, _, _⟩ := hown.1.row.len
          obtain ⟨ao2, co2, e2, _, _⟩ := hown.2.1.row.len
          obtain ⟨ah2, ch2, e3, _, _⟩ := hown.2.2.1.row.len
          subst e1 e2 e3
          rw [show (hs ++ [(⟨#[104]⟩ : ByteArray)]).length = hs.length + 1 by simp] at hown
          have Hown := Lib.hid hown
          have Ho1 := Lib.hid (Hob.out.below hb1')
          have Hbw1 := Lib.hid hbw1
          have Hhas : Hid (Lib.containsS (hs ++ [⟨#[104]⟩]) ⟨#[104]⟩ = true) := by show _ = _; rw [Lib.containsS_iff]; simp
          clear hown hb1' c0 b0 hbw1
          go_wp2_with fail
          go_meet
          exact ⟨w1.heap.size, 0, k, _, _, _, false, u, d, r, hs ++ [⟨#[104]⟩], rfl, rfl, heap_alloc_at rfl, Hown.out.2.2.1.row.strs.below ((Below.refl _ _).alloc (Nat.le_refl _) _), by simp; omega, fun _ => Hhas.out, fun h => absurd rfl h, OnceAt.mk (heap_alloc_old b1) (Ho1.out.below ((Below.refl _ _).alloc (Nat.le_refl _) _)) (Hbw1.out.alloc (by omega) _)⟩
        · have q3 : (cnd == 0) = false := by rw [beq_eq_false_iff_ne]; exact hh
          have q4 : (cnd != 0) = true := by rw [bne_iff_ne]; exact hh
          have Hc0 : Hid (holdCode false hs ⟨#[104]⟩ ≠ 0) := by show _ ≠ _; rw [Hcnd.out]; exact hh
          clear hh
          go_wp2_with fail
          refine (finalHold_bad k _ _ _ false u r d hs ⟨#[104]⟩ wr Hob.out.2.2.1 (by omega) (by decide) Hc0.out).mono ?_
          rintro E w1 ⟨rfl, hb1'⟩
          rw [Hcnd.out]
          have b1 := below_block hb1' b0
          have hbw1 : Below w.heap.size w w1 := Hbel.out.trans (hb1'.mono (by omega))
          have Ho1 := Lib.hid (Hob.out.below hb1')
          have Hbw1 := Lib.hid hbw1
          have hs1 : w.heap.size < w1.heap.size := by have := hb1'.size; omega
          unfold zeroObj
          clear hbw1 hb1' c0 b0
          go_wp2_with fail
          go_meet
          exact ⟨w1.heap.size, cnd, ⟨ByteArray.empty, ByteArray.empty, ByteArray.empty⟩, _, _, _, false, ByteArray.empty, ByteArray.empty, 0, [], rfl, rfl, heap_alloc_at rfl, StrAt.nil _, by simp, fun h => absurd h (by have := Hc0.out; rw [Hcnd.out] at this; exact this), fun _ => rfl, OnceAt.mk (heap_alloc_old b1) (Ho1.out.below ((Below.refl _ _).alloc (Nat.le_refl _) _)) (Hbw1.out.alloc (by omega) _)⟩
      case rest =>
        obtain ⟨g11, cnd, k1, v1, v2, v3, e1, s1, s2, n1, hx, rfl, rfl, b11, hx3, hxl, Hc1, Hc2, al5, cl5, ao5, co5, ah5, ch5, b5, hob5, hbel5⟩ := hcut
        obtain ⟨a3, q3, rfl, _, _⟩ := hx3.len
        have Hx3 := Lib.hid hx3
        have c11 := fun i => cell_block b11 i
        clear hx3
        go_upto_region 10 with fail
        go_cut [64] (fun u64 wx => u64 = .bool false ∧ wx = wc)
        case first =>
          by_cases hc : cnd = 0
          · subst hc
            have Hh := Lib.hid (Hc1.out rfl)
            clear Hc1 Hc2
            go_wp2_with fail
            refine (hasStr_any _ hx _ _ Hx3.out (by omega)).mono ?_
            rintro E w2 ⟨rfl, rfl⟩
            rw [Hh.out]
            go_wp2_with fail
            go_meet
            exact ⟨rfl, rfl⟩
          · have q3 : (cnd == 0) = false := by rw [beq_eq_false_iff_ne]; exact hc
            have q4 : (cnd != 0) = true := by rw [bne_iff_ne]; exact hc
            have hn := Hc2.out hc
            subst hn
            clear Hc1 Hc2 hc
            go_wp2_with fail
            go_meet
            exact ⟨rfl, rfl⟩
        obtain ⟨rfl, rfl⟩ := hcut
        clear c11 b11 Hx3 Hc1 Hc2
        have hs5 : w.heap.size < wc.heap.size := by
          rcases Nat.lt_or_ge w.heap.size wc.heap.size with h1 | h1
          · exact h1
          · rw [Array.getElem?_eq_none h1] at b5; cases b5
        have c5 := fun i => cell_block b5 i
        have Ho5 := Lib.hid hob5
        have Hb5 := Lib.hid hbel5
        clear hob5 hbel5 Hob Hbel b0
        go_wp2_with fail
        refine (copy_any _ hs wc Ho5.out.2.2.1 (by omega)).mono ?_
        rintro E w6 ⟨v6, rfl, hown6, hb6⟩
        obtain ⟨a6, q6, rfl⟩ := own_form' hown6
        have b6 := below_block hb6 b5
        have Ho6 := Lib.hid (Ho5.out.below hb6)
        have Hb6 := Lib.hid (Hb5.out.trans (hb6.mono (by omega)))
        have Hheld := Lib.hid (ownAt_strs hown6 rfl)
        have hs6 : w.heap.size < w6.heap.size := by have := hb6.size; omega
        clear hown6 hb6 c5 b5 Ho5 Hb5
        go_upto_region 13 with fail
        go_cut [86] (fun u86 wx => u86 = .bool false ∧ wx = w6)
        case first =>
          have q1 : ¬ (4 : Int) < (hs.length : Int) := by omega
          by_cases h0 : ¬ 0 < hs.length
          · have q2 : ((hs.length : Int) == 0) = true := by rw [beq_iff_eq]; omega
            by_cases h1 : ¬ 0 < l.length
            · have q3 : ¬ (0 : Int) < (l.length : Int) := by omega
              go_wp2_with fail
              go_meet
              exact ⟨rfl, rfl⟩
            · have q3 : (0 : Int) < (l.length : Int) := by omega
              obtain ⟨b, o, c', hv, _, _, hbs, hc⟩ := Hl.out.form (by omega)
              cases hv
              obtain ⟨x, hx⟩ : ∃ x, l[0]? = some x := ⟨l[0]'(by omega), List.getElem?_eq_getElem _⟩
              have e0 : w6.cell? ⟨b, o, none⟩ = some (.string x) := (Hb6.out.cell (p := ⟨b, o, none⟩) hbs).trans (hc 0 x hx)
              have hxa : x ≠ ⟨#[97]⟩ := fun e => by subst e; have := Hka.out hx; omega
              have q4 : (x.toList == [97]) = false := by
                rw [beq_eq_false_iff_ne, ByteArray.toList_eq]
                intro h
                apply hxa
                cases x
                simp only [ByteArray.mk.injEq]
                exact Array.toList_inj.1 h
              clear hc hx hxa
              go_wp2_with fail
              go_meet
              exact ⟨rfl, rfl⟩
          · have q2 : ((hs.length : Int) == 0) = false := by rw [beq_eq_false_iff_ne]; omega
            go_wp2_with fail
            go_meet
            exact ⟨rfl, rfl⟩
        case rest =>
          obtain ⟨rfl, rfl⟩ := hcut
          go_wp2_with fail
          have hk0 := restOf_in (a := a) (b := (hs.length : Int) + 1) (by omega)
          obtain ⟨kk, Hkk⟩ : ∃ kk : Nat, Hid (restOf a ((hs.length : Int) + 1) = (kk : Int)) := ⟨(restOf a ((hs.length : Int) + 1)).toNat, by show _ = _; omega⟩
          rw [Hkk.out] at hk0
          have hkn : kk ≤ hs.length := by omega
          clear hk0
          refine (rest_any a ((hs.length : Int) + 1) _ (by omega) (by omega)).mono ?_
          rintro E w7 ⟨rfl, rfl⟩
          rw [Hkk.out]
          go_wp2_with fail
          go_loopg [15, 95] (hs.length + 1) (fun g u15 u95 wr => ∃ i : Nat, i + g = hs.length + 1 ∧ u95 = .int .i64 (i : Int) ∧ u15 = .bool (lastB hs.length i) ∧ OnceAt w wr k u r d labels owners (endB kk hs.length i) (hs.take (hs.length - freed kk i)) ∧
            OwnAt RString 1 wr (w.heap.size + 1) 9 (.slice a6 hs.length q6) hs)
          case atStart =>
            refine ⟨0, by omega, rfl, by rw [lastB_low (by omega)], ?_, Hheld.out.mono (by omega)⟩
            rw [endB_zero, freed_low (Nat.zero_le _), Nat.sub_zero, List.take_of_length_le (Nat.le_refl _)]
            exact OnceAt.mk b6 Ho6.out Hb6.out
          case round =>
            clear Hheld Ho6 b6
            obtain ⟨i, hig, rfl, rfl, ⟨al7, cl7, ao7, co7, ah7, ch7, b7, hob7, hbel7⟩, hheld⟩ := hrel
            have hs7 : w.heap.size < wr.heap.size := by
              rcases Nat.lt_or_ge w.heap.size wr.heap.size with h1 | h1
              · exact h1
              · rw [Array.getElem?_eq_none h1] at b7; cases b7
            cases gk with
            | zero =>
              obtain rfl : i = hs.length + 1 := by omega
              rw [freed_high (by omega), show hs.length - (hs.length + 1 - 1) = 0 by omega, List.take_zero] at hob7 b7
              rw [lastB_at]
              have c7 := fun i => cell_block b7 i
              have Ho7 := Lib.hid hob7
              have Hb7 := Lib.hid hbel7
              obtain ⟨ee, Hee⟩ : ∃ ee, Hid (endB kk hs.length (hs.length + 1) = ee) := ⟨_, Lib.hid rfl⟩
              rw [Hee.out] at c7
              clear hob7 hbel7 hheld
              simp only [List.length_nil] at c7
              go_wp2_with fail
              refine (finalFree_no k _ _ _ ee u r d [] ⟨#[97]⟩ wr Ho7.out.2.2.1 (by simp) (by simp)).mono ?_
              rintro E w8 ⟨rfl, hb8⟩
              have b8 := below_block hb8 b7
              rw [Hee.out, List.length_nil] at b8
              have c8 := fun i => cell_block b8 i
              have hs8 : w.heap.size < w8.heap.size := by have := hb8.size; omega
              have Hb8 := Lib.hid (Hb7.out.trans (hb8.mono (by omega)))
              unfold zeroObj
              clear hb8 c7
              go_wp2_with fail
              go_ret
              exact ⟨rfl, Hb8.out.alloc (by omega) _⟩
            | succ g =>
              have hin : i ≤ hs.length := by omega
              rw [lastB_low (by omega)]
              by_cases hik : i = kk
              · subst hik
                rw [endB_low (Nat.le_refl _), freed_low (Nat.le_refl _)] at b7
                rw [freed_low (Nat.le_refl _)] at hob7
                obtain ⟨cur, Hcur⟩ : ∃ cur, Hid (hs.take (hs.length - i) = cur) := ⟨_, Lib.hid rfl⟩
                have Hcl : Hid (cur.length = hs.length - i) := by show _ = _; rw [← Hcur.out]; simp
                rw [Hcur.out] at b7 hob7
                by_cases hkl : i = hs.length
                · have hd : cur.length = 0 := by have := Hcl.out; omega
                  have c7 := fun i => cell_block b7 i
                  have Ho7 := Lib.hid hob7
                  have Hb7 := Lib.hid hbel7
                  have Hheld := Lib.hid hheld
                  have q5 : ((i : Int) == (hs.length : Int)) = true := by rw [beq_iff_eq]; omega
                  have Hd := Lib.hid hd
                  have Hkl := Lib.hid hkl
                  clear hob7 hbel7 hheld hd hkl
                  go_wp2_with fail
                  refine (finalDelete_any k _ _ _ false u r d labels owners cur wr Ho7.out).mono ?_
                  rintro E w8 ⟨vl8, vo8, vh8, rfl, hown8, hb8⟩
                  rw [if_pos Hd.out, decide_eq_true Hd.out]
                  have b8 := below_block hb8 b7
                  have Hown8 := Lib.hid hown8
                  have Hb8 := Lib.hid (Hb7.out.trans (hb8.mono (by omega)))
                  have Hheld8 := Lib.hid (Hheld.out.below stays_string hb8)
                  obtain ⟨al8, cl8, e1, _, _⟩ := hown8.1.row.len
                  obtain ⟨ao8, co8, e2, _, _⟩ := hown8.2.1.row.len
                  obtain ⟨ah8, ch8, e3, _, _⟩ := hown8.2.2.1.row.len
                  subst e1 e2 e3
                  unfold objV
                  clear hb8 hown8 c7 b7
                  go_wp2_with (refine wpList_store_box (by rfl) _ _ _ (by rfl) _ _ (by rfl) (by rfl) _ _ (by first | assumption | exact heap_alloc_old (by assumption)) (by exact Try.sizeObj) (by rfl) (by simp [Value.oneCell']) ?_)
                  intro W9 b9 t9
                  have c9 := fun i => cell_block b9 i
                  have Ho9 := Lib.hid ((Hown8.out.touchLow t9 hs7).at hb1 hb2 (by have := Hcl.out; omega))
                  have Hb9 := Lib.hid (t9.below Hb8.out (Nat.le_refl _))
                  have Hheld9 := Lib.hid (Hheld8.out.touchLow flat_string t9 (Nat.lt_succ_self _))
                  clear t9
                  go_wp2_with fail
                  go_roundg g
                  case measure => omega
                  case rel =>
                    have hkl := Hkl.out
                    refine ⟨i + 1, by omega, by go_num, by rw [hkl, lastB_at], ?_, Hheld9.out⟩
                    rw [endB_full (by omega), freed_high (by omega), Nat.add_sub_cancel, Hcur.out]
                    exact OnceAt.mk b9 Ho9.out Hb9.out
                · have hd : cur.length ≠ 0 := by have := Hcl.out; omega
                  have c7 := fun i => cell_block b7 i
                  have Ho7 := Lib.hid hob7
                  have Hb7 := Lib.hid hbel7
                  have Hheld := Lib.hid hheld
                  have q5 : ((i : Int) == (hs.length : Int)) = false := by rw [beq_eq_false_iff_ne]; omega
                  have Hd := Lib.hid hd
                  have Hkl := Lib.hid hkl
                  clear hob7 hbel7 hheld hd hkl
                  go_wp2_with fail
                  refine (finalDelete_any k _ _ _ false u r d labels owners cur wr Ho7.out).mono ?_
                  rintro E w8 ⟨vl8, vo8, vh8, rfl, hown8, hb8⟩
                  rw [if_neg Hd.out, decide_eq_false Hd.out]
                  have b8 := below_block hb8 b7
                  have Hown8 := Lib.hid hown8
                  have Hb8 := Lib.hid (Hb7.out.trans (hb8.mono (by omega)))
                  have Hheld8 := Lib.hid (Hheld.out.below stays_string hb8)
                  obtain ⟨al8, cl8, e1, _, _⟩ := hown8.1.row.len
                  obtain ⟨ao8, co8, e2, _, _⟩ := hown8.2.1.row.len
                  obtain ⟨ah8, ch8, e3, _, _⟩ := hown8.2.2.1.row.len
                  subst e1 e2 e3
                  unfold objV
                  clear hb8 hown8 c7 b7
                  go_wp2_with (refine wpList_store_box (by rfl) _ _ _ (by rfl) _ _ (by rfl) (by rfl) _ _ (by first | assumption | exact heap_alloc_old (by assumption)) (by exact Try.sizeObj) (by rfl) (by simp [Value.oneCell']) ?_)
                  intro W9 b9 t9
                  have c9 := fun i => cell_block b9 i
                  have Ho9 := Lib.hid ((Hown8.out.touchLow t9 hs7).at hb1 hb2 (by have := Hcl.out; omega))
                  have Hb9 := Lib.hid (t9.below Hb8.out (Nat.le_refl _))
                  have Hheld9 := Lib.hid (Hheld8.out.touchLow flat_string t9 (Nat.lt_succ_self _))
                  clear t9
                  go_wp2_with fail
                  go_roundg g
                  case measure => omega
                  case rel =>
                    have hkl := Hkl.out
                    refine ⟨i + 1, by omega, by go_num, by rw [lastB_low (by omega)], ?_, Hheld9.out⟩
                    rw [endB_high (by omega) (by omega), freed_high (by omega), Nat.add_sub_cancel, Hcur.out]
                    exact OnceAt.mk b9 Ho9.out Hb9.out
              · have hn2 : freed kk i < hs.length := by unfold freed; split <;> omega
                obtain ⟨n, Hn⟩ : ∃ n, Hid (freed kk i = n) := ⟨_, Lib.hid rfl⟩
                rw [Hn.out] at hn2 hob7 b7
                have hlen : (hs.take (hs.length - n)).length = hs.length - n := by simp
                rw [hlen] at b7 hob7
                obtain ⟨m, hm⟩ : ∃ m, m + n + 1 = hs.length := ⟨hs.length - 1 - n, by omega⟩
                obtain ⟨y, hy⟩ : ∃ y, hs[m]? = some y := ⟨hs[m]'(by omega), List.getElem?_eq_getElem _⟩
                have Hym : Hid ((hs.take (hs.length - n))[m]? = some y) := by show _ = _; rw [List.getElem?_take_of_lt (by omega)]; exact hy
                have Hnd2 : Hid ((hs.take (hs.length - n)).Nodup) := Hnd.out.sublist (List.take_sublist _ _)
                have Her : Hid ((hs.take (hs.length - n)).eraseIdx m = hs.take m) := by show _ = _; rw [show hs.length - n = m + 1 by omega]; exact take_erase hs m (by omega)
                have Hlc : Hid ((hs.take (hs.length - n)).length - 1 = m) := by show _ = _; rw [hlen]; omega
                obtain ⟨ee, Hee⟩ : ∃ ee, Hid (endB kk hs.length i = ee) := ⟨_, Lib.hid rfl⟩
                rw [Hee.out] at b7
                obtain ⟨isv, His⟩ : ∃ isv, Hid ((ee && ((m : Int) == 0)) = isv) := ⟨_, Lib.hid rfl⟩
                obtain ⟨bh, oh, ch0, hv6, _, _, hbhs, hcell⟩ := hheld.row.strs.form (by omega)
                have e0 := hcell m y hy
                have hv7 : a6 = some ⟨bh, oh, none⟩ ∧ q6 = ch0 := by injection hv6 with e1 _ e3; exact ⟨e1, e3⟩
                obtain ⟨hv8, rfl⟩ := hv7
                have hoh : oh = 0 := by
                  rcases hheld.form with ⟨h1, _⟩ | ⟨g9, c9, h1, _⟩
                  · injection h1 with e1; rw [hv8] at e1; cases e1
                  · injection h1 with e1; rw [hv8] at e1; injection e1 with e2; injection e2
                subst hoh
                rw [Nat.zero_add] at e0
                have He0 := Lib.hid e0
                have Ha6 := Lib.hid hv8
                have Ho7 := Lib.hid hob7
                have Hb7 := Lib.hid hbel7
                have Hheld := Lib.hid hheld
                have q5 : ((i : Int) == (kk : Int)) = false := by rw [beq_eq_false_iff_ne]; omega
                have r1 : IntKind.i64.wrap ((hs.length : Int) - 1) = (hs.length : Int) - 1 := IntWalk.i64_in _ (by omega)
                have r2 : IntKind.i64.wrap ((hs.length : Int) - 1 - (n : Int)) = (m : Int) := by rw [IntWalk.i64_in _ (by omega)]; omega
                have q6' : (0 : Int) ≤ (m : Int) := by omega
                have q7' : (m : Int) < (hs.length : Int) := by omega
                have R1 := Lib.hid r1
                have R2 := Lib.hid r2
                clear hob7 hbel7 hheld hcell hy e0 hv8 hv6 r1 r2
                go_upto_if 122 with fail
                go_cut [17] (fun u17 wx => u17 = .int .i64 (n : Int) ∧ wr = wx)
                case first =>
                  by_cases hlt : (kk : Int) < (i : Int)
                  · have hn3 : Hid (IntKind.i64.wrap ((i : Int) - 1) = (n : Int)) := by show _ = _; rw [IntWalk.i64_in _ (by omega), ← Hn.out, freed_high (by omega)]; omega
                    go_wp2_with fail
                    go_meet
                    exact ⟨congrArg (Value.int .i64) (by first | exact hn3.out | (have h9 := hn3.out; rw [IntWalk.i64_in _ (by omega)] at h9; exact h9)), rfl⟩
                  · have hn3 : Hid ((i : Int) = (n : Int)) := by show _ = _; rw [← Hn.out, freed_low (by omega)]
                    go_wp2_with fail
                    go_meet
                    exact ⟨congrArg (Value.int .i64) hn3.out, rfl⟩
                obtain ⟨rfl, rfl⟩ := hcut
                go_upto_region 27 with fail
                have r1 := R1.out
                have r2 := R2.out
                refine wp_region_relK 17 (fun w' => Below wr.heap.size wr w') (fun i w1 w2 => if i = 15 then (∃ q c1 c2, Touch q w1 w2 ∧ w1.heap[q]? = some (.cells c1 52 (0, 0)) ∧ w2.heap[q]? = some (.cells c2 52 (0, 0)) ∧ c2.size = 10 ∧ wr.heap.size ≤ q) else Below w1.heap.size w1 w2) (fun i U w' => match i with
                    | 0 => U 0 = .agg #[.string k.kind, .string k.space, .string k.name, .slice al7 labels.length cl7, .slice ao7 owners.length co7, .slice ah7 (hs.length - n) ch7, .bool ee, .string u, .int .i64 r, .string d]
                    | 1 => U 1 = .slice a6 hs.length q6
                    | 2 => U 2 = .slice a6 hs.length q6
                    | 3 => U 3 = .int .i64 (hs.length : Int)
                    | 4 => U 4 = .int .i64 ((hs.length : Int) - 1)
                    | 5 => U 5 = .int .i64 (n : Int)
                    | 6 => U 6 = .int .i64 (m : Int)
                    | 7 => U 7 = .pointer (some ⟨bh, m, none⟩)
                    | 8 => U 8 = .string y
                    | 9 => ∃ vl9 vo9 vh9, U 9 = (.tuple #[objV k vl9 vo9 vh9 ee u r d, .bool isv, .int .i64 0]) ∧ ObjOwn w' wr.heap.size vl9 vo9 vh9 labels owners (hs.take m)
                    | 10 => U 10 = U 9 ∧ ∃ vl9 vo9 vh9, U 10 = (.tuple #[objV k vl9 vo9 vh9 ee u r d, .bool isv, .int .i64 0]) ∧ One3 vl9 vo9 vh9
                    | 11 => ∃ vl9 vo9 vh9, U 10 = (.tuple #[objV k vl9 vo9 vh9 ee u r d, .bool isv, .int .i64 0]) ∧ U 11 = objV k vl9 vo9 vh9 ee u r d ∧ One3 vl9 vo9 vh9
                    | 12 => U 12 = .bool isv
                    | 13 => U 13 = .int .i64 0
                    | 14 => ∃ b c, U 14 = .pointer (some ⟨b, 0, none⟩) ∧ wr.heap.size ≤ b ∧ w'.heap[b]? = some (.cells c 52 (0, 0)) ∧ c.size = 10
                    | 15 => ∃ b c, U 14 = .pointer (some ⟨b, 0, none⟩) ∧ wr.heap.size ≤ b ∧ U 11 = .agg c ∧ w'.heap[b]? = some (.cells c 52 (0, 0))
                    | 16 => U 16 = .bool isv
                    | _ => True)
                    (fun | 3 => [2] | 4 => [3] | 6 => [4, 5] | 7 => [1, 6] | 8 => [7] | 9 => [0, 8] | 10 => [9] | 11 => [10] | 12 => [10] | 13 => [10] | 15 => [11, 14] | 16 => [12] | _ => []) (by kernel_rfl) (by kernel_rfl) ((Below.refl _ _).drew) ?_ ?_ ⟨?_, ?_, ?_, ?_, ?_, ?_, ?_, ?_, ?_, ?_, ?_, ?_, ?_, ?_, ?_, ?_, ?_, trivial⟩ ?_
                · intro i w1 w2 hk hi
                  by_cases h15 : i = 15
                  · subst h15
                    obtain ⟨q, c1, c2, ht, hq, hq2, hc2, hge⟩ := hk
                    exact ht.below hi hge
                  · rw [if_neg h15] at hk
                    exact below_then hi hk
                · intro i j u w1 w2 hji hk hi h
                  by_cases hi15 : i = 15
                  · subst hi15
                    obtain ⟨q, c1, c2, ht, hq, hq2, hc2, _⟩ := hk
                    match j, hji, h with
                    | 0, hji, h => exact h
                    | 1, hji, h => exact h
                    | 2, hji, h => exact h
                    | 3, hji, h => exact h
                    | 4, hji, h => exact h
                    | 5, hji, h => exact h
                    | 6, hji, h => exact h
                    | 7, hji, h => exact h
                    | 8, hji, h => exact h
                    | 9, hji, h => exact (by obtain ⟨vl9, vo9, vh9, h1, h2⟩ := h; exact ⟨vl9, vo9, vh9, h1, h2.touchType ht hq⟩)
                    | 10, hji, h => exact h
                    | 11, hji, h => exact h
                    | 12, hji, h => exact h
                    | 13, hji, h => exact h
                    | 14, hji, h => exact (by obtain ⟨b, c, h1, h2, h3, h4⟩ := h; exact (if e : b = q then ⟨b, c2, h1, h2, by rw [e]; exact hq2, hc2⟩ else ⟨b, c, h1, h2, ht.block h3 e, h4⟩))
                    | 15, hji, h => exact absurd rfl hji
                    | 16, hji, h => exact h
                    | _ + 17, _, h => trivial
                  have hk : Below w1.heap.size w1 w2 := by rw [if_neg hi15] at hk; exact hk
                  match j, h with
                  | 0, h => exact h
                  | 1, h => exact h
                  | 2, h => exact h
                  | 3, h => exact h
                  | 4, h => exact h
                  | 5, h => exact h
                  | 6, h => exact h
                  | 7, h => exact h
                  | 8, h => exact h
                  | 9, h => exact (by obtain ⟨vl9, vo9, vh9, h1, h2⟩ := h; exact ⟨vl9, vo9, vh9, h1, h2.below hk⟩)
                  | 10, h => exact h
                  | 11, h => exact h
                  | 12, h => exact h
                  | 13, h => exact h
                  | 14, h => exact (by obtain ⟨b, c, h1, h2, h3, h4⟩ := h; exact ⟨b, c, h1, h2, below_block hk h3, h4⟩)
                  | 15, h => exact (by obtain ⟨b, c, h1, h2, h3, h4⟩ := h; exact ⟨b, c, h1, h2, h3, below_block hk h4⟩)
                  | 16, h => exact h
                  | _ + 17, h => trivial
                · intro x w' hb hd
                  have hbd : Below wr.heap.size wr w' := hb
                  have hc := fun i => cell_block (below_block hbd b7) i
                  have e0 : w'.cell? ⟨bh, m, none⟩ = some (.string y) := (hbd.cell (p := ⟨bh, m, none⟩) hbhs).trans He0.out
                  refine owesK_here (.agg #[.string k.kind, .string k.space, .string k.name, .slice al7 labels.length cl7, .slice ao7 owners.length co7, .slice ah7 (hs.length - n) ch7, .bool ee, .string u, .int .i64 r, .string d]) (by rfl) ?_ rfl (else_of (by decide) (Below.refl _ _))
                  simp only [putAll, List.take_succ_cons, List.take_zero]
                  go_simp
                · intro x w' hb hd
                  have hbd : Below wr.heap.size wr w' := hb
                  have hc := fun i => cell_block (below_block hbd b7) i
                  have e0 : w'.cell? ⟨bh, m, none⟩ = some (.string y) := (hbd.cell (p := ⟨bh, m, none⟩) hbhs).trans He0.out
                  refine owesK_here (.slice a6 hs.length q6) (by rfl) ?_ rfl (else_of (by decide) (Below.refl _ _))
                  simp only [putAll, List.take_succ_cons, List.take_zero]
                  go_simp
                · intro x w' hb hd
                  have hbd : Below wr.heap.size wr w' := hb
                  have hc := fun i => cell_block (below_block hbd b7) i
                  have e0 : w'.cell? ⟨bh, m, none⟩ = some (.string y) := (hbd.cell (p := ⟨bh, m, none⟩) hbhs).trans He0.out
                  refine owesK_here (.slice a6 hs.length q6) (by rfl) ?_ rfl (else_of (by decide) (Below.refl _ _))
                  simp only [putAll, List.take_succ_cons, List.take_zero]
                  go_simp
                · intro x w' hb hd
                  have hbd : Below wr.heap.size wr w' := hb
                  have hc := fun i => cell_block (below_block hbd b7) i
                  have e0 : w'.cell? ⟨bh, m, none⟩ = some (.string y) := (hbd.cell (p := ⟨bh, m, none⟩) hbhs).trans He0.out
                  have g2 : x 2 = .slice a6 hs.length q6 := hd 2 (by simp)
                  refine owesK_here (.int .i64 (hs.length : Int)) (by rfl) ?_ rfl (else_of (by decide) (Below.refl _ _))
                  simp only [putAll, List.take_succ_cons, List.take_zero]
                  go_simp
                · intro x w' hb hd
                  have hbd : Below wr.heap.size wr w' := hb
                  have hc := fun i => cell_block (below_block hbd b7) i
                  have e0 : w'.cell? ⟨bh, m, none⟩ = some (.string y) := (hbd.cell (p := ⟨bh, m, none⟩) hbhs).trans He0.out
                  have g3 : x 3 = .int .i64 (hs.length : Int) := hd 3 (by simp)
                  refine owesK_here (.int .i64 ((hs.length : Int) - 1)) (by rfl) ?_ rfl (else_of (by decide) (Below.refl _ _))
                  simp only [putAll, List.take_succ_cons, List.take_zero]
                  go_simp
                · intro x w' hb hd
                  have hbd : Below wr.heap.size wr w' := hb
                  have hc := fun i => cell_block (below_block hbd b7) i
                  have e0 : w'.cell? ⟨bh, m, none⟩ = some (.string y) := (hbd.cell (p := ⟨bh, m, none⟩) hbhs).trans He0.out
                  refine owesK_here (.int .i64 (n : Int)) (by rfl) ?_ rfl (else_of (by decide) (Below.refl _ _))
                  simp only [putAll, List.take_succ_cons, List.take_zero]
                  go_simp
                · intro x w' hb hd
                  have hbd : Below wr.heap.size wr w' := hb
                  have hc := fun i => cell_block (below_block hbd b7) i
                  have e0 : w'.cell? ⟨bh, m, none⟩ = some (.string y) := (hbd.cell (p := ⟨bh, m, none⟩) hbhs).trans He0.out
                  have g4 : x 4 = .int .i64 ((hs.length : Int) - 1) := hd 4 (by simp)
                  have g5 : x 5 = .int .i64 (n : Int) := hd 5 (by simp)
                  refine owesK_here (.int .i64 (m : Int)) (by rfl) ?_ rfl (else_of (by decide) (Below.refl _ _))
                  simp only [putAll, List.take_succ_cons, List.take_zero]
                  go_simp
                · intro x w' hb hd
                  have hbd : Below wr.heap.size wr w' := hb
                  have hc := fun i => cell_block (below_block hbd b7) i
                  have e0 : w'.cell? ⟨bh, m, none⟩ = some (.string y) := (hbd.cell (p := ⟨bh, m, none⟩) hbhs).trans He0.out
                  have g1 : x 1 = .slice a6 hs.length q6 := hd 1 (by simp)
                  have g6 : x 6 = .int .i64 (m : Int) := hd 6 (by simp)
                  rw [Ha6.out] at g1
                  refine owesK_here (.pointer (some ⟨bh, m, none⟩)) (by rfl) ?_ rfl (else_of (by decide) (Below.refl _ _))
                  simp only [putAll, List.take_succ_cons, List.take_zero]
                  go_simp
                · intro x w' hb hd
                  have hbd : Below wr.heap.size wr w' := hb
                  have hc := fun i => cell_block (below_block hbd b7) i
                  have e0 : w'.cell? ⟨bh, m, none⟩ = some (.string y) := (hbd.cell (p := ⟨bh, m, none⟩) hbhs).trans He0.out
                  have g7 : x 7 = .pointer (some ⟨bh, m, none⟩) := hd 7 (by simp)
                  refine owesK_here (.string y) (by rfl) ?_ rfl (else_of (by decide) (Below.refl _ _))
                  simp only [putAll, List.take_succ_cons, List.take_zero]
                  go_simp
                · intro x w' hb hd
                  have hbd : Below wr.heap.size wr w' := hb
                  have hc := fun i => cell_block (below_block hbd b7) i
                  have e0 : w'.cell? ⟨bh, m, none⟩ = some (.string y) := (hbd.cell (p := ⟨bh, m, none⟩) hbhs).trans He0.out
                  have g0 : x 0 = .agg #[.string k.kind, .string k.space, .string k.name, .slice al7 labels.length cl7, .slice ao7 owners.length co7, .slice ah7 (hs.length - n) ch7, .bool ee, .string u, .int .i64 r, .string d] := hd 0 (by simp)
                  have g8 : x 8 = .string y := hd 8 (by simp)
                  refine owesK_call 35 #[.agg #[.string k.kind, .string k.space, .string k.name, .slice al7 labels.length cl7, .slice ao7 owners.length co7, .slice ah7 (hs.length - n) ch7, .bool ee, .string u, .int .i64 r, .string d], .string y] (by rfl) ?_ ?_
                  · simp only [putAll, List.take_succ_cons, List.take_zero]
                    go_simp
                  refine (finalFree_ok k _ _ _ ee u r d labels owners (hs.take (hs.length - n)) y m w' (by have h9 := Ho7.out.below hbd; exact h9) Hym.out Hnd2.out).mono ?_
                  rintro E w8 ⟨vl9, vo9, vh9, rfl, hown9, hb9⟩
                  rw [Her.out] at hown9
                  refine ⟨_, rfl, ⟨vl9, vo9, vh9, ?_, hown9.mono (by have h9 : wr.heap.size ≤ w'.heap.size := hb.size; exact h9)⟩, else_of (by decide) hb9⟩
                  show Value.tuple _ = _
                  rw [Hlc.out, His.out]
                · intro x w' hb hd
                  have hbd : Below wr.heap.size wr w' := hb
                  have hc := fun i => cell_block (below_block hbd b7) i
                  have e0 : w'.cell? ⟨bh, m, none⟩ = some (.string y) := (hbd.cell (p := ⟨bh, m, none⟩) hbhs).trans He0.out
                  obtain ⟨vl9, vo9, vh9, g9, go9⟩ : ∃ vl9 vo9 vh9, x 9 = (.tuple #[objV k vl9 vo9 vh9 ee u r d, .bool isv, .int .i64 0]) ∧ ObjOwn w' wr.heap.size vl9 vo9 vh9 labels owners (hs.take m) := hd 9 (by simp)
                  refine owesK_here (.tuple #[objV k vl9 vo9 vh9 ee u r d, .bool isv, .int .i64 0]) (by rfl) ?_ ⟨g9.symm, vl9, vo9, vh9, rfl, go9.one3⟩ (else_of (by decide) (Below.refl _ _))
                  simp only [putAll, List.take_succ_cons, List.take_zero]
                  go_simp
                · intro x w' hb hd
                  have hbd : Below wr.heap.size wr w' := hb
                  have hc := fun i => cell_block (below_block hbd b7) i
                  have e0 : w'.cell? ⟨bh, m, none⟩ = some (.string y) := (hbd.cell (p := ⟨bh, m, none⟩) hbhs).trans He0.out
                  obtain ⟨gg, vl9, vo9, vh9, g10, g1v⟩ : x 10 = x 9 ∧ ∃ vl9 vo9 vh9, x 10 = (.tuple #[objV k vl9 vo9 vh9 ee u r d, .bool isv, .int .i64 0]) ∧ One3 vl9 vo9 vh9 := hd 10 (by simp)
                  clear gg hd
                  refine owesK_here (objV k vl9 vo9 vh9 ee u r d) (by rfl) ?_ ⟨vl9, vo9, vh9, g10, rfl, g1v⟩ (else_of (by decide) (Below.refl _ _))
                  simp only [putAll, List.take_succ_cons, List.take_zero]
                  go_simp
                · intro x w' hb hd
                  have hbd : Below wr.heap.size wr w' := hb
                  have hc := fun i => cell_block (below_block hbd b7) i
                  have e0 : w'.cell? ⟨bh, m, none⟩ = some (.string y) := (hbd.cell (p := ⟨bh, m, none⟩) hbhs).trans He0.out
                  obtain ⟨gg, vl9, vo9, vh9, g10, g1v⟩ : x 10 = x 9 ∧ ∃ vl9 vo9 vh9, x 10 = (.tuple #[objV k vl9 vo9 vh9 ee u r d, .bool isv, .int .i64 0]) ∧ One3 vl9 vo9 vh9 := hd 10 (by simp)
                  clear gg hd
                  refine owesK_here (.bool isv) (by rfl) ?_ rfl (else_of (by decide) (Below.refl _ _))
                  simp only [putAll, List.take_succ_cons, List.take_zero]
                  go_simp
                · intro x w' hb hd
                  have hbd : Below wr.heap.size wr w' := hb
                  have hc := fun i => cell_block (below_block hbd b7) i
                  have e0 : w'.cell? ⟨bh, m, none⟩ = some (.string y) := (hbd.cell (p := ⟨bh, m, none⟩) hbhs).trans He0.out
                  obtain ⟨gg, vl9, vo9, vh9, g10, g1v⟩ : x 10 = x 9 ∧ ∃ vl9 vo9 vh9, x 10 = (.tuple #[objV k vl9 vo9 vh9 ee u r d, .bool isv, .int .i64 0]) ∧ One3 vl9 vo9 vh9 := hd 10 (by simp)
                  clear gg hd
                  refine owesK_here (.int .i64 0) (by rfl) ?_ rfl (else_of (by decide) (Below.refl _ _))
                  simp only [putAll, List.take_succ_cons, List.take_zero]
                  go_simp
                · intro x w' hb hd
                  have hbd : Below wr.heap.size wr w' := hb
                  have hc := fun i => cell_block (below_block hbd b7) i
                  have e0 : w'.cell? ⟨bh, m, none⟩ = some (.string y) := (hbd.cell (p := ⟨bh, m, none⟩) hbhs).trans He0.out
                  refine owesK_makes (w' := w'.alloc (.cells #[.string { data := #[] }, .string { data := #[] }, .string { data := #[] }, .slice none 0 0, .slice none 0 0, .slice none 0 0, .bool false, .string { data := #[] }, .int .i64 0, .string { data := #[] }] 52)) (.pointer (some ⟨w'.heap.size, 0, none⟩)) (by rfl) ?_ ⟨w'.heap.size, _, rfl, (by have h9 : wr.heap.size ≤ w'.heap.size := hb.size; exact h9), heap_alloc_new w' _, rfl⟩ (else_of (by decide) ((Below.refl _ _).alloc (Nat.le_refl _) _))
                  simp only [putAll, List.take_succ_cons, List.take_zero]
                  go_simp
                · intro x w' hb hd
                  have hbd : Below wr.heap.size wr w' := hb
                  have hc := fun i => cell_block (below_block hbd b7) i
                  have e0 : w'.cell? ⟨bh, m, none⟩ = some (.string y) := (hbd.cell (p := ⟨bh, m, none⟩) hbhs).trans He0.out
                  obtain ⟨vl9, vo9, vh9, gg, g11, g1v⟩ : ∃ vl9 vo9 vh9, x 10 = (.tuple #[objV k vl9 vo9 vh9 ee u r d, .bool isv, .int .i64 0]) ∧ x 11 = objV k vl9 vo9 vh9 ee u r d ∧ One3 vl9 vo9 vh9 := hd 11 (by simp)
                  clear gg
                  obtain ⟨b, c, g14, h2, h3, h4⟩ : ∃ b c, x 14 = .pointer (some ⟨b, 0, none⟩) ∧ wr.heap.size ≤ b ∧ w'.heap[b]? = some (.cells c 52 (0, 0)) ∧ c.size = 10 := hd 14 (by simp)
                  refine owesK_store (by rfl) _ _ _ (by rfl) b #[.string k.kind, .string k.space, .string k.name, vl9, vo9, vh9, .bool ee, .string u, .int .i64 r, .string d] ?_ ?_ _ c h3 (by exact Try.sizeObj) (by rw [h4]; rfl) ?_ ?_
                  · simp only [putAll, List.take_succ_cons, List.take_zero]
                    go_simp
                  · unfold objV at g11
                    simp only [putAll, List.take_succ_cons, List.take_zero]
                    go_simp
                  · simp [Value.oneCell']
                    exact ⟨g1v.1, g1v.2.1, g1v.2.2⟩
                  · intro W9 hW9 ht9
                    refine ⟨⟨b, _, g14, h2, g11, hW9⟩, ?_⟩
                    exact then_of rfl ⟨b, c, _, ht9, h3, hW9, rfl, h2⟩
                · intro x w' hb hd
                  have hbd : Below wr.heap.size wr w' := hb
                  have hc := fun i => cell_block (below_block hbd b7) i
                  have e0 : w'.cell? ⟨bh, m, none⟩ = some (.string y) := (hbd.cell (p := ⟨bh, m, none⟩) hbhs).trans He0.out
                  have g12 : x 12 = .bool isv := hd 12 (by simp)
                  refine owesK_here (.bool isv) (by rfl) ?_ rfl (else_of (by decide) (Below.refl _ _))
                  simp only [putAll, List.take_succ_cons, List.take_zero]
                  go_simp
                · intro x w9 hb9 hd9
                  obtain ⟨vl9, vo9, vh9, g9, go9⟩ : ∃ vl9 vo9 vh9, x 9 = (.tuple #[objV k vl9 vo9 vh9 ee u r d, .bool isv, .int .i64 0]) ∧ ObjOwn w9 wr.heap.size vl9 vo9 vh9 labels owners (hs.take m) := hd9 9 (by omega)
                  obtain ⟨g10, _⟩ : x 10 = x 9 ∧ ∃ vl9 vo9 vh9, x 10 = (.tuple #[objV k vl9 vo9 vh9 ee u r d, .bool isv, .int .i64 0]) ∧ One3 vl9 vo9 vh9 := hd9 10 (by omega)
                  obtain ⟨vl8, vo8, vh8, g10', g11, _⟩ : ∃ vl9 vo9 vh9, x 10 = (.tuple #[objV k vl9 vo9 vh9 ee u r d, .bool isv, .int .i64 0]) ∧ x 11 = objV k vl9 vo9 vh9 ee u r d ∧ One3 vl9 vo9 vh9 := hd9 11 (by omega)
                  have g13 : x 13 = .int .i64 0 := hd9 13 (by omega)
                  obtain ⟨b, c, g14, hge, g11', hbox⟩ : ∃ b c, x 14 = .pointer (some ⟨b, 0, none⟩) ∧ wr.heap.size ≤ b ∧ x 11 = .agg c ∧ w9.heap[b]? = some (.cells c 52 (0, 0)) := hd9 15 (by omega)
                  have g16 : x 16 = .bool isv := hd9 16 (by omega)
                  have g12 : x 12 = .bool isv := hd9 12 (by omega)
                  rw [g10, g9] at g10'
                  unfold objV at g10' g11
                  rw [g11] at g11'
                  simp only [Value.tuple.injEq, Value.agg.injEq, Array.mk.injEq, List.cons.injEq, and_true, true_and, Value.bool.injEq] at g10' g11'
                  obtain ⟨rfl, rfl, rfl⟩ := g10'
                  subst g11'
                  obtain ⟨al9, cl9, e1, _, _⟩ := go9.1.row.len
                  obtain ⟨ao9, co9, e2, _, _⟩ := go9.2.1.row.len
                  obtain ⟨ah9, ch9, e3, _, _⟩ := go9.2.2.1.row.len
                  subst e1 e2 e3
                  have Hlm : Hid ((hs.take m).length = m) := by show _ = _; simp; omega
                  rw [Hlm.out] at go9 hbox
                  have b9 := below_block hb9 b7
                  have Hb9 := Lib.hid (Hb7.out.trans (hb9.mono (by omega)))
                  have Hheld9 := Lib.hid (Hheld.out.below stays_string hb9)
                  have Hgo9 := Lib.hid go9
                  have cb := fun i => cell_block hbox i
                  have g17 := Ha6.out
                  clear hd9 hb9 g9 g10 g11 go9 g17
                  simp only [putAll, List.take_succ_cons, List.take_zero, List.drop_succ_cons, List.drop_zero]
                  go_upto_region 28 with fail
                  go_cut [154] (fun u154 wx => u154 = .bool false ∧ w9 = wx)
                  case first =>
                    rcases Nat.lt_or_ge i kk with hlt | hge2
                    · have hee : ee = false := by rw [← Hee.out]; exact endB_low (by omega)
                      have his : isv = false := by rw [← His.out, hee]; rfl
                      subst his
                      have q8 : ((i : Int) == (hs.length : Int)) = false := by rw [beq_eq_false_iff_ne]; omega
                      by_cases hkl : (kk : Int) < (hs.length : Int)
                      · go_wp2_with fail
                        go_meet
                        exact ⟨rfl, rfl⟩
                      · go_wp2_with fail
                        go_meet
                        exact ⟨rfl, rfl⟩
                    · have hkl : (kk : Int) < (hs.length : Int) := by omega
                      have hee : ee = true := by rw [← Hee.out]; exact endB_high (by omega) (by omega)
                      have hni : n + 1 = i := by rw [← Hn.out, freed_high (by omega)]; omega
                      by_cases hil : i = hs.length
                      · have his : isv = true := by rw [← His.out, hee, show m = 0 by omega]; rfl
                        have q8 : ((i : Int) == (hs.length : Int)) = true := by rw [beq_iff_eq]; omega
                        subst his
                        clear hil hni hee
                        go_wp2_with fail
                        go_meet
                        exact ⟨rfl, rfl⟩
                      · have his : isv = false := by rw [← His.out, hee, Bool.true_and, beq_eq_false_iff_ne]; omega
                        have q8 : ((i : Int) == (hs.length : Int)) = false := by rw [beq_eq_false_iff_ne]; omega
                        subst his
                        clear hil hni hee
                        go_wp2_with fail
                        go_meet
                        exact ⟨rfl, rfl⟩
                  obtain ⟨rfl, rfl⟩ := hcut
                  go_wp2_with (refine wpList_store_box (by rfl) _ _ _ (by rfl) _ _ (by rfl) (by rfl) _ _ (by first | assumption | exact heap_alloc_old (by assumption)) (by exact Try.sizeObj) (by rfl) (by simp [Value.oneCell']) ?_)
                  intro W5 b5 t5
                  have Ho5 := Lib.hid ((Hgo9.out.touchLow t5 hs7).at hb1 hb2 (by rw [Hlm.out]; omega))
                  have Hb5 := Lib.hid (t5.below Hb9.out (Nat.le_refl _))
                  have Hheld5 := Lib.hid (Hheld9.out.touchLow flat_string t5 (Nat.lt_succ_self _))
                  clear t5
                  go_wp2_with fail
                  go_roundg g
                  case measure => omega
                  case rel =>
                    have hisv : isv = lastB hs.length (i + 1) := by
                      rcases Nat.lt_or_ge i kk with hlt | hge2
                      · rw [lastB_low (by omega), ← His.out, ← Hee.out, endB_low (by omega)]; rfl
                      · have hni : n + 1 = i := by rw [← Hn.out, freed_high (by omega)]; omega
                        rw [← His.out, ← Hee.out, endB_high (by omega) (by omega), Bool.true_and]
                        unfold lastB
                        rw [Bool.eq_iff_iff, beq_iff_eq, decide_eq_true_iff]
                        omega
                    have hee2 : endB kk hs.length (i + 1) = ee := by
                      rw [← Hee.out]
                      rcases Nat.lt_or_ge i kk with hlt | hge2
                      · rw [endB_low (by omega), endB_low (by omega)]
                      · rw [endB_high (by omega) (by omega), endB_high (by omega) (by omega)]
                    have hcm : hs.take (hs.length - freed kk (i + 1)) = hs.take m := by
                      congr 1
                      have h9 := Hn.out
                      unfold freed at h9 ⊢
                      split at h9 <;> split <;> omega
                    refine ⟨i + 1, by omega, by go_num, congrArg Value.bool hisv, ?_, Hheld5.out⟩
                    rw [hee2, hcm]
                    exact OnceAt.mk b5 Ho5.out Hb5.out
    | succ g =>
      have hjl : j < l.length := by omega
      obtain ⟨b, o, c', hv, _, _, hbs, hc⟩ := Hl.out.form (by omega)
      cases hv
      obtain ⟨x, hx⟩ : ∃ x, l[j]? = some x := ⟨l[j], by simp [hjl]⟩
      have e0 : wr.cell? ⟨b, o + j, none⟩ = some (.string x) := (hbel.cell (p := ⟨b, o + j, none⟩) hbs).trans (hc j x hx)
      have hxs : x.size ≤ 1048576 := Hlx.out x (List.mem_of_getElem? hx)
      have q1 : (0 : Int) ≤ (j : Int) := by omega
      have q2 : (j : Int) < (l.length : Int) := by omega
      have c0 := fun i => cell_block b0 i
      obtain ⟨hs, Hhs⟩ : ∃ hs, Hid (holdAll (l.take j) = hs) := ⟨_, Lib.hid rfl⟩
      have Htk : Hid (holdAll (l.take (j + 1)) = holdStep hs x) := by show _ = _; rw [holdAll_take hx, Hhs.out]
      rw [Hhs.out] at hob b0
      have hok : hs.length ≤ 4 := by rw [← Hhs.out]; exact (holdAll_ok _).1
      clear hc hx
      have Hob := Lib.hid hob
      have Hbel := Lib.hid hbel
      clear hob hbel
      simp only [Hhs.out] at c0
      have hob2 : ObjAt wr (.slice al labels.length cl) (.slice ao owners.length co) (.slice ah hs.length ch) labels owners hs := Hob.out
      by_cases hc0 : holdCode false hs x = 0
      · have Hc0 := Lib.hid hc0
        have Hst : Hid (holdStep hs x = hs ++ [x]) := by show _ = _; unfold holdStep; rw [if_pos hc0]
        clear hc0 hob2
        go_wp2_with fail
        refine (finalHold_ok k _ _ _ false u r d labels owners hs x wr Hob.out hxs Hc0.out).mono ?_
        rintro E w1 ⟨vl', vo', vh', rfl, hown, hb1'⟩
        have b1 := below_block hb1' b0
        have hbw1 : Below w.heap.size w w1 := Hbel.out.trans (hb1'.mono (by omega))
        have hs1 : w.heap.size < w1.heap.size := by have := hb1'.size; omega
        unfold objV
        obtain ⟨al2, cl2, e1, _, _⟩ := hown.1.row.len
        obtain ⟨ao2, co2, e2, _, _⟩ := hown.2.1.row.len
        obtain ⟨ah2, ch2, e3, _, _⟩ := hown.2.2.1.row.len
        subst e1 e2 e3
        have Hown := Lib.hid hown
        have Hbw1 := Lib.hid hbw1
        clear hown hbw1 hb1' c0 b0
        go_wp2_with (refine wpList_copy_box (by rfl) _ _ (by rfl) (by rfl) _ _ (by rfl) _ _ (by rfl) _ _ _ _ (by first | assumption | exact heap_alloc_at (by simp)) (by rfl) (by rfl) _ _ (by first | assumption | exact heap_alloc_old (by assumption)) Try.underlying52 (by rfl) (by exact Try.sizeObj) (by rfl) (by simp [Value.oneCell']) ?_)
        intro W2 b2 t2
        have ho2 : ObjAt W2 _ _ _ labels owners (hs ++ [x]) := ((Hown.out.below ((Below.refl _ _).alloc (Nat.le_refl _) _)).touchLow t2 hs0).at hb1 hb2 (by simp; omega)
        have hb3 : Below w.heap.size w W2 := t2.below (Hbw1.out.alloc (by omega) _) (Nat.le_refl _)
        have Ho2 := Lib.hid ho2
        have Hb3 := Lib.hid hb3
        clear ho2 hb3
        go_wp2_with fail
        go_roundg g
        case measure => omega
        case rel => exact ⟨j + 1, by omega, by go_num, by rw [Htk.out, Hst.out]; exact OnceAt.mk b2 (by have h9 := Ho2.out; rw [show (hs ++ [x]).length = hs.length + 1 by simp] at h9; exact h9) Hb3.out⟩
      · have Hst : Hid (holdStep hs x = hs) := by show _ = _; unfold holdStep; rw [if_neg hc0]
        have q3 : (holdCode false hs x == 0) = false := by rw [beq_eq_false_iff_ne]; exact hc0
        have Hc0 := Lib.hid hc0
        clear hc0 hob2
        go_wp2_with fail
        refine (finalHold_bad k _ _ _ false u r d hs x wr Hob.out.2.2.1 (by omega) hxs Hc0.out).mono ?_
        rintro E w1 ⟨rfl, hb1'⟩
        have b1 := below_block hb1' b0
        have hbw1 : Below w.heap.size w w1 := Hbel.out.trans (hb1'.mono (by omega))
        have ho1 := Hob.out.below hb1'
        have Ho1 := Lib.hid (ho1.below ((Below.refl _ _).alloc (Nat.le_refl _) (.cells #[.string { data := #[] }, .string { data := #[] }, .string { data := #[] }, .slice none 0 0, .slice none 0 0, .slice none 0 0, .bool false, .string { data := #[] }, .int .i64 0, .string { data := #[] }] 52)))
        have Hbw1 := Lib.hid hbw1
        have hs1 : w.heap.size < w1.heap.size := by have := hb1'.size; omega
        unfold zeroObj
        clear ho1 hbw1 hb1' c0 b0
        go_wp2_with fail
        go_roundg g
        case measure => omega
        case rel => exact ⟨j + 1, by omega, by go_num, by rw [Htk.out, Hst.out]; exact OnceAt.mk (heap_alloc_old b1) Ho1.out (Hbw1.out.alloc (by omega) _)⟩
end Go.Proofs.Yteadfpbkhledlaa
