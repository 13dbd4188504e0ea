/- Texts of ours joined. -/
import Derived.Deep.LoopGhost
import Derived.Shelf.SlLaysF0
import Derived.Test.YtnnceaapodgfbaaGreatDoorProg
import Derived.Shelf.SlSortCmp.Kit1
import Derived.Shelf.SlSortCmp.NoneTotal
import Derived.Test.YtnnceaapodgfbaaGreatDoorMx9
set_option linter.unusedVariables false
set_option linter.unusedSimpArgs false
namespace Go.Proofs.YtnnceaapodgfbaaGreatDoor
namespace Sto
open Go.RowKit
theorem restOf_mod {a b : Int} (hb : 0 < b) : restOf a b = a % b := by
 unfold restOf
 rw [Int.tmod_eq_emod]
 have h1 := Int.emod_nonneg a (by omega : b ≠ 0)
 have h2 := Int.emod_lt_of_pos a hb
 have h3 : (b.natAbs : Int) = b := by omega
 (repeat' split) <;> omega
theorem step_any (a b : Int) (w : World) (hb : 0 < b) (hb2 : b ≤ 1073741824) : Calls Tryz.prog 21 #[.int .i64 a, .int .i64 b] w fun e w' => e = .returned (.int .i64 (modI a b)) ∧ w = w' := by
 have H := Lib.hid (rest_any a b w hb hb2)
 rw [restOf_mod hb] at H
 have h1 := Int.emod_nonneg a (by omega : b ≠ 0)
 have h2 := Int.emod_lt_of_pos a hb
 have q1 : IntKind.i64.wrap (a % b) = a % b := IntWalk.i64_in _ (by omega)
 clear h1 h2
 go_enter Tryz.func21, Tryz.ntmps21
 go_wp2_with fail
 refine H.out.mono ?_
 rintro E w1 ⟨rfl, rfl⟩
 go_wp2_with fail
 go_ret
 exact ⟨rfl, rfl⟩
theorem did_box {D D' E : Dom} {w w2 w3 w4 : World} {g go : Nat} {T : Told} {u1 u2 u3 : Value} (hb : Below w.heap.size w w2) (hD : ∀ b, D b → b < w.heap.size) (hgo : w.heap.size ≤ go ∧ go < w2.heap.size) (h1 : StoreAt D' w3 g T.1) (h2 : ObjIn E w3 u1 u2 u3 T.2.1) (h3 : ∀ b, E b → w2.heap.size ≤ b ∧ b < w3.heap.size ∧ ¬ D' b) (h4 : ∀ b, D' b → D b ∨ w2.heap.size ≤ b) (h5 : Only D w2 w3) (ht : Touch go w3 w4) :
  Did D w g T (.returned (.tuple #[objW T.2.1 u1 u2 u3, .int .i64 T.2.2])) w4 := by
 have s1 := hb.size
 have s2 := ht.size
 have n1 : ∀ b, D' b → b ≠ go := fun b hb9 e => by
  rcases h4 b hb9 with h | h
  ·have := hD b h; omega
  ·omega
 refine ⟨D', E, u1, u2, u3, rfl, h1.agree (fun b hb9 => ht.other b (n1 b hb9)) (by omega), h2.agree fun b hb9 => ht.other b fun e => by have := (h3 b hb9).1; omega, fun b hb9 => ?_, fun b hb9 => ?_, ?_⟩
 ·obtain ⟨e1, e2, e3⟩ := h3 b hb9
  exact ⟨by omega, by omega, e3⟩
 ·rcases h4 b hb9 with h | h
  ·exact .inl h
  ·exact .inr (by omega)
 ·have x1 : Only D w w3 := Only.after hb h5
  exact x1.trans (Only.touch (D := fun b => b = go) ht rfl) fun b hb hl => by omega
def stepW (x : GStoreStep) (v1 v2 v3 : Value) : Value := .agg (.int .i64 x.kind :: .int .i64 x.rev :: objCs x.o v1 v2 v3).toArray
set_option maxRecDepth 100000 in
set_option maxHeartbeats 3200000 in
theorem do_any {D : Dom} {w0 w : World} {g : Nat} {S : St} (h : StoreAt D w g S) (hH : Home w0 D w) (hS : OkSt S) (hrv : S.rev ≤ 4194303) (x : GStoreStep) (v1 v2 v3 : Value) (hl : RowAt LabelR 2 w v1 x.o.labels) (ho : StrAt w v2 x.o.owners) (hh : StrAt w v3 x.o.holds) (hok : OkObj x.o) :
  Calls Tryz.prog 20 #[.pointer (some ⟨g, 0, none⟩), stepW x v1 v2 v3] w (Did D w g (doS S x)) := by
 obtain ⟨a1, c1, rfl, -, -⟩ := hl.len
 obtain ⟨a2, c2, rfl, -, -⟩ := ho.row.len
 obtain ⟨a3, c3, rfl, -, -⟩ := hh.row.len
 obtain ⟨n1, Hn1⟩ : ∃ n, Hid (x.o.labels.length = n) := ⟨_, Lib.hid rfl⟩
 obtain ⟨n2, Hn2⟩ : ∃ n, Hid (x.o.owners.length = n) := ⟨_, Lib.hid rfl⟩
 obtain ⟨n3, Hn3⟩ : ∃ n, Hid (x.o.holds.length = n) := ⟨_, Lib.hid rfl⟩
 rw [Hn1.out] at hl
 rw [Hn2.out] at ho
 rw [Hn3.out] at hh
 rw [Hn1.out, Hn2.out, Hn3.out]
 obtain ⟨T, HT⟩ : ∃ T, Hid (doS S x = T) := ⟨_, Lib.hid rfl⟩
 rw [HT.out]
 obtain ⟨w1, hw1⟩ : ∃ w1, w1 = (w.alloc (.cells #[.int .i64 x.kind, .int .i64 x.rev, .string x.o.okey.kind, .string x.o.okey.space, .string x.o.okey.name, .slice a1 n1 c1, .slice a2 n2 c2, .slice a3 n3 c3, .bool x.o.ending, .string x.o.uid, .int .i64 x.o.rev, .string x.o.doc] 40)).alloc (.cells noA 30) := ⟨_, rfl⟩
 obtain ⟨gx, hgx⟩ : ∃ gx, gx = w.heap.size := ⟨_, rfl⟩
 obtain ⟨go, hgo⟩ : ∃ go, go = w.heap.size + 1 := ⟨_, rfl⟩
 have XO : Hid (w1.heap[gx]? = some (.cells #[.int .i64 x.kind, .int .i64 x.rev, .string x.o.okey.kind, .string x.o.okey.space, .string x.o.okey.name, .slice a1 n1 c1, .slice a2 n2 c2, .slice a3 n3 c3, .bool x.o.ending, .string x.o.uid, .int .i64 x.o.rev, .string x.o.doc] 40 (0, 0))) := Lib.hid (by rw [hw1, hgx]; exact heap_alloc_old (heap_alloc_new w _))
 have RO : Hid (w1.heap[go]? = some (.cells noA 30 (0, 0))) := Lib.hid (by rw [hw1, hgo]; exact heap_alloc_at (World.size_alloc _ _).symm)
 have hb1 : Below w.heap.size w w1 := by rw [hw1]; exact ((Below.refl _ w).alloc (Nat.le_refl _) _).alloc (by rw [World.size_alloc]; omega) _
 have hgw : w.heap.size ≤ go := by omega
 have hs1 : go < w1.heap.size := by rw [hw1, World.size_alloc, World.size_alloc]; omega
 have HB := Lib.hid hb1
 have HS := Lib.hid hS
 have HA := Lib.hid h
 have HH := Lib.hid (hH.below hb1)
 have HA1 := Lib.hid (h.belowW hb1)
 have HL := Lib.hid (hl.below stays_label hb1)
 have HO := Lib.hid (ho.below hb1)
 have HHh := Lib.hid (hh.below hb1)
 have Hok := Lib.hid hok
 have HSt := fun w => Lib.hid (step_any x.kind 4 w (by decide) (by decide))
 obtain ⟨kd, Hkd⟩ : ∃ kd, Hid (modI x.kind 4 = kd) := ⟨_, Lib.hid rfl⟩
 rw [Hkd.out] at HSt
 clear hb1 h hS hH hl ho hh hok
 rw [show stepW x (.slice a1 n1 c1) (.slice a2 n2 c2) (.slice a3 n3 c3) = .agg #[.int .i64 x.kind, .int .i64 x.rev, .string x.o.okey.kind, .string x.o.okey.space, .string x.o.okey.name, .slice a1 n1 c1, .slice a2 n2 c2, .slice a3 n3 c3, .bool x.o.ending, .string x.o.uid, .int .i64 x.o.rev, .string x.o.doc] from rfl]
 go_enter Tryz.func20, Tryz.ntmps20
 go_upto_region 1 with fail
 have hex : ((w.alloc (.cells #[.int .i64 x.kind, .int .i64 x.rev, .string x.o.okey.kind, .string x.o.okey.space, .string x.o.okey.name, .slice a1 n1 c1, .slice a2 n2 c2, .slice a3 n3 c3, .bool x.o.ending, .string x.o.uid, .int .i64 x.o.rev, .string x.o.doc] 40)).alloc (.cells #[.string { data := #[] }, .string { data := #[] }, .string { data := #[] }, .slice none 0 0, .slice none 0 0, .slice none 0 0, .bool false, .string { data := #[] }, .int .i64 0, .string { data := #[] }] 30)) = w1 := hw1.symm
 rw [hex]
 try rw [← hgo]
 rw [← hgx]
 clear hw1 hex hgx hgo
 have cc := fun i => cell_block XO.out i
 go_wp2_with fail
 refine (HSt _).out.mono ?_
 rintro E w2 ⟨rfl, hw2⟩
 subst hw2
 clear HSt
 by_cases hk0 : kd = 0
 ·subst hk0
  have HTE : Hid (T = create S x.o) := Lib.hid (by rw [← HT.out]; unfold doS; rw [Hkd.out, if_pos rfl])
  have HX := Lib.hid (by have h9 := create_any HA1.out HH.out HS.out hrv x.o (.slice a1 n1 c1) (.slice a2 n2 c2) (.slice a3 n3 c3) HL.out HO.out HHh.out Hok.out; rw [show objW x.o (.slice a1 n1 c1) (.slice a2 n2 c2) (.slice a3 n3 c3) = .agg #[.string x.o.okey.kind, .string x.o.okey.space, .string x.o.okey.name, .slice a1 n1 c1, .slice a2 n2 c2, .slice a3 n3 c3, .bool x.o.ending, .string x.o.uid, .int .i64 x.o.rev, .string x.o.doc] from rfl] at h9; exact h9)
  clear HT
  go_wp2_with fail
  refine HX.out.mono ?_
  rintro E w3 ⟨D9, E9, u1, u2, u3, rfl, k1, k2, k3, k4, k5⟩
  have K1 := Lib.hid k1
  have K2 := Lib.hid k2
  have K3 := Lib.hid k3
  have K4 := Lib.hid k4
  have K5 := Lib.hid k5
  have R3 : Hid (w3.heap[go]? = some (.cells noA 30 (0, 0))) := Lib.hid ((k5.block go (by omega) fun hm => by have := HA.out.low hm; omega).trans RO.out)
  clear k1 k2 k3 k4 k5 HX
  rw [← HTE.out] at K1 K2 ⊢
  obtain ⟨TO9, HTO⟩ : ∃ y, Hid (T.2.1 = y) := ⟨_, Lib.hid rfl⟩
  obtain ⟨TE9, HTE9⟩ : ∃ y, Hid (T.2.2 = y) := ⟨_, Lib.hid rfl⟩
  rw [HTO.out, HTE9.out]
  go_wp2_with (refine wpList_store_box (by rfl) _ _ _ (by rfl) go (objCs TO9 u1 u2 u3).toArray (by rfl) (by rfl) _ _ (by exact R3.out) (by exact Tryz.sizeObj) (by rfl) (by rw [← HTO.out]; exact objA_ones K2.out) ?_)
  intro WF bF tF
  have BF := Lib.hid bF
  have TF := Lib.hid tF
  clear bF tF
  go_wp2_with fail
  refine bodyPost_ret (v := .tuple #[objW TO9 u1 u2 u3, .int .i64 TE9]) ?_ rfl ?_
  ·exact results_two_obj Tryz.results20 _ _ go _ (by rfl) BF.out rfl
  ·rw [← HTO.out, ← HTE9.out]
   exact did_box HB.out (fun b hb => HA.out.low hb) ⟨hgw, hs1⟩ K1.out K2.out K3.out K4.out K5.out TF.out
 ·have p0 : (kd == 0) = false := by rw [beq_eq_false_iff_ne]; exact hk0
  by_cases hk1 : kd = 1
  ·subst hk1
   clear p0
   have HTE : Hid (T = update S x.o) := Lib.hid (by rw [← HT.out]; unfold doS; rw [Hkd.out, if_neg (by decide), if_pos rfl])
   have HX := Lib.hid (by have h9 := update_any HA1.out HH.out HS.out hrv x.o (.slice a1 n1 c1) (.slice a2 n2 c2) (.slice a3 n3 c3) HL.out HO.out HHh.out Hok.out; rw [show objW x.o (.slice a1 n1 c1) (.slice a2 n2 c2) (.slice a3 n3 c3) = .agg #[.string x.o.okey.kind, .string x.o.okey.space, .string x.o.okey.name, .slice a1 n1 c1, .slice a2 n2 c2, .slice a3 n3 c3, .bool x.o.ending, .string x.o.uid, .int .i64 x.o.rev, .string x.o.doc] from rfl] at h9; exact h9)
   clear HT
   go_wp2_with fail
   refine HX.out.mono ?_
   rintro E w3 ⟨D9, E9, u1, u2, u3, rfl, k1, k2, k3, k4, k5⟩
   have K1 := Lib.hid k1
   have K2 := Lib.hid k2
   have K3 := Lib.hid k3
   have K4 := Lib.hid k4
   have K5 := Lib.hid k5
   have R3 : Hid (w3.heap[go]? = some (.cells noA 30 (0, 0))) := Lib.hid ((k5.block go (by omega) fun hm => by have := HA.out.low hm; omega).trans RO.out)
   clear k1 k2 k3 k4 k5 HX
   rw [← HTE.out] at K1 K2 ⊢
   obtain ⟨TO9, HTO⟩ : ∃ y, Hid (T.2.1 = y) := ⟨_, Lib.hid rfl⟩
   obtain ⟨TE9, HTE9⟩ : ∃ y, Hid (T.2.2 = y) := ⟨_, Lib.hid rfl⟩
   rw [HTO.out, HTE9.out]
   go_wp2_with (refine wpList_store_box (by rfl) _ _ _ (by rfl) go (objCs TO9 u1 u2 u3).toArray (by rfl) (by rfl) _ _ (by exact R3.out) (by exact Tryz.sizeObj) (by rfl) (by rw [← HTO.out]; exact objA_ones K2.out) ?_)
   intro WF bF tF
   have BF := Lib.hid bF
   have TF := Lib.hid tF
   clear bF tF
   go_wp2_with fail
   refine bodyPost_ret (v := .tuple #[objW TO9 u1 u2 u3, .int .i64 TE9]) ?_ rfl ?_
   ·exact results_two_obj Tryz.results20 _ _ go _ (by rfl) BF.out rfl
   ·rw [← HTO.out, ← HTE9.out]
    exact did_box HB.out (fun b hb => HA.out.low hb) ⟨hgw, hs1⟩ K1.out K2.out K3.out K4.out K5.out TF.out
  ·have p1 : (kd == 1) = false := by rw [beq_eq_false_iff_ne]; exact hk1
   by_cases hk2 : kd = 2
   ·subst hk2
    clear p0 p1
    have HTE : Hid (T = remove S x.o.okey x.rev) := Lib.hid (by rw [← HT.out]; unfold doS; rw [Hkd.out, if_neg (by decide), if_neg (by decide), if_pos rfl])
    have HX := Lib.hid (remove_any HA1.out HH.out HS.out hrv x.o.okey x.rev ⟨Hok.out.kind, Hok.out.space, Hok.out.name⟩)
    clear HT
    go_wp2_with fail
    refine HX.out.mono ?_
    rintro E w3 ⟨D9, E9, u1, u2, u3, rfl, k1, k2, k3, k4, k5⟩
    have K1 := Lib.hid k1
    have K2 := Lib.hid k2
    have K3 := Lib.hid k3
    have K4 := Lib.hid k4
    have K5 := Lib.hid k5
    have R3 : Hid (w3.heap[go]? = some (.cells noA 30 (0, 0))) := Lib.hid ((k5.block go (by omega) fun hm => by have := HA.out.low hm; omega).trans RO.out)
    clear k1 k2 k3 k4 k5 HX
    rw [← HTE.out] at K1 K2 ⊢
    obtain ⟨TO9, HTO⟩ : ∃ y, Hid (T.2.1 = y) := ⟨_, Lib.hid rfl⟩
    obtain ⟨TE9, HTE9⟩ : ∃ y, Hid (T.2.2 = y) := ⟨_, Lib.hid rfl⟩
    rw [HTO.out, HTE9.out]
    go_wp2_with (refine wpList_store_box (by rfl) _ _ _ (by rfl) go (objCs TO9 u1 u2 u3).toArray (by rfl) (by rfl) _ _ (by exact R3.out) (by exact Tryz.sizeObj) (by rfl) (by rw [← HTO.out]; exact objA_ones K2.out) ?_)
    intro WF bF tF
    have BF := Lib.hid bF
    have TF := Lib.hid tF
    clear bF tF
    go_wp2_with fail
    refine bodyPost_ret (v := .tuple #[objW TO9 u1 u2 u3, .int .i64 TE9]) ?_ rfl ?_
    ·exact results_two_obj Tryz.results20 _ _ go _ (by rfl) BF.out rfl
    ·rw [← HTO.out, ← HTE9.out]
     exact did_box HB.out (fun b hb => HA.out.low hb) ⟨hgw, hs1⟩ K1.out K2.out K3.out K4.out K5.out TF.out
   ·have p2 : (kd == 2) = false := by rw [beq_eq_false_iff_ne]; exact hk2
    obtain ⟨rv, Hrv⟩ : ∃ rv, Hid (modI x.rev 3 = rv) := ⟨_, Lib.hid rfl⟩
    have HTE : Hid (T = (compact S rv, noObj, compactE S rv)) := Lib.hid (by rw [← HT.out, ← Hrv.out]; unfold doS; rw [Hkd.out, if_neg hk0, if_neg hk1, if_neg hk2])
    have HRe := fun w => Lib.hid (rest_any x.rev 3 w (by decide) (by decide))
    rw [restOf_mod (by decide), show x.rev % 3 = rv from Hrv.out] at HRe
    have HC := Lib.hid (compact_any HA1.out rv)
    have hr1 : 0 ≤ rv ∧ rv < 3 := by rw [← Hrv.out]; exact ⟨Int.emod_nonneg _ (by decide), Int.emod_lt_of_pos _ (by decide)⟩
    have q1 : IntKind.i64.wrap rv = rv := IntWalk.i64_in _ (by omega)
    clear HT hk0 hk1 hk2 hr1
    go_wp2_with fail
    refine (HRe _).out.mono ?_
    rintro E w2 ⟨rfl, hw2⟩
    subst hw2
    go_wp2_with fail
    refine HC.out.mono ?_
    rintro E w3 ⟨rfl, k1, k5⟩
    have K1 := Lib.hid k1
    have K5 := Lib.hid k5
    have R3 : Hid (w3.heap[go]? = some (.cells noA 30 (0, 0))) := Lib.hid ((k5.block go (by omega) fun hm => by have := HA.out.low hm; omega).trans RO.out)
    clear k1 k5 HC HRe q1
    go_wp2_with (refine wpList_store_box (by rfl) _ _ _ (by rfl) go noA (by rfl) (by rfl) _ _ (by exact R3.out) (by exact Tryz.sizeObj) (by rfl) (by simp [Value.oneCell', noA]) ?_)
    intro WF bF tF
    have BF := Lib.hid bF
    have TF := Lib.hid tF
    clear bF tF
    go_wp2_with fail
    refine bodyPost_ret (v := .tuple #[.agg noA, .int .i64 (compactE S rv)]) ?_ rfl ?_
    ·exact results_two_obj Tryz.results20 _ _ go _ (by rfl) BF.out rfl
    ·rw [HTE.out]
     exact did_box (T := (compact S rv, noObj, compactE S rv)) (u1 := nilS) (u2 := nilS) (u3 := nilS) (E := fun _ => False) HB.out (fun b hb => HA.out.low hb) ⟨hgw, hs1⟩ K1.out (objIn_no _) (fun b hb => hb.elim) (fun b hb => .inl hb) K5.out TF.out
end Sto
end Go.Proofs.YtnnceaapodgfbaaGreatDoor
namespace Go.Proofs.YtnnceaapodgfbaaGreatDoor
namespace Sto
open Go.RowKit
def Hx (gh om gw hm gm : Nat) : Dom := fun b => b = gh ∨ b = om ∨ b = gw ∨ b = hm ∨ b = gm
def OffE (X D : Dom) (w : World) : Dom := fun b => b < w.heap.size ∧ ¬ D b ∧ ¬ X b
def M1 (gw : Nat) : Int → Option Nat := fun k => if k = 1 then some gw else none
def HasAt (E : Dom) (w : World) (gm n : Nat) (M : GKey → Option GObject) : Prop := ∃ f n', n' ≤ n ∧ MapK keyC w gm n' f ∧ AllM E w f M
structure WSt (W : World) (D : Dom) (w : World) (g gh om gw hm gm : Nat) (vr : Value) (R : Dom) (v : GView) (S : St) (p : Nat) (M : GKey → Option GObject) (n : Nat) : Prop where
 st : StoreAt D w g S
 home : Home W D w
 hub : HubAt w gh g om (M1 gw) 1 1
 wat : WatchAt w gw hm vr R v (p : Int) (isF (curV v (S.log.take p))) p
 has : HasAt (OffE (Hx gh om gw hm gm) D w) w gm n M
 ap : ∀ b, D b → ¬ Hx gh om gw hm gm b ∧ ¬ R b
 low : ∀ b, Hx gh om gw hm gm b → W.heap.size ≤ b
 dif : gm ≠ gh ∧ gm ≠ om ∧ gm ≠ gw ∧ gm ≠ hm ∧ ¬ R gm ∧ gw ≠ gh ∧ gw ≠ om ∧ hm ≠ gh ∧ hm ≠ om
 hp : p ≤ S.log.length
section
variable {W w w' : World} {D D2 : Dom} {g gh om gw hm gm p n : Nat} {vr : Value} {R : Dom} {v : GView} {S S2 : St} {M : GKey → Option GObject}
theorem HasAt.lt {E : Dom} (h : HasAt E w gm n M) : gm < w.heap.size := let ⟨_, _, _, h1, _⟩ := h; h1.lt
theorem WSt.lts (h : WSt W D w g gh om gw hm gm vr R v S p M n) : ∀ b, Hx gh om gw hm gm b → b < w.heap.size := fun b hb => by
 rcases hb with rfl | rfl | rfl | rfl | rfl
 ·exact h.hub.lts.1
 ·exact h.hub.lts.2
 ·exact h.wat.lts.1
 ·exact h.wat.lts.2
 ·exact h.has.lt
theorem WSt.belowW (h : WSt W D w g gh om gw hm gm vr R v S p M n) (hb : Below w.heap.size w w') : WSt W D w' g gh om gw hm gm vr R v S p M n :=
 ⟨h.st.belowW hb, h.home.below hb, h.hub.belowX hb, h.wat.belowX hb,
  let ⟨f, n', h1, h2, h3⟩ := h.has; ⟨f, n', h1, h2.belowW hb, (h3.agree fun b h9 => hb.block b h9.1).mono fun b h9 => ⟨Nat.lt_of_lt_of_le h9.1 hb.size, h9.2⟩⟩, h.ap, h.low, h.dif, h.hp⟩
theorem curV_grow (v : GView) {m : List GEvent} (hl : S2.log = S.log ++ m) (hp : p ≤ S.log.length) : curV v (S2.log.take p) = curV v (S.log.take p) := by
 rw [hl, List.take_append_of_le_length hp]
theorem WSt.did (h : WSt W D w g gh om gw hm gm vr R v S p M n) (h1 : StoreAt D2 w' g S2) (h2 : ∀ b, D2 b → D b ∨ w.heap.size ≤ b) (h3 : Only D w w') (hl : ∃ m, S2.log = S.log ++ m) : WSt W D2 w' g gh om gw hm gm vr R v S2 p M n := by
 obtain ⟨m, hl⟩ := hl
 have hlt := h.lts
 have hX : ∀ b, Hx gh om gw hm gm b → w'.heap[b]? = w.heap[b]? := fun b hb => h3.block b (hlt b hb) fun h9 => (h.ap b h9).1 hb
 refine ⟨h1, h.home.only h3 h2, h.hub.agreeX fun b hb => hX b (by rcases hb with rfl | rfl <;> simp [Hx]), ?_, ?_, ?_, h.low, h.dif, by rw [hl, List.length_append]; have := h.hp; omega⟩
 ·rw [curV_grow v hl h.hp]
  exact h.wat.agreeX h3.size fun b hb => by
   rcases hb with rfl | rfl | hb
   ·exact hX _ (by simp [Hx])
   ·exact hX _ (by simp [Hx])
   ·exact h3.block b (h.wat.low b hb).1 fun h9 => (h.ap b h9).2 hb
 ·obtain ⟨f, n', g1, g2, g3⟩ := h.has
  refine ⟨f, n', g1, g2.block (hX gm (by simp [Hx])), (g3.agree fun b h9 => h3.block b h9.1 h9.2.1).mono fun b h9 => ⟨Nat.lt_of_lt_of_le h9.1 h3.size, fun h8 => ?_, h9.2.2⟩⟩
  rcases h2 b h8 with h7 | h7
  ·exact h9.2.1 h7
  ·have := h9.1; omega
 ·intro b hb
  rcases h2 b hb with h7 | h7
  ·exact h.ap b h7
  ·exact ⟨fun h9 => by have := hlt b h9; omega, fun h9 => by have := (h.wat.low b h9).1; omega⟩
theorem WSt.homed (h : WSt W D w g gh om gw hm gm vr R v S p M n) {Y : Dom} (h3 : Only Y w w') (hY : ∀ b, Y b → Hx gh om gw hm gm b) : Home W D w' :=
 ⟨h.home.tab, h.home.max, h.home.bel.trans (h3.below (fun b hb => h.low b (hY b hb)) h.home.bel.size), h.home.own⟩
theorem WSt.stored (h : WSt W D w g gh om gw hm gm vr R v S p M n) {Y : Dom} (h3 : Only Y w w') (hY : ∀ b, Y b → Hx gh om gw hm gm b) : StoreAt D w' g S :=
 h.st.agree (fun b hb => h3.block b (h.st.low hb) fun h9 => (h.ap b hb).1 (hY b h9)) h3.size
theorem WSt.took (h : WSt W D w g gh om gw hm gm vr R v S p M n) {q : Nat} (h1 : WatchAt w' gw hm vr R v (q : Int) (isF (curV v (S.log.take q))) q) (h3 : Only (fun b => b = hm ∨ b = gw) w w') (hq : q ≤ S.log.length) : WSt W D w' g gh om gw hm gm vr R v S q M n := by
 have hY : ∀ b, b = hm ∨ b = gw → Hx gh om gw hm gm b := fun b hb => by rcases hb with rfl | rfl <;> simp [Hx]
 obtain ⟨d1, d2, d3, d4, d5, d6, d7, d8, d9⟩ := h.dif
 refine ⟨h.stored h3 hY, h.homed h3 hY, h.hub.agreeX fun b hb => h3.block b (h.lts b (by rcases hb with rfl | rfl <;> simp [Hx])) fun h9 => ?_, h1, ?_, h.ap, h.low, h.dif, hq⟩
 ·rcases hb with rfl | rfl <;> rcases h9 with h9 | h9 <;> omega
 ·obtain ⟨f, n', g1, g2, g3⟩ := h.has
  exact ⟨f, n', g1, g2.block (h3.block gm g2.lt (by omega)), (g3.agree fun b h9 => h3.block b h9.1 fun h8 => h9.2.2 (hY b h8)).mono fun b h9 => ⟨Nat.lt_of_lt_of_le h9.1 h3.size, h9.2⟩⟩
theorem WSt.told (h : WSt W D w g gh om gw hm gm vr R v S p M n) {M' : GKey → Option GObject} {n' : Nat} {f' : GKey → Option Value} (h3 : Only (fun b => b = gm) w w') (h1 : MapK keyC w' gm n' f') (h2 : AllM (OffE (Hx gh om gw hm gm) D w) w f' M') : WSt W D w' g gh om gw hm gm vr R v S p M' n' := by
 have hY : ∀ b, b = gm → Hx gh om gw hm gm b := fun b hb => by subst hb; simp [Hx]
 obtain ⟨d1, d2, d3, d4, d5, d6, d7, d8, d9⟩ := h.dif
 refine ⟨h.stored h3 hY, h.homed h3 hY, h.hub.agreeX fun b hb => h3.block b (h.lts b (by rcases hb with rfl | rfl <;> simp [Hx])) fun h9 => ?_, h.wat.agreeX h3.size fun b hb => h3.block b ?_ fun h9 => ?_, ?_, h.ap, h.low, h.dif, h.hp⟩
 ·rcases hb with rfl | rfl <;> omega
 ·rcases hb with rfl | rfl | hb
  ·exact h.wat.lts.1
  ·exact h.wat.lts.2
  ·exact (h.wat.low b hb).1
 ·rcases hb with rfl | rfl | hb
  ·exact d3 h9.symm
  ·exact d4 h9.symm
  ·exact d5 (h9 ▸ hb)
 ·exact ⟨f', n', Nat.le_refl _, h1, (h2.agree fun b h9 => h3.block b h9.1 fun h8 => h9.2.2 (hY b h8)).mono fun b h9 => ⟨Nat.lt_of_lt_of_le h9.1 h3.size, h9.2⟩⟩
theorem WSt.start (h1 : StoreAt D w g S) (h2 : Home W D w) (h3 : HubAt w gh g om (M1 gw) 1 1) (h4 : WatchAt w gw hm vr R v (p : Int) (isF (curV v (S.log.take p))) p) (hp : p ≤ S.log.length) {B : Nat} (hB : ∀ b, D b → b < B) (hlow : B ≤ gh ∧ B ≤ om) (h5 : ∀ b, b = gw ∨ b = hm ∨ R b → B ≤ b ∧ b ≠ gh ∧ b ≠ om) (hW : W.heap.size ≤ B)
  {f : GKey → Option Value} {E : Dom} (h6 : MapK keyC w gm n f) (h7 : AllM E w f M) (hm9 : B ≤ gm ∧ gm ≠ gh ∧ gm ≠ om ∧ gm ≠ gw ∧ gm ≠ hm ∧ ¬ R gm) (hE : ∀ b, E b → OffE (Hx gh om gw hm gm) D w b) : WSt W D w g gh om gw hm gm vr R v S p M n := by
 obtain ⟨m0, m1, m2, m3, m4, m5⟩ := hm9
 have hXB : ∀ b, Hx gh om gw hm gm b → B ≤ b := fun b hb => by
  rcases hb with rfl | rfl | rfl | rfl | rfl
  ·exact hlow.1
  ·exact hlow.2
  ·exact (h5 _ (.inl rfl)).1
  ·exact (h5 _ (.inr (.inl rfl))).1
  ·exact m0
 exact ⟨h1, h2, h3, h4, ⟨f, n, Nat.le_refl _, h6, h7.mono hE⟩, fun b hb => ⟨fun h9 => by have := hXB b h9; have := hB b hb; omega, fun h9 => by have := (h5 b (.inr (.inr h9))).1; have := hB b hb; omega⟩, fun b hb => Nat.le_trans hW (hXB b hb), ⟨m1, m2, m3, m4, m5, (h5 _ (.inl rfl)).2.1, (h5 _ (.inl rfl)).2.2, (h5 _ (.inr (.inl rfl))).2.1, (h5 _ (.inr (.inl rfl))).2.2⟩, hp⟩
end
end Sto
end Go.Proofs.YtnnceaapodgfbaaGreatDoor
namespace Go.Proofs.YtnnceaapodgfbaaGreatDoor
namespace Sto
open Go.RowKit
theorem space_is (s : ByteArray) : spaceE s = if s.toList.isEmpty = true then 0 else chk s := by
 unfold spaceE chk
 rw [show s.toList = s.data.toList from ByteArray.toList_eq s]
 cases h : s.data.toList with
 | nil => rfl
 | cons a l => rfl
def viewE (v : GView) : Int := says (chk v.kind) (says (spaceE v.space) (reqsE v.reqs))
set_option maxRecDepth 100000 in
set_option maxHeartbeats 3200000 in
theorem vcheck_any {w : World} {va : Value} {v : GView} (hr : RowAt ReqR 3 w va v.reqs) (hv : OkView v) (hm9 : ∃ m, MaxOK m w) :
  Calls Tryz.prog 76 #[.agg #[.string v.kind, .string v.space, va]] w fun e w' => e = .returned (.int .i64 (viewE v)) ∧ Below w.heap.size w w' := by
 obtain ⟨ar, cr, rfl, -, -⟩ := hr.len
 obtain ⟨nr, Hnr⟩ : ∃ n, Hid (v.reqs.length = n) := ⟨_, Lib.hid rfl⟩
 rw [Hnr.out] at hr ⊢
 obtain ⟨k1, Hk1⟩ : ∃ x, Hid (chk v.kind = x) := ⟨_, Lib.hid rfl⟩
 obtain ⟨k2, Hk2⟩ : ∃ x, Hid (chk v.space = x) := ⟨_, Lib.hid rfl⟩
 obtain ⟨k3, Hk3⟩ : ∃ x, Hid (reqsE v.reqs = x) := ⟨_, Lib.hid rfl⟩
 obtain ⟨R, HR⟩ : ∃ x, Hid (viewE v = x) := ⟨_, Lib.hid rfl⟩
 rw [HR.out]
 have HC1 : Hid (∀ w', Calls Tryz.prog 89 #[.string v.kind] w' fun e w2 => e = .returned (.int .i64 k1) ∧ w' = w2) := Lib.hid fun w' => by
  have h9 := check_any v.kind w' (Nat.le_trans hv.kind (by decide))
  rw [show NameP.check v.kind.data.toList = k1 from Hk1.out] at h9
  exact h9
 have HC2 : Hid (∀ w', Calls Tryz.prog 89 #[.string v.space] w' fun e w2 => e = .returned (.int .i64 k2) ∧ w' = w2) := Lib.hid fun w' => by
  have h9 := check_any v.space w' (Nat.le_trans hv.space (by decide))
  rw [show NameP.check v.space.data.toList = k2 from Hk2.out] at h9
  exact h9
 have HC3 : Hid (∀ w', Below w.heap.size w w' → Calls Tryz.prog 109 #[.slice ar nr cr] w' fun e w2 => e = .returned (.int .i64 k3) ∧ Below w'.heap.size w' w2) := Lib.hid fun w' hb => by
  obtain ⟨m, hm⟩ := hm9
  have h9 := checks_any (.slice ar nr cr) v.reqs m w' (hr.below stays_req hb) hv.reqs.1 hv.reqs.2 (hm.below hb)
  rw [Hk3.out] at h9
  exact h9
 have hRx : R = says k1 (says (if v.space.toList.isEmpty = true then 0 else k2) k3) := by
  rw [← HR.out]
  unfold viewE
  rw [Hk1.out, Hk3.out, show spaceE v.space = if v.space.toList.isEmpty = true then 0 else k2 from by rw [← Hk2.out]; exact space_is v.space]
 have HRx := Lib.hid hRx
 obtain ⟨W, hW⟩ : ∃ W, W = w.alloc (.cells #[.string v.kind, .string v.space, .slice ar nr cr] 80) := ⟨_, rfl⟩
 obtain ⟨gv, hgv⟩ : ∃ g, g = w.heap.size := ⟨_, rfl⟩
 have BV := Lib.hid (show W.heap[gv]? = some (.cells #[.string v.kind, .string v.space, .slice ar nr cr] 80 (0, 0)) by rw [hW, hgv]; exact heap_alloc_new w _)
 have HB1 : Hid (Below w.heap.size w W) := Lib.hid (by rw [hW]; exact (Below.refl _ w).alloc (Nat.le_refl _) _)
 have cv := fun i => cell_block BV.out i
 clear hr hv hm9 hRx
 go_enter Tryz.func76, Tryz.ntmps76
 go_upto_region 1 with fail
 rw [← hW]
 try rw [← hgv]
 clear hW hgv
 go_wp2_with fail
 refine (HC1.out W).mono ?_
 rintro E w2 ⟨rfl, rfl⟩
 by_cases h1 : k1 = 0
 ·subst h1
  cases eb : v.space.toList.isEmpty with
  | true =>
   have hR3 : R = k3 := by rw [HRx.out, eb]; rfl
   subst hR3
   go_wp2_with fail
   refine (HC3.out W HB1.out).mono ?_
   rintro E w3 ⟨rfl, hb3⟩
   have HB3 := Lib.hid (HB1.out.trans (hb3.mono HB1.out.size))
   clear hb3
   go_wp2_with fail
   go_ret
   exact ⟨rfl, HB3.out⟩
  | false =>
   go_wp2_with fail
   refine (HC2.out W).mono ?_
   rintro E w2 ⟨rfl, rfl⟩
   by_cases h2 : k2 = 0
   ·subst h2
    have hR3 : R = k3 := by rw [HRx.out, eb]; rfl
    subst hR3
    go_wp2_with fail
    refine (HC3.out W HB1.out).mono ?_
    rintro E w3 ⟨rfl, hb3⟩
    have HB3 := Lib.hid (HB1.out.trans (hb3.mono HB1.out.size))
    clear hb3
    go_wp2_with fail
    go_ret
    exact ⟨rfl, HB3.out⟩
   ·have q2 : (k2 != 0) = true := by rw [bne_iff_ne]; exact h2
    have hR3 : R = k2 := by rw [HRx.out, eb]; exact if_neg h2
    subst hR3
    clear h2
    go_wp2_with fail
    go_ret
    exact ⟨rfl, HB1.out⟩
 ·have q1 : (k1 != 0) = true := by rw [bne_iff_ne]; exact h1
  have hR3 : R = k1 := by rw [HRx.out]; exact if_neg h1
  subst hR3
  clear h1
  go_wp2_with fail
  go_ret
  exact ⟨rfl, HB1.out⟩
end Sto
end Go.Proofs.YtnnceaapodgfbaaGreatDoor
namespace Go.Proofs.YtnnceaapodgfbaaGreatDoor
namespace Sto
open Go.RowKit
theorem i64_wfW {n : Int} (h1 : -9223372036854775808 ≤ n) (h2 : n ≤ 9223372036854775807) : (Lit.int .i64 n).wf = true := by show (decide _ && decide _) = true; rw [Bool.and_eq_true]; exact ⟨decide_eq_true h1, decide_eq_true h2⟩
theorem Tryz.sizeReqW : (Tryz.prog.info? 97).map (·.size) = some 3 := by kernel_rfl
theorem Tryz.infoReqW : (Tryz.prog.info? 97).map (fun i => (i.zero, i.size, i.bytes)) = some (some (.agg #[.string ByteArray.empty, .int .i64 0, .slice none 0 0]), 3, 48) := by kernel_rfl
theorem one_reqW : OneR ReqR := fun w cs x h u hu => by
 obtain ⟨v2, rfl, _, h2⟩ := h
 simp only [List.mem_cons, List.not_mem_nil, or_false] at hu
 rcases hu with rfl | rfl | rfl
 ·rfl
 ·rfl
 ·obtain ⟨a, c, h9, -, -⟩ := h2.row.len
  rw [h9]
  rfl
set_option maxRecDepth 100000 in
theorem cloneReqW_any {R : Rd GReq} (hf : Flat R) (h1 : OneR R) (v : Value) (l : List GReq) (w : World) (h : RowAt R 3 w v l) (hl : l.length ≤ 1048576) :
  Calls Tryz.prog 77 #[v] w fun e w' => ∃ v', e = .returned v' ∧ OwnAt R 3 w' w.heap.size 97 v' l ∧ Below w.heap.size w w' := by
 obtain ⟨i0, hi0, hz0, hz1, hz2⟩ := info_parts Tryz.infoReqW
 have hn := fun (w : World) (a : Option Addr) (n c : Nat) => Lib.run_eql_slice_nil (P := Tryz.prog) w 78 97 a n c 0 0 Tryz.underlying78
 rcases h with ⟨rfl, rfl⟩ | ⟨a, c, rfl, g1, g2, g3⟩
 ·go_enter Tryz.func77, Tryz.ntmps77
  go_wp2_with fail
  go_ret
  exact ⟨_, rfl, OwnAt.nil _, Below.refl _ _⟩
 ·have hrow : RowAt R 3 w (.slice (some a) l.length c) l := .inr ⟨a, c, rfl, g1, g2, g3⟩
  have Hrow := Lib.hid (hrow.below hf.stays ((Below.refl _ w).alloc (Nat.le_refl _) (.cells #[] 97)))
  clear hrow g1 g2 g3
  go_enter Tryz.func77, Tryz.ntmps77
  go_wp2_with (at_builtin; refine wpList_append_ownAt (R := R) (k := 3) (e := 97) (B := w.heap.size) (l := []) (m := l) _ (by rfl) _ _ _ (by rfl) i0 _ 48 Tryz.underlying78 hi0 hz0 hz1 hz2 rfl (by omega) hf h1 _ (by rfl) (own_empty w 3 _ (Nat.le_refl _)) _ (by rfl) Hrow.out (by unfold maxLen; simp; omega) (by simp; omega) (by simp) ?_)
  intro v' w' hv' hg hr _
  have hb : Below w.heap.size w w' := below_of_grown ((Below.refl _ _).alloc (Nat.le_refl _) _) (by simp) hg hr
  go_wp2_with fail
  go_ret
  exact ⟨_, rfl, by simpa using hv', hb⟩
def flagL : Nat → List GReq → List (GReq × Bool)
 | _, [] => []
 | 0, a :: l => (a, false) :: flagL 0 l
 | i + 1, a :: l => (a, true) :: flagL i l
theorem flagL_at : ∀ (l : List GReq) (i : Nat) (x : GReq), l[i]? = some x → (flagL i l)[i]? = some (x, false) ∧ (flagL i l).set i (x, true) = flagL (i + 1) l
 | [], i, x, h => by simp at h
 | a :: l, 0, x, h => by
  have h9 : a = x := by simpa using h
  subst h9
  exact ⟨rfl, rfl⟩
 | a :: l, i + 1, x, h => by
  have h9 := flagL_at l i x (by simpa using h)
  exact ⟨by show ((a, true) :: flagL i l)[i + 1]? = _; rw [List.getElem?_cons_succ]; exact h9.1, by show ((a, true) :: flagL i l).set (i + 1) _ = (a, true) :: flagL (i + 1) l; rw [List.set_cons_succ, h9.2]⟩
theorem flagL_zero : ∀ l : List GReq, flagL 0 l = l.map fun x => (x, false)
 | [] => rfl
 | a :: l => by show (a, false) :: flagL 0 l = _; rw [flagL_zero l]; rfl
theorem flagL_all : ∀ l : List GReq, flagL l.length l = l.map fun x => (x, true)
 | [] => rfl
 | a :: l => by show (a, true) :: flagL l.length l = _; rw [flagL_all l]; rfl
theorem flagL_len : ∀ (l : List GReq) (i : Nat), (flagL i l).length = l.length
 | [], _ => rfl
 | a :: l, 0 => by show (flagL 0 l).length + 1 = _; rw [flagL_len l 0]; rfl
 | a :: l, i + 1 => by show (flagL i l).length + 1 = _; rw [flagL_len l i]; rfl
theorem OwnAt.mapL9 {α β : Type} {R : Rd α} {R' : Rd β} {k B : Nat} {w : World} {e : TypeId} {v : Value} {l : List α} (h : OwnAt R k w B e v l) (f : α → β) (hi : ∀ cs x, x ∈ l → R w cs x → R' w cs (f x)) : OwnAt R' k w B e v (l.map f) := by
 obtain ⟨css, h1, h2, h3, h4⟩ := h
 refine ⟨css, by rw [List.length_map]; exact h1, h2, by rw [List.length_map]; exact h3, fun j cs x hcs hx => ?_⟩
 rw [List.getElem?_map] at hx
 cases hl : l[j]? with
 | none => rw [hl] at hx; cases hx
 | some y =>
  rw [hl] at hx
  injection hx with hx
  subst hx
  exact hi cs y (List.mem_of_getElem? hl) (h4 j cs y hcs hl)
def ReqB (D : Dom) (w : World) : Rd (GReq × Bool) := fun _ cs y => ∃ v2, cs = [.string y.1.key, .int .i64 y.1.kind, v2] ∧ v2.oneCell' = true ∧ (Lit.int .i64 y.1.kind).wf = true ∧ (y.2 = true → OwnX StrF 1 D w 9 v2 y.1.vals)
theorem famReqB : Fam ReqB :=
 ⟨fun _ _ _ _ _ _ h => h, fun _ _ _ cs x ⟨v2, h1, h2, _, _⟩ u hu => by
  rw [h1] at hu
  simp only [List.mem_cons, List.not_mem_nil, or_false] at hu
  rcases hu with rfl | rfl | rfl
  ·rfl
  ·rfl
  ·exact h2,
  fun _ _ _ _ _ _ ha ⟨v2, h1, h2, h3, h4⟩ => ⟨v2, h1, h2, h3, fun e => (h4 e).agree famStr ha⟩, fun _ _ _ _ _ _ hd ⟨v2, h1, h2, h3, h4⟩ => ⟨v2, h1, h2, h3, fun e => (h4 e).mono famStr hd⟩⟩
end Sto
end Go.Proofs.YtnnceaapodgfbaaGreatDoor
namespace Go.Proofs.YtnnceaapodgfbaaGreatDoor
open Go.RowKit
set_option maxRecDepth 100000 in
theorem hasStr_any (v : Value) (l : List ByteArray) (x : ByteArray) (w : World) (h : StrAt w v l) (hl : l.length ≤ 1073741824) :
  Calls Tryz.prog 22 #[v, .string x] w fun e w' => e = .returned (.bool (Lib.containsS l x)) ∧ w = w' := by
 obtain ⟨ao, c, rfl, _, _⟩ := h.len
 have H := Lib.hid h
 clear h
 go_enter Tryz.func22, Tryz.ntmps22
 go_wp2_with fail
 go_loopg [9] l.length (fun g u9 wr => ∃ k : Nat, k + g = l.length ∧ u9 = .int .i64 (k : Int) ∧ Hid (x ∉ l.take k) ∧ w = wr)
 case atStart => exact ⟨0, by omega, rfl, (by show x ∉ _; simp), rfl⟩
 case round =>
  obtain ⟨k, hkg, rfl, Hno, rfl⟩ := hrel
  cases gk with
  | zero =>
   obtain rfl : k = l.length := by omega
   go_wp2_with fail
   go_ret
   refine ⟨congrArg (fun b => Ending.returned (Value.bool b)) ?_, rfl⟩
   have h1 : x ∉ l := by have := Hno.out; rwa [List.take_of_length_le (Nat.le_refl _)] at this
   have h2 : ¬ Lib.containsS l x = true := fun h => h1 ((Lib.containsS_iff l x).1 h)
   simpa using h2
  | succ g =>
   have hkl : k < l.length := by omega
   obtain ⟨b, o, c', hv, _, _, _, hc⟩ := H.out.form (by omega)
   cases hv
   obtain ⟨y, hy⟩ : ∃ y, l[k]? = some y := ⟨l[k], by simp [hkl]⟩
   have e0 := hc k y hy
   clear hc
   have q1 : (0 : Int) ≤ (k : Int) := by omega
   have q2 : (k : Int) < (l.length : Int) := by omega
   by_cases hxy : x = y
   ·subst hxy
    have h1 : Lib.containsS l x = true := (Lib.containsS_iff l x).2 (List.mem_of_getElem? hy)
    have H1 := Lib.hid h1
    have q3 : (x.toList == x.toList) = true := by simp
    clear h1 hy
    go_wp2_with fail
    go_ret
    exact ⟨congrArg (fun b => Ending.returned (Value.bool b)) H1.out.symm, rfl⟩
   ·have q3 : (x.toList == y.toList) = false := by
     rw [beq_eq_false_iff_ne, ByteArray.toList_eq, ByteArray.toList_eq]
     intro h
     apply hxy
     cases x; cases y
     simp only [ByteArray.mk.injEq]
     exact Array.toList_inj.1 h
    have Hno2 : Hid (x ∉ l.take (k + 1)) := by
     show x ∉ l.take (k + 1)
     rw [List.take_add_one, hy]
     intro h
     rcases List.mem_append.1 h with h | h
     ·exact Hno.out h
     ·simp at h; exact hxy h
    clear hy Hno
    go_wp2_with fail
    go_roundg g
    case measure => omega
    case rel => exact ⟨k + 1, by omega, by go_num, Hno2, rfl⟩
end Go.Proofs.YtnnceaapodgfbaaGreatDoor
namespace Go.Proofs.YtnnceaapodgfbaaGreatDoor
open Go.RowKit
theorem Tryz.sizeReqF : (Tryz.prog.info? 97).map (·.size) = some 3 := by kernel_rfl
theorem Tryz.sizeLabF : (Tryz.prog.info? 66).map (·.size) = some 2 := by kernel_rfl
theorem all_take {α : Type} {f : α → Bool} {l : List α} {i : Nat} {x : α} (hx : l[i]? = some x) (h : (l.take i).all f = true) : (l.take (i + 1)).all f = f x := by
 rw [List.take_add_one, hx, List.all_append, h]
 simp
theorem all_part {α : Type} {f : α → Bool} {l : List α} {i : Nat} {x : α} (hx : l[i]? = some x) (h : f x = false) : l.all f = false := by
 rw [List.all_eq_false]
 exact ⟨x, List.mem_of_getElem? hx, by rw [h]; decide⟩
set_option maxRecDepth 100000 in
set_option maxHeartbeats 6400000 in
theorem fits_any (v v1 : Value) (l : List GReq) (labels : List GLabel) (w : World) (h : RowAt ReqR 3 w v l) (hl : l.length ≤ 1048576) (hok : ∀ r ∈ l, okReq r) (hlab : RowAt LabelR 2 w v1 labels) (hll : labels.length ≤ 1048576) :
  Calls Tryz.prog 80 #[v, v1] w fun e w' => e = .returned (.bool (fitsL l labels)) ∧ Below w.heap.size w w' := by
 obtain ⟨ar, cr, rfl, -, -⟩ := h.len
 obtain ⟨al, cl, rfl, -, -⟩ := hlab.len
 obtain ⟨nr, Hnr⟩ : ∃ n, Hid (l.length = n) := ⟨_, Lib.hid rfl⟩
 obtain ⟨nl, Hnl⟩ : ∃ n, Hid (labels.length = n) := ⟨_, Lib.hid rfl⟩
 rw [Hnr.out] at h hl ⊢
 rw [Hnl.out] at hlab hll ⊢
 obtain ⟨res, Hres⟩ : ∃ b, Hid (fitsL l labels = b) := ⟨_, Lib.hid rfl⟩
 rw [Hres.out]
 have HR := Lib.hid h
 have HL := Lib.hid hlab
 have Hok := Lib.hid hok
 have HB0 := Lib.hid (Below.refl w.heap.size w)
 clear h hlab hok
 go_enter Tryz.func80, Tryz.ntmps80
 go_wp2_with fail
 go_loopg [13] nr (fun k u13 wr => ∃ i : Nat, i + k = nr ∧ u13 = .int .i64 (i : Int) ∧ Hid ((l.take i).all (fitR labels) = true) ∧ Hid (Below w.heap.size w wr))
 case atStart => exact ⟨0, by omega, rfl, Lib.hid rfl, HB0⟩
 case round =>
  clear HB0
  obtain ⟨i, hik, rfl, HA, HB⟩ := hrel
  cases gk with
  | zero =>
   obtain rfl : nr = i := by omega
   have hr : res = true := by
    have h1 := HA.out
    rw [← Hnr.out, List.take_length] at h1
    rw [← Hres.out]; exact h1
   subst hr
   clear HA
   go_wp2_with fail
   go_ret
   exact ⟨rfl, HB.out⟩
  | succ k =>
   have hil : i < nr := by omega
   obtain ⟨x, hx⟩ : ∃ x, l[i]? = some x := ⟨l[i]'(by rw [Hnr.out]; exact hil), List.getElem?_eq_getElem _⟩
   obtain ⟨b, o, c', hva, -, -, hbs, hcell⟩ := HR.out.form (by rw [Hnr.out]; omega) (by omega)
   injection hva with u1 u2 u3
   subst u1
   clear u2 u3
   obtain ⟨ds, -, hcc, vx, rfl, hwf, hsx⟩ := hcell i x hx
   obtain ⟨ax, cx, rfl, -, -⟩ := hsx.row.len
   obtain ⟨nx, Hnx⟩ : ∃ n, Hid (x.vals.length = n) := ⟨_, Lib.hid rfl⟩
   rw [Hnx.out] at hcc hsx
   have f0 := (HB.out.cell (p := ⟨b, _, none⟩) hbs).trans (hcc 0 _ rfl)
   have f1 := (HB.out.cell (p := ⟨b, _, none⟩) hbs).trans (hcc 1 _ rfl)
   have f2 := (HB.out.cell (p := ⟨b, _, none⟩) hbs).trans (hcc 2 _ rfl)
   rw [Nat.add_zero] at f0
   have q1 : (0 : Int) ≤ (i : Int) := by omega
   have q2 : (i : Int) < (nr : Int) := by omega
   have Hx := Lib.hid hx
   have Hxl : Hid (x.vals.length ≤ 1073741824) := Lib.hid (by have := (Hok.out x (List.mem_of_getElem? hx)).2.1; omega)
   have Hsx := Lib.hid hsx
   have H7 := Lib.hid (heap_alloc_new wr (.cells #[.string { data := #[] }, .int .i64 0, .slice none 0 0] 97))
   have hb4 := Lib.hid ((Below.refl wr.heap.size wr).alloc (Nat.le_refl _) (.cells #[.string { data := #[] }, .int .i64 0, .slice none 0 0] 97))
   obtain ⟨ky, Hky⟩ : ∃ y, Hid (x.key = y) := ⟨_, Lib.hid rfl⟩
   obtain ⟨kd, Hkd⟩ : ∃ y, Hid (x.kind = y) := ⟨_, Lib.hid rfl⟩
   rw [Hky.out] at f0
   rw [Hkd.out] at f1
   clear hx hcc hcell hsx hwf
   go_wp2_with (refine wpList_store_box (by rfl) _ _ _ (by rfl) wr.heap.size #[.string ky, .int .i64 kd, .slice ax nx cx] (by rfl) (by rfl) _ _ (by exact H7.out) (by exact Tryz.sizeReqF) (by rfl) (by simp [Value.oneCell']) ?_)
   intro w5 b5 t5
   have hb5 : Below wr.heap.size wr w5 := t5.below hb4.out (Nat.le_refl _)
   obtain ⟨gx, hgx⟩ : ∃ g, wr.heap.size = g := ⟨_, rfl⟩
   rw [hgx] at b5 ⊢
   have HX5 := Lib.hid b5
   have HB5 := Lib.hid (HB.out.trans (hb5.mono HB.out.size))
   clear b5 t5 hb5 hb4 H7 HB f0 f1 f2 hgx
   go_wp2_with fail
   go_loopg [7, 8, 19] nl (fun k u7 u8 u19 wr => ∃ i2 : Nat, i2 + k = nl ∧ u19 = .int .i64 (i2 : Int) ∧ u7 = .bool (lastL (labels.take i2) ky).isSome ∧ u8 = .bool (amongO x.vals (lastL (labels.take i2) ky)) ∧ Hid (Below w.heap.size w wr) ∧ Hid (wr.heap[gx]? = some (.cells #[.string ky, .int .i64 kd, .slice ax nx cx] 97 (0, 0))))
   case atStart => exact ⟨0, by omega, rfl, rfl, rfl, HB5, HX5⟩
   case round =>
    clear HB5 HX5
    obtain ⟨i2, hik2, rfl, rfl, rfl, HB, HX⟩ := hrel
    obtain ⟨th, Hth⟩ : ∃ y, Hid ((lastL (labels.take i2) ky).isSome = y) := ⟨_, Lib.hid rfl⟩
    obtain ⟨am, Ham⟩ : ∃ y, Hid (amongO x.vals (lastL (labels.take i2) ky) = y) := ⟨_, Lib.hid rfl⟩
    rw [Hth.out, Ham.out]
    have cx9 := fun i => cell_block HX.out i
    cases gk with
    | zero =>
     obtain rfl : nl = i2 := by omega
     have HF : Hid (fitR labels x = fitK kd th am) := Lib.hid (by
      rw [← Hth.out, ← Ham.out, ← Hnl.out, List.take_length, ← Hky.out, ← Hkd.out]; rfl)
     clear Hth Ham
     have HNO : Hid (fitK kd th am = false → res = false) := Lib.hid fun h9 => by
      rw [← Hres.out]; exact all_part Hx.out (HF.out.trans h9)
     have HYES : Hid (fitK kd th am = true → (l.take (i + 1)).all (fitR labels) = true) := Lib.hid fun h9 => by
      rw [all_take Hx.out HA.out, HF.out]; exact h9
     clear HF HA
     by_cases k1 : kd = 1
     ·subst k1
      cases am with
      | true =>
       have HA9 := Lib.hid (HYES.out rfl)
       clear HYES HNO
       go_wp2_with fail
       go_roundg k
       case measure => omega
       case rel => exact ⟨i + 1, by omega, by go_num, HA9, HB⟩
      | false =>
       obtain rfl := HNO.out rfl
       clear HYES HNO
       go_wp2_with fail
       go_ret
       exact ⟨rfl, HB.out⟩
     ·have q1 : (kd == 1) = false := by rw [beq_eq_false_iff_ne]; exact k1
      by_cases k2 : kd = 2
      ·subst k2
       cases am with
       | false =>
        have HA9 := Lib.hid (HYES.out rfl)
        clear HYES HNO k1
        go_wp2_with fail
        go_roundg k
        case measure => omega
        case rel => exact ⟨i + 1, by omega, by go_num, HA9, HB⟩
       | true =>
        obtain rfl := HNO.out rfl
        clear HYES HNO k1
        go_wp2_with fail
        go_ret
        exact ⟨rfl, HB.out⟩
      ·have q2 : (kd == 2) = false := by rw [beq_eq_false_iff_ne]; exact k2
       by_cases k3 : kd = 3
       ·subst k3
        cases th with
        | true =>
         have HA9 := Lib.hid (HYES.out rfl)
         clear HYES HNO k1 k2
         go_wp2_with fail
         go_roundg k
         case measure => omega
         case rel => exact ⟨i + 1, by omega, by go_num, HA9, HB⟩
        | false =>
         obtain rfl := HNO.out rfl
         clear HYES HNO k1 k2
         go_wp2_with fail
         go_ret
         exact ⟨rfl, HB.out⟩
       ·have q3 : (kd == 3) = false := by rw [beq_eq_false_iff_ne]; exact k3
        by_cases k4 : kd = 4
        ·subst k4
         cases th with
         | false =>
          have HA9 := Lib.hid (HYES.out rfl)
          clear HYES HNO k1 k2 k3
          go_wp2_with fail
          go_roundg k
          case measure => omega
          case rel => exact ⟨i + 1, by omega, by go_num, HA9, HB⟩
         | true =>
          obtain rfl := HNO.out rfl
          clear HYES HNO k1 k2 k3
          go_wp2_with fail
          go_ret
          exact ⟨rfl, HB.out⟩
        ·have q4 : (kd == 4) = false := by rw [beq_eq_false_iff_ne]; exact k4
         have HA9 := Lib.hid (HYES.out (by unfold fitK; rw [if_neg k1, if_neg k2, if_neg k3, if_neg k4]))
         clear HYES HNO k1 k2 k3 k4
         go_wp2_with fail
         go_roundg k
         case measure => omega
         case rel => exact ⟨i + 1, by omega, by go_num, HA9, HB⟩
    | succ k2 =>
     clear HA
     have hil2 : i2 < nl := by omega
     obtain ⟨y, hy⟩ : ∃ y, labels[i2]? = some y := ⟨labels[i2]'(by rw [Hnl.out]; exact hil2), List.getElem?_eq_getElem _⟩
     obtain ⟨b2, o2, c2, hvl, -, -, hbs2, hcell2⟩ := HL.out.form (by rw [Hnl.out]; omega) (by omega)
     injection hvl with u1 u2 u3
     subst u1
     clear u2 u3
     obtain ⟨ds, -, hcc, rfl⟩ := hcell2 i2 y hy
     have f0 := (HB.out.cell (p := ⟨b2, _, none⟩) hbs2).trans (hcc 0 _ rfl)
     have f1 := (HB.out.cell (p := ⟨b2, _, none⟩) hbs2).trans (hcc 1 _ rfl)
     rw [Nat.add_zero] at f0
     have p1 : (0 : Int) ≤ (i2 : Int) := by omega
     have p2 : (i2 : Int) < (nl : Int) := by omega
     have HS : Hid (lastL (labels.take (i2 + 1)) ky = if y.key = ky then some y else lastL (labels.take i2) ky) := Lib.hid (by rw [List.take_add_one, hy]; exact lastL_snoc _ _ _)
     have H7 := Lib.hid (heap_alloc_new wr (.cells #[.string { data := #[] }, .string { data := #[] }] 66))
     have hb4 := Lib.hid ((Below.refl wr.heap.size wr).alloc (Nat.le_refl _) (.cells #[.string { data := #[] }, .string { data := #[] }] 66))
     have hs4 := Lib.hid (World.size_alloc wr (.cells #[.string { data := #[] }, .string { data := #[] }] 66))
     clear hcc hcell2 cx9
     go_wp2_with (refine wpList_store_box (by rfl) _ _ _ (by rfl) wr.heap.size #[.string y.key, .string y.val] (by rfl) (by rfl) _ _ (by exact H7.out) (by exact Tryz.sizeLabF) (by rfl) (by simp [Value.oneCell']) ?_)
     intro w6 b6 t6
     have hb6 : Below wr.heap.size wr w6 := t6.below hb4.out (Nat.le_refl _)
     obtain ⟨gy, hgy⟩ : ∃ g, wr.heap.size = g := ⟨_, rfl⟩
     rw [hgy] at b6 ⊢
     have HY6 := Lib.hid b6
     have HX6 := Lib.hid (below_block hb6 HX.out)
     have HB6 := Lib.hid (HB.out.trans (hb6.mono HB.out.size))
     have Hsx6 : Hid (StrAt w6 (.slice ax nx cx) x.vals) := Lib.hid ((Hsx.out.below HB.out).below hb6)
     clear b6 t6 hb6 hb4 hs4 H7 HB HX f0 f1 hgy hy
     have cy := fun i => cell_block HY6.out i
     have cx9 := fun i => cell_block HX6.out i
     by_cases hk : y.key = ky
     ·have q3 : (y.key.toList == ky.toList) = true := by rw [hk]; exact beq_self_eq_true _
      have HS' : Hid (lastL (labels.take (i2 + 1)) ky = some y) := Lib.hid (by rw [HS.out, if_pos hk])
      have HC := Lib.hid (hasStr_any (.slice ax nx cx) x.vals y.val w6 Hsx6.out Hxl.out)
      clear hk HS
      go_wp2_with fail
      refine HC.out.mono ?_
      rintro E w7 ⟨rfl, hw7⟩
      subst hw7
      clear HC cx9 cy
      go_wp2_with fail
      go_roundg k2
      case measure => omega
      case rel => exact ⟨i2 + 1, by omega, by go_num, by rw [HS'.out]; rfl, by rw [HS'.out]; rfl, HB6, HX6⟩
     ·have q3 : (y.key.toList == ky.toList) = false := by rw [beq_eq_false_iff_ne]; exact fun e => hk (toList_inj e)
      have HS' : Hid (lastL (labels.take (i2 + 1)) ky = lastL (labels.take i2) ky) := Lib.hid (by rw [HS.out, if_neg hk])
      clear hk HS
      go_wp2_with fail
      go_roundg k2
      case measure => omega
      case rel => exact ⟨i2 + 1, by omega, by go_num, by rw [HS'.out, Hth.out], by rw [HS'.out, Ham.out], HB6, HX6⟩
end Go.Proofs.YtnnceaapodgfbaaGreatDoor
namespace Go.Proofs.YtnnceaapodgfbaaGreatDoor
open Go.Shelf
def Tryz.objSort_ren : Go.Shelf.Ren := ⟨fun | 6 => 63 | 15 => 92 | 14 => 91 | 28 => 126 | 29 => 127 | 20 => 118 | 21 => 119 | 22 => 120 | 23 => 121 | 24 => 122 | 25 => 123 | 26 => 124 | 27 => 125 | 46 => 149 | 47 => 150 | 48 => 151 | 49 => 152 | 50 => 153 | 57 => 178 | n => n, fun | 22 => 45 | 24 => 30 | 25 => 123 | 3 => 3 | 39 => 170 | 0 => 0 | 53 => 219 | 55 => 221 | 4 => 4 | 46 => 213 | 45 => 212 | 50 => 160 | 5 => 5 | 9 => 9 | 66 => 243 | 70 => 247 | 76 => 266 | 77 => 267 | n => n, fun | n => n⟩
theorem Tryz.objSort : Go.Proofs.SlLaysF0.n6 Tryz.prog Tryz.objSort_ren := {
 mixed := by kernel_rfl
 f6 := ⟨Tryz.f63.name, by decide, Tryz.func63.trans (congrArg some (by kernel_rfl))⟩
 f14 := ⟨Tryz.f91.name, by decide, Tryz.func91.trans (congrArg some (by kernel_rfl))⟩
 f15 := Tryz.func92.trans (congrArg some (by kernel_rfl))
 f20 := ⟨Tryz.f118.name, by decide, Tryz.func118.trans (congrArg some (by kernel_rfl))⟩
 f21 := ⟨Tryz.f119.name, by decide, Tryz.func119.trans (congrArg some (by kernel_rfl))⟩
 f22 := ⟨Tryz.f120.name, by decide, Tryz.func120.trans (congrArg some (by kernel_rfl))⟩
 f23 := ⟨Tryz.f121.name, by decide, Tryz.func121.trans (congrArg some (by kernel_rfl))⟩
 f24 := ⟨Tryz.f122.name, by decide, Tryz.func122.trans (congrArg some (by kernel_rfl))⟩
 f25 := ⟨Tryz.f123.name, by decide, Tryz.func123.trans (congrArg some (by kernel_rfl))⟩
 f26 := ⟨Tryz.f124.name, by decide, Tryz.func124.trans (congrArg some (by kernel_rfl))⟩
 f27 := ⟨Tryz.f125.name, by decide, Tryz.func125.trans (congrArg some (by kernel_rfl))⟩
 f28 := Tryz.func126.trans (congrArg some (by kernel_rfl))
 f29 := Tryz.func127.trans (congrArg some (by kernel_rfl))
 f46 := ⟨Tryz.f149.name, by decide, Tryz.func149.trans (congrArg some (by kernel_rfl))⟩
 f47 := Tryz.func150.trans (congrArg some (by kernel_rfl))
 f48 := Tryz.func151.trans (congrArg some (by kernel_rfl))
 f49 := ⟨Tryz.f152.name, by decide, Tryz.func152.trans (congrArg some (by kernel_rfl))⟩
 f50 := ⟨Tryz.f153.name, by decide, Tryz.func153.trans (congrArg some (by kernel_rfl))⟩
 f57 := ⟨Tryz.f178.name, by decide, Tryz.func178.trans (congrArg some (by kernel_rfl))⟩
 t0 := Tryz.underlying0
 a0 := Tryz.isAgg0
 z0 := Tryz.sizeOf0
 v0 := Tryz.zeroValue0
 t3 := Tryz.underlying3
 a3 := Tryz.isAgg3
 z3 := Tryz.sizeOf3
 v3 := Tryz.zeroValue3
 t4 := Tryz.underlying4
 a4 := Tryz.isAgg4
 z4 := Tryz.sizeOf4
 v4 := Tryz.zeroValue4
 t5 := Tryz.underlying5
 a5 := Tryz.isAgg5
 z5 := Tryz.sizeOf5
 v5 := Tryz.zeroValue5
 t9 := Tryz.underlying9
 a9 := Tryz.isAgg9
 z9 := Tryz.sizeOf9
 v9 := Tryz.zeroValue9
 t22 := Tryz.underlying45
 a22 := Tryz.isAgg45
 z22 := Tryz.sizeOf45
 v22 := Tryz.zeroValue45
 t25 := Tryz.underlying123
 a25 := Tryz.isAgg123
 z25 := Tryz.sizeOf123
 v25 := Tryz.zeroValue123
 t39 := Tryz.underlying170
 a39 := Tryz.isAgg170
 z39 := Tryz.sizeOf170
 v39 := Tryz.zeroValue170
 t45 := Tryz.underlying212
 a45 := Tryz.isAgg212
 z45 := Tryz.sizeOf212
 v45 := Tryz.zeroValue212
 t46 := Tryz.underlying213
 a46 := Tryz.isAgg213
 z46 := Tryz.sizeOf213
 v46 := Tryz.zeroValue213
 t50 := Tryz.underlying160
 a50 := Tryz.isAgg160
 z50 := Tryz.sizeOf160
 v50 := Tryz.zeroValue160
 t53 := Tryz.underlying219
 a53 := Tryz.isAgg219
 z53 := Tryz.sizeOf219
 v53 := Tryz.zeroValue219
 t55 := Tryz.underlying221
 a55 := Tryz.isAgg221
 z55 := Tryz.sizeOf221
 v55 := Tryz.zeroValue221
 t66 := Tryz.underlying243
 a66 := Tryz.isAgg243
 z66 := Tryz.sizeOf243
 v66 := Tryz.zeroValue243
 t70 := Tryz.underlying247
 a70 := Tryz.isAgg247
 z70 := Tryz.sizeOf247
 v70 := Tryz.zeroValue247
 t76 := Tryz.underlying266
 a76 := Tryz.isAgg266
 z76 := Tryz.sizeOf266
 v76 := Tryz.zeroValue266
 t77 := Tryz.underlying267
 a77 := Tryz.isAgg267
 z77 := Tryz.sizeOf267
 v77 := Tryz.zeroValue267 }
end Go.Proofs.YtnnceaapodgfbaaGreatDoor
namespace Go.Proofs.YtnnceaapodgfbaaGreatDoor
namespace Sto
open Go.RowKit
theorem bl_cb : ∀ a b : List UInt8, Op.bytesLess a b = decide (Lib.compareBytes a b < 0)
 | [], [] => rfl
 | [], _ :: _ => rfl
 | _ :: _, [] => rfl
 | x :: xs, y :: ys => by
  have ih := bl_cb xs ys
  unfold Op.bytesLess Lib.compareBytes
  by_cases h1 : x < y
  ·simp [h1]
  ·by_cases h2 : y < x
   ·have h3 : ¬ x = y := fun e => by subst e; exact UInt8.lt_irrefl _ h2
    simp [h1, h2, h3]
   ·have h3 : x = y := by
     rw [UInt8.lt_iff_toNat_lt] at h1 h2
     exact UInt8.toNat_inj.1 (by omega)
    subst h3
    simp [h1, ih]
theorem nanS_any (x : ByteArray) (w : World) : Calls Tryz.prog 108 #[.string x] w fun e w' => e = .returned (.bool false) ∧ w = w' := by
 go_enter Tryz.func108, Tryz.ntmps108
 go_wp2_with fail
 go_ret
 exact ⟨by simp, rfl⟩
def cmpB (a b : ByteArray) : Int := Lib.compareBytes a.data.toList b.data.toList
theorem cmpB_lt {a b : ByteArray} (h : Op.bytesLess a.toList b.toList = true) : cmpB a b = -1 := by
 rw [bl_cb, decide_eq_true_iff, Lib.toList_data, Lib.toList_data] at h
 unfold cmpB
 rcases cb_range a.data.toList b.data.toList with e | e | e <;> omega
theorem cmpS_any (a b : ByteArray) (w : World) : Calls Tryz.prog 75 #[.string a, .string b] w fun e w' => e = .returned (.int .i64 (cmpB a b)) ∧ w = w' := by
 have H := fun x (w : World) => Lib.hid (nanS_any x w)
 obtain ⟨r, Hr⟩ : ∃ r, Hid (cmpB a b = r) := ⟨_, Lib.hid rfl⟩
 rw [Hr.out]
 go_enter Tryz.func75, Tryz.ntmps75
 go_wp2_with fail
 refine (H a w).out.mono ?_
 rintro E w1 ⟨rfl, rfl⟩
 go_wp2_with fail
 refine (H b w).out.mono ?_
 rintro E w1 ⟨rfl, rfl⟩
 cases h1 : Op.bytesLess a.toList b.toList with
 | true =>
  obtain rfl : r = -1 := by rw [← Hr.out]; exact cmpB_lt h1
  go_wp2_with fail
  go_ret
  exact ⟨rfl, rfl⟩
 | false =>
  have q9 : (binOp .gtr 9 (.string a) (.string b)).run Tryz.prog w = .ok (.bool (!(Op.bytesLess a.toList b.toList || a.toList == b.toList))) w := by simp [binOp, Op.stringOp]
  cases h2 : (a.toList == b.toList) with
  | true =>
   have Hr0 : Hid (r = 0) := Lib.hid (by
    rw [← Hr.out]
    unfold cmpB
    have h3 := eq_of_beq h2
    rw [Lib.toList_data, Lib.toList_data] at h3
    rw [h3, cb_self])
   rw [h1, h2] at q9
   go_wp2_with fail
   go_ret
   exact ⟨by rw [Hr0.out]; rfl, rfl⟩
  | false =>
   have Hr1 : Hid (r = 1) := Lib.hid (by
    rw [← Hr.out]
    unfold cmpB
    rw [bl_cb, decide_eq_false_iff_not, Lib.toList_data, Lib.toList_data] at h1
    rw [beq_eq_false_iff_ne, Lib.toList_data, Lib.toList_data] at h2
    rcases cb_range a.data.toList b.data.toList with e | e | e
    ·omega
    ·exact absurd (cb_eq _ _ e) h2
    ·exact e)
   rw [h1, h2] at q9
   go_wp2_with fail
   go_ret
   exact ⟨by rw [Hr1.out]; rfl, rfl⟩
def orI (a b : Int) : Int := if a ≠ 0 then a else b
set_option maxRecDepth 100000 in
theorem or_any (g : Nat) (a b : Int) (w : World) (T : TypeId) (h : w.heap[g]? = some (.cells #[.int .i64 a, .int .i64 b] T (0, 0))) : Calls Tryz.prog 74 #[.slice (some ⟨g, 0, none⟩) 2 2] w fun e w' => e = .returned (.int .i64 (orI a b)) ∧ w = w' := by
 have cc := fun i => cell_block h i
 have c0 : w.cell? ⟨g, 0, none⟩ = some (.int .i64 a) := cc 0
 have c1 : w.cell? ⟨g, 0 + 1 * 1, none⟩ = some (.int .i64 b) := cc 1
 have c2 : w.cell? ⟨g, 1, none⟩ = some (.int .i64 b) := cc 1
 have c3 : w.cell? ⟨g, 0 + 1, none⟩ = some (.int .i64 b) := cc 1
 obtain ⟨r, Hr⟩ : ∃ r, Hid (orI a b = r) := ⟨_, Lib.hid rfl⟩
 rw [Hr.out]
 clear cc h
 go_enter Tryz.func74, Tryz.ntmps74
 go_wp2_with fail
 go_loopg [5, 8] 2 (fun k u5 u8 wr => wr = w ∧ ∃ i : Nat, i + k = 2 ∧ u8 = .int .i64 (i : Int) ∧ (i ≠ 0 → Hid (a = 0)) ∧ (i = 2 → Hid (b = 0)))
 case atStart => exact ⟨rfl, 0, rfl, rfl, fun h => absurd rfl h, fun h => by cases h⟩
 case round =>
  obtain ⟨rfl, i, hik, rfl, h1, h2⟩ := hrel
  match gk, hik with
  | 0, hik =>
   obtain rfl : i = 2 := by omega
   have Ha := h1 (by decide)
   have Hb := h2 rfl
   have Hr0 : Hid (r = 0) := Lib.hid (by rw [← Hr.out, Ha.out, Hb.out]; rfl)
   clear h1 h2 Ha Hb hik
   go_wp2_with fail
   go_ret
   exact ⟨by rw [Hr0.out]; rfl, rfl⟩
  | 1, hik =>
   obtain rfl : i = 1 := by omega
   have Ha := h1 (by decide)
   clear h1 h2 hik
   by_cases hb : b = 0
   ·subst hb
    go_wp2_with fail
    go_roundg 0
    case measure => omega
    case rel => exact ⟨rfl, 2, rfl, rfl, fun _ => Ha, fun _ => Lib.hid trivial⟩
   ·have q1 : (b != 0) = true := bne_iff_ne.2 hb
    have Hr1 : Hid (r = b) := Lib.hid (by rw [← Hr.out, Ha.out]; rfl)
    clear hb
    go_wp2_with fail
    go_ret
    exact ⟨by rw [Hr1.out]; rfl, rfl⟩
  | k + 2, hik =>
   obtain rfl : i = 0 := by omega
   obtain rfl : k = 0 := by omega
   clear h1 h2 hik
   by_cases ha : a = 0
   ·subst ha
    go_wp2_with fail
    go_roundg 1
    case measure => omega
    case rel => exact ⟨rfl, 1, rfl, rfl, fun _ => Lib.hid trivial, fun h => by cases h⟩
   ·have q1 : (a != 0) = true := bne_iff_ne.2 ha
    have Hr1 : Hid (r = a) := Lib.hid (by rw [← Hr.out]; unfold orI; rw [if_pos ha])
    clear ha
    go_wp2_with fail
    go_ret
    exact ⟨by rw [Hr1.out]; rfl, rfl⟩
set_option maxRecDepth 100000 in
set_option maxHeartbeats 1600000 in
theorem order_any (a1 a2 a3 b1 b2 b3 : ByteArray) (x1 x2 x3 x4 x5 x6 x7 y1 y2 y3 y4 y5 y6 y7 : Value) (W : World) : Calls Tryz.prog 64 #[.agg #[.string a1, .string a2, .string a3, x1, x2, x3, x4, x5, x6, x7], .agg #[.string b1, .string b2, .string b3, y1, y2, y3, y4, y5, y6, y7]] W fun e w' => e = .returned (.int .i64 (orI (cmpB a2 b2) (cmpB a3 b3))) ∧ ∃ q os', w' = Go.Sort.grow (W.drewN q) os' := by
 have HC := fun a b w => Lib.hid (cmpS_any a b w)
 obtain ⟨W2, hW2⟩ : ∃ W2, W2 = (W.alloc (.cells #[.string a1, .string a2, .string a3, x1, x2, x3, x4, x5, x6, x7] 30)).alloc (.cells #[.string b1, .string b2, .string b3, y1, y2, y3, y4, y5, y6, y7] 30) := ⟨_, rfl⟩
 obtain ⟨ga, hga⟩ : ∃ ga, ga = W.heap.size := ⟨_, rfl⟩
 obtain ⟨gb, hgb⟩ : ∃ gb, gb = W.heap.size + 1 := ⟨_, rfl⟩
 have XA : Hid (W2.heap[ga]? = some (.cells #[.string a1, .string a2, .string a3, x1, x2, x3, x4, x5, x6, x7] 30 (0, 0))) := Lib.hid (by rw [hW2, hga]; exact heap_alloc_old (heap_alloc_new W _))
 have XB : Hid (W2.heap[gb]? = some (.cells #[.string b1, .string b2, .string b3, y1, y2, y3, y4, y5, y6, y7] 30 (0, 0))) := Lib.hid (by rw [hW2, hgb]; exact heap_alloc_at (World.size_alloc _ _).symm)
 have HW2 := Lib.hid hW2
 go_enter Tryz.func64, Tryz.ntmps64
 go_upto_region 1 with fail
 rw [← hW2]
 try rw [← hgb]
 rw [← hga]
 clear hW2 hga hgb
 refine wp_region_hold 14 (fun w' => ∃ q, w' = W2.drewN q) (by kernel_rfl) (by kernel_rfl) ?_ ?_
 ·exact ⟨1, rfl⟩
 simp only [List.take_succ_cons, List.take_zero, List.drop_succ_cons, List.drop_zero]
 (first | (refine wpHold_pure (v := ?_) (by rfl) (fun w => ?_) ?_; rotate_left; focus (first | (go_simp; done) | (go_simp; with_reducible rfl))) | (refine wpHold_skip ?_ ?_; focus (go_simp; done)) | (refine wpHold_pure' (v := ?_) ?_ (fun w => ?_) ?_; rotate_left; focus (go_simp; done); focus (first | (go_simp; done) | (go_simp; with_reducible rfl)))); try simp only [Act.put, List.setIfInBounds_toArray, List.set_cons_zero, List.set_cons_succ]
 (first | (refine wpHold_pure (v := ?_) (by rfl) (fun w => ?_) ?_; rotate_left; focus (first | (go_simp; done) | (go_simp; with_reducible rfl))) | (refine wpHold_skip ?_ ?_; focus (go_simp; done)) | (refine wpHold_pure' (v := ?_) ?_ (fun w => ?_) ?_; rotate_left; focus (go_simp; done); focus (first | (go_simp; done) | (go_simp; with_reducible rfl)))); try simp only [Act.put, List.setIfInBounds_toArray, List.set_cons_zero, List.set_cons_succ]
 refine wpHold_read (v := .string a2) (by rfl) (fun w' hI => ?_) ?_
 ·obtain ⟨q, rfl⟩ := hI
  have ca : ∀ i, (W2.drewN q).cell? ⟨ga, i, none⟩ = _ := fun i => cell_block XA.out i
  have cb : ∀ i, (W2.drewN q).cell? ⟨gb, i, none⟩ = _ := fun i => cell_block XB.out i
  go_simp
  done
 try simp only [Act.put, List.setIfInBounds_toArray, List.set_cons_zero, List.set_cons_succ]
 (first | (refine wpHold_pure (v := ?_) (by rfl) (fun w => ?_) ?_; rotate_left; focus (first | (go_simp; done) | (go_simp; with_reducible rfl))) | (refine wpHold_skip ?_ ?_; focus (go_simp; done)) | (refine wpHold_pure' (v := ?_) ?_ (fun w => ?_) ?_; rotate_left; focus (go_simp; done); focus (first | (go_simp; done) | (go_simp; with_reducible rfl)))); try simp only [Act.put, List.setIfInBounds_toArray, List.set_cons_zero, List.set_cons_succ]
 (first | (refine wpHold_pure (v := ?_) (by rfl) (fun w => ?_) ?_; rotate_left; focus (first | (go_simp; done) | (go_simp; with_reducible rfl))) | (refine wpHold_skip ?_ ?_; focus (go_simp; done)) | (refine wpHold_pure' (v := ?_) ?_ (fun w => ?_) ?_; rotate_left; focus (go_simp; done); focus (first | (go_simp; done) | (go_simp; with_reducible rfl)))); try simp only [Act.put, List.setIfInBounds_toArray, List.set_cons_zero, List.set_cons_succ]
 refine wpHold_read (v := .string b2) (by rfl) (fun w' hI => ?_) ?_
 ·obtain ⟨q, rfl⟩ := hI
  have ca : ∀ i, (W2.drewN q).cell? ⟨ga, i, none⟩ = _ := fun i => cell_block XA.out i
  have cb : ∀ i, (W2.drewN q).cell? ⟨gb, i, none⟩ = _ := fun i => cell_block XB.out i
  go_simp
  done
 try simp only [Act.put, List.setIfInBounds_toArray, List.set_cons_zero, List.set_cons_succ]
 refine wpHold_call (v := .int .i64 (cmpB a2 b2)) (f := 75) (args := #[.string a2, .string b2]) (by rfl) (fun w' => ?_) (fun w' hI => ?_) ?_
 ·go_simp
  done
 ·exact (HC a2 b2 w').out.mono fun e w'' ⟨h1, h2⟩ => ⟨h1, h2 ▸ hI⟩
 try simp only [Act.put, List.setIfInBounds_toArray, List.set_cons_zero, List.set_cons_succ]
 (first | (refine wpHold_pure (v := ?_) (by rfl) (fun w => ?_) ?_; rotate_left; focus (first | (go_simp; done) | (go_simp; with_reducible rfl))) | (refine wpHold_skip ?_ ?_; focus (go_simp; done)) | (refine wpHold_pure' (v := ?_) ?_ (fun w => ?_) ?_; rotate_left; focus (go_simp; done); focus (first | (go_simp; done) | (go_simp; with_reducible rfl)))); try simp only [Act.put, List.setIfInBounds_toArray, List.set_cons_zero, List.set_cons_succ]
 (first | (refine wpHold_pure (v := ?_) (by rfl) (fun w => ?_) ?_; rotate_left; focus (first | (go_simp; done) | (go_simp; with_reducible rfl))) | (refine wpHold_skip ?_ ?_; focus (go_simp; done)) | (refine wpHold_pure' (v := ?_) ?_ (fun w => ?_) ?_; rotate_left; focus (go_simp; done); focus (first | (go_simp; done) | (go_simp; with_reducible rfl)))); try simp only [Act.put, List.setIfInBounds_toArray, List.set_cons_zero, List.set_cons_succ]
 refine wpHold_read (v := .string a3) (by rfl) (fun w' hI => ?_) ?_
 ·obtain ⟨q, rfl⟩ := hI
  have ca : ∀ i, (W2.drewN q).cell? ⟨ga, i, none⟩ = _ := fun i => cell_block XA.out i
  have cb : ∀ i, (W2.drewN q).cell? ⟨gb, i, none⟩ = _ := fun i => cell_block XB.out i
  go_simp
  done
 try simp only [Act.put, List.setIfInBounds_toArray, List.set_cons_zero, List.set_cons_succ]
 (first | (refine wpHold_pure (v := ?_) (by rfl) (fun w => ?_) ?_; rotate_left; focus (first | (go_simp; done) | (go_simp; with_reducible rfl))) | (refine wpHold_skip ?_ ?_; focus (go_simp; done)) | (refine wpHold_pure' (v := ?_) ?_ (fun w => ?_) ?_; rotate_left; focus (go_simp; done); focus (first | (go_simp; done) | (go_simp; with_reducible rfl)))); try simp only [Act.put, List.setIfInBounds_toArray, List.set_cons_zero, List.set_cons_succ]
 (first | (refine wpHold_pure (v := ?_) (by rfl) (fun w => ?_) ?_; rotate_left; focus (first | (go_simp; done) | (go_simp; with_reducible rfl))) | (refine wpHold_skip ?_ ?_; focus (go_simp; done)) | (refine wpHold_pure' (v := ?_) ?_ (fun w => ?_) ?_; rotate_left; focus (go_simp; done); focus (first | (go_simp; done) | (go_simp; with_reducible rfl)))); try simp only [Act.put, List.setIfInBounds_toArray, List.set_cons_zero, List.set_cons_succ]
 refine wpHold_read (v := .string b3) (by rfl) (fun w' hI => ?_) ?_
 ·obtain ⟨q, rfl⟩ := hI
  have ca : ∀ i, (W2.drewN q).cell? ⟨ga, i, none⟩ = _ := fun i => cell_block XA.out i
  have cb : ∀ i, (W2.drewN q).cell? ⟨gb, i, none⟩ = _ := fun i => cell_block XB.out i
  go_simp
  done
 try simp only [Act.put, List.setIfInBounds_toArray, List.set_cons_zero, List.set_cons_succ]
 refine wpHold_call (v := .int .i64 (cmpB a3 b3)) (f := 75) (args := #[.string a3, .string b3]) (by rfl) (fun w' => ?_) (fun w' hI => ?_) ?_
 ·go_simp
  done
 ·exact (HC a3 b3 w').out.mono fun e w'' ⟨h1, h2⟩ => ⟨h1, h2 ▸ hI⟩
 try simp only [Act.put, List.setIfInBounds_toArray, List.set_cons_zero, List.set_cons_succ]
 refine wpHold_nil ?_
 intro w' hI
 obtain ⟨q, rfl⟩ := hI
 go_wp2_with fail
 refine (or_any W2.heap.size (cmpB a2 b2) (cmpB a3 b3) _ 3 (heap_alloc_new (W2.drewN q) _)).mono ?_
 rintro E w2 ⟨rfl, hw⟩
 subst hw
 go_wp2_with fail
 go_ret
 have hgrow : ∀ o1 o2 o3 : Obj, (((W.drewN q).alloc o1).alloc o2).alloc o3 = Go.Sort.grow (W.drewN q) (#[o1] ++ (#[o2] ++ #[o3])) := fun o1 o2 o3 => by
  rw [Go.Sort.alloc_eq_grow, Go.Sort.alloc_eq_grow, Go.Sort.alloc_eq_grow, Go.Sort.grow_grow, Go.Sort.grow_grow]
 exact ⟨rfl, q, _, by rw [HW2.out]; exact hgrow _ _ _⟩
end Sto
end Go.Proofs.YtnnceaapodgfbaaGreatDoor
namespace Go.Proofs.YtnnceaapodgfbaaGreatDoor
namespace Sto
open Go.RowKit Go.Shelf Go.Sort
instance inhKey : Inhabited GKey := ⟨noKey⟩
instance inhOb : Inhabited GObject := ⟨noObj⟩
def oneV (v : Value) : Value := if v.oneCell' = true then v else .nilIface
theorem oneV_one (v : Value) : (oneV v).oneCell' = true := by
 unfold oneV
 split
 ·assumption
 ·rfl
theorem oneV_of {v : Value} (h : v.oneCell' = true) : oneV v = v := if_pos h
abbrev OC := (Value × Value × Value) × GObject
def encOw (p : OC) : List Value := objCs p.2 (oneV p.1.1) (oneV p.1.2.1) (oneV p.1.2.2)
def cfOb (a b : GObject) : Int := orI (cmpB a.okey.space b.okey.space) (cmpB a.okey.name b.okey.name)
def cfOw (p q : OC) : Int := cfOb p.2 q.2
theorem ltOw (p q : OC) : ltOf cfOw p q = decide (cfOb p.2 q.2 < 0) := rfl
theorem cfOb_lt (a b : GObject) : cfOb a b < 0 ↔ ahead a b := by
 unfold cfOb orI ahead lessS cmpB
 by_cases h : Lib.compareBytes a.okey.space.data.toList b.okey.space.data.toList = 0
 ·have e : a.okey.space = b.okey.space := by have h9 := cb_eq _ _ h; exact toList_inj (by rw [Lib.toList_data, Lib.toList_data]; exact h9)
  rw [if_neg (fun h9 => h9 h)]
  constructor
  ·exact fun h9 => .inr ⟨e, h9⟩
  ·rintro (h9 | ⟨_, h9⟩)
   ·omega
   ·exact h9
 ·rw [if_pos h]
  constructor
  ·exact fun h9 => .inl h9
  ·rintro (h9 | ⟨e, _⟩)
   ·exact h9
   ·rw [e, cb_self] at h; exact absurd rfl h
theorem cfOb_nlt_trans (a b c : GObject) (h1 : ¬ cfOb a b < 0) (h2 : ¬ cfOb b c < 0) : ¬ cfOb a c < 0 := by
 have n2 := cb_ntrans a.okey.name.data.toList b.okey.name.data.toList c.okey.name.data.toList
 have s1 := cb_swap a.okey.space.data.toList b.okey.space.data.toList
 have s2 := cb_swap b.okey.space.data.toList c.okey.space.data.toList
 have s3 := cb_swap a.okey.space.data.toList c.okey.space.data.toList
 have t1 := cb_trans c.okey.space.data.toList b.okey.space.data.toList a.okey.space.data.toList
 have z1 : Lib.compareBytes a.okey.space.data.toList b.okey.space.data.toList = 0 → Lib.compareBytes a.okey.space.data.toList c.okey.space.data.toList = Lib.compareBytes b.okey.space.data.toList c.okey.space.data.toList := fun h => by rw [cb_eq _ _ h]
 have z2 : Lib.compareBytes b.okey.space.data.toList c.okey.space.data.toList = 0 → Lib.compareBytes a.okey.space.data.toList c.okey.space.data.toList = Lib.compareBytes a.okey.space.data.toList b.okey.space.data.toList := fun h => by rw [cb_eq _ _ h]
 unfold cfOb orI cmpB at *
 split at h1 <;> split at h2 <;> split <;> omega
theorem swoOw : SWO (ltOf cfOw) where
 irrefl x := by
  rw [ltOw, decide_eq_false_iff_not, cfOb_lt]
  exact ahead_irrefl _
 trans x y z h1 h2 := by
  rw [ltOw, decide_eq_true_iff, cfOb_lt] at *
  exact ahead_trans h1 h2
 ntrans x y z h1 h2 := by
  rw [ltOw, decide_eq_false_iff_not] at *
  exact cfOb_nlt_trans _ _ _ h1 h2
theorem ownedCmp (x y : OC) (W : World) : Calls Tryz.prog 64 #[.agg (encOw x).toArray, .agg (encOw y).toArray] W fun e w' => e = .returned (.int .i64 (cfOw x y)) ∧ ∃ q os', w' = Go.Sort.grow (W.drewN q) os' :=
 order_any x.2.okey.kind x.2.okey.space x.2.okey.name y.2.okey.kind y.2.okey.space y.2.okey.name _ _ _ _ _ _ _ _ _ _ _ _ _ _ W
theorem ownedLays (blk off size : Nat) (w : World) : CmpLays Tryz.prog 64 #[] encOw 10 cfOw blk off size w := fun _ _ _ _ x y => ownedCmp x y _
theorem sorted_pairs {α : Type} [Inhabited α] {cf : α → α → Int} (c : α → α → Int) (hc : ∀ p q, ltOf cf p q = decide (c p q < 0)) {d : Array α} {n : Nat} (hn : d.size = n) (h : SortedIn (ltOf cf) 0 n d) : d.toList.Pairwise fun p q => ¬ c q p < 0 := by
 rw [List.pairwise_iff_getElem]
 intro i j hi hj hij
 have h1 := h i j (Nat.zero_le _) hij (by rw [← hn]; simpa using hj)
 rw [hc, decide_eq_false_iff_not] at h1
 rw [getElem!_pos d j (by simpa using hj), getElem!_pos d i (by simpa using hi)] at h1
 simpa using h1
theorem encOw_len (x : OC) : (encOw x).length = 10 := rfl
theorem encOw_one (x : OC) : ∀ v ∈ encOw x, v.oneCell' = true := fun v hv => by
 unfold encOw objCs at hv
 simp only [List.mem_cons, List.not_mem_nil, or_false] at hv
 rcases hv with rfl | rfl | rfl | rfl | rfl | rfl | rfl | rfl | rfl | rfl
 ·rfl
 ·rfl
 ·rfl
 ·exact oneV_one _
 ·exact oneV_one _
 ·exact oneV_one _
 ·rfl
 ·rfl
 ·rfl
 ·rfl
theorem flatK_getOw (d : List OC) : (flatK encOw 10 d.toArray).toList = (d.map encOw).flatten := by
 have hk : ∀ cs ∈ d.map encOw, cs.length = 10 := fun cs h => by
  obtain ⟨x, _, rfl⟩ := List.mem_map.1 h
  rfl
 have hl : (d.map encOw).flatten.length = d.length * 10 := by rw [flat_len hk, List.length_map]
 refine List.ext_getElem? fun t => ?_
 by_cases ht : t < d.length * 10
 ·have e1 : t = t / 10 * 10 + t % 10 := by omega
  have hj : t / 10 < d.length := by omega
  have hi : t % 10 < 10 := by omega
  have e2 : (d.map encOw).flatten[t]? = some (encOw d[t / 10])[t % 10] := by
   conv => lhs; rw [e1]
   exact get_flat hk (by rw [List.getElem?_map, List.getElem?_eq_getElem hj]; rfl) (List.getElem?_eq_getElem (by rw [encOw_len]; exact hi))
  rw [e2]
  have e3 := get_flatK encOw 10 d.toArray t (by simpa using ht)
  have e4 : t < (flatK encOw 10 d.toArray).size := by rw [size_flatK]; simpa using ht
  rw [getElem!_pos _ t e4] at e3
  rw [Array.getElem?_toList, Array.getElem?_eq_getElem e4, e3, getElem!_pos d.toArray (t / 10) (by simpa using hj), getElem!_pos _ (t % 10) (by rw [encOw_len]; exact hi)]
  rfl
 ·rw [List.getElem?_eq_none (by rw [Array.length_toList, size_flatK]; simp; omega), List.getElem?_eq_none (by rw [hl]; omega)]
theorem ow_sorted {E : Dom} {w0 w : World} {B g n c : Nat} {l : List GObject} (h : OwnAt (ObjX E w0) 10 w B 30 (.slice (some ⟨g, 0, none⟩) n c) l) :
  n = l.length ∧ g < w.heap.size ∧ ∃ d : List OC, d.length = l.length ∧ HoldsK encOw 10 w g 0 d.toArray ∧ ∀ (q : Nat) (d' : List OC), d'.Perm d → (d'.map (·.2)).Perm l ∧
   OwnAt (ObjX E w0) 10 (putRowK encOw 10 (Go.Sort.ahead w q) g 0 d'.toArray) B 30 (.slice (some ⟨g, 0, none⟩) n c) (d'.map (·.2)) ∧ RowKit.Below B w (putRowK encOw 10 (Go.Sort.ahead w q) g 0 d'.toArray) ∧ (∀ k, k ≠ g → (putRowK encOw 10 (Go.Sort.ahead w q) g 0 d'.toArray).heap[k]? = w.heap[k]?) ∧ (putRowK encOw 10 (Go.Sort.ahead w q) g 0 d'.toArray).heap.size = w.heap.size := by
 obtain ⟨css, c1, c2, ⟨c3, c4⟩, c5⟩ := h
 rcases c4 with ⟨h0, _⟩ | ⟨g', cap, cur, hv, hB, hh, hle, hm, hzc, ht⟩
 ·cases h0
 ·injection hv with u1 u2 u3
  injection u1 with u1
  injection u1 with u1
  subst u1; subst u2; subst u3
  have hgl : g < w.heap.size := by
   rcases Nat.lt_or_ge g w.heap.size with h1 | h1
   ·exact h1
   ·rw [Array.getElem?_eq_none h1] at hh; cases hh
  obtain ⟨d, hd1, hd2⟩ := pick_each (fun j (p : OC) => ∃ cs x, css[j]? = some cs ∧ l[j]? = some x ∧ p.2 = x ∧ encOw p = cs) l.length (fun j hj => by
   have hj1 : css[j]? = some (css[j]'(by omega)) := List.getElem?_eq_getElem _
   have hj2 : l[j]? = some l[j] := List.getElem?_eq_getElem _
   obtain ⟨s1, s2, s3, e1, e2⟩ := c5 j _ _ hj1 hj2
   refine ⟨((s1, s2, s3), l[j]), _, _, hj1, hj2, rfl, ?_⟩
   rw [e1]
   unfold encOw
   rw [oneV_of (own_one e2.labels.own), oneV_of (own_one e2.owners.own), oneV_of (own_one e2.holds.own)])
  have hdl : d.map (·.2) = l := by
   refine List.ext_getElem? fun j => ?_
   rw [List.getElem?_map]
   by_cases hj : j < l.length
   ·have hp : d[j]? = some (d[j]'(by omega)) := List.getElem?_eq_getElem _
    obtain ⟨cs, x, _, e2, e3, _⟩ := hd2 j _ hp
    rw [hp, e2, ← e3]
    rfl
   ·rw [List.getElem?_eq_none (by omega), List.getElem?_eq_none (by omega)]; rfl
  have hdc : d.map encOw = css := by
   refine List.ext_getElem? fun j => ?_
   rw [List.getElem?_map]
   by_cases hj : j < l.length
   ·have hp : d[j]? = some (d[j]'(by omega)) := List.getElem?_eq_getElem _
    obtain ⟨cs, x, e1, _, _, e4⟩ := hd2 j _ hp
    rw [hp, e1, ← e4]
    rfl
   ·rw [List.getElem?_eq_none (by omega), List.getElem?_eq_none (by omega)]; rfl
  have hR : ∀ p ∈ d, ObjX E w0 w (encOw p) p.2 := fun p hp => by
   obtain ⟨j, hj, rfl⟩ := List.getElem_of_mem hp
   obtain ⟨cs, x, e1, e2, e3, e4⟩ := hd2 j _ (List.getElem?_eq_getElem hj)
   rw [e3, e4]
   exact c5 j cs x e1 e2
  refine ⟨rfl, hgl, d, hd1, ?_, ?_⟩
  ·intro j hj
   rw [size_flatK] at hj
   have hj3 : j < l.length * 10 := by simpa [hd1] using hj
   refine ⟨?_, free_block hh _⟩
   have e4 : j < (flatK encOw 10 d.toArray).size := by rw [size_flatK]; exact hj
   rw [getElem!_pos _ j e4, Nat.zero_add, cell_block hh]
   have e5 : (flatK encOw 10 d.toArray).toList[j]? = cur.toList[j]? := by
    rw [flatK_getOw, hdc, ← ht, List.getElem?_take_of_lt hj3]
   rw [Array.getElem?_toList, Array.getElem?_toList, Array.getElem?_eq_getElem e4] at e5
   exact e5.symm
  ·intro q d' hp
   have hl' : d'.length = l.length := by rw [hp.length_eq, hd1]
   obtain ⟨W, hW⟩ : ∃ W, putRowK encOw 10 (Go.Sort.ahead w q) g 0 d'.toArray = W := ⟨_, rfl⟩
   rw [hW]
   have hw : W.heap[g]? = some (.cells (putCells id 0 (flatK encOw 10 d'.toArray) cur) 30 (0, 0)) := by
    rw [← hW]
    unfold putRowK putRow mapBlock
    show (Array.modify w.heap g _)[g]? = _
    rw [Array.getElem?_modify, if_pos rfl, hh]
    rfl
   have ho : ∀ k, k ≠ g → W.heap[k]? = w.heap[k]? := fun k hk => by
    rw [← hW]
    unfold putRowK putRow mapBlock
    show (Array.modify w.heap g _)[k]? = _
    rw [Array.getElem?_modify, if_neg (Ne.symm hk)]
   have hs : W.heap.size = w.heap.size := by
    rw [← hW]
    unfold putRowK putRow mapBlock
    show (Array.modify w.heap g _).size = _
    rw [Array.size_modify]
   have hk' : ∀ cs ∈ d'.map encOw, cs.length = 10 := fun cs h => by
    obtain ⟨x, _, rfl⟩ := List.mem_map.1 h
    rfl
   refine ⟨by rw [← hdl]; exact hp.map _, ⟨d'.map encOw, by rw [List.length_map, List.length_map], hk', ⟨by rw [flat_len hk', List.length_map, List.length_map], .inr ⟨g, c, _, by rw [List.length_map, hl'], hB, hw, by rw [List.length_map, hl']; exact hle, hm, by unfold putCells; rw [Array.size_mapIdx]; exact hzc, ?_⟩⟩, ?_⟩, ⟨by rw [← hW]; rfl, by rw [← hW]; rfl, by rw [← hW]; rfl, by rw [hs]; exact Nat.le_refl _, fun k hk => ho k (by omega)⟩, ho, hs⟩
   ·rw [← flatK_getOw, List.length_map, hl']
    apply List.ext_getElem?
    intro t
    by_cases htl : t < l.length * 10
    ·have htc : t < cur.size := by rw [hzc]; omega
     have e4 : t < (flatK encOw 10 d'.toArray).size := by rw [size_flatK]; simp [hl']; omega
     rw [List.getElem?_take_of_lt htl, Array.getElem?_toList, Array.getElem?_toList]
     unfold putCells
     rw [Array.getElem?_mapIdx, Array.getElem?_eq_getElem htc, Option.map_some, if_pos ⟨by omega, by omega⟩, Nat.sub_zero, getElem!_pos _ t e4, Array.getElem?_eq_getElem e4]
     rfl
    ·rw [List.getElem?_eq_none (by rw [List.length_take]; omega), List.getElem?_eq_none (by rw [Array.length_toList, size_flatK]; simp [hl']; omega)]
   ·intro j cs x hcs hx
    rw [List.getElem?_map] at hcs hx
    obtain ⟨p, hp1, rfl⟩ := Option.map_eq_some_iff.1 hcs
    rw [hp1] at hx
    obtain rfl : p.2 = x := by simpa using hx
    exact hR p (hp.mem_iff.1 (List.mem_of_getElem? hp1))
def RiseB (l : List GObject) : Prop := l.Pairwise fun x y => ¬ ahead y x
theorem objSort_any (v : Value) (l : List GObject) (B : Nat) (E : Dom) (w0 w : World) (h : OwnAt (ObjX E w0) 10 w B 30 v l) (hB : B ≤ w.heap.size) (hl : l.length ≤ 1073741824) :
  Calls Tryz.prog 63 #[v, .func (.func 64) #[] #[]] w fun e w' => e = .returned (.tuple #[]) ∧ ∃ l', l'.Perm l ∧ RiseB l' ∧ OwnAt (ObjX E w0) 10 w' B 30 v l' ∧ RowKit.Below B w w' ∧ Only (fun b => v.ownBlock = some b) w w' := by
 rcases h.form with ⟨rfl, rfl⟩ | ⟨g, c, rfl, _, hg, _, _⟩
 ·refine (AnyF.slices_SortFunc_none Tryz.objSort none 0 _ w).mono fun e w' ⟨h1, h2⟩ => ?_
  subst h2
  exact ⟨h1, [], List.Perm.refl _, List.Pairwise.nil, OwnAt.nil _, Below.refl _ _, Only.refl _ _⟩
 ·obtain ⟨_, _, d, hd1, hH, ho⟩ := ow_sorted h
  have eg : ∀ args w, (callFunc 64 args).run Tryz.prog w = .ok (.enter 64 args) w := enters_of Tryz.func64 (by kernel_rfl) rfl
  have hs := AnyQ.slices_SortFunc Tryz.objSort 10 Tryz.isAgg30 Tryz.sizeOf30 encOw encOw_len encOw_one cfOw swoOw 64 #[] g 0 c d.toArray w eg (ownedLays g 0 _ w) hH hg (by simp [hd1]; omega)
  have hsz : d.toArray.size = l.length := by simp [hd1]
  rw [hsz] at hs
  refine hs.mono fun e w' ⟨h1, d', n, os, hp, hso, h2⟩ => ?_
  have hpp : d'.toList.Perm d := by
   obtain ⟨p1, _, p3⟩ := hp
   have e1 : d'.size = l.length := by rw [p1, hsz]
   have e2 : d'.extract 0 l.length = d' := by rw [← e1]; exact Array.extract_size
   have e3 : d.toArray.extract 0 l.length = d.toArray := by rw [← hsz]; exact Array.extract_size
   rw [e2, e3] at p3
   exact p3
  obtain ⟨o0, o1, o2, o3, o4⟩ := ho n d'.toList hpp
  rw [Array.toArray_toList] at o1 o2 o3 o4
  have hgr : RowKit.Below (putRowK encOw 10 (Go.Sort.ahead w n) g 0 d').heap.size (putRowK encOw 10 (Go.Sort.ahead w n) g 0 d') w' := by
   rw [h2]
   exact Lib.below_grow _ _ (Nat.le_refl _) 0 os
  have hrise : RiseB (d'.toList.map (·.2)) := by
   unfold RiseB
   rw [List.pairwise_map]
   exact (sorted_pairs (fun p q : OC => cfOb p.2 q.2) (fun p q => ltOw p q) (by rw [hp.1, hsz]) hso).imp fun h h9 => h ((cfOb_lt _ _).2 h9)
  refine ⟨h1, _, o0, hrise, o1.stay (fun _ _ _ _ h => h) fun b hb => hgr.block b (o1.at hb).2.1, o2.trans (hgr.mono (by rw [o4]; exact hB)), ?_⟩
  have x1 : Only (fun b => (Value.slice (some ⟨g, 0, none⟩) l.length c).ownBlock = some b) w (putRowK encOw 10 (Go.Sort.ahead w n) g 0 d') := ⟨o2.os, o2.tape, o2.output, by rw [o4]; exact Nat.le_refl _, fun k _ hk => o3 k fun e => hk (by rw [e]; rfl)⟩
  exact x1.then hgr
end Sto
end Go.Proofs.YtnnceaapodgfbaaGreatDoor
namespace Go.Proofs.YtnnceaapodgfbaaGreatDoor
namespace Sto
open Go.RowKit
theorem Tryz.infoObjL : (Tryz.prog.info? 30).map (fun i => (i.zero, i.size, i.bytes)) = some (some (.agg #[.string ByteArray.empty, .string ByteArray.empty, .string ByteArray.empty, .slice none 0 0, .slice none 0 0, .slice none 0 0, .bool false, .string ByteArray.empty, .int .i64 0, .string ByteArray.empty]), 10, 168) := by kernel_rfl
theorem timeT_le (S : St) (rev : Int) : timeT S rev ≤ S.log.length := by
 unfold timeT
 by_cases h : rev < 0 ∨ (S.rev : Int) < rev
 ·have h1 : timeE S rev = 1 := by unfold timeE; rw [if_pos h]
  rw [h1, if_pos (by decide)]
  omega
 ·have h2 : rev.toNat ≤ S.log.length := by unfold St.rev at h; omega
  split
  ·omega
  ·split
   ·exact Nat.le_refl _
   ·exact h2
theorem live_le : ∀ l : List GEvent, live l ≤ (l.length : Int)
 | [] => by decide
 | e :: r => by
  have h := live_le r
  unfold live
  rw [List.length_cons]
  split
  ·omega
  ·split <;> omega
set_option maxRecDepth 100000 in
set_option maxHeartbeats 6400000 in
theorem list_any {D : Dom} {w : World} {g : Nat} {S : St} (h : StoreAt D w g S) (hS : OkSt S) (kind space : ByteArray) (hk : kind.size ≤ 1048576) (hs : space.size ≤ 1048576) (rev : Int) :
  Calls Tryz.prog 23 #[.pointer (some ⟨g, 0, none⟩), .string kind, .string space, .int .i64 rev] w fun e w' => Below w.heap.size w w' ∧ ∃ E v out, e = .returned (.tuple #[v, .int .i64 (listE S kind space rev)]) ∧ ListTold S kind space rev out ∧ OwnX ObjX 10 E w' 30 v out ∧ ∀ b, E b → w.heap.size ≤ b ∧ b < w'.heap.size := by
 obtain ⟨R, HR⟩ : ∃ R, Hid (says (chk kind) (spaceE space) = R) := ⟨_, Lib.hid rfl⟩
 obtain ⟨le, Hle⟩ : ∃ x, Hid (listE S kind space rev = x) := ⟨_, Lib.hid rfl⟩
 rw [Hle.out]
 have HA := Lib.hid h
 have HS := Lib.hid hS
 have hgl := h.lt
 clear h hS
 go_enter Tryz.func23, Tryz.ntmps23
 go_upto_region 2 with fail
 obtain ⟨w1, hw1⟩ : ∃ w1, w1 = w.alloc (.cells #[.int .i64 0] 113) := ⟨_, rfl⟩
 obtain ⟨gc, hgc⟩ : ∃ gc, gc = w.heap.size := ⟨_, rfl⟩
 have C1 : Hid (IsBad gc w1 0) := Lib.hid (by rw [hw1, hgc]; exact heap_alloc_new w _)
 have HB1 : Hid (Below w.heap.size w w1) := Lib.hid (by rw [hw1]; exact (Below.refl _ w).alloc (Nat.le_refl _) _)
 have hs1 : gc < w1.heap.size := by rw [hw1, World.size_alloc]; omega
 have hgw : w.heap.size ≤ gc := by omega
 have hd : ∀ b, D b → b < gc := fun b hb => by have := HA.out.low hb; omega
 have Hd := Lib.hid hd
 rw [← hw1, ← hgc]
 clear hw1 hgc hd
 go_wp2_with fail
 refine (name_one gc 0 kind w1 C1.out (by omega)).mono ?_
 rintro E w2 ⟨rfl, h1, h2⟩
 rw [zero_says] at h1
 have C2 := Lib.hid h1
 have K2 := Lib.hid h2
 clear h1 h2
 go_wp2_with fail
 refine (space_any gc _ space w2 C2.out (by omega)).mono ?_
 rintro E w3 ⟨rfl, h1, h2⟩
 have C3 : Hid (IsBad gc w3 R) := Lib.hid (by rw [← HR.out]; exact h1)
 have K3 := Lib.hid (K2.out.trans h2)
 have HB := Lib.hid (K3.out.below HB1.out HB1.out.size hgw)
 have HA3 : Hid (StoreAt D w3 g S) := Lib.hid ((HA.out.belowW HB1.out).agree (fun b hb => K3.out.block b (by have := Hd.out b hb; omega) (by have := Hd.out b hb; omega)) K3.out.size)
 clear h1 h2 C1 C2 K2 K3 HA HB1
 have cc : w3.cell? ⟨gc, 0, none⟩ = some (.int .i64 R) := cell_block C3.out 0
 by_cases hR : R = 0
 ·subst hR
  have HTi := Lib.hid (time_any HA3.out rev)
  go_wp2_with fail
  refine HTi.out.mono ?_
  rintro E w4 ⟨rfl, hw4⟩
  subst hw4
  clear HTi cc
  obtain ⟨te, Hte⟩ : ∃ x, Hid (timeE S rev = x) := ⟨_, Lib.hid rfl⟩
  obtain ⟨tt, Htt⟩ : ∃ x, Hid (timeT S rev = x) := ⟨_, Lib.hid rfl⟩
  rw [Hte.out, Htt.out]
  have Hl : Hid (le = te) := Lib.hid (by rw [← Hle.out, ← Hte.out]; unfold listE; rw [HR.out, if_neg (by decide)])
  by_cases hte : te = 0
  ·subst hte
   obtain ⟨M, I, mb, nn, f, vlog, hin, hDD⟩ := HA3.out
   have HIn := Lib.hid hin
   have HDD := Lib.hid hDD
   have cg := fun i => cell_block hin.box i
   clear hin hDD
   go_wp2_with (at_range; refine wpList_range_mapK _ (by rfl) _ 108 (by rfl) 159 Tryz.underlying108 mb nn f (by rfl) HIn.out.map ?_; intro w4 cnt hrg hgr hsz)
   try go_frame
   have hb4 : Below w3.heap.size w3 w4 := ⟨hgr.os, hgr.tape, hgr.output, hgr.size, fun k hk => hgr.block k hk (by simp)⟩
   have HR1 := Lib.hid hrg
   have HB4 := Lib.hid (HB.out.trans (hb4.mono HB.out.size))
   have HA4 := Lib.hid (HA3.out.belowW hb4)
   have hsr : w3.heap.size < w4.heap.size := by omega
   obtain ⟨r, hr⟩ : ∃ r, w3.heap.size = r := ⟨_, rfl⟩
   rw [hr] at HR1 hsr ⊢
   have hwr : w.heap.size ≤ r := by rw [← hr]; exact HB.out.size
   have hdr : Hid (∀ b, D b → b < r) := Lib.hid fun b hb => by rw [← hr]; exact HA3.out.low hb
   have hmr : mb < r := hdr.out mb ((HDD.out mb).2 (.inl HIn.out.mbM))
   clear hrg hgr hsz hb4 hr cg
   go_loopg [12, 13, 14, 15] cnt (fun c u12 u13 u14 u15 wr => ∃ (left : GKey → Bool) (l1 : List GObject), Hid (RangeK keyC wr mb r nn f left c) ∧ Hid (OwnAt (ObjX (fun b => r < b ∧ b < wr.heap.size ∧ u12.ownBlock ≠ some b) wr) 10 wr (r + 1) 30 u12 l1) ∧ Hid (Gathered (S.log.take tt) kind space left l1) ∧ Hid (Below w.heap.size w wr) ∧ Hid (StoreAt D wr g S))
   case atStart =>
    exact ⟨_, [], HR1, Lib.hid (OwnAt.nil _), Lib.hid (.start fun k o hc => by
     cases hf : f k with
     | some v => rfl
     | none =>
      have h9 := HIn.out.no k hf
      have h8 : hits (S.log.take tt) k = [] := List.eq_nil_iff_forall_not_mem.2 fun e he => by
       unfold hits at he h9
       obtain ⟨h1, h2⟩ := List.mem_filter.1 he
       have := (List.mem_filter (p := fun e : GEvent => decide (e.object.okey = k))).2 ⟨List.mem_of_mem_take h1, h2⟩
       rw [h9] at this; cases this
      unfold cur at hc
      rw [h8] at hc; cases hc), HB4, HA4⟩
   case round =>
    obtain ⟨left, l1, HR2, HO, HG, HBr, HAr⟩ := hrel
    clear HR1 HB4 HA4
    go_wp2_with (at_next; refine wpList_next_rangeK _ (by rfl) _ (by rfl) mb r nn f left gk (by rfl) HR2.out ?_ ?_)
    ·intro hl0
     have HGf : Hid (Gathered (S.log.take tt) kind space (fun _ => false) l1) := Lib.hid (by
      have : left = fun _ => false := funext hl0
      rw [← this]; exact HG.out)
     have hlen : l1.length ≤ 4194304 := by
      have h1 := live_keys (HS.out.good.fit tt (by rw [← Htt.out]; exact timeT_le S rev)) (l1.map (·.okey)) HGf.out.one fun k hk => by
       obtain ⟨o, ho, rfl⟩ := List.mem_map.1 hk
       rw [((HGf.out.mem o).1 ho).2.1]; rfl
      have h2 := live_le (S.log.take tt)
      rw [List.length_take] at h2
      rw [List.length_map] at h1
      have := HS.out.rev
      unfold St.rev at this
      omega
     have hrw : r + 1 ≤ wr.heap.size := by have := HR2.out.lt; omega
     have HSo := Lib.hid (objSort_any u12 l1 (r + 1) _ wr wr HO.out hrw (by omega))
     have hrow := HO.out.row.len
     have HBs := HBr
     clear hl0 HG HO HR2 hlen hrw HAr
     obtain ⟨a3, c3, e3, -, -⟩ := hrow
     obtain ⟨n3, hn3⟩ : ∃ n, l1.length = n := ⟨_, rfl⟩
     rw [hn3] at e3
     subst e3
     clear hn3
     go_wp2_with fail
     refine HSo.out.mono ?_
     rintro E w6 ⟨rfl, L, hp, hri, ho, hb6, ho6⟩
     have HLs : Hid (ListTold S kind space rev L) := Lib.hid ⟨fun h9 => absurd (by rw [Hle.out, Hl.out]) h9, fun _ => by rw [Htt.out]; exact HGf.out.done hp hri⟩
     have hwB := HBs.out.size
     have HB6 : Hid (Below w.heap.size w w6) := Lib.hid (HBs.out.trans (hb6.mono (by omega)))
     have HX : Hid (OwnX ObjX 10 (fun b => w.heap.size ≤ b ∧ b < w6.heap.size) w6 30 (.slice a3 n3 c3) L) := Lib.hid ⟨(ho.imp' fun cs x _ hx => famObj.mono _ _ _ _ _ _ (fun b hb => ⟨by have := hb.1; omega, Nat.lt_of_lt_of_le hb.2.1 ho6.size⟩) (famObj.agree _ _ _ _ _ _ (ho6.agree fun b hb => ⟨hb.2.1, hb.2.2⟩) hx)).mono (Nat.zero_le _), fun b hb => ⟨by have := (ho.at hb).1; omega, (ho.at hb).2.1⟩⟩
     clear hp hri ho hb6 ho6 HSo
     go_wp2_with fail
     go_ret2
     exact ⟨HB6.out, _, _, L, by rw [Hl.out]; rfl, HLs.out, HX.out, fun b hb => hb⟩
    ·intro s v w5 cnt2 hs5 hlk hv hrg2 hlt hgr2 hsz2 hen
     have hrl := HR2.out.lt
     have HR5 := Lib.hid hrg2
     have HB5 : Hid (Below w.heap.size w w5) := Lib.hid (HBr.out.grown hgr2 HBr.out.size (fun j hj => by cases hj; exact hwr))
     have hne : ∀ b, b < wr.heap.size → b ≠ r → w5.heap[b]? = wr.heap[b]? := fun b hb hn => hgr2.block b hb fun e => hn (by cases e; rfl)
     have HA5 : Hid (StoreAt D w5 g S) := Lib.hid (HAr.out.agree (fun b hb => hne b (HAr.out.low hb) (by have := hdr.out b hb; omega)) (by omega))
     have HO5 : Hid (OwnAt (ObjX (fun b => r < b ∧ b < w5.heap.size ∧ u12.ownBlock ≠ some b) w5) 10 w5 (r + 1) 30 u12 l1) := Lib.hid ((HO.out.stay (fun _ _ _ _ h => h) fun b hb => hne b (HO.out.at hb).2.1 (by have := (HO.out.at hb).1; omega)).imp' fun cs x _ hx => famObj.mono _ _ _ _ _ _ (fun b hb => ⟨hb.1, by rw [hsz2]; exact hb.2.1, hb.2.2⟩) (famObj.agree _ _ _ _ _ _ (fun b hb => hne b hb.2.1 (by have := hb.1; omega)) hx))
     have Hlk := Lib.hid hlk
     have Hs := Lib.hid hs5
     have hs5' := hsz2
     rw [show keyC.val s = .agg #[.string s.kind, .string s.space, .string s.name] from rfl] at hen ⊢
     clear hrg2 hgr2 hsz2 hne hlk hs5 HR2 HO HBr HAr
     go_upto_region 13 with fail
     obtain ⟨w6, hw6⟩ : ∃ w6, w6 = w5.alloc (.cells #[.string s.kind, .string s.space, .string s.name] 24) := ⟨_, rfl⟩
     obtain ⟨gk', hgk⟩ : ∃ x, x = w5.heap.size := ⟨_, rfl⟩
     have KB : Hid (w6.heap[gk']? = some (.cells #[.string s.kind, .string s.space, .string s.name] 24 (0, 0))) := Lib.hid (by rw [hw6, hgk]; exact heap_alloc_new w5 _)
     have hb56 : Below w5.heap.size w5 w6 := by rw [hw6]; exact (Below.refl _ w5).alloc (Nat.le_refl _) _
     have hs6 : w6.heap.size = w5.heap.size + 1 := by rw [hw6, World.size_alloc]
     rw [hs5'] at hgk
     rw [← hw6]
     rw [← hgk]
     have hs6' := hs6
     have hgw' : w.heap.size ≤ gk' := by omega
     have Hb56 := Lib.hid hb56
     clear hw6 hgk hb56 hen
     have ck := fun i => cell_block KB.out i
     have HB6 := Lib.hid (HB5.out.trans (Hb56.out.mono HB5.out.size))
     have HA6 := Lib.hid (HA5.out.belowW Hb56.out)
     have HR6 := Lib.hid (HR5.out.belowW Hb56.out)
     have HO6 : Hid (OwnAt (ObjX (fun b => r < b ∧ b < w6.heap.size ∧ u12.ownBlock ≠ some b) w6) 10 w6 (r + 1) 30 u12 l1) := Lib.hid ((HO5.out.stay (fun _ _ _ _ h => h) fun b hb => Hb56.out.block b (HO5.out.at hb).2.1).imp' fun cs x _ hx => famObj.mono _ _ _ _ _ _ (fun b hb => ⟨hb.1, by rw [hs6]; have := hb.2.1; omega, hb.2.2⟩) (famObj.agree _ _ _ _ _ _ (fun b hb => Hb56.out.block b hb.2.1) hx))
     clear HB5 HA5 HR5 HO5 Hb56
     cases kb : (s.kind.toList == kind.toList) with
     | false =>
      have HNF : Hid (¬ fitsK kind space s) := Lib.hid fun h9 => by rw [h9.1, beq_self_eq_true] at kb; cases kb
      have HL6 := Lib.hid (HG.out.pass (k := s) (.inl HNF.out))
      clear HG HNF
      go_wp2_with fail
      go_roundg cnt2
      case measure => exact hlt
      case rel => exact ⟨_, l1, HR6, HO6, HL6, HB6, HA6⟩
     | true =>
      cases eb : space.toList.isEmpty with
      | true =>
       have HNF : Hid (fitsK kind space s) := Lib.hid ⟨toList_inj (eq_of_beq kb), .inl (by have h9 : space.toList = [] := List.isEmpty_iff.1 eb; exact toList_inj (h9.trans (by rw [Lib.toList_data]; rfl)))⟩
       have HAt := Lib.hid (at_any HA6.out HS.out s Hs.out tt)
       have HOL : Hid (∀ b, u12.ownBlock = some b → b < w6.heap.size) := Lib.hid fun b hb => (HO6.out.at hb).2.1
       have Hlen : Hid (l1.length ≤ 4194304) := Lib.hid (by
        have h1 := live_keys (HS.out.good.fit tt (by rw [← Htt.out]; exact timeT_le S rev)) (l1.map (·.okey)) HG.out.one fun k hk => by
         obtain ⟨o, ho, rfl⟩ := List.mem_map.1 hk
         rw [((HG.out.mem o).1 ho).2.1]; rfl
        have h2 := live_le (S.log.take tt)
        rw [List.length_take] at h2
        rw [List.length_map] at h1
        have := HS.out.rev
        unfold St.rev at this
        omega)
       go_wp2_with fail
       refine HAt.out.mono ?_
       rintro E w7 ⟨hb7, hat⟩
       clear HAt ck
       have hz7 := (hb7).size
       have HB7 := Lib.hid (HB6.out.trans ((hb7).mono HB6.out.size))
       have HA7 := Lib.hid (HA6.out.belowW (hb7))
       have HR7 := Lib.hid (HR6.out.belowW (hb7))
       have HO7 : Hid (OwnAt (ObjX (fun b => r < b ∧ b < w7.heap.size ∧ u12.ownBlock ≠ some b) w7) 10 w7 (r + 1) 30 u12 l1) := Lib.hid ((HO6.out.stay (fun _ _ _ _ h => h) fun b hb => (hb7).block b (HO6.out.at hb).2.1).imp' fun cs x _ hx => famObj.mono _ _ _ _ _ _ (fun b hb => ⟨hb.1, Nat.lt_of_lt_of_le hb.2.1 hz7, hb.2.2⟩) (famObj.agree _ _ _ _ _ _ (fun b hb => (hb7).block b hb.2.1) hx))
       clear HB6 HA6 HR6 HO6
       rcases hat with ⟨hc, rfl⟩ | ⟨o, D3, u1, u2, u3, hc, rfl, ho, hD⟩
       ·have HL8 := Lib.hid (HG.out.pass (k := s) (.inr hc))
        rw [show noW = .agg noA from rfl]
        clear HG HNF hc hb7
        have H7 := Lib.hid (heap_alloc_new w7 (.cells noA 30))
        have hb8 := Lib.hid ((Below.refl w7.heap.size w7).alloc (Nat.le_refl _) (.cells noA 30))
        go_wp2_with (refine wpList_store_box (by rfl) _ _ _ (by rfl) w7.heap.size noA (by rfl) (by rfl) _ _ (by exact H7.out) (by exact Tryz.sizeObj) (by rfl) (by simp [Value.oneCell', noA]) ?_)
        intro w8 b8 t8
        have hbb : Below w7.heap.size w7 w8 := t8.below hb8.out (Nat.le_refl _)
        have hs8 : w8.heap.size = w7.heap.size + 1 := t8.size.trans (World.size_alloc _ _)
        have hz8 := (hbb).size
        have HB8 := Lib.hid (HB7.out.trans ((hbb).mono HB7.out.size))
        have HA8 := Lib.hid (HA7.out.belowW (hbb))
        have HR8 := Lib.hid (HR7.out.belowW (hbb))
        have HO8 : Hid (OwnAt (ObjX (fun b => r < b ∧ b < w8.heap.size ∧ u12.ownBlock ≠ some b) w8) 10 w8 (r + 1) 30 u12 l1) := Lib.hid ((HO7.out.stay (fun _ _ _ _ h => h) fun b hb => (hbb).block b (HO7.out.at hb).2.1).imp' fun cs x _ hx => famObj.mono _ _ _ _ _ _ (fun b hb => ⟨hb.1, Nat.lt_of_lt_of_le hb.2.1 hz8, hb.2.2⟩) (famObj.agree _ _ _ _ _ _ (fun b hb => (hbb).block b hb.2.1) hx))
        clear HB7 HA7 HR7 HO7
        clear b8 t8 hbb H7 hb8
        go_wp2_with fail
        go_roundg cnt2
        case measure => exact hlt
        case rel => exact ⟨_, l1, HR8, HO8, HL8, HB8, HA8⟩
       ·have HL8 := Lib.hid (HG.out.more HNF.out hc Hlk.out)
        have hD9 : Hid (∀ b, D3 b → w6.heap.size ≤ b ∧ b < w7.heap.size) := Lib.hid hD
        have HOo := Lib.hid ho
        clear HG HNF hc hb7 ho hD
        obtain ⟨a1, c1, rfl, -, -⟩ := HOo.out.rowL.len
        obtain ⟨a2, c2, rfl, -, -⟩ := HOo.out.rowO.row.len
        obtain ⟨a3, c3, rfl, -, -⟩ := HOo.out.rowH.row.len
        obtain ⟨n1, Hn1⟩ : ∃ n, Hid (o.labels.length = n) := ⟨_, Lib.hid rfl⟩
        obtain ⟨n2, Hn2⟩ : ∃ n, Hid (o.owners.length = n) := ⟨_, Lib.hid rfl⟩
        obtain ⟨n3, Hn3⟩ : ∃ n, Hid (o.holds.length = n) := ⟨_, Lib.hid rfl⟩
        rw [Hn1.out, Hn2.out, Hn3.out] at HOo ⊢
        have H7 := Lib.hid (heap_alloc_new w7 (.cells noA 30))
        have hb8 := Lib.hid ((Below.refl w7.heap.size w7).alloc (Nat.le_refl _) (.cells noA 30))
        go_wp2_with (refine wpList_store_box (by rfl) _ _ _ (by rfl) w7.heap.size #[.string o.okey.kind, .string o.okey.space, .string o.okey.name, .slice a1 n1 c1, .slice a2 n2 c2, .slice a3 n3 c3, .bool o.ending, .string o.uid, .int .i64 o.rev, .string o.doc] (by rfl) (by rfl) _ _ (by exact H7.out) (by exact Tryz.sizeObj) (by rfl) (by simp [Value.oneCell']) ?_)
        intro w8 b8 t8
        have hbb : Below w7.heap.size w7 w8 := t8.below hb8.out (Nat.le_refl _)
        have hs8 : w8.heap.size = w7.heap.size + 1 := t8.size.trans (World.size_alloc _ _)
        have hz8 := (hbb).size
        have HB8 := Lib.hid (HB7.out.trans ((hbb).mono HB7.out.size))
        have HA8 := Lib.hid (HA7.out.belowW (hbb))
        have HR8 := Lib.hid (HR7.out.belowW (hbb))
        have HO8 : Hid (OwnAt (ObjX (fun b => r < b ∧ b < w8.heap.size ∧ u12.ownBlock ≠ some b) w8) 10 w8 (r + 1) 30 u12 l1) := Lib.hid ((HO7.out.stay (fun _ _ _ _ h => h) fun b hb => (hbb).block b (HO7.out.at hb).2.1).imp' fun cs x _ hx => famObj.mono _ _ _ _ _ _ (fun b hb => ⟨hb.1, Nat.lt_of_lt_of_le hb.2.1 hz8, hb.2.2⟩) (famObj.agree _ _ _ _ _ _ (fun b hb => (hbb).block b hb.2.1) hx))
        clear HB7 HA7 HR7 HO7
        have HOo8 := Lib.hid (HOo.out.agree fun b hb => hbb.block b (hD9.out b hb).2)
        obtain ⟨go, hgo⟩ : ∃ go, w7.heap.size = go := ⟨_, rfl⟩
        rw [hgo] at b8 ⊢
        have BO := Lib.hid b8
        have hgl : go < w8.heap.size := by omega
        clear b8 t8 hbb H7 hb8 HOo hgo
        have co := fun i => cell_block BO.out i
        obtain ⟨gl, hgz⟩ : ∃ gl, w8.heap.size = gl := ⟨_, rfl⟩
        obtain ⟨w9, hw9⟩ : ∃ w9, w9 = w8.alloc (.cells #[.string o.okey.kind, .string o.okey.space, .string o.okey.name, .slice a1 n1 c1, .slice a2 n2 c2, .slice a3 n3 c3, .bool o.ending, .string o.uid, .int .i64 o.rev, .string o.doc] 30) := ⟨_, rfl⟩
        have hb9 : Below w8.heap.size w8 w9 := by rw [hw9]; exact (Below.refl _ w8).alloc (Nat.le_refl _) _
        have hs9 : w9.heap.size = w8.heap.size + 1 := by rw [hw9, World.size_alloc]
        have HOo9 : Hid (ObjIn (fun b => r < b ∧ b < w9.heap.size ∧ u12.ownBlock ≠ some b) w9 (.slice a1 n1 c1) (.slice a2 n2 c2) (.slice a3 n3 c3) o) := Lib.hid ((HOo8.out.agree fun b hb => hb9.block b (by have := (hD9.out b hb).2; omega)).mono fun b hb => ⟨by have := (hD9.out b hb).1; have := HR8.out.lt; omega, by have := (hD9.out b hb).2; omega, fun e => by have := (HOL.out b e); have := (hD9.out b hb).1; omega⟩)
        have hz9 := (hb9).size
        have HB9 := Lib.hid (HB8.out.trans ((hb9).mono HB8.out.size))
        have HA9 := Lib.hid (HA8.out.belowW (hb9))
        have HR9 := Lib.hid (HR8.out.belowW (hb9))
        have HO9 : Hid (OwnAt (ObjX (fun b => r < b ∧ b < w9.heap.size ∧ u12.ownBlock ≠ some b) w9) 10 w9 (r + 1) 30 u12 l1) := Lib.hid ((HO8.out.stay (fun _ _ _ _ h => h) fun b hb => (hb9).block b (HO8.out.at hb).2.1).imp' fun cs x _ hx => famObj.mono _ _ _ _ _ _ (fun b hb => ⟨hb.1, Nat.lt_of_lt_of_le hb.2.1 hz9, hb.2.2⟩) (famObj.agree _ _ _ _ _ _ (fun b hb => (hb9).block b hb.2.1) hx))
        clear HB8 HA8 HR8 HO8
        have HRow : Hid (RowAt (ObjX (fun b => r < b ∧ b < w9.heap.size ∧ u12.ownBlock ≠ some b) w9) 10 w9 (.slice (some ⟨gl, 0, none⟩) 1 1) [o]) := Lib.hid (RowAt.one (R := ObjX (fun b => r < b ∧ b < w9.heap.size ∧ u12.ownBlock ≠ some b) w9) (k := 10) (cs := #[.string o.okey.kind, .string o.okey.space, .string o.okey.name, .slice a1 n1 c1, .slice a2 n2 c2, .slice a3 n3 c3, .bool o.ending, .string o.uid, .int .i64 o.rev, .string o.doc]) (x := o) (by rw [hw9, ← hgz]; exact heap_alloc_new w8 _) rfl ⟨_, _, _, rfl, HOo9.out⟩)
        have hbase : r + 1 ≤ w9.heap.size := by omega
        obtain ⟨i0, hi0, hy0, hy1, hy2⟩ := info_parts Tryz.infoObjL
        have hl1 := Hlen.out
        have hsl : w9.heap.size = gl + 1 := by omega
        have hgl9 : go < gl := by omega
        clear hs8 hs9 hb9
        go_wp2_with (at_builtin; rw [← hw9]; refine wpList_append_ownAt (R := ObjX (fun b => r < b ∧ b < w9.heap.size ∧ u12.ownBlock ≠ some b) w9) (k := 10) (e := 30) (B := r + 1) (l := l1) (m := [o]) _ (by rfl) _ _ _ (by rfl) i0 _ 168 Tryz.underlying45 hi0 hy0 hy1 hy2 rfl (by omega) (famObj.flat _ _) (famObj.one _ _) _ (by rfl) HO9.out _ (by rfl) HRow.out (by rw [List.length_singleton]; unfold maxLen; omega) (by rw [List.length_singleton]; omega) hbase ?_)
        intro v' w10 q1 q2 q3 q4
        rw [← hw9] at q1 q2
        rw [show gl + 1 = w9.heap.size from hsl.symm] at q4
        have hwl : w.heap.size ≤ w9.heap.size := by have := HB9.out.size; omega
        have HB10 := Lib.hid (HB9.out.grown q2 hwl fun b hb => by have := q3 b hb; omega)
        have HA10 : Hid (StoreAt D w10 g S) := Lib.hid (HA9.out.agree (fun b hb => q2.block b (HA9.out.low hb) fun e9 => by have := q3 b e9.symm; have := hdr.out b hb; omega) q2.size)
        have HR10 := Lib.hid (HR9.out.kept q2 (fun e9 => by have := q3 mb e9.symm; omega) (fun e9 => by have := q3 r e9.symm; omega))
        have HO10 : Hid (OwnAt (ObjX (fun b => r < b ∧ b < w10.heap.size ∧ v'.ownBlock ≠ some b) w10) 10 w10 (r + 1) 30 v' (l1 ++ [o])) := Lib.hid (OutX.appended (X := ObjX) (B := r + 1) (w := w9) (v := u12) famObj (by rw [← hsl] at q1; exact q1) q2 q4)
        clear q1 q2 q3 q4 HO9 HRow HB9 HA9 HR9 hw9 hgz
        go_wp2_with fail
        go_roundg cnt2
        case measure => exact hlt
        case rel => exact ⟨_, l1 ++ [o], HR10, HO10, HL8, HB10, HA10⟩
      | false =>
       cases sb : (s.space.toList == space.toList) with
       | true =>
        have HNF : Hid (fitsK kind space s) := Lib.hid ⟨toList_inj (eq_of_beq kb), .inr (toList_inj (eq_of_beq sb))⟩
        have HAt := Lib.hid (at_any HA6.out HS.out s Hs.out tt)
        have HOL : Hid (∀ b, u12.ownBlock = some b → b < w6.heap.size) := Lib.hid fun b hb => (HO6.out.at hb).2.1
        have Hlen : Hid (l1.length ≤ 4194304) := Lib.hid (by
         have h1 := live_keys (HS.out.good.fit tt (by rw [← Htt.out]; exact timeT_le S rev)) (l1.map (·.okey)) HG.out.one fun k hk => by
          obtain ⟨o, ho, rfl⟩ := List.mem_map.1 hk
          rw [((HG.out.mem o).1 ho).2.1]; rfl
         have h2 := live_le (S.log.take tt)
         rw [List.length_take] at h2
         rw [List.length_map] at h1
         have := HS.out.rev
         unfold St.rev at this
         omega)
        go_wp2_with fail
        refine HAt.out.mono ?_
        rintro E w7 ⟨hb7, hat⟩
        clear HAt ck
        have hz7 := (hb7).size
        have HB7 := Lib.hid (HB6.out.trans ((hb7).mono HB6.out.size))
        have HA7 := Lib.hid (HA6.out.belowW (hb7))
        have HR7 := Lib.hid (HR6.out.belowW (hb7))
        have HO7 : Hid (OwnAt (ObjX (fun b => r < b ∧ b < w7.heap.size ∧ u12.ownBlock ≠ some b) w7) 10 w7 (r + 1) 30 u12 l1) := Lib.hid ((HO6.out.stay (fun _ _ _ _ h => h) fun b hb => (hb7).block b (HO6.out.at hb).2.1).imp' fun cs x _ hx => famObj.mono _ _ _ _ _ _ (fun b hb => ⟨hb.1, Nat.lt_of_lt_of_le hb.2.1 hz7, hb.2.2⟩) (famObj.agree _ _ _ _ _ _ (fun b hb => (hb7).block b hb.2.1) hx))
        clear HB6 HA6 HR6 HO6
        rcases hat with ⟨hc, rfl⟩ | ⟨o, D3, u1, u2, u3, hc, rfl, ho, hD⟩
        ·have HL8 := Lib.hid (HG.out.pass (k := s) (.inr hc))
         rw [show noW = .agg noA from rfl]
         clear HG HNF hc hb7
         have H7 := Lib.hid (heap_alloc_new w7 (.cells noA 30))
         have hb8 := Lib.hid ((Below.refl w7.heap.size w7).alloc (Nat.le_refl _) (.cells noA 30))
         go_wp2_with (refine wpList_store_box (by rfl) _ _ _ (by rfl) w7.heap.size noA (by rfl) (by rfl) _ _ (by exact H7.out) (by exact Tryz.sizeObj) (by rfl) (by simp [Value.oneCell', noA]) ?_)
         intro w8 b8 t8
         have hbb : Below w7.heap.size w7 w8 := t8.below hb8.out (Nat.le_refl _)
         have hs8 : w8.heap.size = w7.heap.size + 1 := t8.size.trans (World.size_alloc _ _)
         have hz8 := (hbb).size
         have HB8 := Lib.hid (HB7.out.trans ((hbb).mono HB7.out.size))
         have HA8 := Lib.hid (HA7.out.belowW (hbb))
         have HR8 := Lib.hid (HR7.out.belowW (hbb))
         have HO8 : Hid (OwnAt (ObjX (fun b => r < b ∧ b < w8.heap.size ∧ u12.ownBlock ≠ some b) w8) 10 w8 (r + 1) 30 u12 l1) := Lib.hid ((HO7.out.stay (fun _ _ _ _ h => h) fun b hb => (hbb).block b (HO7.out.at hb).2.1).imp' fun cs x _ hx => famObj.mono _ _ _ _ _ _ (fun b hb => ⟨hb.1, Nat.lt_of_lt_of_le hb.2.1 hz8, hb.2.2⟩) (famObj.agree _ _ _ _ _ _ (fun b hb => (hbb).block b hb.2.1) hx))
         clear HB7 HA7 HR7 HO7
         clear b8 t8 hbb H7 hb8
         go_wp2_with fail
         go_roundg cnt2
         case measure => exact hlt
         case rel => exact ⟨_, l1, HR8, HO8, HL8, HB8, HA8⟩
        ·have HL8 := Lib.hid (HG.out.more HNF.out hc Hlk.out)
         have hD9 : Hid (∀ b, D3 b → w6.heap.size ≤ b ∧ b < w7.heap.size) := Lib.hid hD
         have HOo := Lib.hid ho
         clear HG HNF hc hb7 ho hD
         obtain ⟨a1, c1, rfl, -, -⟩ := HOo.out.rowL.len
         obtain ⟨a2, c2, rfl, -, -⟩ := HOo.out.rowO.row.len
         obtain ⟨a3, c3, rfl, -, -⟩ := HOo.out.rowH.row.len
         obtain ⟨n1, Hn1⟩ : ∃ n, Hid (o.labels.length = n) := ⟨_, Lib.hid rfl⟩
         obtain ⟨n2, Hn2⟩ : ∃ n, Hid (o.owners.length = n) := ⟨_, Lib.hid rfl⟩
         obtain ⟨n3, Hn3⟩ : ∃ n, Hid (o.holds.length = n) := ⟨_, Lib.hid rfl⟩
         rw [Hn1.out, Hn2.out, Hn3.out] at HOo ⊢
         have H7 := Lib.hid (heap_alloc_new w7 (.cells noA 30))
         have hb8 := Lib.hid ((Below.refl w7.heap.size w7).alloc (Nat.le_refl _) (.cells noA 30))
         go_wp2_with (refine wpList_store_box (by rfl) _ _ _ (by rfl) w7.heap.size #[.string o.okey.kind, .string o.okey.space, .string o.okey.name, .slice a1 n1 c1, .slice a2 n2 c2, .slice a3 n3 c3, .bool o.ending, .string o.uid, .int .i64 o.rev, .string o.doc] (by rfl) (by rfl) _ _ (by exact H7.out) (by exact Tryz.sizeObj) (by rfl) (by simp [Value.oneCell']) ?_)
         intro w8 b8 t8
         have hbb : Below w7.heap.size w7 w8 := t8.below hb8.out (Nat.le_refl _)
         have hs8 : w8.heap.size = w7.heap.size + 1 := t8.size.trans (World.size_alloc _ _)
         have hz8 := (hbb).size
         have HB8 := Lib.hid (HB7.out.trans ((hbb).mono HB7.out.size))
         have HA8 := Lib.hid (HA7.out.belowW (hbb))
         have HR8 := Lib.hid (HR7.out.belowW (hbb))
         have HO8 : Hid (OwnAt (ObjX (fun b => r < b ∧ b < w8.heap.size ∧ u12.ownBlock ≠ some b) w8) 10 w8 (r + 1) 30 u12 l1) := Lib.hid ((HO7.out.stay (fun _ _ _ _ h => h) fun b hb => (hbb).block b (HO7.out.at hb).2.1).imp' fun cs x _ hx => famObj.mono _ _ _ _ _ _ (fun b hb => ⟨hb.1, Nat.lt_of_lt_of_le hb.2.1 hz8, hb.2.2⟩) (famObj.agree _ _ _ _ _ _ (fun b hb => (hbb).block b hb.2.1) hx))
         clear HB7 HA7 HR7 HO7
         have HOo8 := Lib.hid (HOo.out.agree fun b hb => hbb.block b (hD9.out b hb).2)
         obtain ⟨go, hgo⟩ : ∃ go, w7.heap.size = go := ⟨_, rfl⟩
         rw [hgo] at b8 ⊢
         have BO := Lib.hid b8
         have hgl : go < w8.heap.size := by omega
         clear b8 t8 hbb H7 hb8 HOo hgo
         have co := fun i => cell_block BO.out i
         obtain ⟨gl, hgz⟩ : ∃ gl, w8.heap.size = gl := ⟨_, rfl⟩
         obtain ⟨w9, hw9⟩ : ∃ w9, w9 = w8.alloc (.cells #[.string o.okey.kind, .string o.okey.space, .string o.okey.name, .slice a1 n1 c1, .slice a2 n2 c2, .slice a3 n3 c3, .bool o.ending, .string o.uid, .int .i64 o.rev, .string o.doc] 30) := ⟨_, rfl⟩
         have hb9 : Below w8.heap.size w8 w9 := by rw [hw9]; exact (Below.refl _ w8).alloc (Nat.le_refl _) _
         have hs9 : w9.heap.size = w8.heap.size + 1 := by rw [hw9, World.size_alloc]
         have HOo9 : Hid (ObjIn (fun b => r < b ∧ b < w9.heap.size ∧ u12.ownBlock ≠ some b) w9 (.slice a1 n1 c1) (.slice a2 n2 c2) (.slice a3 n3 c3) o) := Lib.hid ((HOo8.out.agree fun b hb => hb9.block b (by have := (hD9.out b hb).2; omega)).mono fun b hb => ⟨by have := (hD9.out b hb).1; have := HR8.out.lt; omega, by have := (hD9.out b hb).2; omega, fun e => by have := (HOL.out b e); have := (hD9.out b hb).1; omega⟩)
         have hz9 := (hb9).size
         have HB9 := Lib.hid (HB8.out.trans ((hb9).mono HB8.out.size))
         have HA9 := Lib.hid (HA8.out.belowW (hb9))
         have HR9 := Lib.hid (HR8.out.belowW (hb9))
         have HO9 : Hid (OwnAt (ObjX (fun b => r < b ∧ b < w9.heap.size ∧ u12.ownBlock ≠ some b) w9) 10 w9 (r + 1) 30 u12 l1) := Lib.hid ((HO8.out.stay (fun _ _ _ _ h => h) fun b hb => (hb9).block b (HO8.out.at hb).2.1).imp' fun cs x _ hx => famObj.mono _ _ _ _ _ _ (fun b hb => ⟨hb.1, Nat.lt_of_lt_of_le hb.2.1 hz9, hb.2.2⟩) (famObj.agree _ _ _ _ _ _ (fun b hb => (hb9).block b hb.2.1) hx))
         clear HB8 HA8 HR8 HO8
         have HRow : Hid (RowAt (ObjX (fun b => r < b ∧ b < w9.heap.size ∧ u12.ownBlock ≠ some b) w9) 10 w9 (.slice (some ⟨gl, 0, none⟩) 1 1) [o]) := Lib.hid (RowAt.one (R := ObjX (fun b => r < b ∧ b < w9.heap.size ∧ u12.ownBlock ≠ some b) w9) (k := 10) (cs := #[.string o.okey.kind, .string o.okey.space, .string o.okey.name, .slice a1 n1 c1, .slice a2 n2 c2, .slice a3 n3 c3, .bool o.ending, .string o.uid, .int .i64 o.rev, .string o.doc]) (x := o) (by rw [hw9, ← hgz]; exact heap_alloc_new w8 _) rfl ⟨_, _, _, rfl, HOo9.out⟩)
         have hbase : r + 1 ≤ w9.heap.size := by omega
         obtain ⟨i0, hi0, hy0, hy1, hy2⟩ := info_parts Tryz.infoObjL
         have hl1 := Hlen.out
         have hsl : w9.heap.size = gl + 1 := by omega
         have hgl9 : go < gl := by omega
         clear hs8 hs9 hb9
         go_wp2_with (at_builtin; rw [← hw9]; refine wpList_append_ownAt (R := ObjX (fun b => r < b ∧ b < w9.heap.size ∧ u12.ownBlock ≠ some b) w9) (k := 10) (e := 30) (B := r + 1) (l := l1) (m := [o]) _ (by rfl) _ _ _ (by rfl) i0 _ 168 Tryz.underlying45 hi0 hy0 hy1 hy2 rfl (by omega) (famObj.flat _ _) (famObj.one _ _) _ (by rfl) HO9.out _ (by rfl) HRow.out (by rw [List.length_singleton]; unfold maxLen; omega) (by rw [List.length_singleton]; omega) hbase ?_)
         intro v' w10 q1 q2 q3 q4
         rw [← hw9] at q1 q2
         rw [show gl + 1 = w9.heap.size from hsl.symm] at q4
         have hwl : w.heap.size ≤ w9.heap.size := by have := HB9.out.size; omega
         have HB10 := Lib.hid (HB9.out.grown q2 hwl fun b hb => by have := q3 b hb; omega)
         have HA10 : Hid (StoreAt D w10 g S) := Lib.hid (HA9.out.agree (fun b hb => q2.block b (HA9.out.low hb) fun e9 => by have := q3 b e9.symm; have := hdr.out b hb; omega) q2.size)
         have HR10 := Lib.hid (HR9.out.kept q2 (fun e9 => by have := q3 mb e9.symm; omega) (fun e9 => by have := q3 r e9.symm; omega))
         have HO10 : Hid (OwnAt (ObjX (fun b => r < b ∧ b < w10.heap.size ∧ v'.ownBlock ≠ some b) w10) 10 w10 (r + 1) 30 v' (l1 ++ [o])) := Lib.hid (OutX.appended (X := ObjX) (B := r + 1) (w := w9) (v := u12) famObj (by rw [← hsl] at q1; exact q1) q2 q4)
         clear q1 q2 q3 q4 HO9 HRow HB9 HA9 HR9 hw9 hgz
         go_wp2_with fail
         go_roundg cnt2
         case measure => exact hlt
         case rel => exact ⟨_, l1 ++ [o], HR10, HO10, HL8, HB10, HA10⟩
       | false =>
        have HNF : Hid (¬ fitsK kind space s) := Lib.hid fun h9 => by
         rcases h9.2 with h8 | h8
         ·rw [h8, Lib.toList_data] at eb; cases eb
         ·rw [h8, beq_self_eq_true] at sb; cases sb
        have HL6 := Lib.hid (HG.out.pass (k := s) (.inl HNF.out))
        clear HG HNF
        go_wp2_with fail
        go_roundg cnt2
        case measure => exact hlt
        case rel => exact ⟨_, l1, HR6, HO6, HL6, HB6, HA6⟩
  ·have q0 : (te != 0) = true := bne_iff_ne.2 hte
   have Hlt : Hid (ListTold S kind space rev []) := Lib.hid ⟨fun _ => rfl, fun h9 => absurd (by rw [← Hl.out, ← Hle.out]; exact h9) hte⟩
   clear hte
   go_wp2_with fail
   go_ret2
   exact ⟨HB.out, fun _ => False, nilS, [], by rw [Hl.out]; rfl, Hlt.out, OwnX.nil, fun b hb => hb.elim⟩
 ·have q0 : (R == 0) = false := by rw [beq_eq_false_iff_ne]; exact hR
  have q1 : (R != 0) = true := bne_iff_ne.2 hR
  have Hl : Hid (le = R) := Lib.hid (by rw [← Hle.out]; unfold listE; rw [HR.out, if_pos hR])
  have Hlt : Hid (ListTold S kind space rev []) := Lib.hid ⟨fun _ => rfl, fun h9 => absurd (by rw [← Hl.out, ← Hle.out]; exact h9) hR⟩
  clear hR
  go_wp2_with fail
  go_ret2
  exact ⟨HB.out, fun _ => False, nilS, [], by rw [Hl.out]; rfl, Hlt.out, OwnX.nil, fun b hb => hb.elim⟩
end Sto
end Go.Proofs.YtnnceaapodgfbaaGreatDoor
namespace Go.Proofs.YtnnceaapodgfbaaGreatDoor
namespace Sto
open Go.RowKit
theorem obj_cells9 {I : Dom} {w w' : World} {va : Option Addr} {vn vc : Nat} {vs : List GObject} (h : RowAt (ObjX I w) 10 w (.slice va vn vc) vs) (hn : vs.length = vn) (hb : Below w.heap.size w w') {m : Nat} {e : GObject} (he : vs[m]? = some e) :
  ∃ b o v1 v2 v3, va = some ⟨b, o, none⟩ ∧ ObjIn I w v1 v2 v3 e ∧ ∀ i u, (objCs e v1 v2 v3)[i]? = some u → w'.cell? ⟨b, o + m * 10 + i, none⟩ = some u := by
 have hm := (List.getElem?_eq_some_iff.1 he).1
 obtain ⟨b, o, c', hv, _, _, hbs, hcell⟩ := h.form (by omega) (by omega)
 injection hv with u1 u2 u3
 obtain ⟨ds, _, hcc, v1, v2, v3, rfl, hobj⟩ := hcell m e he
 exact ⟨b, o, v1, v2, v3, u1, hobj, fun i u hu => (hb.cell (p := ⟨b, _, none⟩) hbs).trans (hcc i u hu)⟩
theorem okObj_list9 {S : St} (h : OkSt S) {kind space : ByteArray} {l : List GEvent} {a : List GObject} (hl : ∀ e ∈ l, e ∈ S.log) (ha : IsList l kind space a) : ∀ o ∈ a, OkObj o := fun o ho => by
 obtain ⟨e, h1, h2⟩ := cur_mem9 ((ha.2 o).1 ho).2
 exact h2 ▸ h.obj e (hl e h1)
theorem list_ok {S : St} {v : GView} {p : Nat} (hv : viewE v = 0) (ht : timeE S p = 0) : listE S v.kind v.space p = 0 := by
 unfold viewE at hv
 have h1 := (says_eq_zero _ _).1 hv
 have h2 := (says_eq_zero _ _).1 h1.2
 have h3 : says (chk v.kind) (spaceE v.space) = 0 := (says_eq_zero _ _).2 ⟨h1.1, h2.1⟩
 unfold listE
 rw [h3, if_neg (by decide)]
 exact ht
theorem view_reqs {v : GView} (hv : viewE v = 0) : reqsE v.reqs = 0 := by
 unfold viewE at hv
 exact ((says_eq_zero _ _).1 ((says_eq_zero _ _).1 hv).2).2
theorem since_in {S : St} {p : Nat} (h : sinceE S p = 0) : p ≤ S.log.length := by
 unfold sinceE at h
 by_cases h1 : (p : Int) < 0 ∨ (S.rev : Int) < p
 ·rw [if_pos h1] at h; cases h
 ·unfold St.rev at h1; omega
set_option maxRecDepth 100000 in
set_option maxHeartbeats 6400000 in
theorem viewed_any {D : Dom} {w : World} {g : Nat} {S : St} (hst : StoreAt D w g S) (hS : OkSt S) (hL : GoodL S) {va : Value} {v : GView} (hr : RowAt ReqR 3 w va v.reqs) (hv : OkView v) (hve : viewE v = 0) (p : Nat) (hp : sinceE S p = 0) :
  Calls Tryz.prog 36 #[.pointer (some ⟨g, 0, none⟩), .agg #[.string v.kind, .string v.space, va], .int .i64 (p : Int)] w fun e w' => ∃ gn E f, e = .returned (.map (some gn)) ∧ MapK keyC w' gn p f ∧ AllM E w' f (curV v (S.log.take p)) ∧ (∀ b, E b → w.heap.size ≤ b ∧ b < w'.heap.size ∧ b ≠ gn) ∧ w.heap.size ≤ gn ∧ Below w.heap.size w w' := by
 obtain ⟨ar, cr, rfl, -, -⟩ := hr.len
 obtain ⟨nr, Hnr⟩ : ∃ n, Hid (v.reqs.length = n) := ⟨_, Lib.hid rfl⟩
 rw [Hnr.out] at hr ⊢
 have hnr := hv.reqs.1
 rw [Hnr.out] at hnr
 have HR := Lib.hid hr
 have HA : Hid (StoreAt D w g S) := Lib.hid hst
 have HS := Lib.hid hS
 have HV := Lib.hid hv
 have HVe := Lib.hid hve
 have HGL := Lib.hid hL
 have hpl : p ≤ S.log.length := since_in hp
 have HP := Lib.hid hp
 have hrev : p ≤ 4194304 := Nat.le_trans hpl hS.rev
 have Hpl := Lib.hid hpl
 obtain ⟨W, hW⟩ : ∃ W, W = w.alloc (.cells #[.string v.kind, .string v.space, .slice ar nr cr] 80) := ⟨_, rfl⟩
 obtain ⟨gv, hgv⟩ : ∃ g, g = w.heap.size := ⟨_, rfl⟩
 have BV0 := Lib.hid (show W.heap[gv]? = some (.cells #[.string v.kind, .string v.space, .slice ar nr cr] 80 (0, 0)) by rw [hW, hgv]; exact heap_alloc_new w _)
 have hb1 : Below w.heap.size w W := by rw [hW]; exact (Below.refl _ w).alloc (Nat.le_refl _) _
 have hs1 : W.heap.size = w.heap.size + 1 := by rw [hW, World.size_alloc]
 obtain ⟨w3, hw3⟩ : ∃ w3, w3 = W.alloc (.map #[] 0) := ⟨_, rfl⟩
 obtain ⟨gm, hgm⟩ : ∃ g, g = w.heap.size + 1 := ⟨_, rfl⟩
 have hb3 : Below W.heap.size W w3 := by rw [hw3]; exact (Below.refl _ W).alloc (Nat.le_refl _) _
 have hs3 : w3.heap.size = W.heap.size + 1 := by rw [hw3, World.size_alloc]
 have HB3 := Lib.hid (hb1.trans (hb3.mono hb1.size))
 have BV3 := Lib.hid (below_block hb3 BV0.out)
 have MK3 : Hid (MapK keyC w3 gm 0 fun _ => none) := Lib.hid (by rw [hw3, hgm, ← hs1]; exact mapK_made keyC W)
 have hwm : w.heap.size ≤ gm := by omega
 have hwv : w.heap.size ≤ gv := by omega
 have hm3 : gm < w3.heap.size := by omega
 have hvm : gv < gm := by omega
 have hmm := @run_makeMap Tryz.prog
 clear hst hS hr hv hve hp hpl hL
 go_enter Tryz.func36, Tryz.ntmps36
 go_upto_region 2 with fail
 rw [← hW, ← hgm, ← hw3]
 try rw [← hgv]
 clear hW hgv hgm hw3 hb1 hs1 hb3 hs3 BV0 hmm
 by_cases hp0 : p = 0
 ·subst hp0
  have MK9 := Lib.hid (show MapK keyC w3 gm 0 fun _ => none from MK3.out)
  have HN9 : Hid (AllM (fun _ => False) w3 (fun _ => none) (curV v (S.log.take 0))) := Lib.hid (by rw [List.take_zero, curV_nil]; exact AllM.nil)
  clear MK3
  go_wp2_with fail
  go_ret
  exact ⟨gm, _, _, rfl, MK9.out, HN9.out, fun b hb => hb.elim, hwm, HB3.out⟩
 ·have q0 : ((p : Int) == 0) = false := by rw [beq_eq_false_iff_ne]; omega
  have hp1 : 0 < p := by omega
  obtain ⟨t1, t2⟩ := list_since HP.out hp1
  have hle := list_ok HVe.out t1
  have HX := Lib.hid (list_any (StoreAt.belowW HA.out HB3.out) HS.out v.kind v.space HV.out.kind HV.out.space (p : Int))
  rw [hle] at HX
  have T1 := Lib.hid t2
  have HLe := Lib.hid hle
  have cv := fun i => cell_block BV3.out i
  clear hp0 t1 t2 hle hp1
  go_wp2_with fail
  refine HX.out.mono ?_
  rintro E9 w4 ⟨hb4, E, vl, A, rfl, hT, k2, k3⟩
  have HIL : Hid (IsList (S.log.take p) v.kind v.space A) := Lib.hid (by have h9 := hT.2 HLe.out; rw [T1.out] at h9; exact h9)
  have hnA9 : A.length ≤ p := list_len HS.out.good Hpl.out HIL.out
  have okA : Hid (∀ o ∈ A, OkObj o) := Lib.hid (okObj_list9 HS.out (fun e he => List.mem_of_mem_take he) HIL.out)
  have HF : Hid (listM (fun o => fitsL v.reqs o.labels) A = curV v (S.log.take p)) := Lib.hid (listM_curV HIL.out _ fun o ho => by
   obtain ⟨e, h1, h2⟩ := cur_mem9 ((HIL.out.2 o).1 ho).2
   exact fits_match (view_reqs HVe.out) (h2 ▸ HGL.out e (List.mem_of_mem_take h1)))
  obtain ⟨aA, cA, rfl, -, -⟩ := k2.own.row.len
  obtain ⟨nA, HnA⟩ : ∃ n, Hid (A.length = n) := ⟨_, Lib.hid rfl⟩
  rw [HnA.out] at k2 hnA9 ⊢
  have RA0 := Lib.hid k2
  have HE : Hid (∀ b, E b → w3.heap.size ≤ b ∧ b < w4.heap.size) := Lib.hid k3
  have HB4 := Lib.hid (HB3.out.trans (hb4.mono HB3.out.size))
  have BV4 := Lib.hid (below_block hb4 BV3.out)
  have MK4 := Lib.hid (MK3.out.belowW hb4)
  have AM4 : Hid (AllM E w4 (fun _ => none) (listM (fun o => fitsL v.reqs o.labels) (A.take 0))) := Lib.hid (by rw [List.take_zero]; exact AllM.nil)
  have HE4 : Hid (∀ b, E b → b < w4.heap.size) := Lib.hid fun b hb => (k3 b hb).2
  clear hT k2 k3 hb4 HX HIL HB3 BV3 MK3 HLe cv
  go_wp2_with fail
  go_loopg [28] nA (fun k u28 wr => ∃ (i : Nat) (f : GKey → Option Value), i + k = nA ∧ u28 = .int .i64 (i : Int) ∧ Hid (MapK keyC wr gm i f) ∧ Hid (AllM E wr f (listM (fun o => fitsL v.reqs o.labels) (A.take i))) ∧ Hid (Below w.heap.size w wr) ∧ Hid (wr.heap[gv]? = some (.cells #[.string v.kind, .string v.space, .slice ar nr cr] 80 (0, 0))) ∧ Hid (OwnX ObjX 10 E wr 30 (.slice aA nA cA) A) ∧ Hid (∀ b, E b → b < wr.heap.size))
  case atStart => exact ⟨0, _, by omega, rfl, MK4, AM4, HB4, BV4, RA0, HE4⟩
  case round =>
   clear MK4 AM4 HB4 BV4 RA0 HE4
   obtain ⟨i, f, hik, rfl, MK, AM, HB, BV, RA, HEr⟩ := hrel
   cases gk with
   | zero =>
    obtain rfl : nA = i := by omega
    have AM9 : Hid (AllM E wr f (curV v (S.log.take p))) := Lib.hid (by rw [← HF.out]; have h9 := AM.out; rw [← HnA.out, List.take_length] at h9; exact h9)
    have MK9 := Lib.hid (MK.out.mono hnA9)
    clear AM MK
    go_wp2_with fail
    go_ret
    exact ⟨gm, E, f, rfl, MK9.out, AM9.out, fun b hb => ⟨by have := (HE.out b hb).1; omega, HEr.out b hb, by have := (HE.out b hb).1; omega⟩, hwm, HB.out⟩
   | succ k =>
    have hil : i < nA := by omega
    obtain ⟨x, hx⟩ : ∃ x, A[i]? = some x := ⟨A[i]'(by rw [HnA.out]; exact hil), List.getElem?_eq_getElem _⟩
    obtain ⟨bA, oA, v1, v2, v3, hva, hobj, ec⟩ := obj_cells9 RA.out.own.row HnA.out (Below.refl _ _) hx
    subst hva
    obtain ⟨a7, c7, rfl, -, -⟩ := hobj.rowL.len
    obtain ⟨a8, c8, rfl, -, -⟩ := hobj.rowO.row.len
    obtain ⟨a9, c9, rfl, -, -⟩ := hobj.rowH.row.len
    obtain ⟨n7, Hn7⟩ : ∃ n, Hid (x.labels.length = n) := ⟨_, Lib.hid rfl⟩
    obtain ⟨n8, Hn8⟩ : ∃ n, Hid (x.owners.length = n) := ⟨_, Lib.hid rfl⟩
    obtain ⟨n9, Hn9⟩ : ∃ n, Hid (x.holds.length = n) := ⟨_, Lib.hid rfl⟩
    rw [Hn7.out, Hn8.out, Hn9.out] at hobj ec
    have f0 := ec 0 _ rfl
    have f1 := ec 1 _ rfl
    have f2 := ec 2 _ rfl
    have f3 := ec 3 _ rfl
    have f4 := ec 4 _ rfl
    have f5 := ec 5 _ rfl
    have f6 := ec 6 _ rfl
    have f7 := ec 7 _ rfl
    have f8 := ec 8 _ rfl
    have f9 := ec 9 _ rfl
    rw [Nat.add_zero] at f0
    have q1 : (0 : Int) ≤ (i : Int) := by omega
    have q2 : (i : Int) < (nA : Int) := by omega
    have Hx := Lib.hid hx
    have Hok : Hid (OkObj x) := Lib.hid (okA.out x (List.mem_of_getElem? hx))
    have Hkey : Hid (okKey x.okey) := Lib.hid ⟨Nat.le_trans Hok.out.kind (by decide), Nat.le_trans Hok.out.space (by decide), Nat.le_trans Hok.out.name (by decide)⟩
    have H7 := Lib.hid (heap_alloc_new wr (.cells noA 30))
    have hb4 := Lib.hid ((Below.refl wr.heap.size wr).alloc (Nat.le_refl _) (.cells noA 30))
    have hs4 := Lib.hid (World.size_alloc wr (.cells noA 30))
    have Hobj0 := Lib.hid hobj
    clear hx ec hobj
    go_wp2_with (refine wpList_store_box (by rfl) _ _ _ (by rfl) wr.heap.size #[.string x.okey.kind, .string x.okey.space, .string x.okey.name, .slice a7 n7 c7, .slice a8 n8 c8, .slice a9 n9 c9, .bool x.ending, .string x.uid, .int .i64 x.rev, .string x.doc] (by rfl) (by rfl) _ _ (by exact H7.out) (by exact Tryz.sizeObj) (by rfl) (by simp [Value.oneCell']) ?_)
    intro w5 b5 t5
    have hb5 : Below wr.heap.size wr w5 := t5.below hb4.out (Nat.le_refl _)
    obtain ⟨gx, hgx⟩ : ∃ g, wr.heap.size = g := ⟨_, rfl⟩
    have hmx : gm < gx := by have := MK.out.lt; omega
    have hvx : gv < gx := by have := lt_of_some BV.out; omega
    rw [hgx] at b5 ⊢
    have BX5 := Lib.hid b5
    have BV5 := Lib.hid (below_block hb5 BV.out)
    have MK5 := Lib.hid (MK.out.belowW hb5)
    have AM5 := Lib.hid (AM.out.agree fun b hb => hb5.block b (HEr.out b hb))
    have RA5 := Lib.hid (RA.out.agree famObj fun b hb => hb5.block b (HEr.out b hb))
    have Hobj5 := Lib.hid (Hobj0.out.agree fun b hb => hb5.block b (HEr.out b hb))
    have HE5 : Hid (∀ b, E b → b < w5.heap.size) := Lib.hid fun b hb => Nat.lt_of_lt_of_le (HEr.out b hb) hb5.size
    have HB5 := Lib.hid (HB.out.trans (hb5.mono HB.out.size))
    clear b5 t5 hb5 hb4 hs4 H7 HB BV MK AM RA HEr Hobj0 f0 f1 f2 f3 f4 f5 f6 f7 f8 f9 hgx
    obtain ⟨fb, Hfb⟩ : ∃ y, Hid (fitsL v.reqs x.labels = y) := ⟨_, Lib.hid rfl⟩
    have HC : Hid (Calls Tryz.prog 80 #[.slice ar nr cr, .slice a7 n7 c7] w5 fun e w' => e = .returned (.bool fb) ∧ Below w5.heap.size w5 w') := Lib.hid (by
     rw [← Hfb.out]
     exact fits_any (.slice ar nr cr) (.slice a7 n7 c7) v.reqs x.labels w5 (HR.out.below stays_req HB5.out) HV.out.reqs.1 HV.out.reqs.2 Hobj5.out.rowL Hok.out.labels.1)
    have cv := fun i => cell_block BV5.out i
    have cx := fun i => cell_block BX5.out i
    have HLs : Hid (listM (fun o => fitsL v.reqs o.labels) (A.take (i + 1)) = if fb = true then (fun k => if k = x.okey then some x else listM (fun o => fitsL v.reqs o.labels) (A.take i) k) else listM (fun o => fitsL v.reqs o.labels) (A.take i)) := Lib.hid (by
     rw [take_snoc Hx.out, listM_snoc, Hfb.out])
    go_wp2_with fail
    refine HC.out.mono ?_
    rintro E8 w6 ⟨rfl, hb6⟩
    have BX6 := Lib.hid (below_block hb6 BX5.out)
    have BV6 := Lib.hid (below_block hb6 BV5.out)
    have MK6 := Lib.hid (MK5.out.belowW hb6)
    have AM6 := Lib.hid (AM5.out.agree fun b hb => hb6.block b (HE5.out b hb))
    have RA6 := Lib.hid (RA5.out.agree famObj fun b hb => hb6.block b (HE5.out b hb))
    have Hobj6 := Lib.hid (Hobj5.out.agree fun b hb => hb6.block b (HE5.out b hb))
    have HE6 : Hid (∀ b, E b → b < w6.heap.size) := Lib.hid fun b hb => Nat.lt_of_lt_of_le (HE5.out b hb) hb6.size
    have HB6 := Lib.hid (HB5.out.trans (hb6.mono HB5.out.size))
    clear hb6 HC cv cx BX5 BV5 MK5 AM5 RA5 Hobj5 HE5 HB5 Hfb
    cases fb with
    | false =>
     have AM9 : Hid (AllM E w6 f (listM (fun o => fitsL v.reqs o.labels) (A.take (i + 1)))) := Lib.hid (by rw [HLs.out, if_neg (by decide)]; exact AM6.out)
     have MK9 := Lib.hid (MK6.out.mono (Nat.le_succ i))
     clear HLs AM6 MK6
     go_wp2_with fail
     go_roundg k
     case measure => omega
     case rel => exact ⟨i + 1, f, by omega, by go_num, MK9, AM9, HB6, BV6, RA6, HE6⟩
    | true =>
     have cx := fun i => cell_block BX6.out i
     obtain ⟨w7, hrun, hm7, ht7⟩ := MapK.store MK6.out Tryz.underlying54 (Nat.lt_of_le_of_lt (by omega : i ≤ 4194304) (by decide)) x.okey Hkey.out (objW x (.slice a7 n7 c7) (.slice a8 n8 c8) (.slice a9 n9 c9))
     rw [show keyC.val x.okey = .agg #[.string x.okey.kind, .string x.okey.space, .string x.okey.name] from rfl, show objW x (.slice a7 n7 c7) (.slice a8 n8 c8) (.slice a9 n9 c9) = .agg #[.string x.okey.kind, .string x.okey.space, .string x.okey.name, .slice a7 n7 c7, .slice a8 n8 c8, .slice a9 n9 c9, .bool x.ending, .string x.uid, .int .i64 x.rev, .string x.doc] from rfl] at hrun
     go_upto_region 10 with fail
     have hO : Only (fun b => b = gm) w6 w7 := Only.turned ht7 rfl
     have hEm : ∀ b, E b → b ≠ gm := fun b hb => by have := (HE.out b hb).1; omega
     have MK9 := Lib.hid hm7
     have AM9 : Hid (AllM E w7 (updK f x.okey (objW x (.slice a7 n7 c7) (.slice a8 n8 c8) (.slice a9 n9 c9))) (listM (fun o => fitsL v.reqs o.labels) (A.take (i + 1)))) := Lib.hid (by
      rw [HLs.out, if_pos trivial]
      exact (AllM.set AM6.out Hobj6.out).agree fun b hb => hO.block b (HE6.out b hb) (hEm b hb))
     have BV9 := Lib.hid ((hO.block gv (lt_of_some BV6.out) (by omega)).trans BV6.out)
     have RA9 := Lib.hid (RA6.out.agree famObj fun b hb => hO.block b (HE6.out b hb) (hEm b hb))
     have HE9 : Hid (∀ b, E b → b < w7.heap.size) := Lib.hid fun b hb => Nat.lt_of_lt_of_le (HE6.out b hb) hO.size
     have HB9 := Lib.hid (HB6.out.trans (hO.below (B := w.heap.size) (fun b hb => by have h8 : b = gm := hb; omega) HB6.out.size))
     clear hrun hm7 ht7 hO HLs AM6 MK6 cx BX6 BV6 RA6 Hobj6 HE6 HB6
     go_wp2_with fail
     go_roundg k
     case measure => omega
     case rel => exact ⟨i + 1, _, by omega, by go_num, MK9, AM9, HB9, BV9, RA9, HE9⟩
end Sto
end Go.Proofs.YtnnceaapodgfbaaGreatDoor
