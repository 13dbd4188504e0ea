/- The walk of seal.state.block: 64 bytes taken in. -/
import Derived.Test.YteadfpbkhledlaaShaSmall
import Derived.Test.YteadfpbkhledlaaMix
namespace Go.Proofs.Yteadfpbkhledlaa
open Go.RowKit

def u32c (l : List Int) : Array Value := (l.map (Value.int .u32)).toArray
theorem u32c_size (l : List Int) : (u32c l).size = l.length := by simp [u32c]
theorem u32c_get (l : List Int) (j : Nat) (h : j < l.length) : (u32c l)[j]? = some (.int .u32 (l.getD j 0)) := by simp [u32c, h]
theorem u32c_set (l : List Int) (j : Nat) (x : Int) : (u32c l).setIfInBounds j (.int .u32 x) = u32c (l.set j x) := by simp [u32c, List.map_set]
theorem u32c_one (l : List Int) : (u32c l).all (·.oneCell') = true := by
  rw [Array.all_eq_true_iff_forall_mem]; intro x hx; simp [u32c] at hx; obtain ⟨a, _, rfl⟩ := hx; rfl

/-- block g of world w is just these 32-bit numbers -/
def Is32 (w : World) (g : Nat) (t : TypeId) (l : List Int) : Prop := w.heap[g]? = some (.cells (u32c l) t (0, 0))
theorem Is32.cell {w : World} {g : Nat} {t : TypeId} {l : List Int} (h : Is32 w g t l) {j : Nat} (hj : j < l.length) : w.cell? ⟨g, j, none⟩ = some (.int .u32 (l.getD j 0)) := by
  rw [cell_of_row w g j _ t (0, 0) h, u32c_get l j hj]
theorem Is32.frozen {w : World} {g : Nat} {t : TypeId} {l : List Int} (h : Is32 w g t l) (j : Nat) : w.frozen? ⟨g, j, none⟩ = false := frozen_of_row w g j _ t h
theorem Is32.lt {w : World} {g : Nat} {t : TypeId} {l : List Int} (h : Is32 w g t l) : g < w.heap.size := by
  rcases Nat.lt_or_ge g w.heap.size with hlt | hge
  · exact hlt
  · unfold Is32 at h; rw [Array.getElem?_eq_none hge] at h; cases h
theorem Is32.drew {w : World} {g : Nat} {t : TypeId} {l : List Int} (h : Is32 w g t l) : Is32 w.drew g t l := h
theorem Is32.alloc {w : World} {g : Nat} {t : TypeId} {l : List Int} (h : Is32 w g t l) (o : Obj) : Is32 (w.alloc o) g t l := (Below.heap_alloc w o g h.lt).trans h
theorem Is32.set {w : World} {g : Nat} {t : TypeId} {l : List Int} (h : Is32 w g t l) (j : Nat) (x : Int) : Is32 (w.setCell ⟨g, j, none⟩ (.int .u32 x)) g t (l.set j x) := by
  unfold Is32
  rw [heap_setCell_same w g j _ t _ h, u32c_set]
theorem Is32.far {w : World} {g : Nat} {t : TypeId} {l : List Int} (h : Is32 w g t l) {p : Addr} (hp : g ≠ p.block) (x : Value) : Is32 (w.setCell p x) g t l := (heap_setCell_other w p g x hp).trans h
theorem Is32.below {w w' : World} {g B : Nat} {t : TypeId} {l : List Int} (h : Is32 w g t l) (hb : Below B w w') (hg : g < B) : Is32 w' g t l := (hb.block g hg).trans h
theorem Is32.row {w : World} {g : Nat} {t : TypeId} {l l' : List Int} (h : Is32 w g t l) : Is32 (w.setRow g (u32c l')) g t l' := setRow_heap _ _ _ _ _ _ h
theorem Is32.rowFar {w : World} {g g' : Nat} {t : TypeId} {l : List Int} {cs : Array Value} (h : Is32 w g t l) (hg : g ≠ g') : Is32 (w.setRow g' cs) g t l := (setRow_other w g' g cs hg).trans h


theorem run_index_u32 {P : Program} (w : World) (t e : TypeId) (i : TypeInfo) (l : List Int) (ht : P.underlying t = some (.array l.length e)) (he : P.underlying e = some (.int .u32)) (hi : P.info? e = some i) (hs : i.size = 1) (k : Nat) (hk : k < l.length) :
    (Instr.index t (.agg (u32c l)) (.int .i64 (k : Int))).run P w = .ok (.int .u32 (l.getD k 0)) w := by
  have h1 : (0 : Int) ≤ k ∧ (k : Int) < l.length := by omega
  have hg := u32c_get l k hk
  simp [Instr.index, part, asIntOf, run_underlying ht, run_underlying he, isAgg, sizeOf, typeInfo, hi, hs, h1, hg, hk]

/-! the functions that the walk comes to -/
def beF (bs : List UInt8) (k : Nat) : Int :=
  bits .or .u32 (bits .or .u32 (bits .or .u32 (IntKind.u32.wrap (IntKind.u32.wrap (bs[4 * k]?.getD 0).toNat * 16777216)) (IntKind.u32.wrap (IntKind.u32.wrap (bs[4 * k + 1]?.getD 0).toNat * 65536)))
    (IntKind.u32.wrap (IntKind.u32.wrap (bs[4 * k + 2]?.getD 0).toNat * 256))) (IntKind.u32.wrap (bs[4 * k + 3]?.getD 0).toNat)
def w1F (bs : List UInt8) : Nat → List Int
  | 0 => List.replicate 64 0
  | k + 1 => (w1F bs k).set k (beF bs k)
def s0F (x : Int) : Int := bits .xor .u32 (bits .xor .u32 (rot 7 x) (rot 18 x)) (x / 8)
def s1F (y : Int) : Int := bits .xor .u32 (bits .xor .u32 (rot 17 y) (rot 19 y)) (y / 1024)
def mixF (W : List Int) (i : Nat) : Int :=
  (W[i - 16]?.getD 0 + s0F (W[i - 15]?.getD 0) + W[i - 7]?.getD 0 + s1F (W[i - 2]?.getD 0)) % 4294967296
def w2F (bs : List UInt8) : Nat → List Int
  | 0 => w1F bs 16
  | k + 1 => (w2F bs k).set (16 + k) (mixF (w2F bs k) (16 + k))
def t1F (v : List Int) (kk wk : Int) : Int :=
  v[7]?.getD 0 + bits .xor .u32 (bits .xor .u32 (rot 6 (v[4]?.getD 0)) (rot 11 (v[4]?.getD 0))) (rot 25 (v[4]?.getD 0)) +
    bits .xor .u32 (bits .and .u32 (v[4]?.getD 0) (v[5]?.getD 0)) (bits .and .u32 (bits .xor .u32 IntKind.u32.max (v[4]?.getD 0)) (v[6]?.getD 0)) + kk + wk
def t2F (v : List Int) : Int :=
  bits .xor .u32 (bits .xor .u32 (rot 2 (v[0]?.getD 0)) (rot 13 (v[0]?.getD 0))) (rot 22 (v[0]?.getD 0)) +
    bits .xor .u32 (bits .xor .u32 (bits .and .u32 (v[0]?.getD 0) (v[1]?.getD 0)) (bits .and .u32 (v[0]?.getD 0) (v[2]?.getD 0))) (bits .and .u32 (v[1]?.getD 0) (v[2]?.getD 0))
def roundF (v : List Int) (kk wk : Int) : List Int :=
  [(t1F v kk wk + t2F v) % 4294967296, v[0]?.getD 0, v[1]?.getD 0, v[2]?.getD 0, (v[3]?.getD 0 + t1F v kk wk) % 4294967296, v[4]?.getD 0, v[5]?.getD 0, v[6]?.getD 0]
def roundsF (h W : List Int) : Nat → List Int
  | 0 => h
  | k + 1 => roundF (roundsF h W k) (kNums[k]?.getD 0) (W[k]?.getD 0)
def sumF (h v : List Int) : Nat → List Int
  | 0 => h
  | k + 1 => (sumF h v k).set k (((sumF h v k)[k]?.getD 0 + v[k]?.getD 0) % 4294967296)
def blockF (h : List Int) (bs : List UInt8) : List Int := sumF h (roundsF h (w2F bs 48) 64) 8
theorem sumF_length (h v : List Int) (k : Nat) : (sumF h v k).length = h.length := by induction k with | zero => rfl | succ k ih => simp [sumF, ih]
theorem roundsF_length (h W : List Int) (hh : h.length = 8) (k : Nat) : (roundsF h W k).length = 8 := by cases k with | zero => exact hh | succ k => rfl
theorem blockF_length (h : List Int) (bs : List UInt8) : (blockF h bs).length = h.length := sumF_length _ _ _
theorem kTab_eq : kTab = u32c kNums := by rfl
theorem kNums_length : kNums.length = 64 := by rfl
theorem Try.infoU32 : (Try.prog.info? 88).map (fun i => (i.zero, i.size, i.bytes)) = some (some (.int .u32 0), 1, 4) := by kernel_rfl
theorem index_kTab (w : World) (k : Nat) (hk : k < 64) : (Instr.index 127 (.agg kTab) (.int .i64 (k : Int))).run Try.prog w = .ok (.int .u32 (kNums[k]?.getD 0)) w := by
  obtain ⟨i0, hi0, hz0, hz1, hz2⟩ := info_parts Try.infoU32
  rw [kTab_eq]
  exact run_index_u32 w _ 88 i0 kNums (by rw [kNums_length]; exact Try.underlying127) Try.underlying88 hi0 hz1 k (by rw [kNums_length]; exact hk)
theorem w1F_length (bs : List UInt8) (k : Nat) : (w1F bs k).length = 64 := by induction k with | zero => rfl | succ k ih => simp [w1F, ih]
theorem w2F_length (bs : List UInt8) (k : Nat) : (w2F bs k).length = 64 := by induction k with | zero => exact w1F_length bs 16 | succ k ih => simp [w2F, ih]
theorem w2F_succ (bs : List UInt8) (n : Nat) (h : 16 ≤ n) : w2F bs (n + 1 - 16) = (w2F bs (n - 16)).set n (mixF (w2F bs (n - 16)) n) := by
  obtain ⟨k, rfl⟩ : ∃ k, n = 16 + k := ⟨n - 16, by omega⟩
  rw [show 16 + k + 1 - 16 = k + 1 by omega, show 16 + k - 16 = k by omega]; rfl

set_option maxRecDepth 100000 in
set_option maxHeartbeats 6400000 in
theorem block_any (hst : List Int) (hh : hst.length = 8) (g off cap : Nat) (bs : List UInt8) (w : World) (hg : g < w.heap.size)
    (hc : ∀ j, j < 64 → w.cell? ⟨g, off + j, none⟩ = some (.int .u8 ((bs.getD j 0).toNat : Int))) :
    Calls Try.prog 47 #[.agg (u32c hst), .slice (some ⟨g, off, none⟩) 64 cap] w fun e w' => e = .returned (.agg (u32c (blockF hst bs))) ∧ Below w.heap.size w w' := by
  have HC := Lib.hid hc
  clear hc
  go_enter Try.func47, Try.ntmps47
  go_wp2_with fail
  go_loopw [24] (fun i wr => ∃ k : Nat, k ≤ 16 ∧ i = .int .i64 k ∧ Below w.heap.size w wr ∧ Is32 wr w.heap.size 90 hst ∧ Is32 wr (w.heap.size + 1) 90 (List.replicate 8 0) ∧ Is32 wr (w.heap.size + 1 + 1) 127 (w1F bs k)) (fun i _ => 16 - (intOf i).toNat)
  case atStart =>
    refine ⟨0, Nat.zero_le _, rfl, (((Below.refl _ _).alloc (Nat.le_refl _) _).alloc (by simp) _).alloc (by simp; omega) _, Is32.alloc (Is32.alloc (heap_alloc_new w _) _) _, Is32.alloc ?_ _, ?_⟩
    · have := heap_alloc_new (w.alloc (.cells (u32c hst) 90)) (.cells (u32c (List.replicate 8 0)) 90)
      rw [World.size_alloc] at this
      exact this
    · have := heap_alloc_new ((w.alloc (.cells (u32c hst) 90)).alloc (.cells (u32c (List.replicate 8 0)) 90)) (.cells (u32c (List.replicate 64 0)) 127)
      rw [World.size_alloc, World.size_alloc] at this
      exact this
  case round =>
    obtain ⟨k, hk, rfl, hbw, hI0, hI1, hIW⟩ := hrel
    by_cases hlt : k < 16
    · have g0 : (0 : Int) ≤ (k : Int) := by omega
      have g1 : (k : Int) < 16 := by omega
      have q0 : (0 : Int) ≤ 4 * (k : Int) := by omega
      have q1 : 4 * (k : Int) < 64 := by omega
      have q2 : (0 : Int) ≤ 4 * (k : Int) + 1 := by omega
      have q3 : 4 * (k : Int) + 1 < 64 := by omega
      have q4 : (0 : Int) ≤ 4 * (k : Int) + 2 := by omega
      have q5 : 4 * (k : Int) + 2 < 64 := by omega
      have q6 : (0 : Int) ≤ 4 * (k : Int) + 3 := by omega
      have q7 : 4 * (k : Int) + 3 < 64 := by omega
      have q8 : (k : Int) < 64 := by omega
      have r0 : IntKind.i64.wrap (4 * (k : Int)) = 4 * (k : Int) := IntWalk.i64_in _ (by omega)
      have r1 : IntKind.i64.wrap (4 * (k : Int) + 1) = 4 * (k : Int) + 1 := IntWalk.i64_in _ (by omega)
      have r2 : IntKind.i64.wrap (4 * (k : Int) + 2) = 4 * (k : Int) + 2 := IntWalk.i64_in _ (by omega)
      have r3 : IntKind.i64.wrap (4 * (k : Int) + 3) = 4 * (k : Int) + 3 := IntWalk.i64_in _ (by omega)
      have t0 : (4 * (k : Int)).toNat = 4 * k := by omega
      have t1 : (4 * (k : Int) + 1).toNat = 4 * k + 1 := by omega
      have t2 : (4 * (k : Int) + 2).toNat = 4 * k + 2 := by omega
      have t3 : (4 * (k : Int) + 3).toNat = 4 * k + 3 := by omega
      have e0 : wr.cell? ⟨g, off + 4 * k, none⟩ = some (.int .u8 ((bs.getD (4 * k) 0).toNat : Int)) := (hbw.cell (p := ⟨g, off + 4 * k, none⟩) hg).trans (HC.out (4 * k) (by omega))
      have e1 : wr.cell? ⟨g, off + (4 * k + 1), none⟩ = some (.int .u8 ((bs.getD (4 * k + 1) 0).toNat : Int)) := (hbw.cell (p := ⟨g, off + (4 * k + 1), none⟩) hg).trans (HC.out (4 * k + 1) (by omega))
      have e2 : wr.cell? ⟨g, off + (4 * k + 2), none⟩ = some (.int .u8 ((bs.getD (4 * k + 2) 0).toNat : Int)) := (hbw.cell (p := ⟨g, off + (4 * k + 2), none⟩) hg).trans (HC.out (4 * k + 2) (by omega))
      have e3 : wr.cell? ⟨g, off + (4 * k + 3), none⟩ = some (.int .u8 ((bs.getD (4 * k + 3) 0).toNat : Int)) := (hbw.cell (p := ⟨g, off + (4 * k + 3), none⟩) hg).trans (HC.out (4 * k + 3) (by omega))
      have ew : wr.cell? ⟨w.heap.size + 1 + 1, k, none⟩ = some (.int .u32 ((w1F bs k).getD k 0)) := hIW.cell (by rw [w1F_length]; omega)
      have fw : wr.frozen? ⟨w.heap.size + 1 + 1, k, none⟩ = false := hIW.frozen k
      go_wp2_with fail
      go_still_tail 35, (by kernel_rfl)
      change wpList _ _ _ _ _ wr.drew
      clear e0 e1 e2 e3 q0 q1 q2 q3 q4 q5 q6 q7 r0 r1 r2 r3 t0 t1 t2 t3
      go_wp2_with fail
      have hI0' := (hI0.far (p := ⟨w.heap.size + 1 + 1, k, none⟩) (by show _ ≠ _; simp; omega) (.int .u32 (beF bs k)))
      have hI1' := (hI1.far (p := ⟨w.heap.size + 1 + 1, k, none⟩) (by show _ ≠ _; simp) (.int .u32 (beF bs k)))
      have hIW' := hIW.set k (beF bs k)
      have hbw' := hbw.setCell (p := ⟨w.heap.size + 1 + 1, k, none⟩) (by show _ ≤ w.heap.size + 1 + 1; omega) (.int .u32 (beF bs k))
      clear hI0 hI1 hIW hbw ew fw
      go_roundw
      case rel => exact ⟨k + 1, by omega, by go_num, hbw'.drew, hI0'.drew, hI1'.drew, hIW'.drew⟩
      case measure => simp [intOf]; omega
    · have hk16 : k = 16 := by omega
      subst hk16
      clear hk hlt
      go_wp2_with fail
      obtain ⟨wo, rfl⟩ : ∃ wo : World, wo = wr := ⟨_, rfl⟩
      go_loopw [7] (fun i wr => ∃ n : Nat, 16 ≤ n ∧ n ≤ 64 ∧ i = .int .i64 n ∧ Below w.heap.size w wr ∧ Is32 wr w.heap.size 90 hst ∧ Is32 wr (w.heap.size + 1) 90 (List.replicate 8 0) ∧ Is32 wr (w.heap.size + 1 + 1) 127 (w2F bs (n - 16))) (fun i _ => 64 - (intOf i).toNat)
      case atStart => exact ⟨16, by omega, by omega, rfl, hbw, hI0, hI1, hIW⟩
      case round =>
        clear hbw hI0 hI1 hIW
        obtain ⟨n, hn, hn64, rfl, hbw, hI0, hI1, hIW⟩ := hrel
        by_cases hlt : n < 64
        · have g0 : (0 : Int) ≤ (n : Int) := by omega
          have g1 : (n : Int) < 64 := by omega
          have q0a : (15 : Int) ≤ (n : Int) := by omega
          have q0b : (0 : Int) ≤ (n : Int) - 15 := by omega
          have q0c : (n : Int) - 15 < 64 := by omega
          have r0 : IntKind.i64.wrap ((n : Int) - 15) = (n : Int) - 15 := IntWalk.i64_in _ (by omega)
          have t0 : ((n : Int) - 15).toNat = n - 15 := by omega
          have e0 : wr.cell? ⟨w.heap.size + 1 + 1, n - 15, none⟩ = some (.int .u32 ((w2F bs (n - 16))[n - 15]?.getD 0)) := hIW.cell (by rw [w2F_length]; omega)
          have q1a : (2 : Int) ≤ (n : Int) := by omega
          have q1b : (0 : Int) ≤ (n : Int) - 2 := by omega
          have q1c : (n : Int) - 2 < 64 := by omega
          have r1 : IntKind.i64.wrap ((n : Int) - 2) = (n : Int) - 2 := IntWalk.i64_in _ (by omega)
          have t1 : ((n : Int) - 2).toNat = n - 2 := by omega
          have e1 : wr.cell? ⟨w.heap.size + 1 + 1, n - 2, none⟩ = some (.int .u32 ((w2F bs (n - 16))[n - 2]?.getD 0)) := hIW.cell (by rw [w2F_length]; omega)
          have q2a : (16 : Int) ≤ (n : Int) := by omega
          have q2b : (0 : Int) ≤ (n : Int) - 16 := by omega
          have q2c : (n : Int) - 16 < 64 := by omega
          have r2 : IntKind.i64.wrap ((n : Int) - 16) = (n : Int) - 16 := IntWalk.i64_in _ (by omega)
          have t2 : ((n : Int) - 16).toNat = n - 16 := by omega
          have e2 : wr.cell? ⟨w.heap.size + 1 + 1, n - 16, none⟩ = some (.int .u32 ((w2F bs (n - 16))[n - 16]?.getD 0)) := hIW.cell (by rw [w2F_length]; omega)
          have q3a : (7 : Int) ≤ (n : Int) := by omega
          have q3b : (0 : Int) ≤ (n : Int) - 7 := by omega
          have q3c : (n : Int) - 7 < 64 := by omega
          have r3 : IntKind.i64.wrap ((n : Int) - 7) = (n : Int) - 7 := IntWalk.i64_in _ (by omega)
          have t3 : ((n : Int) - 7).toNat = n - 7 := by omega
          have e3 : wr.cell? ⟨w.heap.size + 1 + 1, n - 7, none⟩ = some (.int .u32 ((w2F bs (n - 16))[n - 7]?.getD 0)) := hIW.cell (by rw [w2F_length]; omega)
          have ew : wr.cell? ⟨w.heap.size + 1 + 1, n, none⟩ = some (.int .u32 ((w2F bs (n - 16))[n]?.getD 0)) := hIW.cell (by rw [w2F_length]; omega)
          have fw : wr.frozen? ⟨w.heap.size + 1 + 1, n, none⟩ = false := hIW.frozen _
          go_wp2_with fail
          refine still_lit_drew (by kernel_rfl) (by kernel_rfl) ?_
          repeat still_step
          refine wpStill_nil ?_
          go_wp2_with fail
          refine (turned_7 _ _).mono ?_
          rintro e w' ⟨rfl, rfl⟩
          go_wp2_with fail
          refine (turned_18 _ _).mono ?_
          rintro e w' ⟨rfl, rfl⟩
          go_wp2_with fail
          refine (turned_17 _ _).mono ?_
          rintro e w' ⟨rfl, rfl⟩
          go_wp2_with fail
          refine (turned_19 _ _).mono ?_
          rintro e w' ⟨rfl, rfl⟩
          go_wp2_with fail
          refine still_tail_drew 15 (by kernel_rfl) (by kernel_rfl) ?_
          simp only [List.take_succ_cons, List.take_zero, List.drop_succ_cons, List.drop_zero]
          repeat still_step
          refine wpStill_nil ?_
          clear e0 e1 e2 e3 q0a q0b q0c q1a q1b q1c q2a q2b q2c q3a q3b q3c r0 r1 r2 r3 t0 t1 t2 t3
          go_wp2_with fail
          have hI0' := (hI0.far (p := ⟨w.heap.size + 1 + 1, n, none⟩) (by show _ ≠ _; simp; omega) (.int .u32 (mixF (w2F bs (n - 16)) n)))
          have hI1' := (hI1.far (p := ⟨w.heap.size + 1 + 1, n, none⟩) (by show _ ≠ _; simp) (.int .u32 (mixF (w2F bs (n - 16)) n)))
          have hIW' := hIW.set n (mixF (w2F bs (n - 16)) n)
          rw [← w2F_succ bs n hn] at hIW'
          have hbw' := hbw.setCell (p := ⟨w.heap.size + 1 + 1, n, none⟩) (by show _ ≤ w.heap.size + 1 + 1; omega) (.int .u32 (mixF (w2F bs (n - 16)) n))
          clear hI0 hI1 hIW hbw ew fw
          go_roundw
          case rel => (repeat apply Exists.intro); exact ⟨⟨n + 1, by omega, by omega, by go_num, hbw'.drew.drew, hI0'.drew.drew, hI1'.drew.drew, hIW'.drew.drew⟩, rfl⟩
          case measure => simp [intOf]; omega
        · have hn64' : n = 64 := by omega
          subst hn64'
          clear hn hn64 hlt
          have hsz := hIW.lt
          go_wp2_with (first | (refine wpList_load_row rfl 90 _ rfl w.heap.size rfl 90 (u32c hst) (0, 0) _ hI0 Try.underlying90 rfl (by rw [u32c_size, hh]; exact Try.size8) ?_) | (refine wpList_store_row rfl _ _ _ rfl wr.heap.size (u32c hst) rfl rfl 90 _ (heap_alloc_new wr _) (by rw [u32c_size, hh]; exact Try.size8) (by rw [u32c_size, hh]; rfl) (u32c_one hst) ?_))
          have jb := below_setRow (hbw.alloc hbw.size (.cells (u32c (List.replicate 8 0)) 90)) hbw.size (u32c hst)
          have jV : Is32 ((wr.alloc (.cells (u32c (List.replicate 8 0)) 90)).setRow wr.heap.size (u32c hst)) wr.heap.size 90 hst := Is32.row (l := List.replicate 8 0) (heap_alloc_new wr _)
          have j0 := (hI0.alloc (.cells (u32c (List.replicate 8 0)) 90)).rowFar (g' := wr.heap.size) (cs := u32c hst) (by omega)
          have j1 := (hI1.alloc (.cells (u32c (List.replicate 8 0)) 90)).rowFar (g' := wr.heap.size) (cs := u32c hst) (by omega)
          have jW := (hIW.alloc (.cells (u32c (List.replicate 8 0)) 90)).rowFar (g' := wr.heap.size) (cs := u32c hst) (by omega)
          refine (constants_any _).mono ?_
          rintro e w3 ⟨rfl, hb3⟩
          have kb := jb.trans (hb3.mono jb.size)
          have kV := jV.below hb3 jV.lt
          have k0 := j0.below hb3 j0.lt
          have k1 := j1.below hb3 j1.lt
          have kW := jW.below hb3 jW.lt
          have hVs : w.heap.size + 1 + 1 < wr.heap.size := hsz
          clear jb jV j0 j1 jW hb3 hI0 hI1 hIW hbw hsz
          generalize hVe : wr.heap.size = V at *
          clear hVe
          go_wp2_with fail
          obtain ⟨wo, rfl⟩ : ∃ wo : World, wo = wr := ⟨_, rfl⟩
          go_loopw [108] (fun i wr => ∃ k : Nat, k ≤ 64 ∧ i = .int .i64 k ∧ Below w.heap.size w wr ∧ Is32 wr w.heap.size 90 hst ∧ Is32 wr (w.heap.size + 1) 90 (List.replicate 8 0) ∧ Is32 wr (w.heap.size + 1 + 1) 127 (w2F bs 48) ∧ Is32 wr V 90 (roundsF hst (w2F bs 48) k)) (fun i _ => 64 - (intOf i).toNat)
          case atStart => exact ⟨0, by omega, rfl, kb, k0, k1, kW, kV⟩
          case round =>
            clear kb kV k0 k1 kW
            obtain ⟨k, hk, rfl, hbw, hI0, hI1, hIW, hIV⟩ := hrel
            by_cases hlt : k < 64
            · have g0 : (0 : Int) ≤ (k : Int) := by omega
              have g1 : (k : Int) < 64 := by omega
              have hix : ∀ w', (Instr.index 127 (.agg kTab) (.int .i64 (k : Int))).run Try.prog w' = .ok (.int .u32 (kNums[k]?.getD 0)) w' := fun w' => index_kTab w' k hlt
              have ew : wr.cell? ⟨w.heap.size + 1 + 1, k, none⟩ = some (.int .u32 ((w2F bs 48)[k]?.getD 0)) := hIW.cell (by rw [w2F_length]; omega)
              have c0 : wr.cell? ⟨V, 0, none⟩ = some (.int .u32 ((roundsF hst (w2F bs 48) k)[0]?.getD 0)) := hIV.cell (j := 0) (by rw [roundsF_length _ _ hh]; omega)
              have c1 : wr.cell? ⟨V, 1, none⟩ = some (.int .u32 ((roundsF hst (w2F bs 48) k)[1]?.getD 0)) := hIV.cell (j := 1) (by rw [roundsF_length _ _ hh]; omega)
              have c2 : wr.cell? ⟨V, 2, none⟩ = some (.int .u32 ((roundsF hst (w2F bs 48) k)[2]?.getD 0)) := hIV.cell (j := 2) (by rw [roundsF_length _ _ hh]; omega)
              have c3 : wr.cell? ⟨V, 3, none⟩ = some (.int .u32 ((roundsF hst (w2F bs 48) k)[3]?.getD 0)) := hIV.cell (j := 3) (by rw [roundsF_length _ _ hh]; omega)
              have c4 : wr.cell? ⟨V, 4, none⟩ = some (.int .u32 ((roundsF hst (w2F bs 48) k)[4]?.getD 0)) := hIV.cell (j := 4) (by rw [roundsF_length _ _ hh]; omega)
              have c5 : wr.cell? ⟨V, 5, none⟩ = some (.int .u32 ((roundsF hst (w2F bs 48) k)[5]?.getD 0)) := hIV.cell (j := 5) (by rw [roundsF_length _ _ hh]; omega)
              have c6 : wr.cell? ⟨V, 6, none⟩ = some (.int .u32 ((roundsF hst (w2F bs 48) k)[6]?.getD 0)) := hIV.cell (j := 6) (by rw [roundsF_length _ _ hh]; omega)
              have c7 : wr.cell? ⟨V, 7, none⟩ = some (.int .u32 ((roundsF hst (w2F bs 48) k)[7]?.getD 0)) := hIV.cell (j := 7) (by rw [roundsF_length _ _ hh]; omega)
              go_wp2_with fail
              refine still_lit_drew (by kernel_rfl) (by kernel_rfl) ?_
              repeat still_step
              refine wpStill_nil ?_
              go_wp2_with fail
              refine still_lit_drew (by kernel_rfl) (by kernel_rfl) ?_
              still_step
              still_step
              still_step
              refine wpStill_step (fun K hK => ?_)
              go_simp
              refine ⟨_, (turned_6 _ _).mono (fun _ _ ⟨a, b⟩ => ⟨a, b.symm⟩), hK _ ?_⟩
              clear hK K
              still_step
              refine wpStill_step (fun K hK => ?_)
              go_simp
              refine ⟨_, (turned_11 _ _).mono (fun _ _ ⟨a, b⟩ => ⟨a, b.symm⟩), hK _ ?_⟩
              clear hK K
              still_step
              still_step
              refine wpStill_step (fun K hK => ?_)
              go_simp
              refine ⟨_, (turned_25 _ _).mono (fun _ _ ⟨a, b⟩ => ⟨a, b.symm⟩), hK _ ?_⟩
              clear hK K
              repeat still_step
              refine wpStill_nil ?_
              go_wp2_with fail
              refine (turned_2 _ _).mono ?_
              rintro e w' ⟨rfl, rfl⟩
              go_wp2_with fail
              refine (turned_13 _ _).mono ?_
              rintro e w' ⟨rfl, rfl⟩
              go_wp2_with fail
              refine (turned_22 _ _).mono ?_
              rintro e w' ⟨rfl, rfl⟩
              have jb := below_setRow hbw (g := V) (by omega) (u32c (roundsF hst (w2F bs 48) (k + 1)))
              have jV : Is32 (wr.setRow V (u32c (roundsF hst (w2F bs 48) (k + 1)))) V 90 (roundsF hst (w2F bs 48) (k + 1)) := Is32.row hIV
              have j0 := hI0.rowFar (g' := V) (cs := u32c (roundsF hst (w2F bs 48) (k + 1))) (by omega)
              have j1 := hI1.rowFar (g' := V) (cs := u32c (roundsF hst (w2F bs 48) (k + 1))) (by omega)
              have jW := hIW.rowFar (g' := V) (cs := u32c (roundsF hst (w2F bs 48) (k + 1))) (by omega)
              clear hI0 hI1 hIW hbw c0 c1 c2 c4 c5 c6 c7 ew hix
              go_wp2_with (refine wpList_store_row rfl _ _ _ rfl V (u32c (roundsF hst (w2F bs 48) (k + 1))) rfl rfl 90 _ hIV (by rw [u32c_size]; exact Try.size8) (by rw [u32c_size, u32c_size, roundsF_length _ _ hh, roundsF_length _ _ hh]) (u32c_one _) ?_)
              go_roundw
              case rel => exact ⟨k + 1, by omega, by go_num, jb.drew.drew, j0.drew.drew, j1.drew.drew, jW.drew.drew, jV.drew.drew⟩
              case measure => simp [intOf]; omega
            · have hk64 : k = 64 := by omega
              subst hk64
              clear hk hlt
              go_wp2_with fail
              obtain ⟨wo, rfl⟩ : ∃ wo : World, wo = wr := ⟨_, rfl⟩
              go_loopw [185] (fun i wr => ∃ k : Nat, k ≤ 8 ∧ i = .int .i64 k ∧ Below w.heap.size w wr ∧ Is32 wr w.heap.size 90 (sumF hst (roundsF hst (w2F bs 48) 64) k) ∧ Is32 wr (w.heap.size + 1) 90 (List.replicate 8 0) ∧ Is32 wr V 90 (roundsF hst (w2F bs 48) 64)) (fun i _ => 8 - (intOf i).toNat)
              case atStart => exact ⟨0, by omega, rfl, hbw, hI0, hI1, hIV⟩
              case round =>
                clear hbw hI0 hI1 hIV hIW
                obtain ⟨k, hk, rfl, hbw, hI0, hI1, hIV⟩ := hrel
                by_cases hlt : k < 8
                · have g0 : (0 : Int) ≤ (k : Int) := by omega
                  have g1 : (k : Int) < 8 := by omega
                  have e0 : wr.cell? ⟨w.heap.size, k, none⟩ = some (.int .u32 ((sumF hst (roundsF hst (w2F bs 48) 64) k)[k]?.getD 0)) := hI0.cell (by rw [sumF_length, hh]; omega)
                  have e1 : wr.cell? ⟨V, k, none⟩ = some (.int .u32 ((roundsF hst (w2F bs 48) 64)[k]?.getD 0)) := hIV.cell (by rw [roundsF_length _ _ hh]; omega)
                  have fw : wr.frozen? ⟨w.heap.size, k, none⟩ = false := hI0.frozen k
                  go_wp2_with fail
                  refine still_tail_drew 8 (by kernel_rfl) (by kernel_rfl) ?_
                  simp only [List.take_succ_cons, List.take_zero, List.drop_succ_cons, List.drop_zero]
                  repeat still_step
                  refine wpStill_nil ?_
                  go_wp2_with fail
                  have hI0' := hI0.set k (((sumF hst (roundsF hst (w2F bs 48) 64) k)[k]?.getD 0 + (roundsF hst (w2F bs 48) 64)[k]?.getD 0) % 4294967296)
                  have hI1' := hI1.far (p := ⟨w.heap.size, k, none⟩) (by show _ ≠ _; simp) (.int .u32 (((sumF hst (roundsF hst (w2F bs 48) 64) k)[k]?.getD 0 + (roundsF hst (w2F bs 48) 64)[k]?.getD 0) % 4294967296))
                  have hIV' := hIV.far (p := ⟨w.heap.size, k, none⟩) (by show _ ≠ _; simp; omega) (.int .u32 (((sumF hst (roundsF hst (w2F bs 48) 64) k)[k]?.getD 0 + (roundsF hst (w2F bs 48) 64)[k]?.getD 0) % 4294967296))
                  have hbw' := hbw.setCell (p := ⟨w.heap.size, k, none⟩) (Nat.le_refl _) (.int .u32 (((sumF hst (roundsF hst (w2F bs 48) 64) k)[k]?.getD 0 + (roundsF hst (w2F bs 48) 64)[k]?.getD 0) % 4294967296))
                  clear hI0 hI1 hIV hbw e0 e1 fw
                  go_roundw
                  case rel => (repeat apply Exists.intro); exact ⟨⟨k + 1, by omega, by go_num, hbw'.drew, hI0'.drew, hI1'.drew, hIV'.drew⟩, rfl⟩
                  case measure => simp [intOf]; omega
                · have hk8 : k = 8 := by omega
                  subst hk8
                  clear hk hlt
                  have h1 := hI1
                  have hl8 : (sumF hst (roundsF hst (w2F bs 48) 64) 8).length = 8 := by rw [sumF_length]; exact hh
                  go_wp2_with (first | (refine wpList_load_row rfl 90 _ rfl w.heap.size rfl 90 (u32c (sumF hst (roundsF hst (w2F bs 48) 64) 8)) (0, 0) _ hI0 Try.underlying90 rfl (by rw [u32c_size, hl8]; exact Try.size8) ?_) | (refine wpList_store_row rfl _ _ _ rfl (w.heap.size + 1) (u32c (sumF hst (roundsF hst (w2F bs 48) 64) 8)) rfl rfl 90 _ hI1 (by rw [u32c_size, hl8]; exact Try.size8) (by rw [u32c_size, u32c_size, hl8]; rfl) (u32c_one _) ?_))
                  exact bodyPost_ret (results_cell_row rfl _ _ (w.heap.size + 1) 90 (u32c (sumF hst (roundsF hst (w2F bs 48) 64) 8)) (0, 0) _ rfl (setRow_heap _ _ _ _ _ _ h1) Try.underlying90 rfl (by rw [u32c_size, hl8]; exact Try.size8)) rfl ⟨rfl, below_setRow hbw (by omega) _⟩
end Go.Proofs.Yteadfpbkhledlaa
