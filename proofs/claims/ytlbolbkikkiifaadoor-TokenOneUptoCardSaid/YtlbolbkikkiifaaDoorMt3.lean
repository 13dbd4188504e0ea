/- Texts of ours joined: HashSum, Sum, Mac, TokenPlain, GrantsIdx, NameWalk, MadeWalk, But, GrantsSays, GrantsRules, GrantsUser, HexWalk, SplitAny. -/
import Derived.Lib.BufferWrite
import Derived.Lib.SlBuf
import Derived.Deep.DeepCutAuto
import Derived.WalkSpells
import Derived.Test.YtlbolbkikkiifaaDoorChecked
import Derived.WalkKit
import Derived.WalkLawsBesides
import Derived.Lib.Hide
import Derived.KernelRfl
import Derived.StillTailTactics
import Derived.Deep.AppendLies
import Derived.Laws.BytesArg
import Derived.Test.YtlbolbkikkiifaaDoorMt2
set_option linter.unusedVariables false
set_option linter.unusedSimpArgs false
/- The walks of (*Hash).Sum and seal.Sum: a text's sum. -/
namespace Go.Proofs.YtlbolbkikkiifaaDoor
open Go.RowKit

/-! what Sum comes to -/
def padCount (n : Nat) : Nat := (119 - n) % 64
def lenByte (many k : Nat) : UInt8 := UInt8.ofNat (many * 8 / 2 ^ (8 * k) % 256)
def lenBytes (many : Nat) : Nat → List UInt8
  | 0 => []
  | k + 1 => lenByte many k :: lenBytes many k
def padded (l : List UInt8) (many : Nat) : List UInt8 := (l ++ 128 :: List.replicate (padCount l.length) 0) ++ lenBytes many 8
def outByte (z : Int) : UInt8 := UInt8.ofNat (IntKind.u8.wrap z).toNat
theorem outByte_nat (z : Int) : ((outByte z).toNat : Int) = IntKind.u8.wrap z := by
  have h : 0 ≤ IntKind.u8.wrap z ∧ IntKind.u8.wrap z < 256 := by rw [IntKind.wrap_u8]; omega
  unfold outByte
  simp
  omega
def outF : List Int → List UInt8
  | [] => []
  | x :: r => outByte (x / 16777216) :: outByte (x / 65536) :: outByte (x / 256) :: outByte x :: outF r
def finish (h : List Int) (l : List UInt8) (many : Nat) : List UInt8 := outF (absorbAll h (padded l many)).1

theorem lenByte_nat (many k : Nat) : (many : Int) * 8 / 2 ^ (8 * k) % 256 = ((lenByte many k).toNat : Int) := by
  unfold lenByte
  have h : (UInt8.ofNat (many * 8 / 2 ^ (8 * k) % 256)).toNat = many * 8 / 2 ^ (8 * k) % 256 := by simp
  rw [h]
  simp
theorem lenBytes_length (many : Nat) : ∀ k, (lenBytes many k).length = k
  | 0 => rfl
  | k + 1 => by simp [lenBytes, lenBytes_length many k]
theorem padded_length (l : List UInt8) (many : Nat) (h : l.length < 64) : (padded l many).length % 64 = 0 := by
  unfold padded
  rw [List.length_append, lenBytes_length]
  simp only [List.length_append, List.length_cons, List.length_replicate]
  unfold padCount
  omega
theorem outF_append (a b : List Int) : outF (a ++ b) = outF a ++ outF b := by
  induction a with
  | nil => rfl
  | cons x r ih => simp [outF, ih]
theorem outF_length (a : List Int) : (outF a).length = 4 * a.length := by
  induction a with
  | nil => rfl
  | cons x r ih => simp [outF, ih]; omega

theorem own_form {w : World} {B n : Nat} {e : TypeId} {v : Value} {xs : List Value} (h : w.ownsRow B e 1 v n xs) : ∃ a c, v = .slice a n c := by
  rcases h.2 with ⟨rfl, rfl⟩ | ⟨g, cap, cur, rfl, _⟩
  · exact ⟨_, _, rfl⟩
  · exact ⟨_, _, rfl⟩

set_option maxRecDepth 100000 in
set_option maxHeartbeats 1600000 in
theorem hashSum_any (g B : Nat) (hst : List Int) (rv : Value) (many : Nat) (l : List UInt8) (w : World) (hat : HashAt w g hst rv many) (hrow : OffRow w B 5 rv l) (hl : l.length < 64) (hm : many ≤ 1125899906842624) :
    Calls Tryd.prog 102 #[.pointer (some ⟨g, 0, none⟩)] w fun e w' => e = .returned (.string ⟨(finish hst l many).toArray⟩) ∧ Below w.heap.size w w' := by
  obtain ⟨i0, hi0, hz0, hz1, hz2⟩ := info_parts Tryd.infoU8
  have hgl := hat.lt
  have c8 := hat.c8
  go_enter Tryd.func102, Tryd.ntmps102
  obtain ⟨ra, rc, rfl⟩ := hrow.len
  go_wp2_with (at_builtin; refine wpList_append_row _ (by rfl) _ _ _ (by rfl) w.heap.size i0 Tryd.underlying117 hi0 hz0 hz1 hz2 (.slice none 0 0) 0 (by rfl) (l := []) (World.ownsRow_nil w _ _ 1) _ (by rfl) hrow (by omega) (Nat.le_refl _) ?_)
  intro v1 w1 hown1 hgrow
  have hb1 : Below w.heap.size w w1 := (Below.refl _ _).grown hgrow (Nat.le_refl _) (fun k hk => by simp [Value.ownBlock] at hk)
  have hat1 := hat.keep (w' := w1) (hb1.block g hgl)
  clear hgrow c8
  go_wp2_with (at_builtin; refine wpList_append_lies _ (by rfl) _ _ _ (by rfl) w.heap.size 5 i0 _ 1 1 Tryd.underlying117 hi0 hz0 hz1 hz2 rfl (by omega) v1 _ _ (by rfl) (hown1.alloc _) ⟨w1.heap.size, 0, none⟩ 1 1 _ (by rfl) (by rfl) (World.news_of_block (cs := #[_]) (t := 5) (fr := (0, 0)) (heap_alloc_new w1 _)) (by simp [Value.oneCell']) (by omega) (by unfold maxLen; omega) (by omega) (by have := hb1.size; simp; omega) (w1.heap.size + 1) (by simp) ?_)
  intro g2 cap2 w2 hown2 hgrow2 _ _
  have hb2 : Below w.heap.size w w2 := (hb1.alloc hb1.size _).grown hgrow2 (by have := hb1.size; simp; omega) (fun k hk => (hown1.lt k hk).1)
  have hown2' := own_snoc (x := 128) hown2 (by rfl)
  have hat2 := hat.keep (w' := w2) (hb2.block g hgl)
  clear hgrow2 hown2 hat1 hb1 hown1
  go_wp2_with fail
  have hp64 : padCount l.length < 64 := by unfold padCount; omega
  have HP : Hid ((l.length + 1 + padCount l.length) % 64 = 56) := by show _ = _; unfold padCount; omega
  go_loopg [3] (padCount l.length) (fun n v wr => ∃ j : Nat, Hid (j + n = padCount l.length) ∧ wr.ownsRow w.heap.size 5 1 v (l.length + 1 + j) (byteCells (l ++ 128 :: List.replicate j 0)) ∧ Below w.heap.size w wr)
  case atStart => exact ⟨0, by show _ = _; omega, by simpa using hown2', hb2⟩
  case round =>
    clear hown2' hat2 hb2
    obtain ⟨j, Hj, hown, hb⟩ := hrel
    have hj64 : j + gk < 64 := by have := Hj.out; omega
    obtain ⟨va, vc, hv⟩ := own_form hown
    subst hv
    by_cases hg0 : gk = 0
    · have ht : (((l.length : Int) + 1 + (j : Int)) % 64 != 56) = false := by rw [bne_eq_false_iff_eq]; have := Hj.out; have := HP.out; omega
      have HJ : Hid (j = padCount l.length) := by show _ = _; have := Hj.out; omega
      clear hg0
      go_wp2_with fail
      generalize hE : l ++ 128 :: List.replicate j 0 = E at hown
      have HE := Lib.hid hE; clear hE
      have hEl : Hid (E.length = l.length + 1 + j) := by show _ = _; rw [← HE.out]; simp; omega
      obtain ⟨wo, rfl⟩ : ∃ wo : World, wo = wr := ⟨_, rfl⟩
      go_loopg [3, 4] 8 (fun n v i wr => ∃ m : List UInt8, n ≤ 8 ∧ i = .int .i64 ((n : Int) - 1) ∧ Hid (m ++ lenBytes many n = lenBytes many 8) ∧ m.length ≤ 8 ∧ wr.ownsRow w.heap.size 5 1 v (l.length + 1 + j + m.length) (byteCells (E ++ m)) ∧ Below w.heap.size w wr)
      case atStart => exact ⟨[], by omega, rfl, rfl, by simp, by simpa using hown, hb⟩
      case round =>
        clear hown hb
        obtain ⟨m, hn8, rfl, Hm, hm8, hown, hb⟩ := hrel
        obtain ⟨va, vc, hv⟩ := own_form hown
        subst hv
        have hat1 := hat.keep (w' := wr) (hb.block g hgl)
        have c9 := hat1.c9
        cases gk with
        | zero =>
          have hm : m = lenBytes many 8 := by have := Hm.out; simpa [lenBytes] using this
          subst hm
          have Hpad : Hid (padded l many = E ++ lenBytes many 8) := by show _ = _; rw [← HE.out]; unfold padded; rw [← HJ.out]
          have hrow3 : OffRow wr w.heap.size 5 (.slice va (l.length + 1 + j + (lenBytes many 8).length) vc) (padded l many) := by
            rw [Hpad.out]
            have := hown
            have hl9 : (E ++ lenBytes many 8).length = l.length + 1 + j + (lenBytes many 8).length := by rw [List.length_append, hEl.out]
            rw [← hl9] at this ⊢
            exact OffRow.of_own this
          have hp0 := padded_length l many hl
          have hplen : (padded l many).length = l.length + 1 + j + (lenBytes many 8).length := by rw [Hpad.out, List.length_append, hEl.out]
          obtain ⟨a0, a1, a2, a3, a4, a5, a6, a7, rfl⟩ := eight hat.1
          have k0 := hat1.c 0 (by omega)
          have k1 := hat1.c 1 (by omega)
          have k2 := hat1.c 2 (by omega)
          have k3 := hat1.c 3 (by omega)
          have k4 := hat1.c 4 (by omega)
          have k5 := hat1.c 5 (by omega)
          have k6 := hat1.c 6 (by omega)
          have k7 := hat1.c 7 (by omega)
          have hjb := hb.alloc hb.size (.cells (u32c [a0, a1, a2, a3, a4, a5, a6, a7]) 177)
          have hjV : Is32 (wr.alloc (.cells (u32c [a0, a1, a2, a3, a4, a5, a6, a7]) 177)) wr.heap.size 177 [a0, a1, a2, a3, a4, a5, a6, a7] := heap_alloc_new wr _
          have hjrow := hrow3.keep (w' := wr.alloc (.cells (u32c [a0, a1, a2, a3, a4, a5, a6, a7]) 177)) (fun b hb' => Below.heap_alloc wr _ b (hrow3.lt b hb').2)
          have hVs := hb.size
          rw [← hplen] at hjrow ⊢
          have Hfin : Hid (finish [a0, a1, a2, a3, a4, a5, a6, a7] l many = outF (absorbAll [a0, a1, a2, a3, a4, a5, a6, a7] (padded l many)).1) := rfl
          clear hb hown hat1 c9 hrow3 hplen Hpad HE hEl
          generalize padded l many = PL at hjrow hp0 Hfin ⊢
          have Hp0 := Lib.hid hp0; clear hp0
          go_wp2_with fail
          clear k0 k1 k2 k3 k4 k5 k6 k7
          obtain ⟨wo, rfl⟩ : ∃ wo : World, wo = wr := ⟨_, rfl⟩
          go_loopg [3] PL.length (fun n v wr => ∃ (l3 : List UInt8) (hs : List Int), Hid (l3.length = n) ∧ Hid (n % 64 = 0) ∧ OffRow wr w.heap.size 5 v l3 ∧ Is32 wr wo.heap.size 177 hs ∧ hs.length = 8 ∧ Below w.heap.size w wr ∧ Hid (absorbAll hs l3 = absorbAll [a0, a1, a2, a3, a4, a5, a6, a7] PL))
          case atStart => exact ⟨PL, _, rfl, Hp0.out, hjrow, hjV, rfl, hjb, rfl⟩
          case round =>
            clear hjrow hjV hjb
            obtain ⟨l3, hs, Hl3, Hn, hrow, hIV, hs8, hb, Habs⟩ := hrel
            have Hs8 := Lib.hid hs8; clear hs8
            by_cases h0 : 0 < l3.length
            · obtain ⟨b, off, cap, hrv, hcap⟩ := hrow.form h0
              subst hrv
              have h64 : 64 ≤ l3.length := by have := Hn.out; have := Hl3.out; omega
              have u1 : (0 : Int) ≤ 64 := by omega
              have u2 : (64 : Int) ≤ (cap : Int) := by omega
              have u3 : (64 : Int) ≤ (l3.length : Int) := by omega
              have u4 : (l3.length : Int) ≤ (cap : Int) := by omega
              have u5 : (0 : Int) < (l3.length : Int) := by omega
              go_wp2_with fail
              refine wp_region_mix [(0, false), (1, true), (2, true)] [3, 4] (by kernel_rfl) (by kernel_rfl) (by rfl) ?_
              simp only [pickH, pickT, List.filterMap_cons, List.filterMap_nil, List.getElem?_cons_zero, List.getElem?_cons_succ, Option.map_some]
              refine wpTakes_still (by rfl) (exec_load_row wr.drew 177 _ (by rfl) wo.heap.size (by rfl) 177 (u32c hs) (0, 0) _ hIV Tryd.underlying177 rfl (by rw [u32c_size, Hs8.out]; exact Tryd.size8)) ?_
              try simp only [Act.put, List.setIfInBounds_toArray, List.set_cons_zero, List.set_cons_succ]
              refine wpTakes_pure (v := ?_) (by rfl) (fun w => ?_) ?_
              rotate_left
              focus (first | (go_simp; done) | (go_simp; with_reducible rfl))
              try simp only [Act.put, List.setIfInBounds_toArray, List.set_cons_zero, List.set_cons_succ]
              refine wpTakes_pure (v := ?_) (by rfl) (fun w => ?_) ?_
              rotate_left
              focus (first | (go_simp; done) | (go_simp; with_reducible rfl))
              try simp only [Act.put, List.setIfInBounds_toArray, List.set_cons_zero, List.set_cons_succ]
              refine wpTakes_nil ?_
              have hcel : ∀ j, j < 64 → wr.drew.cell? ⟨b, off + j, none⟩ = some (.int .u8 (((l3.take 64).getD j 0).toNat : Int)) := fun (j : Nat) (hj : j < 64) => by rw [take_getD l3 hj]; exact hrow.cells j (by omega)
              have hblt : b < wr.drew.heap.size := (hrow.lt b rfl).2
              have HC := Lib.hid hcel
              clear hcel
              go_wp2_with fail
              refine (block_any hs Hs8.out b off cap (l3.take 64) wr.drew hblt HC.out).mono ?_
              rintro e w2 ⟨rfl, hb2⟩
              have hbl : (blockF hs (l3.take 64)).length = 8 := by rw [blockF_length]; exact Hs8.out
              have Hstep := Lib.hid (absorbAll_step (h := hs) h64)
              have hng := hrow.ne_block hIV (by decide)
              have hIV2 : Is32 w2 wo.heap.size 177 hs := Is32.below (w := wr.drew) hIV hb2 hIV.lt
              have hrow2 := OffRow.below (w' := w2) (show OffRow wr.drew w.heap.size _ _ l3 from hrow) hb2 (Nat.le_refl _)
              have hbel2 : Below w.heap.size w w2 := hb.drew.trans (hb2.mono hb.size)
              have hIV3 : Is32 (w2.setRow wo.heap.size (u32c (blockF hs (l3.take 64)))) wo.heap.size 177 (blockF hs (l3.take 64)) := Is32.row hIV2
              have hrow3 := hrow2.keep (w' := w2.setRow wo.heap.size (u32c (blockF hs (l3.take 64)))) (fun b' hb' => setRow_other _ _ _ _ (by rintro rfl; exact hng hb'))
              have hbel3 := below_setRow hbel2 hVs (u32c (blockF hs (l3.take 64)))
              clear hb2 hIV hrow hb hrow2 hbel2 HC hng
              dsimp only
              go_step
              refine wpList_store_row (by rfl) _ _ _ (by rfl) wo.heap.size (u32c (blockF hs (l3.take 64))) (by rfl) (by rfl) 177 (u32c hs) hIV2 (by rw [u32c_size, hbl]; exact Tryd.size8) (by rw [u32c_size, u32c_size, hbl, Hs8.out]) (u32c_one _) ?_
              clear hIV2
              generalize w2.setRow wo.heap.size _ = w3 at hIV3 hrow3 hbel3 ⊢
              go_wp2_with fail
              refine NoPanic.normal ?_
              go_wp2_with fail
              all_goals
                have hcut := hrow3.cut (k := 64) (by omega)
                first | rw [if_pos ‹cap = 64›, show cap - 64 = 0 by omega] at hcut | rw [if_neg ‹¬ cap = 64›] at hcut
                go_roundg (l3.length - 64)
                case measure => have := Hl3.out; omega
                case rel => exact ⟨l3.drop 64, _, by show _ = _; simp, by have := Hn.out; have := Hl3.out; show _ = _; omega, hcut, hIV3, hbl, hbel3, Hstep.out.symm.trans Habs.out⟩
            · have hl0 : l3 = [] := List.eq_nil_of_length_eq_zero (by omega)
              subst hl0
              have Hfin2 : Hid (finish [a0, a1, a2, a3, a4, a5, a6, a7] l many = outF hs) := by
                show _ = _
                rw [Hfin.out, ← Habs.out, absorbAll_end (by simp)]
              obtain ⟨ra3, rc3, rfl⟩ := hrow.len
              clear Hfin Habs hrow Hn Hl3 h0
              go_wp2_with (refine wpList_load_row (by rfl) 177 _ (by rfl) wo.heap.size (by rfl) 177 (u32c hs) (0, 0) _ hIV Tryd.underlying177 rfl (by rw [u32c_size, Hs8.out]; exact Tryd.size8) ?_)
              have c9 := hb
              obtain ⟨wo4, rfl⟩ : ∃ wo4 : World, wo4 = wr := ⟨_, rfl⟩
              go_loopg [6, 54] 8 (fun n v i wr => ∃ k : Nat, k + n = 8 ∧ i = .int .i64 (k : Int) ∧ wr.ownsRow w.heap.size 5 1 v (4 * k) (byteCells (outF (hs.take k))) ∧ Below w.heap.size w wr)
              case atStart => exact ⟨0, rfl, rfl, World.ownsRow_nil _ _ _ 1, hb⟩
              case round =>
                clear hb hIV
                obtain ⟨k, hk8, rfl, hown, hb⟩ := hrel
                obtain ⟨va, vc, hv⟩ := own_form hown
                subst hv
                cases gk with
                | zero =>
                  obtain rfl : k = 8 := by omega
                  have hE : hs.take 8 = hs := List.take_of_length_le (by rw [Hs8.out]; omega)
                  rw [hE] at hown
                  have hcv := run_convert_own wr 117 9 5 Tryd.underlying117 Tryd.underlying5 Tryd.underlying9 hown
                  simp only [show 4 * 8 = 32 from rfl] at hcv
                  go_wp2_with fail
                  go_ret
                  exact ⟨congrArg (fun l : List UInt8 => Ending.returned (Value.string ⟨l.toArray⟩)) Hfin2.out.symm, hb⟩
                | succ n =>
                  have hk : k < 8 := by omega
                  have t1 : (k : Int) < 8 := by omega
                  obtain ⟨i3, hi3, _, hs3, _⟩ := info_parts Tryd.infoU32
                  have hix := run_index_u32 wr 177 175 i3 hs (by rw [Hs8.out]; exact Tryd.underlying177) Tryd.underlying175 hi3 hs3 k (by rw [Hs8.out]; exact hk)
                  go_wp2_with (at_builtin; refine wpList_append_lies _ (by rfl) _ _ _ (by rfl) w.heap.size 5 i0 _ 1 1 Tryd.underlying117 hi0 hz0 hz1 hz2 rfl (by omega) _ _ _ (by rfl) (hown.alloc _) ⟨wr.heap.size, 0, none⟩ 4 4 _ (by rfl) (by rfl) (World.news_of_block (cs := #[_, _, _, _]) (t := 5) (fr := (0, 0)) (heap_alloc_new wr _)) (by simp [Value.oneCell']) (by omega) (by unfold maxLen; omega) (by omega) (by have := hb.size; simp; omega) (wr.heap.size + 1) (by simp) ?_)
                  intro g3 cap3 w3 hown3 hgrow3 _ _
                  have hb3 : Below w.heap.size w w3 := (hb.alloc hb.size _).grown hgrow3 (by have := hb.size; simp; omega) (fun k hk => (hown.lt k hk).1)
                  clear hgrow3 hown hb
                  go_wp2_with fail
                  have hst : outF (hs.take (k + 1)) = outF (hs.take k) ++ [outByte (hs[k]?.getD 0 / 16777216), outByte (hs[k]?.getD 0 / 65536), outByte (hs[k]?.getD 0 / 256), outByte (hs[k]?.getD 0)] := by
                    have hk' : k < hs.length := by rw [Hs8.out]; exact hk
                    rw [List.take_succ_eq_append_getElem hk', outF_append]
                    simp [outF, List.getElem?_eq_getElem hk']
                  have hvals : byteCells (outF (hs.take (k + 1))) = byteCells (outF (hs.take k)) ++ [Value.int .u8 (hs[k]?.getD 0 / 16777216 % 256), Value.int .u8 (hs[k]?.getD 0 / 65536 % 256), Value.int .u8 (hs[k]?.getD 0 / 256 % 256), Value.int .u8 (hs[k]?.getD 0 % 256)] := by
                    rw [hst, byteCells_append]
                    simp only [byteCells, List.map_cons, List.map_nil, outByte_nat, IntKind.wrap_u8]
                  go_roundg n
                  case measure => omega
                  case rel => exact ⟨k + 1, by omega, rfl, by rw [hvals]; exact hown3, hb3⟩
        | succ k =>
          have q0 : ((k + 1 : Nat) : Int) - 1 = (k : Int) := by omega
          rw [q0]
          have q1 : (0 : Int) ≤ (k : Int) := by omega
          have q2 : (0 : Int) ≤ 8 * (k : Int) := by omega
          have q3 : IntKind.i64.wrap (8 * (k : Int)) = 8 * (k : Int) := IntWalk.i64_in _ (by omega)
          have q4 : 0 ≤ (many : Int) * 8 := by omega
          have q5 : (many : Int) * 8 < 18446744073709551616 := by omega
          go_wp2_with (at_builtin; refine wpList_append_lies _ (by rfl) _ _ _ (by rfl) w.heap.size 5 i0 _ 1 1 Tryd.underlying117 hi0 hz0 hz1 hz2 rfl (by omega) _ _ _ (by rfl) (hown.alloc _) ⟨wr.heap.size, 0, none⟩ 1 1 _ (by rfl) (by rfl) (World.news_of_block (cs := #[_]) (t := 5) (fr := (0, 0)) (heap_alloc_new wr _)) (by simp [Value.oneCell']) (by omega) (by unfold maxLen; omega) (by omega) (by have := hb.size; simp; omega) (wr.heap.size + 1) (by simp) ?_)
          intro g3 cap3 w3 hown3 hgrow3 _ _
          have hb3 : Below w.heap.size w w3 := (hb.alloc hb.size _).grown hgrow3 (by have := hb.size; simp; omega) (fun k hk => (hown.lt k hk).1)
          have hown3' := own_snoc (x := lenByte many k) hown3 (lenByte_nat many k)
          clear hgrow3 hown3 hb hown hat1 c9
          go_wp2_with fail
          go_roundg k
          case measure => omega
          case rel => exact ⟨m ++ [lenByte many k], by omega, rfl, by have := Hm.out; show _ = _; rw [← this]; simp [lenBytes], by have := Hm.out; have h2 := congrArg List.length this; simp [lenBytes_length] at h2 ⊢; omega, by simpa [Nat.add_assoc] using hown3', hb3⟩
    · have ht : (((l.length : Int) + 1 + (j : Int)) % 64 != 56) = true := by rw [bne_iff_ne]; have := Hj.out; have := HP.out; omega
      go_wp2_with (at_builtin; refine wpList_append_lies _ (by rfl) _ _ _ (by rfl) w.heap.size 5 i0 _ 1 1 Tryd.underlying117 hi0 hz0 hz1 hz2 rfl (by omega) _ _ _ (by rfl) (hown.alloc _) ⟨wr.heap.size, 0, none⟩ 1 1 _ (by rfl) (by rfl) (World.news_of_block (cs := #[_]) (t := 5) (fr := (0, 0)) (heap_alloc_new wr _)) (by simp [Value.oneCell']) (by omega) (by unfold maxLen; omega) (by omega) (by have := hb.size; simp; omega) (wr.heap.size + 1) (by simp) ?_)
      intro g3 cap3 w3 hown3 hgrow3 _ _
      have hb3 : Below w.heap.size w w3 := (hb.alloc hb.size _).grown hgrow3 (by have := hb.size; simp; omega) (fun k hk => (hown.lt k hk).1)
      have hown3' := own_snoc (x := 0) hown3 (by rfl)
      clear hgrow3 hown3 hb hown
      go_wp2_with fail
      go_roundg (gk - 1)
      case measure => omega
      case rel => exact ⟨j + 1, by show _ = _; have := Hj.out; omega, by have := hown3'; rw [List.replicate_succ']; simpa [Nat.add_assoc] using this, hb3⟩
end Go.Proofs.YtlbolbkikkiifaaDoor
/- The walk of seal.Sum. -/
namespace Go.Proofs.YtlbolbkikkiifaaDoor
open Go.RowKit

/-- a text's sum -/
def sumOf (l : List UInt8) : List UInt8 := finish (absorbAll hNums l).1 (absorbAll hNums l).2 l.length

theorem blockF_len8 {h : List Int} {b : List UInt8} (hh : h.length = 8) : (blockF h b).length = 8 := by rw [blockF_length]; exact hh
theorem absorb_len8 : ∀ (n : Nat) (h : List Int) (l : List UInt8), h.length = 8 → (absorb n h l).1.length = 8
  | 0, h, l, hh => by unfold absorb; exact hh
  | n + 1, h, l, hh => by
    unfold absorb
    split
    · exact absorb_len8 n _ _ (blockF_len8 hh)
    · exact hh
theorem absorbAll_len8 {h : List Int} (l : List UInt8) (hh : h.length = 8) : (absorbAll h l).1.length = 8 := absorb_len8 _ _ _ hh
theorem absorb_small : ∀ (n : Nat) (h : List Int) (l : List UInt8), l.length < 64 * n + 64 → (absorb n h l).2.length < 64
  | 0, h, l, hl => by unfold absorb; simpa using hl
  | n + 1, h, l, hl => by
    unfold absorb
    split
    · exact absorb_small n _ _ (by simp; omega)
    · show l.length < 64; omega
theorem absorbAll_small (h : List Int) (l : List UInt8) : (absorbAll h l).2.length < 64 := absorb_small _ _ _ (by omega)
theorem sumOf_length (l : List UInt8) : (sumOf l).length = 32 := by
  unfold sumOf finish
  rw [outF_length, absorbAll_len8 _ (absorbAll_len8 _ (by rfl))]

set_option maxRecDepth 100000 in
theorem sum_any (s : ByteArray) (w : World) (hs : s.size ≤ 1099510579200) :
    Calls Tryd.prog 73 #[.string s] w fun e w' => e = .returned (.string ⟨(sumOf s.data.toList).toArray⟩) ∧ Below w.heap.size w w' := by
  go_enter Tryd.func73, Tryd.ntmps73
  go_wp2_with fail
  refine (new_any w).mono ?_
  rintro e w1 ⟨g, rfl, hg, hat, hb1⟩
  go_wp2_with fail
  refine (write_any g w.heap.size hNums (.slice none 0 0) 0 [] s w1 hat (OffRow.nil _ _ _) hg hb1.size (by simp) hs (by omega)).mono ?_
  rintro e w2 ⟨rv, rfl, hat2, hrow2, hb2⟩
  go_wp2_with fail
  refine (hashSum_any g w.heap.size _ rv (0 + s.size) _ w2 hat2 hrow2 (absorbAll_small _ _) (by omega)).mono ?_
  rintro e w3 ⟨rfl, hb3⟩
  go_wp2_with fail
  go_ret
  refine ⟨?_, ?_⟩
  · have hsl : s.size = s.data.toList.length := by simp
    have h := congrArg (fun n => Ending.returned (Value.string ⟨(finish (absorbAll hNums s.data.toList).1 (absorbAll hNums s.data.toList).2 n).toArray⟩)) hsl
    exact h
  · have h12 := hb1.trans hb2
    exact h12.trans (hb3.mono h12.size)
end Go.Proofs.YtlbolbkikkiifaaDoor
/- The walk of seal.Mac. -/
namespace Go.Proofs.YtlbolbkikkiifaaDoor
open Go.RowKit

def pad64 (k : List UInt8) : List UInt8 := k ++ List.replicate (64 - k.length) 0
def macKey (k : List UInt8) : List UInt8 := if 64 < k.length then sumOf k else k
def xorAll (x : UInt8) (l : List UInt8) : List UInt8 := l.map (fun b => b ^^^ x)
def xorTo (x : UInt8) (l : List UInt8) (j : Nat) : List UInt8 := xorAll x (l.take j) ++ l.drop j
def macOf (k s : List UInt8) : List UInt8 := sumOf (xorAll 92 (pad64 (macKey k)) ++ sumOf (xorAll 54 (pad64 (macKey k)) ++ s))
theorem macKey_le (k : List UInt8) : (macKey k).length ≤ 64 := by
  unfold macKey
  split
  · rw [sumOf_length]; omega
  · omega
theorem pad64_length (k : List UInt8) (h : k.length ≤ 64) : (pad64 k).length = 64 := by simp [pad64]; omega
theorem xorAll_length (x : UInt8) (l : List UInt8) : (xorAll x l).length = l.length := by simp [xorAll]
theorem macOf_length (k s : List UInt8) : (macOf k s).length = 32 := sumOf_length _
theorem xorTo_length (x : UInt8) (l : List UInt8) (j : Nat) : (xorTo x l j).length = l.length := by simp [xorTo, xorAll]; omega
theorem xorTo_getD (x : UInt8) (l : List UInt8) (j : Nat) (h : j < l.length) : (xorTo x l j).getD j 0 = l.getD j 0 := by
  have h1 : (xorAll x (l.take j)).length = j := by simp [xorAll]; omega
  simp [xorTo, List.getD, List.getElem?_append_right (Nat.le_of_eq h1), h1]
theorem xorTo_set (x : UInt8) (l : List UInt8) (j : Nat) (h : j < l.length) : (xorTo x l j).set j (l.getD j 0 ^^^ x) = xorTo x l (j + 1) := by
  have h1 : (xorAll x (l.take j)).length = j := by simp [xorAll]; omega
  unfold xorTo
  rw [List.set_append_right _ _ (Nat.le_of_eq h1), h1, Nat.sub_self, List.drop_eq_getElem_cons h, List.set_cons_zero, List.take_succ_eq_append_getElem h]
  unfold xorAll
  rw [List.map_append, List.append_assoc]
  simp [List.getD, h]
theorem xorTo_all (x : UInt8) (l : List UInt8) (j : Nat) (h : l.length ≤ j) : xorTo x l j = xorAll x l := by
  simp [xorTo, List.take_of_length_le h, List.drop_eq_nil_of_le h]

/-- a block that holds these bytes -/
def Is8 (w : World) (g : Nat) (t : TypeId) (l : List UInt8) : Prop := w.heap[g]? = some (.cells (byteCells l).toArray t (0, 0))
section
variable {w w' : World} {g g' B : Nat} {t : TypeId} {l l' : List UInt8}
theorem byteCells_at (l : List UInt8) (j : Nat) (h : j < l.length) : (byteCells l).toArray[j]? = some (.int .u8 ((l.getD j 0).toNat : Int)) := by simp [byteCells, h]
theorem Is8.cell (h : Is8 w g t l) {j : Nat} (hj : j < l.length) : w.cell? ⟨g, j, none⟩ = some (.int .u8 ((l.getD j 0).toNat : Int)) := by
  rw [cell_of_row w g j _ t (0, 0) h, byteCells_at l j hj]
theorem Is8.frozen (h : Is8 w g t l) (j : Nat) : w.frozen? ⟨g, j, none⟩ = false := frozen_of_row w g j _ t h
theorem Is8.lt (h : Is8 w g t l) : g < w.heap.size := by
  rcases Nat.lt_or_ge g w.heap.size with h1 | h1
  · exact h1
  · unfold Is8 at h
    rw [Array.getElem?_eq_none h1] at h
    cases h
theorem Is8.drew (h : Is8 w g t l) : Is8 w.drew g t l := h
theorem Is8.alloc (h : Is8 w g t l) (o : Obj) : Is8 (w.alloc o) g t l := (Below.heap_alloc w o g h.lt).trans h
theorem Is8.set (h : Is8 w g t l) (j : Nat) (x : UInt8) : Is8 (w.setCell ⟨g, j, none⟩ (.int .u8 (x.toNat : Int))) g t (l.set j x) := by
  unfold Is8
  rw [heap_setCell_same w g j _ t _ h]
  simp [byteCells, List.map_set]
theorem Is8.far (h : Is8 w g t l) {p : Addr} (hp : g ≠ p.block) (x : Value) : Is8 (w.setCell p x) g t l := (heap_setCell_other w p g x hp).trans h
theorem Is8.below (h : Is8 w g t l) (hb : Below B w w') (hg : g < B) : Is8 w' g t l := (hb.block g hg).trans h
theorem Is8.row (h : Is8 w g t l) : Is8 (w.setRow g (byteCells l').toArray) g t l' := setRow_heap _ _ _ _ _ _ h
theorem Is8.rowFar {cs : Array Value} (h : Is8 w g t l) (hg : g ≠ g') : Is8 (w.setRow g' cs) g t l := (setRow_other w g' g cs hg).trans h
end
theorem pad_cells (n : Nat) (K : List UInt8) : (byteCells (List.replicate n 0)).toArray.toList.take 0 ++ byteCells K ++ (byteCells (List.replicate n 0)).toArray.toList.drop (0 + K.length) = byteCells (K ++ List.replicate (n - K.length) 0) := by
  simp [byteCells]
theorem byteCells_oneA (l : List UInt8) : (byteCells l).toArray.all (·.oneCell') = true := by
  rw [Array.all_eq_true_iff_forall_mem]
  intro x hx
  simp [byteCells] at hx
  obtain ⟨a, _, rfl⟩ := hx
  rfl
theorem Is8.conv {w : World} {g cap : Nat} {t : TypeId} {l : List UInt8} (h : Is8 w g t l) :
    (convert 117 9 (.slice (some ⟨g, 0, none⟩) l.length cap)).run Tryd.prog w = .ok (.string ⟨l.toArray⟩) w := by
  refine run_convert_bytes_back w 117 9 5 ⟨g, 0, none⟩ cap l Tryd.underlying117 Tryd.underlying5 Tryd.underlying9 (fun j hj => ?_)
  have h1 := h.cell hj
  have h2 : (⟨g, 0, none⟩ : Addr).add j = ⟨g, j, none⟩ := by unfold Addr.add; split <;> simp_all
  rw [h2]
  simpa [hj] using h1
theorem bits_xor8 (x y : UInt8) : bits .xor .u8 (x.toNat : Int) (y.toNat : Int) = ((x ^^^ y).toNat : Int) := by
  rw [u8_xor_nat _ _ x.toNat_lt y.toNat_lt, UInt8.toNat_xor]

set_option maxRecDepth 100000 in
set_option maxHeartbeats 1600000 in
theorem mac_any (k s : ByteArray) (w : World) (hk : k.size ≤ 1099510579200) (hs : s.size ≤ 1099510579100) :
    Calls Tryd.prog 48 #[.string k, .string s] w fun e w' => e = .returned (.string ⟨(macOf k.data.toList s.data.toList).toArray⟩) ∧ Below w.heap.size w w' := by
  go_enter Tryd.func48, Tryd.ntmps48
  go_upto_if 10 with fail
  go_cut [0] (fun v wx => v = .string ⟨(macKey k.data.toList).toArray⟩ ∧ Below w.heap.size w wx)
  case first =>
    have hkl := Lib.hid (show k.size = k.data.toList.length by simp)
    by_cases h64 : 64 < k.size
    · have h1 : (64 : Int) < (k.size : Int) := by omega
      go_wp2_with (go_at_call 73; refine (sum_any k _ hk).mono ?_; rintro e w2 ⟨rfl, hb2⟩)
      go_meet
      exact ⟨by unfold macKey; rw [if_pos (by rw [← hkl.out]; exact h64)], hb2⟩
    · have h1 : ¬ (64 : Int) < (k.size : Int) := by omega
      go_wp2_with fail
      go_meet
      exact ⟨by unfold macKey; rw [if_neg (by rw [← hkl.out]; exact h64)], Below.refl _ _⟩
  case rest =>
    obtain ⟨rfl, hbc⟩ := hcut
    have hml := macKey_le k.data.toList
    obtain ⟨K, HK⟩ : ∃ K : ByteArray, Hid (K = ⟨(macKey k.data.toList).toArray⟩) := ⟨_, Lib.hid rfl⟩
    have hKs : K.size ≤ 64 := by rw [HK.out, size_mk]; exact hml
    have HKd : Hid (K.data.toList = macKey k.data.toList) := by show _ = _; rw [HK.out]
    rw [← HK.out]
    clear hml HK
    have hcp := Lib.run_copy_row_string (P := Tryd.prog) ((wc.alloc (.cells (byteCells (List.replicate 64 0)).toArray 124)).alloc (.cells (byteCells (List.replicate 64 0)).toArray 124)) 117 9 3 5 wc.heap.size 0 64 64 K (byteCells (List.replicate 64 0)).toArray 124 Tryd.underlying117 (by kernel_rfl) (Is8.alloc (heap_alloc_new wc _) _) hKs (by simp [byteCells]; omega)
    have hE : ((byteCells (List.replicate 64 0)).toArray.toList.take 0 ++ Lib.byteCells K.data.toList ++ (byteCells (List.replicate 64 0)).toArray.toList.drop (0 + K.size)) = byteCells (pad64 K.data.toList) := by
      have hKl : K.size = K.data.toList.length := by simp
      rw [hKl]
      exact pad_cells 64 K.data.toList
    rw [hE] at hcp
    clear hE
    go_upto_region 4 with fail
    go_step
    go_step
    go_step
    go_step
    go_step
    go_step
    go_step
    refine Lib.wpList_copy_run _ rfl _ _ 117 9 rfl _ _ rfl rfl hcp ?_
    have hb1 := hbc.alloc hbc.size (.cells (byteCells (List.replicate 64 0)).toArray 124)
    have hb2 := hb1.alloc hb1.size (.cells (byteCells (List.replicate 64 0)).toArray 124)
    have hb3 := below_setRow hb2 (g := wc.heap.size) hbc.size (byteCells (pad64 K.data.toList)).toArray
    have hin0 : Is8 ((wc.alloc (.cells (byteCells (List.replicate 64 0)).toArray 124)).alloc (.cells (byteCells (List.replicate 64 0)).toArray 124)) wc.heap.size 124 (List.replicate 64 0) := Is8.alloc (heap_alloc_new wc _) _
    have hin := Is8.row (l' := pad64 K.data.toList) hin0
    have hout0 : Is8 ((wc.alloc (.cells (byteCells (List.replicate 64 0)).toArray 124)).alloc (.cells (byteCells (List.replicate 64 0)).toArray 124)) (wc.heap.size + 1) 124 (List.replicate 64 0) := by
      have := heap_alloc_new (wc.alloc (.cells (byteCells (List.replicate 64 0)).toArray 124)) (.cells (byteCells (List.replicate 64 0)).toArray 124)
      rw [World.size_alloc] at this
      exact this
    have hout := Is8.rowFar (g' := wc.heap.size) (cs := (byteCells (pad64 K.data.toList)).toArray) hout0 (by omega)
    have hsz : w.heap.size ≤ wc.heap.size := hbc.size
    clear hb1 hb2 hin0 hout0 hcp
    generalize ((wc.alloc (.cells (byteCells (List.replicate 64 0)).toArray 124)).alloc (.cells (byteCells (List.replicate 64 0)).toArray 124)).setRow wc.heap.size (byteCells (pad64 K.data.toList)).toArray = W1 at *
    have hpl : (pad64 K.data.toList).length = 64 := pad64_length _ (by rw [HKd.out]; exact macKey_le _)
    generalize hgw : wc.heap.size = g at *
    clear hgw
    go_wp2_with (first | (refine wpList_load_row (by rfl) 124 _ (by rfl) g (by rfl) 124 (byteCells (pad64 K.data.toList)).toArray (0, 0) _ hin Tryd.underlying124 rfl (by rw [List.size_toArray, byteCells_length, hpl]; exact Tryd.size64) ?_) | (refine wpList_store_row (by rfl) _ _ _ (by rfl) (g + 1) (byteCells (pad64 K.data.toList)).toArray (by rfl) (by rfl) 124 _ hout (by rw [List.size_toArray, byteCells_length, hpl]; exact Tryd.size64) (by rw [List.size_toArray, List.size_toArray, byteCells_length, byteCells_length, hpl, List.length_replicate]) (byteCells_oneA _) ?_))
    have hb4 := below_setRow hb3 (g := g + 1) (by omega) (byteCells (pad64 K.data.toList)).toArray
    have jin := Is8.rowFar (g' := g + 1) (cs := (byteCells (pad64 K.data.toList)).toArray) hin (by omega)
    have jout := Is8.row (l' := pad64 K.data.toList) hout
    clear hb3 hin hout
    generalize W1.setRow (g + 1) (byteCells (pad64 K.data.toList)).toArray = W2 at *
    generalize hPe : pad64 K.data.toList = P at *
    have HP := Lib.hid hPe
    have HPl := Lib.hid hpl
    clear hPe hpl
    go_loopg [17] 64 (fun n i wr => ∃ j : Nat, j + n = 64 ∧ i = .int .i64 (j : Int) ∧ Below w.heap.size w wr ∧ Is8 wr g 124 (xorTo 54 P j) ∧ Is8 wr (g + 1) 124 (xorTo 92 P j))
    case atStart => exact ⟨0, rfl, rfl, hb4, jin, jout⟩
    case round =>
      clear hb4 jin jout
      obtain ⟨j, hj, rfl, hb, hin, hout⟩ := hrel
      cases gk with
      | zero =>
        obtain rfl : j = 64 := by omega
        rw [xorTo_all _ _ _ (by rw [HPl.out]; omega)] at hin hout
        go_wp2_with fail
        refine wp_region_hold 9 (fun w' => Below w.heap.size w w' ∧ Is8 w' g 124 (xorAll 54 P) ∧ Is8 w' (g + 1) 124 (xorAll 92 P)) (by kernel_rfl) (by kernel_rfl) ?_ ?_
        · exact ⟨hb.drew, hin.drew, hout.drew⟩
        have hA : (xorAll 54 P).length = 64 := by rw [xorAll_length, HPl.out]
        have hB : (xorAll 92 P).length = 64 := by rw [xorAll_length, HPl.out]
        clear hb hin hout
        simp only [List.take_succ_cons, List.take_zero, List.drop_succ_cons, List.drop_zero]
        (first | (refine wpHold_pure (v := ?_) (by rfl) (fun w => ?_) ?_; rotate_left; focus (first | (go_simp; done) | (go_simp; with_reducible rfl))) | (refine wpHold_skip ?_ ?_; focus (go_simp; done)) | (refine wpHold_pure' (v := ?_) ?_ (fun w => ?_) ?_; rotate_left; focus (go_simp; done); focus (first | (go_simp; done) | (go_simp; with_reducible rfl)))); try simp only [Act.put, List.setIfInBounds_toArray, List.set_cons_zero, List.set_cons_succ]
        refine wpHold_read (v := .string ⟨(xorAll 92 P).toArray⟩) (by rfl) (fun w' hI => ?_) ?_
        · have hcv := hI.2.2.conv (cap := 64)
          rw [hB] at hcv
          go_simp
          done
        try simp only [Act.put, List.setIfInBounds_toArray, List.set_cons_zero, List.set_cons_succ]
        (first | (refine wpHold_pure (v := ?_) (by rfl) (fun w => ?_) ?_; rotate_left; focus (first | (go_simp; done) | (go_simp; with_reducible rfl))) | (refine wpHold_skip ?_ ?_; focus (go_simp; done)) | (refine wpHold_pure' (v := ?_) ?_ (fun w => ?_) ?_; rotate_left; focus (go_simp; done); focus (first | (go_simp; done) | (go_simp; with_reducible rfl)))); try simp only [Act.put, List.setIfInBounds_toArray, List.set_cons_zero, List.set_cons_succ]
        refine wpHold_read (v := .string ⟨(xorAll 54 P).toArray⟩) (by rfl) (fun w' hI => ?_) ?_
        · have hcv := hI.2.1.conv (cap := 64)
          rw [hA] at hcv
          go_simp
          done
        try simp only [Act.put, List.setIfInBounds_toArray, List.set_cons_zero, List.set_cons_succ]
        (first | (refine wpHold_pure (v := ?_) (by rfl) (fun w => ?_) ?_; rotate_left; focus (first | (go_simp; done) | (go_simp; with_reducible rfl))) | (refine wpHold_skip ?_ ?_; focus (go_simp; done)) | (refine wpHold_pure' (v := ?_) ?_ (fun w => ?_) ?_; rotate_left; focus (go_simp; done); focus (first | (go_simp; done) | (go_simp; with_reducible rfl)))); try simp only [Act.put, List.setIfInBounds_toArray, List.set_cons_zero, List.set_cons_succ]
        have ls1 : ¬ 9223372036854775807 < 64 + s.size := by omega
        (first | (refine wpHold_pure (v := ?_) (by rfl) (fun w => ?_) ?_; rotate_left; focus (first | (go_simp; done) | (go_simp; with_reducible rfl))) | (refine wpHold_skip ?_ ?_; focus (go_simp; done)) | (refine wpHold_pure' (v := ?_) ?_ (fun w => ?_) ?_; rotate_left; focus (go_simp; done); focus (first | (go_simp; done) | (go_simp; with_reducible rfl)))); try simp only [Act.put, List.setIfInBounds_toArray, List.set_cons_zero, List.set_cons_succ]
        have dA : (({ data := (xorAll 54 P).toArray } : ByteArray) ++ s).data.toList = xorAll 54 P ++ s.data.toList := by simp
        have sA : (({ data := (xorAll 54 P).toArray } : ByteArray) ++ s).size ≤ 1099510579200 := by rw [ByteArray.size_append, size_mk, hA]; omega
        refine wpHold_call (v := .string ⟨(sumOf (xorAll 54 P ++ s.data.toList)).toArray⟩) (f := 73) (args := #[.string (({ data := (xorAll 54 P).toArray } : ByteArray) ++ s)]) (by rfl) (fun w => ?_) (fun w' hI => ?_) ?_
        · go_simp
          done
        · refine (sum_any _ w' sA).mono ?_
          rintro e w2 ⟨rfl, hb2⟩
          rw [dA]
          exact ⟨rfl, hI.1.trans (hb2.mono hI.1.size), hI.2.1.below hb2 hI.2.1.lt, hI.2.2.below hb2 hI.2.2.lt⟩
        try simp only [Act.put, List.setIfInBounds_toArray, List.set_cons_zero, List.set_cons_succ]
        clear dA sA ls1
        generalize hE : sumOf (xorAll 54 P ++ s.data.toList) = E
        have hEl : E.length = 32 := by rw [← hE, sumOf_length]
        have ls2 : ¬ 9223372036854775807 < 64 + E.length := by omega
        (first | (refine wpHold_pure (v := ?_) (by rfl) (fun w => ?_) ?_; rotate_left; focus (first | (go_simp; done) | (go_simp; with_reducible rfl))) | (refine wpHold_skip ?_ ?_; focus (go_simp; done)) | (refine wpHold_pure' (v := ?_) ?_ (fun w => ?_) ?_; rotate_left; focus (go_simp; done); focus (first | (go_simp; done) | (go_simp; with_reducible rfl)))); try simp only [Act.put, List.setIfInBounds_toArray, List.set_cons_zero, List.set_cons_succ]
        have dB : (({ data := (xorAll 92 P).toArray } : ByteArray) ++ { data := E.toArray }).data.toList = xorAll 92 P ++ E := by simp
        have sB : (({ data := (xorAll 92 P).toArray } : ByteArray) ++ { data := E.toArray }).size ≤ 1099510579200 := by rw [ByteArray.size_append, size_mk, size_mk, hB, hEl]; omega
        refine wpHold_call (v := .string ⟨(macOf k.data.toList s.data.toList).toArray⟩) (f := 73) (args := #[.string (({ data := (xorAll 92 P).toArray } : ByteArray) ++ { data := E.toArray })]) (by rfl) (fun w => ?_) (fun w' hI => ?_) ?_
        · go_simp
          done
        · refine (sum_any _ w' sB).mono ?_
          rintro e w2 ⟨rfl, hb2⟩
          rw [dB]
          refine ⟨?_, hI.1.trans (hb2.mono hI.1.size), hI.2.1.below hb2 hI.2.1.lt, hI.2.2.below hb2 hI.2.2.lt⟩
          unfold macOf
          rw [← HKd.out, HP.out, hE]
        try simp only [Act.put, List.setIfInBounds_toArray, List.set_cons_zero, List.set_cons_succ]
        clear dB sB ls2 hE hEl
        refine wpHold_nil ?_
        rintro w' ⟨hb, _, _⟩
        go_wp2_with fail
        go_ret
        exact ⟨rfl, hb⟩
      | succ n =>
        have q0 : (0 : Int) ≤ (j : Int) := by omega
        have q1 : (j : Int) < 64 := by omega
        have hjP : j < P.length := by rw [HPl.out]; omega
        have e0 := hin.cell (j := j) (by rw [xorTo_length]; exact hjP)
        have e1 := hout.cell (j := j) (by rw [xorTo_length]; exact hjP)
        rw [xorTo_getD _ _ _ hjP] at e0 e1
        have f0 := hin.frozen j
        have f1 := hout.frozen j
        obtain ⟨b, Hbj⟩ : ∃ b : UInt8, Hid (P.getD j 0 = b) := ⟨_, Lib.hid rfl⟩
        rw [Hbj.out] at e0 e1
        have z0 : bits .xor .u8 (b.toNat : Int) 54 = ((b ^^^ 54).toNat : Int) := bits_xor8 b 54
        have z1 : bits .xor .u8 (b.toNat : Int) 92 = ((b ^^^ 92).toNat : Int) := bits_xor8 b 92
        go_wp2_with fail
        have k0 := (hin.set j (b ^^^ 54)).far (p := ⟨g + 1, j, none⟩) (by show g ≠ g + 1; omega) (.int .u8 ((b ^^^ 92).toNat : Int))
        have k1 := (hout.far (p := ⟨g, j, none⟩) (by show g + 1 ≠ g; omega) (.int .u8 ((b ^^^ 54).toNat : Int))).set j (b ^^^ 92)
        rw [← Hbj.out, xorTo_set _ _ _ hjP, Hbj.out] at k0 k1
        have hb' := (hb.setCell (p := ⟨g, j, none⟩) (by show w.heap.size ≤ g; omega) (.int .u8 ((b ^^^ 54).toNat : Int))).setCell (p := ⟨g + 1, j, none⟩) (by show w.heap.size ≤ g + 1; omega) (.int .u8 ((b ^^^ 92).toNat : Int))
        clear z0 z1 e0 e1 f0 f1
        go_roundg n
        case measure => omega
        case rel => exact ⟨j + 1, by omega, rfl, hb', k0, k1⟩
end Go.Proofs.YtlbolbkikkiifaaDoor
/- Tokens: what is issued, what is checked; the plain laws. -/
namespace Go.Proofs.YtlbolbkikkiifaaDoor
open Go.RowKit
open JP (Bs)

namespace TokP
def isKey (k : Bs) : Bool := decide (0 < k.length) && decide (k.length ≤ 64)
def isTime (n : Int) : Bool := decide (0 ≤ n) && decide (n ≤ 1099511627776)
def ownB (u : GUser) : List Bs := u.groups.map (·.data.toList)
def base (u : GUser) (n : Int) : Bs := u.name.data.toList ++ ([46] ++ (Lib.join (ownB u) [44] ++ ([46] ++ (Lib.itoa n ++ [46]))))
def issueE (k : Bs) (u : GUser) (n : Int) : Int := if isKey k = true then (if userC u = 0 then (if isTime n = true then 0 else 1) else userC u) else 1
def issueT (k : Bs) (u : GUser) (n : Int) : Bs := if issueE k u n = 0 then base u n ++ HexP.hexl (macOf k (base u n)) else []
def groupsOf (b : Bs) : List Bs := if b = [] then [] else splitL 44 b
def mkU (a : Bs) (g : List Bs) : GUser := ⟨mkB a, g.map mkB⟩
def endE (k t : Bs) (now : Int) (a : Bs) (g : List Bs) : Option Int → Int × Bs × List Bs
  | none => (16, [], [])
  | some v => if issueE k (mkU a g) v = 0 ∧ issueT k (mkU a g) v = t then (if v < now then (15, [], []) else (0, a, g)) else (16, [], [])
def macE (k t : Bs) (now : Int) (a b c : Bs) : Option Bs → Int × Bs × List Bs
  | none => (16, [], [])
  | some m => if m = macOf k (t.take (t.length - 64)) then endE k t now a (groupsOf b) (timeOf c) else (17, [], [])
def partsE (k t : Bs) (now : Int) : List Bs → Int × Bs × List Bs
  | [a, b, c, d] => if d.length = 64 then macE k t now a b c (HexP.unhexl d) else (16, [], [])
  | _ => (16, [], [])
def checkP (k t : Bs) (now : Int) : Int × Bs × List Bs :=
  if isKey k = true ∧ isTime now = true then partsE k t now (splitL 46 t) else (1, [], [])

theorem short_zero {s : ByteArray} (h : shortC s = 0) : NameP.isName s.data.toList = true ∧ s.size ≤ 20 := by
  unfold shortC at h
  rw [says_eq_zero] at h
  refine ⟨(NameP.check_ok.1 h.1).2, ?_⟩
  have := h.2
  split at this
  · cases this
  · omega
theorem user_parts {u : GUser} (h : userC u = 0) : NameP.isName u.name.data.toList = true ∧ u.name.size ≤ 20 ∧ u.groups.length ≤ 6 ∧ ∀ g ∈ u.groups, NameP.isName g.data.toList = true ∧ g.size ≤ 20 := by
  unfold userC at h
  rw [says_eq_zero] at h
  obtain ⟨h1, h2⟩ := h
  obtain ⟨a, b⟩ := short_zero h1
  split at h2
  · cases h2
  · rename_i h6
    rw [firstBad_zero] at h2
    refine ⟨a, b, by omega, fun g hg => ?_⟩
    obtain ⟨i, hi, rfl⟩ := List.mem_iff_getElem.1 hg
    have h3 := h2 _ (List.mem_mapIdx.2 ⟨i, hi, rfl⟩)
    rw [says_eq_zero] at h3
    exact short_zero h3.1
theorem issue_parts {k : Bs} {u : GUser} {n : Int} (h : issueE k u n = 0) : isKey k = true ∧ userC u = 0 ∧ isTime n = true := by
  unfold issueE at h
  split at h
  · split at h
    · split at h
      · exact ⟨‹_›, ‹_›, ‹_›⟩
      · cases h
    · exact absurd h ‹_›
  · cases h
theorem time_parts {n : Int} (h : isTime n = true) : 0 ≤ n ∧ n ≤ 1099511627776 := by
  unfold isTime at h; simpa using h
theorem owns_free {u : GUser} (h : userC u = 0) : ∀ q ∈ ownB u, (44 : UInt8) ∉ q ∧ (46 : UInt8) ∉ q ∧ q ≠ [] := by
  obtain ⟨_, _, _, h4⟩ := user_parts h
  intro q hq
  obtain ⟨g, hg, rfl⟩ := List.mem_map.1 hq
  have := isName_free (h4 g hg).1
  exact ⟨this.1, this.2.1, this.2.2.2⟩
theorem join_free {l : List Bs} (h : ∀ q ∈ l, (46 : UInt8) ∉ q) : (46 : UInt8) ∉ Lib.join l [44] := by
  cases l with
  | nil => simp [Lib.join, List.intercalate]
  | cons p r =>
    rw [join_flat]
    intro hm
    rw [List.mem_append, List.mem_flatMap] at hm
    rcases hm with hm | ⟨q, hq, hm⟩
    · exact h p (List.mem_cons_self ..) hm
    · rw [List.mem_cons] at hm
      rcases hm with hm | hm
      · exact absurd hm (by decide)
      · exact h q (List.mem_cons_of_mem _ hq) hm
theorem groups_back {l : List Bs} (h : ∀ q ∈ l, (44 : UInt8) ∉ q ∧ (46 : UInt8) ∉ q ∧ q ≠ []) : groupsOf (Lib.join l [44]) = l := by
  unfold groupsOf
  cases l with
  | nil => simp [Lib.join, List.intercalate]
  | cons p r =>
    have hp := h p (List.mem_cons_self ..)
    rw [if_neg, split_join 44 (by simp) (fun q hq => (h q hq).1)]
    rw [join_flat]
    intro he
    exact hp.2.2 (List.append_eq_nil_iff.1 he).1
theorem base_long (u : GUser) (n : Int) (d : Bs) : base u n ++ d = u.name.data.toList ++ 46 :: (Lib.join (ownB u) [44] ++ 46 :: (Lib.itoa n ++ 46 :: d)) := by
  unfold base; simp
theorem split_base {u : GUser} {n : Int} {d : Bs} (hu : userC u = 0) (hn : isTime n = true) (hd : (46 : UInt8) ∉ d) : splitL 46 (base u n ++ d) = [u.name.data.toList, Lib.join (ownB u) [44], Lib.itoa n, d] := by
  have h1 := isName_free (user_parts hu).1
  rw [base_long, splitL_cut 46 _ _ h1.2.1, splitL_cut 46 _ _ (join_free fun q hq => (owns_free hu q hq).2.1), splitL_cut 46 _ _ (itoa_free (time_parts hn).1).2.1, splitL_one 46 d hd]
theorem mkU_back (u : GUser) : mkU u.name.data.toList (ownB u) = u := by
  unfold mkU ownB
  rw [mkB_of, List.map_map]
  have : ((mkB : Bs → ByteArray) ∘ fun x : ByteArray => x.data.toList) = id := funext fun x => mkB_of x
  rw [this, List.map_id]
theorem split_issue {k : Bs} {u : GUser} {n : Int} (h : issueE k u n = 0) : splitL 46 (issueT k u n) = [u.name.data.toList, Lib.join (ownB u) [44], Lib.itoa n, HexP.hexl (macOf k (base u n))] := by
  obtain ⟨_, h2, h3⟩ := issue_parts h
  unfold issueT
  rw [if_pos h, split_base h2 h3 (hexl_free _)]
theorem hex64 (k s : Bs) : (HexP.hexl (macOf k s)).length = 64 := by rw [HexP.hexl_length, macOf_length]
/-- who has a token is told up to its time -/
theorem back {k : Bs} {u : GUser} {n now : Int} (h : issueE k u n = 0) (hn : isTime now = true) : checkP k (issueT k u n) now = if n < now then (15, [], []) else (0, u.name.data.toList, ownB u) := by
  obtain ⟨h1, h2, h3⟩ := issue_parts h
  obtain ⟨t1, t2⟩ := time_parts h3
  have ht : issueT k u n = base u n ++ HexP.hexl (macOf k (base u n)) := by unfold issueT; rw [if_pos h]
  have hk : (issueT k u n).take ((issueT k u n).length - 64) = base u n := by
    rw [ht, List.length_append, hex64, Nat.add_sub_cancel, List.take_left]
  unfold checkP
  rw [if_pos ⟨h1, hn⟩, split_issue h]
  dsimp only [partsE]
  rw [if_pos (hex64 _ _), HexP.unhex_hex]
  dsimp only [macE]
  rw [hk, if_pos rfl, groups_back (owns_free h2), timeOf_itoa t1 (by omega)]
  dsimp only [endE]
  rw [mkU_back, if_pos ⟨h, rfl⟩]
/-- a token that is good is the one that is issued -/
theorem one {k t : Bs} {now : Int} (h : (checkP k t now).1 = 0) : ∃ a b d g v, checkP k t now = (0, a, g) ∧ isTime now = true ∧ splitL 46 t = [a, b, Lib.itoa v, d] ∧ issueE k (mkU a g) v = 0 ∧ issueT k (mkU a g) v = t ∧ now ≤ v ∧ 0 ≤ v ∧ v ≤ 1099511627776 := by
  unfold checkP at h ⊢
  split at h
  · rename_i hk
    rw [if_pos hk]
    unfold partsE at h ⊢
    split at h
    · rename_i a b c d hs
      split at h
      · rename_i hl
        rw [hs]
        simp only [if_pos hl]
        unfold macE at h ⊢
        split at h
        · cases h
        · rename_i m hm
          split at h
          · rename_i he
            simp only [if_pos he]
            unfold endE at h ⊢
            split at h
            · cases h
            · rename_i v hv
              split at h
              · rename_i hi
                split at h
                · cases h
                · rename_i hn
                  simp only [if_pos hi, if_neg hn]
                  obtain ⟨h1, h2, h3⟩ := issue_parts hi.1
                  obtain ⟨t1, t2⟩ := time_parts h3
                  have h9 := split_issue hi.1
                  rw [hi.2, hs] at h9
                  simp only [List.cons.injEq] at h9
                  exact ⟨a, b, d, groupsOf b, v, rfl, hk.2, by rw [h9.2.2.1], hi.1, hi.2, by omega, t1, t2⟩
              · cases h
          · cases h
      · cases h
    · cases h
  · cases h
theorem bad {k t : Bs} {now : Int} (h : (checkP k t now).1 ≠ 0) : checkP k t now = ((checkP k t now).1, [], []) := by
  unfold checkP partsE macE endE at *
  repeat' split
  all_goals first
    | rfl
    | skip
  all_goals simp_all
theorem none_const : checkP [] [] 0 = (1, [], []) := by decide
end TokP
end Go.Proofs.YtlbolbkikkiifaaDoor
/- slices.IndexFunc and slices.ContainsFunc: for whatever function value that answers a plain predicate. -/
namespace Go.Proofs.YtlbolbkikkiifaaDoor
open Go.RowKit

/-- is one of them so? -/
def AnyAt {α : Type} (l : List α) (p : α → Bool) (w : World) (e : Ending) (w' : World) : Prop := ∃ n : Int, e = .returned (.int .i64 n) ∧ (decide (0 ≤ n) = l.any p) ∧ Below w.heap.size w w'
set_option maxRecDepth 100000 in
set_option maxHeartbeats 800000 in
theorem idxRole_any {f : FuncId} {cap : Value} {Cap : World → Prop} {p : GRole → Bool} {OK : GRole → Prop} (enter : ∀ (a : Array Value) (w : World), (callFunc f a).run Tryd.prog w = .ok (.enter f a) w)
    (keepC : ∀ w w' : World, Cap w → Below w.heap.size w w' → Cap w')
    (clo : ∀ (x : GRole) (y2 : Value) (w : World), RoleR w [.string x.space, .string x.name, y2] x → OK x → Cap w → Calls Tryd.prog f #[.agg #[.string x.space, .string x.name, y2], cap] w fun e w' => e = .returned (.bool (p x)) ∧ Below w.heap.size w w')
    (v : Value) (l : List GRole) (w : World) (h : RowAt RoleR 3 w v l) (hl : l.length ≤ 1073741824) (hok : ∀ x ∈ l, OK x) (hc : Cap w) : Calls Tryd.prog 107 #[v, .func (.func f) #[] #[cap]] w (AnyAt l p w) := by
  obtain ⟨a1, c1, rfl, _, _⟩ := h.len
  have H := Lib.hid h
  have Hc := Lib.hid hc
  have HC := Lib.hid clo
  have HK := Lib.hid keepC
  have Hok := Lib.hid hok
  have ep := enter
  clear h hc clo keepC enter hok
  go_enter Tryd.func107, Tryd.ntmps107
  go_wp2_with fail
  go_loopg [8] l.length (fun g u8 wr => ∃ i : Nat, i + g = l.length ∧ u8 = .int .i64 (i : Int) ∧ Hid (∀ x ∈ l.take i, p x = false) ∧ Hid (Cap wr) ∧ Below w.heap.size w wr)
  case atStart => exact ⟨0, by omega, rfl, Lib.hid (fun x hx => by simp at hx), Hc, Below.refl _ _⟩
  case round =>
    obtain ⟨i, hig, rfl, Hall, Hcr, hbel⟩ := hrel
    cases gk with
    | zero =>
      obtain rfl : i = l.length := by omega
      have Hany : Hid (decide ((0 : Int) ≤ -1) = l.any p) := by
        refine Lib.hid ?_
        rw [decide_eq_false (by omega), eq_comm, List.any_eq_false]
        intro x hx
        rw [Hall.out x (by rw [List.take_length]; exact hx)]; simp
      have Hbel := Lib.hid hbel
      clear hbel
      go_wp2_with fail
      go_ret
      exact ⟨-1, rfl, Hany.out, Hbel.out⟩
    | succ g =>
      have hil : i < l.length := by omega
      obtain ⟨x, hxi⟩ : ∃ x, l[i]? = some x := ⟨l[i]'(by omega), List.getElem?_eq_getElem _⟩
      obtain ⟨b, o, c', hv, _, _, hbs, hcell⟩ := H.out.form (by omega) (by omega)
      cases hv
      obtain ⟨ds, _, hcc, hR⟩ := hcell i x hxi
      have hR2 := hR
      obtain ⟨y2, rfl, _⟩ := hR
      have HR := Lib.hid (stays_role _ _ _ _ (keeps_below hbel) hR2)
      have e0 : wr.cell? ⟨b, o + i * 3, none⟩ = some (.string x.space) := (hbel.cell (p := ⟨b, _, none⟩) hbs).trans (by simpa using hcc 0 _ rfl)
      have e1 : wr.cell? ⟨b, o + i * 3 + 1, none⟩ = some (.string x.name) := (hbel.cell (p := ⟨b, _, none⟩) hbs).trans (hcc 1 _ rfl)
      have e2 : wr.cell? ⟨b, o + i * 3 + 2, none⟩ = some (y2) := (hbel.cell (p := ⟨b, _, none⟩) hbs).trans (hcc 2 _ rfl)
      have q1 : (0 : Int) ≤ (i : Int) := by omega
      have q2 : (i : Int) < (l.length : Int) := by omega
      have Hbel := Lib.hid hbel
      have hs0 := hbel.size
      have Hxi := Lib.hid hxi
      clear hcc hcell hbel hR2 hxi
      obtain ⟨pb, Hpb⟩ : ∃ pb, Hid (p x = pb) := ⟨_, Lib.hid rfl⟩
      go_wp2_with fail
      refine (HC.out x y2 wr HR.out (Hok.out x (List.mem_of_getElem? Hxi.out)) Hcr.out).mono ?_
      rintro E w1 ⟨rfl, hb1⟩
      rw [Hpb.out]
      have Hb1 := Lib.hid (Hbel.out.trans (hb1.mono hs0))
      have Hc1 := Lib.hid (HK.out _ _ Hcr.out hb1)
      clear hb1 e0 e1 e2
      cases pb with
      | true =>
        have Hany : Hid (decide ((0 : Int) ≤ (i : Int)) = l.any p) := by
          refine Lib.hid ?_
          rw [decide_eq_true (by omega), eq_comm, List.any_eq_true]
          exact ⟨x, List.mem_of_getElem? Hxi.out, Hpb.out⟩
        go_wp2_with fail
        go_ret
        exact ⟨_, rfl, Hany.out, Hb1.out⟩
      | false =>
        have Hall2 : Hid (∀ x ∈ l.take (i + 1), p x = false) := Lib.hid fun y hy => by
          rw [List.take_add_one, Hxi.out] at hy
          rcases List.mem_append.1 hy with h | h
          · exact Hall.out y h
          · have h9 : y = x := by simpa using h
            rw [h9]; exact Hpb.out
        go_wp2_with fail
        go_roundg g
        case measure => omega
        case rel => exact ⟨i + 1, by omega, by go_num, Hall2, Hc1, Hb1.out⟩
set_option maxRecDepth 100000 in
theorem anyRole_any {f : FuncId} {cap : Value} {Cap : World → Prop} {p : GRole → Bool} {OK : GRole → Prop} (enter : ∀ (a : Array Value) (w : World), (callFunc f a).run Tryd.prog w = .ok (.enter f a) w)
    (keepC : ∀ w w' : World, Cap w → Below w.heap.size w w' → Cap w')
    (clo : ∀ (x : GRole) (y2 : Value) (w : World), RoleR w [.string x.space, .string x.name, y2] x → OK x → Cap w → Calls Tryd.prog f #[.agg #[.string x.space, .string x.name, y2], cap] w fun e w' => e = .returned (.bool (p x)) ∧ Below w.heap.size w w')
    (v : Value) (l : List GRole) (w : World) (h : RowAt RoleR 3 w v l) (hl : l.length ≤ 1073741824) (hok : ∀ x ∈ l, OK x) (hc : Cap w) : Calls Tryd.prog 79 #[v, .func (.func f) #[] #[cap]] w fun e w' => e = .returned (.bool (l.any p)) ∧ Below w.heap.size w w' := by
  have H := Lib.hid (idxRole_any enter keepC clo v l w h hl hok hc)
  obtain ⟨B, HB⟩ : ∃ B, Hid (l.any p = B) := ⟨_, Lib.hid rfl⟩
  rw [HB.out]
  clear h hc clo keepC enter
  go_enter Tryd.func79, Tryd.ntmps79
  go_wp2_with fail
  refine H.out.mono ?_
  rintro E w1 ⟨n, rfl, hn, hb⟩
  rw [HB.out] at hn
  have Hb := Lib.hid hb
  have Hn := Lib.hid hn
  clear hb hn H
  go_wp2_with fail
  go_ret
  exact ⟨congrArg (fun b => Ending.returned (Value.bool b)) Hn.out, Hb.out⟩
set_option maxRecDepth 100000 in
set_option maxHeartbeats 800000 in
theorem idxBind_any {f : FuncId} {cap : Value} {Cap : World → Prop} {p : GBind → Bool} {OK : GBind → Prop} (enter : ∀ (a : Array Value) (w : World), (callFunc f a).run Tryd.prog w = .ok (.enter f a) w)
    (keepC : ∀ w w' : World, Cap w → Below w.heap.size w w' → Cap w')
    (clo : ∀ (x : GBind) (y4 y5 : Value) (w : World), BindR w [.string x.space, .string x.name, .string x.role, .bool x.whole, y4, y5] x → OK x → Cap w → Calls Tryd.prog f #[.agg #[.string x.space, .string x.name, .string x.role, .bool x.whole, y4, y5], cap] w fun e w' => e = .returned (.bool (p x)) ∧ Below w.heap.size w w')
    (v : Value) (l : List GBind) (w : World) (h : RowAt BindR 6 w v l) (hl : l.length ≤ 1073741824) (hok : ∀ x ∈ l, OK x) (hc : Cap w) : Calls Tryd.prog 108 #[v, .func (.func f) #[] #[cap]] w (AnyAt l p w) := by
  obtain ⟨a1, c1, rfl, _, _⟩ := h.len
  have H := Lib.hid h
  have Hc := Lib.hid hc
  have HC := Lib.hid clo
  have HK := Lib.hid keepC
  have Hok := Lib.hid hok
  have ep := enter
  clear h hc clo keepC enter hok
  go_enter Tryd.func108, Tryd.ntmps108
  go_wp2_with fail
  go_loopg [8] l.length (fun g u8 wr => ∃ i : Nat, i + g = l.length ∧ u8 = .int .i64 (i : Int) ∧ Hid (∀ x ∈ l.take i, p x = false) ∧ Hid (Cap wr) ∧ Below w.heap.size w wr)
  case atStart => exact ⟨0, by omega, rfl, Lib.hid (fun x hx => by simp at hx), Hc, Below.refl _ _⟩
  case round =>
    obtain ⟨i, hig, rfl, Hall, Hcr, hbel⟩ := hrel
    cases gk with
    | zero =>
      obtain rfl : i = l.length := by omega
      have Hany : Hid (decide ((0 : Int) ≤ -1) = l.any p) := by
        refine Lib.hid ?_
        rw [decide_eq_false (by omega), eq_comm, List.any_eq_false]
        intro x hx
        rw [Hall.out x (by rw [List.take_length]; exact hx)]; simp
      have Hbel := Lib.hid hbel
      clear hbel
      go_wp2_with fail
      go_ret
      exact ⟨-1, rfl, Hany.out, Hbel.out⟩
    | succ g =>
      have hil : i < l.length := by omega
      obtain ⟨x, hxi⟩ : ∃ x, l[i]? = some x := ⟨l[i]'(by omega), List.getElem?_eq_getElem _⟩
      obtain ⟨b, o, c', hv, _, _, hbs, hcell⟩ := H.out.form (by omega) (by omega)
      cases hv
      obtain ⟨ds, _, hcc, hR⟩ := hcell i x hxi
      have hR2 := hR
      obtain ⟨y4, y5, rfl, _⟩ := hR
      have HR := Lib.hid (stays_bind _ _ _ _ (keeps_below hbel) hR2)
      have e0 : wr.cell? ⟨b, o + i * 6, none⟩ = some (.string x.space) := (hbel.cell (p := ⟨b, _, none⟩) hbs).trans (by simpa using hcc 0 _ rfl)
      have e1 : wr.cell? ⟨b, o + i * 6 + 1, none⟩ = some (.string x.name) := (hbel.cell (p := ⟨b, _, none⟩) hbs).trans (hcc 1 _ rfl)
      have e2 : wr.cell? ⟨b, o + i * 6 + 2, none⟩ = some (.string x.role) := (hbel.cell (p := ⟨b, _, none⟩) hbs).trans (hcc 2 _ rfl)
      have e3 : wr.cell? ⟨b, o + i * 6 + 3, none⟩ = some (.bool x.whole) := (hbel.cell (p := ⟨b, _, none⟩) hbs).trans (hcc 3 _ rfl)
      have e4 : wr.cell? ⟨b, o + i * 6 + 4, none⟩ = some (y4) := (hbel.cell (p := ⟨b, _, none⟩) hbs).trans (hcc 4 _ rfl)
      have e5 : wr.cell? ⟨b, o + i * 6 + 5, none⟩ = some (y5) := (hbel.cell (p := ⟨b, _, none⟩) hbs).trans (hcc 5 _ rfl)
      have q1 : (0 : Int) ≤ (i : Int) := by omega
      have q2 : (i : Int) < (l.length : Int) := by omega
      have Hbel := Lib.hid hbel
      have hs0 := hbel.size
      have Hxi := Lib.hid hxi
      clear hcc hcell hbel hR2 hxi
      obtain ⟨pb, Hpb⟩ : ∃ pb, Hid (p x = pb) := ⟨_, Lib.hid rfl⟩
      go_wp2_with fail
      refine (HC.out x y4 y5 wr HR.out (Hok.out x (List.mem_of_getElem? Hxi.out)) Hcr.out).mono ?_
      rintro E w1 ⟨rfl, hb1⟩
      rw [Hpb.out]
      have Hb1 := Lib.hid (Hbel.out.trans (hb1.mono hs0))
      have Hc1 := Lib.hid (HK.out _ _ Hcr.out hb1)
      clear hb1 e0 e1 e2 e3 e4 e5
      cases pb with
      | true =>
        have Hany : Hid (decide ((0 : Int) ≤ (i : Int)) = l.any p) := by
          refine Lib.hid ?_
          rw [decide_eq_true (by omega), eq_comm, List.any_eq_true]
          exact ⟨x, List.mem_of_getElem? Hxi.out, Hpb.out⟩
        go_wp2_with fail
        go_ret
        exact ⟨_, rfl, Hany.out, Hb1.out⟩
      | false =>
        have Hall2 : Hid (∀ x ∈ l.take (i + 1), p x = false) := Lib.hid fun y hy => by
          rw [List.take_add_one, Hxi.out] at hy
          rcases List.mem_append.1 hy with h | h
          · exact Hall.out y h
          · have h9 : y = x := by simpa using h
            rw [h9]; exact Hpb.out
        go_wp2_with fail
        go_roundg g
        case measure => omega
        case rel => exact ⟨i + 1, by omega, by go_num, Hall2, Hc1, Hb1.out⟩
set_option maxRecDepth 100000 in
theorem anyBind_any {f : FuncId} {cap : Value} {Cap : World → Prop} {p : GBind → Bool} {OK : GBind → Prop} (enter : ∀ (a : Array Value) (w : World), (callFunc f a).run Tryd.prog w = .ok (.enter f a) w)
    (keepC : ∀ w w' : World, Cap w → Below w.heap.size w w' → Cap w')
    (clo : ∀ (x : GBind) (y4 y5 : Value) (w : World), BindR w [.string x.space, .string x.name, .string x.role, .bool x.whole, y4, y5] x → OK x → Cap w → Calls Tryd.prog f #[.agg #[.string x.space, .string x.name, .string x.role, .bool x.whole, y4, y5], cap] w fun e w' => e = .returned (.bool (p x)) ∧ Below w.heap.size w w')
    (v : Value) (l : List GBind) (w : World) (h : RowAt BindR 6 w v l) (hl : l.length ≤ 1073741824) (hok : ∀ x ∈ l, OK x) (hc : Cap w) : Calls Tryd.prog 81 #[v, .func (.func f) #[] #[cap]] w fun e w' => e = .returned (.bool (l.any p)) ∧ Below w.heap.size w w' := by
  have H := Lib.hid (idxBind_any enter keepC clo v l w h hl hok hc)
  obtain ⟨B, HB⟩ : ∃ B, Hid (l.any p = B) := ⟨_, Lib.hid rfl⟩
  rw [HB.out]
  clear h hc clo keepC enter
  go_enter Tryd.func81, Tryd.ntmps81
  go_wp2_with fail
  refine H.out.mono ?_
  rintro E w1 ⟨n, rfl, hn, hb⟩
  rw [HB.out] at hn
  have Hb := Lib.hid hb
  have Hn := Lib.hid hn
  clear hb hn H
  go_wp2_with fail
  go_ret
  exact ⟨congrArg (fun b => Ending.returned (Value.bool b)) Hn.out, Hb.out⟩
set_option maxRecDepth 100000 in
set_option maxHeartbeats 800000 in
theorem idxRule_any {f : FuncId} {cap : Value} {Cap : World → Prop} {p : GRule → Bool} {OK : GRule → Prop} (enter : ∀ (a : Array Value) (w : World), (callFunc f a).run Tryd.prog w = .ok (.enter f a) w)
    (keepC : ∀ w w' : World, Cap w → Below w.heap.size w w' → Cap w')
    (clo : ∀ (x : GRule) (y0 y1 y2 : Value) (w : World), RuleR w [y0, y1, y2] x → OK x → Cap w → Calls Tryd.prog f #[.agg #[y0, y1, y2], cap] w fun e w' => e = .returned (.bool (p x)) ∧ Below w.heap.size w w')
    (v : Value) (l : List GRule) (w : World) (h : RowAt RuleR 3 w v l) (hl : l.length ≤ 1073741824) (hok : ∀ x ∈ l, OK x) (hc : Cap w) : Calls Tryd.prog 86 #[v, .func (.func f) #[] #[cap]] w (AnyAt l p w) := by
  obtain ⟨a1, c1, rfl, _, _⟩ := h.len
  have H := Lib.hid h
  have Hc := Lib.hid hc
  have HC := Lib.hid clo
  have HK := Lib.hid keepC
  have Hok := Lib.hid hok
  have ep := enter
  clear h hc clo keepC enter hok
  go_enter Tryd.func86, Tryd.ntmps86
  go_wp2_with fail
  go_loopg [8] l.length (fun g u8 wr => ∃ i : Nat, i + g = l.length ∧ u8 = .int .i64 (i : Int) ∧ Hid (∀ x ∈ l.take i, p x = false) ∧ Hid (Cap wr) ∧ Below w.heap.size w wr)
  case atStart => exact ⟨0, by omega, rfl, Lib.hid (fun x hx => by simp at hx), Hc, Below.refl _ _⟩
  case round =>
    obtain ⟨i, hig, rfl, Hall, Hcr, hbel⟩ := hrel
    cases gk with
    | zero =>
      obtain rfl : i = l.length := by omega
      have Hany : Hid (decide ((0 : Int) ≤ -1) = l.any p) := by
        refine Lib.hid ?_
        rw [decide_eq_false (by omega), eq_comm, List.any_eq_false]
        intro x hx
        rw [Hall.out x (by rw [List.take_length]; exact hx)]; simp
      have Hbel := Lib.hid hbel
      clear hbel
      go_wp2_with fail
      go_ret
      exact ⟨-1, rfl, Hany.out, Hbel.out⟩
    | succ g =>
      have hil : i < l.length := by omega
      obtain ⟨x, hxi⟩ : ∃ x, l[i]? = some x := ⟨l[i]'(by omega), List.getElem?_eq_getElem _⟩
      obtain ⟨b, o, c', hv, _, _, hbs, hcell⟩ := H.out.form (by omega) (by omega)
      cases hv
      obtain ⟨ds, _, hcc, hR⟩ := hcell i x hxi
      have hR2 := hR
      obtain ⟨y0, y1, y2, rfl, _⟩ := hR
      have HR := Lib.hid (stays_rule _ _ _ _ (keeps_below hbel) hR2)
      have e0 : wr.cell? ⟨b, o + i * 3, none⟩ = some (y0) := (hbel.cell (p := ⟨b, _, none⟩) hbs).trans (by simpa using hcc 0 _ rfl)
      have e1 : wr.cell? ⟨b, o + i * 3 + 1, none⟩ = some (y1) := (hbel.cell (p := ⟨b, _, none⟩) hbs).trans (hcc 1 _ rfl)
      have e2 : wr.cell? ⟨b, o + i * 3 + 2, none⟩ = some (y2) := (hbel.cell (p := ⟨b, _, none⟩) hbs).trans (hcc 2 _ rfl)
      have q1 : (0 : Int) ≤ (i : Int) := by omega
      have q2 : (i : Int) < (l.length : Int) := by omega
      have Hbel := Lib.hid hbel
      have hs0 := hbel.size
      have Hxi := Lib.hid hxi
      clear hcc hcell hbel hR2 hxi
      obtain ⟨pb, Hpb⟩ : ∃ pb, Hid (p x = pb) := ⟨_, Lib.hid rfl⟩
      go_wp2_with fail
      refine (HC.out x y0 y1 y2 wr HR.out (Hok.out x (List.mem_of_getElem? Hxi.out)) Hcr.out).mono ?_
      rintro E w1 ⟨rfl, hb1⟩
      rw [Hpb.out]
      have Hb1 := Lib.hid (Hbel.out.trans (hb1.mono hs0))
      have Hc1 := Lib.hid (HK.out _ _ Hcr.out hb1)
      clear hb1 e0 e1 e2
      cases pb with
      | true =>
        have Hany : Hid (decide ((0 : Int) ≤ (i : Int)) = l.any p) := by
          refine Lib.hid ?_
          rw [decide_eq_true (by omega), eq_comm, List.any_eq_true]
          exact ⟨x, List.mem_of_getElem? Hxi.out, Hpb.out⟩
        go_wp2_with fail
        go_ret
        exact ⟨_, rfl, Hany.out, Hb1.out⟩
      | false =>
        have Hall2 : Hid (∀ x ∈ l.take (i + 1), p x = false) := Lib.hid fun y hy => by
          rw [List.take_add_one, Hxi.out] at hy
          rcases List.mem_append.1 hy with h | h
          · exact Hall.out y h
          · have h9 : y = x := by simpa using h
            rw [h9]; exact Hpb.out
        go_wp2_with fail
        go_roundg g
        case measure => omega
        case rel => exact ⟨i + 1, by omega, by go_num, Hall2, Hc1, Hb1.out⟩
set_option maxRecDepth 100000 in
theorem anyRule_any {f : FuncId} {cap : Value} {Cap : World → Prop} {p : GRule → Bool} {OK : GRule → Prop} (enter : ∀ (a : Array Value) (w : World), (callFunc f a).run Tryd.prog w = .ok (.enter f a) w)
    (keepC : ∀ w w' : World, Cap w → Below w.heap.size w w' → Cap w')
    (clo : ∀ (x : GRule) (y0 y1 y2 : Value) (w : World), RuleR w [y0, y1, y2] x → OK x → Cap w → Calls Tryd.prog f #[.agg #[y0, y1, y2], cap] w fun e w' => e = .returned (.bool (p x)) ∧ Below w.heap.size w w')
    (v : Value) (l : List GRule) (w : World) (h : RowAt RuleR 3 w v l) (hl : l.length ≤ 1073741824) (hok : ∀ x ∈ l, OK x) (hc : Cap w) : Calls Tryd.prog 60 #[v, .func (.func f) #[] #[cap]] w fun e w' => e = .returned (.bool (l.any p)) ∧ Below w.heap.size w w' := by
  have H := Lib.hid (idxRule_any enter keepC clo v l w h hl hok hc)
  obtain ⟨B, HB⟩ : ∃ B, Hid (l.any p = B) := ⟨_, Lib.hid rfl⟩
  rw [HB.out]
  clear h hc clo keepC enter
  go_enter Tryd.func60, Tryd.ntmps60
  go_wp2_with fail
  refine H.out.mono ?_
  rintro E w1 ⟨n, rfl, hn, hb⟩
  rw [HB.out] at hn
  have Hb := Lib.hid hb
  have Hn := Lib.hid hn
  clear hb hn H
  go_wp2_with fail
  go_ret
  exact ⟨congrArg (fun b => Ending.returned (Value.bool b)) Hn.out, Hb.out⟩
set_option maxRecDepth 100000 in
set_option maxHeartbeats 800000 in
theorem idxStr_any {f : FuncId} {cap : Value} {Cap : World → Prop} {p : ByteArray → Bool} {OK : ByteArray → Prop} (enter : ∀ (a : Array Value) (w : World), (callFunc f a).run Tryd.prog w = .ok (.enter f a) w)
    (keepC : ∀ w w' : World, Cap w → Below w.heap.size w w' → Cap w')
    (clo : ∀ (x : ByteArray) (w : World), RString w [.string x] x → OK x → Cap w → Calls Tryd.prog f #[.string x, cap] w fun e w' => e = .returned (.bool (p x)) ∧ Below w.heap.size w w')
    (v : Value) (l : List ByteArray) (w : World) (h : RowAt RString 1 w v l) (hl : l.length ≤ 1073741824) (hok : ∀ x ∈ l, OK x) (hc : Cap w) : Calls Tryd.prog 109 #[v, .func (.func f) #[] #[cap]] w (AnyAt l p w) := by
  obtain ⟨a1, c1, rfl, _, _⟩ := h.len
  have H := Lib.hid h
  have Hc := Lib.hid hc
  have HC := Lib.hid clo
  have HK := Lib.hid keepC
  have Hok := Lib.hid hok
  have ep := enter
  clear h hc clo keepC enter hok
  go_enter Tryd.func109, Tryd.ntmps109
  go_wp2_with fail
  go_loopg [8] l.length (fun g u8 wr => ∃ i : Nat, i + g = l.length ∧ u8 = .int .i64 (i : Int) ∧ Hid (∀ x ∈ l.take i, p x = false) ∧ Hid (Cap wr) ∧ Below w.heap.size w wr)
  case atStart => exact ⟨0, by omega, rfl, Lib.hid (fun x hx => by simp at hx), Hc, Below.refl _ _⟩
  case round =>
    obtain ⟨i, hig, rfl, Hall, Hcr, hbel⟩ := hrel
    cases gk with
    | zero =>
      obtain rfl : i = l.length := by omega
      have Hany : Hid (decide ((0 : Int) ≤ -1) = l.any p) := by
        refine Lib.hid ?_
        rw [decide_eq_false (by omega), eq_comm, List.any_eq_false]
        intro x hx
        rw [Hall.out x (by rw [List.take_length]; exact hx)]; simp
      have Hbel := Lib.hid hbel
      clear hbel
      go_wp2_with fail
      go_ret
      exact ⟨-1, rfl, Hany.out, Hbel.out⟩
    | succ g =>
      have hil : i < l.length := by omega
      obtain ⟨x, hxi⟩ : ∃ x, l[i]? = some x := ⟨l[i]'(by omega), List.getElem?_eq_getElem _⟩
      obtain ⟨b, o, c', hv, _, _, hbs, hcell⟩ := H.out.form (by omega) (by omega)
      cases hv
      obtain ⟨ds, _, hcc, hR⟩ := hcell i x hxi
      have hR2 := hR
      obtain rfl : ds = [.string x] := hR
      have HR := Lib.hid (stays_string _ _ _ _ (keeps_below hbel) hR2)
      have e0 : wr.cell? ⟨b, o + i, none⟩ = some (.string x) := (hbel.cell (p := ⟨b, _, none⟩) hbs).trans (by simpa using hcc 0 _ rfl)
      have q1 : (0 : Int) ≤ (i : Int) := by omega
      have q2 : (i : Int) < (l.length : Int) := by omega
      have Hbel := Lib.hid hbel
      have hs0 := hbel.size
      have Hxi := Lib.hid hxi
      clear hcc hcell hbel hR2 hxi
      obtain ⟨pb, Hpb⟩ : ∃ pb, Hid (p x = pb) := ⟨_, Lib.hid rfl⟩
      go_wp2_with fail
      refine (HC.out x  wr HR.out (Hok.out x (List.mem_of_getElem? Hxi.out)) Hcr.out).mono ?_
      rintro E w1 ⟨rfl, hb1⟩
      rw [Hpb.out]
      have Hb1 := Lib.hid (Hbel.out.trans (hb1.mono hs0))
      have Hc1 := Lib.hid (HK.out _ _ Hcr.out hb1)
      clear hb1 e0
      cases pb with
      | true =>
        have Hany : Hid (decide ((0 : Int) ≤ (i : Int)) = l.any p) := by
          refine Lib.hid ?_
          rw [decide_eq_true (by omega), eq_comm, List.any_eq_true]
          exact ⟨x, List.mem_of_getElem? Hxi.out, Hpb.out⟩
        go_wp2_with fail
        go_ret
        exact ⟨_, rfl, Hany.out, Hb1.out⟩
      | false =>
        have Hall2 : Hid (∀ x ∈ l.take (i + 1), p x = false) := Lib.hid fun y hy => by
          rw [List.take_add_one, Hxi.out] at hy
          rcases List.mem_append.1 hy with h | h
          · exact Hall.out y h
          · have h9 : y = x := by simpa using h
            rw [h9]; exact Hpb.out
        go_wp2_with fail
        go_roundg g
        case measure => omega
        case rel => exact ⟨i + 1, by omega, by go_num, Hall2, Hc1, Hb1.out⟩
set_option maxRecDepth 100000 in
theorem anyStr_any {f : FuncId} {cap : Value} {Cap : World → Prop} {p : ByteArray → Bool} {OK : ByteArray → Prop} (enter : ∀ (a : Array Value) (w : World), (callFunc f a).run Tryd.prog w = .ok (.enter f a) w)
    (keepC : ∀ w w' : World, Cap w → Below w.heap.size w w' → Cap w')
    (clo : ∀ (x : ByteArray) (w : World), RString w [.string x] x → OK x → Cap w → Calls Tryd.prog f #[.string x, cap] w fun e w' => e = .returned (.bool (p x)) ∧ Below w.heap.size w w')
    (v : Value) (l : List ByteArray) (w : World) (h : RowAt RString 1 w v l) (hl : l.length ≤ 1073741824) (hok : ∀ x ∈ l, OK x) (hc : Cap w) : Calls Tryd.prog 83 #[v, .func (.func f) #[] #[cap]] w fun e w' => e = .returned (.bool (l.any p)) ∧ Below w.heap.size w w' := by
  have H := Lib.hid (idxStr_any enter keepC clo v l w h hl hok hc)
  obtain ⟨B, HB⟩ : ∃ B, Hid (l.any p = B) := ⟨_, Lib.hid rfl⟩
  rw [HB.out]
  clear h hc clo keepC enter
  go_enter Tryd.func83, Tryd.ntmps83
  go_wp2_with fail
  refine H.out.mono ?_
  rintro E w1 ⟨n, rfl, hn, hb⟩
  rw [HB.out] at hn
  have Hb := Lib.hid hb
  have Hn := Lib.hid hn
  clear hb hn H
  go_wp2_with fail
  go_ret
  exact ⟨congrArg (fun b => Ending.returned (Value.bool b)) Hn.out, Hb.out⟩
end Go.Proofs.YtlbolbkikkiifaaDoor
/- The walks of package name: isEdge, isLow, made, isName, isWord, judge, Check, CheckVal: what they give. -/
namespace Go.Proofs.YtlbolbkikkiifaaDoor
open Go.RowKit

theorem byteRanges (c : Nat) : c < 48 ∨ (48 ≤ c ∧ c ≤ 57) ∨ (57 < c ∧ c < 65) ∨ (65 ≤ c ∧ c ≤ 90) ∨ (90 < c ∧ c < 97) ∨ (97 ≤ c ∧ c ≤ 122) ∨ 122 < c := by omega

set_option maxHeartbeats 800000 in
theorem isEdge_any (c : Nat) (w : World) (_h8 : c < 256) :
    Calls Tryd.prog 130 #[.int .u8 (c : Int)] w fun e w' => e = .returned (.bool (NameP.edge c)) ∧ w = w' := by
  rcases byteRanges c with h | ⟨h, h'⟩ | ⟨h, h'⟩ | ⟨h, h'⟩ | ⟨h, h'⟩ | ⟨h, h'⟩ | h
  all_goals
    go_enter Tryd.func130, Tryd.ntmps130
    go_wp2
    go_ret
    exact ⟨congrArg (fun b => Ending.returned (.bool b)) (by unfold NameP.edge; rw [Bool.eq_iff_iff]; simp; omega), rfl⟩

set_option maxHeartbeats 800000 in
theorem isLow_any (c : Nat) (w : World) (h8 : c < 256) :
    Calls Tryd.prog 111 #[.int .u8 (c : Int)] w fun e w' => e = .returned (.bool (NameP.low c)) ∧ w = w' := by
  cases he : NameP.edge c with
  | false =>
    have He := Lib.hid he; clear he
    go_enter Tryd.func111, Tryd.ntmps111
    go_wp2_with fail
    refine (isEdge_any c _ h8).mono ?_
    rintro e w' ⟨rfl, rfl⟩
    rw [He.out]
    go_wp2
    go_ret
    exact ⟨congrArg (fun b => Ending.returned (.bool b)) (by simp [NameP.low, He.out]), rfl⟩
  | true =>
    have He := Lib.hid he; clear he
    by_cases h1 : c < 65
    · go_enter Tryd.func111, Tryd.ntmps111
      go_wp2_with fail
      refine (isEdge_any c _ h8).mono ?_
      rintro e w' ⟨rfl, rfl⟩
      rw [He.out]
      go_wp2
      go_ret
      exact ⟨congrArg (fun b => Ending.returned (.bool b)) (by unfold NameP.low; rw [He.out, Bool.eq_iff_iff]; simp; omega), rfl⟩
    · by_cases h2 : 90 < c
      · go_enter Tryd.func111, Tryd.ntmps111
        go_wp2_with fail
        refine (isEdge_any c _ h8).mono ?_
        rintro e w' ⟨rfl, rfl⟩
        rw [He.out]
        go_wp2
        go_ret
        exact ⟨congrArg (fun b => Ending.returned (.bool b)) (by unfold NameP.low; rw [He.out, Bool.eq_iff_iff]; simp; omega), rfl⟩
      · go_enter Tryd.func111, Tryd.ntmps111
        go_wp2_with fail
        refine (isEdge_any c _ h8).mono ?_
        rintro e w' ⟨rfl, rfl⟩
        rw [He.out]
        go_wp2
        go_ret
        exact ⟨congrArg (fun b => Ending.returned (.bool b)) (by unfold NameP.low; rw [He.out, Bool.eq_iff_iff]; simp; omega), rfl⟩
theorem dash_any (c : Nat) (w : World) (_h8 : c < 256) :
    Calls Tryd.prog 112 #[.int .u8 (c : Int)] w fun e w' => e = .returned (.bool (NameP.dash c)) ∧ w = w' := by
  by_cases h : c = 45
  · subst h
    go_enter Tryd.func112, Tryd.ntmps112
    go_wp2
    go_ret
    exact ⟨rfl, rfl⟩
  · have hc : ((c : Int) == 45) = false := by rw [beq_eq_false_iff_ne]; omega
    have Hc := Lib.hid h; clear h
    go_enter Tryd.func112, Tryd.ntmps112
    go_wp2
    go_ret
    exact ⟨congrArg (fun b => Ending.returned (.bool b)) (by simp [NameP.dash]; exact Hc.out), rfl⟩
end Go.Proofs.YtlbolbkikkiifaaDoor
/- The walks of name.made, isName, isWord, judge, Check, CheckVal. -/
namespace Go.Proofs.YtlbolbkikkiifaaDoor
open Go.RowKit

/-- a function on bytes that answers p and leaves the world alone -/
structure Tells (f : FuncId) (p : Nat → Bool) : Prop where
  enter : ∀ (a : Array Value) (w : World), (callFunc f a).run Tryd.prog w = .ok (.enter f a) w
  calls : ∀ (c : Nat) (w : World), c < 256 → Calls Tryd.prog f #[.int .u8 (c : Int)] w fun e w' => e = .returned (.bool (p c)) ∧ w = w'
theorem low_tells : Tells 111 NameP.low := ⟨run_callFunc_body Tryd.func111 (by kernel_rfl) (by kernel_rfl), fun c w h => isLow_any c w h⟩
theorem edge_tells : Tells 130 NameP.edge := ⟨run_callFunc_body Tryd.func130 (by kernel_rfl) (by kernel_rfl), fun c w h => isEdge_any c w h⟩
theorem dash_tells : Tells 112 NameP.dash := ⟨run_callFunc_body Tryd.func112 (by kernel_rfl) (by kernel_rfl), fun c w h => dash_any c w h⟩

theorem made_nil {e v : Nat → Bool} {s : ByteArray} (h : s.toList = []) : NameP.made e v s.data.toList = false := by
  rw [ByteArray.toList_eq] at h; rw [h]; rfl

theorem made_cons {p q : Nat → Bool} (s : ByteArray) (h : 1 ≤ s.size) :
    NameP.made p q s.data.toList = (p s[0].toNat && p s[s.size - 1].toNat && s.data.toList.all fun c => p c.toNat || q c.toNat) := by
  have hl : s.data.toList.length = s.size := by simp
  have h0 : s.data.toList[0]? = some s[0] := by rw [List.getElem?_eq_getElem (by omega)]; rfl
  have h1 : s.data.toList.getLast? = some s[s.size - 1] := by
    rw [List.getLast?_eq_getElem?, hl, List.getElem?_eq_getElem (by omega)]; rfl
  cases hd : s.data.toList with
  | nil => rw [hd] at hl; simp at hl; omega
  | cons x r =>
    rw [hd] at h0 h1
    simp only [List.getElem?_cons_zero, Option.some.injEq] at h0
    rw [List.getLast?_eq_some_getLast (by simp)] at h1
    simp only [Option.some.injEq] at h1
    unfold NameP.made
    rw [← h0, ← h1]

theorem all_snoc {s : ByteArray} {k : Nat} {f : UInt8 → Bool} (h : k < s.size) (ha : Hid ((s.data.toList.take k).all f = true)) (hk : f s[k] = true) : Hid ((s.data.toList.take (k + 1)).all f = true) := by
  show _ = _
  rw [take_snoc s k h, List.all_append, ha.out]
  simp [hk]
theorem all_not {s : ByteArray} {k : Nat} {f : UInt8 → Bool} (h : k < s.size) (hk : f s[k] = false) : s.data.toList.all f = false := by
  rw [List.all_eq_false]
  refine ⟨s[k], ?_, by rw [hk]; simp⟩
  have : s[k] = s.data.toList[k]'(by simpa using h) := rfl
  rw [this]
  exact List.getElem_mem _

set_option maxRecDepth 100000 in
set_option maxHeartbeats 1600000 in
theorem made_any {ef vf : FuncId} {p q : Nat → Bool} (hp : Tells ef p) (hq : Tells vf q) (s : ByteArray) (w : World) (hs : s.size ≤ 1099511627776) :
    Calls Tryd.prog 110 #[.string s, .func (.func ef) #[] #[], .func (.func vf) #[] #[]] w fun e w' => e = .returned (.bool (NameP.made p q s.data.toList)) ∧ w = w' := by
  by_cases h0 : s.size = 0
  · have hl : s.toList = [] := by rw [ByteArray.toList_eq]; exact List.eq_nil_of_length_eq_zero (by simpa using h0)
    have Hm := Lib.hid (made_nil (e := p) (v := q) hl)
    have hle : s.toList.isEmpty = true := by rw [hl]; rfl
    clear h0
    go_enter Tryd.func110, Tryd.ntmps110
    go_wp2
    go_ret
    exact ⟨by rw [Hm.out]; rfl, rfl⟩
  · have h1 : 1 ≤ s.size := by omega
    have hne : (!s.toList.isEmpty) = true := by
      rw [ByteArray.toList_eq]
      have hl : s.data.toList.length = s.size := by simp
      cases hd : s.data.toList with | nil => rw [hd] at hl; simp at hl; omega | cons x r => rfl
    have hne2 : s.toList.isEmpty = false := by simpa using hne
    have HM := Lib.hid (made_cons (p := p) (q := q) s h1)
    clear h0
    have c0 : s[0].toNat < 256 := s[0].toNat_lt
    have cl : s[s.size - 1].toNat < 256 := s[s.size - 1].toNat_lt
    have i0 : (0 : Int) < (s.size : Int) := by omega
    have i1 : (0 : Int) ≤ (s.size : Int) - 1 := by omega
    have i2 : (s.size : Int) - 1 < (s.size : Int) := by omega
    have i3 : ((s.size : Int) - 1).toNat = s.size - 1 := by omega
    have ep := hp.enter
    have eq := hq.enter
    cases h2 : p s[0].toNat with
    | false =>
      have H2 := Lib.hid h2; clear h2
      go_enter Tryd.func110, Tryd.ntmps110
      go_wp2_with fail
      refine (hp.calls _ _ c0).mono ?_
      rintro e w' ⟨rfl, rfl⟩
      rw [H2.out]
      go_wp2_with fail
      go_ret
      exact ⟨congrArg (fun b => Ending.returned (.bool b)) (by rw [HM.out, H2.out]; rfl), rfl⟩
    | true =>
      have H2 := Lib.hid h2; clear h2
      cases h3 : p s[s.size - 1].toNat with
      | false =>
        have H3 := Lib.hid h3; clear h3
        go_enter Tryd.func110, Tryd.ntmps110
        go_wp2_with fail
        refine (hp.calls _ _ c0).mono ?_
        rintro e w' ⟨rfl, rfl⟩
        rw [H2.out]
        go_wp2_with fail
        refine (hp.calls _ _ cl).mono ?_
        rintro e w' ⟨rfl, rfl⟩
        rw [H3.out]
        go_wp2_with fail
        go_ret
        exact ⟨congrArg (fun b => Ending.returned (.bool b)) (by rw [HM.out, H2.out, H3.out]; rfl), rfl⟩
      | true =>
        have H3 := Lib.hid h3; clear h3
        go_enter Tryd.func110, Tryd.ntmps110
        go_wp2_with fail
        refine (hp.calls _ _ c0).mono ?_
        rintro e w' ⟨rfl, rfl⟩
        rw [H2.out]
        go_wp2_with fail
        refine (hp.calls _ _ cl).mono ?_
        rintro e w' ⟨rfl, rfl⟩
        rw [H3.out]
        go_wp2_with fail
        go_loop [29] (fun i => ∃ k : Nat, k ≤ s.size ∧ i = .int .i64 k ∧ Hid (((s.data.toList.take k).all fun c => p c.toNat || q c.toNat) = true)) (fun i => s.size - (intOf i).toNat)
        case atStart => exact ⟨0, Nat.zero_le _, rfl, by show _ = _; simp⟩
        case round =>
          obtain ⟨k, hk, rfl, HA⟩ := hrel
          by_cases hlt : k < s.size
          · have ck : s[k].toNat < 256 := s[k].toNat_lt
            have j0 : (0 : Int) ≤ (k : Int) := by omega
            have j1 : (k : Int) < (s.size : Int) := by omega
            cases h4 : p s[k].toNat with
            | true =>
              have H4 := Lib.hid h4; clear h4
              go_wp2_with fail
              refine (hp.calls _ _ ck).mono ?_
              rintro e w' ⟨rfl, rfl⟩
              rw [H4.out]
              go_wp2_with fail
              go_round
              case rel => exact ⟨k + 1, by omega, by go_num, all_snoc hlt HA (by rw [H4.out]; rfl)⟩
              case measure => simp [intOf]; omega
            | false =>
              have H4 := Lib.hid h4; clear h4
              cases h5 : q s[k].toNat with
              | true =>
                have H5 := Lib.hid h5; clear h5
                go_wp2_with fail
                refine (hp.calls _ _ ck).mono ?_
                rintro e w' ⟨rfl, rfl⟩
                rw [H4.out]
                go_wp2_with fail
                refine (hq.calls _ _ ck).mono ?_
                rintro e w' ⟨rfl, rfl⟩
                rw [H5.out]
                go_wp2_with fail
                go_round
                case rel => exact ⟨k + 1, by omega, by go_num, all_snoc hlt HA (by rw [H4.out, H5.out]; rfl)⟩
                case measure => simp [intOf]; omega
              | false =>
                have H5 := Lib.hid h5; clear h5
                go_wp2_with fail
                refine (hp.calls _ _ ck).mono ?_
                rintro e w' ⟨rfl, rfl⟩
                rw [H4.out]
                go_wp2_with fail
                refine (hq.calls _ _ ck).mono ?_
                rintro e w' ⟨rfl, rfl⟩
                rw [H5.out]
                go_wp2_with fail
                go_ret
                exact ⟨congrArg (fun b => Ending.returned (.bool b)) (by rw [HM.out, all_not hlt (by rw [H4.out, H5.out]; rfl)]; simp), rfl⟩
          · go_wp2_with fail
            go_ret
            refine ⟨congrArg (fun b => Ending.returned (.bool b)) ?_, rfl⟩
            have := HA.out
            rw [List.take_of_length_le (by simp; omega)] at this
            rw [HM.out, H2.out, H3.out, this]; rfl

set_option maxHeartbeats 800000 in
theorem judge_any (s : ByteArray) (most : Nat) (b : Bool) (w : World) (_hs : s.size ≤ 1099511627776) (_hm : most ≤ 1000) :
    Calls Tryd.prog 88 #[.string s, .int .i64 (most : Int), .bool b] w fun e w' => e = .returned (.int .i64 (NameP.judge s.size most b)) ∧ w = w' := by
  by_cases h : most < s.size
  · go_enter Tryd.func88, Tryd.ntmps88
    go_wp2
    go_ret
    exact ⟨congrArg (fun b => Ending.returned (.int .i64 b)) (by unfold NameP.judge; rw [if_pos h]), rfl⟩
  · cases b
    all_goals
      go_enter Tryd.func88, Tryd.ntmps88
      go_wp2
      go_ret
      exact ⟨congrArg (fun b => Ending.returned (.int .i64 b)) (by unfold NameP.judge; rw [if_neg h]; rfl), rfl⟩

theorem isName_any (s : ByteArray) (w : World) (hs : s.size ≤ 1099511627776) :
    Calls Tryd.prog 89 #[.string s] w fun e w' => e = .returned (.bool (NameP.isName s.data.toList)) ∧ w = w' := by
  go_enter Tryd.func89, Tryd.ntmps89
  go_wp2_with fail
  refine (made_any low_tells dash_tells s _ hs).mono ?_
  rintro e w' ⟨rfl, rfl⟩
  go_wp2_with fail
  go_ret
  exact ⟨rfl, rfl⟩

theorem check_any (s : ByteArray) (w : World) (hs : s.size ≤ 1099511627776) :
    Calls Tryd.prog 65 #[.string s] w fun e w' => e = .returned (.int .i64 (NameP.check s.data.toList)) ∧ w = w' := by
  go_enter Tryd.func65, Tryd.ntmps65
  go_wp2_with fail
  refine (isName_any s _ hs).mono ?_
  rintro e w' ⟨rfl, rfl⟩
  go_wp2_with fail
  refine (judge_any s 63 _ _ hs (by omega)).mono ?_
  rintro e w' ⟨rfl, rfl⟩
  go_wp2_with fail
  go_ret
  exact ⟨by simp [NameP.check], rfl⟩
end Go.Proofs.YtlbolbkikkiifaaDoor
/- One block may have turned, no other that was there. Any program. -/
namespace Go.Proofs.YtlbolbkikkiifaaDoor
open Go.RowKit

/-- one block may have turned, no other that was there -/
structure But (g : Nat) (w w' : World) : Prop where
  os : w'.os = w.os
  tape : w'.tape = w.tape
  output : w'.output = w.output
  size : w.heap.size ≤ w'.heap.size
  block : ∀ k, k < w.heap.size → k ≠ g → w'.heap[k]? = w.heap[k]?
theorem But.refl (g : Nat) (w : World) : But g w w := ⟨rfl, rfl, rfl, Nat.le_refl _, fun _ _ _ => rfl⟩
theorem But.trans {g : Nat} {a b c : World} (h : But g a b) (k : But g b c) : But g a c :=
  ⟨k.os.trans h.os, k.tape.trans h.tape, k.output.trans h.output, Nat.le_trans h.size k.size, fun q hq hn => (k.block q (Nat.lt_of_lt_of_le hq h.size) hn).trans (h.block q hq hn)⟩
theorem But.of {g : Nat} {w w' : World} (h : Below w.heap.size w w') : But g w w' := ⟨h.os, h.tape, h.output, h.size, fun k hk _ => h.block k hk⟩
theorem But.touch {g : Nat} {w w' : World} (h : Touch g w w') : But g w w' := ⟨h.os, h.tape, h.output, by rw [h.size]; exact Nat.le_refl _, fun k _ hn => h.other k hn⟩
theorem But.below {g B : Nat} {a w w' : World} (h : But g w w') (hb : Below B a w) (hB : B ≤ w.heap.size) (hg : B ≤ g) : Below B a w' :=
  hb.trans ⟨h.os, h.tape, h.output, h.size, fun k hk => h.block k (by omega) (by omega)⟩
theorem But.keep {g k : Nat} {w w' : World} {x : Obj} (h : But g w w') (hx : w.heap[k]? = some x) (hn : k ≠ g) : w'.heap[k]? = some x := by
  have hb : k < w.heap.size := by
    rcases Nat.lt_or_ge k w.heap.size with h1 | h1
    · exact h1
    · rw [Array.getElem?_eq_none h1] at hx; cases hx
  exact (h.block k hb hn).trans hx
theorem But.cell {g : Nat} {w w' : World} {p : Addr} (h : But g w w') (hp : p.block < w.heap.size) (hn : p.block ≠ g) : w'.cell? p = w.cell? p := by
  unfold World.cell?
  rw [h.block _ hp hn]
section
variable {α : Type} {R : Rd α} {k : Nat} {e : TypeId} {v : Value} {l : List α} {B g : Nat} {w w' : World}
theorem OwnAt.but (hf : Flat R) (h : OwnAt R k w B e v l) (hb : But g w w') (hne : ∀ q, v.ownBlock = some q → q ≠ g) : OwnAt R k w' B e v l := by
  obtain ⟨css, h1, h2, h3, h4⟩ := h
  refine ⟨css, h1, h2, ⟨h3.1, ?_⟩, fun j cs y hcs hy => hf _ _ _ _ (h4 j cs y hcs hy)⟩
  rcases h3.2 with h5 | ⟨q, cap, cur, rfl, hB, hh, hr⟩
  · exact .inl h5
  · exact .inr ⟨q, cap, cur, rfl, hB, hb.keep hh (hne q rfl), hr⟩
theorem OwnAt.butLow (hf : Flat R) (h : OwnAt R k w B e v l) (hb : But g w w') (hg : g < B) : OwnAt R k w' B e v l :=
  h.but hf hb fun q hq => by have := (h.at hq).1; omega
end
end Go.Proofs.YtlbolbkikkiifaaDoor
/- grants: the checker's methods: what becomes of the first thing that is wrong. -/
namespace Go.Proofs.YtlbolbkikkiifaaDoor
open Go.RowKit

/-- the first thing that was wrong lies there -/
def IsBad (g : Nat) (w : World) (b : Int) : Prop := w.heap[g]? = some (.cells #[.int .i64 b] 84 (0, 0))
theorem IsBad.below {g : Nat} {w w' : World} {b : Int} (h : IsBad g w b) (hb : Below w.heap.size w w') : IsBad g w' b := below_block hb h
/-- what a checker's method does -/
def Said (g : Nat) (b : Int) (w : World) (E : Ending) (w' : World) : Prop := E = .returned (.tuple #[]) ∧ IsBad g w' b ∧ But g w w'

set_option maxRecDepth 100000 in
theorem says_any (g : Nat) (b e : Int) (w : World) (h : IsBad g w b) : Calls Tryd.prog 37 #[.pointer (some ⟨g, 0, none⟩), .int .i64 e] w (Said g (says b e) w) := by
  have h' : w.heap[g]? = some (.cells #[.int .i64 b] 84 (0, 0)) := h
  have c0 : w.cell? ⟨g, 0, none⟩ = some (.int .i64 b) := cell_block h' 0
  have z0 : w.frozen? ⟨g, 0, none⟩ = false := free_block h' 0
  have Hh := Lib.hid h'
  clear h h'
  by_cases hb : b = 0
  · subst hb
    go_enter Tryd.func37, Tryd.ntmps37
    go_wp2_with fail
    obtain ⟨t1, t2⟩ := touch_setCell (i := 0) (v := .int .i64 e) Hh.out
    go_end0
    exact ⟨rfl, by rw [zero_says]; exact t1, But.touch t2⟩
  · have q : (b == 0) = false := by rw [beq_eq_false_iff_ne]; exact hb
    have Hs : Hid (says b e = b) := by show _ = _; unfold says; rw [if_neg hb]
    clear hb
    go_enter Tryd.func37, Tryd.ntmps37
    go_wp2_with fail
    go_end0
    exact ⟨rfl, by rw [Hs.out]; exact Hh.out, But.refl _ _⟩
set_option maxRecDepth 100000 in
theorem need_any (g : Nat) (b : Int) (is : Bool) (e : Int) (w : World) (h : IsBad g w b) : Calls Tryd.prog 63 #[.pointer (some ⟨g, 0, none⟩), .bool is, .int .i64 e] w (Said g (says b (need is e)) w) := by
  have H := Lib.hid h
  clear h
  cases is with
  | true =>
    have Hs : Hid (says b (need true e) = b) := by show _ = _; exact says_zero b
    rw [Hs.out]
    go_enter Tryd.func63, Tryd.ntmps63
    go_wp2_with fail
    go_end0
    exact ⟨rfl, H.out, But.refl _ _⟩
  | false =>
    have Hs : Hid (says b (need false e) = says b e) := by show _ = _; rfl
    rw [Hs.out]
    go_enter Tryd.func63, Tryd.ntmps63
    go_wp2_with fail
    refine (says_any g b e w H.out).mono ?_
    rintro E w1 ⟨rfl, h1, h2⟩
    have H1 := Lib.hid h1
    have H2 := Lib.hid h2
    clear h1 h2 Hs
    go_wp2_with fail
    go_end0
    exact ⟨rfl, H1.out, H2.out⟩
set_option maxRecDepth 100000 in
theorem space_any (g : Nat) (b : Int) (s : ByteArray) (w : World) (h : IsBad g w b) (hs : s.size ≤ 1099511627776) : Calls Tryd.prog 54 #[.pointer (some ⟨g, 0, none⟩), .string s] w (Said g (says b (spaceC s)) w) := by
  have H := Lib.hid h
  clear h
  by_cases h0 : s.size = 0
  · have q : s.toList = [] := by rw [ByteArray.toList_eq]; exact List.eq_nil_of_length_eq_zero (by simpa using h0)
    have Hs : Hid (says b (spaceC s) = b) := by show _ = _; unfold spaceC; rw [if_pos h0]; exact says_zero b
    have q2 : s.toList.isEmpty = true := by rw [q]; rfl
    rw [Hs.out]
    clear h0
    go_enter Tryd.func54, Tryd.ntmps54
    go_wp2_with fail
    go_end0
    exact ⟨rfl, H.out, But.refl _ _⟩
  · have q : (!s.toList.isEmpty) = true := by
      rw [ByteArray.toList_eq]
      have hl : s.data.toList.length = s.size := by simp
      cases hd : s.data.toList with | nil => rw [hd] at hl; simp at hl; omega | cons x r => rfl
    have q2 : s.toList.isEmpty = false := by simpa using q
    have Hs : Hid (says b (spaceC s) = says b (NameP.check s.data.toList)) := by show _ = _; unfold spaceC; rw [if_neg h0]
    obtain ⟨cd, Hcd⟩ : ∃ cd, Hid (NameP.check s.data.toList = cd) := ⟨_, Lib.hid rfl⟩
    rw [Hs.out, Hcd.out]
    clear h0
    go_enter Tryd.func54, Tryd.ntmps54
    go_wp2_with fail
    refine (check_any s w hs).mono ?_
    rintro E w1 ⟨rfl, rfl⟩
    rw [Hcd.out]
    go_wp2_with fail
    refine (says_any g b cd w H.out).mono ?_
    rintro E w1 ⟨rfl, h1, h2⟩
    have H1 := Lib.hid h1
    have H2 := Lib.hid h2
    clear h1 h2 Hs
    go_wp2_with fail
    go_end0
    exact ⟨rfl, H1.out, H2.out⟩
theorem starB_list : starB.toList = [42] := by decide +kernel
set_option maxRecDepth 100000 in
set_option maxHeartbeats 800000 in
theorem names_any (g : Nat) (b : Int) (v : Value) (l : List ByteArray) (st : Bool) (w : World) (h : IsBad g w b) (hv : StrAt w v l) (hne : 0 < l.length → ∀ a n c, v = .slice (some a) n c → a.block ≠ g) (hx : ∀ x ∈ l, x.size ≤ 1099511627776) (hl : l.length ≤ 1073741824) :
    Calls Tryd.prog 57 #[.pointer (some ⟨g, 0, none⟩), v, .bool st] w (Said g (says b (namesC st l)) w) := by
  have hrow := hv.row
  obtain ⟨a1, c1, rfl, _, _⟩ := hrow.len
  have H := Lib.hid h
  have HV := Lib.hid hrow
  have Hne := Lib.hid hne
  have Hx := Lib.hid hx
  clear h hv hne hx hrow
  go_enter Tryd.func57, Tryd.ntmps57
  go_wp2_with fail
  go_loopg [10] l.length (fun k u10 wr => ∃ i : Nat, i + k = l.length ∧ u10 = .int .i64 (i : Int) ∧ Hid (IsBad g wr (says b (firstBad ((l.map (nameC st)).take i)))) ∧ Hid (But g w wr))
  case atStart => exact ⟨0, by omega, rfl, Lib.hid (by rw [List.take_zero]; exact (says_zero b).symm ▸ H.out), Lib.hid (But.refl _ _)⟩
  case round =>
    obtain ⟨i, hig, rfl, Hbad, Hbut⟩ := hrel
    cases gk with
    | zero =>
      obtain rfl : i = l.length := by omega
      have Hend : Hid (IsBad g wr (says b (namesC st l))) := by
        have h9 := Hbad.out
        rw [List.take_of_length_le (by simp)] at h9
        exact Lib.hid h9
      go_wp2_with fail
      go_end0
      exact ⟨rfl, Hend.out, Hbut.out⟩
    | succ k =>
      have hil : i < l.length := by omega
      obtain ⟨s, hsi⟩ : ∃ s, l[i]? = some s := ⟨l[i]'(by omega), List.getElem?_eq_getElem _⟩
      obtain ⟨bk, o, c', hv, _, _, hbs, hcell⟩ := HV.out.form (by omega) (by omega)
      have hbg := Hne.out (by omega) _ _ _ hv
      cases hv
      obtain ⟨ds, _, hcc, hR⟩ := hcell i s hsi
      obtain rfl : ds = [.string s] := hR
      have e0 : wr.cell? ⟨bk, o + i, none⟩ = some (.string s) := (Hbut.out.cell (p := ⟨bk, o + i, none⟩) hbs hbg).trans (by simpa using hcc 0 _ rfl)
      have q1 : (0 : Int) ≤ (i : Int) := by omega
      have q2 : (i : Int) < (l.length : Int) := by omega
      have hss := Hx.out s (List.mem_of_getElem? hsi)
      have Hnext : Hid (says b (firstBad ((l.map (nameC st)).take (i + 1))) = says (says b (firstBad ((l.map (nameC st)).take i))) (nameC st s)) := by
        show _ = _
        rw [firstBad_take (e := nameC st s) (by rw [List.getElem?_map, hsi]; rfl), says_assoc]
      clear hcc hcell hsi hbg
      by_cases hskip : st = true ∧ s = starB
      · obtain ⟨rfl, rfl⟩ := hskip
        have q3 : starB.toList = [42] := starB_list
        have Hn2 : Hid (says b (firstBad ((l.map (nameC true)).take (i + 1))) = says b (firstBad ((l.map (nameC true)).take i))) := by
          show _ = _
          rw [Hnext.out]
          exact says_zero _
        go_wp2_with fail
        go_roundg k
        case measure => omega
        case rel => exact ⟨i + 1, by omega, by go_num, Lib.hid (by rw [Hn2.out]; exact Hbad.out), Hbut⟩
      · have Hn2 : Hid (nameC st s = NameP.check s.data.toList) := by show _ = _; unfold nameC; rw [if_neg hskip]
        have q3 : st = true → (s.toList == [42]) = false := fun h => by
          rw [beq_eq_false_iff_ne]
          intro h2
          exact hskip ⟨h, toList_inj (by rw [h2, starB_list])⟩
        clear hskip
        obtain ⟨cd, Hcd⟩ : ∃ cd, Hid (NameP.check s.data.toList = cd) := ⟨_, Lib.hid rfl⟩
        rw [Hn2.out, Hcd.out] at Hnext
        cases st
        all_goals
          go_wp2_with fail
          refine (check_any s wr hss).mono ?_
          rintro E w1 ⟨rfl, rfl⟩
          rw [Hcd.out]
          go_wp2_with fail
          refine (says_any g _ cd wr Hbad.out).mono ?_
          rintro E w1 ⟨rfl, h1, h2⟩
          have H1 := Lib.hid h1
          have H2 := Lib.hid (Hbut.out.trans h2)
          clear h1 h2 e0
          go_wp2_with fail
          go_roundg k
          case measure => omega
          case rel => exact ⟨i + 1, by omega, by go_num, Lib.hid (by rw [Hnext.out]; exact H1.out), H2⟩
end Go.Proofs.YtlbolbkikkiifaaDoor
/- grants: what is checked of rules: their contracts. -/
namespace Go.Proofs.YtlbolbkikkiifaaDoor
open Go.RowKit

def okS (l : List ByteArray) : Prop := l.length ≤ 1048576 ∧ ∀ x ∈ l, x.size ≤ 1048576
def okRule (r : GRule) : Prop := okS r.verbs ∧ okS r.kinds ∧ okS r.names
theorem strs_ne {w0 : World} {v : Value} {l : List ByteArray} {g : Nat} (h : StrAt w0 v l) (hg : w0.heap.size ≤ g) : 0 < l.length → ∀ a n c, v = .slice (some a) n c → a.block ≠ g := by
  intro hl a n c hv
  obtain ⟨b, o, c', hv', _, _, hb, _⟩ := h.row.form hl (by omega)
  rw [hv] at hv'
  cases hv'
  show b ≠ g
  omega
theorem StrAt.below' {w w' : World} {v : Value} {l : List ByteArray} (h : StrAt w v l) (hb : Below w.heap.size w w') : StrAt w' v l := h.keep (keeps_below hb)
theorem names0_any (g : Nat) (b : Int) (v : Value) (l : List ByteArray) (st : Bool) (w0 w : World) (h : IsBad g w b) (hb0 : Below w0.heap.size w0 w) (hg : w0.heap.size ≤ g) (hv : StrAt w0 v l) (hx : okS l) :
    Calls Tryd.prog 57 #[.pointer (some ⟨g, 0, none⟩), v, .bool st] w (Said g (says b (namesC st l)) w) :=
  names_any g b v l st w h (hv.below' hb0) (strs_ne hv hg) (fun x hxm => by have := hx.2 x hxm; omega) (by have := hx.1; omega)
set_option maxRecDepth 100000 in
set_option maxHeartbeats 800000 in
theorem rule_any (g : Nat) (b : Int) (y0 y1 y2 : Value) (r : GRule) (w0 w : World) (h : IsBad g w b) (hb0 : Below w0.heap.size w0 w) (hg : w0.heap.size ≤ g) (hr : RuleR w0 [y0, y1, y2] r) (hok : okRule r) :
    Calls Tryd.prog 64 #[.pointer (some ⟨g, 0, none⟩), .agg #[y0, y1, y2]] w (Said g (says b (ruleC r)) w) := by
  obtain ⟨_, _, _, hcs, s0, s1, s2⟩ := hr
  simp only [List.cons.injEq, and_true] at hcs
  obtain ⟨rfl, rfl, rfl⟩ := hcs
  obtain ⟨a0, c0, rfl, _, _⟩ := s0.row.len
  obtain ⟨a1, c1, rfl, _, _⟩ := s1.row.len
  obtain ⟨a2, c2, rfl, _, _⟩ := s2.row.len
  have S0 := Lib.hid s0
  have S1 := Lib.hid s1
  have S2 := Lib.hid s2
  have Hok := Lib.hid hok
  have hgw : g < w.heap.size := by
    rcases Nat.lt_or_ge g w.heap.size with h1 | h1
    · exact h1
    · unfold IsBad at h; rw [Array.getElem?_eq_none h1] at h; cases h
  have H := Lib.hid h
  have Hb0 := Lib.hid hb0
  have hs0 := hb0.size
  have Hres : Hid (says b (ruleC r) = says (says (says (says (says b (need (smallR r) 2)) (need (fullR r) 1)) (namesC true r.verbs)) (namesC true r.kinds)) (namesC false r.names)) := by
    show _ = _; unfold ruleC; simp only [says_assoc]
  obtain ⟨nv, Hnv⟩ : ∃ n, Hid (r.verbs.length = n) := ⟨_, Lib.hid rfl⟩
  obtain ⟨nk, Hnk⟩ : ∃ n, Hid (r.kinds.length = n) := ⟨_, Lib.hid rfl⟩
  obtain ⟨nn, Hnn⟩ : ∃ n, Hid (r.names.length = n) := ⟨_, Lib.hid rfl⟩
  rw [Hres.out]
  obtain ⟨sm, Hsm⟩ : ∃ sm, Hid (smallR r = sm) := ⟨_, Lib.hid rfl⟩
  obtain ⟨fu, Hfu⟩ : ∃ fu, Hid (fullR r = fu) := ⟨_, Lib.hid rfl⟩
  rw [Hsm.out, Hfu.out]
  rw [Hnv.out] at S0 ⊢
  rw [Hnk.out] at S1 ⊢
  rw [Hnn.out] at S2 ⊢
  clear s0 s1 s2 hok h hb0 Hres
  go_enter Tryd.func64, Tryd.ntmps64
  go_upto_region 1 with fail
  obtain ⟨w1, hw1⟩ : ∃ w1, w1 = w.alloc (.cells #[.slice a0 nv c0, .slice a1 nk c1, .slice a2 nn c2] 30) := ⟨_, rfl⟩
  obtain ⟨gb, hgb⟩ : ∃ gb, gb = w.heap.size := ⟨_, rfl⟩
  rw [← hw1, ← hgb]
  have b1 : w1.heap[gb]? = some (.cells #[.slice a0 nv c0, .slice a1 nk c1, .slice a2 nn c2] 30 (0, 0)) := by rw [hw1, hgb]; exact heap_alloc_new w _
  have hb1 : Below w.heap.size w w1 := by rw [hw1]; exact (Below.refl _ _).alloc (Nat.le_refl _) _
  have hs1 : gb < w1.heap.size := by rw [hw1, hgb]; simp
  have hne : gb ≠ g := by omega
  have B1 := Lib.hid b1
  have H1 := Lib.hid (H.out.below hb1)
  have Hb1 := Lib.hid hb1
  have Hb01 := Lib.hid (Hb0.out.trans (hb1.mono hs0))
  have hs01 : w0.heap.size ≤ w1.heap.size := by have := hb1.size; omega
  have cc := fun i => cell_block b1 i
  clear hw1 hgb b1 hb1 H
  go_cut [20] (fun u20 wx => Hid (IsBad g wx (says b (need sm 2))) ∧ Hid (But g w1 wx))
  case first =>
    have way : (decide ((nv : Int) ≤ 6) = false ∧ smallR r = false) ∨ (decide ((nv : Int) ≤ 6) = true ∧ decide ((nk : Int) ≤ 6) = false ∧ smallR r = false) ∨ (decide ((nv : Int) ≤ 6) = true ∧ decide ((nk : Int) ≤ 6) = true ∧ decide ((nn : Int) ≤ 6) = false ∧ smallR r = false) ∨ (decide ((nv : Int) ≤ 6) = true ∧ decide ((nk : Int) ≤ 6) = true ∧ decide ((nn : Int) ≤ 6) = true ∧ smallR r = true) := by
      have e : smallR r = (decide (nv ≤ 6) && (decide (nk ≤ 6) && decide (nn ≤ 6))) := by unfold smallR; rw [Hnv.out, Hnk.out, Hnn.out]
      rw [e]
      simp only [decide_eq_true_eq, decide_eq_false_iff_not, Bool.and_eq_true, Bool.and_eq_false_iff]
      omega
    rw [Hsm.out] at way
    rcases way with ⟨p1, rfl⟩ | ⟨p1, p2, rfl⟩ | ⟨p1, p2, p3, rfl⟩ | ⟨p1, p2, p3, rfl⟩
    all_goals
      go_wp2_with fail
      refine (need_any g b _ 2 w1 H1.out).mono ?_
      rintro E w2 ⟨rfl, h1, h2⟩
      have Hx1 := Lib.hid h1
      have Hx2 := Lib.hid h2
      clear h1 h2
      go_wp2_with fail
      go_meet
      exact ⟨Hx1, Hx2⟩
  case rest =>
  obtain ⟨wx, rfl⟩ : ∃ wx, wx = wc := ⟨_, rfl⟩
  obtain ⟨Hx1, Hx2⟩ := hcut
  clear cc
  have cc := fun i => cell_block (Hx2.out.keep B1.out hne) i
  go_upto_region 2 with fail
  go_cut [32] (fun u32 wy => Hid (IsBad g wy (says (says b (need sm 2)) (need fu 1))) ∧ Hid (But g w1 wy))
  case first =>
    have way : (decide (0 < nv) = false ∧ fullR r = false) ∨ (decide (0 < nv) = true ∧ decide (0 < nk) = false ∧ fullR r = false) ∨ (decide (0 < nv) = true ∧ decide (0 < nk) = true ∧ fullR r = true) := by
      have e : fullR r = (decide (0 < nv) && decide (0 < nk)) := by unfold fullR; rw [Hnv.out, Hnk.out]
      rw [e]
      simp only [decide_eq_true_eq, decide_eq_false_iff_not, Bool.and_eq_true, Bool.and_eq_false_iff]
      omega
    rw [Hfu.out] at way
    rcases way with ⟨p1, rfl⟩ | ⟨p1, p2, rfl⟩ | ⟨p1, p2, rfl⟩
    all_goals
      go_wp2_with fail
      refine (need_any g _ _ 1 wx Hx1.out).mono ?_
      rintro E w2 ⟨rfl, h1, h2⟩
      have Hy1 := Lib.hid h1
      have Hy2 := Lib.hid (Hx2.out.trans h2)
      clear h1 h2
      go_wp2_with fail
      go_meet
      exact ⟨Hy1, Hy2⟩
  case rest =>
  obtain ⟨wy, rfl⟩ : ∃ wy, wy = wc := ⟨_, rfl⟩
  obtain ⟨Hy1, Hy2⟩ := hcut
  clear cc Hx1 Hx2
  have cc := fun i => cell_block (Hy2.out.keep B1.out hne) i
  go_wp2_with fail
  refine (names0_any g _ _ r.verbs true w0 wy Hy1.out (Hy2.out.below Hb01.out (by omega) hg) hg S0.out Hok.out.1).mono ?_
  rintro E w4 ⟨rfl, h1, h2⟩
  have Hz1 := Lib.hid h1
  have Hz2 := Lib.hid (Hy2.out.trans h2)
  clear cc h1 h2
  have cc := fun i => cell_block (Hz2.out.keep B1.out hne) i
  go_wp2_with fail
  refine (names0_any g _ _ r.kinds true w0 w4 Hz1.out (Hz2.out.below Hb01.out (by omega) hg) hg S1.out Hok.out.2.1).mono ?_
  rintro E w5 ⟨rfl, h1, h2⟩
  have Ha1 := Lib.hid h1
  have Ha2 := Lib.hid (Hz2.out.trans h2)
  clear cc h1 h2
  have cc := fun i => cell_block (Ha2.out.keep B1.out hne) i
  go_wp2_with fail
  refine (names0_any g _ _ r.names false w0 w5 Ha1.out (Ha2.out.below Hb01.out (by omega) hg) hg S2.out Hok.out.2.2).mono ?_
  rintro E w6 ⟨rfl, h1, h2⟩
  have Hc1 := Lib.hid h1
  have Hc2 := Lib.hid ((But.of Hb1.out).trans (Ha2.out.trans h2))
  clear cc h1 h2
  go_wp2_with fail
  go_end0
  exact ⟨rfl, Hc1.out, Hc2.out⟩
set_option maxRecDepth 100000 in
set_option maxHeartbeats 800000 in
theorem rules_any (g : Nat) (b : Int) (v : Value) (l : List GRule) (w0 w : World) (h : IsBad g w b) (hb0 : Below w0.heap.size w0 w) (hg : w0.heap.size ≤ g) (hr : RowAt RuleR 3 w0 v l) (hl : l.length ≤ 1048576) (hok : ∀ r ∈ l, okRule r) :
    Calls Tryd.prog 38 #[.pointer (some ⟨g, 0, none⟩), v] w (Said g (says b (rulesC l)) w) := by
  obtain ⟨a1, c1, rfl, _, _⟩ := hr.len
  have HR := Lib.hid hr
  have Hok := Lib.hid hok
  have H := Lib.hid h
  have Hb0 := Lib.hid hb0
  have hs0 := hb0.size
  have hgw : g < w.heap.size := by
    rcases Nat.lt_or_ge g w.heap.size with h1 | h1
    · exact h1
    · unfold IsBad at h; rw [Array.getElem?_eq_none h1] at h; cases h
  have Hres : Hid (says b (rulesC l) = says (says b (need (decide (l.length ≤ 8)) 2)) (firstBad (l.map ruleC))) := by
    show _ = _; unfold rulesC; simp only [says_assoc]
  obtain ⟨b1, Hb1⟩ : ∃ b1, Hid (says b (need (decide (l.length ≤ 8)) 2) = b1) := ⟨_, Lib.hid rfl⟩
  rw [Hres.out, Hb1.out]
  have Hd : Hid (decide ((l.length : Int) ≤ 8) = decide (l.length ≤ 8)) := by
    show _ = _
    rw [decide_eq_decide]; omega
  clear hr hok h hb0 Hres
  go_enter Tryd.func38, Tryd.ntmps38
  go_wp2_with fail
  refine (need_any g b _ 2 w H.out).mono ?_
  try rw [Hd.out]
  rintro E w1 ⟨rfl, h1, h2⟩
  have H1 := Lib.hid h1
  have K1 := Lib.hid h2
  rw [Hb1.out] at H1
  clear h1 h2 H
  go_wp2_with fail
  go_loopg [13] l.length (fun k u13 wr => ∃ i : Nat, i + k = l.length ∧ u13 = .int .i64 (i : Int) ∧ Hid (IsBad g wr (says b1 (firstBad ((l.map ruleC).take i)))) ∧ Hid (But g w wr))
  case atStart => exact ⟨0, by omega, rfl, Lib.hid (by rw [List.take_zero]; exact (says_zero b1).symm ▸ H1.out), K1⟩
  case round =>
    obtain ⟨i, hig, rfl, Hbad, Hbut⟩ := hrel
    cases gk with
    | zero =>
      obtain rfl : i = l.length := by omega
      have Hend : Hid (IsBad g wr (says b1 (firstBad (l.map ruleC)))) := by
        have h9 := Hbad.out
        rw [List.take_of_length_le (by simp)] at h9
        exact Lib.hid h9
      go_wp2_with fail
      go_end0
      exact ⟨rfl, Hend.out, Hbut.out⟩
    | succ k =>
      have hil : i < l.length := by omega
      obtain ⟨x, hxi⟩ : ∃ x, l[i]? = some x := ⟨l[i]'(by omega), List.getElem?_eq_getElem _⟩
      obtain ⟨bk, o, c', hv, _, _, hbs, hcell⟩ := HR.out.form (by omega) (by omega)
      cases hv
      obtain ⟨ds, _, hcc, hR⟩ := hcell i x hxi
      have hR2 := hR
      obtain ⟨y0, y1, y2, rfl, s0, s1, s2⟩ := hR
      obtain ⟨a0', c0', rfl, _, _⟩ := s0.row.len
      obtain ⟨a1', c1', rfl, _, _⟩ := s1.row.len
      obtain ⟨a2', c2', rfl, _, _⟩ := s2.row.len
      have HR2 := Lib.hid hR2
      have hbw := Hbut.out.below Hb0.out hs0 hg
      have e0 : wr.cell? ⟨bk, o + i * 3, none⟩ = some (.slice a0' x.verbs.length c0') := (hbw.cell (p := ⟨bk, _, none⟩) hbs).trans (by simpa using hcc 0 _ rfl)
      have e1 : wr.cell? ⟨bk, o + i * 3 + 1, none⟩ = some (.slice a1' x.kinds.length c1') := (hbw.cell (p := ⟨bk, _, none⟩) hbs).trans (hcc 1 _ rfl)
      have e2 : wr.cell? ⟨bk, o + i * 3 + 2, none⟩ = some (.slice a2' x.names.length c2') := (hbw.cell (p := ⟨bk, _, none⟩) hbs).trans (hcc 2 _ rfl)
      have q1 : (0 : Int) ≤ (i : Int) := by omega
      have q2 : (i : Int) < (l.length : Int) := by omega
      have Hnext : Hid (says b1 (firstBad ((l.map ruleC).take (i + 1))) = says (says b1 (firstBad ((l.map ruleC).take i))) (ruleC x)) := by
        show _ = _
        rw [firstBad_take (e := ruleC x) (by rw [List.getElem?_map, hxi]; rfl), says_assoc]
      have Hxok := Lib.hid (Hok.out x (List.mem_of_getElem? hxi))
      have hsw := Hbut.out.size
      have Hal : ∀ o : Obj, Hid (Below wr.heap.size wr (wr.alloc o)) := fun o => Lib.hid ((Below.refl _ _).alloc (Nat.le_refl _) o)
      have Hal0 : ∀ o : Obj, Hid (Below w0.heap.size w0 (wr.alloc o)) := fun o => Lib.hid (hbw.trans ((Hal o).out.mono hbw.size))
      clear hcc hcell hxi hR2 hbw s0 s1 s2
      go_wp2_with fail
      refine (rule_any g _ _ _ _ x w0 _ (Hbad.out.below (Hal _).out) (Hal0 _).out hg HR2.out Hxok.out).mono ?_
      rintro E w3 ⟨rfl, h1, h2⟩
      have Hc1 := Lib.hid h1
      have Hc2 := Lib.hid (Hbut.out.trans ((But.of (Hal _).out).trans h2))
      clear h1 h2 e0 e1 e2
      go_wp2_with fail
      go_roundg k
      case measure => omega
      case rel => exact ⟨i + 1, by omega, by go_num, Lib.hid (by rw [Hnext.out]; exact Hc1.out), Hc2⟩
end Go.Proofs.YtlbolbkikkiifaaDoor
/- grants: users, what is asked, and the closures that look for a twin: their contracts. -/
namespace Go.Proofs.YtlbolbkikkiifaaDoor
open Go.RowKit

theorem short_any (s : ByteArray) (w : World) (hs : s.size ≤ 1099511627776) : Calls Tryd.prog 51 #[.string s] w fun e w' => e = .returned (.int .i64 (shortC s)) ∧ w = w' := by
  obtain ⟨cd, Hcd⟩ : ∃ cd, Hid (NameP.check s.data.toList = cd) := ⟨_, Lib.hid rfl⟩
  have Hr : Hid (shortC s = says cd (if 20 < s.size then 2 else 0)) := by show _ = _; unfold shortC; rw [Hcd.out]
  rw [Hr.out]
  by_cases h0 : cd = 0
  · subst h0
    rw [zero_says]
    by_cases h2 : 20 < s.size
    · rw [if_pos h2]
      have h3 : (20 : Int) < (s.size : Int) := by omega
      go_enter Tryd.func51, Tryd.ntmps51
      go_wp2_with fail
      refine (check_any s w hs).mono ?_
      rw [Hcd.out]
      rintro E w1 ⟨rfl, rfl⟩
      go_wp2_with fail
      go_ret
      exact ⟨rfl, rfl⟩
    · rw [if_neg h2]
      have h3 : ¬ (20 : Int) < (s.size : Int) := by omega
      go_enter Tryd.func51, Tryd.ntmps51
      go_wp2_with fail
      refine (check_any s w hs).mono ?_
      rw [Hcd.out]
      rintro E w1 ⟨rfl, rfl⟩
      go_wp2_with fail
      go_ret
      exact ⟨rfl, rfl⟩
  · have Hs : Hid (says cd (if 20 < s.size then 2 else 0) = cd) := by show _ = _; unfold says; rw [if_neg h0]
    rw [Hs.out]
    have q : (cd != 0) = true := by rw [bne_iff_ne]; exact h0
    clear h0 Hs Hr
    go_enter Tryd.func51, Tryd.ntmps51
    go_wp2_with fail
    refine (check_any s w hs).mono ?_
    rw [Hcd.out]
    rintro E w1 ⟨rfl, rfl⟩
    go_wp2_with fail
    go_ret
    exact ⟨rfl, rfl⟩
/-- a slice's first things -/
theorem RowAt.take {α : Type} {R : Rd α} {k : Nat} {w : World} {ao : Option Addr} {n c : Nat} {l : List α} (h : RowAt R k w (.slice ao n c) l) {i : Nat} (hi : i ≤ l.length) : RowAt R k w (.slice ao i c) (l.take i) := by
  rcases h with ⟨h1, rfl⟩ | ⟨a, c', h1, h2, h3, h4⟩
  · cases h1
    obtain rfl : i = 0 := by simpa using hi
    exact .inl ⟨rfl, by simp⟩
  · injection h1 with u1 u2 u3
    subst u1 u3
    have hlen : (l.take i).length = i := by rw [List.length_take]; omega
    refine .inr ⟨a, c, by rw [hlen], by omega, h3, fun j x hx => ?_⟩
    have hj : j < i := by have := (List.getElem?_eq_some_iff.1 hx).1; omega
    rw [List.getElem?_take_of_lt hj] at hx
    exact h4 j x hx
def groupC (l : List ByteArray) (i : Nat) (g : ByteArray) : Int := says (shortC g) (if Lib.containsS (l.take i) g = true then 5 else 0)
set_option maxRecDepth 100000 in
set_option maxHeartbeats 800000 in
theorem user_any (y1 : Value) (u : GUser) (w : World) (h : UserR w [.string u.name, y1] u) (hn : u.name.size ≤ 1048576) (hok : okS u.groups) :
    Calls Tryd.prog 23 #[.agg #[.string u.name, y1]] w fun e w' => e = .returned (.int .i64 (userC u)) ∧ Below w.heap.size w w' := by
  obtain ⟨v1, hcs, s1⟩ := h
  simp only [List.cons.injEq, and_true, true_and] at hcs
  obtain rfl := hcs
  have hrow := s1.row
  obtain ⟨a1, c1, rfl, _, _⟩ := hrow.len
  have HR := Lib.hid hrow
  have Hok := Lib.hid hok
  have hb := (Below.refl w.heap.size w).alloc (Nat.le_refl _) (.cells #[.string u.name, .slice a1 u.groups.length c1] 28)
  have b1 : (w.alloc (.cells #[.string u.name, .slice a1 u.groups.length c1] 28)).heap[w.heap.size]? = some (.cells #[.string u.name, .slice a1 u.groups.length c1] 28 (0, 0)) := heap_alloc_new w _
  have hs1 : w.heap.size < (w.alloc (.cells #[.string u.name, .slice a1 u.groups.length c1] 28)).heap.size := by simp
  obtain ⟨w1, hw1⟩ : ∃ w1, w1 = w.alloc (.cells #[.string u.name, .slice a1 u.groups.length c1] 28) := ⟨_, rfl⟩
  obtain ⟨gb, hgb⟩ : ∃ gb, gb = w.heap.size := ⟨_, rfl⟩
  rw [← hw1] at hb b1 hs1
  rw [← hgb] at b1 hs1
  have Hb := Lib.hid hb
  have cc := fun i => cell_block b1 i
  have hl6 := hok.1
  obtain ⟨sc, Hsc⟩ : ∃ sc, Hid (shortC u.name = sc) := ⟨_, Lib.hid rfl⟩
  obtain ⟨R, HRes⟩ : ∃ R, Hid (userC u = R) := ⟨_, Lib.hid rfl⟩
  rw [HRes.out]
  have Hu : Hid (R = says sc (if 6 < u.groups.length then 2 else firstBad (u.groups.mapIdx (groupC u.groups)))) := by show _ = _; rw [← HRes.out]; unfold userC; rw [Hsc.out]; rfl
  clear hrow s1 hok hb b1
  go_enter Tryd.func23, Tryd.ntmps23
  go_upto_region 1 with fail
  rw [← hw1, ← hgb]
  clear hw1
  have hs0 : w.heap.size ≤ w1.heap.size := by omega
  clear hgb
  go_wp2_with fail
  refine (short_any u.name w1 (by omega)).mono ?_
  rw [Hsc.out]
  rintro E w2 ⟨rfl, rfl⟩
  by_cases h0 : sc = 0
  · subst h0
    rw [zero_says] at Hu
    by_cases h6 : 6 < u.groups.length
    · rw [if_pos h6] at Hu
      have q : (6 : Int) < (u.groups.length : Int) := by omega
      go_wp2_with fail
      go_ret
      exact ⟨congrArg (fun n => Ending.returned (Value.int .i64 n)) Hu.out.symm, Hb.out⟩
    · rw [if_neg h6] at Hu
      have q : ¬ (6 : Int) < (u.groups.length : Int) := by omega
      go_wp2_with fail
      go_loopg [20] u.groups.length (fun k u20 wr => ∃ i : Nat, i + k = u.groups.length ∧ u20 = .int .i64 (i : Int) ∧ Hid (firstBad ((u.groups.mapIdx (groupC u.groups)).take i) = 0) ∧ w1 = wr)
      case atStart => exact ⟨0, by omega, rfl, Lib.hid (by rw [List.take_zero]; rfl), rfl⟩
      case round =>
        obtain ⟨i, hig, rfl, Hz, rfl⟩ := hrel
        cases gk with
        | zero =>
          obtain rfl : i = u.groups.length := by omega
          have HR0 : Hid (R = 0) := by
            have h9 := Hz.out
            rw [List.take_of_length_le (by simp)] at h9
            show _ = _
            rw [Hu.out, h9]
          go_wp2_with fail
          go_ret
          exact ⟨congrArg (fun n => Ending.returned (Value.int .i64 n)) HR0.out.symm, Hb.out⟩
        | succ k =>
          have hil : i < u.groups.length := by omega
          obtain ⟨s, hsi⟩ : ∃ s, u.groups[i]? = some s := ⟨u.groups[i]'(by omega), List.getElem?_eq_getElem _⟩
          obtain ⟨bk, o, c', hv, _, _, hbs, hcell⟩ := HR.out.form (by omega) (by omega)
          cases hv
          obtain ⟨ds, _, hcc, hR⟩ := hcell i s hsi
          obtain rfl : ds = [.string s] := hR
          have e0 : w1.cell? ⟨bk, o + i, none⟩ = some (.string s) := (Hb.out.cell (p := ⟨bk, _, none⟩) hbs).trans (by simpa using hcc 0 _ rfl)
          have q1 : (0 : Int) ≤ (i : Int) := by omega
          have q2 : (i : Int) < (u.groups.length : Int) := by omega
          have q3 : (i : Int) ≤ (c1 : Int) := by have := HR.out.len; omega
          have hss := Hok.out.2 s (List.mem_of_getElem? hsi)
          obtain ⟨e1, He1⟩ : ∃ e1, Hid (shortC s = e1) := ⟨_, Lib.hid rfl⟩
          obtain ⟨ct, Hct⟩ : ∃ ct, Hid (Lib.containsS (u.groups.take i) s = ct) := ⟨_, Lib.hid rfl⟩
          have Hone : Hid ((u.groups.mapIdx (groupC u.groups))[i]? = some (says e1 (if ct = true then 5 else 0))) := by
            show _ = _; rw [List.getElem?_mapIdx, hsi]; show some (groupC u.groups i s) = _; unfold groupC; rw [He1.out, Hct.out]
          have Hstep : Hid (firstBad ((u.groups.mapIdx (groupC u.groups)).take (i + 1)) = says e1 (if ct = true then 5 else 0)) := by
            show _ = _; rw [firstBad_take Hone.out, Hz.out, zero_says]
          have Hbadrest : Hid (says e1 (if ct = true then 5 else 0) ≠ 0 → R = says e1 (if ct = true then 5 else 0)) := Lib.hid fun hne => by
            rw [Hu.out]
            have h9 : firstBad (u.groups.mapIdx (groupC u.groups)) = says (firstBad ((u.groups.mapIdx (groupC u.groups)).take (i + 1))) (firstBad ((u.groups.mapIdx (groupC u.groups)).drop (i + 1))) := by rw [← firstBad_append, List.take_append_drop]
            rw [h9, Hstep.out]
            unfold says at hne ⊢
            rw [if_neg hne]
          have Htk := Lib.hid (HR.out.take (i := i) (by omega)).strs
          have hit : i = (u.groups.take i).length := by rw [List.length_take]; omega
          have Hit := Lib.hid hit
          clear hcc hcell hsi hit
          go_wp2_with fail
          refine (short_any s w1 (by omega)).mono ?_
          rw [He1.out]
          rintro E w2 ⟨rfl, rfl⟩
          by_cases h1 : e1 = 0
          · subst h1
            rw [zero_says] at Hstep Hbadrest
            go_wp2_with fail
            refine (contains_any _ (u.groups.take i) s w1 (Htk.out.below' Hb.out) (by rw [← Hit.out]; omega)).mono ?_
            rw [Hct.out]
            rintro E w2 ⟨rfl, rfl⟩
            cases ct with
            | true =>
              have Hr5 : Hid (R = 5) := Lib.hid (by have := Hbadrest.out (by simp); simpa using this)
              go_wp2_with fail
              go_ret
              exact ⟨congrArg (fun n => Ending.returned (Value.int .i64 n)) Hr5.out.symm, Hb.out⟩
            | false =>
              go_wp2_with fail
              go_roundg k
              case measure => omega
              case rel => exact ⟨i + 1, by omega, by go_num, Lib.hid (by rw [Hstep.out]; simp), rfl⟩
          · have q4 : (e1 != 0) = true := by rw [bne_iff_ne]; exact h1
            have Hr5 : Hid (R = e1) := Lib.hid (by
              have h8 : says e1 (if ct = true then 5 else 0) = e1 := by unfold says; rw [if_neg h1]
              have := Hbadrest.out (by rw [h8]; exact h1)
              rw [this, h8])
            clear h1
            go_wp2_with fail
            go_ret
            exact ⟨congrArg (fun n => Ending.returned (Value.int .i64 n)) Hr5.out.symm, Hb.out⟩
  · have Hs : Hid (R = sc) := by show _ = _; rw [Hu.out]; unfold says; rw [if_neg h0]
    have q : (sc != 0) = true := by rw [bne_iff_ne]; exact h0
    clear h0
    go_wp2_with fail
    go_ret
    exact ⟨congrArg (fun n => Ending.returned (Value.int .i64 n)) Hs.out.symm, Hb.out⟩
def CapRole (gr : Nat) (r : GRole) (w : World) : Prop := ∃ z2 : Value, w.heap[gr]? = some (.cells #[.string r.space, .string r.name, z2] 66 (0, 0))
theorem capRole_keep (gr : Nat) (r : GRole) (w w' : World) (h : CapRole gr r w) (hb : Below w.heap.size w w') : CapRole gr r w' := by
  obtain ⟨z2, h⟩ := h
  exact ⟨z2, below_block hb h⟩
set_option maxRecDepth 100000 in
theorem cloRole_any (gr : Nat) (r x : GRole) (y2 : Value) (w : World) (_h : RoleR w [.string x.space, .string x.name, y2] x) (hc : CapRole gr r w) :
    Calls Tryd.prog 80 #[.agg #[.string x.space, .string x.name, y2], .pointer (some ⟨gr, 0, none⟩)] w fun e w' => e = .returned (.bool (sameRole x r)) ∧ Below w.heap.size w w' := by
  obtain ⟨z2, h1⟩ := hc
  have cc := fun i => cell_block h1 i
  have hgr : gr < w.heap.size := by
    rcases Nat.lt_or_ge gr w.heap.size with h2 | h2
    · exact h2
    · rw [Array.getElem?_eq_none h2] at h1; cases h1
  have way : (eqB x.space r.space = false ∧ Hid (sameRole x r = false)) ∨ (eqB x.space r.space = true ∧ eqB x.name r.name = false ∧ Hid (sameRole x r = false)) ∨ (eqB x.space r.space = true ∧ eqB x.name r.name = true ∧ Hid (sameRole x r = true)) := by
    cases h2 : eqB x.space r.space with
    | false => exact .inl ⟨rfl, Lib.hid (by unfold sameRole; rw [h2]; rfl)⟩
    | true => cases h3 : eqB x.name r.name with
      | false => exact .inr (.inl ⟨rfl, rfl, Lib.hid (by unfold sameRole; rw [h2, h3]; rfl)⟩)
      | true => exact .inr (.inr ⟨rfl, rfl, Lib.hid (by unfold sameRole; rw [h2, h3]; rfl)⟩)
  unfold eqB at way
  clear _h h1
  rcases way with ⟨p1, Hp⟩ | ⟨p1, p2, Hp⟩ | ⟨p1, p2, Hp⟩
  all_goals
    rw [Hp.out]
    go_enter Tryd.func80, Tryd.ntmps80
    go_wp2_with fail
    go_ret
    exact ⟨rfl, (Below.refl _ _).alloc (Nat.le_refl _) _⟩

def CapBind (gr : Nat) (r : GBind) (w : World) : Prop := ∃ z4 z5 : Value, w.heap[gr]? = some (.cells #[.string r.space, .string r.name, .string r.role, .bool r.whole, z4, z5] 68 (0, 0))
theorem capBind_keep (gr : Nat) (r : GBind) (w w' : World) (h : CapBind gr r w) (hb : Below w.heap.size w w') : CapBind gr r w' := by
  obtain ⟨z4, z5, h⟩ := h
  exact ⟨z4, z5, below_block hb h⟩
set_option maxRecDepth 100000 in
theorem cloBind_any (gr : Nat) (r x : GBind) (y4 y5 : Value) (w : World) (_h : BindR w [.string x.space, .string x.name, .string x.role, .bool x.whole, y4, y5] x) (hc : CapBind gr r w) :
    Calls Tryd.prog 82 #[.agg #[.string x.space, .string x.name, .string x.role, .bool x.whole, y4, y5], .pointer (some ⟨gr, 0, none⟩)] w fun e w' => e = .returned (.bool (sameBind x r)) ∧ Below w.heap.size w w' := by
  obtain ⟨z4, z5, h1⟩ := hc
  have cc := fun i => cell_block h1 i
  have hgr : gr < w.heap.size := by
    rcases Nat.lt_or_ge gr w.heap.size with h2 | h2
    · exact h2
    · rw [Array.getElem?_eq_none h2] at h1; cases h1
  have way : (eqB x.space r.space = false ∧ Hid (sameBind x r = false)) ∨ (eqB x.space r.space = true ∧ eqB x.name r.name = false ∧ Hid (sameBind x r = false)) ∨ (eqB x.space r.space = true ∧ eqB x.name r.name = true ∧ Hid (sameBind x r = true)) := by
    cases h2 : eqB x.space r.space with
    | false => exact .inl ⟨rfl, Lib.hid (by unfold sameBind; rw [h2]; rfl)⟩
    | true => cases h3 : eqB x.name r.name with
      | false => exact .inr (.inl ⟨rfl, rfl, Lib.hid (by unfold sameBind; rw [h2, h3]; rfl)⟩)
      | true => exact .inr (.inr ⟨rfl, rfl, Lib.hid (by unfold sameBind; rw [h2, h3]; rfl)⟩)
  unfold eqB at way
  clear _h h1
  rcases way with ⟨p1, Hp⟩ | ⟨p1, p2, Hp⟩ | ⟨p1, p2, Hp⟩
  all_goals
    rw [Hp.out]
    go_enter Tryd.func82, Tryd.ntmps82
    go_wp2_with fail
    go_ret
    exact ⟨rfl, (Below.refl _ _).alloc (Nat.le_refl _) _⟩
end Go.Proofs.YtlbolbkikkiifaaDoor
/- The walks of seal.Hex, seal.digit and seal.Unhex: what they give, for texts of at most 2^40 bytes. -/
namespace Go.Proofs.YtlbolbkikkiifaaDoor
open Go.RowKit


theorem dig_at : ∀ (n : Nat) (h : n < (ByteArray.mk #[48, 49, 50, 51, 52, 53, 54, 55, 56, 57, 97, 98, 99, 100, 101, 102]).size), (ByteArray.mk #[48, 49, 50, 51, 52, 53, 54, 55, 56, 57, 97, 98, 99, 100, 101, 102])[n]'h = HexP.dig n := by
  intro n h
  have h' : n < 16 := h
  match n, h' with
  | 0, _ => rfl
  | 1, _ => rfl
  | 2, _ => rfl
  | 3, _ => rfl
  | 4, _ => rfl
  | 5, _ => rfl
  | 6, _ => rfl
  | 7, _ => rfl
  | 8, _ => rfl
  | 9, _ => rfl
  | 10, _ => rfl
  | 11, _ => rfl
  | 12, _ => rfl
  | 13, _ => rfl
  | 14, _ => rfl
  | 15, _ => rfl
  | n + 16, h => exact absurd h (by omega)

theorem hex_round {s : ByteArray} {k : Nat} {w w1 : World} {B : Nat} {v v1 : Value} (hlt : k < s.size) {g1 : s[k].toNat / 16 < (ByteArray.mk #[48, 49, 50, 51, 52, 53, 54, 55, 56, 57, 97, 98, 99, 100, 101, 102]).size} {g2 : s[k].toNat % 16 < (ByteArray.mk #[48, 49, 50, 51, 52, 53, 54, 55, 56, 57, 97, 98, 99, 100, 101, 102]).size}
    (_hown : w.ownsRow B 5 1 v (2 * k) (byteCells (HexP.hexl (s.data.toList.take k))))
    (hown1 : w1.ownsRow B 5 1 v1 (2 * k + 2) (byteCells (HexP.hexl (s.data.toList.take k)) ++
      [Value.int .u8 (((ByteArray.mk #[48, 49, 50, 51, 52, 53, 54, 55, 56, 57, 97, 98, 99, 100, 101, 102])[s[k].toNat / 16]'g1).toNat : Int),
       Value.int .u8 (((ByteArray.mk #[48, 49, 50, 51, 52, 53, 54, 55, 56, 57, 97, 98, 99, 100, 101, 102])[s[k].toNat % 16]'g2).toNat : Int)])) :
    w1.ownsRow B 5 1 v1 (2 * (k + 1)) (byteCells (HexP.hexl (s.data.toList.take (k + 1)))) := by
  rw [dig_at, dig_at] at hown1
  rw [take_snoc s k hlt, HexP.hexl_append, byteCells_append]
  exact hown1

set_option maxRecDepth 100000 in
set_option maxHeartbeats 800000 in
theorem hex_any (s : ByteArray) (w : World) (hs : s.size ≤ 1099511627776) :
    Calls Tryd.prog 47 #[.string s] w fun e w' => e = .returned (.string ⟨(HexP.hexl s.data.toList).toArray⟩) ∧ Below w.heap.size w w' := by
  obtain ⟨i0, hi0, hz0, hz1, hz2⟩ := info_parts Tryd.infoU8
  go_enter Tryd.func47, Tryd.ntmps47
  go_wp2
  go_loopw [3, 7] (fun v i wr => ∃ k : Nat, k ≤ s.size ∧ i = .int .i64 k ∧ wr.ownsRow w.heap.size 5 1 v (2 * k) (byteCells (HexP.hexl (s.data.toList.take k))) ∧ Below w.heap.size w wr) (fun _ i _ => s.size - (intOf i).toNat)
  case atStart => exact ⟨0, Nat.zero_le _, rfl, ⟨by simp [byteCells, HexP.hexl], .inl ⟨rfl, rfl⟩⟩, Below.refl _ _⟩
  case round =>
    obtain ⟨k, hk, rfl, hown, hb⟩ := hrel
    by_cases hlt : k < s.size
    · have h0 : (0 : Int) ≤ (k : Int) := by omega
      have h1 : (k : Int) < (s.size : Int) := by omega
      have hc8 : s[k].toNat < 256 := s[k].toNat_lt
      have hand := bits_and15 s[k].toNat hc8
      have hn0 : (0 : Int) ≤ (s[k].toNat : Int) / 16 := by omega
      have hn1 : (s[k].toNat : Int) / 16 < 16 := by omega
      have hm0 : (0 : Int) ≤ (s[k].toNat : Int) % 16 := by omega
      have hm1 : (s[k].toNat : Int) % 16 < 16 := by omega
      go_wp2_with fail
      refine wp_region_pure 11 (by kernel_rfl) (by kernel_rfl) ?_
      simp only [List.take_succ_cons, List.take_zero, List.drop_succ_cons, List.drop_zero]
      iterate 11
        refine wpPure_step (v := ?_) (by rfl) (fun w => ?_) ?_
        rotate_left
        focus (first | (go_simp; done) | (go_simp; with_reducible rfl))
        try simp only [Act.put, List.setIfInBounds_toArray, List.set_cons_zero, List.set_cons_succ]
      refine wpPure_nil ?_
      change wpList _ _ _ _ _ wr.drew
      go_wp2_with (at_builtin; refine wpList_append_lies _ rfl _ _ _ rfl w.heap.size 5 i0 _ 1 1 Tryd.underlying117 hi0 hz0 hz1 hz2 rfl (by omega) u3 (2 * k) _ rfl ((hown.alloc _).drew) ⟨wr.heap.size, 0, none⟩ 2 2 _ rfl rfl (World.news_of_block (cs := #[_, _]) (t := 5) (fr := (0, 0)) (heap_alloc_new wr _)) (by simp [Value.oneCell']) (by omega) (by unfold maxLen; omega) (by omega) (by have := hb.size; simp; omega) (wr.heap.size + 1) (by simp) ?_)
      intro g cap w1 hown1 hgrow _ _
      have hrel1 := hex_round hlt hown hown1
      clear hown1 hand
      have hb1 : Below w.heap.size w w1 := ((hb.alloc hb.size _).drew).grown hgrow (by have := hb.size; simp; omega) (fun k hk => (hown.lt k hk).1)
      clear hgrow hown
      go_wp2_with fail
      refine NoPanic.normal ?_
      go_wp2_with fail
      go_roundw
      case rel => exact ⟨k + 1, by omega, by go_num, hrel1, hb1⟩
      case measure => simp [intOf]; omega
    · have hke : k = s.size := by omega
      subst hke
      have hcv := run_convert_own wr 117 9 5 Tryd.underlying117 Tryd.underlying5 Tryd.underlying9 hown
      go_wp2
      go_ret
      rw [List.take_of_length_le (by simp)]
      exact ⟨rfl, hb⟩

set_option maxHeartbeats 800000 in
theorem digit_yes (c : Nat) (hc : HexP.isDig c = true) (h8 : c < 256) (w : World) :
    Calls Tryd.prog 74 #[.int .u8 (c : Int)] w fun e w' => e = .returned (.tuple #[.int .u8 (HexP.val c : Int), .bool true]) ∧ w = w' := by
  unfold HexP.isDig at hc
  simp at hc
  by_cases h1 : 48 ≤ c
  · by_cases h2 : c ≤ 57
    · have e : HexP.val c = c - 48 := by unfold HexP.val; rw [if_pos ⟨h1, h2⟩]
      rw [e]
      clear e hc
      go_enter Tryd.func74, Tryd.ntmps74
      go_wp2
      go_ret2
      exact ⟨by simp; omega, rfl⟩
    · have e : HexP.val c = c - 87 := by unfold HexP.val; rw [if_neg (by omega)]
      have h3 : 97 ≤ c := by omega
      have h4 : c ≤ 102 := by omega
      rw [e]
      clear e hc
      go_enter Tryd.func74, Tryd.ntmps74
      go_wp2
      go_ret2
      exact ⟨by simp; omega, rfl⟩
  · exact absurd hc (by omega)

set_option maxHeartbeats 800000 in
theorem digit_no (c : Nat) (hc : HexP.isDig c = false) (h8 : c < 256) (w : World) :
    Calls Tryd.prog 74 #[.int .u8 (c : Int)] w fun e w' => e = .returned (.tuple #[.int .u8 0, .bool false]) ∧ w = w' := by
  unfold HexP.isDig at hc
  simp at hc
  by_cases h1 : 48 ≤ c
  · by_cases h3 : 97 ≤ c
    · have h2 : ¬ c ≤ 57 := by omega
      have h4 : ¬ c ≤ 102 := by omega
      clear hc
      go_enter Tryd.func74, Tryd.ntmps74
      go_wp2
      go_ret2
      exact ⟨rfl, rfl⟩
    · have h2 : ¬ c ≤ 57 := by omega
      clear hc
      go_enter Tryd.func74, Tryd.ntmps74
      go_wp2
      go_ret2
      exact ⟨rfl, rfl⟩
  · have h3 : ¬ 97 ≤ c := by omega
    clear hc
    go_enter Tryd.func74, Tryd.ntmps74
    go_wp2
    go_ret2
    exact ⟨rfl, rfl⟩

def unhexOut (l : List UInt8) : Value := match HexP.unhexl l with
  | some b => .tuple #[.string ⟨b.toArray⟩, .int .i64 0]
  | none => .tuple #[.string ⟨#[]⟩, .int .i64 16]

theorem unhexOut_bad {l b : List UInt8} {j : Nat} {x y : UInt8} {r : List UInt8} (hu : HexP.unhexl l = (HexP.unhexl (l.drop j)).map (b ++ ·)) (hd : l.drop j = x :: y :: r)
    (h : (HexP.isDig x.toNat && HexP.isDig y.toNat) = false) : unhexOut l = .tuple #[.string ⟨#[]⟩, .int .i64 16] := by
  unfold unhexOut
  rw [hu, hd, HexP.unhexl_bad _ _ _ h]
  rfl
theorem unhexOut_end {l b : List UInt8} {j : Nat} (hu : HexP.unhexl l = (HexP.unhexl (l.drop j)).map (b ++ ·)) (hj : l.length ≤ j) : unhexOut l = .tuple #[.string ⟨b.toArray⟩, .int .i64 0] := by
  unfold unhexOut
  rw [hu, List.drop_eq_nil_of_le hj]
  simp [HexP.unhexl]
theorem unhex_more {l b : List UInt8} {j : Nat} {x y : UInt8} (hu : HexP.unhexl l = (HexP.unhexl (l.drop j)).map (b ++ ·)) (hd : l.drop j = x :: y :: l.drop (j + 2))
    (hx : HexP.isDig x.toNat = true) (hy : HexP.isDig y.toNat = true) :
    Hid (HexP.unhexl l = (HexP.unhexl (l.drop (j + 2))).map ((b ++ [UInt8.ofNat (HexP.val x.toNat * 16 + HexP.val y.toNat)]) ++ ·)) := by
  show _ = _
  rw [← HexP.unhexl_two x y _ hx hy b, ← hd]
  exact hu
theorem unhex_round {w1 : World} {B : Nat} {v1 : Value} {b : List UInt8} {x n : Nat} {z : Int} (hown1 : w1.ownsRow B 5 1 v1 (n + 1) (byteCells b ++ [Value.int .u8 z])) (hz : z = (x : Int)) (hx : x < 256) :
    w1.ownsRow B 5 1 v1 (n + 1) (byteCells (b ++ [UInt8.ofNat x])) := by
  subst hz
  rw [byteCells_append]
  have e : (UInt8.ofNat x).toNat = x := by simp; omega
  simpa [byteCells, e] using hown1

set_option maxRecDepth 100000 in
set_option maxHeartbeats 800000 in
theorem unhex_any (s : ByteArray) (w : World) (hs : s.size ≤ 1099511627776) :
    Calls Tryd.prog 49 #[.string s] w fun e w' => e = .returned (unhexOut s.data.toList) ∧ Below w.heap.size w w' := by
  obtain ⟨i0, hi0, hz0, hz1, hz2⟩ := info_parts Tryd.infoU8
  by_cases hodd : s.size % 2 = 1
  · have h1 : (((s.size : Int) % 2) != 0) = true := by rw [bne_iff_ne]; omega
    have hout : unhexOut s.data.toList = .tuple #[.string ⟨#[]⟩, .int .i64 16] := by
      unfold unhexOut; rw [HexP.unhexl_odd _ (by simpa using hodd)]
    rw [hout]
    clear hout
    go_enter Tryd.func49, Tryd.ntmps49
    go_wp2
    go_ret2
    exact ⟨rfl, Below.refl _ _⟩
  · have h1 : (((s.size : Int) % 2) != 0) = false := by rw [bne_eq_false_iff_eq]; omega
    go_enter Tryd.func49, Tryd.ntmps49
    have Hev : Hid (s.size % 2 = 0) := by show s.size % 2 = 0; omega
    clear hodd
    go_wp2_with fail
    go_loopw [4, 5] (fun v i wr => ∃ j : Nat, ∃ b : List UInt8, j ≤ s.size ∧ Hid (j % 2 = 0) ∧ i = .int .i64 j ∧ b.length ≤ j ∧ Hid (HexP.unhexl s.data.toList = (HexP.unhexl (s.data.toList.drop j)).map (b ++ ·)) ∧
        wr.ownsRow w.heap.size 5 1 v b.length (byteCells b) ∧ Below w.heap.size w wr) (fun _ i _ => s.size - (intOf i).toNat)
    case atStart => exact ⟨0, [], Nat.zero_le _, rfl, rfl, by simp, by show _ = _; simp, ⟨by simp [byteCells], .inl ⟨rfl, rfl⟩⟩, Below.refl _ _⟩
    case round =>
      obtain ⟨j, b, hj, hev, rfl, hbj, Hu, hown, hb⟩ := hrel
      by_cases hlt : j < s.size
      · have hlt1 : j + 1 < s.size := by have := hev.out; have := Hev.out; omega
        have Hd : Hid (s.data.toList.drop j = s[j] :: s[j + 1] :: s.data.toList.drop (j + 2)) := drop_two s j hlt1
        have g0 : (0 : Int) ≤ (j : Int) := by omega
        have g1 : (j : Int) < (s.size : Int) := by omega
        have g2 : (j : Int) + 1 < (s.size : Int) := by omega
        have g3 : (0 : Int) ≤ (j : Int) + 1 := by omega
        have c0 : s[j].toNat < 256 := s[j].toNat_lt
        have c1 : s[j + 1].toNat < 256 := s[j + 1].toNat_lt
        cases hx : HexP.isDig s[j].toNat with
        | true =>
          have Hx := Lib.hid hx; clear hx
          have v0 : HexP.val s[j].toNat < 16 := HexP.val_lt _ Hx.out
          cases hy : HexP.isDig s[j + 1].toNat with
          | true =>
            have Hy := Lib.hid hy; clear hy
            have v1 : HexP.val s[j + 1].toNat < 16 := HexP.val_lt _ Hy.out
            have h256 : HexP.val s[j].toNat * 16 + HexP.val s[j + 1].toNat < 256 := by omega
            have hor := bits_or16 _ _ v0 v1
            go_wp2_with fail
            refine (digit_yes s[j].toNat Hx.out c0 _).mono ?_
            rintro e w' ⟨rfl, rfl⟩
            go_wp2_with fail
            refine (digit_yes s[j + 1].toNat Hy.out c1 _).mono ?_
            rintro e w' ⟨rfl, rfl⟩
            go_wp2_with (at_builtin; refine wpList_append_lies _ rfl _ _ _ rfl w.heap.size 5 i0 _ 1 1 Tryd.underlying117 hi0 hz0 hz1 hz2 rfl (by omega) u4 b.length _ rfl (hown.alloc _) ⟨wr.heap.size, 0, none⟩ 1 1 _ rfl rfl (World.news_of_block (cs := #[_]) (t := 5) (fr := (0, 0)) (heap_alloc_new wr _)) (by simp [Value.oneCell']) (by omega) (by unfold maxLen; omega) (by omega) (by have := hb.size; simp; omega) (wr.heap.size + 1) (by simp) ?_)
            intro g cap w1 hown1 hgrow _ _
            have hb1 : Below w.heap.size w w1 := (hb.alloc hb.size _).grown hgrow (by have := hb.size; simp; omega) (fun k hk => (hown.lt k hk).1)
            have hown2 := unhex_round (x := HexP.val s[j].toNat * 16 + HexP.val s[j + 1].toNat) hown1 (by simp) h256
            have Hu2 := unhex_more Hu.out Hd.out Hx.out Hy.out
            have hle : b.length + 1 ≤ j + 2 := by omega
            clear hgrow hown hown1 hor
            go_wp2_with fail
            go_roundw
            case rel => exact ⟨j + 2, b ++ [UInt8.ofNat (HexP.val s[j].toNat * 16 + HexP.val s[j + 1].toNat)], by omega, by show (j + 2) % 2 = 0; have := hev.out; omega, by go_num, by simp; omega, Hu2, by simpa using hown2, hb1⟩
            case measure => simp [intOf]; omega
          | false =>
            have Hy := Lib.hid hy; clear hy
            go_wp2_with fail
            refine (digit_yes s[j].toNat Hx.out c0 _).mono ?_
            rintro e w' ⟨rfl, rfl⟩
            go_wp2_with fail
            refine (digit_no s[j + 1].toNat Hy.out c1 _).mono ?_
            rintro e w' ⟨rfl, rfl⟩
            go_wp2_with fail
            go_ret2
            refine ⟨?_, hb⟩
            exact congrArg Ending.returned (unhexOut_bad Hu.out Hd.out (by rw [Hx.out, Hy.out]; rfl)).symm
        | false =>
          have Hx := Lib.hid hx; clear hx
          cases hy : HexP.isDig s[j + 1].toNat with
          | true =>
            have Hy := Lib.hid hy; clear hy
            go_wp2_with fail
            refine (digit_no s[j].toNat Hx.out c0 _).mono ?_
            rintro e w' ⟨rfl, rfl⟩
            go_wp2_with fail
            refine (digit_yes s[j + 1].toNat Hy.out c1 _).mono ?_
            rintro e w' ⟨rfl, rfl⟩
            go_wp2_with fail
            go_ret2
            refine ⟨?_, hb⟩
            exact congrArg Ending.returned (unhexOut_bad Hu.out Hd.out (by rw [Hx.out, Hy.out]; rfl)).symm
          | false =>
            have Hy := Lib.hid hy; clear hy
            go_wp2_with fail
            refine (digit_no s[j].toNat Hx.out c0 _).mono ?_
            rintro e w' ⟨rfl, rfl⟩
            go_wp2_with fail
            refine (digit_no s[j + 1].toNat Hy.out c1 _).mono ?_
            rintro e w' ⟨rfl, rfl⟩
            go_wp2_with fail
            go_ret2
            refine ⟨?_, hb⟩
            exact congrArg Ending.returned (unhexOut_bad Hu.out Hd.out (by rw [Hx.out, Hy.out]; rfl)).symm
      · have Hout : Hid (unhexOut s.data.toList = .tuple #[.string ⟨b.toArray⟩, .int .i64 0]) := unhexOut_end Hu.out (by simp; omega)
        have hcv := run_convert_own wr 117 9 5 Tryd.underlying117 Tryd.underlying5 Tryd.underlying9 hown
        go_wp2_with fail
        go_ret2
        exact ⟨congrArg Ending.returned Hout.out.symm, hb⟩
end Go.Proofs.YtlbolbkikkiifaaDoor
/- strings.Split at one byte, strings.Join with one byte between: their contracts. -/
namespace Go.Proofs.YtlbolbkikkiifaaDoor
open Go.RowKit
open JP (Bs)

theorem split_any (s : ByteArray) (c : UInt8) (m : Int) (w : World) (hs : s.size ≤ 16777216) (hm : MaxOK m w) :
    Calls Tryd.prog 22 #[.string s, .string ⟨#[c]⟩] w fun e w' => ∃ L : List ByteArray, L.map (·.data.toList) = splitL c s.data.toList ∧ e = .returned (.slice (some ⟨w.heap.size, 0, none⟩) L.length L.length) ∧
      w'.heap[w.heap.size]? = some (.cells (strs L).toArray 9 (0, 0)) ∧ w'.heap.size = w.heap.size + 1 ∧ Below w.heap.size w w' := by
  refine (Tryd.strings_Split s ⟨#[c]⟩ m w (by omega) hm (Nat.le_refl 1)).mono ?_
  rintro E w' ⟨rfl, rfl⟩
  have h1 : (Lib.splitB ⟨#[c]⟩ 0 (Lib.countB s ⟨#[c]⟩) s).length = Lib.countB s ⟨#[c]⟩ + 1 := Lib.splitB_all ⟨#[c]⟩ (Nat.le_refl 1) 0 _ s rfl
  refine ⟨Lib.splitB ⟨#[c]⟩ 0 (Lib.countB s ⟨#[c]⟩) s, ?_, by rw [h1], heap_alloc_at rfl, World.size_alloc _ _, (Below.refl _ w).alloc (Nat.le_refl _) _⟩
  rw [Lib.splitB_data]
  exact splitK_scan c s.data.toList
theorem splitL_len (c : UInt8) (s : List UInt8) : (splitL c s).length ≤ s.length + 1 := by
  induction s with
  | nil => simp [splitL]
  | cons x r ih =>
    rw [splitL]
    split
    · simp; omega
    · split
      · rename_i h1 h2
        rw [h2] at ih; simp at ih ⊢; omega
      · simp
theorem splitL_mem_len (c : UInt8) (s q : List UInt8) (h : q ∈ splitL c s) : q.length ≤ s.length := by
  have h1 : ((splitL c s).flatMap fun p => c :: p).length = s.length + 1 := by rw [splitL_join]; rfl
  have h2 : ∀ m : List (List UInt8), q ∈ m → q.length + 1 ≤ (m.flatMap fun p => c :: p).length := fun m => by
    induction m with
    | nil => intro h; cases h
    | cons a r ih =>
      intro h
      rw [List.flatMap_cons, List.length_append, List.length_cons]
      rcases List.mem_cons.1 h with rfl | h
      · omega
      · have := ih h; omega
  have := h2 _ h
  omega
theorem joinC_any {w : World} {v : Value} {l : List ByteArray} (c : UInt8) (h : RowAt RString 1 w v l) (hl : l.length ≤ 1073741824) (h1 : (Lib.join (l.map (·.data.toList)) [c]).length ≤ 1073741824) :
    Calls Tryd.prog 43 #[v, .string ⟨#[c]⟩] w fun e w' => e = .returned (.string (mkB (Lib.join (l.map (·.data.toList)) [c]))) ∧ Below w.heap.size w w' := by
  by_cases h0 : 0 < l.length
  · obtain ⟨b, o, cp, rfl, hc, _, hbs, hcell⟩ := h.form h0 (by omega)
    refine Tryd.strings_Join b o cp l ⟨#[c]⟩ w (fun j x hx => ?_) hbs (by omega) hc ?_
    · obtain ⟨cs, _, h2, h3⟩ := hcell j x hx
      rw [h3] at h2
      have := h2 0 _ rfl
      simpa using this
    · show (Lib.join _ [c]).length ≤ _; omega
  · have hn : l = [] := List.eq_nil_of_length_eq_zero (by omega)
    subst hn
    obtain ⟨a, cp, rfl, _, _⟩ := h.len
    refine (Tryd.strings_Join_none a cp ⟨#[c]⟩ w).mono ?_
    rintro e w' ⟨rfl, rfl⟩
    exact ⟨rfl, Below.refl _ _⟩

end Go.Proofs.YtlbolbkikkiifaaDoor
