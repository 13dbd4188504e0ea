/- The walks of (*Hash).Sum and seal.Sum: a text's sum. -/
import Derived.Test.YteadfpbkhledlaaHashWalk
namespace Go.Proofs.Yteadfpbkhledlaa
open Go.RowKit

/-! what Sum comes to -/
def padCount (n : Nat) : Nat := (119 - n) % 64
def lenByte (many k : Nat) : UInt8 := UInt8.ofNat (many * 8 / 2 ^ (8 * k) % 256)
def lenBytes (many : Nat) : Nat → List UInt8
  | 0 => []
  | k + 1 => lenByte many k :: lenBytes many k
def padded (l : List UInt8) (many : Nat) : List UInt8 := (l ++ 128 :: List.replicate (padCount l.length) 0) ++ lenBytes many 8
def outByte (z : Int) : UInt8 := UInt8.ofNat (IntKind.u8.wrap z).toNat
theorem outByte_nat (z : Int) : ((outByte z).toNat : Int) = IntKind.u8.wrap z := by
  have h : 0 ≤ IntKind.u8.wrap z ∧ IntKind.u8.wrap z < 256 := by rw [IntKind.wrap_u8]; omega
  unfold outByte
  simp
  omega
def outF : List Int → List UInt8
  | [] => []
  | x :: r => outByte (x / 16777216) :: outByte (x / 65536) :: outByte (x / 256) :: outByte x :: outF r
def finish (h : List Int) (l : List UInt8) (many : Nat) : List UInt8 := outF (absorbAll h (padded l many)).1

theorem lenByte_nat (many k : Nat) : (many : Int) * 8 / 2 ^ (8 * k) % 256 = ((lenByte many k).toNat : Int) := by
  unfold lenByte
  have h : (UInt8.ofNat (many * 8 / 2 ^ (8 * k) % 256)).toNat = many * 8 / 2 ^ (8 * k) % 256 := by simp
  rw [h]
  simp
theorem lenBytes_length (many : Nat) : ∀ k, (lenBytes many k).length = k
  | 0 => rfl
  | k + 1 => by simp [lenBytes, lenBytes_length many k]
theorem padded_length (l : List UInt8) (many : Nat) (h : l.length < 64) : (padded l many).length % 64 = 0 := by
  unfold padded
  rw [List.length_append, lenBytes_length]
  simp only [List.length_append, List.length_cons, List.length_replicate]
  unfold padCount
  omega
theorem outF_append (a b : List Int) : outF (a ++ b) = outF a ++ outF b := by
  induction a with
  | nil => rfl
  | cons x r ih => simp [outF, ih]
theorem outF_length (a : List Int) : (outF a).length = 4 * a.length := by
  induction a with
  | nil => rfl
  | cons x r ih => simp [outF, ih]; omega

theorem own_form {w : World} {B n : Nat} {e : TypeId} {v : Value} {xs : List Value} (h : w.ownsRow B e 1 v n xs) : ∃ a c, v = .slice a n c := by
  rcases h.2 with ⟨rfl, rfl⟩ | ⟨g, cap, cur, rfl, _⟩
  · exact ⟨_, _, rfl⟩
  · exact ⟨_, _, rfl⟩

set_option maxRecDepth 100000 in
set_option maxHeartbeats 1600000 in
theorem hashSum_any (g B : Nat) (hst : List Int) (rv : Value) (many : Nat) (l : List UInt8) (w : World) (hat : HashAt w g hst rv many) (hrow : OffRow w B 5 rv l) (hl : l.length < 64) (hm : many ≤ 1125899906842624) :
    Calls Try.prog 20 #[.pointer (some ⟨g, 0, none⟩)] w fun e w' => e = .returned (.string ⟨(finish hst l many).toArray⟩) ∧ Below w.heap.size w w' := by
  obtain ⟨i0, hi0, hz0, hz1, hz2⟩ := info_parts Try.infoU8
  have hgl := hat.lt
  have c8 := hat.c8
  go_enter Try.func20, Try.ntmps20
  obtain ⟨ra, rc, rfl⟩ := hrow.len
  go_wp2_with (at_builtin; refine wpList_append_row _ (by rfl) _ _ _ (by rfl) w.heap.size i0 Try.underlying83 hi0 hz0 hz1 hz2 (.slice none 0 0) 0 (by rfl) (l := []) (World.ownsRow_nil w _ _ 1) _ (by rfl) hrow (by omega) (Nat.le_refl _) ?_)
  intro v1 w1 hown1 hgrow
  have hb1 : Below w.heap.size w w1 := (Below.refl _ _).grown hgrow (Nat.le_refl _) (fun k hk => by simp [Value.ownBlock] at hk)
  have hat1 := hat.keep (w' := w1) (hb1.block g hgl)
  clear hgrow c8
  go_wp2_with (at_builtin; refine wpList_append_lies _ (by rfl) _ _ _ (by rfl) w.heap.size 5 i0 _ 1 1 Try.underlying83 hi0 hz0 hz1 hz2 rfl (by omega) v1 _ _ (by rfl) (hown1.alloc _) ⟨w1.heap.size, 0, none⟩ 1 1 _ (by rfl) (by rfl) (World.news_of_block (cs := #[_]) (t := 5) (fr := (0, 0)) (heap_alloc_new w1 _)) (by simp [Value.oneCell']) (by omega) (by unfold maxLen; omega) (by omega) (by have := hb1.size; simp; omega) (w1.heap.size + 1) (by simp) ?_)
  intro g2 cap2 w2 hown2 hgrow2 _ _
  have hb2 : Below w.heap.size w w2 := (hb1.alloc hb1.size _).grown hgrow2 (by have := hb1.size; simp; omega) (fun k hk => (hown1.lt k hk).1)
  have hown2' := own_snoc (x := 128) hown2 (by rfl)
  have hat2 := hat.keep (w' := w2) (hb2.block g hgl)
  clear hgrow2 hown2 hat1 hb1 hown1
  go_wp2_with fail
  have hp64 : padCount l.length < 64 := by unfold padCount; omega
  have HP : Hid ((l.length + 1 + padCount l.length) % 64 = 56) := by show _ = _; unfold padCount; omega
  go_loopg [3] (padCount l.length) (fun n v wr => ∃ j : Nat, Hid (j + n = padCount l.length) ∧ wr.ownsRow w.heap.size 5 1 v (l.length + 1 + j) (byteCells (l ++ 128 :: List.replicate j 0)) ∧ Below w.heap.size w wr)
  case atStart => exact ⟨0, by show _ = _; omega, by simpa using hown2', hb2⟩
  case round =>
    clear hown2' hat2 hb2
    obtain ⟨j, Hj, hown, hb⟩ := hrel
    have hj64 : j + gk < 64 := by have := Hj.out; omega
    obtain ⟨va, vc, hv⟩ := own_form hown
    subst hv
    by_cases hg0 : gk = 0
    · have ht : (((l.length : Int) + 1 + (j : Int)) % 64 != 56) = false := by rw [bne_eq_false_iff_eq]; have := Hj.out; have := HP.out; omega
      have HJ : Hid (j = padCount l.length) := by show _ = _; have := Hj.out; omega
      clear hg0
      go_wp2_with fail
      generalize hE : l ++ 128 :: List.replicate j 0 = E at hown
      have HE := Lib.hid hE; clear hE
      have hEl : Hid (E.length = l.length + 1 + j) := by show _ = _; rw [← HE.out]; simp; omega
      obtain ⟨wo, rfl⟩ : ∃ wo : World, wo = wr := ⟨_, rfl⟩
      go_loopg [3, 4] 8 (fun n v i wr => ∃ m : List UInt8, n ≤ 8 ∧ i = .int .i64 ((n : Int) - 1) ∧ Hid (m ++ lenBytes many n = lenBytes many 8) ∧ m.length ≤ 8 ∧ wr.ownsRow w.heap.size 5 1 v (l.length + 1 + j + m.length) (byteCells (E ++ m)) ∧ Below w.heap.size w wr)
      case atStart => exact ⟨[], by omega, rfl, rfl, by simp, by simpa using hown, hb⟩
      case round =>
        clear hown hb
        obtain ⟨m, hn8, rfl, Hm, hm8, hown, hb⟩ := hrel
        obtain ⟨va, vc, hv⟩ := own_form hown
        subst hv
        have hat1 := hat.keep (w' := wr) (hb.block g hgl)
        have c9 := hat1.c9
        cases gk with
        | zero =>
          have hm : m = lenBytes many 8 := by have := Hm.out; simpa [lenBytes] using this
          subst hm
          have Hpad : Hid (padded l many = E ++ lenBytes many 8) := by show _ = _; rw [← HE.out]; unfold padded; rw [← HJ.out]
          have hrow3 : OffRow wr w.heap.size 5 (.slice va (l.length + 1 + j + (lenBytes many 8).length) vc) (padded l many) := by
            rw [Hpad.out]
            have := hown
            have hl9 : (E ++ lenBytes many 8).length = l.length + 1 + j + (lenBytes many 8).length := by rw [List.length_append, hEl.out]
            rw [← hl9] at this ⊢
            exact OffRow.of_own this
          have hp0 := padded_length l many hl
          have hplen : (padded l many).length = l.length + 1 + j + (lenBytes many 8).length := by rw [Hpad.out, List.length_append, hEl.out]
          obtain ⟨a0, a1, a2, a3, a4, a5, a6, a7, rfl⟩ := eight hat.1
          have k0 := hat1.c 0 (by omega)
          have k1 := hat1.c 1 (by omega)
          have k2 := hat1.c 2 (by omega)
          have k3 := hat1.c 3 (by omega)
          have k4 := hat1.c 4 (by omega)
          have k5 := hat1.c 5 (by omega)
          have k6 := hat1.c 6 (by omega)
          have k7 := hat1.c 7 (by omega)
          have hjb := hb.alloc hb.size (.cells (u32c [a0, a1, a2, a3, a4, a5, a6, a7]) 90)
          have hjV : Is32 (wr.alloc (.cells (u32c [a0, a1, a2, a3, a4, a5, a6, a7]) 90)) wr.heap.size 90 [a0, a1, a2, a3, a4, a5, a6, a7] := heap_alloc_new wr _
          have hjrow := hrow3.keep (w' := wr.alloc (.cells (u32c [a0, a1, a2, a3, a4, a5, a6, a7]) 90)) (fun b hb' => Below.heap_alloc wr _ b (hrow3.lt b hb').2)
          have hVs := hb.size
          rw [← hplen] at hjrow ⊢
          have Hfin : Hid (finish [a0, a1, a2, a3, a4, a5, a6, a7] l many = outF (absorbAll [a0, a1, a2, a3, a4, a5, a6, a7] (padded l many)).1) := rfl
          clear hb hown hat1 c9 hrow3 hplen Hpad HE hEl
          generalize padded l many = PL at hjrow hp0 Hfin ⊢
          have Hp0 := Lib.hid hp0; clear hp0
          go_wp2_with fail
          clear k0 k1 k2 k3 k4 k5 k6 k7
          obtain ⟨wo, rfl⟩ : ∃ wo : World, wo = wr := ⟨_, rfl⟩
          go_loopg [3] PL.length (fun n v wr => ∃ (l3 : List UInt8) (hs : List Int), Hid (l3.length = n) ∧ Hid (n % 64 = 0) ∧ OffRow wr w.heap.size 5 v l3 ∧ Is32 wr wo.heap.size 90 hs ∧ hs.length = 8 ∧ Below w.heap.size w wr ∧ Hid (absorbAll hs l3 = absorbAll [a0, a1, a2, a3, a4, a5, a6, a7] PL))
          case atStart => exact ⟨PL, _, rfl, Hp0.out, hjrow, hjV, rfl, hjb, rfl⟩
          case round =>
            clear hjrow hjV hjb
            obtain ⟨l3, hs, Hl3, Hn, hrow, hIV, hs8, hb, Habs⟩ := hrel
            have Hs8 := Lib.hid hs8; clear hs8
            by_cases h0 : 0 < l3.length
            · obtain ⟨b, off, cap, hrv, hcap⟩ := hrow.form h0
              subst hrv
              have h64 : 64 ≤ l3.length := by have := Hn.out; have := Hl3.out; omega
              have u1 : (0 : Int) ≤ 64 := by omega
              have u2 : (64 : Int) ≤ (cap : Int) := by omega
              have u3 : (64 : Int) ≤ (l3.length : Int) := by omega
              have u4 : (l3.length : Int) ≤ (cap : Int) := by omega
              have u5 : (0 : Int) < (l3.length : Int) := by omega
              go_wp2_with fail
              refine wp_region_mix [(0, false), (1, true), (2, true)] [3, 4] (by kernel_rfl) (by kernel_rfl) (by rfl) ?_
              simp only [pickH, pickT, List.filterMap_cons, List.filterMap_nil, List.getElem?_cons_zero, List.getElem?_cons_succ, Option.map_some]
              refine wpTakes_still (by rfl) (exec_load_row wr.drew 90 _ (by rfl) wo.heap.size (by rfl) 90 (u32c hs) (0, 0) _ hIV Try.underlying90 rfl (by rw [u32c_size, Hs8.out]; exact Try.size8)) ?_
              try simp only [Act.put, List.setIfInBounds_toArray, List.set_cons_zero, List.set_cons_succ]
              refine wpTakes_pure (v := ?_) (by rfl) (fun w => ?_) ?_
              rotate_left
              focus (first | (go_simp; done) | (go_simp; with_reducible rfl))
              try simp only [Act.put, List.setIfInBounds_toArray, List.set_cons_zero, List.set_cons_succ]
              refine wpTakes_pure (v := ?_) (by rfl) (fun w => ?_) ?_
              rotate_left
              focus (first | (go_simp; done) | (go_simp; with_reducible rfl))
              try simp only [Act.put, List.setIfInBounds_toArray, List.set_cons_zero, List.set_cons_succ]
              refine wpTakes_nil ?_
              have hcel : ∀ j, j < 64 → wr.drew.cell? ⟨b, off + j, none⟩ = some (.int .u8 (((l3.take 64).getD j 0).toNat : Int)) := fun (j : Nat) (hj : j < 64) => by rw [take_getD l3 hj]; exact hrow.cells j (by omega)
              have hblt : b < wr.drew.heap.size := (hrow.lt b rfl).2
              have HC := Lib.hid hcel
              clear hcel
              go_wp2_with fail
              refine (block_any hs Hs8.out b off cap (l3.take 64) wr.drew hblt HC.out).mono ?_
              rintro e w2 ⟨rfl, hb2⟩
              have hbl : (blockF hs (l3.take 64)).length = 8 := by rw [blockF_length]; exact Hs8.out
              have Hstep := Lib.hid (absorbAll_step (h := hs) h64)
              have hng := hrow.ne_block hIV (by decide)
              have hIV2 : Is32 w2 wo.heap.size 90 hs := Is32.below (w := wr.drew) hIV hb2 hIV.lt
              have hrow2 := OffRow.below (w' := w2) (show OffRow wr.drew w.heap.size _ _ l3 from hrow) hb2 (Nat.le_refl _)
              have hbel2 : Below w.heap.size w w2 := hb.drew.trans (hb2.mono hb.size)
              have hIV3 : Is32 (w2.setRow wo.heap.size (u32c (blockF hs (l3.take 64)))) wo.heap.size 90 (blockF hs (l3.take 64)) := Is32.row hIV2
              have hrow3 := hrow2.keep (w' := w2.setRow wo.heap.size (u32c (blockF hs (l3.take 64)))) (fun b' hb' => setRow_other _ _ _ _ (by rintro rfl; exact hng hb'))
              have hbel3 := below_setRow hbel2 hVs (u32c (blockF hs (l3.take 64)))
              clear hb2 hIV hrow hb hrow2 hbel2 HC hng
              dsimp only
              go_step
              refine wpList_store_row (by rfl) _ _ _ (by rfl) wo.heap.size (u32c (blockF hs (l3.take 64))) (by rfl) (by rfl) 90 (u32c hs) hIV2 (by rw [u32c_size, hbl]; exact Try.size8) (by rw [u32c_size, u32c_size, hbl, Hs8.out]) (u32c_one _) ?_
              clear hIV2
              generalize w2.setRow wo.heap.size _ = w3 at hIV3 hrow3 hbel3 ⊢
              go_wp2_with fail
              refine NoPanic.normal ?_
              go_wp2_with fail
              all_goals
                have hcut := hrow3.cut (k := 64) (by omega)
                first | rw [if_pos ‹cap = 64›, show cap - 64 = 0 by omega] at hcut | rw [if_neg ‹¬ cap = 64›] at hcut
                go_roundg (l3.length - 64)
                case measure => have := Hl3.out; omega
                case rel => exact ⟨l3.drop 64, _, by show _ = _; simp, by have := Hn.out; have := Hl3.out; show _ = _; omega, hcut, hIV3, hbl, hbel3, Hstep.out.symm.trans Habs.out⟩
            · have hl0 : l3 = [] := List.eq_nil_of_length_eq_zero (by omega)
              subst hl0
              have Hfin2 : Hid (finish [a0, a1, a2, a3, a4, a5, a6, a7] l many = outF hs) := by
                show _ = _
                rw [Hfin.out, ← Habs.out, absorbAll_end (by simp)]
              obtain ⟨ra3, rc3, rfl⟩ := hrow.len
              clear Hfin Habs hrow Hn Hl3 h0
              go_wp2_with (refine wpList_load_row (by rfl) 90 _ (by rfl) wo.heap.size (by rfl) 90 (u32c hs) (0, 0) _ hIV Try.underlying90 rfl (by rw [u32c_size, Hs8.out]; exact Try.size8) ?_)
              have c9 := hb
              obtain ⟨wo4, rfl⟩ : ∃ wo4 : World, wo4 = wr := ⟨_, rfl⟩
              go_loopg [6, 54] 8 (fun n v i wr => ∃ k : Nat, k + n = 8 ∧ i = .int .i64 (k : Int) ∧ wr.ownsRow w.heap.size 5 1 v (4 * k) (byteCells (outF (hs.take k))) ∧ Below w.heap.size w wr)
              case atStart => exact ⟨0, rfl, rfl, World.ownsRow_nil _ _ _ 1, hb⟩
              case round =>
                clear hb hIV
                obtain ⟨k, hk8, rfl, hown, hb⟩ := hrel
                obtain ⟨va, vc, hv⟩ := own_form hown
                subst hv
                cases gk with
                | zero =>
                  obtain rfl : k = 8 := by omega
                  have hE : hs.take 8 = hs := List.take_of_length_le (by rw [Hs8.out]; omega)
                  rw [hE] at hown
                  have hcv := run_convert_own wr 83 9 5 Try.underlying83 Try.underlying5 Try.underlying9 hown
                  simp only [show 4 * 8 = 32 from rfl] at hcv
                  go_wp2_with fail
                  go_ret
                  exact ⟨congrArg (fun l : List UInt8 => Ending.returned (Value.string ⟨l.toArray⟩)) Hfin2.out.symm, hb⟩
                | succ n =>
                  have hk : k < 8 := by omega
                  have t1 : (k : Int) < 8 := by omega
                  obtain ⟨i3, hi3, _, hs3, _⟩ := info_parts Try.infoU32
                  have hix := run_index_u32 wr 90 88 i3 hs (by rw [Hs8.out]; exact Try.underlying90) Try.underlying88 hi3 hs3 k (by rw [Hs8.out]; exact hk)
                  go_wp2_with (at_builtin; refine wpList_append_lies _ (by rfl) _ _ _ (by rfl) w.heap.size 5 i0 _ 1 1 Try.underlying83 hi0 hz0 hz1 hz2 rfl (by omega) _ _ _ (by rfl) (hown.alloc _) ⟨wr.heap.size, 0, none⟩ 4 4 _ (by rfl) (by rfl) (World.news_of_block (cs := #[_, _, _, _]) (t := 5) (fr := (0, 0)) (heap_alloc_new wr _)) (by simp [Value.oneCell']) (by omega) (by unfold maxLen; omega) (by omega) (by have := hb.size; simp; omega) (wr.heap.size + 1) (by simp) ?_)
                  intro g3 cap3 w3 hown3 hgrow3 _ _
                  have hb3 : Below w.heap.size w w3 := (hb.alloc hb.size _).grown hgrow3 (by have := hb.size; simp; omega) (fun k hk => (hown.lt k hk).1)
                  clear hgrow3 hown hb
                  go_wp2_with fail
                  have hst : outF (hs.take (k + 1)) = outF (hs.take k) ++ [outByte (hs[k]?.getD 0 / 16777216), outByte (hs[k]?.getD 0 / 65536), outByte (hs[k]?.getD 0 / 256), outByte (hs[k]?.getD 0)] := by
                    have hk' : k < hs.length := by rw [Hs8.out]; exact hk
                    rw [List.take_succ_eq_append_getElem hk', outF_append]
                    simp [outF, List.getElem?_eq_getElem hk']
                  have hvals : byteCells (outF (hs.take (k + 1))) = byteCells (outF (hs.take k)) ++ [Value.int .u8 (hs[k]?.getD 0 / 16777216 % 256), Value.int .u8 (hs[k]?.getD 0 / 65536 % 256), Value.int .u8 (hs[k]?.getD 0 / 256 % 256), Value.int .u8 (hs[k]?.getD 0 % 256)] := by
                    rw [hst, byteCells_append]
                    simp only [byteCells, List.map_cons, List.map_nil, outByte_nat, IntKind.wrap_u8]
                  go_roundg n
                  case measure => omega
                  case rel => exact ⟨k + 1, by omega, rfl, by rw [hvals]; exact hown3, hb3⟩
        | succ k =>
          have q0 : ((k + 1 : Nat) : Int) - 1 = (k : Int) := by omega
          rw [q0]
          have q1 : (0 : Int) ≤ (k : Int) := by omega
          have q2 : (0 : Int) ≤ 8 * (k : Int) := by omega
          have q3 : IntKind.i64.wrap (8 * (k : Int)) = 8 * (k : Int) := IntWalk.i64_in _ (by omega)
          have q4 : 0 ≤ (many : Int) * 8 := by omega
          have q5 : (many : Int) * 8 < 18446744073709551616 := by omega
          go_wp2_with (at_builtin; refine wpList_append_lies _ (by rfl) _ _ _ (by rfl) w.heap.size 5 i0 _ 1 1 Try.underlying83 hi0 hz0 hz1 hz2 rfl (by omega) _ _ _ (by rfl) (hown.alloc _) ⟨wr.heap.size, 0, none⟩ 1 1 _ (by rfl) (by rfl) (World.news_of_block (cs := #[_]) (t := 5) (fr := (0, 0)) (heap_alloc_new wr _)) (by simp [Value.oneCell']) (by omega) (by unfold maxLen; omega) (by omega) (by have := hb.size; simp; omega) (wr.heap.size + 1) (by simp) ?_)
          intro g3 cap3 w3 hown3 hgrow3 _ _
          have hb3 : Below w.heap.size w w3 := (hb.alloc hb.size _).grown hgrow3 (by have := hb.size; simp; omega) (fun k hk => (hown.lt k hk).1)
          have hown3' := own_snoc (x := lenByte many k) hown3 (lenByte_nat many k)
          clear hgrow3 hown3 hb hown hat1 c9
          go_wp2_with fail
          go_roundg k
          case measure => omega
          case rel => exact ⟨m ++ [lenByte many k], by omega, rfl, by have := Hm.out; show _ = _; rw [← this]; simp [lenBytes], by have := Hm.out; have h2 := congrArg List.length this; simp [lenBytes_length] at h2 ⊢; omega, by simpa [Nat.add_assoc] using hown3', hb3⟩
    · have ht : (((l.length : Int) + 1 + (j : Int)) % 64 != 56) = true := by rw [bne_iff_ne]; have := Hj.out; have := HP.out; omega
      go_wp2_with (at_builtin; refine wpList_append_lies _ (by rfl) _ _ _ (by rfl) w.heap.size 5 i0 _ 1 1 Try.underlying83 hi0 hz0 hz1 hz2 rfl (by omega) _ _ _ (by rfl) (hown.alloc _) ⟨wr.heap.size, 0, none⟩ 1 1 _ (by rfl) (by rfl) (World.news_of_block (cs := #[_]) (t := 5) (fr := (0, 0)) (heap_alloc_new wr _)) (by simp [Value.oneCell']) (by omega) (by unfold maxLen; omega) (by omega) (by have := hb.size; simp; omega) (wr.heap.size + 1) (by simp) ?_)
      intro g3 cap3 w3 hown3 hgrow3 _ _
      have hb3 : Below w.heap.size w w3 := (hb.alloc hb.size _).grown hgrow3 (by have := hb.size; simp; omega) (fun k hk => (hown.lt k hk).1)
      have hown3' := own_snoc (x := 0) hown3 (by rfl)
      clear hgrow3 hown3 hb hown
      go_wp2_with fail
      go_roundg (gk - 1)
      case measure => omega
      case rel => exact ⟨j + 1, by show _ = _; have := Hj.out; omega, by have := hown3'; rw [List.replicate_succ']; simpa [Nat.add_assoc] using this, hb3⟩
end Go.Proofs.Yteadfpbkhledlaa
