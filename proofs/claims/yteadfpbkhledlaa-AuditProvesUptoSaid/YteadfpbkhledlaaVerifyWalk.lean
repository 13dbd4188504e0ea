/- The walk of audit.Verify. -/
import Derived.Test.YteadfpbkhledlaaVerifyPlain
namespace Go.Proofs.Yteadfpbkhledlaa
open Go.RowKit

theorem unhexOut_hexl (l : List UInt8) : unhexOut (HexP.hexl l) = .tuple #[.string ⟨l.toArray⟩, .int .i64 0] := by
  unfold unhexOut; rw [HexP.unhex_hex]
theorem beq_text (l : List UInt8) (r : ByteArray) : (l == r.toList) = decide ((⟨l.toArray⟩ : ByteArray) = r) := by
  rw [ByteArray.toList_eq, Bool.eq_iff_iff]
  simp only [beq_iff_eq, decide_eq_true_eq]
  constructor
  · intro h
    rw [h]
  · intro h
    rw [← h]
def bools (l : List Bool) : List Value := l.map Value.bool
theorem bools_append (l m : List Bool) : bools (l ++ m) = bools l ++ bools m := by simp [bools]
theorem Try.infoBool : (Try.prog.info? 4).map (fun i => (i.zero, i.size, i.bytes)) = some (some (.bool false), 1, 1) := by kernel_rfl
def hexB (qs : List (List UInt8)) : List ByteArray := qs.map fun q => mkB (HexP.hexl q)
theorem hexB_length (qs : List (List UInt8)) : (hexB qs).length = qs.length := by simp [hexB]
theorem verSum_length (bs : List Bool) (qs : List (List UInt8)) (s : List UInt8) (h : s.length = 32) : (verSum bs qs s).length = 32 := by
  unfold verSum
  generalize bs.zip qs = z
  induction z generalizing s with
  | nil => exact h
  | cons x r ih =>
    rw [List.foldl_cons]
    refine ih _ ?_
    unfold verStep
    split <;> exact sumOf_length _
theorem verSum_take {bs : List Bool} {qs : List (List UInt8)} {k : Nat} {b : Bool} {q s : List UInt8} (hb : bs[k]? = some b) (hq : qs[k]? = some q) :
    verSum (bs.take (k + 1)) (qs.take (k + 1)) s = verStep (verSum (bs.take k) (qs.take k) s) (b, q) := by
  obtain ⟨h1, rfl⟩ := List.getElem?_eq_some_iff.1 hb
  obtain ⟨h2, rfl⟩ := List.getElem?_eq_some_iff.1 hq
  rw [List.take_succ_eq_append_getElem h1, List.take_succ_eq_append_getElem h2]
  exact verSum_last (by simp; omega) _ _ _

set_option maxRecDepth 100000 in
set_option maxHeartbeats 800000 in
theorem verify_any (root line : ByteArray) (a n : Nat) (v : Value) (qs : List (List UInt8)) (w : World) (hv : StrAt w v (hexB qs)) (hq : ∀ q ∈ qs, q.length = 32) (han : a < n) (hn : n ≤ 200) (hl : line.size ≤ 1048576) (hqs : qs.length ≤ 1048576) :
    Calls Try.prog 28 #[.string root, .string line, .int .i64 (a : Int), .int .i64 (n : Int), v] w fun e w' =>
      e = .returned (.bool (decide ((leftL n a).length = qs.length) && decide ((⟨(HexP.hexl (verSum (leftL n a).reverse qs (sumOf (0 :: line.data.toList)))).toArray⟩ : ByteArray) = root))) ∧ Below w.heap.size w w' := by
  obtain ⟨i0, hi0, hz0, hz1, hz2⟩ := info_parts Try.infoBool
  obtain ⟨ao, c, rfl, _, _⟩ := hv.len
  have Hv := Lib.hid hv
  have Hq := Lib.hid hq
  clear hv hq
  have q1 : ¬ (n : Int) < 1 := by omega
  have q2 : ¬ (200 : Int) < (n : Int) := by omega
  have q3 : ¬ (a : Int) < 0 := by omega
  have q4 : ¬ (n : Int) ≤ (a : Int) := by omega
  go_enter Try.func28, Try.ntmps28
  go_wp2_with fail
  clear q1 q2 q3 q4
  go_loopg [2, 3, 11] n (fun g u2 u3 u11 wr => ∃ (m b : Nat) (acc : List Bool), Hid (m = g) ∧ u2 = .int .i64 (b : Int) ∧ u3 = .int .i64 (m : Int) ∧ b < m ∧ m ≤ 200 ∧ Hid (acc ++ leftL m b = leftL n a) ∧ acc.length + m ≤ 201 ∧
    wr.ownsRow w.heap.size 4 1 u11 acc.length (bools acc) ∧ Below w.heap.size w wr)
  case atStart => exact ⟨n, a, [], rfl, rfl, rfl, han, hn, rfl, by simp; omega, World.ownsRow_nil _ _ _ 1, Below.refl _ _⟩
  case round =>
    obtain ⟨m, b, acc, Hm, rfl, rfl, hb, hm2, HL, hacc, hown, hbel⟩ := hrel
    by_cases h1 : 1 < m
    · have k1 := halfOf_pos m
      have k2 := halfOf_lt (n := m) (by omega)
      have hleft := leftL_left (n := m) (a := b) h1
      have hright := leftL_right (n := m) (a := b) h1
      obtain ⟨k, Hk⟩ : ∃ k, Hid (halfOf m = k) := ⟨_, Lib.hid rfl⟩
      rw [Hk.out] at k1 k2 hleft hright
      have Hleft := Lib.hid hleft
      have Hright := Lib.hid hright
      clear hleft hright
      have q1 : (1 : Int) < (m : Int) := by omega
      by_cases hbk : b < k
      · have q9 : (b : Int) < (k : Int) := by omega
        go_wp2_with fail
        refine (half_any m wr (by omega)).mono ?_
        rintro e w1 ⟨rfl, rfl⟩
        rw [Hk.out]
        go_wp2_with (at_builtin; refine wpList_append_lies _ (by rfl) _ _ _ (by rfl) w.heap.size 4 i0 _ 1 1 Try.underlying107 hi0 hz0 hz1 hz2 rfl (by omega) _ _ _ (by rfl) (hown.alloc _) ⟨wr.heap.size, 0, none⟩ 1 1 _ (by rfl) (by rfl) (World.news_of_block (cs := #[_]) (t := 4) (fr := (0, 0)) (heap_alloc_new wr _)) (by simp [Value.oneCell']) (by omega) (by unfold maxLen; omega) (by omega) (by have := hbel.size; simp; omega) (wr.heap.size + 1) (by simp) ?_)
        intro g3 cap3 w3 hown3 hgrow3 _ _
        have hb3 : Below w.heap.size w w3 := (hbel.alloc hbel.size _).grown hgrow3 (by have := hbel.size; simp; omega) (fun k hk => (hown.lt k hk).1)
        clear hgrow3 hown hbel
        go_wp2_with fail
        go_roundg k
        case measure => have := Hm.out; omega
        case rel => exact ⟨k, b, acc ++ [true], rfl, rfl, rfl, hbk, by omega, by show _ = _; rw [← HL.out, Hleft.out hbk]; simp, by simp; omega, by rw [bools_append]; simpa [bools] using hown3, hb3⟩
      · have q9 : ¬ (b : Int) < (k : Int) := by omega
        go_wp2_with fail
        refine (half_any m wr (by omega)).mono ?_
        rintro e w1 ⟨rfl, rfl⟩
        rw [Hk.out]
        have r1 : IntKind.i64.wrap ((m : Int) - (k : Int)) = ((m - k : Nat) : Int) := by rw [IntWalk.i64_in _ (by omega)]; omega
        have r2 : IntKind.i64.wrap ((b : Int) - (k : Int)) = ((b - k : Nat) : Int) := by rw [IntWalk.i64_in _ (by omega)]; omega
        go_wp2_with (at_builtin; refine wpList_append_lies _ (by rfl) _ _ _ (by rfl) w.heap.size 4 i0 _ 1 1 Try.underlying107 hi0 hz0 hz1 hz2 rfl (by omega) _ _ _ (by rfl) (hown.alloc _) ⟨wr.heap.size, 0, none⟩ 1 1 _ (by rfl) (by rfl) (World.news_of_block (cs := #[_]) (t := 4) (fr := (0, 0)) (heap_alloc_new wr _)) (by simp [Value.oneCell']) (by omega) (by unfold maxLen; omega) (by omega) (by have := hbel.size; simp; omega) (wr.heap.size + 1) (by simp) ?_)
        intro g3 cap3 w3 hown3 hgrow3 _ _
        have hb3 : Below w.heap.size w w3 := (hbel.alloc hbel.size _).grown hgrow3 (by have := hbel.size; simp; omega) (fun k hk => (hown.lt k hk).1)
        clear hgrow3 hown hbel
        go_wp2_with fail
        go_roundg (m - k)
        case measure => have := Hm.out; omega
        case rel => exact ⟨m - k, b - k, acc ++ [false], rfl, rfl, rfl, by omega, by omega, by show _ = _; rw [← HL.out, Hright.out hbk]; simp, by simp; omega, by rw [bools_append]; simpa [bools] using hown3, hb3⟩
    · have q1 : ¬ (1 : Int) < (m : Int) := by omega
      have hacc2 : acc = leftL n a := by rw [← HL.out, leftL_end h1, List.append_nil]
      obtain ⟨va, vc, hvv⟩ := own_form hown
      subst hvv
      have Hacc := Lib.hid hacc2
      clear hacc2 HL
      have hlq := hexB_length qs
      by_cases hlen : acc.length = qs.length
      · have q2 : ((acc.length : Int) != ((hexB qs).length : Int)) = false := by rw [bne_eq_false_iff_eq]; omega
        have z1 : ¬ 9223372036854775807 < 1 + line.size := by omega
        go_wp2_with fail
        refine (sum_any _ _ (by rw [ByteArray.size_append]; show 1 + line.size ≤ _; omega)).mono ?_
        rintro e w2 ⟨rfl, hb2⟩
        go_wp2_with fail
        have hbel2 := hbel.trans (hb2.mono hbel.size)
        have hown2 := own_below hown hb2
        clear hbel hb2 hown
        go_loopg [13, 63] qs.length (fun g u13 u63 wr => ∃ (k : Nat) (S : List UInt8), k + g = qs.length ∧ u63 = .int .i64 (k : Int) ∧ u13 = .string ⟨S.toArray⟩ ∧ S.length = 32 ∧ Hid (S = verSum (acc.reverse.take k) (qs.take k) (sumOf (0 :: line.data.toList))) ∧
          wr.ownsRow w.heap.size 4 1 (.slice va acc.length vc) acc.length (bools acc) ∧ Below w.heap.size w wr)
        case atStart => exact ⟨0, _, by omega, rfl, rfl, sumOf_length _, rfl, hown2, hbel2⟩
        case round =>
          clear hown2 hbel2
          obtain ⟨k, S, hkg, rfl, rfl, hS, HS, hown, hbel⟩ := hrel
          cases gk with
          | zero =>
            obtain rfl : k = qs.length := by omega
            have hS2 : S = verSum (leftL n a).reverse qs (sumOf (0 :: line.data.toList)) := by
              rw [HS.out, ← Hacc.out, List.take_of_length_le (by rw [List.length_reverse]; omega), List.take_of_length_le (Nat.le_refl _)]
            have HS2 := Lib.hid hS2
            have hd : (decide ((leftL n a).length = qs.length)) = true := by rw [← Hacc.out]; exact decide_eq_true hlen
            have Hd := Lib.hid hd
            clear HS hS2 hd
            go_wp2_with fail
            refine (hex_any _ _ (by rw [size_mk, hS]; omega)).mono ?_
            rintro e w3 ⟨rfl, hb3⟩
            go_wp2_with fail
            go_ret
            refine ⟨congrArg (fun b => Ending.returned (Value.bool b)) ?_, hbel.trans (hb3.mono hbel.size)⟩
            rw [Hd.out, ← HS2.out, Bool.true_and]
            exact beq_text _ _
          | succ g =>
            have hkl : k < qs.length := by omega
            obtain ⟨q, hqk⟩ : ∃ q, qs[k]? = some q := ⟨qs[k], by simp [hkl]⟩
            have hq : q.length = 32 := Hq.out q (List.mem_of_getElem? hqk)
            have hxk : (hexB qs)[k]? = some (mkB (HexP.hexl q)) := by simp [hexB, hqk]
            have Hqk := Lib.hid hqk
            obtain ⟨J, hJ⟩ : ∃ J, J = qs.length - 1 - k := ⟨_, rfl⟩
            have hJl : J < acc.length := by omega
            obtain ⟨bb, hbb⟩ : ∃ bb, acc[J]? = some bb := ⟨acc[J], by simp [hJl]⟩
            have HJb : Hid (acc.reverse[k]? = some bb) := by
              show _ = _
              rw [List.getElem?_reverse (by omega), show acc.length - 1 - k = J by omega]
              exact hbb
            obtain ⟨g2, cap2, hv2, _, _⟩ := hown.form (by omega)
            cases hv2
            have e1 : wr.cell? ⟨g2, J, none⟩ = some (.bool bb) := by
              have := hown.cells (g := g2) rfl J (.bool bb) (by simp [bools, hbb])
              rw [add_plain', Nat.zero_add] at this
              exact this
            obtain ⟨b0, o0, c0, hv0, _, _, h30, hc0⟩ := Hv.out.form (by omega)
            rw [hlq] at hv0
            cases hv0
            have e0 : wr.cell? ⟨b0, o0 + k, none⟩ = some (.string (mkB (HexP.hexl q))) := (hbel.cell (p := ⟨b0, o0 + k, none⟩) h30).trans (hc0 k _ hxk)
            have p1 : (k : Int) < (qs.length : Int) := by omega
            have p2 : (0 : Int) ≤ (k : Int) := by omega
            have p3 : IntKind.i64.wrap ((qs.length : Int) - 1) = (qs.length : Int) - 1 := IntWalk.i64_in _ (by omega)
            have p4 : IntKind.i64.wrap ((qs.length : Int) - 1 - (k : Int)) = (J : Int) := by rw [IntWalk.i64_in _ (by omega)]; omega
            have p5 : (0 : Int) ≤ (J : Int) := by omega
            have p6 : (J : Int) < (qs.length : Int) := by omega
            clear hqk hxk hc0 hbb hJ
            go_wp2_with fail
            refine (unhex_any _ _ (by unfold mkB; rw [size_mk, HexP.hexl_length]; omega)).mono ?_
            rintro e w4 ⟨rfl, hb4⟩
            rw [show unhexOut (mkB (HexP.hexl q)).data.toList = .tuple #[.string ⟨q.toArray⟩, .int .i64 0] from unhexOut_hexl q]
            have hbel4 := hbel.trans (hb4.mono hbel.size)
            have hown4 := own_below hown hb4
            have e4 : w4.cell? ⟨g2, J, none⟩ = some (.bool bb) := (hb4.cell (p := ⟨g2, J, none⟩) (World.block_lt_of_cell? wr _ e1)).trans e1
            clear hbel hb4 hown e0 e1
            cases bb with
            | true =>
              go_wp2_with fail
              have dS : (({ data := #[1] } : ByteArray) ++ { data := S.toArray } ++ { data := q.toArray }).data.toList = 1 :: (S ++ q) := by simp
              have sS : (({ data := #[1] } : ByteArray) ++ { data := S.toArray } ++ { data := q.toArray }).size ≤ 1099510579200 := by
                rw [ByteArray.size_append, ByteArray.size_append, size_mk S, size_mk q, hS, hq]; show 1 + 32 + 32 ≤ _; omega
              refine (sum_any _ _ (by first | exact sS | (simp only [size_mk, ByteArray.size_append] at *; omega))).mono ?_
              rintro e w5 ⟨rfl, hb5⟩
              have hstep : Hid (sumOf (1 :: (S ++ q)) = verSum (acc.reverse.take (k + 1)) (qs.take (k + 1)) (sumOf (0 :: line.data.toList))) := by
                show _ = _
                rw [verSum_take HJb.out Hqk.out, ← HS.out]
                rfl
              have hb15 := hbel4.trans (hb5.mono hbel4.size)
              have hown5 := own_below hown4 hb5
              clear dS sS hb5 hbel4 hown4
              go_wp2_with fail
              go_roundg g
              case measure => omega
              case rel => exact ⟨k + 1, sumOf (1 :: (S ++ q)), by omega, rfl, by first | rfl | simp, sumOf_length _, hstep, hown5, hb15⟩
            | false =>
              go_wp2_with fail
              have dS : (({ data := #[1] } : ByteArray) ++ { data := q.toArray } ++ { data := S.toArray }).data.toList = 1 :: (q ++ S) := by simp
              have sS : (({ data := #[1] } : ByteArray) ++ { data := q.toArray } ++ { data := S.toArray }).size ≤ 1099510579200 := by
                rw [ByteArray.size_append, ByteArray.size_append, size_mk q, size_mk S, hq, hS]; show 1 + 32 + 32 ≤ _; omega
              refine (sum_any _ _ (by first | exact sS | (simp only [size_mk, ByteArray.size_append] at *; omega))).mono ?_
              rintro e w5 ⟨rfl, hb5⟩
              have hstep : Hid (sumOf (1 :: (q ++ S)) = verSum (acc.reverse.take (k + 1)) (qs.take (k + 1)) (sumOf (0 :: line.data.toList))) := by
                show _ = _
                rw [verSum_take HJb.out Hqk.out, ← HS.out]
                rfl
              have hb15 := hbel4.trans (hb5.mono hbel4.size)
              have hown5 := own_below hown4 hb5
              clear dS sS hb5 hbel4 hown4
              go_wp2_with fail
              go_roundg g
              case measure => omega
              case rel => exact ⟨k + 1, sumOf (1 :: (q ++ S)), by omega, rfl, by first | rfl | simp, sumOf_length _, hstep, hown5, hb15⟩
      · have q2 : ((acc.length : Int) != ((hexB qs).length : Int)) = true := by rw [bne_iff_ne]; omega
        have hd : (decide ((leftL n a).length = qs.length)) = false := by rw [← Hacc.out]; exact decide_eq_false hlen
        have Hd := Lib.hid hd
        clear hd
        go_wp2_with fail
        go_ret
        exact ⟨congrArg (fun b => Ending.returned (Value.bool b)) (by rw [Hd.out]; rfl), hbel⟩
end Go.Proofs.Yteadfpbkhledlaa
