/- The walk of audit.Proof. -/
import Derived.Test.YteadfpbkhledlaaRootWalk
import Derived.Test.YteadfpbkhledlaaAuditJoinsWalk
namespace Go.Proofs.Yteadfpbkhledlaa
open Go.RowKit

/-- what must be known beside a line, the innermost first -/
def proofF : Nat → List (List UInt8) → Nat → List (List UInt8)
  | 0, _, _ => []
  | f + 1, l, at_ =>
    if 1 < l.length then
      if at_ < halfOf l.length then proofF f (l.take (halfOf l.length)) at_ ++ [HexP.hexl (rootP (l.drop (halfOf l.length)))]
      else proofF f (l.drop (halfOf l.length)) (at_ - halfOf l.length) ++ [HexP.hexl (rootP (l.take (halfOf l.length)))]
    else []
theorem proofF_more : ∀ (f g : Nat) (l : List (List UInt8)) (a : Nat), l.length ≤ f → l.length ≤ g → proofF f l a = proofF g l a
  | 0, 0, _, _, _, _ => rfl
  | 0, g + 1, l, a, h, _ => by simp [proofF]; omega
  | f + 1, 0, l, a, _, h => by simp [proofF]; omega
  | f + 1, g + 1, l, a, h1, h2 => by
    unfold proofF
    by_cases h : 1 < l.length
    · have h3 := halfOf_lt (n := l.length) (by omega)
      have h4 := halfOf_pos l.length
      rw [if_pos h, if_pos h, proofF_more f g (l.take _) a (by rw [List.length_take]; omega) (by rw [List.length_take]; omega), proofF_more f g (l.drop _) _ (by rw [List.length_drop]; omega) (by rw [List.length_drop]; omega)]
    · rw [if_neg h, if_neg h]
def proofP (l : List (List UInt8)) (a : Nat) : List (List UInt8) := proofF l.length l a
theorem proofP_end {l : List (List UInt8)} (h : ¬ 1 < l.length) (a : Nat) : proofP l a = [] := by
  unfold proofP
  cases hl : l.length with
  | zero => rfl
  | succ n => unfold proofF; rw [if_neg h]
theorem proofP_left {l : List (List UInt8)} {a : Nat} (h : 1 < l.length) (ha : a < halfOf l.length) : proofP l a = proofP (l.take (halfOf l.length)) a ++ [HexP.hexl (rootP (l.drop (halfOf l.length)))] := by
  have h3 := halfOf_lt (n := l.length) (by omega)
  have h4 := halfOf_pos l.length
  obtain ⟨n, hn⟩ : ∃ n, l.length = n + 1 := ⟨l.length - 1, by omega⟩
  unfold proofP
  rw [show proofF l.length l a = proofF (n + 1) l a by rw [hn]]
  unfold proofF
  rw [if_pos h, if_pos ha]
  rw [proofF_more n ((l.take (halfOf l.length)).length) (l.take _) a (by rw [List.length_take]; omega) (Nat.le_refl _)]
  cases hq : (l.take (halfOf l.length)).length <;> simp [proofF]
theorem proofP_right {l : List (List UInt8)} {a : Nat} (h : 1 < l.length) (ha : ¬ a < halfOf l.length) : proofP l a = proofP (l.drop (halfOf l.length)) (a - halfOf l.length) ++ [HexP.hexl (rootP (l.take (halfOf l.length)))] := by
  have h3 := halfOf_lt (n := l.length) (by omega)
  have h4 := halfOf_pos l.length
  obtain ⟨n, hn⟩ : ∃ n, l.length = n + 1 := ⟨l.length - 1, by omega⟩
  unfold proofP
  rw [show proofF l.length l a = proofF (n + 1) l a by rw [hn]]
  unfold proofF
  rw [if_pos h, if_neg ha]
  rw [proofF_more n ((l.drop (halfOf l.length)).length) (l.drop _) _ (by rw [List.length_drop]; omega) (Nat.le_refl _)]
  cases hq : (l.drop (halfOf l.length)).length <;> simp [proofF]
/-- no more of them than the half's exponent -/
theorem halfOf_two_pow {n d : Nat} (h : n ≤ 2 ^ (d + 1)) (h2 : 2 ≤ n) : halfOf n ≤ 2 ^ d := by
  unfold halfOf
  refine Nat.pow_le_pow_right (by omega) ?_
  have h3 := (Nat.le_log2 (n := n - 1) (k := Nat.log2 (n - 1)) (by omega)).1 (Nat.le_refl _)
  have h4 : 2 ^ Nat.log2 (n - 1) < 2 ^ (d + 1) := by omega
  have := (Nat.pow_lt_pow_iff_right (by omega : 1 < 2)).1 h4
  omega
theorem proofP_length : ∀ (d : Nat) (l : List (List UInt8)) (a : Nat), l.length ≤ 2 ^ d → (proofP l a).length ≤ d
  | 0, l, a, h => by rw [proofP_end (by simp at h; omega)]; simp
  | d + 1, l, a, h => by
    by_cases h1 : 1 < l.length
    · have h3 := halfOf_lt (n := l.length) (by omega)
      have h4 := halfOf_two (n := l.length) (by omega)
      have h5 := halfOf_two_pow h (by omega)
      by_cases ha : a < halfOf l.length
      · rw [proofP_left h1 ha]
        have := proofP_length d (l.take (halfOf l.length)) a (by rw [List.length_take]; omega)
        simp
        omega
      · rw [proofP_right h1 ha]
        have := proofP_length d (l.drop (halfOf l.length)) (a - halfOf l.length) (by rw [List.length_drop]; omega)
        simp
        omega
    · rw [proofP_end h1]; simp

def mkB (r : List UInt8) : ByteArray := ⟨r.toArray⟩
theorem mkB_data (r : List UInt8) : (mkB r).data.toList = r := rfl
def proofB (l : List ByteArray) (a : Nat) : List ByteArray := (proofP (bytesOf l) a).map mkB
theorem proofB_left {l : List ByteArray} {a : Nat} (h : 1 < l.length) (ha : a < halfOf l.length) : proofB l a = proofB (l.take (halfOf l.length)) a ++ [mkB (HexP.hexl (rootP (bytesOf (l.drop (halfOf l.length)))))] := by
  unfold proofB
  rw [proofP_left (by rw [bytesOf_length]; exact h) (by rw [bytesOf_length]; exact ha), bytesOf_length, bytesOf_take, bytesOf_drop]
  simp
theorem proofB_right {l : List ByteArray} {a : Nat} (h : 1 < l.length) (ha : ¬ a < halfOf l.length) : proofB l a = proofB (l.drop (halfOf l.length)) (a - halfOf l.length) ++ [mkB (HexP.hexl (rootP (bytesOf (l.take (halfOf l.length)))))] := by
  unfold proofB
  rw [proofP_right (by rw [bytesOf_length]; exact h) (by rw [bytesOf_length]; exact ha), bytesOf_length, bytesOf_take, bytesOf_drop]
  simp
theorem proofB_end {l : List ByteArray} (h : ¬ 1 < l.length) (a : Nat) : proofB l a = [] := by
  unfold proofB
  rw [proofP_end (by rw [bytesOf_length]; exact h)]
  rfl
theorem proofB_length (l : List ByteArray) (a : Nat) : (proofB l a).length = (proofP (bytesOf l) a).length := by simp [proofB]

theorem own_below {w w' : World} {B n k : Nat} {e : TypeId} {v : Value} {xs : List Value} (h : w.ownsRow B e k v n xs) (hb : Below w.heap.size w w') : w'.ownsRow B e k v n xs := by
  refine ⟨h.1, ?_⟩
  rcases h.2 with h0 | ⟨g, cap, cur, hv, hB, hh, hr⟩
  · exact .inl h0
  · have hg : g < w.heap.size := by
      rcases Nat.lt_or_ge g w.heap.size with h1 | h1
      · exact h1
      · rw [Array.getElem?_eq_none h1] at hh; cases hh
    exact .inr ⟨g, cap, cur, hv, hB, (hb.block g hg).trans hh, hr⟩
/-- a literal of one text is a row of the call's own -/
theorem own_one (w : World) (e : TypeId) (x : ByteArray) (B : Nat) (hB : B ≤ w.heap.size) : (w.alloc (.cells #[.string x] e)).ownsRow B e 1 (.slice (some ⟨w.heap.size, 0, none⟩) 1 1) 1 (strs [x]) := by
  refine ⟨by simp [strs], .inr ⟨w.heap.size, 1, #[.string x], rfl, hB, heap_alloc_new w _, Nat.le_refl _, by unfold maxLen; omega, by simp, by simp [strs]⟩⟩

set_option maxRecDepth 100000 in
set_option maxHeartbeats 800000 in
theorem proof_any (v : Value) (l : List ByteArray) (a : Nat) (w : World) (hl : StrAt w v l) (hx : ∀ x ∈ l, x.size ≤ 1048576) (hll : l.length ≤ 200) (ha : a < l.length) :
    Calls Try.prog 26 #[v, .int .i64 (a : Int)] w fun e w' => ∃ v', e = .returned (.tuple #[v', .int .i64 0]) ∧ w'.ownsRow w.heap.size 9 1 v' (proofB l a).length (strs (proofB l a)) ∧ Below w.heap.size w w' := by
  obtain ⟨i0, hi0, hz0, hz1, hz2⟩ := info_parts Try.infoStr
  obtain ⟨ao, c, rfl, _, _⟩ := hl.len
  have Hl := Lib.hid hl
  have Hx := Lib.hid hx
  clear hl hx
  have q1 : ¬ (200 : Int) < (l.length : Int) := by omega
  have q2 : ¬ (a : Int) < 0 := by omega
  have q3 : ¬ (l.length : Int) ≤ (a : Int) := by omega
  go_enter Try.func26, Try.ntmps26
  go_wp2_with fail
  clear q1 q2 q3
  go_loopg [1, 6, 7] l.length (fun n u1 u6 u7 wr => ∃ (m : List ByteArray) (b : Nat) (acc : List ByteArray), Hid (m.length = n) ∧ u1 = .int .i64 (b : Int) ∧ b < m.length ∧ m.length ≤ 200 ∧ Hid (StrAt wr u7 m) ∧ Hid (∀ x ∈ m, x.size ≤ 1048576) ∧
    wr.ownsRow w.heap.size 9 1 u6 acc.length (strs acc) ∧ acc.length + m.length ≤ 201 ∧ Hid (proofB m b ++ acc = proofB l a) ∧ Below w.heap.size w wr)
  case atStart => exact ⟨l, a, [], rfl, rfl, ha, hll, Hl, Hx, World.ownsRow_nil _ _ _ 1, by simp; omega, by show _ = _; simp, Below.refl _ _⟩
  case round =>
    obtain ⟨m, b, acc, Hm, rfl, hb, hm2, HS, HX, hown, hacc, HP, hbel⟩ := hrel
    obtain ⟨ao7, c7, hv7, _, _⟩ := HS.out.len
    subst hv7
    by_cases h1 : 1 < m.length
    · have q1 : (1 : Int) < (m.length : Int) := by omega
      have k1 := halfOf_pos m.length
      have k2 := halfOf_lt (n := m.length) (by omega)
      have hleft := proofB_left (l := m) (a := b) h1
      have hright := proofB_right (l := m) (a := b) h1
      obtain ⟨k, Hk⟩ : ∃ k, Hid (halfOf m.length = k) := ⟨_, Lib.hid rfl⟩
      rw [Hk.out] at k1 k2 hleft hright
      have Hleft := Lib.hid hleft
      have Hright := Lib.hid hright
      clear hleft hright
      obtain ⟨bb, o, c8, hv8, hc8, hc9, _, _⟩ := HS.out.form (by omega)
      cases hv8
      have hcutA : StrAt wr (.slice (some ⟨bb, o, none⟩) k c7) (m.take k) := by simpa using HS.out.cut rfl (i := 0) (j := k) (by omega) (by omega)
      have hcutB : StrAt wr (.slice (some ⟨bb, o + k, none⟩) (m.length - k) (c7 - k)) (m.drop k) := by simpa using HS.out.cut rfl (i := k) (j := m.length) (by omega) (by omega)
      have HcA := Lib.hid hcutA
      have HcB := Lib.hid hcutB
      clear hcutA hcutB
      have q4 : (0 : Int) ≤ (k : Int) := by omega
      have q5 : (k : Int) ≤ (m.length : Int) := by omega
      have q6 : (k : Int) ≤ (c7 : Int) := by omega
      have q7 : (m.length : Int) ≤ (c7 : Int) := by omega
      have q8 : ¬ c7 = k := by omega
      by_cases hbk : b < k
      · have q9 : (b : Int) < (k : Int) := by omega
        go_wp2_with fail
        refine (half_any m.length wr (by omega)).mono ?_
        rintro e w1 ⟨rfl, rfl⟩
        rw [Hk.out]
        go_wp2_with fail
        refine (rootOf_any m.length _ (m.drop k) wr (by rw [List.length_drop]; omega) HcB.out (fun x hx => HX.out x (List.mem_of_mem_drop hx)) (by rw [List.length_drop]; omega)).mono ?_
        rintro e w2 ⟨rfl, hb2⟩
        go_wp2_with fail
        refine (hex_any _ _ (by rw [size_mk, rootP_length]; omega)).mono ?_
        rintro e w3 ⟨rfl, hb3⟩
        obtain ⟨x, HE⟩ : ∃ x : ByteArray, Hid (ByteArray.mk (HexP.hexl (ByteArray.mk (rootP (bytesOf (m.drop k))).toArray).data.toList).toArray = x) := ⟨_, Lib.hid rfl⟩
        rw [HE.out]
        have hbw0 := below_then hb2 hb3
        have hbel3 := hbel.trans (hbw0.mono hbel.size)
        have hown3 : w3.ownsRow w.heap.size 9 1 u6 acc.length (strs acc) := own_below hown (below_then hb2 hb3)
        have hS3 := (StrAt.of_own hown3 rfl).below ((Below.refl w3.heap.size w3).alloc (Nat.le_refl _) (.cells #[.string x] 9))
        have hone := own_one w3 9 x w.heap.size hbel3.size
        have hbel4 := hbel3.alloc hbel3.size (.cells #[.string x] 9)
        clear hbel hb2 hb3 hown hown3 hbel3
        go_wp2_with (at_builtin; refine wpList_append_strs _ (by rfl) _ _ _ (by rfl) w.heap.size _ i0 Try.underlying29 hi0 hz0 hz1 hz2 _ 1 (by rfl) hone _ (by rfl) hS3 (by omega) hbel4.size ?_)
        intro v6 w5 hown5 hgrow
        have hbel5 := hbel4.grown hgrow hbel4.size (fun j hj => (hone.lt j hj).1)
        have hbw := (hbw0.alloc hbw0.size (.cells #[.string x] 9)).grown hgrow (by have := hbw0.size; simp; omega) (fun j hj => by simp [Value.ownBlock] at hj; have := hbw0.size; omega)
        have hP2 : Hid (proofB (m.take k) b ++ ([x] ++ acc) = proofB l a) := by
          show _ = _
          rw [← HP.out, Hleft.out hbk, ← HE.out]
          simp [mkB]
        have hS5 : Hid (StrAt w5 (.slice (some ⟨bb, o, none⟩) k c7) (m.take k)) := Lib.hid (HcA.out.keep fun p y hp => by
          have hlt : p.block < wr.heap.size := World.block_lt_of_cell? wr _ hp
          rw [← hp]
          exact (hbw.cell hlt))
        have hX5 : Hid (∀ x ∈ m.take k, x.size ≤ 1048576) := Lib.hid (fun x hx => HX.out x (List.mem_of_mem_take hx))
        have hlen5 : (m.take k).length = k := by rw [List.length_take, Nat.min_eq_left (by omega)]
        clear hS3 hone hbel4 hgrow HcA HcB HE
        go_wp2_with fail
        go_roundg k
        case measure => have := Hm.out; omega
        case rel =>
          refine ⟨m.take k, b, [x] ++ acc, Lib.hid hlen5, ?_, by omega, by omega, by rw [hlen5] at *; exact hS5, hX5, by simpa [Nat.add_comm] using hown5, by simp; omega, hP2, hbel5⟩
          first | rfl | (congr 1; omega)
      · have q9 : ¬ (b : Int) < (k : Int) := by omega
        go_wp2_with fail
        refine (half_any m.length wr (by omega)).mono ?_
        rintro e w1 ⟨rfl, rfl⟩
        rw [Hk.out]
        go_wp2_with fail
        refine (rootOf_any m.length _ (m.take k) wr (by rw [List.length_take]; omega) HcA.out (fun x hx => HX.out x (List.mem_of_mem_take hx)) (by rw [List.length_take]; omega)).mono ?_
        rintro e w2 ⟨rfl, hb2⟩
        go_wp2_with fail
        refine (hex_any _ _ (by rw [size_mk, rootP_length]; omega)).mono ?_
        rintro e w3 ⟨rfl, hb3⟩
        obtain ⟨x, HE⟩ : ∃ x : ByteArray, Hid (ByteArray.mk (HexP.hexl (ByteArray.mk (rootP (bytesOf (m.take k))).toArray).data.toList).toArray = x) := ⟨_, Lib.hid rfl⟩
        rw [HE.out]
        have hbw0 := below_then hb2 hb3
        have hbel3 := hbel.trans (hbw0.mono hbel.size)
        have hown3 : w3.ownsRow w.heap.size 9 1 u6 acc.length (strs acc) := own_below hown (below_then hb2 hb3)
        have hS3 := (StrAt.of_own hown3 rfl).below ((Below.refl w3.heap.size w3).alloc (Nat.le_refl _) (.cells #[.string x] 9))
        have hone := own_one w3 9 x w.heap.size hbel3.size
        have hbel4 := hbel3.alloc hbel3.size (.cells #[.string x] 9)
        clear hbel hb2 hb3 hown hown3 hbel3
        go_wp2_with (at_builtin; refine wpList_append_strs _ (by rfl) _ _ _ (by rfl) w.heap.size _ i0 Try.underlying29 hi0 hz0 hz1 hz2 _ 1 (by rfl) hone _ (by rfl) hS3 (by omega) hbel4.size ?_)
        intro v6 w5 hown5 hgrow
        have hbel5 := hbel4.grown hgrow hbel4.size (fun j hj => (hone.lt j hj).1)
        have hbw := (hbw0.alloc hbw0.size (.cells #[.string x] 9)).grown hgrow (by have := hbw0.size; simp; omega) (fun j hj => by simp [Value.ownBlock] at hj; have := hbw0.size; omega)
        have hP2 : Hid (proofB (m.drop k) (b - k) ++ ([x] ++ acc) = proofB l a) := by
          show _ = _
          rw [← HP.out, Hright.out hbk, ← HE.out]
          simp [mkB]
        have hS5 : Hid (StrAt w5 (.slice (some ⟨bb, o + k, none⟩) (m.length - k) (c7 - k)) (m.drop k)) := Lib.hid (HcB.out.keep fun p y hp => by
          have hlt : p.block < wr.heap.size := World.block_lt_of_cell? wr _ hp
          rw [← hp]
          exact (hbw.cell hlt))
        have hX5 : Hid (∀ x ∈ m.drop k, x.size ≤ 1048576) := Lib.hid (fun x hx => HX.out x (List.mem_of_mem_drop hx))
        have hlen5 : (m.drop k).length = m.length - k := by rw [List.length_drop]
        clear hS3 hone hbel4 hgrow HcA HcB HE
        go_wp2_with fail
        go_roundg (m.length - k)
        case measure => have := Hm.out; omega
        case rel =>
          refine ⟨m.drop k, (b - k), [x] ++ acc, Lib.hid hlen5, ?_, by omega, by omega, by rw [hlen5] at *; exact hS5, hX5, by simpa [Nat.add_comm] using hown5, by simp; omega, hP2, hbel5⟩
          first | rfl | (congr 1; omega)
    · have q1 : ¬ (1 : Int) < (m.length : Int) := by omega
      have hp : acc = proofB l a := by rw [← HP.out, proofB_end h1]; rfl
      subst hp
      clear HP
      go_wp2_with fail
      go_ret2
      exact ⟨_, rfl, hown, hbel⟩
end Go.Proofs.Yteadfpbkhledlaa
