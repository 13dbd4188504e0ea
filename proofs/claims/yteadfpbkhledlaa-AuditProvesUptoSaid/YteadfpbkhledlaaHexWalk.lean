/- The walks of seal.Hex, seal.digit and seal.Unhex: what they give, for texts of at most 2^40 bytes. -/
import Derived.Test.YteadfpbkhledlaaHexPlain
import Derived.Test.YteadfpbkhledlaaKit
import Derived.Test.YteadfpbkhledlaaPure
import Derived.Test.YteadfpbkhledlaaTabs
import Derived.WalkKit
import Derived.WalkSpells
import Derived.WalkLawsBesides
import Derived.StillTailTactics
import Derived.Deep.AppendLies
import Derived.Lib.Hide
import Derived.Laws.BytesArg
import Derived.KernelRfl
namespace Go.Proofs.Yteadfpbkhledlaa
open Go.RowKit


theorem dig_at : ∀ (n : Nat) (h : n < (ByteArray.mk #[48, 49, 50, 51, 52, 53, 54, 55, 56, 57, 97, 98, 99, 100, 101, 102]).size), (ByteArray.mk #[48, 49, 50, 51, 52, 53, 54, 55, 56, 57, 97, 98, 99, 100, 101, 102])[n]'h = HexP.dig n := by
  intro n h
  have h' : n < 16 := h
  match n, h' with
  | 0, _ => rfl
  | 1, _ => rfl
  | 2, _ => rfl
  | 3, _ => rfl
  | 4, _ => rfl
  | 5, _ => rfl
  | 6, _ => rfl
  | 7, _ => rfl
  | 8, _ => rfl
  | 9, _ => rfl
  | 10, _ => rfl
  | 11, _ => rfl
  | 12, _ => rfl
  | 13, _ => rfl
  | 14, _ => rfl
  | 15, _ => rfl
  | n + 16, h => exact absurd h (by omega)

theorem hex_round {s : ByteArray} {k : Nat} {w w1 : World} {B : Nat} {v v1 : Value} (hlt : k < s.size) {g1 : s[k].toNat / 16 < (ByteArray.mk #[48, 49, 50, 51, 52, 53, 54, 55, 56, 57, 97, 98, 99, 100, 101, 102]).size} {g2 : s[k].toNat % 16 < (ByteArray.mk #[48, 49, 50, 51, 52, 53, 54, 55, 56, 57, 97, 98, 99, 100, 101, 102]).size}
    (_hown : w.ownsRow B 5 1 v (2 * k) (byteCells (HexP.hexl (s.data.toList.take k))))
    (hown1 : w1.ownsRow B 5 1 v1 (2 * k + 2) (byteCells (HexP.hexl (s.data.toList.take k)) ++
      [Value.int .u8 (((ByteArray.mk #[48, 49, 50, 51, 52, 53, 54, 55, 56, 57, 97, 98, 99, 100, 101, 102])[s[k].toNat / 16]'g1).toNat : Int),
       Value.int .u8 (((ByteArray.mk #[48, 49, 50, 51, 52, 53, 54, 55, 56, 57, 97, 98, 99, 100, 101, 102])[s[k].toNat % 16]'g2).toNat : Int)])) :
    w1.ownsRow B 5 1 v1 (2 * (k + 1)) (byteCells (HexP.hexl (s.data.toList.take (k + 1)))) := by
  rw [dig_at, dig_at] at hown1
  rw [take_snoc s k hlt, HexP.hexl_append, byteCells_append]
  exact hown1

set_option maxRecDepth 100000 in
set_option maxHeartbeats 800000 in
theorem hex_any (s : ByteArray) (w : World) (hs : s.size ≤ 1099511627776) :
    Calls Try.prog 15 #[.string s] w fun e w' => e = .returned (.string ⟨(HexP.hexl s.data.toList).toArray⟩) ∧ Below w.heap.size w w' := by
  obtain ⟨i0, hi0, hz0, hz1, hz2⟩ := info_parts Try.infoU8
  go_enter Try.func15, Try.ntmps15
  go_wp2
  go_loopw [3, 7] (fun v i wr => ∃ k : Nat, k ≤ s.size ∧ i = .int .i64 k ∧ wr.ownsRow w.heap.size 5 1 v (2 * k) (byteCells (HexP.hexl (s.data.toList.take k))) ∧ Below w.heap.size w wr) (fun _ i _ => s.size - (intOf i).toNat)
  case atStart => exact ⟨0, Nat.zero_le _, rfl, ⟨by simp [byteCells, HexP.hexl], .inl ⟨rfl, rfl⟩⟩, Below.refl _ _⟩
  case round =>
    obtain ⟨k, hk, rfl, hown, hb⟩ := hrel
    by_cases hlt : k < s.size
    · have h0 : (0 : Int) ≤ (k : Int) := by omega
      have h1 : (k : Int) < (s.size : Int) := by omega
      have hc8 : s[k].toNat < 256 := s[k].toNat_lt
      have hand := bits_and15 s[k].toNat hc8
      have hn0 : (0 : Int) ≤ (s[k].toNat : Int) / 16 := by omega
      have hn1 : (s[k].toNat : Int) / 16 < 16 := by omega
      have hm0 : (0 : Int) ≤ (s[k].toNat : Int) % 16 := by omega
      have hm1 : (s[k].toNat : Int) % 16 < 16 := by omega
      go_wp2_with fail
      refine wp_region_pure 11 (by kernel_rfl) (by kernel_rfl) ?_
      simp only [List.take_succ_cons, List.take_zero, List.drop_succ_cons, List.drop_zero]
      iterate 11
        refine wpPure_step (v := ?_) (by rfl) (fun w => ?_) ?_
        rotate_left
        focus (first | (go_simp; done) | (go_simp; with_reducible rfl))
        try simp only [Act.put, List.setIfInBounds_toArray, List.set_cons_zero, List.set_cons_succ]
      refine wpPure_nil ?_
      change wpList _ _ _ _ _ wr.drew
      go_wp2_with (at_builtin; refine wpList_append_lies _ rfl _ _ _ rfl w.heap.size 5 i0 _ 1 1 Try.underlying83 hi0 hz0 hz1 hz2 rfl (by omega) u3 (2 * k) _ rfl ((hown.alloc _).drew) ⟨wr.heap.size, 0, none⟩ 2 2 _ rfl rfl (World.news_of_block (cs := #[_, _]) (t := 5) (fr := (0, 0)) (heap_alloc_new wr _)) (by simp [Value.oneCell']) (by omega) (by unfold maxLen; omega) (by omega) (by have := hb.size; simp; omega) (wr.heap.size + 1) (by simp) ?_)
      intro g cap w1 hown1 hgrow _ _
      have hrel1 := hex_round hlt hown hown1
      clear hown1 hand
      have hb1 : Below w.heap.size w w1 := ((hb.alloc hb.size _).drew).grown hgrow (by have := hb.size; simp; omega) (fun k hk => (hown.lt k hk).1)
      clear hgrow hown
      go_wp2_with fail
      refine NoPanic.normal ?_
      go_wp2_with fail
      go_roundw
      case rel => exact ⟨k + 1, by omega, by go_num, hrel1, hb1⟩
      case measure => simp [intOf]; omega
    · have hke : k = s.size := by omega
      subst hke
      have hcv := run_convert_own wr 83 9 5 Try.underlying83 Try.underlying5 Try.underlying9 hown
      go_wp2
      go_ret
      rw [List.take_of_length_le (by simp)]
      exact ⟨rfl, hb⟩

set_option maxHeartbeats 800000 in
theorem digit_yes (c : Nat) (hc : HexP.isDig c = true) (h8 : c < 256) (w : World) :
    Calls Try.prog 45 #[.int .u8 (c : Int)] w fun e w' => e = .returned (.tuple #[.int .u8 (HexP.val c : Int), .bool true]) ∧ w = w' := by
  unfold HexP.isDig at hc
  simp at hc
  by_cases h1 : 48 ≤ c
  · by_cases h2 : c ≤ 57
    · have e : HexP.val c = c - 48 := by unfold HexP.val; rw [if_pos ⟨h1, h2⟩]
      rw [e]
      clear e hc
      go_enter Try.func45, Try.ntmps45
      go_wp2
      go_ret2
      exact ⟨by simp; omega, rfl⟩
    · have e : HexP.val c = c - 87 := by unfold HexP.val; rw [if_neg (by omega)]
      have h3 : 97 ≤ c := by omega
      have h4 : c ≤ 102 := by omega
      rw [e]
      clear e hc
      go_enter Try.func45, Try.ntmps45
      go_wp2
      go_ret2
      exact ⟨by simp; omega, rfl⟩
  · exact absurd hc (by omega)

set_option maxHeartbeats 800000 in
theorem digit_no (c : Nat) (hc : HexP.isDig c = false) (h8 : c < 256) (w : World) :
    Calls Try.prog 45 #[.int .u8 (c : Int)] w fun e w' => e = .returned (.tuple #[.int .u8 0, .bool false]) ∧ w = w' := by
  unfold HexP.isDig at hc
  simp at hc
  by_cases h1 : 48 ≤ c
  · by_cases h3 : 97 ≤ c
    · have h2 : ¬ c ≤ 57 := by omega
      have h4 : ¬ c ≤ 102 := by omega
      clear hc
      go_enter Try.func45, Try.ntmps45
      go_wp2
      go_ret2
      exact ⟨rfl, rfl⟩
    · have h2 : ¬ c ≤ 57 := by omega
      clear hc
      go_enter Try.func45, Try.ntmps45
      go_wp2
      go_ret2
      exact ⟨rfl, rfl⟩
  · have h3 : ¬ 97 ≤ c := by omega
    clear hc
    go_enter Try.func45, Try.ntmps45
    go_wp2
    go_ret2
    exact ⟨rfl, rfl⟩

def unhexOut (l : List UInt8) : Value := match HexP.unhexl l with
  | some b => .tuple #[.string ⟨b.toArray⟩, .int .i64 0]
  | none => .tuple #[.string ⟨#[]⟩, .int .i64 16]

theorem unhexOut_bad {l b : List UInt8} {j : Nat} {x y : UInt8} {r : List UInt8} (hu : HexP.unhexl l = (HexP.unhexl (l.drop j)).map (b ++ ·)) (hd : l.drop j = x :: y :: r)
    (h : (HexP.isDig x.toNat && HexP.isDig y.toNat) = false) : unhexOut l = .tuple #[.string ⟨#[]⟩, .int .i64 16] := by
  unfold unhexOut
  rw [hu, hd, HexP.unhexl_bad _ _ _ h]
  rfl
theorem unhexOut_end {l b : List UInt8} {j : Nat} (hu : HexP.unhexl l = (HexP.unhexl (l.drop j)).map (b ++ ·)) (hj : l.length ≤ j) : unhexOut l = .tuple #[.string ⟨b.toArray⟩, .int .i64 0] := by
  unfold unhexOut
  rw [hu, List.drop_eq_nil_of_le hj]
  simp [HexP.unhexl]
theorem unhex_more {l b : List UInt8} {j : Nat} {x y : UInt8} (hu : HexP.unhexl l = (HexP.unhexl (l.drop j)).map (b ++ ·)) (hd : l.drop j = x :: y :: l.drop (j + 2))
    (hx : HexP.isDig x.toNat = true) (hy : HexP.isDig y.toNat = true) :
    Hid (HexP.unhexl l = (HexP.unhexl (l.drop (j + 2))).map ((b ++ [UInt8.ofNat (HexP.val x.toNat * 16 + HexP.val y.toNat)]) ++ ·)) := by
  show _ = _
  rw [← HexP.unhexl_two x y _ hx hy b, ← hd]
  exact hu
theorem unhex_round {w1 : World} {B : Nat} {v1 : Value} {b : List UInt8} {x n : Nat} {z : Int} (hown1 : w1.ownsRow B 5 1 v1 (n + 1) (byteCells b ++ [Value.int .u8 z])) (hz : z = (x : Int)) (hx : x < 256) :
    w1.ownsRow B 5 1 v1 (n + 1) (byteCells (b ++ [UInt8.ofNat x])) := by
  subst hz
  rw [byteCells_append]
  have e : (UInt8.ofNat x).toNat = x := by simp; omega
  simpa [byteCells, e] using hown1

set_option maxRecDepth 100000 in
set_option maxHeartbeats 800000 in
theorem unhex_any (s : ByteArray) (w : World) (hs : s.size ≤ 1099511627776) :
    Calls Try.prog 14 #[.string s] w fun e w' => e = .returned (unhexOut s.data.toList) ∧ Below w.heap.size w w' := by
  obtain ⟨i0, hi0, hz0, hz1, hz2⟩ := info_parts Try.infoU8
  by_cases hodd : s.size % 2 = 1
  · have h1 : (((s.size : Int) % 2) != 0) = true := by rw [bne_iff_ne]; omega
    have hout : unhexOut s.data.toList = .tuple #[.string ⟨#[]⟩, .int .i64 16] := by
      unfold unhexOut; rw [HexP.unhexl_odd _ (by simpa using hodd)]
    rw [hout]
    clear hout
    go_enter Try.func14, Try.ntmps14
    go_wp2
    go_ret2
    exact ⟨rfl, Below.refl _ _⟩
  · have h1 : (((s.size : Int) % 2) != 0) = false := by rw [bne_eq_false_iff_eq]; omega
    go_enter Try.func14, Try.ntmps14
    have Hev : Hid (s.size % 2 = 0) := by show s.size % 2 = 0; omega
    clear hodd
    go_wp2_with fail
    go_loopw [4, 5] (fun v i wr => ∃ j : Nat, ∃ b : List UInt8, j ≤ s.size ∧ Hid (j % 2 = 0) ∧ i = .int .i64 j ∧ b.length ≤ j ∧ Hid (HexP.unhexl s.data.toList = (HexP.unhexl (s.data.toList.drop j)).map (b ++ ·)) ∧
        wr.ownsRow w.heap.size 5 1 v b.length (byteCells b) ∧ Below w.heap.size w wr) (fun _ i _ => s.size - (intOf i).toNat)
    case atStart => exact ⟨0, [], Nat.zero_le _, rfl, rfl, by simp, by show _ = _; simp, ⟨by simp [byteCells], .inl ⟨rfl, rfl⟩⟩, Below.refl _ _⟩
    case round =>
      obtain ⟨j, b, hj, hev, rfl, hbj, Hu, hown, hb⟩ := hrel
      by_cases hlt : j < s.size
      · have hlt1 : j + 1 < s.size := by have := hev.out; have := Hev.out; omega
        have Hd : Hid (s.data.toList.drop j = s[j] :: s[j + 1] :: s.data.toList.drop (j + 2)) := drop_two s j hlt1
        have g0 : (0 : Int) ≤ (j : Int) := by omega
        have g1 : (j : Int) < (s.size : Int) := by omega
        have g2 : (j : Int) + 1 < (s.size : Int) := by omega
        have g3 : (0 : Int) ≤ (j : Int) + 1 := by omega
        have c0 : s[j].toNat < 256 := s[j].toNat_lt
        have c1 : s[j + 1].toNat < 256 := s[j + 1].toNat_lt
        cases hx : HexP.isDig s[j].toNat with
        | true =>
          have Hx := Lib.hid hx; clear hx
          have v0 : HexP.val s[j].toNat < 16 := HexP.val_lt _ Hx.out
          cases hy : HexP.isDig s[j + 1].toNat with
          | true =>
            have Hy := Lib.hid hy; clear hy
            have v1 : HexP.val s[j + 1].toNat < 16 := HexP.val_lt _ Hy.out
            have h256 : HexP.val s[j].toNat * 16 + HexP.val s[j + 1].toNat < 256 := by omega
            have hor := bits_or16 _ _ v0 v1
            go_wp2_with fail
            refine (digit_yes s[j].toNat Hx.out c0 _).mono ?_
            rintro e w' ⟨rfl, rfl⟩
            go_wp2_with fail
            refine (digit_yes s[j + 1].toNat Hy.out c1 _).mono ?_
            rintro e w' ⟨rfl, rfl⟩
            go_wp2_with (at_builtin; refine wpList_append_lies _ rfl _ _ _ rfl w.heap.size 5 i0 _ 1 1 Try.underlying83 hi0 hz0 hz1 hz2 rfl (by omega) u4 b.length _ rfl (hown.alloc _) ⟨wr.heap.size, 0, none⟩ 1 1 _ rfl rfl (World.news_of_block (cs := #[_]) (t := 5) (fr := (0, 0)) (heap_alloc_new wr _)) (by simp [Value.oneCell']) (by omega) (by unfold maxLen; omega) (by omega) (by have := hb.size; simp; omega) (wr.heap.size + 1) (by simp) ?_)
            intro g cap w1 hown1 hgrow _ _
            have hb1 : Below w.heap.size w w1 := (hb.alloc hb.size _).grown hgrow (by have := hb.size; simp; omega) (fun k hk => (hown.lt k hk).1)
            have hown2 := unhex_round (x := HexP.val s[j].toNat * 16 + HexP.val s[j + 1].toNat) hown1 (by simp) h256
            have Hu2 := unhex_more Hu.out Hd.out Hx.out Hy.out
            have hle : b.length + 1 ≤ j + 2 := by omega
            clear hgrow hown hown1 hor
            go_wp2_with fail
            go_roundw
            case rel => exact ⟨j + 2, b ++ [UInt8.ofNat (HexP.val s[j].toNat * 16 + HexP.val s[j + 1].toNat)], by omega, by show (j + 2) % 2 = 0; have := hev.out; omega, by go_num, by simp; omega, Hu2, by simpa using hown2, hb1⟩
            case measure => simp [intOf]; omega
          | false =>
            have Hy := Lib.hid hy; clear hy
            go_wp2_with fail
            refine (digit_yes s[j].toNat Hx.out c0 _).mono ?_
            rintro e w' ⟨rfl, rfl⟩
            go_wp2_with fail
            refine (digit_no s[j + 1].toNat Hy.out c1 _).mono ?_
            rintro e w' ⟨rfl, rfl⟩
            go_wp2_with fail
            go_ret2
            refine ⟨?_, hb⟩
            exact congrArg Ending.returned (unhexOut_bad Hu.out Hd.out (by rw [Hx.out, Hy.out]; rfl)).symm
        | false =>
          have Hx := Lib.hid hx; clear hx
          cases hy : HexP.isDig s[j + 1].toNat with
          | true =>
            have Hy := Lib.hid hy; clear hy
            go_wp2_with fail
            refine (digit_no s[j].toNat Hx.out c0 _).mono ?_
            rintro e w' ⟨rfl, rfl⟩
            go_wp2_with fail
            refine (digit_yes s[j + 1].toNat Hy.out c1 _).mono ?_
            rintro e w' ⟨rfl, rfl⟩
            go_wp2_with fail
            go_ret2
            refine ⟨?_, hb⟩
            exact congrArg Ending.returned (unhexOut_bad Hu.out Hd.out (by rw [Hx.out, Hy.out]; rfl)).symm
          | false =>
            have Hy := Lib.hid hy; clear hy
            go_wp2_with fail
            refine (digit_no s[j].toNat Hx.out c0 _).mono ?_
            rintro e w' ⟨rfl, rfl⟩
            go_wp2_with fail
            refine (digit_no s[j + 1].toNat Hy.out c1 _).mono ?_
            rintro e w' ⟨rfl, rfl⟩
            go_wp2_with fail
            go_ret2
            refine ⟨?_, hb⟩
            exact congrArg Ending.returned (unhexOut_bad Hu.out Hd.out (by rw [Hx.out, Hy.out]; rfl)).symm
      · have Hout : Hid (unhexOut s.data.toList = .tuple #[.string ⟨b.toArray⟩, .int .i64 0]) := unhexOut_end Hu.out (by simp; omega)
        have hcv := run_convert_own wr 83 9 5 Try.underlying83 Try.underlying5 Try.underlying9 hown
        go_wp2_with fail
        go_ret2
        exact ⟨congrArg Ending.returned Hout.out.symm, hb⟩
end Go.Proofs.Yteadfpbkhledlaa
