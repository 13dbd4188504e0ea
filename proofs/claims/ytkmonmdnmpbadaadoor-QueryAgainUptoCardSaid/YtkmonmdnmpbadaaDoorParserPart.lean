/- query: the parser's part. -/
import Derived.Test.YtkmonmdnmpbadaaDoorParserChoice
namespace Go.Proofs.YtkmonmdnmpbadaaDoor
open Go.RowKit
open QP

theorem hasPrefix_two (c d : UInt8) (r : List UInt8) : Lib.hasPrefix r [c, d] = (headIs c r && headIs d r.tail) := by
  cases r with
  | nil => rfl
  | cons x t =>
    have h1 : Lib.hasPrefix (x :: t) [c, d] = ((c == x) && Lib.hasPrefix t [d]) := rfl
    rw [h1, hasPrefix_one]
    show _ = ((x == c) && headIs d t)
    rw [show (c == x) = (x == c) by rw [Bool.eq_iff_iff, beq_iff_eq, beq_iff_eq]; exact eq_comm]
theorem has2_any (g : Nat) (s : ByteArray) (bad : Bool) (r : List UInt8) (c d : UInt8) (w : World) (h : Par g s bad r w) (hs : s.size ≤ 1048576) :
    Calls Tryd.prog 28 #[.pointer (some ⟨g, 0, none⟩), .string ⟨#[c, d]⟩] w fun e w' => e = .returned (.bool (headIs c r && headIs d r.tail)) ∧ Par g s bad (if (headIs c r && headIs d r.tail) = true then r.tail.tail else r) w' ∧ But g w w' := by
  have h1 := has_any g s bad r ⟨#[c, d]⟩ w h hs
  rw [show (⟨#[c, d]⟩ : ByteArray).data.toList = [c, d] from rfl] at h1
  have h2 : hasR [c, d] r = if (headIs c r && headIs d r.tail) = true then r.tail.tail else r := by
    have hd : r.drop 2 = r.tail.tail := by
      cases r with
      | nil => rfl
      | cons x t => cases t <;> rfl
    unfold hasR
    rw [hasPrefix_two]
    show (if _ then r.drop 2 else r) = _
    rw [hd]
  rw [hasPrefix_two, h2] at h1
  exact h1
theorem own_one (w : World) (t : ByteArray) (e : TypeId) : OwnAt RString 1 (w.alloc (.cells #[.string t] e)) w.heap.size e (.slice (some ⟨w.heap.size, 0, none⟩) 1 1) [t] :=
  ⟨[[.string t]], rfl, fun cs h => (by simp at h; rw [h]; rfl), ⟨rfl, .inr ⟨w.heap.size, 1, #[.string t], rfl, Nat.le_refl _, heap_alloc_new w _, Nat.le_refl _, by unfold maxLen; omega, rfl, rfl⟩⟩,
    fun j cs x hc hx => by
      cases j with
      | zero => simp at hc hx; subst hc; subst hx; rfl
      | succ j => simp at hc⟩
/-- what the switch of part leaves -/
def KeyTold (K : Option (GReq × List UInt8)) (key : ByteArray) (kd : Int) (bd : Bool) (r' : List UInt8) : Prop :=
  (kd = 3 ∧ bd = false ∧ K = some (⟨key, 3, []⟩, r')) ∨ (kd = 3 ∧ bd = true ∧ K = none) ∨ ((kd = 1 ∨ kd = 2) ∧ bd = false ∧ K = some (⟨key, kd, [wordS r']⟩, wordE r'))
set_option maxRecDepth 100000 in
set_option maxHeartbeats 6400000 in
theorem part_any (g : Nat) (s : ByteArray) (r : List UInt8) (w : World) (h : Par g s false r w) (hs : s.size ≤ 300) :
    Calls Tryd.prog 27 #[.pointer (some ⟨g, 0, none⟩)] w (PartAt g s (partP r) w) := by
  have hgw := h.size
  obtain ⟨P, HP0⟩ : ∃ P, Hid (partP r = P) := ⟨_, Lib.hid rfl⟩
  rw [HP0.out]
  have HPe : Hid ((if headIs 33 (skipB r) = true then some (⟨wordS (skipB r).tail, 4, []⟩, wordE (skipB r).tail) else keyP (skipB r)) = P) := Lib.hid (by rw [← HP0.out]; rfl)
  unfold PartAt
  obtain ⟨w2, hw⟩ : ∃ w2, w2 = w.alloc (.cells #[.string ⟨#[]⟩, .int .i64 0, .slice none 0 0] 33) := ⟨_, rfl⟩
  have b2 : w2.heap[w.heap.size]? = some (.cells #[.string ⟨#[]⟩, .int .i64 0, .slice none 0 0] 33 (0, 0)) := by rw [hw]; exact heap_alloc_new w _
  have hb2 : Below w.heap.size w w2 := by rw [hw]; exact (Below.refl _ w).alloc (Nat.le_refl _) _
  have HP2 := Lib.hid (h.below hb2 hgw)
  have HB2 := Lib.hid (But.of (g := g) hb2)
  have B2 := Lib.hid b2
  clear b2 hb2 h
  go_enter Tryd.func27, Tryd.ntmps27
  go_upto_region 1 with fail
  rw [← hw]
  clear hw
  go_wp2_with fail
  refine (blanks_any g s false r w2 HP2.out (by omega)).mono ?_
  rintro E w3 ⟨rfl, hp, hb⟩
  have HP3 := Lib.hid hp
  have HB3 := Lib.hid (HB2.out.trans hb)
  have B23 := Lib.hid (hb.keep B2.out (by omega))
  clear hp hb HP2 HB2 B2
  obtain ⟨R, HR⟩ : ∃ R, Hid (skipB r = R) := ⟨_, Lib.hid rfl⟩
  rw [HR.out] at HPe HP3
  go_wp2_with fail
  refine (has1_any g s false R 33 w3 HP3.out (by omega)).mono ?_
  rintro E w4 ⟨rfl, hp, hb⟩
  have HB4 := Lib.hid (HB3.out.trans hb)
  have B24 := Lib.hid (hb.keep B23.out (by omega))
  cases h33 : headIs 33 R with
  | true =>
    rw [h33, if_pos rfl] at hp
    have HP4 := Lib.hid hp
    have HPf : Hid (some (⟨wordS R.tail, 4, []⟩, wordE R.tail) = P) := Lib.hid (by rw [← HPe.out, h33, if_pos rfl])
    clear hp hb HPe h33
    go_wp2_with fail
    refine (word_any g s false R.tail w4 HP4.out (by omega)).mono ?_
    rintro E w5 ⟨rfl, hp, hb⟩
    have HP5 := Lib.hid hp
    have HB5 := Lib.hid (HB4.out.trans hb)
    have B25 := Lib.hid (hb.keep B24.out (by omega))
    obtain ⟨t, Ht⟩ : ∃ t, Hid (wordS R.tail = t) := ⟨_, Lib.hid rfl⟩
    rw [Ht.out] at HPf ⊢
    clear hp hb
    go_wp2_with (refine wpList_store_box (by rfl) _ _ _ (by rfl) w.heap.size #[.string t, .int .i64 4, .slice none 0 0] (by rfl) (by rfl) _ _ B25.out Tryd.sizeReqP (by rfl) (by simp [Value.oneCell']) ?_)
    intro W6 b6 t6
    have HB6 := Lib.hid (HB5.out.touchNew t6 (Nat.le_refl _))
    have HP6 : Hid (Par g s false (wordE R.tail) W6) := Lib.hid (by
      obtain ⟨x, x1, x2, x3⟩ := HP5.out
      exact ⟨x, x1, x2, t6.block x3 (by omega)⟩)
    clear t6
    go_wp2_with fail
    refine bodyPost_ret (v := .agg #[.string t, .int .i64 4, .slice none 0 0]) ?_ rfl ⟨⟨t, 4, []⟩, .slice none 0 0, rfl, ?_, OwnAt.nil _, ?_, HB6.out⟩
    · have c6 := fun i => cell_block b6 i
      simp [results, Tryd.results27, go_sem, c6]
    · show (1 : Int) ≤ 4 ∧ (4 : Int) ≤ 4
      decide
    · rw [← HPf.out]
      exact ⟨rfl, HP6.out⟩
  | false =>
    rw [h33, if_neg (by simp)] at hp
    have HP4 := Lib.hid hp
    have HK : Hid (keyP R = P) := Lib.hid (by have := HPe.out; rw [h33, if_neg (by simp)] at this; exact this)
    clear hp hb HPe h33
    go_wp2_with fail
    refine (word_any g s false R w4 HP4.out (by omega)).mono ?_
    rintro E w5 ⟨rfl, ⟨a, ha, hr, hp⟩, hb⟩
    have HB5 := Lib.hid (HB4.out.trans hb)
    have B25 := Lib.hid (hb.keep B24.out (by omega))
    have HA5 := Lib.hid hp
    have Hr := Lib.hid hr
    obtain ⟨key, Hkey⟩ : ∃ key, Hid (wordS R = key) := ⟨_, Lib.hid rfl⟩
    obtain ⟨E3, HE3⟩ : ∃ E3, Hid (wordE R = E3) := ⟨_, Lib.hid rfl⟩
    obtain ⟨bl, Hbl⟩ : ∃ bl, Hid (headIs 32 (wordR R) = bl) := ⟨_, Lib.hid rfl⟩
    rw [HE3.out] at Hr
    rw [Hkey.out, Hbl.out]
    have HK2 : Hid ((if E3 = [] ∨ headIs 44 E3 = true then some (⟨key, 3, []⟩, E3)
        else if headIs 61 E3 = true ∧ headIs 61 E3.tail = true then some (⟨key, 1, [wordS E3.tail.tail]⟩, wordE E3.tail.tail)
        else if headIs 61 E3 = true then some (⟨key, 1, [wordS E3.tail]⟩, wordE E3.tail)
        else if headIs 33 E3 = true ∧ headIs 61 E3.tail = true then some (⟨key, 2, [wordS E3.tail.tail]⟩, wordE E3.tail.tail)
        else if bl = true then choiceP key E3 else none) = P) := Lib.hid (by rw [← HK.out, ← Hkey.out, ← HE3.out, ← Hbl.out]; rfl)
    clear hp hb hr HK HP3 HP4 HB3 HB4 B23 B24
    go_upto_block 0 with fail
    obtain ⟨W6, hW6⟩ : ∃ W6, W6 = w5.alloc (.cells #[.string key, .int .i64 3, .slice none 0 0] 33) := ⟨_, rfl⟩
    obtain ⟨g3, hg3⟩ : ∃ g3, g3 = w5.heap.size := ⟨_, rfl⟩
    rw [← hW6, ← hg3]
    have b36 : W6.heap[g3]? = some (.cells #[.string key, .int .i64 3, .slice none 0 0] 33 (0, 0)) := by rw [hW6, hg3]; exact heap_alloc_new w5 _
    have hb6 : Below w5.heap.size w5 W6 := by rw [hW6]; exact (Below.refl _ _).alloc (Nat.le_refl _) _
    have h2g : w.heap.size < g3 := by rw [hg3]; exact block_lt B25.out
    have B36 := Lib.hid b36
    have B26 := Lib.hid (below_block hb6 B25.out)
    have HA6 : Hid (ParAt g s false a W6) := Lib.hid (below_block hb6 HA5.out)
    have HB6 := Lib.hid (HB5.out.trans (But.of hb6))
    have h6s := block_lt b36
    clear hW6 hg3 b36 hb6 B25 HA5 HB5
    go_cut [] (fun wx => ∃ (kd : Int) (bd : Bool) (r' : List UInt8), Hid (wx.heap[g3]? = some (.cells #[.string key, .int .i64 kd, .slice none 0 0] 33 (0, 0))) ∧ Hid (Par g s bd r' wx) ∧ Hid (wx.heap[w.heap.size]? = some (.cells #[.string ⟨#[]⟩, .int .i64 0, .slice none 0 0] 33 (0, 0))) ∧ Hid (But g w wx) ∧ Hid (KeyTold P key kd bd r'))
    case first =>
      have h0 : W6.cell? ⟨g, 0, none⟩ = some (.string s) := cell_block HA6.out 0
      have h1 : W6.cell? ⟨g, 1, none⟩ = some (.int .i64 (a : Int)) := cell_block HA6.out 1
      have HO := Lib.hid (fun n => over_any g s false a (W6.drewN n) HA6.out ha (by omega))
      obtain ⟨cn, Hcn⟩ : ∃ cn, Hid ((decide (a = s.size) || headIs 44 E3) = cn) := ⟨_, Lib.hid rfl⟩
      go_upto_region 8 with fail
      go_cut [31] (fun u31 wx => u31 = .bool cn ∧ ∃ n, wx = W6.drewN n)
      case first =>
        by_cases hs9 : a = s.size
        · have q9 : decide (a = s.size) = true := decide_eq_true hs9
          have Hc : cn = true := by rw [← Hcn.out, q9]; rfl
          subst Hc
          have HO2 : Hid (∀ n, Calls Tryd.prog 26 #[.pointer (some ⟨g, 0, none⟩)] (W6.drewN n) fun e w' => e = .returned (.bool true) ∧ ∃ m, w' = (W6.drewN n).drewN m) := Lib.hid (fun n => by have := HO.out n; rw [q9] at this; exact this)
          clear Hcn HO hs9 q9
          go_quiet ((go_at_call 26; exact Calls.quiet_of (HO2.out _)))
          go_wp2_with fail
          go_meet
          exact ⟨rfl, _, rfl⟩
        · have q9 : decide (a = s.size) = false := decide_eq_false hs9
          have hal : a < s.size := by omega
          have q4 : (a : Int) < (s.size : Int) := by omega
          have q5 : (0 : Int) ≤ (a : Int) := by omega
          have q6 : ((s[a].toNat : Int) == 44) = cn := by
            rw [← Hcn.out, q9, ← Hr.out, drop_at hal]
            show _ = (s[a] == 44)
            rw [Bool.eq_iff_iff, beq_iff_eq, beq_iff_eq]
            have h40 : (44 : UInt8).toNat = 44 := rfl
            constructor
            · intro h; exact UInt8.toNat_inj.1 (by omega)
            · intro h; rw [h]; rfl
          have HO2 : Hid (∀ n, Calls Tryd.prog 26 #[.pointer (some ⟨g, 0, none⟩)] (W6.drewN n) fun e w' => e = .returned (.bool false) ∧ ∃ m, w' = (W6.drewN n).drewN m) := Lib.hid (fun n => by have := HO.out n; rw [q9] at this; exact this)
          clear Hcn HO hs9 q9
          go_quiet ((go_at_call 26; exact Calls.quiet_of (HO2.out _)))
          go_wp2_with fail
          go_meet
          exact ⟨rfl, _, rfl⟩
      case rest =>
        obtain ⟨rfl, nd, rfl⟩ := hcut
        obtain ⟨w7, hw7⟩ : ∃ w7, W6.drewN nd = w7 := ⟨_, rfl⟩
        have B37 : Hid (w7.heap[g3]? = some (.cells #[.string key, .int .i64 3, .slice none 0 0] 33 (0, 0))) := Lib.hid (by rw [← hw7]; exact B36.out)
        have B27 : Hid (w7.heap[w.heap.size]? = some (.cells #[.string ⟨#[]⟩, .int .i64 0, .slice none 0 0] 33 (0, 0))) := Lib.hid (by rw [← hw7]; exact B26.out)
        have HP7 : Hid (Par g s false E3 w7) := Lib.hid (by rw [← hw7]; exact ⟨a, ha, Hr.out, HA6.out⟩)
        have HB7 : Hid (But g w w7) := Lib.hid (by rw [← hw7]; exact HB6.out.drew _)
        have h7s := block_lt B37.out
        have hcn : cn = true ↔ (E3 = [] ∨ headIs 44 E3 = true) := by
          rw [← Hcn.out, Bool.or_eq_true, decide_eq_true_iff]
          refine or_congr ?_ Iff.rfl
          rw [← Hr.out, List.drop_eq_nil_iff]
          have hl : s.data.toList.length = s.size := by simp
          omega
        rw [hw7]
        clear hw7 h0 h1 HO B36 B26 HA6 HB6 Hcn h6s
        cases cn with
        | true =>
          have HKt : Hid (KeyTold P key 3 false E3) := Lib.hid (.inl ⟨rfl, rfl, by rw [← HK2.out, if_pos (hcn.1 rfl)]⟩)
          clear hcn HK2
          go_wp2_with fail
          go_meet
          exact ⟨3, false, E3, B37, HP7, B27, HB7, HKt⟩
        | false =>
          have HK3 := HK2.out
          rw [if_neg (fun he => by have := hcn.2 he; cases this)] at HK3
          clear hcn HK2
          go_wp2_with fail
          refine (has2_any g s false E3 61 61 w7 HP7.out (by omega)).mono ?_
          rintro E w8 ⟨rfl, hp, hb⟩
          have HB8 := Lib.hid (HB7.out.trans hb)
          have B28 := Lib.hid (hb.keep B27.out (by omega))
          have B38 := Lib.hid (hb.keep B37.out (by omega))
          cases he : headIs 61 E3 && headIs 61 E3.tail with
          | true =>
            rw [he, if_pos rfl] at hp
            have HP8 := Lib.hid hp
            have HKt : Hid (KeyTold P key 1 false E3.tail.tail) := Lib.hid (.inr (.inr ⟨.inl rfl, rfl, by rw [← HK3, if_pos (by simpa using he)]⟩))
            have c8 : w8.cell? ⟨g3, 1, none⟩ = some (.int .i64 3) := cell_block B38.out 1
            have z8 : w8.frozen? ⟨g3, 1, none⟩ = false := free_block B38.out 1
            clear hp hb he HK3
            go_wp2_with fail
            obtain ⟨t1, t2⟩ := touch_setCell (i := 1) (v := .int .i64 1) B38.out
            go_meet
            refine ⟨1, false, _, Lib.hid t1, ?_, Lib.hid (t2.block B28.out (by omega)), Lib.hid (HB8.out.touchNew t2 (by omega)), HKt⟩
            obtain ⟨x, x1, x2, x3⟩ := HP8.out
            exact Lib.hid ⟨x, x1, x2, t2.block x3 (by omega)⟩
          | false =>
            rw [he, if_neg (by simp)] at hp
            have HP8 := Lib.hid hp
            rw [if_neg (by rw [← Bool.and_eq_true, he]; simp)] at HK3
            clear hp hb
            go_wp2_with fail
            refine (has1_any g s false E3 61 w8 HP8.out (by omega)).mono ?_
            rintro E w9 ⟨rfl, hp, hb⟩
            have HB9 := Lib.hid (HB8.out.trans hb)
            have B29 := Lib.hid (hb.keep B28.out (by omega))
            have B39 := Lib.hid (hb.keep B38.out (by omega))
            cases he1 : headIs 61 E3 with
            | true =>
              rw [he1, if_pos rfl] at hp
              have HP9 := Lib.hid hp
              have HKt : Hid (KeyTold P key 1 false E3.tail) := Lib.hid (.inr (.inr ⟨.inl rfl, rfl, by rw [← HK3, if_pos he1]⟩))
              have c9 : w9.cell? ⟨g3, 1, none⟩ = some (.int .i64 3) := cell_block B39.out 1
              have z9 : w9.frozen? ⟨g3, 1, none⟩ = false := free_block B39.out 1
              clear hp hb he he1 HK3
              go_wp2_with fail
              obtain ⟨t1, t2⟩ := touch_setCell (i := 1) (v := .int .i64 1) B39.out
              go_meet
              refine ⟨1, false, _, Lib.hid t1, ?_, Lib.hid (t2.block B29.out (by omega)), Lib.hid (HB9.out.touchNew t2 (by omega)), HKt⟩
              obtain ⟨x, x1, x2, x3⟩ := HP9.out
              exact Lib.hid ⟨x, x1, x2, t2.block x3 (by omega)⟩
            | false =>
              rw [he1, if_neg (by simp)] at hp
              have HP9 := Lib.hid hp
              rw [if_neg (by rw [he1]; simp)] at HK3
              clear hp hb
              go_wp2_with fail
              refine (has2_any g s false E3 33 61 w9 HP9.out (by omega)).mono ?_
              rintro E w10 ⟨rfl, hp, hb⟩
              have HB10 := Lib.hid (HB9.out.trans hb)
              have B210 := Lib.hid (hb.keep B29.out (by omega))
              have B310 := Lib.hid (hb.keep B39.out (by omega))
              cases he2 : headIs 33 E3 && headIs 61 E3.tail with
              | true =>
                rw [he2, if_pos rfl] at hp
                have HP10 := Lib.hid hp
                have HKt : Hid (KeyTold P key 2 false E3.tail.tail) := Lib.hid (.inr (.inr ⟨.inr rfl, rfl, by rw [← HK3, if_pos (by simpa using he2)]⟩))
                have c10 : w10.cell? ⟨g3, 1, none⟩ = some (.int .i64 3) := cell_block B310.out 1
                have z10 : w10.frozen? ⟨g3, 1, none⟩ = false := free_block B310.out 1
                clear hp hb he he1 he2 HK3
                go_wp2_with fail
                obtain ⟨t1, t2⟩ := touch_setCell (i := 1) (v := .int .i64 2) B310.out
                go_meet
                refine ⟨2, false, _, Lib.hid t1, ?_, Lib.hid (t2.block B210.out (by omega)), Lib.hid (HB10.out.touchNew t2 (by omega)), HKt⟩
                obtain ⟨x, x1, x2, x3⟩ := HP10.out
                exact Lib.hid ⟨x, x1, x2, t2.block x3 (by omega)⟩
              | false =>
                rw [he2, if_neg (by simp)] at hp
                have HP10 := Lib.hid hp
                rw [if_neg (by rw [← Bool.and_eq_true, he2]; simp)] at HK3
                clear hp hb
                cases bl with
                | true =>
                  have HK4 : Hid (choiceP key E3 = P) := Lib.hid (by rw [← HK3, if_pos rfl])
                  have cc := fun i => cell_block B310.out i
                  clear HK3 he he1 he2
                  go_wp2_with fail
                  refine (choice_any g s key E3 w10 HP10.out hs).mono ?_
                  rintro E w11 ⟨q, v2, rfl, hq, hown, htold, hb⟩
                  obtain ⟨av, cv, rfl, _, _⟩ := hown.row.len
                  have B211 := Lib.hid (hb.keep B210.out (by omega))
                  have HB11 := Lib.hid (HB10.out.trans hb)
                  have Hown := Lib.hid hown
                  have Htold := Lib.hid htold
                  have h10s := block_lt B310.out
                  clear hown htold hb cc
                  simp only []
                  go_at_K
                  refine at_last (by assumption) ?_
                  refine wpList_store_box (by rfl) _ _ _ (by rfl) w.heap.size #[.string q.key, .int .i64 q.kind, .slice av q.vals.length cv] (by rfl) (by rfl) _ _ B211.out Tryd.sizeReqP (by rfl) (by simp [Value.oneCell']) ?_
                  intro W12 b12 t12
                  have HB12 := Lib.hid (HB11.out.touchNew t12 (Nat.le_refl _))
                  have Hown12 := Lib.hid (Hown.out.touchLow flat_string t12 (by omega))
                  have T12 := Lib.hid t12
                  clear t12
                  go_wp2_with fail
                  refine bodyPost_ret (v := .agg #[.string q.key, .int .i64 q.kind, .slice av q.vals.length cv]) ?_ rfl ⟨q, .slice av q.vals.length cv, rfl, hq, Hown12.out.mono (by omega), ?_, HB12.out⟩
                  · have c12 := fun i => cell_block b12 i
                    simp [results, Tryd.results27, go_sem, c12]
                  · have keep : ∀ (bad : Bool) (r' : List UInt8), Par g s bad r' w11 → Par g s bad r' W12 := fun bad r' hp => by
                      obtain ⟨x, x1, x2, x3⟩ := hp
                      exact ⟨x, x1, x2, T12.out.block x3 (by omega)⟩
                    have hl := Htold.out
                    rw [← HK4.out]
                    unfold PartTold at hl ⊢
                    cases hL : choiceP key E3 with
                    | none =>
                      rw [hL] at hl
                      obtain ⟨r', hr'⟩ := hl
                      exact ⟨r', keep _ _ hr'⟩
                    | some x =>
                      rw [hL] at hl
                      exact ⟨hl.1, keep _ _ hl.2⟩
                | false =>
                  have HKt : Hid (KeyTold P key 3 true E3) := Lib.hid (.inr (.inl ⟨rfl, rfl, by rw [← HK3]; rfl⟩))
                  obtain ⟨p2, pz⟩ := par_cells HP10.out
                  clear HK3 he he1 he2
                  go_wp2_with fail
                  obtain ⟨t1, t2⟩ := par_bad HP10.out
                  go_meet
                  exact ⟨3, true, E3, Lib.hid (t2.block B310.out (by omega)), Lib.hid t1, Lib.hid (t2.block B210.out (by omega)), Lib.hid (HB10.out.trans (But.touch t2)), HKt⟩
    case rest =>
      obtain ⟨kd, bd, r', B3, HPr, B2, HB, HKt⟩ := hcut
      have hcs := block_lt B3.out
      have c1 : wc.cell? ⟨g3, 1, none⟩ = some (.int .i64 kd) := cell_block B3.out 1
      rcases HKt.out with ⟨rfl, rfl, hP⟩ | ⟨rfl, rfl, hP⟩ | ⟨hk, rfl, hP⟩
      · have HPP := Lib.hid hP
        clear hP HKt
        go_wp2_with (refine wpList_copy_box (by rfl) _ _ (by rfl) (by rfl) _ _ (by rfl) _ _ (by rfl) _ _ _ _ (by exact B3.out) (by rfl) (by rfl) _ _ (by exact B2.out) Tryd.underlying33 (by rfl) (by exact Tryd.sizeReqP) (by rfl) (by simp [Value.oneCell']) ?_)
        intro W8 b8 t8
        have HB8 := Lib.hid (HB.out.touchNew t8 (Nat.le_refl _))
        have HP8 : Hid (Par g s false r' W8) := Lib.hid (by
          obtain ⟨x, x1, x2, x3⟩ := HPr.out
          exact ⟨x, x1, x2, t8.block x3 (by omega)⟩)
        clear t8 c1
        go_wp2_with fail
        refine bodyPost_ret (v := .agg #[.string key, .int .i64 3, .slice none 0 0]) ?_ rfl ⟨⟨key, 3, []⟩, .slice none 0 0, rfl, ?_, OwnAt.nil _, ?_, HB8.out⟩
        · have c8 := fun i => cell_block b8 i
          simp [results, Tryd.results27, go_sem, c8]
        · show (1 : Int) ≤ 3 ∧ (3 : Int) ≤ 4
          decide
        · rw [HPP.out]
          exact ⟨rfl, HP8.out⟩
      · have HPP := Lib.hid hP
        clear hP HKt
        go_wp2_with (refine wpList_copy_box (by rfl) _ _ (by rfl) (by rfl) _ _ (by rfl) _ _ (by rfl) _ _ _ _ (by exact B3.out) (by rfl) (by rfl) _ _ (by exact B2.out) Tryd.underlying33 (by rfl) (by exact Tryd.sizeReqP) (by rfl) (by simp [Value.oneCell']) ?_)
        intro W8 b8 t8
        have HB8 := Lib.hid (HB.out.touchNew t8 (Nat.le_refl _))
        have HP8 : Hid (Par g s true r' W8) := Lib.hid (by
          obtain ⟨x, x1, x2, x3⟩ := HPr.out
          exact ⟨x, x1, x2, t8.block x3 (by omega)⟩)
        clear t8 c1
        go_wp2_with fail
        refine bodyPost_ret (v := .agg #[.string key, .int .i64 3, .slice none 0 0]) ?_ rfl ⟨⟨key, 3, []⟩, .slice none 0 0, rfl, ?_, OwnAt.nil _, ?_, HB8.out⟩
        · have c8 := fun i => cell_block b8 i
          simp [results, Tryd.results27, go_sem, c8]
        · show (1 : Int) ≤ 3 ∧ (3 : Int) ≤ 4
          decide
        · rw [HPP.out]
          exact ⟨_, HP8.out⟩
      · have HPP := Lib.hid hP
        have qk : (kd != 3) = true := by rw [bne_iff_ne]; omega
        have hk4 : 1 ≤ kd ∧ kd ≤ 4 := by omega
        clear hP hk HKt
        go_wp2_with fail
        refine (word_any g s false r' wc HPr.out (by omega)).mono ?_
        rintro E w8 ⟨rfl, hp, hb⟩
        obtain ⟨t, Ht⟩ : ∃ t, Hid (wordS r' = t) := ⟨_, Lib.hid rfl⟩
        rw [Ht.out] at HPP ⊢
        have HP8 := Lib.hid hp
        have HB8 := Lib.hid (HB.out.trans hb)
        have B28 := Lib.hid (hb.keep B2.out (by omega))
        have B38 := Lib.hid (hb.keep B3.out (by omega))
        have h8s := block_lt B38.out
        clear hp hb c1
        have c9 : w8.cell? ⟨g3, 2, none⟩ = some (.slice none 0 0) := cell_block B38.out 2
        have z9 : w8.frozen? ⟨g3, 2, none⟩ = false := free_block B38.out 2
        obtain ⟨t1, t2⟩ := touch_setCell (i := 2) (v := .slice (some ⟨w8.heap.size, 0, none⟩) 1 1) B38.out
        go_upto_region 19 with fail
        obtain ⟨W9, hW9⟩ : ∃ W9, w8.setCell ⟨g3, 2, none⟩ (.slice (some ⟨w8.heap.size, 0, none⟩) 1 1) = W9 := ⟨_, rfl⟩
        rw [hW9] at t1 t2 ⊢
        have hsz9 : W9.heap.size = w8.heap.size := t2.size
        have hown := own_one W9 t 9
        rw [hsz9] at hown
        obtain ⟨W, hW⟩ : ∃ W, W9.alloc (.cells #[.string t] 9) = W := ⟨_, rfl⟩
        have hb9 : Below W9.heap.size W9 W := by rw [← hW]; exact (Below.refl _ _).alloc (Nat.le_refl _) _
        rw [hW] at hown ⊢
        have B3W : Hid (W.heap[g3]? = some (.cells #[.string key, .int .i64 kd, .slice (some ⟨w8.heap.size, 0, none⟩) 1 1] 33 (0, 0))) := Lib.hid (below_block hb9 t1)
        have B2W := Lib.hid (below_block hb9 (t2.block B28.out (by omega)))
        have HBW := Lib.hid ((HB8.out.touchNew t2 (by omega)).trans (But.of hb9))
        have HownW := Lib.hid hown
        have HPW : Hid (Par g s false (wordE r') W) := Lib.hid (by
          obtain ⟨x, x1, x2, x3⟩ := HP8.out
          exact ⟨x, x1, x2, below_block hb9 (t2.block x3 (by omega))⟩)
        clear hW hW9 t1 t2 c9 z9 hown hb9 hsz9
        go_wp2_with (refine wpList_copy_box (by rfl) _ _ (by rfl) (by rfl) _ _ (by rfl) _ _ (by rfl) _ _ _ _ (by exact B3W.out) (by rfl) (by rfl) _ _ (by exact B2W.out) Tryd.underlying33 (by rfl) (by exact Tryd.sizeReqP) (by rfl) (by simp [Value.oneCell']) ?_)
        intro W10 b10 t10
        have HB10 := Lib.hid (HBW.out.touchNew t10 (Nat.le_refl _))
        have Hown10 := Lib.hid (HownW.out.touchLow flat_string t10 (by omega))
        have HP10 : Hid (Par g s false (wordE r') W10) := Lib.hid (by
          obtain ⟨x, x1, x2, x3⟩ := HPW.out
          exact ⟨x, x1, x2, t10.block x3 (by omega)⟩)
        clear t10
        go_wp2_with fail
        refine bodyPost_ret (v := .agg #[.string key, .int .i64 kd, .slice (some ⟨w8.heap.size, 0, none⟩) 1 1]) ?_ rfl ⟨⟨key, kd, [t]⟩, .slice (some ⟨w8.heap.size, 0, none⟩) 1 1, rfl, hk4, Hown10.out.mono (by omega), ?_, HB10.out⟩
        · have c10 := fun i => cell_block b10 i
          simp [results, Tryd.results27, go_sem, c10]
        · rw [HPP.out]
          exact ⟨rfl, HP10.out⟩
end Go.Proofs.YtkmonmdnmpbadaaDoor
