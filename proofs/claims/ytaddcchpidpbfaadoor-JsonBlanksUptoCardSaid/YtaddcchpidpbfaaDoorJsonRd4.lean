/- json: the reader's numbers. -/
import Derived.Test.YtaddcchpidpbfaaDoorJsonRd3
import Derived.Test.YtaddcchpidpbfaaDoorHold
import Derived.Lib.ParseIntBCases
import Derived.Lib.AtoiErrMem
namespace Go.Proofs.YtaddcchpidpbfaaDoor
open Go.RowKit
open JP (JV Bs)

theorem dec_some : ∀ (ds : Bs) (acc : Nat), (∀ c ∈ ds, JP.digit c = true) → ∃ n, Lib.decFrom acc ds = some n
  | [], acc, _ => ⟨acc, rfl⟩
  | c :: r, acc, h => by
    have hc := h c (List.mem_cons_self ..)
    unfold Lib.decFrom
    unfold JP.digit at hc
    simp only [Bool.and_eq_true, decide_eq_true_eq] at hc
    have h1 : 48 ≤ c.toNat := UInt8.le_iff_toNat_le.1 hc.1
    have h2 : c.toNat ≤ 57 := UInt8.le_iff_toNat_le.1 hc.2
    have : Lib.digitVal c = some (c.toNat - 48) := by unfold Lib.digitVal; rw [if_pos ⟨h1, h2⟩]
    rw [this]
    exact dec_some r _ fun x hx => h x (List.mem_cons_of_mem _ hx)
theorem parse_dec : ∀ (ds : Bs) (acc n : Nat), (acc + 1) * 10 ^ ds.length ≤ 1000000000000000000 → Lib.decFrom acc ds = some n → Lib.parseUint10 acc ds = .ok n
  | [], acc, n, _, h => by simp only [Lib.decFrom, Option.some.injEq] at h; subst h; rfl
  | c :: r, acc, n, hb, h => by
    unfold Lib.decFrom at h
    unfold Lib.parseUint10
    cases hd : Lib.digitVal c with
    | none => rw [hd] at h; cases h
    | some d =>
      rw [hd] at h
      unfold Lib.digitVal at hd
      split at hd
      · rename_i hr
        simp only [Option.some.injEq] at hd
        subst hd
        have hp : 1 ≤ 10 ^ r.length := Nat.one_le_pow _ _ (by decide)
        rw [List.length_cons, Nat.pow_succ, Nat.mul_comm (10 ^ r.length) 10, ← Nat.mul_assoc] at hb
        have h1 : (acc + 1) * 10 ≤ 1000000000000000000 := Nat.le_trans (Nat.le_mul_of_pos_right _ hp) hb
        rw [if_pos hr, if_neg (by omega), if_neg (by omega)]
        refine parse_dec r _ n (Nat.le_trans (Nat.mul_le_mul_right _ ?_) hb) h
        omega
      · cases hd
theorem parse_mag {ds : Bs} (h : ∀ c ∈ ds, JP.digit c = true) (h0 : ds ≠ []) (hl : ds.length ≤ 18) : Lib.parseUintB 64 ds = .ok (JP.decV ds) := by
  obtain ⟨n, hn⟩ := dec_some ds 0 h
  rw [Lib.parseUintB_64]
  unfold Lib.parseMag JP.decV
  rw [if_neg h0, hn]
  refine parse_dec ds 0 n ?_ hn
  have : (10 : Nat) ^ ds.length ≤ 10 ^ 18 := Nat.pow_le_pow_right (by decide) hl
  omega
theorem parse_num {r ds : Bs} (hd : JP.digs r = ds) (h : ∀ c ∈ ds, JP.digit c = true) (h0 : ds ≠ []) (hl : ds.length ≤ 18) : Lib.parseIntB 64 (if JP.negB r = true then 45 :: ds else ds) = .ok (JP.numV r) := by
  have hm := parse_mag h h0 hl
  have hv : JP.decV ds < 1000000000000000000 := by
    have h1 := JP.decV_lt ds
    have h2 : (10 : Nat) ^ ds.length ≤ 10 ^ 18 := Nat.pow_le_pow_right (by decide) hl
    omega
  unfold JP.numV
  rw [hd]
  by_cases hb : JP.negB r = true
  · rw [if_pos hb, if_pos hb, Lib.parseIntB_minus, hm]
    unfold Lib.signedC
    dsimp only
    rw [if_neg (by omega)]
  · rw [if_neg hb, if_neg hb]
    cases ds with
    | nil => exact absurd rfl h0
    | cons c t =>
      have hc := h c (List.mem_cons_self ..)
      have n43 : c.toNat ≠ 43 := fun e => by have : c = 43 := u8_eq e; subst this; revert hc; decide
      have n45 : c.toNat ≠ 45 := fun e => by have : c = 45 := u8_eq e; subst this; revert hc; decide
      rw [Lib.parseIntB_plain _ _ _ n43 n45, hm]
      unfold Lib.signlessC
      dsimp only
      rw [if_neg (by omega)]
theorem digs_neg {s : ByteArray} {a : Nat} (ha : a < s.size) (h : s[a] = 45) : JP.sgn (s.data.toList.drop a) = s.data.toList.drop (a + 1) ∧ JP.negB (s.data.toList.drop a) = true := by
  rw [drop_at ha, h]; exact ⟨rfl, rfl⟩
theorem digs_pos {s : ByteArray} {a : Nat} (ha : a < s.size) (h : s[a] ≠ 45) : JP.sgn (s.data.toList.drop a) = s.data.toList.drop a ∧ JP.negB (s.data.toList.drop a) = false := by
  rw [drop_at ha]; exact JP.sgn_of _ h
theorem digit_nat (c : UInt8) : JP.digit c = decide (48 ≤ c.toNat ∧ c.toNat ≤ 57) := by
  unfold JP.digit
  rw [Bool.eq_iff_iff]
  simp only [Bool.and_eq_true, decide_eq_true_eq, UInt8.le_iff_toNat_le]
  exact Iff.rfl
/-- what a number comes to -/
def NumAt (g : Nat) (s : ByteArray) (m : Nat) (vst : Value) (r : Bs) (w : World) (e : Ending) (w' : World) : Prop :=
  But g w w' ∧ ((JP.numE r = 0 ∧ e = .returned (.iface 2 (.int .i64 (JP.numV r))) ∧ ∃ i, i ≤ s.size ∧ s.data.toList.drop i = JP.numR r ∧ RdAt g s i m vst 0 w') ∨
    (JP.numE r ≠ 0 ∧ e = .returned .nilIface ∧ ∃ i, RdAt g s i m vst (JP.numE r) w'))
theorem numE_nil {r : Bs} (h : JP.digs r = []) : JP.numE r = 3 := by unfold JP.numE; rw [h]
theorem numE_cons {r t : Bs} {c : UInt8} (h : JP.digs r = c :: t) : JP.numE r = if c = 48 ∧ (t ≠ [] ∨ JP.negB r = true) then 3 else if 18 < t.length + 1 then 2 else 0 := by unfold JP.numE; rw [h]; rfl
theorem wrap_sub (a b : Nat) (h : a ≤ 1048577) (k : b ≤ 1048577) : IntKind.i64.wrap ((a : Int) - (b : Int)) = (a : Int) - (b : Int) := IntWalk.i64_in _ (by omega)
set_option maxRecDepth 100000 in
set_option maxHeartbeats 12800000 in
theorem number_any (g : Nat) (s : ByteArray) (a m : Nat) (vst : Value) (w : World) (h : RdAt g s a m vst 0 w) (ha : a < s.size) (hs : s.size ≤ 1048576) :
    Calls Tryd.prog 81 #[.pointer (some ⟨g, 0, none⟩)] w (NumAt g s m vst (s.data.toList.drop a) w) := by
  have c0 : w.cell? ⟨g, 0, none⟩ = some (.string s) := cell_block h 0
  have c1 : w.cell? ⟨g, 1, none⟩ = some (.int .i64 (a : Int)) := cell_block h 1
  have hz : w.frozen? ⟨g, 1, none⟩ = false := free_block h 1
  have H := Lib.hid h
  have q0 : (0 : Int) ≤ (a : Int) := by omega
  have q1 : (a : Int) < (s.size : Int) := by omega
  obtain ⟨r, Hr⟩ : ∃ r, Hid (s.data.toList.drop a = r) := ⟨_, Lib.hid rfl⟩
  rw [Hr.out]
  clear h
  have hgw : g < w.heap.size := by
    have := H.out
    rcases Nat.lt_or_ge g w.heap.size with h1 | h1
    · exact h1
    · unfold RdAt at this; rw [Array.getElem?_eq_none h1] at this; cases this
  by_cases c45 : s[a].toNat = 45
  · have hsg := digs_neg ha (u8_eq (b := 45) c45)
    obtain ⟨t1, t2⟩ := touch_setCell (i := 1) (v := .int .i64 ((a : Int) + 1)) H.out
    have T1 := Lib.hid t1
    have T2 := Lib.hid t2
    rw [Hr.out] at hsg
    have Hsg := Lib.hid hsg.1
    have Hng := Lib.hid hsg.2
    clear hsg t1 t2
    go_enter Tryd.func81, Tryd.ntmps81
    go_wp2_with fail
    go_quiet (fail)
    go_upto_region 4 with fail
    generalize hW : World.setCell (World.drewN w _) _ _ = W
    have hRW : RdAt g s (a + 1) m vst 0 W := by rw [← hW]; exact RdAt.cast T1.out (by omega)
    have hBW : But g w W := by rw [← hW]; exact (But.touch T2.out).drew _
    have hfi : a + 1 ≤ s.size := by omega
    have d1 : W.cell? ⟨g, 1, none⟩ = some (.int .i64 ((a : Int) + 1)) := (cell_block hRW 1).trans (by show some (Value.int .i64 ((a + 1 : Nat) : Int)) = _; rw [show ((a + 1 : Nat) : Int) = (a : Int) + 1 by omega])
    have HRW := Lib.hid hRW
    have HBW := Lib.hid hBW
    clear hW hRW hBW c0 c1 hz T1 T2
    have c45' := c45
    clear c45
    go_wp2_with fail
    clear d1
    go_loopg [] (s.size - (a + 1)) (fun k wr => ∃ i : Nat, i + k = s.size ∧ (a + 1) ≤ i ∧ Hid (Runs JP.digit s (a + 1) i) ∧ Hid (RdAt g s i m vst 0 wr) ∧ Hid (But g w wr))
    case atStart => exact ⟨(a + 1), by omega, Nat.le_refl _, Lib.hid (Runs.start _ hfi), HRW, HBW⟩
    case round =>
      obtain ⟨i, hig, hfi2, HR, HP, HB⟩ := hrel
      have h0 : wr.cell? ⟨g, 0, none⟩ = some (.string s) := cell_block HP.out 0
      have h1 : wr.cell? ⟨g, 1, none⟩ = some (.int .i64 (i : Int)) := cell_block HP.out 1
      have hz : wr.frozen? ⟨g, 1, none⟩ = false := free_block HP.out 1
      have way : (∃ k, gk = k + 1 ∧ i < s.size ∧ ∀ h : i < s.size, JP.digit s[i] = true) ∨ (∀ h : i < s.size, JP.digit s[i] = false) := by
        by_cases hil : i < s.size
        · cases hd : JP.digit s[i] with
          | true => exact .inl ⟨gk - 1, by omega, hil, fun _ => hd⟩
          | false => exact .inr fun _ => hd
        · exact .inr fun h => absurd h hil
      rcases way with ⟨k, rfl, hil, hdg⟩ | hend
      · have hd := hdg hil
        have HR2 := Lib.hid (HR.out.step hil hd)
        rw [digit_nat] at hd
        have hd := of_decide_eq_true hd
        have p0 : decide (i < s.size) = true := decide_eq_true hil
        have p1 : (i : Int) < (s.size : Int) := by omega
        have p2 : (0 : Int) ≤ (i : Int) := by omega
        have p3 : (48 : Int) ≤ (s[i].toNat : Int) := by omega
        have p4 : (s[i].toNat : Int) ≤ 57 := by omega
        clear hd hdg
        go_wp2_with fail
        go_quiet (fail)
        go_wp2_with fail
        obtain ⟨t1, t2⟩ := touch_setCell (i := 1) (v := .int .i64 ((i : Int) + 1)) HP.out
        go_roundg k
        case measure => omega
        case rel => exact ⟨i + 1, by omega, by omega, HR2, Lib.hid (RdAt.cast t1 (by omega)), Lib.hid ((HB.out.trans (But.touch t2)).drew _)⟩
      · obtain ⟨hdr, htk⟩ := HR.out.stop hend
        have hroom := HR.out.room
        have hdg : JP.digs r = (s.data.toList.drop (a + 1)).take (i - (a + 1)) := by unfold JP.digs; rw [Hsg.out, htk]
        have HnR : Hid (s.data.toList.drop i = JP.numR r) := Lib.hid (by unfold JP.numR; rw [Hsg.out, hdr])
        have hall : ∀ c ∈ JP.digs r, JP.digit c = true := fun c hc => by
          unfold JP.digs at hc
          exact List.all_eq_true.1 List.all_takeWhile c hc
        have Hdg := Lib.hid hdg
        have Hall := Lib.hid hall
        have hstop : (¬ (i : Int) < (s.size : Int)) ∨ ((i : Int) < (s.size : Int) ∧ i < s.size ∧ ∀ h : i < s.size, s[i].toNat < 48 ∨ 57 < s[i].toNat) := by
          by_cases hil : i < s.size
          · refine .inr ⟨by omega, hil, fun h => ?_⟩
            have := hend h
            rw [digit_nat] at this
            have := of_decide_eq_false this
            omega
          · exact .inl (by omega)
        clear hdg hall hdr htk hend HR
        have hmn := wrap_sub i (a + 1) (by omega) (by omega)
        rw [show ((a + 1 : Nat) : Int) = (a : Int) + 1 by omega] at hmn
        go_upto_region 5 with fail
        go_cut [66] (fun u66 wx => u66 = .bool false ∧ ∃ n, wx = wr.drewN n)
        case first =>
          rcases hstop with p1 | ⟨p1, hil, hbad⟩
          · have p0 : decide (i < s.size) = false := decide_eq_false (by omega)
            go_wp2_with fail
            go_quiet (fail)
            go_wp2_with fail
            go_meet
            exact ⟨rfl, _, rfl⟩
          · have p2 : (0 : Int) ≤ (i : Int) := by omega
            have p0 : decide (i < s.size) = true := decide_eq_true hil
            by_cases hb : s[i].toNat < 48
            · have p3 : ¬ (48 : Int) ≤ (s[i].toNat : Int) := by omega
              have p5 : decide ((48 : Int) ≤ (s[i].toNat : Int)) = false := decide_eq_false p3
              clear hb hbad
              go_wp2_with fail
              go_quiet (fail)
              go_wp2_with fail
              go_meet
              exact ⟨rfl, _, rfl⟩
            · have p3 : (48 : Int) ≤ (s[i].toNat : Int) := by omega
              have p4 : ¬ (s[i].toNat : Int) ≤ 57 := by have := hbad hil; omega
              clear hb hbad
              go_wp2_with fail
              go_quiet (fail)
              go_wp2_with fail
              go_meet
              exact ⟨by rw [decide_eq_false (by omega)], _, rfl⟩
        case rest =>
        obtain ⟨rfl, nd, rfl⟩ := hcut
        go_upto_region 8 with fail
        obtain ⟨N, hN⟩ : ∃ N : Nat, (i : Int) - ((a : Int) + 1) = (N : Int) := ⟨i - (a + 1), by omega⟩
        rw [hN]
        have hiN : i ≤ (a + 1) + N := by omega
        have hiN2 : (a + 1) + N ≤ i := by omega
        generalize hW : World.drewN wr nd = W
        have hRW : RdAt g s i m vst 0 W := by rw [← hW]; exact HP.out
        have hBW : But g w W := by rw [← hW]; exact HB.out.drew _
        have HRW := Lib.hid hRW
        have HBW := Lib.hid hBW
        have k0 : W.cell? ⟨g, 0, none⟩ = some (.string s) := cell_block hRW 0
        have k1 : W.cell? ⟨g, 1, none⟩ = some (.int .i64 (i : Int)) := cell_block hRW 1
        clear hW hRW hBW hN hmn h0 h1 hz hstop
        by_cases hN0 : N = 0
        · subst hN0
          have HE : Hid (JP.numE r = 3) := Lib.hid (numE_nil (by rw [Hdg.out, show i - (a + 1) = 0 by omega, List.take_zero]))
          clear Hdg Hall
          go_wp2_with fail
          refine (fail_any g s i m vst 0 3 _ HRW.out).mono ?_
          rintro E w1 ⟨rfl, hr, hbt⟩
          have Hr1 := Lib.hid hr
          have Hbt := Lib.hid (HBW.out.trans hbt)
          clear hr hbt k0 k1
          go_wp2_with fail
          go_ret
          exact ⟨Hbt.out, .inr ⟨by rw [HE.out]; decide, rfl, i, by rw [HE.out]; exact Hr1.out⟩⟩
        · have hfs : (a + 1) < s.size := by omega
          have e0 : ((N : Int) == 0) = false := by rw [beq_eq_false_iff_ne]; omega
          have f0 : (0 : Int) ≤ ((a : Int) + 1) := by omega
          have f1 : ((a : Int) + 1) < (s.size : Int) := by omega
          have f2 : ((a : Int) + 1).toNat = a + 1 := by omega
          obtain ⟨t, Ht⟩ : ∃ t, Hid ((s.data.toList.drop ((a + 1) + 1)).take (N - 1) = t) := ⟨_, Lib.hid rfl⟩
          have hD : JP.digs r = s[(a + 1)] :: t := by
            rw [Hdg.out, show i - (a + 1) = (N - 1) + 1 by omega, drop_at hfs, List.take_succ_cons, Ht.out]
          have htl : t.length = N - 1 := by
            have hl : s.data.toList.length = s.size := by simp
            rw [← Ht.out, List.length_take, List.length_drop, hl]; omega
          have HD := Lib.hid hD
          have Htl := Lib.hid htl
          have hE := numE_cons hD
          rw [htl, Hng.out] at hE
          clear hD htl
          by_cases c48 : s[(a + 1)].toNat = 48
          · have hc48 : s[(a + 1)] = 48 := u8_eq (b := 48) c48
            have e1 : (a : Int) < (a : Int) + 1 := by omega
            by_cases h1N : 1 < N
            · have e2 : (1 : Int) < (N : Int) := by omega
              have HE : Hid (JP.numE r = 3) := Lib.hid (by rw [hE, if_pos ⟨hc48, .inr rfl⟩])
              clear Hdg Hall
              go_wp2_with fail
              refine (fail_any g s i m vst 0 3 _ HRW.out).mono ?_
              rintro E w1 ⟨rfl, hr, hbt⟩
              have Hr1 := Lib.hid hr
              have Hbt := Lib.hid (HBW.out.trans hbt)
              clear hr hbt k0 k1
              go_wp2_with fail
              go_ret
              exact ⟨Hbt.out, .inr ⟨by rw [HE.out]; decide, rfl, i, by rw [HE.out]; exact Hr1.out⟩⟩
            · have e2 : ¬ (1 : Int) < (N : Int) := by omega
              have HE : Hid (JP.numE r = 3) := Lib.hid (by rw [hE, if_pos ⟨hc48, .inr rfl⟩])
              clear Hdg Hall
              go_wp2_with fail
              refine (fail_any g s i m vst 0 3 _ HRW.out).mono ?_
              rintro E w1 ⟨rfl, hr, hbt⟩
              have Hr1 := Lib.hid hr
              have Hbt := Lib.hid (HBW.out.trans hbt)
              clear hr hbt k0 k1
              go_wp2_with fail
              go_ret
              exact ⟨Hbt.out, .inr ⟨by rw [HE.out]; decide, rfl, i, by rw [HE.out]; exact Hr1.out⟩⟩
          · have n48 : ((s[(a + 1)].toNat : Int) == 48) = false := by rw [beq_eq_false_iff_ne]; omega
            have hc48 : s[(a + 1)] ≠ 48 := fun e => c48 (by rw [e]; rfl)
            by_cases h18 : 18 < N
            · have e2 : (18 : Int) < (N : Int) := by omega
              have HE : Hid (JP.numE r = 2) := Lib.hid (by rw [hE, if_neg (fun h => hc48 h.1), if_pos (by omega)])
              clear Hdg Hall
              go_wp2_with fail
              refine (fail_any g s i m vst 0 2 _ HRW.out).mono ?_
              rintro E w1 ⟨rfl, hr, hbt⟩
              have Hr1 := Lib.hid hr
              have Hbt := Lib.hid (HBW.out.trans hbt)
              clear hr hbt k0 k1
              go_wp2_with fail
              go_ret
              exact ⟨Hbt.out, .inr ⟨by rw [HE.out]; decide, rfl, i, by rw [HE.out]; exact Hr1.out⟩⟩
            · have e2 : ¬ (18 : Int) < (N : Int) := by omega
              have HE : Hid (JP.numE r = 0) := Lib.hid (by rw [hE, if_neg (fun h => hc48 h.1), if_neg (by omega)])
              have hpn := parse_num HD.out (by rw [← HD.out]; exact Hall.out) (by simp) (by rw [List.length_cons, Htl.out]; omega)
              rw [Hng.out] at hpn
              have hex : (s.extract a i).data.toList = 45 :: (s[a + 1] :: t) := by
                rw [extract_take (by omega) (by omega)]
                have h45 : s[a] = 45 := u8_eq (b := 45) c45' 
                rw [drop_at ha, h45, show i - a = (N - 1) + 1 + 1 by omega, List.take_succ_cons, drop_at hfs, List.take_succ_cons, Ht.out]
              have hpi : Lib.parseIntB 64 (s.extract a i).data.toList = .ok (JP.numV r) := by rw [hex]; exact hpn
              have hxs : (s.extract a i).size ≤ 9223372036854775806 := by
                have hl : (s.extract a i).data.toList.length = (s.extract a i).size := Array.length_toList
                rw [← hl, hex]; simp only [List.length_cons, Htl.out]; omega
              have HC := Lib.hid (fun w' => Tryd.strconv_ParseInt_10_at64_ok (s.extract a i) hxs (JP.numV r) hpi w')
              obtain ⟨V, HV⟩ : ∃ V, Hid (JP.numV r = V) := ⟨_, Lib.hid rfl⟩
              rw [HV.out] at HC
              have p1 : (a : Int) ≤ (i : Int) := by omega
              have p2 : (i : Int) ≤ (s.size : Int) := by omega
              clear hpn hex hpi hxs Hdg Hall HD Htl
              have hgW : g < W.heap.size := Nat.lt_of_lt_of_le hgw HBW.out.size
              go_upto_region 15 with fail
              refine wp_region_hold 15 (fun w' => Below W.heap.size W w') (by kernel_rfl) (by kernel_rfl) ?_ ?_
              · exact (Below.refl _ _).drew
              simp only [List.take_succ_cons, List.take_zero, List.drop_succ_cons, List.drop_zero]
              (first | (refine wpHold_pure (v := ?_) (by rfl) (fun w => ?_) ?_; rotate_left; focus (first | (go_simp; done) | (go_simp; with_reducible rfl))) | (refine wpHold_skip ?_ ?_; focus (go_simp; done)) | (refine wpHold_pure' (v := ?_) ?_ (fun w => ?_) ?_; rotate_left; focus (go_simp; done); focus (first | (go_simp; done) | (go_simp; with_reducible rfl)))); try simp only [Act.put, List.setIfInBounds_toArray, List.set_cons_zero, List.set_cons_succ]
              (first | (refine wpHold_pure (v := ?_) (by rfl) (fun w => ?_) ?_; rotate_left; focus (first | (go_simp; done) | (go_simp; with_reducible rfl))) | (refine wpHold_skip ?_ ?_; focus (go_simp; done)) | (refine wpHold_pure' (v := ?_) ?_ (fun w => ?_) ?_; rotate_left; focus (go_simp; done); focus (first | (go_simp; done) | (go_simp; with_reducible rfl)))); try simp only [Act.put, List.setIfInBounds_toArray, List.set_cons_zero, List.set_cons_succ]
              (first | (refine wpHold_pure (v := ?_) (by rfl) (fun w => ?_) ?_; rotate_left; focus (first | (go_simp; done) | (go_simp; with_reducible rfl))) | (refine wpHold_skip ?_ ?_; focus (go_simp; done)) | (refine wpHold_pure' (v := ?_) ?_ (fun w => ?_) ?_; rotate_left; focus (go_simp; done); focus (first | (go_simp; done) | (go_simp; with_reducible rfl)))); try simp only [Act.put, List.setIfInBounds_toArray, List.set_cons_zero, List.set_cons_succ]
              refine wpHold_read (v := .string s) (by rfl) (fun w' hI => ?_) ?_
              · have d0 := (hI.cell (p := ⟨g, 0, none⟩) hgW).trans k0
                go_simp
                done
              try simp only [Act.put, List.setIfInBounds_toArray, List.set_cons_zero, List.set_cons_succ]
              (first | (refine wpHold_pure (v := ?_) (by rfl) (fun w => ?_) ?_; rotate_left; focus (first | (go_simp; done) | (go_simp; with_reducible rfl))) | (refine wpHold_skip ?_ ?_; focus (go_simp; done)) | (refine wpHold_pure' (v := ?_) ?_ (fun w => ?_) ?_; rotate_left; focus (go_simp; done); focus (first | (go_simp; done) | (go_simp; with_reducible rfl)))); try simp only [Act.put, List.setIfInBounds_toArray, List.set_cons_zero, List.set_cons_succ]
              (first | (refine wpHold_pure (v := ?_) (by rfl) (fun w => ?_) ?_; rotate_left; focus (first | (go_simp; done) | (go_simp; with_reducible rfl))) | (refine wpHold_skip ?_ ?_; focus (go_simp; done)) | (refine wpHold_pure' (v := ?_) ?_ (fun w => ?_) ?_; rotate_left; focus (go_simp; done); focus (first | (go_simp; done) | (go_simp; with_reducible rfl)))); try simp only [Act.put, List.setIfInBounds_toArray, List.set_cons_zero, List.set_cons_succ]
              (first | (refine wpHold_pure (v := ?_) (by rfl) (fun w => ?_) ?_; rotate_left; focus (first | (go_simp; done) | (go_simp; with_reducible rfl))) | (refine wpHold_skip ?_ ?_; focus (go_simp; done)) | (refine wpHold_pure' (v := ?_) ?_ (fun w => ?_) ?_; rotate_left; focus (go_simp; done); focus (first | (go_simp; done) | (go_simp; with_reducible rfl)))); try simp only [Act.put, List.setIfInBounds_toArray, List.set_cons_zero, List.set_cons_succ]
              (first | (refine wpHold_pure (v := ?_) (by rfl) (fun w => ?_) ?_; rotate_left; focus (first | (go_simp; done) | (go_simp; with_reducible rfl))) | (refine wpHold_skip ?_ ?_; focus (go_simp; done)) | (refine wpHold_pure' (v := ?_) ?_ (fun w => ?_) ?_; rotate_left; focus (go_simp; done); focus (first | (go_simp; done) | (go_simp; with_reducible rfl)))); try simp only [Act.put, List.setIfInBounds_toArray, List.set_cons_zero, List.set_cons_succ]
              refine wpHold_read (v := .int .i64 (i : Int)) (by rfl) (fun w' hI => ?_) ?_
              · have d0 := (hI.cell (p := ⟨g, 1, none⟩) hgW).trans k1
                go_simp
                done
              try simp only [Act.put, List.setIfInBounds_toArray, List.set_cons_zero, List.set_cons_succ]
              refine wpHold_pure (v := .string (s.extract a i)) (by rfl) (fun w' => ?_) ?_
              · go_simp
                done
              try simp only [Act.put, List.setIfInBounds_toArray, List.set_cons_zero, List.set_cons_succ]
              refine wpHold_call (v := .tuple #[.int .i64 V, .nilIface]) (f := 94) (args := #[.string (s.extract a i), .int .i64 10, .int .i64 64]) (by rfl) (fun w' => ?_) (fun w' hI => (HC.out w').mono fun e w'' he => ⟨he.1, ?_⟩) ?_
              · go_simp
                done
              · rcases he.2 with rfl | ⟨t', rfl⟩
                · exact hI
                · exact hI.trans ((Lib.bytesWorld_below w' _ t').mono hI.size)
              try simp only [Act.put, List.setIfInBounds_toArray, List.set_cons_zero, List.set_cons_succ]
              (first | (refine wpHold_pure (v := ?_) (by rfl) (fun w => ?_) ?_; rotate_left; focus (first | (go_simp; done) | (go_simp; with_reducible rfl))) | (refine wpHold_skip ?_ ?_; focus (go_simp; done)) | (refine wpHold_pure' (v := ?_) ?_ (fun w => ?_) ?_; rotate_left; focus (go_simp; done); focus (first | (go_simp; done) | (go_simp; with_reducible rfl)))); try simp only [Act.put, List.setIfInBounds_toArray, List.set_cons_zero, List.set_cons_succ]
              (first | (refine wpHold_pure (v := ?_) (by rfl) (fun w => ?_) ?_; rotate_left; focus (first | (go_simp; done) | (go_simp; with_reducible rfl))) | (refine wpHold_skip ?_ ?_; focus (go_simp; done)) | (refine wpHold_pure' (v := ?_) ?_ (fun w => ?_) ?_; rotate_left; focus (go_simp; done); focus (first | (go_simp; done) | (go_simp; with_reducible rfl)))); try simp only [Act.put, List.setIfInBounds_toArray, List.set_cons_zero, List.set_cons_succ]
              (first | (refine wpHold_pure (v := ?_) (by rfl) (fun w => ?_) ?_; rotate_left; focus (first | (go_simp; done) | (go_simp; with_reducible rfl))) | (refine wpHold_skip ?_ ?_; focus (go_simp; done)) | (refine wpHold_pure' (v := ?_) ?_ (fun w => ?_) ?_; rotate_left; focus (go_simp; done); focus (first | (go_simp; done) | (go_simp; with_reducible rfl)))); try simp only [Act.put, List.setIfInBounds_toArray, List.set_cons_zero, List.set_cons_succ]
              (first | (refine wpHold_pure (v := ?_) (by rfl) (fun w => ?_) ?_; rotate_left; focus (first | (go_simp; done) | (go_simp; with_reducible rfl))) | (refine wpHold_skip ?_ ?_; focus (go_simp; done)) | (refine wpHold_pure' (v := ?_) ?_ (fun w => ?_) ?_; rotate_left; focus (go_simp; done); focus (first | (go_simp; done) | (go_simp; with_reducible rfl)))); try simp only [Act.put, List.setIfInBounds_toArray, List.set_cons_zero, List.set_cons_succ]
              refine wpHold_nil ?_
              intro w1 hI
              have HI := Lib.hid hI
              clear hI k0 k1
              try simp only [Act.put, List.setIfInBounds_toArray, List.set_cons_zero, List.set_cons_succ]
              go_wp2_with fail
              go_ret
              exact ⟨HBW.out.trans (But.of HI.out), .inl ⟨HE.out, by rw [HV.out]; rfl, i, hroom, HnR.out, (HI.out.block g hgW).trans HRW.out⟩⟩
  · have n45 : ((s[a].toNat : Int) == 45) = false := by rw [beq_eq_false_iff_ne]; omega
    have hsg := digs_pos ha (fun e => c45 (by rw [e]; rfl))
    rw [Hr.out] at hsg
    have Hsg := Lib.hid hsg.1
    have Hng := Lib.hid hsg.2
    clear hsg
    go_enter Tryd.func81, Tryd.ntmps81
    go_wp2_with fail
    go_quiet (fail)
    go_upto_region 4 with fail
    generalize hW : World.drewN w _ = W
    have hRW : RdAt g s a m vst 0 W := by rw [← hW]; exact H.out
    have hBW : But g w W := by rw [← hW]; exact (But.refl _ _).drew _
    have hfi : a ≤ s.size := by omega
    have d1 : W.cell? ⟨g, 1, none⟩ = some (.int .i64 (a : Int)) := cell_block hRW 1
    have HRW := Lib.hid hRW
    have HBW := Lib.hid hBW
    clear hW hRW hBW c0 c1 hz c45 n45
    go_wp2_with fail
    clear d1
    go_loopg [] (s.size - a) (fun k wr => ∃ i : Nat, i + k = s.size ∧ a ≤ i ∧ Hid (Runs JP.digit s a i) ∧ Hid (RdAt g s i m vst 0 wr) ∧ Hid (But g w wr))
    case atStart => exact ⟨a, by omega, Nat.le_refl _, Lib.hid (Runs.start _ hfi), HRW, HBW⟩
    case round =>
      obtain ⟨i, hig, hfi2, HR, HP, HB⟩ := hrel
      have h0 : wr.cell? ⟨g, 0, none⟩ = some (.string s) := cell_block HP.out 0
      have h1 : wr.cell? ⟨g, 1, none⟩ = some (.int .i64 (i : Int)) := cell_block HP.out 1
      have hz : wr.frozen? ⟨g, 1, none⟩ = false := free_block HP.out 1
      have way : (∃ k, gk = k + 1 ∧ i < s.size ∧ ∀ h : i < s.size, JP.digit s[i] = true) ∨ (∀ h : i < s.size, JP.digit s[i] = false) := by
        by_cases hil : i < s.size
        · cases hd : JP.digit s[i] with
          | true => exact .inl ⟨gk - 1, by omega, hil, fun _ => hd⟩
          | false => exact .inr fun _ => hd
        · exact .inr fun h => absurd h hil
      rcases way with ⟨k, rfl, hil, hdg⟩ | hend
      · have hd := hdg hil
        have HR2 := Lib.hid (HR.out.step hil hd)
        rw [digit_nat] at hd
        have hd := of_decide_eq_true hd
        have p0 : decide (i < s.size) = true := decide_eq_true hil
        have p1 : (i : Int) < (s.size : Int) := by omega
        have p2 : (0 : Int) ≤ (i : Int) := by omega
        have p3 : (48 : Int) ≤ (s[i].toNat : Int) := by omega
        have p4 : (s[i].toNat : Int) ≤ 57 := by omega
        clear hd hdg
        go_wp2_with fail
        go_quiet (fail)
        go_wp2_with fail
        obtain ⟨t1, t2⟩ := touch_setCell (i := 1) (v := .int .i64 ((i : Int) + 1)) HP.out
        go_roundg k
        case measure => omega
        case rel => exact ⟨i + 1, by omega, by omega, HR2, Lib.hid (RdAt.cast t1 (by omega)), Lib.hid ((HB.out.trans (But.touch t2)).drew _)⟩
      · obtain ⟨hdr, htk⟩ := HR.out.stop hend
        have hroom := HR.out.room
        have hdg : JP.digs r = (s.data.toList.drop a).take (i - a) := by unfold JP.digs; rw [Hsg.out, ← Hr.out, htk]
        have HnR : Hid (s.data.toList.drop i = JP.numR r) := Lib.hid (by unfold JP.numR; rw [Hsg.out, ← Hr.out, hdr])
        have hall : ∀ c ∈ JP.digs r, JP.digit c = true := fun c hc => by
          unfold JP.digs at hc
          exact List.all_eq_true.1 List.all_takeWhile c hc
        have Hdg := Lib.hid hdg
        have Hall := Lib.hid hall
        have hstop : (¬ (i : Int) < (s.size : Int)) ∨ ((i : Int) < (s.size : Int) ∧ i < s.size ∧ ∀ h : i < s.size, s[i].toNat < 48 ∨ 57 < s[i].toNat) := by
          by_cases hil : i < s.size
          · refine .inr ⟨by omega, hil, fun h => ?_⟩
            have := hend h
            rw [digit_nat] at this
            have := of_decide_eq_false this
            omega
          · exact .inl (by omega)
        clear hdg hall hdr htk hend HR
        have hmn := wrap_sub i a (by omega) (by omega)
        go_upto_region 5 with fail
        go_cut [66] (fun u66 wx => u66 = .bool false ∧ ∃ n, wx = wr.drewN n)
        case first =>
          rcases hstop with p1 | ⟨p1, hil, hbad⟩
          · have p0 : decide (i < s.size) = false := decide_eq_false (by omega)
            go_wp2_with fail
            go_quiet (fail)
            go_wp2_with fail
            go_meet
            exact ⟨rfl, _, rfl⟩
          · have p2 : (0 : Int) ≤ (i : Int) := by omega
            have p0 : decide (i < s.size) = true := decide_eq_true hil
            by_cases hb : s[i].toNat < 48
            · have p3 : ¬ (48 : Int) ≤ (s[i].toNat : Int) := by omega
              have p5 : decide ((48 : Int) ≤ (s[i].toNat : Int)) = false := decide_eq_false p3
              clear hb hbad
              go_wp2_with fail
              go_quiet (fail)
              go_wp2_with fail
              go_meet
              exact ⟨rfl, _, rfl⟩
            · have p3 : (48 : Int) ≤ (s[i].toNat : Int) := by omega
              have p4 : ¬ (s[i].toNat : Int) ≤ 57 := by have := hbad hil; omega
              clear hb hbad
              go_wp2_with fail
              go_quiet (fail)
              go_wp2_with fail
              go_meet
              exact ⟨by rw [decide_eq_false (by omega)], _, rfl⟩
        case rest =>
        obtain ⟨rfl, nd, rfl⟩ := hcut
        go_upto_region 8 with fail
        obtain ⟨N, hN⟩ : ∃ N : Nat, (i : Int) - (a : Int) = (N : Int) := ⟨i - a, by omega⟩
        rw [hN]
        have hiN : i ≤ a + N := by omega
        have hiN2 : a + N ≤ i := by omega
        generalize hW : World.drewN wr nd = W
        have hRW : RdAt g s i m vst 0 W := by rw [← hW]; exact HP.out
        have hBW : But g w W := by rw [← hW]; exact HB.out.drew _
        have HRW := Lib.hid hRW
        have HBW := Lib.hid hBW
        have k0 : W.cell? ⟨g, 0, none⟩ = some (.string s) := cell_block hRW 0
        have k1 : W.cell? ⟨g, 1, none⟩ = some (.int .i64 (i : Int)) := cell_block hRW 1
        clear hW hRW hBW hN hmn h0 h1 hz hstop
        by_cases hN0 : N = 0
        · subst hN0
          have HE : Hid (JP.numE r = 3) := Lib.hid (numE_nil (by rw [Hdg.out, show i - a = 0 by omega, List.take_zero]))
          clear Hdg Hall
          go_wp2_with fail
          refine (fail_any g s i m vst 0 3 _ HRW.out).mono ?_
          rintro E w1 ⟨rfl, hr, hbt⟩
          have Hr1 := Lib.hid hr
          have Hbt := Lib.hid (HBW.out.trans hbt)
          clear hr hbt k0 k1
          go_wp2_with fail
          go_ret
          exact ⟨Hbt.out, .inr ⟨by rw [HE.out]; decide, rfl, i, by rw [HE.out]; exact Hr1.out⟩⟩
        · have hfs : a < s.size := by omega
          have e0 : ((N : Int) == 0) = false := by rw [beq_eq_false_iff_ne]; omega
          have f0 : (0 : Int) ≤ (a : Int) := by omega
          have f1 : (a : Int) < (s.size : Int) := by omega
          obtain ⟨t, Ht⟩ : ∃ t, Hid ((s.data.toList.drop (a + 1)).take (N - 1) = t) := ⟨_, Lib.hid rfl⟩
          have hD : JP.digs r = s[a] :: t := by
            rw [Hdg.out, show i - a = (N - 1) + 1 by omega, drop_at hfs, List.take_succ_cons, Ht.out]
          have htl : t.length = N - 1 := by
            have hl : s.data.toList.length = s.size := by simp
            rw [← Ht.out, List.length_take, List.length_drop, hl]; omega
          have HD := Lib.hid hD
          have Htl := Lib.hid htl
          have hE := numE_cons hD
          rw [htl, Hng.out] at hE
          clear hD htl
          by_cases c48 : s[a].toNat = 48
          · have hc48 : s[a] = 48 := u8_eq (b := 48) c48
            by_cases h1N : 1 < N
            · have e2 : (1 : Int) < (N : Int) := by omega
              have HE : Hid (JP.numE r = 3) := Lib.hid (by rw [hE, if_pos ⟨hc48, .inl fun h => by have := Htl.out; rw [h] at this; simp at this; omega⟩])
              clear Hdg Hall
              go_wp2_with fail
              refine (fail_any g s i m vst 0 3 _ HRW.out).mono ?_
              rintro E w1 ⟨rfl, hr, hbt⟩
              have Hr1 := Lib.hid hr
              have Hbt := Lib.hid (HBW.out.trans hbt)
              clear hr hbt k0 k1
              go_wp2_with fail
              go_ret
              exact ⟨Hbt.out, .inr ⟨by rw [HE.out]; decide, rfl, i, by rw [HE.out]; exact Hr1.out⟩⟩
            · have e2 : ¬ (1 : Int) < (N : Int) := by omega
              have e3 : ¬ (18 : Int) < (N : Int) := by omega
              have HE : Hid (JP.numE r = 0) := Lib.hid (by rw [hE, if_neg (fun h => h.2.elim (fun h9 => h9 (List.eq_nil_of_length_eq_zero (by rw [Htl.out]; omega))) (fun h9 => by cases h9)), if_neg (by omega)])
              have hpn := parse_num HD.out (by rw [← HD.out]; exact Hall.out) (by simp) (by rw [List.length_cons, Htl.out]; omega)
              rw [Hng.out] at hpn
              have hex : (s.extract a i).data.toList = s[a] :: t := by
                rw [extract_take (by omega) (by omega)]
                rw [drop_at ha, show i - a = (N - 1) + 1 by omega, List.take_succ_cons, Ht.out]
              have hpi : Lib.parseIntB 64 (s.extract a i).data.toList = .ok (JP.numV r) := by rw [hex]; exact hpn
              have hxs : (s.extract a i).size ≤ 9223372036854775806 := by
                have hl : (s.extract a i).data.toList.length = (s.extract a i).size := Array.length_toList
                rw [← hl, hex]; simp only [List.length_cons, Htl.out]; omega
              have HC := Lib.hid (fun w' => Tryd.strconv_ParseInt_10_at64_ok (s.extract a i) hxs (JP.numV r) hpi w')
              obtain ⟨V, HV⟩ : ∃ V, Hid (JP.numV r = V) := ⟨_, Lib.hid rfl⟩
              rw [HV.out] at HC
              have p1 : (a : Int) ≤ (i : Int) := by omega
              have p2 : (i : Int) ≤ (s.size : Int) := by omega
              clear hpn hex hpi hxs Hdg Hall HD Htl
              have hgW : g < W.heap.size := Nat.lt_of_lt_of_le hgw HBW.out.size
              go_upto_region 15 with fail
              refine wp_region_hold 15 (fun w' => Below W.heap.size W w') (by kernel_rfl) (by kernel_rfl) ?_ ?_
              · exact (Below.refl _ _).drew
              simp only [List.take_succ_cons, List.take_zero, List.drop_succ_cons, List.drop_zero]
              (first | (refine wpHold_pure (v := ?_) (by rfl) (fun w => ?_) ?_; rotate_left; focus (first | (go_simp; done) | (go_simp; with_reducible rfl))) | (refine wpHold_skip ?_ ?_; focus (go_simp; done)) | (refine wpHold_pure' (v := ?_) ?_ (fun w => ?_) ?_; rotate_left; focus (go_simp; done); focus (first | (go_simp; done) | (go_simp; with_reducible rfl)))); try simp only [Act.put, List.setIfInBounds_toArray, List.set_cons_zero, List.set_cons_succ]
              (first | (refine wpHold_pure (v := ?_) (by rfl) (fun w => ?_) ?_; rotate_left; focus (first | (go_simp; done) | (go_simp; with_reducible rfl))) | (refine wpHold_skip ?_ ?_; focus (go_simp; done)) | (refine wpHold_pure' (v := ?_) ?_ (fun w => ?_) ?_; rotate_left; focus (go_simp; done); focus (first | (go_simp; done) | (go_simp; with_reducible rfl)))); try simp only [Act.put, List.setIfInBounds_toArray, List.set_cons_zero, List.set_cons_succ]
              (first | (refine wpHold_pure (v := ?_) (by rfl) (fun w => ?_) ?_; rotate_left; focus (first | (go_simp; done) | (go_simp; with_reducible rfl))) | (refine wpHold_skip ?_ ?_; focus (go_simp; done)) | (refine wpHold_pure' (v := ?_) ?_ (fun w => ?_) ?_; rotate_left; focus (go_simp; done); focus (first | (go_simp; done) | (go_simp; with_reducible rfl)))); try simp only [Act.put, List.setIfInBounds_toArray, List.set_cons_zero, List.set_cons_succ]
              refine wpHold_read (v := .string s) (by rfl) (fun w' hI => ?_) ?_
              · have d0 := (hI.cell (p := ⟨g, 0, none⟩) hgW).trans k0
                go_simp
                done
              try simp only [Act.put, List.setIfInBounds_toArray, List.set_cons_zero, List.set_cons_succ]
              (first | (refine wpHold_pure (v := ?_) (by rfl) (fun w => ?_) ?_; rotate_left; focus (first | (go_simp; done) | (go_simp; with_reducible rfl))) | (refine wpHold_skip ?_ ?_; focus (go_simp; done)) | (refine wpHold_pure' (v := ?_) ?_ (fun w => ?_) ?_; rotate_left; focus (go_simp; done); focus (first | (go_simp; done) | (go_simp; with_reducible rfl)))); try simp only [Act.put, List.setIfInBounds_toArray, List.set_cons_zero, List.set_cons_succ]
              (first | (refine wpHold_pure (v := ?_) (by rfl) (fun w => ?_) ?_; rotate_left; focus (first | (go_simp; done) | (go_simp; with_reducible rfl))) | (refine wpHold_skip ?_ ?_; focus (go_simp; done)) | (refine wpHold_pure' (v := ?_) ?_ (fun w => ?_) ?_; rotate_left; focus (go_simp; done); focus (first | (go_simp; done) | (go_simp; with_reducible rfl)))); try simp only [Act.put, List.setIfInBounds_toArray, List.set_cons_zero, List.set_cons_succ]
              (first | (refine wpHold_pure (v := ?_) (by rfl) (fun w => ?_) ?_; rotate_left; focus (first | (go_simp; done) | (go_simp; with_reducible rfl))) | (refine wpHold_skip ?_ ?_; focus (go_simp; done)) | (refine wpHold_pure' (v := ?_) ?_ (fun w => ?_) ?_; rotate_left; focus (go_simp; done); focus (first | (go_simp; done) | (go_simp; with_reducible rfl)))); try simp only [Act.put, List.setIfInBounds_toArray, List.set_cons_zero, List.set_cons_succ]
              (first | (refine wpHold_pure (v := ?_) (by rfl) (fun w => ?_) ?_; rotate_left; focus (first | (go_simp; done) | (go_simp; with_reducible rfl))) | (refine wpHold_skip ?_ ?_; focus (go_simp; done)) | (refine wpHold_pure' (v := ?_) ?_ (fun w => ?_) ?_; rotate_left; focus (go_simp; done); focus (first | (go_simp; done) | (go_simp; with_reducible rfl)))); try simp only [Act.put, List.setIfInBounds_toArray, List.set_cons_zero, List.set_cons_succ]
              refine wpHold_read (v := .int .i64 (i : Int)) (by rfl) (fun w' hI => ?_) ?_
              · have d0 := (hI.cell (p := ⟨g, 1, none⟩) hgW).trans k1
                go_simp
                done
              try simp only [Act.put, List.setIfInBounds_toArray, List.set_cons_zero, List.set_cons_succ]
              refine wpHold_pure (v := .string (s.extract a i)) (by rfl) (fun w' => ?_) ?_
              · go_simp
                done
              try simp only [Act.put, List.setIfInBounds_toArray, List.set_cons_zero, List.set_cons_succ]
              refine wpHold_call (v := .tuple #[.int .i64 V, .nilIface]) (f := 94) (args := #[.string (s.extract a i), .int .i64 10, .int .i64 64]) (by rfl) (fun w' => ?_) (fun w' hI => (HC.out w').mono fun e w'' he => ⟨he.1, ?_⟩) ?_
              · go_simp
                done
              · rcases he.2 with rfl | ⟨t', rfl⟩
                · exact hI
                · exact hI.trans ((Lib.bytesWorld_below w' _ t').mono hI.size)
              try simp only [Act.put, List.setIfInBounds_toArray, List.set_cons_zero, List.set_cons_succ]
              (first | (refine wpHold_pure (v := ?_) (by rfl) (fun w => ?_) ?_; rotate_left; focus (first | (go_simp; done) | (go_simp; with_reducible rfl))) | (refine wpHold_skip ?_ ?_; focus (go_simp; done)) | (refine wpHold_pure' (v := ?_) ?_ (fun w => ?_) ?_; rotate_left; focus (go_simp; done); focus (first | (go_simp; done) | (go_simp; with_reducible rfl)))); try simp only [Act.put, List.setIfInBounds_toArray, List.set_cons_zero, List.set_cons_succ]
              (first | (refine wpHold_pure (v := ?_) (by rfl) (fun w => ?_) ?_; rotate_left; focus (first | (go_simp; done) | (go_simp; with_reducible rfl))) | (refine wpHold_skip ?_ ?_; focus (go_simp; done)) | (refine wpHold_pure' (v := ?_) ?_ (fun w => ?_) ?_; rotate_left; focus (go_simp; done); focus (first | (go_simp; done) | (go_simp; with_reducible rfl)))); try simp only [Act.put, List.setIfInBounds_toArray, List.set_cons_zero, List.set_cons_succ]
              (first | (refine wpHold_pure (v := ?_) (by rfl) (fun w => ?_) ?_; rotate_left; focus (first | (go_simp; done) | (go_simp; with_reducible rfl))) | (refine wpHold_skip ?_ ?_; focus (go_simp; done)) | (refine wpHold_pure' (v := ?_) ?_ (fun w => ?_) ?_; rotate_left; focus (go_simp; done); focus (first | (go_simp; done) | (go_simp; with_reducible rfl)))); try simp only [Act.put, List.setIfInBounds_toArray, List.set_cons_zero, List.set_cons_succ]
              (first | (refine wpHold_pure (v := ?_) (by rfl) (fun w => ?_) ?_; rotate_left; focus (first | (go_simp; done) | (go_simp; with_reducible rfl))) | (refine wpHold_skip ?_ ?_; focus (go_simp; done)) | (refine wpHold_pure' (v := ?_) ?_ (fun w => ?_) ?_; rotate_left; focus (go_simp; done); focus (first | (go_simp; done) | (go_simp; with_reducible rfl)))); try simp only [Act.put, List.setIfInBounds_toArray, List.set_cons_zero, List.set_cons_succ]
              refine wpHold_nil ?_
              intro w1 hI
              have HI := Lib.hid hI
              clear hI k0 k1
              try simp only [Act.put, List.setIfInBounds_toArray, List.set_cons_zero, List.set_cons_succ]
              go_wp2_with fail
              go_ret
              exact ⟨HBW.out.trans (But.of HI.out), .inl ⟨HE.out, by rw [HV.out]; rfl, i, hroom, HnR.out, (HI.out.block g hgW).trans HRW.out⟩⟩
          · have n48 : ((s[a].toNat : Int) == 48) = false := by rw [beq_eq_false_iff_ne]; omega
            have hc48 : s[a] ≠ 48 := fun e => c48 (by rw [e]; rfl)
            by_cases h18 : 18 < N
            · have e2 : (18 : Int) < (N : Int) := by omega
              have HE : Hid (JP.numE r = 2) := Lib.hid (by rw [hE, if_neg (fun h => hc48 h.1), if_pos (by omega)])
              clear Hdg Hall
              go_wp2_with fail
              refine (fail_any g s i m vst 0 2 _ HRW.out).mono ?_
              rintro E w1 ⟨rfl, hr, hbt⟩
              have Hr1 := Lib.hid hr
              have Hbt := Lib.hid (HBW.out.trans hbt)
              clear hr hbt k0 k1
              go_wp2_with fail
              go_ret
              exact ⟨Hbt.out, .inr ⟨by rw [HE.out]; decide, rfl, i, by rw [HE.out]; exact Hr1.out⟩⟩
            · have e2 : ¬ (18 : Int) < (N : Int) := by omega
              have HE : Hid (JP.numE r = 0) := Lib.hid (by rw [hE, if_neg (fun h => hc48 h.1), if_neg (by omega)])
              have hpn := parse_num HD.out (by rw [← HD.out]; exact Hall.out) (by simp) (by rw [List.length_cons, Htl.out]; omega)
              rw [Hng.out] at hpn
              have hex : (s.extract a i).data.toList = s[a] :: t := by
                rw [extract_take (by omega) (by omega)]
                rw [drop_at ha, show i - a = (N - 1) + 1 by omega, List.take_succ_cons, Ht.out]
              have hpi : Lib.parseIntB 64 (s.extract a i).data.toList = .ok (JP.numV r) := by rw [hex]; exact hpn
              have hxs : (s.extract a i).size ≤ 9223372036854775806 := by
                have hl : (s.extract a i).data.toList.length = (s.extract a i).size := Array.length_toList
                rw [← hl, hex]; simp only [List.length_cons, Htl.out]; omega
              have HC := Lib.hid (fun w' => Tryd.strconv_ParseInt_10_at64_ok (s.extract a i) hxs (JP.numV r) hpi w')
              obtain ⟨V, HV⟩ : ∃ V, Hid (JP.numV r = V) := ⟨_, Lib.hid rfl⟩
              rw [HV.out] at HC
              have p1 : (a : Int) ≤ (i : Int) := by omega
              have p2 : (i : Int) ≤ (s.size : Int) := by omega
              clear hpn hex hpi hxs Hdg Hall HD Htl
              have hgW : g < W.heap.size := Nat.lt_of_lt_of_le hgw HBW.out.size
              go_upto_region 15 with fail
              refine wp_region_hold 15 (fun w' => Below W.heap.size W w') (by kernel_rfl) (by kernel_rfl) ?_ ?_
              · exact (Below.refl _ _).drew
              simp only [List.take_succ_cons, List.take_zero, List.drop_succ_cons, List.drop_zero]
              (first | (refine wpHold_pure (v := ?_) (by rfl) (fun w => ?_) ?_; rotate_left; focus (first | (go_simp; done) | (go_simp; with_reducible rfl))) | (refine wpHold_skip ?_ ?_; focus (go_simp; done)) | (refine wpHold_pure' (v := ?_) ?_ (fun w => ?_) ?_; rotate_left; focus (go_simp; done); focus (first | (go_simp; done) | (go_simp; with_reducible rfl)))); try simp only [Act.put, List.setIfInBounds_toArray, List.set_cons_zero, List.set_cons_succ]
              (first | (refine wpHold_pure (v := ?_) (by rfl) (fun w => ?_) ?_; rotate_left; focus (first | (go_simp; done) | (go_simp; with_reducible rfl))) | (refine wpHold_skip ?_ ?_; focus (go_simp; done)) | (refine wpHold_pure' (v := ?_) ?_ (fun w => ?_) ?_; rotate_left; focus (go_simp; done); focus (first | (go_simp; done) | (go_simp; with_reducible rfl)))); try simp only [Act.put, List.setIfInBounds_toArray, List.set_cons_zero, List.set_cons_succ]
              (first | (refine wpHold_pure (v := ?_) (by rfl) (fun w => ?_) ?_; rotate_left; focus (first | (go_simp; done) | (go_simp; with_reducible rfl))) | (refine wpHold_skip ?_ ?_; focus (go_simp; done)) | (refine wpHold_pure' (v := ?_) ?_ (fun w => ?_) ?_; rotate_left; focus (go_simp; done); focus (first | (go_simp; done) | (go_simp; with_reducible rfl)))); try simp only [Act.put, List.setIfInBounds_toArray, List.set_cons_zero, List.set_cons_succ]
              refine wpHold_read (v := .string s) (by rfl) (fun w' hI => ?_) ?_
              · have d0 := (hI.cell (p := ⟨g, 0, none⟩) hgW).trans k0
                go_simp
                done
              try simp only [Act.put, List.setIfInBounds_toArray, List.set_cons_zero, List.set_cons_succ]
              (first | (refine wpHold_pure (v := ?_) (by rfl) (fun w => ?_) ?_; rotate_left; focus (first | (go_simp; done) | (go_simp; with_reducible rfl))) | (refine wpHold_skip ?_ ?_; focus (go_simp; done)) | (refine wpHold_pure' (v := ?_) ?_ (fun w => ?_) ?_; rotate_left; focus (go_simp; done); focus (first | (go_simp; done) | (go_simp; with_reducible rfl)))); try simp only [Act.put, List.setIfInBounds_toArray, List.set_cons_zero, List.set_cons_succ]
              (first | (refine wpHold_pure (v := ?_) (by rfl) (fun w => ?_) ?_; rotate_left; focus (first | (go_simp; done) | (go_simp; with_reducible rfl))) | (refine wpHold_skip ?_ ?_; focus (go_simp; done)) | (refine wpHold_pure' (v := ?_) ?_ (fun w => ?_) ?_; rotate_left; focus (go_simp; done); focus (first | (go_simp; done) | (go_simp; with_reducible rfl)))); try simp only [Act.put, List.setIfInBounds_toArray, List.set_cons_zero, List.set_cons_succ]
              (first | (refine wpHold_pure (v := ?_) (by rfl) (fun w => ?_) ?_; rotate_left; focus (first | (go_simp; done) | (go_simp; with_reducible rfl))) | (refine wpHold_skip ?_ ?_; focus (go_simp; done)) | (refine wpHold_pure' (v := ?_) ?_ (fun w => ?_) ?_; rotate_left; focus (go_simp; done); focus (first | (go_simp; done) | (go_simp; with_reducible rfl)))); try simp only [Act.put, List.setIfInBounds_toArray, List.set_cons_zero, List.set_cons_succ]
              (first | (refine wpHold_pure (v := ?_) (by rfl) (fun w => ?_) ?_; rotate_left; focus (first | (go_simp; done) | (go_simp; with_reducible rfl))) | (refine wpHold_skip ?_ ?_; focus (go_simp; done)) | (refine wpHold_pure' (v := ?_) ?_ (fun w => ?_) ?_; rotate_left; focus (go_simp; done); focus (first | (go_simp; done) | (go_simp; with_reducible rfl)))); try simp only [Act.put, List.setIfInBounds_toArray, List.set_cons_zero, List.set_cons_succ]
              refine wpHold_read (v := .int .i64 (i : Int)) (by rfl) (fun w' hI => ?_) ?_
              · have d0 := (hI.cell (p := ⟨g, 1, none⟩) hgW).trans k1
                go_simp
                done
              try simp only [Act.put, List.setIfInBounds_toArray, List.set_cons_zero, List.set_cons_succ]
              refine wpHold_pure (v := .string (s.extract a i)) (by rfl) (fun w' => ?_) ?_
              · go_simp
                done
              try simp only [Act.put, List.setIfInBounds_toArray, List.set_cons_zero, List.set_cons_succ]
              refine wpHold_call (v := .tuple #[.int .i64 V, .nilIface]) (f := 94) (args := #[.string (s.extract a i), .int .i64 10, .int .i64 64]) (by rfl) (fun w' => ?_) (fun w' hI => (HC.out w').mono fun e w'' he => ⟨he.1, ?_⟩) ?_
              · go_simp
                done
              · rcases he.2 with rfl | ⟨t', rfl⟩
                · exact hI
                · exact hI.trans ((Lib.bytesWorld_below w' _ t').mono hI.size)
              try simp only [Act.put, List.setIfInBounds_toArray, List.set_cons_zero, List.set_cons_succ]
              (first | (refine wpHold_pure (v := ?_) (by rfl) (fun w => ?_) ?_; rotate_left; focus (first | (go_simp; done) | (go_simp; with_reducible rfl))) | (refine wpHold_skip ?_ ?_; focus (go_simp; done)) | (refine wpHold_pure' (v := ?_) ?_ (fun w => ?_) ?_; rotate_left; focus (go_simp; done); focus (first | (go_simp; done) | (go_simp; with_reducible rfl)))); try simp only [Act.put, List.setIfInBounds_toArray, List.set_cons_zero, List.set_cons_succ]
              (first | (refine wpHold_pure (v := ?_) (by rfl) (fun w => ?_) ?_; rotate_left; focus (first | (go_simp; done) | (go_simp; with_reducible rfl))) | (refine wpHold_skip ?_ ?_; focus (go_simp; done)) | (refine wpHold_pure' (v := ?_) ?_ (fun w => ?_) ?_; rotate_left; focus (go_simp; done); focus (first | (go_simp; done) | (go_simp; with_reducible rfl)))); try simp only [Act.put, List.setIfInBounds_toArray, List.set_cons_zero, List.set_cons_succ]
              (first | (refine wpHold_pure (v := ?_) (by rfl) (fun w => ?_) ?_; rotate_left; focus (first | (go_simp; done) | (go_simp; with_reducible rfl))) | (refine wpHold_skip ?_ ?_; focus (go_simp; done)) | (refine wpHold_pure' (v := ?_) ?_ (fun w => ?_) ?_; rotate_left; focus (go_simp; done); focus (first | (go_simp; done) | (go_simp; with_reducible rfl)))); try simp only [Act.put, List.setIfInBounds_toArray, List.set_cons_zero, List.set_cons_succ]
              (first | (refine wpHold_pure (v := ?_) (by rfl) (fun w => ?_) ?_; rotate_left; focus (first | (go_simp; done) | (go_simp; with_reducible rfl))) | (refine wpHold_skip ?_ ?_; focus (go_simp; done)) | (refine wpHold_pure' (v := ?_) ?_ (fun w => ?_) ?_; rotate_left; focus (go_simp; done); focus (first | (go_simp; done) | (go_simp; with_reducible rfl)))); try simp only [Act.put, List.setIfInBounds_toArray, List.set_cons_zero, List.set_cons_succ]
              refine wpHold_nil ?_
              intro w1 hI
              have HI := Lib.hid hI
              clear hI k0 k1
              try simp only [Act.put, List.setIfInBounds_toArray, List.set_cons_zero, List.set_cons_succ]
              go_wp2_with fail
              go_ret
              exact ⟨HBW.out.trans (But.of HI.out), .inl ⟨HE.out, by rw [HV.out]; rfl, i, hroom, HnR.out, (HI.out.block g hgW).trans HRW.out⟩⟩
end Go.Proofs.YtaddcchpidpbfaaDoor
