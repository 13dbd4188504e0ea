/- query.Parse: its contract. -/
import Derived.Test.YtkmonmdnmpbadaaDoorParserParse
namespace Go.Proofs.YtkmonmdnmpbadaaDoor
open Go.RowKit
open QP

set_option maxRecDepth 100000 in
set_option maxHeartbeats 6400000 in
theorem parse_any (s : ByteArray) (m : Int) (w : World) (hs : s.size ≤ 1048576) (hm : MaxOK m w) :
    Calls Tryd.prog 9 #[.string s] w (ParseAt s w) := by
  obtain ⟨i0, hi0, hz0, hz1, hz2⟩ := info_parts Tryd.infoReq
  have hl : s.data.toList.length = s.size := by simp
  have Hend := fun {w' v l e} => Lib.hid (parse_end (s := s) (w := w) (w' := w') (v := v) (l := l) (e := e))
  obtain ⟨L, HL⟩ : ∃ L, Hid (parseL s.data.toList = L) := ⟨_, Lib.hid rfl⟩
  have HL1 : Hid ((if 300 < s.size then (([] : List GReq), (2 : Int)) else if skipB s.data.toList = [] then ([], 0) else match parseF 400 (skipB s.data.toList) [] with
    | none => ([], 3)
    | some l => if reqsE l = 0 then (l, 0) else ([], reqsE l)) = L) := Lib.hid (by rw [← HL.out, ← hl]; rfl)
  have Hm := Lib.hid hm
  clear hm hl
  by_cases h3 : 300 < s.size
  · have q0 : (300 : Int) < (s.size : Int) := by omega
    have HL2 : Hid (parseL s.data.toList = ([], 2)) := Lib.hid (by rw [HL.out, ← HL1.out, if_pos h3])
    clear h3 HL1 HL
    go_enter Tryd.func9, Tryd.ntmps9
    go_wp2_with fail
    go_ret2
    exact Hend.out HL2.out (RowAt.nil _) (Below.refl _ _)
  · have q0 : ¬ (300 : Int) < (s.size : Int) := by omega
    have HL2 : Hid ((if skipB s.data.toList = [] then (([] : List GReq), (0 : Int)) else match parseF 400 (skipB s.data.toList) [] with
      | none => ([], 3)
      | some l => if reqsE l = 0 then (l, 0) else ([], reqsE l)) = L) := Lib.hid (by rw [← HL1.out, if_neg h3])
    have hs3 : s.size ≤ 300 := by omega
    clear h3 HL1
    obtain ⟨W1, hW⟩ : ∃ W1, W1 = w.alloc (.cells #[.string s, .int .i64 0, .bool false] 65) := ⟨_, rfl⟩
    obtain ⟨g, hg⟩ : ∃ g, g = w.heap.size := ⟨_, rfl⟩
    have b1 : W1.heap[g]? = some (.cells #[.string s, .int .i64 0, .bool false] 65 (0, 0)) := by rw [hW, hg]; exact heap_alloc_new w _
    have hb1 : Below w.heap.size w W1 := by rw [hW]; exact (Below.refl _ w).alloc (Nat.le_refl _) _
    have HP1 : Hid (Par g s false s.data.toList W1) := Lib.hid ⟨0, Nat.zero_le _, rfl, b1⟩
    have hgw : w.heap.size ≤ g := by omega
    have hs1 : W1.heap.size = g + 1 := by rw [hW, hg, World.size_alloc]
    have Hb1 := Lib.hid hb1
    clear b1 hb1
    go_enter Tryd.func9, Tryd.ntmps9
    go_upto_region 4 with fail
    rw [← hW, ← hg]
    clear hW hg
    go_wp2_with fail
    refine (blanks_any g s false _ W1 HP1.out (by omega)).mono ?_
    rintro E w2 ⟨rfl, ⟨a, ha, hr, hp⟩, hb⟩
    have HA2 := Lib.hid hp
    have HB2 := Lib.hid hb
    have Hr := Lib.hid hr
    have HOv := Lib.hid (over_any g s false a w2 hp ha (by omega))
    clear hp hb hr HP1
    obtain ⟨R, HR⟩ : ∃ R, Hid (skipB s.data.toList = R) := ⟨_, Lib.hid rfl⟩
    rw [HR.out] at HL2 Hr
    go_wp2_with fail
    refine HOv.out.mono ?_
    rintro E w3 ⟨rfl, nd, rfl⟩
    by_cases hR0 : a = s.size
    · have q1 : decide (a = s.size) = true := decide_eq_true hR0
      have HL3 : Hid (parseL s.data.toList = ([], 0)) := Lib.hid (by rw [HL.out, ← HL2.out, if_pos (by rw [← Hr.out]; exact drop_end (by omega))])
      rw [q1]
      clear q1 HOv
      go_wp2_with fail
      go_ret2
      exact Hend.out HL3.out (RowAt.nil _) (((HB2.out.drew _).below Hb1.out (by omega) hgw))
    · have q1 : decide (a = s.size) = false := decide_eq_false hR0
      have HL3 : Hid ((match parseF 400 R [] with
        | none => (([] : List GReq), (3 : Int))
        | some l => if reqsE l = 0 then (l, 0) else ([], reqsE l)) = L) := Lib.hid (by
        rw [← HL2.out, if_neg]
        rw [← Hr.out, drop_at (by omega)]
        simp)
      obtain ⟨K, HK⟩ : ∃ K, Hid (parseF 400 R [] = K) := ⟨_, Lib.hid rfl⟩
      rw [HK.out] at HL3
      have HP3 : Hid (Par g s false R (w2.drewN nd)) := Lib.hid ⟨a, ha, Hr.out, HA2.out⟩
      have HB3 : Hid (But g W1 (w2.drewN nd)) := Lib.hid (HB2.out.drew _)
      have hRl := HP3.out.len
      rw [q1]
      clear q1 HOv HL2 HA2 HB2 Hr hR0
      go_wp2_with fail
      go_loopg [5] 400 (fun k u5 wr => ∃ (q : List UInt8) (out : List GReq), out.length + k = 400 ∧ q.length < k ∧ Hid (OwnAt (ReqO (g + 1)) 3 wr (g + 1) 33 u5 out) ∧ Hid (∀ x ∈ out, okReq x) ∧ Hid (Par g s false q wr) ∧ Hid (parseF k q out = K) ∧ Hid (But g W1 wr))
      case atStart => exact ⟨R, [], rfl, by omega, Lib.hid (OwnAt.nil _), Lib.hid (fun x hx => by cases hx), HP3, HK, HB3⟩
      case round =>
        obtain ⟨q, out, hok, hqk, Hout, Hok, HP, HKk, HB⟩ := hrel
        cases gk with
        | zero => omega
        | succ k =>
          have hol : out.length + 1 ≤ 400 := by omega
          have hqs := HP.out.len
          have hHB := HB.out.size
          go_wp2_with fail
          refine (part_any g s q wr HP.out hs3).mono ?_
          rintro E w4 ⟨x, v2, rfl, hk, hown, htold, hb⟩
          obtain ⟨av, cv, rfl, _, _⟩ := hown.row.len
          have hw4 := hb.size
          have Hx : Hid (ReqO (g + 1) (w4.alloc (.cells #[.string x.key, .int .i64 x.kind, .slice av x.vals.length cv] 33)) [.string x.key, .int .i64 x.kind, .slice av x.vals.length cv] x) :=
            Lib.hid ⟨_, rfl, hk, (hown.mono (by omega)).below stays_string ((Below.refl _ _).alloc (Nat.le_refl _) _)⟩
          have Hout4 := Lib.hid ((own_but Hout.out hb (Nat.lt_succ_self g)).belowX (reqO_staysX _) ((Below.refl _ w4).alloc (Nat.le_refl _) (.cells #[.string x.key, .int .i64 x.kind, .slice av x.vals.length cv] 33)))
          have Htold := Lib.hid htold
          have HB4 := Lib.hid (HB.out.trans hb)
          clear hown htold hb hk
          go_wp2_with (at_builtin; refine wpList_append_ownAtX (R := ReqO (g + 1)) (k := 3) (e := 33) (B := g + 1) (l := out) (m := [x]) _ (by rfl) _ _ _ (by rfl) i0 _ 48 Tryd.underlying22 hi0 hz0 hz1 hz2 rfl (by omega) (reqO_staysX _) (reqO_one _) _ (by rfl) Hout4.out (.slice (some ⟨w4.heap.size, 0, none⟩) 1 1) (by rfl) (RowAt.one (R := ReqO (g + 1)) (k := 3) (cs := #[.string x.key, .int .i64 x.kind, .slice av x.vals.length cv]) (heap_alloc_new w4 _) rfl Hx.out) (by unfold maxLen; simp; omega) (by simp; omega) (by simp; omega) ?_)
          intro v' w5 hv' hg hr _
          have hb5 : Below (g + 1) w4 w5 := below_of_grown ((Below.refl _ w4).alloc (by omega) _) (by simp; omega) hg hr
          have Hv := Lib.hid hv'
          have HB5 : Hid (But g W1 w5) := Lib.hid (HB4.out.thenBelow (by rw [hs1]; exact hb5))
          have Hb5 := Lib.hid hb5
          clear hv' hg hr hb5
          have HKk2 : Hid ((match partP q with
            | none => none
            | some x => if x.2 = [] then some (out ++ [x.1]) else if headIs 44 x.2 = true then parseF k x.2.tail (out ++ [x.1]) else none) = K) := Lib.hid (by rw [← HKk.out]; rfl)
          cases hpq : partP q with
          | none =>
            have ht := Htold.out
            have hk2 := HKk2.out
            rw [hpq] at ht hk2
            obtain ⟨r', hr'⟩ := ht
            obtain ⟨p2, pz⟩ := par_cells (hr'.below Hb5.out (Nat.lt_succ_self g))
            have HLn : Hid (parseL s.data.toList = ([], 3)) := Lib.hid (by rw [HL.out, ← HL3.out, ← hk2])
            clear hk2 hr' hpq
            go_wp2_with fail
            go_ret2
            exact Hend.out HLn.out (RowAt.nil _) (HB5.out.below Hb1.out (by omega) hgw)
          | some y =>
            have ht := Htold.out
            have hk2 := HKk2.out
            rw [hpq] at ht hk2
            dsimp only at hk2
            obtain ⟨hxy, hpy⟩ := ht
            have hp5 := hpy.below Hb5.out (Nat.lt_succ_self g)
            obtain ⟨hoky, hly⟩ := partP_ok hpq (by omega)
            rw [← hxy] at hoky hk2
            obtain ⟨p2, pz⟩ := par_cells hp5
            have Hok2 : Hid (∀ z ∈ out ++ [x], okReq z) := Lib.hid (fun z hz => by
              rcases List.mem_append.1 hz with h | h
              · exact Hok.out z h
              · rw [List.mem_singleton.1 h]; exact hoky)
            obtain ⟨q2, hq2⟩ : ∃ q2, y.2 = q2 := ⟨_, rfl⟩
            rw [hq2] at hp5 hk2 hly
            have HP5 := Lib.hid hp5
            obtain ⟨b, hb1, hb2, hb3⟩ := hp5
            have HOv := Lib.hid (over_any g s false b w5 hb3 hb1 (by omega))
            have Hb2 := Lib.hid hb2
            have HK2 := Lib.hid hk2
            clear hxy hpy hoky hpq hq2 hb2 hb3 hk2 HKk2 Htold
            have hlen2 : (out ++ [x]).length = out.length + 1 := by simp
            obtain ⟨o2, Ho2⟩ : ∃ o2, Hid (out ++ [x] = o2) := ⟨_, Lib.hid rfl⟩
            rw [Ho2.out] at Hok2 Hv HK2 hlen2
            go_wp2_with fail
            refine HOv.out.mono ?_
            rintro E w6 ⟨rfl, nd, rfl⟩
            by_cases hov : b = s.size
            · have q1 : decide (b = s.size) = true := decide_eq_true hov
              have HLs : Hid ((if reqsE o2 = 0 then (o2, 0) else ([], reqsE o2)) = parseL s.data.toList) := Lib.hid (by
                have h9 := HK2.out
                rw [if_pos (by rw [← Hb2.out]; exact drop_end (by omega))] at h9
                rw [HL.out, ← HL3.out, ← h9])
              have HB6 : Hid (Below w.heap.size w (w5.drewN nd)) := Lib.hid ((HB5.out.drew _).below Hb1.out (by omega) hgw)
              have Hrow : Hid (RowAt ReqR 3 (w5.drewN nd) v' o2) := Lib.hid (row_map (show RowAt (ReqO (g + 1)) 3 (w5.drewN nd) v' o2 from Hv.out.row) fun cs z hz => reqO_req hz)
              rw [q1]
              clear q1 hov HOv HK2 p2 pz
              go_wp2_with fail
              refine (checks_any v' o2 m (w5.drewN nd) Hrow.out (by omega) Hok2.out (Hm.out.below HB6.out)).mono ?_
              rintro E w7 ⟨rfl, hb7⟩
              have HB7 := Lib.hid (HB6.out.trans (hb7.mono HB6.out.size))
              have Hrow7 := Lib.hid (Hrow.out.below stays_req hb7)
              obtain ⟨rE, HrE⟩ : ∃ rE, Hid (reqsE o2 = rE) := ⟨_, Lib.hid rfl⟩
              rw [HrE.out] at HLs ⊢
              clear hb7
              by_cases hr0 : rE = 0
              · subst hr0
                have HLf : Hid (parseL s.data.toList = (o2, 0)) := Lib.hid (by rw [← HLs.out, if_pos rfl])
                go_wp2_with fail
                go_ret2
                exact Hend.out HLf.out Hrow7.out HB7.out
              · have q3 : (rE == 0) = false := by rw [beq_eq_false_iff_ne]; exact hr0
                have q4 : (rE != 0) = true := by rw [bne_iff_ne]; exact hr0
                have HLf : Hid (parseL s.data.toList = ([], rE)) := Lib.hid (by rw [← HLs.out, if_neg hr0])
                clear hr0
                go_wp2_with fail
                go_ret2
                exact Hend.out HLf.out (RowAt.nil _) HB7.out
            · have q1 : decide (b = s.size) = false := decide_eq_false hov
              have HK3 : Hid ((if headIs 44 q2 = true then parseF k q2.tail o2 else none) = K) := Lib.hid (by
                have h9 : q2 ≠ [] := by
                  rw [← Hb2.out, drop_at (by omega)]
                  simp
                rw [← HK2.out, if_neg h9])
              have HP6 : Hid (Par g s false q2 (w5.drewN nd)) := HP5
              have HB6 : Hid (But g W1 (w5.drewN nd)) := Lib.hid (HB5.out.drew _)
              have p6 : (w5.drewN nd).cell? ⟨g, 2, none⟩ = some (.bool false) := p2
              rw [q1]
              clear q1 hov HOv HK2 Hb2
              go_wp2_with fail
              refine (has1_any g s false q2 44 (w5.drewN nd) HP6.out (by omega)).mono ?_
              rintro E w7 ⟨rfl, hp, hb⟩
              have HB7 := Lib.hid (HB6.out.trans hb)
              have Hv7 : Hid (OwnAt (ReqO (g + 1)) 3 w7 (g + 1) 33 v' o2) := Lib.hid (own_but (show OwnAt (ReqO (g + 1)) 3 (w5.drewN nd) (g + 1) 33 v' o2 from Hv.out) hb (Nat.lt_succ_self g))
              cases h44 : headIs 44 q2 with
              | true =>
                rw [h44, if_pos rfl] at hp
                have HP7 := Lib.hid hp
                have HK4 : Hid (parseF k q2.tail o2 = K) := Lib.hid (by rw [← HK3.out, h44, if_pos rfl])
                have htl := tail_len h44
                clear hp hb HK3
                go_wp2_with fail
                go_roundg k
                case measure => omega
                case rel => exact ⟨q2.tail, o2, by omega, by omega, Hv7, Hok2, HP7, HK4, HB7⟩
              | false =>
                have HLn : Hid (parseL s.data.toList = ([], 3)) := Lib.hid (by
                  have h9 := HK3.out
                  rw [h44, if_neg (by simp)] at h9
                  rw [HL.out, ← HL3.out, ← h9])
                clear hp hb HK3
                go_wp2_with fail
                go_ret2
                exact Hend.out HLn.out (RowAt.nil _) (HB7.out.below Hb1.out (by omega) hgw)
end Go.Proofs.YtkmonmdnmpbadaaDoor
