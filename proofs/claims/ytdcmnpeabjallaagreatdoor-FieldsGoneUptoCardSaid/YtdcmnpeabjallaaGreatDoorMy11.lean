/- Texts of ours joined. -/
import Derived.Lib.SlicesS
import Derived.Test.YtdcmnpeabjallaaGreatDoorMy10
set_option linter.unusedVariables false
set_option linter.unusedSimpArgs false
namespace Go.Proofs.YtdcmnpeabjallaaGreatDoor
open Go.RowKit
open JP (JV Bs Lf)
def SeenAt (d p : Bs) (j : Nat) : Prop := p[j]? = some 47 → JP.getE d (p.take j) = 0 ∧ JP.kindT (JP.getT d (p.take j)) = 6
set_option maxRecDepth 100000 in
set_option maxHeartbeats 6400000 in
theorem through_any (d p : ByteArray) (w : World) (hd : d.size ≤ 1048576) (hp : p.size ≤ 1048576) (hE : Env w) :
    Calls Tryz.prog 19 #[.string d, .string p] w fun e w' => ∃ B, e = .returned (.bool B) ∧ (B = true → ∀ j, SeenAt d.data.toList p.data.toList j) ∧ Below w.heap.size w w' := by
  have HE := Lib.hid hE
  clear hE
  go_enter Tryz.func19, Tryz.ntmps19
  go_wp2_with fail
  go_loopg [12] p.size (fun k u12 wr => ∃ i : Nat, i + k = p.size ∧ u12 = .int .i64 (i : Int) ∧ Hid (∀ j, j < i → SeenAt d.data.toList p.data.toList j) ∧ Hid (Below w.heap.size w wr))
  case atStart => exact ⟨0, by omega, rfl, Lib.hid (fun j h => by omega), Lib.hid (Below.refl _ _)⟩
  case round =>
    obtain ⟨i, hik, rfl, HS, Hbel⟩ := hrel
    cases gk with
    | zero =>
      have hip : i = p.size := by omega
      subst hip
      have Hall : Hid (∀ j, SeenAt d.data.toList p.data.toList j) := Lib.hid fun j hj => by
        have hl := (List.getElem?_eq_some_iff.1 hj).1
        rw [Array.length_toList] at hl
        exact HS.out j hl hj
      clear HS
      go_wp2_with fail
      go_ret
      exact ⟨true, rfl, fun _ => Hall.out, Hbel.out⟩
    | succ k =>
      have hlt : i < p.size := by omega
      have q1 : (0 : Int) ≤ (i : Int) := by omega
      have q2 : (i : Int) < (p.size : Int) := by omega
      have q3 : (i : Int) ≤ (p.size : Int) := by omega
      have hg : p.data.toList[i]? = some p[i] := by rw [Array.getElem?_toList]; exact Array.getElem?_eq_getElem hlt
      have hs1 := Hbel.out.size
      by_cases h47 : p[i] = 47
      · have e1 : ((p[i].toNat : Int) != 47) = false := by rw [h47]; rfl
        have e3 : ((p[i].toNat : Int) == 47) = true := by rw [h47]; rfl
        have hG := fun (q : ByteArray) (hq : q.data.toList = p.data.toList.take i) => pget_any d q wr hd (by rw [← list_size, hq, List.length_take, list_size]; omega) (HE.out.below Hbel.out)
        obtain ⟨ge, hge⟩ : ∃ e, JP.getE d.data.toList (p.data.toList.take i) = e := ⟨_, rfl⟩
        obtain ⟨gt, hgt⟩ : ∃ t, JP.getT d.data.toList (p.data.toList.take i) = t := ⟨_, rfl⟩
        have HG : Hid (∀ q : ByteArray, q.data.toList = p.data.toList.take i → Calls Tryz.prog 18 #[.string d, .string q] wr (AnsAt gt ge wr)) := Lib.hid fun q hq => by
          have h9 := hG q hq
          rw [hq, hge, hgt] at h9
          exact h9
        have Hge := Lib.hid hge
        have Hgt := Lib.hid hgt
        have hgl : gt.length ≤ 1048576 := by rw [← hgt]; exact Nat.le_trans (JP.getT_len _ _) (by decide)
        clear hG hge hgt hg h47
        go_wp2_with fail
        refine (HG.out _ (by simp [ByteArray.data_extract])).mono ?_
        rintro E w2 ⟨rfl, hb2⟩
        have HB2 := Lib.hid (Hbel.out.trans (hb2.mono hs1))
        have HK := Lib.hid (kindJ_any (mkB gt) w2 (by rw [mkB_size]; exact hgl))
        rw [mkB_list] at HK
        obtain ⟨kt, hkt⟩ : ∃ k, JP.kindT gt = k := ⟨_, rfl⟩
        rw [hkt] at HK
        have Hkt := Lib.hid hkt
        have hs2 := HB2.out.size
        clear hb2 HG hkt
        go_wp2_with fail
        refine HK.out.mono ?_
        rintro E w3 ⟨rfl, hb3⟩
        have HB3 := Lib.hid (HB2.out.trans (hb3.mono hs2))
        clear hb3 HK
        by_cases hge0 : ge = 0
        · subst hge0
          by_cases hk6 : kt = 6
          · subst hk6
            have HS2 : Hid (∀ j, j < i + 1 → SeenAt d.data.toList p.data.toList j) := Lib.hid fun j hj => by
              rcases Nat.lt_or_ge j i with h | h
              · exact HS.out j h
              · obtain rfl : j = i := by omega
                exact fun _ => ⟨Hge.out, by rw [Hgt.out]; exact Hkt.out⟩
            clear HS
            go_wp2_with fail
            go_roundg k
            case measure => omega
            case rel => exact ⟨i + 1, by omega, by go_num, HS2, HB3⟩
          · have q6 : (kt == 6) = false := by rw [beq_eq_false_iff_ne]; exact hk6
            clear hk6
            go_wp2_with fail
            go_ret
            exact ⟨false, rfl, fun h => (by cases h), HB3.out⟩
        · have q0 : (ge == 0) = false := by rw [beq_eq_false_iff_ne]; exact hge0
          clear hge0
          go_wp2_with fail
          go_ret
          exact ⟨false, rfl, fun h => (by cases h), HB3.out⟩
      · have e1 : ((p[i].toNat : Int) != 47) = true := by
          rw [bne_iff_ne]
          intro e
          exact h47 (UInt8.toNat_inj.1 (by have : p[i].toNat = 47 := by omega
                                           rw [this]; rfl))
        have e3 : ((p[i].toNat : Int) == 47) = false := by rw [bne] at e1; simpa using e1
        have HS2 : Hid (∀ j, j < i + 1 → SeenAt d.data.toList p.data.toList j) := Lib.hid fun j hj => by
          rcases Nat.lt_or_ge j i with h | h
          · exact HS.out j h
          · obtain rfl : j = i := by omega
            intro h9
            rw [hg] at h9
            exact absurd (Option.some.inj h9) h47
        clear HS hg h47
        go_wp2_with fail
        go_roundg k
        case measure => omega
        case rel => exact ⟨i + 1, by omega, by go_num, HS2, Hbel⟩
end Go.Proofs.YtdcmnpeabjallaaGreatDoor
namespace Go.Proofs.YtdcmnpeabjallaaGreatDoor
open Go.RowKit
open JP (JV Bs Lf)
theorem join_take {k : List Bs} {j : Nat} (hj : j < k.length) : ∃ r, joinK k = joinK (k.take j) ++ 47 :: r := by
  have h1 : k = k.take j ++ k.drop j := (List.take_append_drop j k).symm
  have h2 : k.drop j = k[j] :: k.drop (j + 1) := List.drop_eq_getElem_cons hj
  refine ⟨escS k[j] ++ joinK (k.drop (j + 1)), ?_⟩
  conv => lhs; rw [h1, h2]
  unfold joinK
  rw [List.flatMap_append, List.flatMap_cons]
  rfl
theorem thr_seen {d p : Bs} {k : List Bs} (hp : stepsP p = (0, k)) (h : ∀ j, SeenAt d p j) : JP.Thr (JP.readL d).1 k := by
  obtain ⟨hjk, hk10⟩ := join_steps hp
  have main : ∀ n, n < k.length → ∃ o, JP.atO (JP.readL d).1 (k.take n) = some (.obj o) := by
    intro n
    induction n using Nat.strongRecOn with
    | ind n ih =>
      intro hn
      obtain ⟨r, hr⟩ := join_take hn
      have hpos : p[(joinK (k.take n)).length]? = some 47 := by rw [← hjk, hr, List.getElem?_append_right (Nat.le_refl _), Nat.sub_self]; rfl
      have htk : p.take (joinK (k.take n)).length = joinK (k.take n) := by rw [← hjk, hr, List.take_left]
      obtain ⟨h1, h2⟩ := h _ hpos
      rw [htk] at h1 h2
      have hst : stepsP (joinK (k.take n)) = (0, k.take n) := steps_join _ (by rw [List.length_take]; omega)
      have hthr : JP.Thr (JP.readL d).1 (k.take n) := fun j hj => by
        rw [List.length_take] at hj
        rw [List.take_take, Nat.min_eq_left (by omega)]
        exact ih j (by omega) (by omega)
      unfold JP.getE at h1
      unfold JP.getT at h2
      by_cases hd : JP.dpE d (joinK (k.take n)) = 0
      · rw [if_pos hd, hst] at h1 h2
        dsimp only at h1 h2
        cases ha : JP.atW (JP.readL d).1 (k.take n) with
        | none => rw [ha] at h1; cases h1
        | some c =>
          rw [ha] at h2
          dsimp only at h2
          obtain ⟨x, l, e1, e2, hf, _⟩ := JP.dp_ok hd
          have hfc : JP.Fit c := JP.at_fit (by rw [e1]; exact hf) ha
          unfold JP.kindT at h2
          rw [JP.fit_read hfc, if_pos rfl] at h2
          rw [JP.thr_at hthr] at ha
          rw [ha]
          cases c with
          | obj o => exact ⟨o, rfl⟩
          | _ => cases h2
      · rw [if_neg hd] at h1; exact absurd h1 hd
  exact fun j hj => main j hj
end Go.Proofs.YtdcmnpeabjallaaGreatDoor
namespace Go.Proofs.YtdcmnpeabjallaaGreatDoor
open Go.RowKit
set_option maxRecDepth 100000 in
theorem hasStr_any (v : Value) (l : List ByteArray) (x : ByteArray) (w : World) (h : StrAt w v l) (hl : l.length ≤ 1073741824) :
    Calls Tryz.prog 16 #[v, .string x] w fun e w' => e = .returned (.bool (Lib.containsS l x)) ∧ w = w' := by
  obtain ⟨ao, c, rfl, _, _⟩ := h.len
  have H := Lib.hid h
  clear h
  go_enter Tryz.func16, Tryz.ntmps16
  go_wp2_with fail
  go_loopg [9] l.length (fun g u9 wr => ∃ k : Nat, k + g = l.length ∧ u9 = .int .i64 (k : Int) ∧ Hid (x ∉ l.take k) ∧ w = wr)
  case atStart => exact ⟨0, by omega, rfl, (by show x ∉ _; simp), rfl⟩
  case round =>
    obtain ⟨k, hkg, rfl, Hno, rfl⟩ := hrel
    cases gk with
    | zero =>
      obtain rfl : k = l.length := by omega
      go_wp2_with fail
      go_ret
      refine ⟨congrArg (fun b => Ending.returned (Value.bool b)) ?_, rfl⟩
      have h1 : x ∉ l := by have := Hno.out; rwa [List.take_of_length_le (Nat.le_refl _)] at this
      have h2 : ¬ Lib.containsS l x = true := fun h => h1 ((Lib.containsS_iff l x).1 h)
      simpa using h2
    | succ g =>
      have hkl : k < l.length := by omega
      obtain ⟨b, o, c', hv, _, _, _, hc⟩ := H.out.form (by omega)
      cases hv
      obtain ⟨y, hy⟩ : ∃ y, l[k]? = some y := ⟨l[k], by simp [hkl]⟩
      have e0 := hc k y hy
      clear hc
      have q1 : (0 : Int) ≤ (k : Int) := by omega
      have q2 : (k : Int) < (l.length : Int) := by omega
      by_cases hxy : x = y
      · subst hxy
        have h1 : Lib.containsS l x = true := (Lib.containsS_iff l x).2 (List.mem_of_getElem? hy)
        have H1 := Lib.hid h1
        have q3 : (x.toList == x.toList) = true := by simp
        clear h1 hy
        go_wp2_with fail
        go_ret
        exact ⟨congrArg (fun b => Ending.returned (Value.bool b)) H1.out.symm, rfl⟩
      · have q3 : (x.toList == y.toList) = false := by
          rw [beq_eq_false_iff_ne, ByteArray.toList_eq, ByteArray.toList_eq]
          intro h
          apply hxy
          cases x; cases y
          simp only [ByteArray.mk.injEq]
          exact Array.toList_inj.1 h
        have Hno2 : Hid (x ∉ l.take (k + 1)) := by
          show x ∉ l.take (k + 1)
          rw [List.take_add_one, hy]
          intro h
          rcases List.mem_append.1 h with h | h
          · exact Hno.out h
          · simp at h; exact hxy h
        clear hy Hno
        go_wp2_with fail
        go_roundg g
        case measure => omega
        case rel => exact ⟨k + 1, by omega, by go_num, Hno2, rfl⟩
end Go.Proofs.YtdcmnpeabjallaaGreatDoor
namespace Go.Proofs.YtdcmnpeabjallaaGreatDoor
open Go.RowKit
open JP (JV Bs Lf)
theorem had_small {l : List GOwned} (h : Small l) (m : Bs) : (JP.had (l.map oP) m).length ≤ 1048576 := by
  rcases JP.had_cases (l.map oP) m with ⟨y, hy, _, e⟩ | e
  · obtain ⟨x, hx, rfl⟩ := List.mem_map.1 hy
    rw [e]
    show (x.paths.map _).length ≤ _
    rw [List.length_map]
    exact (h.2 x hx).2.1
  · rw [e]; exact Nat.zero_le _
end Go.Proofs.YtdcmnpeabjallaaGreatDoor
namespace Go.Proofs.YtdcmnpeabjallaaGreatDoor
open Go.RowKit
open JP (JV Bs Lf)
set_option maxRecDepth 100000 in
set_option maxHeartbeats 6400000 in
theorem fieldsBars_walk (a : ByteArray) (v : Value) (l : List GOwned) (m want : ByteArray) (w : World) (hrow : RowAt OwnedR 2 w v l) (hbulk : a.data.toList.length + ((l.map ownedB).sum + (m.data.toList.length + want.data.toList.length)) ≤ 1048576) (hE : Env w) :
    Calls Tryz.prog 4 #[.string a, v, .string m, .string want] w fun e w' => e = .returned (.bool true) ∧ Below w.heap.size w w' := by
  obtain ⟨mb, rfl⟩ : ∃ mb, m = mkB mb := ⟨m.data.toList, (mkB_of m).symm⟩
  rw [mkB_list] at hbulk
  have hsm := small_of_bulk (l := l) (by omega)
  have ha : a.size ≤ 1048576 := by rw [← list_size]; omega
  have hw : want.size ≤ 1048576 := by rw [← list_size]; omega
  have hmb : mb.length ≤ 1048576 := by omega
  have HA := Lib.hid (apply_any a want v l mb false w hrow hsm.1 hsm.2 ha hw hmb hE)
  obtain ⟨a1, c1, rfl, -, -⟩ := hrow.len
  have hll := hsm.1
  have HE := Lib.hid hE
  have Hsm := Lib.hid hsm
  have HRow := Lib.hid hrow
  clear hrow hbulk hE hsm
  go_enter Tryz.func4, Tryz.ntmps4
  go_wp2_with fail
  refine HA.out.mono ?_
  rintro E w1 ⟨s, vL, vb, L, bad, er, wl, rfl, hI, hown, hwl, hvb, hb1, -⟩
  obtain ⟨a2, c2, rfl, -, -⟩ := hown.row.len
  obtain ⟨n2, hn2⟩ : ∃ n, L.length = n := ⟨_, rfl⟩
  rw [hn2]
  have hst : StrAt w1 vb (bad.map mkB) := hvb.row.strs
  obtain ⟨a3, c3, rfl, -, -⟩ := hvb.row.len
  obtain ⟨n3, hn3⟩ : ∃ n, (bad.map mkB).length = n := ⟨_, rfl⟩
  rw [hn3] at hst ⊢
  rw [List.length_map] at hn3
  have HI := Lib.hid hI
  have HB1 := Lib.hid hb1
  have HBad := Lib.hid hst
  have Hn2 := Lib.hid hn2
  have Hn3 := Lib.hid hn3
  have hs1 := hb1.size
  have HA2 := Lib.hid (apply_any a want _ l mb true w1 (HRow.out.below stays_owned hb1) Hsm.out.1 Hsm.out.2 ha hw hmb (HE.out.below hb1))
  clear hI hown hwl hvb hb1 hst hn2 hn3 HA
  go_wp2_with fail
  refine HA2.out.mono ?_
  rintro E w2 ⟨s2, vL2, vb2, L2, bad2, f, wl2, rfl, hI2, hown, -, hvb, hb2, -⟩
  have HP := Lib.hid (JP.fields_bars HI.out hI2)
  have hbad2 := HP.out.2.1
  rw [hbad2] at hvb
  obtain ⟨a4, c4, rfl, -, -⟩ := hown.row.len
  obtain ⟨n4, hn4⟩ : ∃ n, L2.length = n := ⟨_, rfl⟩
  rw [hn4]
  obtain ⟨a5, c5, rfl, -, -⟩ := hvb.row.len
  simp only [List.map_nil, List.length_nil]
  have HB2 := Lib.hid (HB1.out.trans (hb2.mono hs1))
  have HBad2 := Lib.hid (HBad.out.below hb2)
  have hs2 := HB2.out.size
  have HW := Lib.hid (awry_any w2 (HE.out.below HB2.out))
  clear hI2 hown hvb hb2 hn4 hbad2 HA2 HBad
  go_wp2_with fail
  refine HW.out.mono ?_
  rintro E w3 ⟨rfl, hb3⟩
  have HB3 := Lib.hid (HB2.out.trans (hb3.mono hs2))
  have HBad3 := Lib.hid (HBad2.out.below hb3)
  have hs3 := HB3.out.size
  have qf : (f == 11) = false := by rw [beq_eq_false_iff_ne]; exact HP.out.1
  clear hb3 HW HBad2
  by_cases h0 : er = 11
  · subst h0
    obtain ⟨rfl, rfl, hne, W, hW, hbd⟩ := HP.out.2.2.2 rfl
    obtain ⟨_, _, hAP, _⟩ := HI.out.clash (.inr rfl)
    have hr0 := hAP.2.2.2.1
    have hk6 := hAP.2.2.2.2.2
    have hn20 : n2 = 0 := by rw [← Hn2.out]; rfl
    subst hn20
    have hfit := leaves_fit hW (JP.read_fit' hr0)
    have HLv := Lib.hid (leavesW_any want w3 hw (HE.out.below HB3.out).2.2 hr0 hk6 hW)
    have hWl : W.length ≤ 200 := by
      have h1 := JP.gat_len [] (JP.readL want.data.toList).1
      have h2 := (JP.read_fit' hr0).2.1
      rw [hW.1.length_eq]; omega
    have Hfit := Lib.hid hfit
    have hn3p : 0 < n3 := by rw [← Hn3.out]; exact List.length_pos_iff.2 hne
    have hn3l : n3 ≤ 1048576 := by
      obtain ⟨_, _, _, V, hV, hb, _⟩ := HI.out.clash (.inr rfl)
      rw [← Hn3.out, hb, List.length_map]
      have h1 : (JP.confL (JP.readL a.data.toList).1 (l.map oP) mb V).length ≤ V.length := by unfold JP.confL; exact List.length_filter_le _ _
      have h2 := JP.leaves_one hV hW
      subst h2
      omega
    have Hbd : Hid (∀ p ∈ bad, p ∈ W.map JP.pathL ∧ ∃ y ∈ l.map oP, y.1 ≠ mb ∧ ∃ q ∈ y.2, JP.touchB p q = true) := Lib.hid hbd
    have e1 : (mkB []).toList.isEmpty = true := by rw [ByteArray.toList_eq, mkB_list]; rfl
    have e2 : (mkB []).toList = [] := by rw [ByteArray.toList_eq, mkB_list]
    clear hr0 hk6 hW hfit hbd hne hAP
    go_wp2_with fail
    refine HLv.out.mono ?_
    rintro E w4 ⟨v4, rfl, hv4, hb4⟩
    obtain ⟨a6, c6, rfl, -, -⟩ := hv4.row.len
    obtain ⟨n6, hn6⟩ : ∃ n, ((W.map JP.pathL).map mkB).length = n := ⟨_, rfl⟩
    rw [hn6] at hv4 ⊢
    have HV4 := Lib.hid hv4
    have HB4 := Lib.hid (HB3.out.trans (hb4.mono hs3))
    have HBad4 := Lib.hid (HBad3.out.below hb4)
    have hs4 := HB4.out.size
    have HRow4 := Lib.hid (HRow.out.below stays_owned HB4.out)
    clear hv4 hb4 hn6 HLv HBad3
    go_wp2_with fail
    go_loopg [73] n3 (fun k u73 wr => ∃ i : Nat, i + k = n3 ∧ u73 = .int .i64 (i : Int) ∧ Hid (Below w4.heap.size w4 wr))
    case atStart => exact ⟨0, by omega, rfl, Lib.hid (Below.refl _ _)⟩
    case round =>
      obtain ⟨i, hik, rfl, Hbel⟩ := hrel
      cases gk with
      | zero =>
        obtain rfl : n3 = i := by omega
        have HBr := Lib.hid (HB4.out.trans (Hbel.out.mono hs4))
        clear Hbel
        go_wp2_with fail
        go_ret
        exact ⟨rfl, HBr.out⟩
      | succ kA =>
        have hil : i < n3 := by omega
        obtain ⟨p, hpi⟩ : ∃ p, bad[i]? = some p := ⟨bad[i]'(by rw [Hn3.out]; exact hil), List.getElem?_eq_getElem _⟩
        obtain ⟨hpW, hpy⟩ := Hbd.out p (List.mem_of_getElem? hpi)
        have hplen : p.length ≤ 1048576 := by
          obtain ⟨z, hz, rfl⟩ := List.mem_map.1 hpW
          exact pathL_len (Hfit.out z hz)
        obtain ⟨bb, o, ha4, e0⟩ := str_cell HBad4.out Hbel.out hpi
        subst ha4
        have q1 : (0 : Int) ≤ (i : Int) := by omega
        have q2 : (i : Int) < (n3 : Int) := by omega
        have HpW := Lib.hid hpW
        have Hpy := Lib.hid hpy
        clear hpi hpW hpy
        go_wp2_with fail
        clear e0
        go_loopg [21, 79] l.length (fun k u21 u79 wx => ∃ (c : Nat) (kb2 : Bool), c + k = l.length ∧ u79 = .int .i64 (c : Int) ∧ u21 = .bool kb2 ∧ Hid (kb2 = false → ∀ y ∈ (l.map oP).take c, y.1 ≠ mb → ∀ t ∈ y.2, JP.touchB p t = false) ∧ Hid (Below w4.heap.size w4 wx))
        case atStart => exact ⟨0, false, by omega, rfl, rfl, Lib.hid (fun _ y hy => by rw [List.take_zero] at hy; cases hy), Hbel⟩
        case round =>
          obtain ⟨c, kb2, hck, rfl, rfl, HKc, Hbc⟩ := hrel
          cases gk with
          | zero =>
            have hcl : c = l.length := by omega
            subst hcl
            cases kb2 with
            | false =>
              exfalso
              obtain ⟨y, hy, hm, q, hq, ht⟩ := Hpy.out
              rw [HKc.out rfl y (by rw [List.take_of_length_le (by rw [List.length_map]; exact Nat.le_refl _)]; exact hy) hm q hq] at ht
              cases ht
            | true =>
              have HHs := Lib.hid (hasStr_any _ _ (mkB p) wr (HV4.out.below Hbc.out) (by rw [List.length_map, List.length_map]; omega))
              have hcon : Lib.containsS ((W.map JP.pathL).map mkB) (mkB p) = true := (Lib.containsS_iff _ _).2 (List.mem_map.2 ⟨p, HpW.out, rfl⟩)
              rw [hcon] at HHs
              clear HKc hcon
              go_wp2_with fail
              refine HHs.out.mono ?_
              rintro E w6 ⟨rfl, rfl⟩
              go_wp2_with fail
              go_roundg kA
              case measure => omega
              case rel => exact ⟨i + 1, by omega, by go_num, Hbc⟩
          | succ kC =>
              have hcl : c < l.length := by omega
              obtain ⟨x, hxc⟩ : ∃ x, l[c]? = some x := ⟨l[c], List.getElem?_eq_getElem hcl⟩
              obtain ⟨bx, ox, cx', hv, _, _, hbs, hcell⟩ := HRow4.out.form (by omega) (by omega)
              injection hv with u1 u2 u3
              subst u1
              clear u2 u3
              obtain ⟨ds, _, hcc, v1, rfl, hst⟩ := hcell c x hxc
              obtain ⟨sa, sc, rfl, -, -⟩ := hst.row.len
              obtain ⟨sn, hsn⟩ : ∃ sn, x.paths.length = sn := ⟨_, rfl⟩
              rw [hsn] at hcc hst
              obtain ⟨hz1, hz2, hz3⟩ := Hsm.out.2 x (List.mem_of_getElem? hxc)
              have e0 : wr.cell? ⟨bx, ox + c * 2, none⟩ = some (.string x.manager) := (Hbc.out.cell (p := ⟨bx, _, none⟩) hbs).trans (by simpa using hcc 0 _ rfl)
              have e1 : wr.cell? ⟨bx, ox + c * 2 + 1, none⟩ = some (.slice sa sn sc) := (Hbc.out.cell (p := ⟨bx, _, none⟩) hbs).trans (hcc 1 _ rfl)
              obtain ⟨y, hy⟩ : ∃ y, oP x = y := ⟨_, rfl⟩
              have hLc : (l.map oP)[c]? = some y := by rw [List.getElem?_map, hxc, ← hy]; rfl
              have q5 : (0 : Int) ≤ (c : Int) := by omega
              have q6 : (c : Int) < (l.length : Int) := by omega
              obtain ⟨w5, hw5⟩ : ∃ w5, w5 = wr.alloc (.cells #[.string x.manager, .slice sa sn sc] 30) := ⟨_, rfl⟩
              obtain ⟨gx, hgx⟩ : ∃ gx, gx = wr.heap.size := ⟨_, rfl⟩
              have b5 : w5.heap[gx]? = some (.cells #[.string x.manager, .slice sa sn sc] 30 (0, 0)) := by rw [hw5, hgx]; exact heap_alloc_new wr _
              have hb5 : Below wr.heap.size wr w5 := by rw [hw5]; exact (Below.refl _ wr).alloc (Nat.le_refl _) _
              have hb45 := Hbc.out.trans (hb5.mono Hbc.out.size)
              have HB5 := Lib.hid hb45
              have B5 := Lib.hid b5
              have HSt : Hid (StrAt w5 (.slice sa sn sc) (y.2.map mkB)) := Lib.hid (by
                rw [← hy]
                show StrAt w5 _ ((x.paths.map (·.data.toList)).map mkB)
                rw [paths_back]; exact hst.below hb45)
              have hsny : y.2.length = sn := by rw [← hy, ← hsn]; show (x.paths.map _).length = _; rw [List.length_map]
              have Hsny := Lib.hid hsny
              have hpl : ∀ t ∈ y.2, t.length ≤ 1048576 := fun t ht => by
                rw [← hy] at ht
                obtain ⟨b, hb, rfl⟩ := List.mem_map.1 ht
                rw [Array.length_toList]; exact hz3 b hb
              have Hpl := Lib.hid hpl
              have eqm : (x.manager.toList == (mkB mb).toList) = decide (y.1 = mb) := by
                rw [← hy, ByteArray.toList_eq, ByteArray.toList_eq, mkB_list, Bool.eq_iff_iff, beq_iff_eq, decide_eq_true_iff]; rfl
              obtain ⟨km, Hkm⟩ : ∃ km, Hid (decide (y.1 = mb) = km) := ⟨_, Lib.hid rfl⟩
              rw [Hkm.out] at eqm
              have HLc := Lib.hid hLc
              have hsnl : sn ≤ 1048576 := by rw [← hsn]; exact hz2
              have cc := fun i => cell_block b5 i
              clear hcc hcell hst hb5 hb45 hsn hsny hbs hLc b5 hxc hpl hz1 hz2 hz3 hy
              go_upto_region 17 with fail
              rw [← hw5]
              try rw [← hgx]
              clear hw5 hgx e0 e1
              go_wp2_with fail
              clear cc
              go_loopg [21, 86] sn (fun k u21 u86 wx => ∃ (d : Nat) (kb3 : Bool), d + k = sn ∧ u86 = .int .i64 (d : Int) ∧ u21 = .bool kb3 ∧ Hid (kb3 = false → kb2 = false ∧ ∀ t ∈ y.2.take d, y.1 ≠ mb → JP.touchB p t = false) ∧ Hid (w5 = wx))
              case atStart => exact ⟨0, kb2, by omega, rfl, rfl, Lib.hid (fun h => ⟨h, fun t ht => by rw [List.take_zero] at ht; cases ht⟩), Lib.hid rfl⟩
              case round =>
                obtain ⟨d, kb3, hdk, rfl, rfl, HKd, Hbd⟩ := hrel
                have hwd := Hbd.out
                subst hwd
                cases gk with
                | zero =>
                  obtain rfl : sn = d := by omega
                  have HK4 : Hid (kb3 = false → ∀ y ∈ (l.map oP).take (c + 1), y.1 ≠ mb → ∀ t ∈ y.2, JP.touchB p t = false) := Lib.hid fun h => by
                    obtain ⟨h1, h2⟩ := HKd.out h
                    have h4 := HKc.out h1
                    intro z hz hm t ht
                    rw [List.take_add_one, HLc.out] at hz
                    rcases List.mem_append.1 hz with hz | hz
                    · exact h4 z hz hm t ht
                    · have e : z = y := by simpa using hz
                      subst e
                      exact h2 t (by rw [List.take_of_length_le (by rw [Hsny.out]; exact Nat.le_refl _)]; exact ht) hm
                  clear HKd HKc
                  go_wp2_with fail
                  go_roundg kC
                  case measure => omega
                  case rel => exact ⟨c + 1, kb3, by omega, by go_num, rfl, HK4, HB5⟩
                | succ kD =>
                  have hdl : d < sn := by omega
                  obtain ⟨q, hqd⟩ : ∃ q, y.2[d]? = some q := ⟨y.2[d]'(by rw [Hsny.out]; exact hdl), List.getElem?_eq_getElem _⟩
                  have hql := Hpl.out q (List.mem_of_getElem? hqd)
                  obtain ⟨b6, o6, ha6, f0⟩ := str_cell HSt.out (Below.refl _ _) hqd
                  subst ha6
                  have q7 : (0 : Int) ≤ (d : Int) := by omega
                  have q8 : (d : Int) < (sn : Int) := by omega
                  have Hqd := Lib.hid hqd
                  have cc := fun i => cell_block B5.out i
                  clear hqd
                  cases kb3 with
                  | true =>
                    go_wp2_with fail
                    go_roundg kD
                    case measure => omega
                    case rel => exact ⟨d + 1, true, by omega, by go_num, rfl, Lib.hid fun h => (by cases h), Lib.hid rfl⟩
                  | false =>
                    cases km with
                    | true =>
                      have HK3 : Hid (false = false → kb2 = false ∧ ∀ t ∈ y.2.take (d + 1), y.1 ≠ mb → JP.touchB p t = false) := Lib.hid fun _ => ⟨(HKd.out rfl).1, fun t ht hm => absurd (of_decide_eq_true Hkm.out) hm⟩
                      go_wp2_with fail
                      go_roundg kD
                      case measure => omega
                      case rel => exact ⟨d + 1, false, by omega, by go_num, rfl, Lib.hid fun _ => (by first | exact HK3.out trivial | exact HK3.out rfl), Lib.hid rfl⟩
                    | false =>
                      have l1 : ¬ 9223372036854775807 < (mkB p).size + 1 := by rw [mkB_size]; omega
                      have l2 : ¬ 9223372036854775807 < (mkB q).size + 1 := by rw [mkB_size]; omega
                      have f1 := Tryz.strings_HasPrefix (mkB q) (mkB p ++ ⟨#[47]⟩)
                      have f2 := Tryz.strings_HasPrefix (mkB p) (mkB q ++ ⟨#[47]⟩)
                      rw [show (mkB p ++ ⟨#[47]⟩ : ByteArray).data.toList = p ++ [47] by simp [mkB]] at f1
                      rw [show (mkB q ++ ⟨#[47]⟩ : ByteArray).data.toList = q ++ [47] by simp [mkB]] at f2
                      rw [mkB_list] at f1 f2
                      have e9 : ((mkB p).toList == (mkB q).toList) = (p == q) := by rw [ByteArray.toList_eq, ByteArray.toList_eq, mkB_list, mkB_list]
                      obtain ⟨b1, Hb1⟩ : ∃ b, Hid ((p == q) = b) := ⟨_, Lib.hid rfl⟩
                      obtain ⟨b2, Hb2⟩ : ∃ b, Hid (Lib.hasPrefix q (p ++ [47]) = b) := ⟨_, Lib.hid rfl⟩
                      obtain ⟨b3, Hb3⟩ : ∃ b, Hid (Lib.hasPrefix p (q ++ [47]) = b) := ⟨_, Lib.hid rfl⟩
                      rw [Hb1.out] at e9
                      rw [Hb2.out] at f1
                      rw [Hb3.out] at f2
                      have F1 := Lib.hid f1
                      have F2 := Lib.hid f2
                      have Hno : Hid (b1 = false → b2 = false → b3 = false → JP.touchB p q = false) := Lib.hid fun h1 h2 h3 => by
                        unfold JP.touchB
                        rw [Hb1.out, Hb3.out, Hb2.out, h1, h2, h3]; rfl
                      clear f1 f2
                      cases b1 with
                      | true =>
                        go_wp2_with fail
                        go_roundg kD
                        case measure => omega
                        case rel => exact ⟨d + 1, true, by omega, by go_num, rfl, Lib.hid fun h => (by cases h), Lib.hid rfl⟩
                      | false =>
                        cases b3 with
                        | true =>
                          go_wp2_with fail
                          refine (F2.out _).mono ?_
                          rintro E w9 ⟨rfl, rfl⟩
                          go_wp2_with fail
                          go_roundg kD
                          case measure => omega
                          case rel => exact ⟨d + 1, true, by omega, by go_num, rfl, Lib.hid fun h => (by cases h), Lib.hid rfl⟩
                        | false =>
                          go_wp2_with fail
                          refine (F2.out _).mono ?_
                          rintro E w9 ⟨rfl, rfl⟩
                          cases b2 with
                          | true =>
                            go_wp2_with fail
                            refine (F1.out _).mono ?_
                            rintro E w9 ⟨rfl, rfl⟩
                            go_wp2_with fail
                            go_roundg kD
                            case measure => omega
                            case rel => exact ⟨d + 1, true, by omega, by go_num, rfl, Lib.hid fun h => (by cases h), Lib.hid rfl⟩
                          | false =>
                            go_wp2_with fail
                            refine (F1.out _).mono ?_
                            rintro E w9 ⟨rfl, rfl⟩
                            go_wp2_with fail
                            have HK3 : Hid (false = false → kb2 = false ∧ ∀ t ∈ y.2.take (d + 1), y.1 ≠ mb → JP.touchB p t = false) := Lib.hid fun _ => ⟨(HKd.out trivial).1, fun t ht hm => by
                              rw [List.take_add_one, Hqd.out] at ht
                              rcases List.mem_append.1 ht with ht | ht
                              · exact (HKd.out trivial).2 t ht hm
                              · have e : t = q := by simpa using ht
                                rw [e]; exact Hno.out trivial trivial trivial⟩
                            go_roundg kD
                            case measure => omega
                            case rel => exact ⟨d + 1, false, by omega, by go_num, rfl, Lib.hid fun _ => (by first | exact HK3.out trivial | exact HK3.out rfl), Lib.hid rfl⟩
  · have q0 : (er == 11) = false := by rw [beq_eq_false_iff_ne]; exact h0
    have hb0 := HP.out.2.2.1 h0
    have hn0 : n3 = 0 := by rw [← Hn3.out, hb0]; rfl
    subst hn0
    clear h0 hb0
    go_wp2_with fail
    · have h9 : er = 11 := by assumption
      rw [h9] at q0
      exact absurd q0 (by decide)
    · go_ret
      exact ⟨rfl, HB3.out⟩
end Go.Proofs.YtdcmnpeabjallaaGreatDoor
namespace Go.Proofs.YtdcmnpeabjallaaGreatDoor
open Go.RowKit
open JP (JV Bs Lf)
set_option maxRecDepth 100000 in
set_option maxHeartbeats 6400000 in
theorem fieldsOthers_walk (a : ByteArray) (v : Value) (l : List GOwned) (m want : ByteArray) (force : Bool) (w : World) (hrow : RowAt OwnedR 2 w v l) (hbulk : a.data.toList.length + ((l.map ownedB).sum + (m.data.toList.length + want.data.toList.length)) ≤ 1048576) (hE : Env w) :
    Calls Tryz.prog 5 #[.string a, v, .string m, .string want, .bool force] w fun e w' => e = .returned (.bool true) ∧ Below w.heap.size w w' := by
  obtain ⟨mb, rfl⟩ : ∃ mb, m = mkB mb := ⟨m.data.toList, (mkB_of m).symm⟩
  rw [mkB_list] at hbulk
  have hsm := small_of_bulk (l := l) (by omega)
  have ha : a.size ≤ 1048576 := by rw [← list_size]; omega
  have hw : want.size ≤ 1048576 := by rw [← list_size]; omega
  have hmb : mb.length ≤ 1048576 := by omega
  have HA := Lib.hid (applied_any a want v l mb force w hrow hsm ha hw hmb hE)
  obtain ⟨a1, c1, rfl, -, -⟩ := hrow.len
  have HE := Lib.hid hE
  have Hsm := Lib.hid hsm
  have HRow := Lib.hid hrow
  clear hrow hbulk hE hsm
  go_enter Tryz.func5, Tryz.ntmps5
  go_wp2_with fail
  refine HA.out.mono ?_
  rintro E w1 ⟨s, vL, L, bad, er, rfl, hI, hR, hb1⟩
  obtain ⟨a2, c2, rfl, -, -⟩ := hR.len
  obtain ⟨n2, hn2⟩ : ∃ n, (L.map gP).length = n := ⟨_, rfl⟩
  rw [hn2] at hR ⊢
  have HI := Lib.hid hI
  have HR := Lib.hid hR
  have HB1 := Lib.hid hb1
  have Hn2 := Lib.hid hn2
  have hs1 := hb1.size
  have HW := Lib.hid (awry_any w1 (HE.out.below hb1))
  clear hI hR hb1 hn2 HA
  go_wp2_with fail
  refine HW.out.mono ?_
  rintro E w2 ⟨rfl, hb2⟩
  have HB2 := Lib.hid (HB1.out.trans (hb2.mono hs1))
  have HR2 := Lib.hid (HR.out.below stays_owned hb2)
  have hs2 := HB2.out.size
  clear hb2 HW HR
  by_cases h0 : er = 0
  · subst h0
    obtain ⟨hsm2, hsl⟩ := told_small HI.out Hsm.out hmb
    have Hsm2 := Lib.hid hsm2
    have Hoth : Hid (∀ y ∈ L, y.1 ≠ mb → ∀ p ∈ y.2, p ∈ JP.had (l.map oP) y.1 ∧ ∃ k, stepsP p = (0, k) ∧ (JP.Thr (JP.readL a.data.toList).1 k → JP.getE a.data.toList p = JP.getE s p ∧ JP.getT a.data.toList p = JP.getT s p)) := Lib.hid fun y hy hm p hp => JP.fields_others HI.out hy hm hp
    have hn2l : n2 ≤ 1048576 := by rw [← Hn2.out]; exact hsm2.1
    clear hsm2
    go_wp2_with fail
    go_loopg [45] n2 (fun k u45 wr => ∃ i : Nat, i + k = n2 ∧ u45 = .int .i64 (i : Int) ∧ Hid (Below w2.heap.size w2 wr))
    case atStart => exact ⟨0, by omega, rfl, Lib.hid (Below.refl _ _)⟩
    case round =>
      obtain ⟨i, hik, rfl, Hbel⟩ := hrel
      cases gk with
      | zero =>
        obtain rfl : n2 = i := by omega
        have HBr := Lib.hid (HB2.out.trans (Hbel.out.mono hs2))
        clear Hbel
        go_wp2_with fail
        go_ret
        exact ⟨rfl, HBr.out⟩
      | succ k =>
        have hil : i < n2 := by omega
        obtain ⟨x, hxi⟩ : ∃ x, (L.map gP)[i]? = some x := ⟨(L.map gP)[i]'(by rw [Hn2.out]; exact hil), List.getElem?_eq_getElem _⟩
        obtain ⟨y, hyi, rfl⟩ : ∃ y, L[i]? = some y ∧ gP y = x := by rw [List.getElem?_map] at hxi; exact Option.map_eq_some_iff.1 hxi
        have hym := List.mem_of_getElem? hyi
        obtain ⟨bb, o, c', hv, _, _, hbs, hcell⟩ := HR2.out.form (by rw [Hn2.out]; omega) (by omega)
        injection hv with u1 u2 u3
        subst u1
        clear u2 u3
        obtain ⟨ds, _, hcc, v1, rfl, hst⟩ := hcell i (gP y) hxi
        obtain ⟨sa, sc, rfl, -, -⟩ := hst.row.len
        obtain ⟨sn, hsn⟩ : ∃ sn, (gP y).paths.length = sn := ⟨_, rfl⟩
        rw [hsn] at hcc hst
        have hsn2 : y.2.length = sn := by rw [← hsn]; show _ = (y.2.map mkB).length; rw [List.length_map]
        have hyz := Hsm2.out.2 (gP y) (List.mem_of_getElem? hxi)
        have e0 : wr.cell? ⟨bb, o + i * 2, none⟩ = some (.string (mkB y.1)) := (Hbel.out.cell (p := ⟨bb, _, none⟩) hbs).trans (by have h9 := hcc 0 (.string (mkB y.1)) rfl; simpa using h9)
        have e1 : wr.cell? ⟨bb, o + i * 2 + 1, none⟩ = some (.slice sa sn sc) := (Hbel.out.cell (p := ⟨bb, _, none⟩) hbs).trans (hcc 1 _ rfl)
        have q1 : (0 : Int) ≤ (i : Int) := by omega
        have q2 : (i : Int) < (n2 : Int) := by omega
        obtain ⟨w3, hw3⟩ : ∃ w3, w3 = wr.alloc (.cells #[.string (mkB y.1), .slice sa sn sc] 30) := ⟨_, rfl⟩
        obtain ⟨gx, hgx⟩ : ∃ gx, gx = wr.heap.size := ⟨_, rfl⟩
        have b3 : w3.heap[gx]? = some (.cells #[.string (mkB y.1), .slice sa sn sc] 30 (0, 0)) := by rw [hw3, hgx]; exact heap_alloc_new wr _
        have hb3 : Below wr.heap.size wr w3 := by rw [hw3]; exact (Below.refl _ wr).alloc (Nat.le_refl _) _
        have hb23 := Hbel.out.trans (hb3.mono Hbel.out.size)
        have HB3 := Lib.hid hb23
        have B3 := Lib.hid b3
        have HSt : Hid (StrAt w3 (.slice sa sn sc) (y.2.map mkB)) := Lib.hid (hst.below hb23)
        have Hsn2 := Lib.hid hsn2
        have hsnl : sn ≤ 1048576 := by rw [← hsn]; exact hyz.2.1
        have hml : y.1.length ≤ 1048576 := by have h9 := hyz.1; have h8 : (gP y).manager = mkB y.1 := rfl; rw [h8, mkB_size] at h9; exact h9
        have hpl : ∀ p ∈ y.2, p.length ≤ 1048576 := fun p hp => by
          have h9 := hyz.2.2 (mkB p) (List.mem_map.2 ⟨p, hp, rfl⟩)
          rw [mkB_size] at h9; exact h9
        have Hpl := Lib.hid hpl
        have eq1 : ((mkB y.1).toList == (mkB mb).toList) = decide (y.1 = mb) := by
          rw [ByteArray.toList_eq, ByteArray.toList_eq, mkB_list, mkB_list, Bool.eq_iff_iff, beq_iff_eq, decide_eq_true_iff]
        obtain ⟨km, Hkm⟩ : ∃ km, Hid (decide (y.1 = mb) = km) := ⟨_, Lib.hid rfl⟩
        rw [Hkm.out] at eq1
        have Hym := Lib.hid hym
        have cc := fun i => cell_block b3 i
        have hs3 := hb23.size
        clear hcc hcell hst hb3 hb23 hsn hsn2 hbs b3 hxi hyi hym hyz hpl
        go_upto_region 9 with fail
        rw [← hw3]
        try rw [← hgx]
        clear hw3 hgx e0 e1
        cases km with
        | true =>
          go_wp2_with fail
          go_roundg k
          case measure => omega
          case rel => exact ⟨i + 1, by omega, by go_num, HB3⟩
        | false =>
          have Hy := Lib.hid (Hoth.out y Hym.out (of_decide_eq_false Hkm.out))
          go_wp2_with fail
          clear cc
          go_loopg [56] sn (fun k2 u56 wr => ∃ j : Nat, j + k2 = sn ∧ u56 = .int .i64 (j : Int) ∧ Hid (Below w3.heap.size w3 wr))
          case atStart => exact ⟨0, by omega, rfl, Lib.hid (Below.refl _ _)⟩
          case round =>
            obtain ⟨j, hjk, rfl, Hbe⟩ := hrel
            cases gk with
            | zero =>
              obtain rfl : sn = j := by omega
              have HBr := Lib.hid (HB3.out.trans (Hbe.out.mono hs3))
              clear Hbe
              go_wp2_with fail
              go_roundg k
              case measure => omega
              case rel => exact ⟨i + 1, by omega, by go_num, HBr⟩
            | succ k2 =>
              have hjl : j < sn := by omega
              obtain ⟨p, hpj⟩ : ∃ p, y.2[j]? = some p := ⟨y.2[j]'(by rw [Hsn2.out]; exact hjl), List.getElem?_eq_getElem _⟩
              have hpm := List.mem_of_getElem? hpj
              obtain ⟨hph, kk, hst, heq⟩ := Hy.out p hpm
              have hplen := Hpl.out p hpm
              obtain ⟨b4, o4, ha4, f0⟩ := str_cell HSt.out Hbe.out hpj
              subst ha4
              have q3 : (0 : Int) ≤ (j : Int) := by omega
              have q4 : (j : Int) < (sn : Int) := by omega
              have hw24 := HB3.out.trans (Hbe.out.mono hs3)
              have hw04 := HB2.out.trans (hw24.mono hs2)
              have HW04 := Lib.hid hw04
              have HW24 := Lib.hid hw24
              have hs4 := hw24.size
              have cc := fun i => cell_block (below_block Hbe.out B3.out) i
              have HH := Lib.hid (had_any _ l y.1 wr (HRow.out.below stays_owned hw04) Hsm.out.1)
              have Hph := Lib.hid hph
              have Heq := Lib.hid heq
              have Hst := Lib.hid hst
              clear hpj hpm hph hst heq hw24 hw04
              go_wp2_with fail
              refine HH.out.mono ?_
              rintro E w5 ⟨u, rfl, hu, hb5⟩
              have HB5 := Lib.hid (HW24.out.trans (hb5.mono hs4))
              have HHs := Lib.hid (hasStr_any u _ (mkB p) w5 hu (by rw [List.length_map]; exact Nat.le_trans (had_small Hsm.out y.1) (by decide)))
              have hcon : Lib.containsS ((JP.had (l.map oP) y.1).map mkB) (mkB p) = true := (Lib.containsS_iff _ _).2 (List.mem_map.2 ⟨p, Hph.out, rfl⟩)
              rw [hcon] at HHs
              obtain ⟨a5, c5, rfl, -, -⟩ := hu.row.len
              obtain ⟨n5, hn5⟩ : ∃ n, ((JP.had (l.map oP) y.1).map mkB).length = n := ⟨_, rfl⟩
              rw [hn5] at HHs ⊢
              have hs5 := HB5.out.size
              have HB50 := Lib.hid (HB2.out.trans (HB5.out.mono hs2))
              have Hbe5 := Lib.hid (Hbe.out.trans (hb5.mono Hbe.out.size))
              clear hu hb5 HH hcon hn5
              go_wp2_with fail
              refine HHs.out.mono ?_
              rintro E w6 ⟨rfl, rfl⟩
              have hG1 := pget_any a (mkB p) w5 ha (by rw [mkB_size]; exact hplen) (HE.out.below HB50.out)
              have hG2 := fun (w' : World) (hb : Below w5.heap.size w5 w') => pget_any (mkB s) (mkB p) w' (by rw [mkB_size]; exact hsl) (by rw [mkB_size]; exact hplen) ((HE.out.below HB50.out).below hb)
              have hG3 := fun (w' : World) (hb : Below w5.heap.size w5 w') => through_any a (mkB p) w' ha (by rw [mkB_size]; exact hplen) ((HE.out.below HB50.out).below hb)
              rw [mkB_list] at hG1
              rw [mkB_list, mkB_list] at hG2
              rw [mkB_list] at hG3
              obtain ⟨g1, hg1⟩ : ∃ e, JP.getE a.data.toList p = e := ⟨_, rfl⟩
              obtain ⟨t1, ht1⟩ : ∃ e, JP.getT a.data.toList p = e := ⟨_, rfl⟩
              obtain ⟨g2, hg2⟩ : ∃ e, JP.getE s p = e := ⟨_, rfl⟩
              obtain ⟨t2, ht2⟩ : ∃ e, JP.getT s p = e := ⟨_, rfl⟩
              have hsame : Hid (JP.Thr (JP.readL a.data.toList).1 kk → g1 = g2 ∧ t1 = t2) := Lib.hid (by rw [← hg1, ← ht1, ← hg2, ← ht2]; exact Heq.out)
              rw [hg1, ht1] at hG1
              rw [hg2, ht2] at hG2
              have HG1 := Lib.hid hG1
              have HG2 := Lib.hid hG2
              have HG3 := Lib.hid hG3
              clear hG1 hG2 hG3 hg1 ht1 hg2 ht2 cc f0
              go_wp2_with fail
              refine HG1.out.mono ?_
              rintro E w7 ⟨rfl, hb7⟩
              have HG4 := Lib.hid (HG2.out w7 hb7)
              have Hb7 := Lib.hid hb7
              have hs7 := hb7.size
              clear hb7 HG1 HG2
              go_wp2_with fail
              refine HG4.out.mono ?_
              rintro E w8 ⟨rfl, hb8⟩
              have Hb8 := Lib.hid (Hb7.out.trans (hb8.mono hs7))
              have HG5 := Lib.hid (HG3.out w8 Hb8.out)
              have hs8 := Hb8.out.size
              clear hb8 HG4 HG3
              go_wp2_with fail
              refine HG5.out.mono ?_
              rintro E w9 ⟨B, rfl, hB, hb9⟩
              have Hb9 := Lib.hid (Hbe5.out.trans ((Hb8.out.trans (hb9.mono hs8)).mono Hbe5.out.size))
              cases B with
              | false =>
                clear hB hb9 HG5
                go_wp2_with fail
                go_roundg k2
                case measure => omega
                case rel => exact ⟨j + 1, by omega, by go_num, Hb9⟩
              | true =>
                obtain ⟨e1, e2⟩ := hsame.out (thr_seen Hst.out (hB rfl))
                subst e1
                subst e2
                have q5 : (g1 == g1) = true := beq_self_eq_true _
                have q6 : ((mkB t1).toList == (mkB t1).toList) = true := beq_self_eq_true _
                clear hB hb9 HG5
                go_wp2_with fail
                go_roundg k2
                case measure => omega
                case rel => exact ⟨j + 1, by omega, by go_num, Hb9⟩
  · have q0 : (er == 0) = false := by rw [beq_eq_false_iff_ne]; exact h0
    obtain ⟨rfl, rfl⟩ := HI.out.no h0
    have hn0 : n2 = 0 := by rw [← Hn2.out]; rfl
    subst hn0
    have e1 : (mkB []).toList.isEmpty = true := by rw [ByteArray.toList_eq, mkB_list]; rfl
    have e2 : (mkB []).toList = [] := by rw [ByteArray.toList_eq, mkB_list]
    clear h0
    go_wp2_with fail
    go_ret
    exact ⟨rfl, HB2.out⟩
end Go.Proofs.YtdcmnpeabjallaaGreatDoor
namespace Go.Proofs.YtdcmnpeabjallaaGreatDoor
open Go.RowKit
open JP (JV Bs Lf)
theorem had_texts {l : List GOwned} (h : Small l) (m : Bs) : ∀ p ∈ JP.had (l.map oP) m, p.length ≤ 1048576 := fun p hp => by
  rcases JP.had_cases (l.map oP) m with ⟨y, hy, _, e⟩ | e
  · obtain ⟨x, hx, rfl⟩ := List.mem_map.1 hy
    rw [e] at hp
    obtain ⟨t, ht, rfl⟩ := List.mem_map.1 hp
    rw [Array.length_toList]
    exact (h.2 x hx).2.2 t ht
  · rw [e] at hp; cases hp
set_option maxRecDepth 100000 in
set_option maxHeartbeats 6400000 in
theorem fieldsGone_walk (a : ByteArray) (v : Value) (l : List GOwned) (m want : ByteArray) (w : World) (hrow : RowAt OwnedR 2 w v l) (hbulk : a.data.toList.length + ((l.map ownedB).sum + (m.data.toList.length + want.data.toList.length)) ≤ 1048576) (hE : Env w) :
    Calls Tryz.prog 7 #[.string a, v, .string m, .string want] w fun e w' => e = .returned (.bool true) ∧ Below w.heap.size w w' := by
  obtain ⟨mb, rfl⟩ : ∃ mb, m = mkB mb := ⟨m.data.toList, (mkB_of m).symm⟩
  rw [mkB_list] at hbulk
  have hsm := small_of_bulk (l := l) (by omega)
  have ha : a.size ≤ 1048576 := by rw [← list_size]; omega
  have hw : want.size ≤ 1048576 := by rw [← list_size]; omega
  have hmb : mb.length ≤ 1048576 := by omega
  have HA := Lib.hid (applied_any a want v l mb false w hrow hsm ha hw hmb hE)
  obtain ⟨a1, c1, rfl, -, -⟩ := hrow.len
  have hll := hsm.1
  have HE := Lib.hid hE
  have Hsm := Lib.hid hsm
  have HRow := Lib.hid hrow
  clear hrow hbulk hE hsm
  go_enter Tryz.func7, Tryz.ntmps7
  go_wp2_with fail
  refine HA.out.mono ?_
  rintro E w1 ⟨s, vL, L, bad, er, rfl, hI, hR, hb1⟩
  obtain ⟨a2, c2, rfl, -, -⟩ := hR.len
  obtain ⟨n2, hn2⟩ : ∃ n, (L.map gP).length = n := ⟨_, rfl⟩
  rw [hn2] at hR ⊢
  have HI := Lib.hid hI
  have HR := Lib.hid hR
  have HB1 := Lib.hid hb1
  have Hn2 := Lib.hid hn2
  have hs1 := hb1.size
  have HW := Lib.hid (awry_any w1 (HE.out.below hb1))
  clear hI hR hb1 hn2 HA
  go_wp2_with fail
  refine HW.out.mono ?_
  rintro E w2 ⟨rfl, hb2⟩
  have HB2 := Lib.hid (HB1.out.trans (hb2.mono hs1))
  have HR2 := Lib.hid (HR.out.below stays_owned hb2)
  have hs2 := HB2.out.size
  clear hb2 HW HR
  by_cases h0 : er = 0
  · subst h0
    obtain ⟨hsm2, hsl⟩ := told_small HI.out Hsm.out hmb
    have hr0 := (HI.out.yes rfl).1.2.2.2.1
    have hk6 := (HI.out.yes rfl).1.2.2.2.2.2
    obtain ⟨-, W, hW, -⟩ := HI.out.yes rfl
    have hfit := leaves_fit hW (JP.read_fit' hr0)
    have HLv := Lib.hid (leavesW_any want w2 hw (HE.out.below HB2.out).2.2 hr0 hk6 hW)
    have hWl : W.length ≤ 200 := by
      have h1 := JP.gat_len [] (JP.readL want.data.toList).1
      have h2 := (JP.read_fit' hr0).2.1
      rw [hW.1.length_eq]; omega
    have Hfit := Lib.hid hfit
    have Hgone : Hid (∀ p ∈ JP.had (l.map oP) mb, ∃ k, stepsP p = (0, k) ∧ ((∀ x ∈ W, JP.touchB p (JP.pathL x) = false) → (∀ y ∈ l.map oP, y.1 ≠ mb → ∀ q ∈ y.2, JP.touchB p q = false) → JP.Thr (JP.readL a.data.toList).1 k → JP.getE s p ≠ 0)) := Lib.hid fun p hp => by
      obtain ⟨k, h1, V, hV, h2⟩ := JP.fields_gone HI.out hp
      have := JP.leaves_one hV hW
      subst this
      exact ⟨k, h1, h2⟩
    have Hsm2 := Lib.hid hsm2
    clear hsm2 hr0 hk6 hW hfit
    go_wp2_with fail
    refine HLv.out.mono ?_
    rintro E w3 ⟨v3, rfl, hv3, hb3⟩
    obtain ⟨a3, c3, rfl, -, -⟩ := hv3.row.len
    obtain ⟨n3, hn3⟩ : ∃ n, ((W.map JP.pathL).map mkB).length = n := ⟨_, rfl⟩
    rw [hn3] at hv3 ⊢
    rw [List.length_map, List.length_map] at hn3
    have HV3 := Lib.hid hv3
    have Hn3 := Lib.hid hn3
    have HB3 := Lib.hid (HB2.out.trans (hb3.mono hs2))
    have hs3 := HB3.out.size
    have hn3l : n3 ≤ 200 := by omega
    have HH := Lib.hid (had_any _ l mb w3 (HRow.out.below stays_owned HB3.out) Hsm.out.1)
    clear hv3 hb3 hn3 HLv
    go_wp2_with fail
    refine HH.out.mono ?_
    rintro E w4 ⟨u, rfl, hu, hb4⟩
    obtain ⟨ps, hps⟩ : ∃ ps, JP.had (l.map oP) mb = ps := ⟨_, rfl⟩
    have hpsl := had_small Hsm.out mb
    have hpss := had_texts Hsm.out mb
    rw [hps] at hu Hgone hpsl hpss
    have Hpss := Lib.hid hpss
    obtain ⟨a4, c4, rfl, -, -⟩ := hu.row.len
    obtain ⟨n4, hn4⟩ : ∃ n, (ps.map mkB).length = n := ⟨_, rfl⟩
    rw [hn4] at hu ⊢
    rw [List.length_map] at hn4
    have Hn4 := Lib.hid hn4
    have hn4l : n4 ≤ 1048576 := by omega
    have HU := Lib.hid hu
    have HB4 := Lib.hid (HB3.out.trans (hb4.mono hs3))
    have HV4 := Lib.hid (HV3.out.below hb4)
    have hs4 := HB4.out.size
    have HRow4 := Lib.hid (HRow.out.below stays_owned HB4.out)
    clear hu hb4 HH hps hn4 hpss
    go_wp2_with fail
    go_loopg [54] n4 (fun k u54 wr => ∃ i : Nat, i + k = n4 ∧ u54 = .int .i64 (i : Int) ∧ Hid (Below w4.heap.size w4 wr))
    case atStart => exact ⟨0, by omega, rfl, Lib.hid (Below.refl _ _)⟩
    case round =>
      obtain ⟨i, hik, rfl, Hbel⟩ := hrel
      cases gk with
      | zero =>
        obtain rfl : n4 = i := by omega
        have HBr := Lib.hid (HB4.out.trans (Hbel.out.mono hs4))
        clear Hbel
        go_wp2_with fail
        go_ret
        exact ⟨rfl, HBr.out⟩
      | succ kA =>
        have hil : i < n4 := by omega
        obtain ⟨p, hpi⟩ : ∃ p, ps[i]? = some p := ⟨ps[i]'(by rw [Hn4.out]; exact hil), List.getElem?_eq_getElem _⟩
        have hpm := List.mem_of_getElem? hpi
        have hplen := Hpss.out p hpm
        obtain ⟨kk, hst, hgn⟩ := Hgone.out p hpm
        obtain ⟨bb, o, ha4, e0⟩ := str_cell HU.out Hbel.out hpi
        subst ha4
        have q1 : (0 : Int) ≤ (i : Int) := by omega
        have q2 : (i : Int) < (n4 : Int) := by omega
        have Hst := Lib.hid hst
        have Hgn := Lib.hid hgn
        clear hpi hpm hst hgn
        go_wp2_with fail
        clear e0
        go_loopg [16, 60] n3 (fun k u16 u60 wx => ∃ (j : Nat) (kb : Bool), j + k = n3 ∧ u60 = .int .i64 (j : Int) ∧ u16 = .bool kb ∧ Hid (kb = false → ∀ x ∈ W.take j, JP.touchB p (JP.pathL x) = false) ∧ Hid (Below w4.heap.size w4 wx))
        case atStart => exact ⟨0, false, by omega, rfl, rfl, Lib.hid (fun _ x hx => by rw [List.take_zero] at hx; cases hx), Hbel⟩
        case round =>
          obtain ⟨j, kb, hjk, rfl, rfl, HK, Hbe⟩ := hrel
          cases gk with
          | zero =>
            obtain rfl : n3 = j := by omega
            have HKW : Hid (kb = false → ∀ x ∈ W, JP.touchB p (JP.pathL x) = false) := Lib.hid fun h x hx => HK.out h x (by rw [List.take_of_length_le (by rw [Hn3.out]; exact Nat.le_refl _)]; exact hx)
            clear HK Hbel
            go_wp2_with fail
            go_loopg [16, 85] l.length (fun k u16 u85 wx => ∃ (c : Nat) (kb2 : Bool), c + k = l.length ∧ u85 = .int .i64 (c : Int) ∧ u16 = .bool kb2 ∧ Hid (kb2 = false → kb = false ∧ ∀ y ∈ (l.map oP).take c, y.1 ≠ mb → ∀ t ∈ y.2, JP.touchB p t = false) ∧ Hid (Below w4.heap.size w4 wx))
            case atStart => exact ⟨0, kb, by omega, rfl, rfl, Lib.hid (fun h => ⟨h, fun y hy => by rw [List.take_zero] at hy; cases hy⟩), Hbe⟩
            case round =>
              obtain ⟨c, kb2, hck, rfl, rfl, HKc, Hbc⟩ := hrel
              cases gk with
              | zero =>
                have hcl : c = l.length := by omega
                subst hcl
                have hw5 := HB4.out.trans (Hbc.out.mono hs4)
                have HW5 := Lib.hid hw5
                have hs5 := Hbc.out.size
                cases kb2 with
                | true =>
                  clear HKc hw5
                  go_wp2_with fail
                  go_roundg kA
                  case measure => omega
                  case rel => exact ⟨i + 1, by omega, by go_num, Hbc⟩
                | false =>
                  have Hn : Hid (JP.Thr (JP.readL a.data.toList).1 kk → JP.getE s p ≠ 0) := Lib.hid (Hgn.out (HKW.out (HKc.out rfl).1) (fun y hy => (HKc.out rfl).2 y (by rw [List.take_of_length_le (by rw [List.length_map]; exact Nat.le_refl _)]; exact hy)))
                  have hT := through_any a (mkB p) wr ha (by rw [mkB_size]; exact hplen) (HE.out.below hw5)
                  have hG := fun (w' : World) (hb : Below wr.heap.size wr w') => pget_any (mkB s) (mkB p) w' (by rw [mkB_size]; exact hsl) (by rw [mkB_size]; exact hplen) ((HE.out.below HW5.out).below hb)
                  rw [mkB_list] at hT
                  rw [mkB_list, mkB_list] at hG
                  obtain ⟨g2, hg2⟩ : ∃ e, JP.getE s p = e := ⟨_, rfl⟩
                  obtain ⟨t2, ht2⟩ : ∃ e, JP.getT s p = e := ⟨_, rfl⟩
                  rw [hg2, ht2] at hG
                  rw [hg2] at Hn
                  have HT := Lib.hid hT
                  have HG := Lib.hid hG
                  clear hT hG hg2 ht2 HKc hw5
                  go_wp2_with fail
                  refine HT.out.mono ?_
                  rintro E w6 ⟨B, rfl, hB, hb6⟩
                  have Hb6 := Lib.hid (Hbc.out.trans (hb6.mono hs5))
                  cases B with
                  | false =>
                    clear hB hb6 HT HG
                    go_wp2_with fail
                    go_roundg kA
                    case measure => omega
                    case rel => exact ⟨i + 1, by omega, by go_num, Hb6⟩
                  | true =>
                    have hne := Hn.out (thr_seen Hst.out (hB rfl))
                    have q7 : (g2 == 0) = false := by rw [beq_eq_false_iff_ne]; exact hne
                    have HG6 := Lib.hid (HG.out w6 hb6)
                    have hs6 := Hb6.out.size
                    clear hB hb6 HT HG hne
                    go_wp2_with fail
                    refine HG6.out.mono ?_
                    rintro E w7 ⟨rfl, hb7⟩
                    have Hb7 := Lib.hid (Hb6.out.trans (hb7.mono hs6))
                    clear hb7 HG6
                    go_wp2_with fail
                    go_roundg kA
                    case measure => omega
                    case rel => exact ⟨i + 1, by omega, by go_num, Hb7⟩
              | succ kC =>
                have hcl : c < l.length := by omega
                obtain ⟨x, hxc⟩ : ∃ x, l[c]? = some x := ⟨l[c], List.getElem?_eq_getElem hcl⟩
                obtain ⟨bx, ox, cx', hv, _, _, hbs, hcell⟩ := HRow4.out.form (by omega) (by omega)
                injection hv with u1 u2 u3
                subst u1
                clear u2 u3
                obtain ⟨ds, _, hcc, v1, rfl, hst⟩ := hcell c x hxc
                obtain ⟨sa, sc, rfl, -, -⟩ := hst.row.len
                obtain ⟨sn, hsn⟩ : ∃ sn, x.paths.length = sn := ⟨_, rfl⟩
                rw [hsn] at hcc hst
                obtain ⟨hz1, hz2, hz3⟩ := Hsm.out.2 x (List.mem_of_getElem? hxc)
                have e0 : wr.cell? ⟨bx, ox + c * 2, none⟩ = some (.string x.manager) := (Hbc.out.cell (p := ⟨bx, _, none⟩) hbs).trans (by simpa using hcc 0 _ rfl)
                have e1 : wr.cell? ⟨bx, ox + c * 2 + 1, none⟩ = some (.slice sa sn sc) := (Hbc.out.cell (p := ⟨bx, _, none⟩) hbs).trans (hcc 1 _ rfl)
                obtain ⟨y, hy⟩ : ∃ y, oP x = y := ⟨_, rfl⟩
                have hLc : (l.map oP)[c]? = some y := by rw [List.getElem?_map, hxc, ← hy]; rfl
                have q5 : (0 : Int) ≤ (c : Int) := by omega
                have q6 : (c : Int) < (l.length : Int) := by omega
                obtain ⟨w5, hw5⟩ : ∃ w5, w5 = wr.alloc (.cells #[.string x.manager, .slice sa sn sc] 30) := ⟨_, rfl⟩
                obtain ⟨gx, hgx⟩ : ∃ gx, gx = wr.heap.size := ⟨_, rfl⟩
                have b5 : w5.heap[gx]? = some (.cells #[.string x.manager, .slice sa sn sc] 30 (0, 0)) := by rw [hw5, hgx]; exact heap_alloc_new wr _
                have hb5 : Below wr.heap.size wr w5 := by rw [hw5]; exact (Below.refl _ wr).alloc (Nat.le_refl _) _
                have hb45 := Hbc.out.trans (hb5.mono Hbc.out.size)
                have HB5 := Lib.hid hb45
                have B5 := Lib.hid b5
                have HSt : Hid (StrAt w5 (.slice sa sn sc) (y.2.map mkB)) := Lib.hid (by
                  rw [← hy]
                  show StrAt w5 _ ((x.paths.map (·.data.toList)).map mkB)
                  rw [paths_back]; exact hst.below hb45)
                have hsny : y.2.length = sn := by rw [← hy, ← hsn]; show (x.paths.map _).length = _; rw [List.length_map]
                have Hsny := Lib.hid hsny
                have hpl : ∀ t ∈ y.2, t.length ≤ 1048576 := fun t ht => by
                  rw [← hy] at ht
                  obtain ⟨b, hb, rfl⟩ := List.mem_map.1 ht
                  rw [Array.length_toList]; exact hz3 b hb
                have Hpl := Lib.hid hpl
                have eqm : (x.manager.toList == (mkB mb).toList) = decide (y.1 = mb) := by
                  rw [← hy, ByteArray.toList_eq, ByteArray.toList_eq, mkB_list, Bool.eq_iff_iff, beq_iff_eq, decide_eq_true_iff]; rfl
                obtain ⟨km, Hkm⟩ : ∃ km, Hid (decide (y.1 = mb) = km) := ⟨_, Lib.hid rfl⟩
                rw [Hkm.out] at eqm
                have HLc := Lib.hid hLc
                have hsnl : sn ≤ 1048576 := by rw [← hsn]; exact hz2
                have cc := fun i => cell_block b5 i
                clear hcc hcell hst hb5 hb45 hsn hsny hbs hLc b5 hxc hpl hz1 hz2 hz3 hy
                go_upto_region 19 with fail
                rw [← hw5]
                try rw [← hgx]
                clear hw5 hgx e0 e1
                go_wp2_with fail
                clear cc
                go_loopg [16, 92] sn (fun k u16 u92 wx => ∃ (d : Nat) (kb3 : Bool), d + k = sn ∧ u92 = .int .i64 (d : Int) ∧ u16 = .bool kb3 ∧ Hid (kb3 = false → kb2 = false ∧ ∀ t ∈ y.2.take d, y.1 ≠ mb → JP.touchB p t = false) ∧ Hid (w5 = wx))
                case atStart => exact ⟨0, kb2, by omega, rfl, rfl, Lib.hid (fun h => ⟨h, fun t ht => by rw [List.take_zero] at ht; cases ht⟩), Lib.hid rfl⟩
                case round =>
                  obtain ⟨d, kb3, hdk, rfl, rfl, HKd, Hbd⟩ := hrel
                  have hwd := Hbd.out
                  subst hwd
                  cases gk with
                  | zero =>
                    obtain rfl : sn = d := by omega
                    have HK4 : Hid (kb3 = false → kb = false ∧ ∀ y ∈ (l.map oP).take (c + 1), y.1 ≠ mb → ∀ t ∈ y.2, JP.touchB p t = false) := Lib.hid fun h => by
                      obtain ⟨h1, h2⟩ := HKd.out h
                      obtain ⟨h3, h4⟩ := HKc.out h1
                      refine ⟨h3, fun z hz hm t ht => ?_⟩
                      rw [List.take_add_one, HLc.out] at hz
                      rcases List.mem_append.1 hz with hz | hz
                      · exact h4 z hz hm t ht
                      · have e : z = y := by simpa using hz
                        subst e
                        exact h2 t (by rw [List.take_of_length_le (by rw [Hsny.out]; exact Nat.le_refl _)]; exact ht) hm
                    clear HKd HKc
                    go_wp2_with fail
                    go_roundg kC
                    case measure => omega
                    case rel => exact ⟨c + 1, kb3, by omega, by go_num, rfl, HK4, HB5⟩
                  | succ kD =>
                    have hdl : d < sn := by omega
                    obtain ⟨q, hqd⟩ : ∃ q, y.2[d]? = some q := ⟨y.2[d]'(by rw [Hsny.out]; exact hdl), List.getElem?_eq_getElem _⟩
                    have hql := Hpl.out q (List.mem_of_getElem? hqd)
                    obtain ⟨b6, o6, ha6, f0⟩ := str_cell HSt.out (Below.refl _ _) hqd
                    subst ha6
                    have q7 : (0 : Int) ≤ (d : Int) := by omega
                    have q8 : (d : Int) < (sn : Int) := by omega
                    have Hqd := Lib.hid hqd
                    have cc := fun i => cell_block B5.out i
                    clear hqd
                    cases kb3 with
                    | true =>
                      go_wp2_with fail
                      go_roundg kD
                      case measure => omega
                      case rel => exact ⟨d + 1, true, by omega, by go_num, rfl, Lib.hid fun h => (by cases h), Lib.hid rfl⟩
                    | false =>
                      cases km with
                      | true =>
                        have HK3 : Hid (false = false → kb2 = false ∧ ∀ t ∈ y.2.take (d + 1), y.1 ≠ mb → JP.touchB p t = false) := Lib.hid fun _ => ⟨(HKd.out rfl).1, fun t ht hm => absurd (of_decide_eq_true Hkm.out) hm⟩
                        go_wp2_with fail
                        go_roundg kD
                        case measure => omega
                        case rel => exact ⟨d + 1, false, by omega, by go_num, rfl, Lib.hid fun _ => (by first | exact HK3.out trivial | exact HK3.out rfl), Lib.hid rfl⟩
                      | false =>
                        have l1 : ¬ 9223372036854775807 < (mkB p).size + 1 := by rw [mkB_size]; omega
                        have l2 : ¬ 9223372036854775807 < (mkB q).size + 1 := by rw [mkB_size]; omega
                        have f1 := Tryz.strings_HasPrefix (mkB q) (mkB p ++ ⟨#[47]⟩)
                        have f2 := Tryz.strings_HasPrefix (mkB p) (mkB q ++ ⟨#[47]⟩)
                        rw [show (mkB p ++ ⟨#[47]⟩ : ByteArray).data.toList = p ++ [47] by simp [mkB]] at f1
                        rw [show (mkB q ++ ⟨#[47]⟩ : ByteArray).data.toList = q ++ [47] by simp [mkB]] at f2
                        rw [mkB_list] at f1 f2
                        have e9 : ((mkB p).toList == (mkB q).toList) = (p == q) := by rw [ByteArray.toList_eq, ByteArray.toList_eq, mkB_list, mkB_list]
                        obtain ⟨b1, Hb1⟩ : ∃ b, Hid ((p == q) = b) := ⟨_, Lib.hid rfl⟩
                        obtain ⟨b2, Hb2⟩ : ∃ b, Hid (Lib.hasPrefix q (p ++ [47]) = b) := ⟨_, Lib.hid rfl⟩
                        obtain ⟨b3, Hb3⟩ : ∃ b, Hid (Lib.hasPrefix p (q ++ [47]) = b) := ⟨_, Lib.hid rfl⟩
                        rw [Hb1.out] at e9
                        rw [Hb2.out] at f1
                        rw [Hb3.out] at f2
                        have F1 := Lib.hid f1
                        have F2 := Lib.hid f2
                        have Hno : Hid (b1 = false → b2 = false → b3 = false → JP.touchB p q = false) := Lib.hid fun h1 h2 h3 => by
                          unfold JP.touchB
                          rw [Hb1.out, Hb3.out, Hb2.out, h1, h2, h3]; rfl
                        clear f1 f2
                        cases b1 with
                        | true =>
                          go_wp2_with fail
                          go_roundg kD
                          case measure => omega
                          case rel => exact ⟨d + 1, true, by omega, by go_num, rfl, Lib.hid fun h => (by cases h), Lib.hid rfl⟩
                        | false =>
                          cases b3 with
                          | true =>
                            go_wp2_with fail
                            refine (F2.out _).mono ?_
                            rintro E w9 ⟨rfl, rfl⟩
                            go_wp2_with fail
                            go_roundg kD
                            case measure => omega
                            case rel => exact ⟨d + 1, true, by omega, by go_num, rfl, Lib.hid fun h => (by cases h), Lib.hid rfl⟩
                          | false =>
                            go_wp2_with fail
                            refine (F2.out _).mono ?_
                            rintro E w9 ⟨rfl, rfl⟩
                            cases b2 with
                            | true =>
                              go_wp2_with fail
                              refine (F1.out _).mono ?_
                              rintro E w9 ⟨rfl, rfl⟩
                              go_wp2_with fail
                              go_roundg kD
                              case measure => omega
                              case rel => exact ⟨d + 1, true, by omega, by go_num, rfl, Lib.hid fun h => (by cases h), Lib.hid rfl⟩
                            | false =>
                              go_wp2_with fail
                              refine (F1.out _).mono ?_
                              rintro E w9 ⟨rfl, rfl⟩
                              go_wp2_with fail
                              have HK3 : Hid (false = false → kb2 = false ∧ ∀ t ∈ y.2.take (d + 1), y.1 ≠ mb → JP.touchB p t = false) := Lib.hid fun _ => ⟨(HKd.out trivial).1, fun t ht hm => by
                                rw [List.take_add_one, Hqd.out] at ht
                                rcases List.mem_append.1 ht with ht | ht
                                · exact (HKd.out trivial).2 t ht hm
                                · have e : t = q := by simpa using ht
                                  rw [e]; exact Hno.out trivial trivial trivial⟩
                              go_roundg kD
                              case measure => omega
                              case rel => exact ⟨d + 1, false, by omega, by go_num, rfl, Lib.hid fun _ => (by first | exact HK3.out trivial | exact HK3.out rfl), Lib.hid rfl⟩
          | succ kB =>
            have hjl : j < n3 := by omega
            obtain ⟨z, hzj⟩ : ∃ z, W[j]? = some z := ⟨W[j]'(by rw [Hn3.out]; exact hjl), List.getElem?_eq_getElem _⟩
            obtain ⟨q, hq⟩ : ∃ q, JP.pathL z = q := ⟨_, rfl⟩
            have hql : q.length ≤ 1048576 := by rw [← hq]; exact pathL_len (Hfit.out z (List.mem_of_getElem? hzj))
            obtain ⟨b3, o3, ha3, f0⟩ := str_cell (y := q) HV4.out Hbe.out (by rw [List.getElem?_map, hzj, ← hq]; rfl)
            subst ha3
            have q3 : (0 : Int) ≤ (j : Int) := by omega
            have q4 : (j : Int) < (n3 : Int) := by omega
            have Hxj := Lib.hid hzj
            have Hzq := Lib.hid hq
            clear hzj hq
            cases kb with
            | true =>
              go_wp2_with fail
              go_roundg kB
              case measure => omega
              case rel => exact ⟨j + 1, true, by omega, by go_num, rfl, Lib.hid fun h => (by cases h), Hbe⟩
            | false =>
              have l1 : ¬ 9223372036854775807 < (mkB p).size + 1 := by rw [mkB_size]; omega
              have l2 : ¬ 9223372036854775807 < (mkB q).size + 1 := by rw [mkB_size]; omega
              have f1 := Tryz.strings_HasPrefix (mkB q) (mkB p ++ ⟨#[47]⟩)
              have f2 := Tryz.strings_HasPrefix (mkB p) (mkB q ++ ⟨#[47]⟩)
              rw [show (mkB p ++ ⟨#[47]⟩ : ByteArray).data.toList = p ++ [47] by simp [mkB]] at f1
              rw [show (mkB q ++ ⟨#[47]⟩ : ByteArray).data.toList = q ++ [47] by simp [mkB]] at f2
              rw [mkB_list] at f1 f2
              have e9 : ((mkB p).toList == (mkB q).toList) = (p == q) := by rw [ByteArray.toList_eq, ByteArray.toList_eq, mkB_list, mkB_list]
              obtain ⟨b1, Hb1⟩ : ∃ b, Hid ((p == q) = b) := ⟨_, Lib.hid rfl⟩
              obtain ⟨b2, Hb2⟩ : ∃ b, Hid (Lib.hasPrefix q (p ++ [47]) = b) := ⟨_, Lib.hid rfl⟩
              obtain ⟨b3, Hb3⟩ : ∃ b, Hid (Lib.hasPrefix p (q ++ [47]) = b) := ⟨_, Lib.hid rfl⟩
              rw [Hb1.out] at e9
              rw [Hb2.out] at f1
              rw [Hb3.out] at f2
              have F1 := Lib.hid f1
              have F2 := Lib.hid f2
              have Hno : Hid (b1 = false → b2 = false → b3 = false → JP.touchB p q = false) := Lib.hid fun h1 h2 h3 => by
                unfold JP.touchB
                rw [Hb1.out, Hb3.out, Hb2.out, h1, h2, h3]; rfl
              clear f1 f2
              cases b1 with
              | true =>
                go_wp2_with fail
                go_roundg kB
                case measure => omega
                case rel => exact ⟨j + 1, true, by omega, by go_num, rfl, Lib.hid fun h => (by cases h), Hbe⟩
              | false =>
                cases b2 with
                | true =>
                  go_wp2_with fail
                  refine (F1.out _).mono ?_
                  rintro E w9 ⟨rfl, rfl⟩
                  go_wp2_with fail
                  go_roundg kB
                  case measure => omega
                  case rel => exact ⟨j + 1, true, by omega, by go_num, rfl, Lib.hid fun h => (by cases h), Hbe⟩
                | false =>
                  go_wp2_with fail
                  refine (F1.out _).mono ?_
                  rintro E w9 ⟨rfl, rfl⟩
                  cases b3 with
                  | true =>
                    go_wp2_with fail
                    refine (F2.out _).mono ?_
                    rintro E w9 ⟨rfl, rfl⟩
                    go_wp2_with fail
                    go_roundg kB
                    case measure => omega
                    case rel => exact ⟨j + 1, true, by omega, by go_num, rfl, Lib.hid fun h => (by cases h), Hbe⟩
                  | false =>
                    go_wp2_with fail
                    refine (F2.out _).mono ?_
                    rintro E w9 ⟨rfl, rfl⟩
                    go_wp2_with fail
                    have HK3 : Hid (false = false → ∀ x ∈ W.take (j + 1), JP.touchB p (JP.pathL x) = false) := Lib.hid fun _ x hx => by
                      rw [List.take_add_one, Hxj.out] at hx
                      rcases List.mem_append.1 hx with hx | hx
                      · exact HK.out trivial x hx
                      · have e : x = z := by simpa using hx
                        rw [e, Hzq.out]; exact Hno.out trivial trivial trivial
                    go_roundg kB
                    case measure => omega
                    case rel => exact ⟨j + 1, false, by omega, by go_num, rfl, Lib.hid fun _ => (by first | exact HK3.out trivial | exact HK3.out rfl), Hbe⟩
  · have q0 : (er == 0) = false := by rw [beq_eq_false_iff_ne]; exact h0
    obtain ⟨rfl, rfl⟩ := HI.out.no h0
    have hn0 : n2 = 0 := by rw [← Hn2.out]; rfl
    subst hn0
    have e1 : (mkB []).toList.isEmpty = true := by rw [ByteArray.toList_eq, mkB_list]; rfl
    have e2 : (mkB []).toList = [] := by rw [ByteArray.toList_eq, mkB_list]
    clear h0
    go_wp2_with fail
    go_ret
    exact ⟨rfl, HB2.out⟩
end Go.Proofs.YtdcmnpeabjallaaGreatDoor
