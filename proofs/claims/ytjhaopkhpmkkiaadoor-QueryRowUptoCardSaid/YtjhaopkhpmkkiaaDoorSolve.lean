/- query.solve, Solve: their contracts. -/
import Derived.Test.YtjhaopkhpmkkiaaDoorValue
namespace Go.Proofs.YtjhaopkhpmkkiaaDoor
open Go.RowKit

theorem Tryd.infoLab : (Tryd.prog.info? 78).map (fun i => (i.zero, i.size, i.bytes)) = some (some (.agg #[.string ByteArray.empty, .string ByteArray.empty]), 2, 32) := by kernel_rfl
theorem flat_lab : Flat LabelR := fun _ _ _ _ h => h
theorem one_lab : OneR LabelR := fun w cs x h u hu => by
  have h' : cs = [.string x.key, .string x.val] := h
  subst h'
  simp only [List.mem_cons, List.not_mem_nil, or_false] at hu
  rcases hu with rfl | rfl <;> rfl
theorem wantK_snoc (l : List GReq) (x : GReq) : wantK (l ++ [x]) = wantK l ++ if x.kind = 1 ∨ x.kind = 3 then [x.key] else [] := by
  unfold wantK
  rw [List.filter_append, List.map_append]
  congr 1
  by_cases h : x.kind = 1 ∨ x.kind = 3
  · rw [if_pos h, List.filter_cons_of_pos (by simpa using h)]; rfl
  · rw [if_neg h, List.filter_cons_of_neg (by simpa using h)]; rfl
theorem wantK_len (l : List GReq) : (wantK l).length ≤ l.length := by
  unfold wantK
  rw [List.length_map]
  exact List.length_filter_le _ _
/-- the keys, each once, rising -/
def keysOf (l : List GReq) : List ByteArray := (Lib.compact (((sortedL ((wantK l).map (·.data.toList))).map mkB).map (·.data.toList))).map mkB
theorem mkB_back (z : List (List UInt8)) : (z.map mkB).map (·.data.toList) = z := by
  rw [List.map_map]
  conv => rhs; rw [← List.map_id z]
  congr 1
theorem pair_rising : ∀ {z : List (List UInt8)}, z.Pairwise (fun x y => Op.bytesLess x y = true) → Rising (z.map mkB)
  | [], _ => trivial
  | [_], _ => trivial
  | a :: b :: r, h => by
    rw [List.map_cons, List.map_cons]
    refine ⟨?_, pair_rising (List.pairwise_cons.1 h).2⟩
    have := (List.pairwise_cons.1 h).1 b (List.mem_cons_self ..)
    unfold lessB
    rw [ByteArray.toList_eq, ByteArray.toList_eq]
    exact this
theorem keysOf_rising (l : List GReq) : Rising (keysOf l) := by
  unfold keysOf
  rw [mkB_back]
  exact pair_rising (compact_rising _ (sorted_pair _)).1
theorem keysOf_mem (l : List GReq) (k : ByteArray) : k ∈ keysOf l ↔ k ∈ wantK l := by
  unfold keysOf
  rw [mkB_back, List.mem_map]
  constructor
  · rintro ⟨z, hz, rfl⟩
    obtain ⟨y, hy, rfl⟩ := List.mem_map.1 ((sorted_mem _ z).1 (((compact_rising _ (sorted_pair _)).2 z).1 hz))
    exact hy
  · intro hk
    exact ⟨k.data.toList, ((compact_rising _ (sorted_pair _)).2 _).2 ((sorted_mem _ _).2 (List.mem_map_of_mem hk)), rfl⟩
theorem keysOf_len (l : List GReq) : (keysOf l).length ≤ l.length := by
  unfold keysOf
  rw [mkB_back, List.length_map]
  have h1 := Lib.compact_length_le (sortedL ((wantK l).map (·.data.toList)))
  rw [sorted_len, List.length_map] at h1
  exact Nat.le_trans h1 (wantK_len l)
def SolveAt (l : List GReq) (w : World) (E : Ending) (w' : World) : Prop :=
  ∃ (v' : Value) (out : List GLabel) (is : Bool), E = .returned (.tuple #[v', .bool is]) ∧ SolveOK l out is ∧ OwnAt LabelR 2 w' w.heap.size 78 v' out ∧ (∀ x ∈ out, okLab x) ∧ out.length ≤ 9 ∧ Below w.heap.size w w'
theorem val_short {s : ByteArray} (h : valE s = 0) : s.size ≤ 63 := by
  unfold valE NameP.checkVal NameP.judge at h
  by_cases h1 : 63 < s.data.toList.length
  · rw [if_pos h1] at h; cases h
  · have : s.data.toList.length = s.size := by simp
    omega
set_option maxRecDepth 100000 in
set_option maxHeartbeats 6400000 in
theorem solve_any (v : Value) (l : List GReq) (w : World) (h : RowAt ReqR 3 w v l) (hl : l.length ≤ 9) (hok : ∀ r ∈ l, okReq r) (hg : ∀ r ∈ l, GoodR r) :
    Calls Tryd.prog 26 #[v] w (SolveAt l w) := by
  obtain ⟨a0, c0, rfl, _, _⟩ := h.len
  obtain ⟨i0, hi0, hz0, hz1, hz2⟩ := info_parts Tryd.infoStr
  obtain ⟨j0, hj0, hy0, hy1, hy2⟩ := info_parts Tryd.infoLab
  have H := Lib.hid h
  have Hok := Lib.hid hok
  have Hg := Lib.hid hg
  clear h hok hg
  go_enter Tryd.func26, Tryd.ntmps26
  go_wp2_with fail
  go_loopg [14, 4] l.length (fun k u14 u4 wr => ∃ i : Nat, i + k = l.length ∧ u14 = .int .i64 (i : Int) ∧ Hid (OwnAt RString 1 wr w.heap.size 9 u4 (wantK (l.take i))) ∧ Hid (Below w.heap.size w wr))
  case atStart => exact ⟨0, by omega, rfl, Lib.hid (OwnAt.nil _), Lib.hid (Below.refl _ _)⟩
  case round =>
    obtain ⟨i, hig, rfl, Hown, Hbel⟩ := hrel
    have hsr := Hbel.out.size
    cases gk with
    | zero =>
      obtain rfl : i = l.length := by omega
      have hown := Hown.out
      rw [List.take_of_length_le (Nat.le_refl _)] at hown
      have Hown1 := Lib.hid hown
      clear hown Hown
      have hwl : (wantK l).length ≤ 9 := Nat.le_trans (wantK_len l) hl
      go_wp2_with fail
      refine (sortStr_any u4 (wantK l) w.heap.size wr Hown1.out hsr (by omega)).mono ?_
      rintro E w1 ⟨rfl, hown1, hb1⟩
      have Hb1 := Lib.hid (Hbel.out.trans hb1)
      have Hown2 := Lib.hid hown1
      clear hown1 hb1
      go_wp2_with fail
      refine (compactStr_any u4 _ w.heap.size w1 Hown2.out (by rw [List.length_map, sorted_len, List.length_map]; omega)).mono ?_
      rintro E w2 ⟨vk, rfl, hown2, hb2⟩
      have Hb2 := Lib.hid (Hb1.out.trans hb2)
      have hkl := keysOf_len l
      have hkm := keysOf_mem l
      have hkr := keysOf_rising l
      obtain ⟨K, HK⟩ : ∃ K, Hid (keysOf l = K) := ⟨_, Lib.hid rfl⟩
      have hown3 : OwnAt RString 1 w2 w.heap.size 9 vk K := by rw [← HK.out]; exact hown2
      rw [HK.out] at hkl hkm hkr
      have Hkm := Lib.hid hkm
      have Hkr := Lib.hid hkr
      have Hown3 := Lib.hid hown3
      obtain ⟨ak, ck, rfl, _, _⟩ := hown3.row.len
      clear hown2 hown3 hb2 hkm hkr HK
      go_wp2_with fail
      go_loopg [37, 7] K.length (fun k u37 u7 wr => ∃ (i : Nat) (out : List GLabel), i + k = K.length ∧ u37 = .int .i64 (i : Int) ∧ Hid (OwnAt LabelR 2 wr w.heap.size 78 u7 out) ∧ Hid (out.map (·.key) = K.take i) ∧ Hid (∀ x ∈ out, ValueOK l x.key x.val true) ∧ Hid (OwnAt RString 1 wr w.heap.size 9 (.slice ak K.length ck) K) ∧ Hid (Below w.heap.size w wr))
      case atStart => exact ⟨0, [], by omega, rfl, Lib.hid (OwnAt.nil _), Lib.hid rfl, Lib.hid (by simp), Hown3, Hb2⟩
      case round =>
        obtain ⟨i, out, hik, rfl, Hout, Hkeys, Hval, HownK, Hbq⟩ := hrel
        have hsq := Hbq.out.size
        have hol : out.length ≤ i := by
          have := congrArg List.length Hkeys.out
          rw [List.length_map, List.length_take] at this
          omega
        cases gk with
        | zero =>
          obtain rfl : i = K.length := by omega
          have hkeys := Hkeys.out
          rw [List.take_of_length_le (Nat.le_refl _)] at hkeys
          have hlabs : ∀ x ∈ out, okLab x := fun x hx => by
            obtain ⟨r, hr, _, hrk⟩ := mem_wantK.1 ((Hkm.out x.key).1 (by rw [← hkeys]; exact List.mem_map_of_mem hx))
            exact ⟨by rw [← hrk]; exact (Hok.out r hr).1, by have := val_short ((Hval.out x hx).1 rfl).2; omega⟩
          have hfound := solve_found Hg.out hl (out := out) (by rw [hkeys]; exact Hkr.out) (fun k => by rw [hkeys]; exact Hkm.out k) (by omega) Hval.out
          have Hall := Lib.hid hfound.1
          have Hyes : Hid (SolveOK l out true) := Lib.hid ⟨fun _ => hfound, fun h => by cases h⟩
          have Hlabs := Lib.hid hlabs
          obtain ⟨a7, c7, rfl, _, _⟩ := Hout.out.row.len
          clear hkeys hlabs hfound
          go_wp2_with fail
          refine (allReq_any _ _ l out wr (H.out.below stays_req Hbq.out) (by omega) Hok.out Hout.out.row (by omega)).mono ?_
          rw [Hall.out]
          rintro E w5 ⟨rfl, hb5⟩
          have Hb5 := Lib.hid (Hbq.out.trans (hb5.mono hsq))
          have Hrow5 := Lib.hid (Hout.out.below flat_lab.stays hb5)
          clear hb5
          go_wp2_with fail
          go_ret2
          exact ⟨_, out, true, rfl, Hyes.out, Hrow5.out, Hlabs.out, by omega, Hb5.out⟩
        | succ k =>
          have hil : i < K.length := by omega
          obtain ⟨key, hki⟩ : ∃ key, K[i]? = some key := ⟨K[i]'(by omega), List.getElem?_eq_getElem _⟩
          obtain ⟨b, o, c', hv, _, _, hbs, hcell⟩ := HownK.out.row.strs.form (by omega)
          injection hv with u1 u2 u3
          subst u1
          clear u2 u3
          have e0 : wr.cell? ⟨b, o + i, none⟩ = some (.string key) := hcell i key hki
          have q1 : (0 : Int) ≤ (i : Int) := by omega
          have q2 : (i : Int) < (K.length : Int) := by omega
          have hkw : key ∈ wantK l := (Hkm.out key).1 (List.mem_of_getElem? hki)
          have Hkw := Lib.hid hkw
          have Hki := Lib.hid hki
          clear hcell hki hkw
          go_wp2_with fail
          refine (value_any _ l key wr (H.out.below stays_req Hbq.out) hl Hok.out Hg.out).mono ?_
          rintro E w5 ⟨u, is, rfl, hvok, hb5⟩
          have Hvok := Lib.hid hvok
          have Hb5 := Lib.hid (Hbq.out.trans (hb5.mono hsq))
          have Hout5 := Lib.hid (Hout.out.below flat_lab.stays hb5)
          have HownK5 := Lib.hid (HownK.out.below stays_string hb5)
          have hs5 := hb5.size
          clear hb5 hvok e0
          cases is with
          | false =>
            have Hno := Lib.hid (solve_no Hkw.out Hvok.out [])
            go_wp2_with fail
            go_ret2
            exact ⟨_, [], false, rfl, Hno.out, OwnAt.nil _, by simp, by simp, Hb5.out⟩
          | true =>
            go_wp2_with (at_builtin; refine wpList_append_ownAt (R := LabelR) (k := 2) (e := 78) (B := w.heap.size) (l := out) (m := [⟨key, u⟩]) _ (by rfl) _ _ _ (by rfl) j0 _ 32 Tryd.underlying37 hj0 hy0 hy1 hy2 rfl (by omega) flat_lab one_lab _ (by rfl) (Hout5.out.alloc flat_lab.stays _) (.slice (some ⟨w5.heap.size, 0, none⟩) 1 1) (by rfl) (RowAt.one (R := LabelR) (k := 2) (cs := #[.string key, .string u]) (heap_alloc_new w5 _) rfl rfl) (by unfold maxLen; simp; omega) (by simp; omega) (by simp; omega) ?_)
            intro v' w6 hv' hg6 hr6 _
            have Hb6 : Hid (Below w.heap.size w w6) := Lib.hid (below_of_grown (Hb5.out.alloc (by omega) _) (by simp; omega) hg6 hr6)
            have HK6 : Hid (OwnAt RString 1 w6 w.heap.size 9 (.slice (some ⟨b, o, none⟩) K.length ck) K) := Lib.hid ((HownK5.out.alloc stays_string _).grown flat_string hg6 fun q hq => (HownK5.out.other Hout5.out (by decide) hq).symm)
            have Hv6 := Lib.hid hv'
            have Hkeys2 : Hid ((out ++ [(⟨key, u⟩ : GLabel)]).map (fun x : GLabel => x.key) = K.take (i + 1)) := Lib.hid (by rw [List.map_append, Hkeys.out, List.take_add_one, Hki.out]; rfl)
            have Hval2 : Hid (∀ x ∈ out ++ [(⟨key, u⟩ : GLabel)], ValueOK l x.key x.val true) := Lib.hid fun x hx => by
              rcases List.mem_append.1 hx with h | h
              · exact Hval.out x h
              · rw [List.mem_singleton.1 h]; exact Hvok.out
            clear hv' hg6 hr6
            go_wp2_with fail
            go_roundg k
            case measure => omega
            case rel => exact ⟨i + 1, out ++ [⟨key, u⟩], by omega, by go_num, Hv6, Hkeys2, Hval2, HK6, Hb6⟩
    | succ k =>
      have hil : i < l.length := by omega
      obtain ⟨x, hxi⟩ : ∃ x, l[i]? = some x := ⟨l[i]'(by omega), List.getElem?_eq_getElem _⟩
      obtain ⟨b, o, c', hv, _, _, hbs, hcell⟩ := H.out.form (by omega) (by omega)
      injection hv with u1 u2 u3
      subst u1
      clear u2 u3
      obtain ⟨ds, _, hcc, hR⟩ := hcell i x hxi
      obtain ⟨y2, rfl, _, hst⟩ := hR
      obtain ⟨ao, co, rfl, _, _⟩ := hst.row.len
      have e0 : wr.cell? ⟨b, o + i * 3, none⟩ = some (.string x.key) := (Hbel.out.cell (p := ⟨b, _, none⟩) hbs).trans (by simpa using hcc 0 _ rfl)
      have e1 : wr.cell? ⟨b, o + i * 3 + 1, none⟩ = some (.int .i64 x.kind) := (Hbel.out.cell (p := ⟨b, _, none⟩) hbs).trans (hcc 1 _ rfl)
      have e2 : wr.cell? ⟨b, o + i * 3 + 2, none⟩ = some (.slice ao x.vals.length co) := (Hbel.out.cell (p := ⟨b, _, none⟩) hbs).trans (hcc 2 _ rfl)
      have q1 : (0 : Int) ≤ (i : Int) := by omega
      have q2 : (i : Int) < (l.length : Int) := by omega
      have htk : wantK (l.take (i + 1)) = wantK (l.take i) ++ if x.kind = 1 ∨ x.kind = 3 then [x.key] else [] := by
        rw [List.take_add_one, hxi]
        exact wantK_snoc _ _
      have hwl : (wantK (l.take i)).length ≤ 9 := Nat.le_trans (wantK_len _) (by rw [List.length_take]; omega)
      obtain ⟨kd, Hkd⟩ : ∃ kd, Hid (x.kind = kd) := ⟨_, Lib.hid rfl⟩
      rw [Hkd.out] at e1 htk
      clear hcc hcell hxi hst
      go_upto_region 5 with fail
      obtain ⟨W, hW⟩ : ∃ W, W = wr.alloc (.cells #[.string x.key, .int .i64 kd, .slice ao x.vals.length co] 33) := ⟨_, rfl⟩
      obtain ⟨gb, hgb⟩ : ∃ gb, gb = wr.heap.size := ⟨_, rfl⟩
      rw [← hW, ← hgb]
      have c1 : W.heap[gb]? = some (.cells #[.string x.key, .int .i64 kd, .slice ao x.vals.length co] 33 (0, 0)) := by rw [hW, hgb]; exact heap_alloc_new wr _
      have hb5 : Below wr.heap.size wr W := by rw [hW]; exact (Below.refl _ _).alloc (Nat.le_refl _) _
      have HW := Lib.hid (Hbel.out.trans (hb5.mono hsr))
      have HownW := Lib.hid (Hown.out.below stays_string hb5)
      have hWs := hb5.size
      have cc := fun i => cell_block c1 i
      clear hW hgb hb5 c1 e0 e1 e2
      by_cases k1 : kd = 1
      · subst k1
        have Htk : Hid (wantK (l.take (i + 1)) = wantK (l.take i) ++ [x.key]) := Lib.hid (by rw [htk]; rfl)
        clear htk
        go_wp2_with (at_builtin; refine wpList_append_ownAt (R := RString) (k := 1) (e := 9) (B := w.heap.size) (l := wantK (l.take i)) (m := [x.key]) _ (by rfl) _ _ _ (by rfl) i0 _ 16 Tryd.underlying31 hi0 hz0 hz1 hz2 rfl (by omega) flat_string one_string _ (by rfl) (HownW.out.alloc stays_string _) (.slice (some ⟨W.heap.size, 0, none⟩) 1 1) (by rfl) (RowAt.one (R := RString) (k := 1) (cs := #[.string x.key]) (heap_alloc_new W _) rfl rfl) (by unfold maxLen; simp; omega) (by simp; omega) (by simp; omega) ?_)
        intro v' w' hv' hg hr _
        have hb : Below w.heap.size w w' := below_of_grown (HW.out.alloc (by omega) _) (by simp; omega) hg hr
        have Hv' := Lib.hid hv'
        have Hb := Lib.hid hb
        rw [← Htk.out] at Hv'
        clear hv' hg hr hb cc
        go_wp2_with fail
        go_roundg k
        case measure => omega
        case rel => exact ⟨i + 1, by omega, by go_num, Hv', Hb⟩
      · have q3 : (kd == 1) = false := by rw [beq_eq_false_iff_ne]; exact k1
        by_cases k3 : kd = 3
        · subst k3
          have Htk : Hid (wantK (l.take (i + 1)) = wantK (l.take i) ++ [x.key]) := Lib.hid (by rw [htk]; rfl)
          clear htk k1
          go_wp2_with (at_builtin; refine wpList_append_ownAt (R := RString) (k := 1) (e := 9) (B := w.heap.size) (l := wantK (l.take i)) (m := [x.key]) _ (by rfl) _ _ _ (by rfl) i0 _ 16 Tryd.underlying31 hi0 hz0 hz1 hz2 rfl (by omega) flat_string one_string _ (by rfl) (HownW.out.alloc stays_string _) (.slice (some ⟨W.heap.size, 0, none⟩) 1 1) (by rfl) (RowAt.one (R := RString) (k := 1) (cs := #[.string x.key]) (heap_alloc_new W _) rfl rfl) (by unfold maxLen; simp; omega) (by simp; omega) (by simp; omega) ?_)
          intro v' w' hv' hg hr _
          have hb : Below w.heap.size w w' := below_of_grown (HW.out.alloc (by omega) _) (by simp; omega) hg hr
          have Hv' := Lib.hid hv'
          have Hb := Lib.hid hb
          rw [← Htk.out] at Hv'
          clear hv' hg hr hb cc
          go_wp2_with fail
          go_roundg k
          case measure => omega
          case rel => exact ⟨i + 1, by omega, by go_num, Hv', Hb⟩
        · have q4 : (kd == 3) = false := by rw [beq_eq_false_iff_ne]; exact k3
          have hown := HownW.out
          rw [show wantK (l.take i) = wantK (l.take (i + 1)) by rw [htk, if_neg (by omega), List.append_nil]] at hown
          have Hown' := Lib.hid hown
          clear htk k1 k3 hown
          go_wp2_with fail
          go_roundg k
          case measure => omega
          case rel => exact ⟨i + 1, by omega, by go_num, Hown', HW⟩
end Go.Proofs.YtjhaopkhpmkkiaaDoor
