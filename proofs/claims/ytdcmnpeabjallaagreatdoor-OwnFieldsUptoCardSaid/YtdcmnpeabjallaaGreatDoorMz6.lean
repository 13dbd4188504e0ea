/- Texts of ours joined. -/
import Derived.Deep.DeepCutAuto
import Derived.Lib.LaidTab
import Derived.Deep.DeepHandedRow
import Derived.Stop.LaidErr
import Derived.Shelf.SlLaysF0
import Derived.Test.YtdcmnpeabjallaaGreatDoorProg
import Derived.Deep.MidRow
import Derived.ArgAppend
import Derived.BigQuiet
import Derived.Deep.LoopGhost
import Derived.Shelf.SlSortCmp.NoneTotal
import Derived.Test.YtdcmnpeabjallaaGreatDoorShelf
import Derived.Test.YtdcmnpeabjallaaGreatDoorMz5
set_option linter.unusedVariables false
set_option linter.unusedSimpArgs false
namespace Go.Proofs.YtdcmnpeabjallaaGreatDoor
open Go.RowKit
theorem joinL_map (l : List ByteArray) : joinL l = joinK (l.map (·.data.toList)) := by
  unfold joinL joinK
  rw [List.flatMap_map]
theorem split_any (s : ByteArray) (c : UInt8) (m : Int) (w : World) (hs : s.size ≤ 16777216) (hm : MaxOK m w) :
    Calls Tryz.prog 95 #[.string s, .string ⟨#[c]⟩] w fun e w' => ∃ L : List ByteArray, L.map (·.data.toList) = splitL c s.data.toList ∧ e = .returned (.slice (some ⟨w.heap.size, 0, none⟩) L.length L.length) ∧
      w'.heap[w.heap.size]? = some (.cells (strs L).toArray 9 (0, 0)) ∧ w'.heap.size = w.heap.size + 1 ∧ Below w.heap.size w w' := by
  refine (Tryz.strings_Split s ⟨#[c]⟩ m w (by omega) hm (Nat.le_refl 1)).mono ?_
  rintro E w' ⟨rfl, rfl⟩
  have h1 : (Lib.splitB ⟨#[c]⟩ 0 (Lib.countB s ⟨#[c]⟩) s).length = Lib.countB s ⟨#[c]⟩ + 1 := Lib.splitB_all ⟨#[c]⟩ (Nat.le_refl 1) 0 _ s rfl
  refine ⟨Lib.splitB ⟨#[c]⟩ 0 (Lib.countB s ⟨#[c]⟩) s, ?_, by rw [h1], heap_alloc_at rfl, World.size_alloc _ _, (Below.refl _ w).alloc (Nat.le_refl _) _⟩
  rw [Lib.splitB_data]
  exact splitK_scan c s.data.toList
theorem splitL_len (c : UInt8) (s : List UInt8) : (splitL c s).length ≤ s.length + 1 := by
  induction s with
  | nil => simp [splitL]
  | cons x r ih =>
    rw [splitL]
    split
    · simp; omega
    · split
      · rename_i h1 h2
        rw [h2] at ih; simp at ih ⊢; omega
      · simp
theorem splitL_mem_len (c : UInt8) (s q : List UInt8) (h : q ∈ splitL c s) : q.length ≤ s.length := by
  have h1 : ((splitL c s).flatMap fun p => c :: p).length = s.length + 1 := by rw [splitL_join]; rfl
  have h2 : ∀ m : List (List UInt8), q ∈ m → q.length + 1 ≤ (m.flatMap fun p => c :: p).length := fun m => by
    induction m with
    | nil => intro h; cases h
    | cons a r ih =>
      intro h
      rw [List.flatMap_cons, List.length_append, List.length_cons]
      rcases List.mem_cons.1 h with rfl | h
      · omega
      · have := ih h; omega
  have := h2 _ h
  omega
def unB (s : ByteArray) : ByteArray := ⟨(unescS s.data.toList).toArray⟩
def lstB (L : List ByteArray) (i : Nat) : List ByteArray := (L.take i).map unB ++ L.drop i
theorem lstB_get {L : List ByteArray} {i : Nat} {x : ByteArray} (h : L[i]? = some x) : (strs (lstB L i)).toArray[i]? = some (.string x) := by
  have hi := (List.getElem?_eq_some_iff.1 h).1
  rw [List.getElem?_toArray]
  refine strs_get ?_
  unfold lstB
  rw [List.getElem?_append_right (by simp; omega)]
  simp only [List.length_map, List.length_take, List.getElem?_drop]
  rw [show i + (i - min i L.length) = i by omega]
  exact h
theorem lstB_set {L : List ByteArray} {i : Nat} {x : ByteArray} (h : L[i]? = some x) : (strs (lstB L i)).toArray.setIfInBounds i (.string (unB x)) = (strs (lstB L (i + 1))).toArray := by
  have hi := (List.getElem?_eq_some_iff.1 h).1
  have hx := (List.getElem?_eq_some_iff.1 h).2
  rw [List.setIfInBounds_toArray]
  congr 1
  unfold strs lstB
  rw [List.drop_eq_getElem_cons hi, hx, List.take_succ_eq_append_getElem hi, hx]
  simp only [List.map_append, List.map_cons, List.map_nil, List.append_assoc, List.cons_append, List.nil_append]
  rw [List.set_append_right _ _ (by simp; omega)]
  simp [show i - min i L.length = 0 by omega]
theorem steps_bad {q : List UInt8} {L : List ByteArray} {x : ByteArray} (hL : L.map (·.data.toList) = splitL 47 q) (hx : x ∈ L) (h : okEsc x.data.toList = false) : stepsP (47 :: q) = (16, []) := by
  unfold stepsP
  simp only
  rw [if_neg (by simp), if_neg]
  rw [List.all_eq_true]
  intro h2
  have := h2 x.data.toList (by rw [← hL]; exact List.mem_map_of_mem hx)
  rw [h] at this
  cases this
theorem steps_good {q : List UInt8} {L : List ByteArray} (hL : L.map (·.data.toList) = splitL 47 q) (h : ∀ x ∈ L, okEsc x.data.toList = true) : stepsP (47 :: q) = if 10 < L.length then (2, []) else (0, (L.map unB).map (·.data.toList)) := by
  have h1 : L.length = (splitL 47 q).length := by rw [← hL, List.length_map]
  unfold stepsP
  simp only
  rw [if_neg (by simp), if_pos, h1]
  · congr 2
    unfold stepsL
    rw [← hL, List.map_map, List.map_map]
    congr 1
  · rw [← hL, List.all_eq_true]
    intro y hy
    obtain ⟨x, hx, rfl⟩ := List.mem_map.1 hy
    exact h x hx
theorem all_snoc {α : Type} {l : List α} {p : α → Prop} {j : Nat} {t : α} (h : ∀ y ∈ l.take j, p y) (ht : l[j]? = some t) (hp : p t) : Hid (∀ y ∈ l.take (j + 1), p y) := Lib.hid fun y hy => by
  rw [List.take_add_one, ht] at hy
  rcases List.mem_append.1 hy with h1 | h1
  · exact h y h1
  · simp at h1; subst h1; exact hp
theorem repl_len (l : List UInt8) : (Lib.replaceAll l [126, 49] [47]).length ≤ l.length := by
  rw [replaceAll_two (by decide)]
  exact rep2_len (by decide) _ _ (Nat.le_refl _)
theorem okEsc_tail {x : ByteArray} {L2 : List ByteArray} (h : L2.map (·.data.toList) = splitL 126 x.data.toList) : okEsc x.data.toList = L2.tail.all fun t => headOK t.data.toList := by
  rw [okEsc_split _ _ (Nat.le_refl _), ← h]
  cases L2 with
  | nil => rfl
  | cons a r => rw [List.map_cons, List.tail_cons, List.tail_cons, List.all_map]; rfl
theorem headOK_nil {t : ByteArray} (h : t.size = 0) : headOK t.data.toList = false := by
  have : t.data.toList = [] := List.eq_nil_of_length_eq_zero (by simpa using h)
  rw [this]; rfl
theorem headOK_cons {t : ByteArray} (h : 0 < t.size) : headOK t.data.toList = (t[0] == 48 || t[0] == 49) := by
  have h2 : t.data.toList = t[0] :: t.data.toList.drop 1 := by
    have := List.drop_eq_getElem_cons (l := t.data.toList) (i := 0) (by simpa using h)
    rw [List.drop_zero] at this
    exact this
  rw [h2]; rfl
def StepsAt (r : Int × List (List UInt8)) (w : World) (E : Ending) (w' : World) : Prop :=
  ∃ v', E = .returned (.tuple #[v', .int .i64 r.1]) ∧ (∃ l : List ByteArray, StrAt w' v' l ∧ l.map (·.data.toList) = r.2) ∧ Below w.heap.size w w'
set_option maxRecDepth 100000 in
set_option maxHeartbeats 1600000 in
theorem ptrSteps_any (p : ByteArray) (m : Int) (w : World) (hp : p.size ≤ 8388608) (hm : MaxOK m w) :
    Calls Tryz.prog 67 #[.string p] w (StepsAt (stepsP p.data.toList) w) := by
  have Hm := Lib.hid hm
  clear hm
  obtain ⟨R, HR⟩ : ∃ R, Hid (stepsP p.data.toList = R) := ⟨_, Lib.hid rfl⟩
  rw [HR.out]
  go_enter Tryz.func67, Tryz.ntmps67
  by_cases h0 : p.size = 0
  · have h1 : p.data.toList = [] := List.eq_nil_of_length_eq_zero (by simpa using h0)
    have q0 : p.toList.isEmpty = true := by rw [ByteArray.toList_eq, h1]; rfl
    go_wp2_with fail
    go_ret2
    have h2 : R = (0, []) := by rw [← HR.out, h1]; rfl
    subst h2
    exact ⟨_, rfl, ⟨[], StrAt.nil _, rfl⟩, Below.refl _ _⟩
  · have h0' : 0 < p.size := by omega
    have q0 : p.toList.isEmpty = false := by
      rw [ByteArray.toList_eq]
      cases h : p.data.toList with
      | nil => exact absurd (by rw [← Array.length_toList, h]; rfl : p.data.size = 0) h0
      | cons => rfl
    by_cases h47 : p[0] = 47
    · have q1 : ((p[0].toNat : Int) != 47) = false := by rw [h47]; rfl
      have q2 : 1 ≤ p.size := by omega
      have hpd : p.data.toList = 47 :: p.data.toList.drop 1 := by
        have := List.drop_eq_getElem_cons (l := p.data.toList) (i := 0) (by simpa using h0')
        rw [List.drop_zero] at this
        rw [← h47]; exact this
      have hqd : (p.extract 1 p.size).data.toList = p.data.toList.drop 1 := Lib.extract_to_end p 1
      have hqs : (p.extract 1 p.size).size ≤ 8388608 := by rw [ByteArray.size_extract]; omega
      have Hpd := Lib.hid hpd
      have Hqd := Lib.hid hqd
      clear hpd hqd h47 h0
      go_wp2_with fail
      refine (split_any (p.extract 1 p.size) 47 m w (by omega) Hm.out).mono ?_
      rintro E w1 ⟨L, hL, rfl, hh, hs1, hb⟩
      have HL := Lib.hid hL
      have Hh := Lib.hid hh
      have Hb := Lib.hid hb
      have hLl : L.length ≤ 8388609 := by
        have h1 : L.length = (splitL 47 (p.extract 1 p.size).data.toList).length := by rw [← hL, List.length_map]
        have h2 := splitL_len 47 (p.extract 1 p.size).data.toList
        have h3 : (p.extract 1 p.size).data.toList.length = (p.extract 1 p.size).size := by simp
        omega
      clear hL hh hb
      go_wp2_with fail
      go_loopg [20] L.length (fun k u20 wr => ∃ i : Nat, i + k = L.length ∧ u20 = .int .i64 (i : Int) ∧ Hid (wr.heap[w.heap.size]? = some (.cells (strs (lstB L i)).toArray 9 (0, 0))) ∧ Hid (Below w.heap.size w wr) ∧ Hid (∀ x ∈ L.take i, okEsc x.data.toList = true))
      case atStart => exact ⟨0, by omega, rfl, Lib.hid (by simpa [lstB] using Hh.out), Hb, Lib.hid (by simp)⟩
      case round =>
        obtain ⟨i, hig, rfl, Hc, Hbel, Hok⟩ := hrel
        have hsr := Hbel.out.size
        cases gk with
        | zero =>
          obtain rfl : i = L.length := by omega
          have hR : R = if 10 < L.length then (2, []) else (0, (L.map unB).map (·.data.toList)) := by
            rw [← HR.out, Hpd.out]
            exact steps_good (HL.out.trans (by rw [Hqd.out])) fun x hx => Hok.out x (by rw [List.take_of_length_le (Nat.le_refl _)]; exact hx)
          have HR2 := Lib.hid hR
          clear hR
          by_cases h10 : 10 < L.length
          · have q3 : (10 : Int) < (L.length : Int) := by omega
            have HR3 : Hid (R = (2, [])) := Lib.hid (by rw [HR2.out, if_pos h10])
            clear h10
            go_wp2_with fail
            go_ret2
            refine ⟨_, congrArg (fun n => Ending.returned (.tuple #[_, Value.int .i64 n])) (by rw [HR3.out]), ⟨[], StrAt.nil _, by rw [HR3.out]; rfl⟩, Hbel.out⟩
          · have q3 : ¬ (10 : Int) < (L.length : Int) := by omega
            have HR3 : Hid (R = (0, (L.map unB).map (·.data.toList))) := Lib.hid (by rw [HR2.out, if_neg h10])
            clear h10
            go_wp2_with fail
            go_ret2
            have h6 : lstB L L.length = L.map unB := by simp [lstB]
            refine ⟨.slice (some ⟨w.heap.size, 0, none⟩) L.length L.length, congrArg (fun n => Ending.returned (.tuple #[_, Value.int .i64 n])) (by rw [HR3.out]), ⟨L.map unB, .inr ⟨⟨w.heap.size, 0, none⟩, L.length, by rw [List.length_map], by rw [List.length_map]; exact Nat.le_refl _, by unfold maxLen; omega, fun j x hx => ?_⟩, by rw [HR3.out]⟩, Hbel.out⟩
            rw [add_plain', Nat.zero_add, cell_block Hc.out j, h6, List.getElem?_toArray]
            exact strs_get hx
        | succ k =>
          have hil : i < L.length := by omega
          obtain ⟨x, hxi⟩ : ∃ x, L[i]? = some x := ⟨L[i]'(by omega), List.getElem?_eq_getElem _⟩
          have e0 : wr.cell? ⟨w.heap.size, i, none⟩ = some (.string x) := (cell_block Hc.out i).trans (lstB_get hxi)
          have q3 : (0 : Int) ≤ (i : Int) := by omega
          have q4 : (i : Int) < (L.length : Int) := by omega
          have hxs : x.size ≤ 8388608 := by
            have h1 := splitL_mem_len 47 (p.extract 1 p.size).data.toList x.data.toList (by rw [← HL.out]; exact List.mem_map_of_mem (List.mem_of_getElem? hxi))
            have h2 : (p.extract 1 p.size).data.toList.length = (p.extract 1 p.size).size := by simp
            have h3 : x.data.toList.length = x.size := by simp
            omega
          have Hxi := Lib.hid hxi
          clear hxi
          go_wp2_with fail
          refine (split_any x 126 m wr (by omega) (Hm.out.below Hbel.out)).mono ?_
          rintro E w2 ⟨L2, hL2, rfl, hh2, hs2, hb2⟩
          have HL2 := Lib.hid hL2
          have Hh2 := Lib.hid hh2
          have Hb2 := Lib.hid (Hbel.out.trans (hb2.mono hsr))
          have Hc2 : Hid (w2.heap[w.heap.size]? = some (.cells (strs (lstB L i)).toArray 9 (0, 0))) := Lib.hid (below_block hb2 Hc.out)
          have hL2n : 1 ≤ L2.length := by
            have h1 : L2.length = (splitL 126 x.data.toList).length := by rw [← hL2, List.length_map]
            have h2 := splitL_ne 126 x.data.toList
            cases h3 : splitL 126 x.data.toList with
            | nil => exact absurd h3 h2
            | cons => rw [h1, h3]; simp
          have hL2l : L2.length ≤ 8388609 := by
            have h1 : L2.length = (splitL 126 x.data.toList).length := by rw [← hL2, List.length_map]
            have h2 := splitL_len 126 x.data.toList
            have h3 : x.data.toList.length = x.size := by simp
            omega
          have hB2 : Hid (wr.heap.size = wr.heap.size) := Lib.hid rfl
          obtain ⟨B2, HB2⟩ : ∃ B2, Hid (wr.heap.size = B2) := ⟨_, Lib.hid rfl⟩
          have Hh3 : Hid (w2.heap[B2]? = some (.cells (strs L2).toArray 9 (0, 0))) := Lib.hid (by rw [← HB2.out]; exact Hh2.out)
          rw [HB2.out]
          clear hL2 hh2 hb2 e0 hB2 Hh2
          obtain ⟨n2, Hn2⟩ : ∃ n2, Hid (L2.length = n2) := ⟨_, Lib.hid rfl⟩
          rw [Hn2.out] at hL2n hL2l ⊢
          go_upto_region 10 with fail
          go_cut [28, 29, 30] (fun u28 u29 u30 wx => ∃ o c : Nat, u28 = .slice (some ⟨B2, o, none⟩) (n2 - 1) c ∧ u29 = .int .i64 ((n2 - 1 : Nat) : Int) ∧ u30 = .int .i64 0 ∧ Hid (∀ j t, L2.tail[j]? = some t → wx.cell? ⟨B2, o + j, none⟩ = some (.string t)) ∧ w2 = wx)
          case first =>
            have htail : ∀ j t, L2.tail[j]? = some t → w2.cell? ⟨B2, 1 + j, none⟩ = some (.string t) := fun j t ht => by
              rw [cell_block Hh3.out (1 + j), List.getElem?_toArray, Nat.add_comm]
              refine strs_get ?_
              rw [List.getElem?_tail] at ht; exact ht
            have Htail := Lib.hid htail
            clear htail
            by_cases h1 : n2 = 1
            · subst h1
              go_wp2_with fail
              go_meet
              refine ⟨_, _, rfl, rfl, rfl, Lib.hid fun j t ht => ?_, rfl⟩
              have h2 := (List.getElem?_eq_some_iff.1 ht).1
              have h3 := Hn2.out
              simp at h2; omega
            · have q5 : ¬ n2 = 1 := h1
              go_wp2_with fail
              go_meet
              exact ⟨_, _, rfl, rfl, rfl, Htail, rfl⟩
          case rest =>
          obtain ⟨o, c, rfl, rfl, rfl, Hcl, rfl⟩ := hcut
          obtain ⟨n2', Hn2'⟩ : ∃ n2', Hid (n2 - 1 = n2') := ⟨_, Lib.hid rfl⟩
          rw [Hn2'.out]
          have hn2' : n2' ≤ 8388609 := by have := Hn2'.out; omega
          go_wp2_with fail
          go_loopg [30] n2' (fun kj u30 wj => ∃ j : Nat, j + kj = n2' ∧ u30 = .int .i64 (j : Int) ∧ Hid (∀ t ∈ L2.tail.take j, headOK t.data.toList = true) ∧ w2 = wj)
          case atStart => exact ⟨0, by omega, rfl, Lib.hid (by simp), rfl⟩
          case round =>
            obtain ⟨j, hjk, rfl, Hj, rfl⟩ := hrel
            cases gk with
            | zero =>
              have hok : okEsc x.data.toList = true := by
                rw [okEsc_tail HL2.out, List.all_eq_true]
                intro t ht
                have h1 : L2.tail.length = n2' := by rw [List.length_tail, Hn2.out, Hn2'.out]
                refine Hj.out t ?_
                rw [List.take_of_length_le (by omega)]; exact ht
              have Hok2 : Hid (∀ y ∈ L.take (i + 1), okEsc y.data.toList = true) := Lib.hid fun y hy => by
                rw [List.take_add_one, Hxi.out] at hy
                rcases List.mem_append.1 hy with h | h
                · exact Hok.out y h
                · simp at h; subst h; exact hok
              obtain rfl : j = n2' := by omega
              clear hok
              have e2 : w2.cell? ⟨w.heap.size, i, none⟩ = some (.string x) := (cell_block Hc2.out i).trans (lstB_get Hxi.out)
              go_wp2_with fail
              refine (Tryz.strings_ReplaceAll x ⟨#[126, 49]⟩ ⟨#[47]⟩ m w2 (by omega) (Hm.out.below Hb2.out) (by decide) (by
                have h1 := Lib.countB_le ⟨#[126, 49]⟩ (by decide) x.size x (Nat.le_refl _)
                have h2 : (ByteArray.mk #[47]).size = 1 := rfl
                rw [h2]; omega)).mono ?_
              rintro E w3 ⟨rfl, hb3⟩
              have hs2' := Hb2.out.size
              have Hb3 := Lib.hid (Hb2.out.trans (hb3.mono hs2'))
              have Hc3 := Lib.hid (below_block hb3 Hc2.out)
              have hs3 := Hb3.out.size
              obtain ⟨y, Hy⟩ : ∃ y : ByteArray, Hid ((⟨(Lib.replaceAll x.data.toList [126, 49] [47]).toArray⟩ : ByteArray) = y) := ⟨_, Lib.hid rfl⟩
              have hy0 : (⟨(Lib.replaceAll x.data.toList (⟨#[126, 49]⟩ : ByteArray).data.toList (⟨#[47]⟩ : ByteArray).data.toList).toArray⟩ : ByteArray) = y := Hy.out
              have hyd : y.data.toList = Lib.replaceAll x.data.toList [126, 49] [47] := by rw [← Hy.out]
              have hys : y.size ≤ 8388608 := by
                have h1 : y.data.toList.length = y.size := by simp
                have h2 := repl_len x.data.toList
                have h4 : x.data.toList.length = x.size := by simp
                rw [← hyd] at h2
                omega
              rw [hy0]
              have Hyd := Lib.hid hyd
              clear hy0 hyd hb3 e2
              go_wp2_with fail
              refine (Tryz.strings_ReplaceAll y ⟨#[126, 48]⟩ ⟨#[126]⟩ m w3 (by omega) (Hm.out.below Hb3.out) (by decide) (by
                have h1 := Lib.countB_le ⟨#[126, 48]⟩ (by decide) y.size y (Nat.le_refl _)
                have h2 : (ByteArray.mk #[126]).size = 1 := rfl
                rw [h2]; omega)).mono ?_
              rintro E w4 ⟨rfl, hb4⟩
              have Hb4 := Lib.hid (Hb3.out.trans (hb4.mono hs3))
              have hc4 := below_block hb4 Hc3.out
              obtain ⟨z, Hz⟩ : ∃ z : ByteArray, Hid (unB x = z) := ⟨_, Lib.hid rfl⟩
              have hz0 : (⟨(Lib.replaceAll y.data.toList (⟨#[126, 48]⟩ : ByteArray).data.toList (⟨#[126]⟩ : ByteArray).data.toList).toArray⟩ : ByteArray) = z := by rw [← Hz.out, Hyd.out]; rfl
              rw [hz0]
              have e4 : w4.cell? ⟨w.heap.size, i, none⟩ = some (.string x) := (cell_block hc4 i).trans (lstB_get Hxi.out)
              have f4 : w4.frozen? ⟨w.heap.size, i, none⟩ = false := free_block hc4 i
              have Hc4 := Lib.hid hc4
              clear hb4 hz0 hc4
              go_wp2_with fail
              go_roundg k
              case measure => omega
              case rel =>
                refine ⟨i + 1, by omega, by go_num, Lib.hid ?_, Lib.hid ((Hb4.out).setCell (p := ⟨w.heap.size, i, none⟩) (Nat.le_refl _) _), Hok2⟩
                rw [(touch_setCell Hc4.out).1, ← Hz.out, lstB_set Hxi.out]
            | succ kj =>
              have hjl : j < n2' := by omega
              have htl : j < L2.tail.length := by rw [List.length_tail, Hn2.out, Hn2'.out]; exact hjl
              obtain ⟨t, ht⟩ : ∃ t, L2.tail[j]? = some t := ⟨L2.tail[j], List.getElem?_eq_getElem htl⟩
              have e1 : w2.cell? ⟨B2, o + j, none⟩ = some (.string t) := Hcl.out j t ht
              have q5 : (0 : Int) ≤ (j : Int) := by omega
              have q6 : (j : Int) < (n2' : Int) := by omega
              have hbad : headOK t.data.toList = false → R = (16, []) := fun h => by
                rw [← HR.out, Hpd.out]
                refine steps_bad (HL.out.trans (by rw [Hqd.out])) (List.mem_of_getElem? Hxi.out) ?_
                rw [okEsc_tail HL2.out, List.all_eq_false]
                exact ⟨t, List.mem_of_getElem? ht, by rw [h]; simp⟩
              have Hbad := Lib.hid hbad
              have Ht := Lib.hid ht
              clear hbad ht
              by_cases ht0 : t.size = 0
              · have h1 : t.data.toList = [] := List.eq_nil_of_length_eq_zero (by simpa using ht0)
                have q7 : t.toList.isEmpty = true := by rw [ByteArray.toList_eq, h1]; rfl
                have HR2 := Lib.hid (Hbad.out (headOK_nil ht0))
                clear h1 ht0 Hbad
                go_wp2_with fail
                go_ret2
                exact ⟨_, congrArg (fun n => Ending.returned (.tuple #[_, Value.int .i64 n])) (by rw [HR2.out]), ⟨[], StrAt.nil _, by rw [HR2.out]; rfl⟩, Hb2.out⟩
              · have ht0' : 0 < t.size := by omega
                have q7 : t.toList.isEmpty = false := by
                  rw [ByteArray.toList_eq]
                  cases h : t.data.toList with
                  | nil => exact absurd (by rw [← Array.length_toList, h]; rfl : t.data.size = 0) ht0
                  | cons => rfl
                have hh := headOK_cons ht0'
                have key : ∀ d : UInt8, ((t[0].toNat : Int) != (d.toNat : Int)) = (t[0] != d) := fun d => by
                  by_cases h : t[0] = d
                  · rw [h]; simp
                  · have h2 : ¬ t[0].toNat = d.toNat := fun e => h (UInt8.toNat_inj.1 e)
                    rw [bne_iff_ne.2 h, bne_iff_ne]; omega
                by_cases h48 : t[0] = 48
                · have q8 : ((t[0].toNat : Int) != 48) = false := (key 48).trans (by rw [h48]; rfl)
                  have Hgo : Hid (headOK t.data.toList = true) := Lib.hid (by rw [hh, h48]; rfl)
                  clear ht0 hh key h48 Hbad
                  go_wp2_with fail
                  go_roundg kj
                  case measure => omega
                  case rel => exact ⟨j + 1, by omega, by go_num, all_snoc Hj.out Ht.out Hgo.out, rfl⟩
                · have q8 : ((t[0].toNat : Int) != 48) = true := (key 48).trans (bne_iff_ne.2 h48)
                  by_cases h49 : t[0] = 49
                  · have q9 : ((t[0].toNat : Int) != 49) = false := (key 49).trans (by rw [h49]; rfl)
                    have Hgo : Hid (headOK t.data.toList = true) := Lib.hid (by rw [hh, h49]; rfl)
                    clear ht0 hh key h48 h49 Hbad
                    go_wp2_with fail
                    go_roundg kj
                    case measure => omega
                    case rel => exact ⟨j + 1, by omega, by go_num, all_snoc Hj.out Ht.out Hgo.out, rfl⟩
                  · have q9 : ((t[0].toNat : Int) != 49) = true := (key 49).trans (bne_iff_ne.2 h49)
                    have HR2 := Lib.hid (Hbad.out (by rw [hh, Bool.or_eq_false_iff, beq_eq_false_iff_ne, beq_eq_false_iff_ne]; exact ⟨h48, h49⟩))
                    clear ht0 hh key h48 h49 Hbad
                    go_wp2_with fail
                    go_ret2
                    exact ⟨_, congrArg (fun n => Ending.returned (.tuple #[_, Value.int .i64 n])) (by rw [HR2.out]), ⟨[], StrAt.nil _, by rw [HR2.out]; rfl⟩, Hb2.out⟩
    · have q1 : ((p[0].toNat : Int) != 47) = true := by
        rw [bne_iff_ne]; intro h; apply h47; apply UInt8.toNat_inj.1; have h2 : (47 : UInt8).toNat = 47 := rfl; omega
      go_wp2_with fail
      go_ret2
      have hpd : p.data.toList = p[0] :: p.data.toList.drop 1 := by
        have := List.drop_eq_getElem_cons (l := p.data.toList) (i := 0) (by simpa using h0')
        rw [List.drop_zero] at this
        exact this
      have h2 : R = (16, []) := by
        rw [← HR.out, hpd]
        unfold stepsP
        simp only
        rw [if_pos h47]
      subst h2
      exact ⟨_, rfl, ⟨[], StrAt.nil _, rfl⟩, Below.refl _ _⟩
end Go.Proofs.YtdcmnpeabjallaaGreatDoor
namespace Go.Proofs.YtdcmnpeabjallaaGreatDoor
open Go.RowKit
open JP (JV Bs)
def Env (w : World) : Prop := TabOK w ∧ ErrOK w ∧ ∃ m, MaxOK m w
theorem Env.below {w w' : World} (h : Env w) (hb : Below w.heap.size w w') : Env w' := ⟨h.1.below hb, h.2.1.below hb, by obtain ⟨m, hm⟩ := h.2.2; exact ⟨m, hm.below hb⟩⟩
theorem steps_mem {p : Bs} {l : List Bs} (h : stepsP p = (0, l)) : ∀ s ∈ l, s.length ≤ p.length := fun s hs => by
  have h1 : (l.map fun s : Bs => s.length + 1).sum ≤ p.length := steps_total h
  have : ∀ (k : List Bs), s ∈ k → s.length ≤ (k.map fun s => s.length + 1).sum := by
    intro k
    induction k with
    | nil => intro h; cases h
    | cons a r ih =>
      intro hm
      rw [List.map_cons, List.sum_cons]
      rcases List.mem_cons.1 hm with rfl | hm
      · omega
      · have := ih hm; omega
  have := this l hs
  omega
def AnsAt (t : Bs) (c : Int) (w : World) (e : Ending) (w' : World) : Prop := e = .returned (.tuple #[.string (mkB t), .int .i64 c]) ∧ Below w.heap.size w w'
theorem AnsAt.no {t : Bs} {c c' : Int} {w w' : World} (h1 : t = []) (h2 : c = c') (hb : Below w.heap.size w w') : AnsAt t c w (.returned (.tuple #[.string ⟨#[]⟩, .int .i64 c'])) w' := ⟨by rw [h1, h2]; rfl, hb⟩
end Go.Proofs.YtdcmnpeabjallaaGreatDoor
namespace Go.Proofs.YtdcmnpeabjallaaGreatDoor
open Go.RowKit Go.ChangeShapes Go.WideShapes Go.ChangeAt
theorem laid_tail {P : Program} {W : World} {x : String × DataW Unit} {r : List (String × DataW Unit)} (h : laidMet P (x :: r) W) : laidMet P r W := by
  obtain ⟨ps, ⟨g, t, cs, fuel, p, q, _, _, _, _, hq, rfl⟩, hnd, hall⟩ := h
  exact ⟨q, hq, (List.nodup_append.1 hnd).2.1, fun b off hb => hall b off (List.mem_append_right _ hb)⟩
noncomputable def tabG : Nat := (Tryz.prog.globalNamed "internal/strconv.uint64pow10").getD 0
noncomputable def tabT : TypeId := ((Tryz.prog.globals[tabG]?).map (·.type)).getD 0
noncomputable def tabE : TypeId := match Tryz.prog.underlying tabT with | some (.array _ e) => e | _ => 0
noncomputable def tabN : Nat := match Tryz.prog.underlying tabT with | some (.array n _) => n | _ => 0
theorem gTab1 : Tryz.prog.globalNamed "internal/strconv.uint64pow10" = some tabG := by kernel_rfl
theorem gTab2 : (Tryz.prog.globals[tabG]?).map (·.type) = some tabT := by kernel_rfl
theorem gTab3 : Tryz.prog.underlying tabT = some (.array tabN tabE) := by kernel_rfl
theorem gTab4 : Tryz.prog.underlying tabE = some (.int .u64) := by kernel_rfl
theorem gTab5 : Tryz.prog.cellsOf tabE = 1 := by kernel_rfl
theorem gTab6 : Tryz.prog.cellsOf tabT = tabN := by kernel_rfl
theorem tab_of {W : World} {x1 x2 : String × DataW Unit} {r : List (String × DataW Unit)} {d : DataW Unit} (hd : d = Lib.tabData .u64 Lib.pow10Tab) (h : laidMet Tryz.prog (x1 :: x2 :: ("internal/strconv.uint64pow10", d) :: r) W) : TabOK W := by
  subst hd
  exact Lib.tabIs_of_head gTab1 gTab2 gTab3 gTab4 gTab5 gTab6 (laid_tail (laid_tail h))
end Go.Proofs.YtdcmnpeabjallaaGreatDoor
namespace Go.Proofs.YtdcmnpeabjallaaGreatDoor
open Go.RowKit Go.ChangeShapes Go.WideShapes Go.ChangeAt
theorem star_err : "*" ++ "errors.errorString" = "*errors.errorString" := by decide
theorem row_err (u : TypeId) (h : Tryz.prog.typeName? 3 u = some "*errors.errorString") : u = 230 :=
  typeName_ptr_named (nm := "errors.errorString") (by rw [star_err]; kernel_rfl) (by kernel_rfl) (by decide) u (by rw [star_err]; exact h)
noncomputable def errR : Nat := (Tryz.prog.globalNamed "strconv.ErrRange").getD 0
noncomputable def errS : Nat := (Tryz.prog.globalNamed "strconv.ErrSyntax").getD 0
theorem errR1 : Tryz.prog.globalNamed "strconv.ErrRange" = some errR := by kernel_rfl
theorem errS1 : Tryz.prog.globalNamed "strconv.ErrSyntax" = some errS := by kernel_rfl
theorem errR2 : (Tryz.prog.globals[errR]?).map (·.type) = some 149 := by kernel_rfl
theorem errS2 : (Tryz.prog.globals[errS]?).map (·.type) = some 149 := by kernel_rfl
theorem errCells : Tryz.prog.cellsOf 232 = 1 := by kernel_rfl
theorem errCells2 : Tryz.prog.cellsOf 9 = 1 := by kernel_rfl
theorem err_of {W : World} {x1 x2 x3 x4 : String × DataW Unit} {t1 t2 : List UInt8} {d1 d2 : DataW Unit} {r : List (String × DataW Unit)} (h1 : d1 = .iface "*errors.errorString" (.ptr (.agg [.lit (.string t1)]))) (h2 : d2 = .iface "*errors.errorString" (.ptr (.agg [.lit (.string t2)]))) (h : laidMet Tryz.prog (x1 :: x2 :: x3 :: x4 :: ("strconv.ErrRange", d1) :: ("strconv.ErrSyntax", d2) :: r) W) : ErrOK W := by
  subst h1; subst h2
  have h4 := h.tail.tail.tail.tail
  obtain ⟨a0, s0, hv0, _⟩ := laid_sentinel h4 errR1 errR2 Tryz.underlying149 row_err Tryz.underlying230 Tryz.underlying232 rfl rfl Tryz.underlying9 errCells errCells2
  obtain ⟨a1, s1, hv1, _⟩ := laid_sentinel h4.tail errS1 errS2 Tryz.underlying149 row_err Tryz.underlying230 Tryz.underlying232 rfl rfl Tryz.underlying9 errCells errCells2
  exact ⟨_, _, _, _, hv1, hv0⟩
theorem env_of {W : World} {x1 x2 x4 : String × DataW Unit} {t1 t2 : List UInt8} {d d1 d2 : DataW Unit} {r : List (String × DataW Unit)} (hd : d = Lib.tabData .u64 Lib.pow10Tab) (h1 : d1 = .iface "*errors.errorString" (.ptr (.agg [.lit (.string t1)]))) (h2 : d2 = .iface "*errors.errorString" (.ptr (.agg [.lit (.string t2)]))) (h : laidMet Tryz.prog (x1 :: x2 :: ("internal/strconv.uint64pow10", d) :: x4 :: ("strconv.ErrRange", d1) :: ("strconv.ErrSyntax", d2) :: r) W) (hs : W.ShapedOpen Tryz.prog) : Env W :=
  ⟨tab_of hd h, err_of h1 h2 h, max_of hs⟩
end Go.Proofs.YtdcmnpeabjallaaGreatDoor
namespace Go.Proofs.YtdcmnpeabjallaaGreatDoor
open Go.Shelf
def Tryz.leafSort_ren : Go.Shelf.Ren := ⟨fun | 6 => 54 | 15 => 89 | 14 => 88 | 28 => 127 | 29 => 128 | 20 => 119 | 21 => 120 | 22 => 121 | 23 => 122 | 24 => 123 | 25 => 124 | 26 => 125 | 27 => 126 | 46 => 159 | 47 => 160 | 48 => 161 | 49 => 162 | 50 => 163 | 57 => 184 | n => n, fun | 22 => 58 | 24 => 65 | 25 => 92 | 3 => 3 | 39 => 124 | 0 => 0 | 53 => 162 | 55 => 164 | 4 => 4 | 46 => 156 | 45 => 155 | 50 => 133 | 5 => 5 | 9 => 9 | 66 => 186 | 70 => 190 | 76 => 206 | 77 => 106 | n => n, fun | n => n⟩
theorem Tryz.leafSort : Go.Proofs.SlLaysF0.n6 Tryz.prog Tryz.leafSort_ren := {
  mixed := by kernel_rfl
  f6 := ⟨Tryz.f54.name, by decide, Tryz.func54.trans (congrArg some (by kernel_rfl))⟩
  f14 := ⟨Tryz.f88.name, by decide, Tryz.func88.trans (congrArg some (by kernel_rfl))⟩
  f15 := Tryz.func89.trans (congrArg some (by kernel_rfl))
  f20 := ⟨Tryz.f119.name, by decide, Tryz.func119.trans (congrArg some (by kernel_rfl))⟩
  f21 := ⟨Tryz.f120.name, by decide, Tryz.func120.trans (congrArg some (by kernel_rfl))⟩
  f22 := ⟨Tryz.f121.name, by decide, Tryz.func121.trans (congrArg some (by kernel_rfl))⟩
  f23 := ⟨Tryz.f122.name, by decide, Tryz.func122.trans (congrArg some (by kernel_rfl))⟩
  f24 := ⟨Tryz.f123.name, by decide, Tryz.func123.trans (congrArg some (by kernel_rfl))⟩
  f25 := ⟨Tryz.f124.name, by decide, Tryz.func124.trans (congrArg some (by kernel_rfl))⟩
  f26 := ⟨Tryz.f125.name, by decide, Tryz.func125.trans (congrArg some (by kernel_rfl))⟩
  f27 := ⟨Tryz.f126.name, by decide, Tryz.func126.trans (congrArg some (by kernel_rfl))⟩
  f28 := Tryz.func127.trans (congrArg some (by kernel_rfl))
  f29 := Tryz.func128.trans (congrArg some (by kernel_rfl))
  f46 := ⟨Tryz.f159.name, by decide, Tryz.func159.trans (congrArg some (by kernel_rfl))⟩
  f47 := Tryz.func160.trans (congrArg some (by kernel_rfl))
  f48 := Tryz.func161.trans (congrArg some (by kernel_rfl))
  f49 := ⟨Tryz.f162.name, by decide, Tryz.func162.trans (congrArg some (by kernel_rfl))⟩
  f50 := ⟨Tryz.f163.name, by decide, Tryz.func163.trans (congrArg some (by kernel_rfl))⟩
  f57 := ⟨Tryz.f184.name, by decide, Tryz.func184.trans (congrArg some (by kernel_rfl))⟩
  t0 := Tryz.underlying0
  a0 := Tryz.isAgg0
  z0 := Tryz.sizeOf0
  v0 := Tryz.zeroValue0
  t3 := Tryz.underlying3
  a3 := Tryz.isAgg3
  z3 := Tryz.sizeOf3
  v3 := Tryz.zeroValue3
  t4 := Tryz.underlying4
  a4 := Tryz.isAgg4
  z4 := Tryz.sizeOf4
  v4 := Tryz.zeroValue4
  t5 := Tryz.underlying5
  a5 := Tryz.isAgg5
  z5 := Tryz.sizeOf5
  v5 := Tryz.zeroValue5
  t9 := Tryz.underlying9
  a9 := Tryz.isAgg9
  z9 := Tryz.sizeOf9
  v9 := Tryz.zeroValue9
  t22 := Tryz.underlying58
  a22 := Tryz.isAgg58
  z22 := Tryz.sizeOf58
  v22 := Tryz.zeroValue58
  t25 := Tryz.underlying92
  a25 := Tryz.isAgg92
  z25 := Tryz.sizeOf92
  v25 := Tryz.zeroValue92
  t39 := Tryz.underlying124
  a39 := Tryz.isAgg124
  z39 := Tryz.sizeOf124
  v39 := Tryz.zeroValue124
  t45 := Tryz.underlying155
  a45 := Tryz.isAgg155
  z45 := Tryz.sizeOf155
  v45 := Tryz.zeroValue155
  t46 := Tryz.underlying156
  a46 := Tryz.isAgg156
  z46 := Tryz.sizeOf156
  v46 := Tryz.zeroValue156
  t50 := Tryz.underlying133
  a50 := Tryz.isAgg133
  z50 := Tryz.sizeOf133
  v50 := Tryz.zeroValue133
  t53 := Tryz.underlying162
  a53 := Tryz.isAgg162
  z53 := Tryz.sizeOf162
  v53 := Tryz.zeroValue162
  t55 := Tryz.underlying164
  a55 := Tryz.isAgg164
  z55 := Tryz.sizeOf164
  v55 := Tryz.zeroValue164
  t66 := Tryz.underlying186
  a66 := Tryz.isAgg186
  z66 := Tryz.sizeOf186
  v66 := Tryz.zeroValue186
  t70 := Tryz.underlying190
  a70 := Tryz.isAgg190
  z70 := Tryz.sizeOf190
  v70 := Tryz.zeroValue190
  t76 := Tryz.underlying206
  a76 := Tryz.isAgg206
  z76 := Tryz.sizeOf206
  v76 := Tryz.zeroValue206
  t77 := Tryz.underlying106
  a77 := Tryz.isAgg106
  z77 := Tryz.sizeOf106
  v77 := Tryz.zeroValue106 }
end Go.Proofs.YtdcmnpeabjallaaGreatDoor
namespace Go.Proofs.YtdcmnpeabjallaaGreatDoor
open Go
namespace JP
mutual
def gat : List Bs → JV → List (List Bs × JV)
  | way, .obj l => if l.isEmpty = true then (if way.isEmpty = true then [] else [(way, .obj [])]) else gatF way l
  | way, .list l => [(way, .list l)]
  | way, .nul => [(way, .nul)]
  | way, .bool b => [(way, .bool b)]
  | way, .num n => [(way, .num n)]
  | way, .str s => [(way, .str s)]
termination_by structural _ x => x
def gatF : List Bs → List (Bs × JV) → List (List Bs × JV)
  | _, [] => []
  | way, (n, v) :: r => gat (way ++ [n]) v ++ gatF way r
termination_by structural _ x => x
end
theorem gat_other {x : JV} (h : ∀ l, x ≠ .obj l) (way : List Bs) : gat way x = [(way, x)] := by
  cases x with
  | obj l => exact absurd rfl (h l)
  | _ => rw [gat]
theorem gatF_append (way : List Bs) : ∀ a b : List (Bs × JV), gatF way (a ++ b) = gatF way a ++ gatF way b
  | [], b => by rw [gatF]; rfl
  | (n, v) :: r, b => by rw [List.cons_append, gatF, gatF, gatF_append way r b, List.append_assoc]
theorem gatF_one (way : List Bs) (n : Bs) (v : JV) : gatF way [(n, v)] = gat (way ++ [n]) v := by rw [gatF, gatF, List.append_nil]
theorem gatF_step (way : List Bs) {l : List (Bs × JV)} {i : Nat} {y : Bs × JV} (h : l[i]? = some y) : gatF way (l.take (i + 1)) = gatF way (l.take i) ++ gat (way ++ [y.1]) y.2 := by
  rw [List.take_add_one, h, gatF_append]
  show _ ++ gatF way [(y.1, y.2)] = _
  rw [gatF_one]
theorem sizeF_here : ∀ {l : List (Bs × JV)} {j : Nat} {y : Bs × JV}, l[j]? = some y → sizeF (l.take j) + size y.2 ≤ sizeF l
  | [], j, y, h => by simp at h
  | (n, v) :: r, 0, y, h => by
    simp at h
    subst h
    rw [List.take_zero, sizeF, sizeF]; simp only; omega
  | (n, v) :: r, j + 1, y, h => by
    rw [List.getElem?_cons_succ] at h
    have := sizeF_here h
    rw [List.take_succ_cons, sizeF, sizeF]
    omega
mutual
theorem gat_len : ∀ (way : List Bs) (x : JV), (gat way x).length ≤ size x
  | way, .obj l => by
    rw [gat, size]
    split
    · split <;> simp
    · have := gatF_len way l; omega
  | way, .list l => by rw [gat]; have := size_pos (.list l); simpa using this
  | way, .nul => by rw [gat]; simp [size]
  | way, .bool b => by rw [gat]; simp [size]
  | way, .num n => by rw [gat]; simp [size]
  | way, .str s => by rw [gat]; simp [size]
termination_by structural _ x => x
theorem gatF_len : ∀ (way : List Bs) (l : List (Bs × JV)), (gatF way l).length ≤ sizeF l
  | _, [] => by rw [gatF]; simp
  | way, (n, v) :: r => by
    rw [gatF, sizeF, List.length_append]
    have := gat_len (way ++ [n]) v
    have := gatF_len way r
    omega
termination_by structural _ x => x
end
end JP
end Go.Proofs.YtdcmnpeabjallaaGreatDoor
namespace Go.Proofs.YtdcmnpeabjallaaGreatDoor
open Go.RowKit
theorem setCells_all (g : Nat) (t : TypeId) : ∀ (vs : List Value) (i : Nat) (cur : Array Value) (w : World), w.heap[g]? = some (.cells cur t (0, 0)) → i + vs.length ≤ cur.size →
    ∃ cur', (w.setCells g i vs).heap[g]? = some (.cells cur' t (0, 0)) ∧ cur'.size = cur.size ∧ (∀ j, j < i ∨ i + vs.length ≤ j → cur'[j]? = cur[j]?) ∧ (∀ j u, vs[j]? = some u → cur'[i + j]? = some u) ∧ Touch g w (w.setCells g i vs)
  | [], i, cur, w, hg, _ => ⟨cur, hg, rfl, fun _ _ => rfl, fun j u h => by simp at h, ⟨rfl, rfl, rfl, rfl, fun _ _ => rfl⟩⟩
  | v :: r, i, cur, w, hg, hl => by
    simp only [List.length_cons] at hl
    obtain ⟨h1, h2⟩ := touch_setCell (w := w) (i := i) (v := v) hg
    obtain ⟨cur', g1, g2, g3, g4, g5⟩ := setCells_all g t r (i + 1) _ _ h1 (by simp; omega)
    refine ⟨cur', g1, by simpa using g2, fun j hj => ?_, fun j u hu => ?_, ?_⟩
    · simp only [List.length_cons] at hj
      rw [g3 j (by omega), Array.getElem?_setIfInBounds, if_neg (by omega)]
    · cases j with
      | zero =>
        simp only [List.getElem?_cons_zero, Option.some.injEq] at hu
        subst hu
        rw [Nat.add_zero, g3 i (by omega), Array.getElem?_setIfInBounds, if_pos rfl, if_pos (by omega)]
      | succ j =>
        have := g4 j u (by simpa using hu)
        rwa [show i + 1 + j = i + (j + 1) by omega] at this
    · show Touch g w ((w.setCell ⟨g, i, none⟩ v).setCells g (i + 1) r)
      exact ⟨g5.os.trans h2.os, g5.tape.trans h2.tape, g5.output.trans h2.output, g5.size.trans h2.size, fun b hb => (g5.other b hb).trans (h2.other b hb)⟩
section
variable {α : Type} {R : Rd α} {k B : Nat} {e : TypeId} {w : World} {g n c : Nat} {l : List α}
theorem OwnAt.there (h : OwnAt R k w B e (.slice (some ⟨g, 0, none⟩) n c) l) {o m : Nat} (hm : o + m ≤ c * k) : w.there g o m := by
  obtain ⟨css, h1, h2, h3, h4⟩ := h
  rcases h3.2 with ⟨h5, _⟩ | ⟨g', cap, cur, hv, hB, hh, hle, hmx, hz, ht⟩
  · cases h5
  · cases hv
    intro j hj
    refine ⟨?_, free_block hh _⟩
    rw [cell_block hh, Array.getElem?_eq_getElem (by omega)]
    rfl
theorem OwnAt.storeElem (hf : Flat R) (h : OwnAt R k w B e (.slice (some ⟨g, 0, none⟩) n c) l) {i : Nat} (hi : i < l.length) {cs : List Value} (hk : cs.length = k) {x : α} (hR : R w cs x) :
    OwnAt R k (w.setCells g (i * k) cs) B e (.slice (some ⟨g, 0, none⟩) n c) (l.set i x) ∧ Touch g w (w.setCells g (i * k) cs) := by
  obtain ⟨css, h1, h2, h3, h4⟩ := h
  rcases h3.2 with ⟨h5, _⟩ | ⟨g', cap, cur, hv, hB, hh, hle, hmx, hz, ht⟩
  · cases h5
  · have hlen : css.flatten.length = l.length * k := by rw [flat_len h2, h1]
    cases hv
    have hik : i * k + k ≤ l.length * k := by rw [← Nat.succ_mul]; exact Nat.mul_le_mul_right k hi
    have hlc : l.length * k ≤ c * k := Nat.mul_le_mul_right k hle
    obtain ⟨cur', g1, g2, g3, g4, g5⟩ := setCells_all g e cs (i * k) cur w hh (by rw [hk, hz]; omega)
    have hk2 : ∀ q ∈ css.set i cs, q.length = k := fun q hq => by
      rcases List.mem_or_eq_of_mem_set hq with h6 | h6
      · exact h2 q h6
      · rw [h6]; exact hk
    have hfl : ∀ t, t < l.length * k → cur'[t]? = (css.set i cs).flatten[t]? := fun t htl => by
      have hk0 : 0 < k := by
        rcases Nat.eq_zero_or_pos k with h0 | h0
        · subst h0; simp at htl
        · exact h0
      have hdm : t = t / k * k + t % k := by rw [Nat.mul_comm]; exact (Nat.div_add_mod t k).symm
      have hmod : t % k < k := Nat.mod_lt _ hk0
      have hdiv : t / k < css.length := by rw [h1]; exact (Nat.div_lt_iff_lt_mul hk0).2 htl
      by_cases hti : t / k = i
      · have hu : cs[t % k]? = some (cs[t % k]'(by omega)) := List.getElem?_eq_getElem _
        have e1 := get_flat hk2 (j := i) (i := t % k) (cs := cs) (by rw [List.getElem?_set, if_pos rfl, if_pos (by omega)]) hu
        have e2 := g4 (t % k) _ hu
        rw [← hti, ← hdm] at e2
        rw [← hti, ← hdm] at e1
        rw [hti] at e1
        rw [e2, e1]
      · have hq : css[t / k]? = some css[t / k] := List.getElem?_eq_getElem hdiv
        have hu : (css[t / k])[t % k]? = some ((css[t / k])[t % k]'(by rw [h2 _ (List.getElem_mem _)]; exact hmod)) := List.getElem?_eq_getElem _
        have e1 := get_flat hk2 (j := t / k) (i := t % k) (by rw [List.getElem?_set, if_neg (fun h => hti h.symm)]; exact hq) hu
        have e3 := get_flat h2 (j := t / k) (i := t % k) hq hu
        rw [← hdm] at e1 e3
        have hout : t < i * k ∨ i * k + cs.length ≤ t := by
          rw [hk]
          rcases Nat.lt_or_gt_of_ne hti with h7 | h7
          · left
            have : (t / k + 1) * k ≤ i * k := Nat.mul_le_mul_right k h7
            rw [Nat.succ_mul] at this; omega
          · right
            have : (i + 1) * k ≤ t / k * k := Nat.mul_le_mul_right k h7
            rw [Nat.succ_mul] at this; omega
        rw [g3 t hout, e1, ← e3, ← ht, List.getElem?_take_of_lt htl, Array.getElem?_toList]
    refine ⟨⟨css.set i cs, by simp [h1], hk2, ?_, fun j q y hq hy => ?_⟩, g5⟩
    · rw [List.length_set]
      refine ⟨by rw [flat_len hk2, List.length_set, h1], .inr ⟨g, c, cur', rfl, hB, g1, hle, hmx, by rw [g2]; exact hz, ?_⟩⟩
      apply List.ext_getElem?
      intro t
      by_cases htl : t < l.length * k
      · rw [List.getElem?_take_of_lt htl, Array.getElem?_toList, hfl t htl]
      · rw [List.getElem?_eq_none (by rw [List.length_take]; omega), List.getElem?_eq_none (by rw [flat_len hk2, List.length_set, h1]; omega)]
    · by_cases hij : i = j
      · subst hij
        rw [List.getElem?_set, if_pos rfl, if_pos (by omega)] at hq
        rw [List.getElem?_set, if_pos rfl, if_pos hi] at hy
        cases hq; cases hy
        exact hf _ _ _ _ hR
      · rw [List.getElem?_set, if_neg hij] at hq hy
        exact hf _ _ _ _ (h4 j q y hq hy)
theorem OwnAt.behind (hf : Flat R) (h : OwnAt R k w B e (.slice (some ⟨g, 0, none⟩) n c) l) {i : Nat} (hi : i ≤ l.length) {vs : List Value} (hvs : i * k + vs.length ≤ c * k) :
    OwnAt R k (w.setCells g (i * k) vs) B e (.slice (some ⟨g, 0, none⟩) i c) (l.take i) ∧ Touch g w (w.setCells g (i * k) vs) := by
  obtain ⟨css, h1, h2, h3, h4⟩ := h
  rcases h3.2 with ⟨h5, _⟩ | ⟨g', cap, cur, hv, hB, hh, hle, hmx, hz, ht⟩
  · cases h5
  · cases hv
    obtain ⟨cur', g1, g2, g3, g4, g5⟩ := setCells_all g e vs (i * k) cur w hh (by rw [hz]; exact hvs)
    have hik : i * k ≤ l.length * k := Nat.mul_le_mul_right k hi
    have hlk : (l.take i).length = i := by rw [List.length_take]; omega
    have hk2 : ∀ q ∈ css.take i, q.length = k := fun q hq => h2 q (List.mem_of_mem_take hq)
    have hfl : (css.take i).flatten.length = i * k := by rw [flat_len hk2, List.length_take, h1]; congr 1; omega
    have hpre : (css.take i).flatten = css.flatten.take (i * k) := by
      have h7 : css.flatten = (css.take i).flatten ++ (css.drop i).flatten := by rw [← List.flatten_append, List.take_append_drop]
      rw [h7, ← hfl, List.take_left]
    refine ⟨⟨css.take i, by rw [List.length_take, List.length_take, h1], hk2, ?_, fun j q y hq hy => ?_⟩, g5⟩
    · rw [hlk]
      refine ⟨hfl, .inr ⟨g, c, cur', rfl, hB, g1, by omega, hmx, by rw [g2]; exact hz, ?_⟩⟩
      rw [hpre, ← ht]
      apply List.ext_getElem?
      intro t
      by_cases htl : t < i * k
      · rw [List.getElem?_take_of_lt htl, Array.getElem?_toList, g3 t (.inl htl), List.getElem?_take_of_lt htl, List.getElem?_take_of_lt (by omega), Array.getElem?_toList]
      · rw [List.getElem?_eq_none (by rw [List.length_take]; omega), List.getElem?_eq_none (by rw [List.length_take]; omega)]
    · have hj : j < i := by have := (List.getElem?_eq_some_iff.1 hy).1; omega
      rw [List.getElem?_take_of_lt hj] at hq hy
      exact hf _ _ _ _ (h4 j q y hq hy)
end
theorem run_clear_rows {P : Program} (w : World) (t e ty : TypeId) (z : Value) (ht : P.underlying t = some (.slice e)) (hv : ∀ w, (zeroValue e).run P w = .ok z w) (h1 : ∀ u ∈ z.cells, u.oneCell' = true) (b o n c : Nat) (hn : 0 < n)
    (hc : w.there b o (Builtin.zeroCells z.cells n).size) :
    (Builtin.clear_ #[t] ty #[.slice (some ⟨b, o, none⟩) n c]).run P w = .ok (.tuple #[]) (w.setCells b o (Builtin.zeroCells z.cells n).toList) := by
  have hone : ∀ u ∈ (Builtin.zeroCells z.cells n).toList, u.oneCell' = true := fun u hu => by
    unfold Builtin.zeroCells at hu
    rw [Array.toList_map] at hu
    obtain ⟨i, hi, rfl⟩ := List.mem_map.1 hu
    have hi2 : i < n * z.cells.size := by simpa using hi
    have h0 : 0 < z.cells.size := by
      rcases Nat.eq_zero_or_pos z.cells.size with h | h
      · rw [h] at hi2; simp at hi2
      · exact h
    have hlt : i % z.cells.size < z.cells.size := Nat.mod_lt _ h0
    rw [getElem!_pos z.cells _ hlt]
    exact h1 _ (Array.getElem_mem hlt)
  have hst := run_storeCells_cells (P := P) b o (Builtin.zeroCells z.cells n).toList 0 w (fun j hj => by simpa using (hc j (by simpa using hj)).1) (fun j hj => by simpa using (hc j (by simpa using hj)).2) hone
  simp only [Nat.add_zero] at hst
  obtain ⟨m, rfl⟩ : ∃ m, n = m + 1 := ⟨n - 1, by omega⟩
  simp [Builtin.clear_, run_underlying ht, hv, hst]
theorem wpList_clear_rows {P : Program} (w : World) {ops : Array Oper} {rest : List Oper} {o : Oper} {a : Act} {Q : Exit → Act → World → Prop} (hg : o.guard = none) (s : Operand) (t e : TypeId)
    (ho : o.op = .call { callee := .builtin .clear, args := #[s], argTypes := #[t] }) (z : Value) (ht : P.underlying t = some (.slice e)) (hv : ∀ w, (zeroValue e).run P w = .ok z w) (h1 : ∀ u ∈ z.cells, u.oneCell' = true) (b i n c : Nat) (hn : 0 < n)
    (hs : a.eval s = .slice (some ⟨b, i, none⟩) n c) (hc : w.there b i (Builtin.zeroCells z.cells n).size)
    (h : wpList P ops Q rest (a.put o.dst (.tuple #[])) (w.setCells b i (Builtin.zeroCells z.cells n).toList)) : wpList P ops Q (o :: rest) a w := by
  refine wpList_plain hg fun K hK' => ?_
  have hrun := run_clear_rows w t e o.type z ht hv h1 b i n c hn hc
  unfold Oper.wp
  simp [execOp, ho, resolve, invoke, builtin, hs, hrun, Result.andThen]
  exact hK' _ _ h
theorem zeroCells_size (z : Array Value) (n : Nat) : (Builtin.zeroCells z n).size = n * z.size := by simp [Builtin.zeroCells]
end Go.Proofs.YtdcmnpeabjallaaGreatDoor
namespace Go.Proofs.YtdcmnpeabjallaaGreatDoor
open Go.RowKit
theorem wpList_append_here {P : Program} (w : World) {ops : Array Oper} {rest : List Oper} {o : Oper} {a : Act} {Q : Exit → Act → World → Prop} (hg : o.guard = none) (s x : Operand) (t : TypeId)
    (ho : o.op = .call { callee := .builtin .append, args := #[s, x], argTypes := #[t, t] }) (e : TypeId) (i : TypeInfo) (ht : P.underlying t = some (.slice e)) (hi : P.info? e = some i) (h1s : i.size = 1)
    (b n c p m c2 : Nat) (hs : a.eval s = .slice (some ⟨b, 0, none⟩) n c) (hx : a.eval x = .slice (some ⟨b, p, none⟩) m c2) (news : List Value) (hl : news.length = m) (hn : ∀ j u, news[j]? = some u → w.cell? ⟨b, p + j, none⟩ = some u) (h1 : ∀ u ∈ news, u.oneCell' = true)
    (hroom : n + m ≤ c) (hc : ∀ j, j < m → (w.cell? ⟨b, n + j, none⟩).isSome = true) (hf : ∀ j, j < m → w.frozen? ⟨b, n + j, none⟩ = false)
    (h : wpList P ops Q rest (a.put o.dst (.slice (some ⟨b, 0, none⟩) (n + m) c)) (w.setCells b n news)) : wpList P ops Q (o :: rest) a w := by
  refine wpList_plain hg fun K hK' => ?_
  have hrun := run_append_room_cells (P := P) w t o.type e i ht hi b 0 n c ⟨b, p, none⟩ m c2 news (by rw [h1s, Nat.mul_one]; exact hl) (fun j u hu => by rw [add_plain']; exact hn j u hu) h1 hroom (fun j hj => by rw [h1s, Nat.mul_one, Nat.zero_add]; exact hc j (by omega)) (fun j hj => by rw [h1s, Nat.mul_one, Nat.zero_add]; exact hf j (by omega))
  rw [h1s, Nat.mul_one, Nat.zero_add] at hrun
  unfold Oper.wp
  simp [execOp, ho, resolve, invoke, builtin, hs, hx, hrun, Result.andThen]
  exact hK' _ _ h
set_option maxRecDepth 100000 in
set_option maxHeartbeats 3200000 in
theorem delVal_any (v : Value) (xs : List Value) (B i : Nat) (w : World) (h : OwnAt RVal 1 w B 47 v xs) (hi : i < xs.length) (hl : xs.length ≤ 1048576) :
    Calls Tryz.prog 101 #[v, .int .i64 (i : Int), .int .i64 ((i : Int) + 1)] w fun e w' => ∃ g c, v = .slice (some ⟨g, 0, none⟩) xs.length c ∧ B ≤ g ∧ e = .returned (.slice (some ⟨g, 0, none⟩) (xs.length - 1) c) ∧ OwnAt RVal 1 w' B 47 (.slice (some ⟨g, 0, none⟩) (xs.length - 1) c) (xs.eraseIdx i) ∧ Touch g w w' := by
  obtain ⟨i0, hi0, hz0, hz1, hz2⟩ := info_parts Tryz.infoVal
  have h1c := h.ones
  have ho := own_raw h
  rcases ho.2 with ⟨_, h0⟩ | ⟨g, c, cur, rfl, hB, hh, hlc, hc, hcs, htk⟩
  · omega
  have hcur : ∀ (j : Nat) (y : Value), xs[j]? = some y → cur[j]? = some y := fun j y hy => by
    have := ho.cells (g := g) rfl j y hy
    rw [add_plain', Nat.zero_add, cell_block hh] at this
    exact this
  obtain ⟨n, hn⟩ : ∃ n, xs.length = n := ⟨_, rfl⟩
  obtain ⟨m, hm⟩ : ∃ m, n - (i + 1) = m := ⟨_, rfl⟩
  have Hn := Lib.hid hn
  have Hh := Lib.hid hh
  have Hcur := Lib.hid hcur
  have H1 := Lib.hid h1c
  have Hcs := Lib.hid hcs
  have hin : i < n := by omega
  have him : i + m + 1 ≤ n := by omega
  have him2 : n ≤ i + m + 1 := by omega
  have hnc : n ≤ c := by rw [← hn]; exact hlc
  have hcm : c ≤ 9223372036854775807 := by unfold maxLen at hc; omega
  have hn2 : n ≤ 1048576 := by omega
  rw [hn]
  have q1 : (0 : Int) ≤ (i : Int) := by omega
  have q2 : (i : Int) ≤ (i : Int) + 1 := by omega
  have q3 : (i : Int) + 1 ≤ (n : Int) := by omega
  have q4 : (n : Int) ≤ (c : Int) := by omega
  have q5 : (0 : Int) ≤ (i : Int) + 1 := by omega
  have q6 : ((i : Int) + 1).toNat = i + 1 := by omega
  have q7 : ((i : Int) == (i : Int) + 1) = false := by rw [beq_eq_false_iff_ne]; omega
  have q8 : (i : Int) ≤ (c : Int) := by omega
  clear h ho hcur h1c hh hn hl hi htk hlc
  go_enter Tryz.func101, Tryz.ntmps101
  go_upto_region 5 with fail
  refine wp_region_hold 6 (fun w' => ∃ q, w' = w.drewN q) (by kernel_rfl) (by kernel_rfl) ?_ ?_
  · exact ⟨1, rfl⟩
  simp only [List.take_succ_cons, List.take_zero, List.drop_succ_cons, List.drop_zero]
  (first | (refine wpHold_pure (v := ?_) (by rfl) (fun w => ?_) ?_; rotate_left; focus (first | (go_simp; done) | (go_simp; with_reducible rfl))) | (refine wpHold_skip ?_ ?_; focus (go_simp; done)) | (refine wpHold_pure' (v := ?_) ?_ (fun w => ?_) ?_; rotate_left; focus (go_simp; done); focus (first | (go_simp; done) | (go_simp; with_reducible rfl)))); try simp only [Act.put, List.setIfInBounds_toArray, List.set_cons_zero, List.set_cons_succ]
  (first | (refine wpHold_pure (v := ?_) (by rfl) (fun w => ?_) ?_; rotate_left; focus (first | (go_simp; done) | (go_simp; with_reducible rfl))) | (refine wpHold_skip ?_ ?_; focus (go_simp; done)) | (refine wpHold_pure' (v := ?_) ?_ (fun w => ?_) ?_; rotate_left; focus (go_simp; done); focus (first | (go_simp; done) | (go_simp; with_reducible rfl)))); try simp only [Act.put, List.setIfInBounds_toArray, List.set_cons_zero, List.set_cons_succ]
  refine wpHold_pure (v := .slice (some ⟨g, 0, none⟩) i c) (by rfl) (fun w => ?_) ?_
  · go_simp
    done
  try simp only [Act.put, List.setIfInBounds_toArray, List.set_cons_zero, List.set_cons_succ]
  (first | (refine wpHold_pure (v := ?_) (by rfl) (fun w => ?_) ?_; rotate_left; focus (first | (go_simp; done) | (go_simp; with_reducible rfl))) | (refine wpHold_skip ?_ ?_; focus (go_simp; done)) | (refine wpHold_pure' (v := ?_) ?_ (fun w => ?_) ?_; rotate_left; focus (go_simp; done); focus (first | (go_simp; done) | (go_simp; with_reducible rfl)))); try simp only [Act.put, List.setIfInBounds_toArray, List.set_cons_zero, List.set_cons_succ]
  (first | (refine wpHold_pure (v := ?_) (by rfl) (fun w => ?_) ?_; rotate_left; focus (first | (go_simp; done) | (go_simp; with_reducible rfl))) | (refine wpHold_skip ?_ ?_; focus (go_simp; done)) | (refine wpHold_pure' (v := ?_) ?_ (fun w => ?_) ?_; rotate_left; focus (go_simp; done); focus (first | (go_simp; done) | (go_simp; with_reducible rfl)))); try simp only [Act.put, List.setIfInBounds_toArray, List.set_cons_zero, List.set_cons_succ]
  obtain ⟨p, hp⟩ : ∃ p, (c = i + 1 ∧ p = 0) ∨ (c ≠ i + 1 ∧ p = i + 1) := by
    by_cases h : c = i + 1
    · exact ⟨0, .inl ⟨h, rfl⟩⟩
    · exact ⟨i + 1, .inr ⟨h, rfl⟩⟩
  refine wpHold_pure (v := .slice (some ⟨g, p, none⟩) m (c - (i + 1))) (by rfl) (fun w => ?_) ?_
  · rcases hp with ⟨h1, rfl⟩ | ⟨h1, rfl⟩
    · have h2 : n = i + 1 := by omega
      rw [← hm]
      go_simp
    · rw [← hm]
      go_simp
  try simp only [Act.put, List.setIfInBounds_toArray, List.set_cons_zero, List.set_cons_succ]
  refine wpHold_nil ?_
  rintro w' ⟨q, rfl⟩
  try simp only [Act.put, List.setIfInBounds_toArray, List.set_cons_zero, List.set_cons_succ]
  have hml : (xs.drop (i + 1)).length = m := by rw [List.length_drop, Hn.out]; exact hm
  have Hml := Lib.hid hml
  have hnews : ∀ (j : Nat) (u : Value), (xs.drop (i + 1))[j]? = some u → (w.drewN q).cell? ⟨g, p + j, none⟩ = some u := fun j u hu => by
    have hj : j < m := by have := (List.getElem?_eq_some_iff.1 hu).1; omega
    rcases hp with ⟨h1, _⟩ | ⟨_, rfl⟩
    · omega
    · rw [List.getElem?_drop] at hu
      exact (cell_block (w := w.drewN q) Hh.out (i + 1 + j)).trans (Hcur.out _ _ hu)
  have hth : ∀ j, j < m → ((w.drewN q).cell? ⟨g, i + j, none⟩).isSome = true ∧ (w.drewN q).frozen? ⟨g, i + j, none⟩ = false := fun j hj => by
    refine ⟨?_, free_block (w := w.drewN q) Hh.out _⟩
    rw [cell_block (w := w.drewN q) Hh.out, Array.getElem?_eq_getElem (by rw [Hcs.out]; omega)]
    rfl
  have Hnews := Lib.hid hnews
  have Hth := Lib.hid hth
  clear hnews hth hml hp
  obtain ⟨k, hk⟩ : ∃ k, i + m = k := ⟨_, rfl⟩
  have Hk := Lib.hid hk
  have hkn : k + 1 ≤ n := by omega
  have hkn2 : n ≤ k + 1 := by omega
  refine (wpList_append_here _ (by rfl) _ _ _ (by rfl) 47 i0 Tryz.underlying87 hi0 hz1 g i c p m (c - (i + 1)) (by rfl) (by rfl) (xs.drop (i + 1)) Hml.out Hnews.out (fun u hu => H1.out u (List.mem_of_mem_drop hu)) (by omega) (fun j hj => (Hth.out j hj).1) (fun j hj => (Hth.out j hj).2) ?_)
  obtain ⟨cur2, k1, k2, k3, k4, k5⟩ := setCells_all g 47 (xs.drop (i + 1)) i cur (w.drewN q) Hh.out (by rw [Hml.out, Hcs.out]; omega)
  rw [Hml.out, hk] at k3
  rw [hk]
  generalize hW : World.setCells (w.drewN q) g i (xs.drop (i + 1)) = W at k1 k5 ⊢
  have K1 := Lib.hid k1
  have K2 := Lib.hid k2
  have K3 := Lib.hid k3
  have K4 := Lib.hid k4
  have K5 : Hid (Touch g w W) := Lib.hid ⟨k5.os, k5.tape, k5.output, k5.size, k5.other⟩
  clear hW k1 k2 k3 k4 k5 hk
  have r1 : (0 : Int) ≤ (k : Int) := by omega
  have r2 : (k : Int) ≤ (n : Int) := by omega
  have r3 : ¬ c = k := by omega
  go_upto_region 6 with fail
  iterate 16 go_step
  have hzs : (Builtin.zeroCells (Value.nilIface).cells (n - k)).size = n - k := (zeroCells_size _ _).trans (Nat.mul_one _)
  have hthere : W.there g k (Builtin.zeroCells (Value.nilIface).cells (n - k)).size := fun j hj => by
    refine ⟨?_, free_block K1.out _⟩
    rw [cell_block K1.out, Array.getElem?_eq_getElem (by rw [K2.out, Hcs.out]; omega)]
    rfl
  have Hthere := Lib.hid hthere
  have Hzs := Lib.hid hzs
  clear hthere hzs
  refine wpList_clear_rows W (by rfl) _ _ 47 (by rfl) .nilIface Tryz.underlying87 Tryz.zeroValue47 (by simp [Value.cells, Value.oneCell']) g k (n - k) (c - k) (by omega) (by rfl) Hthere.out ?_
  obtain ⟨cur3, k1, k2, k3, k4, k5⟩ := setCells_all g 47 (Builtin.zeroCells (Value.nilIface).cells (n - k)).toList k cur2 W K1.out (by rw [Array.length_toList, Hzs.out, K2.out, Hcs.out]; omega)
  generalize hW : World.setCells W g k _ = W2 at k1 k5 ⊢
  have L1 := Lib.hid k1
  have L2 := Lib.hid k2
  have L3 := Lib.hid k3
  have L5 : Hid (Touch g w W2) := Lib.hid ⟨k5.os.trans K5.out.os, k5.tape.trans K5.out.tape, k5.output.trans K5.out.output, k5.size.trans K5.out.size, fun b hb => (k5.other b hb).trans (K5.out.other b hb)⟩
  clear hW k1 k2 k3 k4 k5
  go_wp2_with fail
  go_ret
  have hel : (xs.eraseIdx i).length = k := by rw [List.length_eraseIdx_of_lt (by rw [Hn.out]; exact hin), Hn.out]; omega
  have hnk : n - 1 = k := by omega
  refine ⟨g, c, rfl, hB, by rw [hnk] <;> rfl, ?_, L5.out⟩
  rw [hnk]
  have hres := own_of_cells (xs := xs.eraseIdx i) (B := B) (c := c) L1.out hB (by rw [hel]; omega) hc (by rw [L2.out, K2.out, Hcs.out, Nat.mul_one]) (fun j u hu => ?_) (fun u hu => H1.out u (List.mem_of_mem_eraseIdx hu))
  · rw [hel] at hres
    exact hres
  · have hjk : j < k := by rw [← hel]; exact (List.getElem?_eq_some_iff.1 hu).1
    rw [L3.out j (.inl hjk)]
    rw [List.getElem?_eraseIdx] at hu
    by_cases hji : j < i
    · rw [if_pos hji] at hu
      rw [K3.out j (.inl hji)]
      exact Hcur.out j u hu
    · rw [if_neg hji] at hu
      have := K4.out (j - i) u (by rw [List.getElem?_drop, show i + 1 + (j - i) = j + 1 by omega]; exact hu)
      rw [show i + (j - i) = j by omega] at this
      exact this
end Go.Proofs.YtdcmnpeabjallaaGreatDoor
namespace Go.Proofs.YtdcmnpeabjallaaGreatDoor
open Go.RowKit
set_option maxRecDepth 100000 in
set_option maxHeartbeats 3200000 in
theorem delStr_any (v : Value) (xs : List Value) (B i : Nat) (w : World) (h : OwnAt RVal 1 w B 9 v xs) (hi : i < xs.length) (hl : xs.length ≤ 1048576) :
    Calls Tryz.prog 133 #[v, .int .i64 (i : Int), .int .i64 ((i : Int) + 1)] w fun e w' => ∃ g c, v = .slice (some ⟨g, 0, none⟩) xs.length c ∧ B ≤ g ∧ e = .returned (.slice (some ⟨g, 0, none⟩) (xs.length - 1) c) ∧ OwnAt RVal 1 w' B 9 (.slice (some ⟨g, 0, none⟩) (xs.length - 1) c) (xs.eraseIdx i) ∧ Touch g w w' := by
  obtain ⟨i0, hi0, hz0, hz1, hz2⟩ := info_parts Tryz.infoStr
  have h1c := h.ones
  have ho := own_raw h
  rcases ho.2 with ⟨_, h0⟩ | ⟨g, c, cur, rfl, hB, hh, hlc, hc, hcs, htk⟩
  · omega
  have hcur : ∀ (j : Nat) (y : Value), xs[j]? = some y → cur[j]? = some y := fun j y hy => by
    have := ho.cells (g := g) rfl j y hy
    rw [add_plain', Nat.zero_add, cell_block hh] at this
    exact this
  obtain ⟨n, hn⟩ : ∃ n, xs.length = n := ⟨_, rfl⟩
  obtain ⟨m, hm⟩ : ∃ m, n - (i + 1) = m := ⟨_, rfl⟩
  have Hn := Lib.hid hn
  have Hh := Lib.hid hh
  have Hcur := Lib.hid hcur
  have H1 := Lib.hid h1c
  have Hcs := Lib.hid hcs
  have hin : i < n := by omega
  have him : i + m + 1 ≤ n := by omega
  have him2 : n ≤ i + m + 1 := by omega
  have hnc : n ≤ c := by rw [← hn]; exact hlc
  have hcm : c ≤ 9223372036854775807 := by unfold maxLen at hc; omega
  have hn2 : n ≤ 1048576 := by omega
  rw [hn]
  have q1 : (0 : Int) ≤ (i : Int) := by omega
  have q2 : (i : Int) ≤ (i : Int) + 1 := by omega
  have q3 : (i : Int) + 1 ≤ (n : Int) := by omega
  have q4 : (n : Int) ≤ (c : Int) := by omega
  have q5 : (0 : Int) ≤ (i : Int) + 1 := by omega
  have q6 : ((i : Int) + 1).toNat = i + 1 := by omega
  have q7 : ((i : Int) == (i : Int) + 1) = false := by rw [beq_eq_false_iff_ne]; omega
  have q8 : (i : Int) ≤ (c : Int) := by omega
  clear h ho hcur h1c hh hn hl hi htk hlc
  go_enter Tryz.func133, Tryz.ntmps133
  go_upto_region 5 with fail
  refine wp_region_hold 6 (fun w' => ∃ q, w' = w.drewN q) (by kernel_rfl) (by kernel_rfl) ?_ ?_
  · exact ⟨1, rfl⟩
  simp only [List.take_succ_cons, List.take_zero, List.drop_succ_cons, List.drop_zero]
  (first | (refine wpHold_pure (v := ?_) (by rfl) (fun w => ?_) ?_; rotate_left; focus (first | (go_simp; done) | (go_simp; with_reducible rfl))) | (refine wpHold_skip ?_ ?_; focus (go_simp; done)) | (refine wpHold_pure' (v := ?_) ?_ (fun w => ?_) ?_; rotate_left; focus (go_simp; done); focus (first | (go_simp; done) | (go_simp; with_reducible rfl)))); try simp only [Act.put, List.setIfInBounds_toArray, List.set_cons_zero, List.set_cons_succ]
  (first | (refine wpHold_pure (v := ?_) (by rfl) (fun w => ?_) ?_; rotate_left; focus (first | (go_simp; done) | (go_simp; with_reducible rfl))) | (refine wpHold_skip ?_ ?_; focus (go_simp; done)) | (refine wpHold_pure' (v := ?_) ?_ (fun w => ?_) ?_; rotate_left; focus (go_simp; done); focus (first | (go_simp; done) | (go_simp; with_reducible rfl)))); try simp only [Act.put, List.setIfInBounds_toArray, List.set_cons_zero, List.set_cons_succ]
  refine wpHold_pure (v := .slice (some ⟨g, 0, none⟩) i c) (by rfl) (fun w => ?_) ?_
  · go_simp
    done
  try simp only [Act.put, List.setIfInBounds_toArray, List.set_cons_zero, List.set_cons_succ]
  (first | (refine wpHold_pure (v := ?_) (by rfl) (fun w => ?_) ?_; rotate_left; focus (first | (go_simp; done) | (go_simp; with_reducible rfl))) | (refine wpHold_skip ?_ ?_; focus (go_simp; done)) | (refine wpHold_pure' (v := ?_) ?_ (fun w => ?_) ?_; rotate_left; focus (go_simp; done); focus (first | (go_simp; done) | (go_simp; with_reducible rfl)))); try simp only [Act.put, List.setIfInBounds_toArray, List.set_cons_zero, List.set_cons_succ]
  (first | (refine wpHold_pure (v := ?_) (by rfl) (fun w => ?_) ?_; rotate_left; focus (first | (go_simp; done) | (go_simp; with_reducible rfl))) | (refine wpHold_skip ?_ ?_; focus (go_simp; done)) | (refine wpHold_pure' (v := ?_) ?_ (fun w => ?_) ?_; rotate_left; focus (go_simp; done); focus (first | (go_simp; done) | (go_simp; with_reducible rfl)))); try simp only [Act.put, List.setIfInBounds_toArray, List.set_cons_zero, List.set_cons_succ]
  obtain ⟨p, hp⟩ : ∃ p, (c = i + 1 ∧ p = 0) ∨ (c ≠ i + 1 ∧ p = i + 1) := by
    by_cases h : c = i + 1
    · exact ⟨0, .inl ⟨h, rfl⟩⟩
    · exact ⟨i + 1, .inr ⟨h, rfl⟩⟩
  refine wpHold_pure (v := .slice (some ⟨g, p, none⟩) m (c - (i + 1))) (by rfl) (fun w => ?_) ?_
  · rcases hp with ⟨h1, rfl⟩ | ⟨h1, rfl⟩
    · have h2 : n = i + 1 := by omega
      rw [← hm]
      go_simp
    · rw [← hm]
      go_simp
  try simp only [Act.put, List.setIfInBounds_toArray, List.set_cons_zero, List.set_cons_succ]
  refine wpHold_nil ?_
  rintro w' ⟨q, rfl⟩
  try simp only [Act.put, List.setIfInBounds_toArray, List.set_cons_zero, List.set_cons_succ]
  have hml : (xs.drop (i + 1)).length = m := by rw [List.length_drop, Hn.out]; exact hm
  have Hml := Lib.hid hml
  have hnews : ∀ (j : Nat) (u : Value), (xs.drop (i + 1))[j]? = some u → (w.drewN q).cell? ⟨g, p + j, none⟩ = some u := fun j u hu => by
    have hj : j < m := by have := (List.getElem?_eq_some_iff.1 hu).1; omega
    rcases hp with ⟨h1, _⟩ | ⟨_, rfl⟩
    · omega
    · rw [List.getElem?_drop] at hu
      exact (cell_block (w := w.drewN q) Hh.out (i + 1 + j)).trans (Hcur.out _ _ hu)
  have hth : ∀ j, j < m → ((w.drewN q).cell? ⟨g, i + j, none⟩).isSome = true ∧ (w.drewN q).frozen? ⟨g, i + j, none⟩ = false := fun j hj => by
    refine ⟨?_, free_block (w := w.drewN q) Hh.out _⟩
    rw [cell_block (w := w.drewN q) Hh.out, Array.getElem?_eq_getElem (by rw [Hcs.out]; omega)]
    rfl
  have Hnews := Lib.hid hnews
  have Hth := Lib.hid hth
  clear hnews hth hml hp
  obtain ⟨k, hk⟩ : ∃ k, i + m = k := ⟨_, rfl⟩
  have Hk := Lib.hid hk
  have hkn : k + 1 ≤ n := by omega
  have hkn2 : n ≤ k + 1 := by omega
  refine (wpList_append_here _ (by rfl) _ _ _ (by rfl) 9 i0 Tryz.underlying28 hi0 hz1 g i c p m (c - (i + 1)) (by rfl) (by rfl) (xs.drop (i + 1)) Hml.out Hnews.out (fun u hu => H1.out u (List.mem_of_mem_drop hu)) (by omega) (fun j hj => (Hth.out j hj).1) (fun j hj => (Hth.out j hj).2) ?_)
  obtain ⟨cur2, k1, k2, k3, k4, k5⟩ := setCells_all g 9 (xs.drop (i + 1)) i cur (w.drewN q) Hh.out (by rw [Hml.out, Hcs.out]; omega)
  rw [Hml.out, hk] at k3
  rw [hk]
  generalize hW : World.setCells (w.drewN q) g i (xs.drop (i + 1)) = W at k1 k5 ⊢
  have K1 := Lib.hid k1
  have K2 := Lib.hid k2
  have K3 := Lib.hid k3
  have K4 := Lib.hid k4
  have K5 : Hid (Touch g w W) := Lib.hid ⟨k5.os, k5.tape, k5.output, k5.size, k5.other⟩
  clear hW k1 k2 k3 k4 k5 hk
  have r1 : (0 : Int) ≤ (k : Int) := by omega
  have r2 : (k : Int) ≤ (n : Int) := by omega
  have r3 : ¬ c = k := by omega
  go_upto_region 6 with fail
  iterate 16 go_step
  have hzs : (Builtin.zeroCells (Value.string ByteArray.empty).cells (n - k)).size = n - k := (zeroCells_size _ _).trans (Nat.mul_one _)
  have hthere : W.there g k (Builtin.zeroCells (Value.string ByteArray.empty).cells (n - k)).size := fun j hj => by
    refine ⟨?_, free_block K1.out _⟩
    rw [cell_block K1.out, Array.getElem?_eq_getElem (by rw [K2.out, Hcs.out]; omega)]
    rfl
  have Hthere := Lib.hid hthere
  have Hzs := Lib.hid hzs
  clear hthere hzs
  refine wpList_clear_rows W (by rfl) _ _ 9 (by rfl) (.string ByteArray.empty) Tryz.underlying28 Tryz.zeroValue9 (by simp [Value.cells, Value.oneCell']) g k (n - k) (c - k) (by omega) (by rfl) Hthere.out ?_
  obtain ⟨cur3, k1, k2, k3, k4, k5⟩ := setCells_all g 9 (Builtin.zeroCells (Value.string ByteArray.empty).cells (n - k)).toList k cur2 W K1.out (by rw [Array.length_toList, Hzs.out, K2.out, Hcs.out]; omega)
  generalize hW : World.setCells W g k _ = W2 at k1 k5 ⊢
  have L1 := Lib.hid k1
  have L2 := Lib.hid k2
  have L3 := Lib.hid k3
  have L5 : Hid (Touch g w W2) := Lib.hid ⟨k5.os.trans K5.out.os, k5.tape.trans K5.out.tape, k5.output.trans K5.out.output, k5.size.trans K5.out.size, fun b hb => (k5.other b hb).trans (K5.out.other b hb)⟩
  clear hW k1 k2 k3 k4 k5
  go_wp2_with fail
  go_ret
  have hel : (xs.eraseIdx i).length = k := by rw [List.length_eraseIdx_of_lt (by rw [Hn.out]; exact hin), Hn.out]; omega
  have hnk : n - 1 = k := by omega
  refine ⟨g, c, rfl, hB, by rw [hnk] <;> rfl, ?_, L5.out⟩
  rw [hnk]
  have hres := own_of_cells (xs := xs.eraseIdx i) (B := B) (c := c) L1.out hB (by rw [hel]; omega) hc (by rw [L2.out, K2.out, Hcs.out, Nat.mul_one]) (fun j u hu => ?_) (fun u hu => H1.out u (List.mem_of_mem_eraseIdx hu))
  · rw [hel] at hres
    exact hres
  · have hjk : j < k := by rw [← hel]; exact (List.getElem?_eq_some_iff.1 hu).1
    rw [L3.out j (.inl hjk)]
    rw [List.getElem?_eraseIdx] at hu
    by_cases hji : j < i
    · rw [if_pos hji] at hu
      rw [K3.out j (.inl hji)]
      exact Hcur.out j u hu
    · rw [if_neg hji] at hu
      have := K4.out (j - i) u (by rw [List.getElem?_drop, show i + 1 + (j - i) = j + 1 by omega]; exact hu)
      rw [show i + (j - i) = j by omega] at this
      exact this
end Go.Proofs.YtdcmnpeabjallaaGreatDoor
namespace Go.Proofs.YtdcmnpeabjallaaGreatDoor
open Go.RowKit
open JP (JV Bs)
theorem del_same {w w' : World} {B : Nat} {e : TypeId} {v : Value} {xs : List Value} {g n c : Nat} (h : OwnAt RVal 1 w B e v xs) (hv : v = .slice (some ⟨g, 0, none⟩) n c) (hB : B ≤ g) (ht : Touch g w w') (_hs : B ≤ w.heap.size) : SameBut e w w' ∧ Below B w w' := by
  refine ⟨fun b cur e' fr hb hne => (ht.other b fun eq => ?_).trans hb, ht.below (Below.refl _ _) hB⟩
  obtain ⟨_, _, cur', k⟩ := h.at (g := g) (by rw [hv]; rfl)
  rw [eq, k] at hb
  injection hb with hb
  injection hb with _ hb
  exact hne hb.symm
theorem cut_none {x : Bs} : ∀ {d : List (Bs × JV)}, JP.get x d = none → JP.cut x d = d
  | [], _ => rfl
  | (m, y) :: r, h => by
    unfold JP.get at h
    by_cases hm : m = x
    · rw [if_pos hm] at h; cases h
    · rw [if_neg hm] at h
      unfold JP.cut
      rw [List.filter_cons_of_pos (by simpa using hm)]
      exact congrArg _ (cut_none h)
theorem cut_at {x : Bs} : ∀ {d : List (Bs × JV)} {p : Nat} {y : JV}, JP.Srt d → d[p]? = some (x, y) → JP.cut x d = d.eraseIdx p
  | [], _, _, _, h => by simp at h
  | (m, z) :: r, 0, y, hs, h => by
    simp only [List.getElem?_cons_zero, Option.some.injEq] at h
    cases h
    obtain ⟨h1, _⟩ := List.pairwise_cons.1 hs
    unfold JP.cut
    rw [List.filter_cons_of_neg (by simp), List.eraseIdx_cons_zero, List.filter_eq_self]
    intro a ha
    have := h1 a ha
    rw [bne_iff_ne]
    intro e
    rw [e] at this
    exact List.lt_irrefl _ this
  | (m, z) :: r, p + 1, y, hs, h => by
    obtain ⟨h1, h2⟩ := List.pairwise_cons.1 hs
    rw [List.getElem?_cons_succ] at h
    have hlt := h1 (x, y) (List.mem_of_getElem? h)
    have ih := cut_at h2 h
    unfold JP.cut at ih ⊢
    rw [List.filter_cons_of_pos (by
      rw [bne_iff_ne]
      intro e
      rw [e] at hlt
      exact List.lt_irrefl _ hlt), ih, List.eraseIdx_cons_succ]
theorem cut_srt {x : Bs} {d : List (Bs × JV)} (h : JP.Srt d) : JP.Srt (JP.cut x d) := List.Pairwise.sublist (List.filter_sublist) h
theorem map_erase {α β : Type} (f : α → β) (l : List α) (p : Nat) : (l.eraseIdx p).map f = (l.map f).eraseIdx p := by
  apply List.ext_getElem?
  intro j
  rw [List.getElem?_map, List.getElem?_eraseIdx, List.getElem?_eraseIdx]
  split <;> rw [List.getElem?_map]
theorem pairs_erase {α : Type} {xs : List Value} {l : List α} {P : Value → α → Prop} (h : ∀ (j : Nat) (u : Value) (x : α), xs[j]? = some u → l[j]? = some x → P u x) (p : Nat) :
    ∀ (j : Nat) (u : Value) (x : α), (xs.eraseIdx p)[j]? = some u → (l.eraseIdx p)[j]? = some x → P u x := fun j u x hu hx => by
  rw [List.getElem?_eraseIdx] at hu hx
  by_cases hj : j < p
  · rw [if_pos hj] at hu hx; exact h j u x hu hx
  · rw [if_neg hj] at hu hx; exact h (j + 1) u x hu hx
set_option maxRecDepth 100000 in
set_option maxHeartbeats 6400000 in
theorem without_any {n : Nat} {T : List Nat} {q : Nat} {d : List (Bs × JV)} {x : Bs} {w : World} (h : ObR (JvR n T) T w q d) (hT : ∀ b ∈ T, b < w.heap.size) (hl : d.length ≤ 1048575) :
    Calls Tryz.prog 99 #[.pointer (some ⟨q, 0, none⟩), .string (mkB x)] w fun e w' => ∃ q', e = .returned (.pointer (some ⟨q', 0, none⟩)) ∧ ObR (JvR n T) T w' q' (JP.cut x d) ∧ Below w.heap.size w w' := by
  have hob := h
  obtain ⟨hqT, hs, vn, vv, cn, cv, hrn, hon, hrv, hov⟩ := h
  have HS := Lib.hid (search_any (x := x) hs hrn (by omega))
  have hsp := cut_srt (x := x) hs
  have hF := JP.find_spec (n := x) hs
  obtain ⟨xs, hxl, hxr, hxR⟩ := hrn.raw one_string
  obtain ⟨ys, hyl, hyr, hyR⟩ := hrv.raw (one_jv n T)
  rw [List.length_map] at hxl hyl
  obtain ⟨an, c1, hu1, _, _⟩ := hrn.len
  obtain ⟨av, c2, hu2, _, _⟩ := hrv.len
  obtain ⟨ln, hln⟩ : ∃ n, (d.map fun y => mkB y.1).length = n := ⟨_, rfl⟩
  obtain ⟨lv, hlv⟩ : ∃ n, (d.map (·.2)).length = n := ⟨_, rfl⟩
  rw [hln] at hu1
  rw [hlv] at hu2
  subst hu1
  subst hu2
  clear hln hlv
  have hqw : q < w.heap.size := World.block_lt_of_cell? w ⟨q, 0, none⟩ cn
  rcases hF with ⟨y0, hy0, hg, _⟩ | ⟨_, hg, _⟩
  · have hcut := cut_at hs hy0
    rw [hg] at HS
    have hpn : (JP.cut x d).map (fun z => mkB z.1) = (d.map fun z => mkB z.1).eraseIdx (JP.pos x d) := by rw [hcut]; exact map_erase _ _ _
    have hpv : (JP.cut x d).map (·.2) = (d.map (·.2)).eraseIdx (JP.pos x d) := by rw [hcut]; exact map_erase _ _ _
    have hlt : JP.pos x d < d.length := (List.getElem?_eq_some_iff.1 hy0).1
    obtain ⟨D, hD⟩ : ∃ D, JP.cut x d = D := ⟨_, rfl⟩
    rw [hD] at hpn hpv hsp ⊢
    obtain ⟨p, hp⟩ : ∃ p, JP.pos x d = p := ⟨_, rfl⟩
    rw [hp] at HS hpn hpv hlt
    have HC1 := Lib.hid (fun w' (hb : Below w.heap.size w w') => cloneStr_any (.slice an ln c1) xs w' (hxr.below stays_val hb) (by omega))
    have HC2 := Lib.hid (fun w' (hb : Below w.heap.size w w') => cloneVal_any (.slice av lv c2) ys w' (hyr.below stays_val hb) (by omega))
    have hfin : ∀ w' (q' : Nat) (v8 v9 : Value), KeepT T w w' → q' ∉ T → w'.cell? ⟨q', 0, none⟩ = some v8 → w'.cell? ⟨q', 1, none⟩ = some v9 → RowAt RVal 1 w' v8 (xs.eraseIdx p) → OffT T v8 D → RowAt RVal 1 w' v9 (ys.eraseIdx p) → OffT T v9 D → ObR (JvR n T) T w' q' D := fun w' q' v8 v9 hk hq' k0 k1 hr8 ho8 hr9 ho9 => by
      refine ⟨hq', hsp, v8, v9, k0, k1, ?_, ho8, ?_, ho9⟩
      · rw [hpn]
        refine hr8.ofRaw (by rw [List.length_eraseIdx_of_lt (by omega), List.length_eraseIdx_of_lt (by rw [List.length_map]; omega), List.length_map]; omega) fun j u z hu hz => ?_
        have := pairs_erase (P := fun u z => u = .string z) (strs_raw hxR) p j u z hu hz
        rw [this]; rfl
      · rw [hpv]
        refine hr9.ofRaw (by rw [List.length_eraseIdx_of_lt (by omega), List.length_eraseIdx_of_lt (by rw [List.length_map]; omega), List.length_map]; omega) fun j u z hu hz => ?_
        obtain ⟨v1, e1, h1⟩ := pairs_erase (P := fun u z => JvR n T w [u] z) hyR p j u z hu hz
        exact ⟨v1, e1, h1.keepT hk⟩
    have Hfin := Lib.hid hfin
    have HT := Lib.hid hT
    have hxp : p < xs.length := by omega
    have hyp : p < ys.length := by omega
    have hxs : xs.length ≤ 1048576 := by omega
    have hys : ys.length ≤ 1048576 := by omega
    have hpw : IntKind.i64.wrap ((p : Int) + 1) = (p : Int) + 1 := IntWalk.i64_in _ (by omega)
    clear hg hfin hT hrn hrv hxr hyr hxR hyR hon hov hpn hpv hD hsp hs hxl hyl hp hob hcut hy0 hlt
    go_enter Tryz.func99, Tryz.ntmps99
    go_wp2_with fail
    refine HS.out.mono ?_
    rintro E w1 ⟨rfl, k, rfl⟩
    have Hb1 : Hid (Below w.heap.size w (w.drewN k)) := Lib.hid ((below_drewN0 w k))
    go_upto_region 4 with fail
    refine wp_region_relY 20 (fun w' => Below w.heap.size (w.drewN k) w') (fun i wa wb => if i = 8 then SameBut 9 wa wb ∧ Below w.heap.size wa wb else (if i = 17 then SameBut 47 wa wb ∧ Below w.heap.size wa wb else Below wa.heap.size wa wb)) (fun ii U w' => match ii with
      | 0 => U 0 = .pointer (some ⟨q, 0, none⟩)
      | 1 => U 1 = .pointer (some ⟨q, 0, none⟩)
      | 2 => U 2 = .pointer (some ⟨q, 0, none⟩)
      | 3 => U 3 = .slice an ln c1
      | 4 => OwnAt RVal 1 w' w.heap.size 9 (U 4) xs
      | 5 => U 5 = .int .i64 (p : Int)
      | 6 => U 6 = .int .i64 (p : Int)
      | 7 => U 7 = .int .i64 ((p : Int) + 1)
      | 8 => OwnAt RVal 1 w' w.heap.size 9 (U 8) (xs.eraseIdx p)
      | 9 => U 9 = .pointer (some ⟨q, 0, none⟩)
      | 10 => U 10 = .pointer (some ⟨q, 0, none⟩)
      | 11 => U 11 = .pointer (some ⟨q, 1, none⟩)
      | 12 => U 12 = .slice av lv c2
      | 13 => OwnAt RVal 1 w' w.heap.size 47 (U 13) ys
      | 14 => U 14 = .int .i64 (p : Int)
      | 15 => U 15 = .int .i64 (p : Int)
      | 16 => U 16 = .int .i64 ((p : Int) + 1)
      | 17 => OwnAt RVal 1 w' w.heap.size 47 (U 17) (ys.eraseIdx p)
      | 18 => U 18 = .agg #[U 8, U 17]
      | 19 => ∃ g, U 19 = .pointer (some ⟨g, 0, none⟩) ∧ w.heap.size ≤ g ∧ w'.heap[g]? = some (.cells #[U 8, U 17] 101 (0, 0))
      | _ => True)
      (fun | 1 => [0] | 2 => [1] | 3 => [2] | 4 => [3] | 7 => [6] | 8 => [4, 5, 7] | 10 => [9] | 11 => [10] | 12 => [11] | 13 => [12] | 16 => [15] | 17 => [13, 14, 16] | 18 => [8, 17] | 19 => [18, 8, 17] | _ => [])
      (fun | 4 => [8] | 13 => [17] | _ => []) (by kernel_rfl) (by kernel_rfl) (Below.refl _ _).drew ?_ ?_ ⟨?_, ?_, ?_, ?_, ?_, ?_, ?_, ?_, ?_, ?_, ?_, ?_, ?_, ?_, ?_, ?_, ?_, ?_, ?_, ?_, trivial⟩ ?_
    · intro i wa wb hk hi
      by_cases h8 : i = 8
      · rw [if_pos h8] at hk
        exact hi.trans hk.2
      · rw [if_neg h8] at hk
        by_cases h17 : i = 17
        · rw [if_pos h17] at hk
          exact hi.trans hk.2
        · rw [if_neg h17] at hk
          exact below_then' hi hk
    · intro i j U wa wb hji hkl hk hi h
      by_cases h8 : i = 8
      · rw [if_pos h8] at hk
        subst h8
        have hsm := hk.1
        match j, hji, hkl, h with
        | 0, _, _, h => exact h
        | 1, _, _, h => exact h
        | 2, _, _, h => exact h
        | 3, _, _, h => exact h
        | 4, _, hkl, h => exact absurd (by simp) hkl
        | 5, _, _, h => exact h
        | 6, _, _, h => exact h
        | 7, _, _, h => exact h
        | 8, hji, _, h => exact absurd rfl hji
        | 9, _, _, h => exact h
        | 10, _, _, h => exact h
        | 11, _, _, h => exact h
        | 12, _, _, h => exact h
        | 13, _, _, h => exact OwnAt.same' flat_val h hsm (by decide)
        | 14, _, _, h => exact h
        | 15, _, _, h => exact h
        | 16, _, _, h => exact h
        | 17, _, _, h => exact OwnAt.same' flat_val h hsm (by decide)
        | 18, _, _, h => exact h
        | 19, _, _, h => exact (by obtain ⟨g, h1, h0, h2⟩ := h; exact ⟨g, h1, h0, hsm g _ _ _ h2 (by decide)⟩)
        | _ + 20, _, _, h => trivial
      · rw [if_neg h8] at hk
        by_cases h17 : i = 17
        · rw [if_pos h17] at hk
          subst h17
          have hsm := hk.1
          match j, hji, hkl, h with
          | 0, _, _, h => exact h
          | 1, _, _, h => exact h
          | 2, _, _, h => exact h
          | 3, _, _, h => exact h
          | 4, _, _, h => exact OwnAt.same' flat_val h hsm (by decide)
          | 5, _, _, h => exact h
          | 6, _, _, h => exact h
          | 7, _, _, h => exact h
          | 8, _, _, h => exact OwnAt.same' flat_val h hsm (by decide)
          | 9, _, _, h => exact h
          | 10, _, _, h => exact h
          | 11, _, _, h => exact h
          | 12, _, _, h => exact h
          | 13, _, hkl, h => exact absurd (by simp) hkl
          | 14, _, _, h => exact h
          | 15, _, _, h => exact h
          | 16, _, _, h => exact h
          | 17, hji, _, h => exact absurd rfl hji
          | 18, _, _, h => exact h
          | 19, _, _, h => exact (by obtain ⟨g, h1, h0, h2⟩ := h; exact ⟨g, h1, h0, hsm g _ _ _ h2 (by decide)⟩)
          | _ + 20, _, _, h => trivial
        · rw [if_neg h17] at hk
          match j, h with
          | 0, h => exact h
          | 1, h => exact h
          | 2, h => exact h
          | 3, h => exact h
          | 4, h => exact OwnAt.below stays_val h hk
          | 5, h => exact h
          | 6, h => exact h
          | 7, h => exact h
          | 8, h => exact OwnAt.below stays_val h hk
          | 9, h => exact h
          | 10, h => exact h
          | 11, h => exact h
          | 12, h => exact h
          | 13, h => exact OwnAt.below stays_val h hk
          | 14, h => exact h
          | 15, h => exact h
          | 16, h => exact h
          | 17, h => exact OwnAt.below stays_val h hk
          | 18, h => exact h
          | 19, h => exact (by obtain ⟨g, h1, h0, h2⟩ := h; exact ⟨g, h1, h0, below_block hk h2⟩)
          | _ + 20, h => trivial
    · intro x' w' hb hd
      have hbw : Below w.heap.size w w' := (below_drewN0 w k).trans hb
      have e0 : w'.cell? ⟨q, 0, none⟩ = some (.slice an ln c1) := (hbw.cell (p := ⟨q, 0, none⟩) hqw).trans cn
      have e1 : w'.cell? ⟨q, 1, none⟩ = some (.slice av lv c2) := (hbw.cell (p := ⟨q, 1, none⟩) hqw).trans cv
      refine owesK_here (.pointer (some ⟨q, 0, none⟩)) (by rfl) ?_ rfl (else_of (by decide) (else_of (by decide) (Below.refl _ _)))
      simp only [putAll, List.take_succ_cons, List.take_zero]
      go_simp
    · intro x' w' hb hd
      have hbw : Below w.heap.size w w' := (below_drewN0 w k).trans hb
      have e0 : w'.cell? ⟨q, 0, none⟩ = some (.slice an ln c1) := (hbw.cell (p := ⟨q, 0, none⟩) hqw).trans cn
      have e1 : w'.cell? ⟨q, 1, none⟩ = some (.slice av lv c2) := (hbw.cell (p := ⟨q, 1, none⟩) hqw).trans cv
      have k0 : x' 0 = .pointer (some ⟨q, 0, none⟩) := hd 0 (by simp)
      refine owesK_here (.pointer (some ⟨q, 0, none⟩)) (by rfl) ?_ rfl (else_of (by decide) (else_of (by decide) (Below.refl _ _)))
      simp only [putAll, List.take_succ_cons, List.take_zero]
      go_simp
    · intro x' w' hb hd
      have hbw : Below w.heap.size w w' := (below_drewN0 w k).trans hb
      have e0 : w'.cell? ⟨q, 0, none⟩ = some (.slice an ln c1) := (hbw.cell (p := ⟨q, 0, none⟩) hqw).trans cn
      have e1 : w'.cell? ⟨q, 1, none⟩ = some (.slice av lv c2) := (hbw.cell (p := ⟨q, 1, none⟩) hqw).trans cv
      have k0 : x' 1 = .pointer (some ⟨q, 0, none⟩) := hd 1 (by simp)
      refine owesK_here (.pointer (some ⟨q, 0, none⟩)) (by rfl) ?_ rfl (else_of (by decide) (else_of (by decide) (Below.refl _ _)))
      simp only [putAll, List.take_succ_cons, List.take_zero]
      go_simp
    · intro x' w' hb hd
      have hbw : Below w.heap.size w w' := (below_drewN0 w k).trans hb
      have e0 : w'.cell? ⟨q, 0, none⟩ = some (.slice an ln c1) := (hbw.cell (p := ⟨q, 0, none⟩) hqw).trans cn
      have e1 : w'.cell? ⟨q, 1, none⟩ = some (.slice av lv c2) := (hbw.cell (p := ⟨q, 1, none⟩) hqw).trans cv
      have k0 : x' 2 = .pointer (some ⟨q, 0, none⟩) := hd 2 (by simp)
      refine owesK_here (.slice an ln c1) (by rfl) ?_ rfl (else_of (by decide) (else_of (by decide) (Below.refl _ _)))
      simp only [putAll, List.take_succ_cons, List.take_zero]
      go_simp
    · intro x' w' hb hd
      have hbw : Below w.heap.size w w' := (below_drewN0 w k).trans hb
      have e0 : w'.cell? ⟨q, 0, none⟩ = some (.slice an ln c1) := (hbw.cell (p := ⟨q, 0, none⟩) hqw).trans cn
      have e1 : w'.cell? ⟨q, 1, none⟩ = some (.slice av lv c2) := (hbw.cell (p := ⟨q, 1, none⟩) hqw).trans cv
      have k0 : x' 3 = .slice an ln c1 := hd 3 (by simp)
      refine owesK_call 52 #[.slice an ln c1] (by rfl) ?_ ((HC1.out w' hbw).mono fun e w2 ⟨v', h1, h2, h3⟩ => ⟨v', h1, h2.mono hbw.size, else_of (by decide) (else_of (by decide) h3)⟩)
      simp only [putAll, List.take_succ_cons, List.take_zero]
      go_simp
    · intro x' w' hb hd
      have hbw : Below w.heap.size w w' := (below_drewN0 w k).trans hb
      have e0 : w'.cell? ⟨q, 0, none⟩ = some (.slice an ln c1) := (hbw.cell (p := ⟨q, 0, none⟩) hqw).trans cn
      have e1 : w'.cell? ⟨q, 1, none⟩ = some (.slice av lv c2) := (hbw.cell (p := ⟨q, 1, none⟩) hqw).trans cv
      refine owesK_here (.int .i64 (p : Int)) (by rfl) ?_ rfl (else_of (by decide) (else_of (by decide) (Below.refl _ _)))
      simp only [putAll, List.take_succ_cons, List.take_zero]
      go_simp
    · intro x' w' hb hd
      have hbw : Below w.heap.size w w' := (below_drewN0 w k).trans hb
      have e0 : w'.cell? ⟨q, 0, none⟩ = some (.slice an ln c1) := (hbw.cell (p := ⟨q, 0, none⟩) hqw).trans cn
      have e1 : w'.cell? ⟨q, 1, none⟩ = some (.slice av lv c2) := (hbw.cell (p := ⟨q, 1, none⟩) hqw).trans cv
      refine owesK_here (.int .i64 (p : Int)) (by rfl) ?_ rfl (else_of (by decide) (else_of (by decide) (Below.refl _ _)))
      simp only [putAll, List.take_succ_cons, List.take_zero]
      go_simp
    · intro x' w' hb hd
      have hbw : Below w.heap.size w w' := (below_drewN0 w k).trans hb
      have e0 : w'.cell? ⟨q, 0, none⟩ = some (.slice an ln c1) := (hbw.cell (p := ⟨q, 0, none⟩) hqw).trans cn
      have e1 : w'.cell? ⟨q, 1, none⟩ = some (.slice av lv c2) := (hbw.cell (p := ⟨q, 1, none⟩) hqw).trans cv
      have k0 : x' 6 = .int .i64 (p : Int) := hd 6 (by simp)
      refine owesK_here (.int .i64 ((p : Int) + 1)) (by rfl) ?_ rfl (else_of (by decide) (else_of (by decide) (Below.refl _ _)))
      simp only [putAll, List.take_succ_cons, List.take_zero]
      go_simp
    · intro x' w' hb hd
      have hbw : Below w.heap.size w w' := (below_drewN0 w k).trans hb
      have e0 : w'.cell? ⟨q, 0, none⟩ = some (.slice an ln c1) := (hbw.cell (p := ⟨q, 0, none⟩) hqw).trans cn
      have e1 : w'.cell? ⟨q, 1, none⟩ = some (.slice av lv c2) := (hbw.cell (p := ⟨q, 1, none⟩) hqw).trans cv
      have k4 : OwnAt RVal 1 w' w.heap.size 9 (x' 4) xs := hd 4 (by simp)
      have k5 : x' 5 = .int .i64 (p : Int) := hd 5 (by simp)
      have k7 : x' 7 = .int .i64 ((p : Int) + 1) := hd 7 (by simp)
      refine owesK_call 133 #[x' 4, .int .i64 (p : Int), .int .i64 ((p : Int) + 1)] (by rfl) ?_ ((delStr_any (x' 4) xs w.heap.size p w' k4 hxp hxs).mono fun e w2 ⟨g, c, h0, hB, h1, h2, h3⟩ => ⟨_, h1, h2, then_of rfl (del_same k4 h0 hB h3 hbw.size)⟩)
      simp only [putAll, List.take_succ_cons, List.take_zero]
      go_simp
    · intro x' w' hb hd
      have hbw : Below w.heap.size w w' := (below_drewN0 w k).trans hb
      have e0 : w'.cell? ⟨q, 0, none⟩ = some (.slice an ln c1) := (hbw.cell (p := ⟨q, 0, none⟩) hqw).trans cn
      have e1 : w'.cell? ⟨q, 1, none⟩ = some (.slice av lv c2) := (hbw.cell (p := ⟨q, 1, none⟩) hqw).trans cv
      refine owesK_here (.pointer (some ⟨q, 0, none⟩)) (by rfl) ?_ rfl (else_of (by decide) (else_of (by decide) (Below.refl _ _)))
      simp only [putAll, List.take_succ_cons, List.take_zero]
      go_simp
    · intro x' w' hb hd
      have hbw : Below w.heap.size w w' := (below_drewN0 w k).trans hb
      have e0 : w'.cell? ⟨q, 0, none⟩ = some (.slice an ln c1) := (hbw.cell (p := ⟨q, 0, none⟩) hqw).trans cn
      have e1 : w'.cell? ⟨q, 1, none⟩ = some (.slice av lv c2) := (hbw.cell (p := ⟨q, 1, none⟩) hqw).trans cv
      have k0 : x' 9 = .pointer (some ⟨q, 0, none⟩) := hd 9 (by simp)
      refine owesK_here (.pointer (some ⟨q, 0, none⟩)) (by rfl) ?_ rfl (else_of (by decide) (else_of (by decide) (Below.refl _ _)))
      simp only [putAll, List.take_succ_cons, List.take_zero]
      go_simp
    · intro x' w' hb hd
      have hbw : Below w.heap.size w w' := (below_drewN0 w k).trans hb
      have e0 : w'.cell? ⟨q, 0, none⟩ = some (.slice an ln c1) := (hbw.cell (p := ⟨q, 0, none⟩) hqw).trans cn
      have e1 : w'.cell? ⟨q, 1, none⟩ = some (.slice av lv c2) := (hbw.cell (p := ⟨q, 1, none⟩) hqw).trans cv
      have k0 : x' 10 = .pointer (some ⟨q, 0, none⟩) := hd 10 (by simp)
      refine owesK_here (.pointer (some ⟨q, 1, none⟩)) (by rfl) ?_ rfl (else_of (by decide) (else_of (by decide) (Below.refl _ _)))
      simp only [putAll, List.take_succ_cons, List.take_zero]
      go_simp
    · intro x' w' hb hd
      have hbw : Below w.heap.size w w' := (below_drewN0 w k).trans hb
      have e0 : w'.cell? ⟨q, 0, none⟩ = some (.slice an ln c1) := (hbw.cell (p := ⟨q, 0, none⟩) hqw).trans cn
      have e1 : w'.cell? ⟨q, 1, none⟩ = some (.slice av lv c2) := (hbw.cell (p := ⟨q, 1, none⟩) hqw).trans cv
      have k0 : x' 11 = .pointer (some ⟨q, 1, none⟩) := hd 11 (by simp)
      refine owesK_here (.slice av lv c2) (by rfl) ?_ rfl (else_of (by decide) (else_of (by decide) (Below.refl _ _)))
      simp only [putAll, List.take_succ_cons, List.take_zero]
      go_simp
    · intro x' w' hb hd
      have hbw : Below w.heap.size w w' := (below_drewN0 w k).trans hb
      have e0 : w'.cell? ⟨q, 0, none⟩ = some (.slice an ln c1) := (hbw.cell (p := ⟨q, 0, none⟩) hqw).trans cn
      have e1 : w'.cell? ⟨q, 1, none⟩ = some (.slice av lv c2) := (hbw.cell (p := ⟨q, 1, none⟩) hqw).trans cv
      have k0 : x' 12 = .slice av lv c2 := hd 12 (by simp)
      refine owesK_call 102 #[.slice av lv c2] (by rfl) ?_ ((HC2.out w' hbw).mono fun e w2 ⟨v', h1, h2, h3⟩ => ⟨v', h1, h2.mono hbw.size, else_of (by decide) (else_of (by decide) h3)⟩)
      simp only [putAll, List.take_succ_cons, List.take_zero]
      go_simp
    · intro x' w' hb hd
      have hbw : Below w.heap.size w w' := (below_drewN0 w k).trans hb
      have e0 : w'.cell? ⟨q, 0, none⟩ = some (.slice an ln c1) := (hbw.cell (p := ⟨q, 0, none⟩) hqw).trans cn
      have e1 : w'.cell? ⟨q, 1, none⟩ = some (.slice av lv c2) := (hbw.cell (p := ⟨q, 1, none⟩) hqw).trans cv
      refine owesK_here (.int .i64 (p : Int)) (by rfl) ?_ rfl (else_of (by decide) (else_of (by decide) (Below.refl _ _)))
      simp only [putAll, List.take_succ_cons, List.take_zero]
      go_simp
    · intro x' w' hb hd
      have hbw : Below w.heap.size w w' := (below_drewN0 w k).trans hb
      have e0 : w'.cell? ⟨q, 0, none⟩ = some (.slice an ln c1) := (hbw.cell (p := ⟨q, 0, none⟩) hqw).trans cn
      have e1 : w'.cell? ⟨q, 1, none⟩ = some (.slice av lv c2) := (hbw.cell (p := ⟨q, 1, none⟩) hqw).trans cv
      refine owesK_here (.int .i64 (p : Int)) (by rfl) ?_ rfl (else_of (by decide) (else_of (by decide) (Below.refl _ _)))
      simp only [putAll, List.take_succ_cons, List.take_zero]
      go_simp
    · intro x' w' hb hd
      have hbw : Below w.heap.size w w' := (below_drewN0 w k).trans hb
      have e0 : w'.cell? ⟨q, 0, none⟩ = some (.slice an ln c1) := (hbw.cell (p := ⟨q, 0, none⟩) hqw).trans cn
      have e1 : w'.cell? ⟨q, 1, none⟩ = some (.slice av lv c2) := (hbw.cell (p := ⟨q, 1, none⟩) hqw).trans cv
      have k0 : x' 15 = .int .i64 (p : Int) := hd 15 (by simp)
      refine owesK_here (.int .i64 ((p : Int) + 1)) (by rfl) ?_ rfl (else_of (by decide) (else_of (by decide) (Below.refl _ _)))
      simp only [putAll, List.take_succ_cons, List.take_zero]
      go_simp
    · intro x' w' hb hd
      have hbw : Below w.heap.size w w' := (below_drewN0 w k).trans hb
      have e0 : w'.cell? ⟨q, 0, none⟩ = some (.slice an ln c1) := (hbw.cell (p := ⟨q, 0, none⟩) hqw).trans cn
      have e1 : w'.cell? ⟨q, 1, none⟩ = some (.slice av lv c2) := (hbw.cell (p := ⟨q, 1, none⟩) hqw).trans cv
      have k4 : OwnAt RVal 1 w' w.heap.size 47 (x' 13) ys := hd 13 (by simp)
      have k5 : x' 14 = .int .i64 (p : Int) := hd 14 (by simp)
      have k7 : x' 16 = .int .i64 ((p : Int) + 1) := hd 16 (by simp)
      refine owesK_call 101 #[x' 13, .int .i64 (p : Int), .int .i64 ((p : Int) + 1)] (by rfl) ?_ ((delVal_any (x' 13) ys w.heap.size p w' k4 hyp hys).mono fun e w2 ⟨g, c, h0, hB, h1, h2, h3⟩ => ⟨_, h1, h2, else_of (by decide) (then_of rfl (del_same k4 h0 hB h3 hbw.size))⟩)
      simp only [putAll, List.take_succ_cons, List.take_zero]
      go_simp
    · intro x' w' hb hd
      have hbw : Below w.heap.size w w' := (below_drewN0 w k).trans hb
      have e0 : w'.cell? ⟨q, 0, none⟩ = some (.slice an ln c1) := (hbw.cell (p := ⟨q, 0, none⟩) hqw).trans cn
      have e1 : w'.cell? ⟨q, 1, none⟩ = some (.slice av lv c2) := (hbw.cell (p := ⟨q, 1, none⟩) hqw).trans cv
      have k8 : OwnAt RVal 1 w' w.heap.size 9 (x' 8) (xs.eraseIdx p) := hd 8 (by simp)
      have k17 : OwnAt RVal 1 w' w.heap.size 47 (x' 17) (ys.eraseIdx p) := hd 17 (by simp)
      obtain ⟨a8, c8, e8, _, _⟩ := k8.row.len
      obtain ⟨a17, c17, e17, _, _⟩ := k17.row.len
      refine owesK_here (.agg #[x' 8, x' 17]) (by rfl) ?_ rfl (else_of (by decide) (else_of (by decide) (Below.refl _ _)))
      simp only [putAll, List.take_succ_cons, List.take_zero]
      go_simp
    · intro x' w' hb hd
      have hbw : Below w.heap.size w w' := (below_drewN0 w k).trans hb
      have e0 : w'.cell? ⟨q, 0, none⟩ = some (.slice an ln c1) := (hbw.cell (p := ⟨q, 0, none⟩) hqw).trans cn
      have e1 : w'.cell? ⟨q, 1, none⟩ = some (.slice av lv c2) := (hbw.cell (p := ⟨q, 1, none⟩) hqw).trans cv
      have k8 : OwnAt RVal 1 w' w.heap.size 9 (x' 8) (xs.eraseIdx p) := hd 8 (by simp)
      have k17 : OwnAt RVal 1 w' w.heap.size 47 (x' 17) (ys.eraseIdx p) := hd 17 (by simp)
      have k18 : x' 18 = .agg #[x' 8, x' 17] := hd 18 (by simp)
      obtain ⟨a8, c8, e8, _, _⟩ := k8.row.len
      obtain ⟨a17, c17, e17, _, _⟩ := k17.row.len
      refine owesK_makes (.pointer (some ⟨w'.heap.size, 0, none⟩)) (w' := w'.alloc (.cells #[x' 8, x' 17] 101)) (by rfl) ?_ (⟨_, rfl, hbw.size, heap_alloc_new w' _⟩) (else_of (by decide) (else_of (by decide) ((Below.refl _ _).alloc (Nat.le_refl _) _)))
      simp only [putAll, List.take_succ_cons, List.take_zero]
      go_simp
    · intro x' w' hb hR
      have hbw : Below w.heap.size w w' := (below_drewN0 w k).trans hb
      have e0 : w'.cell? ⟨q, 0, none⟩ = some (.slice an ln c1) := (hbw.cell (p := ⟨q, 0, none⟩) hqw).trans cn
      have e1 : w'.cell? ⟨q, 1, none⟩ = some (.slice av lv c2) := (hbw.cell (p := ⟨q, 1, none⟩) hqw).trans cv
      have k8 : OwnAt RVal 1 w' w.heap.size 9 (x' 8) (xs.eraseIdx p) := hR 8 (by omega) rfl
      have k17 : OwnAt RVal 1 w' w.heap.size 47 (x' 17) (ys.eraseIdx p) := hR 17 (by omega) rfl
      obtain ⟨q', k19, hq1, kq⟩ : ∃ g, x' 19 = .pointer (some ⟨g, 0, none⟩) ∧ w.heap.size ≤ g ∧ w'.heap[g]? = some (.cells #[x' 8, x' 17] 101 (0, 0)) := hR 19 (by omega) rfl
      have Hb := Lib.hid hbw
      have K8 := Lib.hid k8
      have K17 := Lib.hid k17
      have Kq := Lib.hid kq
      clear hR hb hbw k8 k17 kq e0 e1
      simp only [putAll, List.take_succ_cons, List.take_zero, List.drop_succ_cons, List.drop_zero]
      try simp only [Act.put, List.setIfInBounds_toArray, List.set_cons_zero, List.set_cons_succ]
      go_wp2_with fail
      go_ret
      refine ⟨q', ?_, ?_, Hb.out⟩
      · show Ending.returned (x' 19) = _
        rw [k19]
      · refine Hfin.out w' q' (x' 8) (x' 17) (KeepT.of Hb.out) (fun hm => by have h9 := HT.out _ hm; omega) ?_ ?_ K8.out.row (off_new K8.out HT.out) K17.out.row (off_new K17.out HT.out)
        · rw [cell_block Kq.out]; rfl
        · rw [cell_block Kq.out]; rfl
  · rw [hg] at HS
    have hcut := cut_none hg
    rw [hcut]
    have Hob := Lib.hid hob
    clear hg hrn hrv hxr hyr hxR hyR hon hov hsp hs hxl hyl hob hcut hT
    go_enter Tryz.func99, Tryz.ntmps99
    go_wp2_with fail
    refine HS.out.mono ?_
    rintro E w1 ⟨rfl, k, rfl⟩
    go_wp2_with fail
    go_ret
    exact ⟨q, rfl, Hob.out.keepT (KeepT.drewN w k) (fun _ _ ⟨v, e, hv⟩ => ⟨v, e, hv.keepT (KeepT.drewN w k)⟩), below_drewN0 w k⟩
end Go.Proofs.YtdcmnpeabjallaaGreatDoor
namespace Go.Proofs.YtdcmnpeabjallaaGreatDoor
open Go.RowKit
open JP (JV Bs)
namespace JP
def gto (n : Bs) (l : Fs) : JV := (get n l).getD .nul
theorem gto_some {n : Bs} {l : Fs} {x : JV} (h : get n l = some x) : gto n l = x := by unfold gto; rw [h]; rfl
theorem get_memS {n : Bs} {w : JV} : ∀ {l : Fs}, Srt l → (n, w) ∈ l → get n l = some w
  | [], _, h => by cases h
  | (m, x) :: r, hs, h => by
    rw [get]
    rcases List.mem_cons.1 h with h | h
    · cases h; rw [if_pos rfl]
    · have h9 := (List.pairwise_cons.1 hs).1 (n, w) h
      by_cases e : m = n
      · subst e; exact absurd h9 (List.lt_irrefl m)
      · rw [if_neg e]; exact get_memS (List.pairwise_cons.1 hs).2 h
end JP
end Go.Proofs.YtdcmnpeabjallaaGreatDoor
namespace Go.Proofs.YtdcmnpeabjallaaGreatDoor
open Go.RowKit
open JP (JV Bs)
namespace JP
theorem take_snoc {l : Fs} {i : Nat} {y : Bs × JV} (h : l[i]? = some y) : l.take (i + 1) = l.take i ++ [y] := by
  obtain ⟨h1, h2⟩ := List.getElem?_eq_some_iff.1 h
  rw [List.take_add_one, h]; rfl
theorem name_len {n : Bs} {w : JV} : ∀ {l : Fs} {i : Nat}, l[i]? = some (n, w) → n.length + 1 + (text w).length + 2 ≤ lenF l
  | [], _, h => by simp at h
  | (m, x) :: r, 0, h => by
    simp only [List.getElem?_cons_zero, Option.some.injEq] at h
    cases h
    rw [lenF, quote_len]
    have : n.length ≤ (n.flatMap escB).length := by
      induction n with
      | nil => exact Nat.le_refl _
      | cons c r ih =>
        rw [List.flatMap_cons, List.length_append, List.length_cons]
        have : 1 ≤ (escB c).length := by unfold escB; split; · simp
                                         · split; · simp
                                           · split <;> simp
        omega
    omega
  | (m, x) :: r, i + 1, h => by
    rw [List.getElem?_cons_succ] at h
    have := name_len h
    rw [lenF]; omega
theorem get_at3 {l : Fs} (hs : Srt l) {j : Nat} {y : Bs × JV} (h : l[j]? = some y) : get y.1 l = some y.2 := get_memS hs (List.mem_of_getElem? h)
end JP
end Go.Proofs.YtdcmnpeabjallaaGreatDoor
namespace Go.Proofs.YtdcmnpeabjallaaGreatDoor
open Go.RowKit
set_option maxRecDepth 100000 in
theorem names_any (q : Nat) (vn : Value) (w : World) (h : w.cell? ⟨q, 0, none⟩ = some vn) :
    Calls Tryz.prog 87 #[.pointer (some ⟨q, 0, none⟩)] w fun e w' => e = .returned vn ∧ w = w' := by
  go_enter Tryz.func87, Tryz.ntmps87
  go_wp2_with fail
  go_ret
  exact ⟨rfl, rfl⟩
end Go.Proofs.YtdcmnpeabjallaaGreatDoor
namespace Go.Proofs.YtdcmnpeabjallaaGreatDoor
open Go.RowKit
open JP (JV Bs)
abbrev Leaf := List Bs × JV
def pathP (way : List Bs) : Bs := if 10 < way.length then [] else joinK way
def StrB (B : Nat) (w : World) (v : Value) (l : List ByteArray) : Prop := OwnAt RString 1 w B 9 v l
theorem own_strE {B : Nat} {e : TypeId} {v : Value} {l : List ByteArray} {w w' : World} (h : OwnAt RString 1 w B 9 v l) (hs : SameBut e w w') (hne : 9 ≠ e) : OwnAt RString 1 w' B 9 v l := by
  obtain ⟨css, h1, h2, h3, h4⟩ := h
  refine ⟨css, h1, h2, ⟨h3.1, ?_⟩, h4⟩
  rcases h3.2 with h5 | ⟨q, cap, cur, rfl, hB, hh, hr⟩
  · exact .inl h5
  · exact .inr ⟨q, cap, cur, rfl, hB, hs q cur _ _ hh hne, hr⟩
theorem StrB.stays {B : Nat} {w w' : World} {v : Value} {l : List ByteArray} (h : StrB B w v l) (hs : SameBut 65 w w') : StrB B w' v l := own_strE h hs (by decide)
theorem StrB.str {B : Nat} {w : World} {v : Value} {l : List ByteArray} (h : StrB B w v l) : StrAt w v l := (OwnAt.row h).strs
def LeafX (T : List Nat) (w0 : World) : Rd Leaf := fun w cs p => ∃ sv vv k, cs = [.string (mkB (pathP p.1)), sv, vv] ∧ StrB w0.heap.size w sv (p.1.map mkB) ∧ JvAt k T w0 vv p.2
theorem leafX_staysX (T : List Nat) (w0 : World) : StaysX 65 (LeafX T w0) := fun _ _ _ _ hs ⟨sv, vv, k, h1, h2, h3⟩ => ⟨sv, vv, k, h1, h2.stays hs, h3⟩
theorem strX_cell {B : Nat} {w : World} {v : Value} {l : List ByteArray} (h : StrB B w v l) : v.oneCell' = true := by
  obtain ⟨a, c, hv, _, _⟩ := (OwnAt.row h).len
  rw [hv]; rfl
theorem leafX_one (T : List Nat) (w0 : World) : OneR (LeafX T w0) := fun w cs x ⟨sv, vv, k, h1, h2, h3⟩ u hu => by
  rw [h1] at hu
  simp only [List.mem_cons, List.not_mem_nil, or_false] at hu
  rcases hu with rfl | rfl | rfl
  · rfl
  · exact strX_cell h2
  · exact one_jv k T w0 [u] x.2 ⟨u, rfl, h3⟩ u (List.mem_singleton.2 rfl)
theorem Tryz.infoLeaf : (Tryz.prog.info? 65).map (fun i => (i.zero, i.size, i.bytes)) = some (some (.agg #[.string ByteArray.empty, .slice none 0 0, .nilIface]), 3, 56) := by kernel_rfl
def GatAt (T : List Nat) (w0 : World) (out : List Leaf) (x : JV) (way : List Bs) (w : World) (e : Ending) (w' : World) : Prop :=
  ∃ ov', e = .returned ov' ∧ OwnAt (LeafX T w0) 3 w' w0.heap.size 65 ov' (out ++ JP.gat way x) ∧ Below w0.heap.size w0 w' ∧ SameBut 65 w w' ∧ w.heap.size ≤ w'.heap.size
def GatIn (n : Nat) : Prop := ∀ (T : List Nat) (v wv ov : Value) (x : JV) (way : List Bs) (out : List Leaf) (w0 w : World), JvAt n T w0 v x → StrB w0.heap.size w wv (way.map mkB) → OwnAt (LeafX T w0) 3 w w0.heap.size 65 ov out → Below w0.heap.size w0 w →
    out.length + JP.size x ≤ 1048576 → (way.map fun s => s.length + 1).sum + (JP.text x).length ≤ 20000 → (∃ m, MaxOK m w0) → Calls Tryz.prog 53 #[v, wv, ov] w (GatAt T w0 out x way w)
theorem below_drewG (B : Nat) (w : World) (k : Nat) : Below B w (w.drewN k) := ⟨rfl, rfl, rfl, Nat.le_refl _, fun _ _ => rfl⟩
theorem joinL_mk (way : List Bs) : joinL (way.map mkB) = joinK way := by
  rw [joinL_map, List.map_map]
  have : ((fun s : ByteArray => s.data.toList) ∘ mkB) = id := funext fun s => mkB_list s
  rw [this, List.map_id]
theorem total_mk (way : List Bs) : total (way.map mkB) = (way.map fun s => s.length + 1).sum := by
  unfold total
  rw [List.map_map]
  refine congrArg List.sum (List.map_congr_left fun s _ => ?_)
  show (mkB s).size + 1 = _
  rw [mkB_size]
theorem way_len2 (way : List Bs) : way.length ≤ (way.map fun s => s.length + 1).sum := by
  induction way with
  | nil => exact Nat.le_refl _
  | cons s r ih => rw [List.map_cons, List.sum_cons, List.length_cons]; omega
theorem way_sum2 (way : List Bs) (n : Bs) : ((way ++ [n]).map fun s => s.length + 1).sum = (way.map fun s => s.length + 1).sum + (n.length + 1) := by
  rw [List.map_append, List.sum_append]; simp
theorem JP.sizeF_long : ∀ l : List (Bs × JV), l.length ≤ JP.sizeF l
  | [] => Nat.zero_le _
  | (n, v) :: r => by
    have := JP.sizeF_long r
    have := JP.size_pos v
    rw [List.length_cons, JP.sizeF]; omega
theorem jv_shape {n : Nat} {T : List Nat} {w : World} {v : Value} {x : JV} (h : JvAt n T w v x) : v = .nilIface ∨ ∃ t u, v = .iface t u := by
  cases n with
  | zero => cases h
  | succ n =>
    cases x with
    | nul => exact .inl h
    | bool b => exact .inr ⟨_, _, h⟩
    | num k => exact .inr ⟨_, _, h.1⟩
    | str s => exact .inr ⟨_, _, h⟩
    | list l => obtain ⟨u, h1, _⟩ := h; exact .inr ⟨_, _, h1⟩
    | obj l => obtain ⟨q, h1, _⟩ := h; exact .inr ⟨_, _, h1⟩
theorem strX_raw {w : World} {v : Value} {L : List ByteArray} (h : StrAt w v L) : RowAt RVal 1 w v (L.map .string) := by
  rcases h.row with ⟨h1, rfl⟩ | ⟨a, c, h1, h2, h3, h4⟩
  · exact .inl ⟨h1, rfl⟩
  · refine .inr ⟨a, c, by rw [List.length_map]; exact h1, by rw [List.length_map]; exact h2, h3, fun j x hx => ?_⟩
    rw [List.getElem?_map] at hx
    obtain ⟨y, hy, rfl⟩ := Option.map_eq_some_iff.1 hx
    obtain ⟨cs, g1, g2, g3⟩ := h4 j y hy
    obtain rfl : cs = [.string y] := g3
    exact ⟨_, g1, g2, rfl, rfl⟩
theorem raw_own {w : World} {B : Nat} {e : TypeId} {v : Value} {L : List ByteArray} (h : OwnAt RVal 1 w B e v (L.map .string)) : OwnAt RString 1 w B e v L := by
  obtain ⟨css, h1, h2, h3, h4⟩ := h
  rw [List.length_map] at h1 h3
  refine ⟨css, h1, h2, h3, fun j cs x hcs hx => ?_⟩
  have := h4 j cs (.string x) hcs (by rw [List.getElem?_map, hx]; rfl)
  exact this.1
def AtJ (T : List Nat) (n : Nat) (w0 : World) : Rd JV := fun _ cs x => ∃ v, cs = [v] ∧ JvAt n T w0 v x
set_option maxRecDepth 100000 in
set_option maxHeartbeats 1600000 in
theorem get_at {n : Nat} {w0 : World} {T : List Nat} {q : Nat} {d : List (Bs × JV)} {x : Bs} {w : World} (h : ObR (AtJ T n w0) T w q d) (hl : d.length ≤ 1048576) :
    Calls Tryz.prog 69 #[.pointer (some ⟨q, 0, none⟩), .string (mkB x)] w fun e w' => ∃ v, e = .returned (.tuple #[v, .bool (JP.get x d).isSome]) ∧ (∀ y, JP.get x d = some y → JvAt n T w0 v y) ∧ (JP.get x d = none → v = .nilIface) ∧ ∃ k, w' = w.drewN k := by
  obtain ⟨_, hs, vn, vv, cn, cv, hrn, _, hrv, _⟩ := h
  have HS := Lib.hid (search_any (x := x) hs hrn hl)
  have hpl := JP.pos_le x d
  have HF := Lib.hid (JP.find_spec (n := x) hs)
  obtain ⟨p, hp⟩ : ∃ p, JP.pos x d = p := ⟨_, rfl⟩
  rw [hp] at HS HF hpl
  have Hrv := Lib.hid hrv
  clear hrn hrv hs hp
  rcases HF.out with ⟨y, hy, hg, _⟩ | ⟨_, hg, _⟩
  · have hlt : p < d.length := (List.getElem?_eq_some_iff.1 hy).1
    obtain ⟨b, o, c, rfl, _, _, hbs, hcell⟩ := Hrv.out.form (by rw [List.length_map]; omega) (by omega)
    rw [List.length_map] at cv
    obtain ⟨cs, _, hcc, vx, rfl, hvx⟩ := hcell p y (by rw [List.getElem?_map, hy]; rfl)
    have e0 : w.cell? ⟨b, o + p, none⟩ = some vx := by simpa using hcc 0 _ rfl
    have HX := Lib.hid hvx
    have HG := Lib.hid hg
    rw [hg] at HS
    have q1 : (0 : Int) ≤ (p : Int) := by omega
    have q2 : (p : Int) < (d.length : Int) := by omega
    clear hcell hcc hvx hg hy HF
    go_enter Tryz.func69, Tryz.ntmps69
    go_wp2_with fail
    refine HS.out.mono ?_
    rintro E w1 ⟨rfl, k, rfl⟩
    have e1 : (w.drewN k).cell? ⟨b, o + p, none⟩ = some vx := e0
    have cv1 : (w.drewN k).cell? ⟨q, 1, none⟩ = _ := cv
    go_wp2_with fail
    go_ret2
    have hg := HG.out
    refine ⟨vx, by rw [hg]; rfl, ?_, ?_, k, rfl⟩
    · intro y' h'
      rw [hg] at h'
      cases h'
      exact HX.out
    · intro h'
      rw [hg] at h'
      cases h'
  · have HG := Lib.hid hg
    rw [hg] at HS
    clear hg HF
    go_enter Tryz.func69, Tryz.ntmps69
    go_wp2_with fail
    refine HS.out.mono ?_
    rintro E w1 ⟨rfl, k, rfl⟩
    go_wp2_with fail
    go_ret2
    have hg := HG.out
    refine ⟨.nilIface, by rw [hg]; rfl, ?_, fun _ => rfl, k, rfl⟩
    intro y' h'
    rw [hg] at h'
    cases h'
theorem gat_leaf {T : List Nat} {w0 : World} {out : List Leaf} {x : JV} {way : List Bs} {w w' : World} {ov' : Value} (h1 : JP.gat way x = [(way, x)]) (hv : OwnAt (LeafX T w0) 3 w' w0.heap.size 65 ov' (out ++ [(way, x)])) (hb : Below w0.heap.size w0 w') (hs : SameBut 65 w w') (hz : w.heap.size ≤ w'.heap.size) : GatAt T w0 out x way w (.returned ov') w' :=
  ⟨ov', rfl, by rw [h1]; exact hv, hb, hs, hz⟩
set_option maxRecDepth 100000 in
set_option maxHeartbeats 12800000 in
theorem gather_step (n : Nat) (ih : GatIn n) : GatIn (n + 1) := by
  intro T v wv ov x way out w0 w hv hw ho hb hl ht hm
  obtain ⟨mx, hm⟩ := hm
  obtain ⟨i0, hi0, hz0, hz1, hz2⟩ := info_parts Tryz.infoLeaf
  obtain ⟨j0, hj0, hy0, hy1, hy2⟩ := info_parts Tryz.infoStr
  have hway := way_len2 way
  have htot := total_mk way
  have hgl := JP.gat_len way x
  have hxs := JP.size_pos x
  obtain ⟨wa, wc, hwe, _, _⟩ := hw.str.row.len
  obtain ⟨wn, hwn⟩ : ∃ m, (way.map mkB).length = m := ⟨_, rfl⟩
  rw [hwn] at hwe
  subst hwe
  have hwl : way.length = wn := by rw [← hwn, List.length_map]
  have hJ0 := ptrJoin_any (.slice wa wn wc) (way.map mkB) mx w hw.str (by rw [htot]; omega) (hm.below hb)
  have hJr : (if 10 < (way.map mkB).length then Value.tuple #[.string ⟨#[]⟩, .int .i64 2] else .tuple #[.string ⟨(joinL (way.map mkB)).toArray⟩, .int .i64 0]) = .tuple #[.string (mkB (pathP way)), .int .i64 (if 10 < way.length then 2 else 0)] := by
    rw [joinL_mk, List.length_map]
    unfold pathP
    split <;> rfl
  rw [hJr] at hJ0
  obtain ⟨JE, hJE⟩ : ∃ e : Int, (if 10 < way.length then 2 else 0) = e := ⟨_, rfl⟩
  rw [hJE] at hJ0
  have HJ := Lib.hid hJ0
  have HO := Lib.hid ho
  have HW := Lib.hid hw
  have HB := Lib.hid hb
  have Hm := Lib.hid hm
  have hs := hb.size
  clear hJ0 hJr hJE ho hm htot
  by_cases hobj : ∃ l, x = .obj l
  · obtain ⟨l, rfl⟩ := hobj
    obtain ⟨q, rfl, hob⟩ := hv
    have GB := (as_obj (.pointer (some ⟨q, 0, none⟩))).2.2.2.2
    have hqm : q ∉ T := hob.1
    have hob0 := hob
    obtain ⟨_, hsrt, vn, vv, cn, cv, hrn, _, hrv, _⟩ := hob0
    obtain ⟨an, cn2, hne, _, _⟩ := hrn.len
    obtain ⟨ln, hln⟩ : ∃ m, l.length = m := ⟨_, rfl⟩
    rw [List.length_map, hln] at hne
    subst hne
    have hq0 : q < w0.heap.size := World.block_lt_of_cell? w0 _ cn
    have cnw := (hb.cell (p := ⟨q, 0, none⟩) hq0).trans cn
    have HOb := Lib.hid hob
    have HRn := Lib.hid hrn
    have HV : Hid (JvAt (n + 1) T w0 (.iface 88 (.pointer (some ⟨q, 0, none⟩))) (.obj l)) := Lib.hid ⟨q, rfl, hob⟩
    have HCn := Lib.hid cn
    by_cases h0 : ln = 0
    · subst h0
      obtain rfl : l = [] := List.eq_nil_of_length_eq_zero hln
      by_cases hw0 : wn = 0
      · have hwy : way = [] := List.eq_nil_of_length_eq_zero (by omega)
        have HGo : Hid (GatAt T w0 out (.obj []) way w (.returned ov) w) := Lib.hid ⟨ov, rfl, by rw [hwy, JP.gat]; simpa using HO.out, HB.out, fun _ _ _ _ h _ => h, Nat.le_refl _⟩
        have HNm := Lib.hid (names_any q _ w cnw)
        subst hw0
        clear hwy hwl hwn hln hob hrn hrv cn cv hsrt hqm ih hw hb cnw hgl HJ
        go_enter Tryz.func53, Tryz.ntmps53
        go_wp2_with fail
        refine HNm.out.mono ?_
        rintro E wz ⟨rfl, rfl⟩
        go_wp2_with fail
        go_ret
        exact HGo.out
      · have hwy : way ≠ [] := fun e => hw0 (by rw [← hwl, e]; rfl)
        have Hgat : Hid (JP.gat way (.obj []) = [(way, .obj [])]) := Lib.hid (by rw [JP.gat]; simp [hwy])
        have HNm := Lib.hid (names_any q _ w cnw)
        have qn : ((wn : Int) == 0) = false := by rw [beq_eq_false_iff_ne]; omega
        obtain ⟨x0, hx0⟩ : ∃ y, y = JV.obj [] := ⟨_, rfl⟩
        rw [← hx0] at HV Hgat hl ht ⊢
        clear hwy hwl hwn hln hob hrn hrv cn cv hsrt hqm ih hw hb cnw hgl hx0 hw0
        go_enter Tryz.func53, Tryz.ntmps53
        go_wp2_with fail
        refine HNm.out.mono ?_
        rintro E wz ⟨rfl, rfl⟩
        clear HNm
        go_wp2_with fail
        refine HJ.out.mono ?_
        rintro E w1 ⟨rfl, hb1⟩
        have HO1 := Lib.hid (HO.out.belowX (leafX_staysX _ _) hb1)
        have HB1 := Lib.hid (HB.out.trans (hb1.mono HB.out.size))
        have HW1 := Lib.hid (HW.out.stays (sameBut_below hb1))
        have HS1 := Lib.hid (sameBut_below (e := 65) hb1)
        have hs1 := hb1.size
        have hs0 := HB1.out.size
        clear hb1 HJ HO HB HW
        obtain ⟨w2, hw2⟩ : ∃ w2, w2 = w1.alloc (.cells #[.string (mkB (pathP way)), .slice wa wn wc, .iface 88 (.pointer (some ⟨q, 0, none⟩))] 65) := ⟨_, rfl⟩
        have hb2 : Below w1.heap.size w1 w2 := by rw [hw2]; exact (Below.refl _ w1).alloc (Nat.le_refl _) _
        have hx2 : LeafX T w0 w2 [.string (mkB (pathP way)), .slice wa wn wc, .iface 88 (.pointer (some ⟨q, 0, none⟩))] (way, x0) := ⟨_, _, _, rfl, HW1.out.stays (sameBut_below hb2), HV.out⟩
        have hr2 : RowAt (LeafX T w0) 3 w2 (.slice (some ⟨w1.heap.size, 0, none⟩) 1 1) [(way, x0)] := by rw [hw2]; exact RowAt.one (R := LeafX T w0) (k := 3) (cs := #[.string (mkB (pathP way)), .slice wa wn wc, .iface 88 (.pointer (some ⟨q, 0, none⟩))]) (heap_alloc_new w1 _) rfl (by rw [← hw2]; exact hx2)
        have HR2 := Lib.hid hr2
        have HO2 := Lib.hid (HO1.out.belowX (leafX_staysX _ _) hb2)
        have HB2 := Lib.hid (HB1.out.trans (hb2.mono HB1.out.size))
        have HS2 := Lib.hid (HS1.out.trans (sameBut_below (e := 65) hb2))
        have hs2 := hb2.size
        have hs02 : w0.heap.size ≤ w2.heap.size := by omega
        clear hb2 hx2 hr2 HO1 HB1 HW1 HS1
        go_wp2_with (at_builtin; rw [← hw2]; refine wpList_append_ownAtX (R := LeafX T w0) (k := 3) (e := 65) (B := w0.heap.size) (l := out) (m := [(way, x0)]) _ (by rfl) _ _ _ (by rfl) i0 _ 56 Tryz.underlying58 hi0 hz0 hz1 hz2 rfl (by omega) (leafX_staysX _ _) (leafX_one _ _) _ (by rfl) HO2.out _ (by rfl) HR2.out (by unfold maxLen; simp; omega) (by simp; omega) hs02 ?_)
        intro v' w3 hv' hgr hr _
        rw [← hw2] at hgr
        have hb3 := below_of_grown HB2.out hs02 hgr hr
        have hs3 := HS2.out.trans (HO2.out.sameBut hgr)
        have HGo := Lib.hid (gat_leaf (w := w) (Hgat.out) hv' hb3 hs3 (by have := hgr.size; omega))
        clear hv' hgr hr hb3 hs3 hw2 HR2 HO2 HB2 HS2
        go_wp2_with fail
        go_ret
        exact HGo.out
    · have hpos : (0 : Int) < (ln : Int) := by omega
      have Hgat : Hid (JP.gat way (.obj l) = JP.gatF way l) := Lib.hid (by
        rw [JP.gat, if_neg]
        intro e
        have : l = [] := by simpa using e
        rw [this] at hln
        exact h0 hln.symm)
      have HNm := Lib.hid (names_any q _ w cnw)
      have Hln := Lib.hid hln
      have hln9 : ln ≤ 1048576 := by
        have h8 : JP.size (.obj l) = 1 + JP.sizeF l := by rw [JP.size]
        have h9 := JP.sizeF_long l
        omega
      have Hsz : Hid (out.length + 1 + JP.sizeF l ≤ 1048576) := Lib.hid (by have h8 : JP.size (.obj l) = 1 + JP.sizeF l := by rw [JP.size]
                                                                            show _ ≤ _; omega)
      have Hty : Hid ((way.map fun s => s.length + 1).sum + (JP.text (.obj l)).length ≤ 20000) := Lib.hid ht
      have HIh := Lib.hid ih
      have Hwn := Lib.hid hwn
      have Hsrt := Lib.hid hsrt
      have Hw0 : Hid (way.length ≤ 20000) := Lib.hid (by have := ht; omega)
      clear h0 hwl hwn hln hob hrn hrv cn cv hsrt hqm ih hw hb hgl HJ hl ht hxs
      go_enter Tryz.func53, Tryz.ntmps53
      go_wp2_with fail
      refine HNm.out.mono ?_
      rintro E wz ⟨rfl, rfl⟩
      go_wp2_with fail
      refine HNm.out.mono ?_
      rintro E wz ⟨rfl, rfl⟩
      clear HNm
      go_wp2_with fail
      go_loopg [2, 30] ln (fun k u2 u30 wr => ∃ i : Nat, i + k = ln ∧ u30 = .int .i64 (i : Int) ∧ Hid (OwnAt (LeafX T w0) 3 wr w0.heap.size 65 u2 (out ++ JP.gatF way (l.take i))) ∧ Hid (Below w0.heap.size w0 wr) ∧ Hid (SameBut 65 w wr) ∧ Hid (w.heap.size ≤ wr.heap.size))
      case atStart => exact ⟨0, by omega, rfl, Lib.hid (by rw [List.take_zero, JP.gatF, List.append_nil]; exact HO.out), HB, Lib.hid (fun _ _ _ _ h _ => h), Lib.hid (Nat.le_refl _)⟩
      case round =>
        obtain ⟨i, hik, rfl, HO, HB, HS, HZ⟩ := hrel
        cases gk with
        | zero =>
          have hil : i = ln := by omega
          subst hil
          have q9 : ¬ (i : Int) < (i : Int) := by omega
          have htk : l.take i = l := List.take_of_length_le (by rw [Hln.out]; exact Nat.le_refl _)
          rw [htk] at HO
          have HGo := Lib.hid (show GatAt T w0 out (.obj l) way w (.returned _) _ from ⟨_, rfl, by rw [Hgat.out]; exact HO.out, HB.out, HS.out, HZ.out⟩)
          clear htk HO HB HS HZ
          go_wp2_with fail
          go_ret
          exact HGo.out
        | succ k =>
          have hil : i < ln := by omega
          obtain ⟨y, hy⟩ : ∃ y, l[i]? = some y := ⟨l[i]'(by rw [Hln.out]; exact hil), List.getElem?_eq_getElem _⟩
          obtain ⟨b1, o1, c', hv1, _, _, hbs1, hcell1⟩ := HRn.out.form (by rw [List.length_map, Hln.out]; omega) (by omega)
          injection hv1 with u1 u2 u3
          subst u1
          clear u2 u3
          obtain ⟨ds1, _, hcc1, hR1⟩ := hcell1 i (mkB y.1) (by rw [List.getElem?_map, hy]; rfl)
          obtain rfl : ds1 = [.string (mkB y.1)] := hR1
          have e9 : w0.cell? ⟨b1, o1 + i, none⟩ = some (.string (mkB y.1)) := by simpa using hcc1 0 _ rfl
          have e0 := (HB.out.cell (p := ⟨b1, o1 + i, none⟩) (World.block_lt_of_cell? w0 _ e9)).trans e9
          have q1 : (0 : Int) ≤ (i : Int) := by omega
          have q2 : (i : Int) < (ln : Int) := by omega
          have Hy := Lib.hid hy
          have HG := Lib.hid (get_at (x := y.1) (HOb.out.keepT (R' := AtJ T n w0) (KeepT.of HB.out) (fun _ _ h => h)) (by rw [Hln.out]; exact hln9))
          have hget := JP.get_at3 Hsrt.out hy
          rw [hget] at HG
          have Hst := Lib.hid (JP.gatF_step way hy)
          have Hs1 := Lib.hid (JP.sizeF_here hy)
          have Hs2 := Lib.hid (JP.gatF_len way (l.take i))
          have Hs3 : Hid (y.1.length + 1 + (JP.text y.2).length + 2 ≤ JP.lenF l) := Lib.hid (JP.name_len (show l[i]? = some (y.1, y.2) from hy))
          have Hs4 := Lib.hid (lenF_text l)
          clear hcell1 hcc1 hy e9 hget hbs1
          go_wp2_with fail
          refine HG.out.mono ?_
          rintro E w1 ⟨vg, rfl, hvg, _, kd, rfl⟩
          have Hvg := Lib.hid (hvg y.2 rfl)
          have hbd := below_drewG (wr.heap.size) wr kd
          obtain ⟨w3, hw3⟩ : ∃ u, wr.drewN kd = u := ⟨_, rfl⟩
          rw [hw3] at hbd ⊢
          have HO3 := Lib.hid (HO.out.belowX (leafX_staysX _ _) hbd)
          have HB3 := Lib.hid (HB.out.trans (hbd.mono HB.out.size))
          have HS3 := Lib.hid (HS.out.trans (sameBut_below (e := 65) hbd))
          have HZ3 : Hid (w.heap.size ≤ w3.heap.size) := Lib.hid (Nat.le_trans HZ.out hbd.size)
          have HW3 := Lib.hid (HW.out.stays HS3.out)
          clear hvg hbd hw3 HG e0 HO HB HS HZ
          have HCl := Lib.hid (cloneStr_any (.slice wa wn wc) _ w3 (strX_raw HW3.out.str) (by rw [List.length_map, List.length_map]; have := Hw0.out; omega))
          go_wp2_with fail
          refine HCl.out.mono ?_
          rintro E wk ⟨vc, rfl, hown, hbc⟩
          have HOwn := Lib.hid hown
          have Hbc := Lib.hid hbc
          clear hown hbc HCl
          have hb7 : Below wk.heap.size wk (wk.alloc (.cells #[.string (mkB y.1)] 9)) := (Below.refl _ wk).alloc (Nat.le_refl _) _
          have HOwn7 := Lib.hid (HOwn.out.below stays_val hb7)
          have Hb7 := Lib.hid (Hbc.out.trans (hb7.mono Hbc.out.size))
          have Hs7 : Hid (w3.heap.size ≤ (wk.alloc (.cells #[.string (mkB y.1)] 9)).heap.size) := Lib.hid Hb7.out.size
          have hr1 : RowAt RVal 1 (wk.alloc (.cells #[.string (mkB y.1)] 9)) (.slice (some ⟨wk.heap.size, 0, none⟩) 1 1) [Value.string (mkB y.1)] := RowAt.one (R := RVal) (x := Value.string (mkB y.1)) (heap_alloc_new wk _) rfl ⟨rfl, rfl⟩
          have bd1 : ((way.map mkB).map Value.string).length + [Value.string (mkB y.1)].length ≤ maxLen := by unfold maxLen; rw [List.length_map, List.length_map]; simp only [List.length_cons, List.length_nil]; have := Hw0.out; omega
          have bd2 : (((way.map mkB).map Value.string).length + [Value.string (mkB y.1)].length) * 16 ≤ 140737488355328 := by rw [List.length_map, List.length_map]; simp only [List.length_cons, List.length_nil]; have := Hw0.out; omega
          clear hb7
          go_wp2_with (at_builtin; refine wpList_append_ownAt (R := RVal) (k := 1) (e := 9) (B := w3.heap.size) (l := (way.map mkB).map .string) (m := [.string (mkB y.1)]) _ (by rfl) _ _ _ (by rfl) j0 _ 16 Tryz.underlying28 hj0 hy0 hy1 hy2 rfl (by omega) flat_val one_val _ (by rfl) HOwn7.out _ (by rfl) hr1 bd1 bd2 Hs7.out ?_)
          intro v8 w8 hv8 hg8 hr8 _
          have hb8 : Below w3.heap.size w3 w8 := Hb7.out.trans (below_of_grown (Below.refl _ _) Hs7.out hg8 hr8)
          have hst8 : StrB w0.heap.size w8 v8 ((way ++ [y.1]).map mkB) := by
            refine (raw_own (L := (way ++ [y.1]).map mkB) (by rw [List.map_append, List.map_append, List.map_map]; exact hv8)).mono (by have := HB3.out.size; omega)
          have HO8 := Lib.hid (HO3.out.belowX (leafX_staysX _ _) hb8)
          have HB8 := Lib.hid (HB3.out.trans (hb8.mono HB3.out.size))
          have HS8 := Lib.hid (HS3.out.trans (sameBut_below (e := 65) hb8))
          have HZ8 : Hid (w.heap.size ≤ w8.heap.size) := Lib.hid (Nat.le_trans HZ3.out hb8.size)
          have HI := Lib.hid (HIh.out T vg v8 _ y.2 (way ++ [y.1]) (out ++ JP.gatF way (l.take i)) w0 w8 Hvg.out hst8 HO8.out HB8.out (by rw [List.length_append]; have := Hs1.out; have := Hs2.out; have := Hsz.out; omega) (by rw [way_sum2]; have := Hs3.out; have := Hs4.out; have := Hty.out; omega) ⟨mx, Hm.out⟩)
          clear hv8 hg8 hr8 hb8 hst8 HOwn7 HOwn Hb7 Hs7 hr1 bd1 bd2 Hbc HO3 HB3 HS3 HZ3 HW3 HO8 HB8
          go_wp2_with fail
          refine HI.out.mono ?_
          rintro E w9 ⟨v9, rfl, ho9, hb9, hs9, hz9⟩
          have HO9 : Hid (OwnAt (LeafX T w0) 3 w9 w0.heap.size 65 v9 (out ++ JP.gatF way (l.take (i + 1)))) := Lib.hid (by rw [Hst.out, ← List.append_assoc]; exact ho9)
          have HB9 := Lib.hid hb9
          have HS9 := Lib.hid (HS8.out.trans hs9)
          have HZ9 : Hid (w.heap.size ≤ w9.heap.size) := Lib.hid (Nat.le_trans HZ8.out hz9)
          clear ho9 hb9 hs9 hz9 HI HS8 HZ8
          go_wp2_with fail
          go_roundg k
          case measure => omega
          case rel => exact ⟨i + 1, by omega, by go_num, HO9, HB9, HS9, HZ9⟩
  · have hno : ∀ l, x ≠ .obj l := fun l e => hobj ⟨l, e⟩
    have GA := as_other hv hno
    have hgat := JP.gat_other hno way
    obtain ⟨x0, hx0⟩ : ∃ y, x = y := ⟨_, rfl⟩
    have HV := Lib.hid hv
    rw [hx0] at HV hgat ⊢
    have Hgat := Lib.hid hgat
    have hform := jv_shape hv
    clear hobj hno hv hw hb hgat ih hgl hx0 hwn hwl
    rcases hform with rfl | ⟨vt, vu, rfl⟩
    · go_enter Tryz.func53, Tryz.ntmps53
      go_wp2_with fail
      refine HJ.out.mono ?_
      rintro E w1 ⟨rfl, hb1⟩
      have HO1 := Lib.hid (HO.out.belowX (leafX_staysX _ _) hb1)
      have HB1 := Lib.hid (HB.out.trans (hb1.mono HB.out.size))
      have HW1 := Lib.hid (HW.out.stays (sameBut_below hb1))
      have HS1 := Lib.hid (sameBut_below (e := 65) hb1)
      have hs1 := hb1.size
      have hs0 := HB1.out.size
      clear hb1 HJ HO HB HW
      obtain ⟨w2, hw2⟩ : ∃ w2, w2 = w1.alloc (.cells #[.string (mkB (pathP way)), .slice wa wn wc, .nilIface] 65) := ⟨_, rfl⟩
      have hb2 : Below w1.heap.size w1 w2 := by rw [hw2]; exact (Below.refl _ w1).alloc (Nat.le_refl _) _
      have hx2 : LeafX T w0 w2 [.string (mkB (pathP way)), .slice wa wn wc, .nilIface] (way, x0) := ⟨_, _, _, rfl, HW1.out.stays (sameBut_below hb2), HV.out⟩
      have hr2 : RowAt (LeafX T w0) 3 w2 (.slice (some ⟨w1.heap.size, 0, none⟩) 1 1) [(way, x0)] := by rw [hw2]; exact RowAt.one (R := LeafX T w0) (k := 3) (cs := #[.string (mkB (pathP way)), .slice wa wn wc, .nilIface]) (heap_alloc_new w1 _) rfl (by rw [← hw2]; exact hx2)
      have HR2 := Lib.hid hr2
      have HO2 := Lib.hid (HO1.out.belowX (leafX_staysX _ _) hb2)
      have HB2 := Lib.hid (HB1.out.trans (hb2.mono HB1.out.size))
      have HS2 := Lib.hid (HS1.out.trans (sameBut_below (e := 65) hb2))
      have hs2 := hb2.size
      have hs02 : w0.heap.size ≤ w2.heap.size := by omega
      clear hb2 hx2 hr2 HO1 HB1 HW1 HS1
      go_wp2_with (at_builtin; rw [← hw2]; refine wpList_append_ownAtX (R := LeafX T w0) (k := 3) (e := 65) (B := w0.heap.size) (l := out) (m := [(way, x0)]) _ (by rfl) _ _ _ (by rfl) i0 _ 56 Tryz.underlying58 hi0 hz0 hz1 hz2 rfl (by omega) (leafX_staysX _ _) (leafX_one _ _) _ (by rfl) HO2.out _ (by rfl) HR2.out (by unfold maxLen; simp; omega) (by simp; omega) hs02 ?_)
      intro v' w3 hv' hgr hr _
      rw [← hw2] at hgr
      have hb3 := below_of_grown HB2.out hs02 hgr hr
      have hs3 := HS2.out.trans (HO2.out.sameBut hgr)
      have HGo := Lib.hid (gat_leaf (w := w) (Hgat.out) hv' hb3 hs3 (by have := hgr.size; omega))
      clear hv' hgr hr hb3 hs3 hw2 HR2 HO2 HB2 HS2
      go_wp2_with fail
      go_ret
      exact HGo.out
    · go_enter Tryz.func53, Tryz.ntmps53
      go_wp2_with fail
      refine HJ.out.mono ?_
      rintro E w1 ⟨rfl, hb1⟩
      have HO1 := Lib.hid (HO.out.belowX (leafX_staysX _ _) hb1)
      have HB1 := Lib.hid (HB.out.trans (hb1.mono HB.out.size))
      have HW1 := Lib.hid (HW.out.stays (sameBut_below hb1))
      have HS1 := Lib.hid (sameBut_below (e := 65) hb1)
      have hs1 := hb1.size
      have hs0 := HB1.out.size
      clear hb1 HJ HO HB HW
      obtain ⟨w2, hw2⟩ : ∃ w2, w2 = w1.alloc (.cells #[.string (mkB (pathP way)), .slice wa wn wc, .iface vt vu] 65) := ⟨_, rfl⟩
      have hb2 : Below w1.heap.size w1 w2 := by rw [hw2]; exact (Below.refl _ w1).alloc (Nat.le_refl _) _
      have hx2 : LeafX T w0 w2 [.string (mkB (pathP way)), .slice wa wn wc, .iface vt vu] (way, x0) := ⟨_, _, _, rfl, HW1.out.stays (sameBut_below hb2), HV.out⟩
      have hr2 : RowAt (LeafX T w0) 3 w2 (.slice (some ⟨w1.heap.size, 0, none⟩) 1 1) [(way, x0)] := by rw [hw2]; exact RowAt.one (R := LeafX T w0) (k := 3) (cs := #[.string (mkB (pathP way)), .slice wa wn wc, .iface vt vu]) (heap_alloc_new w1 _) rfl (by rw [← hw2]; exact hx2)
      have HR2 := Lib.hid hr2
      have HO2 := Lib.hid (HO1.out.belowX (leafX_staysX _ _) hb2)
      have HB2 := Lib.hid (HB1.out.trans (hb2.mono HB1.out.size))
      have HS2 := Lib.hid (HS1.out.trans (sameBut_below (e := 65) hb2))
      have hs2 := hb2.size
      have hs02 : w0.heap.size ≤ w2.heap.size := by omega
      clear hb2 hx2 hr2 HO1 HB1 HW1 HS1
      go_wp2_with (at_builtin; rw [← hw2]; refine wpList_append_ownAtX (R := LeafX T w0) (k := 3) (e := 65) (B := w0.heap.size) (l := out) (m := [(way, x0)]) _ (by rfl) _ _ _ (by rfl) i0 _ 56 Tryz.underlying58 hi0 hz0 hz1 hz2 rfl (by omega) (leafX_staysX _ _) (leafX_one _ _) _ (by rfl) HO2.out _ (by rfl) HR2.out (by unfold maxLen; simp; omega) (by simp; omega) hs02 ?_)
      intro v' w3 hv' hgr hr _
      rw [← hw2] at hgr
      have hb3 := below_of_grown HB2.out hs02 hgr hr
      have hs3 := HS2.out.trans (HO2.out.sameBut hgr)
      have HGo := Lib.hid (gat_leaf (w := w) (Hgat.out) hv' hb3 hs3 (by have := hgr.size; omega))
      clear hv' hgr hr hb3 hs3 hw2 HR2 HO2 HB2 HS2
      go_wp2_with fail
      go_ret
      exact HGo.out
end Go.Proofs.YtdcmnpeabjallaaGreatDoor
namespace Go.Proofs.YtdcmnpeabjallaaGreatDoor
open Go.RowKit Go.Shelf Go.Sort
open JP (JV Bs)
theorem cmpB_self : ∀ a : List UInt8, Lib.compareBytes a a = 0
  | [] => rfl
  | x :: r => by unfold Lib.compareBytes; simp [cmpB_self r, UInt8.lt_irrefl]
theorem cmpB_trans : ∀ a b c : List UInt8, Lib.compareBytes a b < 0 → Lib.compareBytes b c < 0 → Lib.compareBytes a c < 0
  | _, [], [], _, h2 => by simp [Lib.compareBytes] at h2
  | [], [], _ :: _, _, _ => by simp [Lib.compareBytes]
  | _ :: _, [], _ :: _, h1, _ => by simp [Lib.compareBytes] at h1
  | _, _ :: _, [], _, h2 => by simp [Lib.compareBytes] at h2
  | [], _ :: _, _ :: _, _, _ => by simp [Lib.compareBytes]
  | x :: xs, y :: ys, z :: zs, h1, h2 => by
    have ih := cmpB_trans xs ys zs
    simp only [Lib.compareBytes, UInt8.lt_iff_toNat_lt] at h1 h2 ⊢
    by_cases p1 : x.toNat < y.toNat <;> by_cases p2 : y.toNat < x.toNat <;> by_cases p3 : y.toNat < z.toNat <;> by_cases p4 : z.toNat < y.toNat <;> by_cases p5 : x.toNat < z.toNat <;> by_cases p6 : z.toNat < x.toNat <;> first
      | (exfalso; omega)
      | (simp only [p1, p2, p3, p4, p5, p6, if_true, if_false] at h1 h2 ⊢; first | exact ih h1 h2 | omega)
theorem cmpB_ntrans : ∀ a b c : List UInt8, ¬ Lib.compareBytes a b < 0 → ¬ Lib.compareBytes b c < 0 → ¬ Lib.compareBytes a c < 0
  | [], [], [], _, _ => by simp [Lib.compareBytes]
  | _ :: _, [], [], _, _ => by simp [Lib.compareBytes]
  | _, [], _ :: _, _, h2 => by simp [Lib.compareBytes] at h2
  | [], _ :: _, _, h1, _ => by simp [Lib.compareBytes] at h1
  | _ :: _, _ :: _, [], _, _ => by simp [Lib.compareBytes]
  | x :: xs, y :: ys, z :: zs, h1, h2 => by
    have ih := cmpB_ntrans xs ys zs
    simp only [Lib.compareBytes, UInt8.lt_iff_toNat_lt] at h1 h2 ⊢
    by_cases p1 : x.toNat < y.toNat <;> by_cases p2 : y.toNat < x.toNat <;> by_cases p3 : y.toNat < z.toNat <;> by_cases p4 : z.toNat < y.toNat <;> by_cases p5 : x.toNat < z.toNat <;> by_cases p6 : z.toNat < x.toNat <;> first
      | (exfalso; omega)
      | (simp only [p1, p2, p3, p4, p5, p6, if_true, if_false] at h1 h2 ⊢; first | exact ih h1 h2 | omega)
instance inhJV : Inhabited JV := ⟨.nul⟩
abbrev LC := Value × Value × Leaf
def oneV (v : Value) : Value := if v.oneCell' = true then v else .nilIface
theorem oneV_one (v : Value) : (oneV v).oneCell' = true := by
  unfold oneV
  split
  · assumption
  · rfl
theorem oneV_of {v : Value} (h : v.oneCell' = true) : oneV v = v := if_pos h
def encLf (p : LC) : List Value := [.string (mkB (pathP p.2.2.1)), oneV p.1, oneV p.2.1]
def cfLf (p q : LC) : Int := Lib.compareBytes (pathP p.2.2.1) (pathP q.2.2.1)
theorem ltLf (p q : LC) : ltOf cfLf p q = decide (Lib.compareBytes (pathP p.2.2.1) (pathP q.2.2.1) < 0) := rfl
theorem swoLf : SWO (ltOf cfLf) where
  irrefl x := by rw [ltLf, cmpB_self]; rfl
  trans x y z h1 h2 := by
    rw [ltLf, decide_eq_true_iff] at *
    exact cmpB_trans _ _ _ h1 h2
  ntrans x y z h1 h2 := by
    rw [ltLf, decide_eq_false_iff_not] at *
    exact cmpB_ntrans _ _ _ h1 h2
set_option maxHeartbeats 1000000 in
theorem leafCmp (x y : LC) (W : World) : Calls Tryz.prog 55 #[.agg (encLf x).toArray, .agg (encLf y).toArray] W fun e w' => e = .returned (.int .i64 (cfLf x y)) ∧ ∃ q os', w' = Go.Sort.grow (W.drewN q) os' := by
  obtain ⟨a1, a2, lx⟩ := x
  obtain ⟨b1, b2, ly⟩ := y
  have hcon := fun W' => Tryz.strings_Compare (mkB (pathP lx.1)) (mkB (pathP ly.1)) W'
  rw [show cfLf (a1, a2, lx) (b1, b2, ly) = Lib.compareBytes (mkB (pathP lx.1)).data.toList (mkB (pathP ly.1)).data.toList by rw [mkB_list, mkB_list]; rfl]
  generalize Lib.compareBytes (mkB (pathP lx.1)).data.toList (mkB (pathP ly.1)).data.toList = r at hcon ⊢
  unfold encLf
  generalize mkB (pathP lx.1) = s1 at hcon ⊢
  generalize mkB (pathP ly.1) = s2 at hcon ⊢
  generalize oneV (a1, a2, lx).1 = c1
  generalize oneV (a1, a2, lx).2.1 = c2
  generalize oneV (b1, b2, ly).1 = d1
  generalize oneV (b1, b2, ly).2.1 = d2
  show Calls Tryz.prog 55 #[.agg #[.string s1, c1, c2], .agg #[.string s2, d1, d2]] W _
  go_enter Tryz.func55, Tryz.ntmps55
  go_wp2_with (go_at_call 56; refine (hcon _).mono ?_; rintro e w' ⟨rfl, rfl⟩)
  go_ret
  exact ⟨rfl, 0, _, by rw [alloc_eq_grow, alloc_eq_grow, grow_grow]; rfl⟩
theorem leafLays (blk off size : Nat) (w : World) : CmpLays Tryz.prog 55 #[] encLf 3 cfLf blk off size w := fun _ _ _ _ x y => leafCmp x y _
theorem encLf_len (x : LC) : (encLf x).length = 3 := rfl
theorem encLf_one (x : LC) : ∀ v ∈ encLf x, v.oneCell' = true := fun v hv => by
  unfold encLf at hv
  simp only [List.mem_cons, List.not_mem_nil, or_false] at hv
  rcases hv with rfl | rfl | rfl
  · rfl
  · exact oneV_one _
  · exact oneV_one _
theorem flatK_get (d : List LC) : (flatK encLf 3 d.toArray).toList = (d.map encLf).flatten := by
  have hk : ∀ cs ∈ d.map encLf, cs.length = 3 := fun cs h => by
    obtain ⟨x, _, rfl⟩ := List.mem_map.1 h
    rfl
  have hl : (d.map encLf).flatten.length = d.length * 3 := by rw [flat_len hk, List.length_map]
  refine List.ext_getElem? fun t => ?_
  by_cases ht : t < d.length * 3
  · have e1 : t = t / 3 * 3 + t % 3 := by omega
    have hj : t / 3 < d.length := by omega
    have hi : t % 3 < 3 := by omega
    have e2 : (d.map encLf).flatten[t]? = some (encLf d[t / 3])[t % 3] := by
      conv => lhs; rw [e1]
      exact get_flat hk (by rw [List.getElem?_map, List.getElem?_eq_getElem hj]; rfl) (List.getElem?_eq_getElem (by rw [encLf_len]; exact hi))
    rw [e2]
    have e3 := get_flatK encLf 3 d.toArray t (by simpa using ht)
    have e4 : t < (flatK encLf 3 d.toArray).size := by rw [size_flatK]; simpa using ht
    rw [getElem!_pos _ t e4] at e3
    rw [Array.getElem?_toList, Array.getElem?_eq_getElem e4, e3, getElem!_pos d.toArray (t / 3) (by simpa using hj), getElem!_pos _ (t % 3) (by rw [encLf_len]; exact hi)]
    rfl
  · rw [List.getElem?_eq_none (by rw [Array.length_toList, size_flatK]; simp; omega), List.getElem?_eq_none (by rw [hl]; omega)]
theorem own_sorted {T : List Nat} {w0 w : World} {B g n c : Nat} {l : List Leaf} (h : OwnAt (LeafX T w0) 3 w B 65 (.slice (some ⟨g, 0, none⟩) n c) l) :
    n = l.length ∧ g < w.heap.size ∧ ∃ d : List LC, d.length = l.length ∧ HoldsK encLf 3 w g 0 d.toArray ∧ ∀ (q : Nat) (d' : List LC), d'.Perm d → (d'.map (·.2.2)).Perm l ∧
      OwnAt (LeafX T w0) 3 (putRowK encLf 3 (Go.Sort.ahead w q) g 0 d'.toArray) B 65 (.slice (some ⟨g, 0, none⟩) n c) (d'.map (·.2.2)) ∧ RowKit.Below B w (putRowK encLf 3 (Go.Sort.ahead w q) g 0 d'.toArray) ∧ SameBut 65 w (putRowK encLf 3 (Go.Sort.ahead w q) g 0 d'.toArray) ∧ (putRowK encLf 3 (Go.Sort.ahead w q) g 0 d'.toArray).heap.size = w.heap.size := by
  obtain ⟨css, c1, c2, ⟨c3, c4⟩, c5⟩ := h
  rcases c4 with ⟨h0, _⟩ | ⟨g', cap, cur, hv, hB, hh, hle, hm, hzc, ht⟩
  · cases h0
  · injection hv with u1 u2 u3
    injection u1 with u1
    injection u1 with u1
    subst u1; subst u2; subst u3
    have hgl : g < w.heap.size := by
      rcases Nat.lt_or_ge g w.heap.size with h1 | h1
      · exact h1
      · rw [Array.getElem?_eq_none h1] at hh; cases hh
    obtain ⟨d, hd1, hd2⟩ := pick_each (fun j (p : LC) => ∃ cs x, css[j]? = some cs ∧ l[j]? = some x ∧ p.2.2 = x ∧ encLf p = cs) l.length (fun j hj => by
      have hj1 : css[j]? = some (css[j]'(by omega)) := List.getElem?_eq_getElem _
      have hj2 : l[j]? = some l[j] := List.getElem?_eq_getElem _
      obtain ⟨sv, vv, k, e1, e2, e3⟩ := c5 j _ _ hj1 hj2
      refine ⟨(sv, vv, l[j]), _, _, hj1, hj2, rfl, ?_⟩
      rw [e1]
      unfold encLf
      rw [oneV_of (strX_cell e2), oneV_of (one_jv k T w0 [vv] _ ⟨vv, rfl, e3⟩ vv (List.mem_singleton.2 rfl))])
    have hdl : d.map (·.2.2) = l := by
      refine List.ext_getElem? fun j => ?_
      rw [List.getElem?_map]
      by_cases hj : j < l.length
      · have hp : d[j]? = some (d[j]'(by omega)) := List.getElem?_eq_getElem _
        obtain ⟨cs, x, _, e2, e3, _⟩ := hd2 j _ hp
        rw [hp, e2, ← e3]
        rfl
      · rw [List.getElem?_eq_none (by omega), List.getElem?_eq_none (by omega)]; rfl
    have hdc : d.map encLf = css := by
      refine List.ext_getElem? fun j => ?_
      rw [List.getElem?_map]
      by_cases hj : j < l.length
      · have hp : d[j]? = some (d[j]'(by omega)) := List.getElem?_eq_getElem _
        obtain ⟨cs, x, e1, _, _, e4⟩ := hd2 j _ hp
        rw [hp, e1, ← e4]
        rfl
      · rw [List.getElem?_eq_none (by omega), List.getElem?_eq_none (by omega)]; rfl
    have hR : ∀ p ∈ d, LeafX T w0 w (encLf p) p.2.2 := fun p hp => by
      obtain ⟨j, hj, rfl⟩ := List.getElem_of_mem hp
      obtain ⟨cs, x, e1, e2, e3, e4⟩ := hd2 j _ (List.getElem?_eq_getElem hj)
      rw [e3, e4]
      exact c5 j cs x e1 e2
    refine ⟨rfl, hgl, d, hd1, ?_, ?_⟩
    · intro j hj
      rw [size_flatK] at hj
      have hj3 : j < l.length * 3 := by simpa [hd1] using hj
      refine ⟨?_, free_block hh _⟩
      have e4 : j < (flatK encLf 3 d.toArray).size := by rw [size_flatK]; exact hj
      rw [getElem!_pos _ j e4, Nat.zero_add, cell_block hh]
      have e5 : (flatK encLf 3 d.toArray).toList[j]? = cur.toList[j]? := by
        rw [flatK_get, hdc, ← ht, List.getElem?_take_of_lt hj3]
      rw [Array.getElem?_toList, Array.getElem?_toList, Array.getElem?_eq_getElem e4] at e5
      exact e5.symm
    · intro q d' hp
      have hl' : d'.length = l.length := by rw [hp.length_eq, hd1]
      obtain ⟨W, hW⟩ : ∃ W, putRowK encLf 3 (Go.Sort.ahead w q) g 0 d'.toArray = W := ⟨_, rfl⟩
      rw [hW]
      have hw : W.heap[g]? = some (.cells (putCells id 0 (flatK encLf 3 d'.toArray) cur) 65 (0, 0)) := by
        rw [← hW]
        unfold putRowK putRow mapBlock
        show (Array.modify w.heap g _)[g]? = _
        rw [Array.getElem?_modify, if_pos rfl, hh]
        rfl
      have ho : ∀ k, k ≠ g → W.heap[k]? = w.heap[k]? := fun k hk => by
        rw [← hW]
        unfold putRowK putRow mapBlock
        show (Array.modify w.heap g _)[k]? = _
        rw [Array.getElem?_modify, if_neg (Ne.symm hk)]
      have hs : W.heap.size = w.heap.size := by
        rw [← hW]
        unfold putRowK putRow mapBlock
        show (Array.modify w.heap g _).size = _
        rw [Array.size_modify]
      have hsb : SameBut 65 w W := fun b cs t fr hb htn => by
        rw [ho b (fun e => by rw [e, hh] at hb; injection hb with hb; injection hb with _ hb _; exact htn hb.symm)]
        exact hb
      have hk' : ∀ cs ∈ d'.map encLf, cs.length = 3 := fun cs h => by
        obtain ⟨x, _, rfl⟩ := List.mem_map.1 h
        rfl
      refine ⟨by rw [← hdl]; exact hp.map _, ⟨d'.map encLf, by rw [List.length_map, List.length_map], hk', ⟨by rw [flat_len hk', List.length_map, List.length_map], .inr ⟨g, c, _, by rw [List.length_map, hl'], hB, hw, by rw [List.length_map, hl']; exact hle, hm, by unfold putCells; rw [Array.size_mapIdx]; exact hzc, ?_⟩⟩, ?_⟩, ⟨by rw [← hW]; rfl, by rw [← hW]; rfl, by rw [← hW]; rfl, by rw [hs]; exact Nat.le_refl _, fun k hk => ho k (by omega)⟩, hsb, hs⟩
      · rw [← flatK_get, List.length_map, hl']
        apply List.ext_getElem?
        intro t
        by_cases htl : t < l.length * 3
        · have htc : t < cur.size := by rw [hzc]; omega
          have e4 : t < (flatK encLf 3 d'.toArray).size := by rw [size_flatK]; simp [hl']; omega
          rw [List.getElem?_take_of_lt htl, Array.getElem?_toList, Array.getElem?_toList]
          unfold putCells
          rw [Array.getElem?_mapIdx, Array.getElem?_eq_getElem htc, Option.map_some, if_pos ⟨by omega, by omega⟩, Nat.sub_zero, getElem!_pos _ t e4, Array.getElem?_eq_getElem e4]
          rfl
        · rw [List.getElem?_eq_none (by rw [List.length_take]; omega), List.getElem?_eq_none (by rw [Array.length_toList, size_flatK]; simp [hl']; omega)]
      · intro j cs x hcs hx
        rw [List.getElem?_map] at hcs hx
        obtain ⟨p, hp1, rfl⟩ := Option.map_eq_some_iff.1 hcs
        rw [hp1] at hx
        obtain rfl : p.2.2 = x := by simpa using hx
        exact leafX_staysX T w0 _ _ _ _ hsb (hR p (hp.mem_iff.1 (List.mem_of_getElem? hp1)))
def Rise (l : List Leaf) : Prop := l.Pairwise fun x y => ¬ Lib.compareBytes (pathP y.1) (pathP x.1) < 0
theorem sorted_pairs {α : Type} [Inhabited α] {cf : α → α → Int} (c : α → α → Int) (hc : ∀ p q, ltOf cf p q = decide (c p q < 0)) {d : Array α} {n : Nat} (hn : d.size = n) (h : SortedIn (ltOf cf) 0 n d) : d.toList.Pairwise fun p q => ¬ c q p < 0 := by
  rw [List.pairwise_iff_getElem]
  intro i j hi hj hij
  have h1 := h i j (Nat.zero_le _) hij (by rw [← hn]; simpa using hj)
  rw [hc, decide_eq_false_iff_not] at h1
  rw [getElem!_pos d j (by simpa using hj), getElem!_pos d i (by simpa using hi)] at h1
  simpa using h1
theorem leafSort_any (v : Value) (l : List Leaf) (B : Nat) (T : List Nat) (w0 w : World) (h : OwnAt (LeafX T w0) 3 w B 65 v l) (hB : B ≤ w.heap.size) (hl : l.length ≤ 1073741824) :
    Calls Tryz.prog 54 #[v, .func (.func 55) #[] #[]] w fun e w' => e = .returned (.tuple #[]) ∧ ∃ l', l'.Perm l ∧ Rise l' ∧ OwnAt (LeafX T w0) 3 w' B 65 v l' ∧ RowKit.Below B w w' ∧ SameBut 65 w w' := by
  rcases h.form with ⟨rfl, rfl⟩ | ⟨g, c, rfl, _, hg, _, _⟩
  · refine (AnyF.slices_SortFunc_none Tryz.leafSort none 0 _ w).mono fun e w' ⟨h1, h2⟩ => ?_
    subst h2
    exact ⟨h1, [], List.Perm.refl _, List.Pairwise.nil, OwnAt.nil _, Below.refl _ _, fun _ _ _ _ h _ => h⟩
  · obtain ⟨_, _, d, hd1, hH, ho⟩ := own_sorted h
    have eg : ∀ args w, (callFunc 55 args).run Tryz.prog w = .ok (.enter 55 args) w := enters_of Tryz.func55 (by kernel_rfl) rfl
    have hs := AnyQ.slices_SortFunc Tryz.leafSort 3 Tryz.isAgg65 Tryz.sizeOf65 encLf encLf_len encLf_one cfLf swoLf 55 #[] g 0 c d.toArray w eg (leafLays g 0 _ w) hH hg (by simp [hd1]; omega)
    have hsz : d.toArray.size = l.length := by simp [hd1]
    rw [hsz] at hs
    refine hs.mono fun e w' ⟨h1, d', n, os, hp, hso, h2⟩ => ?_
    have hpp : d'.toList.Perm d := by
      obtain ⟨p1, _, p3⟩ := hp
      have e1 : d'.size = l.length := by rw [p1, hsz]
      have e2 : d'.extract 0 l.length = d' := by rw [← e1]; exact Array.extract_size
      have e3 : d.toArray.extract 0 l.length = d.toArray := by rw [← hsz]; exact Array.extract_size
      rw [e2, e3] at p3
      exact p3
    obtain ⟨o0, o1, o2, o3, o4⟩ := ho n d'.toList hpp
    rw [Array.toArray_toList] at o1 o2 o3 o4
    have hgr : RowKit.Below (putRowK encLf 3 (Go.Sort.ahead w n) g 0 d').heap.size (putRowK encLf 3 (Go.Sort.ahead w n) g 0 d') w' := by
      rw [h2]
      exact Lib.below_grow _ _ (Nat.le_refl _) 0 os
    have hrise : Rise (d'.toList.map (·.2.2)) := by
      unfold Rise
      rw [List.pairwise_map]
      exact sorted_pairs (fun p q : LC => Lib.compareBytes (pathP p.2.2.1) (pathP q.2.2.1)) (fun p q => ltLf p q) (by rw [hp.1, hsz]) hso
    exact ⟨h1, _, o0, hrise, o1.belowX (leafX_staysX _ _) hgr, o2.trans (hgr.mono (by rw [o4]; exact hB)), o3.trans (sameBut_below hgr)⟩
end Go.Proofs.YtdcmnpeabjallaaGreatDoor
