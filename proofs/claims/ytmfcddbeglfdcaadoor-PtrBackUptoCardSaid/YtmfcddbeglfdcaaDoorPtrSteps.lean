/- ptr.Steps: its contract. -/
import Derived.Test.YtmfcddbeglfdcaaDoorPtrBackPlain
import Derived.Test.YtmfcddbeglfdcaaDoorPtrJoin
import Derived.Test.YtmfcddbeglfdcaaDoorBox
import Derived.Deep.DeepCutAuto
namespace Go.Proofs.YtmfcddbeglfdcaaDoor
open Go.RowKit

theorem joinL_map (l : List ByteArray) : joinL l = joinK (l.map (·.data.toList)) := by
  unfold joinL joinK
  rw [List.flatMap_map]
/-- strings.Split at one byte -/
theorem split_any (s : ByteArray) (c : UInt8) (m : Int) (w : World) (hs : s.size ≤ 16777216) (hm : MaxOK m w) :
    Calls Tryd.prog 41 #[.string s, .string ⟨#[c]⟩] w fun e w' => ∃ L : List ByteArray, L.map (·.data.toList) = splitL c s.data.toList ∧ e = .returned (.slice (some ⟨w.heap.size, 0, none⟩) L.length L.length) ∧
      w'.heap[w.heap.size]? = some (.cells (strs L).toArray 9 (0, 0)) ∧ w'.heap.size = w.heap.size + 1 ∧ Below w.heap.size w w' := by
  refine (Tryd.strings_Split s ⟨#[c]⟩ m w (by omega) hm (Nat.le_refl 1)).mono ?_
  rintro E w' ⟨rfl, rfl⟩
  have h1 : (Lib.splitB ⟨#[c]⟩ 0 (Lib.countB s ⟨#[c]⟩) s).length = Lib.countB s ⟨#[c]⟩ + 1 := Lib.splitB_all ⟨#[c]⟩ (Nat.le_refl 1) 0 _ s rfl
  refine ⟨Lib.splitB ⟨#[c]⟩ 0 (Lib.countB s ⟨#[c]⟩) s, ?_, by rw [h1], heap_alloc_at rfl, World.size_alloc _ _, (Below.refl _ w).alloc (Nat.le_refl _) _⟩
  rw [Lib.splitB_data]
  exact splitK_scan c s.data.toList
theorem splitL_len (c : UInt8) (s : List UInt8) : (splitL c s).length ≤ s.length + 1 := by
  induction s with
  | nil => simp [splitL]
  | cons x r ih =>
    rw [splitL]
    split
    · simp; omega
    · split
      · rename_i h1 h2
        rw [h2] at ih; simp at ih ⊢; omega
      · simp
theorem splitL_mem_len (c : UInt8) (s q : List UInt8) (h : q ∈ splitL c s) : q.length ≤ s.length := by
  have h1 : ((splitL c s).flatMap fun p => c :: p).length = s.length + 1 := by rw [splitL_join]; rfl
  have h2 : ∀ m : List (List UInt8), q ∈ m → q.length + 1 ≤ (m.flatMap fun p => c :: p).length := fun m => by
    induction m with
    | nil => intro h; cases h
    | cons a r ih =>
      intro h
      rw [List.flatMap_cons, List.length_append, List.length_cons]
      rcases List.mem_cons.1 h with rfl | h
      · omega
      · have := ih h; omega
  have := h2 _ h
  omega
def unB (s : ByteArray) : ByteArray := ⟨(unescS s.data.toList).toArray⟩
/-- the pieces, the first i of them read -/
def lstB (L : List ByteArray) (i : Nat) : List ByteArray := (L.take i).map unB ++ L.drop i
theorem lstB_get {L : List ByteArray} {i : Nat} {x : ByteArray} (h : L[i]? = some x) : (strs (lstB L i)).toArray[i]? = some (.string x) := by
  have hi := (List.getElem?_eq_some_iff.1 h).1
  rw [List.getElem?_toArray]
  refine strs_get ?_
  unfold lstB
  rw [List.getElem?_append_right (by simp; omega)]
  simp only [List.length_map, List.length_take, List.getElem?_drop]
  rw [show i + (i - min i L.length) = i by omega]
  exact h
theorem lstB_set {L : List ByteArray} {i : Nat} {x : ByteArray} (h : L[i]? = some x) : (strs (lstB L i)).toArray.setIfInBounds i (.string (unB x)) = (strs (lstB L (i + 1))).toArray := by
  have hi := (List.getElem?_eq_some_iff.1 h).1
  have hx := (List.getElem?_eq_some_iff.1 h).2
  rw [List.setIfInBounds_toArray]
  congr 1
  unfold strs lstB
  rw [List.drop_eq_getElem_cons hi, hx, List.take_succ_eq_append_getElem hi, hx]
  simp only [List.map_append, List.map_cons, List.map_nil, List.append_assoc, List.cons_append, List.nil_append]
  rw [List.set_append_right _ _ (by simp; omega)]
  simp [show i - min i L.length = 0 by omega]
theorem steps_bad {q : List UInt8} {L : List ByteArray} {x : ByteArray} (hL : L.map (·.data.toList) = splitL 47 q) (hx : x ∈ L) (h : okEsc x.data.toList = false) : stepsP (47 :: q) = (16, []) := by
  unfold stepsP
  simp only
  rw [if_neg (by simp), if_neg]
  rw [List.all_eq_true]
  intro h2
  have := h2 x.data.toList (by rw [← hL]; exact List.mem_map_of_mem hx)
  rw [h] at this
  cases this
theorem steps_good {q : List UInt8} {L : List ByteArray} (hL : L.map (·.data.toList) = splitL 47 q) (h : ∀ x ∈ L, okEsc x.data.toList = true) : stepsP (47 :: q) = if 10 < L.length then (2, []) else (0, (L.map unB).map (·.data.toList)) := by
  have h1 : L.length = (splitL 47 q).length := by rw [← hL, List.length_map]
  unfold stepsP
  simp only
  rw [if_neg (by simp), if_pos, h1]
  · congr 2
    unfold stepsL
    rw [← hL, List.map_map, List.map_map]
    congr 1
  · rw [← hL, List.all_eq_true]
    intro y hy
    obtain ⟨x, hx, rfl⟩ := List.mem_map.1 hy
    exact h x hx
theorem all_snoc {α : Type} {l : List α} {p : α → Prop} {j : Nat} {t : α} (h : ∀ y ∈ l.take j, p y) (ht : l[j]? = some t) (hp : p t) : Hid (∀ y ∈ l.take (j + 1), p y) := Lib.hid fun y hy => by
  rw [List.take_add_one, ht] at hy
  rcases List.mem_append.1 hy with h1 | h1
  · exact h y h1
  · simp at h1; subst h1; exact hp
theorem repl_len (l : List UInt8) : (Lib.replaceAll l [126, 49] [47]).length ≤ l.length := by
  rw [replaceAll_two (by decide)]
  exact rep2_len (by decide) _ _ (Nat.le_refl _)
theorem okEsc_tail {x : ByteArray} {L2 : List ByteArray} (h : L2.map (·.data.toList) = splitL 126 x.data.toList) : okEsc x.data.toList = L2.tail.all fun t => headOK t.data.toList := by
  rw [okEsc_split _ _ (Nat.le_refl _), ← h]
  cases L2 with
  | nil => rfl
  | cons a r => rw [List.map_cons, List.tail_cons, List.tail_cons, List.all_map]; rfl
theorem headOK_nil {t : ByteArray} (h : t.size = 0) : headOK t.data.toList = false := by
  have : t.data.toList = [] := List.eq_nil_of_length_eq_zero (by simpa using h)
  rw [this]; rfl
theorem headOK_cons {t : ByteArray} (h : 0 < t.size) : headOK t.data.toList = (t[0] == 48 || t[0] == 49) := by
  have h2 : t.data.toList = t[0] :: t.data.toList.drop 1 := by
    have := List.drop_eq_getElem_cons (l := t.data.toList) (i := 0) (by simpa using h)
    rw [List.drop_zero] at this
    exact this
  rw [h2]; rfl
def StepsAt (r : Int × List (List UInt8)) (w : World) (E : Ending) (w' : World) : Prop :=
  ∃ v', E = .returned (.tuple #[v', .int .i64 r.1]) ∧ (∃ l : List ByteArray, StrAt w' v' l ∧ l.map (·.data.toList) = r.2) ∧ Below w.heap.size w w'
set_option maxRecDepth 100000 in
set_option maxHeartbeats 1600000 in
theorem ptrSteps_any (p : ByteArray) (m : Int) (w : World) (hp : p.size ≤ 8388608) (hm : MaxOK m w) :
    Calls Tryd.prog 14 #[.string p] w (StepsAt (stepsP p.data.toList) w) := by
  have Hm := Lib.hid hm
  clear hm
  obtain ⟨R, HR⟩ : ∃ R, Hid (stepsP p.data.toList = R) := ⟨_, Lib.hid rfl⟩
  rw [HR.out]
  go_enter Tryd.func14, Tryd.ntmps14
  by_cases h0 : p.size = 0
  · have h1 : p.data.toList = [] := List.eq_nil_of_length_eq_zero (by simpa using h0)
    have q0 : p.toList.isEmpty = true := by rw [ByteArray.toList_eq, h1]; rfl
    go_wp2_with fail
    go_ret2
    have h2 : R = (0, []) := by rw [← HR.out, h1]; rfl
    subst h2
    exact ⟨_, rfl, ⟨[], StrAt.nil _, rfl⟩, Below.refl _ _⟩
  · have h0' : 0 < p.size := by omega
    have q0 : p.toList.isEmpty = false := by
      rw [ByteArray.toList_eq]
      cases h : p.data.toList with
      | nil => exact absurd (by rw [← Array.length_toList, h]; rfl : p.data.size = 0) h0
      | cons => rfl
    by_cases h47 : p[0] = 47
    · have q1 : ((p[0].toNat : Int) != 47) = false := by rw [h47]; rfl
      have q2 : 1 ≤ p.size := by omega
      have hpd : p.data.toList = 47 :: p.data.toList.drop 1 := by
        have := List.drop_eq_getElem_cons (l := p.data.toList) (i := 0) (by simpa using h0')
        rw [List.drop_zero] at this
        rw [← h47]; exact this
      have hqd : (p.extract 1 p.size).data.toList = p.data.toList.drop 1 := Lib.extract_to_end p 1
      have hqs : (p.extract 1 p.size).size ≤ 8388608 := by rw [ByteArray.size_extract]; omega
      have Hpd := Lib.hid hpd
      have Hqd := Lib.hid hqd
      clear hpd hqd h47 h0
      go_wp2_with fail
      refine (split_any (p.extract 1 p.size) 47 m w (by omega) Hm.out).mono ?_
      rintro E w1 ⟨L, hL, rfl, hh, hs1, hb⟩
      have HL := Lib.hid hL
      have Hh := Lib.hid hh
      have Hb := Lib.hid hb
      have hLl : L.length ≤ 8388609 := by
        have h1 : L.length = (splitL 47 (p.extract 1 p.size).data.toList).length := by rw [← hL, List.length_map]
        have h2 := splitL_len 47 (p.extract 1 p.size).data.toList
        have h3 : (p.extract 1 p.size).data.toList.length = (p.extract 1 p.size).size := by simp
        omega
      clear hL hh hb
      go_wp2_with fail
      go_loopg [20] L.length (fun k u20 wr => ∃ i : Nat, i + k = L.length ∧ u20 = .int .i64 (i : Int) ∧ Hid (wr.heap[w.heap.size]? = some (.cells (strs (lstB L i)).toArray 9 (0, 0))) ∧ Hid (Below w.heap.size w wr) ∧ Hid (∀ x ∈ L.take i, okEsc x.data.toList = true))
      case atStart => exact ⟨0, by omega, rfl, Lib.hid (by simpa [lstB] using Hh.out), Hb, Lib.hid (by simp)⟩
      case round =>
        obtain ⟨i, hig, rfl, Hc, Hbel, Hok⟩ := hrel
        have hsr := Hbel.out.size
        cases gk with
        | zero =>
          obtain rfl : i = L.length := by omega
          have hR : R = if 10 < L.length then (2, []) else (0, (L.map unB).map (·.data.toList)) := by
            rw [← HR.out, Hpd.out]
            exact steps_good (HL.out.trans (by rw [Hqd.out])) fun x hx => Hok.out x (by rw [List.take_of_length_le (Nat.le_refl _)]; exact hx)
          have HR2 := Lib.hid hR
          clear hR
          by_cases h10 : 10 < L.length
          · have q3 : (10 : Int) < (L.length : Int) := by omega
            have HR3 : Hid (R = (2, [])) := Lib.hid (by rw [HR2.out, if_pos h10])
            clear h10
            go_wp2_with fail
            go_ret2
            refine ⟨_, congrArg (fun n => Ending.returned (.tuple #[_, Value.int .i64 n])) (by rw [HR3.out]), ⟨[], StrAt.nil _, by rw [HR3.out]; rfl⟩, Hbel.out⟩
          · have q3 : ¬ (10 : Int) < (L.length : Int) := by omega
            have HR3 : Hid (R = (0, (L.map unB).map (·.data.toList))) := Lib.hid (by rw [HR2.out, if_neg h10])
            clear h10
            go_wp2_with fail
            go_ret2
            have h6 : lstB L L.length = L.map unB := by simp [lstB]
            refine ⟨.slice (some ⟨w.heap.size, 0, none⟩) L.length L.length, congrArg (fun n => Ending.returned (.tuple #[_, Value.int .i64 n])) (by rw [HR3.out]), ⟨L.map unB, .inr ⟨⟨w.heap.size, 0, none⟩, L.length, by rw [List.length_map], by rw [List.length_map]; exact Nat.le_refl _, by unfold maxLen; omega, fun j x hx => ?_⟩, by rw [HR3.out]⟩, Hbel.out⟩
            rw [add_plain', Nat.zero_add, cell_block Hc.out j, h6, List.getElem?_toArray]
            exact strs_get hx
        | succ k =>
          have hil : i < L.length := by omega
          obtain ⟨x, hxi⟩ : ∃ x, L[i]? = some x := ⟨L[i]'(by omega), List.getElem?_eq_getElem _⟩
          have e0 : wr.cell? ⟨w.heap.size, i, none⟩ = some (.string x) := (cell_block Hc.out i).trans (lstB_get hxi)
          have q3 : (0 : Int) ≤ (i : Int) := by omega
          have q4 : (i : Int) < (L.length : Int) := by omega
          have hxs : x.size ≤ 8388608 := by
            have h1 := splitL_mem_len 47 (p.extract 1 p.size).data.toList x.data.toList (by rw [← HL.out]; exact List.mem_map_of_mem (List.mem_of_getElem? hxi))
            have h2 : (p.extract 1 p.size).data.toList.length = (p.extract 1 p.size).size := by simp
            have h3 : x.data.toList.length = x.size := by simp
            omega
          have Hxi := Lib.hid hxi
          clear hxi
          go_wp2_with fail
          refine (split_any x 126 m wr (by omega) (Hm.out.below Hbel.out)).mono ?_
          rintro E w2 ⟨L2, hL2, rfl, hh2, hs2, hb2⟩
          have HL2 := Lib.hid hL2
          have Hh2 := Lib.hid hh2
          have Hb2 := Lib.hid (Hbel.out.trans (hb2.mono hsr))
          have Hc2 : Hid (w2.heap[w.heap.size]? = some (.cells (strs (lstB L i)).toArray 9 (0, 0))) := Lib.hid (below_block hb2 Hc.out)
          have hL2n : 1 ≤ L2.length := by
            have h1 : L2.length = (splitL 126 x.data.toList).length := by rw [← hL2, List.length_map]
            have h2 := splitL_ne 126 x.data.toList
            cases h3 : splitL 126 x.data.toList with
            | nil => exact absurd h3 h2
            | cons => rw [h1, h3]; simp
          have hL2l : L2.length ≤ 8388609 := by
            have h1 : L2.length = (splitL 126 x.data.toList).length := by rw [← hL2, List.length_map]
            have h2 := splitL_len 126 x.data.toList
            have h3 : x.data.toList.length = x.size := by simp
            omega
          have hB2 : Hid (wr.heap.size = wr.heap.size) := Lib.hid rfl
          obtain ⟨B2, HB2⟩ : ∃ B2, Hid (wr.heap.size = B2) := ⟨_, Lib.hid rfl⟩
          have Hh3 : Hid (w2.heap[B2]? = some (.cells (strs L2).toArray 9 (0, 0))) := Lib.hid (by rw [← HB2.out]; exact Hh2.out)
          rw [HB2.out]
          clear hL2 hh2 hb2 e0 hB2 Hh2
          obtain ⟨n2, Hn2⟩ : ∃ n2, Hid (L2.length = n2) := ⟨_, Lib.hid rfl⟩
          rw [Hn2.out] at hL2n hL2l ⊢
          go_upto_region 10 with fail
          go_cut [28, 29, 30] (fun u28 u29 u30 wx => ∃ o c : Nat, u28 = .slice (some ⟨B2, o, none⟩) (n2 - 1) c ∧ u29 = .int .i64 ((n2 - 1 : Nat) : Int) ∧ u30 = .int .i64 0 ∧ Hid (∀ j t, L2.tail[j]? = some t → wx.cell? ⟨B2, o + j, none⟩ = some (.string t)) ∧ w2 = wx)
          case first =>
            have htail : ∀ j t, L2.tail[j]? = some t → w2.cell? ⟨B2, 1 + j, none⟩ = some (.string t) := fun j t ht => by
              rw [cell_block Hh3.out (1 + j), List.getElem?_toArray, Nat.add_comm]
              refine strs_get ?_
              rw [List.getElem?_tail] at ht; exact ht
            have Htail := Lib.hid htail
            clear htail
            by_cases h1 : n2 = 1
            · subst h1
              go_wp2_with fail
              go_meet
              refine ⟨_, _, rfl, rfl, rfl, Lib.hid fun j t ht => ?_, rfl⟩
              have h2 := (List.getElem?_eq_some_iff.1 ht).1
              have h3 := Hn2.out
              simp at h2; omega
            · have q5 : ¬ n2 = 1 := h1
              go_wp2_with fail
              go_meet
              exact ⟨_, _, rfl, rfl, rfl, Htail, rfl⟩
          case rest =>
          obtain ⟨o, c, rfl, rfl, rfl, Hcl, rfl⟩ := hcut
          obtain ⟨n2', Hn2'⟩ : ∃ n2', Hid (n2 - 1 = n2') := ⟨_, Lib.hid rfl⟩
          rw [Hn2'.out]
          have hn2' : n2' ≤ 8388609 := by have := Hn2'.out; omega
          go_wp2_with fail
          go_loopg [30] n2' (fun kj u30 wj => ∃ j : Nat, j + kj = n2' ∧ u30 = .int .i64 (j : Int) ∧ Hid (∀ t ∈ L2.tail.take j, headOK t.data.toList = true) ∧ w2 = wj)
          case atStart => exact ⟨0, by omega, rfl, Lib.hid (by simp), rfl⟩
          case round =>
            obtain ⟨j, hjk, rfl, Hj, rfl⟩ := hrel
            cases gk with
            | zero =>
              have hok : okEsc x.data.toList = true := by
                rw [okEsc_tail HL2.out, List.all_eq_true]
                intro t ht
                have h1 : L2.tail.length = n2' := by rw [List.length_tail, Hn2.out, Hn2'.out]
                refine Hj.out t ?_
                rw [List.take_of_length_le (by omega)]; exact ht
              have Hok2 : Hid (∀ y ∈ L.take (i + 1), okEsc y.data.toList = true) := Lib.hid fun y hy => by
                rw [List.take_add_one, Hxi.out] at hy
                rcases List.mem_append.1 hy with h | h
                · exact Hok.out y h
                · simp at h; subst h; exact hok
              obtain rfl : j = n2' := by omega
              clear hok
              have e2 : w2.cell? ⟨w.heap.size, i, none⟩ = some (.string x) := (cell_block Hc2.out i).trans (lstB_get Hxi.out)
              go_wp2_with fail
              refine (Tryd.strings_ReplaceAll x ⟨#[126, 49]⟩ ⟨#[47]⟩ m w2 (by omega) (Hm.out.below Hb2.out) (by decide) (by
                have h1 := Lib.countB_le ⟨#[126, 49]⟩ (by decide) x.size x (Nat.le_refl _)
                have h2 : (ByteArray.mk #[47]).size = 1 := rfl
                rw [h2]; omega)).mono ?_
              rintro E w3 ⟨rfl, hb3⟩
              have hs2' := Hb2.out.size
              have Hb3 := Lib.hid (Hb2.out.trans (hb3.mono hs2'))
              have Hc3 := Lib.hid (below_block hb3 Hc2.out)
              have hs3 := Hb3.out.size
              obtain ⟨y, Hy⟩ : ∃ y : ByteArray, Hid ((⟨(Lib.replaceAll x.data.toList [126, 49] [47]).toArray⟩ : ByteArray) = y) := ⟨_, Lib.hid rfl⟩
              have hy0 : (⟨(Lib.replaceAll x.data.toList (⟨#[126, 49]⟩ : ByteArray).data.toList (⟨#[47]⟩ : ByteArray).data.toList).toArray⟩ : ByteArray) = y := Hy.out
              have hyd : y.data.toList = Lib.replaceAll x.data.toList [126, 49] [47] := by rw [← Hy.out]
              have hys : y.size ≤ 8388608 := by
                have h1 : y.data.toList.length = y.size := by simp
                have h2 := repl_len x.data.toList
                have h4 : x.data.toList.length = x.size := by simp
                rw [← hyd] at h2
                omega
              rw [hy0]
              have Hyd := Lib.hid hyd
              clear hy0 hyd hb3 e2
              go_wp2_with fail
              refine (Tryd.strings_ReplaceAll y ⟨#[126, 48]⟩ ⟨#[126]⟩ m w3 (by omega) (Hm.out.below Hb3.out) (by decide) (by
                have h1 := Lib.countB_le ⟨#[126, 48]⟩ (by decide) y.size y (Nat.le_refl _)
                have h2 : (ByteArray.mk #[126]).size = 1 := rfl
                rw [h2]; omega)).mono ?_
              rintro E w4 ⟨rfl, hb4⟩
              have Hb4 := Lib.hid (Hb3.out.trans (hb4.mono hs3))
              have hc4 := below_block hb4 Hc3.out
              obtain ⟨z, Hz⟩ : ∃ z : ByteArray, Hid (unB x = z) := ⟨_, Lib.hid rfl⟩
              have hz0 : (⟨(Lib.replaceAll y.data.toList (⟨#[126, 48]⟩ : ByteArray).data.toList (⟨#[126]⟩ : ByteArray).data.toList).toArray⟩ : ByteArray) = z := by rw [← Hz.out, Hyd.out]; rfl
              rw [hz0]
              have e4 : w4.cell? ⟨w.heap.size, i, none⟩ = some (.string x) := (cell_block hc4 i).trans (lstB_get Hxi.out)
              have f4 : w4.frozen? ⟨w.heap.size, i, none⟩ = false := free_block hc4 i
              have Hc4 := Lib.hid hc4
              clear hb4 hz0 hc4
              go_wp2_with fail
              go_roundg k
              case measure => omega
              case rel =>
                refine ⟨i + 1, by omega, by go_num, Lib.hid ?_, Lib.hid ((Hb4.out).setCell (p := ⟨w.heap.size, i, none⟩) (Nat.le_refl _) _), Hok2⟩
                rw [(touch_setCell Hc4.out).1, ← Hz.out, lstB_set Hxi.out]
            | succ kj =>
              have hjl : j < n2' := by omega
              have htl : j < L2.tail.length := by rw [List.length_tail, Hn2.out, Hn2'.out]; exact hjl
              obtain ⟨t, ht⟩ : ∃ t, L2.tail[j]? = some t := ⟨L2.tail[j], List.getElem?_eq_getElem htl⟩
              have e1 : w2.cell? ⟨B2, o + j, none⟩ = some (.string t) := Hcl.out j t ht
              have q5 : (0 : Int) ≤ (j : Int) := by omega
              have q6 : (j : Int) < (n2' : Int) := by omega
              have hbad : headOK t.data.toList = false → R = (16, []) := fun h => by
                rw [← HR.out, Hpd.out]
                refine steps_bad (HL.out.trans (by rw [Hqd.out])) (List.mem_of_getElem? Hxi.out) ?_
                rw [okEsc_tail HL2.out, List.all_eq_false]
                exact ⟨t, List.mem_of_getElem? ht, by rw [h]; simp⟩
              have Hbad := Lib.hid hbad
              have Ht := Lib.hid ht
              clear hbad ht
              by_cases ht0 : t.size = 0
              · have h1 : t.data.toList = [] := List.eq_nil_of_length_eq_zero (by simpa using ht0)
                have q7 : t.toList.isEmpty = true := by rw [ByteArray.toList_eq, h1]; rfl
                have HR2 := Lib.hid (Hbad.out (headOK_nil ht0))
                clear h1 ht0 Hbad
                go_wp2_with fail
                go_ret2
                exact ⟨_, congrArg (fun n => Ending.returned (.tuple #[_, Value.int .i64 n])) (by rw [HR2.out]), ⟨[], StrAt.nil _, by rw [HR2.out]; rfl⟩, Hb2.out⟩
              · have ht0' : 0 < t.size := by omega
                have q7 : t.toList.isEmpty = false := by
                  rw [ByteArray.toList_eq]
                  cases h : t.data.toList with
                  | nil => exact absurd (by rw [← Array.length_toList, h]; rfl : t.data.size = 0) ht0
                  | cons => rfl
                have hh := headOK_cons ht0'
                have key : ∀ d : UInt8, ((t[0].toNat : Int) != (d.toNat : Int)) = (t[0] != d) := fun d => by
                  by_cases h : t[0] = d
                  · rw [h]; simp
                  · have h2 : ¬ t[0].toNat = d.toNat := fun e => h (UInt8.toNat_inj.1 e)
                    rw [bne_iff_ne.2 h, bne_iff_ne]; omega
                by_cases h48 : t[0] = 48
                · have q8 : ((t[0].toNat : Int) != 48) = false := (key 48).trans (by rw [h48]; rfl)
                  have Hgo : Hid (headOK t.data.toList = true) := Lib.hid (by rw [hh, h48]; rfl)
                  clear ht0 hh key h48 Hbad
                  go_wp2_with fail
                  go_roundg kj
                  case measure => omega
                  case rel => exact ⟨j + 1, by omega, by go_num, all_snoc Hj.out Ht.out Hgo.out, rfl⟩
                · have q8 : ((t[0].toNat : Int) != 48) = true := (key 48).trans (bne_iff_ne.2 h48)
                  by_cases h49 : t[0] = 49
                  · have q9 : ((t[0].toNat : Int) != 49) = false := (key 49).trans (by rw [h49]; rfl)
                    have Hgo : Hid (headOK t.data.toList = true) := Lib.hid (by rw [hh, h49]; rfl)
                    clear ht0 hh key h48 h49 Hbad
                    go_wp2_with fail
                    go_roundg kj
                    case measure => omega
                    case rel => exact ⟨j + 1, by omega, by go_num, all_snoc Hj.out Ht.out Hgo.out, rfl⟩
                  · have q9 : ((t[0].toNat : Int) != 49) = true := (key 49).trans (bne_iff_ne.2 h49)
                    have HR2 := Lib.hid (Hbad.out (by rw [hh, Bool.or_eq_false_iff, beq_eq_false_iff_ne, beq_eq_false_iff_ne]; exact ⟨h48, h49⟩))
                    clear ht0 hh key h48 h49 Hbad
                    go_wp2_with fail
                    go_ret2
                    exact ⟨_, congrArg (fun n => Ending.returned (.tuple #[_, Value.int .i64 n])) (by rw [HR2.out]), ⟨[], StrAt.nil _, by rw [HR2.out]; rfl⟩, Hb2.out⟩
    · have q1 : ((p[0].toNat : Int) != 47) = true := by
        rw [bne_iff_ne]; intro h; apply h47; apply UInt8.toNat_inj.1; have h2 : (47 : UInt8).toNat = 47 := rfl; omega
      go_wp2_with fail
      go_ret2
      have hpd : p.data.toList = p[0] :: p.data.toList.drop 1 := by
        have := List.drop_eq_getElem_cons (l := p.data.toList) (i := 0) (by simpa using h0')
        rw [List.drop_zero] at this
        exact this
      have h2 : R = (16, []) := by
        rw [← HR.out, hpd]
        unfold stepsP
        simp only
        rw [if_pos h47]
      subst h2
      exact ⟨_, rfl, ⟨[], StrAt.nil _, rfl⟩, Below.refl _ _⟩
end Go.Proofs.YtmfcddbeglfdcaaDoor
