/- query: the parser and the printer: what they compute. -/
import Derived.Test.YtkmonmdnmpbadaaDoorQueryPlain
import Derived.Test.YtkmonmdnmpbadaaDoorSplitPlain
import Derived.Lib.Join
namespace Go.Proofs.YtkmonmdnmpbadaaDoor
open Go.RowKit
namespace QP
def wordB (c : UInt8) : Bool := NameP.edge c.toNat || (NameP.wordIn c.toNat || c == 47)
def skipB (r : List UInt8) : List UInt8 := r.dropWhile (· == 32)
def headIs (c : UInt8) (r : List UInt8) : Bool := match r with
  | x :: _ => x == c
  | [] => false
def wordW (r : List UInt8) : List UInt8 := (skipB r).takeWhile wordB
def wordR (r : List UInt8) : List UInt8 := (skipB r).dropWhile wordB
def wordE (r : List UInt8) : List UInt8 := skipB (wordR r)
def wordS (r : List UInt8) : ByteArray := ⟨(wordW r).toArray⟩
def listF : Nat → List UInt8 → List ByteArray → Option (List ByteArray × List UInt8)
  | 0, _, _ => none
  | n + 1, r, out =>
    if headIs 44 (wordE r) = true then listF n (wordE r).tail (out ++ [wordS r])
    else if headIs 41 (wordE r) = true then some (out ++ [wordS r], skipB (wordE r).tail) else none
def listP (r : List UInt8) : Option (List ByteArray × List UInt8) := if headIs 40 (skipB r) = true then listF 400 (skipB r).tail [] else none
def kindP (w : List UInt8) : Int := if w = [105, 110] then 1 else if w = [110, 111, 116, 105, 110] then 2 else 0
def choiceP (key : ByteArray) (r : List UInt8) : Option (GReq × List UInt8) :=
  if kindP (wordW r) = 0 then none else if headIs 32 (wordR r) = false ∧ headIs 40 (wordE r) = false then none
  else match listP (wordE r) with
    | none => none
    | some x => some (⟨key, kindP (wordW r), x.1⟩, x.2)
def keyP (r : List UInt8) : Option (GReq × List UInt8) :=
  if wordE r = [] ∨ headIs 44 (wordE r) = true then some (⟨wordS r, 3, []⟩, wordE r)
  else if headIs 61 (wordE r) = true ∧ headIs 61 (wordE r).tail = true then some (⟨wordS r, 1, [wordS (wordE r).tail.tail]⟩, wordE (wordE r).tail.tail)
  else if headIs 61 (wordE r) = true then some (⟨wordS r, 1, [wordS (wordE r).tail]⟩, wordE (wordE r).tail)
  else if headIs 33 (wordE r) = true ∧ headIs 61 (wordE r).tail = true then some (⟨wordS r, 2, [wordS (wordE r).tail.tail]⟩, wordE (wordE r).tail.tail)
  else if headIs 32 (wordR r) = true then choiceP (wordS r) (wordE r)
  else none
def partP (r : List UInt8) : Option (GReq × List UInt8) :=
  if headIs 33 (skipB r) = true then some (⟨wordS (skipB r).tail, 4, []⟩, wordE (skipB r).tail) else keyP (skipB r)
def parseF : Nat → List UInt8 → List GReq → Option (List GReq)
  | 0, _, _ => none
  | n + 1, r, out => match partP r with
    | none => none
    | some x => if x.2 = [] then some (out ++ [x.1]) else if headIs 44 x.2 = true then parseF n x.2.tail (out ++ [x.1]) else none
def parseL (s : List UInt8) : List GReq × Int :=
  if 300 < s.length then ([], 2) else if skipB s = [] then ([], 0) else match parseF 400 (skipB s) [] with
    | none => ([], 3)
    | some l => if reqsE l = 0 then (l, 0) else ([], reqsE l)
def valsT (l : List ByteArray) : List UInt8 := Lib.join (l.map (·.data.toList)) [44]
def textT (r : GReq) : List UInt8 :=
  if r.kind = 3 then r.key.data.toList
  else if r.kind = 4 then 33 :: r.key.data.toList
  else if r.kind = 1 then
    if r.vals.length = 1 then r.key.data.toList ++ 61 :: valsT r.vals else r.key.data.toList ++ [32, 105, 110, 32, 40] ++ (valsT r.vals ++ [41])
  else if r.vals.length = 1 then r.key.data.toList ++ 33 :: 61 :: valsT r.vals else r.key.data.toList ++ [32, 110, 111, 116, 105, 110, 32, 40] ++ (valsT r.vals ++ [41])
def joinT (l : List GReq) : List UInt8 := Lib.join (l.map textT) [44]
def printL (l : List GReq) : List UInt8 × Int := if reqsE l = 0 then if 300 < (joinT l).length then ([], 2) else (joinT l, 0) else ([], reqsE l)

theorem skip_nil : skipB [] = [] := rfl
theorem skip_at {c : UInt8} {r : List UInt8} (h : c ≠ 32) : skipB (c :: r) = c :: r := by
  unfold skipB
  rw [List.dropWhile_cons_of_neg (by simpa using h)]
theorem skip_blank (r : List UInt8) : skipB (32 :: r) = skipB r := by
  unfold skipB
  rw [List.dropWhile_cons_of_pos (by simp)]
theorem skip_idem (r : List UInt8) : skipB (skipB r) = skipB r := by
  induction r with
  | nil => rfl
  | cons c r ih =>
    by_cases h : c = 32
    · rw [h, skip_blank, ih]
    · rw [skip_at h, skip_at h]
theorem wordB_ne {c x : UInt8} (h : wordB c = true) (hx : wordB x = false) : c ≠ x := fun he => by rw [he, hx] at h; cases h
theorem word_at {w rest : List UInt8} (hw : ∀ c ∈ w, wordB c = true) (hr : rest = [] ∨ ∃ c t, rest = c :: t ∧ wordB c = false) (h0 : w ≠ [] ∨ skipB rest = rest) : wordW (w ++ rest) = w ∧ wordR (w ++ rest) = rest := by
  have h1 : skipB (w ++ rest) = w ++ rest := by
    cases w with
    | nil =>
      rcases h0 with h | h
      · exact absurd rfl h
      · exact h
    | cons c t => exact skip_at (wordB_ne (hw c (List.mem_cons_self ..)) (by decide))
  unfold wordW wordR
  rw [h1, List.takeWhile_append_of_pos hw, List.dropWhile_append_of_pos hw]
  rcases hr with rfl | ⟨c, t, rfl, hc⟩
  · simp
  · rw [List.takeWhile_cons_of_neg (by simp [hc]), List.dropWhile_cons_of_neg (by simp [hc])]
    simp

/-- a key's bytes, a value's -/
theorem isWord_bytes {l : List UInt8} (h : NameP.isWord l = true) : l ≠ [] ∧ ∀ c ∈ l, wordB c = true := by
  unfold NameP.isWord at h
  rw [NameP.made_iff] at h
  obtain ⟨hn, _, _, h3⟩ := h
  refine ⟨hn, fun c hc => ?_⟩
  unfold wordB
  rcases h3 c hc with h | h <;> simp [h]
theorem judge_zero {n most : Nat} {b : Bool} (h : NameP.judge n most b = 0) : n ≤ most ∧ b = true := by
  unfold NameP.judge at h
  by_cases h1 : most < n
  · rw [if_pos h1] at h; cases h
  · rw [if_neg h1] at h
    cases b with
    | true => exact ⟨by omega, rfl⟩
    | false => rw [if_neg (by simp)] at h; cases h
theorem index_take {s : List UInt8} (h : 0 ≤ Lib.index s [47]) : s = s.take (Lib.index s [47]).toNat ++ 47 :: s.drop ((Lib.index s [47]).toNat + 1) := by
  rcases Lib.index_spec s [47] with ⟨h1, _⟩ | ⟨i, h1, _, h3, _⟩
  · omega
  · rw [h1]
    have h4 := Lib.occAt_head rfl h3
    have h5 := (List.getElem?_eq_some_iff.1 h4).1
    have h6 := (List.getElem?_eq_some_iff.1 h4).2
    show s = s.take (i : Int).toNat ++ _
    rw [Int.toNat_natCast, ← h6, ← List.drop_eq_getElem_cons h5, List.take_append_drop]
theorem key_bytes {s : ByteArray} (h : keyE s = 0) : s.data.toList ≠ [] ∧ ∀ c ∈ s.data.toList, wordB c = true := by
  unfold keyE NameP.checkKey at h
  have h1 := (judge_zero h).2
  unfold NameP.keyGood Lib.cut at h1
  by_cases hi : 0 ≤ Lib.index s.data.toList [47]
  · rw [if_pos hi] at h1
    simp only [if_true, Bool.and_eq_true, List.all_eq_true] at h1
    have hs := index_take hi
    generalize s.data.toList.take (Lib.index s.data.toList [47]).toNat = a at hs h1
    obtain ⟨hb, hw⟩ := isWord_bytes h1.2.2
    simp only [List.length_cons, List.length_nil, Nat.zero_add] at hb hw
    generalize s.data.toList.drop ((Lib.index s.data.toList [47]).toNat + 1) = b at hs hb hw
    rw [hs]
    refine ⟨by simp, fun c hc => ?_⟩
    rcases List.mem_append.1 hc with hc | hc
    · have hj := splitL_join 46 a
      have hc2 : c ∈ (46 : UInt8) :: a := List.mem_cons_of_mem _ hc
      rw [← hj] at hc2
      obtain ⟨p, hp, hc3⟩ := List.mem_flatMap.1 hc2
      rcases List.mem_cons.1 hc3 with rfl | hc4
      · decide
      · have hp2 := h1.1 p hp
        unfold NameP.part at hp2
        simp only [Bool.and_eq_true] at hp2
        exact (isWord_bytes (NameP.isName_word hp2.2)).2 c hc4
    · rcases List.mem_cons.1 hc with rfl | hc
      · decide
      · exact hw c hc
  · rw [if_neg hi] at h1
    simp only [Bool.false_eq_true, if_false, Bool.and_eq_true] at h1
    exact isWord_bytes h1.2
theorem val_bytes {s : ByteArray} (h : valE s = 0) : ∀ c ∈ s.data.toList, wordB c = true := by
  unfold valE NameP.checkVal at h
  have h1 := (judge_zero h).2
  rw [Bool.or_eq_true] at h1
  rcases h1 with h1 | h1
  · rw [List.isEmpty_iff.1 h1]; intro c hc; cases hc
  · exact (isWord_bytes h1).2
end QP
end Go.Proofs.YtkmonmdnmpbadaaDoor
