/- query: what is printed is parsed as it was; blanks ahead and behind: plain laws. -/
import Derived.Test.YtkmonmdnmpbadaaDoorParsePlain
namespace Go.Proofs.YtkmonmdnmpbadaaDoor
open Go.RowKit
namespace QP
theorem join_one (x : List UInt8) (sep : List UInt8) : Lib.join [x] sep = x := by simp [Lib.join, List.intercalate]
theorem join_more (x y : List UInt8) (r : List (List UInt8)) (sep : List UInt8) : Lib.join (x :: y :: r) sep = x ++ (sep ++ Lib.join (y :: r) sep) := by simp [Lib.join, List.intercalate]
theorem mk_toList (s : ByteArray) : (⟨s.data.toList.toArray⟩ : ByteArray) = s := by cases s; simp
theorem wordS_of {r : List UInt8} {s : ByteArray} (h : wordW r = s.data.toList) : wordS r = s := by unfold wordS; rw [h, mk_toList]
/-- what may stand behind a word -/
def Ends (r : List UInt8) : Prop := r = [] ∨ ∃ c t, r = c :: t ∧ wordB c = false
theorem ends_cons {c : UInt8} (t : List UInt8) (h : wordB c = false) : Ends (c :: t) := .inr ⟨c, t, rfl, h⟩
theorem word_is {s : ByteArray} {rest : List UInt8} (hw : ∀ c ∈ s.data.toList, wordB c = true) (hr : Ends rest) (h0 : skipB rest = rest) :
    wordS (s.data.toList ++ rest) = s ∧ wordE (s.data.toList ++ rest) = rest := by
  have h := word_at hw hr (.inr h0)
  refine ⟨wordS_of h.1, ?_⟩
  unfold wordE
  rw [h.2, h0]
theorem vals_back : ∀ (vals : List ByteArray) (n : Nat) (out : List ByteArray) (rest : List UInt8), (∀ v ∈ vals, ∀ c ∈ v.data.toList, wordB c = true) → vals ≠ [] → vals.length ≤ n →
    listF n (valsT vals ++ 41 :: rest) out = some (out ++ vals, skipB rest)
  | [], _, _, _, _, h, _ => absurd rfl h
  | [v], 0, _, _, _, _, hn => by simp at hn
  | [v], n + 1, out, rest, hv, _, _ => by
    have h1 := word_is (hv v (List.mem_cons_self ..)) (ends_cons rest (c := 41) (by decide)) (skip_at (by decide))
    have h2 : valsT [v] = v.data.toList := join_one _ _
    rw [h2]
    unfold listF
    rw [h1.1, h1.2]
    rfl
  | v :: x :: r, 0, _, _, _, _, hn => by simp at hn
  | v :: x :: r, n + 1, out, rest, hv, _, hn => by
    have h2 : valsT (v :: x :: r) ++ 41 :: rest = v.data.toList ++ 44 :: (valsT (x :: r) ++ 41 :: rest) := by
      show Lib.join (v.data.toList :: x.data.toList :: r.map (·.data.toList)) [44] ++ 41 :: rest = _
      rw [join_more]
      simp [valsT]
    have h1 := word_is (hv v (List.mem_cons_self ..)) (ends_cons (valsT (x :: r) ++ 41 :: rest) (c := 44) (by decide)) (skip_at (by decide))
    rw [h2]
    unfold listF
    rw [h1.1, h1.2]
    show listF n (valsT (x :: r) ++ 41 :: rest) (out ++ [v]) = _
    rw [vals_back (x :: r) n (out ++ [v]) rest (fun y hy => hv y (List.mem_cons_of_mem _ hy)) (by simp) (by simp at hn ⊢; omega)]
    simp
/-- what stands behind a part -/
def Rest (r : List UInt8) : Prop := r = [] ∨ ∃ t, r = 44 :: t
theorem Rest.ends {r : List UInt8} (h : Rest r) : Ends r := by
  rcases h with rfl | ⟨t, rfl⟩
  · exact .inl rfl
  · exact ends_cons t (by decide)
theorem Rest.skip {r : List UInt8} (h : Rest r) : skipB r = r := by
  rcases h with rfl | ⟨t, rfl⟩
  · rfl
  · exact skip_at (by decide)
theorem Rest.over {r : List UInt8} (h : Rest r) : r = [] ∨ headIs 44 r = true := by
  rcases h with rfl | ⟨t, rfl⟩
  · exact .inl rfl
  · exact .inr rfl
theorem key_head {s : ByteArray} (h : keyE s = 0) (t : List UInt8) : ∃ c r, s.data.toList ++ t = c :: r ∧ wordB c = true := by
  obtain ⟨hn, hw⟩ := key_bytes h
  cases hs : s.data.toList with
  | nil => exact absurd hs hn
  | cons c r => exact ⟨c, r ++ t, rfl, hw c (by rw [hs]; exact List.mem_cons_self ..)⟩
theorem reqE_parts {q : GReq} (h : reqE q = 0) : keyE q.key = 0 ∧ 1 ≤ q.kind ∧ q.kind ≤ 4 ∧ listsK q.kind = decide (0 < q.vals.length) ∧ q.vals.length ≤ 8 ∧ ∀ v ∈ q.vals, valE v = 0 := by
  unfold reqE at h
  by_cases h1 : keyE q.key = 0
  · rw [if_neg (by simpa using h1)] at h
    cases h2 : argR q with
    | true => rw [h2, if_pos rfl] at h; cases h
    | false =>
      rw [h2, if_neg (by simp)] at h
      by_cases h3 : 8 < q.vals.length
      · rw [if_pos h3] at h; cases h
      · rw [if_neg h3] at h
        unfold argR at h2
        simp only [Bool.or_eq_false_iff, decide_eq_false_iff_not, bne_eq_false_iff_eq] at h2
        exact ⟨h1, by omega, by omega, h2.2.2, by omega, errF_zero.1 h⟩
  · rw [if_pos h1] at h; exact absurd h h1
theorem part_key {s : ByteArray} (h : keyE s = 0) (t : List UInt8) : partP (s.data.toList ++ t) = keyP (s.data.toList ++ t) := by
  obtain ⟨c, r, he, hc⟩ := key_head h t
  unfold partP
  rw [he, skip_at (wordB_ne hc (by decide))]
  rw [if_neg]
  unfold headIs
  simpa using wordB_ne hc (by decide)
theorem headIs_cons (c x : UInt8) (r : List UInt8) : headIs c (x :: r) = (x == c) := rfl
theorem headIs_word {s : ByteArray} {t : List UInt8} (hw : ∀ c ∈ s.data.toList, wordB c = true) (ht : Rest t) : headIs 61 (s.data.toList ++ t) = false := by
  cases hs : s.data.toList with
  | nil =>
    rcases ht with rfl | ⟨u, rfl⟩
    · rfl
    · rfl
  | cons c r =>
    show (c == 61) = false
    rw [beq_eq_false_iff_ne]
    exact wordB_ne (hw c (by rw [hs]; exact List.mem_cons_self ..)) (by decide)
theorem vals_one {l : List ByteArray} (h : l.length = 1) : ∃ v, l = [v] := by
  cases l with
  | nil => cases h
  | cons v r =>
    cases r with
    | nil => exact ⟨v, rfl⟩
    | cons _ _ => simp at h
theorem choice_back {key : ByteArray} {k : Int} {w : List UInt8} {vals : List ByteArray} {rest : List UInt8} (hw : ∀ c ∈ w, wordB c = true) (h1 : w ≠ []) (hk : kindP w = k) (hk0 : k ≠ 0) (hv : ∀ v ∈ vals, ∀ c ∈ v.data.toList, wordB c = true)
    (hn : vals ≠ []) (hl : vals.length ≤ 8) (hr : Rest rest) : choiceP key (w ++ (32 :: 40 :: (valsT vals ++ 41 :: rest))) = some (⟨key, k, vals⟩, rest) := by
  have h := word_at hw (ends_cons (c := 32) (40 :: (valsT vals ++ 41 :: rest)) (by decide)) (.inl h1)
  have h2 : wordE (w ++ (32 :: 40 :: (valsT vals ++ 41 :: rest))) = 40 :: (valsT vals ++ 41 :: rest) := by
    unfold wordE
    rw [h.2, skip_blank, skip_at (by decide)]
  have h3 : listP (40 :: (valsT vals ++ 41 :: rest)) = some (vals, rest) := by
    unfold listP
    rw [skip_at (by decide)]
    show listF 400 (valsT vals ++ 41 :: rest) [] = _
    rw [vals_back vals 400 [] rest hv hn (by omega), hr.skip]
    rfl
  unfold choiceP
  rw [h.1, h.2, h2, hk, if_neg hk0, if_neg (fun hc => by cases hc.1), h3]
theorem hd_pos (c : UInt8) (r : List UInt8) : headIs c (c :: r) = true := by simp [headIs]
theorem part_back {q : GReq} {rest : List UInt8} (h : reqE q = 0) (hr : Rest rest) : partP (textT q ++ rest) = some (q, rest) := by
  obtain ⟨hk, k1, k4, hls, hl, hv⟩ := reqE_parts h
  have hkw := key_bytes hk
  have hvw : ∀ v ∈ q.vals, ∀ c ∈ v.data.toList, wordB c = true := fun v hm => val_bytes (hv v hm)
  unfold textT
  by_cases e3 : q.kind = 3
  · rw [if_pos e3, part_key hk]
    obtain ⟨a, b⟩ := word_is hkw.2 hr.ends hr.skip
    unfold keyP
    rw [a, b, if_pos hr.over]
    have : q.vals = [] := by
      rw [e3] at hls
      cases hq : q.vals with
      | nil => rfl
      | cons x r => rw [hq] at hls; exact absurd hls (by simp [listsK])
    rw [← e3, ← this]
  rw [if_neg e3]
  by_cases e4 : q.kind = 4
  · rw [if_pos e4]
    obtain ⟨a, b⟩ := word_is hkw.2 hr.ends hr.skip
    unfold partP
    rw [List.cons_append, skip_at (by decide), if_pos (show headIs 33 (33 :: (q.key.data.toList ++ rest)) = true from rfl), List.tail_cons, a, b]
    have : q.vals = [] := by
      rw [e4] at hls
      cases hq : q.vals with
      | nil => rfl
      | cons x r => rw [hq] at hls; exact absurd hls (by simp [listsK])
    rw [← e4, ← this]
  rw [if_neg e4]
  have hn : q.vals ≠ [] := by
    intro h0
    rw [h0] at hls
    have : q.kind = 1 ∨ q.kind = 2 := by omega
    rcases this with e | e <;> (rw [e] at hls; exact absurd hls (by decide))
  by_cases e1 : q.kind = 1
  · rw [if_pos e1]
    by_cases c1 : q.vals.length = 1
    · obtain ⟨v, hv1⟩ := vals_one c1
      rw [if_pos c1, hv1, show valsT [v] = v.data.toList from join_one _ _, List.append_assoc, part_key hk]
      obtain ⟨a, b⟩ := word_is hkw.2 (ends_cons (c := 61) (v.data.toList ++ rest) (by decide)) (skip_at (by decide))
      have hvv := hvw v (by rw [hv1]; exact List.mem_cons_self ..)
      obtain ⟨a2, b2⟩ := word_is hvv hr.ends hr.skip
      unfold keyP
      rw [List.cons_append, a, b, if_neg (by simp [headIs_cons]), List.tail_cons, if_neg (by rw [headIs_word hvv hr]; simp), if_pos (hd_pos _ _), a2, b2]
      rw [← e1, ← hv1]
    · rw [if_neg c1, List.append_assoc, List.append_assoc, part_key hk]
      obtain ⟨a, b⟩ := word_at hkw.2 (ends_cons (c := 32) (105 :: 110 :: 32 :: 40 :: (valsT q.vals ++ 41 :: rest)) (by decide)) (.inl hkw.1)
      have hE : wordE (q.key.data.toList ++ 32 :: 105 :: 110 :: 32 :: 40 :: (valsT q.vals ++ 41 :: rest)) = 105 :: 110 :: 32 :: 40 :: (valsT q.vals ++ 41 :: rest) := by
        unfold wordE
        rw [b, skip_blank, skip_at (by decide)]
      have hsh : q.key.data.toList ++ ([32, 105, 110, 32, 40] ++ (valsT q.vals ++ [41] ++ rest)) = q.key.data.toList ++ 32 :: 105 :: 110 :: 32 :: 40 :: (valsT q.vals ++ 41 :: rest) := by simp
      rw [hsh]
      unfold keyP
      rw [wordS_of a, hE, b, if_neg (by simp [headIs_cons]), if_neg (by simp [headIs_cons]), if_neg (by simp [headIs_cons]), if_neg (by simp [headIs_cons]), if_pos (hd_pos _ _)]
      rw [show (105 :: 110 :: 32 :: 40 :: (valsT q.vals ++ 41 :: rest) : List UInt8) = [105, 110] ++ 32 :: 40 :: (valsT q.vals ++ 41 :: rest) from rfl,
        choice_back (k := 1) (by decide) (by simp) (by decide) (by decide) hvw hn hl hr, ← e1]
  · rw [if_neg e1]
    have e2 : q.kind = 2 := by omega
    by_cases c1 : q.vals.length = 1
    · obtain ⟨v, hv1⟩ := vals_one c1
      rw [if_pos c1, hv1, show valsT [v] = v.data.toList from join_one _ _, List.append_assoc, part_key hk]
      obtain ⟨a, b⟩ := word_is hkw.2 (ends_cons (c := 33) (61 :: (v.data.toList ++ rest)) (by decide)) (skip_at (by decide))
      have hvv := hvw v (by rw [hv1]; exact List.mem_cons_self ..)
      obtain ⟨a2, b2⟩ := word_is hvv hr.ends hr.skip
      unfold keyP
      rw [List.cons_append, List.cons_append, a, b, if_neg (by simp [headIs_cons]), if_neg (by simp [headIs_cons]), if_neg (by simp [headIs_cons]), if_pos ⟨hd_pos _ _, hd_pos _ _⟩, List.tail_cons, List.tail_cons, a2, b2]
      rw [← e2, ← hv1]
    · rw [if_neg c1, List.append_assoc, List.append_assoc, part_key hk]
      obtain ⟨a, b⟩ := word_at hkw.2 (ends_cons (c := 32) (110 :: 111 :: 116 :: 105 :: 110 :: 32 :: 40 :: (valsT q.vals ++ 41 :: rest)) (by decide)) (.inl hkw.1)
      have hE : wordE (q.key.data.toList ++ 32 :: 110 :: 111 :: 116 :: 105 :: 110 :: 32 :: 40 :: (valsT q.vals ++ 41 :: rest)) = 110 :: 111 :: 116 :: 105 :: 110 :: 32 :: 40 :: (valsT q.vals ++ 41 :: rest) := by
        unfold wordE
        rw [b, skip_blank, skip_at (by decide)]
      have hsh : q.key.data.toList ++ ([32, 110, 111, 116, 105, 110, 32, 40] ++ (valsT q.vals ++ [41] ++ rest)) = q.key.data.toList ++ 32 :: 110 :: 111 :: 116 :: 105 :: 110 :: 32 :: 40 :: (valsT q.vals ++ 41 :: rest) := by simp
      rw [hsh]
      unfold keyP
      rw [wordS_of a, hE, b, if_neg (by simp [headIs_cons]), if_neg (by simp [headIs_cons]), if_neg (by simp [headIs_cons]), if_neg (by simp [headIs_cons]), if_pos (hd_pos _ _)]
      rw [show (110 :: 111 :: 116 :: 105 :: 110 :: 32 :: 40 :: (valsT q.vals ++ 41 :: rest) : List UInt8) = [110, 111, 116, 105, 110] ++ 32 :: 40 :: (valsT q.vals ++ 41 :: rest) from rfl,
        choice_back (k := 2) (by decide) (by simp) (by decide) (by decide) hvw hn hl hr, ← e2]
theorem parse_back : ∀ (l : List GReq) (n : Nat) (out : List GReq), (∀ q ∈ l, reqE q = 0) → l ≠ [] → l.length ≤ n → parseF n (joinT l) out = some (out ++ l)
  | [], _, _, _, h, _ => absurd rfl h
  | [q], 0, _, _, _, hn => by simp at hn
  | [q], n + 1, out, hq, _, _ => by
    have h1 := part_back (hq q (List.mem_cons_self ..)) (.inl rfl : Rest [])
    rw [List.append_nil] at h1
    rw [show joinT [q] = textT q from join_one _ _]
    unfold parseF
    rw [h1]
    rfl
  | q :: x :: r, 0, _, _, _, hn => by simp at hn
  | q :: x :: r, n + 1, out, hq, _, hn => by
    have h2 : joinT (q :: x :: r) = textT q ++ 44 :: joinT (x :: r) := by
      show Lib.join (textT q :: textT x :: r.map textT) [44] = _
      rw [join_more]
      simp [joinT]
    have h1 := part_back (hq q (List.mem_cons_self ..)) (.inr ⟨joinT (x :: r), rfl⟩ : Rest (44 :: joinT (x :: r)))
    rw [h2]
    unfold parseF
    rw [h1]
    show (if (44 :: joinT (x :: r) : List UInt8) = [] then _ else if headIs 44 (44 :: joinT (x :: r)) = true then _ else _) = _
    rw [if_neg (by simp), if_pos (hd_pos _ _), List.tail_cons, parse_back (x :: r) n (out ++ [q]) (fun y hy => hq y (List.mem_cons_of_mem _ hy)) (by simp) (by simp at hn ⊢; omega)]
    simp
theorem text_head {q : GReq} (h : reqE q = 0) (t : List UInt8) : ∃ c r, textT q ++ t = c :: r ∧ c ≠ 32 := by
  have hk := (reqE_parts h).1
  have hh : ∀ u : List UInt8, ∃ c r, q.key.data.toList ++ u = c :: r ∧ c ≠ 32 := fun u => by
    obtain ⟨c, r, he, hc⟩ := key_head hk u
    exact ⟨c, r, he, wordB_ne hc (by decide)⟩
  unfold textT
  split
  · exact hh _
  · split
    · exact ⟨33, _, rfl, by decide⟩
    · split
      · split
        · rw [List.append_assoc]; exact hh _
        · rw [List.append_assoc, List.append_assoc]; exact hh _
      · split
        · rw [List.append_assoc]; exact hh _
        · rw [List.append_assoc, List.append_assoc]; exact hh _
theorem reqsE_all {l : List GReq} (h : reqsE l = 0) : l.length ≤ 8 ∧ ∀ q ∈ l, reqE q = 0 := by
  unfold reqsE at h
  by_cases h1 : 8 < l.length
  · rw [if_pos h1] at h; cases h
  · rw [if_neg h1] at h
    exact ⟨by omega, errF_zero.1 h⟩
/-- what is printed is parsed as it was -/
theorem back {l : List GReq} (h : reqsE l = 0) (hl : (joinT l).length ≤ 300) : parseL (joinT l) = (l, 0) := by
  obtain ⟨h8, hq⟩ := reqsE_all h
  unfold parseL
  rw [if_neg (by omega)]
  cases l with
  | nil => rfl
  | cons q r =>
    have hs : skipB (joinT (q :: r)) = joinT (q :: r) ∧ joinT (q :: r) ≠ [] := by
      have : ∃ t, joinT (q :: r) = textT q ++ t := by
        cases r with
        | nil => exact ⟨[], by rw [List.append_nil]; exact join_one _ _⟩
        | cons x r => exact ⟨_, join_more _ _ _ _⟩
      obtain ⟨t, ht⟩ := this
      obtain ⟨c, u, he, hc⟩ := text_head (hq q (List.mem_cons_self ..)) t
      rw [ht, he]
      exact ⟨skip_at hc, by simp⟩
    rw [hs.1, if_neg hs.2, parse_back _ 400 [] hq (by simp) (by omega)]
    show (if reqsE ([] ++ q :: r) = 0 then _ else _) = _
    rw [List.nil_append, if_pos h]

/-- a blank behind: it goes with the blanks behind the last word -/
def ext (r : List UInt8) : List UInt8 := if r = [] then [] else r ++ [32]
theorem ext_nil : ext [] = [] := rfl
theorem ext_cons (c : UInt8) (r : List UInt8) : ext (c :: r) = c :: (r ++ [32]) := by unfold ext; rw [if_neg (by simp)]; rfl
theorem ext_eq_nil {r : List UInt8} : ext r = [] ↔ r = [] := by
  cases r with
  | nil => exact ⟨fun _ => rfl, fun _ => rfl⟩
  | cons c r => rw [ext_cons]; simp
theorem headIs_ext (c : UInt8) (r : List UInt8) : headIs c (ext r) = headIs c r := by
  cases r with
  | nil => rfl
  | cons x r => rw [ext_cons]; rfl
theorem skip_ext : ∀ r : List UInt8, skipB (r ++ [32]) = ext (skipB r)
  | [] => by decide
  | c :: r => by
    by_cases h : c = 32
    · rw [h, List.cons_append, skip_blank, skip_blank, skip_ext r]
    · rw [List.cons_append, skip_at h, skip_at h, ext_cons]
theorem take_ext : ∀ r : List UInt8, (r ++ [32]).takeWhile wordB = r.takeWhile wordB
  | [] => by decide
  | c :: r => by
    cases h : wordB c with
    | true => rw [List.cons_append, List.takeWhile_cons_of_pos h, List.takeWhile_cons_of_pos h, take_ext r]
    | false => rw [List.cons_append, List.takeWhile_cons_of_neg (by simp [h]), List.takeWhile_cons_of_neg (by simp [h])]
theorem drop_ext : ∀ r : List UInt8, (r ++ [32]).dropWhile wordB = r.dropWhile wordB ++ [32]
  | [] => by decide
  | c :: r => by
    cases h : wordB c with
    | true => rw [List.cons_append, List.dropWhile_cons_of_pos h, List.dropWhile_cons_of_pos h, drop_ext r]
    | false => rw [List.cons_append, List.dropWhile_cons_of_neg (by simp [h]), List.dropWhile_cons_of_neg (by simp [h])]; rfl
theorem wordW_ext (r : List UInt8) : wordW (r ++ [32]) = wordW r := by
  unfold wordW
  rw [skip_ext]
  unfold ext
  split
  · rename_i h; rw [h]
  · exact take_ext _
theorem wordE_ext (r : List UInt8) : wordE (r ++ [32]) = ext (wordE r) := by
  unfold wordE wordR
  rw [skip_ext]
  unfold ext
  split
  · rename_i h; rw [h]; rfl
  · rw [drop_ext, skip_ext]; rfl
theorem wordS_ext (r : List UInt8) : wordS (r ++ [32]) = wordS r := by unfold wordS; rw [wordW_ext]
theorem wordR_ext {r : List UInt8} (h : wordE r ≠ []) : headIs 32 (wordR (r ++ [32])) = headIs 32 (wordR r) := by
  unfold wordE at h
  have h1 : wordR r ≠ [] := fun h0 => h (by rw [h0]; rfl)
  have h2 : skipB r ≠ [] := fun h0 => h1 (by unfold wordR; rw [h0]; rfl)
  have h3 : wordR (r ++ [32]) = wordR r ++ [32] := by
    unfold wordR
    rw [skip_ext]
    unfold ext
    rw [if_neg h2, drop_ext]
  rw [h3]
  cases hr : wordR r with
  | nil => exact absurd hr h1
  | cons x t => rfl
theorem wordE_x (r : List UInt8) : wordE (ext r) = ext (wordE r) := by
  unfold ext
  split
  · rename_i h; rw [h]; rfl
  · exact wordE_ext r
theorem wordS_x (r : List UInt8) : wordS (ext r) = wordS r := by
  unfold ext
  split
  · rename_i h; rw [h]
  · exact wordS_ext r
theorem wordW_x (r : List UInt8) : wordW (ext r) = wordW r := by
  unfold ext
  split
  · rename_i h; rw [h]
  · exact wordW_ext r
theorem wordR_x {r : List UInt8} (h : wordE r ≠ []) : headIs 32 (wordR (ext r)) = headIs 32 (wordR r) := by
  unfold ext
  split
  · rename_i h; rw [h]
  · exact wordR_ext h
theorem skip_x (r : List UInt8) : skipB (ext r) = ext (skipB r) := by
  unfold ext
  split
  · rename_i h; rw [h]; rfl
  · exact skip_ext r
theorem tail_x {c : UInt8} {r : List UInt8} (h : headIs c r = true) : (ext r).tail = r.tail ++ [32] := by
  cases r with
  | nil => cases h
  | cons x t => rw [ext_cons]; rfl
def more (x : List ByteArray × List UInt8) : List ByteArray × List UInt8 := (x.1, ext x.2)
def more2 (x : GReq × List UInt8) : GReq × List UInt8 := (x.1, ext x.2)
theorem listF_ext : ∀ (n : Nat) (r : List UInt8) (out : List ByteArray), listF n (r ++ [32]) out = (listF n r out).map more
  | 0, _, _ => rfl
  | n + 1, r, out => by
    unfold listF
    rw [wordE_ext, wordS_ext, headIs_ext, headIs_ext]
    by_cases h1 : headIs 44 (wordE r) = true
    · rw [if_pos h1, if_pos h1, tail_x h1, listF_ext n]
    · rw [if_neg h1, if_neg h1]
      by_cases h2 : headIs 41 (wordE r) = true
      · rw [if_pos h2, if_pos h2, tail_x h2, skip_ext]; rfl
      · rw [if_neg h2, if_neg h2]; rfl
theorem listP_x (r : List UInt8) : listP (ext r) = (listP r).map more := by
  unfold listP
  rw [skip_x, headIs_ext]
  by_cases h1 : headIs 40 (skipB r) = true
  · rw [if_pos h1, if_pos h1, tail_x h1, listF_ext]
  · rw [if_neg h1, if_neg h1]; rfl
theorem choiceP_x (key : ByteArray) (r : List UInt8) : choiceP key (ext r) = (choiceP key r).map more2 := by
  unfold choiceP
  rw [wordW_x, wordE_x, headIs_ext]
  by_cases h0 : kindP (wordW r) = 0
  · rw [if_pos h0, if_pos h0]; rfl
  · rw [if_neg h0, if_neg h0]
    by_cases hE : wordE r = []
    · have hL : listP (wordE r) = none := by rw [hE]; rfl
      rw [listP_x, hL]
      have : headIs 40 (wordE r) = false := by rw [hE]; rfl
      rw [this]
      simp
    · rw [wordR_x hE, listP_x]
      by_cases h2 : headIs 32 (wordR r) = false ∧ headIs 40 (wordE r) = false
      · rw [if_pos h2, if_pos h2]; rfl
      · rw [if_neg h2, if_neg h2]
        cases listP (wordE r) <;> rfl
theorem headIs_tail_ext (c : UInt8) (h : c ≠ 32) (r : List UInt8) : headIs c (r ++ [32]) = headIs c r := by
  cases r with
  | nil => show ((32 : UInt8) == c) = false; rw [beq_eq_false_iff_ne]; exact fun he => h he.symm
  | cons x t => rfl
theorem tail_tail_x {c : UInt8} {r : List UInt8} (h : headIs c r.tail = true) : (ext r).tail.tail = r.tail.tail ++ [32] := by
  cases r with
  | nil => cases h
  | cons x t =>
    rw [ext_cons]
    cases t with
    | nil => cases h
    | cons y u => rfl
theorem keyP_x (r : List UInt8) : keyP (ext r) = (keyP r).map more2 := by
  unfold keyP
  rw [wordE_x, wordS_x, headIs_ext, headIs_ext, headIs_ext]
  have ht : ∀ c : UInt8, headIs c (wordE r) = true → headIs 61 (ext (wordE r)).tail = headIs 61 (wordE r).tail := fun c hc => by
    rw [tail_x hc, headIs_tail_ext 61 (by decide)]
  by_cases h1 : wordE r = [] ∨ headIs 44 (wordE r) = true
  · rw [if_pos h1, if_pos (by rcases h1 with h | h; exact .inl (ext_eq_nil.2 h); exact .inr h)]; rfl
  · rw [if_neg h1, if_neg (by intro h; exact h1 (h.imp ext_eq_nil.1 id))]
    have hE : wordE r ≠ [] := fun h => h1 (.inl h)
    by_cases h2 : headIs 61 (wordE r) = true
    · rw [ht 61 h2]
      by_cases h3 : headIs 61 (wordE r) = true ∧ headIs 61 (wordE r).tail = true
      · rw [if_pos h3, if_pos h3, tail_tail_x h3.2, wordS_ext, wordE_ext]; rfl
      · rw [if_neg h3, if_neg h3, if_pos h2, if_pos h2, tail_x h2, wordS_ext, wordE_ext]; rfl
    · rw [if_neg (show ¬ (headIs 61 (wordE r) = true ∧ headIs 61 (ext (wordE r)).tail = true) from fun h => h2 h.1), if_neg (show ¬ (headIs 61 (wordE r) = true ∧ headIs 61 (wordE r).tail = true) from fun h => h2 h.1), if_neg h2, if_neg h2]
      by_cases h4 : headIs 33 (wordE r) = true
      · rw [ht 33 h4]
        by_cases h5 : headIs 33 (wordE r) = true ∧ headIs 61 (wordE r).tail = true
        · rw [if_pos h5, if_pos h5, tail_tail_x h5.2, wordS_ext, wordE_ext]; rfl
        · rw [if_neg h5, if_neg h5, wordR_x hE, choiceP_x]
          split <;> rfl
      · rw [if_neg (show ¬ (headIs 33 (wordE r) = true ∧ headIs 61 (ext (wordE r)).tail = true) from fun h => h4 h.1), if_neg (show ¬ (headIs 33 (wordE r) = true ∧ headIs 61 (wordE r).tail = true) from fun h => h4 h.1), wordR_x hE, choiceP_x]
        split <;> rfl
theorem partP_ext (r : List UInt8) : partP (r ++ [32]) = (partP r).map more2 := by
  unfold partP
  rw [skip_ext, headIs_ext]
  by_cases h1 : headIs 33 (skipB r) = true
  · rw [if_pos h1, if_pos h1, tail_x h1, wordS_ext, wordE_ext]; rfl
  · rw [if_neg h1, if_neg h1, keyP_x]
theorem parseF_ext : ∀ (n : Nat) (r : List UInt8) (out : List GReq), parseF n (r ++ [32]) out = parseF n r out
  | 0, _, _ => rfl
  | n + 1, r, out => by
    unfold parseF
    rw [partP_ext]
    cases partP r with
    | none => rfl
    | some x =>
      show (if ext x.2 = [] then some (out ++ [x.1]) else if headIs 44 (ext x.2) = true then parseF n (ext x.2).tail (out ++ [x.1]) else none) = if x.2 = [] then some (out ++ [x.1]) else if headIs 44 x.2 = true then parseF n x.2.tail (out ++ [x.1]) else none
      rw [headIs_ext]
      by_cases h : x.2 = []
      · rw [if_pos h, if_pos (ext_eq_nil.2 h)]
      · rw [if_neg h, if_neg (fun he => h (ext_eq_nil.1 he))]
        by_cases h2 : headIs 44 x.2 = true
        · rw [if_pos h2, if_pos h2, tail_x h2, parseF_ext n]
        · rw [if_neg h2, if_neg h2]
/-- blanks ahead and behind are of no matter -/
theorem blanks {s : List UInt8} (h : s.length < 290) : parseL (32 :: 32 :: (s ++ [32])) = parseL s := by
  have l1 : ¬ 300 < (32 :: 32 :: (s ++ [32])).length := by simp only [List.length_cons, List.length_append, List.length_nil]; omega
  have l2 : ¬ 300 < s.length := by omega
  have h1 : skipB (32 :: 32 :: (s ++ [32])) = ext (skipB s) := by rw [skip_blank, skip_blank, skip_ext]
  unfold parseL
  simp only [l1, l2, if_false, h1]
  by_cases h0 : skipB s = []
  · rw [h0]; rfl
  · have h2 : ext (skipB s) = skipB s ++ [32] := by unfold ext; rw [if_neg h0]
    have h3 : ext (skipB s) ≠ [] := fun he => h0 (ext_eq_nil.1 he)
    simp only [h0, h3, if_false]
    rw [h2, parseF_ext]
end QP
end Go.Proofs.YtkmonmdnmpbadaaDoor
