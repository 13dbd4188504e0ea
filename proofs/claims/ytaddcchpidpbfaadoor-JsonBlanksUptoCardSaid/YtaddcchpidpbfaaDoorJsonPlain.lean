/- json: documents as values, read and told: what the code computes. -/
import Derived.Lib.Join
import Derived.Lib.ItoaNum
import Derived.Lib.Atoi
namespace Go.Proofs.YtaddcchpidpbfaaDoor
open Go
namespace JP
abbrev Bs := List UInt8
inductive JV where
  | nul
  | bool (b : Bool)
  | num (n : Int)
  | str (s : Bs)
  | list (l : List JV)
  | obj (l : List (Bs × JV))
theorem JV.both {P : JV → Prop} {PL : List JV → Prop} {PF : List (Bs × JV) → Prop}
    (h0 : P .nul) (h1 : ∀ b, P (.bool b)) (h2 : ∀ n, P (.num n)) (h3 : ∀ s, P (.str s)) (h4 : ∀ l, PL l → P (.list l)) (h5 : ∀ l, PF l → P (.obj l))
    (h6 : PL []) (h7 : ∀ v r, P v → PL r → PL (v :: r)) (h8 : PF []) (h9 : ∀ n v r, P v → PF r → PF ((n, v) :: r)) : (∀ v, P v) ∧ (∀ l, PL l) ∧ ∀ l, PF l := by
  have a : ∀ v, P v := fun v => JV.rec (motive_1 := P) (motive_2 := PL) (motive_3 := PF) (motive_4 := fun x => P x.2) h0 h1 h2 h3 h4 h5 h6 (fun v r a b => h7 v r a b) h8 (fun x r a b => h9 x.1 x.2 r a b) (fun _ _ h => h) v
  refine ⟨a, fun l => ?_, fun l => ?_⟩
  · induction l with
    | nil => exact h6
    | cons v r ih => exact h7 v r (a v) ih
  · induction l with
    | nil => exact h8
    | cons x r ih => exact h9 x.1 x.2 r (a x.2) ih

/-! a value as a document -/
def escB (c : UInt8) : Bs := if c = 34 ∨ c = 92 then [92, c] else if c = 10 then [92, 110] else if c = 9 then [92, 116] else [c]
def quote (s : Bs) : Bs := 34 :: (s.flatMap escB ++ [34])
mutual
def text : JV → Bs
  | .nul => [110, 117, 108, 108]
  | .bool b => if b = true then [116, 114, 117, 101] else [102, 97, 108, 115, 101]
  | .num n => Lib.itoa n
  | .str s => quote s
  | .list l => 91 :: (Lib.join (textL l) [44] ++ [93])
  | .obj l => 123 :: (Lib.join (textF l) [44] ++ [125])
termination_by structural x => x
def textL : List JV → List Bs
  | [] => []
  | v :: r => text v :: textL r
termination_by structural x => x
def textF : List (Bs × JV) → List Bs
  | [] => []
  | (n, v) :: r => (quote n ++ 58 :: text v) :: textF r
termination_by structural x => x
end
mutual
def size : JV → Nat
  | .list l => 1 + sizeL l
  | .obj l => 1 + sizeF l
  | .nul => 1
  | .bool _ => 1
  | .num _ => 1
  | .str _ => 1
termination_by structural x => x
def sizeL : List JV → Nat
  | [] => 0
  | v :: r => size v + sizeL r
termination_by structural x => x
def sizeF : List (Bs × JV) → Nat
  | [] => 0
  | (_, v) :: r => size v + sizeF r
termination_by structural x => x
end
mutual
def deep : JV → Nat
  | .list l => deepL l + 1
  | .obj l => deepF l + 1
  | .nul => 0
  | .bool _ => 0
  | .num _ => 0
  | .str _ => 0
termination_by structural x => x
def deepL : List JV → Nat
  | [] => 0
  | v :: r => max (deep v) (deepL r)
termination_by structural x => x
def deepF : List (Bs × JV) → Nat
  | [] => 0
  | (_, v) :: r => max (deep v) (deepF r)
termination_by structural x => x
end
def kind : JV → Int
  | .nul => 1
  | .bool _ => 2
  | .num _ => 3
  | .str _ => 4
  | .list _ => 5
  | .obj _ => 6
/-- a byte that may stand in a text -/
def stand (c : UInt8) : Bool := (decide (32 ≤ c) && decide (c ≤ 126)) || c == 10 || c == 9

/-! fields, rising by their names -/
def put (n : Bs) (v : JV) : List (Bs × JV) → List (Bs × JV)
  | [] => [(n, v)]
  | (m, x) :: r => if m < n then (m, x) :: put n v r else if m = n then (n, v) :: r else (n, v) :: (m, x) :: r
def get (n : Bs) : List (Bs × JV) → Option JV
  | [] => none
  | (m, x) :: r => if m = n then some x else get n r
def cut (n : Bs) (l : List (Bs × JV)) : List (Bs × JV) := l.filter fun x => x.1 != n
def Srt (l : List (Bs × JV)) : Prop := l.Pairwise fun a b => a.1 < b.1

/-- a value that stands in a document -/
def numOK (n : Int) : Prop := -1000000000000000000 < n ∧ n < 1000000000000000000
mutual
def wf : JV → Prop
  | .nul => True
  | .bool _ => True
  | .num n => numOK n
  | .str s => s.all stand = true
  | .list l => wfL l
  | .obj l => Srt l ∧ wfF l
termination_by structural x => x
def wfL : List JV → Prop
  | [] => True
  | v :: r => wf v ∧ wfL r
termination_by structural x => x
def wfF : List (Bs × JV) → Prop
  | [] => True
  | (n, v) :: r => n.all stand = true ∧ wf v ∧ wfF r
termination_by structural x => x
end

/-! the reader -/
inductive Fr where
  | lst (d : List JV)
  | ob (d : List (Bs × JV)) (n : Bs)
inductive R where
  | bad (e : Int)
  | whole (v : JV) (r : Bs) (m : Nat) (st : List Fr)
  | more (r : Bs) (m : Nat) (st : List Fr)
def blank (c : UInt8) : Bool := c == 32 || c == 9 || c == 10
def skip (r : Bs) : Bs := r.dropWhile blank
def digit (c : UInt8) : Bool := decide (48 ≤ c) && decide (c ≤ 57)
def escV (c : UInt8) : Option UInt8 := if c = 34 ∨ c = 92 then some c else if c = 110 then some 10 else if c = 116 then some 9 else none
def textP : Bs → Option (Bs × Bs)
  | [] => none
  | 34 :: r => some ([], r)
  | 92 :: [] => none
  | 92 :: d :: r => match escV d with
    | none => none
    | some c => (textP r).map fun x => (c :: x.1, x.2)
  | c :: r => if c < 32 ∨ 126 < c then none else (textP r).map fun x => (c :: x.1, x.2)
def sgn (r : Bs) : Bs := match r with
  | 45 :: t => t
  | _ => r
def negB (r : Bs) : Bool := match r with
  | 45 :: _ => true
  | _ => false
def digs (r : Bs) : Bs := (sgn r).takeWhile digit
def decV (ds : Bs) : Nat := (Lib.decFrom 0 ds).getD 0
def numV (r : Bs) : Int := if negB r = true then -(decV (digs r) : Int) else (decV (digs r) : Int)
def numR (r : Bs) : Bs := (sgn r).dropWhile digit
/-- what is wrong with a number: 0: nothing -/
def numE (r : Bs) : Int := match digs r with
  | [] => 3
  | c :: t => if c = 48 ∧ (t ≠ [] ∨ negB r = true) then 3 else if 18 < (c :: t).length then 2 else 0
def wordP (v : JV) (p : Bs) (r : Bs) (m : Nat) (st : List Fr) : R := if p.isPrefixOf r = true then .whole v (r.drop p.length) m st else .bad 3
def plainP (c : UInt8) (r : Bs) (m : Nat) (st : List Fr) : R :=
  if c = 34 then match textP r.tail with
    | none => .bad 3
    | some x => .whole (.str x.1) x.2 m st
  else if c = 116 then wordP (.bool true) [116, 114, 117, 101] r m st
  else if c = 102 then wordP (.bool false) [102, 97, 108, 115, 101] r m st
  else if c = 110 then wordP .nul [110, 117, 108, 108] r m st
  else if numE r = 0 then .whole (.num (numV r)) (numR r) m st else .bad (numE r)
def fieldN (r : Bs) (m : Nat) (d : List (Bs × JV)) (st : List Fr) (n t : Bs) : R :=
  if (get n d).isSome = true then .bad 5 else match skip t with
    | [] => .bad 3
    | c :: t' => if c = 58 then .more t' m (.ob d n :: st) else .bad 3
def fieldP (r : Bs) (m : Nat) (d : List (Bs × JV)) (st : List Fr) : R := match skip r with
  | [] => .bad 3
  | c :: t => if c = 34 then match textP t with
      | none => .bad 3
      | some x => fieldN r m d st x.1 x.2
    else .bad 3
def starts (c : UInt8) : Bool := c == 91 || c == 123 || c == 34 || c == 45 || c == 116 || c == 102 || c == 110 || digit c
def beginC (c : UInt8) (t : Bs) (m : Nat) (st : List Fr) : R :=
  if starts c = false then .bad 3
  else if 200 < m + 1 then .bad 2
  else if (c = 91 ∨ c = 123) ∧ st.length = 10 then .bad 4
  else if c = 91 then if (skip t).head? = some 93 then .whole (.list []) (skip t).tail (m + 1) st else .more (skip t) (m + 1) (.lst [] :: st)
  else if c = 123 then if (skip t).head? = some 125 then .whole (.obj []) (skip t).tail (m + 1) st else fieldP (skip t) (m + 1) [] st
  else plainP c (c :: t) (m + 1) st
def beginP (r : Bs) (m : Nat) (st : List Fr) : R := match skip r with
  | [] => .bad 3
  | c :: t => beginC c t m st
def goesP (v : JV) (r : Bs) (m : Nat) (f : Fr) (st : List Fr) : R := match f with
  | .lst d => match skip r with
    | [] => .bad 3
    | c :: t => if c = 93 then .whole (.list (d ++ [v])) t m st else if c = 44 then .more t m (.lst (d ++ [v]) :: st) else .bad 3
  | .ob d n => match skip r with
    | [] => .bad 3
    | c :: t => if c = 125 then .whole (.obj (put n v d)) t m st else if c = 44 then fieldP t m (put n v d) st else .bad 3
def mu : R → Nat
  | .bad _ => 0
  | .more r _ _ => 2 * r.length + 1
  | .whole _ r _ _ => 2 * r.length + 2

theorem skip_le (r : Bs) : (skip r).length ≤ r.length := (List.dropWhile_sublist _).length_le
theorem skip_cons {r t : Bs} {c : UInt8} (h : skip r = c :: t) : t.length + 1 ≤ r.length := by have := skip_le r; rw [h] at this; simpa using this
theorem textP_len : ∀ (r : Bs) (x : Bs × Bs), textP r = some x → x.2.length + 1 ≤ r.length := by
  intro r
  induction r using textP.induct with
  | case1 => intro x h; simp [textP] at h
  | case2 r => intro x h; simp only [textP, Option.some.injEq] at h; subst h; simp
  | case3 => intro x h; simp [textP] at h
  | case4 d r hd => intro x h; simp [textP, hd] at h
  | case5 d r c hd ih =>
    intro x h
    simp only [textP, hd] at h
    obtain ⟨y, hy, rfl⟩ := Option.map_eq_some_iff.1 h
    have := ih y hy
    simp only [List.length_cons]
    omega
  | case6 c r h1 h2 h3 h4 => intro x h; rw [textP] at h <;> simp_all
  | case7 c r h1 h2 h3 h4 ih =>
    intro x h
    rw [textP] at h
    · rw [if_neg h4] at h
      obtain ⟨y, hy, rfl⟩ := Option.map_eq_some_iff.1 h
      have := ih y hy
      simp only [List.length_cons]
      omega
    all_goals simp_all
theorem field_mu (r : Bs) (m : Nat) (d : List (Bs × JV)) (st : List Fr) : mu (fieldP r m d st) < 2 * r.length + 1 := by
  unfold fieldP
  split
  · simp [mu]
  · rename_i c t h
    have h1 := skip_cons h
    split
    · split
      · simp [mu]
      · rename_i x hx
        have h2 := textP_len _ _ hx
        unfold fieldN
        split
        · simp [mu]
        · split
          · simp [mu]
          · rename_i c' t' h'
            have h3 := skip_cons h'
            split
            · simp only [mu]; omega
            · simp [mu]
    · simp [mu]
theorem sgn_le (r : Bs) : (sgn r).length ≤ r.length := by unfold sgn; split <;> simp
theorem numR_lt {r : Bs} (h : numE r = 0) : (numR r).length + 1 ≤ r.length := by
  have h1 := sgn_le r
  have h2 : (digs r).length + (numR r).length = (sgn r).length := by
    unfold digs numR
    rw [← List.length_append, List.takeWhile_append_dropWhile]
  unfold numE at h
  split at h
  · cases h
  · rename_i c t hd
    rw [hd] at h2
    simp at h2
    omega
theorem word_mu {v : JV} {p r : Bs} {m : Nat} {st : List Fr} (hp : 0 < p.length) : mu (wordP v p r m st) < 2 * r.length + 1 := by
  unfold wordP
  split
  · rename_i h
    have := (List.isPrefixOf_iff_prefix.1 h).length_le
    simp only [mu, List.length_drop]
    omega
  · simp [mu]
theorem plain_mu (c : UInt8) (t : Bs) (m : Nat) (st : List Fr) : mu (plainP c (c :: t) m st) < 2 * (t.length + 1) + 1 := by
  unfold plainP
  split
  · split
    · simp [mu]
    · rename_i x hx
      have := textP_len _ _ hx
      simp only [mu, List.tail_cons] at this ⊢
      omega
  · split
    · exact word_mu (r := c :: t) (by decide)
    · split
      · exact word_mu (r := c :: t) (by decide)
      · split
        · exact word_mu (r := c :: t) (by decide)
        · split
          · rename_i h
            have := numR_lt h
            simp only [mu, List.length_cons] at this ⊢
            omega
          · simp [mu]
theorem begin_mu (r : Bs) (m : Nat) (st : List Fr) : mu (beginP r m st) < mu (.more r m st) := by
  unfold beginP
  split
  · simp [mu]
  · rename_i c t h
    have h1 := skip_cons h
    have h2 := skip_le t
    have h3 := List.length_tail (l := skip t)
    unfold beginC
    split
    · simp [mu]
    · split
      · simp [mu]
      · split
        · simp [mu]
        · split
          · split <;> (simp only [mu]; omega)
          · split
            · split
              · simp only [mu]; omega
              · have := field_mu (skip t) (m + 1) [] st
                show _ < 2 * r.length + 1
                omega
            · have := plain_mu c t (m + 1) st
              show _ < 2 * r.length + 1
              omega
theorem goes_mu (v : JV) (r : Bs) (m : Nat) (f : Fr) (st : List Fr) : mu (goesP v r m f st) < mu (.whole v r m (f :: st)) := by
  unfold goesP
  split
  · split
    · simp [mu]
    · rename_i c t h
      have h1 := skip_cons h
      split
      · simp only [mu]; omega
      · split
        · simp only [mu]; omega
        · simp [mu]
  · split
    · simp [mu]
    · rename_i c t h
      have h1 := skip_cons h
      split
      · simp only [mu]; omega
      · split
        · refine Nat.lt_of_lt_of_le (field_mu t m _ st) ?_
          show _ ≤ 2 * r.length + 2
          omega
        · simp [mu]
/-- what comes of it -/
def fin (x : R) : JV × Int := match x with
  | .bad e => (.nul, e)
  | .more r m st => fin (beginP r m st)
  | .whole v r _ [] => if skip r = [] then (v, 0) else (.nul, 3)
  | .whole v r m (f :: st) => fin (goesP v r m f st)
termination_by mu x
decreasing_by
  · exact begin_mu _ _ _
  · exact goes_mu _ _ _ _ _
def readL (s : Bs) : JV × Int := if 2000 < s.length then (.nul, 2) else fin (.more s 0 [])
theorem fin_bad (e : Int) : fin (.bad e) = (.nul, e) := by rw [fin]
theorem fin_more (r : Bs) (m : Nat) (st : List Fr) : fin (.more r m st) = fin (beginP r m st) := by rw [fin]
theorem fin_end (v : JV) (r : Bs) (m : Nat) : fin (.whole v r m []) = if skip r = [] then (v, 0) else (.nul, 3) := by rw [fin]
theorem fin_whole (v : JV) (r : Bs) (m : Nat) (f : Fr) (st : List Fr) : fin (.whole v r m (f :: st)) = fin (goesP v r m f st) := by rw [fin]
end JP
end Go.Proofs.YtaddcchpidpbfaaDoor
